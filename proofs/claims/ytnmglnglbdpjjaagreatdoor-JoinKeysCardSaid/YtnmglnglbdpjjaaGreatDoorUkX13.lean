/- Printed by a program of ours: functions as plain Lean, and what a call of each does. -/
import Derived.Test.YtnmglnglbdpjjaaGreatDoorUkWords
import Derived.Test.YtnmglnglbdpjjaaGreatDoorUkX0
import Derived.Test.YtnmglnglbdpjjaaGreatDoorUkX3
import Derived.Test.YtnmglnglbdpjjaaGreatDoorUkX5
import Derived.Test.YtnmglnglbdpjjaaGreatDoorUkX12
import Derived.Test.YtnmglnglbdpjjaaGreatDoorUkQa
namespace Go.Proofs.YtnmglnglbdpjjaaGreatDoor.X
open Go.RowKit Go.Yw.PrintWords Go.Yw.PrintLast Go.Yw.PrintMore
attribute [local go_sem] Yde Yee Ywe Yve Ypd Yod Yce Ybe
set_option linter.unusedVariables false
set_option linter.unusedSimpArgs false
set_option maxHeartbeats 8000000
set_option maxRecDepth 100000
mutual
def Yja.j0 : Nat → ByteArray → ByteArray → Bool → Option (ByteArray × ByteArray × Bool)
 | 0, _, _, _ => none
 | k + 1, x5, x6, x27 => if x27 = true then (some ((⟨#[]⟩ : ByteArray), (⟨#[]⟩ : ByteArray), false)) else (Yja.l0 k x5 x6 (x5.size : Int) 0)
def Yja.l0 : Nat → ByteArray → ByteArray → Int → Int → Option (ByteArray × ByteArray × Bool)
 | 0, _, _, _, _ => none
 | k + 1, x5, x6, x29, x30 => if x30 < x29 then (if 0 ≤ x30 then (if x30 < (x5.size : Int) then ((Yva.f (bt x5 x30)).bind fun aGK => (if aGK = true then (Yja.l0 k x5 x6 x29 (wrap64 (x30 + 1))) else ((Yta.f (bt x5 x30)).bind fun aGL => (if aGL = true then (Yja.l0 k x5 x6 x29 (wrap64 (x30 + 1))) else ((strings_IndexByte.f (⟨#[43, 45, 46]⟩ : ByteArray) (bt x5 x30)).bind fun wV => (if wV < 0 then (some ((⟨#[]⟩ : ByteArray), (⟨#[]⟩ : ByteArray), false)) else (Yja.l0 k x5 x6 x29 (wrap64 (x30 + 1))))))))) else (none)) else (none)) else (some (x5, x6, true))
end
def Yja.f (k : Nat) (a0 : ByteArray) : Option (ByteArray × ByteArray × Bool) := (strings_Cut.f a0 (⟨#[58]⟩ : ByteArray)).bind fun eK => (if eK.2.2 = true then (if eK.1.toList = ([] : List UInt8) then (Yja.j0 k eK.1 eK.2.1 true) else (if 0 < (eK.1.size : Int) then ((Yva.f (bt eK.1 0)).bind fun uU => (Yja.j0 k eK.1 eK.2.1 (!uU))) else (none))) else (Yja.j0 k eK.1 eK.2.1 true))
theorem Yja.calls (k : Nat) (a0 r1 r2 : ByteArray) (r3 : Bool) (w : World) (hE : EnvOk w) (h : Yja.f k a0 = some (r1, r2, r3)) :
  Calls Tryz.prog 70 #[.string a0] w fun e w' => e = .returned (.tuple #[.string r1, .string r2, .bool r3]) ∧ Drawn0 w w' := by
 have HE := Ya.mk hE
 clear hE
 have H : ((strings_Cut.f a0 (⟨#[58]⟩ : ByteArray)).bind fun eK => (if eK.2.2 = true then (if eK.1.toList = ([] : List UInt8) then (Yja.j0 k eK.1 eK.2.1 true) else (if 0 < (eK.1.size : Int) then ((Yva.f (bt eK.1 0)).bind fun uU => (Yja.j0 k eK.1 eK.2.1 (!uU))) else (none))) else (Yja.j0 k eK.1 eK.2.1 true))) = some (r1, r2, r3) := h
 clear h
 replace H := Option.bind_eq_some_iff.mp H
 obtain ⟨⟨dC, aGM, aKH⟩, dU, H⟩ := H
 try dsimp -simprocs only at H
 have A2 := Ya.mk dU
 clear dU
 have qY := Ya.mk H
 clear H
 go_enter Tryz.func70, Tryz.ntmps70
 go_upto_region 2 with (first | ((with_reducible refine Yh (f := 76) rfl ?_); refine Yba (some 12) rfl rfl Tryz.func76 Zi rfl #[.string a0, .string (⟨#[58]⟩ : ByteArray)] rfl Zb ?_; (with_reducible refine (strings_Cut.calls a0 (⟨#[58]⟩ : ByteArray) dC aGM aKH _ ?side1 A2.out).mono ?_); (case side1 => first | exact HE.out | exact EnvOk.heap HE.out rfl); rintro e w' ⟨rfl, ⟨nd, rfl⟩⟩; refine ⟨_, rfl, ?_⟩))
 (try simp only [Act.put, List.setIfInBounds_toArray, List.set_cons_zero, List.set_cons_succ])
 go_cut [27] (fun v27 wc => ∃ (kq : Nat) (aAn : Bool), v27 = .bool aAn ∧ Ya (Yja.j0 kq dC aGM aAn = some (r1, r2, r3)) ∧ Ya (kq ≤ k) ∧ Drawn0 w wc)
 case first =>
  have H := qY.out
  clear qY
  by_cases c4 : aKH = true
  rotate_left
  ·replace c4 := Bool.eq_false_iff.mpr c4
   subst c4
   rw [if_neg (show ¬ (false = true) by decide)] at H
   have H' := Ya.mk H
   clear H
   go_wp2
   go_meet
   case rel => exact ⟨_, (true), Zf, H', ⟨Zna⟩, Zh⟩
  subst c4
  rw [if_pos rfl] at H
  by_cases c5 : dC.toList = ([] : List UInt8)
  ·rw [if_pos c5] at H
   have dL : (dC.toList == ([] : List UInt8)) = true := beq_iff_eq.mpr c5
   have rA : (dC.toList != ([] : List UInt8)) = false := bne_eq_false_iff_eq.mpr c5
   clear c5
   (first | rw [dL] | (simp only [Yma, Yqa]; rw [dL]) | skip)
   have H' := Ya.mk H
   clear H
   go_wp2
   go_meet
   case rel => exact ⟨_, (true), Zf, H', ⟨Zna⟩, Zh⟩
  rw [if_neg c5] at H
  have dL : (dC.toList == ([] : List UInt8)) = false := beq_eq_false_iff_ne.mpr c5
  have rA : (dC.toList != ([] : List UInt8)) = true := bne_iff_ne.mpr c5
  (first | rw [dL] | (simp only [Yma, Yqa]; rw [dL]) | skip)
  by_cases c6 : 0 < (dC.size : Int)
  rotate_left
  ·rw [if_neg c6] at H
   exact absurd H Zv
  rw [if_pos c6] at H
  have dP : decide (0 < (dC.size : Int)) = true := decide_eq_true c6
  have jF : decide (0 < dC.size) = true := decide_eq_true Zl
  clear c6
  replace H := Option.bind_eq_some_iff.mp H
  obtain ⟨uU, xJ, H⟩ := H
  try dsimp -simprocs only at H
  have A8 := Ya.mk xJ
  clear xJ
  have H' := Ya.mk H
  clear H
  have p7 : 0 ≤ (0 : Int) := Zl
  have q7 : 0 < dC.size := (by have : (0 : Int) < (dC.size : Int) := of_decide_eq_true Zc; omega)
  have hx7 : ∀ h : 0 < dC.size, ((dC[0]'h).toNat : Int) = bt dC 0 := Yab dC 0
  clear p7
  have qi7 : (0 < (dC.size : Int)) = True := eq_true (of_decide_eq_true Zc)
  replace q7 := eq_true q7
  go_wp2_with (first | (go_at_call 77; (with_reducible refine (Yva.calls (bt dC 0) uU _ ?side1 A8.out).mono ?_); (case side1 => first | exact HE.out | exact EnvOk.heap HE.out rfl); rintro e w' ⟨rfl, ⟨nd, rfl⟩⟩))
  go_meet
  case rel => exact ⟨_, (!uU), Zf, H', ⟨Zna⟩, Zh⟩
 case rest =>
  clear qY
  try clear p2
  try clear c4
  try clear c5
  try clear dL
  try clear rA
  try clear c6
  try clear dP
  try clear jF
  try clear c7
  try clear p7
  try clear q7
  try clear hx7
  try clear qi7
  try clear p7
  try clear q7
  obtain ⟨kq, aAn, rfl, HA, qD, ⟨mc2, rfl⟩⟩ := hcut
  cases kq with
  | zero => exact absurd HA.out (by simp [Yja.j0])
  | succ nM =>
   have H := HA.out
   clear HA
   simp only [Yja.j0] at H
   by_cases c9 : aAn = true
   ·subst c9
    rw [if_pos rfl] at H
    simp only [Option.some.injEq, Prod.mk.injEq] at H
    obtain ⟨rfl, rfl, rfl⟩ := H
    go_wp2
    go_ret3
    exact ⟨Zf, Zh⟩
   replace c9 := Bool.eq_false_iff.mpr c9
   subst c9
   rw [if_neg (show ¬ (false = true) by decide)] at H
   have H' := Ya.mk H
   clear H
   go_wp2
   go_loopg [30] nM (fun kq v30 w' => ∃ (cM : Int), v30 = .int .i64 cM ∧ Ya (Yja.l0 kq dC aGM (dC.size : Int) cM = some (r1, r2, r3)) ∧ Ya (kq ≤ nM) ∧ Drawn0 w w')
   case atStart => exact ⟨(0), Zf, H', ⟨Nat.le_refl _⟩, Zh⟩
   case round =>
    clear H'
    try clear c2
    try clear p2
    try clear c4
    try clear c5
    try clear dL
    try clear rA
    try clear c6
    try clear dP
    try clear jF
    try clear c7
    try clear p7
    try clear q7
    try clear hx7
    try clear qi7
    try clear c9
    try clear p2
    try clear p7
    try clear q7
    obtain ⟨cM, rfl, HA, kB, ⟨m2, rfl⟩⟩ := hrel
    cases gk with
    | zero => exact absurd HA.out (by simp [Yja.l0])
    | succ k2 =>
     have H := HA.out
     clear HA
     simp only [Yja.l0] at H
     by_cases dR : cM < (dC.size : Int)
     rotate_left
     ·rw [if_neg dR] at H
      have hH : decide (cM < (dC.size : Int)) = false := decide_eq_false dR
      clear dR
      simp only [Option.some.injEq, Prod.mk.injEq] at H
      obtain ⟨rfl, rfl, rfl⟩ := H
      go_wp2
      go_ret3
      exact ⟨Zf, Zh⟩
     rw [if_pos dR] at H
     have hH : decide (cM < (dC.size : Int)) = true := decide_eq_true dR
     clear dR
     by_cases c11 : 0 ≤ cM
     rotate_left
     ·rw [if_neg c11] at H
      exact absurd H Zv
     rw [if_pos c11] at H
     have gU : decide (0 ≤ cM) = true := decide_eq_true c11
     clear c11
     by_cases dG : cM < (dC.size : Int)
     rotate_left
     ·rw [if_neg dG] at H
      exact absurd H Zv
     rw [if_pos dG] at H
     have dV : decide (cM < (dC.size : Int)) = true := decide_eq_true dG
     clear dG
     replace H := Option.bind_eq_some_iff.mp H
     obtain ⟨aGK, aBH, H⟩ := H
     try dsimp -simprocs only at H
     have A14 := Ya.mk aBH
     clear aBH
     by_cases dJ : aGK = true
     ·subst dJ
      rw [if_pos rfl] at H
      have H' := Ya.mk H
      clear H
      have mO : 0 ≤ (cM : Int) := of_decide_eq_true Zc
      have mP : cM < (dC.size : Int) := of_decide_eq_true Zc
      have tL := Yab dC cM
      replace mO := eq_true mO
      replace mP := eq_true mP
      go_wp2_with (first | ((with_reducible refine Yh (f := 77) rfl ?_); refine Yba (some 37) rfl rfl Tryz.func77 Zi rfl #[.int .u8 (bt dC cM)] rfl Zb ?_; (with_reducible refine (Yva.calls (bt dC cM) true _ ?side1 A14.out).mono ?_); (case side1 => first | exact HE.out | exact EnvOk.heap HE.out rfl); rintro e w' ⟨rfl, ⟨nd, rfl⟩⟩; refine ⟨_, rfl, ?_⟩))
      go_roundg k2
      case measure => have := qD.out; have := kB.out; omega
      case rel => exact ⟨(wrap64 (cM + 1)), Zf, H', ⟨Zza⟩, Zh⟩
     replace dJ := Bool.eq_false_iff.mpr dJ
     subst dJ
     rw [if_neg (show ¬ (false = true) by decide)] at H
     replace H := Option.bind_eq_some_iff.mp H
     obtain ⟨aGL, tJ, H⟩ := H
     try dsimp -simprocs only at H
     have A16 := Ya.mk tJ
     clear tJ
     by_cases eH : aGL = true
     ·subst eH
      rw [if_pos rfl] at H
      have H' := Ya.mk H
      clear H
      have mO : 0 ≤ (cM : Int) := of_decide_eq_true Zc
      have mP : cM < (dC.size : Int) := of_decide_eq_true Zc
      have tL := Yab dC cM
      replace mO := eq_true mO
      replace mP := eq_true mP
      go_wp2_with (first | ((with_reducible refine Yh (f := 77) rfl ?_); refine Yba (some 37) rfl rfl Tryz.func77 Zi rfl #[.int .u8 (bt dC cM)] rfl Zb ?_; (with_reducible refine (Yva.calls (bt dC cM) false _ ?side1 A14.out).mono ?_); (case side1 => first | exact HE.out | exact EnvOk.heap HE.out rfl); rintro e w' ⟨rfl, ⟨nd, rfl⟩⟩; refine ⟨_, rfl, ?_⟩) | (go_at_call 78; (with_reducible refine (Yta.calls (bt dC cM) true _ ?side1 A16.out).mono ?_); (case side1 => first | exact HE.out | exact EnvOk.heap HE.out rfl); rintro e w' ⟨rfl, ⟨nd, rfl⟩⟩))
      go_roundg k2
      case measure => have := qD.out; have := kB.out; omega
      case rel => exact ⟨(wrap64 (cM + 1)), Zf, H', ⟨Zza⟩, Zh⟩
     replace eH := Bool.eq_false_iff.mpr eH
     subst eH
     rw [if_neg (show ¬ (false = true) by decide)] at H
     replace H := Option.bind_eq_some_iff.mp H
     obtain ⟨wV, aCH, H⟩ := H
     try dsimp -simprocs only at H
     have A18 := Ya.mk aCH
     clear aCH
     by_cases iP : wV < 0
     ·rw [if_pos iP] at H
      have kH : decide (wV < 0) = true := decide_eq_true iP
      clear iP
      simp only [Option.some.injEq, Prod.mk.injEq] at H
      obtain ⟨rfl, rfl, rfl⟩ := H
      have mO : 0 ≤ (cM : Int) := of_decide_eq_true Zc
      have mP : cM < (dC.size : Int) := of_decide_eq_true Zc
      have tL := Yab dC cM
      replace mO := eq_true mO
      replace mP := eq_true mP
      go_wp2_with (first | ((with_reducible refine Yh (f := 77) rfl ?_); refine Yba (some 37) rfl rfl Tryz.func77 Zi rfl #[.int .u8 (bt dC cM)] rfl Zb ?_; (with_reducible refine (Yva.calls (bt dC cM) false _ ?side1 A14.out).mono ?_); (case side1 => first | exact HE.out | exact EnvOk.heap HE.out rfl); rintro e w' ⟨rfl, ⟨nd, rfl⟩⟩; refine ⟨_, rfl, ?_⟩) | (go_at_call 78; (with_reducible refine (Yta.calls (bt dC cM) false _ ?side1 A16.out).mono ?_); (case side1 => first | exact HE.out | exact EnvOk.heap HE.out rfl); rintro e w' ⟨rfl, ⟨nd, rfl⟩⟩) | (go_at_call 79; (with_reducible refine (strings_IndexByte.calls (⟨#[43, 45, 46]⟩ : ByteArray) (bt dC cM) wV _ ?side1 A18.out).mono ?_); (case side1 => first | exact HE.out | exact EnvOk.heap HE.out rfl); rintro e w' ⟨rfl, ⟨nd, rfl⟩⟩))
      go_ret3
      exact ⟨Zf, Zh⟩
     rw [if_neg iP] at H
     have kH : decide (wV < 0) = false := decide_eq_false iP
     clear iP
     have H' := Ya.mk H
     clear H
     have mO : 0 ≤ (cM : Int) := of_decide_eq_true Zc
     have mP : cM < (dC.size : Int) := of_decide_eq_true Zc
     have tL := Yab dC cM
     replace mO := eq_true mO
     replace mP := eq_true mP
     go_wp2_with (first | ((with_reducible refine Yh (f := 77) rfl ?_); refine Yba (some 37) rfl rfl Tryz.func77 Zi rfl #[.int .u8 (bt dC cM)] rfl Zb ?_; (with_reducible refine (Yva.calls (bt dC cM) false _ ?side1 A14.out).mono ?_); (case side1 => first | exact HE.out | exact EnvOk.heap HE.out rfl); rintro e w' ⟨rfl, ⟨nd, rfl⟩⟩; refine ⟨_, rfl, ?_⟩) | (go_at_call 78; (with_reducible refine (Yta.calls (bt dC cM) false _ ?side1 A16.out).mono ?_); (case side1 => first | exact HE.out | exact EnvOk.heap HE.out rfl); rintro e w' ⟨rfl, ⟨nd, rfl⟩⟩) | (go_at_call 79; (with_reducible refine (strings_IndexByte.calls (⟨#[43, 45, 46]⟩ : ByteArray) (bt dC cM) wV _ ?side1 A18.out).mono ?_); (case side1 => first | exact HE.out | exact EnvOk.heap HE.out rfl); rintro e w' ⟨rfl, ⟨nd, rfl⟩⟩))
     go_roundg k2
     case measure => have := qD.out; have := kB.out; omega
     case rel => exact ⟨(wrap64 (cM + 1)), Zf, H', ⟨Zza⟩, Zh⟩
def Yob.l0 : Nat → ByteArray → Int → Option (Int)
 | 0, _, _ => none
 | k + 1, x0, x3 => if x3 < (mn (x0.size : Int) 2) then (if 0 ≤ x3 then (if x3 < (x0.size : Int) then ((strings_IndexByte.f (⟨#[47, 92]⟩ : ByteArray) (bt x0 x3)).bind fun sQ => (if sQ ≥ 0 then (Yob.l0 k x0 (wrap64 (x3 + 1))) else (some x3))) else (none)) else (none)) else (some x3)
def Yob.f (k : Nat) (a0 : ByteArray) : Option (Int) := Yob.l0 k a0 0
theorem Yob.calls (k : Nat) (a0 : ByteArray) (r : Int) (w : World) (hE : EnvOk w) (h : Yob.f k a0 = some r) :
  Calls Tryz.prog 71 #[.string a0] w fun e w' => e = .returned (.int .i64 r) ∧ Below w.heap.size w w' := by
 have HE := Ya.mk hE
 clear hE
 have HB := Ya.mk (Below.refl w.heap.size w)
 have H : (Yob.l0 k a0 0) = some r := h
 clear h
 have H' := Ya.mk H
 clear H
 go_enter Tryz.func71, Tryz.ntmps71
 go_wp2
 go_loopg [3] k (fun kq v3 w' => ∃ (aE : Int), v3 = .int .i64 aE ∧ Ya (Yob.l0 kq a0 aE = some r) ∧ Ya (kq ≤ k) ∧ Ya (Below w.heap.size w w'))
 case atStart => exact ⟨(0), Zf, H', ⟨Nat.le_refl _⟩, ⟨Za⟩⟩
 case round =>
  clear H'
  obtain ⟨aE, rfl, HA, dD, HB⟩ := hrel
  cases gk with
  | zero => exact absurd HA.out (by simp [Yob.l0])
  | succ k1 =>
   have H := HA.out
   clear HA
   simp only [Yob.l0] at H
   obtain ⟨ji2, aCI⟩ : ∃ j_ : Int, (mn (a0.size : Int) 2) = j_ := ⟨_, rfl⟩
   replace H : (if aE < (ji2) then (if 0 ≤ aE then (if aE < (a0.size : Int) then ((strings_IndexByte.f (⟨#[47, 92]⟩ : ByteArray) (bt a0 aE)).bind fun sQ => (if sQ ≥ 0 then (Yob.l0 k1 a0 (wrap64 (aE + 1))) else (some aE))) else (none)) else (none)) else (some aE)) = some r := by first | (rw [aCI] at H; exact H) | (simp only [aCI] at H ⊢; exact H)
   have aXJ : (if 2 < (a0.size : Int) then 2 else (a0.size : Int)) = ji2 := aCI
   by_cases c3 : aE < (ji2)
   rotate_left
   ·rw [if_neg c3] at H
    have cJ : decide (aE < (ji2)) = false := decide_eq_false c3
    clear c3
    obtain rfl := Option.some.inj H
    go_wp2
    go_ret
    exact ⟨by first | rfl | (simp [Yl, Yk] <;> rfl) | (simp only [← aCI]; first | rfl | (simp [Yl, Yk] <;> rfl)) | (simp [*, Yl, Yk] <;> rfl), Za⟩
   rw [if_pos c3] at H
   have cJ : decide (aE < (ji2)) = true := decide_eq_true c3
   clear c3
   by_cases c4 : 0 ≤ aE
   rotate_left
   ·rw [if_neg c4] at H
    exact absurd H Zv
   rw [if_pos c4] at H
   have cF : decide (0 ≤ aE) = true := decide_eq_true c4
   clear c4
   by_cases c5 : aE < (a0.size : Int)
   rotate_left
   ·rw [if_neg c5] at H
    exact absurd H Zv
   rw [if_pos c5] at H
   have dL : decide (aE < (a0.size : Int)) = true := decide_eq_true c5
   clear c5
   replace H := Option.bind_eq_some_iff.mp H
   obtain ⟨sQ, oE, H⟩ := H
   try dsimp -simprocs only at H
   have A7 := Ya.mk oE
   clear oE
   by_cases c8 : sQ ≥ 0
   rotate_left
   ·rw [if_neg c8] at H
    have gZ : decide (0 ≤ sQ) = false := decide_eq_false c8
    clear c8
    obtain rfl := Option.some.inj H
    have p6 : 0 ≤ (aE : Int) := of_decide_eq_true Zc
    have q6 : aE < (a0.size : Int) := of_decide_eq_true Zc
    have hx6 := Yab a0 aE
    replace p6 := eq_true p6
    replace q6 := eq_true q6
    go_wp2_with (first | (go_at_call 79; (with_reducible refine (strings_IndexByte.calls (⟨#[47, 92]⟩ : ByteArray) (bt a0 aE) sQ _ ?side1 A7.out).mono ?_); (case side1 => first | exact HE.out | exact EnvOk.below HE.out Za); rintro e w' ⟨rfl, ⟨nd, rfl⟩⟩))
    go_ret
    exact ⟨by first | rfl | (simp [Yl, Yk] <;> rfl) | (simp only [← aCI]; first | rfl | (simp [Yl, Yk] <;> rfl)) | (simp [*, Yl, Yk] <;> rfl), Za⟩
   rw [if_pos c8] at H
   have gZ : decide (0 ≤ sQ) = true := decide_eq_true c8
   clear c8
   have H' := Ya.mk H
   clear H
   have p6 : 0 ≤ (aE : Int) := of_decide_eq_true Zc
   have q6 : aE < (a0.size : Int) := of_decide_eq_true Zc
   have hx6 := Yab a0 aE
   replace p6 := eq_true p6
   replace q6 := eq_true q6
   go_wp2_with (first | (go_at_call 79; (with_reducible refine (strings_IndexByte.calls (⟨#[47, 92]⟩ : ByteArray) (bt a0 aE) sQ _ ?side1 A7.out).mono ?_); (case side1 => first | exact HE.out | exact EnvOk.below HE.out Za); rintro e w' ⟨rfl, ⟨nd, rfl⟩⟩))
   go_roundg k1
   case measure => have := dD.out; omega
   case rel => exact ⟨(wrap64 (aE + 1)), Zf, H', ⟨Zaa⟩, ⟨Za⟩⟩
def bytealg_LastIndexByteString.l0 : Nat → ByteArray → Int → Int → Option (Int)
 | 0, _, _, _ => none
 | k + 1, x0, x1, x5 => if x5 ≥ 0 then (if 0 ≤ x5 then (if x5 < (x0.size : Int) then (if (bt x0 x5) = x1 then (some x5) else (bytealg_LastIndexByteString.l0 k x0 x1 (wrap64 (x5 - 1)))) else (none)) else (none)) else (some (-1))
def bytealg_LastIndexByteString.f (k : Nat) (a0 : ByteArray) (a1 : Int) : Option (Int) := bytealg_LastIndexByteString.l0 k a0 a1 (wrap64 ((a0.size : Int) - 1))
theorem bytealg_LastIndexByteString.calls (k : Nat) (a0 : ByteArray) (a1 r : Int) (w : World) (hE : EnvOk w) (h : bytealg_LastIndexByteString.f k a0 a1 = some r) :
  Calls Tryz.prog 133 #[.string a0, .int .u8 a1] w fun e w' => e = .returned (.int .i64 r) ∧ Drawn0 w w' := by
 have HE := Ya.mk hE
 clear hE
 have H : (bytealg_LastIndexByteString.l0 k a0 a1 (wrap64 ((a0.size : Int) - 1))) = some r := h
 clear h
 have H' := Ya.mk H
 clear H
 go_enter Tryz.func133, Tryz.ntmps133
 go_wp2
 go_loopg [5] k (fun kq v5 w' => ∃ (bA : Int), v5 = .int .i64 bA ∧ Ya (bytealg_LastIndexByteString.l0 kq a0 a1 bA = some r) ∧ Ya (kq ≤ k) ∧ Drawn0 w w')
 case atStart => exact ⟨(wrap64 ((a0.size : Int) - 1)), Zf, H', ⟨Nat.le_refl _⟩, Zh⟩
 case round =>
  clear H'
  try clear c1
  try clear p2
  obtain ⟨bA, rfl, HA, dD, ⟨m1, rfl⟩⟩ := hrel
  cases gk with
  | zero => exact absurd HA.out (by simp [bytealg_LastIndexByteString.l0])
  | succ k1 =>
   have H := HA.out
   clear HA
   simp only [bytealg_LastIndexByteString.l0] at H
   by_cases c3 : bA ≥ 0
   rotate_left
   ·rw [if_neg c3] at H
    have cJ : decide (0 ≤ bA) = false := decide_eq_false c3
    clear c3
    obtain rfl := Option.some.inj H
    go_wp2
    go_ret
    exact ⟨Zf, Zh⟩
   rw [if_pos c3] at H
   have cJ : decide (0 ≤ bA) = true := decide_eq_true c3
   clear c3
   by_cases c4 : 0 ≤ bA
   rotate_left
   ·rw [if_neg c4] at H
    exact absurd H Zv
   rw [if_pos c4] at H
   have cF : decide (0 ≤ bA) = true := decide_eq_true c4
   clear c4
   by_cases c5 : bA < (a0.size : Int)
   rotate_left
   ·rw [if_neg c5] at H
    exact absurd H Zv
   rw [if_pos c5] at H
   have dL : decide (bA < (a0.size : Int)) = true := decide_eq_true c5
   clear c5
   by_cases c7 : (bt a0 bA) = a1
   ·rw [if_pos c7] at H
    have dA : ((bt a0 bA) == a1) = true := beq_iff_eq.mpr c7
    have iF : ((bt a0 bA) != a1) = false := bne_eq_false_iff_eq.mpr c7
    clear c7
    obtain rfl := Option.some.inj H
    have p6 : 0 ≤ (bA : Int) := of_decide_eq_true Zc
    have q6 : bA < (a0.size : Int) := of_decide_eq_true Zc
    have hx6 := Yab a0 bA
    replace p6 := eq_true p6
    replace q6 := eq_true q6
    go_wp2
    go_ret
    exact ⟨Zf, Zh⟩
   rw [if_neg c7] at H
   have dA : ((bt a0 bA) == a1) = false := beq_eq_false_iff_ne.mpr c7
   have iF : ((bt a0 bA) != a1) = true := bne_iff_ne.mpr c7
   have H' := Ya.mk H
   clear H
   have p6 : 0 ≤ (bA : Int) := of_decide_eq_true Zc
   have q6 : bA < (a0.size : Int) := of_decide_eq_true Zc
   have hx6 := Yab a0 bA
   replace p6 := eq_true p6
   replace q6 := eq_true q6
   go_wp2
   go_roundg k1
   case measure => have := dD.out; omega
   case rel => exact ⟨(wrap64 (bA - 1)), Zf, H', ⟨Zaa⟩, Zh⟩
def strings_LastIndexByte.f (k : Nat) (a0 : ByteArray) (a1 : Int) : Option (Int) := (bytealg_LastIndexByteString.f k a0 a1).bind fun aCJ => (some aCJ)
theorem strings_LastIndexByte.calls (k : Nat) (a0 : ByteArray) (a1 r : Int) (w : World) (hE : EnvOk w) (h : strings_LastIndexByte.f k a0 a1 = some r) :
  Calls Tryz.prog 108 #[.string a0, .int .u8 a1] w fun e w' => e = .returned (.int .i64 r) ∧ Drawn0 w w' := by
 have HE := Ya.mk hE
 clear hE
 have H : ((bytealg_LastIndexByteString.f k a0 a1).bind fun aCJ => (some aCJ)) = some r := h
 clear h
 replace H := Option.bind_eq_some_iff.mp H
 obtain ⟨aCJ, jB, H⟩ := H
 try dsimp -simprocs only at H
 have A3 := Ya.mk jB
 clear jB
 obtain rfl := Option.some.inj H
 go_enter Tryz.func108, Tryz.ntmps108
 go_wp2_with (first | ((with_reducible refine Yh (f := 133) rfl ?_); refine Yba (some 7) rfl rfl Tryz.func133 Zi rfl #[.string a0, .int .u8 a1] rfl Zb ?_; (with_reducible refine (bytealg_LastIndexByteString.calls k a0 a1 aCJ _ ?side1 A3.out).mono ?_); (case side1 => first | exact HE.out | exact EnvOk.heap HE.out rfl); rintro e w' ⟨rfl, ⟨nd, rfl⟩⟩; refine ⟨_, rfl, ?_⟩))
 go_ret
 exact ⟨Zf, Zh⟩
def Ynf.f (k : Nat) (aC aH : ByteArray) (aJ : Int) (aG aI aK : ByteArray) (aQ aR : Bool) : Option (ByteArray) := (Yoi.f aC aH aJ aG aI aK aQ aR).bind fun gM => ((Ysb.f k gM.1 gM.2.1 gM.2.2.1 gM.2.2.2.1 gM.2.2.2.2.1 gM.2.2.2.2.2.1 gM.2.2.2.2.2.2.1 gM.2.2.2.2.2.2.2).bind fun aCK => (some aCK))
theorem Ynf.calls (k : Nat) (aC aH : ByteArray) (aJ : Int) (aG aI aK : ByteArray) (aQ aR : Bool) (r : ByteArray) (w : World) (hE : EnvOk w) (h : Ynf.f k aC aH aJ aG aI aK aQ aR = some r) :
  Calls Tryz.prog 36 #[.agg #[.string aC, .string aH, .int .i64 aJ, .string aG, .string aI, .string aK, .bool aQ, .bool aR]] w fun e w' => e = .returned (.string r) ∧ Below w.heap.size w w' := by
 have cB := Tryz.underlying25
 have HE := Ya.mk hE
 clear hE
 have HB := Ya.mk (Below.refl w.heap.size w)
 have H : ((Yoi.f aC aH aJ aG aI aK aQ aR).bind fun gM => ((Ysb.f k gM.1 gM.2.1 gM.2.2.1 gM.2.2.2.1 gM.2.2.2.2.1 gM.2.2.2.2.2.1 gM.2.2.2.2.2.2.1 gM.2.2.2.2.2.2.2).bind fun aCK => (some aCK))) = some r := h
 clear h
 replace H := Option.bind_eq_some_iff.mp H
 obtain ⟨⟨aGN, aGO, aGP, aGQ, aGR, aGS, aGT, aGU⟩, dU, H⟩ := H
 try dsimp -simprocs only at H
 have A2 := Ya.mk dU
 clear dU
 replace H := Option.bind_eq_some_iff.mp H
 obtain ⟨aCK, jB, H⟩ := H
 try dsimp -simprocs only at H
 have A3 := Ya.mk jB
 clear jB
 obtain rfl := Option.some.inj H
 go_enter Tryz.func36, Tryz.ntmps36
 go_wp2_with (first | ((with_reducible refine Ywc (N := 1) rfl ?_); refine Yrc ?hg (N := 1) ?hd (cs := #[.string aC, .string aH, .int .i64 aJ, .string aG, .string aI, .string aK, .bool aQ, .bool aR]) (t := 25) ?hr ?_; (case hd => rfl); (case hg => rfl); (case hr => first | (go_simp; done) | (go_simp; rfl)); intro jC hg w4 hbox hb; have aM := Ya.mk (Ys Za hb); have aU := Ya.mk (hbox); have bI := Ya.mk ((by rw [hg]; exact (Yda Za) : w.heap.size ≤ jC)); have dE := Ya.mk ((by rw [hg]; exact (Yda Za) : w.heap.size ≤ jC)); clear HB; have HB := aM; have eE := aU; have aXK := bI; have aHJ := dE; clear aM aU bI dE; clear hb hbox hg; have aCn : w4.cell? ⟨jC, 0, none⟩ = some (.string aC) := (Yf eE.out 0).trans rfl; have aCo : w4.cell? ⟨jC, 1, none⟩ = some (.string aH) := (Yf eE.out 1).trans rfl; have aCp : w4.cell? ⟨jC, 2, none⟩ = some (.int .i64 aJ) := (Yf eE.out 2).trans rfl; have aCq : w4.cell? ⟨jC, 3, none⟩ = some (.string aG) := (Yf eE.out 3).trans rfl; have aCr : w4.cell? ⟨jC, 4, none⟩ = some (.string aI) := (Yf eE.out 4).trans rfl; have aCs : w4.cell? ⟨jC, 5, none⟩ = some (.string aK) := (Yf eE.out 5).trans rfl; have aCt : w4.cell? ⟨jC, 6, none⟩ = some (.bool aQ) := (Yf eE.out 6).trans rfl; have aCu : w4.cell? ⟨jC, 7, none⟩ = some (.bool aR) := (Yf eE.out 7).trans rfl; have aCv := Ye eE.out 0; have aCw := Ye eE.out 1; have aCx := Ye eE.out 2; have aCy := Ye eE.out 3; have aCz := Ye eE.out 4; have aCA := Ye eE.out 5; have aCB := Ye eE.out 6; have aCC := Ye eE.out 7) | ((with_reducible refine Yh (f := 28) rfl ?_); refine Yba (some 4) rfl rfl Tryz.func28 Zi rfl #[.agg #[.string aC, .string aH, .int .i64 aJ, .string aG, .string aI, .string aK, .bool aQ, .bool aR]] rfl Zb ?_; (with_reducible refine (Yoi.calls aC aH aJ aG aI aK aQ aR aGN aGO aGP aGQ aGR aGS aGT aGU _ ?side1 A2.out).mono ?_); (case side1 => first | exact HE.out | exact EnvOk.below HE.out Zga); rintro e w6 ⟨rfl, hb⟩; refine ⟨_, rfl, ?_⟩; have aM := Ya.mk (Ydb (g := jC) (o := .cells #[.string aC, .string aH, .int .i64 aJ, .string aG, .string aI, .string aK, .bool aQ, .bool aR] 25 (0, 0)) (by (with_reducible repeat (first | refine Ym ?_ _ | refine Yr ?_ | refine Yj ?_ _)); exact eE.out) hb); have aU := Ya.mk (Ys Zga hb); clear eE; clear HB; have eE := aM; have HB := aU; clear aM aU; (try clear hb); (try clear cC); (try clear hk); (try clear hi)) | ((with_reducible refine Yh (f := 26) rfl ?_); refine Yba (some 5) rfl rfl Tryz.func26 Zi rfl #[.agg #[.string aGN, .string aGO, .int .i64 aGP, .string aGQ, .string aGR, .string aGS, .bool aGT, .bool aGU]] rfl Zb ?_; (with_reducible refine (Ysb.calls k aGN aGO aGP aGQ aGR aGS aGT aGU aCK _ ?side1 A3.out).mono ?_); (case side1 => first | exact HE.out | exact EnvOk.below HE.out Zga); rintro e w7 ⟨rfl, hb⟩; refine ⟨_, rfl, ?_⟩; have aM := Ya.mk (Ydb (g := jC) (o := .cells #[.string aC, .string aH, .int .i64 aJ, .string aG, .string aI, .string aK, .bool aQ, .bool aR] 25 (0, 0)) (by (with_reducible repeat (first | refine Ym ?_ _ | refine Yr ?_ | refine Yj ?_ _)); exact eE.out) hb); have aU := Ya.mk (Ys Zga hb); clear eE; clear HB; have eE := aM; have HB := aU; clear aM aU; (try clear hb); (try clear cC); (try clear hk); (try clear hi)))
 go_ret
 exact ⟨Zk, Zga⟩
def Yrh.f  : Option (ByteArray × ByteArray × Int × ByteArray × ByteArray × ByteArray × Bool × Bool) := some ((⟨#[104, 116, 116, 112]⟩ : ByteArray), (⟨#[97, 46, 98]⟩ : ByteArray), 0, (⟨#[47, 99, 47, 100]⟩ : ByteArray), (⟨#[101]⟩ : ByteArray), (⟨#[]⟩ : ByteArray), true, false)
theorem Yrh.calls  (r1 r2 : ByteArray) (r3 : Int) (r4 r5 r6 : ByteArray) (r7 r8 : Bool) (w : World) (hE : EnvOk w) (h : Yrh.f  = some (r1, r2, r3, r4, r5, r6, r7, r8)) :
  Calls Tryz.prog 69 #[] w fun e w' => e = .returned (.agg #[.string r1, .string r2, .int .i64 r3, .string r4, .string r5, .string r6, .bool r7, .bool r8]) ∧ Below w.heap.size w w' := by
 have cB := Tryz.underlying25
 have HE := Ya.mk hE
 clear hE
 have HB := Ya.mk (Below.refl w.heap.size w)
 have H : (some ((⟨#[104, 116, 116, 112]⟩ : ByteArray), (⟨#[97, 46, 98]⟩ : ByteArray), 0, (⟨#[47, 99, 47, 100]⟩ : ByteArray), (⟨#[101]⟩ : ByteArray), (⟨#[]⟩ : ByteArray), true, false)) = some (r1, r2, r3, r4, r5, r6, r7, r8) := h
 clear h
 simp only [Option.some.injEq, Prod.mk.injEq] at H
 obtain ⟨rfl, rfl, rfl, rfl, rfl, rfl, rfl, rfl⟩ := H
 go_enter Tryz.func69, Tryz.ntmps69
 go_wp2_with (first | ((with_reducible refine Ywc (N := 0) rfl ?_); refine Yrc ?hg (N := 0) ?hd (cs := #[.string (⟨#[]⟩ : ByteArray), .string (⟨#[]⟩ : ByteArray), .int .i64 0, .string (⟨#[]⟩ : ByteArray), .string (⟨#[]⟩ : ByteArray), .string (⟨#[]⟩ : ByteArray), .bool false, .bool false]) (t := 25) ?hr ?_; (case hd => rfl); (case hg => rfl); (case hr => first | (go_simp; done) | (go_simp; rfl)); intro jH hg w1 hbox hb; have aM := Ya.mk (Ys Za hb); have aU := Ya.mk (hbox); have bI := Ya.mk ((by rw [hg]; exact (Yda Za) : w.heap.size ≤ jH)); have dE := Ya.mk ((by rw [hg]; exact (Yda Za) : w.heap.size ≤ jH)); clear HB; have HB := aM; have gN := aU; have aXL := bI; have aKI := dE; clear aM aU bI dE; clear hb hbox hg; have aWB : w1.cell? ⟨jH, 0, none⟩ = some (.string (⟨#[]⟩ : ByteArray)) := (Yf gN.out 0).trans rfl; have aWC : w1.cell? ⟨jH, 1, none⟩ = some (.string (⟨#[]⟩ : ByteArray)) := (Yf gN.out 1).trans rfl; have aWD : w1.cell? ⟨jH, 2, none⟩ = some (.int .i64 0) := (Yf gN.out 2).trans rfl; have aWE : w1.cell? ⟨jH, 3, none⟩ = some (.string (⟨#[]⟩ : ByteArray)) := (Yf gN.out 3).trans rfl; have aWF : w1.cell? ⟨jH, 4, none⟩ = some (.string (⟨#[]⟩ : ByteArray)) := (Yf gN.out 4).trans rfl; have aWG : w1.cell? ⟨jH, 5, none⟩ = some (.string (⟨#[]⟩ : ByteArray)) := (Yf gN.out 5).trans rfl; have aWH : w1.cell? ⟨jH, 6, none⟩ = some (.bool false) := (Yf gN.out 6).trans rfl; have aWI : w1.cell? ⟨jH, 7, none⟩ = some (.bool false) := (Yf gN.out 7).trans rfl; have aWJ := Ye gN.out 0; have aWK := Ye gN.out 1; have aWL := Ye gN.out 2; have aWM := Ye gN.out 3; have aWN := Ye gN.out 4; have aWO := Ye gN.out 5; have aWP := Ye gN.out 6; have aWQ := Ye gN.out 7))
 refine bodyPost_ret (results_cell_row rfl _ _ jH 25 #[.string (⟨#[104, 116, 116, 112]⟩ : ByteArray), .string (⟨#[97, 46, 98]⟩ : ByteArray), .int .i64 0, .string (⟨#[47, 99, 47, 100]⟩ : ByteArray), .string (⟨#[101]⟩ : ByteArray), .string (⟨#[]⟩ : ByteArray), .bool true, .bool false] (0, 0) _ rfl (by (with_reducible repeat (first | refine Ym ?_ _ | refine Yr ?_ | refine Yj ?_ _)); refine Yoa (cs := #[.string (⟨#[104, 116, 116, 112]⟩ : ByteArray), .string (⟨#[97, 46, 98]⟩ : ByteArray), .int .i64 0, .string (⟨#[47, 99, 47, 100]⟩ : ByteArray), .string (⟨#[101]⟩ : ByteArray), .string (⟨#[]⟩ : ByteArray), .bool true, .bool false]) ?_ 7 _ rfl; (with_reducible repeat (first | refine Ym ?_ _ | refine Yr ?_ | refine Yj ?_ _)); refine Yoa (cs := #[.string (⟨#[104, 116, 116, 112]⟩ : ByteArray), .string (⟨#[97, 46, 98]⟩ : ByteArray), .int .i64 0, .string (⟨#[47, 99, 47, 100]⟩ : ByteArray), .string (⟨#[101]⟩ : ByteArray), .string (⟨#[]⟩ : ByteArray), .bool false, .bool false]) ?_ 6 _ rfl; (with_reducible repeat (first | refine Ym ?_ _ | refine Yr ?_ | refine Yj ?_ _)); refine Yoa (cs := #[.string (⟨#[104, 116, 116, 112]⟩ : ByteArray), .string (⟨#[97, 46, 98]⟩ : ByteArray), .int .i64 0, .string (⟨#[47, 99, 47, 100]⟩ : ByteArray), .string (⟨#[101]⟩ : ByteArray), .string (⟨#[]⟩ : ByteArray), .bool false, .bool false]) ?_ 5 _ rfl; (with_reducible repeat (first | refine Ym ?_ _ | refine Yr ?_ | refine Yj ?_ _)); refine Yoa (cs := #[.string (⟨#[104, 116, 116, 112]⟩ : ByteArray), .string (⟨#[97, 46, 98]⟩ : ByteArray), .int .i64 0, .string (⟨#[47, 99, 47, 100]⟩ : ByteArray), .string (⟨#[]⟩ : ByteArray), .string (⟨#[]⟩ : ByteArray), .bool false, .bool false]) ?_ 4 _ rfl; (with_reducible repeat (first | refine Ym ?_ _ | refine Yr ?_ | refine Yj ?_ _)); refine Yoa (cs := #[.string (⟨#[104, 116, 116, 112]⟩ : ByteArray), .string (⟨#[97, 46, 98]⟩ : ByteArray), .int .i64 0, .string (⟨#[]⟩ : ByteArray), .string (⟨#[]⟩ : ByteArray), .string (⟨#[]⟩ : ByteArray), .bool false, .bool false]) ?_ 3 _ rfl; (with_reducible repeat (first | refine Ym ?_ _ | refine Yr ?_ | refine Yj ?_ _)); refine Yoa (cs := #[.string (⟨#[104, 116, 116, 112]⟩ : ByteArray), .string (⟨#[97, 46, 98]⟩ : ByteArray), .int .i64 0, .string (⟨#[]⟩ : ByteArray), .string (⟨#[]⟩ : ByteArray), .string (⟨#[]⟩ : ByteArray), .bool false, .bool false]) ?_ 2 _ rfl; (with_reducible repeat (first | refine Ym ?_ _ | refine Yr ?_ | refine Yj ?_ _)); refine Yoa (cs := #[.string (⟨#[104, 116, 116, 112]⟩ : ByteArray), .string (⟨#[]⟩ : ByteArray), .int .i64 0, .string (⟨#[]⟩ : ByteArray), .string (⟨#[]⟩ : ByteArray), .string (⟨#[]⟩ : ByteArray), .bool false, .bool false]) ?_ 1 _ rfl; (with_reducible repeat (first | refine Ym ?_ _ | refine Yr ?_ | refine Yj ?_ _)); refine Yoa (cs := #[.string (⟨#[]⟩ : ByteArray), .string (⟨#[]⟩ : ByteArray), .int .i64 0, .string (⟨#[]⟩ : ByteArray), .string (⟨#[]⟩ : ByteArray), .string (⟨#[]⟩ : ByteArray), .bool false, .bool false]) ?_ 0 _ rfl; (with_reducible repeat (first | refine Ym ?_ _ | refine Yr ?_ | refine Yj ?_ _)); exact gN.out) Tryz.underlying25 rfl Zi) rfl ?_
 exact ⟨Zk, by repeat (first | (with_reducible first | exact HB.out | apply Yd | apply Yb | apply Yc | refine Yg ?_ aKI.out) | exact HB.out)⟩
def Yhi.f (k : Nat) (aC aH : ByteArray) (aJ : Int) (aG aI aK : ByteArray) (aQ aR : Bool) (pH pI : ByteArray) (pJ : Int) (pK pL pM : ByteArray) (pN pO : Bool) : Option (Bool) := (Ynf.f k aC aH aJ aG aI aK aQ aR).bind fun aCL => ((Ynf.f k pH pI pJ pK pL pM pN pO).bind fun aCM => (some (aCL.toList == aCM.toList)))
theorem Yhi.calls (k : Nat) (aC aH : ByteArray) (aJ : Int) (aG aI aK : ByteArray) (aQ aR : Bool) (pH pI : ByteArray) (pJ : Int) (pK pL pM : ByteArray) (pN pO r : Bool) (w : World) (hE : EnvOk w) (h : Yhi.f k aC aH aJ aG aI aK aQ aR pH pI pJ pK pL pM pN pO = some r) :
  Calls Tryz.prog 37 #[.agg #[.string aC, .string aH, .int .i64 aJ, .string aG, .string aI, .string aK, .bool aQ, .bool aR], .agg #[.string pH, .string pI, .int .i64 pJ, .string pK, .string pL, .string pM, .bool pN, .bool pO]] w fun e w' => e = .returned (.bool r) ∧ Below w.heap.size w w' := by
 have cB := Tryz.underlying25
 have HE := Ya.mk hE
 clear hE
 have HB := Ya.mk (Below.refl w.heap.size w)
 have H : ((Ynf.f k aC aH aJ aG aI aK aQ aR).bind fun aCL => ((Ynf.f k pH pI pJ pK pL pM pN pO).bind fun aCM => (some (aCL.toList == aCM.toList)))) = some r := h
 clear h
 replace H := Option.bind_eq_some_iff.mp H
 obtain ⟨aCL, jB, H⟩ := H
 try dsimp -simprocs only at H
 have A3 := Ya.mk jB
 clear jB
 replace H := Option.bind_eq_some_iff.mp H
 obtain ⟨aCM, qH, H⟩ := H
 try dsimp -simprocs only at H
 have A4 := Ya.mk qH
 clear qH
 obtain rfl := Option.some.inj H
 go_enter Tryz.func37, Tryz.ntmps37
 try go_wp2_with (first | ((with_reducible refine Ywc (N := 2) rfl ?_); refine Yrc ?hg (N := 2) ?hd (cs := #[.string aC, .string aH, .int .i64 aJ, .string aG, .string aI, .string aK, .bool aQ, .bool aR]) (t := 25) ?hr ?_; (case hd => rfl); (case hg => rfl); (case hr => first | (go_simp; done) | (go_simp; rfl)); intro gO hg w5 hbox hb; have aM := Ya.mk (Ys Za hb); have aU := Ya.mk (hbox); have bI := Ya.mk ((by rw [hg]; exact (Yda Za) : w.heap.size ≤ gO)); have dE := Ya.mk ((by rw [hg]; exact (Yda Za) : w.heap.size ≤ gO)); clear HB; have HB := aM; have cQ := aU; have aXM := bI; have aEN := dE; clear aM aU bI dE; clear hb hbox hg) | ((with_reducible refine Ywc (N := 3) rfl ?_); refine Yrc ?hg (N := 3) ?hd (cs := #[.string pH, .string pI, .int .i64 pJ, .string pK, .string pL, .string pM, .bool pN, .bool pO]) (t := 25) ?hr ?_; (case hd => rfl); (case hg => rfl); (case hr => first | (go_simp; done) | (go_simp; rfl)); intro hU hg w6 hbox hb; have aM := Ya.mk (Ydb (g := gO) (o := .cells #[.string aC, .string aH, .int .i64 aJ, .string aG, .string aI, .string aK, .bool aQ, .bool aR] 25 (0, 0)) Zoa hb); have aU := Ya.mk (Ys Zwa hb); have bI := Ya.mk (hbox); have dE := Ya.mk ((by rw [hg]; exact (Yda Zwa) : w.heap.size ≤ hU)); have pE := Ya.mk ((by rw [hg]; exact (Yda Zwa) : w.heap.size ≤ hU)); have pF := Ya.mk ((by rw [hg]; exact Nat.ne_of_lt (Yqf (g := gO) (o := .cells #[.string aC, .string aH, .int .i64 aJ, .string aG, .string aI, .string aK, .bool aQ, .bool aR] 25 (0, 0)) Zoa) : gO ≠ hU)); have pG := Ya.mk ((by rw [hg]; exact Nat.ne_of_gt (Yqf (g := gO) (o := .cells #[.string aC, .string aH, .int .i64 aJ, .string aG, .string aI, .string aK, .bool aQ, .bool aR] 25 (0, 0)) Zoa) : hU ≠ gO)); clear cQ; clear HB; have cQ := aM; have HB := aU; have cT := bI; have aXN := dE; have aHI := pE; have aHD := pF; have aHE := pG; clear aM aU bI dE pE pF pG; clear hb hbox hg))
 have aM := Ya.mk (Yr cQ.out)
 have aU := Ya.mk (Yr cT.out)
 have bI := Ya.mk (Yc HB.out)
 clear cQ
 clear cT
 clear HB
 have cQ := aM
 have cT := aU
 have HB := bI
 clear aM aU bI
 refine Yqh (n := 6) (S := fun w' => w'.cell? ⟨gO, 0, none⟩ = some (.string aC) ∧ w'.cell? ⟨gO, 1, none⟩ = some (.string aH) ∧ w'.cell? ⟨gO, 2, none⟩ = some (.int .i64 aJ) ∧ w'.cell? ⟨gO, 3, none⟩ = some (.string aG) ∧ w'.cell? ⟨gO, 4, none⟩ = some (.string aI) ∧ w'.cell? ⟨gO, 5, none⟩ = some (.string aK) ∧ w'.cell? ⟨gO, 6, none⟩ = some (.bool aQ) ∧ w'.cell? ⟨gO, 7, none⟩ = some (.bool aR) ∧ w'.cell? ⟨hU, 0, none⟩ = some (.string pH) ∧ w'.cell? ⟨hU, 1, none⟩ = some (.string pI) ∧ w'.cell? ⟨hU, 2, none⟩ = some (.int .i64 pJ) ∧ w'.cell? ⟨hU, 3, none⟩ = some (.string pK) ∧ w'.cell? ⟨hU, 4, none⟩ = some (.string pL) ∧ w'.cell? ⟨hU, 5, none⟩ = some (.string pM) ∧ w'.cell? ⟨hU, 6, none⟩ = some (.bool pN) ∧ w'.cell? ⟨hU, 7, none⟩ = some (.bool pO)) (ds := []) #[false, false, false, false, false, false] Zi rfl rfl ⟨(Yf cQ.out 0).trans rfl, (Yf cQ.out 1).trans rfl, (Yf cQ.out 2).trans rfl, (Yf cQ.out 3).trans rfl, (Yf cQ.out 4).trans rfl, (Yf cQ.out 5).trans rfl, (Yf cQ.out 6).trans rfl, (Yf cQ.out 7).trans rfl, (Yf cT.out 0).trans rfl, (Yf cT.out 1).trans rfl, (Yf cT.out 2).trans rfl, (Yf cT.out 3).trans rfl, (Yf cT.out 4).trans rfl, (Yf cT.out 5).trans rfl, (Yf cT.out 6).trans rfl, (Yf cT.out 7).trans rfl⟩ (fun hHeld => ?_)
 generalize w6.drew = w7 at cQ cT HB hHeld ⊢
 refine Ylf (i := 0) (N := some 5) (v := ?_) (a' := ?_) #[true, false, false, false, false, false] rfl rfl Zi (fun _ _ _ h => h) (Or.inl ⟨Zja, ?_⟩) hHeld ?_ ?_
 rotate_left
 ·rintro w' ⟨s0, s1, s2, s3, s4, s5, s6, s7, s8, s9, s10, s11, s12, s13, s14, s15⟩
  go_simp
  with_reducible rfl
 rotate_left
 ·exact Zac
 refine Ylf (i := 2) (N := some 7) (v := ?_) (a' := ?_) #[true, false, true, false, false, false] rfl rfl Zi (fun _ _ _ h => h) (Or.inl ⟨Zja, ?_⟩) hHeld ?_ ?_
 rotate_left
 ·rintro w' ⟨s0, s1, s2, s3, s4, s5, s6, s7, s8, s9, s10, s11, s12, s13, s14, s15⟩
  go_simp
  with_reducible rfl
 rotate_left
 ·exact Zac
 refine one_ (i := 1) (N := some 6) #[true, true, true, false, false, false] rfl rfl Zi Zea (fun K hK => ?_)
 refine Yih Tryz.func36 Zi rfl #[.agg #[.string aC, .string aH, .int .i64 aJ, .string aG, .string aI, .string aK, .bool aQ, .bool aR]] Zja rfl rfl Zb ?_
 with_reducible refine (Ynf.calls k aC aH aJ aG aI aK aQ aR aCL _ ?side1 A3.out).mono ?_
 (case side1 => first | exact HE.out | exact EnvOk.below HE.out Zda)
 rintro e w8 ⟨rfl, hb⟩
 refine ⟨_, rfl, ?_⟩
 have aM := Ya.mk (Ydb (g := gO) (o := .cells #[.string aC, .string aH, .int .i64 aJ, .string aG, .string aI, .string aK, .bool aQ, .bool aR] 25 (0, 0)) Zoa hb)
 have aU := Ya.mk (Ydb (g := hU) (o := .cells #[.string pH, .string pI, .int .i64 pJ, .string pK, .string pL, .string pM, .bool pN, .bool pO] 25 (0, 0)) (by (with_reducible repeat (first | refine Ym ?_ _ | refine Yr ?_ | refine Yj ?_ _)); exact cT.out) hb)
 have bI := Ya.mk (Ys Zda hb)
 clear cQ
 clear cT
 clear HB
 have cQ := aM
 have cT := aU
 have HB := bI
 clear aM aU bI
 (try clear hb)
 (try clear cC)
 (try clear hk)
 (try clear hi)
 refine hK.out _ _ ⟨(Yf cQ.out 0).trans rfl, (Yf cQ.out 1).trans rfl, (Yf cQ.out 2).trans rfl, (Yf cQ.out 3).trans rfl, (Yf cQ.out 4).trans rfl, (Yf cQ.out 5).trans rfl, (Yf cQ.out 6).trans rfl, (Yf cQ.out 7).trans rfl, (Yf cT.out 0).trans rfl, (Yf cT.out 1).trans rfl, (Yf cT.out 2).trans rfl, (Yf cT.out 3).trans rfl, (Yf cT.out 4).trans rfl, (Yf cT.out 5).trans rfl, (Yf cT.out 6).trans rfl, (Yf cT.out 7).trans rfl⟩ (fun hHeld => ?_)
 clear hK K
 refine Yxg (a' := ?_) ?_ ?_
 rotate_left
 ·show Act.put _ (some 6) _ = _
  simp only [Act.put, List.setIfInBounds_toArray, List.set_cons_zero, List.set_cons_succ, Yma, Yqa]
  rfl
 refine one_ (i := 3) (N := some 8) #[true, true, true, true, false, false] rfl rfl Zi Zea (fun K hK => ?_)
 refine Yih Tryz.func36 Zi rfl #[.agg #[.string pH, .string pI, .int .i64 pJ, .string pK, .string pL, .string pM, .bool pN, .bool pO]] Zja rfl rfl Zb ?_
 with_reducible refine (Ynf.calls k pH pI pJ pK pL pM pN pO aCM _ ?side1 A4.out).mono ?_
 (case side1 => first | exact HE.out | exact EnvOk.below HE.out Zda)
 rintro e w9 ⟨rfl, hb⟩
 refine ⟨_, rfl, ?_⟩
 have aM := Ya.mk (Ydb (g := gO) (o := .cells #[.string aC, .string aH, .int .i64 aJ, .string aG, .string aI, .string aK, .bool aQ, .bool aR] 25 (0, 0)) Zoa hb)
 have aU := Ya.mk (Ydb (g := hU) (o := .cells #[.string pH, .string pI, .int .i64 pJ, .string pK, .string pL, .string pM, .bool pN, .bool pO] 25 (0, 0)) (by (with_reducible repeat (first | refine Ym ?_ _ | refine Yr ?_ | refine Yj ?_ _)); exact cT.out) hb)
 have bI := Ya.mk (Ys Zda hb)
 clear cQ
 clear cT
 clear HB
 have cQ := aM
 have cT := aU
 have HB := bI
 clear aM aU bI
 (try clear hb)
 (try clear cC)
 (try clear hk)
 (try clear hi)
 refine hK.out _ _ ⟨(Yf cQ.out 0).trans rfl, (Yf cQ.out 1).trans rfl, (Yf cQ.out 2).trans rfl, (Yf cQ.out 3).trans rfl, (Yf cQ.out 4).trans rfl, (Yf cQ.out 5).trans rfl, (Yf cQ.out 6).trans rfl, (Yf cQ.out 7).trans rfl, (Yf cT.out 0).trans rfl, (Yf cT.out 1).trans rfl, (Yf cT.out 2).trans rfl, (Yf cT.out 3).trans rfl, (Yf cT.out 4).trans rfl, (Yf cT.out 5).trans rfl, (Yf cT.out 6).trans rfl, (Yf cT.out 7).trans rfl⟩ (fun hHeld => ?_)
 clear hK K
 refine Yxg (a' := ?_) ?_ ?_
 rotate_left
 ·show Act.put _ (some 8) _ = _
  simp only [Act.put, List.setIfInBounds_toArray, List.set_cons_zero, List.set_cons_succ, Yma, Yqa]
  rfl
 refine Yqb (i := 4) (N := some 9) (v := ?_) (a' := ?_) #[true, true, true, true, true, false] rfl rfl Zi (fun _ _ _ h => h) (Or.inl ⟨Zja, ?_⟩) ?_ ?_
 rotate_left
 ·exact Zzb
 rotate_left
 ·exact Zac
 refine Yqb (i := 5) (N := some 4) (v := ?_) (a' := ?_) #[true, true, true, true, true, true] rfl rfl Zi (fun _ _ _ h => h) (Or.inl ⟨Zja, ?_⟩) ?_ ?_
 rotate_left
 ·exact Zzb
 rotate_left
 ·exact Zac
 refine Yxi Zi ?_
 try go_wp2
 go_ret
 exact ⟨Zk, Zda⟩
def Yvd.f (k : Nat) (aC aH : ByteArray) (aJ : Int) (aG aI aK : ByteArray) (aQ aR : Bool) : Option (ByteArray) := (Yo.f k aC aH aJ aG aI (⟨#[]⟩ : ByteArray) aQ false).bind fun aCN => (some aCN)
theorem Yvd.calls (k : Nat) (aC aH : ByteArray) (aJ : Int) (aG aI aK : ByteArray) (aQ aR : Bool) (r : ByteArray) (w : World) (hE : EnvOk w) (h : Yvd.f k aC aH aJ aG aI aK aQ aR = some r) :
  Calls Tryz.prog 41 #[.agg #[.string aC, .string aH, .int .i64 aJ, .string aG, .string aI, .string aK, .bool aQ, .bool aR]] w fun e w' => e = .returned (.string r) ∧ Below w.heap.size w w' := by
 have cB := Tryz.underlying25
 have HE := Ya.mk hE
 clear hE
 have HB := Ya.mk (Below.refl w.heap.size w)
 have H : ((Yo.f k aC aH aJ aG aI (⟨#[]⟩ : ByteArray) aQ false).bind fun aCN => (some aCN)) = some r := h
 clear h
 replace H := Option.bind_eq_some_iff.mp H
 obtain ⟨aCN, dU, H⟩ := H
 try dsimp -simprocs only at H
 have A2 := Ya.mk dU
 clear dU
 obtain rfl := Option.some.inj H
 go_enter Tryz.func41, Tryz.ntmps41
 go_wp2_with (first | ((with_reducible refine Ywc (N := 1) rfl ?_); refine Yrc ?hg (N := 1) ?hd (cs := #[.string aC, .string aH, .int .i64 aJ, .string aG, .string aI, .string aK, .bool aQ, .bool aR]) (t := 25) ?hr ?_; (case hd => rfl); (case hg => rfl); (case hr => first | (go_simp; done) | (go_simp; rfl)); intro jI hg w3 hbox hb; have aM := Ya.mk (Ys Za hb); have aU := Ya.mk (hbox); have bI := Ya.mk ((by rw [hg]; exact (Yda Za) : w.heap.size ≤ jI)); have dE := Ya.mk ((by rw [hg]; exact (Yda Za) : w.heap.size ≤ jI)); clear HB; have HB := aM; have fV := aU; have aXO := bI; have aHK := dE; clear aM aU bI dE; clear hb hbox hg; have vQ : w3.cell? ⟨jI, 0, none⟩ = some (.string aC) := (Yf fV.out 0).trans rfl; have vR : w3.cell? ⟨jI, 1, none⟩ = some (.string aH) := (Yf fV.out 1).trans rfl; have vS : w3.cell? ⟨jI, 2, none⟩ = some (.int .i64 aJ) := (Yf fV.out 2).trans rfl; have vT : w3.cell? ⟨jI, 3, none⟩ = some (.string aG) := (Yf fV.out 3).trans rfl; have vU : w3.cell? ⟨jI, 4, none⟩ = some (.string aI) := (Yf fV.out 4).trans rfl; have vV : w3.cell? ⟨jI, 5, none⟩ = some (.string aK) := (Yf fV.out 5).trans rfl; have vW : w3.cell? ⟨jI, 6, none⟩ = some (.bool aQ) := (Yf fV.out 6).trans rfl; have vX : w3.cell? ⟨jI, 7, none⟩ = some (.bool aR) := (Yf fV.out 7).trans rfl; have vY := Ye fV.out 0; have vZ := Ye fV.out 1; have wA := Ye fV.out 2; have wB := Ye fV.out 3; have wC := Ye fV.out 4; have wD := Ye fV.out 5; have wE := Ye fV.out 6; have wF := Ye fV.out 7) | ((with_reducible refine Yh (f := 25) rfl ?_); refine Yba (some 6) rfl rfl Tryz.func25 Zi rfl #[.agg #[.string aC, .string aH, .int .i64 aJ, .string aG, .string aI, .string (⟨#[]⟩ : ByteArray), .bool aQ, .bool false]] rfl Zb ?_; (with_reducible refine (Yo.calls k aC aH aJ aG aI (⟨#[]⟩ : ByteArray) aQ false aCN _ ?side1 A2.out).mono ?_); (case side1 => first | exact HE.out | exact EnvOk.below HE.out Zxa); rintro e w5 ⟨rfl, hb⟩; refine ⟨_, rfl, ?_⟩; have aM := Ya.mk (Ydb (g := jI) (o := .cells #[.string aC, .string aH, .int .i64 aJ, .string aG, .string aI, .string (⟨#[]⟩ : ByteArray), .bool aQ, .bool false] 25 (0, 0)) (by (with_reducible repeat (first | refine Ym ?_ _ | refine Yr ?_ | refine Yj ?_ _)); refine Yoa (cs := #[.string aC, .string aH, .int .i64 aJ, .string aG, .string aI, .string aK, .bool aQ, .bool false]) ?_ 5 _ rfl; (with_reducible repeat (first | refine Ym ?_ _ | refine Yr ?_ | refine Yj ?_ _)); refine Yoa (cs := #[.string aC, .string aH, .int .i64 aJ, .string aG, .string aI, .string aK, .bool aQ, .bool aR]) ?_ 7 _ rfl; (with_reducible repeat (first | refine Ym ?_ _ | refine Yr ?_ | refine Yj ?_ _)); exact fV.out) hb); have aU := Ya.mk (Ys Zxa hb); clear fV; clear HB; have fV := aM; have HB := aU; clear aM aU; (try clear hb); (try clear cC); (try clear hk); (try clear hi)))
 go_ret
 exact ⟨Zk, Zxa⟩
def Ybd.f (a0 : ByteArray) : Option (Bool) := if a0.toList = ([] : List UInt8) then (some false) else (if 0 < (a0.size : Int) then ((Yxa.f (bt a0 0)).bind fun aCO => (some aCO)) else (none))
theorem Ybd.calls (a0 : ByteArray) (r : Bool) (w : World) (hE : EnvOk w) (h : Ybd.f a0 = some r) :
  Calls Tryz.prog 75 #[.string a0] w fun e w' => e = .returned (.bool r) ∧ Drawn0 w w' := by
 have HE := Ya.mk hE
 clear hE
 have H : (if a0.toList = ([] : List UInt8) then (some false) else (if 0 < (a0.size : Int) then ((Yxa.f (bt a0 0)).bind fun aCO => (some aCO)) else (none))) = some r := h
 clear h
 by_cases c2 : a0.toList = ([] : List UInt8)
 ·rw [if_pos c2] at H
  have eT : (a0.toList == ([] : List UInt8)) = true := beq_iff_eq.mpr c2
  have kG : (a0.toList != ([] : List UInt8)) = false := bne_eq_false_iff_eq.mpr c2
  clear c2
  obtain rfl := Option.some.inj H
  go_enter Tryz.func75, Tryz.ntmps75
  go_wp2
  go_ret
  exact ⟨Zf, Zh⟩
 rw [if_neg c2] at H
 have eT : (a0.toList == ([] : List UInt8)) = false := beq_eq_false_iff_ne.mpr c2
 have kG : (a0.toList != ([] : List UInt8)) = true := bne_iff_ne.mpr c2
 by_cases c3 : 0 < (a0.size : Int)
 rotate_left
 ·rw [if_neg c3] at H
  exact absurd H Zv
 rw [if_pos c3] at H
 have cJ : decide (0 < (a0.size : Int)) = true := decide_eq_true c3
 have fY : decide (0 < a0.size) = true := decide_eq_true Zl
 clear c3
 replace H := Option.bind_eq_some_iff.mp H
 obtain ⟨aCO, tT, H⟩ := H
 try dsimp -simprocs only at H
 have A5 := Ya.mk tT
 clear tT
 obtain rfl := Option.some.inj H
 have p4 : 0 ≤ (0 : Int) := Zl
 have q4 : 0 < a0.size := (by have : (0 : Int) < (a0.size : Int) := of_decide_eq_true Zc; omega)
 have kN : ∀ h : 0 < a0.size, ((a0[0]'h).toNat : Int) = bt a0 0 := Yab a0 0
 clear p4
 have qi4 : (0 < (a0.size : Int)) = True := eq_true (of_decide_eq_true Zc)
 replace q4 := eq_true q4
 go_enter Tryz.func75, Tryz.ntmps75
 go_wp2_with (first | (go_at_call 48; (with_reducible refine (Yxa.calls (bt a0 0) aCO _ ?side1 A5.out).mono ?_); (case side1 => first | exact HE.out | exact EnvOk.heap HE.out rfl); rintro e w' ⟨rfl, ⟨nd, rfl⟩⟩))
 go_ret
 exact ⟨Zf, Zh⟩
end Go.Proofs.YtnmglnglbdpjjaaGreatDoor.X
