/- Printed by a program of ours: functions as plain Lean, and what a call of each does. -/
import Derived.Test.YtnmglnglbdpjjaaGreatDoorUlWords
import Derived.Test.YtnmglnglbdpjjaaGreatDoorUlX0
import Derived.Test.YtnmglnglbdpjjaaGreatDoorUlX3
import Derived.Test.YtnmglnglbdpjjaaGreatDoorUlX5
import Derived.Test.YtnmglnglbdpjjaaGreatDoorUlX12
import Derived.Test.YtnmglnglbdpjjaaGreatDoorUlH0e
namespace Go.Proofs.YtnmglnglbdpjjaaGreatDoor.X
open Go.RowKit Go.Yw.PrintWords Go.Yw.PrintLast Go.Yw.PrintMore
attribute [local go_sem] Yxd Yae Yoe Yqe Yld Yjd Yyd Yzd
set_option linter.unusedVariables false
set_option linter.unusedSimpArgs false
set_option maxHeartbeats 8000000
set_option maxRecDepth 100000
mutual
def Yla.j0 : Nat → ByteArray → ByteArray → Bool → Option (ByteArray × ByteArray × Bool)
 | 0, _, _, _ => none
 | k + 1, x5, x6, x27 => if x27 = true then (some ((⟨#[]⟩ : ByteArray), (⟨#[]⟩ : ByteArray), false)) else (Yla.l0 k x5 x6 (x5.size : Int) 0)
def Yla.l0 : Nat → ByteArray → ByteArray → Int → Int → Option (ByteArray × ByteArray × Bool)
 | 0, _, _, _, _ => none
 | k + 1, x5, x6, x29, x30 => if x30 < x29 then (if 0 ≤ x30 then (if x30 < (x5.size : Int) then ((Ywa.f (bt x5 x30)).bind fun aGq => (if aGq = true then (Yla.l0 k x5 x6 x29 (wrap64 (x30 + 1))) else ((Yta.f (bt x5 x30)).bind fun aGr => (if aGr = true then (Yla.l0 k x5 x6 x29 (wrap64 (x30 + 1))) else ((strings_IndexByte.f (⟨#[43, 45, 46]⟩ : ByteArray) (bt x5 x30)).bind fun vK => (if vK < 0 then (some ((⟨#[]⟩ : ByteArray), (⟨#[]⟩ : ByteArray), false)) else (Yla.l0 k x5 x6 x29 (wrap64 (x30 + 1))))))))) else (none)) else (none)) else (some (x5, x6, true))
end
def Yla.f (k : Nat) (a0 : ByteArray) : Option (ByteArray × ByteArray × Bool) := (strings_Cut.f a0 (⟨#[58]⟩ : ByteArray)).bind fun eI => (if eI.2.2 = true then (if eI.1.toList = ([] : List UInt8) then (Yla.j0 k eI.1 eI.2.1 true) else (if 0 < (eI.1.size : Int) then ((Ywa.f (bt eI.1 0)).bind fun uF => (Yla.j0 k eI.1 eI.2.1 (!uF))) else (none))) else (Yla.j0 k eI.1 eI.2.1 true))
theorem Yla.calls (k : Nat) (a0 r1 r2 : ByteArray) (r3 : Bool) (w : World) (hE : EnvOk w) (h : Yla.f k a0 = some (r1, r2, r3)) :
  Calls Tryz.prog 70 #[.string a0] w fun e w' => e = .returned (.tuple #[.string r1, .string r2, .bool r3]) ∧ Drawn0 w w' := by
 have HE := Ya.mk hE
 clear hE
 have H : ((strings_Cut.f a0 (⟨#[58]⟩ : ByteArray)).bind fun eI => (if eI.2.2 = true then (if eI.1.toList = ([] : List UInt8) then (Yla.j0 k eI.1 eI.2.1 true) else (if 0 < (eI.1.size : Int) then ((Ywa.f (bt eI.1 0)).bind fun uF => (Yla.j0 k eI.1 eI.2.1 (!uF))) else (none))) else (Yla.j0 k eI.1 eI.2.1 true))) = some (r1, r2, r3) := h
 clear h
 replace H := Option.bind_eq_some_iff.mp H
 obtain ⟨⟨cT, aGs, aKa⟩, dV, H⟩ := H
 try dsimp -simprocs only at H
 have A2 := Ya.mk dV
 clear dV
 have qI := Ya.mk H
 clear H
 go_enter Tryz.func70, Tryz.ntmps70
 go_upto_region 2 with (first | ((with_reducible refine Yi (f := 76) rfl ?_); refine Yaa (some 12) rfl rfl Tryz.func76 Zi rfl #[.string a0, .string (⟨#[58]⟩ : ByteArray)] rfl Zb ?_; (with_reducible refine (strings_Cut.calls a0 (⟨#[58]⟩ : ByteArray) cT aGs aKa _ ?side1 A2.out).mono ?_); (case side1 => first | exact HE.out | exact EnvOk.heap HE.out rfl); rintro e w' ⟨rfl, ⟨nd, rfl⟩⟩; refine ⟨_, rfl, ?_⟩))
 (try simp only [Act.put, List.setIfInBounds_toArray, List.set_cons_zero, List.set_cons_succ])
 go_cut [27] (fun v27 wc => ∃ (kq : Nat) (zC : Bool), v27 = .bool zC ∧ Ya (Yla.j0 kq cT aGs zC = some (r1, r2, r3)) ∧ Ya (kq ≤ k) ∧ Drawn0 w wc)
 case first =>
  have H := qI.out
  clear qI
  by_cases c4 : aKa = true
  rotate_left
  ·replace c4 := Bool.eq_false_iff.mpr c4
   subst c4
   rw [if_neg (show ¬ (false = true) by decide)] at H
   have H' := Ya.mk H
   clear H
   go_wp2
   go_meet
   case rel => exact ⟨_, (true), Zf, H', ⟨Zla⟩, Zh⟩
  subst c4
  rw [if_pos rfl] at H
  by_cases c5 : cT.toList = ([] : List UInt8)
  ·rw [if_pos c5] at H
   have dI : (cT.toList == ([] : List UInt8)) = true := beq_iff_eq.mpr c5
   have qK : (cT.toList != ([] : List UInt8)) = false := bne_eq_false_iff_eq.mpr c5
   clear c5
   (first | rw [dI] | (simp only [Yca, Yga]; rw [dI]) | skip)
   have H' := Ya.mk H
   clear H
   go_wp2
   go_meet
   case rel => exact ⟨_, (true), Zf, H', ⟨Zla⟩, Zh⟩
  rw [if_neg c5] at H
  have dI : (cT.toList == ([] : List UInt8)) = false := beq_eq_false_iff_ne.mpr c5
  have qK : (cT.toList != ([] : List UInt8)) = true := bne_iff_ne.mpr c5
  (first | rw [dI] | (simp only [Yca, Yga]; rw [dI]) | skip)
  by_cases c6 : 0 < (cT.size : Int)
  rotate_left
  ·rw [if_neg c6] at H
   exact absurd H Zv
  rw [if_pos c6] at H
  have dN : decide (0 < (cT.size : Int)) = true := decide_eq_true c6
  have iX : decide (0 < cT.size) = true := decide_eq_true Zk
  clear c6
  replace H := Option.bind_eq_some_iff.mp H
  obtain ⟨uF, vY, H⟩ := H
  try dsimp -simprocs only at H
  have A8 := Ya.mk vY
  clear vY
  have H' := Ya.mk H
  clear H
  have p7 : 0 ≤ (0 : Int) := Zk
  have q7 : 0 < cT.size := (by have : (0 : Int) < (cT.size : Int) := of_decide_eq_true Zc; omega)
  have hx7 : ∀ h : 0 < cT.size, ((cT[0]'h).toNat : Int) = bt cT 0 := Yza cT 0
  clear p7
  have qi7 : (0 < (cT.size : Int)) = True := eq_true (of_decide_eq_true Zc)
  replace q7 := eq_true q7
  go_wp2_with (first | (go_at_call 77; (with_reducible refine (Ywa.calls (bt cT 0) uF _ ?side1 A8.out).mono ?_); (case side1 => first | exact HE.out | exact EnvOk.heap HE.out rfl); rintro e w' ⟨rfl, ⟨nd, rfl⟩⟩))
  go_meet
  case rel => exact ⟨_, (!uF), Zf, H', ⟨Zla⟩, Zh⟩
 case rest =>
  clear qI
  try clear p2
  try clear c4
  try clear c5
  try clear dI
  try clear qK
  try clear c6
  try clear dN
  try clear iX
  try clear c7
  try clear p7
  try clear q7
  try clear hx7
  try clear qi7
  try clear p7
  try clear q7
  obtain ⟨kq, zC, rfl, HA, pH, ⟨mc2, rfl⟩⟩ := hcut
  cases kq with
  | zero => exact absurd HA.out (by simp [Yla.j0])
  | succ nA =>
   have H := HA.out
   clear HA
   simp only [Yla.j0] at H
   by_cases c9 : zC = true
   ·subst c9
    rw [if_pos rfl] at H
    simp only [Option.some.injEq, Prod.mk.injEq] at H
    obtain ⟨rfl, rfl, rfl⟩ := H
    go_wp2
    go_ret3
    exact ⟨Zf, Zh⟩
   replace c9 := Bool.eq_false_iff.mpr c9
   subst c9
   rw [if_neg (show ¬ (false = true) by decide)] at H
   have H' := Ya.mk H
   clear H
   go_wp2
   go_loopg [30] nA (fun kq v30 w' => ∃ (cE : Int), v30 = .int .i64 cE ∧ Ya (Yla.l0 kq cT aGs (cT.size : Int) cE = some (r1, r2, r3)) ∧ Ya (kq ≤ nA) ∧ Drawn0 w w')
   case atStart => exact ⟨(0), Zf, H', ⟨Nat.le_refl _⟩, Zh⟩
   case round =>
    clear H'
    try clear c2
    try clear p2
    try clear c4
    try clear c5
    try clear dI
    try clear qK
    try clear c6
    try clear dN
    try clear iX
    try clear c7
    try clear p7
    try clear q7
    try clear hx7
    try clear qi7
    try clear c9
    try clear p2
    try clear p7
    try clear q7
    obtain ⟨cE, rfl, HA, jT, ⟨m2, rfl⟩⟩ := hrel
    cases gk with
    | zero => exact absurd HA.out (by simp [Yla.l0])
    | succ k2 =>
     have H := HA.out
     clear HA
     simp only [Yla.l0] at H
     by_cases dP : cE < (cT.size : Int)
     rotate_left
     ·rw [if_neg dP] at H
      have gY : decide (cE < (cT.size : Int)) = false := decide_eq_false dP
      clear dP
      simp only [Option.some.injEq, Prod.mk.injEq] at H
      obtain ⟨rfl, rfl, rfl⟩ := H
      go_wp2
      go_ret3
      exact ⟨Zf, Zh⟩
     rw [if_pos dP] at H
     have gY : decide (cE < (cT.size : Int)) = true := decide_eq_true dP
     clear dP
     by_cases c11 : 0 ≤ cE
     rotate_left
     ·rw [if_neg c11] at H
      exact absurd H Zv
     rw [if_pos c11] at H
     have gR : decide (0 ≤ cE) = true := decide_eq_true c11
     clear c11
     by_cases dD : cE < (cT.size : Int)
     rotate_left
     ·rw [if_neg dD] at H
      exact absurd H Zv
     rw [if_pos dD] at H
     have dS : decide (cE < (cT.size : Int)) = true := decide_eq_true dD
     clear dD
     replace H := Option.bind_eq_some_iff.mp H
     obtain ⟨aGq, aBk, H⟩ := H
     try dsimp -simprocs only at H
     have A14 := Ya.mk aBk
     clear aBk
     by_cases dG : aGq = true
     ·subst dG
      rw [if_pos rfl] at H
      have H' := Ya.mk H
      clear H
      have mF : 0 ≤ (cE : Int) := of_decide_eq_true Zc
      have mG : cE < (cT.size : Int) := of_decide_eq_true Zc
      have sV := Yza cT cE
      replace mF := eq_true mF
      replace mG := eq_true mG
      go_wp2_with (first | ((with_reducible refine Yi (f := 77) rfl ?_); refine Yaa (some 37) rfl rfl Tryz.func77 Zi rfl #[.int .u8 (bt cT cE)] rfl Zb ?_; (with_reducible refine (Ywa.calls (bt cT cE) true _ ?side1 A14.out).mono ?_); (case side1 => first | exact HE.out | exact EnvOk.heap HE.out rfl); rintro e w' ⟨rfl, ⟨nd, rfl⟩⟩; refine ⟨_, rfl, ?_⟩))
      go_roundg k2
      case measure => have := pH.out; have := jT.out; omega
      case rel => exact ⟨(wrap64 (cE + 1)), Zf, H', ⟨Zva⟩, Zh⟩
     replace dG := Bool.eq_false_iff.mpr dG
     subst dG
     rw [if_neg (show ¬ (false = true) by decide)] at H
     replace H := Option.bind_eq_some_iff.mp H
     obtain ⟨aGr, sS, H⟩ := H
     try dsimp -simprocs only at H
     have A16 := Ya.mk sS
     clear sS
     by_cases eF : aGr = true
     ·subst eF
      rw [if_pos rfl] at H
      have H' := Ya.mk H
      clear H
      have mF : 0 ≤ (cE : Int) := of_decide_eq_true Zc
      have mG : cE < (cT.size : Int) := of_decide_eq_true Zc
      have sV := Yza cT cE
      replace mF := eq_true mF
      replace mG := eq_true mG
      go_wp2_with (first | ((with_reducible refine Yi (f := 77) rfl ?_); refine Yaa (some 37) rfl rfl Tryz.func77 Zi rfl #[.int .u8 (bt cT cE)] rfl Zb ?_; (with_reducible refine (Ywa.calls (bt cT cE) false _ ?side1 A14.out).mono ?_); (case side1 => first | exact HE.out | exact EnvOk.heap HE.out rfl); rintro e w' ⟨rfl, ⟨nd, rfl⟩⟩; refine ⟨_, rfl, ?_⟩) | (go_at_call 78; (with_reducible refine (Yta.calls (bt cT cE) true _ ?side1 A16.out).mono ?_); (case side1 => first | exact HE.out | exact EnvOk.heap HE.out rfl); rintro e w' ⟨rfl, ⟨nd, rfl⟩⟩))
      go_roundg k2
      case measure => have := pH.out; have := jT.out; omega
      case rel => exact ⟨(wrap64 (cE + 1)), Zf, H', ⟨Zva⟩, Zh⟩
     replace eF := Bool.eq_false_iff.mpr eF
     subst eF
     rw [if_neg (show ¬ (false = true) by decide)] at H
     replace H := Option.bind_eq_some_iff.mp H
     obtain ⟨vK, aCk, H⟩ := H
     try dsimp -simprocs only at H
     have A18 := Ya.mk aCk
     clear aCk
     by_cases iI : vK < 0
     ·rw [if_pos iI] at H
      have jZ : decide (vK < 0) = true := decide_eq_true iI
      clear iI
      simp only [Option.some.injEq, Prod.mk.injEq] at H
      obtain ⟨rfl, rfl, rfl⟩ := H
      have mF : 0 ≤ (cE : Int) := of_decide_eq_true Zc
      have mG : cE < (cT.size : Int) := of_decide_eq_true Zc
      have sV := Yza cT cE
      replace mF := eq_true mF
      replace mG := eq_true mG
      go_wp2_with (first | ((with_reducible refine Yi (f := 77) rfl ?_); refine Yaa (some 37) rfl rfl Tryz.func77 Zi rfl #[.int .u8 (bt cT cE)] rfl Zb ?_; (with_reducible refine (Ywa.calls (bt cT cE) false _ ?side1 A14.out).mono ?_); (case side1 => first | exact HE.out | exact EnvOk.heap HE.out rfl); rintro e w' ⟨rfl, ⟨nd, rfl⟩⟩; refine ⟨_, rfl, ?_⟩) | (go_at_call 78; (with_reducible refine (Yta.calls (bt cT cE) false _ ?side1 A16.out).mono ?_); (case side1 => first | exact HE.out | exact EnvOk.heap HE.out rfl); rintro e w' ⟨rfl, ⟨nd, rfl⟩⟩) | (go_at_call 79; (with_reducible refine (strings_IndexByte.calls (⟨#[43, 45, 46]⟩ : ByteArray) (bt cT cE) vK _ ?side1 A18.out).mono ?_); (case side1 => first | exact HE.out | exact EnvOk.heap HE.out rfl); rintro e w' ⟨rfl, ⟨nd, rfl⟩⟩))
      go_ret3
      exact ⟨Zf, Zh⟩
     rw [if_neg iI] at H
     have jZ : decide (vK < 0) = false := decide_eq_false iI
     clear iI
     have H' := Ya.mk H
     clear H
     have mF : 0 ≤ (cE : Int) := of_decide_eq_true Zc
     have mG : cE < (cT.size : Int) := of_decide_eq_true Zc
     have sV := Yza cT cE
     replace mF := eq_true mF
     replace mG := eq_true mG
     go_wp2_with (first | ((with_reducible refine Yi (f := 77) rfl ?_); refine Yaa (some 37) rfl rfl Tryz.func77 Zi rfl #[.int .u8 (bt cT cE)] rfl Zb ?_; (with_reducible refine (Ywa.calls (bt cT cE) false _ ?side1 A14.out).mono ?_); (case side1 => first | exact HE.out | exact EnvOk.heap HE.out rfl); rintro e w' ⟨rfl, ⟨nd, rfl⟩⟩; refine ⟨_, rfl, ?_⟩) | (go_at_call 78; (with_reducible refine (Yta.calls (bt cT cE) false _ ?side1 A16.out).mono ?_); (case side1 => first | exact HE.out | exact EnvOk.heap HE.out rfl); rintro e w' ⟨rfl, ⟨nd, rfl⟩⟩) | (go_at_call 79; (with_reducible refine (strings_IndexByte.calls (⟨#[43, 45, 46]⟩ : ByteArray) (bt cT cE) vK _ ?side1 A18.out).mono ?_); (case side1 => first | exact HE.out | exact EnvOk.heap HE.out rfl); rintro e w' ⟨rfl, ⟨nd, rfl⟩⟩))
     go_roundg k2
     case measure => have := pH.out; have := jT.out; omega
     case rel => exact ⟨(wrap64 (cE + 1)), Zf, H', ⟨Zva⟩, Zh⟩
def Yvb.l0 : Nat → ByteArray → Int → Option (Int)
 | 0, _, _ => none
 | k + 1, x0, x3 => if x3 < (mn (x0.size : Int) 2) then (if 0 ≤ x3 then (if x3 < (x0.size : Int) then ((strings_IndexByte.f (⟨#[47, 92]⟩ : ByteArray) (bt x0 x3)).bind fun sB => (if sB ≥ 0 then (Yvb.l0 k x0 (wrap64 (x3 + 1))) else (some x3))) else (none)) else (none)) else (some x3)
def Yvb.f (k : Nat) (a0 : ByteArray) : Option (Int) := Yvb.l0 k a0 0
theorem Yvb.calls (k : Nat) (a0 : ByteArray) (r : Int) (w : World) (hE : EnvOk w) (h : Yvb.f k a0 = some r) :
  Calls Tryz.prog 71 #[.string a0] w fun e w' => e = .returned (.int .i64 r) ∧ Below w.heap.size w w' := by
 have HE := Ya.mk hE
 clear hE
 have HB := Ya.mk (Below.refl w.heap.size w)
 have H : (Yvb.l0 k a0 0) = some r := h
 clear h
 have H' := Ya.mk H
 clear H
 go_enter Tryz.func71, Tryz.ntmps71
 go_wp2
 go_loopg [3] k (fun kq v3 w' => ∃ (aD : Int), v3 = .int .i64 aD ∧ Ya (Yvb.l0 kq a0 aD = some r) ∧ Ya (kq ≤ k) ∧ Ya (Below w.heap.size w w'))
 case atStart => exact ⟨(0), Zf, H', ⟨Nat.le_refl _⟩, ⟨Za⟩⟩
 case round =>
  clear H'
  obtain ⟨aD, rfl, HA, cU, HB⟩ := hrel
  cases gk with
  | zero => exact absurd HA.out (by simp [Yvb.l0])
  | succ k1 =>
   have H := HA.out
   clear HA
   simp only [Yvb.l0] at H
   obtain ⟨ji2, aCl⟩ : ∃ j_ : Int, (mn (a0.size : Int) 2) = j_ := ⟨_, rfl⟩
   replace H : (if aD < (ji2) then (if 0 ≤ aD then (if aD < (a0.size : Int) then ((strings_IndexByte.f (⟨#[47, 92]⟩ : ByteArray) (bt a0 aD)).bind fun sB => (if sB ≥ 0 then (Yvb.l0 k1 a0 (wrap64 (aD + 1))) else (some aD))) else (none)) else (none)) else (some aD)) = some r := by first | (rw [aCl] at H; exact H) | (simp only [aCl] at H ⊢; exact H)
   have aXd : (if 2 < (a0.size : Int) then 2 else (a0.size : Int)) = ji2 := aCl
   by_cases c3 : aD < (ji2)
   rotate_left
   ·rw [if_neg c3] at H
    have cB : decide (aD < (ji2)) = false := decide_eq_false c3
    clear c3
    obtain rfl := Option.some.inj H
    go_wp2
    go_ret
    exact ⟨by first | rfl | (simp [Yl, Yk] <;> rfl) | (simp only [← aCl]; first | rfl | (simp [Yl, Yk] <;> rfl)) | (simp [*, Yl, Yk] <;> rfl), Za⟩
   rw [if_pos c3] at H
   have cB : decide (aD < (ji2)) = true := decide_eq_true c3
   clear c3
   by_cases c4 : 0 ≤ aD
   rotate_left
   ·rw [if_neg c4] at H
    exact absurd H Zv
   rw [if_pos c4] at H
   have bX : decide (0 ≤ aD) = true := decide_eq_true c4
   clear c4
   by_cases c5 : aD < (a0.size : Int)
   rotate_left
   ·rw [if_neg c5] at H
    exact absurd H Zv
   rw [if_pos c5] at H
   have dI : decide (aD < (a0.size : Int)) = true := decide_eq_true c5
   clear c5
   replace H := Option.bind_eq_some_iff.mp H
   obtain ⟨sB, nU, H⟩ := H
   try dsimp -simprocs only at H
   have A7 := Ya.mk nU
   clear nU
   by_cases c8 : sB ≥ 0
   rotate_left
   ·rw [if_neg c8] at H
    have gQ : decide (0 ≤ sB) = false := decide_eq_false c8
    clear c8
    obtain rfl := Option.some.inj H
    have p6 : 0 ≤ (aD : Int) := of_decide_eq_true Zc
    have q6 : aD < (a0.size : Int) := of_decide_eq_true Zc
    have hx6 := Yza a0 aD
    replace p6 := eq_true p6
    replace q6 := eq_true q6
    go_wp2_with (first | (go_at_call 79; (with_reducible refine (strings_IndexByte.calls (⟨#[47, 92]⟩ : ByteArray) (bt a0 aD) sB _ ?side1 A7.out).mono ?_); (case side1 => first | exact HE.out | exact EnvOk.below HE.out Za); rintro e w' ⟨rfl, ⟨nd, rfl⟩⟩))
    go_ret
    exact ⟨by first | rfl | (simp [Yl, Yk] <;> rfl) | (simp only [← aCl]; first | rfl | (simp [Yl, Yk] <;> rfl)) | (simp [*, Yl, Yk] <;> rfl), Za⟩
   rw [if_pos c8] at H
   have gQ : decide (0 ≤ sB) = true := decide_eq_true c8
   clear c8
   have H' := Ya.mk H
   clear H
   have p6 : 0 ≤ (aD : Int) := of_decide_eq_true Zc
   have q6 : aD < (a0.size : Int) := of_decide_eq_true Zc
   have hx6 := Yza a0 aD
   replace p6 := eq_true p6
   replace q6 := eq_true q6
   go_wp2_with (first | (go_at_call 79; (with_reducible refine (strings_IndexByte.calls (⟨#[47, 92]⟩ : ByteArray) (bt a0 aD) sB _ ?side1 A7.out).mono ?_); (case side1 => first | exact HE.out | exact EnvOk.below HE.out Za); rintro e w' ⟨rfl, ⟨nd, rfl⟩⟩))
   go_roundg k1
   case measure => have := cU.out; omega
   case rel => exact ⟨(wrap64 (aD + 1)), Zf, H', ⟨Zaa⟩, ⟨Za⟩⟩
def bytealg_LastIndexByteString.l0 : Nat → ByteArray → Int → Int → Option (Int)
 | 0, _, _, _ => none
 | k + 1, x0, x1, x5 => if x5 ≥ 0 then (if 0 ≤ x5 then (if x5 < (x0.size : Int) then (if (bt x0 x5) = x1 then (some x5) else (bytealg_LastIndexByteString.l0 k x0 x1 (wrap64 (x5 - 1)))) else (none)) else (none)) else (some (-1))
def bytealg_LastIndexByteString.f (k : Nat) (a0 : ByteArray) (a1 : Int) : Option (Int) := bytealg_LastIndexByteString.l0 k a0 a1 (wrap64 ((a0.size : Int) - 1))
theorem bytealg_LastIndexByteString.calls (k : Nat) (a0 : ByteArray) (a1 r : Int) (w : World) (hE : EnvOk w) (h : bytealg_LastIndexByteString.f k a0 a1 = some r) :
  Calls Tryz.prog 133 #[.string a0, .int .u8 a1] w fun e w' => e = .returned (.int .i64 r) ∧ Drawn0 w w' := by
 have HE := Ya.mk hE
 clear hE
 have H : (bytealg_LastIndexByteString.l0 k a0 a1 (wrap64 ((a0.size : Int) - 1))) = some r := h
 clear h
 have H' := Ya.mk H
 clear H
 go_enter Tryz.func133, Tryz.ntmps133
 go_wp2
 go_loopg [5] k (fun kq v5 w' => ∃ (bA : Int), v5 = .int .i64 bA ∧ Ya (bytealg_LastIndexByteString.l0 kq a0 a1 bA = some r) ∧ Ya (kq ≤ k) ∧ Drawn0 w w')
 case atStart => exact ⟨(wrap64 ((a0.size : Int) - 1)), Zf, H', ⟨Nat.le_refl _⟩, Zh⟩
 case round =>
  clear H'
  try clear c1
  try clear p2
  obtain ⟨bA, rfl, HA, cU, ⟨m1, rfl⟩⟩ := hrel
  cases gk with
  | zero => exact absurd HA.out (by simp [bytealg_LastIndexByteString.l0])
  | succ k1 =>
   have H := HA.out
   clear HA
   simp only [bytealg_LastIndexByteString.l0] at H
   by_cases c3 : bA ≥ 0
   rotate_left
   ·rw [if_neg c3] at H
    have cB : decide (0 ≤ bA) = false := decide_eq_false c3
    clear c3
    obtain rfl := Option.some.inj H
    go_wp2
    go_ret
    exact ⟨Zf, Zh⟩
   rw [if_pos c3] at H
   have cB : decide (0 ≤ bA) = true := decide_eq_true c3
   clear c3
   by_cases c4 : 0 ≤ bA
   rotate_left
   ·rw [if_neg c4] at H
    exact absurd H Zv
   rw [if_pos c4] at H
   have bX : decide (0 ≤ bA) = true := decide_eq_true c4
   clear c4
   by_cases c5 : bA < (a0.size : Int)
   rotate_left
   ·rw [if_neg c5] at H
    exact absurd H Zv
   rw [if_pos c5] at H
   have dI : decide (bA < (a0.size : Int)) = true := decide_eq_true c5
   clear c5
   by_cases c7 : (bt a0 bA) = a1
   ·rw [if_pos c7] at H
    have cQ : ((bt a0 bA) == a1) = true := beq_iff_eq.mpr c7
    have iB : ((bt a0 bA) != a1) = false := bne_eq_false_iff_eq.mpr c7
    clear c7
    obtain rfl := Option.some.inj H
    have p6 : 0 ≤ (bA : Int) := of_decide_eq_true Zc
    have q6 : bA < (a0.size : Int) := of_decide_eq_true Zc
    have hx6 := Yza a0 bA
    replace p6 := eq_true p6
    replace q6 := eq_true q6
    go_wp2
    go_ret
    exact ⟨Zf, Zh⟩
   rw [if_neg c7] at H
   have cQ : ((bt a0 bA) == a1) = false := beq_eq_false_iff_ne.mpr c7
   have iB : ((bt a0 bA) != a1) = true := bne_iff_ne.mpr c7
   have H' := Ya.mk H
   clear H
   have p6 : 0 ≤ (bA : Int) := of_decide_eq_true Zc
   have q6 : bA < (a0.size : Int) := of_decide_eq_true Zc
   have hx6 := Yza a0 bA
   replace p6 := eq_true p6
   replace q6 := eq_true q6
   go_wp2
   go_roundg k1
   case measure => have := cU.out; omega
   case rel => exact ⟨(wrap64 (bA - 1)), Zf, H', ⟨Zaa⟩, Zh⟩
def strings_LastIndexByte.f (k : Nat) (a0 : ByteArray) (a1 : Int) : Option (Int) := (bytealg_LastIndexByteString.f k a0 a1).bind fun aCm => (some aCm)
theorem strings_LastIndexByte.calls (k : Nat) (a0 : ByteArray) (a1 r : Int) (w : World) (hE : EnvOk w) (h : strings_LastIndexByte.f k a0 a1 = some r) :
  Calls Tryz.prog 108 #[.string a0, .int .u8 a1] w fun e w' => e = .returned (.int .i64 r) ∧ Drawn0 w w' := by
 have HE := Ya.mk hE
 clear hE
 have H : ((bytealg_LastIndexByteString.f k a0 a1).bind fun aCm => (some aCm)) = some r := h
 clear h
 replace H := Option.bind_eq_some_iff.mp H
 obtain ⟨aCm, iY, H⟩ := H
 try dsimp -simprocs only at H
 have A3 := Ya.mk iY
 clear iY
 obtain rfl := Option.some.inj H
 go_enter Tryz.func108, Tryz.ntmps108
 go_wp2_with (first | ((with_reducible refine Yi (f := 133) rfl ?_); refine Yaa (some 7) rfl rfl Tryz.func133 Zi rfl #[.string a0, .int .u8 a1] rfl Zb ?_; (with_reducible refine (bytealg_LastIndexByteString.calls k a0 a1 aCm _ ?side1 A3.out).mono ?_); (case side1 => first | exact HE.out | exact EnvOk.heap HE.out rfl); rintro e w' ⟨rfl, ⟨nd, rfl⟩⟩; refine ⟨_, rfl, ?_⟩))
 go_ret
 exact ⟨Zf, Zh⟩
def Ybm.f (k : Nat) (aE aJ : ByteArray) (aN : Int) (aG aM aK : ByteArray) (aU aV : Bool) : Option (ByteArray) := (Ycj.f aE aJ aN aG aM aK aU aV).bind fun gJ => ((Yid.f k gJ.1 gJ.2.1 gJ.2.2.1 gJ.2.2.2.1 gJ.2.2.2.2.1 gJ.2.2.2.2.2.1 gJ.2.2.2.2.2.2.1 gJ.2.2.2.2.2.2.2).bind fun aCn => (some aCn))
theorem Ybm.calls (k : Nat) (aE aJ : ByteArray) (aN : Int) (aG aM aK : ByteArray) (aU aV : Bool) (r : ByteArray) (w : World) (hE : EnvOk w) (h : Ybm.f k aE aJ aN aG aM aK aU aV = some r) :
  Calls Tryz.prog 36 #[.agg #[.string aE, .string aJ, .int .i64 aN, .string aG, .string aM, .string aK, .bool aU, .bool aV]] w fun e w' => e = .returned (.string r) ∧ Below w.heap.size w w' := by
 have bQ := Tryz.underlying25
 have HE := Ya.mk hE
 clear hE
 have HB := Ya.mk (Below.refl w.heap.size w)
 have H : ((Ycj.f aE aJ aN aG aM aK aU aV).bind fun gJ => ((Yid.f k gJ.1 gJ.2.1 gJ.2.2.1 gJ.2.2.2.1 gJ.2.2.2.2.1 gJ.2.2.2.2.2.1 gJ.2.2.2.2.2.2.1 gJ.2.2.2.2.2.2.2).bind fun aCn => (some aCn))) = some r := h
 clear h
 replace H := Option.bind_eq_some_iff.mp H
 obtain ⟨⟨aGt, aGu, aGv, aGw, aGx, aGy, aGz, aGA⟩, dV, H⟩ := H
 try dsimp -simprocs only at H
 have A2 := Ya.mk dV
 clear dV
 replace H := Option.bind_eq_some_iff.mp H
 obtain ⟨aCn, iY, H⟩ := H
 try dsimp -simprocs only at H
 have A3 := Ya.mk iY
 clear iY
 obtain rfl := Option.some.inj H
 go_enter Tryz.func36, Tryz.ntmps36
 go_wp2_with (first | ((with_reducible refine Yad (N := 1) rfl ?_); refine Yzc ?hg (N := 1) ?hd (cs := #[.string aE, .string aJ, .int .i64 aN, .string aG, .string aM, .string aK, .bool aU, .bool aV]) (t := 25) ?hr ?_; (case hd => rfl); (case hg => rfl); (case hr => first | (go_simp; done) | (go_simp; rfl)); intro iU hg w4 hbox hb; have aH := Ya.mk (Yt Za hb); have aR := Ya.mk (hbox); have bK := Ya.mk ((by rw [hg]; exact (Yia Za) : w.heap.size ≤ iU)); have dM := Ya.mk ((by rw [hg]; exact (Yia Za) : w.heap.size ≤ iU)); clear HB; have HB := aH; have eC := aR; have aXe := bK; have aHd := dM; clear aH aR bK dM; clear hb hbox hg; have aBQ : w4.cell? ⟨iU, 0, none⟩ = some (.string aE) := (Yf eC.out 0).trans rfl; have aBR : w4.cell? ⟨iU, 1, none⟩ = some (.string aJ) := (Yf eC.out 1).trans rfl; have aBS : w4.cell? ⟨iU, 2, none⟩ = some (.int .i64 aN) := (Yf eC.out 2).trans rfl; have aBT : w4.cell? ⟨iU, 3, none⟩ = some (.string aG) := (Yf eC.out 3).trans rfl; have aBU : w4.cell? ⟨iU, 4, none⟩ = some (.string aM) := (Yf eC.out 4).trans rfl; have aBV : w4.cell? ⟨iU, 5, none⟩ = some (.string aK) := (Yf eC.out 5).trans rfl; have aBW : w4.cell? ⟨iU, 6, none⟩ = some (.bool aU) := (Yf eC.out 6).trans rfl; have aBX : w4.cell? ⟨iU, 7, none⟩ = some (.bool aV) := (Yf eC.out 7).trans rfl; have aBY := Ye eC.out 0; have aBZ := Ye eC.out 1; have aCa := Ye eC.out 2; have aCb := Ye eC.out 3; have aCc := Ye eC.out 4; have aCd := Ye eC.out 5; have aCe := Ye eC.out 6; have aCf := Ye eC.out 7) | ((with_reducible refine Yi (f := 28) rfl ?_); refine Yaa (some 4) rfl rfl Tryz.func28 Zi rfl #[.agg #[.string aE, .string aJ, .int .i64 aN, .string aG, .string aM, .string aK, .bool aU, .bool aV]] rfl Zb ?_; (with_reducible refine (Ycj.calls aE aJ aN aG aM aK aU aV aGt aGu aGv aGw aGx aGy aGz aGA _ ?side1 A2.out).mono ?_); (case side1 => first | exact HE.out | exact EnvOk.below HE.out Zha); rintro e w6 ⟨rfl, hb⟩; refine ⟨_, rfl, ?_⟩; have aH := Ya.mk (Ykb (g := iU) (o := .cells #[.string aE, .string aJ, .int .i64 aN, .string aG, .string aM, .string aK, .bool aU, .bool aV] 25 (0, 0)) (by (with_reducible repeat (first | refine Yh ?_ _ | refine Yp ?_ | refine Yn ?_ _)); exact eC.out) hb); have aR := Ya.mk (Yt Zha hb); clear eC; clear HB; have eC := aH; have HB := aR; clear aH aR; (try clear hb); (try clear bU); (try clear hk); (try clear hi)) | ((with_reducible refine Yi (f := 26) rfl ?_); refine Yaa (some 5) rfl rfl Tryz.func26 Zi rfl #[.agg #[.string aGt, .string aGu, .int .i64 aGv, .string aGw, .string aGx, .string aGy, .bool aGz, .bool aGA]] rfl Zb ?_; (with_reducible refine (Yid.calls k aGt aGu aGv aGw aGx aGy aGz aGA aCn _ ?side1 A3.out).mono ?_); (case side1 => first | exact HE.out | exact EnvOk.below HE.out Zha); rintro e w7 ⟨rfl, hb⟩; refine ⟨_, rfl, ?_⟩; have aH := Ya.mk (Ykb (g := iU) (o := .cells #[.string aE, .string aJ, .int .i64 aN, .string aG, .string aM, .string aK, .bool aU, .bool aV] 25 (0, 0)) (by (with_reducible repeat (first | refine Yh ?_ _ | refine Yp ?_ | refine Yn ?_ _)); exact eC.out) hb); have aR := Ya.mk (Yt Zha hb); clear eC; clear HB; have eC := aH; have HB := aR; clear aH aR; (try clear hb); (try clear bU); (try clear hk); (try clear hi)))
 go_ret
 exact ⟨Zl, Zha⟩
def Ykh.f  : Option (ByteArray × ByteArray × Int × ByteArray × ByteArray × ByteArray × Bool × Bool) := some ((⟨#[104, 116, 116, 112]⟩ : ByteArray), (⟨#[97, 46, 98]⟩ : ByteArray), 0, (⟨#[47, 99, 47, 100]⟩ : ByteArray), (⟨#[101]⟩ : ByteArray), (⟨#[]⟩ : ByteArray), true, false)
theorem Ykh.calls  (r1 r2 : ByteArray) (r3 : Int) (r4 r5 r6 : ByteArray) (r7 r8 : Bool) (w : World) (hE : EnvOk w) (h : Ykh.f  = some (r1, r2, r3, r4, r5, r6, r7, r8)) :
  Calls Tryz.prog 69 #[] w fun e w' => e = .returned (.agg #[.string r1, .string r2, .int .i64 r3, .string r4, .string r5, .string r6, .bool r7, .bool r8]) ∧ Below w.heap.size w w' := by
 have bQ := Tryz.underlying25
 have HE := Ya.mk hE
 clear hE
 have HB := Ya.mk (Below.refl w.heap.size w)
 have H : (some ((⟨#[104, 116, 116, 112]⟩ : ByteArray), (⟨#[97, 46, 98]⟩ : ByteArray), 0, (⟨#[47, 99, 47, 100]⟩ : ByteArray), (⟨#[101]⟩ : ByteArray), (⟨#[]⟩ : ByteArray), true, false)) = some (r1, r2, r3, r4, r5, r6, r7, r8) := h
 clear h
 simp only [Option.some.injEq, Prod.mk.injEq] at H
 obtain ⟨rfl, rfl, rfl, rfl, rfl, rfl, rfl, rfl⟩ := H
 go_enter Tryz.func69, Tryz.ntmps69
 go_wp2_with (first | ((with_reducible refine Yad (N := 0) rfl ?_); refine Yzc ?hg (N := 0) ?hd (cs := #[.string (⟨#[]⟩ : ByteArray), .string (⟨#[]⟩ : ByteArray), .int .i64 0, .string (⟨#[]⟩ : ByteArray), .string (⟨#[]⟩ : ByteArray), .string (⟨#[]⟩ : ByteArray), .bool false, .bool false]) (t := 25) ?hr ?_; (case hd => rfl); (case hg => rfl); (case hr => first | (go_simp; done) | (go_simp; rfl)); intro jA hg w1 hbox hb; have aH := Ya.mk (Yt Za hb); have aR := Ya.mk (hbox); have bK := Ya.mk ((by rw [hg]; exact (Yia Za) : w.heap.size ≤ jA)); have dM := Ya.mk ((by rw [hg]; exact (Yia Za) : w.heap.size ≤ jA)); clear HB; have HB := aH; have gK := aR; have aXf := bK; have aKb := dM; clear aH aR bK dM; clear hb hbox hg; have aVS : w1.cell? ⟨jA, 0, none⟩ = some (.string (⟨#[]⟩ : ByteArray)) := (Yf gK.out 0).trans rfl; have aVT : w1.cell? ⟨jA, 1, none⟩ = some (.string (⟨#[]⟩ : ByteArray)) := (Yf gK.out 1).trans rfl; have aVU : w1.cell? ⟨jA, 2, none⟩ = some (.int .i64 0) := (Yf gK.out 2).trans rfl; have aVV : w1.cell? ⟨jA, 3, none⟩ = some (.string (⟨#[]⟩ : ByteArray)) := (Yf gK.out 3).trans rfl; have aVW : w1.cell? ⟨jA, 4, none⟩ = some (.string (⟨#[]⟩ : ByteArray)) := (Yf gK.out 4).trans rfl; have aVX : w1.cell? ⟨jA, 5, none⟩ = some (.string (⟨#[]⟩ : ByteArray)) := (Yf gK.out 5).trans rfl; have aVY : w1.cell? ⟨jA, 6, none⟩ = some (.bool false) := (Yf gK.out 6).trans rfl; have aVZ : w1.cell? ⟨jA, 7, none⟩ = some (.bool false) := (Yf gK.out 7).trans rfl; have aWa := Ye gK.out 0; have aWb := Ye gK.out 1; have aWc := Ye gK.out 2; have aWd := Ye gK.out 3; have aWe := Ye gK.out 4; have aWf := Ye gK.out 5; have aWg := Ye gK.out 6; have aWh := Ye gK.out 7))
 refine bodyPost_ret (results_cell_row rfl _ _ jA 25 #[.string (⟨#[104, 116, 116, 112]⟩ : ByteArray), .string (⟨#[97, 46, 98]⟩ : ByteArray), .int .i64 0, .string (⟨#[47, 99, 47, 100]⟩ : ByteArray), .string (⟨#[101]⟩ : ByteArray), .string (⟨#[]⟩ : ByteArray), .bool true, .bool false] (0, 0) _ rfl (by (with_reducible repeat (first | refine Yh ?_ _ | refine Yp ?_ | refine Yn ?_ _)); refine Yna (cs := #[.string (⟨#[104, 116, 116, 112]⟩ : ByteArray), .string (⟨#[97, 46, 98]⟩ : ByteArray), .int .i64 0, .string (⟨#[47, 99, 47, 100]⟩ : ByteArray), .string (⟨#[101]⟩ : ByteArray), .string (⟨#[]⟩ : ByteArray), .bool true, .bool false]) ?_ 7 _ rfl; (with_reducible repeat (first | refine Yh ?_ _ | refine Yp ?_ | refine Yn ?_ _)); refine Yna (cs := #[.string (⟨#[104, 116, 116, 112]⟩ : ByteArray), .string (⟨#[97, 46, 98]⟩ : ByteArray), .int .i64 0, .string (⟨#[47, 99, 47, 100]⟩ : ByteArray), .string (⟨#[101]⟩ : ByteArray), .string (⟨#[]⟩ : ByteArray), .bool false, .bool false]) ?_ 6 _ rfl; (with_reducible repeat (first | refine Yh ?_ _ | refine Yp ?_ | refine Yn ?_ _)); refine Yna (cs := #[.string (⟨#[104, 116, 116, 112]⟩ : ByteArray), .string (⟨#[97, 46, 98]⟩ : ByteArray), .int .i64 0, .string (⟨#[47, 99, 47, 100]⟩ : ByteArray), .string (⟨#[101]⟩ : ByteArray), .string (⟨#[]⟩ : ByteArray), .bool false, .bool false]) ?_ 5 _ rfl; (with_reducible repeat (first | refine Yh ?_ _ | refine Yp ?_ | refine Yn ?_ _)); refine Yna (cs := #[.string (⟨#[104, 116, 116, 112]⟩ : ByteArray), .string (⟨#[97, 46, 98]⟩ : ByteArray), .int .i64 0, .string (⟨#[47, 99, 47, 100]⟩ : ByteArray), .string (⟨#[]⟩ : ByteArray), .string (⟨#[]⟩ : ByteArray), .bool false, .bool false]) ?_ 4 _ rfl; (with_reducible repeat (first | refine Yh ?_ _ | refine Yp ?_ | refine Yn ?_ _)); refine Yna (cs := #[.string (⟨#[104, 116, 116, 112]⟩ : ByteArray), .string (⟨#[97, 46, 98]⟩ : ByteArray), .int .i64 0, .string (⟨#[]⟩ : ByteArray), .string (⟨#[]⟩ : ByteArray), .string (⟨#[]⟩ : ByteArray), .bool false, .bool false]) ?_ 3 _ rfl; (with_reducible repeat (first | refine Yh ?_ _ | refine Yp ?_ | refine Yn ?_ _)); refine Yna (cs := #[.string (⟨#[104, 116, 116, 112]⟩ : ByteArray), .string (⟨#[97, 46, 98]⟩ : ByteArray), .int .i64 0, .string (⟨#[]⟩ : ByteArray), .string (⟨#[]⟩ : ByteArray), .string (⟨#[]⟩ : ByteArray), .bool false, .bool false]) ?_ 2 _ rfl; (with_reducible repeat (first | refine Yh ?_ _ | refine Yp ?_ | refine Yn ?_ _)); refine Yna (cs := #[.string (⟨#[104, 116, 116, 112]⟩ : ByteArray), .string (⟨#[]⟩ : ByteArray), .int .i64 0, .string (⟨#[]⟩ : ByteArray), .string (⟨#[]⟩ : ByteArray), .string (⟨#[]⟩ : ByteArray), .bool false, .bool false]) ?_ 1 _ rfl; (with_reducible repeat (first | refine Yh ?_ _ | refine Yp ?_ | refine Yn ?_ _)); refine Yna (cs := #[.string (⟨#[]⟩ : ByteArray), .string (⟨#[]⟩ : ByteArray), .int .i64 0, .string (⟨#[]⟩ : ByteArray), .string (⟨#[]⟩ : ByteArray), .string (⟨#[]⟩ : ByteArray), .bool false, .bool false]) ?_ 0 _ rfl; (with_reducible repeat (first | refine Yh ?_ _ | refine Yp ?_ | refine Yn ?_ _)); exact gK.out) Tryz.underlying25 rfl Zi) rfl ?_
 exact ⟨Zl, by repeat (first | (with_reducible first | exact HB.out | apply Yd | apply Yb | apply Yc | refine Yg ?_ aKb.out) | exact HB.out)⟩
def Ypa.f (a0 : ByteArray) : Option (Bool) := if a0.toList = ([] : List UInt8) then (some false) else (if 0 < (a0.size : Int) then ((Yya.f (bt a0 0)).bind fun aCo => (some aCo)) else (none))
theorem Ypa.calls (a0 : ByteArray) (r : Bool) (w : World) (hE : EnvOk w) (h : Ypa.f a0 = some r) :
  Calls Tryz.prog 75 #[.string a0] w fun e w' => e = .returned (.bool r) ∧ Drawn0 w w' := by
 have HE := Ya.mk hE
 clear hE
 have H : (if a0.toList = ([] : List UInt8) then (some false) else (if 0 < (a0.size : Int) then ((Yya.f (bt a0 0)).bind fun aCo => (some aCo)) else (none))) = some r := h
 clear h
 by_cases c2 : a0.toList = ([] : List UInt8)
 ·rw [if_pos c2] at H
  have eR : (a0.toList == ([] : List UInt8)) = true := beq_iff_eq.mpr c2
  have jY : (a0.toList != ([] : List UInt8)) = false := bne_eq_false_iff_eq.mpr c2
  clear c2
  obtain rfl := Option.some.inj H
  go_enter Tryz.func75, Tryz.ntmps75
  go_wp2
  go_ret
  exact ⟨Zf, Zh⟩
 rw [if_neg c2] at H
 have eR : (a0.toList == ([] : List UInt8)) = false := beq_eq_false_iff_ne.mpr c2
 have jY : (a0.toList != ([] : List UInt8)) = true := bne_iff_ne.mpr c2
 by_cases c3 : 0 < (a0.size : Int)
 rotate_left
 ·rw [if_neg c3] at H
  exact absurd H Zv
 rw [if_pos c3] at H
 have cB : decide (0 < (a0.size : Int)) = true := decide_eq_true c3
 have fV : decide (0 < a0.size) = true := decide_eq_true Zk
 clear c3
 replace H := Option.bind_eq_some_iff.mp H
 obtain ⟨aCo, tD, H⟩ := H
 try dsimp -simprocs only at H
 have A5 := Ya.mk tD
 clear tD
 obtain rfl := Option.some.inj H
 have p4 : 0 ≤ (0 : Int) := Zk
 have q4 : 0 < a0.size := (by have : (0 : Int) < (a0.size : Int) := of_decide_eq_true Zc; omega)
 have jB : ∀ h : 0 < a0.size, ((a0[0]'h).toNat : Int) = bt a0 0 := Yza a0 0
 clear p4
 have tR : (0 < (a0.size : Int)) = True := eq_true (of_decide_eq_true Zc)
 replace q4 := eq_true q4
 go_enter Tryz.func75, Tryz.ntmps75
 go_wp2_with (first | (go_at_call 48; (with_reducible refine (Yya.calls (bt a0 0) aCo _ ?side1 A5.out).mono ?_); (case side1 => first | exact HE.out | exact EnvOk.heap HE.out rfl); rintro e w' ⟨rfl, ⟨nd, rfl⟩⟩))
 go_ret
 exact ⟨Zf, Zh⟩
end Go.Proofs.YtnmglnglbdpjjaaGreatDoor.X
