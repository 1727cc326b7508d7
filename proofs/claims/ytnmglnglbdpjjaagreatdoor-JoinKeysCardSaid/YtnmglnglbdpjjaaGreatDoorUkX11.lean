/- Printed by a program of ours: functions as plain Lean, and what a call of each does. -/
import Derived.Test.YtnmglnglbdpjjaaGreatDoorUkWords
import Derived.Test.YtnmglnglbdpjjaaGreatDoorUkX0
import Derived.Test.YtnmglnglbdpjjaaGreatDoorUkX6
import Derived.Test.YtnmglnglbdpjjaaGreatDoorUkX8
import Derived.Test.YtnmglnglbdpjjaaGreatDoorUkX10
namespace Go.Proofs.YtnmglnglbdpjjaaGreatDoor.X
open Go.RowKit Go.Yw.PrintWords Go.Yw.PrintLast Go.Yw.PrintMore
attribute [local go_sem] Yde Yee Ywe Yve Ypd Yod Yce Ybe
set_option linter.unusedVariables false
set_option linter.unusedSimpArgs false
set_option maxHeartbeats 8000000
set_option maxRecDepth 100000
def Yef.f (k : Nat) (a0 : ByteArray) : Option (ByteArray × Int) := (Yn.f k a0).bind fun lL => ((Yka.f k lL).bind fun hG => (if hG.toList = ([] : List UInt8) then (some ((⟨#[]⟩ : ByteArray), 4)) else ((Yi.f k hG).bind fun wR => (if wR = true then (some (hG, 0)) else (some ((⟨#[]⟩ : ByteArray), 17))))))
theorem Yef.calls (k : Nat) (a0 r1 : ByteArray) (r2 : Int) (w : World) (hE : EnvOk w) (h : Yef.f k a0 = some (r1, r2)) :
  Calls Tryz.prog 20 #[.string a0] w fun e w' => e = .returned (.tuple #[.string r1, .int .i64 r2]) ∧ Below w.heap.size w w' := by
 have HE := Ya.mk hE
 clear hE
 have HB := Ya.mk (Below.refl w.heap.size w)
 have H : ((Yn.f k a0).bind fun lL => ((Yka.f k lL).bind fun hG => (if hG.toList = ([] : List UInt8) then (some ((⟨#[]⟩ : ByteArray), 4)) else ((Yi.f k hG).bind fun wR => (if wR = true then (some (hG, 0)) else (some ((⟨#[]⟩ : ByteArray), 17))))))) = some (r1, r2) := h
 clear h
 replace H := Option.bind_eq_some_iff.mp H
 obtain ⟨lL, dU, H⟩ := H
 try dsimp -simprocs only at H
 have A2 := Ya.mk dU
 clear dU
 replace H := Option.bind_eq_some_iff.mp H
 obtain ⟨hG, jB, H⟩ := H
 try dsimp -simprocs only at H
 have A3 := Ya.mk jB
 clear jB
 by_cases c4 : hG.toList = ([] : List UInt8)
 ·rw [if_pos c4] at H
  have cF : (hG.toList == ([] : List UInt8)) = true := beq_iff_eq.mpr c4
  have jL : (hG.toList != ([] : List UInt8)) = false := bne_eq_false_iff_eq.mpr c4
  clear c4
  simp only [Option.some.injEq, Prod.mk.injEq] at H
  obtain ⟨rfl, rfl⟩ := H
  go_enter Tryz.func20, Tryz.ntmps20
  go_wp2_with (first | ((with_reducible refine Yh (f := 55) rfl ?_); refine Yba (some 5) rfl rfl Tryz.func55 Zi rfl #[.string a0] rfl Zb ?_; (with_reducible refine (Yn.calls k a0 lL _ ?side1 A2.out).mono ?_); (case side1 => first | exact HE.out | exact EnvOk.below HE.out Za); rintro e w5 ⟨rfl, hb⟩; refine ⟨_, rfl, ?_⟩; have aM := Ya.mk (Ys Za hb); clear HB; have HB := aM; clear aM; (try clear hb); (try clear cC); (try clear hk); (try clear hi)) | ((with_reducible refine Yh (f := 47) rfl ?_); refine Yba (some 6) rfl rfl Tryz.func47 Zi rfl #[.string lL] rfl Zb ?_; (with_reducible refine (Yka.calls k lL hG _ ?side1 A3.out).mono ?_); (case side1 => first | exact HE.out | exact EnvOk.below HE.out Za); rintro e w6 ⟨rfl, hb⟩; refine ⟨_, rfl, ?_⟩; have aM := Ya.mk (Ys Za hb); clear HB; have HB := aM; clear aM; (try clear hb); (try clear cC); (try clear hk); (try clear hi)))
  go_ret2
  exact ⟨Zk, Za⟩
 rw [if_neg c4] at H
 have cF : (hG.toList == ([] : List UInt8)) = false := beq_eq_false_iff_ne.mpr c4
 have jL : (hG.toList != ([] : List UInt8)) = true := bne_iff_ne.mpr c4
 replace H := Option.bind_eq_some_iff.mp H
 obtain ⟨wR, oE, H⟩ := H
 try dsimp -simprocs only at H
 have A7 := Ya.mk oE
 clear oE
 by_cases c8 : wR = true
 ·subst c8
  rw [if_pos rfl] at H
  simp only [Option.some.injEq, Prod.mk.injEq] at H
  obtain ⟨rfl, rfl⟩ := H
  go_enter Tryz.func20, Tryz.ntmps20
  go_wp2_with (first | ((with_reducible refine Yh (f := 55) rfl ?_); refine Yba (some 5) rfl rfl Tryz.func55 Zi rfl #[.string a0] rfl Zb ?_; (with_reducible refine (Yn.calls k a0 lL _ ?side1 A2.out).mono ?_); (case side1 => first | exact HE.out | exact EnvOk.below HE.out Za); rintro e w9 ⟨rfl, hb⟩; refine ⟨_, rfl, ?_⟩; have aM := Ya.mk (Ys Za hb); clear HB; have HB := aM; clear aM; (try clear hb); (try clear cC); (try clear hk); (try clear hi)) | ((with_reducible refine Yh (f := 47) rfl ?_); refine Yba (some 6) rfl rfl Tryz.func47 Zi rfl #[.string lL] rfl Zb ?_; (with_reducible refine (Yka.calls k lL hG _ ?side1 A3.out).mono ?_); (case side1 => first | exact HE.out | exact EnvOk.below HE.out Za); rintro e qE ⟨rfl, hb⟩; refine ⟨_, rfl, ?_⟩; have aM := Ya.mk (Ys Za hb); clear HB; have HB := aM; clear aM; (try clear hb); (try clear cC); (try clear hk); (try clear hi)) | ((with_reducible refine Yh (f := 56) rfl ?_); refine Yba (some 10) rfl rfl Tryz.func56 Zi rfl #[.string hG] rfl Zb ?_; (with_reducible refine (Yi.calls k hG true _ ?side1 A7.out).mono ?_); (case side1 => first | exact HE.out | exact EnvOk.below HE.out Za); rintro e w11 ⟨rfl, hb⟩; refine ⟨_, rfl, ?_⟩; have aM := Ya.mk (Ys Za hb); clear HB; have HB := aM; clear aM; (try clear hb); (try clear cC); (try clear hk); (try clear hi)))
  go_ret2
  exact ⟨Zk, Za⟩
 replace c8 := Bool.eq_false_iff.mpr c8
 subst c8
 rw [if_neg (show ¬ (false = true) by decide)] at H
 simp only [Option.some.injEq, Prod.mk.injEq] at H
 obtain ⟨rfl, rfl⟩ := H
 go_enter Tryz.func20, Tryz.ntmps20
 go_wp2_with (first | ((with_reducible refine Yh (f := 55) rfl ?_); refine Yba (some 5) rfl rfl Tryz.func55 Zi rfl #[.string a0] rfl Zb ?_; (with_reducible refine (Yn.calls k a0 lL _ ?side1 A2.out).mono ?_); (case side1 => first | exact HE.out | exact EnvOk.below HE.out Za); rintro e vG ⟨rfl, hb⟩; refine ⟨_, rfl, ?_⟩; have aM := Ya.mk (Ys Za hb); clear HB; have HB := aM; clear aM; (try clear hb); (try clear cC); (try clear hk); (try clear hi)) | ((with_reducible refine Yh (f := 47) rfl ?_); refine Yba (some 6) rfl rfl Tryz.func47 Zi rfl #[.string lL] rfl Zb ?_; (with_reducible refine (Yka.calls k lL hG _ ?side1 A3.out).mono ?_); (case side1 => first | exact HE.out | exact EnvOk.below HE.out Za); rintro e nN ⟨rfl, hb⟩; refine ⟨_, rfl, ?_⟩; have aM := Ya.mk (Ys Za hb); clear HB; have HB := aM; clear aM; (try clear hb); (try clear cC); (try clear hk); (try clear hi)) | ((with_reducible refine Yh (f := 56) rfl ?_); refine Yba (some 10) rfl rfl Tryz.func56 Zi rfl #[.string hG] rfl Zb ?_; (with_reducible refine (Yi.calls k hG false _ ?side1 A7.out).mono ?_); (case side1 => first | exact HE.out | exact EnvOk.below HE.out Za); rintro e w14 ⟨rfl, hb⟩; refine ⟨_, rfl, ?_⟩; have aM := Ya.mk (Ys Za hb); clear HB; have HB := aM; clear aM; (try clear hb); (try clear cC); (try clear hk); (try clear hi)))
 go_ret2
 exact ⟨Zk, Za⟩
mutual
def Yu.j1 : Nat → ByteArray → Option (ByteArray)
 | 0, _ => none
 | k + 1, x0 => Yu.l1 k x0
def Yu.j3 : Nat → ByteArray → Option (ByteArray)
 | 0, _ => none
 | k + 1, x0 => Yu.l2 k x0 ([] : List Int) 0
def Yu.l2 : Nat → ByteArray → List Int → Int → Option (ByteArray)
 | 0, _, _, _ => none
 | k + 1, x0, x3, x4 => if x4 < (x0.size : Int) then (if 0 ≤ x4 then (if (bt x0 x4) = 9 then (Yu.l2 k x0 x3 (wrap64 (x4 + 1))) else (if (bt x0 x4) = 10 then (Yu.l2 k x0 x3 (wrap64 (x4 + 1))) else (if (bt x0 x4) = 13 then (Yu.l2 k x0 x3 (wrap64 (x4 + 1))) else (if x3.length < 140737488355328 then (Yu.l2 k x0 (x3 ++ [bt x0 x4]) (wrap64 (x4 + 1))) else (none))))) else (none)) else (some (strOfNums x3))
def Yu.l1 : Nat → ByteArray → Option (ByteArray)
 | 0, _ => none
 | k + 1, x0 => if (x0.size : Int) > 0 then (if 0 ≤ (wrap64 ((x0.size : Int) - 1)) then (if (wrap64 ((x0.size : Int) - 1)) < (x0.size : Int) then (if (bt x0 (wrap64 ((x0.size : Int) - 1))) ≤ 32 then (if (wrap64 ((x0.size : Int) - 1)) ≤ (x0.size : Int) then (Yu.l1 k (x0.extract 0 ((wrap64 ((x0.size : Int) - 1)) : Int).toNat)) else (none)) else (Yu.j3 k x0)) else (none)) else (none)) else (Yu.j3 k x0)
def Yu.l0 : Nat → ByteArray → Option (ByteArray)
 | 0, _ => none
 | k + 1, x0 => if (x0.size : Int) > 0 then (if 0 < (x0.size : Int) then (if (bt x0 0) ≤ 32 then (if 1 ≤ (x0.size : Int) then (Yu.l0 k (x0.extract 1 x0.size)) else (none)) else (Yu.j1 k x0)) else (none)) else (Yu.j1 k x0)
end
def Yu.f (k : Nat) (a0 : ByteArray) : Option (ByteArray) := Yu.l0 k a0
theorem Yu.calls (k : Nat) (a0 r : ByteArray) (w : World) (hE : EnvOk w) (h : Yu.f k a0 = some r) :
  Calls Tryz.prog 22 #[.string a0] w fun e w' => e = .returned (.string r) ∧ Below w.heap.size w w' := by
 have HE := Ya.mk hE
 clear hE
 have HB := Ya.mk (Below.refl w.heap.size w)
 have H : (Yu.l0 k a0) = some r := h
 clear h
 have HC2 := Ya.mk H
 clear H
 go_enter Tryz.func22, Tryz.ntmps22
 go_upto_block 0 with (fail)
 go_cut [0] (fun v0 wc => ∃ (kq : Nat) (aX : ByteArray), v0 = .string aX ∧ Ya (Yu.j1 kq aX = some r) ∧ Ya (kq ≤ k) ∧ Ya (Below w.heap.size w wc))
 case first =>
  have H := HC2.out
  clear HC2
  have H' := Ya.mk H
  clear H
  go_wp2
  go_loopg [0] k (fun kq v0 w' => ∃ (aX : ByteArray), v0 = .string aX ∧ Ya (Yu.l0 kq aX = some r) ∧ Ya (kq ≤ k) ∧ Ya (Below w.heap.size w w'))
  case atStart => exact ⟨(a0), Zf, H', ⟨Nat.le_refl _⟩, ⟨Za⟩⟩
  case round =>
   clear H'
   try clear c2
   try clear p2
   obtain ⟨aX, rfl, HA, dD, HB⟩ := hrel
   cases gk with
   | zero => exact absurd HA.out (by simp [Yu.l0])
   | succ k1 =>
    have H := HA.out
    clear HA
    simp only [Yu.l0] at H
    by_cases c3 : (aX.size : Int) > 0
    rotate_left
    ·rw [if_neg c3] at H
     have cJ : decide (0 < (aX.size : Int)) = false := decide_eq_false c3
     have fY : decide (0 < aX.size) = false := decide_eq_false Zl
     clear c3
     (first | rw [cJ] | (simp only [Yma, Yqa]; rw [cJ]) | skip)
     have H' := Ya.mk H
     clear H
     go_wp2
     go_meet
     case rel => exact ⟨_, (aX), Zf, H', ⟨Zka⟩, ⟨Za⟩⟩
    rw [if_pos c3] at H
    have cJ : decide (0 < (aX.size : Int)) = true := decide_eq_true c3
    have fY : decide (0 < aX.size) = true := decide_eq_true Zl
    clear c3
    (first | rw [cJ] | (simp only [Yma, Yqa]; rw [cJ]) | skip)
    by_cases c4 : 0 < (aX.size : Int)
    rotate_left
    ·rw [if_neg c4] at H
     exact absurd H Zv
    rw [if_pos c4] at H
    have cF : decide (0 < (aX.size : Int)) = true := decide_eq_true c4
    have jL : decide (0 < aX.size) = true := decide_eq_true Zl
    clear c4
    by_cases c6 : (bt aX 0) ≤ 32
    rotate_left
    ·rw [if_neg c6] at H
     have dP : decide ((bt aX 0) ≤ 32) = false := decide_eq_false c6
     clear c6
     have H' := Ya.mk H
     clear H
     have p5 : 0 ≤ (0 : Int) := Zl
     have q5 : 0 < aX.size := (by have : (0 : Int) < (aX.size : Int) := of_decide_eq_true Zc; omega)
     have kK : ∀ h : 0 < aX.size, ((aX[0]'h).toNat : Int) = bt aX 0 := Yab aX 0
     clear p5
     have qi5 : (0 < (aX.size : Int)) = True := eq_true (of_decide_eq_true Zc)
     replace q5 := eq_true q5
     go_wp2
     go_meet
     case rel => exact ⟨_, (aX), Zf, H', ⟨Zka⟩, ⟨Za⟩⟩
    rw [if_pos c6] at H
    have dP : decide ((bt aX 0) ≤ 32) = true := decide_eq_true c6
    clear c6
    by_cases c7 : 1 ≤ (aX.size : Int)
    rotate_left
    ·rw [if_neg c7] at H
     exact absurd H Zv
    rw [if_pos c7] at H
    have dA := eq_true c7
    have iF : decide (1 ≤ (aX.size : Int)) = true := decide_eq_true c7
    clear c7
    have H' := Ya.mk H
    clear H
    have p5 : 0 ≤ (0 : Int) := Zl
    have q5 : 0 < aX.size := (by have : (0 : Int) < (aX.size : Int) := of_decide_eq_true Zc; omega)
    have kK : ∀ h : 0 < aX.size, ((aX[0]'h).toNat : Int) = bt aX 0 := Yab aX 0
    clear p5
    have qi5 : (0 < (aX.size : Int)) = True := eq_true (of_decide_eq_true Zc)
    replace q5 := eq_true q5
    go_wp2
    go_roundg k1
    case measure => have := dD.out; omega
    case rel => exact ⟨(aX.extract 1 aX.size), Zf, H', ⟨Zaa⟩, ⟨Za⟩⟩
 case rest =>
  clear HC2
  try clear c2
  try clear p2
  try clear c3
  try clear cJ
  try clear fY
  try clear c4
  try clear cF
  try clear jL
  try clear p5
  try clear q5
  try clear kK
  try clear qi5
  try clear c6
  try clear dP
  try clear c7
  try clear dA
  try clear iF
  try clear p2
  try clear p5
  try clear q5
  obtain ⟨kq, aX, rfl, HA, HJ1, HB⟩ := hcut
  cases kq with
  | zero => exact absurd HA.out (by simp [Yu.j1])
  | succ kj1 =>
   have H := HA.out
   clear HA
   simp only [Yu.j1] at H
   have HC8 := Ya.mk H
   clear H
   go_upto_block 2 with (fail)
   go_cut [0] (fun v0 wc => ∃ (kq : Nat) (dB : ByteArray), v0 = .string dB ∧ Ya (Yu.j3 kq dB = some r) ∧ Ya (kq ≤ kj1) ∧ Ya (Below w.heap.size w wc))
   case first =>
    have H := HC8.out
    clear HC8
    have H' := Ya.mk H
    clear H
    go_wp2
    go_loopg [0] kj1 (fun kq v0 w' => ∃ (fU : ByteArray), v0 = .string fU ∧ Ya (Yu.l1 kq fU = some r) ∧ Ya (kq ≤ kj1) ∧ Ya (Below w.heap.size w w'))
    case atStart => exact ⟨(aX), Zf, H', ⟨Nat.le_refl _⟩, ⟨Za⟩⟩
    case round =>
     clear H'
     try clear c2
     try clear p2
     try clear c3
     try clear cJ
     try clear fY
     try clear c4
     try clear cF
     try clear jL
     try clear p5
     try clear q5
     try clear kK
     try clear qi5
     try clear c6
     try clear dP
     try clear c7
     try clear dA
     try clear iF
     try clear p2
     try clear p5
     try clear q5
     obtain ⟨fU, rfl, HA, kB, HB⟩ := hrel
     cases gk with
     | zero => exact absurd HA.out (by simp [Yu.l1])
     | succ k2 =>
      have H := HA.out
      clear HA
      simp only [Yu.l1] at H
      by_cases c9 : (fU.size : Int) > 0
      rotate_left
      ·rw [if_neg c9] at H
       have iI : decide (0 < (fU.size : Int)) = false := decide_eq_false c9
       have oF : decide (0 < fU.size) = false := decide_eq_false Zl
       clear c9
       (first | rw [iI] | (simp only [Yma, Yqa]; rw [iI]) | skip)
       have H' := Ya.mk H
       clear H
       go_wp2
       go_meet
       case rel => exact ⟨_, (fU), Zf, H', ⟨by have := HJ1.out; have := kB.out; first | omega | exact Nat.le_refl _⟩, ⟨Za⟩⟩
      rw [if_pos c9] at H
      have iI : decide (0 < (fU.size : Int)) = true := decide_eq_true c9
      have oF : decide (0 < fU.size) = true := decide_eq_true Zl
      clear c9
      (first | rw [iI] | (simp only [Yma, Yqa]; rw [iI]) | skip)
      obtain ⟨ji10, jR⟩ : ∃ j_ : Int, (wrap64 ((fU.size : Int) - 1)) = j_ := ⟨_, rfl⟩
      replace H : (if 0 ≤ (ji10) then (if (ji10) < (fU.size : Int) then (if (bt fU (ji10)) ≤ 32 then (if (ji10) ≤ (fU.size : Int) then (Yu.l1 k2 (fU.extract 0 ((ji10) : Int).toNat)) else (none)) else (Yu.j3 k2 fU)) else (none)) else (none)) = some r := by first | (rw [jR] at H; exact H) | (simp only [jR] at H ⊢; exact H)
      have hji10w : (IntKind.i64.wrap ((fU.size : Int) - 1)) = ji10 := (Yma _).trans jR
      by_cases c11 : 0 ≤ (ji10)
      rotate_left
      ·rw [if_neg c11] at H
       exact absurd H Zv
      rw [if_pos c11] at H
      have gU : decide (0 ≤ (ji10)) = true := decide_eq_true c11
      clear c11
      by_cases dG : (ji10) < (fU.size : Int)
      rotate_left
      ·rw [if_neg dG] at H
       exact absurd H Zv
      rw [if_pos dG] at H
      have dV : decide ((ji10) < (fU.size : Int)) = true := decide_eq_true dG
      clear dG
      by_cases gS : (bt fU (ji10)) ≤ 32
      rotate_left
      ·rw [if_neg gS] at H
       have iH : decide ((bt fU (ji10)) ≤ 32) = false := decide_eq_false gS
       clear gS
       have H' := Ya.mk H
       clear H
       have mO : 0 ≤ ((ji10) : Int) := of_decide_eq_true Zc
       have mP : (ji10) < (fU.size : Int) := of_decide_eq_true Zc
       have tL := Yab fU (ji10)
       replace mO := eq_true mO
       replace mP := eq_true mP
       go_wp2
       go_meet
       case rel => exact ⟨_, (fU), Zf, H', ⟨by have := HJ1.out; have := kB.out; first | omega | exact Nat.le_refl _⟩, ⟨Za⟩⟩
      rw [if_pos gS] at H
      have iH : decide ((bt fU (ji10)) ≤ 32) = true := decide_eq_true gS
      clear gS
      have eU := eq_true (of_decide_eq_true Zc : 0 ≤ (ji10))
      by_cases eP : (ji10) ≤ (fU.size : Int)
      rotate_left
      ·rw [if_neg eP] at H
       exact absurd H Zv
      rw [if_pos eP] at H
      have hJ := eq_true eP
      have kM : decide ((ji10) ≤ (fU.size : Int)) = true := decide_eq_true eP
      clear eP
      have H' := Ya.mk H
      clear H
      have mO : 0 ≤ ((ji10) : Int) := of_decide_eq_true Zc
      have mP : (ji10) < (fU.size : Int) := of_decide_eq_true Zc
      have tL := Yab fU (ji10)
      replace mO := eq_true mO
      replace mP := eq_true mP
      go_wp2
      go_roundg k2
      case measure => have := HJ1.out; have := kB.out; omega
      case rel => exact ⟨(fU.extract 0 ((ji10) : Int).toNat), (by first | rfl | (simp; done) | (simp only [← jR] <;> (first | rfl | simp)) | (simp [*]; done)), H', ⟨by have := HJ1.out; have := kB.out; omega⟩, ⟨Za⟩⟩
   case rest =>
    clear HC8
    try clear c1
    try clear p1
    try clear q1
    try clear xI
    try clear c2
    try clear p2
    try clear c3
    try clear cJ
    try clear fY
    try clear c4
    try clear cF
    try clear jL
    try clear p5
    try clear q5
    try clear kK
    try clear qi5
    try clear c6
    try clear dP
    try clear p6
    try clear c7
    try clear dA
    try clear iF
    try clear c9
    try clear iI
    try clear oF
    try clear c11
    try clear gU
    try clear dG
    try clear dV
    try clear mO
    try clear mP
    try clear tL
    try clear gS
    try clear iH
    try clear dJ
    try clear eU
    try clear eP
    try clear hJ
    try clear kM
    try clear mO
    try clear p2
    try clear p5
    try clear mP
    try clear q5
    obtain ⟨kq, dB, rfl, HA, HJ7, HB⟩ := hcut
    cases kq with
    | zero => exact absurd HA.out (by simp [Yu.j3])
    | succ kj7 =>
     have H := HA.out
     clear HA
     simp only [Yu.j3] at H
     have H' := Ya.mk H
     clear H
     go_wp2
     go_loopg [3, 4] kj7 (fun kq v3 v4 w' => ∃ (gR : List Int) (cI : Int), v4 = .int .i64 cI ∧ Ya (Yu.l2 kq dB gR cI = some r) ∧ Ya (kq ≤ kj7) ∧ Ya (Kd.R (Kd.int .u8) 5 w' w.heap.size (fun _ => True) v3 gR) ∧ Ya (Below w.heap.size w w'))
     case atStart => exact ⟨(([] : List Int)), (0), Zf, H', ⟨Nat.le_refl _⟩, ⟨Zfa⟩, ⟨Za⟩⟩
     case round =>
      clear H'
      try clear c1
      try clear p1
      try clear q1
      try clear xI
      try clear c2
      try clear p2
      try clear c3
      try clear cJ
      try clear fY
      try clear c4
      try clear cF
      try clear jL
      try clear p5
      try clear q5
      try clear kK
      try clear qi5
      try clear c6
      try clear dP
      try clear p6
      try clear c7
      try clear dA
      try clear iF
      try clear c9
      try clear iI
      try clear oF
      try clear c11
      try clear gU
      try clear dG
      try clear dV
      try clear mO
      try clear mP
      try clear tL
      try clear gS
      try clear iH
      try clear dJ
      try clear eU
      try clear eP
      try clear hJ
      try clear kM
      try clear p1
      try clear mO
      try clear p2
      try clear p5
      try clear p6
      try clear q1
      try clear mP
      try clear q5
      obtain ⟨gR, cI, rfl, HA, sW, HO_3, HB⟩ := hrel
      cases gk with
      | zero => exact absurd HA.out (by simp [Yu.l2])
      | succ k3 =>
       have H := HA.out
       clear HA
       simp only [Yu.l2] at H
       by_cases eH : cI < (dB.size : Int)
       rotate_left
       ·rw [if_neg eH] at H
        have jQ : decide (cI < (dB.size : Int)) = false := decide_eq_false eH
        clear eH
        obtain rfl := Option.some.inj H
        have aXB := Ygh (P := Tryz.prog) Tryz.underlying62 Tryz.underlying5 Tryz.underlying9 (Kd.own_of_R HO_3.out)
        go_wp2
        go_ret
        exact ⟨Zk, Za⟩
       rw [if_pos eH] at H
       have jQ : decide (cI < (dB.size : Int)) = true := decide_eq_true eH
       clear eH
       by_cases eQ : 0 ≤ cI
       rotate_left
       ·rw [if_neg eQ] at H
        exact absurd H Zv
       rw [if_pos eQ] at H
       have oG : decide (0 ≤ cI) = true := decide_eq_true eQ
       clear eQ
       by_cases hD : (bt dB cI) = 9
       ·rw [if_pos hD] at H
        have kJ : ((bt dB cI) == 9) = true := beq_iff_eq.mpr hD
        have tK : ((bt dB cI) != 9) = false := bne_eq_false_iff_eq.mpr hD
        clear hD
        have H' := Ya.mk H
        clear H
        have p19 : 0 ≤ (cI : Int) := of_decide_eq_true Zc
        have q19 : cI < (dB.size : Int) := of_decide_eq_true Zc
        have aGE := Yab dB cI
        replace p19 := eq_true p19
        replace q19 := eq_true q19
        go_wp2
        go_roundg k3
        case measure => have := HJ1.out; have := HJ7.out; have := sW.out; omega
        case rel => exact ⟨(gR), (wrap64 (cI + 1)), Zf, H', ⟨Zlb⟩, ⟨Zm⟩, ⟨Za⟩⟩
       rw [if_neg hD] at H
       have kJ : ((bt dB cI) == 9) = false := beq_eq_false_iff_ne.mpr hD
       have tK : ((bt dB cI) != 9) = true := bne_iff_ne.mpr hD
       by_cases iJ : (bt dB cI) = 10
       ·rw [if_pos iJ] at H
        have lT : ((bt dB cI) == 10) = true := beq_iff_eq.mpr iJ
        have oS : ((bt dB cI) != 10) = false := bne_eq_false_iff_eq.mpr iJ
        clear iJ
        have H' := Ya.mk H
        clear H
        have p19 : 0 ≤ (cI : Int) := of_decide_eq_true Zc
        have q19 : cI < (dB.size : Int) := of_decide_eq_true Zc
        have aGE := Yab dB cI
        replace p19 := eq_true p19
        replace q19 := eq_true q19
        have p21 : 0 ≤ (cI : Int) := of_decide_eq_true Zc
        have q21 : cI < (dB.size : Int) := of_decide_eq_true Zc
        have aDF := Yab dB cI
        replace p21 := eq_true p21
        replace q21 := eq_true q21
        go_wp2
        go_roundg k3
        case measure => have := HJ1.out; have := HJ7.out; have := sW.out; omega
        case rel => exact ⟨(gR), (wrap64 (cI + 1)), Zf, H', ⟨Zlb⟩, ⟨Zm⟩, ⟨Za⟩⟩
       rw [if_neg iJ] at H
       have lT : ((bt dB cI) == 10) = false := beq_eq_false_iff_ne.mpr iJ
       have oS : ((bt dB cI) != 10) = true := bne_iff_ne.mpr iJ
       by_cases kE : (bt dB cI) = 13
       ·rw [if_pos kE] at H
        have qP : ((bt dB cI) == 13) = true := beq_iff_eq.mpr kE
        have qQ : ((bt dB cI) != 13) = false := bne_eq_false_iff_eq.mpr kE
        clear kE
        have H' := Ya.mk H
        clear H
        have p19 : 0 ≤ (cI : Int) := of_decide_eq_true Zc
        have q19 : cI < (dB.size : Int) := of_decide_eq_true Zc
        have aGE := Yab dB cI
        replace p19 := eq_true p19
        replace q19 := eq_true q19
        have p21 : 0 ≤ (cI : Int) := of_decide_eq_true Zc
        have q21 : cI < (dB.size : Int) := of_decide_eq_true Zc
        have aDF := Yab dB cI
        replace p21 := eq_true p21
        replace q21 := eq_true q21
        have p23 : 0 ≤ (cI : Int) := of_decide_eq_true Zc
        have q23 : cI < (dB.size : Int) := of_decide_eq_true Zc
        have aWw := Yab dB cI
        replace p23 := eq_true p23
        replace q23 := eq_true q23
        go_wp2
        go_roundg k3
        case measure => have := HJ1.out; have := HJ7.out; have := sW.out; omega
        case rel => exact ⟨(gR), (wrap64 (cI + 1)), Zf, H', ⟨Zlb⟩, ⟨Zm⟩, ⟨Za⟩⟩
       rw [if_neg kE] at H
       have qP : ((bt dB cI) == 13) = false := beq_eq_false_iff_ne.mpr kE
       have qQ : ((bt dB cI) != 13) = true := bne_iff_ne.mpr kE
       by_cases wH : gR.length < 140737488355328
       rotate_left
       ·rw [if_neg wH] at H
        exact absurd H Zv
       rw [if_pos wH] at H
       have aKv := Ya.mk wH
       clear wH
       obtain ⟨aKw, uT⟩ : ∃ y_ : List Int, y_ = (gR ++ [bt dB cI]) := ⟨_, rfl⟩
       replace H : (Yu.l2 k3 dB aKw (wrap64 (cI + 1))) = some r := by first | (rw [uT]; with_reducible exact H) | (have dK := (Option.bind_some _ _).symm.trans H; rw [uT]; with_reducible exact dK) | (have dK := (Option.bind_some _ _).symm.trans H; with_reducible exact dK) | with_reducible exact H | (rw [uT]; exact H) | exact H
       have aKx := Ya.mk uT
       clear uT
       have H' := Ya.mk H
       clear H
       have p19 : 0 ≤ (cI : Int) := of_decide_eq_true Zc
       have q19 : cI < (dB.size : Int) := of_decide_eq_true Zc
       have aGE := Yab dB cI
       replace p19 := eq_true p19
       replace q19 := eq_true q19
       have p21 : 0 ≤ (cI : Int) := of_decide_eq_true Zc
       have q21 : cI < (dB.size : Int) := of_decide_eq_true Zc
       have aDF := Yab dB cI
       replace p21 := eq_true p21
       replace q21 := eq_true q21
       have p23 : 0 ≤ (cI : Int) := of_decide_eq_true Zc
       have q23 : cI < (dB.size : Int) := of_decide_eq_true Zc
       have aWw := Yab dB cI
       replace p23 := eq_true p23
       replace q23 := eq_true q23
       have p25 : 0 ≤ (cI : Int) := of_decide_eq_true Zc
       have q25 : cI < (dB.size : Int) := of_decide_eq_true Zc
       have aYG := Yab dB cI
       replace p25 := eq_true p25
       replace q25 := eq_true q25
       go_wp2_with (first | ((with_reducible refine Yge (b := .append) (xs := #[.tmp 53, .tmp 57]) rfl ?_); (try (refine Yli Zja ?_; dsimp only)); at_builtin; refine Kd.R_append (Kd.int .u8) (w0 := w) w.heap.size rfl (.tmp 53) (.tmp 57) 62 5 (.int .u8 0) 1 rfl Tryz.underlying62 Ytl rfl Zea Zl u3 gR (bt dB cI) [.int .u8 (bt dB cI)] (fun _ => True) (fun _ => False) rfl rfl ?aP (fun _ hk => hk.elim) ?aF ?aO ?aB ?aS ?aL ?_; (case aP => exact rfl); (case aB => exact Za); (case aF => exact (fun _ _ => trivial)); (case aO => exact Zm); (case aS => exact (Yda Za)); (case aL => have := aKv.out; omega); intro aYH w27 ho hb hg hat; rw [← aKx.out] at ho; have aM := Ya.mk (hb); have aU := Ya.mk (ho); clear HB; clear HO_3; have HB := aM; have aKy := aU; clear aM aU; clear ho hb hg hat))
       go_roundg k3
       case measure => have := HJ1.out; have := HJ7.out; have := sW.out; omega
       case rel => exact ⟨(aKw), (wrap64 (cI + 1)), Zf, H', ⟨Zlb⟩, ⟨by (with_reducible repeat (first | apply Kd.R_alloc | apply Kd.R_drewN | apply Kd.R_drew)); exact aKy.out⟩, ⟨Za⟩⟩
end Go.Proofs.YtnmglnglbdpjjaaGreatDoor.X
