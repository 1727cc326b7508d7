/- Printed by a program of ours: functions as plain Lean, and what a call of each does. -/
import Derived.Test.YtnmglnglbdpjjaaGreatDoorUkWords
import Derived.Test.YtnmglnglbdpjjaaGreatDoorUkX0
import Derived.Test.YtnmglnglbdpjjaaGreatDoorUkX5
import Derived.Test.YtnmglnglbdpjjaaGreatDoorUkX6
namespace Go.Proofs.YtnmglnglbdpjjaaGreatDoor.X
open Go.RowKit Go.Yw.PrintWords Go.Yw.PrintLast Go.Yw.PrintMore
attribute [local go_sem] Yde Yee Ywe Yve Ypd Yod Yce Ybe
set_option linter.unusedVariables false
set_option linter.unusedSimpArgs false
set_option maxHeartbeats 8000000
set_option maxRecDepth 100000
def Ycb.l0 : Nat → ByteArray → Int → Option (Int)
 | 0, _, _ => none
 | k + 1, x0, x3 => if (x0.size : Int) > 0 then (if 0 < (x0.size : Int) then (if (bt x0 0) = 46 then (if 1 ≤ (x0.size : Int) then (Ycb.l0 k (x0.extract 1 x0.size) (wrap64 (x3 + 1))) else (none)) else (if (x0.size : Int) > 2 then (if 0 ≤ 3 then (if 3 ≤ (x0.size : Int) then ((Yka.f k (x0.extract 0 3)).bind fun lJ => (if lJ.toList = ([37, 50, 101] : List UInt8) then (Ycb.l0 k (x0.extract 3 x0.size) (wrap64 (x3 + 1))) else (some 0))) else (none)) else (none)) else (some 0))) else (none)) else (if x3 > 2 then (some 0) else (some x3))
def Ycb.f (k : Nat) (a0 : ByteArray) : Option (Int) := Ycb.l0 k a0 0
theorem Ycb.calls (k : Nat) (a0 : ByteArray) (r : Int) (w : World) (hE : EnvOk w) (h : Ycb.f k a0 = some r) :
  Calls Tryz.prog 65 #[.string a0] w fun e w' => e = .returned (.int .i64 r) ∧ Below w.heap.size w w' := by
 have HE := Ya.mk hE
 clear hE
 have HB := Ya.mk (Below.refl w.heap.size w)
 have H : (Ycb.l0 k a0 0) = some r := h
 clear h
 have H' := Ya.mk H
 clear H
 go_enter Tryz.func65, Tryz.ntmps65
 go_wp2
 go_loopg [0, 3] k (fun kq v0 v3 w' => ∃ (aX : ByteArray) (aE : Int), v0 = .string aX ∧ v3 = .int .i64 aE ∧ Ya (Ycb.l0 kq aX aE = some r) ∧ Ya (kq ≤ k) ∧ Ya (Below w.heap.size w w'))
 case atStart => exact ⟨(a0), (0), Zf, Zf, H', ⟨Nat.le_refl _⟩, ⟨Za⟩⟩
 case round =>
  clear H'
  obtain ⟨aX, aE, rfl, rfl, HA, dD, HB⟩ := hrel
  cases gk with
  | zero => exact absurd HA.out (by simp [Ycb.l0])
  | succ k1 =>
   have H := HA.out
   clear HA
   simp only [Ycb.l0] at H
   by_cases c2 : (aX.size : Int) > 0
   rotate_left
   ·rw [if_neg c2] at H
    have eT : decide (0 < (aX.size : Int)) = false := decide_eq_false c2
    have kG : decide (0 < aX.size) = false := decide_eq_false Zl
    clear c2
    by_cases dJ : aE > 2
    ·rw [if_pos dJ] at H
     have eU : decide (2 < aE) = true := decide_eq_true dJ
     clear dJ
     obtain rfl := Option.some.inj H
     go_wp2
     go_ret
     exact ⟨Zk, Za⟩
    rw [if_neg dJ] at H
    have eU : decide (2 < aE) = false := decide_eq_false dJ
    clear dJ
    obtain rfl := Option.some.inj H
    go_wp2
    go_ret
    exact ⟨Zk, Za⟩
   rw [if_pos c2] at H
   have eT : decide (0 < (aX.size : Int)) = true := decide_eq_true c2
   have kG : decide (0 < aX.size) = true := decide_eq_true Zl
   clear c2
   by_cases c3 : 0 < (aX.size : Int)
   rotate_left
   ·rw [if_neg c3] at H
    exact absurd H Zv
   rw [if_pos c3] at H
   have cJ : decide (0 < (aX.size : Int)) = true := decide_eq_true c3
   have fY : decide (0 < aX.size) = true := decide_eq_true Zl
   clear c3
   by_cases c5 : (bt aX 0) = 46
   ·rw [if_pos c5] at H
    have dL : ((bt aX 0) == 46) = true := beq_iff_eq.mpr c5
    have rA : ((bt aX 0) != 46) = false := bne_eq_false_iff_eq.mpr c5
    clear c5
    by_cases c6 : 1 ≤ (aX.size : Int)
    rotate_left
    ·rw [if_neg c6] at H
     exact absurd H Zv
    rw [if_pos c6] at H
    have dP := eq_true c6
    have jF : decide (1 ≤ (aX.size : Int)) = true := decide_eq_true c6
    clear c6
    have H' := Ya.mk H
    clear H
    have p4 : 0 ≤ (0 : Int) := Zl
    have q4 : 0 < aX.size := (by have : (0 : Int) < (aX.size : Int) := of_decide_eq_true Zc; omega)
    have kN : ∀ h : 0 < aX.size, ((aX[0]'h).toNat : Int) = bt aX 0 := Yab aX 0
    clear p4
    have qi4 : (0 < (aX.size : Int)) = True := eq_true (of_decide_eq_true Zc)
    replace q4 := eq_true q4
    go_wp2
    go_roundg k1
    case measure => have := dD.out; omega
    case rel => exact ⟨(aX.extract 1 aX.size), (wrap64 (aE + 1)), Zf, Zf, H', ⟨Zaa⟩, ⟨Za⟩⟩
   rw [if_neg c5] at H
   have dL : ((bt aX 0) == 46) = false := beq_eq_false_iff_ne.mpr c5
   have rA : ((bt aX 0) != 46) = true := bne_iff_ne.mpr c5
   by_cases c7 : (aX.size : Int) > 2
   rotate_left
   ·rw [if_neg c7] at H
    have dA : decide (2 < (aX.size : Int)) = false := decide_eq_false c7
    have iF : decide (2 < aX.size) = false := decide_eq_false Zl
    clear c7
    obtain rfl := Option.some.inj H
    have p4 : 0 ≤ (0 : Int) := Zl
    have q4 : 0 < aX.size := (by have : (0 : Int) < (aX.size : Int) := of_decide_eq_true Zc; omega)
    have kN : ∀ h : 0 < aX.size, ((aX[0]'h).toNat : Int) = bt aX 0 := Yab aX 0
    clear p4
    have qi4 : (0 < (aX.size : Int)) = True := eq_true (of_decide_eq_true Zc)
    replace q4 := eq_true q4
    go_wp2
    go_ret
    exact ⟨Zk, Za⟩
   rw [if_pos c7] at H
   have dA : decide (2 < (aX.size : Int)) = true := decide_eq_true c7
   have iF : decide (2 < aX.size) = true := decide_eq_true Zl
   clear c7
   by_cases c8 : 0 ≤ 3
   rotate_left
   ·rw [if_neg c8] at H
    exact absurd H Zv
   rw [if_pos c8] at H
   have gZ := eq_true c8
   have jE : decide (0 ≤ 3) = true := decide_eq_true c8
   clear c8
   by_cases c9 : 3 ≤ (aX.size : Int)
   rotate_left
   ·rw [if_neg c9] at H
    exact absurd H Zv
   rw [if_pos c9] at H
   have iI := eq_true c9
   have oF : decide (3 ≤ (aX.size : Int)) = true := decide_eq_true c9
   clear c9
   replace H := Option.bind_eq_some_iff.mp H
   obtain ⟨lJ, aBO, H⟩ := H
   try dsimp -simprocs only at H
   have A10 := Ya.mk aBO
   clear aBO
   by_cases c11 : lJ.toList = ([37, 50, 101] : List UInt8)
   rotate_left
   ·rw [if_neg c11] at H
    have gU : (lJ.toList == ([37, 50, 101] : List UInt8)) = false := beq_eq_false_iff_ne.mpr c11
    have qM : (lJ.toList != ([37, 50, 101] : List UInt8)) = true := bne_iff_ne.mpr c11
    obtain rfl := Option.some.inj H
    have p4 : 0 ≤ (0 : Int) := Zl
    have q4 : 0 < aX.size := (by have : (0 : Int) < (aX.size : Int) := of_decide_eq_true Zc; omega)
    have kN : ∀ h : 0 < aX.size, ((aX[0]'h).toNat : Int) = bt aX 0 := Yab aX 0
    clear p4
    have qi4 : (0 < (aX.size : Int)) = True := eq_true (of_decide_eq_true Zc)
    replace q4 := eq_true q4
    go_wp2_with (first | (go_at_call 47; (with_reducible refine (Yka.calls k1 (aX.extract 0 3) lJ _ ?side1 A10.out).mono ?_); (case side1 => first | exact HE.out | exact EnvOk.below HE.out Za); rintro e w14 ⟨rfl, hb⟩; have aM := Ya.mk (Ys Za hb); clear HB; have HB := aM; clear aM; (try clear hb); (try clear cC); (try clear hk); (try clear hi)))
    go_ret
    exact ⟨Zk, Za⟩
   rw [if_pos c11] at H
   have gU : (lJ.toList == ([37, 50, 101] : List UInt8)) = true := beq_iff_eq.mpr c11
   have qM : (lJ.toList != ([37, 50, 101] : List UInt8)) = false := bne_eq_false_iff_eq.mpr c11
   clear c11
   have dV := eq_true (of_decide_eq_true Zc : 3 ≤ (aX.size : Int))
   have H' := Ya.mk H
   clear H
   have p4 : 0 ≤ (0 : Int) := Zl
   have q4 : 0 < aX.size := (by have : (0 : Int) < (aX.size : Int) := of_decide_eq_true Zc; omega)
   have kN : ∀ h : 0 < aX.size, ((aX[0]'h).toNat : Int) = bt aX 0 := Yab aX 0
   clear p4
   have qi4 : (0 < (aX.size : Int)) = True := eq_true (of_decide_eq_true Zc)
   replace q4 := eq_true q4
   go_wp2_with (first | (go_at_call 47; (with_reducible refine (Yka.calls k1 (aX.extract 0 3) lJ _ ?side1 A10.out).mono ?_); (case side1 => first | exact HE.out | exact EnvOk.below HE.out Za); rintro e nN ⟨rfl, hb⟩; have aM := Ya.mk (Ys Za hb); clear HB; have HB := aM; clear aM; (try clear hb); (try clear cC); (try clear hk); (try clear hi)))
   go_roundg k1
   case measure => have := dD.out; omega
   case rel => exact ⟨(aX.extract 3 aX.size), (wrap64 (aE + 1)), Zf, Zf, H', ⟨Zaa⟩, ⟨Za⟩⟩
def Yib.l0 : Nat → ByteArray → List ByteArray → ByteArray → Int → Option (ByteArray)
 | 0, _, _, _, _ => none
 | k + 1, x0, x1, x5, x6 => if x6 < (x1.length : Int) then (if x6 > 0 then (if x5.size + x0.size ≤ 9223372036854775807 then (if 0 ≤ x6 then (if (x5 ++ x0).size + (rdOf ByteArray.empty x1 x6).size ≤ 9223372036854775807 then (Yib.l0 k x0 x1 ((x5 ++ x0) ++ (rdOf ByteArray.empty x1 x6)) (wrap64 (x6 + 1))) else (none)) else (none)) else (none)) else (if 0 ≤ x6 then (if x5.size + (rdOf ByteArray.empty x1 x6).size ≤ 9223372036854775807 then (Yib.l0 k x0 x1 (x5 ++ (rdOf ByteArray.empty x1 x6)) (wrap64 (x6 + 1))) else (none)) else (none))) else (some x5)
def Yib.f (k : Nat) (a0 : ByteArray) (l1 : List ByteArray) : Option (ByteArray) := Yib.l0 k a0 l1 (⟨#[]⟩ : ByteArray) 0
theorem Yib.calls (k : Nat) (a0 : ByteArray) (A1 : Option Addr) (c1 : Nat) (l1 : List ByteArray) (r : ByteArray) (w : World) (hE : EnvOk w) (hr1 : Kd.C Kd.string w A1 l1.length l1) (bM : l1.length ≤ c1) (h : Yib.f k a0 l1 = some r) :
  Calls Tryz.prog 66 #[.string a0, .slice A1 l1.length c1] w fun e w' => e = .returned (.string r) ∧ Drawn0 w w' := by
 have HR1 := Ya.mk hr1
 have HC1 := Ya.mk bM
 clear hr1 bM
 have HE := Ya.mk hE
 clear hE
 have H : (Yib.l0 k a0 l1 (⟨#[]⟩ : ByteArray) 0) = some r := h
 clear h
 have H' := Ya.mk H
 clear H
 go_enter Tryz.func66, Tryz.ntmps66
 go_wp2
 go_loopg [5, 6] k (fun kq v5 v6 w' => ∃ (bA : ByteArray) (aD : Int), v5 = .string bA ∧ v6 = .int .i64 aD ∧ Ya (Yib.l0 kq a0 l1 bA aD = some r) ∧ Ya (kq ≤ k) ∧ Drawn0 w w')
 case atStart => exact ⟨((⟨#[]⟩ : ByteArray)), (0), Zf, Zf, H', ⟨Nat.le_refl _⟩, Zh⟩
 case round =>
  clear H'
  try clear c1
  try clear p2
  obtain ⟨bA, aD, rfl, rfl, HA, dD, ⟨m1, rfl⟩⟩ := hrel
  cases gk with
  | zero => exact absurd HA.out (by simp [Yib.l0])
  | succ k1 =>
   have H := HA.out
   clear HA
   simp only [Yib.l0] at H
   by_cases c3 : aD < (l1.length : Int)
   rotate_left
   ·rw [if_neg c3] at H
    have cJ : decide (aD < (l1.length : Int)) = false := decide_eq_false c3
    clear c3
    obtain rfl := Option.some.inj H
    go_wp2
    go_ret
    exact ⟨Zf, Zh⟩
   rw [if_pos c3] at H
   have cJ : decide (aD < (l1.length : Int)) = true := decide_eq_true c3
   clear c3
   by_cases c4 : aD > 0
   rotate_left
   ·rw [if_neg c4] at H
    have cF : decide (0 < aD) = false := decide_eq_false c4
    clear c4
    by_cases c8 : 0 ≤ aD
    rotate_left
    ·rw [if_neg c8] at H
     exact absurd H Zv
    rw [if_pos c8] at H
    have gZ : decide (0 ≤ aD) = true := decide_eq_true c8
    clear c8
    by_cases c9 : bA.size + (rdOf ByteArray.empty l1 aD).size ≤ 9223372036854775807
    rotate_left
    ·rw [if_neg c9] at H
     exact absurd H Zv
    rw [if_pos c9] at H
    have iI := eq_true c9
    have oF : decide (bA.size + (rdOf ByteArray.empty l1 aD).size ≤ 9223372036854775807) = true := decide_eq_true c9
    try have aBk : (9223372036854775807 < bA.size + (rdOf ByteArray.empty l1 aD).size) = False := eq_false (Nat.not_lt.2 c9)
    have H' := Ya.mk H
    clear H
    have aGm : 0 ≤ (aD : Int) := of_decide_eq_true Zc
    have aGn : aD < (l1.length : Int) := of_decide_eq_true Zc
    obtain ⟨aXu, aWh, aSY⟩ := Kd.at_string HR1.out aD aGm aGn
    cases aWh
    replace aGm := eq_true aGm
    replace aGn := eq_true aGn
    go_wp2
    go_roundg k1
    case measure => have := dD.out; omega
    case rel => exact ⟨(bA ++ (rdOf ByteArray.empty l1 aD)), (wrap64 (aD + 1)), Zf, Zf, H', ⟨Zaa⟩, Zh⟩
   rw [if_pos c4] at H
   have cF : decide (0 < aD) = true := decide_eq_true c4
   clear c4
   by_cases c5 : bA.size + a0.size ≤ 9223372036854775807
   rotate_left
   ·rw [if_neg c5] at H
    exact absurd H Zv
   rw [if_pos c5] at H
   have dL := eq_true c5
   have rA : decide (bA.size + a0.size ≤ 9223372036854775807) = true := decide_eq_true c5
   try have aVy : (9223372036854775807 < bA.size + a0.size) = False := eq_false (Nat.not_lt.2 c5)
   by_cases c6 : 0 ≤ aD
   rotate_left
   ·rw [if_neg c6] at H
    exact absurd H Zv
   rw [if_pos c6] at H
   have dP : decide (0 ≤ aD) = true := decide_eq_true c6
   clear c6
   by_cases c7 : (bA ++ a0).size + (rdOf ByteArray.empty l1 aD).size ≤ 9223372036854775807
   rotate_left
   ·rw [if_neg c7] at H
    exact absurd H Zv
   rw [if_pos c7] at H
   have dA := eq_true c7
   have iF : decide ((bA ++ a0).size + (rdOf ByteArray.empty l1 aD).size ≤ 9223372036854775807) = true := decide_eq_true c7
   try have aYr : (9223372036854775807 < (bA ++ a0).size + (rdOf ByteArray.empty l1 aD).size) = False := eq_false (Nat.not_lt.2 c7)
   have H' := Ya.mk H
   clear H
   have aGo : 0 ≤ (aD : Int) := of_decide_eq_true Zc
   have aGp : aD < (l1.length : Int) := of_decide_eq_true Zc
   obtain ⟨aXv, aWi, aSZ⟩ := Kd.at_string HR1.out aD aGo aGp
   cases aWi
   replace aGo := eq_true aGo
   replace aGp := eq_true aGp
   go_wp2
   go_roundg k1
   case measure => have := dD.out; omega
   case rel => exact ⟨((bA ++ a0) ++ (rdOf ByteArray.empty l1 aD)), (wrap64 (aD + 1)), Zf, Zf, H', ⟨Zaa⟩, Zh⟩
def Ypa.l0 : Nat → ByteArray → ByteArray → Int → Option (Int)
 | 0, _, _, _ => none
 | k + 1, x0, x1, x5 => if x5 < (x0.size : Int) then (if 0 ≤ x5 then ((Yha.f k (bt x0 x5) x1).bind fun wL => (if wL = true then (some x5) else (Ypa.l0 k x0 x1 (wrap64 (x5 + 1))))) else (none)) else (some x5)
def Ypa.f (k : Nat) (a0 a1 : ByteArray) : Option (Int) := Ypa.l0 k a0 a1 0
theorem Ypa.calls (k : Nat) (a0 a1 : ByteArray) (r : Int) (w : World) (hE : EnvOk w) (h : Ypa.f k a0 a1 = some r) :
  Calls Tryz.prog 49 #[.string a0, .string a1] w fun e w' => e = .returned (.int .i64 r) ∧ Drawn0 w w' := by
 have HE := Ya.mk hE
 clear hE
 have H : (Ypa.l0 k a0 a1 0) = some r := h
 clear h
 have H' := Ya.mk H
 clear H
 go_enter Tryz.func49, Tryz.ntmps49
 go_wp2
 go_loopg [5] k (fun kq v5 w' => ∃ (bA : Int), v5 = .int .i64 bA ∧ Ya (Ypa.l0 kq a0 a1 bA = some r) ∧ Ya (kq ≤ k) ∧ Drawn0 w w')
 case atStart => exact ⟨(0), Zf, H', ⟨Nat.le_refl _⟩, Zh⟩
 case round =>
  clear H'
  try clear p2
  obtain ⟨bA, rfl, HA, dD, ⟨m1, rfl⟩⟩ := hrel
  cases gk with
  | zero => exact absurd HA.out (by simp [Ypa.l0])
  | succ k1 =>
   have H := HA.out
   clear HA
   simp only [Ypa.l0] at H
   by_cases c3 : bA < (a0.size : Int)
   rotate_left
   ·rw [if_neg c3] at H
    have cJ : decide (bA < (a0.size : Int)) = false := decide_eq_false c3
    clear c3
    obtain rfl := Option.some.inj H
    go_wp2
    go_ret
    exact ⟨Zf, Zh⟩
   rw [if_pos c3] at H
   have cJ : decide (bA < (a0.size : Int)) = true := decide_eq_true c3
   clear c3
   by_cases c4 : 0 ≤ bA
   rotate_left
   ·rw [if_neg c4] at H
    exact absurd H Zv
   rw [if_pos c4] at H
   have cF : decide (0 ≤ bA) = true := decide_eq_true c4
   clear c4
   replace H := Option.bind_eq_some_iff.mp H
   obtain ⟨wL, qI, H⟩ := H
   try dsimp -simprocs only at H
   have A6 := Ya.mk qI
   clear qI
   by_cases c7 : wL = true
   ·subst c7
    rw [if_pos rfl] at H
    obtain rfl := Option.some.inj H
    have p5 : 0 ≤ (bA : Int) := of_decide_eq_true Zc
    have q5 : bA < (a0.size : Int) := of_decide_eq_true Zc
    have kK := Yab a0 bA
    replace p5 := eq_true p5
    replace q5 := eq_true q5
    go_wp2_with (first | (go_at_call 88; (with_reducible refine (Yha.calls k1 (bt a0 bA) a1 true _ ?side1 A6.out).mono ?_); (case side1 => first | exact HE.out | exact EnvOk.heap HE.out rfl); rintro e w' ⟨rfl, ⟨nd, rfl⟩⟩))
    go_ret
    exact ⟨Zf, Zh⟩
   replace c7 := Bool.eq_false_iff.mpr c7
   subst c7
   rw [if_neg (show ¬ (false = true) by decide)] at H
   have H' := Ya.mk H
   clear H
   have p5 : 0 ≤ (bA : Int) := of_decide_eq_true Zc
   have q5 : bA < (a0.size : Int) := of_decide_eq_true Zc
   have kK := Yab a0 bA
   replace p5 := eq_true p5
   replace q5 := eq_true q5
   go_wp2_with (first | (go_at_call 88; (with_reducible refine (Yha.calls k1 (bt a0 bA) a1 false _ ?side1 A6.out).mono ?_); (case side1 => first | exact HE.out | exact EnvOk.heap HE.out rfl); rintro e w' ⟨rfl, ⟨nd, rfl⟩⟩))
   go_roundg k1
   case measure => have := dD.out; omega
   case rel => exact ⟨(wrap64 (bA + 1)), Zf, H', ⟨Zaa⟩, Zh⟩
def Yla.j0 : Nat → Int → Bool → Option (Int)
 | 0, _, _ => none
 | k + 1, x0, x9 => if x9 = true then (some (((x0 - 97) % 256) + 10)) else (if x0 ≥ 65 then (if x0 ≤ 70 then (some (((x0 - 65) % 256) + 10)) else (some 16)) else (some 16))
def Yla.f (k : Nat) (a0 : Int) : Option (Int) := (Yy.f a0).bind fun aBW => (if aBW = true then (some ((a0 - 48) % 256)) else (if a0 ≥ 97 then (Yla.j0 k a0 (decide (a0 ≤ 102))) else (Yla.j0 k a0 false)))
theorem Yla.mono_l : ∀ k, (∀ y0 y1, LeO (Yla.j0 k y0 y1) (Yla.j0 (k + 1) y0 y1))
 | 0 => fun _ _ r h => by simp [Yla.j0] at h
 | k + 1 => by
  have tC := Yla.mono_l k
  ·intro y0 y1
   unfold Yla.j0
   repeat' first
   | (with_reducible exact tC _ _)
   | (with_reducible exact LeO.refl _)
   | (with_reducible exact LeO.none _)
   | (with_reducible refine LeO.ite ?_ ?_)
   | (with_reducible refine LeO.bind ?_ (fun _ => ?_))
   | exact tC _ _
   | exact LeO.none _
   | refine LeO.ite ?_ ?_
   | refine LeO.bind ?_ (fun _ => ?_)
theorem Yla.mono : ∀ a0 k, LeO (Yla.f k a0) (Yla.f (k + 1) a0) := by
 intro a0 k
 have tC := Yla.mono_l k
 unfold Yla.f
 repeat' first
   | (with_reducible exact tC _ _)
   | (with_reducible exact LeO.refl _)
   | (with_reducible exact LeO.none _)
   | (with_reducible refine LeO.ite ?_ ?_)
   | (with_reducible refine LeO.bind ?_ (fun _ => ?_))
   | exact tC _ _
   | exact LeO.none _
   | refine LeO.ite ?_ ?_
   | refine LeO.bind ?_ (fun _ => ?_)
theorem Yla.calls (k : Nat) (a0 r : Int) (w : World) (hE : EnvOk w) (h : Yla.f k a0 = some r) :
  Calls Tryz.prog 123 #[.int .u8 a0] w fun e w' => e = .returned (.int .u32 r) ∧ Drawn0 w w' := by
 have HE := Ya.mk hE
 clear hE
 have H : ((Yy.f a0).bind fun aBW => (if aBW = true then (some ((a0 - 48) % 256)) else (if a0 ≥ 97 then (Yla.j0 k a0 (decide (a0 ≤ 102))) else (Yla.j0 k a0 false)))) = some r := h
 clear h
 replace H := Option.bind_eq_some_iff.mp H
 obtain ⟨aBW, dU, H⟩ := H
 try dsimp -simprocs only at H
 have A2 := Ya.mk dU
 clear dU
 by_cases c3 : aBW = true
 ·subst c3
  rw [if_pos rfl] at H
  obtain rfl := Option.some.inj H
  go_enter Tryz.func123, Tryz.ntmps123
  go_wp2_with (first | ((with_reducible refine Yh (f := 87) rfl ?_); refine Yba (some 5) rfl rfl Tryz.func87 Zi rfl #[.int .u8 a0] rfl Zb ?_; (with_reducible refine (Yy.calls a0 true _ ?side1 A2.out).mono ?_); (case side1 => first | exact HE.out | exact EnvOk.heap HE.out rfl); rintro e w' ⟨rfl, ⟨nd, rfl⟩⟩; refine ⟨_, rfl, ?_⟩))
  go_ret
  exact ⟨Zf, Zh⟩
 replace c3 := Bool.eq_false_iff.mpr c3
 subst c3
 rw [if_neg (show ¬ (false = true) by decide)] at H
 have HC4 := Ya.mk H
 clear H
 go_enter Tryz.func123, Tryz.ntmps123
 go_upto_region 3 with (first | ((with_reducible refine Yh (f := 87) rfl ?_); refine Yba (some 5) rfl rfl Tryz.func87 Zi rfl #[.int .u8 a0] rfl Zb ?_; (with_reducible refine (Yy.calls a0 false _ ?side1 A2.out).mono ?_); (case side1 => first | exact HE.out | exact EnvOk.heap HE.out rfl); rintro e w' ⟨rfl, ⟨nd, rfl⟩⟩; refine ⟨_, rfl, ?_⟩))
 (try simp only [Act.put, List.setIfInBounds_toArray, List.set_cons_zero, List.set_cons_succ])
 go_cut [9] (fun v9 wc => ∃ (kq : Nat) (aEf : Bool), v9 = .bool aEf ∧ Ya (Yla.j0 kq a0 aEf = some r) ∧ Ya (kq ≤ k) ∧ Drawn0 w wc)
 case first =>
  have H := HC4.out
  clear HC4
  by_cases c5 : a0 ≥ 97
  rotate_left
  ·rw [if_neg c5] at H
   have dL : decide (97 ≤ a0) = false := decide_eq_false c5
   clear c5
   (first | rw [dL] | (simp only [Yma, Yqa]; rw [dL]) | skip)
   have H' := Ya.mk H
   clear H
   go_wp2
   go_meet
   case rel => exact ⟨_, (false), Zf, H', ⟨Zna⟩, Zh⟩
  rw [if_pos c5] at H
  have dL : decide (97 ≤ a0) = true := decide_eq_true c5
  clear c5
  (first | rw [dL] | (simp only [Yma, Yqa]; rw [dL]) | skip)
  have H' := Ya.mk H
  clear H
  go_wp2
  go_meet
  case rel => exact ⟨_, (decide (a0 ≤ 102)), Zf, H', ⟨Zna⟩, Zh⟩
 case rest =>
  clear HC4
  try clear c1
  try clear p2
  try clear c3
  try clear c5
  try clear dL
  obtain ⟨kq, aEf, rfl, HA, HJ3, ⟨mc3, rfl⟩⟩ := hcut
  cases kq with
  | zero => exact absurd HA.out (by simp [Yla.j0])
  | succ kj3 =>
   have H := HA.out
   clear HA
   simp only [Yla.j0] at H
   by_cases c6 : aEf = true
   ·subst c6
    rw [if_pos rfl] at H
    obtain rfl := Option.some.inj H
    go_wp2
    go_ret
    exact ⟨Zf, Zh⟩
   replace c6 := Bool.eq_false_iff.mpr c6
   subst c6
   rw [if_neg (show ¬ (false = true) by decide)] at H
   by_cases c7 : a0 ≥ 65
   rotate_left
   ·rw [if_neg c7] at H
    have dA : decide (65 ≤ a0) = false := decide_eq_false c7
    clear c7
    obtain rfl := Option.some.inj H
    go_wp2
    go_ret
    exact ⟨Zf, Zh⟩
   rw [if_pos c7] at H
   have dA : decide (65 ≤ a0) = true := decide_eq_true c7
   clear c7
   by_cases c8 : a0 ≤ 70
   ·rw [if_pos c8] at H
    have gZ : decide (a0 ≤ 70) = true := decide_eq_true c8
    clear c8
    obtain rfl := Option.some.inj H
    go_wp2
    go_ret
    exact ⟨Zf, Zh⟩
   rw [if_neg c8] at H
   have gZ : decide (a0 ≤ 70) = false := decide_eq_false c8
   clear c8
   obtain rfl := Option.some.inj H
   go_wp2
   go_ret
   exact ⟨Zf, Zh⟩
def Yca.f (k : Nat) (a0 : Int) : Option (Int) := (Yla.f k a0).bind fun aBX => (some aBX)
theorem Yca.mono : ∀ a0 k, LeO (Yca.f k a0) (Yca.f (k + 1) a0) := by
 intro a0 k
 unfold Yca.f
 repeat' first
   | (with_reducible exact Yla.mono _ _)
   | (with_reducible exact LeO.refl _)
   | (with_reducible exact LeO.none _)
   | (with_reducible refine LeO.ite ?_ ?_)
   | (with_reducible refine LeO.bind ?_ (fun _ => ?_))
   | exact Yla.mono _ _
   | exact LeO.none _
   | refine LeO.ite ?_ ?_
   | refine LeO.bind ?_ (fun _ => ?_)
theorem Yca.calls (k : Nat) (a0 r : Int) (w : World) (hE : EnvOk w) (h : Yca.f k a0 = some r) :
  Calls Tryz.prog 97 #[.int .u8 a0] w fun e w' => e = .returned (.int .u32 r) ∧ Drawn0 w w' := by
 have HE := Ya.mk hE
 clear hE
 have H : ((Yla.f k a0).bind fun aBX => (some aBX)) = some r := h
 clear h
 replace H := Option.bind_eq_some_iff.mp H
 obtain ⟨aBX, dU, H⟩ := H
 try dsimp -simprocs only at H
 have A2 := Ya.mk dU
 clear dU
 obtain rfl := Option.some.inj H
 go_enter Tryz.func97, Tryz.ntmps97
 go_wp2_with (first | ((with_reducible refine Yh (f := 123) rfl ?_); refine Yba (some 4) rfl rfl Tryz.func123 Zi rfl #[.int .u8 a0] rfl Zb ?_; (with_reducible refine (Yla.calls k a0 aBX _ ?side1 A2.out).mono ?_); (case side1 => first | exact HE.out | exact EnvOk.heap HE.out rfl); rintro e w' ⟨rfl, ⟨nd, rfl⟩⟩; refine ⟨_, rfl, ?_⟩))
 go_ret
 exact ⟨Zf, Zh⟩
end Go.Proofs.YtnmglnglbdpjjaaGreatDoor.X
