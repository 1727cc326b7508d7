/- Printed by a program of ours: functions as plain Lean, and what a call of each does. -/
import Derived.Test.YtnmglnglbdpjjaaGreatDoorUjWords
import Derived.Test.YtnmglnglbdpjjaaGreatDoorUjX0
import Derived.Test.YtnmglnglbdpjjaaGreatDoorUjX5
import Derived.Test.YtnmglnglbdpjjaaGreatDoorUjX6
namespace Go.Proofs.YtnmglnglbdpjjaaGreatDoor.X
open Go.RowKit Go.Yw.PrintWords Go.Yw.PrintLast Go.Yw.PrintMore
attribute [local go_sem] Yvd Yyd Yke Yme Yld Ykd Yud Ywd
set_option linter.unusedVariables false
set_option linter.unusedSimpArgs false
def Ybb.l0 : Nat → ByteArray → Int → Option (Int)
 | 0, _, _ => none
 | k + 1, x0, x3 => if (x0.size : Int) > 0 then (if 0 < (x0.size : Int) then (if (bt x0 0) = 46 then (if 1 ≤ (x0.size : Int) then (Ybb.l0 k (x0.extract 1 x0.size) (wrap64 (x3 + 1))) else (none)) else (if (x0.size : Int) > 2 then (if 0 ≤ 3 then (if 3 ≤ (x0.size : Int) then ((Yka.f k (x0.extract 0 3)).bind fun t178 => (if t178.toList = ([37, 50, 101] : List UInt8) then (Ybb.l0 k (x0.extract 3 x0.size) (wrap64 (x3 + 1))) else (some 0))) else (none)) else (none)) else (some 0))) else (none)) else (if x3 > 2 then (some 0) else (some x3))
def Ybb.f (k : Nat) (a0 : ByteArray) : Option (Int) := Ybb.l0 k a0 0
set_option maxHeartbeats 8000000 in
set_option maxRecDepth 100000 in
theorem Ybb.calls (k : Nat) (a0 : ByteArray) (r : Int) (w : World) (hE : EnvOk w) (h : Ybb.f k a0 = some r) :
  Calls Tryz.prog 65 #[.string a0] w fun e w' => e = .returned (.int .i64 r) ∧ Below w.heap.size w w' := by
 have HE := Ya.mk hE
 clear hE
 have HB := Ya.mk (Below.refl w.heap.size w)
 have H : (Ybb.l0 k a0 0) = some r := h
 clear h
 have H' := Ya.mk H
 clear H
 go_enter Tryz.func65, Tryz.ntmps65
 go_wp2
 go_loopg [0, 3] k (fun kq v0 v3 w' => ∃ (x0_1 : ByteArray) (x3_1 : Int), v0 = .string x0_1 ∧ v3 = .int .i64 x3_1 ∧ Ya (Ybb.l0 kq x0_1 x3_1 = some r) ∧ Ya (kq ≤ k) ∧ Ya (Below w.heap.size w w'))
 case atStart => exact ⟨(a0), (0), Zf, Zf, H', ⟨Nat.le_refl _⟩, ⟨Za⟩⟩
 case round =>
  clear H'
  obtain ⟨x0_1, x3_1, rfl, rfl, HA, HK1, HB⟩ := hrel
  cases gk with
  | zero => exact absurd HA.out (by simp [Ybb.l0])
  | succ k1 =>
   have H := HA.out
   clear HA
   simp only [Ybb.l0] at H
   by_cases c2 : (x0_1.size : Int) > 0
   rotate_left
   ·rw [if_neg c2] at H
    have c2b0 : decide (0 < (x0_1.size : Int)) = false := decide_eq_false c2
    have c2b1 : decide (0 < x0_1.size) = false := decide_eq_false Zl
    clear c2
    by_cases c15 : x3_1 > 2
    ·rw [if_pos c15] at H
     have c15b0 : decide (2 < x3_1) = true := decide_eq_true c15
     clear c15
     obtain rfl := Option.some.inj H
     go_wp2
     go_ret
     exact ⟨Zk, Za⟩
    rw [if_neg c15] at H
    have c15b0 : decide (2 < x3_1) = false := decide_eq_false c15
    clear c15
    obtain rfl := Option.some.inj H
    go_wp2
    go_ret
    exact ⟨Zk, Za⟩
   rw [if_pos c2] at H
   have c2b0 : decide (0 < (x0_1.size : Int)) = true := decide_eq_true c2
   have c2b1 : decide (0 < x0_1.size) = true := decide_eq_true Zl
   clear c2
   by_cases c3 : 0 < (x0_1.size : Int)
   rotate_left
   ·rw [if_neg c3] at H
    exact absurd H Zv
   rw [if_pos c3] at H
   have c3b0 : decide (0 < (x0_1.size : Int)) = true := decide_eq_true c3
   have c3b1 : decide (0 < x0_1.size) = true := decide_eq_true Zl
   clear c3
   by_cases c5 : (bt x0_1 0) = 46
   ·rw [if_pos c5] at H
    have c5b0 : ((bt x0_1 0) == 46) = true := beq_iff_eq.mpr c5
    have c5b1 : ((bt x0_1 0) != 46) = false := bne_eq_false_iff_eq.mpr c5
    clear c5
    by_cases c6 : 1 ≤ (x0_1.size : Int)
    rotate_left
    ·rw [if_neg c6] at H
     exact absurd H Zv
    rw [if_pos c6] at H
    have c6b0 := eq_true c6
    have c6b1 : decide (1 ≤ (x0_1.size : Int)) = true := decide_eq_true c6
    clear c6
    have H' := Ya.mk H
    clear H
    have p4 : 0 ≤ (0 : Int) := Zl
    have q4 : 0 < x0_1.size := (by have : (0 : Int) < (x0_1.size : Int) := of_decide_eq_true Zc; omega)
    have hx4 : ∀ h : 0 < x0_1.size, ((x0_1[0]'h).toNat : Int) = bt x0_1 0 := Yya x0_1 0
    clear p4
    have qi4 : (0 < (x0_1.size : Int)) = True := eq_true (of_decide_eq_true Zc)
    replace q4 := eq_true q4
    go_wp2
    go_roundg k1
    case measure => have := HK1.out; omega
    case rel => exact ⟨(x0_1.extract 1 x0_1.size), (wrap64 (x3_1 + 1)), Zf, Zf, H', ⟨Zaa⟩, ⟨Za⟩⟩
   rw [if_neg c5] at H
   have c5b0 : ((bt x0_1 0) == 46) = false := beq_eq_false_iff_ne.mpr c5
   have c5b1 : ((bt x0_1 0) != 46) = true := bne_iff_ne.mpr c5
   by_cases c7 : (x0_1.size : Int) > 2
   rotate_left
   ·rw [if_neg c7] at H
    have c7b0 : decide (2 < (x0_1.size : Int)) = false := decide_eq_false c7
    have c7b1 : decide (2 < x0_1.size) = false := decide_eq_false Zl
    clear c7
    obtain rfl := Option.some.inj H
    have p4 : 0 ≤ (0 : Int) := Zl
    have q4 : 0 < x0_1.size := (by have : (0 : Int) < (x0_1.size : Int) := of_decide_eq_true Zc; omega)
    have hx4 : ∀ h : 0 < x0_1.size, ((x0_1[0]'h).toNat : Int) = bt x0_1 0 := Yya x0_1 0
    clear p4
    have qi4 : (0 < (x0_1.size : Int)) = True := eq_true (of_decide_eq_true Zc)
    replace q4 := eq_true q4
    go_wp2
    go_ret
    exact ⟨Zk, Za⟩
   rw [if_pos c7] at H
   have c7b0 : decide (2 < (x0_1.size : Int)) = true := decide_eq_true c7
   have c7b1 : decide (2 < x0_1.size) = true := decide_eq_true Zl
   clear c7
   by_cases c8 : 0 ≤ 3
   rotate_left
   ·rw [if_neg c8] at H
    exact absurd H Zv
   rw [if_pos c8] at H
   have c8b0 := eq_true c8
   have c8b1 : decide (0 ≤ 3) = true := decide_eq_true c8
   clear c8
   by_cases c9 : 3 ≤ (x0_1.size : Int)
   rotate_left
   ·rw [if_neg c9] at H
    exact absurd H Zv
   rw [if_pos c9] at H
   have c9b0 := eq_true c9
   have c9b1 : decide (3 ≤ (x0_1.size : Int)) = true := decide_eq_true c9
   clear c9
   replace H := Option.bind_eq_some_iff.mp H
   obtain ⟨t178, A100, H⟩ := H
   try dsimp -simprocs only at H
   have A10 := Ya.mk A100
   clear A100
   by_cases c11 : t178.toList = ([37, 50, 101] : List UInt8)
   rotate_left
   ·rw [if_neg c11] at H
    have c11b0 : (t178.toList == ([37, 50, 101] : List UInt8)) = false := beq_eq_false_iff_ne.mpr c11
    have c11b1 : (t178.toList != ([37, 50, 101] : List UInt8)) = true := bne_iff_ne.mpr c11
    obtain rfl := Option.some.inj H
    have p4 : 0 ≤ (0 : Int) := Zl
    have q4 : 0 < x0_1.size := (by have : (0 : Int) < (x0_1.size : Int) := of_decide_eq_true Zc; omega)
    have hx4 : ∀ h : 0 < x0_1.size, ((x0_1[0]'h).toNat : Int) = bt x0_1 0 := Yya x0_1 0
    clear p4
    have qi4 : (0 < (x0_1.size : Int)) = True := eq_true (of_decide_eq_true Zc)
    replace q4 := eq_true q4
    go_wp2_with (first | (go_at_call 47; (with_reducible refine (Yka.calls k1 (x0_1.extract 0 3) t178 _ ?side1 A10.out).mono ?_); (case side1 => first | exact HE.out | exact EnvOk.below HE.out Za); rintro e w14 ⟨rfl, hb⟩; have n0_ := Ya.mk (Yq Za hb); clear HB; have HB := n0_; clear n0_; (try clear hb); (try clear hb2); (try clear hk); (try clear hi)))
    go_ret
    exact ⟨Zk, Za⟩
   rw [if_pos c11] at H
   have c11b0 : (t178.toList == ([37, 50, 101] : List UInt8)) = true := beq_iff_eq.mpr c11
   have c11b1 : (t178.toList != ([37, 50, 101] : List UInt8)) = false := bne_eq_false_iff_eq.mpr c11
   clear c11
   have c12b0 := eq_true (of_decide_eq_true Zc : 3 ≤ (x0_1.size : Int))
   have H' := Ya.mk H
   clear H
   have p4 : 0 ≤ (0 : Int) := Zl
   have q4 : 0 < x0_1.size := (by have : (0 : Int) < (x0_1.size : Int) := of_decide_eq_true Zc; omega)
   have hx4 : ∀ h : 0 < x0_1.size, ((x0_1[0]'h).toNat : Int) = bt x0_1 0 := Yya x0_1 0
   clear p4
   have qi4 : (0 < (x0_1.size : Int)) = True := eq_true (of_decide_eq_true Zc)
   replace q4 := eq_true q4
   go_wp2_with (first | (go_at_call 47; (with_reducible refine (Yka.calls k1 (x0_1.extract 0 3) t178 _ ?side1 A10.out).mono ?_); (case side1 => first | exact HE.out | exact EnvOk.below HE.out Za); rintro e w13 ⟨rfl, hb⟩; have n0_ := Ya.mk (Yq Za hb); clear HB; have HB := n0_; clear n0_; (try clear hb); (try clear hb2); (try clear hk); (try clear hi)))
   go_roundg k1
   case measure => have := HK1.out; omega
   case rel => exact ⟨(x0_1.extract 3 x0_1.size), (wrap64 (x3_1 + 1)), Zf, Zf, H', ⟨Zaa⟩, ⟨Za⟩⟩
def Yib.l0 : Nat → ByteArray → List ByteArray → ByteArray → Int → Option (ByteArray)
 | 0, _, _, _, _ => none
 | k + 1, x0, x1, x5, x6 => if x6 < (x1.length : Int) then (if x6 > 0 then (if x5.size + x0.size ≤ 9223372036854775807 then (if 0 ≤ x6 then (if (x5 ++ x0).size + (rdOf ByteArray.empty x1 x6).size ≤ 9223372036854775807 then (Yib.l0 k x0 x1 ((x5 ++ x0) ++ (rdOf ByteArray.empty x1 x6)) (wrap64 (x6 + 1))) else (none)) else (none)) else (none)) else (if 0 ≤ x6 then (if x5.size + (rdOf ByteArray.empty x1 x6).size ≤ 9223372036854775807 then (Yib.l0 k x0 x1 (x5 ++ (rdOf ByteArray.empty x1 x6)) (wrap64 (x6 + 1))) else (none)) else (none))) else (some x5)
def Yib.f (k : Nat) (a0 : ByteArray) (l1 : List ByteArray) : Option (ByteArray) := Yib.l0 k a0 l1 (⟨#[]⟩ : ByteArray) 0
set_option maxHeartbeats 8000000 in
set_option maxRecDepth 100000 in
theorem Yib.calls (k : Nat) (a0 : ByteArray) (A1 : Option Addr) (c1 : Nat) (l1 : List ByteArray) (r : ByteArray) (w : World) (hE : EnvOk w) (hr1 : Kd.C Kd.string w A1 l1.length l1) (hc1 : l1.length ≤ c1) (h : Yib.f k a0 l1 = some r) :
  Calls Tryz.prog 66 #[.string a0, .slice A1 l1.length c1] w fun e w' => e = .returned (.string r) ∧ Drawn0 w w' := by
 have HR1 := Ya.mk hr1
 have HC1 := Ya.mk hc1
 clear hr1 hc1
 have HE := Ya.mk hE
 clear hE
 have H : (Yib.l0 k a0 l1 (⟨#[]⟩ : ByteArray) 0) = some r := h
 clear h
 have H' := Ya.mk H
 clear H
 go_enter Tryz.func66, Tryz.ntmps66
 go_wp2
 go_loopg [5, 6] k (fun kq v5 v6 w' => ∃ (x5_1 : ByteArray) (x6_1 : Int), v5 = .string x5_1 ∧ v6 = .int .i64 x6_1 ∧ Ya (Yib.l0 kq a0 l1 x5_1 x6_1 = some r) ∧ Ya (kq ≤ k) ∧ Drawn0 w w')
 case atStart => exact ⟨((⟨#[]⟩ : ByteArray)), (0), Zf, Zf, H', ⟨Nat.le_refl _⟩, Zh⟩
 case round =>
  clear H'
  try clear c1
  try clear p2
  obtain ⟨x5_1, x6_1, rfl, rfl, HA, HK1, ⟨m1, rfl⟩⟩ := hrel
  cases gk with
  | zero => exact absurd HA.out (by simp [Yib.l0])
  | succ k1 =>
   have H := HA.out
   clear HA
   simp only [Yib.l0] at H
   by_cases c3 : x6_1 < (l1.length : Int)
   rotate_left
   ·rw [if_neg c3] at H
    have c3b0 : decide (x6_1 < (l1.length : Int)) = false := decide_eq_false c3
    clear c3
    obtain rfl := Option.some.inj H
    go_wp2
    go_ret
    exact ⟨Zf, Zh⟩
   rw [if_pos c3] at H
   have c3b0 : decide (x6_1 < (l1.length : Int)) = true := decide_eq_true c3
   clear c3
   by_cases c4 : x6_1 > 0
   rotate_left
   ·rw [if_neg c4] at H
    have c4b0 : decide (0 < x6_1) = false := decide_eq_false c4
    clear c4
    by_cases c8 : 0 ≤ x6_1
    rotate_left
    ·rw [if_neg c8] at H
     exact absurd H Zv
    rw [if_pos c8] at H
    have c8b0 : decide (0 ≤ x6_1) = true := decide_eq_true c8
    clear c8
    by_cases c9 : x5_1.size + (rdOf ByteArray.empty l1 x6_1).size ≤ 9223372036854775807
    rotate_left
    ·rw [if_neg c9] at H
     exact absurd H Zv
    rw [if_pos c9] at H
    have c9b0 := eq_true c9
    have c9b1 : decide (x5_1.size + (rdOf ByteArray.empty l1 x6_1).size ≤ 9223372036854775807) = true := decide_eq_true c9
    try have c9b2 : (9223372036854775807 < x5_1.size + (rdOf ByteArray.empty l1 x6_1).size) = False := eq_false (Nat.not_lt.2 c9)
    have H' := Ya.mk H
    clear H
    have p180 : 0 ≤ (x6_1 : Int) := of_decide_eq_true Zc
    have q180 : x6_1 < (l1.length : Int) := of_decide_eq_true Zc
    obtain ⟨ad180, e180, hx180_0⟩ := Kd.at_string HR1.out x6_1 p180 q180
    cases e180
    replace p180 := eq_true p180
    replace q180 := eq_true q180
    go_wp2
    go_roundg k1
    case measure => have := HK1.out; omega
    case rel => exact ⟨(x5_1 ++ (rdOf ByteArray.empty l1 x6_1)), (wrap64 (x6_1 + 1)), Zf, Zf, H', ⟨Zaa⟩, Zh⟩
   rw [if_pos c4] at H
   have c4b0 : decide (0 < x6_1) = true := decide_eq_true c4
   clear c4
   by_cases c5 : x5_1.size + a0.size ≤ 9223372036854775807
   rotate_left
   ·rw [if_neg c5] at H
    exact absurd H Zv
   rw [if_pos c5] at H
   have c5b0 := eq_true c5
   have c5b1 : decide (x5_1.size + a0.size ≤ 9223372036854775807) = true := decide_eq_true c5
   try have c5b2 : (9223372036854775807 < x5_1.size + a0.size) = False := eq_false (Nat.not_lt.2 c5)
   by_cases c6 : 0 ≤ x6_1
   rotate_left
   ·rw [if_neg c6] at H
    exact absurd H Zv
   rw [if_pos c6] at H
   have c6b0 : decide (0 ≤ x6_1) = true := decide_eq_true c6
   clear c6
   by_cases c7 : (x5_1 ++ a0).size + (rdOf ByteArray.empty l1 x6_1).size ≤ 9223372036854775807
   rotate_left
   ·rw [if_neg c7] at H
    exact absurd H Zv
   rw [if_pos c7] at H
   have c7b0 := eq_true c7
   have c7b1 : decide ((x5_1 ++ a0).size + (rdOf ByteArray.empty l1 x6_1).size ≤ 9223372036854775807) = true := decide_eq_true c7
   try have c7b2 : (9223372036854775807 < (x5_1 ++ a0).size + (rdOf ByteArray.empty l1 x6_1).size) = False := eq_false (Nat.not_lt.2 c7)
   have H' := Ya.mk H
   clear H
   have p179 : 0 ≤ (x6_1 : Int) := of_decide_eq_true Zc
   have q179 : x6_1 < (l1.length : Int) := of_decide_eq_true Zc
   obtain ⟨ad179, e179, hx179_0⟩ := Kd.at_string HR1.out x6_1 p179 q179
   cases e179
   replace p179 := eq_true p179
   replace q179 := eq_true q179
   go_wp2
   go_roundg k1
   case measure => have := HK1.out; omega
   case rel => exact ⟨((x5_1 ++ a0) ++ (rdOf ByteArray.empty l1 x6_1)), (wrap64 (x6_1 + 1)), Zf, Zf, H', ⟨Zaa⟩, Zh⟩
def Ypa.l0 : Nat → ByteArray → ByteArray → Int → Option (Int)
 | 0, _, _, _ => none
 | k + 1, x0, x1, x5 => if x5 < (x0.size : Int) then (if 0 ≤ x5 then ((Yga.f k (bt x0 x5) x1).bind fun t181 => (if t181 = true then (some x5) else (Ypa.l0 k x0 x1 (wrap64 (x5 + 1))))) else (none)) else (some x5)
def Ypa.f (k : Nat) (a0 : ByteArray) (a1 : ByteArray) : Option (Int) := Ypa.l0 k a0 a1 0
set_option maxHeartbeats 8000000 in
set_option maxRecDepth 100000 in
theorem Ypa.calls (k : Nat) (a0 : ByteArray) (a1 : ByteArray) (r : Int) (w : World) (hE : EnvOk w) (h : Ypa.f k a0 a1 = some r) :
  Calls Tryz.prog 49 #[.string a0, .string a1] w fun e w' => e = .returned (.int .i64 r) ∧ Drawn0 w w' := by
 have HE := Ya.mk hE
 clear hE
 have H : (Ypa.l0 k a0 a1 0) = some r := h
 clear h
 have H' := Ya.mk H
 clear H
 go_enter Tryz.func49, Tryz.ntmps49
 go_wp2
 go_loopg [5] k (fun kq v5 w' => ∃ (x5_1 : Int), v5 = .int .i64 x5_1 ∧ Ya (Ypa.l0 kq a0 a1 x5_1 = some r) ∧ Ya (kq ≤ k) ∧ Drawn0 w w')
 case atStart => exact ⟨(0), Zf, H', ⟨Nat.le_refl _⟩, Zh⟩
 case round =>
  clear H'
  try clear p2
  obtain ⟨x5_1, rfl, HA, HK1, ⟨m1, rfl⟩⟩ := hrel
  cases gk with
  | zero => exact absurd HA.out (by simp [Ypa.l0])
  | succ k1 =>
   have H := HA.out
   clear HA
   simp only [Ypa.l0] at H
   by_cases c3 : x5_1 < (a0.size : Int)
   rotate_left
   ·rw [if_neg c3] at H
    have c3b0 : decide (x5_1 < (a0.size : Int)) = false := decide_eq_false c3
    clear c3
    obtain rfl := Option.some.inj H
    go_wp2
    go_ret
    exact ⟨Zf, Zh⟩
   rw [if_pos c3] at H
   have c3b0 : decide (x5_1 < (a0.size : Int)) = true := decide_eq_true c3
   clear c3
   by_cases c4 : 0 ≤ x5_1
   rotate_left
   ·rw [if_neg c4] at H
    exact absurd H Zv
   rw [if_pos c4] at H
   have c4b0 : decide (0 ≤ x5_1) = true := decide_eq_true c4
   clear c4
   replace H := Option.bind_eq_some_iff.mp H
   obtain ⟨t181, A60, H⟩ := H
   try dsimp -simprocs only at H
   have A6 := Ya.mk A60
   clear A60
   by_cases c7 : t181 = true
   ·subst c7
    rw [if_pos rfl] at H
    obtain rfl := Option.some.inj H
    have p5 : 0 ≤ (x5_1 : Int) := of_decide_eq_true Zc
    have q5 : x5_1 < (a0.size : Int) := of_decide_eq_true Zc
    have hx5 := Yya a0 x5_1
    replace p5 := eq_true p5
    replace q5 := eq_true q5
    go_wp2_with (first | (go_at_call 88; (with_reducible refine (Yga.calls k1 (bt a0 x5_1) a1 true _ ?side1 A6.out).mono ?_); (case side1 => first | exact HE.out | exact EnvOk.heap HE.out rfl); rintro e w' ⟨rfl, ⟨nd, rfl⟩⟩))
    go_ret
    exact ⟨Zf, Zh⟩
   replace c7 := Bool.eq_false_iff.mpr c7
   subst c7
   rw [if_neg (show ¬ (false = true) by decide)] at H
   have H' := Ya.mk H
   clear H
   have p5 : 0 ≤ (x5_1 : Int) := of_decide_eq_true Zc
   have q5 : x5_1 < (a0.size : Int) := of_decide_eq_true Zc
   have hx5 := Yya a0 x5_1
   replace p5 := eq_true p5
   replace q5 := eq_true q5
   go_wp2_with (first | (go_at_call 88; (with_reducible refine (Yga.calls k1 (bt a0 x5_1) a1 false _ ?side1 A6.out).mono ?_); (case side1 => first | exact HE.out | exact EnvOk.heap HE.out rfl); rintro e w' ⟨rfl, ⟨nd, rfl⟩⟩))
   go_roundg k1
   case measure => have := HK1.out; omega
   case rel => exact ⟨(wrap64 (x5_1 + 1)), Zf, H', ⟨Zaa⟩, Zh⟩
def Yla.j0 : Nat → Int → Bool → Option (Int)
 | 0, _, _ => none
 | k + 1, x0, x9 => if x9 = true then (some (((x0 - 97) % 256) + 10)) else (if x0 ≥ 65 then (if x0 ≤ 70 then (some (((x0 - 65) % 256) + 10)) else (some 16)) else (some 16))
def Yla.f (k : Nat) (a0 : Int) : Option (Int) := (Yv.f a0).bind fun t182 => (if t182 = true then (some ((a0 - 48) % 256)) else (if a0 ≥ 97 then (Yla.j0 k a0 (decide (a0 ≤ 102))) else (Yla.j0 k a0 false)))
theorem Yla.mono_l : ∀ k, (∀ y0 y1, LeO (Yla.j0 k y0 y1) (Yla.j0 (k + 1) y0 y1))
 | 0 => fun _ _ r h => by simp [Yla.j0] at h
 | k + 1 => by
  have ih0 := Yla.mono_l k
  ·intro y0 y1
   unfold Yla.j0
   repeat' first
   | (with_reducible exact ih0 _ _)
   | (with_reducible exact LeO.refl _)
   | (with_reducible exact LeO.none _)
   | (with_reducible refine LeO.ite ?_ ?_)
   | (with_reducible refine LeO.bind ?_ (fun _ => ?_))
   | exact ih0 _ _
   | exact LeO.none _
   | refine LeO.ite ?_ ?_
   | refine LeO.bind ?_ (fun _ => ?_)
theorem Yla.mono : ∀ a0 k, LeO (Yla.f k a0) (Yla.f (k + 1) a0) := by
 intro a0 k
 have ih0 := Yla.mono_l k
 unfold Yla.f
 repeat' first
   | (with_reducible exact ih0 _ _)
   | (with_reducible exact LeO.refl _)
   | (with_reducible exact LeO.none _)
   | (with_reducible refine LeO.ite ?_ ?_)
   | (with_reducible refine LeO.bind ?_ (fun _ => ?_))
   | exact ih0 _ _
   | exact LeO.none _
   | refine LeO.ite ?_ ?_
   | refine LeO.bind ?_ (fun _ => ?_)
set_option maxHeartbeats 8000000 in
set_option maxRecDepth 100000 in
theorem Yla.calls (k : Nat) (a0 : Int) (r : Int) (w : World) (hE : EnvOk w) (h : Yla.f k a0 = some r) :
  Calls Tryz.prog 123 #[.int .u8 a0] w fun e w' => e = .returned (.int .u32 r) ∧ Drawn0 w w' := by
 have HE := Ya.mk hE
 clear hE
 have H : ((Yv.f a0).bind fun t182 => (if t182 = true then (some ((a0 - 48) % 256)) else (if a0 ≥ 97 then (Yla.j0 k a0 (decide (a0 ≤ 102))) else (Yla.j0 k a0 false)))) = some r := h
 clear h
 replace H := Option.bind_eq_some_iff.mp H
 obtain ⟨t182, A20, H⟩ := H
 try dsimp -simprocs only at H
 have A2 := Ya.mk A20
 clear A20
 by_cases c3 : t182 = true
 ·subst c3
  rw [if_pos rfl] at H
  obtain rfl := Option.some.inj H
  go_enter Tryz.func123, Tryz.ntmps123
  go_wp2_with (first | ((with_reducible refine Yh (f := 87) rfl ?_); refine Yz (some 5) rfl rfl Tryz.func87 Zi rfl #[.int .u8 a0] rfl Zb ?_; (with_reducible refine (Yv.calls a0 true _ ?side1 A2.out).mono ?_); (case side1 => first | exact HE.out | exact EnvOk.heap HE.out rfl); rintro e w' ⟨rfl, ⟨nd, rfl⟩⟩; refine ⟨_, rfl, ?_⟩))
  go_ret
  exact ⟨Zf, Zh⟩
 replace c3 := Bool.eq_false_iff.mpr c3
 subst c3
 rw [if_neg (show ¬ (false = true) by decide)] at H
 have HC4 := Ya.mk H
 clear H
 go_enter Tryz.func123, Tryz.ntmps123
 go_upto_region 3 with (first | ((with_reducible refine Yh (f := 87) rfl ?_); refine Yz (some 5) rfl rfl Tryz.func87 Zi rfl #[.int .u8 a0] rfl Zb ?_; (with_reducible refine (Yv.calls a0 false _ ?side1 A2.out).mono ?_); (case side1 => first | exact HE.out | exact EnvOk.heap HE.out rfl); rintro e w' ⟨rfl, ⟨nd, rfl⟩⟩; refine ⟨_, rfl, ?_⟩))
 (try simp only [Act.put, List.setIfInBounds_toArray, List.set_cons_zero, List.set_cons_succ])
 go_cut [9] (fun v9 wc => ∃ (kq : Nat) (x9_3 : Bool), v9 = .bool x9_3 ∧ Ya (Yla.j0 kq a0 x9_3 = some r) ∧ Ya (kq ≤ k) ∧ Drawn0 w wc)
 case first =>
  have H := HC4.out
  clear HC4
  by_cases c5 : a0 ≥ 97
  rotate_left
  ·rw [if_neg c5] at H
   have c5b0 : decide (97 ≤ a0) = false := decide_eq_false c5
   clear c5
   (first | rw [c5b0] | (simp only [Yqa, Yra]; rw [c5b0]) | skip)
   have H' := Ya.mk H
   clear H
   go_wp2
   go_meet
   case rel => exact ⟨_, (false), Zf, H', ⟨Zna⟩, Zh⟩
  rw [if_pos c5] at H
  have c5b0 : decide (97 ≤ a0) = true := decide_eq_true c5
  clear c5
  (first | rw [c5b0] | (simp only [Yqa, Yra]; rw [c5b0]) | skip)
  have H' := Ya.mk H
  clear H
  go_wp2
  go_meet
  case rel => exact ⟨_, (decide (a0 ≤ 102)), Zf, H', ⟨Zna⟩, Zh⟩
 case rest =>
  clear HC4
  try clear c1
  try clear p2
  try clear c3
  try clear c5
  try clear c5b0
  obtain ⟨kq, x9_3, rfl, HA, HJ3, ⟨mc3, rfl⟩⟩ := hcut
  cases kq with
  | zero => exact absurd HA.out (by simp [Yla.j0])
  | succ kj3 =>
   have H := HA.out
   clear HA
   simp only [Yla.j0] at H
   by_cases c6 : x9_3 = true
   ·subst c6
    rw [if_pos rfl] at H
    obtain rfl := Option.some.inj H
    go_wp2
    go_ret
    exact ⟨Zf, Zh⟩
   replace c6 := Bool.eq_false_iff.mpr c6
   subst c6
   rw [if_neg (show ¬ (false = true) by decide)] at H
   by_cases c7 : a0 ≥ 65
   rotate_left
   ·rw [if_neg c7] at H
    have c7b0 : decide (65 ≤ a0) = false := decide_eq_false c7
    clear c7
    obtain rfl := Option.some.inj H
    go_wp2
    go_ret
    exact ⟨Zf, Zh⟩
   rw [if_pos c7] at H
   have c7b0 : decide (65 ≤ a0) = true := decide_eq_true c7
   clear c7
   by_cases c8 : a0 ≤ 70
   ·rw [if_pos c8] at H
    have c8b0 : decide (a0 ≤ 70) = true := decide_eq_true c8
    clear c8
    obtain rfl := Option.some.inj H
    go_wp2
    go_ret
    exact ⟨Zf, Zh⟩
   rw [if_neg c8] at H
   have c8b0 : decide (a0 ≤ 70) = false := decide_eq_false c8
   clear c8
   obtain rfl := Option.some.inj H
   go_wp2
   go_ret
   exact ⟨Zf, Zh⟩
def Yba.f (k : Nat) (a0 : Int) : Option (Int) := (Yla.f k a0).bind fun t183 => (some t183)
theorem Yba.mono : ∀ a0 k, LeO (Yba.f k a0) (Yba.f (k + 1) a0) := by
 intro a0 k
 unfold Yba.f
 repeat' first
   | (with_reducible exact Yla.mono _ _)
   | (with_reducible exact LeO.refl _)
   | (with_reducible exact LeO.none _)
   | (with_reducible refine LeO.ite ?_ ?_)
   | (with_reducible refine LeO.bind ?_ (fun _ => ?_))
   | exact Yla.mono _ _
   | exact LeO.none _
   | refine LeO.ite ?_ ?_
   | refine LeO.bind ?_ (fun _ => ?_)
set_option maxHeartbeats 8000000 in
set_option maxRecDepth 100000 in
theorem Yba.calls (k : Nat) (a0 : Int) (r : Int) (w : World) (hE : EnvOk w) (h : Yba.f k a0 = some r) :
  Calls Tryz.prog 97 #[.int .u8 a0] w fun e w' => e = .returned (.int .u32 r) ∧ Drawn0 w w' := by
 have HE := Ya.mk hE
 clear hE
 have H : ((Yla.f k a0).bind fun t183 => (some t183)) = some r := h
 clear h
 replace H := Option.bind_eq_some_iff.mp H
 obtain ⟨t183, A20, H⟩ := H
 try dsimp -simprocs only at H
 have A2 := Ya.mk A20
 clear A20
 obtain rfl := Option.some.inj H
 go_enter Tryz.func97, Tryz.ntmps97
 go_wp2_with (first | ((with_reducible refine Yh (f := 123) rfl ?_); refine Yz (some 4) rfl rfl Tryz.func123 Zi rfl #[.int .u8 a0] rfl Zb ?_; (with_reducible refine (Yla.calls k a0 t183 _ ?side1 A2.out).mono ?_); (case side1 => first | exact HE.out | exact EnvOk.heap HE.out rfl); rintro e w' ⟨rfl, ⟨nd, rfl⟩⟩; refine ⟨_, rfl, ?_⟩))
 go_ret
 exact ⟨Zf, Zh⟩
end Go.Proofs.YtnmglnglbdpjjaaGreatDoor.X
