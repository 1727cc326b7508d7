/- Printed by a program of ours: functions as plain Lean, and what a call of each does. -/
import Derived.Test.YtnmglnglbdpjjaaGreatDoorUjWords
import Derived.Test.YtnmglnglbdpjjaaGreatDoorUjX0
import Derived.Test.YtnmglnglbdpjjaaGreatDoorUjX5
namespace Go.Proofs.YtnmglnglbdpjjaaGreatDoor.X
open Go.RowKit Go.Yw.PrintWords Go.Yw.PrintLast Go.Yw.PrintMore
attribute [local go_sem] Yvd Yyd Yke Yme Yld Ykd Yud Ywd
set_option linter.unusedVariables false
set_option linter.unusedSimpArgs false
def Yr.l0 : Nat → ByteArray → ByteArray → ByteArray → Int → Option (ByteArray)
 | 0, _, _, _, _ => none
 | k + 1, x0, x1, x5, x6 => if x6 < (x0.size : Int) then (if 0 ≤ x6 then (if (bt x0 x6) ≤ 32 then (if x6 ≤ (wrap64 (x6 + 1)) then (if (wrap64 (x6 + 1)) ≤ (x0.size : Int) then ((Yu.f k (x0.extract (x6 : Int).toNat ((wrap64 (x6 + 1)) : Int).toNat) (⟨#[]⟩ : ByteArray)).bind fun t154 => (if x5.size + t154.size ≤ 9223372036854775807 then (Yr.l0 k x0 x1 (x5 ++ t154) (wrap64 (x6 + 1))) else (none))) else (none)) else (none)) else (if (bt x0 x6) > 126 then (if x6 ≤ (wrap64 (x6 + 1)) then (if (wrap64 (x6 + 1)) ≤ (x0.size : Int) then ((Yu.f k (x0.extract (x6 : Int).toNat ((wrap64 (x6 + 1)) : Int).toNat) (⟨#[]⟩ : ByteArray)).bind fun t155 => (if x5.size + t155.size ≤ 9223372036854775807 then (Yr.l0 k x0 x1 (x5 ++ t155) (wrap64 (x6 + 1))) else (none))) else (none)) else (none)) else ((Yga.f k (bt x0 x6) (⟨#[34, 60, 62]⟩ : ByteArray)).bind fun t156 => (if t156 = true then (if x6 ≤ (wrap64 (x6 + 1)) then (if (wrap64 (x6 + 1)) ≤ (x0.size : Int) then ((Yu.f k (x0.extract (x6 : Int).toNat ((wrap64 (x6 + 1)) : Int).toNat) (⟨#[]⟩ : ByteArray)).bind fun t157 => (if x5.size + t157.size ≤ 9223372036854775807 then (Yr.l0 k x0 x1 (x5 ++ t157) (wrap64 (x6 + 1))) else (none))) else (none)) else (none)) else ((Yga.f k (bt x0 x6) x1).bind fun t158 => (if t158 = true then (if x6 ≤ (wrap64 (x6 + 1)) then (if (wrap64 (x6 + 1)) ≤ (x0.size : Int) then ((Yu.f k (x0.extract (x6 : Int).toNat ((wrap64 (x6 + 1)) : Int).toNat) (⟨#[]⟩ : ByteArray)).bind fun t159 => (if x5.size + t159.size ≤ 9223372036854775807 then (Yr.l0 k x0 x1 (x5 ++ t159) (wrap64 (x6 + 1))) else (none))) else (none)) else (none)) else (if x6 ≤ (wrap64 (x6 + 1)) then (if (wrap64 (x6 + 1)) ≤ (x0.size : Int) then (if x5.size + (x0.extract (x6 : Int).toNat ((wrap64 (x6 + 1)) : Int).toNat).size ≤ 9223372036854775807 then (Yr.l0 k x0 x1 (x5 ++ (x0.extract (x6 : Int).toNat ((wrap64 (x6 + 1)) : Int).toNat)) (wrap64 (x6 + 1))) else (none)) else (none)) else (none)))))))) else (none)) else (some x5)
def Yr.f (k : Nat) (a0 : ByteArray) (a1 : ByteArray) : Option (ByteArray) := Yr.l0 k a0 a1 (⟨#[]⟩ : ByteArray) 0
set_option maxHeartbeats 8000000 in
set_option maxRecDepth 100000 in
theorem Yr.calls (k : Nat) (a0 : ByteArray) (a1 : ByteArray) (r : ByteArray) (w : World) (hE : EnvOk w) (h : Yr.f k a0 a1 = some r) :
  Calls Tryz.prog 51 #[.string a0, .string a1] w fun e w' => e = .returned (.string r) ∧ Below w.heap.size w w' := by
 have HE := Ya.mk hE
 clear hE
 have HB := Ya.mk (Below.refl w.heap.size w)
 have H : (Yr.l0 k a0 a1 (⟨#[]⟩ : ByteArray) 0) = some r := h
 clear h
 have H' := Ya.mk H
 clear H
 go_enter Tryz.func51, Tryz.ntmps51
 go_wp2
 go_loopg [5, 6] k (fun kq v5 v6 w' => ∃ (x5_1 : ByteArray) (x6_1 : Int), v5 = .string x5_1 ∧ v6 = .int .i64 x6_1 ∧ Ya (Yr.l0 kq a0 a1 x5_1 x6_1 = some r) ∧ Ya (kq ≤ k) ∧ Ya (Below w.heap.size w w'))
 case atStart => exact ⟨((⟨#[]⟩ : ByteArray)), (0), Zf, Zf, H', ⟨Nat.le_refl _⟩, ⟨Za⟩⟩
 case round =>
  clear H'
  try clear p2
  obtain ⟨x5_1, x6_1, rfl, rfl, HA, HK1, HB⟩ := hrel
  cases gk with
  | zero => exact absurd HA.out (by simp [Yr.l0])
  | succ k1 =>
   have H := HA.out
   clear HA
   simp only [Yr.l0] at H
   by_cases c3 : x6_1 < (a0.size : Int)
   rotate_left
   ·rw [if_neg c3] at H
    have c3b0 : decide (x6_1 < (a0.size : Int)) = false := decide_eq_false c3
    clear c3
    obtain rfl := Option.some.inj H
    go_wp2
    go_ret
    exact ⟨Zk, Za⟩
   rw [if_pos c3] at H
   have c3b0 : decide (x6_1 < (a0.size : Int)) = true := decide_eq_true c3
   clear c3
   by_cases c4 : 0 ≤ x6_1
   rotate_left
   ·rw [if_neg c4] at H
    exact absurd H Zv
   rw [if_pos c4] at H
   have c4b0 : decide (0 ≤ x6_1) = true := decide_eq_true c4
   clear c4
   by_cases c6 : (bt a0 x6_1) ≤ 32
   ·rw [if_pos c6] at H
    have c6b0 : decide ((bt a0 x6_1) ≤ 32) = true := decide_eq_true c6
    clear c6
    have c7b0 := eq_true (of_decide_eq_true Zc : 0 ≤ x6_1)
    by_cases c8 : x6_1 ≤ (wrap64 (x6_1 + 1))
    rotate_left
    ·rw [if_neg c8] at H
     exact absurd H Zv
    rw [if_pos c8] at H
    have c8b0 := eq_true c8
    have c8b1 : decide (x6_1 ≤ (wrap64 (x6_1 + 1))) = true := decide_eq_true c8
    by_cases c9 : (wrap64 (x6_1 + 1)) ≤ (a0.size : Int)
    rotate_left
    ·rw [if_neg c9] at H
     exact absurd H Zv
    rw [if_pos c9] at H
    have c9b0 := eq_true c9
    have c9b1 : decide ((wrap64 (x6_1 + 1)) ≤ (a0.size : Int)) = true := decide_eq_true c9
    replace H := Option.bind_eq_some_iff.mp H
    obtain ⟨t154, A100, H⟩ := H
    try dsimp -simprocs only at H
    have A10 := Ya.mk A100
    clear A100
    by_cases c11 : x5_1.size + t154.size ≤ 9223372036854775807
    rotate_left
    ·rw [if_neg c11] at H
     exact absurd H Zv
    rw [if_pos c11] at H
    have c11b0 := eq_true c11
    have c11b1 : decide (x5_1.size + t154.size ≤ 9223372036854775807) = true := decide_eq_true c11
    try have c11b2 : (9223372036854775807 < x5_1.size + t154.size) = False := eq_false (Nat.not_lt.2 c11)
    have H' := Ya.mk H
    clear H
    have p5 : 0 ≤ (x6_1 : Int) := of_decide_eq_true Zc
    have q5 : x6_1 < (a0.size : Int) := of_decide_eq_true Zc
    have hx5 := Yya a0 x6_1
    replace p5 := eq_true p5
    replace q5 := eq_true q5
    go_wp2_with (first | ((with_reducible refine Yh (f := 90) rfl ?_); refine Yz (some 38) rfl rfl Tryz.func90 Zi rfl #[.string (a0.extract (x6_1 : Int).toNat ((wrap64 (x6_1 + 1)) : Int).toNat), .string (⟨#[]⟩ : ByteArray)] rfl Zb ?_; (with_reducible refine (Yu.calls k1 (a0.extract (x6_1 : Int).toNat ((wrap64 (x6_1 + 1)) : Int).toNat) (⟨#[]⟩ : ByteArray) t154 _ ?side1 A10.out).mono ?_); (case side1 => first | exact HE.out | exact EnvOk.below HE.out Za); rintro e w12 ⟨rfl, hb⟩; refine ⟨_, rfl, ?_⟩; have n0_ := Ya.mk (Yq Za hb); clear HB; have HB := n0_; clear n0_; (try clear hb); (try clear hb2); (try clear hk); (try clear hi)))
    go_roundg k1
    case measure => have := HK1.out; omega
    case rel => exact ⟨(x5_1 ++ t154), (wrap64 (x6_1 + 1)), Zf, Zf, H', ⟨Zaa⟩, ⟨Za⟩⟩
   rw [if_neg c6] at H
   have c6b0 : decide ((bt a0 x6_1) ≤ 32) = false := decide_eq_false c6
   clear c6
   by_cases c13 : (bt a0 x6_1) > 126
   ·rw [if_pos c13] at H
    have c13b0 : decide (126 < (bt a0 x6_1)) = true := decide_eq_true c13
    clear c13
    have c14b0 := eq_true (of_decide_eq_true Zc : 0 ≤ x6_1)
    by_cases c15 : x6_1 ≤ (wrap64 (x6_1 + 1))
    rotate_left
    ·rw [if_neg c15] at H
     exact absurd H Zv
    rw [if_pos c15] at H
    have c15b0 := eq_true c15
    have c15b1 : decide (x6_1 ≤ (wrap64 (x6_1 + 1))) = true := decide_eq_true c15
    by_cases c16 : (wrap64 (x6_1 + 1)) ≤ (a0.size : Int)
    rotate_left
    ·rw [if_neg c16] at H
     exact absurd H Zv
    rw [if_pos c16] at H
    have c16b0 := eq_true c16
    have c16b1 : decide ((wrap64 (x6_1 + 1)) ≤ (a0.size : Int)) = true := decide_eq_true c16
    replace H := Option.bind_eq_some_iff.mp H
    obtain ⟨t155, A170, H⟩ := H
    try dsimp -simprocs only at H
    have A17 := Ya.mk A170
    clear A170
    by_cases c18 : x5_1.size + t155.size ≤ 9223372036854775807
    rotate_left
    ·rw [if_neg c18] at H
     exact absurd H Zv
    rw [if_pos c18] at H
    have c18b0 := eq_true c18
    have c18b1 : decide (x5_1.size + t155.size ≤ 9223372036854775807) = true := decide_eq_true c18
    try have c18b2 : (9223372036854775807 < x5_1.size + t155.size) = False := eq_false (Nat.not_lt.2 c18)
    have H' := Ya.mk H
    clear H
    have p5 : 0 ≤ (x6_1 : Int) := of_decide_eq_true Zc
    have q5 : x6_1 < (a0.size : Int) := of_decide_eq_true Zc
    have hx5 := Yya a0 x6_1
    replace p5 := eq_true p5
    replace q5 := eq_true q5
    go_wp2_with (first | ((with_reducible refine Yh (f := 90) rfl ?_); refine Yz (some 38) rfl rfl Tryz.func90 Zi rfl #[.string (a0.extract (x6_1 : Int).toNat ((wrap64 (x6_1 + 1)) : Int).toNat), .string (⟨#[]⟩ : ByteArray)] rfl Zb ?_; (with_reducible refine (Yu.calls k1 (a0.extract (x6_1 : Int).toNat ((wrap64 (x6_1 + 1)) : Int).toNat) (⟨#[]⟩ : ByteArray) t155 _ ?side1 A17.out).mono ?_); (case side1 => first | exact HE.out | exact EnvOk.below HE.out Za); rintro e w19 ⟨rfl, hb⟩; refine ⟨_, rfl, ?_⟩; have n0_ := Ya.mk (Yq Za hb); clear HB; have HB := n0_; clear n0_; (try clear hb); (try clear hb2); (try clear hk); (try clear hi)))
    go_roundg k1
    case measure => have := HK1.out; omega
    case rel => exact ⟨(x5_1 ++ t155), (wrap64 (x6_1 + 1)), Zf, Zf, H', ⟨Zaa⟩, ⟨Za⟩⟩
   rw [if_neg c13] at H
   have c13b0 : decide (126 < (bt a0 x6_1)) = false := decide_eq_false c13
   clear c13
   replace H := Option.bind_eq_some_iff.mp H
   obtain ⟨t156, A200, H⟩ := H
   try dsimp -simprocs only at H
   have A20 := Ya.mk A200
   clear A200
   by_cases c21 : t156 = true
   ·subst c21
    rw [if_pos rfl] at H
    have c22b0 := eq_true (of_decide_eq_true Zc : 0 ≤ x6_1)
    by_cases c23 : x6_1 ≤ (wrap64 (x6_1 + 1))
    rotate_left
    ·rw [if_neg c23] at H
     exact absurd H Zv
    rw [if_pos c23] at H
    have c23b0 := eq_true c23
    have c23b1 : decide (x6_1 ≤ (wrap64 (x6_1 + 1))) = true := decide_eq_true c23
    by_cases c24 : (wrap64 (x6_1 + 1)) ≤ (a0.size : Int)
    rotate_left
    ·rw [if_neg c24] at H
     exact absurd H Zv
    rw [if_pos c24] at H
    have c24b0 := eq_true c24
    have c24b1 : decide ((wrap64 (x6_1 + 1)) ≤ (a0.size : Int)) = true := decide_eq_true c24
    replace H := Option.bind_eq_some_iff.mp H
    obtain ⟨t157, A250, H⟩ := H
    try dsimp -simprocs only at H
    have A25 := Ya.mk A250
    clear A250
    by_cases c26 : x5_1.size + t157.size ≤ 9223372036854775807
    rotate_left
    ·rw [if_neg c26] at H
     exact absurd H Zv
    rw [if_pos c26] at H
    have c26b0 := eq_true c26
    have c26b1 : decide (x5_1.size + t157.size ≤ 9223372036854775807) = true := decide_eq_true c26
    try have c26b2 : (9223372036854775807 < x5_1.size + t157.size) = False := eq_false (Nat.not_lt.2 c26)
    have H' := Ya.mk H
    clear H
    have p5 : 0 ≤ (x6_1 : Int) := of_decide_eq_true Zc
    have q5 : x6_1 < (a0.size : Int) := of_decide_eq_true Zc
    have hx5 := Yya a0 x6_1
    replace p5 := eq_true p5
    replace q5 := eq_true q5
    go_wp2_with (first | (go_at_call 88; (with_reducible refine (Yga.calls k1 (bt a0 x6_1) (⟨#[34, 60, 62]⟩ : ByteArray) true _ ?side1 A20.out).mono ?_); (case side1 => first | exact HE.out | exact EnvOk.below HE.out Za); rintro e w' ⟨rfl, ⟨nd, rfl⟩⟩) | ((with_reducible refine Yh (f := 90) rfl ?_); refine Yz (some 38) rfl rfl Tryz.func90 Zi rfl #[.string (a0.extract (x6_1 : Int).toNat ((wrap64 (x6_1 + 1)) : Int).toNat), .string (⟨#[]⟩ : ByteArray)] rfl Zb ?_; (with_reducible refine (Yu.calls k1 (a0.extract (x6_1 : Int).toNat ((wrap64 (x6_1 + 1)) : Int).toNat) (⟨#[]⟩ : ByteArray) t157 _ ?side1 A25.out).mono ?_); (case side1 => first | exact HE.out | exact EnvOk.below HE.out Za); rintro e w27 ⟨rfl, hb⟩; refine ⟨_, rfl, ?_⟩; have n0_ := Ya.mk (Yq Za hb); clear HB; have HB := n0_; clear n0_; (try clear hb); (try clear hb2); (try clear hk); (try clear hi)))
    go_roundg k1
    case measure => have := HK1.out; omega
    case rel => exact ⟨(x5_1 ++ t157), (wrap64 (x6_1 + 1)), Zf, Zf, H', ⟨Zaa⟩, ⟨Za⟩⟩
   replace c21 := Bool.eq_false_iff.mpr c21
   subst c21
   rw [if_neg (show ¬ (false = true) by decide)] at H
   replace H := Option.bind_eq_some_iff.mp H
   obtain ⟨t158, A280, H⟩ := H
   try dsimp -simprocs only at H
   have A28 := Ya.mk A280
   clear A280
   by_cases c29 : t158 = true
   rotate_left
   ·replace c29 := Bool.eq_false_iff.mpr c29
    subst c29
    rw [if_neg (show ¬ (false = true) by decide)] at H
    have c36b0 := eq_true (of_decide_eq_true Zc : 0 ≤ x6_1)
    by_cases c37 : x6_1 ≤ (wrap64 (x6_1 + 1))
    rotate_left
    ·rw [if_neg c37] at H
     exact absurd H Zv
    rw [if_pos c37] at H
    have c37b0 := eq_true c37
    have c37b1 : decide (x6_1 ≤ (wrap64 (x6_1 + 1))) = true := decide_eq_true c37
    by_cases c38 : (wrap64 (x6_1 + 1)) ≤ (a0.size : Int)
    rotate_left
    ·rw [if_neg c38] at H
     exact absurd H Zv
    rw [if_pos c38] at H
    have c38b0 := eq_true c38
    have c38b1 : decide ((wrap64 (x6_1 + 1)) ≤ (a0.size : Int)) = true := decide_eq_true c38
    by_cases c39 : x5_1.size + (a0.extract (x6_1 : Int).toNat ((wrap64 (x6_1 + 1)) : Int).toNat).size ≤ 9223372036854775807
    rotate_left
    ·rw [if_neg c39] at H
     exact absurd H Zv
    rw [if_pos c39] at H
    have c39b0 := eq_true c39
    have c39b1 : decide (x5_1.size + (a0.extract (x6_1 : Int).toNat ((wrap64 (x6_1 + 1)) : Int).toNat).size ≤ 9223372036854775807) = true := decide_eq_true c39
    try have c39b2 : (9223372036854775807 < x5_1.size + (a0.extract (x6_1 : Int).toNat ((wrap64 (x6_1 + 1)) : Int).toNat).size) = False := eq_false (Nat.not_lt.2 c39)
    try have c39b9 : (9223372036854775807 < x5_1.size + (((wrap64 (x6_1 + 1)) : Int).toNat - (x6_1 : Int).toNat)) = False := eq_false (by have h9_ := c39; rw [ByteArray.size_extract] at h9_; omega)
    have H' := Ya.mk H
    clear H
    have p5 : 0 ≤ (x6_1 : Int) := of_decide_eq_true Zc
    have q5 : x6_1 < (a0.size : Int) := of_decide_eq_true Zc
    have hx5 := Yya a0 x6_1
    replace p5 := eq_true p5
    replace q5 := eq_true q5
    go_wp2_with (first | (go_at_call 88; (with_reducible refine (Yga.calls k1 (bt a0 x6_1) (⟨#[34, 60, 62]⟩ : ByteArray) false _ ?side1 A20.out).mono ?_); (case side1 => first | exact HE.out | exact EnvOk.below HE.out Za); rintro e w' ⟨rfl, ⟨nd, rfl⟩⟩) | (go_at_call 88; (with_reducible refine (Yga.calls k1 (bt a0 x6_1) a1 false _ ?side1 A28.out).mono ?_); (case side1 => first | exact HE.out | exact EnvOk.below HE.out Za); rintro e w' ⟨rfl, ⟨nd, rfl⟩⟩))
    go_roundg k1
    case measure => have := HK1.out; omega
    case rel => exact ⟨(x5_1 ++ (a0.extract (x6_1 : Int).toNat ((wrap64 (x6_1 + 1)) : Int).toNat)), (wrap64 (x6_1 + 1)), Zf, Zf, H', ⟨Zaa⟩, ⟨Za⟩⟩
   subst c29
   rw [if_pos rfl] at H
   have c30b0 := eq_true (of_decide_eq_true Zc : 0 ≤ x6_1)
   by_cases c31 : x6_1 ≤ (wrap64 (x6_1 + 1))
   rotate_left
   ·rw [if_neg c31] at H
    exact absurd H Zv
   rw [if_pos c31] at H
   have c31b0 := eq_true c31
   have c31b1 : decide (x6_1 ≤ (wrap64 (x6_1 + 1))) = true := decide_eq_true c31
   by_cases c32 : (wrap64 (x6_1 + 1)) ≤ (a0.size : Int)
   rotate_left
   ·rw [if_neg c32] at H
    exact absurd H Zv
   rw [if_pos c32] at H
   have c32b0 := eq_true c32
   have c32b1 : decide ((wrap64 (x6_1 + 1)) ≤ (a0.size : Int)) = true := decide_eq_true c32
   replace H := Option.bind_eq_some_iff.mp H
   obtain ⟨t159, A330, H⟩ := H
   try dsimp -simprocs only at H
   have A33 := Ya.mk A330
   clear A330
   by_cases c34 : x5_1.size + t159.size ≤ 9223372036854775807
   rotate_left
   ·rw [if_neg c34] at H
    exact absurd H Zv
   rw [if_pos c34] at H
   have c34b0 := eq_true c34
   have c34b1 : decide (x5_1.size + t159.size ≤ 9223372036854775807) = true := decide_eq_true c34
   try have c34b2 : (9223372036854775807 < x5_1.size + t159.size) = False := eq_false (Nat.not_lt.2 c34)
   have H' := Ya.mk H
   clear H
   have p5 : 0 ≤ (x6_1 : Int) := of_decide_eq_true Zc
   have q5 : x6_1 < (a0.size : Int) := of_decide_eq_true Zc
   have hx5 := Yya a0 x6_1
   replace p5 := eq_true p5
   replace q5 := eq_true q5
   go_wp2_with (first | (go_at_call 88; (with_reducible refine (Yga.calls k1 (bt a0 x6_1) (⟨#[34, 60, 62]⟩ : ByteArray) false _ ?side1 A20.out).mono ?_); (case side1 => first | exact HE.out | exact EnvOk.below HE.out Za); rintro e w' ⟨rfl, ⟨nd, rfl⟩⟩) | (go_at_call 88; (with_reducible refine (Yga.calls k1 (bt a0 x6_1) a1 true _ ?side1 A28.out).mono ?_); (case side1 => first | exact HE.out | exact EnvOk.below HE.out Za); rintro e w' ⟨rfl, ⟨nd, rfl⟩⟩) | ((with_reducible refine Yh (f := 90) rfl ?_); refine Yz (some 38) rfl rfl Tryz.func90 Zi rfl #[.string (a0.extract (x6_1 : Int).toNat ((wrap64 (x6_1 + 1)) : Int).toNat), .string (⟨#[]⟩ : ByteArray)] rfl Zb ?_; (with_reducible refine (Yu.calls k1 (a0.extract (x6_1 : Int).toNat ((wrap64 (x6_1 + 1)) : Int).toNat) (⟨#[]⟩ : ByteArray) t159 _ ?side1 A33.out).mono ?_); (case side1 => first | exact HE.out | exact EnvOk.below HE.out Za); rintro e w35 ⟨rfl, hb⟩; refine ⟨_, rfl, ?_⟩; have n0_ := Ya.mk (Yq Za hb); clear HB; have HB := n0_; clear n0_; (try clear hb); (try clear hb2); (try clear hk); (try clear hi)))
   go_roundg k1
   case measure => have := HK1.out; omega
   case rel => exact ⟨(x5_1 ++ t159), (wrap64 (x6_1 + 1)), Zf, Zf, H', ⟨Zaa⟩, ⟨Za⟩⟩
def Yfa.l0 : Nat → ByteArray → List ByteArray → Int → Option (List ByteArray)
 | 0, _, _, _ => none
 | k + 1, x0, x3, x4 => if x4 < (x0.size : Int) then (if 0 ≤ x4 then ((Yeb.f (bt x0 x4)).bind fun t163 => (if t163 = true then (if x3.length < 8796093022208 then (Yfa.l0 k x0 (x3 ++ [(⟨#[]⟩ : ByteArray)]) (wrap64 (x4 + 1))) else (none)) else (if 0 ≤ (wrap64 ((x3.length : Int) - 1)) then (if (wrap64 ((x3.length : Int) - 1)) < (x3.length : Int) then (if x4 ≤ (wrap64 (x4 + 1)) then (if (wrap64 (x4 + 1)) ≤ (x0.size : Int) then (if (rdOf ByteArray.empty x3 (wrap64 ((x3.length : Int) - 1))).size + (x0.extract (x4 : Int).toNat ((wrap64 (x4 + 1)) : Int).toNat).size ≤ 9223372036854775807 then (Yfa.l0 k x0 (x3.set ((wrap64 ((x3.length : Int) - 1)) : Int).toNat ((rdOf ByteArray.empty x3 (wrap64 ((x3.length : Int) - 1))) ++ (x0.extract (x4 : Int).toNat ((wrap64 (x4 + 1)) : Int).toNat))) (wrap64 (x4 + 1))) else (none)) else (none)) else (none)) else (none)) else (none)))) else (none)) else (some x3)
def Yfa.f (k : Nat) (a0 : ByteArray) : Option (List ByteArray) := Yfa.l0 k a0 (([(⟨#[]⟩ : ByteArray)] : List ByteArray)) 0
def Yfa.T7 : Bool × List (List Nat × List Nat) := (true, [([], []), ([], []), ([1], [1]), ([2], [2]), ([0, 3], [0, 3]), ([4], [4]), ([], []), ([], []), ([], []), ([8], [8]), ([6, 7, 9], [6, 7, 9]), ([5, 10], [5, 10]), ([0, 3, 0, 1, 2, 3, 4, 5, 6, 7, 8, 9, 10, 11], [0, 3]), ([12, 11, 0, 1, 2, 3, 4, 5, 6, 7, 8, 9, 10, 11], [11, 12])])
def Yfa.B7 : List Nat := [0, 0, 2, 6, 15, 31, 0, 0, 0, 256, 960, 2047, 4095, 8191]
theorem Yfa.tab7 : rtab .any (opsOf Tryz.f64 7) = Yfa.T7 := by kernel_rfl
theorem Yfa.bits7 : Yih Yfa.T7.2 Yfa.B7 = true := by kernel_rfl
set_option maxHeartbeats 8000000 in
set_option maxRecDepth 100000 in
theorem Yfa.calls (k : Nat) (a0 : ByteArray) (r : List ByteArray) (w : World) (hE : EnvOk w) (h : Yfa.f k a0 = some r) :
  Calls Tryz.prog 64 #[.string a0] w fun e w' => ∃ v0_ : Value, e = .returned (v0_) ∧ Kd.R Kd.string 9 w' w.heap.size (fun _ => True) v0_ r ∧ Below w.heap.size w w' := by
 have HE := Ya.mk hE
 clear hE
 have HB := Ya.mk (Below.refl w.heap.size w)
 have H : (Yfa.l0 k a0 (([(⟨#[]⟩ : ByteArray)] : List ByteArray)) 0) = some r := h
 clear h
 obtain ⟨y160, hy160⟩ : ∃ y_ : List ByteArray, y_ = (([(⟨#[]⟩ : ByteArray)] : List ByteArray)) := ⟨_, rfl⟩
 replace H : (Yfa.l0 k a0 y160 0) = some r := by first | (rw [hy160]; with_reducible exact H) | (have H2_ := (Option.bind_some _ _).symm.trans H; rw [hy160]; with_reducible exact H2_) | (have H2_ := (Option.bind_some _ _).symm.trans H; with_reducible exact H2_) | with_reducible exact H | (rw [hy160]; exact H) | exact H
 have Ny160 := Ya.mk hy160
 clear hy160
 have H' := Ya.mk H
 clear H
 go_enter Tryz.func64, Tryz.ntmps64
 go_wp2_with (first | ((with_reducible refine Yuc (N := 5) rfl ?_); refine Kd.R_lit Kd.string _ 9 ?hg (N := 5) ?hd (xs := ([(⟨#[]⟩ : ByteArray)] : List ByteArray)) (inner := [.string (⟨#[]⟩ : ByteArray)]) (ok := fun _ => True) (okp := fun _ => True) ?hr ?hp (fun _ hk => hk) trivial (Below.refl _ _) (Nat.le_refl _) Zv ?_; (case hd => rfl); (case hg => rfl); (case hr => first | (go_simp; done) | (go_simp; rfl)); (case hp => exact (Reps.one (show Kd.M Kd.string _ _ _ (⟨#[]⟩ : ByteArray) [.string (⟨#[]⟩ : ByteArray)] from rfl) (Reps.none _ _))); intro v161 w2 ho3 hb hg_ hnew_; clear hg_ hnew_; (first | rw [← Ny160.out] at ho3 | (simp only [Int.reduceToNat] at ho3; rw [← Ny160.out] at ho3)); have n0_ := Ya.mk (Kd.R_lower ho3 (Yea Za)); have n1_ := Ya.mk (Yq Za hb); clear HB; have HO162 := n0_; have HB := n1_; clear n0_ n1_; clear hb ho3))
 go_loopg [3, 4] k (fun kq v3 v4 w' => ∃ (x3_1 : List ByteArray) (x4_1 : Int), v4 = .int .i64 x4_1 ∧ Ya (Yfa.l0 kq a0 x3_1 x4_1 = some r) ∧ Ya (kq ≤ k) ∧ Ya (Kd.R Kd.string 9 w' w.heap.size (fun _ => True) v3 x3_1) ∧ Ya (Below w.heap.size w w'))
 case atStart => exact ⟨(y160), (0), Zf, H', ⟨Nat.le_refl _⟩, ⟨by (with_reducible repeat (first | apply Kd.R_alloc | apply Kd.R_drewN | apply Kd.R_drew)); exact HO162.out⟩, ⟨Za⟩⟩
 case round =>
  clear H'
  try clear p2
  obtain ⟨x3_1, x4_1, rfl, HA, HK1, HO_3, HB⟩ := hrel
  cases gk with
  | zero => exact absurd HA.out (by simp [Yfa.l0])
  | succ k1 =>
   have H := HA.out
   clear HA
   simp only [Yfa.l0] at H
   by_cases c4 : x4_1 < (a0.size : Int)
   rotate_left
   ·rw [if_neg c4] at H
    have c4b0 : decide (x4_1 < (a0.size : Int)) = false := decide_eq_false c4
    clear c4
    obtain rfl := Option.some.inj H
    go_wp2
    go_ret
    exact ⟨_, Zk, Zm, Za⟩
   rw [if_pos c4] at H
   have c4b0 : decide (x4_1 < (a0.size : Int)) = true := decide_eq_true c4
   clear c4
   by_cases c5 : 0 ≤ x4_1
   rotate_left
   ·rw [if_neg c5] at H
    exact absurd H Zv
   rw [if_pos c5] at H
   have c5b0 : decide (0 ≤ x4_1) = true := decide_eq_true c5
   clear c5
   replace H := Option.bind_eq_some_iff.mp H
   obtain ⟨t163, A70, H⟩ := H
   try dsimp -simprocs only at H
   have A7 := Ya.mk A70
   clear A70
   by_cases c8 : t163 = true
   ·subst c8
    rw [if_pos rfl] at H
    by_cases c9 : x3_1.length < 8796093022208
    rotate_left
    ·rw [if_neg c9] at H
     exact absurd H Zv
    rw [if_pos c9] at H
    have LMc9 := Ya.mk c9
    clear c9
    obtain ⟨y164, hy164⟩ : ∃ y_ : List ByteArray, y_ = (x3_1 ++ [(⟨#[]⟩ : ByteArray)]) := ⟨_, rfl⟩
    replace H : (Yfa.l0 k1 a0 y164 (wrap64 (x4_1 + 1))) = some r := by first | (rw [hy164]; with_reducible exact H) | (have H2_ := (Option.bind_some _ _).symm.trans H; rw [hy164]; with_reducible exact H2_) | (have H2_ := (Option.bind_some _ _).symm.trans H; with_reducible exact H2_) | with_reducible exact H | (rw [hy164]; exact H) | exact H
    have Ny164 := Ya.mk hy164
    clear hy164
    have H' := Ya.mk H
    clear H
    have p6 : 0 ≤ (x4_1 : Int) := of_decide_eq_true Zc
    have q6 : x4_1 < (a0.size : Int) := of_decide_eq_true Zc
    have hx6 := Yya a0 x4_1
    replace p6 := eq_true p6
    replace q6 := eq_true q6
    go_wp2_with (first | ((with_reducible refine Yh (f := 48) rfl ?_); refine Yz (some 15) rfl rfl Tryz.func48 Zi rfl #[.int .u8 (bt a0 x4_1)] rfl Zb ?_; (with_reducible refine (Yeb.calls (bt a0 x4_1) true _ ?side1 A7.out).mono ?_); (case side1 => first | exact HE.out | exact EnvOk.below HE.out Za); rintro e w' ⟨rfl, ⟨nd, rfl⟩⟩; refine ⟨_, rfl, ?_⟩) | ((with_reducible refine Yzd (b := .append) (xs := #[.tmp 16, .tmp 17]) rfl ?_); at_builtin; refine Kd.R_append Kd.string (w0 := w) w.heap.size rfl (.tmp 16) (.tmp 17) 44 9 (.string ⟨#[]⟩) 16 rfl Tryz.underlying44 Yfg rfl Zda Zl u3 x3_1 (⟨#[]⟩ : ByteArray) [.string (⟨#[]⟩ : ByteArray)] (fun _ => True) (fun _ => False) rfl rfl ?aP (fun _ hk => hk.elim) ?aF ?aO ?aB ?aS ?aL ?_; (case aP => exact rfl); (case aB => exact Za); (case aF => exact (fun _ _ => trivial)); (case aO => exact Zm); (case aS => exact (Yea Za)); (case aL => have := LMc9.out; omega); intro v165 w10 ho hb hg hat; rw [← Ny164.out] at ho; have n0_ := Ya.mk (hb); have n1_ := Ya.mk (ho); clear HB; clear HO_3; have HB := n0_; have HO166 := n1_; clear n0_ n1_; clear ho hb hg hat))
    go_roundg k1
    case measure => have := HK1.out; omega
    case rel => exact ⟨(y164), (wrap64 (x4_1 + 1)), Zf, H', ⟨Zaa⟩, ⟨by (with_reducible repeat (first | apply Kd.R_alloc | apply Kd.R_drewN | apply Kd.R_drew)); exact HO166.out⟩, ⟨Za⟩⟩
   replace c8 := Bool.eq_false_iff.mpr c8
   subst c8
   rw [if_neg (show ¬ (false = true) by decide)] at H
   obtain ⟨ji11, hji11⟩ : ∃ j_ : Int, (wrap64 ((x3_1.length : Int) - 1)) = j_ := ⟨_, rfl⟩
   replace H : (if 0 ≤ (ji11) then (if (ji11) < (x3_1.length : Int) then (if x4_1 ≤ (wrap64 (x4_1 + 1)) then (if (wrap64 (x4_1 + 1)) ≤ (a0.size : Int) then (if (rdOf ByteArray.empty x3_1 (ji11)).size + (a0.extract (x4_1 : Int).toNat ((wrap64 (x4_1 + 1)) : Int).toNat).size ≤ 9223372036854775807 then (Yfa.l0 k1 a0 (x3_1.set ((ji11) : Int).toNat ((rdOf ByteArray.empty x3_1 (ji11)) ++ (a0.extract (x4_1 : Int).toNat ((wrap64 (x4_1 + 1)) : Int).toNat))) (wrap64 (x4_1 + 1))) else (none)) else (none)) else (none)) else (none)) else (none)) = some r := by first | (rw [hji11] at H; exact H) | (simp only [hji11] at H ⊢; exact H)
   (try rw [hji11] at A7)
   have hji11w : (IntKind.i64.wrap ((x3_1.length : Int) - 1)) = ji11 := (Yqa _).trans hji11
   by_cases c12 : 0 ≤ (ji11)
   rotate_left
   ·rw [if_neg c12] at H
    exact absurd H Zv
   rw [if_pos c12] at H
   have c12b0 : decide (0 ≤ (ji11)) = true := decide_eq_true c12
   clear c12
   by_cases c13 : (ji11) < (x3_1.length : Int)
   rotate_left
   ·rw [if_neg c13] at H
    exact absurd H Zv
   rw [if_pos c13] at H
   have c13b0 : decide ((ji11) < (x3_1.length : Int)) = true := decide_eq_true c13
   clear c13
   have c14b0 := eq_true (of_decide_eq_true Zc : 0 ≤ x4_1)
   by_cases c15 : x4_1 ≤ (wrap64 (x4_1 + 1))
   rotate_left
   ·rw [if_neg c15] at H
    exact absurd H Zv
   rw [if_pos c15] at H
   have c15b0 := eq_true c15
   have c15b1 : decide (x4_1 ≤ (wrap64 (x4_1 + 1))) = true := decide_eq_true c15
   by_cases c16 : (wrap64 (x4_1 + 1)) ≤ (a0.size : Int)
   rotate_left
   ·rw [if_neg c16] at H
    exact absurd H Zv
   rw [if_pos c16] at H
   have c16b0 := eq_true c16
   have c16b1 : decide ((wrap64 (x4_1 + 1)) ≤ (a0.size : Int)) = true := decide_eq_true c16
   by_cases c17 : (rdOf ByteArray.empty x3_1 (ji11)).size + (a0.extract (x4_1 : Int).toNat ((wrap64 (x4_1 + 1)) : Int).toNat).size ≤ 9223372036854775807
   rotate_left
   ·rw [if_neg c17] at H
    exact absurd H Zv
   rw [if_pos c17] at H
   have c17b0 := eq_true c17
   have c17b1 : decide ((rdOf ByteArray.empty x3_1 (ji11)).size + (a0.extract (x4_1 : Int).toNat ((wrap64 (x4_1 + 1)) : Int).toNat).size ≤ 9223372036854775807) = true := decide_eq_true c17
   try have c17b2 : (9223372036854775807 < (rdOf ByteArray.empty x3_1 (ji11)).size + (a0.extract (x4_1 : Int).toNat ((wrap64 (x4_1 + 1)) : Int).toNat).size) = False := eq_false (Nat.not_lt.2 c17)
   try have c17b9 : (9223372036854775807 < (rdOf ByteArray.empty x3_1 (ji11)).size + (((wrap64 (x4_1 + 1)) : Int).toNat - (x4_1 : Int).toNat)) = False := eq_false (by have h9_ := c17; rw [ByteArray.size_extract] at h9_; omega)
   obtain ⟨y168, hy168⟩ : ∃ y_ : List ByteArray, y_ = (x3_1.set ((ji11) : Int).toNat ((rdOf ByteArray.empty x3_1 (ji11)) ++ (a0.extract (x4_1 : Int).toNat ((wrap64 (x4_1 + 1)) : Int).toNat))) := ⟨_, rfl⟩
   replace H : (Yfa.l0 k1 a0 y168 (wrap64 (x4_1 + 1))) = some r := by first | (rw [hy168]; with_reducible exact H) | (have H2_ := (Option.bind_some _ _).symm.trans H; rw [hy168]; with_reducible exact H2_) | (have H2_ := (Option.bind_some _ _).symm.trans H; with_reducible exact H2_) | with_reducible exact H | (rw [hy168]; exact H) | exact H
   have Ny168 := Ya.mk hy168
   clear hy168
   have H' := Ya.mk H
   clear H
   have p6 : 0 ≤ (x4_1 : Int) := of_decide_eq_true Zc
   have q6 : x4_1 < (a0.size : Int) := of_decide_eq_true Zc
   have hx6 := Yya a0 x4_1
   replace p6 := eq_true p6
   replace q6 := eq_true q6
   try go_wp2_with (first | ((with_reducible refine Yh (f := 48) rfl ?_); refine Yz (some 15) rfl rfl Tryz.func48 Zi rfl #[.int .u8 (bt a0 x4_1)] rfl Zb ?_; (with_reducible refine (Yeb.calls (bt a0 x4_1) false _ ?side1 A7.out).mono ?_); (case side1 => first | exact HE.out | exact EnvOk.below HE.out Za); rintro e w' ⟨rfl, ⟨nd, rfl⟩⟩; refine ⟨_, rfl, ?_⟩; (try (rw [Ydg wr]; generalize hq_ : World.drewN wr _ = wr; have n0_ : Ya (Kd.R Kd.string 9 wr w.heap.size (fun _ => True) u3 x3_1) := ⟨by rw [← hq_]; exact Zm⟩; have n1_ : Ya (Below w.heap.size w wr) := ⟨by rw [← hq_]; exact Za⟩; clear HO_3 HB hq_; have HO_3 := n0_; have HB := n1_; clear n0_ n1_))))
   have n0_ := Ya.mk (Kd.R_drew HO_3.out)
   have n1_ := Ya.mk (Yc HB.out)
   clear HO_3
   clear HB
   have HO_3 := n0_
   have HB := n1_
   clear n0_ n1_
   obtain ⟨Ao20, co20, eo20⟩ := Kd.R_slice HO_3.out
   (first | subst eo20 | (injection eo20 with f1_ f2_ f3_; have f4_ := f1_.symm; have f5_ := f3_.symm; clear f1_ f2_ f3_; subst f4_; subst f5_))
   have p167 : 0 ≤ ((ji11) : Int) := of_decide_eq_true Zc
   have q167 : (ji11) < (x3_1.length : Int) := of_decide_eq_true Zc
   obtain ⟨ad167, e167, hx167_0⟩ := Kd.at_string (Kd.R_reads' HO_3.out).2.2 (ji11) p167 q167
   cases e167
   replace p167 := eq_true p167
   replace q167 := eq_true q167
   have p18 : 0 ≤ ((ji11) : Int) := of_decide_eq_true Zc
   have q18 : ((ji11) : Int) < ((x3_1.length : Int) : Int) := of_decide_eq_true Zc
   obtain ⟨go18, co18, eo18, gb18, gl18, cl18, HG18⟩ := Kd.R_form HO_3.out Zl
   (first | cases eo18 | (injection eo18 with ea_ en_ ec_; (first | subst ea_ | (injection ea_ with ea_; subst ea_)); subst ec_; clear en_))
   have GB18 := Ya.mk gb18
   have GG18 := Ya.mk HG18
   clear gb18 gl18 HG18
   (first | simp only [add_plain] at hx167_0 | skip)
   obtain ⟨hx18_0, hf18_0⟩ := Kd.R_celln (⟨#[]⟩ : ByteArray) HO_3.out ((ji11) : Int) p18 q18
   replace p18 := eq_true p18
   replace q18 := eq_true q18
   have HP21 := Kd.R_putn HO_3.out ((ji11) : Int) ((rdOf ByteArray.empty x3_1 (ji11)) ++ (a0.extract (x4_1 : Int).toNat ((wrap64 (x4_1 + 1)) : Int).toNat))
   rw [← Ny168.out] at HP21
   have HQ21 := Ya.mk HP21
   clear HP21
   refine Ylh (n := 14) (S := fun w' => w'.cell? ⟨go18, ((ji11)).toNat, none⟩ = some (.string (rdOf ByteArray.empty x3_1 (ji11)))) (ds := [13]) #[false, false, false, false, false, false, false, false, false, false, false, false, false, false] Zi rfl rfl (hx167_0) (fun hHeld => ?_); refine Yqh Yfa.tab7 Yfa.bits7 (fun HT_ HW_ => ?_)
   generalize wr.drew = w19 at HO_3 HB GG18 HQ21 hf18_0 hx167_0 hx18_0 hHeld ⊢
   refine Yrb (i := 0) (N := some 19) (v := ?_) (a' := ?_) #[true, false, false, false, false, false, false, false, false, false, false, false, false, false] rfl rfl (Ypb HT_.out Zi) (fun _ _ _ h => h) (Or.inl ⟨Zla, ?_⟩) ?_ ?_
   rotate_left
   ·intro w'
    go_simp
    with_reducible rfl
   rotate_left
   ·simp only [Act.put, List.setIfInBounds_toArray, List.set_cons_zero, List.set_cons_succ, Yqa, Yra]
    rfl
   refine Yrb (i := 1) (N := some 20) (v := ?_) (a' := ?_) #[true, true, false, false, false, false, false, false, false, false, false, false, false, false] rfl rfl (Ypb HT_.out Zi) (fun _ _ _ h => h) (Or.inl ⟨Zla, ?_⟩) ?_ ?_
   rotate_left
   ·intro w'
    go_simp
    with_reducible rfl
   rotate_left
   ·simp only [Act.put, List.setIfInBounds_toArray, List.set_cons_zero, List.set_cons_succ, Yqa, Yra]
    rfl
   refine Yrb (i := 2) (N := some 21) (v := ?_) (a' := ?_) #[true, true, true, false, false, false, false, false, false, false, false, false, false, false] rfl rfl (Ypb HT_.out Zi) (fun _ _ _ h => h) (Or.inl ⟨Zla, ?_⟩) ?_ ?_
   rotate_left
   ·intro w'
    go_simp
    with_reducible rfl
   rotate_left
   ·simp only [Act.put, List.setIfInBounds_toArray, List.set_cons_zero, List.set_cons_succ, Yqa, Yra]
    rfl
   refine Yrb (i := 3) (N := some 22) (v := ?_) (a' := ?_) #[true, true, true, true, false, false, false, false, false, false, false, false, false, false] rfl rfl (Ypb HT_.out Zi) (fun _ _ _ h => h) (Or.inl ⟨Zla, ?_⟩) ?_ ?_
   rotate_left
   ·intro w'
    go_simp
    with_reducible rfl
   rotate_left
   ·simp only [Act.put, List.setIfInBounds_toArray, List.set_cons_zero, List.set_cons_succ, Yqa, Yra]
    rfl
   refine Yrb (i := 4) (N := some 23) (v := ?_) (a' := ?_) #[true, true, true, true, true, false, false, false, false, false, false, false, false, false] rfl rfl (Ypb HT_.out Zi) (fun _ _ _ h => h) (Or.inl ⟨Zla, ?_⟩) ?_ ?_
   rotate_left
   ·intro w'
    go_simp
    with_reducible rfl
   rotate_left
   ·simp only [Act.put, List.setIfInBounds_toArray, List.set_cons_zero, List.set_cons_succ, Yqa, Yra]
    rfl
   refine Yrb (i := 6) (N := some 25) (v := ?_) (a' := ?_) #[true, true, true, true, true, false, true, false, false, false, false, false, false, false] rfl rfl (Ypb HT_.out Zi) (fun _ _ _ h => h) (Or.inl ⟨Zla, ?_⟩) ?_ ?_
   rotate_left
   ·intro w'
    go_simp
    with_reducible rfl
   rotate_left
   ·simp only [Act.put, List.setIfInBounds_toArray, List.set_cons_zero, List.set_cons_succ, Yqa, Yra]
    rfl
   refine Yrb (i := 7) (N := some 26) (v := ?_) (a' := ?_) #[true, true, true, true, true, false, true, true, false, false, false, false, false, false] rfl rfl (Ypb HT_.out Zi) (fun _ _ _ h => h) (Or.inl ⟨Zla, ?_⟩) ?_ ?_
   rotate_left
   ·intro w'
    go_simp
    with_reducible rfl
   rotate_left
   ·simp only [Act.put, List.setIfInBounds_toArray, List.set_cons_zero, List.set_cons_succ, Yqa, Yra]
    rfl
   refine Yrb (i := 8) (N := some 27) (v := ?_) (a' := ?_) #[true, true, true, true, true, false, true, true, true, false, false, false, false, false] rfl rfl (Ypb HT_.out Zi) (fun _ _ _ h => h) (Or.inl ⟨Zla, ?_⟩) ?_ ?_
   rotate_left
   ·intro w'
    go_simp
    with_reducible rfl
   rotate_left
   ·simp only [Act.put, List.setIfInBounds_toArray, List.set_cons_zero, List.set_cons_succ, Yqa, Yra]
    rfl
   refine Yrb (i := 9) (N := some 28) (v := ?_) (a' := ?_) #[true, true, true, true, true, false, true, true, true, true, false, false, false, false] rfl rfl (Ypb HT_.out Zi) (fun _ _ _ h => h) (Or.inl ⟨Zla, ?_⟩) ?_ ?_
   rotate_left
   ·intro w'
    go_simp
    with_reducible rfl
   rotate_left
   ·simp only [Act.put, List.setIfInBounds_toArray, List.set_cons_zero, List.set_cons_succ, Yqa, Yra]
    rfl
   refine Yrb (i := 10) (N := some 29) (v := ?_) (a' := ?_) #[true, true, true, true, true, false, true, true, true, true, true, false, false, false] rfl rfl (Ypb HT_.out Zi) (fun _ _ _ h => h) (Or.inl ⟨Zla, ?_⟩) ?_ ?_
   rotate_left
   ·intro w'
    go_simp
    with_reducible rfl
   rotate_left
   ·simp only [Act.put, List.setIfInBounds_toArray, List.set_cons_zero, List.set_cons_succ, Yqa, Yra]
    rfl
   refine Ymg (i := 5) (N := some 24) (v := ?_) (a' := ?_) #[true, true, true, true, true, true, true, true, true, true, true, false, false, false] rfl rfl (Yhg HT_.out HW_.out Zi) (fun _ _ _ h => h) (Or.inl ⟨Zla, ?_⟩) hHeld ?_ ?_
   rotate_left
   ·intro w' s0
    go_simp
    with_reducible rfl
   rotate_left
   ·simp only [Act.put, List.setIfInBounds_toArray, List.set_cons_zero, List.set_cons_succ, Yqa, Yra]
    rfl
   refine Yrb (i := 11) (N := some 30) (v := ?_) (a' := ?_) #[true, true, true, true, true, true, true, true, true, true, true, true, false, false] rfl rfl (Ypb HT_.out Zi) (fun _ _ _ h => h) (Or.inl ⟨Zla, ?_⟩) ?_ ?_
   rotate_left
   ·intro w'
    go_simp
    with_reducible rfl
   rotate_left
   ·simp only [Act.put, List.setIfInBounds_toArray, List.set_cons_zero, List.set_cons_succ, Yqa, Yra]
    rfl
   refine Yrb (i := 12) (N := some 31) (v := ?_) (a' := ?_) #[true, true, true, true, true, true, true, true, true, true, true, true, true, false] rfl rfl (Ypb HT_.out Zi) (fun _ _ _ h => h) (Or.inl ⟨Zla, ?_⟩) ?_ ?_
   rotate_left
   ·intro w'
    go_simp
    with_reducible rfl
   rotate_left
   ·simp only [Act.put, List.setIfInBounds_toArray, List.set_cons_zero, List.set_cons_succ, Yqa, Yra]
    rfl
   refine Ynn (i := 13) (N := none) #[true, true, true, true, true, true, true, true, true, true, true, true, true, true] rfl rfl (Ykg HT_.out Zi) Zda (fun K hK => ?_)
   refine Yuk (w1 := ?_) Zla rfl ?_ ?_
   rotate_left
   ·go_simp
    rfl
   refine hK.out _ _ ?_
   clear hK K
   refine Yqi (Yhj HT_.out Zi) ?_
   try go_wp2
   go_roundg k1
   case measure => have := HK1.out; omega
   case rel => exact ⟨(y168), (wrap64 (x4_1 + 1)), Zf, H', ⟨Zaa⟩, ⟨by (with_reducible repeat (first | apply Kd.R_alloc | apply Kd.R_drewN | apply Kd.R_drew)); exact HQ21.out⟩, ⟨by repeat (first | (with_reducible first | exact HB.out | apply Yd | apply Yb | apply Yc | refine Yg ?_ GB18.out) | exact HB.out)⟩⟩
def Yka.l0 : Nat → ByteArray → List Int → Int → Option (ByteArray)
 | 0, _, _, _ => none
 | k + 1, x0, x3, x4 => if x4 < (x0.size : Int) then (if 0 ≤ x4 then (if (bt x0 x4) ≥ 65 then (if (bt x0 x4) ≤ 90 then (if x3.length < 140737488355328 then (Yka.l0 k x0 (x3 ++ [((bt x0 x4) + 32) % 256]) (wrap64 (x4 + 1))) else (none)) else (if x3.length < 140737488355328 then (Yka.l0 k x0 (x3 ++ [bt x0 x4]) (wrap64 (x4 + 1))) else (none))) else (if x3.length < 140737488355328 then (Yka.l0 k x0 (x3 ++ [bt x0 x4]) (wrap64 (x4 + 1))) else (none))) else (none)) else (some (strOfNums x3))
def Yka.f (k : Nat) (a0 : ByteArray) : Option (ByteArray) := Yka.l0 k a0 ([] : List Int) 0
set_option maxHeartbeats 8000000 in
set_option maxRecDepth 100000 in
theorem Yka.calls (k : Nat) (a0 : ByteArray) (r : ByteArray) (w : World) (hE : EnvOk w) (h : Yka.f k a0 = some r) :
  Calls Tryz.prog 47 #[.string a0] w fun e w' => e = .returned (.string r) ∧ Below w.heap.size w w' := by
 have HE := Ya.mk hE
 clear hE
 have HB := Ya.mk (Below.refl w.heap.size w)
 have H : (Yka.l0 k a0 ([] : List Int) 0) = some r := h
 clear h
 have H' := Ya.mk H
 clear H
 go_enter Tryz.func47, Tryz.ntmps47
 go_wp2
 go_loopg [3, 4] k (fun kq v3 v4 w' => ∃ (x3_1 : List Int) (x4_1 : Int), v4 = .int .i64 x4_1 ∧ Ya (Yka.l0 kq a0 x3_1 x4_1 = some r) ∧ Ya (kq ≤ k) ∧ Ya (Kd.R (Kd.int .u8) 5 w' w.heap.size (fun _ => True) v3 x3_1) ∧ Ya (Below w.heap.size w w'))
 case atStart => exact ⟨(([] : List Int)), (0), Zf, H', ⟨Nat.le_refl _⟩, ⟨Zea⟩, ⟨Za⟩⟩
 case round =>
  clear H'
  obtain ⟨x3_1, x4_1, rfl, HA, HK1, HO_3, HB⟩ := hrel
  cases gk with
  | zero => exact absurd HA.out (by simp [Yka.l0])
  | succ k1 =>
   have H := HA.out
   clear HA
   simp only [Yka.l0] at H
   by_cases c2 : x4_1 < (a0.size : Int)
   rotate_left
   ·rw [if_neg c2] at H
    have c2b0 : decide (x4_1 < (a0.size : Int)) = false := decide_eq_false c2
    clear c2
    obtain rfl := Option.some.inj H
    have hcv13 := Yyg (P := Tryz.prog) Tryz.underlying62 Tryz.underlying5 Tryz.underlying9 (Kd.own_of_R HO_3.out)
    go_wp2
    go_ret
    exact ⟨Zk, Za⟩
   rw [if_pos c2] at H
   have c2b0 : decide (x4_1 < (a0.size : Int)) = true := decide_eq_true c2
   clear c2
   by_cases c3 : 0 ≤ x4_1
   rotate_left
   ·rw [if_neg c3] at H
    exact absurd H Zv
   rw [if_pos c3] at H
   have c3b0 : decide (0 ≤ x4_1) = true := decide_eq_true c3
   clear c3
   by_cases c5 : (bt a0 x4_1) ≥ 65
   rotate_left
   ·rw [if_neg c5] at H
    have c5b0 : decide (65 ≤ (bt a0 x4_1)) = false := decide_eq_false c5
    clear c5
    by_cases c11 : x3_1.length < 140737488355328
    rotate_left
    ·rw [if_neg c11] at H
     exact absurd H Zv
    rw [if_pos c11] at H
    have LMc11 := Ya.mk c11
    clear c11
    obtain ⟨y175, hy175⟩ : ∃ y_ : List Int, y_ = (x3_1 ++ [bt a0 x4_1]) := ⟨_, rfl⟩
    replace H : (Yka.l0 k1 a0 y175 (wrap64 (x4_1 + 1))) = some r := by first | (rw [hy175]; with_reducible exact H) | (have H2_ := (Option.bind_some _ _).symm.trans H; rw [hy175]; with_reducible exact H2_) | (have H2_ := (Option.bind_some _ _).symm.trans H; with_reducible exact H2_) | with_reducible exact H | (rw [hy175]; exact H) | exact H
    have Ny175 := Ya.mk hy175
    clear hy175
    have H' := Ya.mk H
    clear H
    have p4 : 0 ≤ (x4_1 : Int) := of_decide_eq_true Zc
    have q4 : x4_1 < (a0.size : Int) := of_decide_eq_true Zc
    have hx4 := Yya a0 x4_1
    replace p4 := eq_true p4
    replace q4 := eq_true q4
    go_wp2_with (first | ((with_reducible refine Yzd (b := .append) (xs := #[.tmp 23, .tmp 25]) rfl ?_); at_builtin; refine Kd.R_append (Kd.int .u8) (w0 := w) w.heap.size rfl (.tmp 23) (.tmp 25) 62 5 (.int .u8 0) 1 rfl Tryz.underlying62 Ywl rfl Zda Zl u3 x3_1 (bt a0 x4_1) [.int .u8 (bt a0 x4_1)] (fun _ => True) (fun _ => False) rfl rfl ?aP (fun _ hk => hk.elim) ?aF ?aO ?aB ?aS ?aL ?_; (case aP => exact rfl); (case aB => exact Za); (case aF => exact (fun _ _ => trivial)); (case aO => exact Zm); (case aS => exact (Yea Za)); (case aL => have := LMc11.out; omega); intro v176 w12 ho hb hg hat; rw [← Ny175.out] at ho; have n0_ := Ya.mk (hb); have n1_ := Ya.mk (ho); clear HB; clear HO_3; have HB := n0_; have HO177 := n1_; clear n0_ n1_; clear ho hb hg hat))
    go_roundg k1
    case measure => have := HK1.out; omega
    case rel => exact ⟨(y175), (wrap64 (x4_1 + 1)), Zf, H', ⟨Zaa⟩, ⟨by (with_reducible repeat (first | apply Kd.R_alloc | apply Kd.R_drewN | apply Kd.R_drew)); exact HO177.out⟩, ⟨Za⟩⟩
   rw [if_pos c5] at H
   have c5b0 : decide (65 ≤ (bt a0 x4_1)) = true := decide_eq_true c5
   clear c5
   by_cases c6 : (bt a0 x4_1) ≤ 90
   rotate_left
   ·rw [if_neg c6] at H
    have c6b0 : decide ((bt a0 x4_1) ≤ 90) = false := decide_eq_false c6
    clear c6
    by_cases c9 : x3_1.length < 140737488355328
    rotate_left
    ·rw [if_neg c9] at H
     exact absurd H Zv
    rw [if_pos c9] at H
    have LMc9 := Ya.mk c9
    clear c9
    obtain ⟨y172, hy172⟩ : ∃ y_ : List Int, y_ = (x3_1 ++ [bt a0 x4_1]) := ⟨_, rfl⟩
    replace H : (Yka.l0 k1 a0 y172 (wrap64 (x4_1 + 1))) = some r := by first | (rw [hy172]; with_reducible exact H) | (have H2_ := (Option.bind_some _ _).symm.trans H; rw [hy172]; with_reducible exact H2_) | (have H2_ := (Option.bind_some _ _).symm.trans H; with_reducible exact H2_) | with_reducible exact H | (rw [hy172]; exact H) | exact H
    have Ny172 := Ya.mk hy172
    clear hy172
    have H' := Ya.mk H
    clear H
    have p4 : 0 ≤ (x4_1 : Int) := of_decide_eq_true Zc
    have q4 : x4_1 < (a0.size : Int) := of_decide_eq_true Zc
    have hx4 := Yya a0 x4_1
    replace p4 := eq_true p4
    replace q4 := eq_true q4
    go_wp2_with (first | ((with_reducible refine Yzd (b := .append) (xs := #[.tmp 23, .tmp 25]) rfl ?_); at_builtin; refine Kd.R_append (Kd.int .u8) (w0 := w) w.heap.size rfl (.tmp 23) (.tmp 25) 62 5 (.int .u8 0) 1 rfl Tryz.underlying62 Ywl rfl Zda Zl u3 x3_1 (bt a0 x4_1) [.int .u8 (bt a0 x4_1)] (fun _ => True) (fun _ => False) rfl rfl ?aP (fun _ hk => hk.elim) ?aF ?aO ?aB ?aS ?aL ?_; (case aP => exact rfl); (case aB => exact Za); (case aF => exact (fun _ _ => trivial)); (case aO => exact Zm); (case aS => exact (Yea Za)); (case aL => have := LMc9.out; omega); intro v173 w10 ho hb hg hat; rw [← Ny172.out] at ho; have n0_ := Ya.mk (hb); have n1_ := Ya.mk (ho); clear HB; clear HO_3; have HB := n0_; have HO174 := n1_; clear n0_ n1_; clear ho hb hg hat))
    go_roundg k1
    case measure => have := HK1.out; omega
    case rel => exact ⟨(y172), (wrap64 (x4_1 + 1)), Zf, H', ⟨Zaa⟩, ⟨by (with_reducible repeat (first | apply Kd.R_alloc | apply Kd.R_drewN | apply Kd.R_drew)); exact HO174.out⟩, ⟨Za⟩⟩
   rw [if_pos c6] at H
   have c6b0 : decide ((bt a0 x4_1) ≤ 90) = true := decide_eq_true c6
   clear c6
   by_cases c7 : x3_1.length < 140737488355328
   rotate_left
   ·rw [if_neg c7] at H
    exact absurd H Zv
   rw [if_pos c7] at H
   have LMc7 := Ya.mk c7
   clear c7
   obtain ⟨y169, hy169⟩ : ∃ y_ : List Int, y_ = (x3_1 ++ [((bt a0 x4_1) + 32) % 256]) := ⟨_, rfl⟩
   replace H : (Yka.l0 k1 a0 y169 (wrap64 (x4_1 + 1))) = some r := by first | (rw [hy169]; with_reducible exact H) | (have H2_ := (Option.bind_some _ _).symm.trans H; rw [hy169]; with_reducible exact H2_) | (have H2_ := (Option.bind_some _ _).symm.trans H; with_reducible exact H2_) | with_reducible exact H | (rw [hy169]; exact H) | exact H
   have Ny169 := Ya.mk hy169
   clear hy169
   have H' := Ya.mk H
   clear H
   have p4 : 0 ≤ (x4_1 : Int) := of_decide_eq_true Zc
   have q4 : x4_1 < (a0.size : Int) := of_decide_eq_true Zc
   have hx4 := Yya a0 x4_1
   replace p4 := eq_true p4
   replace q4 := eq_true q4
   go_wp2_with (first | ((with_reducible refine Yzd (b := .append) (xs := #[.tmp 23, .tmp 25]) rfl ?_); at_builtin; refine Kd.R_append (Kd.int .u8) (w0 := w) w.heap.size rfl (.tmp 23) (.tmp 25) 62 5 (.int .u8 0) 1 rfl Tryz.underlying62 Ywl rfl Zda Zl u3 x3_1 (((bt a0 x4_1) + 32) % 256) [.int .u8 (((bt a0 x4_1) + 32) % 256)] (fun _ => True) (fun _ => False) rfl rfl ?aP (fun _ hk => hk.elim) ?aF ?aO ?aB ?aS ?aL ?_; (case aP => exact rfl); (case aB => exact Za); (case aF => exact (fun _ _ => trivial)); (case aO => exact Zm); (case aS => exact (Yea Za)); (case aL => have := LMc7.out; omega); intro v170 w8 ho hb hg hat; rw [← Ny169.out] at ho; have n0_ := Ya.mk (hb); have n1_ := Ya.mk (ho); clear HB; clear HO_3; have HB := n0_; have HO171 := n1_; clear n0_ n1_; clear ho hb hg hat))
   go_roundg k1
   case measure => have := HK1.out; omega
   case rel => exact ⟨(y169), (wrap64 (x4_1 + 1)), Zf, H', ⟨Zaa⟩, ⟨by (with_reducible repeat (first | apply Kd.R_alloc | apply Kd.R_drewN | apply Kd.R_drew)); exact HO171.out⟩, ⟨Za⟩⟩
end Go.Proofs.YtnmglnglbdpjjaaGreatDoor.X
