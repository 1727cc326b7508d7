/- Printed by a program of ours: functions as plain Lean, and what a call of each does. -/
import Derived.Test.YtfmjnmglagdcdaaGreatDoorCHWords
import Derived.Test.YtfmjnmglagdcdaaGreatDoorCHX0
import Derived.Test.YtfmjnmglagdcdaaGreatDoorCHH0e
namespace Go.Proofs.YtfmjnmglagdcdaaGreatDoor.X
open Go.RowKit Go.Yw.PrintWords Go.Yw.PrintLast Go.Yw.PrintMore
attribute [local go_sem] Ygf Ybf Yzf Yag Yme Ype Ydf Yff
set_option linter.unusedVariables false
set_option linter.unusedSimpArgs false
def Yw.f (a0 : Int) : Option (Bool) := some (decide ((((Go.bits .or .u8 a0 32) - 97) % 256) < 26))
set_option maxHeartbeats 8000000 in
set_option maxRecDepth 100000 in
theorem Yw.calls (a0 : Int) (r : Bool) (w : World) (hE : EnvOk w) (h : Yw.f a0 = some r) :
  Calls Tryz.prog 71 #[.int .u8 a0] w fun e w' => e = .returned (.bool r) ∧ Drawn0 w w' := by
 have HE := Ya.mk hE
 clear hE
 have H : (some (decide ((((Go.bits .or .u8 a0 32) - 97) % 256) < 26))) = some r := h
 clear h
 obtain rfl := Option.some.inj H
 go_enter Tryz.func71, Tryz.ntmps71
 go_wp2
 go_ret
 exact ⟨Zf, Zl⟩
def Yq.f (a0 : Int) : Option (Bool) := some (decide (((a0 - 48) % 256) < 10))
set_option maxHeartbeats 8000000 in
set_option maxRecDepth 100000 in
theorem Yq.calls (a0 : Int) (r : Bool) (w : World) (hE : EnvOk w) (h : Yq.f a0 = some r) :
  Calls Tryz.prog 72 #[.int .u8 a0] w fun e w' => e = .returned (.bool r) ∧ Drawn0 w w' := by
 have HE := Ya.mk hE
 clear hE
 have H : (some (decide (((a0 - 48) % 256) < 10))) = some r := h
 clear h
 obtain rfl := Option.some.inj H
 go_enter Tryz.func72, Tryz.ntmps72
 go_wp2
 go_ret
 exact ⟨Zf, Zl⟩
def Yod.f (a0 : Int) : Option (Int) := if ((a0 - 65) % 256) < 26 then (some (Go.bits .or .u8 a0 32)) else (some a0)
set_option maxHeartbeats 8000000 in
set_option maxRecDepth 100000 in
theorem Yod.calls (a0 : Int) (r : Int) (w : World) (hE : EnvOk w) (h : Yod.f a0 = some r) :
  Calls Tryz.prog 93 #[.int .u8 a0] w fun e w' => e = .returned (.int .u8 r) ∧ Drawn0 w w' := by
 have HE := Ya.mk hE
 clear hE
 have H : (if ((a0 - 65) % 256) < 26 then (some (Go.bits .or .u8 a0 32)) else (some a0)) = some r := h
 clear h
 by_cases c2 : ((a0 - 65) % 256) < 26
 ·rw [if_pos c2] at H
  have c2b0 : decide (((a0 - 65) % 256) < 26) = true := decide_eq_true c2
  clear c2
  obtain rfl := Option.some.inj H
  go_enter Tryz.func93, Tryz.ntmps93
  go_wp2
  go_ret
  exact ⟨Zf, Zl⟩
 rw [if_neg c2] at H
 have c2b0 : decide (((a0 - 65) % 256) < 26) = false := decide_eq_false c2
 clear c2
 obtain rfl := Option.some.inj H
 go_enter Tryz.func93, Tryz.ntmps93
 go_wp2
 go_ret
 exact ⟨Zf, Zl⟩
def Ym.l0 : Nat → ByteArray → Int → Int → Bool → Int → Int → Option (Int × Int)
 | 0, _, _, _, _, _, _ => none
 | k + 1, x0, x1, x6, x7, x15, x16 => if x16 < x15 then (if 0 ≤ x16 then (if x16 < (x0.size : Int) then ((Yq.f (bt x0 x16)).bind fun t101 => (if t101 = true then (if x7 = true then (Ym.l0 k x0 x1 x6 true x15 (wrap64 (x16 + 1))) else (if x6 > (wrap64 (Int.tdiv (wrap64 (x1 - (((bt x0 x16) - 48) % 256))) 10)) then (Ym.l0 k x0 x1 x6 true x15 (wrap64 (x16 + 1))) else (if x1 < (((bt x0 x16) - 48) % 256) then (Ym.l0 k x0 x1 x6 true x15 (wrap64 (x16 + 1))) else (Ym.l0 k x0 x1 (wrap64 ((wrap64 (x6 * 10)) + (((bt x0 x16) - 48) % 256))) x7 x15 (wrap64 (x16 + 1)))))) else (some (0, 3)))) else (none)) else (none)) else (if x7 = true then (some (0, 5)) else (some (x6, 0)))
def Ym.f (k : Nat) (a0 : ByteArray) (a1 : Int) : Option (Int × Int) := if a0.toList = ([] : List UInt8) then (some (0, 3)) else (Ym.l0 k a0 a1 0 (decide (a1 < 0)) (a0.size : Int) 0)
set_option maxHeartbeats 8000000 in
set_option maxRecDepth 100000 in
theorem Ym.calls (k : Nat) (a0 : ByteArray) (a1 : Int) (r1 : Int) (r2 : Int) (w : World) (hE : EnvOk w) (h : Ym.f k a0 a1 = some (r1, r2)) :
  Calls Tryz.prog 62 #[.string a0, .int .i64 a1] w fun e w' => e = .returned (.tuple #[.int .i64 r1, .int .i64 r2]) ∧ Drawn0 w w' := by
 have HE := Ya.mk hE
 clear hE
 have H : (if a0.toList = ([] : List UInt8) then (some (0, 3)) else (Ym.l0 k a0 a1 0 (decide (a1 < 0)) (a0.size : Int) 0)) = some (r1, r2) := h
 clear h
 by_cases c3 : a0.toList = ([] : List UInt8)
 ·rw [if_pos c3] at H
  have c3b0 : (a0.toList == ([] : List UInt8)) = true := beq_iff_eq.mpr c3
  have c3b1 : (a0.toList != ([] : List UInt8)) = false := bne_eq_false_iff_eq.mpr c3
  clear c3
  simp only [Option.some.injEq, Prod.mk.injEq] at H
  obtain ⟨rfl, rfl⟩ := H
  go_enter Tryz.func62, Tryz.ntmps62
  go_wp2
  go_ret2
  exact ⟨Zf, Zl⟩
 rw [if_neg c3] at H
 have c3b0 : (a0.toList == ([] : List UInt8)) = false := beq_eq_false_iff_ne.mpr c3
 have c3b1 : (a0.toList != ([] : List UInt8)) = true := bne_iff_ne.mpr c3
 have H' := Ya.mk H
 clear H
 go_enter Tryz.func62, Tryz.ntmps62
 go_wp2
 go_loopg [6, 7, 16] k (fun kq v6 v7 v16 w' => ∃ (x6_1 : Int) (x7_1 : Bool) (x16_1 : Int), v6 = .int .i64 x6_1 ∧ v7 = .bool x7_1 ∧ v16 = .int .i64 x16_1 ∧ Ya (Ym.l0 kq a0 a1 x6_1 x7_1 (a0.size : Int) x16_1 = some (r1, r2)) ∧ Ya (kq ≤ k) ∧ Drawn0 w w')
 case atStart => exact ⟨(0), (decide (a1 < 0)), (0), Zf, Zf, Zf, H', ⟨Nat.le_refl _⟩, Zl⟩
 case round =>
  clear H'
  try clear p2
  try clear c3
  try clear c3b0
  try clear c3b1
  obtain ⟨x6_1, x7_1, x16_1, rfl, rfl, rfl, HA, HK1, ⟨m1, rfl⟩⟩ := hrel
  cases gk with
  | zero => exact absurd HA.out (by simp [Ym.l0])
  | succ k1 =>
   have H := HA.out
   clear HA
   simp only [Ym.l0] at H
   by_cases c4 : x16_1 < (a0.size : Int)
   rotate_left
   ·rw [if_neg c4] at H
    have c4b0 : decide (x16_1 < (a0.size : Int)) = false := decide_eq_false c4
    clear c4
    by_cases c14 : x7_1 = true
    ·subst c14
     rw [if_pos rfl] at H
     simp only [Option.some.injEq, Prod.mk.injEq] at H
     obtain ⟨rfl, rfl⟩ := H
     go_wp2
     go_ret2
     exact ⟨Zf, Zl⟩
    replace c14 := Bool.eq_false_iff.mpr c14
    subst c14
    rw [if_neg (show ¬ (false = true) by decide)] at H
    simp only [Option.some.injEq, Prod.mk.injEq] at H
    obtain ⟨rfl, rfl⟩ := H
    go_wp2
    go_ret2
    exact ⟨Zf, Zl⟩
   rw [if_pos c4] at H
   have c4b0 : decide (x16_1 < (a0.size : Int)) = true := decide_eq_true c4
   clear c4
   by_cases c5 : 0 ≤ x16_1
   rotate_left
   ·rw [if_neg c5] at H
    exact absurd H Zy
   rw [if_pos c5] at H
   have c5b0 : decide (0 ≤ x16_1) = true := decide_eq_true c5
   clear c5
   by_cases c6 : x16_1 < (a0.size : Int)
   rotate_left
   ·rw [if_neg c6] at H
    exact absurd H Zy
   rw [if_pos c6] at H
   have c6b0 : decide (x16_1 < (a0.size : Int)) = true := decide_eq_true c6
   clear c6
   replace H := Option.bind_eq_some_iff.mp H
   obtain ⟨t101, A80, H⟩ := H
   try dsimp -simprocs only at H
   have A8 := Ya.mk A80
   clear A80
   by_cases c9 : t101 = true
   rotate_left
   ·replace c9 := Bool.eq_false_iff.mpr c9
    subst c9
    rw [if_neg (show ¬ (false = true) by decide)] at H
    simp only [Option.some.injEq, Prod.mk.injEq] at H
    obtain ⟨rfl, rfl⟩ := H
    have p7 : 0 ≤ (x16_1 : Int) := of_decide_eq_true Zh
    have q7 : x16_1 < (a0.size : Int) := of_decide_eq_true Zh
    have hx7 := Yzc a0 x16_1
    replace p7 := eq_true p7
    replace q7 := eq_true q7
    go_wp2_with (first | ((with_reducible refine Yi (f := 72) rfl ?_); refine Yp (some 22) rfl rfl Tryz.func72 Zg rfl #[.int .u8 (bt a0 x16_1)] rfl Zb ?_; (with_reducible refine (Yq.calls (bt a0 x16_1) false _ ?side1 A8.out).mono ?_); (case side1 => first | exact HE.out | exact EnvOk.heap HE.out rfl); rintro e w' ⟨rfl, ⟨nd, rfl⟩⟩; refine ⟨_, rfl, ?_⟩))
    go_ret2
    exact ⟨Zf, Zl⟩
   subst c9
   rw [if_pos rfl] at H
   by_cases c11 : x7_1 = true
   ·subst c11
    rw [if_pos rfl] at H
    have H' := Ya.mk H
    clear H
    have p7 : 0 ≤ (x16_1 : Int) := of_decide_eq_true Zh
    have q7 : x16_1 < (a0.size : Int) := of_decide_eq_true Zh
    have hx7 := Yzc a0 x16_1
    replace p7 := eq_true p7
    replace q7 := eq_true q7
    go_wp2_with (first | ((with_reducible refine Yi (f := 72) rfl ?_); refine Yp (some 22) rfl rfl Tryz.func72 Zg rfl #[.int .u8 (bt a0 x16_1)] rfl Zb ?_; (with_reducible refine (Yq.calls (bt a0 x16_1) true _ ?side1 A8.out).mono ?_); (case side1 => first | exact HE.out | exact EnvOk.heap HE.out rfl); rintro e w' ⟨rfl, ⟨nd, rfl⟩⟩; refine ⟨_, rfl, ?_⟩; have p10 : 0 ≤ (x16_1 : Int) := of_decide_eq_true Zh; have q10 : x16_1 < (a0.size : Int) := of_decide_eq_true Zh; have hx10 := Yzc a0 x16_1; replace p10 := eq_true p10; replace q10 := eq_true q10))
    go_roundg k1
    case measure => have := HK1.out; omega
    case rel => exact ⟨(x6_1), (true), (wrap64 (x16_1 + 1)), Zf, Zf, Zf, H', ⟨Zga⟩, Zl⟩
   replace c11 := Bool.eq_false_iff.mpr c11
   subst c11
   rw [if_neg (show ¬ (false = true) by decide)] at H
   by_cases c12 : x6_1 > (wrap64 (Int.tdiv (wrap64 (a1 - (((bt a0 x16_1) - 48) % 256))) 10))
   ·rw [if_pos c12] at H
    have c12b0 : decide ((wrap64 (Int.tdiv (wrap64 (a1 - (((bt a0 x16_1) - 48) % 256))) 10)) < x6_1) = true := decide_eq_true c12
    clear c12
    have H' := Ya.mk H
    clear H
    have p7 : 0 ≤ (x16_1 : Int) := of_decide_eq_true Zh
    have q7 : x16_1 < (a0.size : Int) := of_decide_eq_true Zh
    have hx7 := Yzc a0 x16_1
    replace p7 := eq_true p7
    replace q7 := eq_true q7
    go_wp2_with (first | ((with_reducible refine Yi (f := 72) rfl ?_); refine Yp (some 22) rfl rfl Tryz.func72 Zg rfl #[.int .u8 (bt a0 x16_1)] rfl Zb ?_; (with_reducible refine (Yq.calls (bt a0 x16_1) true _ ?side1 A8.out).mono ?_); (case side1 => first | exact HE.out | exact EnvOk.heap HE.out rfl); rintro e w' ⟨rfl, ⟨nd, rfl⟩⟩; refine ⟨_, rfl, ?_⟩; have p10 : 0 ≤ (x16_1 : Int) := of_decide_eq_true Zh; have q10 : x16_1 < (a0.size : Int) := of_decide_eq_true Zh; have hx10 := Yzc a0 x16_1; replace p10 := eq_true p10; replace q10 := eq_true q10))
    go_roundg k1
    case measure => have := HK1.out; omega
    case rel => exact ⟨(x6_1), (true), (wrap64 (x16_1 + 1)), Zf, Zf, Zf, H', ⟨Zga⟩, Zl⟩
   rw [if_neg c12] at H
   have c12b0 : decide ((wrap64 (Int.tdiv (wrap64 (a1 - (((bt a0 x16_1) - 48) % 256))) 10)) < x6_1) = false := decide_eq_false c12
   clear c12
   by_cases c13 : a1 < (((bt a0 x16_1) - 48) % 256)
   ·rw [if_pos c13] at H
    have c13b0 : decide (a1 < (((bt a0 x16_1) - 48) % 256)) = true := decide_eq_true c13
    clear c13
    have H' := Ya.mk H
    clear H
    have p7 : 0 ≤ (x16_1 : Int) := of_decide_eq_true Zh
    have q7 : x16_1 < (a0.size : Int) := of_decide_eq_true Zh
    have hx7 := Yzc a0 x16_1
    replace p7 := eq_true p7
    replace q7 := eq_true q7
    go_wp2_with (first | ((with_reducible refine Yi (f := 72) rfl ?_); refine Yp (some 22) rfl rfl Tryz.func72 Zg rfl #[.int .u8 (bt a0 x16_1)] rfl Zb ?_; (with_reducible refine (Yq.calls (bt a0 x16_1) true _ ?side1 A8.out).mono ?_); (case side1 => first | exact HE.out | exact EnvOk.heap HE.out rfl); rintro e w' ⟨rfl, ⟨nd, rfl⟩⟩; refine ⟨_, rfl, ?_⟩; have p10 : 0 ≤ (x16_1 : Int) := of_decide_eq_true Zh; have q10 : x16_1 < (a0.size : Int) := of_decide_eq_true Zh; have hx10 := Yzc a0 x16_1; replace p10 := eq_true p10; replace q10 := eq_true q10))
    go_roundg k1
    case measure => have := HK1.out; omega
    case rel => exact ⟨(x6_1), (true), (wrap64 (x16_1 + 1)), Zf, Zf, Zf, H', ⟨Zga⟩, Zl⟩
   rw [if_neg c13] at H
   have c13b0 : decide (a1 < (((bt a0 x16_1) - 48) % 256)) = false := decide_eq_false c13
   clear c13
   have H' := Ya.mk H
   clear H
   have p7 : 0 ≤ (x16_1 : Int) := of_decide_eq_true Zh
   have q7 : x16_1 < (a0.size : Int) := of_decide_eq_true Zh
   have hx7 := Yzc a0 x16_1
   replace p7 := eq_true p7
   replace q7 := eq_true q7
   go_wp2_with (first | ((with_reducible refine Yi (f := 72) rfl ?_); refine Yp (some 22) rfl rfl Tryz.func72 Zg rfl #[.int .u8 (bt a0 x16_1)] rfl Zb ?_; (with_reducible refine (Yq.calls (bt a0 x16_1) true _ ?side1 A8.out).mono ?_); (case side1 => first | exact HE.out | exact EnvOk.heap HE.out rfl); rintro e w' ⟨rfl, ⟨nd, rfl⟩⟩; refine ⟨_, rfl, ?_⟩; have p10 : 0 ≤ (x16_1 : Int) := of_decide_eq_true Zh; have q10 : x16_1 < (a0.size : Int) := of_decide_eq_true Zh; have hx10 := Yzc a0 x16_1; replace p10 := eq_true p10; replace q10 := eq_true q10))
   go_roundg k1
   case measure => have := HK1.out; omega
   case rel => exact ⟨(wrap64 ((wrap64 (x6_1 * 10)) + (((bt a0 x16_1) - 48) % 256))), (false), (wrap64 (x16_1 + 1)), Zf, Zf, Zf, H', ⟨Zga⟩, Zl⟩
def Yvc.f (a0 : Int) : Option (Int × Bool) := (Yod.f a0).bind fun t102 => ((Yq.f t102).bind fun t103 => (if t103 = true then (some ((t102 - 48) % 256, true)) else (if ((t102 - 97) % 256) < 6 then (some (((t102 - 97) % 256) + 10, true)) else (some (0, false)))))
set_option maxHeartbeats 8000000 in
set_option maxRecDepth 100000 in
theorem Yvc.calls (a0 : Int) (r1 : Int) (r2 : Bool) (w : World) (hE : EnvOk w) (h : Yvc.f a0 = some (r1, r2)) :
  Calls Tryz.prog 136 #[.int .u8 a0] w fun e w' => e = .returned (.tuple #[.int .u32 r1, .bool r2]) ∧ Drawn0 w w' := by
 have HE := Ya.mk hE
 clear hE
 have H : ((Yod.f a0).bind fun t102 => ((Yq.f t102).bind fun t103 => (if t103 = true then (some ((t102 - 48) % 256, true)) else (if ((t102 - 97) % 256) < 6 then (some (((t102 - 97) % 256) + 10, true)) else (some (0, false)))))) = some (r1, r2) := h
 clear h
 replace H := Option.bind_eq_some_iff.mp H
 obtain ⟨t102, A20, H⟩ := H
 try dsimp -simprocs only at H
 have A2 := Ya.mk A20
 clear A20
 replace H := Option.bind_eq_some_iff.mp H
 obtain ⟨t103, A30, H⟩ := H
 try dsimp -simprocs only at H
 have A3 := Ya.mk A30
 clear A30
 by_cases c4 : t103 = true
 ·subst c4
  rw [if_pos rfl] at H
  simp only [Option.some.injEq, Prod.mk.injEq] at H
  obtain ⟨rfl, rfl⟩ := H
  go_enter Tryz.func136, Tryz.ntmps136
  go_wp2_with (first | ((with_reducible refine Yi (f := 93) rfl ?_); refine Yp (some 5) rfl rfl Tryz.func93 Zg rfl #[.int .u8 a0] rfl Zb ?_; (with_reducible refine (Yod.calls a0 t102 _ ?side1 A2.out).mono ?_); (case side1 => first | exact HE.out | exact EnvOk.heap HE.out rfl); rintro e w' ⟨rfl, ⟨nd, rfl⟩⟩; refine ⟨_, rfl, ?_⟩) | ((with_reducible refine Yi (f := 72) rfl ?_); refine Yp (some 8) rfl rfl Tryz.func72 Zg rfl #[.int .u8 t102] rfl Zb ?_; (with_reducible refine (Yq.calls t102 true _ ?side1 A3.out).mono ?_); (case side1 => first | exact HE.out | exact EnvOk.heap HE.out rfl); rintro e w' ⟨rfl, ⟨nd, rfl⟩⟩; refine ⟨_, rfl, ?_⟩))
  go_ret2
  exact ⟨Zf, Zl⟩
 replace c4 := Bool.eq_false_iff.mpr c4
 subst c4
 rw [if_neg (show ¬ (false = true) by decide)] at H
 by_cases c5 : ((t102 - 97) % 256) < 6
 ·rw [if_pos c5] at H
  have c5b0 : decide (((t102 - 97) % 256) < 6) = true := decide_eq_true c5
  clear c5
  simp only [Option.some.injEq, Prod.mk.injEq] at H
  obtain ⟨rfl, rfl⟩ := H
  go_enter Tryz.func136, Tryz.ntmps136
  go_wp2_with (first | ((with_reducible refine Yi (f := 93) rfl ?_); refine Yp (some 5) rfl rfl Tryz.func93 Zg rfl #[.int .u8 a0] rfl Zb ?_; (with_reducible refine (Yod.calls a0 t102 _ ?side1 A2.out).mono ?_); (case side1 => first | exact HE.out | exact EnvOk.heap HE.out rfl); rintro e w' ⟨rfl, ⟨nd, rfl⟩⟩; refine ⟨_, rfl, ?_⟩) | ((with_reducible refine Yi (f := 72) rfl ?_); refine Yp (some 8) rfl rfl Tryz.func72 Zg rfl #[.int .u8 t102] rfl Zb ?_; (with_reducible refine (Yq.calls t102 false _ ?side1 A3.out).mono ?_); (case side1 => first | exact HE.out | exact EnvOk.heap HE.out rfl); rintro e w' ⟨rfl, ⟨nd, rfl⟩⟩; refine ⟨_, rfl, ?_⟩))
  go_ret2
  exact ⟨Zf, Zl⟩
 rw [if_neg c5] at H
 have c5b0 : decide (((t102 - 97) % 256) < 6) = false := decide_eq_false c5
 clear c5
 simp only [Option.some.injEq, Prod.mk.injEq] at H
 obtain ⟨rfl, rfl⟩ := H
 go_enter Tryz.func136, Tryz.ntmps136
 go_wp2_with (first | ((with_reducible refine Yi (f := 93) rfl ?_); refine Yp (some 5) rfl rfl Tryz.func93 Zg rfl #[.int .u8 a0] rfl Zb ?_; (with_reducible refine (Yod.calls a0 t102 _ ?side1 A2.out).mono ?_); (case side1 => first | exact HE.out | exact EnvOk.heap HE.out rfl); rintro e w' ⟨rfl, ⟨nd, rfl⟩⟩; refine ⟨_, rfl, ?_⟩) | ((with_reducible refine Yi (f := 72) rfl ?_); refine Yp (some 8) rfl rfl Tryz.func72 Zg rfl #[.int .u8 t102] rfl Zb ?_; (with_reducible refine (Yq.calls t102 false _ ?side1 A3.out).mono ?_); (case side1 => first | exact HE.out | exact EnvOk.heap HE.out rfl); rintro e w' ⟨rfl, ⟨nd, rfl⟩⟩; refine ⟨_, rfl, ?_⟩))
 go_ret2
 exact ⟨Zf, Zl⟩
def Ywa.l0 : Nat → ByteArray → Int → Bool → Int → Int → Option (Int × Int)
 | 0, _, _, _, _, _ => none
 | k + 1, x0, x4, x5, x12, x13 => if x13 < x12 then (if 0 ≤ x13 then (if x13 < (x0.size : Int) then ((Yvc.f (bt x0 x13)).bind fun bt104 => (if bt104.2 = true then (if x5 = true then (Ywa.l0 k x0 (Go.bits .or .u32 ((x4 * 16) % 4294967296) bt104.1) true x12 (wrap64 (x13 + 1))) else (Ywa.l0 k x0 (Go.bits .or .u32 ((x4 * 16) % 4294967296) bt104.1) ((x4 / 268435456) != 0) x12 (wrap64 (x13 + 1)))) else (some (0, 3)))) else (none)) else (none)) else (if x5 = true then (some (0, 5)) else (some (x4, 0)))
def Ywa.f (k : Nat) (a0 : ByteArray) : Option (Int × Int) := if a0.toList = ([] : List UInt8) then (some (0, 3)) else (Ywa.l0 k a0 0 false (a0.size : Int) 0)
set_option maxHeartbeats 8000000 in
set_option maxRecDepth 100000 in
theorem Ywa.calls (k : Nat) (a0 : ByteArray) (r1 : Int) (r2 : Int) (w : World) (hE : EnvOk w) (h : Ywa.f k a0 = some (r1, r2)) :
  Calls Tryz.prog 125 #[.string a0] w fun e w' => e = .returned (.tuple #[.int .u32 r1, .int .i64 r2]) ∧ Drawn0 w w' := by
 have HE := Ya.mk hE
 clear hE
 have H : (if a0.toList = ([] : List UInt8) then (some (0, 3)) else (Ywa.l0 k a0 0 false (a0.size : Int) 0)) = some (r1, r2) := h
 clear h
 by_cases c2 : a0.toList = ([] : List UInt8)
 ·rw [if_pos c2] at H
  have c2b0 : (a0.toList == ([] : List UInt8)) = true := beq_iff_eq.mpr c2
  have c2b1 : (a0.toList != ([] : List UInt8)) = false := bne_eq_false_iff_eq.mpr c2
  clear c2
  simp only [Option.some.injEq, Prod.mk.injEq] at H
  obtain ⟨rfl, rfl⟩ := H
  go_enter Tryz.func125, Tryz.ntmps125
  go_wp2
  go_ret2
  exact ⟨Zf, Zl⟩
 rw [if_neg c2] at H
 have c2b0 : (a0.toList == ([] : List UInt8)) = false := beq_eq_false_iff_ne.mpr c2
 have c2b1 : (a0.toList != ([] : List UInt8)) = true := bne_iff_ne.mpr c2
 have H' := Ya.mk H
 clear H
 go_enter Tryz.func125, Tryz.ntmps125
 go_wp2
 go_loopg [4, 5, 13] k (fun kq v4 v5 v13 w' => ∃ (x4_1 : Int) (x5_1 : Bool) (x13_1 : Int), v4 = .int .u32 x4_1 ∧ v5 = .bool x5_1 ∧ v13 = .int .i64 x13_1 ∧ Ya (Ywa.l0 kq a0 x4_1 x5_1 (a0.size : Int) x13_1 = some (r1, r2)) ∧ Ya (kq ≤ k) ∧ Drawn0 w w')
 case atStart => exact ⟨(0), (false), (0), Zf, Zf, Zf, H', ⟨Nat.le_refl _⟩, Zl⟩
 case round =>
  clear H'
  try clear c1
  try clear c2
  try clear c2b0
  try clear c2b1
  try clear p2
  obtain ⟨x4_1, x5_1, x13_1, rfl, rfl, rfl, HA, HK1, ⟨m1, rfl⟩⟩ := hrel
  cases gk with
  | zero => exact absurd HA.out (by simp [Ywa.l0])
  | succ k1 =>
   have H := HA.out
   clear HA
   simp only [Ywa.l0] at H
   by_cases c3 : x13_1 < (a0.size : Int)
   rotate_left
   ·rw [if_neg c3] at H
    have c3b0 : decide (x13_1 < (a0.size : Int)) = false := decide_eq_false c3
    clear c3
    by_cases c10 : x5_1 = true
    ·subst c10
     rw [if_pos rfl] at H
     simp only [Option.some.injEq, Prod.mk.injEq] at H
     obtain ⟨rfl, rfl⟩ := H
     go_wp2
     go_ret2
     exact ⟨Zf, Zl⟩
    replace c10 := Bool.eq_false_iff.mpr c10
    subst c10
    rw [if_neg (show ¬ (false = true) by decide)] at H
    simp only [Option.some.injEq, Prod.mk.injEq] at H
    obtain ⟨rfl, rfl⟩ := H
    go_wp2
    go_ret2
    exact ⟨Zf, Zl⟩
   rw [if_pos c3] at H
   have c3b0 : decide (x13_1 < (a0.size : Int)) = true := decide_eq_true c3
   clear c3
   by_cases c4 : 0 ≤ x13_1
   rotate_left
   ·rw [if_neg c4] at H
    exact absurd H Zy
   rw [if_pos c4] at H
   have c4b0 : decide (0 ≤ x13_1) = true := decide_eq_true c4
   clear c4
   by_cases c5 : x13_1 < (a0.size : Int)
   rotate_left
   ·rw [if_neg c5] at H
    exact absurd H Zy
   rw [if_pos c5] at H
   have c5b0 : decide (x13_1 < (a0.size : Int)) = true := decide_eq_true c5
   clear c5
   replace H := Option.bind_eq_some_iff.mp H
   obtain ⟨⟨t104, t105⟩, A70, H⟩ := H
   try dsimp -simprocs only at H
   have A7 := Ya.mk A70
   clear A70
   by_cases c8 : t105 = true
   rotate_left
   ·replace c8 := Bool.eq_false_iff.mpr c8
    subst c8
    rw [if_neg (show ¬ (false = true) by decide)] at H
    simp only [Option.some.injEq, Prod.mk.injEq] at H
    obtain ⟨rfl, rfl⟩ := H
    have p6 : 0 ≤ (x13_1 : Int) := of_decide_eq_true Zh
    have q6 : x13_1 < (a0.size : Int) := of_decide_eq_true Zh
    have hx6 := Yzc a0 x13_1
    replace p6 := eq_true p6
    replace q6 := eq_true q6
    go_wp2_with (first | ((with_reducible refine Yi (f := 136) rfl ?_); refine Yp (some 20) rfl rfl Tryz.func136 Zg rfl #[.int .u8 (bt a0 x13_1)] rfl Zb ?_; (with_reducible refine (Yvc.calls (bt a0 x13_1) t104 false _ ?side1 A7.out).mono ?_); (case side1 => first | exact HE.out | exact EnvOk.heap HE.out rfl); rintro e w' ⟨rfl, ⟨nd, rfl⟩⟩; refine ⟨_, rfl, ?_⟩))
    go_ret2
    exact ⟨Zf, Zl⟩
   subst c8
   rw [if_pos rfl] at H
   by_cases c9 : x5_1 = true
   ·subst c9
    rw [if_pos rfl] at H
    have H' := Ya.mk H
    clear H
    have p6 : 0 ≤ (x13_1 : Int) := of_decide_eq_true Zh
    have q6 : x13_1 < (a0.size : Int) := of_decide_eq_true Zh
    have hx6 := Yzc a0 x13_1
    replace p6 := eq_true p6
    replace q6 := eq_true q6
    go_wp2_with (first | ((with_reducible refine Yi (f := 136) rfl ?_); refine Yp (some 20) rfl rfl Tryz.func136 Zg rfl #[.int .u8 (bt a0 x13_1)] rfl Zb ?_; (with_reducible refine (Yvc.calls (bt a0 x13_1) t104 true _ ?side1 A7.out).mono ?_); (case side1 => first | exact HE.out | exact EnvOk.heap HE.out rfl); rintro e w' ⟨rfl, ⟨nd, rfl⟩⟩; refine ⟨_, rfl, ?_⟩))
    go_roundg k1
    case measure => have := HK1.out; omega
    case rel => exact ⟨(Go.bits .or .u32 ((x4_1 * 16) % 4294967296) t104), (true), (wrap64 (x13_1 + 1)), Zf, Zf, Zf, H', ⟨Zga⟩, Zl⟩
   replace c9 := Bool.eq_false_iff.mpr c9
   subst c9
   rw [if_neg (show ¬ (false = true) by decide)] at H
   have H' := Ya.mk H
   clear H
   have p6 : 0 ≤ (x13_1 : Int) := of_decide_eq_true Zh
   have q6 : x13_1 < (a0.size : Int) := of_decide_eq_true Zh
   have hx6 := Yzc a0 x13_1
   replace p6 := eq_true p6
   replace q6 := eq_true q6
   go_wp2_with (first | ((with_reducible refine Yi (f := 136) rfl ?_); refine Yp (some 20) rfl rfl Tryz.func136 Zg rfl #[.int .u8 (bt a0 x13_1)] rfl Zb ?_; (with_reducible refine (Yvc.calls (bt a0 x13_1) t104 true _ ?side1 A7.out).mono ?_); (case side1 => first | exact HE.out | exact EnvOk.heap HE.out rfl); rintro e w' ⟨rfl, ⟨nd, rfl⟩⟩; refine ⟨_, rfl, ?_⟩))
   go_roundg k1
   case measure => have := HK1.out; omega
   case rel => exact ⟨(Go.bits .or .u32 ((x4_1 * 16) % 4294967296) t104), (((x4_1 / 268435456) != 0)), (wrap64 (x13_1 + 1)), Zf, Zf, Zf, H', ⟨Zga⟩, Zl⟩
def Ys.l0 : Nat → ByteArray → Int → List ByteArray → Option (List ByteArray)
 | 0, _, _, _ => none
 | k + 1, x0, x1, x5 => (strings_IndexByte.f x0 x1).bind fun t106 => (if t106 < 0 then (if x5.length < 8796093022208 then (some (x5 ++ [x0])) else (none)) else (if 0 ≤ t106 then (if t106 ≤ (x0.size : Int) then (if x5.length < 8796093022208 then (if 0 ≤ (wrap64 (t106 + 1)) then (if (wrap64 (t106 + 1)) ≤ (x0.size : Int) then (Ys.l0 k (x0.extract ((wrap64 (t106 + 1)) : Int).toNat x0.size) x1 (x5 ++ [x0.extract 0 (t106 : Int).toNat])) else (none)) else (none)) else (none)) else (none)) else (none)))
def Ys.f (k : Nat) (a0 : ByteArray) (a1 : Int) : Option (List ByteArray) := Ys.l0 k a0 a1 ([] : List ByteArray)
theorem Ys.mono_l : ∀ k, (∀ y0 y1 y2, LeO (Ys.l0 k y0 y1 y2) (Ys.l0 (k + 1) y0 y1 y2))
 | 0 => fun _ _ _ r h => by simp [Ys.l0] at h
 | k + 1 => by
  have ih0 := Ys.mono_l k
  ·intro y0 y1 y2
   unfold Ys.l0
   repeat' first
   | (with_reducible exact ih0 _ _ _)
   | (with_reducible exact LeO.refl _)
   | (with_reducible exact LeO.none _)
   | (with_reducible refine LeO.ite ?_ ?_)
   | (with_reducible refine LeO.bind ?_ (fun _ => ?_))
   | exact ih0 _ _ _
   | exact LeO.none _
   | refine LeO.ite ?_ ?_
   | refine LeO.bind ?_ (fun _ => ?_)
theorem Ys.mono : ∀ a0 a1 k, LeO (Ys.f k a0 a1) (Ys.f (k + 1) a0 a1) := by
 intro a0 a1 k
 have ih0 := Ys.mono_l k
 unfold Ys.f
 repeat' first
   | (with_reducible exact ih0 _ _ _)
   | (with_reducible exact LeO.refl _)
   | (with_reducible exact LeO.none _)
   | (with_reducible refine LeO.ite ?_ ?_)
   | (with_reducible refine LeO.bind ?_ (fun _ => ?_))
   | exact ih0 _ _ _
   | exact LeO.none _
   | refine LeO.ite ?_ ?_
   | refine LeO.bind ?_ (fun _ => ?_)
set_option maxHeartbeats 8000000 in
set_option maxRecDepth 100000 in
theorem Ys.calls (k : Nat) (a0 : ByteArray) (a1 : Int) (r : List ByteArray) (w : World) (hE : EnvOk w) (h : Ys.f k a0 a1 = some r) :
  Calls Tryz.prog 104 #[.string a0, .int .u8 a1] w fun e w' => ∃ v0_ : Value, e = .returned (v0_) ∧ Kd.R Kd.string 9 w' w.heap.size (fun _ => True) v0_ r ∧ Below w.heap.size w w' := by
 have HE := Ya.mk hE
 clear hE
 have HB := Ya.mk (Below.refl w.heap.size w)
 have H : (Ys.l0 k a0 a1 ([] : List ByteArray)) = some r := h
 clear h
 have H' := Ya.mk H
 clear H
 go_enter Tryz.func104, Tryz.ntmps104
 go_wp2
 go_loopg [0, 5] k (fun kq v0 v5 w' => ∃ (x0_1 : ByteArray) (x5_1 : List ByteArray), v0 = .string x0_1 ∧ Ya (Ys.l0 kq x0_1 a1 x5_1 = some r) ∧ Ya (kq ≤ k) ∧ Ya (Kd.R Kd.string 9 w' w.heap.size (fun _ => True) v5 x5_1) ∧ Ya (Below w.heap.size w w'))
 case atStart => exact ⟨(a0), (([] : List ByteArray)), Zf, H', ⟨Nat.le_refl _⟩, ⟨Zx⟩, ⟨Zc⟩⟩
 case round =>
  clear H'
  try clear c1
  try clear p2
  obtain ⟨x0_1, x5_1, rfl, HA, HK1, HO_5, HB⟩ := hrel
  cases gk with
  | zero => exact absurd HA.out (by simp [Ys.l0])
  | succ k1 =>
   have H := HA.out
   clear HA
   simp only [Ys.l0] at H
   replace H := Option.bind_eq_some_iff.mp H
   obtain ⟨t106, A30, H⟩ := H
   try dsimp -simprocs only at H
   have A3 := Ya.mk A30
   clear A30
   by_cases c4 : t106 < 0
   ·rw [if_pos c4] at H
    have c4b0 : decide (t106 < 0) = true := decide_eq_true c4
    clear c4
    by_cases c5 : x5_1.length < 8796093022208
    rotate_left
    ·rw [if_neg c5] at H
     exact absurd H Zy
    rw [if_pos c5] at H
    have LMc5 := Ya.mk c5
    clear c5
    obtain ⟨y107, hy107⟩ : ∃ y_ : List ByteArray, y_ = (x5_1 ++ [x0_1]) := ⟨_, rfl⟩
    replace H : (some y107) = some r := by first | (rw [hy107]; with_reducible exact H) | (have H2_ := (Option.bind_some _ _).symm.trans H; rw [hy107]; with_reducible exact H2_) | (have H2_ := (Option.bind_some _ _).symm.trans H; with_reducible exact H2_) | with_reducible exact H | (rw [hy107]; exact H) | exact H
    have Ny107 := Ya.mk hy107
    clear hy107
    obtain rfl := Option.some.inj H
    go_wp2_with (first | ((with_reducible refine Yi (f := 73) rfl ?_); refine Yp (some 9) rfl rfl Tryz.func73 Zg rfl #[.string x0_1, .int .u8 a1] rfl Zb ?_; (with_reducible refine (strings_IndexByte.calls x0_1 a1 t106 _ ?side1 A3.out).mono ?_); (case side1 => first | exact HE.out | exact EnvOk.below HE.out Zc); rintro e w' ⟨rfl, ⟨nd, rfl⟩⟩; refine ⟨_, rfl, ?_⟩) | ((with_reducible refine Ynd (b := .append) (xs := #[.tmp 12, .tmp 14]) rfl ?_); at_builtin; refine Kd.R_append Kd.string (w0 := w) w.heap.size rfl (.tmp 12) (.tmp 14) 28 9 (.string ⟨#[]⟩) 16 rfl Tryz.underlying28 Ycj rfl Zq Zk u5 x5_1 x0_1 [.string x0_1] (fun _ => True) (fun _ => False) rfl rfl ?aP (fun _ hk => hk.elim) ?aF ?aO ?aB ?aS ?aL ?_; (case aP => exact rfl); (case aB => exact Zc); (case aF => exact (fun _ _ => trivial)); (case aO => exact (by (with_reducible repeat (first | apply Kd.R_alloc | apply Kd.R_drewN | apply Kd.R_drew)); exact HO_5.out)); (case aS => exact (Yfa Zc)); (case aL => have := LMc5.out; omega); intro v108 w6 ho hb hg hat; rw [← Ny107.out] at ho; have n0_ := Ya.mk (hb); have n1_ := Ya.mk (ho); clear HB; clear HO_5; have HB := n0_; have HO109 := n1_; clear n0_ n1_; clear ho hb hg hat))
    go_ret
    exact ⟨_, Zj, by (with_reducible repeat (first | apply Kd.R_alloc | apply Kd.R_drewN | apply Kd.R_drew)); exact HO109.out, Zc⟩
   rw [if_neg c4] at H
   have c4b0 : decide (t106 < 0) = false := decide_eq_false c4
   clear c4
   by_cases c7 : 0 ≤ t106
   rotate_left
   ·rw [if_neg c7] at H
    exact absurd H Zy
   rw [if_pos c7] at H
   have c7b0 := eq_true c7
   have c7b1 : decide (0 ≤ t106) = true := decide_eq_true c7
   clear c7
   by_cases c8 : t106 ≤ (x0_1.size : Int)
   rotate_left
   ·rw [if_neg c8] at H
    exact absurd H Zy
   rw [if_pos c8] at H
   have c8b0 := eq_true c8
   have c8b1 : decide (t106 ≤ (x0_1.size : Int)) = true := decide_eq_true c8
   clear c8
   by_cases c9 : x5_1.length < 8796093022208
   rotate_left
   ·rw [if_neg c9] at H
    exact absurd H Zy
   rw [if_pos c9] at H
   have LMc9 := Ya.mk c9
   clear c9
   obtain ⟨y110, hy110⟩ : ∃ y_ : List ByteArray, y_ = (x5_1 ++ [x0_1.extract 0 (t106 : Int).toNat]) := ⟨_, rfl⟩
   replace H : (if 0 ≤ (wrap64 (t106 + 1)) then (if (wrap64 (t106 + 1)) ≤ (x0_1.size : Int) then (Ys.l0 k1 (x0_1.extract ((wrap64 (t106 + 1)) : Int).toNat x0_1.size) a1 y110) else (none)) else (none)) = some r := by first | (rw [hy110]; with_reducible exact H) | (have H2_ := (Option.bind_some _ _).symm.trans H; rw [hy110]; with_reducible exact H2_) | (have H2_ := (Option.bind_some _ _).symm.trans H; with_reducible exact H2_) | with_reducible exact H | (rw [hy110]; exact H) | exact H
   have Ny110 := Ya.mk hy110
   clear hy110
   obtain ⟨ji10, hji10⟩ : ∃ j_ : Int, (wrap64 (t106 + 1)) = j_ := ⟨_, rfl⟩
   replace H : (if 0 ≤ (ji10) then (if (ji10) ≤ (x0_1.size : Int) then (Ys.l0 k1 (x0_1.extract ((ji10) : Int).toNat x0_1.size) a1 y110) else (none)) else (none)) = some r := by first | (rw [hji10] at H; exact H) | (simp only [hji10] at H ⊢; exact H)
   (try rw [hji10] at A3)
   have hji10w : (IntKind.i64.wrap (t106 + 1)) = ji10 := (Yza _).trans hji10
   by_cases c11 : 0 ≤ (ji10)
   rotate_left
   ·rw [if_neg c11] at H
    exact absurd H Zy
   rw [if_pos c11] at H
   have c11b0 := eq_true c11
   have c11b1 : decide (0 ≤ (ji10)) = true := decide_eq_true c11
   clear c11
   by_cases c12 : (ji10) ≤ (x0_1.size : Int)
   rotate_left
   ·rw [if_neg c12] at H
    exact absurd H Zy
   rw [if_pos c12] at H
   have c12b0 := eq_true c12
   have c12b1 : decide ((ji10) ≤ (x0_1.size : Int)) = true := decide_eq_true c12
   clear c12
   have H' := Ya.mk H
   clear H
   go_wp2_with (first | ((with_reducible refine Yi (f := 73) rfl ?_); refine Yp (some 9) rfl rfl Tryz.func73 Zg rfl #[.string x0_1, .int .u8 a1] rfl Zb ?_; (with_reducible refine (strings_IndexByte.calls x0_1 a1 t106 _ ?side1 A3.out).mono ?_); (case side1 => first | exact HE.out | exact EnvOk.below HE.out Zc); rintro e w' ⟨rfl, ⟨nd, rfl⟩⟩; refine ⟨_, rfl, ?_⟩) | ((with_reducible refine Ynd (b := .append) (xs := #[.tmp 16, .tmp 20]) rfl ?_); at_builtin; refine Kd.R_append Kd.string (w0 := w) w.heap.size rfl (.tmp 16) (.tmp 20) 28 9 (.string ⟨#[]⟩) 16 rfl Tryz.underlying28 Ycj rfl Zq Zk u5 x5_1 (x0_1.extract 0 (t106 : Int).toNat) [.string (x0_1.extract 0 (t106 : Int).toNat)] (fun _ => True) (fun _ => False) rfl rfl ?aP (fun _ hk => hk.elim) ?aF ?aO ?aB ?aS ?aL ?_; (case aP => exact rfl); (case aB => exact Zc); (case aF => exact (fun _ _ => trivial)); (case aO => exact (by (with_reducible repeat (first | apply Kd.R_alloc | apply Kd.R_drewN | apply Kd.R_drew)); exact HO_5.out)); (case aS => exact (Yfa Zc)); (case aL => have := LMc9.out; omega); intro v111 w13 ho hb hg hat; rw [← Ny110.out] at ho; have n0_ := Ya.mk (hb); have n1_ := Ya.mk (ho); clear HB; clear HO_5; have HB := n0_; have HO112 := n1_; clear n0_ n1_; clear ho hb hg hat))
   go_roundg k1
   case measure => have := HK1.out; omega
   case rel => exact ⟨(x0_1.extract ((ji10) : Int).toNat x0_1.size), (y110), (by first | rfl | (simp; done) | (simp only [← hji10] <;> (first | rfl | simp)) | (simp [*]; done)), H', ⟨Zga⟩, ⟨by (with_reducible repeat (first | apply Kd.R_alloc | apply Kd.R_drewN | apply Kd.R_drew)); exact HO112.out⟩, ⟨Zc⟩⟩
def Yu.l0 : Nat → ByteArray → Int → Int → Option (Bool)
 | 0, _, _, _ => none
 | k + 1, x0, x6, x7 => if x7 < x6 then (if 0 ≤ x7 then (if x7 < (x0.size : Int) then ((Yw.f (bt x0 x7)).bind fun t113 => (if t113 = true then (Yu.l0 k x0 x6 (wrap64 (x7 + 1))) else ((Yq.f (bt x0 x7)).bind fun t114 => (if t114 = true then (Yu.l0 k x0 x6 (wrap64 (x7 + 1))) else (if (bt x0 x7) = 45 then (Yu.l0 k x0 x6 (wrap64 (x7 + 1))) else (if (bt x0 x7) = 95 then (Yu.l0 k x0 x6 (wrap64 (x7 + 1))) else (some false))))))) else (none)) else (none)) else (if x0.toList = ([] : List UInt8) then (some false) else (some (decide ((x0.size : Int) ≤ 63))))
def Yu.f (k : Nat) (a0 : ByteArray) : Option (Bool) := Yu.l0 k a0 (a0.size : Int) 0
set_option maxHeartbeats 8000000 in
set_option maxRecDepth 100000 in
theorem Yu.calls (k : Nat) (a0 : ByteArray) (r : Bool) (w : World) (hE : EnvOk w) (h : Yu.f k a0 = some r) :
  Calls Tryz.prog 126 #[.string a0] w fun e w' => e = .returned (.bool r) ∧ Drawn0 w w' := by
 have HE := Ya.mk hE
 clear hE
 have H : (Yu.l0 k a0 (a0.size : Int) 0) = some r := h
 clear h
 have H' := Ya.mk H
 clear H
 go_enter Tryz.func126, Tryz.ntmps126
 go_wp2
 go_loopg [7] k (fun kq v7 w' => ∃ (x7_1 : Int), v7 = .int .i64 x7_1 ∧ Ya (Yu.l0 kq a0 (a0.size : Int) x7_1 = some r) ∧ Ya (kq ≤ k) ∧ Drawn0 w w')
 case atStart => exact ⟨(0), Zf, H', ⟨Nat.le_refl _⟩, Zl⟩
 case round =>
  clear H'
  try clear c1
  obtain ⟨x7_1, rfl, HA, HK1, ⟨m1, rfl⟩⟩ := hrel
  cases gk with
  | zero => exact absurd HA.out (by simp [Yu.l0])
  | succ k1 =>
   have H := HA.out
   clear HA
   simp only [Yu.l0] at H
   by_cases c2 : x7_1 < (a0.size : Int)
   rotate_left
   ·rw [if_neg c2] at H
    have c2b0 : decide (x7_1 < (a0.size : Int)) = false := decide_eq_false c2
    clear c2
    by_cases c12 : a0.toList = ([] : List UInt8)
    rotate_left
    ·rw [if_neg c12] at H
     have c12b0 : (a0.toList == ([] : List UInt8)) = false := beq_eq_false_iff_ne.mpr c12
     have c12b1 : (a0.toList != ([] : List UInt8)) = true := bne_iff_ne.mpr c12
     obtain rfl := Option.some.inj H
     go_wp2
     go_ret
     exact ⟨Zf, Zl⟩
    rw [if_pos c12] at H
    have c12b0 : (a0.toList == ([] : List UInt8)) = true := beq_iff_eq.mpr c12
    have c12b1 : (a0.toList != ([] : List UInt8)) = false := bne_eq_false_iff_eq.mpr c12
    clear c12
    obtain rfl := Option.some.inj H
    go_wp2
    go_ret
    exact ⟨Zf, Zl⟩
   rw [if_pos c2] at H
   have c2b0 : decide (x7_1 < (a0.size : Int)) = true := decide_eq_true c2
   clear c2
   by_cases c3 : 0 ≤ x7_1
   rotate_left
   ·rw [if_neg c3] at H
    exact absurd H Zy
   rw [if_pos c3] at H
   have c3b0 : decide (0 ≤ x7_1) = true := decide_eq_true c3
   clear c3
   by_cases c4 : x7_1 < (a0.size : Int)
   rotate_left
   ·rw [if_neg c4] at H
    exact absurd H Zy
   rw [if_pos c4] at H
   have c4b0 : decide (x7_1 < (a0.size : Int)) = true := decide_eq_true c4
   clear c4
   replace H := Option.bind_eq_some_iff.mp H
   obtain ⟨t113, A60, H⟩ := H
   try dsimp -simprocs only at H
   have A6 := Ya.mk A60
   clear A60
   by_cases c7 : t113 = true
   ·subst c7
    rw [if_pos rfl] at H
    have H' := Ya.mk H
    clear H
    have p5 : 0 ≤ (x7_1 : Int) := of_decide_eq_true Zh
    have q5 : x7_1 < (a0.size : Int) := of_decide_eq_true Zh
    have hx5 := Yzc a0 x7_1
    replace p5 := eq_true p5
    replace q5 := eq_true q5
    go_wp2_with (first | ((with_reducible refine Yi (f := 71) rfl ?_); refine Yp (some 14) rfl rfl Tryz.func71 Zg rfl #[.int .u8 (bt a0 x7_1)] rfl Zb ?_; (with_reducible refine (Yw.calls (bt a0 x7_1) true _ ?side1 A6.out).mono ?_); (case side1 => first | exact HE.out | exact EnvOk.heap HE.out rfl); rintro e w' ⟨rfl, ⟨nd, rfl⟩⟩; refine ⟨_, rfl, ?_⟩))
    go_roundg k1
    case measure => have := HK1.out; omega
    case rel => exact ⟨(wrap64 (x7_1 + 1)), Zf, H', ⟨Zga⟩, Zl⟩
   replace c7 := Bool.eq_false_iff.mpr c7
   subst c7
   rw [if_neg (show ¬ (false = true) by decide)] at H
   replace H := Option.bind_eq_some_iff.mp H
   obtain ⟨t114, A80, H⟩ := H
   try dsimp -simprocs only at H
   have A8 := Ya.mk A80
   clear A80
   by_cases c9 : t114 = true
   ·subst c9
    rw [if_pos rfl] at H
    have H' := Ya.mk H
    clear H
    have p5 : 0 ≤ (x7_1 : Int) := of_decide_eq_true Zh
    have q5 : x7_1 < (a0.size : Int) := of_decide_eq_true Zh
    have hx5 := Yzc a0 x7_1
    replace p5 := eq_true p5
    replace q5 := eq_true q5
    go_wp2_with (first | ((with_reducible refine Yi (f := 71) rfl ?_); refine Yp (some 14) rfl rfl Tryz.func71 Zg rfl #[.int .u8 (bt a0 x7_1)] rfl Zb ?_; (with_reducible refine (Yw.calls (bt a0 x7_1) false _ ?side1 A6.out).mono ?_); (case side1 => first | exact HE.out | exact EnvOk.heap HE.out rfl); rintro e w' ⟨rfl, ⟨nd, rfl⟩⟩; refine ⟨_, rfl, ?_⟩) | (go_at_call 72; (with_reducible refine (Yq.calls (bt a0 x7_1) true _ ?side1 A8.out).mono ?_); (case side1 => first | exact HE.out | exact EnvOk.heap HE.out rfl); rintro e w' ⟨rfl, ⟨nd, rfl⟩⟩))
    go_roundg k1
    case measure => have := HK1.out; omega
    case rel => exact ⟨(wrap64 (x7_1 + 1)), Zf, H', ⟨Zga⟩, Zl⟩
   replace c9 := Bool.eq_false_iff.mpr c9
   subst c9
   rw [if_neg (show ¬ (false = true) by decide)] at H
   by_cases c10 : (bt a0 x7_1) = 45
   ·rw [if_pos c10] at H
    have c10b0 : ((bt a0 x7_1) == 45) = true := beq_iff_eq.mpr c10
    have c10b1 : ((bt a0 x7_1) != 45) = false := bne_eq_false_iff_eq.mpr c10
    clear c10
    have H' := Ya.mk H
    clear H
    have p5 : 0 ≤ (x7_1 : Int) := of_decide_eq_true Zh
    have q5 : x7_1 < (a0.size : Int) := of_decide_eq_true Zh
    have hx5 := Yzc a0 x7_1
    replace p5 := eq_true p5
    replace q5 := eq_true q5
    go_wp2_with (first | ((with_reducible refine Yi (f := 71) rfl ?_); refine Yp (some 14) rfl rfl Tryz.func71 Zg rfl #[.int .u8 (bt a0 x7_1)] rfl Zb ?_; (with_reducible refine (Yw.calls (bt a0 x7_1) false _ ?side1 A6.out).mono ?_); (case side1 => first | exact HE.out | exact EnvOk.heap HE.out rfl); rintro e w' ⟨rfl, ⟨nd, rfl⟩⟩; refine ⟨_, rfl, ?_⟩) | (go_at_call 72; (with_reducible refine (Yq.calls (bt a0 x7_1) false _ ?side1 A8.out).mono ?_); (case side1 => first | exact HE.out | exact EnvOk.heap HE.out rfl); rintro e w' ⟨rfl, ⟨nd, rfl⟩⟩))
    go_roundg k1
    case measure => have := HK1.out; omega
    case rel => exact ⟨(wrap64 (x7_1 + 1)), Zf, H', ⟨Zga⟩, Zl⟩
   rw [if_neg c10] at H
   have c10b0 : ((bt a0 x7_1) == 45) = false := beq_eq_false_iff_ne.mpr c10
   have c10b1 : ((bt a0 x7_1) != 45) = true := bne_iff_ne.mpr c10
   by_cases c11 : (bt a0 x7_1) = 95
   rotate_left
   ·rw [if_neg c11] at H
    have c11b0 : ((bt a0 x7_1) == 95) = false := beq_eq_false_iff_ne.mpr c11
    have c11b1 : ((bt a0 x7_1) != 95) = true := bne_iff_ne.mpr c11
    obtain rfl := Option.some.inj H
    have p5 : 0 ≤ (x7_1 : Int) := of_decide_eq_true Zh
    have q5 : x7_1 < (a0.size : Int) := of_decide_eq_true Zh
    have hx5 := Yzc a0 x7_1
    replace p5 := eq_true p5
    replace q5 := eq_true q5
    go_wp2_with (first | ((with_reducible refine Yi (f := 71) rfl ?_); refine Yp (some 14) rfl rfl Tryz.func71 Zg rfl #[.int .u8 (bt a0 x7_1)] rfl Zb ?_; (with_reducible refine (Yw.calls (bt a0 x7_1) false _ ?side1 A6.out).mono ?_); (case side1 => first | exact HE.out | exact EnvOk.heap HE.out rfl); rintro e w' ⟨rfl, ⟨nd, rfl⟩⟩; refine ⟨_, rfl, ?_⟩) | (go_at_call 72; (with_reducible refine (Yq.calls (bt a0 x7_1) false _ ?side1 A8.out).mono ?_); (case side1 => first | exact HE.out | exact EnvOk.heap HE.out rfl); rintro e w' ⟨rfl, ⟨nd, rfl⟩⟩))
    go_ret
    exact ⟨Zf, Zl⟩
   rw [if_pos c11] at H
   have c11b0 : ((bt a0 x7_1) == 95) = true := beq_iff_eq.mpr c11
   have c11b1 : ((bt a0 x7_1) != 95) = false := bne_eq_false_iff_eq.mpr c11
   clear c11
   have H' := Ya.mk H
   clear H
   have p5 : 0 ≤ (x7_1 : Int) := of_decide_eq_true Zh
   have q5 : x7_1 < (a0.size : Int) := of_decide_eq_true Zh
   have hx5 := Yzc a0 x7_1
   replace p5 := eq_true p5
   replace q5 := eq_true q5
   go_wp2_with (first | ((with_reducible refine Yi (f := 71) rfl ?_); refine Yp (some 14) rfl rfl Tryz.func71 Zg rfl #[.int .u8 (bt a0 x7_1)] rfl Zb ?_; (with_reducible refine (Yw.calls (bt a0 x7_1) false _ ?side1 A6.out).mono ?_); (case side1 => first | exact HE.out | exact EnvOk.heap HE.out rfl); rintro e w' ⟨rfl, ⟨nd, rfl⟩⟩; refine ⟨_, rfl, ?_⟩) | (go_at_call 72; (with_reducible refine (Yq.calls (bt a0 x7_1) false _ ?side1 A8.out).mono ?_); (case side1 => first | exact HE.out | exact EnvOk.heap HE.out rfl); rintro e w' ⟨rfl, ⟨nd, rfl⟩⟩))
   go_roundg k1
   case measure => have := HK1.out; omega
   case rel => exact ⟨(wrap64 (x7_1 + 1)), Zf, H', ⟨Zga⟩, Zl⟩
end Go.Proofs.YtfmjnmglagdcdaaGreatDoor.X
