/- Printed by a program of ours: functions as plain Lean, and what a call of each does. -/
import Derived.Test.YtnmglnglbdpjjaaGreatDoorUjWords
import Derived.Test.YtnmglnglbdpjjaaGreatDoorUjX0
import Derived.Test.YtnmglnglbdpjjaaGreatDoorUjX3
import Derived.Test.YtnmglnglbdpjjaaGreatDoorUjH0e
import Derived.Test.YtnmglnglbdpjjaaGreatDoorUjZm
namespace Go.Proofs.YtnmglnglbdpjjaaGreatDoor.X
open Go.RowKit Go.Yw.PrintWords Go.Yw.PrintLast Go.Yw.PrintMore
attribute [local go_sem] Yvd Yyd Yke Yme Yld Ykd Yud Ywd
set_option linter.unusedVariables false
set_option linter.unusedSimpArgs false
def Ynf.f (a0 : Int) : Option (Bool) := (Yva.f a0).bind fun t147 => (if t147 = true then (some true) else ((Yta.f a0).bind fun t148 => (if t148 = true then (some true) else ((strings_IndexByte.f (⟨#[45, 46, 95, 126]⟩ : ByteArray) a0).bind fun t149 => (some (decide (t149 ≥ 0)))))))
set_option maxHeartbeats 8000000 in
set_option maxRecDepth 100000 in
theorem Ynf.calls (a0 : Int) (r : Bool) (w : World) (hE : EnvOk w) (h : Ynf.f a0 = some r) :
  Calls Tryz.prog 129 #[.int .u8 a0] w fun e w' => e = .returned (.bool r) ∧ Drawn0 w w' := by
 have HE := Ya.mk hE
 clear hE
 have H : ((Yva.f a0).bind fun t147 => (if t147 = true then (some true) else ((Yta.f a0).bind fun t148 => (if t148 = true then (some true) else ((strings_IndexByte.f (⟨#[45, 46, 95, 126]⟩ : ByteArray) a0).bind fun t149 => (some (decide (t149 ≥ 0)))))))) = some r := h
 clear h
 replace H := Option.bind_eq_some_iff.mp H
 obtain ⟨t147, A20, H⟩ := H
 try dsimp -simprocs only at H
 have A2 := Ya.mk A20
 clear A20
 by_cases c3 : t147 = true
 ·subst c3
  rw [if_pos rfl] at H
  obtain rfl := Option.some.inj H
  go_enter Tryz.func129, Tryz.ntmps129
  go_wp2_with (first | ((with_reducible refine Yh (f := 77) rfl ?_); refine Yz (some 4) rfl rfl Tryz.func77 Zi rfl #[.int .u8 a0] rfl Zb ?_; (with_reducible refine (Yva.calls a0 true _ ?side1 A2.out).mono ?_); (case side1 => first | exact HE.out | exact EnvOk.heap HE.out rfl); rintro e w' ⟨rfl, ⟨nd, rfl⟩⟩; refine ⟨_, rfl, ?_⟩))
  go_ret
  exact ⟨Zf, Zh⟩
 replace c3 := Bool.eq_false_iff.mpr c3
 subst c3
 rw [if_neg (show ¬ (false = true) by decide)] at H
 replace H := Option.bind_eq_some_iff.mp H
 obtain ⟨t148, A40, H⟩ := H
 try dsimp -simprocs only at H
 have A4 := Ya.mk A40
 clear A40
 by_cases c5 : t148 = true
 ·subst c5
  rw [if_pos rfl] at H
  obtain rfl := Option.some.inj H
  go_enter Tryz.func129, Tryz.ntmps129
  go_wp2_with (first | ((with_reducible refine Yh (f := 77) rfl ?_); refine Yz (some 4) rfl rfl Tryz.func77 Zi rfl #[.int .u8 a0] rfl Zb ?_; (with_reducible refine (Yva.calls a0 false _ ?side1 A2.out).mono ?_); (case side1 => first | exact HE.out | exact EnvOk.heap HE.out rfl); rintro e w' ⟨rfl, ⟨nd, rfl⟩⟩; refine ⟨_, rfl, ?_⟩) | (go_at_call 78; (with_reducible refine (Yta.calls a0 true _ ?side1 A4.out).mono ?_); (case side1 => first | exact HE.out | exact EnvOk.heap HE.out rfl); rintro e w' ⟨rfl, ⟨nd, rfl⟩⟩))
  go_ret
  exact ⟨Zf, Zh⟩
 replace c5 := Bool.eq_false_iff.mpr c5
 subst c5
 rw [if_neg (show ¬ (false = true) by decide)] at H
 replace H := Option.bind_eq_some_iff.mp H
 obtain ⟨t149, A60, H⟩ := H
 try dsimp -simprocs only at H
 have A6 := Ya.mk A60
 clear A60
 obtain rfl := Option.some.inj H
 go_enter Tryz.func129, Tryz.ntmps129
 go_wp2_with (first | ((with_reducible refine Yh (f := 77) rfl ?_); refine Yz (some 4) rfl rfl Tryz.func77 Zi rfl #[.int .u8 a0] rfl Zb ?_; (with_reducible refine (Yva.calls a0 false _ ?side1 A2.out).mono ?_); (case side1 => first | exact HE.out | exact EnvOk.heap HE.out rfl); rintro e w' ⟨rfl, ⟨nd, rfl⟩⟩; refine ⟨_, rfl, ?_⟩) | (go_at_call 78; (with_reducible refine (Yta.calls a0 false _ ?side1 A4.out).mono ?_); (case side1 => first | exact HE.out | exact EnvOk.heap HE.out rfl); rintro e w' ⟨rfl, ⟨nd, rfl⟩⟩) | (go_at_call 79; (with_reducible refine (strings_IndexByte.calls (⟨#[45, 46, 95, 126]⟩ : ByteArray) a0 t149 _ ?side1 A6.out).mono ?_); (case side1 => first | exact HE.out | exact EnvOk.heap HE.out rfl); rintro e w' ⟨rfl, ⟨nd, rfl⟩⟩))
 go_ret
 exact ⟨Zf, Zh⟩
def Yeb.f (a0 : Int) : Option (Bool) := if a0 = 47 then (some true) else (some (a0 == 92))
set_option maxHeartbeats 8000000 in
set_option maxRecDepth 100000 in
theorem Yeb.calls (a0 : Int) (r : Bool) (w : World) (hE : EnvOk w) (h : Yeb.f a0 = some r) :
  Calls Tryz.prog 48 #[.int .u8 a0] w fun e w' => e = .returned (.bool r) ∧ Drawn0 w w' := by
 have HE := Ya.mk hE
 clear hE
 have H : (if a0 = 47 then (some true) else (some (a0 == 92))) = some r := h
 clear h
 by_cases c2 : a0 = 47
 rotate_left
 ·rw [if_neg c2] at H
  have c2b0 : (a0 == 47) = false := beq_eq_false_iff_ne.mpr c2
  have c2b1 : (a0 != 47) = true := bne_iff_ne.mpr c2
  obtain rfl := Option.some.inj H
  go_enter Tryz.func48, Tryz.ntmps48
  go_wp2
  go_ret
  exact ⟨Zf, Zh⟩
 rw [if_pos c2] at H
 have c2b0 : (a0 == 47) = true := beq_iff_eq.mpr c2
 have c2b1 : (a0 != 47) = false := bne_eq_false_iff_eq.mpr c2
 clear c2
 obtain rfl := Option.some.inj H
 go_enter Tryz.func48, Tryz.ntmps48
 go_wp2
 go_ret
 exact ⟨Zf, Zh⟩
def Yga.l0 : Nat → Int → ByteArray → Int → Option (Bool)
 | 0, _, _, _ => none
 | k + 1, x0, x1, x5 => if x5 < (x1.size : Int) then (if 0 ≤ x5 then (if (bt x1 x5) = x0 then (some true) else (Yga.l0 k x0 x1 (wrap64 (x5 + 1)))) else (none)) else (some false)
def Yga.f (k : Nat) (a0 : Int) (a1 : ByteArray) : Option (Bool) := Yga.l0 k a0 a1 0
set_option maxHeartbeats 8000000 in
set_option maxRecDepth 100000 in
theorem Yga.calls (k : Nat) (a0 : Int) (a1 : ByteArray) (r : Bool) (w : World) (hE : EnvOk w) (h : Yga.f k a0 a1 = some r) :
  Calls Tryz.prog 88 #[.int .u8 a0, .string a1] w fun e w' => e = .returned (.bool r) ∧ Drawn0 w w' := by
 have HE := Ya.mk hE
 clear hE
 have H : (Yga.l0 k a0 a1 0) = some r := h
 clear h
 have H' := Ya.mk H
 clear H
 go_enter Tryz.func88, Tryz.ntmps88
 go_wp2
 go_loopg [5] k (fun kq v5 w' => ∃ (x5_1 : Int), v5 = .int .i64 x5_1 ∧ Ya (Yga.l0 kq a0 a1 x5_1 = some r) ∧ Ya (kq ≤ k) ∧ Drawn0 w w')
 case atStart => exact ⟨(0), Zf, H', ⟨Nat.le_refl _⟩, Zh⟩
 case round =>
  clear H'
  try clear p2
  obtain ⟨x5_1, rfl, HA, HK1, ⟨m1, rfl⟩⟩ := hrel
  cases gk with
  | zero => exact absurd HA.out (by simp [Yga.l0])
  | succ k1 =>
   have H := HA.out
   clear HA
   simp only [Yga.l0] at H
   by_cases c3 : x5_1 < (a1.size : Int)
   rotate_left
   ·rw [if_neg c3] at H
    have c3b0 : decide (x5_1 < (a1.size : Int)) = false := decide_eq_false c3
    clear c3
    obtain rfl := Option.some.inj H
    go_wp2
    go_ret
    exact ⟨Zf, Zh⟩
   rw [if_pos c3] at H
   have c3b0 : decide (x5_1 < (a1.size : Int)) = true := decide_eq_true c3
   clear c3
   by_cases c4 : 0 ≤ x5_1
   rotate_left
   ·rw [if_neg c4] at H
    exact absurd H Zv
   rw [if_pos c4] at H
   have c4b0 : decide (0 ≤ x5_1) = true := decide_eq_true c4
   clear c4
   by_cases c6 : (bt a1 x5_1) = a0
   ·rw [if_pos c6] at H
    have c6b0 : ((bt a1 x5_1) == a0) = true := beq_iff_eq.mpr c6
    have c6b1 : ((bt a1 x5_1) != a0) = false := bne_eq_false_iff_eq.mpr c6
    clear c6
    obtain rfl := Option.some.inj H
    have p5 : 0 ≤ (x5_1 : Int) := of_decide_eq_true Zc
    have q5 : x5_1 < (a1.size : Int) := of_decide_eq_true Zc
    have hx5 := Yya a1 x5_1
    replace p5 := eq_true p5
    replace q5 := eq_true q5
    go_wp2
    go_ret
    exact ⟨Zf, Zh⟩
   rw [if_neg c6] at H
   have c6b0 : ((bt a1 x5_1) == a0) = false := beq_eq_false_iff_ne.mpr c6
   have c6b1 : ((bt a1 x5_1) != a0) = true := bne_iff_ne.mpr c6
   have H' := Ya.mk H
   clear H
   have p5 : 0 ≤ (x5_1 : Int) := of_decide_eq_true Zc
   have q5 : x5_1 < (a1.size : Int) := of_decide_eq_true Zc
   have hx5 := Yya a1 x5_1
   replace p5 := eq_true p5
   replace q5 := eq_true q5
   go_wp2
   go_roundg k1
   case measure => have := HK1.out; omega
   case rel => exact ⟨(wrap64 (x5_1 + 1)), Zf, H', ⟨Zaa⟩, Zh⟩
def Ysa.f (a0 : Int) : Option (Bool) := if a0 ≥ 97 then (if a0 ≤ 122 then (some true) else (if a0 ≥ 65 then (some (decide (a0 ≤ 90))) else (some false))) else (if a0 ≥ 65 then (some (decide (a0 ≤ 90))) else (some false))
set_option maxHeartbeats 8000000 in
set_option maxRecDepth 100000 in
theorem Ysa.calls (a0 : Int) (r : Bool) (w : World) (hE : EnvOk w) (h : Ysa.f a0 = some r) :
  Calls Tryz.prog 86 #[.int .u8 a0] w fun e w' => e = .returned (.bool r) ∧ Drawn0 w w' := by
 have HE := Ya.mk hE
 clear hE
 have H : (if a0 ≥ 97 then (if a0 ≤ 122 then (some true) else (if a0 ≥ 65 then (some (decide (a0 ≤ 90))) else (some false))) else (if a0 ≥ 65 then (some (decide (a0 ≤ 90))) else (some false))) = some r := h
 clear h
 by_cases c2 : a0 ≥ 97
 rotate_left
 ·rw [if_neg c2] at H
  have c2b0 : decide (97 ≤ a0) = false := decide_eq_false c2
  clear c2
  by_cases c5 : a0 ≥ 65
  ·rw [if_pos c5] at H
   have c5b0 : decide (65 ≤ a0) = true := decide_eq_true c5
   clear c5
   obtain rfl := Option.some.inj H
   go_enter Tryz.func86, Tryz.ntmps86
   go_wp2
   go_ret
   exact ⟨Zf, Zh⟩
  rw [if_neg c5] at H
  have c5b0 : decide (65 ≤ a0) = false := decide_eq_false c5
  clear c5
  obtain rfl := Option.some.inj H
  go_enter Tryz.func86, Tryz.ntmps86
  go_wp2
  go_ret
  exact ⟨Zf, Zh⟩
 rw [if_pos c2] at H
 have c2b0 : decide (97 ≤ a0) = true := decide_eq_true c2
 clear c2
 by_cases c3 : a0 ≤ 122
 ·rw [if_pos c3] at H
  have c3b0 : decide (a0 ≤ 122) = true := decide_eq_true c3
  clear c3
  obtain rfl := Option.some.inj H
  go_enter Tryz.func86, Tryz.ntmps86
  go_wp2
  go_ret
  exact ⟨Zf, Zh⟩
 rw [if_neg c3] at H
 have c3b0 : decide (a0 ≤ 122) = false := decide_eq_false c3
 clear c3
 by_cases c4 : a0 ≥ 65
 ·rw [if_pos c4] at H
  have c4b0 : decide (65 ≤ a0) = true := decide_eq_true c4
  clear c4
  obtain rfl := Option.some.inj H
  go_enter Tryz.func86, Tryz.ntmps86
  go_wp2
  go_ret
  exact ⟨Zf, Zh⟩
 rw [if_neg c4] at H
 have c4b0 : decide (65 ≤ a0) = false := decide_eq_false c4
 clear c4
 obtain rfl := Option.some.inj H
 go_enter Tryz.func86, Tryz.ntmps86
 go_wp2
 go_ret
 exact ⟨Zf, Zh⟩
def Yv.f (a0 : Int) : Option (Bool) := if a0 ≥ 48 then (some (decide (a0 ≤ 57))) else (some false)
set_option maxHeartbeats 8000000 in
set_option maxRecDepth 100000 in
theorem Yv.calls (a0 : Int) (r : Bool) (w : World) (hE : EnvOk w) (h : Yv.f a0 = some r) :
  Calls Tryz.prog 87 #[.int .u8 a0] w fun e w' => e = .returned (.bool r) ∧ Drawn0 w w' := by
 have HE := Ya.mk hE
 clear hE
 have H : (if a0 ≥ 48 then (some (decide (a0 ≤ 57))) else (some false)) = some r := h
 clear h
 by_cases c2 : a0 ≥ 48
 ·rw [if_pos c2] at H
  have c2b0 : decide (48 ≤ a0) = true := decide_eq_true c2
  clear c2
  obtain rfl := Option.some.inj H
  go_enter Tryz.func87, Tryz.ntmps87
  go_wp2
  go_ret
  exact ⟨Zf, Zh⟩
 rw [if_neg c2] at H
 have c2b0 : decide (48 ≤ a0) = false := decide_eq_false c2
 clear c2
 obtain rfl := Option.some.inj H
 go_enter Tryz.func87, Tryz.ntmps87
 go_wp2
 go_ret
 exact ⟨Zf, Zh⟩
def Yce.f (a0 : Int) : Option (Bool) := (Ysa.f a0).bind fun t150 => (if t150 = true then (some true) else ((Yv.f a0).bind fun t151 => (if t151 = true then (some true) else (if a0 = 45 then (some true) else (if a0 = 46 then (some true) else (if a0 = 95 then (some true) else (some (a0 == 126))))))))
set_option maxHeartbeats 8000000 in
set_option maxRecDepth 100000 in
theorem Yce.calls (a0 : Int) (r : Bool) (w : World) (hE : EnvOk w) (h : Yce.f a0 = some r) :
  Calls Tryz.prog 119 #[.int .u8 a0] w fun e w' => e = .returned (.bool r) ∧ Drawn0 w w' := by
 have HE := Ya.mk hE
 clear hE
 have H : ((Ysa.f a0).bind fun t150 => (if t150 = true then (some true) else ((Yv.f a0).bind fun t151 => (if t151 = true then (some true) else (if a0 = 45 then (some true) else (if a0 = 46 then (some true) else (if a0 = 95 then (some true) else (some (a0 == 126))))))))) = some r := h
 clear h
 replace H := Option.bind_eq_some_iff.mp H
 obtain ⟨t150, A20, H⟩ := H
 try dsimp -simprocs only at H
 have A2 := Ya.mk A20
 clear A20
 by_cases c3 : t150 = true
 ·subst c3
  rw [if_pos rfl] at H
  obtain rfl := Option.some.inj H
  go_enter Tryz.func119, Tryz.ntmps119
  go_wp2_with (first | ((with_reducible refine Yh (f := 86) rfl ?_); refine Yz (some 4) rfl rfl Tryz.func86 Zi rfl #[.int .u8 a0] rfl Zb ?_; (with_reducible refine (Ysa.calls a0 true _ ?side1 A2.out).mono ?_); (case side1 => first | exact HE.out | exact EnvOk.heap HE.out rfl); rintro e w' ⟨rfl, ⟨nd, rfl⟩⟩; refine ⟨_, rfl, ?_⟩))
  go_ret
  exact ⟨Zf, Zh⟩
 replace c3 := Bool.eq_false_iff.mpr c3
 subst c3
 rw [if_neg (show ¬ (false = true) by decide)] at H
 replace H := Option.bind_eq_some_iff.mp H
 obtain ⟨t151, A40, H⟩ := H
 try dsimp -simprocs only at H
 have A4 := Ya.mk A40
 clear A40
 by_cases c5 : t151 = true
 ·subst c5
  rw [if_pos rfl] at H
  obtain rfl := Option.some.inj H
  go_enter Tryz.func119, Tryz.ntmps119
  go_wp2_with (first | ((with_reducible refine Yh (f := 86) rfl ?_); refine Yz (some 4) rfl rfl Tryz.func86 Zi rfl #[.int .u8 a0] rfl Zb ?_; (with_reducible refine (Ysa.calls a0 false _ ?side1 A2.out).mono ?_); (case side1 => first | exact HE.out | exact EnvOk.heap HE.out rfl); rintro e w' ⟨rfl, ⟨nd, rfl⟩⟩; refine ⟨_, rfl, ?_⟩) | (go_at_call 87; (with_reducible refine (Yv.calls a0 true _ ?side1 A4.out).mono ?_); (case side1 => first | exact HE.out | exact EnvOk.heap HE.out rfl); rintro e w' ⟨rfl, ⟨nd, rfl⟩⟩))
  go_ret
  exact ⟨Zf, Zh⟩
 replace c5 := Bool.eq_false_iff.mpr c5
 subst c5
 rw [if_neg (show ¬ (false = true) by decide)] at H
 by_cases c6 : a0 = 45
 ·rw [if_pos c6] at H
  have c6b0 : (a0 == 45) = true := beq_iff_eq.mpr c6
  have c6b1 : (a0 != 45) = false := bne_eq_false_iff_eq.mpr c6
  clear c6
  obtain rfl := Option.some.inj H
  go_enter Tryz.func119, Tryz.ntmps119
  go_wp2_with (first | ((with_reducible refine Yh (f := 86) rfl ?_); refine Yz (some 4) rfl rfl Tryz.func86 Zi rfl #[.int .u8 a0] rfl Zb ?_; (with_reducible refine (Ysa.calls a0 false _ ?side1 A2.out).mono ?_); (case side1 => first | exact HE.out | exact EnvOk.heap HE.out rfl); rintro e w' ⟨rfl, ⟨nd, rfl⟩⟩; refine ⟨_, rfl, ?_⟩) | (go_at_call 87; (with_reducible refine (Yv.calls a0 false _ ?side1 A4.out).mono ?_); (case side1 => first | exact HE.out | exact EnvOk.heap HE.out rfl); rintro e w' ⟨rfl, ⟨nd, rfl⟩⟩))
  go_ret
  exact ⟨Zf, Zh⟩
 rw [if_neg c6] at H
 have c6b0 : (a0 == 45) = false := beq_eq_false_iff_ne.mpr c6
 have c6b1 : (a0 != 45) = true := bne_iff_ne.mpr c6
 by_cases c7 : a0 = 46
 ·rw [if_pos c7] at H
  have c7b0 : (a0 == 46) = true := beq_iff_eq.mpr c7
  have c7b1 : (a0 != 46) = false := bne_eq_false_iff_eq.mpr c7
  clear c7
  obtain rfl := Option.some.inj H
  go_enter Tryz.func119, Tryz.ntmps119
  go_wp2_with (first | ((with_reducible refine Yh (f := 86) rfl ?_); refine Yz (some 4) rfl rfl Tryz.func86 Zi rfl #[.int .u8 a0] rfl Zb ?_; (with_reducible refine (Ysa.calls a0 false _ ?side1 A2.out).mono ?_); (case side1 => first | exact HE.out | exact EnvOk.heap HE.out rfl); rintro e w' ⟨rfl, ⟨nd, rfl⟩⟩; refine ⟨_, rfl, ?_⟩) | (go_at_call 87; (with_reducible refine (Yv.calls a0 false _ ?side1 A4.out).mono ?_); (case side1 => first | exact HE.out | exact EnvOk.heap HE.out rfl); rintro e w' ⟨rfl, ⟨nd, rfl⟩⟩))
  go_ret
  exact ⟨Zf, Zh⟩
 rw [if_neg c7] at H
 have c7b0 : (a0 == 46) = false := beq_eq_false_iff_ne.mpr c7
 have c7b1 : (a0 != 46) = true := bne_iff_ne.mpr c7
 by_cases c8 : a0 = 95
 rotate_left
 ·rw [if_neg c8] at H
  have c8b0 : (a0 == 95) = false := beq_eq_false_iff_ne.mpr c8
  have c8b1 : (a0 != 95) = true := bne_iff_ne.mpr c8
  obtain rfl := Option.some.inj H
  go_enter Tryz.func119, Tryz.ntmps119
  go_wp2_with (first | ((with_reducible refine Yh (f := 86) rfl ?_); refine Yz (some 4) rfl rfl Tryz.func86 Zi rfl #[.int .u8 a0] rfl Zb ?_; (with_reducible refine (Ysa.calls a0 false _ ?side1 A2.out).mono ?_); (case side1 => first | exact HE.out | exact EnvOk.heap HE.out rfl); rintro e w' ⟨rfl, ⟨nd, rfl⟩⟩; refine ⟨_, rfl, ?_⟩) | (go_at_call 87; (with_reducible refine (Yv.calls a0 false _ ?side1 A4.out).mono ?_); (case side1 => first | exact HE.out | exact EnvOk.heap HE.out rfl); rintro e w' ⟨rfl, ⟨nd, rfl⟩⟩))
  go_ret
  exact ⟨Zf, Zh⟩
 rw [if_pos c8] at H
 have c8b0 : (a0 == 95) = true := beq_iff_eq.mpr c8
 have c8b1 : (a0 != 95) = false := bne_eq_false_iff_eq.mpr c8
 clear c8
 obtain rfl := Option.some.inj H
 go_enter Tryz.func119, Tryz.ntmps119
 go_wp2_with (first | ((with_reducible refine Yh (f := 86) rfl ?_); refine Yz (some 4) rfl rfl Tryz.func86 Zi rfl #[.int .u8 a0] rfl Zb ?_; (with_reducible refine (Ysa.calls a0 false _ ?side1 A2.out).mono ?_); (case side1 => first | exact HE.out | exact EnvOk.heap HE.out rfl); rintro e w' ⟨rfl, ⟨nd, rfl⟩⟩; refine ⟨_, rfl, ?_⟩) | (go_at_call 87; (with_reducible refine (Yv.calls a0 false _ ?side1 A4.out).mono ?_); (case side1 => first | exact HE.out | exact EnvOk.heap HE.out rfl); rintro e w' ⟨rfl, ⟨nd, rfl⟩⟩))
 go_ret
 exact ⟨Zf, Zh⟩
mutual
def Yu.l0 : Nat → ByteArray → ByteArray → ByteArray → Int → Option (ByteArray)
 | 0, _, _, _, _ => none
 | k + 1, x0, x1, x5, x6 => if x6 < (x0.size : Int) then (if 0 ≤ x6 then ((Yce.f (bt x0 x6)).bind fun t152 => (Yu.l1 k x0 x1 x5 x6 t152 0)) else (none)) else (some x5)
def Yu.l1 : Nat → ByteArray → ByteArray → ByteArray → Int → Bool → Int → Option (ByteArray)
 | 0, _, _, _, _, _, _ => none
 | k + 1, x0, x1, x5, x6, x7, x8 => if x8 < (x1.size : Int) then (if x7 = true then (Yu.l1 k x0 x1 x5 x6 true (wrap64 (x8 + 1))) else (if 0 ≤ x8 then (if 0 ≤ x6 then (if x6 < (x0.size : Int) then (Yu.l1 k x0 x1 x5 x6 ((bt x1 x8) == (bt x0 x6)) (wrap64 (x8 + 1))) else (none)) else (none)) else (none))) else (if x7 = true then (if 0 ≤ x6 then (if x6 ≤ (wrap64 (x6 + 1)) then (if (wrap64 (x6 + 1)) ≤ (x0.size : Int) then (if x5.size + (x0.extract (x6 : Int).toNat ((wrap64 (x6 + 1)) : Int).toNat).size ≤ 9223372036854775807 then (Yu.l0 k x0 x1 (x5 ++ (x0.extract (x6 : Int).toNat ((wrap64 (x6 + 1)) : Int).toNat)) (wrap64 (x6 + 1))) else (none)) else (none)) else (none)) else (none)) else (if 0 ≤ x6 then (if x6 < (x0.size : Int) then ((Ycd.f (bt x0 x6)).bind fun t153 => (if x5.size + t153.size ≤ 9223372036854775807 then (Yu.l0 k x0 x1 (x5 ++ t153) (wrap64 (x6 + 1))) else (none))) else (none)) else (none)))
end
def Yu.f (k : Nat) (a0 : ByteArray) (a1 : ByteArray) : Option (ByteArray) := Yu.l0 k a0 a1 (⟨#[]⟩ : ByteArray) 0
set_option maxHeartbeats 8000000 in
set_option maxRecDepth 100000 in
theorem Yu.calls (k : Nat) (a0 : ByteArray) (a1 : ByteArray) (r : ByteArray) (w : World) (hE : EnvOk w) (h : Yu.f k a0 a1 = some r) :
  Calls Tryz.prog 90 #[.string a0, .string a1] w fun e w' => e = .returned (.string r) ∧ Below w.heap.size w w' := by
 have HE := Ya.mk hE
 clear hE
 have HB := Ya.mk (Below.refl w.heap.size w)
 have H : (Yu.l0 k a0 a1 (⟨#[]⟩ : ByteArray) 0) = some r := h
 clear h
 have H' := Ya.mk H
 clear H
 go_enter Tryz.func90, Tryz.ntmps90
 go_wp2
 repeat (go_quiet (fail); try go_wp2)
 go_loopg [5, 6] k (fun kq v5 v6 w' => ∃ (x5_1 : ByteArray) (x6_1 : Int), v5 = .string x5_1 ∧ v6 = .int .i64 x6_1 ∧ Ya (Yu.l0 kq a0 a1 x5_1 x6_1 = some r) ∧ Ya (kq ≤ k) ∧ Ya (Below w.heap.size w w'))
 case atStart => exact ⟨((⟨#[]⟩ : ByteArray)), (0), Zf, Zf, H', ⟨Nat.le_refl _⟩, ⟨Za⟩⟩
 case round =>
  clear H'
  try clear p2
  obtain ⟨x5_1, x6_1, rfl, rfl, HA, HK1, HB⟩ := hrel
  cases gk with
  | zero => exact absurd HA.out (by simp [Yu.l0])
  | succ k1 =>
   have H := HA.out
   clear HA
   simp only [Yu.l0] at H
   by_cases c3 : x6_1 < (a0.size : Int)
   rotate_left
   ·rw [if_neg c3] at H
    have c3b0 : decide (x6_1 < (a0.size : Int)) = false := decide_eq_false c3
    clear c3
    obtain rfl := Option.some.inj H
    go_wp2
    repeat (go_quiet (fail); try go_wp2)
    go_ret
    exact ⟨Zk, Za⟩
   rw [if_pos c3] at H
   have c3b0 : decide (x6_1 < (a0.size : Int)) = true := decide_eq_true c3
   clear c3
   by_cases c4 : 0 ≤ x6_1
   rotate_left
   ·rw [if_neg c4] at H
    exact absurd H Zv
   rw [if_pos c4] at H
   have c4b0 : decide (0 ≤ x6_1) = true := decide_eq_true c4
   clear c4
   replace H := Option.bind_eq_some_iff.mp H
   obtain ⟨t152, A60, H⟩ := H
   try dsimp -simprocs only at H
   have A6 := Ya.mk A60
   clear A60
   have H' := Ya.mk H
   clear H
   have p5 : 0 ≤ (x6_1 : Int) := of_decide_eq_true Zc
   have q5 : x6_1 < (a0.size : Int) := of_decide_eq_true Zc
   have hx5 := Yya a0 x6_1
   replace p5 := eq_true p5
   replace q5 := eq_true q5
   go_wp2_with (first | (go_at_call 119; (with_reducible refine (Yce.calls (bt a0 x6_1) t152 _ ?side1 A6.out).mono ?_); (case side1 => first | exact HE.out | exact EnvOk.below HE.out Za); rintro e w' ⟨rfl, ⟨nd, rfl⟩⟩; (try first | exact ⟨rfl, _, World.drewN_drewN _ _ _⟩ | exact ⟨rfl, _, Eq.trans (World.drewN_drewN _ _ _) (congrArg (World.drewN _) (Nat.add_assoc _ _ _))⟩)))
   repeat (go_quiet (first | (go_at_call 119; (with_reducible refine (Yce.calls (bt a0 x6_1) t152 _ ?side1 A6.out).mono ?_); (case side1 => first | exact HE.out | exact EnvOk.below HE.out Za); rintro e w' ⟨rfl, ⟨nd, rfl⟩⟩; (try first | exact ⟨rfl, _, World.drewN_drewN _ _ _⟩ | exact ⟨rfl, _, Eq.trans (World.drewN_drewN _ _ _) (congrArg (World.drewN _) (Nat.add_assoc _ _ _))⟩))); try go_wp2_with (first | (go_at_call 119; (with_reducible refine (Yce.calls (bt a0 x6_1) t152 _ ?side1 A6.out).mono ?_); (case side1 => first | exact HE.out | exact EnvOk.below HE.out Za); rintro e w' ⟨rfl, ⟨nd, rfl⟩⟩; (try first | exact ⟨rfl, _, World.drewN_drewN _ _ _⟩ | exact ⟨rfl, _, Eq.trans (World.drewN_drewN _ _ _) (congrArg (World.drewN _) (Nat.add_assoc _ _ _))⟩))))
   go_loopg [7, 8] k1 (fun kq v7 v8 w' => ∃ (x7_2 : Bool) (x8_2 : Int), v7 = .bool x7_2 ∧ v8 = .int .i64 x8_2 ∧ Ya (Yu.l1 kq a0 a1 x5_1 x6_1 x7_2 x8_2 = some r) ∧ Ya (kq ≤ k1) ∧ Ya (Below w.heap.size w w'))
   case atStart => exact ⟨(t152), (0), Zf, Zf, H', ⟨Nat.le_refl _⟩, ⟨Za⟩⟩
   case round =>
    clear H'
    try clear p2
    try clear c3
    try clear c3b0
    try clear c4
    try clear c4b0
    try clear p5
    try clear q5
    try clear hx5
    try clear p2
    try clear p5
    try clear q5
    obtain ⟨x7_2, x8_2, rfl, rfl, HA, HK2, HB⟩ := hrel
    cases gk with
    | zero => exact absurd HA.out (by simp [Yu.l1])
    | succ k2 =>
     have H := HA.out
     clear HA
     simp only [Yu.l1] at H
     by_cases c7 : x8_2 < (a1.size : Int)
     ·rw [if_pos c7] at H
      have c7b0 : decide (x8_2 < (a1.size : Int)) = true := decide_eq_true c7
      clear c7
      by_cases c8 : x7_2 = true
      ·subst c8
       rw [if_pos rfl] at H
       have H' := Ya.mk H
       clear H
       go_wp2
       repeat (go_quiet (fail); try go_wp2)
       go_roundg k2
       case measure => have := HK1.out; have := HK2.out; omega
       case rel => exact ⟨(true), (wrap64 (x8_2 + 1)), Zf, Zf, H', ⟨Zjb⟩, ⟨Za⟩⟩
      replace c8 := Bool.eq_false_iff.mpr c8
      subst c8
      rw [if_neg (show ¬ (false = true) by decide)] at H
      by_cases c9 : 0 ≤ x8_2
      rotate_left
      ·rw [if_neg c9] at H
       exact absurd H Zv
      rw [if_pos c9] at H
      have c9b0 : decide (0 ≤ x8_2) = true := decide_eq_true c9
      clear c9
      by_cases c11 : 0 ≤ x6_1
      rotate_left
      ·rw [if_neg c11] at H
       exact absurd H Zv
      rw [if_pos c11] at H
      have c11b0 : decide (0 ≤ x6_1) = true := decide_eq_true c11
      clear c11
      by_cases c12 : x6_1 < (a0.size : Int)
      rotate_left
      ·rw [if_neg c12] at H
       exact absurd H Zv
      rw [if_pos c12] at H
      have c12b0 : decide (x6_1 < (a0.size : Int)) = true := decide_eq_true c12
      clear c12
      have H' := Ya.mk H
      clear H
      have p10 : 0 ≤ (x8_2 : Int) := of_decide_eq_true Zc
      have q10 : x8_2 < (a1.size : Int) := of_decide_eq_true Zc
      have hx10 := Yya a1 x8_2
      replace p10 := eq_true p10
      replace q10 := eq_true q10
      have p13 : 0 ≤ (x6_1 : Int) := of_decide_eq_true Zc
      have q13 : x6_1 < (a0.size : Int) := of_decide_eq_true Zc
      have hx13 := Yya a0 x6_1
      replace p13 := eq_true p13
      replace q13 := eq_true q13
      go_wp2
      repeat (go_quiet (fail); try go_wp2)
      go_roundg k2
      case measure => have := HK1.out; have := HK2.out; omega
      case rel => exact ⟨(((bt a1 x8_2) == (bt a0 x6_1))), (wrap64 (x8_2 + 1)), Zf, Zf, H', ⟨Zjb⟩, ⟨Za⟩⟩
     rw [if_neg c7] at H
     have c7b0 : decide (x8_2 < (a1.size : Int)) = false := decide_eq_false c7
     clear c7
     by_cases c14 : x7_2 = true
     ·subst c14
      rw [if_pos rfl] at H
      by_cases c15 : 0 ≤ x6_1
      rotate_left
      ·rw [if_neg c15] at H
       exact absurd H Zv
      rw [if_pos c15] at H
      have c15b0 := eq_true c15
      have c15b1 : decide (0 ≤ x6_1) = true := decide_eq_true c15
      clear c15
      by_cases c16 : x6_1 ≤ (wrap64 (x6_1 + 1))
      rotate_left
      ·rw [if_neg c16] at H
       exact absurd H Zv
      rw [if_pos c16] at H
      have c16b0 := eq_true c16
      have c16b1 : decide (x6_1 ≤ (wrap64 (x6_1 + 1))) = true := decide_eq_true c16
      by_cases c17 : (wrap64 (x6_1 + 1)) ≤ (a0.size : Int)
      rotate_left
      ·rw [if_neg c17] at H
       exact absurd H Zv
      rw [if_pos c17] at H
      have c17b0 := eq_true c17
      have c17b1 : decide ((wrap64 (x6_1 + 1)) ≤ (a0.size : Int)) = true := decide_eq_true c17
      by_cases c18 : x5_1.size + (a0.extract (x6_1 : Int).toNat ((wrap64 (x6_1 + 1)) : Int).toNat).size ≤ 9223372036854775807
      rotate_left
      ·rw [if_neg c18] at H
       exact absurd H Zv
      rw [if_pos c18] at H
      have c18b0 := eq_true c18
      have c18b1 : decide (x5_1.size + (a0.extract (x6_1 : Int).toNat ((wrap64 (x6_1 + 1)) : Int).toNat).size ≤ 9223372036854775807) = true := decide_eq_true c18
      try have c18b2 : (9223372036854775807 < x5_1.size + (a0.extract (x6_1 : Int).toNat ((wrap64 (x6_1 + 1)) : Int).toNat).size) = False := eq_false (Nat.not_lt.2 c18)
      try have c18b9 : (9223372036854775807 < x5_1.size + (((wrap64 (x6_1 + 1)) : Int).toNat - (x6_1 : Int).toNat)) = False := eq_false (by have h9_ := c18; rw [ByteArray.size_extract] at h9_; omega)
      have H' := Ya.mk H
      clear H
      go_wp2
      repeat (go_quiet (fail); try go_wp2)
      go_roundg k2
      case measure => have := HK1.out; have := HK2.out; omega
      case rel => exact ⟨(x5_1 ++ (a0.extract (x6_1 : Int).toNat ((wrap64 (x6_1 + 1)) : Int).toNat)), (wrap64 (x6_1 + 1)), Zf, Zf, H', ⟨Zjb⟩, ⟨Za⟩⟩
     replace c14 := Bool.eq_false_iff.mpr c14
     subst c14
     rw [if_neg (show ¬ (false = true) by decide)] at H
     by_cases c19 : 0 ≤ x6_1
     rotate_left
     ·rw [if_neg c19] at H
      exact absurd H Zv
     rw [if_pos c19] at H
     have c19b0 : decide (0 ≤ x6_1) = true := decide_eq_true c19
     clear c19
     by_cases c20 : x6_1 < (a0.size : Int)
     rotate_left
     ·rw [if_neg c20] at H
      exact absurd H Zv
     rw [if_pos c20] at H
     have c20b0 : decide (x6_1 < (a0.size : Int)) = true := decide_eq_true c20
     clear c20
     replace H := Option.bind_eq_some_iff.mp H
     obtain ⟨t153, A220, H⟩ := H
     try dsimp -simprocs only at H
     have A22 := Ya.mk A220
     clear A220
     by_cases c23 : x5_1.size + t153.size ≤ 9223372036854775807
     rotate_left
     ·rw [if_neg c23] at H
      exact absurd H Zv
     rw [if_pos c23] at H
     have c23b0 := eq_true c23
     have c23b1 : decide (x5_1.size + t153.size ≤ 9223372036854775807) = true := decide_eq_true c23
     try have c23b2 : (9223372036854775807 < x5_1.size + t153.size) = False := eq_false (Nat.not_lt.2 c23)
     have H' := Ya.mk H
     clear H
     have p21 : 0 ≤ (x6_1 : Int) := of_decide_eq_true Zc
     have q21 : x6_1 < (a0.size : Int) := of_decide_eq_true Zc
     have hx21 := Yya a0 x6_1
     replace p21 := eq_true p21
     replace q21 := eq_true q21
     go_wp2_with (first | (go_at_call 120; (with_reducible refine (Ycd.calls (bt a0 x6_1) t153 _ ?side1 A22.out).mono ?_); (case side1 => first | exact HE.out | exact EnvOk.below HE.out Za); rintro e w24 ⟨rfl, hb⟩; have n0_ := Ya.mk (Yq Za hb); clear HB; have HB := n0_; clear n0_; (try clear hb); (try clear hb2); (try clear hk); (try clear hi)))
     repeat (go_quiet (first | (go_at_call 120; (with_reducible refine (Ycd.calls (bt a0 x6_1) t153 _ ?side1 A22.out).mono ?_); (case side1 => first | exact HE.out | exact EnvOk.below HE.out Za); rintro e w24 ⟨rfl, hb⟩; have n0_ := Ya.mk (Yq Za hb); clear HB; have HB := n0_; clear n0_; (try clear hb); (try clear hb2); (try clear hk); (try clear hi))); try go_wp2_with (first | (go_at_call 120; (with_reducible refine (Ycd.calls (bt a0 x6_1) t153 _ ?side1 A22.out).mono ?_); (case side1 => first | exact HE.out | exact EnvOk.below HE.out Za); rintro e w24 ⟨rfl, hb⟩; have n0_ := Ya.mk (Yq Za hb); clear HB; have HB := n0_; clear n0_; (try clear hb); (try clear hb2); (try clear hk); (try clear hi))))
     go_roundg k2
     case measure => have := HK1.out; have := HK2.out; omega
     case rel => exact ⟨(x5_1 ++ t153), (wrap64 (x6_1 + 1)), Zf, Zf, H', ⟨Zjb⟩, ⟨Za⟩⟩
end Go.Proofs.YtnmglnglbdpjjaaGreatDoor.X
