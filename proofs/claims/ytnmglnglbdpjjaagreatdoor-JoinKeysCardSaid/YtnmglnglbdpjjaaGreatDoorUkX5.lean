/- Printed by a program of ours: functions as plain Lean, and what a call of each does. -/
import Derived.Test.YtnmglnglbdpjjaaGreatDoorUkWords
import Derived.Test.YtnmglnglbdpjjaaGreatDoorUkX0
import Derived.Test.YtnmglnglbdpjjaaGreatDoorUkX3
import Derived.Test.YtnmglnglbdpjjaaGreatDoorUkQa
import Derived.Test.YtnmglnglbdpjjaaGreatDoorUkZm
namespace Go.Proofs.YtnmglnglbdpjjaaGreatDoor.X
open Go.RowKit Go.Yw.PrintWords Go.Yw.PrintLast Go.Yw.PrintMore
attribute [local go_sem] Yde Yee Ywe Yve Ypd Yod Yce Ybe
set_option linter.unusedVariables false
set_option linter.unusedSimpArgs false
set_option maxHeartbeats 8000000
set_option maxRecDepth 100000
def Yuf.f (a0 : Int) : Option (Bool) := (Yva.f a0).bind fun aBp => (if aBp = true then (some true) else ((Yta.f a0).bind fun aBq => (if aBq = true then (some true) else ((strings_IndexByte.f (⟨#[45, 46, 95, 126]⟩ : ByteArray) a0).bind fun aBr => (some (decide (aBr ≥ 0)))))))
theorem Yuf.calls (a0 : Int) (r : Bool) (w : World) (hE : EnvOk w) (h : Yuf.f a0 = some r) :
  Calls Tryz.prog 129 #[.int .u8 a0] w fun e w' => e = .returned (.bool r) ∧ Drawn0 w w' := by
 have HE := Ya.mk hE
 clear hE
 have H : ((Yva.f a0).bind fun aBp => (if aBp = true then (some true) else ((Yta.f a0).bind fun aBq => (if aBq = true then (some true) else ((strings_IndexByte.f (⟨#[45, 46, 95, 126]⟩ : ByteArray) a0).bind fun aBr => (some (decide (aBr ≥ 0)))))))) = some r := h
 clear h
 replace H := Option.bind_eq_some_iff.mp H
 obtain ⟨aBp, dU, H⟩ := H
 try dsimp -simprocs only at H
 have A2 := Ya.mk dU
 clear dU
 by_cases c3 : aBp = true
 ·subst c3
  rw [if_pos rfl] at H
  obtain rfl := Option.some.inj H
  go_enter Tryz.func129, Tryz.ntmps129
  go_wp2_with (first | ((with_reducible refine Yh (f := 77) rfl ?_); refine Yba (some 4) rfl rfl Tryz.func77 Zi rfl #[.int .u8 a0] rfl Zb ?_; (with_reducible refine (Yva.calls a0 true _ ?side1 A2.out).mono ?_); (case side1 => first | exact HE.out | exact EnvOk.heap HE.out rfl); rintro e w' ⟨rfl, ⟨nd, rfl⟩⟩; refine ⟨_, rfl, ?_⟩))
  go_ret
  exact ⟨Zf, Zh⟩
 replace c3 := Bool.eq_false_iff.mpr c3
 subst c3
 rw [if_neg (show ¬ (false = true) by decide)] at H
 replace H := Option.bind_eq_some_iff.mp H
 obtain ⟨aBq, qH, H⟩ := H
 try dsimp -simprocs only at H
 have A4 := Ya.mk qH
 clear qH
 by_cases c5 : aBq = true
 ·subst c5
  rw [if_pos rfl] at H
  obtain rfl := Option.some.inj H
  go_enter Tryz.func129, Tryz.ntmps129
  go_wp2_with (first | ((with_reducible refine Yh (f := 77) rfl ?_); refine Yba (some 4) rfl rfl Tryz.func77 Zi rfl #[.int .u8 a0] rfl Zb ?_; (with_reducible refine (Yva.calls a0 false _ ?side1 A2.out).mono ?_); (case side1 => first | exact HE.out | exact EnvOk.heap HE.out rfl); rintro e w' ⟨rfl, ⟨nd, rfl⟩⟩; refine ⟨_, rfl, ?_⟩) | (go_at_call 78; (with_reducible refine (Yta.calls a0 true _ ?side1 A4.out).mono ?_); (case side1 => first | exact HE.out | exact EnvOk.heap HE.out rfl); rintro e w' ⟨rfl, ⟨nd, rfl⟩⟩))
  go_ret
  exact ⟨Zf, Zh⟩
 replace c5 := Bool.eq_false_iff.mpr c5
 subst c5
 rw [if_neg (show ¬ (false = true) by decide)] at H
 replace H := Option.bind_eq_some_iff.mp H
 obtain ⟨aBr, qI, H⟩ := H
 try dsimp -simprocs only at H
 have A6 := Ya.mk qI
 clear qI
 obtain rfl := Option.some.inj H
 go_enter Tryz.func129, Tryz.ntmps129
 go_wp2_with (first | ((with_reducible refine Yh (f := 77) rfl ?_); refine Yba (some 4) rfl rfl Tryz.func77 Zi rfl #[.int .u8 a0] rfl Zb ?_; (with_reducible refine (Yva.calls a0 false _ ?side1 A2.out).mono ?_); (case side1 => first | exact HE.out | exact EnvOk.heap HE.out rfl); rintro e w' ⟨rfl, ⟨nd, rfl⟩⟩; refine ⟨_, rfl, ?_⟩) | (go_at_call 78; (with_reducible refine (Yta.calls a0 false _ ?side1 A4.out).mono ?_); (case side1 => first | exact HE.out | exact EnvOk.heap HE.out rfl); rintro e w' ⟨rfl, ⟨nd, rfl⟩⟩) | (go_at_call 79; (with_reducible refine (strings_IndexByte.calls (⟨#[45, 46, 95, 126]⟩ : ByteArray) a0 aBr _ ?side1 A6.out).mono ?_); (case side1 => first | exact HE.out | exact EnvOk.heap HE.out rfl); rintro e w' ⟨rfl, ⟨nd, rfl⟩⟩))
 go_ret
 exact ⟨Zf, Zh⟩
def Yxa.f (a0 : Int) : Option (Bool) := if a0 = 47 then (some true) else (some (a0 == 92))
theorem Yxa.calls (a0 : Int) (r : Bool) (w : World) (hE : EnvOk w) (h : Yxa.f a0 = some r) :
  Calls Tryz.prog 48 #[.int .u8 a0] w fun e w' => e = .returned (.bool r) ∧ Drawn0 w w' := by
 have HE := Ya.mk hE
 clear hE
 have H : (if a0 = 47 then (some true) else (some (a0 == 92))) = some r := h
 clear h
 by_cases c2 : a0 = 47
 rotate_left
 ·rw [if_neg c2] at H
  have eT : (a0 == 47) = false := beq_eq_false_iff_ne.mpr c2
  have kG : (a0 != 47) = true := bne_iff_ne.mpr c2
  obtain rfl := Option.some.inj H
  go_enter Tryz.func48, Tryz.ntmps48
  go_wp2
  go_ret
  exact ⟨Zf, Zh⟩
 rw [if_pos c2] at H
 have eT : (a0 == 47) = true := beq_iff_eq.mpr c2
 have kG : (a0 != 47) = false := bne_eq_false_iff_eq.mpr c2
 clear c2
 obtain rfl := Option.some.inj H
 go_enter Tryz.func48, Tryz.ntmps48
 go_wp2
 go_ret
 exact ⟨Zf, Zh⟩
def Yha.l0 : Nat → Int → ByteArray → Int → Option (Bool)
 | 0, _, _, _ => none
 | k + 1, x0, x1, x5 => if x5 < (x1.size : Int) then (if 0 ≤ x5 then (if (bt x1 x5) = x0 then (some true) else (Yha.l0 k x0 x1 (wrap64 (x5 + 1)))) else (none)) else (some false)
def Yha.f (k : Nat) (a0 : Int) (a1 : ByteArray) : Option (Bool) := Yha.l0 k a0 a1 0
theorem Yha.calls (k : Nat) (a0 : Int) (a1 : ByteArray) (r : Bool) (w : World) (hE : EnvOk w) (h : Yha.f k a0 a1 = some r) :
  Calls Tryz.prog 88 #[.int .u8 a0, .string a1] w fun e w' => e = .returned (.bool r) ∧ Drawn0 w w' := by
 have HE := Ya.mk hE
 clear hE
 have H : (Yha.l0 k a0 a1 0) = some r := h
 clear h
 have H' := Ya.mk H
 clear H
 go_enter Tryz.func88, Tryz.ntmps88
 go_wp2
 go_loopg [5] k (fun kq v5 w' => ∃ (bA : Int), v5 = .int .i64 bA ∧ Ya (Yha.l0 kq a0 a1 bA = some r) ∧ Ya (kq ≤ k) ∧ Drawn0 w w')
 case atStart => exact ⟨(0), Zf, H', ⟨Nat.le_refl _⟩, Zh⟩
 case round =>
  clear H'
  try clear p2
  obtain ⟨bA, rfl, HA, dD, ⟨m1, rfl⟩⟩ := hrel
  cases gk with
  | zero => exact absurd HA.out (by simp [Yha.l0])
  | succ k1 =>
   have H := HA.out
   clear HA
   simp only [Yha.l0] at H
   by_cases c3 : bA < (a1.size : Int)
   rotate_left
   ·rw [if_neg c3] at H
    have cJ : decide (bA < (a1.size : Int)) = false := decide_eq_false c3
    clear c3
    obtain rfl := Option.some.inj H
    go_wp2
    go_ret
    exact ⟨Zf, Zh⟩
   rw [if_pos c3] at H
   have cJ : decide (bA < (a1.size : Int)) = true := decide_eq_true c3
   clear c3
   by_cases c4 : 0 ≤ bA
   rotate_left
   ·rw [if_neg c4] at H
    exact absurd H Zv
   rw [if_pos c4] at H
   have cF : decide (0 ≤ bA) = true := decide_eq_true c4
   clear c4
   by_cases c6 : (bt a1 bA) = a0
   ·rw [if_pos c6] at H
    have dP : ((bt a1 bA) == a0) = true := beq_iff_eq.mpr c6
    have jF : ((bt a1 bA) != a0) = false := bne_eq_false_iff_eq.mpr c6
    clear c6
    obtain rfl := Option.some.inj H
    have p5 : 0 ≤ (bA : Int) := of_decide_eq_true Zc
    have q5 : bA < (a1.size : Int) := of_decide_eq_true Zc
    have kK := Yab a1 bA
    replace p5 := eq_true p5
    replace q5 := eq_true q5
    go_wp2
    go_ret
    exact ⟨Zf, Zh⟩
   rw [if_neg c6] at H
   have dP : ((bt a1 bA) == a0) = false := beq_eq_false_iff_ne.mpr c6
   have jF : ((bt a1 bA) != a0) = true := bne_iff_ne.mpr c6
   have H' := Ya.mk H
   clear H
   have p5 : 0 ≤ (bA : Int) := of_decide_eq_true Zc
   have q5 : bA < (a1.size : Int) := of_decide_eq_true Zc
   have kK := Yab a1 bA
   replace p5 := eq_true p5
   replace q5 := eq_true q5
   go_wp2
   go_roundg k1
   case measure => have := dD.out; omega
   case rel => exact ⟨(wrap64 (bA + 1)), Zf, H', ⟨Zaa⟩, Zh⟩
def Ysa.f (a0 : Int) : Option (Bool) := if a0 ≥ 97 then (if a0 ≤ 122 then (some true) else (if a0 ≥ 65 then (some (decide (a0 ≤ 90))) else (some false))) else (if a0 ≥ 65 then (some (decide (a0 ≤ 90))) else (some false))
theorem Ysa.calls (a0 : Int) (r : Bool) (w : World) (hE : EnvOk w) (h : Ysa.f a0 = some r) :
  Calls Tryz.prog 86 #[.int .u8 a0] w fun e w' => e = .returned (.bool r) ∧ Drawn0 w w' := by
 have HE := Ya.mk hE
 clear hE
 have H : (if a0 ≥ 97 then (if a0 ≤ 122 then (some true) else (if a0 ≥ 65 then (some (decide (a0 ≤ 90))) else (some false))) else (if a0 ≥ 65 then (some (decide (a0 ≤ 90))) else (some false))) = some r := h
 clear h
 by_cases c2 : a0 ≥ 97
 rotate_left
 ·rw [if_neg c2] at H
  have eT : decide (97 ≤ a0) = false := decide_eq_false c2
  clear c2
  by_cases c5 : a0 ≥ 65
  ·rw [if_pos c5] at H
   have dL : decide (65 ≤ a0) = true := decide_eq_true c5
   clear c5
   obtain rfl := Option.some.inj H
   go_enter Tryz.func86, Tryz.ntmps86
   go_wp2
   go_ret
   exact ⟨Zf, Zh⟩
  rw [if_neg c5] at H
  have dL : decide (65 ≤ a0) = false := decide_eq_false c5
  clear c5
  obtain rfl := Option.some.inj H
  go_enter Tryz.func86, Tryz.ntmps86
  go_wp2
  go_ret
  exact ⟨Zf, Zh⟩
 rw [if_pos c2] at H
 have eT : decide (97 ≤ a0) = true := decide_eq_true c2
 clear c2
 by_cases c3 : a0 ≤ 122
 ·rw [if_pos c3] at H
  have cJ : decide (a0 ≤ 122) = true := decide_eq_true c3
  clear c3
  obtain rfl := Option.some.inj H
  go_enter Tryz.func86, Tryz.ntmps86
  go_wp2
  go_ret
  exact ⟨Zf, Zh⟩
 rw [if_neg c3] at H
 have cJ : decide (a0 ≤ 122) = false := decide_eq_false c3
 clear c3
 by_cases c4 : a0 ≥ 65
 ·rw [if_pos c4] at H
  have cF : decide (65 ≤ a0) = true := decide_eq_true c4
  clear c4
  obtain rfl := Option.some.inj H
  go_enter Tryz.func86, Tryz.ntmps86
  go_wp2
  go_ret
  exact ⟨Zf, Zh⟩
 rw [if_neg c4] at H
 have cF : decide (65 ≤ a0) = false := decide_eq_false c4
 clear c4
 obtain rfl := Option.some.inj H
 go_enter Tryz.func86, Tryz.ntmps86
 go_wp2
 go_ret
 exact ⟨Zf, Zh⟩
def Yy.f (a0 : Int) : Option (Bool) := if a0 ≥ 48 then (some (decide (a0 ≤ 57))) else (some false)
theorem Yy.calls (a0 : Int) (r : Bool) (w : World) (hE : EnvOk w) (h : Yy.f a0 = some r) :
  Calls Tryz.prog 87 #[.int .u8 a0] w fun e w' => e = .returned (.bool r) ∧ Drawn0 w w' := by
 have HE := Ya.mk hE
 clear hE
 have H : (if a0 ≥ 48 then (some (decide (a0 ≤ 57))) else (some false)) = some r := h
 clear h
 by_cases c2 : a0 ≥ 48
 ·rw [if_pos c2] at H
  have eT : decide (48 ≤ a0) = true := decide_eq_true c2
  clear c2
  obtain rfl := Option.some.inj H
  go_enter Tryz.func87, Tryz.ntmps87
  go_wp2
  go_ret
  exact ⟨Zf, Zh⟩
 rw [if_neg c2] at H
 have eT : decide (48 ≤ a0) = false := decide_eq_false c2
 clear c2
 obtain rfl := Option.some.inj H
 go_enter Tryz.func87, Tryz.ntmps87
 go_wp2
 go_ret
 exact ⟨Zf, Zh⟩
def Yle.f (a0 : Int) : Option (Bool) := (Ysa.f a0).bind fun aBs => (if aBs = true then (some true) else ((Yy.f a0).bind fun aBt => (if aBt = true then (some true) else (if a0 = 45 then (some true) else (if a0 = 46 then (some true) else (if a0 = 95 then (some true) else (some (a0 == 126))))))))
theorem Yle.calls (a0 : Int) (r : Bool) (w : World) (hE : EnvOk w) (h : Yle.f a0 = some r) :
  Calls Tryz.prog 119 #[.int .u8 a0] w fun e w' => e = .returned (.bool r) ∧ Drawn0 w w' := by
 have HE := Ya.mk hE
 clear hE
 have H : ((Ysa.f a0).bind fun aBs => (if aBs = true then (some true) else ((Yy.f a0).bind fun aBt => (if aBt = true then (some true) else (if a0 = 45 then (some true) else (if a0 = 46 then (some true) else (if a0 = 95 then (some true) else (some (a0 == 126))))))))) = some r := h
 clear h
 replace H := Option.bind_eq_some_iff.mp H
 obtain ⟨aBs, dU, H⟩ := H
 try dsimp -simprocs only at H
 have A2 := Ya.mk dU
 clear dU
 by_cases c3 : aBs = true
 ·subst c3
  rw [if_pos rfl] at H
  obtain rfl := Option.some.inj H
  go_enter Tryz.func119, Tryz.ntmps119
  go_wp2_with (first | ((with_reducible refine Yh (f := 86) rfl ?_); refine Yba (some 4) rfl rfl Tryz.func86 Zi rfl #[.int .u8 a0] rfl Zb ?_; (with_reducible refine (Ysa.calls a0 true _ ?side1 A2.out).mono ?_); (case side1 => first | exact HE.out | exact EnvOk.heap HE.out rfl); rintro e w' ⟨rfl, ⟨nd, rfl⟩⟩; refine ⟨_, rfl, ?_⟩))
  go_ret
  exact ⟨Zf, Zh⟩
 replace c3 := Bool.eq_false_iff.mpr c3
 subst c3
 rw [if_neg (show ¬ (false = true) by decide)] at H
 replace H := Option.bind_eq_some_iff.mp H
 obtain ⟨aBt, qH, H⟩ := H
 try dsimp -simprocs only at H
 have A4 := Ya.mk qH
 clear qH
 by_cases c5 : aBt = true
 ·subst c5
  rw [if_pos rfl] at H
  obtain rfl := Option.some.inj H
  go_enter Tryz.func119, Tryz.ntmps119
  go_wp2_with (first | ((with_reducible refine Yh (f := 86) rfl ?_); refine Yba (some 4) rfl rfl Tryz.func86 Zi rfl #[.int .u8 a0] rfl Zb ?_; (with_reducible refine (Ysa.calls a0 false _ ?side1 A2.out).mono ?_); (case side1 => first | exact HE.out | exact EnvOk.heap HE.out rfl); rintro e w' ⟨rfl, ⟨nd, rfl⟩⟩; refine ⟨_, rfl, ?_⟩) | (go_at_call 87; (with_reducible refine (Yy.calls a0 true _ ?side1 A4.out).mono ?_); (case side1 => first | exact HE.out | exact EnvOk.heap HE.out rfl); rintro e w' ⟨rfl, ⟨nd, rfl⟩⟩))
  go_ret
  exact ⟨Zf, Zh⟩
 replace c5 := Bool.eq_false_iff.mpr c5
 subst c5
 rw [if_neg (show ¬ (false = true) by decide)] at H
 by_cases c6 : a0 = 45
 ·rw [if_pos c6] at H
  have dP : (a0 == 45) = true := beq_iff_eq.mpr c6
  have jF : (a0 != 45) = false := bne_eq_false_iff_eq.mpr c6
  clear c6
  obtain rfl := Option.some.inj H
  go_enter Tryz.func119, Tryz.ntmps119
  go_wp2_with (first | ((with_reducible refine Yh (f := 86) rfl ?_); refine Yba (some 4) rfl rfl Tryz.func86 Zi rfl #[.int .u8 a0] rfl Zb ?_; (with_reducible refine (Ysa.calls a0 false _ ?side1 A2.out).mono ?_); (case side1 => first | exact HE.out | exact EnvOk.heap HE.out rfl); rintro e w' ⟨rfl, ⟨nd, rfl⟩⟩; refine ⟨_, rfl, ?_⟩) | (go_at_call 87; (with_reducible refine (Yy.calls a0 false _ ?side1 A4.out).mono ?_); (case side1 => first | exact HE.out | exact EnvOk.heap HE.out rfl); rintro e w' ⟨rfl, ⟨nd, rfl⟩⟩))
  go_ret
  exact ⟨Zf, Zh⟩
 rw [if_neg c6] at H
 have dP : (a0 == 45) = false := beq_eq_false_iff_ne.mpr c6
 have jF : (a0 != 45) = true := bne_iff_ne.mpr c6
 by_cases c7 : a0 = 46
 ·rw [if_pos c7] at H
  have dA : (a0 == 46) = true := beq_iff_eq.mpr c7
  have iF : (a0 != 46) = false := bne_eq_false_iff_eq.mpr c7
  clear c7
  obtain rfl := Option.some.inj H
  go_enter Tryz.func119, Tryz.ntmps119
  go_wp2_with (first | ((with_reducible refine Yh (f := 86) rfl ?_); refine Yba (some 4) rfl rfl Tryz.func86 Zi rfl #[.int .u8 a0] rfl Zb ?_; (with_reducible refine (Ysa.calls a0 false _ ?side1 A2.out).mono ?_); (case side1 => first | exact HE.out | exact EnvOk.heap HE.out rfl); rintro e w' ⟨rfl, ⟨nd, rfl⟩⟩; refine ⟨_, rfl, ?_⟩) | (go_at_call 87; (with_reducible refine (Yy.calls a0 false _ ?side1 A4.out).mono ?_); (case side1 => first | exact HE.out | exact EnvOk.heap HE.out rfl); rintro e w' ⟨rfl, ⟨nd, rfl⟩⟩))
  go_ret
  exact ⟨Zf, Zh⟩
 rw [if_neg c7] at H
 have dA : (a0 == 46) = false := beq_eq_false_iff_ne.mpr c7
 have iF : (a0 != 46) = true := bne_iff_ne.mpr c7
 by_cases c8 : a0 = 95
 rotate_left
 ·rw [if_neg c8] at H
  have gZ : (a0 == 95) = false := beq_eq_false_iff_ne.mpr c8
  have jE : (a0 != 95) = true := bne_iff_ne.mpr c8
  obtain rfl := Option.some.inj H
  go_enter Tryz.func119, Tryz.ntmps119
  go_wp2_with (first | ((with_reducible refine Yh (f := 86) rfl ?_); refine Yba (some 4) rfl rfl Tryz.func86 Zi rfl #[.int .u8 a0] rfl Zb ?_; (with_reducible refine (Ysa.calls a0 false _ ?side1 A2.out).mono ?_); (case side1 => first | exact HE.out | exact EnvOk.heap HE.out rfl); rintro e w' ⟨rfl, ⟨nd, rfl⟩⟩; refine ⟨_, rfl, ?_⟩) | (go_at_call 87; (with_reducible refine (Yy.calls a0 false _ ?side1 A4.out).mono ?_); (case side1 => first | exact HE.out | exact EnvOk.heap HE.out rfl); rintro e w' ⟨rfl, ⟨nd, rfl⟩⟩))
  go_ret
  exact ⟨Zf, Zh⟩
 rw [if_pos c8] at H
 have gZ : (a0 == 95) = true := beq_iff_eq.mpr c8
 have jE : (a0 != 95) = false := bne_eq_false_iff_eq.mpr c8
 clear c8
 obtain rfl := Option.some.inj H
 go_enter Tryz.func119, Tryz.ntmps119
 go_wp2_with (first | ((with_reducible refine Yh (f := 86) rfl ?_); refine Yba (some 4) rfl rfl Tryz.func86 Zi rfl #[.int .u8 a0] rfl Zb ?_; (with_reducible refine (Ysa.calls a0 false _ ?side1 A2.out).mono ?_); (case side1 => first | exact HE.out | exact EnvOk.heap HE.out rfl); rintro e w' ⟨rfl, ⟨nd, rfl⟩⟩; refine ⟨_, rfl, ?_⟩) | (go_at_call 87; (with_reducible refine (Yy.calls a0 false _ ?side1 A4.out).mono ?_); (case side1 => first | exact HE.out | exact EnvOk.heap HE.out rfl); rintro e w' ⟨rfl, ⟨nd, rfl⟩⟩))
 go_ret
 exact ⟨Zf, Zh⟩
mutual
def Yx.l0 : Nat → ByteArray → ByteArray → ByteArray → Int → Option (ByteArray)
 | 0, _, _, _, _ => none
 | k + 1, x0, x1, x5, x6 => if x6 < (x0.size : Int) then (if 0 ≤ x6 then ((Yle.f (bt x0 x6)).bind fun aAs => (Yx.l1 k x0 x1 x5 x6 aAs 0)) else (none)) else (some x5)
def Yx.l1 : Nat → ByteArray → ByteArray → ByteArray → Int → Bool → Int → Option (ByteArray)
 | 0, _, _, _, _, _, _ => none
 | k + 1, x0, x1, x5, x6, x7, x8 => if x8 < (x1.size : Int) then (if x7 = true then (Yx.l1 k x0 x1 x5 x6 true (wrap64 (x8 + 1))) else (if 0 ≤ x8 then (if 0 ≤ x6 then (if x6 < (x0.size : Int) then (Yx.l1 k x0 x1 x5 x6 ((bt x1 x8) == (bt x0 x6)) (wrap64 (x8 + 1))) else (none)) else (none)) else (none))) else (if x7 = true then (if 0 ≤ x6 then (if x6 ≤ (wrap64 (x6 + 1)) then (if (wrap64 (x6 + 1)) ≤ (x0.size : Int) then (if x5.size + (x0.extract (x6 : Int).toNat ((wrap64 (x6 + 1)) : Int).toNat).size ≤ 9223372036854775807 then (Yx.l0 k x0 x1 (x5 ++ (x0.extract (x6 : Int).toNat ((wrap64 (x6 + 1)) : Int).toNat)) (wrap64 (x6 + 1))) else (none)) else (none)) else (none)) else (none)) else (if 0 ≤ x6 then (if x6 < (x0.size : Int) then ((Yjd.f (bt x0 x6)).bind fun pT => (if x5.size + pT.size ≤ 9223372036854775807 then (Yx.l0 k x0 x1 (x5 ++ pT) (wrap64 (x6 + 1))) else (none))) else (none)) else (none)))
end
def Yx.f (k : Nat) (a0 a1 : ByteArray) : Option (ByteArray) := Yx.l0 k a0 a1 (⟨#[]⟩ : ByteArray) 0
theorem Yx.calls (k : Nat) (a0 a1 r : ByteArray) (w : World) (hE : EnvOk w) (h : Yx.f k a0 a1 = some r) :
  Calls Tryz.prog 90 #[.string a0, .string a1] w fun e w' => e = .returned (.string r) ∧ Below w.heap.size w w' := by
 have HE := Ya.mk hE
 clear hE
 have HB := Ya.mk (Below.refl w.heap.size w)
 have H : (Yx.l0 k a0 a1 (⟨#[]⟩ : ByteArray) 0) = some r := h
 clear h
 have H' := Ya.mk H
 clear H
 go_enter Tryz.func90, Tryz.ntmps90
 go_wp2
 repeat (go_quiet (fail); try go_wp2)
 go_loopg [5, 6] k (fun kq v5 v6 w' => ∃ (bA : ByteArray) (aD : Int), v5 = .string bA ∧ v6 = .int .i64 aD ∧ Ya (Yx.l0 kq a0 a1 bA aD = some r) ∧ Ya (kq ≤ k) ∧ Ya (Below w.heap.size w w'))
 case atStart => exact ⟨((⟨#[]⟩ : ByteArray)), (0), Zf, Zf, H', ⟨Nat.le_refl _⟩, ⟨Za⟩⟩
 case round =>
  clear H'
  try clear p2
  obtain ⟨bA, aD, rfl, rfl, HA, dD, HB⟩ := hrel
  cases gk with
  | zero => exact absurd HA.out (by simp [Yx.l0])
  | succ k1 =>
   have H := HA.out
   clear HA
   simp only [Yx.l0] at H
   by_cases c3 : aD < (a0.size : Int)
   rotate_left
   ·rw [if_neg c3] at H
    have cJ : decide (aD < (a0.size : Int)) = false := decide_eq_false c3
    clear c3
    obtain rfl := Option.some.inj H
    go_wp2
    repeat (go_quiet (fail); try go_wp2)
    go_ret
    exact ⟨Zk, Za⟩
   rw [if_pos c3] at H
   have cJ : decide (aD < (a0.size : Int)) = true := decide_eq_true c3
   clear c3
   by_cases c4 : 0 ≤ aD
   rotate_left
   ·rw [if_neg c4] at H
    exact absurd H Zv
   rw [if_pos c4] at H
   have cF : decide (0 ≤ aD) = true := decide_eq_true c4
   clear c4
   replace H := Option.bind_eq_some_iff.mp H
   obtain ⟨aAs, qI, H⟩ := H
   try dsimp -simprocs only at H
   have A6 := Ya.mk qI
   clear qI
   have H' := Ya.mk H
   clear H
   have p5 : 0 ≤ (aD : Int) := of_decide_eq_true Zc
   have q5 : aD < (a0.size : Int) := of_decide_eq_true Zc
   have kK := Yab a0 aD
   replace p5 := eq_true p5
   replace q5 := eq_true q5
   go_wp2_with (first | (go_at_call 119; (with_reducible refine (Yle.calls (bt a0 aD) aAs _ ?side1 A6.out).mono ?_); (case side1 => first | exact HE.out | exact EnvOk.below HE.out Za); rintro e w' ⟨rfl, ⟨nd, rfl⟩⟩; (try first | exact ⟨rfl, _, World.drewN_drewN _ _ _⟩ | exact ⟨rfl, _, Eq.trans (World.drewN_drewN _ _ _) (congrArg (World.drewN _) (Nat.add_assoc _ _ _))⟩)))
   repeat (go_quiet (first | (go_at_call 119; (with_reducible refine (Yle.calls (bt a0 aD) aAs _ ?side1 A6.out).mono ?_); (case side1 => first | exact HE.out | exact EnvOk.below HE.out Za); rintro e w' ⟨rfl, ⟨nd, rfl⟩⟩; (try first | exact ⟨rfl, _, World.drewN_drewN _ _ _⟩ | exact ⟨rfl, _, Eq.trans (World.drewN_drewN _ _ _) (congrArg (World.drewN _) (Nat.add_assoc _ _ _))⟩))); try go_wp2_with (first | (go_at_call 119; (with_reducible refine (Yle.calls (bt a0 aD) aAs _ ?side1 A6.out).mono ?_); (case side1 => first | exact HE.out | exact EnvOk.below HE.out Za); rintro e w' ⟨rfl, ⟨nd, rfl⟩⟩; (try first | exact ⟨rfl, _, World.drewN_drewN _ _ _⟩ | exact ⟨rfl, _, Eq.trans (World.drewN_drewN _ _ _) (congrArg (World.drewN _) (Nat.add_assoc _ _ _))⟩))))
   go_loopg [7, 8] k1 (fun kq v7 v8 w' => ∃ (iU : Bool) (cY : Int), v7 = .bool iU ∧ v8 = .int .i64 cY ∧ Ya (Yx.l1 kq a0 a1 bA aD iU cY = some r) ∧ Ya (kq ≤ k1) ∧ Ya (Below w.heap.size w w'))
   case atStart => exact ⟨(aAs), (0), Zf, Zf, H', ⟨Nat.le_refl _⟩, ⟨Za⟩⟩
   case round =>
    clear H'
    try clear p2
    try clear c3
    try clear cJ
    try clear c4
    try clear cF
    try clear p5
    try clear q5
    try clear kK
    try clear p2
    try clear p5
    try clear q5
    obtain ⟨iU, cY, rfl, rfl, HA, kB, HB⟩ := hrel
    cases gk with
    | zero => exact absurd HA.out (by simp [Yx.l1])
    | succ k2 =>
     have H := HA.out
     clear HA
     simp only [Yx.l1] at H
     by_cases c7 : cY < (a1.size : Int)
     ·rw [if_pos c7] at H
      have dA : decide (cY < (a1.size : Int)) = true := decide_eq_true c7
      clear c7
      by_cases c8 : iU = true
      ·subst c8
       rw [if_pos rfl] at H
       have H' := Ya.mk H
       clear H
       go_wp2
       repeat (go_quiet (fail); try go_wp2)
       go_roundg k2
       case measure => have := dD.out; have := kB.out; omega
       case rel => exact ⟨(true), (wrap64 (cY + 1)), Zf, Zf, H', ⟨Zhb⟩, ⟨Za⟩⟩
      replace c8 := Bool.eq_false_iff.mpr c8
      subst c8
      rw [if_neg (show ¬ (false = true) by decide)] at H
      by_cases c9 : 0 ≤ cY
      rotate_left
      ·rw [if_neg c9] at H
       exact absurd H Zv
      rw [if_pos c9] at H
      have iI : decide (0 ≤ cY) = true := decide_eq_true c9
      clear c9
      by_cases c11 : 0 ≤ aD
      rotate_left
      ·rw [if_neg c11] at H
       exact absurd H Zv
      rw [if_pos c11] at H
      have gU : decide (0 ≤ aD) = true := decide_eq_true c11
      clear c11
      by_cases dG : aD < (a0.size : Int)
      rotate_left
      ·rw [if_neg dG] at H
       exact absurd H Zv
      rw [if_pos dG] at H
      have dV : decide (aD < (a0.size : Int)) = true := decide_eq_true dG
      clear dG
      have H' := Ya.mk H
      clear H
      have xG : 0 ≤ (cY : Int) := of_decide_eq_true Zc
      have xH : cY < (a1.size : Int) := of_decide_eq_true Zc
      have aDE := Yab a1 cY
      replace xG := eq_true xG
      replace xH := eq_true xH
      have mO : 0 ≤ (aD : Int) := of_decide_eq_true Zc
      have mP : aD < (a0.size : Int) := of_decide_eq_true Zc
      have tL := Yab a0 aD
      replace mO := eq_true mO
      replace mP := eq_true mP
      go_wp2
      repeat (go_quiet (fail); try go_wp2)
      go_roundg k2
      case measure => have := dD.out; have := kB.out; omega
      case rel => exact ⟨(((bt a1 cY) == (bt a0 aD))), (wrap64 (cY + 1)), Zf, Zf, H', ⟨Zhb⟩, ⟨Za⟩⟩
     rw [if_neg c7] at H
     have dA : decide (cY < (a1.size : Int)) = false := decide_eq_false c7
     clear c7
     by_cases gS : iU = true
     ·subst gS
      rw [if_pos rfl] at H
      by_cases dJ : 0 ≤ aD
      rotate_left
      ·rw [if_neg dJ] at H
       exact absurd H Zv
      rw [if_pos dJ] at H
      have eU := eq_true dJ
      have qJ : decide (0 ≤ aD) = true := decide_eq_true dJ
      clear dJ
      by_cases eP : aD ≤ (wrap64 (aD + 1))
      rotate_left
      ·rw [if_neg eP] at H
       exact absurd H Zv
      rw [if_pos eP] at H
      have hJ := eq_true eP
      have kM : decide (aD ≤ (wrap64 (aD + 1))) = true := decide_eq_true eP
      by_cases eH : (wrap64 (aD + 1)) ≤ (a0.size : Int)
      rotate_left
      ·rw [if_neg eH] at H
       exact absurd H Zv
      rw [if_pos eH] at H
      have jQ := eq_true eH
      have lS : decide ((wrap64 (aD + 1)) ≤ (a0.size : Int)) = true := decide_eq_true eH
      by_cases eQ : bA.size + (a0.extract (aD : Int).toNat ((wrap64 (aD + 1)) : Int).toNat).size ≤ 9223372036854775807
      rotate_left
      ·rw [if_neg eQ] at H
       exact absurd H Zv
      rw [if_pos eQ] at H
      have oG := eq_true eQ
      have qK : decide (bA.size + (a0.extract (aD : Int).toNat ((wrap64 (aD + 1)) : Int).toNat).size ≤ 9223372036854775807) = true := decide_eq_true eQ
      try have aEW : (9223372036854775807 < bA.size + (a0.extract (aD : Int).toNat ((wrap64 (aD + 1)) : Int).toNat).size) = False := eq_false (Nat.not_lt.2 eQ)
      try have aXc : (9223372036854775807 < bA.size + (((wrap64 (aD + 1)) : Int).toNat - (aD : Int).toNat)) = False := eq_false (by have h9_ := eQ; rw [ByteArray.size_extract] at h9_; omega)
      have H' := Ya.mk H
      clear H
      go_wp2
      repeat (go_quiet (fail); try go_wp2)
      go_roundg k2
      case measure => have := dD.out; have := kB.out; omega
      case rel => exact ⟨(bA ++ (a0.extract (aD : Int).toNat ((wrap64 (aD + 1)) : Int).toNat)), (wrap64 (aD + 1)), Zf, Zf, H', ⟨Zhb⟩, ⟨Za⟩⟩
     replace gS := Bool.eq_false_iff.mpr gS
     subst gS
     rw [if_neg (show ¬ (false = true) by decide)] at H
     by_cases iP : 0 ≤ aD
     rotate_left
     ·rw [if_neg iP] at H
      exact absurd H Zv
     rw [if_pos iP] at H
     have kH : decide (0 ≤ aD) = true := decide_eq_true iP
     clear iP
     by_cases hD : aD < (a0.size : Int)
     rotate_left
     ·rw [if_neg hD] at H
      exact absurd H Zv
     rw [if_pos hD] at H
     have kJ : decide (aD < (a0.size : Int)) = true := decide_eq_true hD
     clear hD
     replace H := Option.bind_eq_some_iff.mp H
     obtain ⟨pT, aBh, H⟩ := H
     try dsimp -simprocs only at H
     have A22 := Ya.mk aBh
     clear aBh
     by_cases jM : bA.size + pT.size ≤ 9223372036854775807
     rotate_left
     ·rw [if_neg jM] at H
      exact absurd H Zv
     rw [if_pos jM] at H
     have oH := eq_true jM
     have oI : decide (bA.size + pT.size ≤ 9223372036854775807) = true := decide_eq_true jM
     try have aIn : (9223372036854775807 < bA.size + pT.size) = False := eq_false (Nat.not_lt.2 jM)
     have H' := Ya.mk H
     clear H
     have p21 : 0 ≤ (aD : Int) := of_decide_eq_true Zc
     have q21 : aD < (a0.size : Int) := of_decide_eq_true Zc
     have aDF := Yab a0 aD
     replace p21 := eq_true p21
     replace q21 := eq_true q21
     go_wp2_with (first | (go_at_call 120; (with_reducible refine (Yjd.calls (bt a0 aD) pT _ ?side1 A22.out).mono ?_); (case side1 => first | exact HE.out | exact EnvOk.below HE.out Za); rintro e w24 ⟨rfl, hb⟩; have aM := Ya.mk (Ys Za hb); clear HB; have HB := aM; clear aM; (try clear hb); (try clear cC); (try clear hk); (try clear hi)))
     repeat (go_quiet (first | (go_at_call 120; (with_reducible refine (Yjd.calls (bt a0 aD) pT _ ?side1 A22.out).mono ?_); (case side1 => first | exact HE.out | exact EnvOk.below HE.out Za); rintro e w24 ⟨rfl, hb⟩; have aM := Ya.mk (Ys Za hb); clear HB; have HB := aM; clear aM; (try clear hb); (try clear cC); (try clear hk); (try clear hi))); try go_wp2_with (first | (go_at_call 120; (with_reducible refine (Yjd.calls (bt a0 aD) pT _ ?side1 A22.out).mono ?_); (case side1 => first | exact HE.out | exact EnvOk.below HE.out Za); rintro e w24 ⟨rfl, hb⟩; have aM := Ya.mk (Ys Za hb); clear HB; have HB := aM; clear aM; (try clear hb); (try clear cC); (try clear hk); (try clear hi))))
     go_roundg k2
     case measure => have := dD.out; have := kB.out; omega
     case rel => exact ⟨(bA ++ pT), (wrap64 (aD + 1)), Zf, Zf, H', ⟨Zhb⟩, ⟨Za⟩⟩
end Go.Proofs.YtnmglnglbdpjjaaGreatDoor.X
