/- Printed by a program of ours: functions as plain Lean, and what a call of each does. -/
import Derived.Test.YtnmglnglbdpjjaaGreatDoorUlWords
import Derived.Test.YtnmglnglbdpjjaaGreatDoorUlX0
import Derived.Test.YtnmglnglbdpjjaaGreatDoorUlX3
import Derived.Test.YtnmglnglbdpjjaaGreatDoorUlH0e
import Derived.Test.YtnmglnglbdpjjaaGreatDoorUlZm
namespace Go.Proofs.YtnmglnglbdpjjaaGreatDoor.X
open Go.RowKit Go.Yw.PrintWords Go.Yw.PrintLast Go.Yw.PrintMore
attribute [local go_sem] Yxd Yae Yoe Yqe Yld Yjd Yyd Yzd
set_option linter.unusedVariables false
set_option linter.unusedSimpArgs false
set_option maxHeartbeats 8000000
set_option maxRecDepth 100000
def Ynf.f (a0 : Int) : Option (Bool) := (Ywa.f a0).bind fun aAC => (if aAC = true then (some true) else ((Yta.f a0).bind fun aAD => (if aAD = true then (some true) else ((strings_IndexByte.f (⟨#[45, 46, 95, 126]⟩ : ByteArray) a0).bind fun aAE => (some (decide (aAE ≥ 0)))))))
theorem Ynf.calls (a0 : Int) (r : Bool) (w : World) (hE : EnvOk w) (h : Ynf.f a0 = some r) :
  Calls Tryz.prog 129 #[.int .u8 a0] w fun e w' => e = .returned (.bool r) ∧ Drawn0 w w' := by
 have HE := Ya.mk hE
 clear hE
 have H : ((Ywa.f a0).bind fun aAC => (if aAC = true then (some true) else ((Yta.f a0).bind fun aAD => (if aAD = true then (some true) else ((strings_IndexByte.f (⟨#[45, 46, 95, 126]⟩ : ByteArray) a0).bind fun aAE => (some (decide (aAE ≥ 0)))))))) = some r := h
 clear h
 replace H := Option.bind_eq_some_iff.mp H
 obtain ⟨aAC, dV, H⟩ := H
 try dsimp -simprocs only at H
 have A2 := Ya.mk dV
 clear dV
 by_cases c3 : aAC = true
 ·subst c3
  rw [if_pos rfl] at H
  obtain rfl := Option.some.inj H
  go_enter Tryz.func129, Tryz.ntmps129
  go_wp2_with (first | ((with_reducible refine Yi (f := 77) rfl ?_); refine Yaa (some 4) rfl rfl Tryz.func77 Zi rfl #[.int .u8 a0] rfl Zb ?_; (with_reducible refine (Ywa.calls a0 true _ ?side1 A2.out).mono ?_); (case side1 => first | exact HE.out | exact EnvOk.heap HE.out rfl); rintro e w' ⟨rfl, ⟨nd, rfl⟩⟩; refine ⟨_, rfl, ?_⟩))
  go_ret
  exact ⟨Zf, Zh⟩
 replace c3 := Bool.eq_false_iff.mpr c3
 subst c3
 rw [if_neg (show ¬ (false = true) by decide)] at H
 replace H := Option.bind_eq_some_iff.mp H
 obtain ⟨aAD, sU, H⟩ := H
 try dsimp -simprocs only at H
 have A4 := Ya.mk sU
 clear sU
 by_cases c5 : aAD = true
 ·subst c5
  rw [if_pos rfl] at H
  obtain rfl := Option.some.inj H
  go_enter Tryz.func129, Tryz.ntmps129
  go_wp2_with (first | ((with_reducible refine Yi (f := 77) rfl ?_); refine Yaa (some 4) rfl rfl Tryz.func77 Zi rfl #[.int .u8 a0] rfl Zb ?_; (with_reducible refine (Ywa.calls a0 false _ ?side1 A2.out).mono ?_); (case side1 => first | exact HE.out | exact EnvOk.heap HE.out rfl); rintro e w' ⟨rfl, ⟨nd, rfl⟩⟩; refine ⟨_, rfl, ?_⟩) | (go_at_call 78; (with_reducible refine (Yta.calls a0 true _ ?side1 A4.out).mono ?_); (case side1 => first | exact HE.out | exact EnvOk.heap HE.out rfl); rintro e w' ⟨rfl, ⟨nd, rfl⟩⟩))
  go_ret
  exact ⟨Zf, Zh⟩
 replace c5 := Bool.eq_false_iff.mpr c5
 subst c5
 rw [if_neg (show ¬ (false = true) by decide)] at H
 replace H := Option.bind_eq_some_iff.mp H
 obtain ⟨aAE, pM, H⟩ := H
 try dsimp -simprocs only at H
 have A6 := Ya.mk pM
 clear pM
 obtain rfl := Option.some.inj H
 go_enter Tryz.func129, Tryz.ntmps129
 go_wp2_with (first | ((with_reducible refine Yi (f := 77) rfl ?_); refine Yaa (some 4) rfl rfl Tryz.func77 Zi rfl #[.int .u8 a0] rfl Zb ?_; (with_reducible refine (Ywa.calls a0 false _ ?side1 A2.out).mono ?_); (case side1 => first | exact HE.out | exact EnvOk.heap HE.out rfl); rintro e w' ⟨rfl, ⟨nd, rfl⟩⟩; refine ⟨_, rfl, ?_⟩) | (go_at_call 78; (with_reducible refine (Yta.calls a0 false _ ?side1 A4.out).mono ?_); (case side1 => first | exact HE.out | exact EnvOk.heap HE.out rfl); rintro e w' ⟨rfl, ⟨nd, rfl⟩⟩) | (go_at_call 79; (with_reducible refine (strings_IndexByte.calls (⟨#[45, 46, 95, 126]⟩ : ByteArray) a0 aAE _ ?side1 A6.out).mono ?_); (case side1 => first | exact HE.out | exact EnvOk.heap HE.out rfl); rintro e w' ⟨rfl, ⟨nd, rfl⟩⟩))
 go_ret
 exact ⟨Zf, Zh⟩
def Yya.f (a0 : Int) : Option (Bool) := if a0 = 47 then (some true) else (some (a0 == 92))
theorem Yya.calls (a0 : Int) (r : Bool) (w : World) (hE : EnvOk w) (h : Yya.f a0 = some r) :
  Calls Tryz.prog 48 #[.int .u8 a0] w fun e w' => e = .returned (.bool r) ∧ Drawn0 w w' := by
 have HE := Ya.mk hE
 clear hE
 have H : (if a0 = 47 then (some true) else (some (a0 == 92))) = some r := h
 clear h
 by_cases c2 : a0 = 47
 rotate_left
 ·rw [if_neg c2] at H
  have eR : (a0 == 47) = false := beq_eq_false_iff_ne.mpr c2
  have jY : (a0 != 47) = true := bne_iff_ne.mpr c2
  obtain rfl := Option.some.inj H
  go_enter Tryz.func48, Tryz.ntmps48
  go_wp2
  go_ret
  exact ⟨Zf, Zh⟩
 rw [if_pos c2] at H
 have eR : (a0 == 47) = true := beq_iff_eq.mpr c2
 have jY : (a0 != 47) = false := bne_eq_false_iff_eq.mpr c2
 clear c2
 obtain rfl := Option.some.inj H
 go_enter Tryz.func48, Tryz.ntmps48
 go_wp2
 go_ret
 exact ⟨Zf, Zh⟩
def Yha.l0 : Nat → Int → ByteArray → Int → Option (Bool)
 | 0, _, _, _ => none
 | k + 1, x0, x1, x5 => if x5 < (x1.size : Int) then (if 0 ≤ x5 then (if (bt x1 x5) = x0 then (some true) else (Yha.l0 k x0 x1 (wrap64 (x5 + 1)))) else (none)) else (some false)
def Yha.f (k : Nat) (a0 : Int) (a1 : ByteArray) : Option (Bool) := Yha.l0 k a0 a1 0
theorem Yha.calls (k : Nat) (a0 : Int) (a1 : ByteArray) (r : Bool) (w : World) (hE : EnvOk w) (h : Yha.f k a0 a1 = some r) :
  Calls Tryz.prog 88 #[.int .u8 a0, .string a1] w fun e w' => e = .returned (.bool r) ∧ Drawn0 w w' := by
 have HE := Ya.mk hE
 clear hE
 have H : (Yha.l0 k a0 a1 0) = some r := h
 clear h
 have H' := Ya.mk H
 clear H
 go_enter Tryz.func88, Tryz.ntmps88
 go_wp2
 go_loopg [5] k (fun kq v5 w' => ∃ (bA : Int), v5 = .int .i64 bA ∧ Ya (Yha.l0 kq a0 a1 bA = some r) ∧ Ya (kq ≤ k) ∧ Drawn0 w w')
 case atStart => exact ⟨(0), Zf, H', ⟨Nat.le_refl _⟩, Zh⟩
 case round =>
  clear H'
  try clear p2
  obtain ⟨bA, rfl, HA, cU, ⟨m1, rfl⟩⟩ := hrel
  cases gk with
  | zero => exact absurd HA.out (by simp [Yha.l0])
  | succ k1 =>
   have H := HA.out
   clear HA
   simp only [Yha.l0] at H
   by_cases c3 : bA < (a1.size : Int)
   rotate_left
   ·rw [if_neg c3] at H
    have cB : decide (bA < (a1.size : Int)) = false := decide_eq_false c3
    clear c3
    obtain rfl := Option.some.inj H
    go_wp2
    go_ret
    exact ⟨Zf, Zh⟩
   rw [if_pos c3] at H
   have cB : decide (bA < (a1.size : Int)) = true := decide_eq_true c3
   clear c3
   by_cases c4 : 0 ≤ bA
   rotate_left
   ·rw [if_neg c4] at H
    exact absurd H Zv
   rw [if_pos c4] at H
   have bX : decide (0 ≤ bA) = true := decide_eq_true c4
   clear c4
   by_cases c6 : (bt a1 bA) = a0
   ·rw [if_pos c6] at H
    have dN : ((bt a1 bA) == a0) = true := beq_iff_eq.mpr c6
    have iX : ((bt a1 bA) != a0) = false := bne_eq_false_iff_eq.mpr c6
    clear c6
    obtain rfl := Option.some.inj H
    have p5 : 0 ≤ (bA : Int) := of_decide_eq_true Zc
    have q5 : bA < (a1.size : Int) := of_decide_eq_true Zc
    have kB := Yza a1 bA
    replace p5 := eq_true p5
    replace q5 := eq_true q5
    go_wp2
    go_ret
    exact ⟨Zf, Zh⟩
   rw [if_neg c6] at H
   have dN : ((bt a1 bA) == a0) = false := beq_eq_false_iff_ne.mpr c6
   have iX : ((bt a1 bA) != a0) = true := bne_iff_ne.mpr c6
   have H' := Ya.mk H
   clear H
   have p5 : 0 ≤ (bA : Int) := of_decide_eq_true Zc
   have q5 : bA < (a1.size : Int) := of_decide_eq_true Zc
   have kB := Yza a1 bA
   replace p5 := eq_true p5
   replace q5 := eq_true q5
   go_wp2
   go_roundg k1
   case measure => have := cU.out; omega
   case rel => exact ⟨(wrap64 (bA + 1)), Zf, H', ⟨Zaa⟩, Zh⟩
def Ysa.f (a0 : Int) : Option (Bool) := if a0 ≥ 97 then (if a0 ≤ 122 then (some true) else (if a0 ≥ 65 then (some (decide (a0 ≤ 90))) else (some false))) else (if a0 ≥ 65 then (some (decide (a0 ≤ 90))) else (some false))
theorem Ysa.calls (a0 : Int) (r : Bool) (w : World) (hE : EnvOk w) (h : Ysa.f a0 = some r) :
  Calls Tryz.prog 86 #[.int .u8 a0] w fun e w' => e = .returned (.bool r) ∧ Drawn0 w w' := by
 have HE := Ya.mk hE
 clear hE
 have H : (if a0 ≥ 97 then (if a0 ≤ 122 then (some true) else (if a0 ≥ 65 then (some (decide (a0 ≤ 90))) else (some false))) else (if a0 ≥ 65 then (some (decide (a0 ≤ 90))) else (some false))) = some r := h
 clear h
 by_cases c2 : a0 ≥ 97
 rotate_left
 ·rw [if_neg c2] at H
  have eR : decide (97 ≤ a0) = false := decide_eq_false c2
  clear c2
  by_cases c5 : a0 ≥ 65
  ·rw [if_pos c5] at H
   have dI : decide (65 ≤ a0) = true := decide_eq_true c5
   clear c5
   obtain rfl := Option.some.inj H
   go_enter Tryz.func86, Tryz.ntmps86
   go_wp2
   go_ret
   exact ⟨Zf, Zh⟩
  rw [if_neg c5] at H
  have dI : decide (65 ≤ a0) = false := decide_eq_false c5
  clear c5
  obtain rfl := Option.some.inj H
  go_enter Tryz.func86, Tryz.ntmps86
  go_wp2
  go_ret
  exact ⟨Zf, Zh⟩
 rw [if_pos c2] at H
 have eR : decide (97 ≤ a0) = true := decide_eq_true c2
 clear c2
 by_cases c3 : a0 ≤ 122
 ·rw [if_pos c3] at H
  have cB : decide (a0 ≤ 122) = true := decide_eq_true c3
  clear c3
  obtain rfl := Option.some.inj H
  go_enter Tryz.func86, Tryz.ntmps86
  go_wp2
  go_ret
  exact ⟨Zf, Zh⟩
 rw [if_neg c3] at H
 have cB : decide (a0 ≤ 122) = false := decide_eq_false c3
 clear c3
 by_cases c4 : a0 ≥ 65
 ·rw [if_pos c4] at H
  have bX : decide (65 ≤ a0) = true := decide_eq_true c4
  clear c4
  obtain rfl := Option.some.inj H
  go_enter Tryz.func86, Tryz.ntmps86
  go_wp2
  go_ret
  exact ⟨Zf, Zh⟩
 rw [if_neg c4] at H
 have bX : decide (65 ≤ a0) = false := decide_eq_false c4
 clear c4
 obtain rfl := Option.some.inj H
 go_enter Tryz.func86, Tryz.ntmps86
 go_wp2
 go_ret
 exact ⟨Zf, Zh⟩
def Yw.f (a0 : Int) : Option (Bool) := if a0 ≥ 48 then (some (decide (a0 ≤ 57))) else (some false)
theorem Yw.calls (a0 : Int) (r : Bool) (w : World) (hE : EnvOk w) (h : Yw.f a0 = some r) :
  Calls Tryz.prog 87 #[.int .u8 a0] w fun e w' => e = .returned (.bool r) ∧ Drawn0 w w' := by
 have HE := Ya.mk hE
 clear hE
 have H : (if a0 ≥ 48 then (some (decide (a0 ≤ 57))) else (some false)) = some r := h
 clear h
 by_cases c2 : a0 ≥ 48
 ·rw [if_pos c2] at H
  have eR : decide (48 ≤ a0) = true := decide_eq_true c2
  clear c2
  obtain rfl := Option.some.inj H
  go_enter Tryz.func87, Tryz.ntmps87
  go_wp2
  go_ret
  exact ⟨Zf, Zh⟩
 rw [if_neg c2] at H
 have eR : decide (48 ≤ a0) = false := decide_eq_false c2
 clear c2
 obtain rfl := Option.some.inj H
 go_enter Tryz.func87, Tryz.ntmps87
 go_wp2
 go_ret
 exact ⟨Zf, Zh⟩
def Yge.f (a0 : Int) : Option (Bool) := (Ysa.f a0).bind fun aAF => (if aAF = true then (some true) else ((Yw.f a0).bind fun aAG => (if aAG = true then (some true) else (if a0 = 45 then (some true) else (if a0 = 46 then (some true) else (if a0 = 95 then (some true) else (some (a0 == 126))))))))
theorem Yge.calls (a0 : Int) (r : Bool) (w : World) (hE : EnvOk w) (h : Yge.f a0 = some r) :
  Calls Tryz.prog 119 #[.int .u8 a0] w fun e w' => e = .returned (.bool r) ∧ Drawn0 w w' := by
 have HE := Ya.mk hE
 clear hE
 have H : ((Ysa.f a0).bind fun aAF => (if aAF = true then (some true) else ((Yw.f a0).bind fun aAG => (if aAG = true then (some true) else (if a0 = 45 then (some true) else (if a0 = 46 then (some true) else (if a0 = 95 then (some true) else (some (a0 == 126))))))))) = some r := h
 clear h
 replace H := Option.bind_eq_some_iff.mp H
 obtain ⟨aAF, dV, H⟩ := H
 try dsimp -simprocs only at H
 have A2 := Ya.mk dV
 clear dV
 by_cases c3 : aAF = true
 ·subst c3
  rw [if_pos rfl] at H
  obtain rfl := Option.some.inj H
  go_enter Tryz.func119, Tryz.ntmps119
  go_wp2_with (first | ((with_reducible refine Yi (f := 86) rfl ?_); refine Yaa (some 4) rfl rfl Tryz.func86 Zi rfl #[.int .u8 a0] rfl Zb ?_; (with_reducible refine (Ysa.calls a0 true _ ?side1 A2.out).mono ?_); (case side1 => first | exact HE.out | exact EnvOk.heap HE.out rfl); rintro e w' ⟨rfl, ⟨nd, rfl⟩⟩; refine ⟨_, rfl, ?_⟩))
  go_ret
  exact ⟨Zf, Zh⟩
 replace c3 := Bool.eq_false_iff.mpr c3
 subst c3
 rw [if_neg (show ¬ (false = true) by decide)] at H
 replace H := Option.bind_eq_some_iff.mp H
 obtain ⟨aAG, sU, H⟩ := H
 try dsimp -simprocs only at H
 have A4 := Ya.mk sU
 clear sU
 by_cases c5 : aAG = true
 ·subst c5
  rw [if_pos rfl] at H
  obtain rfl := Option.some.inj H
  go_enter Tryz.func119, Tryz.ntmps119
  go_wp2_with (first | ((with_reducible refine Yi (f := 86) rfl ?_); refine Yaa (some 4) rfl rfl Tryz.func86 Zi rfl #[.int .u8 a0] rfl Zb ?_; (with_reducible refine (Ysa.calls a0 false _ ?side1 A2.out).mono ?_); (case side1 => first | exact HE.out | exact EnvOk.heap HE.out rfl); rintro e w' ⟨rfl, ⟨nd, rfl⟩⟩; refine ⟨_, rfl, ?_⟩) | (go_at_call 87; (with_reducible refine (Yw.calls a0 true _ ?side1 A4.out).mono ?_); (case side1 => first | exact HE.out | exact EnvOk.heap HE.out rfl); rintro e w' ⟨rfl, ⟨nd, rfl⟩⟩))
  go_ret
  exact ⟨Zf, Zh⟩
 replace c5 := Bool.eq_false_iff.mpr c5
 subst c5
 rw [if_neg (show ¬ (false = true) by decide)] at H
 by_cases c6 : a0 = 45
 ·rw [if_pos c6] at H
  have dN : (a0 == 45) = true := beq_iff_eq.mpr c6
  have iX : (a0 != 45) = false := bne_eq_false_iff_eq.mpr c6
  clear c6
  obtain rfl := Option.some.inj H
  go_enter Tryz.func119, Tryz.ntmps119
  go_wp2_with (first | ((with_reducible refine Yi (f := 86) rfl ?_); refine Yaa (some 4) rfl rfl Tryz.func86 Zi rfl #[.int .u8 a0] rfl Zb ?_; (with_reducible refine (Ysa.calls a0 false _ ?side1 A2.out).mono ?_); (case side1 => first | exact HE.out | exact EnvOk.heap HE.out rfl); rintro e w' ⟨rfl, ⟨nd, rfl⟩⟩; refine ⟨_, rfl, ?_⟩) | (go_at_call 87; (with_reducible refine (Yw.calls a0 false _ ?side1 A4.out).mono ?_); (case side1 => first | exact HE.out | exact EnvOk.heap HE.out rfl); rintro e w' ⟨rfl, ⟨nd, rfl⟩⟩))
  go_ret
  exact ⟨Zf, Zh⟩
 rw [if_neg c6] at H
 have dN : (a0 == 45) = false := beq_eq_false_iff_ne.mpr c6
 have iX : (a0 != 45) = true := bne_iff_ne.mpr c6
 by_cases c7 : a0 = 46
 ·rw [if_pos c7] at H
  have cQ : (a0 == 46) = true := beq_iff_eq.mpr c7
  have iB : (a0 != 46) = false := bne_eq_false_iff_eq.mpr c7
  clear c7
  obtain rfl := Option.some.inj H
  go_enter Tryz.func119, Tryz.ntmps119
  go_wp2_with (first | ((with_reducible refine Yi (f := 86) rfl ?_); refine Yaa (some 4) rfl rfl Tryz.func86 Zi rfl #[.int .u8 a0] rfl Zb ?_; (with_reducible refine (Ysa.calls a0 false _ ?side1 A2.out).mono ?_); (case side1 => first | exact HE.out | exact EnvOk.heap HE.out rfl); rintro e w' ⟨rfl, ⟨nd, rfl⟩⟩; refine ⟨_, rfl, ?_⟩) | (go_at_call 87; (with_reducible refine (Yw.calls a0 false _ ?side1 A4.out).mono ?_); (case side1 => first | exact HE.out | exact EnvOk.heap HE.out rfl); rintro e w' ⟨rfl, ⟨nd, rfl⟩⟩))
  go_ret
  exact ⟨Zf, Zh⟩
 rw [if_neg c7] at H
 have cQ : (a0 == 46) = false := beq_eq_false_iff_ne.mpr c7
 have iB : (a0 != 46) = true := bne_iff_ne.mpr c7
 by_cases c8 : a0 = 95
 rotate_left
 ·rw [if_neg c8] at H
  have gQ : (a0 == 95) = false := beq_eq_false_iff_ne.mpr c8
  have iW : (a0 != 95) = true := bne_iff_ne.mpr c8
  obtain rfl := Option.some.inj H
  go_enter Tryz.func119, Tryz.ntmps119
  go_wp2_with (first | ((with_reducible refine Yi (f := 86) rfl ?_); refine Yaa (some 4) rfl rfl Tryz.func86 Zi rfl #[.int .u8 a0] rfl Zb ?_; (with_reducible refine (Ysa.calls a0 false _ ?side1 A2.out).mono ?_); (case side1 => first | exact HE.out | exact EnvOk.heap HE.out rfl); rintro e w' ⟨rfl, ⟨nd, rfl⟩⟩; refine ⟨_, rfl, ?_⟩) | (go_at_call 87; (with_reducible refine (Yw.calls a0 false _ ?side1 A4.out).mono ?_); (case side1 => first | exact HE.out | exact EnvOk.heap HE.out rfl); rintro e w' ⟨rfl, ⟨nd, rfl⟩⟩))
  go_ret
  exact ⟨Zf, Zh⟩
 rw [if_pos c8] at H
 have gQ : (a0 == 95) = true := beq_iff_eq.mpr c8
 have iW : (a0 != 95) = false := bne_eq_false_iff_eq.mpr c8
 clear c8
 obtain rfl := Option.some.inj H
 go_enter Tryz.func119, Tryz.ntmps119
 go_wp2_with (first | ((with_reducible refine Yi (f := 86) rfl ?_); refine Yaa (some 4) rfl rfl Tryz.func86 Zi rfl #[.int .u8 a0] rfl Zb ?_; (with_reducible refine (Ysa.calls a0 false _ ?side1 A2.out).mono ?_); (case side1 => first | exact HE.out | exact EnvOk.heap HE.out rfl); rintro e w' ⟨rfl, ⟨nd, rfl⟩⟩; refine ⟨_, rfl, ?_⟩) | (go_at_call 87; (with_reducible refine (Yw.calls a0 false _ ?side1 A4.out).mono ?_); (case side1 => first | exact HE.out | exact EnvOk.heap HE.out rfl); rintro e w' ⟨rfl, ⟨nd, rfl⟩⟩))
 go_ret
 exact ⟨Zf, Zh⟩
mutual
def Yv.l0 : Nat → ByteArray → ByteArray → ByteArray → Int → Option (ByteArray)
 | 0, _, _, _, _ => none
 | k + 1, x0, x1, x5, x6 => if x6 < (x0.size : Int) then (if 0 ≤ x6 then ((Yge.f (bt x0 x6)).bind fun zJ => (Yv.l1 k x0 x1 x5 x6 zJ 0)) else (none)) else (some x5)
def Yv.l1 : Nat → ByteArray → ByteArray → ByteArray → Int → Bool → Int → Option (ByteArray)
 | 0, _, _, _, _, _, _ => none
 | k + 1, x0, x1, x5, x6, x7, x8 => if x8 < (x1.size : Int) then (if x7 = true then (Yv.l1 k x0 x1 x5 x6 true (wrap64 (x8 + 1))) else (if 0 ≤ x8 then (if 0 ≤ x6 then (if x6 < (x0.size : Int) then (Yv.l1 k x0 x1 x5 x6 ((bt x1 x8) == (bt x0 x6)) (wrap64 (x8 + 1))) else (none)) else (none)) else (none))) else (if x7 = true then (if 0 ≤ x6 then (if x6 ≤ (wrap64 (x6 + 1)) then (if (wrap64 (x6 + 1)) ≤ (x0.size : Int) then (if x5.size + (x0.extract (x6 : Int).toNat ((wrap64 (x6 + 1)) : Int).toNat).size ≤ 9223372036854775807 then (Yv.l0 k x0 x1 (x5 ++ (x0.extract (x6 : Int).toNat ((wrap64 (x6 + 1)) : Int).toNat)) (wrap64 (x6 + 1))) else (none)) else (none)) else (none)) else (none)) else (if 0 ≤ x6 then (if x6 < (x0.size : Int) then ((Yfd.f (bt x0 x6)).bind fun oW => (if x5.size + oW.size ≤ 9223372036854775807 then (Yv.l0 k x0 x1 (x5 ++ oW) (wrap64 (x6 + 1))) else (none))) else (none)) else (none)))
end
def Yv.f (k : Nat) (a0 a1 : ByteArray) : Option (ByteArray) := Yv.l0 k a0 a1 (⟨#[]⟩ : ByteArray) 0
theorem Yv.calls (k : Nat) (a0 a1 r : ByteArray) (w : World) (hE : EnvOk w) (h : Yv.f k a0 a1 = some r) :
  Calls Tryz.prog 90 #[.string a0, .string a1] w fun e w' => e = .returned (.string r) ∧ Below w.heap.size w w' := by
 have HE := Ya.mk hE
 clear hE
 have HB := Ya.mk (Below.refl w.heap.size w)
 have H : (Yv.l0 k a0 a1 (⟨#[]⟩ : ByteArray) 0) = some r := h
 clear h
 have H' := Ya.mk H
 clear H
 go_enter Tryz.func90, Tryz.ntmps90
 go_wp2
 repeat (go_quiet (fail); try go_wp2)
 go_loopg [5, 6] k (fun kq v5 v6 w' => ∃ (bA : ByteArray) (aC : Int), v5 = .string bA ∧ v6 = .int .i64 aC ∧ Ya (Yv.l0 kq a0 a1 bA aC = some r) ∧ Ya (kq ≤ k) ∧ Ya (Below w.heap.size w w'))
 case atStart => exact ⟨((⟨#[]⟩ : ByteArray)), (0), Zf, Zf, H', ⟨Nat.le_refl _⟩, ⟨Za⟩⟩
 case round =>
  clear H'
  try clear p2
  obtain ⟨bA, aC, rfl, rfl, HA, cU, HB⟩ := hrel
  cases gk with
  | zero => exact absurd HA.out (by simp [Yv.l0])
  | succ k1 =>
   have H := HA.out
   clear HA
   simp only [Yv.l0] at H
   by_cases c3 : aC < (a0.size : Int)
   rotate_left
   ·rw [if_neg c3] at H
    have cB : decide (aC < (a0.size : Int)) = false := decide_eq_false c3
    clear c3
    obtain rfl := Option.some.inj H
    go_wp2
    repeat (go_quiet (fail); try go_wp2)
    go_ret
    exact ⟨Zl, Za⟩
   rw [if_pos c3] at H
   have cB : decide (aC < (a0.size : Int)) = true := decide_eq_true c3
   clear c3
   by_cases c4 : 0 ≤ aC
   rotate_left
   ·rw [if_neg c4] at H
    exact absurd H Zv
   rw [if_pos c4] at H
   have bX : decide (0 ≤ aC) = true := decide_eq_true c4
   clear c4
   replace H := Option.bind_eq_some_iff.mp H
   obtain ⟨zJ, pM, H⟩ := H
   try dsimp -simprocs only at H
   have A6 := Ya.mk pM
   clear pM
   have H' := Ya.mk H
   clear H
   have p5 : 0 ≤ (aC : Int) := of_decide_eq_true Zc
   have q5 : aC < (a0.size : Int) := of_decide_eq_true Zc
   have kB := Yza a0 aC
   replace p5 := eq_true p5
   replace q5 := eq_true q5
   go_wp2_with (first | (go_at_call 119; (with_reducible refine (Yge.calls (bt a0 aC) zJ _ ?side1 A6.out).mono ?_); (case side1 => first | exact HE.out | exact EnvOk.below HE.out Za); rintro e w' ⟨rfl, ⟨nd, rfl⟩⟩; (try first | exact ⟨rfl, _, World.drewN_drewN _ _ _⟩ | exact ⟨rfl, _, Eq.trans (World.drewN_drewN _ _ _) (congrArg (World.drewN _) (Nat.add_assoc _ _ _))⟩)))
   repeat (go_quiet (first | (go_at_call 119; (with_reducible refine (Yge.calls (bt a0 aC) zJ _ ?side1 A6.out).mono ?_); (case side1 => first | exact HE.out | exact EnvOk.below HE.out Za); rintro e w' ⟨rfl, ⟨nd, rfl⟩⟩; (try first | exact ⟨rfl, _, World.drewN_drewN _ _ _⟩ | exact ⟨rfl, _, Eq.trans (World.drewN_drewN _ _ _) (congrArg (World.drewN _) (Nat.add_assoc _ _ _))⟩))); try go_wp2_with (first | (go_at_call 119; (with_reducible refine (Yge.calls (bt a0 aC) zJ _ ?side1 A6.out).mono ?_); (case side1 => first | exact HE.out | exact EnvOk.below HE.out Za); rintro e w' ⟨rfl, ⟨nd, rfl⟩⟩; (try first | exact ⟨rfl, _, World.drewN_drewN _ _ _⟩ | exact ⟨rfl, _, Eq.trans (World.drewN_drewN _ _ _) (congrArg (World.drewN _) (Nat.add_assoc _ _ _))⟩))))
   go_loopg [7, 8] k1 (fun kq v7 v8 w' => ∃ (iN : Bool) (cO : Int), v7 = .bool iN ∧ v8 = .int .i64 cO ∧ Ya (Yv.l1 kq a0 a1 bA aC iN cO = some r) ∧ Ya (kq ≤ k1) ∧ Ya (Below w.heap.size w w'))
   case atStart => exact ⟨(zJ), (0), Zf, Zf, H', ⟨Nat.le_refl _⟩, ⟨Za⟩⟩
   case round =>
    clear H'
    try clear p2
    try clear c3
    try clear cB
    try clear c4
    try clear bX
    try clear p5
    try clear q5
    try clear kB
    try clear p2
    try clear p5
    try clear q5
    obtain ⟨iN, cO, rfl, rfl, HA, jT, HB⟩ := hrel
    cases gk with
    | zero => exact absurd HA.out (by simp [Yv.l1])
    | succ k2 =>
     have H := HA.out
     clear HA
     simp only [Yv.l1] at H
     by_cases c7 : cO < (a1.size : Int)
     ·rw [if_pos c7] at H
      have cQ : decide (cO < (a1.size : Int)) = true := decide_eq_true c7
      clear c7
      by_cases c8 : iN = true
      ·subst c8
       rw [if_pos rfl] at H
       have H' := Ya.mk H
       clear H
       go_wp2
       repeat (go_quiet (fail); try go_wp2)
       go_roundg k2
       case measure => have := cU.out; have := jT.out; omega
       case rel => exact ⟨(true), (wrap64 (cO + 1)), Zf, Zf, H', ⟨Zdb⟩, ⟨Za⟩⟩
      replace c8 := Bool.eq_false_iff.mpr c8
      subst c8
      rw [if_neg (show ¬ (false = true) by decide)] at H
      by_cases c9 : 0 ≤ cO
      rotate_left
      ·rw [if_neg c9] at H
       exact absurd H Zv
      rw [if_pos c9] at H
      have iA : decide (0 ≤ cO) = true := decide_eq_true c9
      clear c9
      by_cases c11 : 0 ≤ aC
      rotate_left
      ·rw [if_neg c11] at H
       exact absurd H Zv
      rw [if_pos c11] at H
      have gR : decide (0 ≤ aC) = true := decide_eq_true c11
      clear c11
      by_cases dD : aC < (a0.size : Int)
      rotate_left
      ·rw [if_neg dD] at H
       exact absurd H Zv
      rw [if_pos dD] at H
      have dS : decide (aC < (a0.size : Int)) = true := decide_eq_true dD
      clear dD
      have H' := Ya.mk H
      clear H
      have vV : 0 ≤ (cO : Int) := of_decide_eq_true Zc
      have vW : cO < (a1.size : Int) := of_decide_eq_true Zc
      have aDk := Yza a1 cO
      replace vV := eq_true vV
      replace vW := eq_true vW
      have mF : 0 ≤ (aC : Int) := of_decide_eq_true Zc
      have mG : aC < (a0.size : Int) := of_decide_eq_true Zc
      have sV := Yza a0 aC
      replace mF := eq_true mF
      replace mG := eq_true mG
      go_wp2
      repeat (go_quiet (fail); try go_wp2)
      go_roundg k2
      case measure => have := cU.out; have := jT.out; omega
      case rel => exact ⟨(((bt a1 cO) == (bt a0 aC))), (wrap64 (cO + 1)), Zf, Zf, H', ⟨Zdb⟩, ⟨Za⟩⟩
     rw [if_neg c7] at H
     have cQ : decide (cO < (a1.size : Int)) = false := decide_eq_false c7
     clear c7
     by_cases gO : iN = true
     ·subst gO
      rw [if_pos rfl] at H
      by_cases dG : 0 ≤ aC
      rotate_left
      ·rw [if_neg dG] at H
       exact absurd H Zv
      rw [if_pos dG] at H
      have eS := eq_true dG
      have pN : decide (0 ≤ aC) = true := decide_eq_true dG
      clear dG
      by_cases eN : aC ≤ (wrap64 (aC + 1))
      rotate_left
      ·rw [if_neg eN] at H
       exact absurd H Zv
      rw [if_pos eN] at H
      have gZ := eq_true eN
      have kC : decide (aC ≤ (wrap64 (aC + 1))) = true := decide_eq_true eN
      by_cases eF : (wrap64 (aC + 1)) ≤ (a0.size : Int)
      rotate_left
      ·rw [if_neg eF] at H
       exact absurd H Zv
      rw [if_pos eF] at H
      have jK := eq_true eF
      have lI : decide ((wrap64 (aC + 1)) ≤ (a0.size : Int)) = true := decide_eq_true eF
      by_cases eO : bA.size + (a0.extract (aC : Int).toNat ((wrap64 (aC + 1)) : Int).toNat).size ≤ 9223372036854775807
      rotate_left
      ·rw [if_neg eO] at H
       exact absurd H Zv
      rw [if_pos eO] at H
      have nV := eq_true eO
      have pO : decide (bA.size + (a0.extract (aC : Int).toNat ((wrap64 (aC + 1)) : Int).toNat).size ≤ 9223372036854775807) = true := decide_eq_true eO
      try have aEE : (9223372036854775807 < bA.size + (a0.extract (aC : Int).toNat ((wrap64 (aC + 1)) : Int).toNat).size) = False := eq_false (Nat.not_lt.2 eO)
      try have aWw : (9223372036854775807 < bA.size + (((wrap64 (aC + 1)) : Int).toNat - (aC : Int).toNat)) = False := eq_false (by have h9_ := eO; rw [ByteArray.size_extract] at h9_; omega)
      have H' := Ya.mk H
      clear H
      go_wp2
      repeat (go_quiet (fail); try go_wp2)
      go_roundg k2
      case measure => have := cU.out; have := jT.out; omega
      case rel => exact ⟨(bA ++ (a0.extract (aC : Int).toNat ((wrap64 (aC + 1)) : Int).toNat)), (wrap64 (aC + 1)), Zf, Zf, H', ⟨Zdb⟩, ⟨Za⟩⟩
     replace gO := Bool.eq_false_iff.mpr gO
     subst gO
     rw [if_neg (show ¬ (false = true) by decide)] at H
     by_cases iI : 0 ≤ aC
     rotate_left
     ·rw [if_neg iI] at H
      exact absurd H Zv
     rw [if_pos iI] at H
     have jZ : decide (0 ≤ aC) = true := decide_eq_true iI
     clear iI
     by_cases gV : aC < (a0.size : Int)
     rotate_left
     ·rw [if_neg gV] at H
      exact absurd H Zv
     rw [if_pos gV] at H
     have kA : decide (aC < (a0.size : Int)) = true := decide_eq_true gV
     clear gV
     replace H := Option.bind_eq_some_iff.mp H
     obtain ⟨oW, aAv, H⟩ := H
     try dsimp -simprocs only at H
     have A22 := Ya.mk aAv
     clear aAv
     by_cases jG : bA.size + oW.size ≤ 9223372036854775807
     rotate_left
     ·rw [if_neg jG] at H
      exact absurd H Zv
     rw [if_pos jG] at H
     have nW := eq_true jG
     have nX : decide (bA.size + oW.size ≤ 9223372036854775807) = true := decide_eq_true jG
     try have aHE : (9223372036854775807 < bA.size + oW.size) = False := eq_false (Nat.not_lt.2 jG)
     have H' := Ya.mk H
     clear H
     have p21 : 0 ≤ (aC : Int) := of_decide_eq_true Zc
     have q21 : aC < (a0.size : Int) := of_decide_eq_true Zc
     have aDl := Yza a0 aC
     replace p21 := eq_true p21
     replace q21 := eq_true q21
     go_wp2_with (first | (go_at_call 120; (with_reducible refine (Yfd.calls (bt a0 aC) oW _ ?side1 A22.out).mono ?_); (case side1 => first | exact HE.out | exact EnvOk.below HE.out Za); rintro e w24 ⟨rfl, hb⟩; have aH := Ya.mk (Yt Za hb); clear HB; have HB := aH; clear aH; (try clear hb); (try clear bU); (try clear hk); (try clear hi)))
     repeat (go_quiet (first | (go_at_call 120; (with_reducible refine (Yfd.calls (bt a0 aC) oW _ ?side1 A22.out).mono ?_); (case side1 => first | exact HE.out | exact EnvOk.below HE.out Za); rintro e w24 ⟨rfl, hb⟩; have aH := Ya.mk (Yt Za hb); clear HB; have HB := aH; clear aH; (try clear hb); (try clear bU); (try clear hk); (try clear hi))); try go_wp2_with (first | (go_at_call 120; (with_reducible refine (Yfd.calls (bt a0 aC) oW _ ?side1 A22.out).mono ?_); (case side1 => first | exact HE.out | exact EnvOk.below HE.out Za); rintro e w24 ⟨rfl, hb⟩; have aH := Ya.mk (Yt Za hb); clear HB; have HB := aH; clear aH; (try clear hb); (try clear bU); (try clear hk); (try clear hi))))
     go_roundg k2
     case measure => have := cU.out; have := jT.out; omega
     case rel => exact ⟨(bA ++ oW), (wrap64 (aC + 1)), Zf, Zf, H', ⟨Zdb⟩, ⟨Za⟩⟩
end Go.Proofs.YtnmglnglbdpjjaaGreatDoor.X
