import Derived.Test.YtnmglnglbdpjjaaGreatDoorUfX3
import Derived.Test.YtnmglnglbdpjjaaGreatDoorUfZm
set_option linter.all false
namespace Go.Proofs.YtnmglnglbdpjjaaGreatDoor.X
open Go.RowKit Go.Yw.PrintWords Go.Yw.PrintLast Go.Yw.PrintMore
attribute [local go_sem] Yfe Ybe Yre Yue Yld Ykd Yee Yde
set_option maxHeartbeats 8000000
set_option maxRecDepth 100000
def Ysf.f (a0 : Int) : Option (Bool) := (Ywa.f a0).bind fun aAO => (if aAO = true then (some true) else ((Yua.f a0).bind fun aAP => (if aAP = true then (some true) else ((strings_IndexByte.f (⟨#[45, 46, 95, 126]⟩ : Y) a0).bind fun aAQ => (some (decide (aAQ ≥ 0)))))))
theorem Ysf.calls (a0 : Int) (r : Bool) (w : World) (hE : EnvOk w) (h : Ysf.f a0 = some r) :
  Calls Tryz.prog 129 #[.int .u8 a0] w fun e w' => e = .returned (.bool r) ∧ Drawn0 w w' := by
 have HE := Ya.mk hE
 clear hE
 have H : ((Ywa.f a0).bind fun aAO => (if aAO = true then (some true) else ((Yua.f a0).bind fun aAP => (if aAP = true then (some true) else ((strings_IndexByte.f (⟨#[45, 46, 95, 126]⟩ : Y) a0).bind fun aAQ => (some (decide (aAQ ≥ 0)))))))) = some r := h
 clear h
 obtain ⟨aAO, dW, H⟩ := Ku H
 try dsimp -simprocs only at H
 have A2 := Ya.mk dW
 clear dW
 by_cases c3 : aAO = true
 ·subst c3
  rw [if_pos rfl] at H
  obtain rfl := Kv H
  go_enter Tryz.func129, Tryz.ntmps129
  go_wp2_with (first | ((with_reducible refine Yh (f := 77) rfl ?_); refine Yca (some 4) rfl rfl Tryz.func77 Zi rfl #[.int .u8 a0] rfl Zb ?_; (with_reducible refine (Ywa.calls a0 true _ ?z1 A2.out).mono ?_); (case z1 => exact Kj); rintro e w' ⟨rfl, ⟨nd, rfl⟩⟩; refine ⟨_, rfl, ?_⟩))
  go_ret
  exact ⟨Zf, Zh⟩
 replace c3 := Kx c3
 subst c3
 rw [if_neg (show ¬ (false = true) by decide)] at H
 obtain ⟨aAP, sY, H⟩ := Ku H
 try dsimp -simprocs only at H
 have A4 := Ya.mk sY
 clear sY
 by_cases c5 : aAP = true
 ·subst c5
  rw [if_pos rfl] at H
  obtain rfl := Kv H
  go_enter Tryz.func129, Tryz.ntmps129
  go_wp2_with (first | ((with_reducible refine Yh (f := 77) rfl ?_); refine Yca (some 4) rfl rfl Tryz.func77 Zi rfl #[.int .u8 a0] rfl Zb ?_; (with_reducible refine (Ywa.calls a0 false _ ?z1 A2.out).mono ?_); (case z1 => exact Kj); rintro e w' ⟨rfl, ⟨nd, rfl⟩⟩; refine ⟨_, rfl, ?_⟩) | (go_at_call 78; (with_reducible refine (Yua.calls a0 true _ ?z1 A4.out).mono ?_); (case z1 => exact Kj); rintro e w' ⟨rfl, ⟨nd, rfl⟩⟩))
  go_ret
  exact ⟨Zf, Zh⟩
 replace c5 := Kx c5
 subst c5
 rw [if_neg (show ¬ (false = true) by decide)] at H
 obtain ⟨aAQ, pQ, H⟩ := Ku H
 try dsimp -simprocs only at H
 have A6 := Ya.mk pQ
 clear pQ
 obtain rfl := Kv H
 go_enter Tryz.func129, Tryz.ntmps129
 go_wp2_with (first | ((with_reducible refine Yh (f := 77) rfl ?_); refine Yca (some 4) rfl rfl Tryz.func77 Zi rfl #[.int .u8 a0] rfl Zb ?_; (with_reducible refine (Ywa.calls a0 false _ ?z1 A2.out).mono ?_); (case z1 => exact Kj); rintro e w' ⟨rfl, ⟨nd, rfl⟩⟩; refine ⟨_, rfl, ?_⟩) | (go_at_call 78; (with_reducible refine (Yua.calls a0 false _ ?z1 A4.out).mono ?_); (case z1 => exact Kj); rintro e w' ⟨rfl, ⟨nd, rfl⟩⟩) | (go_at_call 79; (with_reducible refine (strings_IndexByte.calls (⟨#[45, 46, 95, 126]⟩ : Y) a0 aAQ _ ?z1 A6.out).mono ?_); (case z1 => exact Kj); rintro e w' ⟨rfl, ⟨nd, rfl⟩⟩))
 go_ret
 exact ⟨Zf, Zh⟩
def Yab.f (a0 : Int) : Option (Bool) := if a0 = 47 then (some true) else (some (a0 == 92))
theorem Yab.calls (a0 : Int) (r : Bool) (w : World) (hE : EnvOk w) (h : Yab.f a0 = some r) :
  Calls Tryz.prog 48 #[.int .u8 a0] w fun e w' => e = .returned (.bool r) ∧ Drawn0 w w' := by
 have HE := Ya.mk hE
 clear hE
 have H : (if a0 = 47 then (some true) else (some (a0 == 92))) = some r := h
 clear h
 by_cases c2 : a0 = 47
 rotate_left
 ·rw [if_neg c2] at H
  have eS : (a0 == 47) = false := Kz c2
  have kC : (a0 != 47) = true := Kaa c2
  obtain rfl := Kv H
  go_enter Tryz.func48, Tryz.ntmps48
  go_wp2
  go_ret
  exact ⟨Zf, Zh⟩
 rw [if_pos c2] at H
 have eS : (a0 == 47) = true := Kba c2
 have kC : (a0 != 47) = false := Ky c2
 clear c2
 obtain rfl := Kv H
 go_enter Tryz.func48, Tryz.ntmps48
 go_wp2
 go_ret
 exact ⟨Zf, Zh⟩
def Yia.l0 : Nat → Int → Y → Int → Option (Bool)
 | 0, _, _, _ => none
 | k + 1, x0, x1, x5 => if x5 < (x1.size : Int) then (if 0 ≤ x5 then (if (bt x1 x5) = x0 then (some true) else (Yia.l0 k x0 x1 (wrap64 (x5 + 1)))) else (none)) else (some false)
def Yia.f (k : Nat) (a0 : Int) (a1 : Y) : Option (Bool) := Yia.l0 k a0 a1 0
theorem Yia.calls (k : Nat) (a0 : Int) (a1 : Y) (r : Bool) (w : World) (hE : EnvOk w) (h : Yia.f k a0 a1 = some r) :
  Calls Tryz.prog 88 #[.int .u8 a0, .string a1] w fun e w' => e = .returned (.bool r) ∧ Drawn0 w w' := by
 have HE := Ya.mk hE
 clear hE
 have H : (Yia.l0 k a0 a1 0) = some r := h
 clear h
 have H' := Ya.mk H
 clear H
 go_enter Tryz.func88, Tryz.ntmps88
 go_wp2
 go_loopg [5] k (fun kq v5 w' => ∃ (bA : Int), v5 = .int .i64 bA ∧ Ya (Yia.l0 kq a0 a1 bA = some r) ∧ Ya (kq ≤ k) ∧ Drawn0 w w')
 case atStart => exact ⟨(0), Zf, H', ⟨Kw _⟩, Zh⟩
 case round =>
  clear H'
  try clear p2
  obtain ⟨bA, rfl, HA, dB, ⟨m1, rfl⟩⟩ := hrel
  cases gk with
  | zero => exact absurd HA.out (by simp [Yia.l0])
  | succ k1 =>
   have H := HA.out
   clear HA
   simp only [Yia.l0] at H
   by_cases c3 : bA < (a1.size : Int)
   rotate_left
   ·rw [if_neg c3] at H
    have cC : decide (bA < (a1.size : Int)) = false := Ks c3
    clear c3
    obtain rfl := Kv H
    go_wp2
    go_ret
    exact ⟨Zf, Zh⟩
   rw [if_pos c3] at H
   have cC : decide (bA < (a1.size : Int)) = true := Kr c3
   clear c3
   by_cases c4 : 0 ≤ bA
   rotate_left
   ·rw [if_neg c4] at H
    exact absurd H Zv
   rw [if_pos c4] at H
   have bX : decide (0 ≤ bA) = true := Kr c4
   clear c4
   by_cases c6 : (bt a1 bA) = a0
   ·rw [if_pos c6] at H
    have dN : ((bt a1 bA) == a0) = true := Kba c6
    have jB : ((bt a1 bA) != a0) = false := Ky c6
    clear c6
    obtain rfl := Kv H
    have p5 : (0 ≤ (bA : Int)) = True := Kp
    have q5 : bA < (a1.size : Int) := Kq Zc
    have dV := Ybb a1 bA
    replace q5 := Kt q5
    go_wp2
    go_ret
    exact ⟨Zf, Zh⟩
   rw [if_neg c6] at H
   have dN : ((bt a1 bA) == a0) = false := Kz c6
   have jB : ((bt a1 bA) != a0) = true := Kaa c6
   have H' := Ya.mk H
   clear H
   have p5 : (0 ≤ (bA : Int)) = True := Kp
   have q5 : bA < (a1.size : Int) := Kq Zc
   have dV := Ybb a1 bA
   replace q5 := Kt q5
   go_wp2
   go_roundg k1
   case measure => have := dB.out; omega
   case rel => exact ⟨(wrap64 (bA + 1)), Zf, H', ⟨Zba⟩, Zh⟩
def Yta.f (a0 : Int) : Option (Bool) := if a0 ≥ 97 then (if a0 ≤ 122 then (some true) else (if a0 ≥ 65 then (some (decide (a0 ≤ 90))) else (some false))) else (if a0 ≥ 65 then (some (decide (a0 ≤ 90))) else (some false))
theorem Yta.calls (a0 : Int) (r : Bool) (w : World) (hE : EnvOk w) (h : Yta.f a0 = some r) :
  Calls Tryz.prog 86 #[.int .u8 a0] w fun e w' => e = .returned (.bool r) ∧ Drawn0 w w' := by
 have HE := Ya.mk hE
 clear hE
 have H : (if a0 ≥ 97 then (if a0 ≤ 122 then (some true) else (if a0 ≥ 65 then (some (decide (a0 ≤ 90))) else (some false))) else (if a0 ≥ 65 then (some (decide (a0 ≤ 90))) else (some false))) = some r := h
 clear h
 by_cases c2 : a0 ≥ 97
 rotate_left
 ·rw [if_neg c2] at H
  have eS : decide (97 ≤ a0) = false := Ks c2
  clear c2
  by_cases c5 : a0 ≥ 65
  ·rw [if_pos c5] at H
   have dI : decide (65 ≤ a0) = true := Kr c5
   clear c5
   obtain rfl := Kv H
   go_enter Tryz.func86, Tryz.ntmps86
   go_wp2
   go_ret
   exact ⟨Zf, Zh⟩
  rw [if_neg c5] at H
  have dI : decide (65 ≤ a0) = false := Ks c5
  clear c5
  obtain rfl := Kv H
  go_enter Tryz.func86, Tryz.ntmps86
  go_wp2
  go_ret
  exact ⟨Zf, Zh⟩
 rw [if_pos c2] at H
 have eS : decide (97 ≤ a0) = true := Kr c2
 clear c2
 by_cases c3 : a0 ≤ 122
 ·rw [if_pos c3] at H
  have cC : decide (a0 ≤ 122) = true := Kr c3
  clear c3
  obtain rfl := Kv H
  go_enter Tryz.func86, Tryz.ntmps86
  go_wp2
  go_ret
  exact ⟨Zf, Zh⟩
 rw [if_neg c3] at H
 have cC : decide (a0 ≤ 122) = false := Ks c3
 clear c3
 by_cases c4 : a0 ≥ 65
 ·rw [if_pos c4] at H
  have bX : decide (65 ≤ a0) = true := Kr c4
  clear c4
  obtain rfl := Kv H
  go_enter Tryz.func86, Tryz.ntmps86
  go_wp2
  go_ret
  exact ⟨Zf, Zh⟩
 rw [if_neg c4] at H
 have bX : decide (65 ≤ a0) = false := Ks c4
 clear c4
 obtain rfl := Kv H
 go_enter Tryz.func86, Tryz.ntmps86
 go_wp2
 go_ret
 exact ⟨Zf, Zh⟩
def Yw.f (a0 : Int) : Option (Bool) := if a0 ≥ 48 then (some (decide (a0 ≤ 57))) else (some false)
theorem Yw.calls (a0 : Int) (r : Bool) (w : World) (hE : EnvOk w) (h : Yw.f a0 = some r) :
  Calls Tryz.prog 87 #[.int .u8 a0] w fun e w' => e = .returned (.bool r) ∧ Drawn0 w w' := by
 have HE := Ya.mk hE
 clear hE
 have H : (if a0 ≥ 48 then (some (decide (a0 ≤ 57))) else (some false)) = some r := h
 clear h
 by_cases c2 : a0 ≥ 48
 ·rw [if_pos c2] at H
  have eS : decide (48 ≤ a0) = true := Kr c2
  clear c2
  obtain rfl := Kv H
  go_enter Tryz.func87, Tryz.ntmps87
  go_wp2
  go_ret
  exact ⟨Zf, Zh⟩
 rw [if_neg c2] at H
 have eS : decide (48 ≤ a0) = false := Ks c2
 clear c2
 obtain rfl := Kv H
 go_enter Tryz.func87, Tryz.ntmps87
 go_wp2
 go_ret
 exact ⟨Zf, Zh⟩
def Yke.f (a0 : Int) : Option (Bool) := (Yta.f a0).bind fun aAR => (if aAR = true then (some true) else ((Yw.f a0).bind fun aAS => (if aAS = true then (some true) else (if a0 = 45 then (some true) else (if a0 = 46 then (some true) else (if a0 = 95 then (some true) else (some (a0 == 126))))))))
theorem Yke.calls (a0 : Int) (r : Bool) (w : World) (hE : EnvOk w) (h : Yke.f a0 = some r) :
  Calls Tryz.prog 119 #[.int .u8 a0] w fun e w' => e = .returned (.bool r) ∧ Drawn0 w w' := by
 have HE := Ya.mk hE
 clear hE
 have H : ((Yta.f a0).bind fun aAR => (if aAR = true then (some true) else ((Yw.f a0).bind fun aAS => (if aAS = true then (some true) else (if a0 = 45 then (some true) else (if a0 = 46 then (some true) else (if a0 = 95 then (some true) else (some (a0 == 126))))))))) = some r := h
 clear h
 obtain ⟨aAR, dW, H⟩ := Ku H
 try dsimp -simprocs only at H
 have A2 := Ya.mk dW
 clear dW
 by_cases c3 : aAR = true
 ·subst c3
  rw [if_pos rfl] at H
  obtain rfl := Kv H
  go_enter Tryz.func119, Tryz.ntmps119
  go_wp2_with (first | ((with_reducible refine Yh (f := 86) rfl ?_); refine Yca (some 4) rfl rfl Tryz.func86 Zi rfl #[.int .u8 a0] rfl Zb ?_; (with_reducible refine (Yta.calls a0 true _ ?z1 A2.out).mono ?_); (case z1 => exact Kj); rintro e w' ⟨rfl, ⟨nd, rfl⟩⟩; refine ⟨_, rfl, ?_⟩))
  go_ret
  exact ⟨Zf, Zh⟩
 replace c3 := Kx c3
 subst c3
 rw [if_neg (show ¬ (false = true) by decide)] at H
 obtain ⟨aAS, sY, H⟩ := Ku H
 try dsimp -simprocs only at H
 have A4 := Ya.mk sY
 clear sY
 by_cases c5 : aAS = true
 ·subst c5
  rw [if_pos rfl] at H
  obtain rfl := Kv H
  go_enter Tryz.func119, Tryz.ntmps119
  go_wp2_with (first | ((with_reducible refine Yh (f := 86) rfl ?_); refine Yca (some 4) rfl rfl Tryz.func86 Zi rfl #[.int .u8 a0] rfl Zb ?_; (with_reducible refine (Yta.calls a0 false _ ?z1 A2.out).mono ?_); (case z1 => exact Kj); rintro e w' ⟨rfl, ⟨nd, rfl⟩⟩; refine ⟨_, rfl, ?_⟩) | (go_at_call 87; (with_reducible refine (Yw.calls a0 true _ ?z1 A4.out).mono ?_); (case z1 => exact Kj); rintro e w' ⟨rfl, ⟨nd, rfl⟩⟩))
  go_ret
  exact ⟨Zf, Zh⟩
 replace c5 := Kx c5
 subst c5
 rw [if_neg (show ¬ (false = true) by decide)] at H
 by_cases c6 : a0 = 45
 ·rw [if_pos c6] at H
  have dN : (a0 == 45) = true := Kba c6
  have jB : (a0 != 45) = false := Ky c6
  clear c6
  obtain rfl := Kv H
  go_enter Tryz.func119, Tryz.ntmps119
  go_wp2_with (first | ((with_reducible refine Yh (f := 86) rfl ?_); refine Yca (some 4) rfl rfl Tryz.func86 Zi rfl #[.int .u8 a0] rfl Zb ?_; (with_reducible refine (Yta.calls a0 false _ ?z1 A2.out).mono ?_); (case z1 => exact Kj); rintro e w' ⟨rfl, ⟨nd, rfl⟩⟩; refine ⟨_, rfl, ?_⟩) | (go_at_call 87; (with_reducible refine (Yw.calls a0 false _ ?z1 A4.out).mono ?_); (case z1 => exact Kj); rintro e w' ⟨rfl, ⟨nd, rfl⟩⟩))
  go_ret
  exact ⟨Zf, Zh⟩
 rw [if_neg c6] at H
 have dN : (a0 == 45) = false := Kz c6
 have jB : (a0 != 45) = true := Kaa c6
 by_cases c7 : a0 = 46
 ·rw [if_pos c7] at H
  have cW : (a0 == 46) = true := Kba c7
  have iD : (a0 != 46) = false := Ky c7
  clear c7
  obtain rfl := Kv H
  go_enter Tryz.func119, Tryz.ntmps119
  go_wp2_with (first | ((with_reducible refine Yh (f := 86) rfl ?_); refine Yca (some 4) rfl rfl Tryz.func86 Zi rfl #[.int .u8 a0] rfl Zb ?_; (with_reducible refine (Yta.calls a0 false _ ?z1 A2.out).mono ?_); (case z1 => exact Kj); rintro e w' ⟨rfl, ⟨nd, rfl⟩⟩; refine ⟨_, rfl, ?_⟩) | (go_at_call 87; (with_reducible refine (Yw.calls a0 false _ ?z1 A4.out).mono ?_); (case z1 => exact Kj); rintro e w' ⟨rfl, ⟨nd, rfl⟩⟩))
  go_ret
  exact ⟨Zf, Zh⟩
 rw [if_neg c7] at H
 have cW : (a0 == 46) = false := Kz c7
 have iD : (a0 != 46) = true := Kaa c7
 by_cases c8 : a0 = 95
 rotate_left
 ·rw [if_neg c8] at H
  have gS : (a0 == 95) = false := Kz c8
  have jA : (a0 != 95) = true := Kaa c8
  obtain rfl := Kv H
  go_enter Tryz.func119, Tryz.ntmps119
  go_wp2_with (first | ((with_reducible refine Yh (f := 86) rfl ?_); refine Yca (some 4) rfl rfl Tryz.func86 Zi rfl #[.int .u8 a0] rfl Zb ?_; (with_reducible refine (Yta.calls a0 false _ ?z1 A2.out).mono ?_); (case z1 => exact Kj); rintro e w' ⟨rfl, ⟨nd, rfl⟩⟩; refine ⟨_, rfl, ?_⟩) | (go_at_call 87; (with_reducible refine (Yw.calls a0 false _ ?z1 A4.out).mono ?_); (case z1 => exact Kj); rintro e w' ⟨rfl, ⟨nd, rfl⟩⟩))
  go_ret
  exact ⟨Zf, Zh⟩
 rw [if_pos c8] at H
 have gS : (a0 == 95) = true := Kba c8
 have jA : (a0 != 95) = false := Ky c8
 clear c8
 obtain rfl := Kv H
 go_enter Tryz.func119, Tryz.ntmps119
 go_wp2_with (first | ((with_reducible refine Yh (f := 86) rfl ?_); refine Yca (some 4) rfl rfl Tryz.func86 Zi rfl #[.int .u8 a0] rfl Zb ?_; (with_reducible refine (Yta.calls a0 false _ ?z1 A2.out).mono ?_); (case z1 => exact Kj); rintro e w' ⟨rfl, ⟨nd, rfl⟩⟩; refine ⟨_, rfl, ?_⟩) | (go_at_call 87; (with_reducible refine (Yw.calls a0 false _ ?z1 A4.out).mono ?_); (case z1 => exact Kj); rintro e w' ⟨rfl, ⟨nd, rfl⟩⟩))
 go_ret
 exact ⟨Zf, Zh⟩
mutual
def Yv.l0 : Nat → Y → Y → Y → Int → Option (Y)
 | 0, _, _, _, _ => none
 | k + 1, x0, x1, x5, x6 => if x6 < (x0.size : Int) then (if 0 ≤ x6 then ((Yke.f (bt x0 x6)).bind fun zQ => (Yv.l1 k x0 x1 x5 x6 zQ 0)) else (none)) else (some x5)
def Yv.l1 : Nat → Y → Y → Y → Int → Bool → Int → Option (Y)
 | 0, _, _, _, _, _, _ => none
 | k + 1, x0, x1, x5, x6, x7, x8 => if x8 < (x1.size : Int) then (if x7 = true then (Yv.l1 k x0 x1 x5 x6 true (wrap64 (x8 + 1))) else (if 0 ≤ x8 then (if 0 ≤ x6 then (if x6 < (x0.size : Int) then (Yv.l1 k x0 x1 x5 x6 ((bt x1 x8) == (bt x0 x6)) (wrap64 (x8 + 1))) else (none)) else (none)) else (none))) else (if x7 = true then (if 0 ≤ x6 then (if x6 ≤ (wrap64 (x6 + 1)) then (if (wrap64 (x6 + 1)) ≤ (x0.size : Int) then (if x5.size + (x0.extract (x6 : Int).toNat ((wrap64 (x6 + 1)) : Int).toNat).size ≤ 9223372036854775807 then (Yv.l0 k x0 x1 (x5 ++ (x0.extract (x6 : Int).toNat ((wrap64 (x6 + 1)) : Int).toNat)) (wrap64 (x6 + 1))) else (none)) else (none)) else (none)) else (none)) else (if 0 ≤ x6 then (if x6 < (x0.size : Int) then ((Yfd.f (bt x0 x6)).bind fun pA => (if x5.size + pA.size ≤ 9223372036854775807 then (Yv.l0 k x0 x1 (x5 ++ pA) (wrap64 (x6 + 1))) else (none))) else (none)) else (none)))
end
def Yv.f (k : Nat) (a0 a1 : Y) : Option (Y) := Yv.l0 k a0 a1 (⟨#[]⟩ : Y) 0
theorem Yv.calls (k : Nat) (a0 a1 r : Y) (w : World) (hE : EnvOk w) (h : Yv.f k a0 a1 = some r) :
  Calls Tryz.prog 90 #[.string a0, .string a1] w fun e w' => e = .returned (.string r) ∧ Below w.heap.size w w' := by
 have HE := Ya.mk hE
 clear hE
 have HB := Ya.mk (Below.refl w.heap.size w)
 have H : (Yv.l0 k a0 a1 (⟨#[]⟩ : Y) 0) = some r := h
 clear h
 have H' := Ya.mk H
 clear H
 go_enter Tryz.func90, Tryz.ntmps90
 go_wp2
 repeat (go_quiet (fail); try go_wp2)
 go_loopg [5, 6] k (fun kq v5 v6 w' => ∃ (bA : Y) (aC : Int), v5 = .string bA ∧ v6 = .int .i64 aC ∧ Ya (Yv.l0 kq a0 a1 bA aC = some r) ∧ Ya (kq ≤ k) ∧ Ya (Below w.heap.size w w'))
 case atStart => exact ⟨((⟨#[]⟩ : Y)), (0), Zf, Zf, H', ⟨Kw _⟩, ⟨Za⟩⟩
 case round =>
  clear H'
  try clear p2
  obtain ⟨bA, aC, rfl, rfl, HA, dB, HB⟩ := hrel
  cases gk with
  | zero => exact absurd HA.out (by simp [Yv.l0])
  | succ k1 =>
   have H := HA.out
   clear HA
   simp only [Yv.l0] at H
   by_cases c3 : aC < (a0.size : Int)
   rotate_left
   ·rw [if_neg c3] at H
    have cC : decide (aC < (a0.size : Int)) = false := Ks c3
    clear c3
    obtain rfl := Kv H
    go_wp2
    repeat (go_quiet (fail); try go_wp2)
    go_ret
    exact ⟨Zl, Za⟩
   rw [if_pos c3] at H
   have cC : decide (aC < (a0.size : Int)) = true := Kr c3
   clear c3
   by_cases c4 : 0 ≤ aC
   rotate_left
   ·rw [if_neg c4] at H
    exact absurd H Zv
   rw [if_pos c4] at H
   have bX : decide (0 ≤ aC) = true := Kr c4
   clear c4
   obtain ⟨zQ, pQ, H⟩ := Ku H
   try dsimp -simprocs only at H
   have A6 := Ya.mk pQ
   clear pQ
   have H' := Ya.mk H
   clear H
   have p5 : (0 ≤ (aC : Int)) = True := Kp
   have q5 : aC < (a0.size : Int) := Kq Zc
   have dV := Ybb a0 aC
   replace q5 := Kt q5
   go_wp2_with (first | (go_at_call 119; (with_reducible refine (Yke.calls (bt a0 aC) zQ _ ?z1 A6.out).mono ?_); (case z1 => exact Kh); rintro e w' ⟨rfl, ⟨nd, rfl⟩⟩; (try first | exact ⟨rfl, _, World.drewN_drewN _ _ _⟩ | exact ⟨rfl, _, Eq.trans (World.drewN_drewN _ _ _) (congrArg (World.drewN _) (Nat.add_assoc _ _ _))⟩)))
   repeat (go_quiet (first | (go_at_call 119; (with_reducible refine (Yke.calls (bt a0 aC) zQ _ ?z1 A6.out).mono ?_); (case z1 => exact Kh); rintro e w' ⟨rfl, ⟨nd, rfl⟩⟩; (try first | exact ⟨rfl, _, World.drewN_drewN _ _ _⟩ | exact ⟨rfl, _, Eq.trans (World.drewN_drewN _ _ _) (congrArg (World.drewN _) (Nat.add_assoc _ _ _))⟩))); try go_wp2_with (first | (go_at_call 119; (with_reducible refine (Yke.calls (bt a0 aC) zQ _ ?z1 A6.out).mono ?_); (case z1 => exact Kh); rintro e w' ⟨rfl, ⟨nd, rfl⟩⟩; (try first | exact ⟨rfl, _, World.drewN_drewN _ _ _⟩ | exact ⟨rfl, _, Eq.trans (World.drewN_drewN _ _ _) (congrArg (World.drewN _) (Nat.add_assoc _ _ _))⟩))))
   go_loopg [7, 8] k1 (fun kq v7 v8 w' => ∃ (iP : Bool) (cS : Int), v7 = .bool iP ∧ v8 = .int .i64 cS ∧ Ya (Yv.l1 kq a0 a1 bA aC iP cS = some r) ∧ Ya (kq ≤ k1) ∧ Ya (Below w.heap.size w w'))
   case atStart => exact ⟨(zQ), (0), Zf, Zf, H', ⟨Kw _⟩, ⟨Za⟩⟩
   case round =>
    clear H'
    try clear p2
    try clear c3
    try clear cC
    try clear c4
    try clear bX
    try clear p5
    try clear q5
    try clear dV
    try clear p2
    try clear p5
    try clear q5
    obtain ⟨iP, cS, rfl, rfl, HA, jX, HB⟩ := hrel
    cases gk with
    | zero => exact absurd HA.out (by simp [Yv.l1])
    | succ k2 =>
     have H := HA.out
     clear HA
     simp only [Yv.l1] at H
     by_cases c7 : cS < (a1.size : Int)
     ·rw [if_pos c7] at H
      have cW : decide (cS < (a1.size : Int)) = true := Kr c7
      clear c7
      by_cases c8 : iP = true
      ·subst c8
       rw [if_pos rfl] at H
       have H' := Ya.mk H
       clear H
       go_wp2
       repeat (go_quiet (fail); try go_wp2)
       go_roundg k2
       case measure => have := dB.out; have := jX.out; omega
       case rel => exact ⟨(true), (wrap64 (cS + 1)), Zf, Zf, H', ⟨Zdb⟩, ⟨Za⟩⟩
      replace c8 := Kx c8
      subst c8
      rw [if_neg (show ¬ (false = true) by decide)] at H
      by_cases c9 : 0 ≤ cS
      rotate_left
      ·rw [if_neg c9] at H
       exact absurd H Zv
      rw [if_pos c9] at H
      have iC : decide (0 ≤ cS) = true := Kr c9
      clear c9
      by_cases c11 : 0 ≤ aC
      rotate_left
      ·rw [if_neg c11] at H
       exact absurd H Zv
      rw [if_pos c11] at H
      have gT : decide (0 ≤ aC) = true := Kr c11
      clear c11
      by_cases dD : aC < (a0.size : Int)
      rotate_left
      ·rw [if_neg dD] at H
       exact absurd H Zv
      rw [if_pos dD] at H
      have dS : decide (aC < (a0.size : Int)) = true := Kr dD
      clear dD
      have H' := Ya.mk H
      clear H
      have wC : (0 ≤ (cS : Int)) = True := Kp
      have wD : cS < (a1.size : Int) := Kq Zc
      have aDp := Ybb a1 cS
      replace wD := Kt wD
      have mL : (0 ≤ (aC : Int)) = True := Kp
      have mM : aC < (a0.size : Int) := Kq Zc
      have sZ := Ybb a0 aC
      replace mM := Kt mM
      go_wp2
      repeat (go_quiet (fail); try go_wp2)
      go_roundg k2
      case measure => have := dB.out; have := jX.out; omega
      case rel => exact ⟨(((bt a1 cS) == (bt a0 aC))), (wrap64 (cS + 1)), Zf, Zf, H', ⟨Zdb⟩, ⟨Za⟩⟩
     rw [if_neg c7] at H
     have cW : decide (cS < (a1.size : Int)) = false := Ks c7
     clear c7
     by_cases gQ : iP = true
     ·subst gQ
      rw [if_pos rfl] at H
      by_cases dG : 0 ≤ aC
      rotate_left
      ·rw [if_neg dG] at H
       exact absurd H Zv
      rw [if_pos dG] at H
      have eT := Kt dG
      have pR : decide (0 ≤ aC) = true := Kr dG
      clear dG
      by_cases eO : aC ≤ (wrap64 (aC + 1))
      rotate_left
      ·rw [if_neg eO] at H
       exact absurd H Zv
      rw [if_pos eO] at H
      have hF := Kt eO
      have kF : decide (aC ≤ (wrap64 (aC + 1))) = true := Kr eO
      by_cases eG : (wrap64 (aC + 1)) ≤ (a0.size : Int)
      rotate_left
      ·rw [if_neg eG] at H
       exact absurd H Zv
      rw [if_pos eG] at H
      have jO := Kt eG
      have lN : decide ((wrap64 (aC + 1)) ≤ (a0.size : Int)) = true := Kr eG
      by_cases eP : bA.size + (a0.extract (aC : Int).toNat ((wrap64 (aC + 1)) : Int).toNat).size ≤ 9223372036854775807
      rotate_left
      ·rw [if_neg eP] at H
       exact absurd H Zv
      rw [if_pos eP] at H
      have oB := Kt eP
      have pS : decide (bA.size + (a0.extract (aC : Int).toNat ((wrap64 (aC + 1)) : Int).toNat).size ≤ 9223372036854775807) = true := Kr eP
      try have aEJ : (9223372036854775807 < bA.size + (a0.extract (aC : Int).toNat ((wrap64 (aC + 1)) : Int).toNat).size) = False := eq_false (Nat.not_lt.2 eP)
      try have aWR : (9223372036854775807 < bA.size + (((wrap64 (aC + 1)) : Int).toNat - (aC : Int).toNat)) = False := eq_false (by have h9_ := eP; rw [ByteArray.size_extract] at h9_; omega)
      have H' := Ya.mk H
      clear H
      go_wp2
      repeat (go_quiet (fail); try go_wp2)
      go_roundg k2
      case measure => have := dB.out; have := jX.out; omega
      case rel => exact ⟨(bA ++ (a0.extract (aC : Int).toNat ((wrap64 (aC + 1)) : Int).toNat)), (wrap64 (aC + 1)), Zf, Zf, H', ⟨Zdb⟩, ⟨Za⟩⟩
     replace gQ := Kx gQ
     subst gQ
     rw [if_neg (show ¬ (false = true) by decide)] at H
     by_cases iK : 0 ≤ aC
     rotate_left
     ·rw [if_neg iK] at H
      exact absurd H Zv
     rw [if_pos iK] at H
     have kD : decide (0 ≤ aC) = true := Kr iK
     clear iK
     by_cases gX : aC < (a0.size : Int)
     rotate_left
     ·rw [if_neg gX] at H
      exact absurd H Zv
     rw [if_pos gX] at H
     have kE : decide (aC < (a0.size : Int)) = true := Kr gX
     clear gX
     obtain ⟨pA, aAF, H⟩ := Ku H
     try dsimp -simprocs only at H
     have A22 := Ya.mk aAF
     clear aAF
     by_cases jK : bA.size + pA.size ≤ 9223372036854775807
     rotate_left
     ·rw [if_neg jK] at H
      exact absurd H Zv
     rw [if_pos jK] at H
     have oC := Kt jK
     have oD : decide (bA.size + pA.size ≤ 9223372036854775807) = true := Kr jK
     try have aHQ : (9223372036854775807 < bA.size + pA.size) = False := eq_false (Nat.not_lt.2 jK)
     have H' := Ya.mk H
     clear H
     have p21 : (0 ≤ (aC : Int)) = True := Kp
     have q21 : aC < (a0.size : Int) := Kq Zc
     have aDq := Ybb a0 aC
     replace q21 := Kt q21
     go_wp2_with (first | (go_at_call 120; (with_reducible refine (Yfd.calls (bt a0 aC) pA _ ?z1 A22.out).mono ?_); (case z1 => exact Kh); rintro e w24 ⟨rfl, hb⟩; replace HB := Ya.mk (Yt Za hb); (try clear hb)))
     repeat (go_quiet (first | (go_at_call 120; (with_reducible refine (Yfd.calls (bt a0 aC) pA _ ?z1 A22.out).mono ?_); (case z1 => exact Kh); rintro e w24 ⟨rfl, hb⟩; replace HB := Ya.mk (Yt Za hb); (try clear hb))); try go_wp2_with (first | (go_at_call 120; (with_reducible refine (Yfd.calls (bt a0 aC) pA _ ?z1 A22.out).mono ?_); (case z1 => exact Kh); rintro e w24 ⟨rfl, hb⟩; replace HB := Ya.mk (Yt Za hb); (try clear hb))))
     go_roundg k2
     case measure => have := dB.out; have := jX.out; omega
     case rel => exact ⟨(bA ++ pA), (wrap64 (aC + 1)), Zf, Zf, H', ⟨Zdb⟩, ⟨Za⟩⟩
end Go.Proofs.YtnmglnglbdpjjaaGreatDoor.X
