/- Printed by a program of ours: functions as plain Lean, and what a call of each does. -/
import Derived.Test.YtnmglnglbdpjjaaGreatDoorUlWords
import Derived.Test.YtnmglnglbdpjjaaGreatDoorUlX0
import Derived.Test.YtnmglnglbdpjjaaGreatDoorUlX5
import Derived.Test.YtnmglnglbdpjjaaGreatDoorUlX6
namespace Go.Proofs.YtnmglnglbdpjjaaGreatDoor.X
open Go.RowKit Go.Yw.PrintWords Go.Yw.PrintLast Go.Yw.PrintMore
attribute [local go_sem] Yxd Yae Yoe Yqe Yld Yjd Yyd Yzd
set_option linter.unusedVariables false
set_option linter.unusedSimpArgs false
set_option maxHeartbeats 8000000
set_option maxRecDepth 100000
def Yeb.l0 : Nat → ByteArray → Int → Option (Int)
 | 0, _, _ => none
 | k + 1, x0, x3 => if (x0.size : Int) > 0 then (if 0 < (x0.size : Int) then (if (bt x0 0) = 46 then (if 1 ≤ (x0.size : Int) then (Yeb.l0 k (x0.extract 1 x0.size) (wrap64 (x3 + 1))) else (none)) else (if (x0.size : Int) > 2 then (if 0 ≤ 3 then (if 3 ≤ (x0.size : Int) then ((Yba.f k (x0.extract 0 3)).bind fun kZ => (if kZ.toList = ([37, 50, 101] : List UInt8) then (Yeb.l0 k (x0.extract 3 x0.size) (wrap64 (x3 + 1))) else (some 0))) else (none)) else (none)) else (some 0))) else (none)) else (if x3 > 2 then (some 0) else (some x3))
def Yeb.f (k : Nat) (a0 : ByteArray) : Option (Int) := Yeb.l0 k a0 0
theorem Yeb.calls (k : Nat) (a0 : ByteArray) (r : Int) (w : World) (hE : EnvOk w) (h : Yeb.f k a0 = some r) :
  Calls Tryz.prog 65 #[.string a0] w fun e w' => e = .returned (.int .i64 r) ∧ Below w.heap.size w w' := by
 have HE := Ya.mk hE
 clear hE
 have HB := Ya.mk (Below.refl w.heap.size w)
 have H : (Yeb.l0 k a0 0) = some r := h
 clear h
 have H' := Ya.mk H
 clear H
 go_enter Tryz.func65, Tryz.ntmps65
 go_wp2
 go_loopg [0, 3] k (fun kq v0 v3 w' => ∃ (aX : ByteArray) (aD : Int), v0 = .string aX ∧ v3 = .int .i64 aD ∧ Ya (Yeb.l0 kq aX aD = some r) ∧ Ya (kq ≤ k) ∧ Ya (Below w.heap.size w w'))
 case atStart => exact ⟨(a0), (0), Zf, Zf, H', ⟨Nat.le_refl _⟩, ⟨Za⟩⟩
 case round =>
  clear H'
  obtain ⟨aX, aD, rfl, rfl, HA, cU, HB⟩ := hrel
  cases gk with
  | zero => exact absurd HA.out (by simp [Yeb.l0])
  | succ k1 =>
   have H := HA.out
   clear HA
   simp only [Yeb.l0] at H
   by_cases c2 : (aX.size : Int) > 0
   rotate_left
   ·rw [if_neg c2] at H
    have eR : decide (0 < (aX.size : Int)) = false := decide_eq_false c2
    have jY : decide (0 < aX.size) = false := decide_eq_false Zk
    clear c2
    by_cases dG : aD > 2
    ·rw [if_pos dG] at H
     have eS : decide (2 < aD) = true := decide_eq_true dG
     clear dG
     obtain rfl := Option.some.inj H
     go_wp2
     go_ret
     exact ⟨Zl, Za⟩
    rw [if_neg dG] at H
    have eS : decide (2 < aD) = false := decide_eq_false dG
    clear dG
    obtain rfl := Option.some.inj H
    go_wp2
    go_ret
    exact ⟨Zl, Za⟩
   rw [if_pos c2] at H
   have eR : decide (0 < (aX.size : Int)) = true := decide_eq_true c2
   have jY : decide (0 < aX.size) = true := decide_eq_true Zk
   clear c2
   by_cases c3 : 0 < (aX.size : Int)
   rotate_left
   ·rw [if_neg c3] at H
    exact absurd H Zv
   rw [if_pos c3] at H
   have cB : decide (0 < (aX.size : Int)) = true := decide_eq_true c3
   have fV : decide (0 < aX.size) = true := decide_eq_true Zk
   clear c3
   by_cases c5 : (bt aX 0) = 46
   ·rw [if_pos c5] at H
    have dI : ((bt aX 0) == 46) = true := beq_iff_eq.mpr c5
    have qK : ((bt aX 0) != 46) = false := bne_eq_false_iff_eq.mpr c5
    clear c5
    by_cases c6 : 1 ≤ (aX.size : Int)
    rotate_left
    ·rw [if_neg c6] at H
     exact absurd H Zv
    rw [if_pos c6] at H
    have dN := eq_true c6
    have iX : decide (1 ≤ (aX.size : Int)) = true := decide_eq_true c6
    clear c6
    have H' := Ya.mk H
    clear H
    have p4 : 0 ≤ (0 : Int) := Zk
    have q4 : 0 < aX.size := (by have : (0 : Int) < (aX.size : Int) := of_decide_eq_true Zc; omega)
    have jB : ∀ h : 0 < aX.size, ((aX[0]'h).toNat : Int) = bt aX 0 := Yza aX 0
    clear p4
    have tR : (0 < (aX.size : Int)) = True := eq_true (of_decide_eq_true Zc)
    replace q4 := eq_true q4
    go_wp2
    go_roundg k1
    case measure => have := cU.out; omega
    case rel => exact ⟨(aX.extract 1 aX.size), (wrap64 (aD + 1)), Zf, Zf, H', ⟨Zaa⟩, ⟨Za⟩⟩
   rw [if_neg c5] at H
   have dI : ((bt aX 0) == 46) = false := beq_eq_false_iff_ne.mpr c5
   have qK : ((bt aX 0) != 46) = true := bne_iff_ne.mpr c5
   by_cases c7 : (aX.size : Int) > 2
   rotate_left
   ·rw [if_neg c7] at H
    have cQ : decide (2 < (aX.size : Int)) = false := decide_eq_false c7
    have iB : decide (2 < aX.size) = false := decide_eq_false Zk
    clear c7
    obtain rfl := Option.some.inj H
    have p4 : 0 ≤ (0 : Int) := Zk
    have q4 : 0 < aX.size := (by have : (0 : Int) < (aX.size : Int) := of_decide_eq_true Zc; omega)
    have jB : ∀ h : 0 < aX.size, ((aX[0]'h).toNat : Int) = bt aX 0 := Yza aX 0
    clear p4
    have tR : (0 < (aX.size : Int)) = True := eq_true (of_decide_eq_true Zc)
    replace q4 := eq_true q4
    go_wp2
    go_ret
    exact ⟨Zl, Za⟩
   rw [if_pos c7] at H
   have cQ : decide (2 < (aX.size : Int)) = true := decide_eq_true c7
   have iB : decide (2 < aX.size) = true := decide_eq_true Zk
   clear c7
   by_cases c8 : 0 ≤ 3
   rotate_left
   ·rw [if_neg c8] at H
    exact absurd H Zv
   rw [if_pos c8] at H
   have gQ := eq_true c8
   have iW : decide (0 ≤ 3) = true := decide_eq_true c8
   clear c8
   by_cases c9 : 3 ≤ (aX.size : Int)
   rotate_left
   ·rw [if_neg c9] at H
    exact absurd H Zv
   rw [if_pos c9] at H
   have iA := eq_true c9
   have lN : decide (3 ≤ (aX.size : Int)) = true := decide_eq_true c9
   clear c9
   replace H := Option.bind_eq_some_iff.mp H
   obtain ⟨kZ, aBr, H⟩ := H
   try dsimp -simprocs only at H
   have A10 := Ya.mk aBr
   clear aBr
   by_cases c11 : kZ.toList = ([37, 50, 101] : List UInt8)
   rotate_left
   ·rw [if_neg c11] at H
    have gR : (kZ.toList == ([37, 50, 101] : List UInt8)) = false := beq_eq_false_iff_ne.mpr c11
    have pQ : (kZ.toList != ([37, 50, 101] : List UInt8)) = true := bne_iff_ne.mpr c11
    obtain rfl := Option.some.inj H
    have p4 : 0 ≤ (0 : Int) := Zk
    have q4 : 0 < aX.size := (by have : (0 : Int) < (aX.size : Int) := of_decide_eq_true Zc; omega)
    have jB : ∀ h : 0 < aX.size, ((aX[0]'h).toNat : Int) = bt aX 0 := Yza aX 0
    clear p4
    have tR : (0 < (aX.size : Int)) = True := eq_true (of_decide_eq_true Zc)
    replace q4 := eq_true q4
    go_wp2_with (first | (go_at_call 47; (with_reducible refine (Yba.calls k1 (aX.extract 0 3) kZ _ ?side1 A10.out).mono ?_); (case side1 => first | exact HE.out | exact EnvOk.below HE.out Za); rintro e w14 ⟨rfl, hb⟩; have aH := Ya.mk (Yt Za hb); clear HB; have HB := aH; clear aH; (try clear hb); (try clear bU); (try clear hk); (try clear hi)))
    go_ret
    exact ⟨Zl, Za⟩
   rw [if_pos c11] at H
   have gR : (kZ.toList == ([37, 50, 101] : List UInt8)) = true := beq_iff_eq.mpr c11
   have pQ : (kZ.toList != ([37, 50, 101] : List UInt8)) = false := bne_eq_false_iff_eq.mpr c11
   clear c11
   have dS := eq_true (of_decide_eq_true Zc : 3 ≤ (aX.size : Int))
   have H' := Ya.mk H
   clear H
   have p4 : 0 ≤ (0 : Int) := Zk
   have q4 : 0 < aX.size := (by have : (0 : Int) < (aX.size : Int) := of_decide_eq_true Zc; omega)
   have jB : ∀ h : 0 < aX.size, ((aX[0]'h).toNat : Int) = bt aX 0 := Yza aX 0
   clear p4
   have tR : (0 < (aX.size : Int)) = True := eq_true (of_decide_eq_true Zc)
   replace q4 := eq_true q4
   go_wp2_with (first | (go_at_call 47; (with_reducible refine (Yba.calls k1 (aX.extract 0 3) kZ _ ?side1 A10.out).mono ?_); (case side1 => first | exact HE.out | exact EnvOk.below HE.out Za); rintro e nB ⟨rfl, hb⟩; have aH := Ya.mk (Yt Za hb); clear HB; have HB := aH; clear aH; (try clear hb); (try clear bU); (try clear hk); (try clear hi)))
   go_roundg k1
   case measure => have := cU.out; omega
   case rel => exact ⟨(aX.extract 3 aX.size), (wrap64 (aD + 1)), Zf, Zf, H', ⟨Zaa⟩, ⟨Za⟩⟩
def Yjb.l0 : Nat → ByteArray → List ByteArray → ByteArray → Int → Option (ByteArray)
 | 0, _, _, _, _ => none
 | k + 1, x0, x1, x5, x6 => if x6 < (x1.length : Int) then (if x6 > 0 then (if x5.size + x0.size ≤ 9223372036854775807 then (if 0 ≤ x6 then (if (x5 ++ x0).size + (rdOf ByteArray.empty x1 x6).size ≤ 9223372036854775807 then (Yjb.l0 k x0 x1 ((x5 ++ x0) ++ (rdOf ByteArray.empty x1 x6)) (wrap64 (x6 + 1))) else (none)) else (none)) else (none)) else (if 0 ≤ x6 then (if x5.size + (rdOf ByteArray.empty x1 x6).size ≤ 9223372036854775807 then (Yjb.l0 k x0 x1 (x5 ++ (rdOf ByteArray.empty x1 x6)) (wrap64 (x6 + 1))) else (none)) else (none))) else (some x5)
def Yjb.f (k : Nat) (a0 : ByteArray) (l1 : List ByteArray) : Option (ByteArray) := Yjb.l0 k a0 l1 (⟨#[]⟩ : ByteArray) 0
theorem Yjb.calls (k : Nat) (a0 : ByteArray) (A1 : Option Addr) (c1 : Nat) (l1 : List ByteArray) (r : ByteArray) (w : World) (hE : EnvOk w) (hr1 : Kd.C Kd.string w A1 l1.length l1) (cR : l1.length ≤ c1) (h : Yjb.f k a0 l1 = some r) :
  Calls Tryz.prog 66 #[.string a0, .slice A1 l1.length c1] w fun e w' => e = .returned (.string r) ∧ Drawn0 w w' := by
 have HR1 := Ya.mk hr1
 have HC1 := Ya.mk cR
 clear hr1 cR
 have HE := Ya.mk hE
 clear hE
 have H : (Yjb.l0 k a0 l1 (⟨#[]⟩ : ByteArray) 0) = some r := h
 clear h
 have H' := Ya.mk H
 clear H
 go_enter Tryz.func66, Tryz.ntmps66
 go_wp2
 go_loopg [5, 6] k (fun kq v5 v6 w' => ∃ (bA : ByteArray) (aC : Int), v5 = .string bA ∧ v6 = .int .i64 aC ∧ Ya (Yjb.l0 kq a0 l1 bA aC = some r) ∧ Ya (kq ≤ k) ∧ Drawn0 w w')
 case atStart => exact ⟨((⟨#[]⟩ : ByteArray)), (0), Zf, Zf, H', ⟨Nat.le_refl _⟩, Zh⟩
 case round =>
  clear H'
  try clear c1
  try clear p2
  obtain ⟨bA, aC, rfl, rfl, HA, cU, ⟨m1, rfl⟩⟩ := hrel
  cases gk with
  | zero => exact absurd HA.out (by simp [Yjb.l0])
  | succ k1 =>
   have H := HA.out
   clear HA
   simp only [Yjb.l0] at H
   by_cases c3 : aC < (l1.length : Int)
   rotate_left
   ·rw [if_neg c3] at H
    have cB : decide (aC < (l1.length : Int)) = false := decide_eq_false c3
    clear c3
    obtain rfl := Option.some.inj H
    go_wp2
    go_ret
    exact ⟨Zf, Zh⟩
   rw [if_pos c3] at H
   have cB : decide (aC < (l1.length : Int)) = true := decide_eq_true c3
   clear c3
   by_cases c4 : aC > 0
   rotate_left
   ·rw [if_neg c4] at H
    have bX : decide (0 < aC) = false := decide_eq_false c4
    clear c4
    by_cases c8 : 0 ≤ aC
    rotate_left
    ·rw [if_neg c8] at H
     exact absurd H Zv
    rw [if_pos c8] at H
    have gQ : decide (0 ≤ aC) = true := decide_eq_true c8
    clear c8
    by_cases c9 : bA.size + (rdOf ByteArray.empty l1 aC).size ≤ 9223372036854775807
    rotate_left
    ·rw [if_neg c9] at H
     exact absurd H Zv
    rw [if_pos c9] at H
    have iA := eq_true c9
    have lN : decide (bA.size + (rdOf ByteArray.empty l1 aC).size ≤ 9223372036854775807) = true := decide_eq_true c9
    try have zH : (9223372036854775807 < bA.size + (rdOf ByteArray.empty l1 aC).size) = False := eq_false (Nat.not_lt.2 c9)
    have H' := Ya.mk H
    clear H
    have aFS : 0 ≤ (aC : Int) := of_decide_eq_true Zc
    have aFT : aC < (l1.length : Int) := of_decide_eq_true Zc
    obtain ⟨aWO, aVy, aSp⟩ := Kd.at_string HR1.out aC aFS aFT
    cases aVy
    replace aFS := eq_true aFS
    replace aFT := eq_true aFT
    go_wp2
    go_roundg k1
    case measure => have := cU.out; omega
    case rel => exact ⟨(bA ++ (rdOf ByteArray.empty l1 aC)), (wrap64 (aC + 1)), Zf, Zf, H', ⟨Zaa⟩, Zh⟩
   rw [if_pos c4] at H
   have bX : decide (0 < aC) = true := decide_eq_true c4
   clear c4
   by_cases c5 : bA.size + a0.size ≤ 9223372036854775807
   rotate_left
   ·rw [if_neg c5] at H
    exact absurd H Zv
   rw [if_pos c5] at H
   have dI := eq_true c5
   have qK : decide (bA.size + a0.size ≤ 9223372036854775807) = true := decide_eq_true c5
   try have aUP : (9223372036854775807 < bA.size + a0.size) = False := eq_false (Nat.not_lt.2 c5)
   by_cases c6 : 0 ≤ aC
   rotate_left
   ·rw [if_neg c6] at H
    exact absurd H Zv
   rw [if_pos c6] at H
   have dN : decide (0 ≤ aC) = true := decide_eq_true c6
   clear c6
   by_cases c7 : (bA ++ a0).size + (rdOf ByteArray.empty l1 aC).size ≤ 9223372036854775807
   rotate_left
   ·rw [if_neg c7] at H
    exact absurd H Zv
   rw [if_pos c7] at H
   have cQ := eq_true c7
   have iB : decide ((bA ++ a0).size + (rdOf ByteArray.empty l1 aC).size ≤ 9223372036854775807) = true := decide_eq_true c7
   try have aXI : (9223372036854775807 < (bA ++ a0).size + (rdOf ByteArray.empty l1 aC).size) = False := eq_false (Nat.not_lt.2 c7)
   have H' := Ya.mk H
   clear H
   have aFU : 0 ≤ (aC : Int) := of_decide_eq_true Zc
   have aFV : aC < (l1.length : Int) := of_decide_eq_true Zc
   obtain ⟨aWP, aVz, aSq⟩ := Kd.at_string HR1.out aC aFU aFV
   cases aVz
   replace aFU := eq_true aFU
   replace aFV := eq_true aFV
   go_wp2
   go_roundg k1
   case measure => have := cU.out; omega
   case rel => exact ⟨((bA ++ a0) ++ (rdOf ByteArray.empty l1 aC)), (wrap64 (aC + 1)), Zf, Zf, H', ⟨Zaa⟩, Zh⟩
def Yqa.l0 : Nat → ByteArray → ByteArray → Int → Option (Int)
 | 0, _, _, _ => none
 | k + 1, x0, x1, x5 => if x5 < (x0.size : Int) then (if 0 ≤ x5 then ((Yha.f k (bt x0 x5) x1).bind fun vC => (if vC = true then (some x5) else (Yqa.l0 k x0 x1 (wrap64 (x5 + 1))))) else (none)) else (some x5)
def Yqa.f (k : Nat) (a0 a1 : ByteArray) : Option (Int) := Yqa.l0 k a0 a1 0
theorem Yqa.calls (k : Nat) (a0 a1 : ByteArray) (r : Int) (w : World) (hE : EnvOk w) (h : Yqa.f k a0 a1 = some r) :
  Calls Tryz.prog 49 #[.string a0, .string a1] w fun e w' => e = .returned (.int .i64 r) ∧ Drawn0 w w' := by
 have HE := Ya.mk hE
 clear hE
 have H : (Yqa.l0 k a0 a1 0) = some r := h
 clear h
 have H' := Ya.mk H
 clear H
 go_enter Tryz.func49, Tryz.ntmps49
 go_wp2
 go_loopg [5] k (fun kq v5 w' => ∃ (bA : Int), v5 = .int .i64 bA ∧ Ya (Yqa.l0 kq a0 a1 bA = some r) ∧ Ya (kq ≤ k) ∧ Drawn0 w w')
 case atStart => exact ⟨(0), Zf, H', ⟨Nat.le_refl _⟩, Zh⟩
 case round =>
  clear H'
  try clear p2
  obtain ⟨bA, rfl, HA, cU, ⟨m1, rfl⟩⟩ := hrel
  cases gk with
  | zero => exact absurd HA.out (by simp [Yqa.l0])
  | succ k1 =>
   have H := HA.out
   clear HA
   simp only [Yqa.l0] at H
   by_cases c3 : bA < (a0.size : Int)
   rotate_left
   ·rw [if_neg c3] at H
    have cB : decide (bA < (a0.size : Int)) = false := decide_eq_false c3
    clear c3
    obtain rfl := Option.some.inj H
    go_wp2
    go_ret
    exact ⟨Zf, Zh⟩
   rw [if_pos c3] at H
   have cB : decide (bA < (a0.size : Int)) = true := decide_eq_true c3
   clear c3
   by_cases c4 : 0 ≤ bA
   rotate_left
   ·rw [if_neg c4] at H
    exact absurd H Zv
   rw [if_pos c4] at H
   have bX : decide (0 ≤ bA) = true := decide_eq_true c4
   clear c4
   replace H := Option.bind_eq_some_iff.mp H
   obtain ⟨vC, pM, H⟩ := H
   try dsimp -simprocs only at H
   have A6 := Ya.mk pM
   clear pM
   by_cases c7 : vC = true
   ·subst c7
    rw [if_pos rfl] at H
    obtain rfl := Option.some.inj H
    have p5 : 0 ≤ (bA : Int) := of_decide_eq_true Zc
    have q5 : bA < (a0.size : Int) := of_decide_eq_true Zc
    have kB := Yza a0 bA
    replace p5 := eq_true p5
    replace q5 := eq_true q5
    go_wp2_with (first | (go_at_call 88; (with_reducible refine (Yha.calls k1 (bt a0 bA) a1 true _ ?side1 A6.out).mono ?_); (case side1 => first | exact HE.out | exact EnvOk.heap HE.out rfl); rintro e w' ⟨rfl, ⟨nd, rfl⟩⟩))
    go_ret
    exact ⟨Zf, Zh⟩
   replace c7 := Bool.eq_false_iff.mpr c7
   subst c7
   rw [if_neg (show ¬ (false = true) by decide)] at H
   have H' := Ya.mk H
   clear H
   have p5 : 0 ≤ (bA : Int) := of_decide_eq_true Zc
   have q5 : bA < (a0.size : Int) := of_decide_eq_true Zc
   have kB := Yza a0 bA
   replace p5 := eq_true p5
   replace q5 := eq_true q5
   go_wp2_with (first | (go_at_call 88; (with_reducible refine (Yha.calls k1 (bt a0 bA) a1 false _ ?side1 A6.out).mono ?_); (case side1 => first | exact HE.out | exact EnvOk.heap HE.out rfl); rintro e w' ⟨rfl, ⟨nd, rfl⟩⟩))
   go_roundg k1
   case measure => have := cU.out; omega
   case rel => exact ⟨(wrap64 (bA + 1)), Zf, H', ⟨Zaa⟩, Zh⟩
def Yma.j0 : Nat → Int → Bool → Option (Int)
 | 0, _, _ => none
 | k + 1, x0, x9 => if x9 = true then (some (((x0 - 97) % 256) + 10)) else (if x0 ≥ 65 then (if x0 ≤ 70 then (some (((x0 - 65) % 256) + 10)) else (some 16)) else (some 16))
def Yma.f (k : Nat) (a0 : Int) : Option (Int) := (Yw.f a0).bind fun aBz => (if aBz = true then (some ((a0 - 48) % 256)) else (if a0 ≥ 97 then (Yma.j0 k a0 (decide (a0 ≤ 102))) else (Yma.j0 k a0 false)))
theorem Yma.mono_l : ∀ k, (∀ y0 y1, LeO (Yma.j0 k y0 y1) (Yma.j0 (k + 1) y0 y1))
 | 0 => fun _ _ r h => by simp [Yma.j0] at h
 | k + 1 => by
  have sL := Yma.mono_l k
  ·intro y0 y1
   unfold Yma.j0
   repeat' first
   | (with_reducible exact sL _ _)
   | (with_reducible exact LeO.refl _)
   | (with_reducible exact LeO.none _)
   | (with_reducible refine LeO.ite ?_ ?_)
   | (with_reducible refine LeO.bind ?_ (fun _ => ?_))
   | exact sL _ _
   | exact LeO.none _
   | refine LeO.ite ?_ ?_
   | refine LeO.bind ?_ (fun _ => ?_)
theorem Yma.mono : ∀ a0 k, LeO (Yma.f k a0) (Yma.f (k + 1) a0) := by
 intro a0 k
 have sL := Yma.mono_l k
 unfold Yma.f
 repeat' first
   | (with_reducible exact sL _ _)
   | (with_reducible exact LeO.refl _)
   | (with_reducible exact LeO.none _)
   | (with_reducible refine LeO.ite ?_ ?_)
   | (with_reducible refine LeO.bind ?_ (fun _ => ?_))
   | exact sL _ _
   | exact LeO.none _
   | refine LeO.ite ?_ ?_
   | refine LeO.bind ?_ (fun _ => ?_)
theorem Yma.calls (k : Nat) (a0 r : Int) (w : World) (hE : EnvOk w) (h : Yma.f k a0 = some r) :
  Calls Tryz.prog 123 #[.int .u8 a0] w fun e w' => e = .returned (.int .u32 r) ∧ Drawn0 w w' := by
 have HE := Ya.mk hE
 clear hE
 have H : ((Yw.f a0).bind fun aBz => (if aBz = true then (some ((a0 - 48) % 256)) else (if a0 ≥ 97 then (Yma.j0 k a0 (decide (a0 ≤ 102))) else (Yma.j0 k a0 false)))) = some r := h
 clear h
 replace H := Option.bind_eq_some_iff.mp H
 obtain ⟨aBz, dV, H⟩ := H
 try dsimp -simprocs only at H
 have A2 := Ya.mk dV
 clear dV
 by_cases c3 : aBz = true
 ·subst c3
  rw [if_pos rfl] at H
  obtain rfl := Option.some.inj H
  go_enter Tryz.func123, Tryz.ntmps123
  go_wp2_with (first | ((with_reducible refine Yi (f := 87) rfl ?_); refine Yaa (some 5) rfl rfl Tryz.func87 Zi rfl #[.int .u8 a0] rfl Zb ?_; (with_reducible refine (Yw.calls a0 true _ ?side1 A2.out).mono ?_); (case side1 => first | exact HE.out | exact EnvOk.heap HE.out rfl); rintro e w' ⟨rfl, ⟨nd, rfl⟩⟩; refine ⟨_, rfl, ?_⟩))
  go_ret
  exact ⟨Zf, Zh⟩
 replace c3 := Bool.eq_false_iff.mpr c3
 subst c3
 rw [if_neg (show ¬ (false = true) by decide)] at H
 have HC4 := Ya.mk H
 clear H
 go_enter Tryz.func123, Tryz.ntmps123
 go_upto_region 3 with (first | ((with_reducible refine Yi (f := 87) rfl ?_); refine Yaa (some 5) rfl rfl Tryz.func87 Zi rfl #[.int .u8 a0] rfl Zb ?_; (with_reducible refine (Yw.calls a0 false _ ?side1 A2.out).mono ?_); (case side1 => first | exact HE.out | exact EnvOk.heap HE.out rfl); rintro e w' ⟨rfl, ⟨nd, rfl⟩⟩; refine ⟨_, rfl, ?_⟩))
 (try simp only [Act.put, List.setIfInBounds_toArray, List.set_cons_zero, List.set_cons_succ])
 go_cut [9] (fun v9 wc => ∃ (kq : Nat) (aDL : Bool), v9 = .bool aDL ∧ Ya (Yma.j0 kq a0 aDL = some r) ∧ Ya (kq ≤ k) ∧ Drawn0 w wc)
 case first =>
  have H := HC4.out
  clear HC4
  by_cases c5 : a0 ≥ 97
  rotate_left
  ·rw [if_neg c5] at H
   have dI : decide (97 ≤ a0) = false := decide_eq_false c5
   clear c5
   (first | rw [dI] | (simp only [Yca, Yga]; rw [dI]) | skip)
   have H' := Ya.mk H
   clear H
   go_wp2
   go_meet
   case rel => exact ⟨_, (false), Zf, H', ⟨Zla⟩, Zh⟩
  rw [if_pos c5] at H
  have dI : decide (97 ≤ a0) = true := decide_eq_true c5
  clear c5
  (first | rw [dI] | (simp only [Yca, Yga]; rw [dI]) | skip)
  have H' := Ya.mk H
  clear H
  go_wp2
  go_meet
  case rel => exact ⟨_, (decide (a0 ≤ 102)), Zf, H', ⟨Zla⟩, Zh⟩
 case rest =>
  clear HC4
  try clear c1
  try clear p2
  try clear c3
  try clear c5
  try clear dI
  obtain ⟨kq, aDL, rfl, HA, HJ3, ⟨mc3, rfl⟩⟩ := hcut
  cases kq with
  | zero => exact absurd HA.out (by simp [Yma.j0])
  | succ kj3 =>
   have H := HA.out
   clear HA
   simp only [Yma.j0] at H
   by_cases c6 : aDL = true
   ·subst c6
    rw [if_pos rfl] at H
    obtain rfl := Option.some.inj H
    go_wp2
    go_ret
    exact ⟨Zf, Zh⟩
   replace c6 := Bool.eq_false_iff.mpr c6
   subst c6
   rw [if_neg (show ¬ (false = true) by decide)] at H
   by_cases c7 : a0 ≥ 65
   rotate_left
   ·rw [if_neg c7] at H
    have cQ : decide (65 ≤ a0) = false := decide_eq_false c7
    clear c7
    obtain rfl := Option.some.inj H
    go_wp2
    go_ret
    exact ⟨Zf, Zh⟩
   rw [if_pos c7] at H
   have cQ : decide (65 ≤ a0) = true := decide_eq_true c7
   clear c7
   by_cases c8 : a0 ≤ 70
   ·rw [if_pos c8] at H
    have gQ : decide (a0 ≤ 70) = true := decide_eq_true c8
    clear c8
    obtain rfl := Option.some.inj H
    go_wp2
    go_ret
    exact ⟨Zf, Zh⟩
   rw [if_neg c8] at H
   have gQ : decide (a0 ≤ 70) = false := decide_eq_false c8
   clear c8
   obtain rfl := Option.some.inj H
   go_wp2
   go_ret
   exact ⟨Zf, Zh⟩
def Yda.f (k : Nat) (a0 : Int) : Option (Int) := (Yma.f k a0).bind fun aBA => (some aBA)
theorem Yda.mono : ∀ a0 k, LeO (Yda.f k a0) (Yda.f (k + 1) a0) := by
 intro a0 k
 unfold Yda.f
 repeat' first
   | (with_reducible exact Yma.mono _ _)
   | (with_reducible exact LeO.refl _)
   | (with_reducible exact LeO.none _)
   | (with_reducible refine LeO.ite ?_ ?_)
   | (with_reducible refine LeO.bind ?_ (fun _ => ?_))
   | exact Yma.mono _ _
   | exact LeO.none _
   | refine LeO.ite ?_ ?_
   | refine LeO.bind ?_ (fun _ => ?_)
theorem Yda.calls (k : Nat) (a0 r : Int) (w : World) (hE : EnvOk w) (h : Yda.f k a0 = some r) :
  Calls Tryz.prog 97 #[.int .u8 a0] w fun e w' => e = .returned (.int .u32 r) ∧ Drawn0 w w' := by
 have HE := Ya.mk hE
 clear hE
 have H : ((Yma.f k a0).bind fun aBA => (some aBA)) = some r := h
 clear h
 replace H := Option.bind_eq_some_iff.mp H
 obtain ⟨aBA, dV, H⟩ := H
 try dsimp -simprocs only at H
 have A2 := Ya.mk dV
 clear dV
 obtain rfl := Option.some.inj H
 go_enter Tryz.func97, Tryz.ntmps97
 go_wp2_with (first | ((with_reducible refine Yi (f := 123) rfl ?_); refine Yaa (some 4) rfl rfl Tryz.func123 Zi rfl #[.int .u8 a0] rfl Zb ?_; (with_reducible refine (Yma.calls k a0 aBA _ ?side1 A2.out).mono ?_); (case side1 => first | exact HE.out | exact EnvOk.heap HE.out rfl); rintro e w' ⟨rfl, ⟨nd, rfl⟩⟩; refine ⟨_, rfl, ?_⟩))
 go_ret
 exact ⟨Zf, Zh⟩
end Go.Proofs.YtnmglnglbdpjjaaGreatDoor.X
