/- Printed by a program of ours: functions as plain Lean, and what a call of each does. -/
import Derived.Test.YtnmglnglbdpjjaaGreatDoorUkWords
import Derived.Test.YtnmglnglbdpjjaaGreatDoorUkX0
import Derived.Test.YtnmglnglbdpjjaaGreatDoorUkX5
namespace Go.Proofs.YtnmglnglbdpjjaaGreatDoor.X
open Go.RowKit Go.Yw.PrintWords Go.Yw.PrintLast Go.Yw.PrintMore
attribute [local go_sem] Yde Yee Ywe Yve Ypd Yod Yce Ybe
set_option linter.unusedVariables false
set_option linter.unusedSimpArgs false
set_option maxHeartbeats 8000000
set_option maxRecDepth 100000
def Yt.l0 : Nat → ByteArray → ByteArray → ByteArray → Int → Option (ByteArray)
 | 0, _, _, _, _ => none
 | k + 1, x0, x1, x5, x6 => if x6 < (x0.size : Int) then (if 0 ≤ x6 then (if (bt x0 x6) ≤ 32 then (if x6 ≤ (wrap64 (x6 + 1)) then (if (wrap64 (x6 + 1)) ≤ (x0.size : Int) then ((Yx.f k (x0.extract (x6 : Int).toNat ((wrap64 (x6 + 1)) : Int).toNat) (⟨#[]⟩ : ByteArray)).bind fun eJ => (if x5.size + eJ.size ≤ 9223372036854775807 then (Yt.l0 k x0 x1 (x5 ++ eJ) (wrap64 (x6 + 1))) else (none))) else (none)) else (none)) else (if (bt x0 x6) > 126 then (if x6 ≤ (wrap64 (x6 + 1)) then (if (wrap64 (x6 + 1)) ≤ (x0.size : Int) then ((Yx.f k (x0.extract (x6 : Int).toNat ((wrap64 (x6 + 1)) : Int).toNat) (⟨#[]⟩ : ByteArray)).bind fun tY => (if x5.size + tY.size ≤ 9223372036854775807 then (Yt.l0 k x0 x1 (x5 ++ tY) (wrap64 (x6 + 1))) else (none))) else (none)) else (none)) else ((Yha.f k (bt x0 x6) (⟨#[34, 60, 62]⟩ : ByteArray)).bind fun wG => (if wG = true then (if x6 ≤ (wrap64 (x6 + 1)) then (if (wrap64 (x6 + 1)) ≤ (x0.size : Int) then ((Yx.f k (x0.extract (x6 : Int).toNat ((wrap64 (x6 + 1)) : Int).toNat) (⟨#[]⟩ : ByteArray)).bind fun tZ => (if x5.size + tZ.size ≤ 9223372036854775807 then (Yt.l0 k x0 x1 (x5 ++ tZ) (wrap64 (x6 + 1))) else (none))) else (none)) else (none)) else ((Yha.f k (bt x0 x6) x1).bind fun pA => (if pA = true then (if x6 ≤ (wrap64 (x6 + 1)) then (if (wrap64 (x6 + 1)) ≤ (x0.size : Int) then ((Yx.f k (x0.extract (x6 : Int).toNat ((wrap64 (x6 + 1)) : Int).toNat) (⟨#[]⟩ : ByteArray)).bind fun uA => (if x5.size + uA.size ≤ 9223372036854775807 then (Yt.l0 k x0 x1 (x5 ++ uA) (wrap64 (x6 + 1))) else (none))) else (none)) else (none)) else (if x6 ≤ (wrap64 (x6 + 1)) then (if (wrap64 (x6 + 1)) ≤ (x0.size : Int) then (if x5.size + (x0.extract (x6 : Int).toNat ((wrap64 (x6 + 1)) : Int).toNat).size ≤ 9223372036854775807 then (Yt.l0 k x0 x1 (x5 ++ (x0.extract (x6 : Int).toNat ((wrap64 (x6 + 1)) : Int).toNat)) (wrap64 (x6 + 1))) else (none)) else (none)) else (none)))))))) else (none)) else (some x5)
def Yt.f (k : Nat) (a0 a1 : ByteArray) : Option (ByteArray) := Yt.l0 k a0 a1 (⟨#[]⟩ : ByteArray) 0
theorem Yt.calls (k : Nat) (a0 a1 r : ByteArray) (w : World) (hE : EnvOk w) (h : Yt.f k a0 a1 = some r) :
  Calls Tryz.prog 51 #[.string a0, .string a1] w fun e w' => e = .returned (.string r) ∧ Below w.heap.size w w' := by
 have HE := Ya.mk hE
 clear hE
 have HB := Ya.mk (Below.refl w.heap.size w)
 have H : (Yt.l0 k a0 a1 (⟨#[]⟩ : ByteArray) 0) = some r := h
 clear h
 have H' := Ya.mk H
 clear H
 go_enter Tryz.func51, Tryz.ntmps51
 go_wp2
 go_loopg [5, 6] k (fun kq v5 v6 w' => ∃ (bA : ByteArray) (aD : Int), v5 = .string bA ∧ v6 = .int .i64 aD ∧ Ya (Yt.l0 kq a0 a1 bA aD = some r) ∧ Ya (kq ≤ k) ∧ Ya (Below w.heap.size w w'))
 case atStart => exact ⟨((⟨#[]⟩ : ByteArray)), (0), Zf, Zf, H', ⟨Nat.le_refl _⟩, ⟨Za⟩⟩
 case round =>
  clear H'
  try clear p2
  obtain ⟨bA, aD, rfl, rfl, HA, dD, HB⟩ := hrel
  cases gk with
  | zero => exact absurd HA.out (by simp [Yt.l0])
  | succ k1 =>
   have H := HA.out
   clear HA
   simp only [Yt.l0] at H
   by_cases c3 : aD < (a0.size : Int)
   rotate_left
   ·rw [if_neg c3] at H
    have cJ : decide (aD < (a0.size : Int)) = false := decide_eq_false c3
    clear c3
    obtain rfl := Option.some.inj H
    go_wp2
    go_ret
    exact ⟨Zk, Za⟩
   rw [if_pos c3] at H
   have cJ : decide (aD < (a0.size : Int)) = true := decide_eq_true c3
   clear c3
   by_cases c4 : 0 ≤ aD
   rotate_left
   ·rw [if_neg c4] at H
    exact absurd H Zv
   rw [if_pos c4] at H
   have cF : decide (0 ≤ aD) = true := decide_eq_true c4
   clear c4
   by_cases c6 : (bt a0 aD) ≤ 32
   ·rw [if_pos c6] at H
    have dP : decide ((bt a0 aD) ≤ 32) = true := decide_eq_true c6
    clear c6
    have dA := eq_true (of_decide_eq_true Zc : 0 ≤ aD)
    by_cases c8 : aD ≤ (wrap64 (aD + 1))
    rotate_left
    ·rw [if_neg c8] at H
     exact absurd H Zv
    rw [if_pos c8] at H
    have gZ := eq_true c8
    have jE : decide (aD ≤ (wrap64 (aD + 1))) = true := decide_eq_true c8
    by_cases c9 : (wrap64 (aD + 1)) ≤ (a0.size : Int)
    rotate_left
    ·rw [if_neg c9] at H
     exact absurd H Zv
    rw [if_pos c9] at H
    have iI := eq_true c9
    have oF : decide ((wrap64 (aD + 1)) ≤ (a0.size : Int)) = true := decide_eq_true c9
    replace H := Option.bind_eq_some_iff.mp H
    obtain ⟨eJ, aBO, H⟩ := H
    try dsimp -simprocs only at H
    have A10 := Ya.mk aBO
    clear aBO
    by_cases c11 : bA.size + eJ.size ≤ 9223372036854775807
    rotate_left
    ·rw [if_neg c11] at H
     exact absurd H Zv
    rw [if_pos c11] at H
    have gU := eq_true c11
    have qM : decide (bA.size + eJ.size ≤ 9223372036854775807) = true := decide_eq_true c11
    try have aJp : (9223372036854775807 < bA.size + eJ.size) = False := eq_false (Nat.not_lt.2 c11)
    have H' := Ya.mk H
    clear H
    have p5 : 0 ≤ (aD : Int) := of_decide_eq_true Zc
    have q5 : aD < (a0.size : Int) := of_decide_eq_true Zc
    have kK := Yab a0 aD
    replace p5 := eq_true p5
    replace q5 := eq_true q5
    go_wp2_with (first | ((with_reducible refine Yh (f := 90) rfl ?_); refine Yba (some 38) rfl rfl Tryz.func90 Zi rfl #[.string (a0.extract (aD : Int).toNat ((wrap64 (aD + 1)) : Int).toNat), .string (⟨#[]⟩ : ByteArray)] rfl Zb ?_; (with_reducible refine (Yx.calls k1 (a0.extract (aD : Int).toNat ((wrap64 (aD + 1)) : Int).toNat) (⟨#[]⟩ : ByteArray) eJ _ ?side1 A10.out).mono ?_); (case side1 => first | exact HE.out | exact EnvOk.below HE.out Za); rintro e vG ⟨rfl, hb⟩; refine ⟨_, rfl, ?_⟩; have aM := Ya.mk (Ys Za hb); clear HB; have HB := aM; clear aM; (try clear hb); (try clear cC); (try clear hk); (try clear hi)))
    go_roundg k1
    case measure => have := dD.out; omega
    case rel => exact ⟨(bA ++ eJ), (wrap64 (aD + 1)), Zf, Zf, H', ⟨Zaa⟩, ⟨Za⟩⟩
   rw [if_neg c6] at H
   have dP : decide ((bt a0 aD) ≤ 32) = false := decide_eq_false c6
   clear c6
   by_cases eN : (bt a0 aD) > 126
   ·rw [if_pos eN] at H
    have hM : decide (126 < (bt a0 aD)) = true := decide_eq_true eN
    clear eN
    have iH := eq_true (of_decide_eq_true Zc : 0 ≤ aD)
    by_cases dJ : aD ≤ (wrap64 (aD + 1))
    rotate_left
    ·rw [if_neg dJ] at H
     exact absurd H Zv
    rw [if_pos dJ] at H
    have eU := eq_true dJ
    have qJ : decide (aD ≤ (wrap64 (aD + 1))) = true := decide_eq_true dJ
    by_cases eP : (wrap64 (aD + 1)) ≤ (a0.size : Int)
    rotate_left
    ·rw [if_neg eP] at H
     exact absurd H Zv
    rw [if_pos eP] at H
    have hJ := eq_true eP
    have kM : decide ((wrap64 (aD + 1)) ≤ (a0.size : Int)) = true := decide_eq_true eP
    replace H := Option.bind_eq_some_iff.mp H
    obtain ⟨tY, oT, H⟩ := H
    try dsimp -simprocs only at H
    have A17 := Ya.mk oT
    clear oT
    by_cases eQ : bA.size + tY.size ≤ 9223372036854775807
    rotate_left
    ·rw [if_neg eQ] at H
     exact absurd H Zv
    rw [if_pos eQ] at H
    have oG := eq_true eQ
    have qK : decide (bA.size + tY.size ≤ 9223372036854775807) = true := decide_eq_true eQ
    try have aEW : (9223372036854775807 < bA.size + tY.size) = False := eq_false (Nat.not_lt.2 eQ)
    have H' := Ya.mk H
    clear H
    have p5 : 0 ≤ (aD : Int) := of_decide_eq_true Zc
    have q5 : aD < (a0.size : Int) := of_decide_eq_true Zc
    have kK := Yab a0 aD
    replace p5 := eq_true p5
    replace q5 := eq_true q5
    go_wp2_with (first | ((with_reducible refine Yh (f := 90) rfl ?_); refine Yba (some 38) rfl rfl Tryz.func90 Zi rfl #[.string (a0.extract (aD : Int).toNat ((wrap64 (aD + 1)) : Int).toNat), .string (⟨#[]⟩ : ByteArray)] rfl Zb ?_; (with_reducible refine (Yx.calls k1 (a0.extract (aD : Int).toNat ((wrap64 (aD + 1)) : Int).toNat) (⟨#[]⟩ : ByteArray) tY _ ?side1 A17.out).mono ?_); (case side1 => first | exact HE.out | exact EnvOk.below HE.out Za); rintro e w19 ⟨rfl, hb⟩; refine ⟨_, rfl, ?_⟩; have aM := Ya.mk (Ys Za hb); clear HB; have HB := aM; clear aM; (try clear hb); (try clear cC); (try clear hk); (try clear hi)))
    go_roundg k1
    case measure => have := dD.out; omega
    case rel => exact ⟨(bA ++ tY), (wrap64 (aD + 1)), Zf, Zf, H', ⟨Zaa⟩, ⟨Za⟩⟩
   rw [if_neg eN] at H
   have hM : decide (126 < (bt a0 aD)) = false := decide_eq_false eN
   clear eN
   replace H := Option.bind_eq_some_iff.mp H
   obtain ⟨wG, aJq, H⟩ := H
   try dsimp -simprocs only at H
   have dU := Ya.mk aJq
   clear aJq
   by_cases mQ : wG = true
   ·subst mQ
    rw [if_pos rfl] at H
    have lT := eq_true (of_decide_eq_true Zc : 0 ≤ aD)
    by_cases jM : aD ≤ (wrap64 (aD + 1))
    rotate_left
    ·rw [if_neg jM] at H
     exact absurd H Zv
    rw [if_pos jM] at H
    have oH := eq_true jM
    have oI : decide (aD ≤ (wrap64 (aD + 1))) = true := decide_eq_true jM
    by_cases kE : (wrap64 (aD + 1)) ≤ (a0.size : Int)
    rotate_left
    ·rw [if_neg kE] at H
     exact absurd H Zv
    rw [if_pos kE] at H
    have qP := eq_true kE
    have qQ : decide ((wrap64 (aD + 1)) ≤ (a0.size : Int)) = true := decide_eq_true kE
    replace H := Option.bind_eq_some_iff.mp H
    obtain ⟨tZ, aJr, H⟩ := H
    try dsimp -simprocs only at H
    have A25 := Ya.mk aJr
    clear aJr
    by_cases wH : bA.size + tZ.size ≤ 9223372036854775807
    rotate_left
    ·rw [if_neg wH] at H
     exact absurd H Zv
    rw [if_pos wH] at H
    have aJs := eq_true wH
    have aXd : decide (bA.size + tZ.size ≤ 9223372036854775807) = true := decide_eq_true wH
    try have aXe : (9223372036854775807 < bA.size + tZ.size) = False := eq_false (Nat.not_lt.2 wH)
    have H' := Ya.mk H
    clear H
    have p5 : 0 ≤ (aD : Int) := of_decide_eq_true Zc
    have q5 : aD < (a0.size : Int) := of_decide_eq_true Zc
    have kK := Yab a0 aD
    replace p5 := eq_true p5
    replace q5 := eq_true q5
    go_wp2_with (first | (go_at_call 88; (with_reducible refine (Yha.calls k1 (bt a0 aD) (⟨#[34, 60, 62]⟩ : ByteArray) true _ ?side1 dU.out).mono ?_); (case side1 => first | exact HE.out | exact EnvOk.below HE.out Za); rintro e w' ⟨rfl, ⟨nd, rfl⟩⟩) | ((with_reducible refine Yh (f := 90) rfl ?_); refine Yba (some 38) rfl rfl Tryz.func90 Zi rfl #[.string (a0.extract (aD : Int).toNat ((wrap64 (aD + 1)) : Int).toNat), .string (⟨#[]⟩ : ByteArray)] rfl Zb ?_; (with_reducible refine (Yx.calls k1 (a0.extract (aD : Int).toNat ((wrap64 (aD + 1)) : Int).toNat) (⟨#[]⟩ : ByteArray) tZ _ ?side1 A25.out).mono ?_); (case side1 => first | exact HE.out | exact EnvOk.below HE.out Za); rintro e w27 ⟨rfl, hb⟩; refine ⟨_, rfl, ?_⟩; have aM := Ya.mk (Ys Za hb); clear HB; have HB := aM; clear aM; (try clear hb); (try clear cC); (try clear hk); (try clear hi)))
    go_roundg k1
    case measure => have := dD.out; omega
    case rel => exact ⟨(bA ++ tZ), (wrap64 (aD + 1)), Zf, Zf, H', ⟨Zaa⟩, ⟨Za⟩⟩
   replace mQ := Bool.eq_false_iff.mpr mQ
   subst mQ
   rw [if_neg (show ¬ (false = true) by decide)] at H
   replace H := Option.bind_eq_some_iff.mp H
   obtain ⟨pA, tW, H⟩ := H
   try dsimp -simprocs only at H
   have A28 := Ya.mk tW
   clear tW
   by_cases oX : pA = true
   rotate_left
   ·replace oX := Bool.eq_false_iff.mpr oX
    subst oX
    rw [if_neg (show ¬ (false = true) by decide)] at H
    have aXf := eq_true (of_decide_eq_true Zc : 0 ≤ aD)
    by_cases c37 : aD ≤ (wrap64 (aD + 1))
    rotate_left
    ·rw [if_neg c37] at H
     exact absurd H Zv
    rw [if_pos c37] at H
    have aXg := eq_true c37
    have aXh : decide (aD ≤ (wrap64 (aD + 1))) = true := decide_eq_true c37
    by_cases c38 : (wrap64 (aD + 1)) ≤ (a0.size : Int)
    rotate_left
    ·rw [if_neg c38] at H
     exact absurd H Zv
    rw [if_pos c38] at H
    have aXi := eq_true c38
    have aXj : decide ((wrap64 (aD + 1)) ≤ (a0.size : Int)) = true := decide_eq_true c38
    by_cases c39 : bA.size + (a0.extract (aD : Int).toNat ((wrap64 (aD + 1)) : Int).toNat).size ≤ 9223372036854775807
    rotate_left
    ·rw [if_neg c39] at H
     exact absurd H Zv
    rw [if_pos c39] at H
    have aXk := eq_true c39
    have aXl : decide (bA.size + (a0.extract (aD : Int).toNat ((wrap64 (aD + 1)) : Int).toNat).size ≤ 9223372036854775807) = true := decide_eq_true c39
    try have aXm : (9223372036854775807 < bA.size + (a0.extract (aD : Int).toNat ((wrap64 (aD + 1)) : Int).toNat).size) = False := eq_false (Nat.not_lt.2 c39)
    try have aXn : (9223372036854775807 < bA.size + (((wrap64 (aD + 1)) : Int).toNat - (aD : Int).toNat)) = False := eq_false (by have h9_ := c39; rw [ByteArray.size_extract] at h9_; omega)
    have H' := Ya.mk H
    clear H
    have p5 : 0 ≤ (aD : Int) := of_decide_eq_true Zc
    have q5 : aD < (a0.size : Int) := of_decide_eq_true Zc
    have kK := Yab a0 aD
    replace p5 := eq_true p5
    replace q5 := eq_true q5
    go_wp2_with (first | (go_at_call 88; (with_reducible refine (Yha.calls k1 (bt a0 aD) (⟨#[34, 60, 62]⟩ : ByteArray) false _ ?side1 dU.out).mono ?_); (case side1 => first | exact HE.out | exact EnvOk.below HE.out Za); rintro e w' ⟨rfl, ⟨nd, rfl⟩⟩) | (go_at_call 88; (with_reducible refine (Yha.calls k1 (bt a0 aD) a1 false _ ?side1 A28.out).mono ?_); (case side1 => first | exact HE.out | exact EnvOk.below HE.out Za); rintro e w' ⟨rfl, ⟨nd, rfl⟩⟩))
    go_roundg k1
    case measure => have := dD.out; omega
    case rel => exact ⟨(bA ++ (a0.extract (aD : Int).toNat ((wrap64 (aD + 1)) : Int).toNat)), (wrap64 (aD + 1)), Zf, Zf, H', ⟨Zaa⟩, ⟨Za⟩⟩
   subst oX
   rw [if_pos rfl] at H
   have aXo := eq_true (of_decide_eq_true Zc : 0 ≤ aD)
   by_cases rS : aD ≤ (wrap64 (aD + 1))
   rotate_left
   ·rw [if_neg rS] at H
    exact absurd H Zv
   rw [if_pos rS] at H
   have aBP := eq_true rS
   have aBQ : decide (aD ≤ (wrap64 (aD + 1))) = true := decide_eq_true rS
   by_cases c32 : (wrap64 (aD + 1)) ≤ (a0.size : Int)
   rotate_left
   ·rw [if_neg c32] at H
    exact absurd H Zv
   rw [if_pos c32] at H
   have aJt := eq_true c32
   have aXp : decide ((wrap64 (aD + 1)) ≤ (a0.size : Int)) = true := decide_eq_true c32
   replace H := Option.bind_eq_some_iff.mp H
   obtain ⟨uA, aJu, H⟩ := H
   try dsimp -simprocs only at H
   have A33 := Ya.mk aJu
   clear aJu
   by_cases c34 : bA.size + uA.size ≤ 9223372036854775807
   rotate_left
   ·rw [if_neg c34] at H
    exact absurd H Zv
   rw [if_pos c34] at H
   have aFg := eq_true c34
   have aXq : decide (bA.size + uA.size ≤ 9223372036854775807) = true := decide_eq_true c34
   try have aXr : (9223372036854775807 < bA.size + uA.size) = False := eq_false (Nat.not_lt.2 c34)
   have H' := Ya.mk H
   clear H
   have p5 : 0 ≤ (aD : Int) := of_decide_eq_true Zc
   have q5 : aD < (a0.size : Int) := of_decide_eq_true Zc
   have kK := Yab a0 aD
   replace p5 := eq_true p5
   replace q5 := eq_true q5
   go_wp2_with (first | (go_at_call 88; (with_reducible refine (Yha.calls k1 (bt a0 aD) (⟨#[34, 60, 62]⟩ : ByteArray) false _ ?side1 dU.out).mono ?_); (case side1 => first | exact HE.out | exact EnvOk.below HE.out Za); rintro e w' ⟨rfl, ⟨nd, rfl⟩⟩) | (go_at_call 88; (with_reducible refine (Yha.calls k1 (bt a0 aD) a1 true _ ?side1 A28.out).mono ?_); (case side1 => first | exact HE.out | exact EnvOk.below HE.out Za); rintro e w' ⟨rfl, ⟨nd, rfl⟩⟩) | ((with_reducible refine Yh (f := 90) rfl ?_); refine Yba (some 38) rfl rfl Tryz.func90 Zi rfl #[.string (a0.extract (aD : Int).toNat ((wrap64 (aD + 1)) : Int).toNat), .string (⟨#[]⟩ : ByteArray)] rfl Zb ?_; (with_reducible refine (Yx.calls k1 (a0.extract (aD : Int).toNat ((wrap64 (aD + 1)) : Int).toNat) (⟨#[]⟩ : ByteArray) uA _ ?side1 A33.out).mono ?_); (case side1 => first | exact HE.out | exact EnvOk.below HE.out Za); rintro e w35 ⟨rfl, hb⟩; refine ⟨_, rfl, ?_⟩; have aM := Ya.mk (Ys Za hb); clear HB; have HB := aM; clear aM; (try clear hb); (try clear cC); (try clear hk); (try clear hi)))
   go_roundg k1
   case measure => have := dD.out; omega
   case rel => exact ⟨(bA ++ uA), (wrap64 (aD + 1)), Zf, Zf, H', ⟨Zaa⟩, ⟨Za⟩⟩
def Yfa.l0 : Nat → ByteArray → List ByteArray → Int → Option (List ByteArray)
 | 0, _, _, _ => none
 | k + 1, x0, x3, x4 => if x4 < (x0.size : Int) then (if 0 ≤ x4 then ((Yxa.f (bt x0 x4)).bind fun aGd => (if aGd = true then (if x3.length < 8796093022208 then (Yfa.l0 k x0 (x3 ++ [(⟨#[]⟩ : ByteArray)]) (wrap64 (x4 + 1))) else (none)) else (if 0 ≤ (wrap64 ((x3.length : Int) - 1)) then (if (wrap64 ((x3.length : Int) - 1)) < (x3.length : Int) then (if x4 ≤ (wrap64 (x4 + 1)) then (if (wrap64 (x4 + 1)) ≤ (x0.size : Int) then (if (rdOf ByteArray.empty x3 (wrap64 ((x3.length : Int) - 1))).size + (x0.extract (x4 : Int).toNat ((wrap64 (x4 + 1)) : Int).toNat).size ≤ 9223372036854775807 then (Yfa.l0 k x0 (x3.set ((wrap64 ((x3.length : Int) - 1)) : Int).toNat ((rdOf ByteArray.empty x3 (wrap64 ((x3.length : Int) - 1))) ++ (x0.extract (x4 : Int).toNat ((wrap64 (x4 + 1)) : Int).toNat))) (wrap64 (x4 + 1))) else (none)) else (none)) else (none)) else (none)) else (none)))) else (none)) else (some x3)
def Yfa.f (k : Nat) (a0 : ByteArray) : Option (List ByteArray) := Yfa.l0 k a0 (([(⟨#[]⟩ : ByteArray)] : List ByteArray)) 0
def Yfa.T7 : Bool × List (List Nat × List Nat) := (true, [([], []), ([], []), ([1], [1]), ([2], [2]), ([0, 3], [0, 3]), ([4], [4]), ([], []), ([], []), ([], []), ([8], [8]), ([6, 7, 9], [6, 7, 9]), ([5, 10], [5, 10]), ([0, 3, 0, 1, 2, 3, 4, 5, 6, 7, 8, 9, 10, 11], [0, 3]), ([12, 11, 0, 1, 2, 3, 4, 5, 6, 7, 8, 9, 10, 11], [11, 12])])
def Yfa.B7 : List Nat := [0, 0, 2, 6, 15, 31, 0, 0, 0, 256, 960, 2047, 4095, 8191]
theorem Yfa.tab7 : rtab .any (opsOf Tryz.f64 7) = Yfa.T7 := by kernel_rfl
theorem Yfa.bits7 : Yoh Yfa.T7.2 Yfa.B7 = true := by kernel_rfl
theorem Yfa.calls (k : Nat) (a0 : ByteArray) (r : List ByteArray) (w : World) (hE : EnvOk w) (h : Yfa.f k a0 = some r) :
  Calls Tryz.prog 64 #[.string a0] w fun e w' => ∃ v0_ : Value, e = .returned (v0_) ∧ Kd.R Kd.string 9 w' w.heap.size (fun _ => True) v0_ r ∧ Below w.heap.size w w' := by
 have HE := Ya.mk hE
 clear hE
 have HB := Ya.mk (Below.refl w.heap.size w)
 have H : (Yfa.l0 k a0 (([(⟨#[]⟩ : ByteArray)] : List ByteArray)) 0) = some r := h
 clear h
 obtain ⟨aJv, uB⟩ : ∃ y_ : List ByteArray, y_ = (([(⟨#[]⟩ : ByteArray)] : List ByteArray)) := ⟨_, rfl⟩
 replace H : (Yfa.l0 k a0 aJv 0) = some r := by first | (rw [uB]; with_reducible exact H) | (have dK := (Option.bind_some _ _).symm.trans H; rw [uB]; with_reducible exact dK) | (have dK := (Option.bind_some _ _).symm.trans H; with_reducible exact dK) | with_reducible exact H | (rw [uB]; exact H) | exact H
 have aFh := Ya.mk uB
 clear uB
 have H' := Ya.mk H
 clear H
 go_enter Tryz.func64, Tryz.ntmps64
 go_wp2_with (first | ((with_reducible refine Ywc (N := 5) rfl ?_); refine Kd.R_lit Kd.string _ 9 ?hg (N := 5) ?hd (xs := ([(⟨#[]⟩ : ByteArray)] : List ByteArray)) (inner := [.string (⟨#[]⟩ : ByteArray)]) (ok := fun _ => True) (okp := fun _ => True) ?hr ?hp (fun _ hk => hk) trivial (Below.refl _ _) (Nat.le_refl _) Zv ?_; (case hd => rfl); (case hg => rfl); (case hr => first | (go_simp; done) | (go_simp; rfl)); (case hp => exact (Reps.one (show Kd.M Kd.string _ _ _ (⟨#[]⟩ : ByteArray) [.string (⟨#[]⟩ : ByteArray)] from rfl) (Reps.none _ _))); intro aYm w2 ho3 hb hg_ hnew_; clear hg_ hnew_; (first | rw [← aFh.out] at ho3 | (simp only [Int.reduceToNat] at ho3; rw [← aFh.out] at ho3)); have aM := Ya.mk (Kd.R_lower ho3 (Yda Za)); have aU := Ya.mk (Ys Za hb); clear HB; have aJx := aM; have HB := aU; clear aM aU; clear hb ho3))
 go_loopg [3, 4] k (fun kq v3 v4 w' => ∃ (aE : List ByteArray) (aA : Int), v4 = .int .i64 aA ∧ Ya (Yfa.l0 kq a0 aE aA = some r) ∧ Ya (kq ≤ k) ∧ Ya (Kd.R Kd.string 9 w' w.heap.size (fun _ => True) v3 aE) ∧ Ya (Below w.heap.size w w'))
 case atStart => exact ⟨(aJv), (0), Zf, H', ⟨Nat.le_refl _⟩, ⟨by (with_reducible repeat (first | apply Kd.R_alloc | apply Kd.R_drewN | apply Kd.R_drew)); exact aJx.out⟩, ⟨Za⟩⟩
 case round =>
  clear H'
  try clear p2
  obtain ⟨aE, aA, rfl, HA, dD, HO_3, HB⟩ := hrel
  cases gk with
  | zero => exact absurd HA.out (by simp [Yfa.l0])
  | succ k1 =>
   have H := HA.out
   clear HA
   simp only [Yfa.l0] at H
   by_cases c4 : aA < (a0.size : Int)
   rotate_left
   ·rw [if_neg c4] at H
    have cF : decide (aA < (a0.size : Int)) = false := decide_eq_false c4
    clear c4
    obtain rfl := Option.some.inj H
    go_wp2
    go_ret
    exact ⟨_, Zk, Zm, Za⟩
   rw [if_pos c4] at H
   have cF : decide (aA < (a0.size : Int)) = true := decide_eq_true c4
   clear c4
   by_cases c5 : 0 ≤ aA
   rotate_left
   ·rw [if_neg c5] at H
    exact absurd H Zv
   rw [if_pos c5] at H
   have dL : decide (0 ≤ aA) = true := decide_eq_true c5
   clear c5
   replace H := Option.bind_eq_some_iff.mp H
   obtain ⟨aGd, oE, H⟩ := H
   try dsimp -simprocs only at H
   have A7 := Ya.mk oE
   clear oE
   by_cases c8 : aGd = true
   ·subst c8
    rw [if_pos rfl] at H
    by_cases c9 : aE.length < 8796093022208
    rotate_left
    ·rw [if_neg c9] at H
     exact absurd H Zv
    rw [if_pos c9] at H
    have vN := Ya.mk c9
    clear c9
    obtain ⟨aJy, uC⟩ : ∃ y_ : List ByteArray, y_ = (aE ++ [(⟨#[]⟩ : ByteArray)]) := ⟨_, rfl⟩
    replace H : (Yfa.l0 k1 a0 aJy (wrap64 (aA + 1))) = some r := by first | (rw [uC]; with_reducible exact H) | (have dK := (Option.bind_some _ _).symm.trans H; rw [uC]; with_reducible exact dK) | (have dK := (Option.bind_some _ _).symm.trans H; with_reducible exact dK) | with_reducible exact H | (rw [uC]; exact H) | exact H
    have aJz := Ya.mk uC
    clear uC
    have H' := Ya.mk H
    clear H
    have p6 : 0 ≤ (aA : Int) := of_decide_eq_true Zc
    have q6 : aA < (a0.size : Int) := of_decide_eq_true Zc
    have hx6 := Yab a0 aA
    replace p6 := eq_true p6
    replace q6 := eq_true q6
    go_wp2_with (first | ((with_reducible refine Yh (f := 48) rfl ?_); refine Yba (some 15) rfl rfl Tryz.func48 Zi rfl #[.int .u8 (bt a0 aA)] rfl Zb ?_; (with_reducible refine (Yxa.calls (bt a0 aA) true _ ?side1 A7.out).mono ?_); (case side1 => first | exact HE.out | exact EnvOk.below HE.out Za); rintro e w' ⟨rfl, ⟨nd, rfl⟩⟩; refine ⟨_, rfl, ?_⟩) | ((with_reducible refine Yge (b := .append) (xs := #[.tmp 16, .tmp 17]) rfl ?_); at_builtin; refine Kd.R_append Kd.string (w0 := w) w.heap.size rfl (.tmp 16) (.tmp 17) 44 9 (.string ⟨#[]⟩) 16 rfl Tryz.underlying44 Ykg rfl Zea Zl u3 aE (⟨#[]⟩ : ByteArray) [.string (⟨#[]⟩ : ByteArray)] (fun _ => True) (fun _ => False) rfl rfl ?aP (fun _ hk => hk.elim) ?aF ?aO ?aB ?aS ?aL ?_; (case aP => exact rfl); (case aB => exact Za); (case aF => exact (fun _ _ => trivial)); (case aO => exact Zm); (case aS => exact (Yda Za)); (case aL => have := vN.out; omega); intro aYn qE ho hb hg hat; rw [← aJz.out] at ho; have aM := Ya.mk (hb); have aU := Ya.mk (ho); clear HB; clear HO_3; have HB := aM; have aJA := aU; clear aM aU; clear ho hb hg hat))
    go_roundg k1
    case measure => have := dD.out; omega
    case rel => exact ⟨(aJy), (wrap64 (aA + 1)), Zf, H', ⟨Zaa⟩, ⟨by (with_reducible repeat (first | apply Kd.R_alloc | apply Kd.R_drewN | apply Kd.R_drew)); exact aJA.out⟩, ⟨Za⟩⟩
   replace c8 := Bool.eq_false_iff.mpr c8
   subst c8
   rw [if_neg (show ¬ (false = true) by decide)] at H
   obtain ⟨ji11, lU⟩ : ∃ j_ : Int, (wrap64 ((aE.length : Int) - 1)) = j_ := ⟨_, rfl⟩
   replace H : (if 0 ≤ (ji11) then (if (ji11) < (aE.length : Int) then (if aA ≤ (wrap64 (aA + 1)) then (if (wrap64 (aA + 1)) ≤ (a0.size : Int) then (if (rdOf ByteArray.empty aE (ji11)).size + (a0.extract (aA : Int).toNat ((wrap64 (aA + 1)) : Int).toNat).size ≤ 9223372036854775807 then (Yfa.l0 k1 a0 (aE.set ((ji11) : Int).toNat ((rdOf ByteArray.empty aE (ji11)) ++ (a0.extract (aA : Int).toNat ((wrap64 (aA + 1)) : Int).toNat))) (wrap64 (aA + 1))) else (none)) else (none)) else (none)) else (none)) else (none)) = some r := by first | (rw [lU] at H; exact H) | (simp only [lU] at H ⊢; exact H)
   (try rw [lU] at A7)
   have hji11w : (IntKind.i64.wrap ((aE.length : Int) - 1)) = ji11 := (Yma _).trans lU
   by_cases dG : 0 ≤ (ji11)
   rotate_left
   ·rw [if_neg dG] at H
    exact absurd H Zv
   rw [if_pos dG] at H
   have dV : decide (0 ≤ (ji11)) = true := decide_eq_true dG
   clear dG
   by_cases eN : (ji11) < (aE.length : Int)
   rotate_left
   ·rw [if_neg eN] at H
    exact absurd H Zv
   rw [if_pos eN] at H
   have hM : decide ((ji11) < (aE.length : Int)) = true := decide_eq_true eN
   clear eN
   have iH := eq_true (of_decide_eq_true Zc : 0 ≤ aA)
   by_cases dJ : aA ≤ (wrap64 (aA + 1))
   rotate_left
   ·rw [if_neg dJ] at H
    exact absurd H Zv
   rw [if_pos dJ] at H
   have eU := eq_true dJ
   have qJ : decide (aA ≤ (wrap64 (aA + 1))) = true := decide_eq_true dJ
   by_cases eP : (wrap64 (aA + 1)) ≤ (a0.size : Int)
   rotate_left
   ·rw [if_neg eP] at H
    exact absurd H Zv
   rw [if_pos eP] at H
   have hJ := eq_true eP
   have kM : decide ((wrap64 (aA + 1)) ≤ (a0.size : Int)) = true := decide_eq_true eP
   by_cases eH : (rdOf ByteArray.empty aE (ji11)).size + (a0.extract (aA : Int).toNat ((wrap64 (aA + 1)) : Int).toNat).size ≤ 9223372036854775807
   rotate_left
   ·rw [if_neg eH] at H
    exact absurd H Zv
   rw [if_pos eH] at H
   have jQ := eq_true eH
   have lS : decide ((rdOf ByteArray.empty aE (ji11)).size + (a0.extract (aA : Int).toNat ((wrap64 (aA + 1)) : Int).toNat).size ≤ 9223372036854775807) = true := decide_eq_true eH
   try have aJB : (9223372036854775807 < (rdOf ByteArray.empty aE (ji11)).size + (a0.extract (aA : Int).toNat ((wrap64 (aA + 1)) : Int).toNat).size) = False := eq_false (Nat.not_lt.2 eH)
   try have aJC : (9223372036854775807 < (rdOf ByteArray.empty aE (ji11)).size + (((wrap64 (aA + 1)) : Int).toNat - (aA : Int).toNat)) = False := eq_false (by have h9_ := eH; rw [ByteArray.size_extract] at h9_; omega)
   obtain ⟨aJD, uD⟩ : ∃ y_ : List ByteArray, y_ = (aE.set ((ji11) : Int).toNat ((rdOf ByteArray.empty aE (ji11)) ++ (a0.extract (aA : Int).toNat ((wrap64 (aA + 1)) : Int).toNat))) := ⟨_, rfl⟩
   replace H : (Yfa.l0 k1 a0 aJD (wrap64 (aA + 1))) = some r := by first | (rw [uD]; with_reducible exact H) | (have dK := (Option.bind_some _ _).symm.trans H; rw [uD]; with_reducible exact dK) | (have dK := (Option.bind_some _ _).symm.trans H; with_reducible exact dK) | with_reducible exact H | (rw [uD]; exact H) | exact H
   have aJE := Ya.mk uD
   clear uD
   have H' := Ya.mk H
   clear H
   have p6 : 0 ≤ (aA : Int) := of_decide_eq_true Zc
   have q6 : aA < (a0.size : Int) := of_decide_eq_true Zc
   have hx6 := Yab a0 aA
   replace p6 := eq_true p6
   replace q6 := eq_true q6
   try go_wp2_with (first | ((with_reducible refine Yh (f := 48) rfl ?_); refine Yba (some 15) rfl rfl Tryz.func48 Zi rfl #[.int .u8 (bt a0 aA)] rfl Zb ?_; (with_reducible refine (Yxa.calls (bt a0 aA) false _ ?side1 A7.out).mono ?_); (case side1 => first | exact HE.out | exact EnvOk.below HE.out Za); rintro e w' ⟨rfl, ⟨nd, rfl⟩⟩; refine ⟨_, rfl, ?_⟩; (try (rw [Ydg wr]; generalize hq_ : World.drewN wr _ = wr; have aM : Ya (Kd.R Kd.string 9 wr w.heap.size (fun _ => True) u3 aE) := ⟨by rw [← hq_]; exact Zm⟩; have aU : Ya (Below w.heap.size w wr) := ⟨by rw [← hq_]; exact Za⟩; clear HO_3 HB hq_; have HO_3 := aM; have HB := aU; clear aM aU))))
   have aM := Ya.mk (Kd.R_drew HO_3.out)
   have aU := Ya.mk (Yc HB.out)
   clear HO_3
   clear HB
   have HO_3 := aM
   have HB := aU
   clear aM aU
   obtain ⟨aWb, aWc, aBR⟩ := Kd.R_slice HO_3.out
   (first | subst aBR | (injection aBR with f1_ f2_ f3_; have f4_ := f1_.symm; have f5_ := f3_.symm; clear f1_ f2_ f3_; subst f4_; subst f5_))
   have aGe : 0 ≤ ((ji11) : Int) := of_decide_eq_true Zc
   have aGf : (ji11) < (aE.length : Int) := of_decide_eq_true Zc
   obtain ⟨aXs, aWd, rT⟩ := Kd.at_string (Kd.R_reads' HO_3.out).2.2 (ji11) aGe aGf
   cases aWd
   replace aGe := eq_true aGe
   replace aGf := eq_true aGf
   have p18 : 0 ≤ ((ji11) : Int) := of_decide_eq_true Zc
   have q18 : ((ji11) : Int) < ((aE.length : Int) : Int) := of_decide_eq_true Zc
   obtain ⟨aGi, aWe, aBS, aBT, aGj, aWf, aBU⟩ := Kd.R_form HO_3.out Zl
   (first | cases aBS | (injection aBS with ea_ en_ ec_; (first | subst ea_ | (injection ea_ with ea_; subst ea_)); subst ec_; clear en_))
   have aGk := Ya.mk aBT
   have aGl := Ya.mk aBU
   clear aBT aGj aBU
   (first | simp only [add_plain] at rT | skip)
   obtain ⟨wI, wJ⟩ := Kd.R_celln (⟨#[]⟩ : ByteArray) HO_3.out ((ji11) : Int) p18 q18
   replace p18 := eq_true p18
   replace q18 := eq_true q18
   have wK := Kd.R_putn HO_3.out ((ji11) : Int) ((rdOf ByteArray.empty aE (ji11)) ++ (a0.extract (aA : Int).toNat ((wrap64 (aA + 1)) : Int).toNat))
   rw [← aJE.out] at wK
   have aBV := Ya.mk wK
   clear wK
   refine Yqh (n := 14) (S := fun w' => w'.cell? ⟨aGi, ((ji11)).toNat, none⟩ = some (.string (rdOf ByteArray.empty aE (ji11)))) (ds := [13]) #[false, false, false, false, false, false, false, false, false, false, false, false, false, false] Zi rfl rfl (rT) (fun hHeld => ?_); refine Yuh Yfa.tab7 Yfa.bits7 (fun HT_ HW_ => ?_)
   generalize wr.drew = w19 at HO_3 HB aGl aBV wJ rT wI hHeld ⊢
   refine Yqb (i := 0) (N := some 19) (v := ?_) (a' := ?_) #[true, false, false, false, false, false, false, false, false, false, false, false, false, false] rfl rfl (Ypb HT_.out Zi) (fun _ _ _ h => h) (Or.inl ⟨Zja, ?_⟩) ?_ ?_
   rotate_left
   ·exact Zzb
   rotate_left
   ·exact Zac
   refine Yqb (i := 1) (N := some 20) (v := ?_) (a' := ?_) #[true, true, false, false, false, false, false, false, false, false, false, false, false, false] rfl rfl (Ypb HT_.out Zi) (fun _ _ _ h => h) (Or.inl ⟨Zja, ?_⟩) ?_ ?_
   rotate_left
   ·exact Zzb
   rotate_left
   ·exact Zac
   refine Yqb (i := 2) (N := some 21) (v := ?_) (a' := ?_) #[true, true, true, false, false, false, false, false, false, false, false, false, false, false] rfl rfl (Ypb HT_.out Zi) (fun _ _ _ h => h) (Or.inl ⟨Zja, ?_⟩) ?_ ?_
   rotate_left
   ·exact Zzb
   rotate_left
   ·exact Zac
   refine Yqb (i := 3) (N := some 22) (v := ?_) (a' := ?_) #[true, true, true, true, false, false, false, false, false, false, false, false, false, false] rfl rfl (Ypb HT_.out Zi) (fun _ _ _ h => h) (Or.inl ⟨Zja, ?_⟩) ?_ ?_
   rotate_left
   ·exact Zzb
   rotate_left
   ·exact Zac
   refine Yqb (i := 4) (N := some 23) (v := ?_) (a' := ?_) #[true, true, true, true, true, false, false, false, false, false, false, false, false, false] rfl rfl (Ypb HT_.out Zi) (fun _ _ _ h => h) (Or.inl ⟨Zja, ?_⟩) ?_ ?_
   rotate_left
   ·exact Zzb
   rotate_left
   ·exact Zac
   refine Yqb (i := 6) (N := some 25) (v := ?_) (a' := ?_) #[true, true, true, true, true, false, true, false, false, false, false, false, false, false] rfl rfl (Ypb HT_.out Zi) (fun _ _ _ h => h) (Or.inl ⟨Zja, ?_⟩) ?_ ?_
   rotate_left
   ·exact Zzb
   rotate_left
   ·exact Zac
   refine Yqb (i := 7) (N := some 26) (v := ?_) (a' := ?_) #[true, true, true, true, true, false, true, true, false, false, false, false, false, false] rfl rfl (Ypb HT_.out Zi) (fun _ _ _ h => h) (Or.inl ⟨Zja, ?_⟩) ?_ ?_
   rotate_left
   ·exact Zzb
   rotate_left
   ·exact Zac
   refine Yqb (i := 8) (N := some 27) (v := ?_) (a' := ?_) #[true, true, true, true, true, false, true, true, true, false, false, false, false, false] rfl rfl (Ypb HT_.out Zi) (fun _ _ _ h => h) (Or.inl ⟨Zja, ?_⟩) ?_ ?_
   rotate_left
   ·exact Zzb
   rotate_left
   ·exact Zac
   refine Yqb (i := 9) (N := some 28) (v := ?_) (a' := ?_) #[true, true, true, true, true, false, true, true, true, true, false, false, false, false] rfl rfl (Ypb HT_.out Zi) (fun _ _ _ h => h) (Or.inl ⟨Zja, ?_⟩) ?_ ?_
   rotate_left
   ·exact Zzb
   rotate_left
   ·exact Zac
   refine Yqb (i := 10) (N := some 29) (v := ?_) (a' := ?_) #[true, true, true, true, true, false, true, true, true, true, true, false, false, false] rfl rfl (Ypb HT_.out Zi) (fun _ _ _ h => h) (Or.inl ⟨Zja, ?_⟩) ?_ ?_
   rotate_left
   ·exact Zzb
   rotate_left
   ·exact Zac
   refine Ylf (i := 5) (N := some 24) (v := ?_) (a' := ?_) #[true, true, true, true, true, true, true, true, true, true, true, false, false, false] rfl rfl (Yne HT_.out HW_.out Zi) (fun _ _ _ h => h) (Or.inl ⟨Zja, ?_⟩) hHeld ?_ ?_
   rotate_left
   ·intro w' s0
    go_simp
    with_reducible rfl
   rotate_left
   ·exact Zac
   refine Yqb (i := 11) (N := some 30) (v := ?_) (a' := ?_) #[true, true, true, true, true, true, true, true, true, true, true, true, false, false] rfl rfl (Ypb HT_.out Zi) (fun _ _ _ h => h) (Or.inl ⟨Zja, ?_⟩) ?_ ?_
   rotate_left
   ·exact Zzb
   rotate_left
   ·exact Zac
   refine Yqb (i := 12) (N := some 31) (v := ?_) (a' := ?_) #[true, true, true, true, true, true, true, true, true, true, true, true, true, false] rfl rfl (Ypb HT_.out Zi) (fun _ _ _ h => h) (Or.inl ⟨Zja, ?_⟩) ?_ ?_
   rotate_left
   ·exact Zzb
   rotate_left
   ·exact Zac
   refine Yao (i := 13) (N := none) #[true, true, true, true, true, true, true, true, true, true, true, true, true, true] rfl rfl (Yyf HT_.out Zi) Zea (fun K hK => ?_)
   refine Yhm (w1 := ?_) Zja rfl ?_ ?_
   rotate_left
   ·go_simp
    rfl
   refine hK.out _ _ ?_
   clear hK K
   refine Yxi (Yhj HT_.out Zi) ?_
   try go_wp2
   go_roundg k1
   case measure => have := dD.out; omega
   case rel => exact ⟨(aJD), (wrap64 (aA + 1)), Zf, H', ⟨Zaa⟩, ⟨by (with_reducible repeat (first | apply Kd.R_alloc | apply Kd.R_drewN | apply Kd.R_drew)); exact aBV.out⟩, ⟨by repeat (first | (with_reducible first | exact HB.out | apply Yd | apply Yb | apply Yc | refine Yg ?_ aGk.out) | exact HB.out)⟩⟩
def Yka.l0 : Nat → ByteArray → List Int → Int → Option (ByteArray)
 | 0, _, _, _ => none
 | k + 1, x0, x3, x4 => if x4 < (x0.size : Int) then (if 0 ≤ x4 then (if (bt x0 x4) ≥ 65 then (if (bt x0 x4) ≤ 90 then (if x3.length < 140737488355328 then (Yka.l0 k x0 (x3 ++ [((bt x0 x4) + 32) % 256]) (wrap64 (x4 + 1))) else (none)) else (if x3.length < 140737488355328 then (Yka.l0 k x0 (x3 ++ [bt x0 x4]) (wrap64 (x4 + 1))) else (none))) else (if x3.length < 140737488355328 then (Yka.l0 k x0 (x3 ++ [bt x0 x4]) (wrap64 (x4 + 1))) else (none))) else (none)) else (some (strOfNums x3))
def Yka.f (k : Nat) (a0 : ByteArray) : Option (ByteArray) := Yka.l0 k a0 ([] : List Int) 0
theorem Yka.calls (k : Nat) (a0 r : ByteArray) (w : World) (hE : EnvOk w) (h : Yka.f k a0 = some r) :
  Calls Tryz.prog 47 #[.string a0] w fun e w' => e = .returned (.string r) ∧ Below w.heap.size w w' := by
 have HE := Ya.mk hE
 clear hE
 have HB := Ya.mk (Below.refl w.heap.size w)
 have H : (Yka.l0 k a0 ([] : List Int) 0) = some r := h
 clear h
 have H' := Ya.mk H
 clear H
 go_enter Tryz.func47, Tryz.ntmps47
 go_wp2
 go_loopg [3, 4] k (fun kq v3 v4 w' => ∃ (aE : List Int) (aA : Int), v4 = .int .i64 aA ∧ Ya (Yka.l0 kq a0 aE aA = some r) ∧ Ya (kq ≤ k) ∧ Ya (Kd.R (Kd.int .u8) 5 w' w.heap.size (fun _ => True) v3 aE) ∧ Ya (Below w.heap.size w w'))
 case atStart => exact ⟨(([] : List Int)), (0), Zf, H', ⟨Nat.le_refl _⟩, ⟨Zfa⟩, ⟨Za⟩⟩
 case round =>
  clear H'
  obtain ⟨aE, aA, rfl, HA, dD, HO_3, HB⟩ := hrel
  cases gk with
  | zero => exact absurd HA.out (by simp [Yka.l0])
  | succ k1 =>
   have H := HA.out
   clear HA
   simp only [Yka.l0] at H
   by_cases c2 : aA < (a0.size : Int)
   rotate_left
   ·rw [if_neg c2] at H
    have eT : decide (aA < (a0.size : Int)) = false := decide_eq_false c2
    clear c2
    obtain rfl := Option.some.inj H
    have aXt := Ygh (P := Tryz.prog) Tryz.underlying62 Tryz.underlying5 Tryz.underlying9 (Kd.own_of_R HO_3.out)
    go_wp2
    go_ret
    exact ⟨Zk, Za⟩
   rw [if_pos c2] at H
   have eT : decide (aA < (a0.size : Int)) = true := decide_eq_true c2
   clear c2
   by_cases c3 : 0 ≤ aA
   rotate_left
   ·rw [if_neg c3] at H
    exact absurd H Zv
   rw [if_pos c3] at H
   have cJ : decide (0 ≤ aA) = true := decide_eq_true c3
   clear c3
   by_cases c5 : (bt a0 aA) ≥ 65
   rotate_left
   ·rw [if_neg c5] at H
    have dL : decide (65 ≤ (bt a0 aA)) = false := decide_eq_false c5
    clear c5
    by_cases c11 : aE.length < 140737488355328
    rotate_left
    ·rw [if_neg c11] at H
     exact absurd H Zv
    rw [if_pos c11] at H
    have aBg := Ya.mk c11
    clear c11
    obtain ⟨aJH, uE⟩ : ∃ y_ : List Int, y_ = (aE ++ [bt a0 aA]) := ⟨_, rfl⟩
    replace H : (Yka.l0 k1 a0 aJH (wrap64 (aA + 1))) = some r := by first | (rw [uE]; with_reducible exact H) | (have dK := (Option.bind_some _ _).symm.trans H; rw [uE]; with_reducible exact dK) | (have dK := (Option.bind_some _ _).symm.trans H; with_reducible exact dK) | with_reducible exact H | (rw [uE]; exact H) | exact H
    have aJI := Ya.mk uE
    clear uE
    have H' := Ya.mk H
    clear H
    have p4 : 0 ≤ (aA : Int) := of_decide_eq_true Zc
    have q4 : aA < (a0.size : Int) := of_decide_eq_true Zc
    have kN := Yab a0 aA
    replace p4 := eq_true p4
    replace q4 := eq_true q4
    go_wp2_with (first | ((with_reducible refine Yge (b := .append) (xs := #[.tmp 23, .tmp 25]) rfl ?_); at_builtin; refine Kd.R_append (Kd.int .u8) (w0 := w) w.heap.size rfl (.tmp 23) (.tmp 25) 62 5 (.int .u8 0) 1 rfl Tryz.underlying62 Ytl rfl Zea Zl u3 aE (bt a0 aA) [.int .u8 (bt a0 aA)] (fun _ => True) (fun _ => False) rfl rfl ?aP (fun _ hk => hk.elim) ?aF ?aO ?aB ?aS ?aL ?_; (case aP => exact rfl); (case aB => exact Za); (case aF => exact (fun _ _ => trivial)); (case aO => exact Zm); (case aS => exact (Yda Za)); (case aL => have := aBg.out; omega); intro aYo vG ho hb hg hat; rw [← aJI.out] at ho; have aM := Ya.mk (hb); have aU := Ya.mk (ho); clear HB; clear HO_3; have HB := aM; have aJJ := aU; clear aM aU; clear ho hb hg hat))
    go_roundg k1
    case measure => have := dD.out; omega
    case rel => exact ⟨(aJH), (wrap64 (aA + 1)), Zf, H', ⟨Zaa⟩, ⟨by (with_reducible repeat (first | apply Kd.R_alloc | apply Kd.R_drewN | apply Kd.R_drew)); exact aJJ.out⟩, ⟨Za⟩⟩
   rw [if_pos c5] at H
   have dL : decide (65 ≤ (bt a0 aA)) = true := decide_eq_true c5
   clear c5
   by_cases c6 : (bt a0 aA) ≤ 90
   rotate_left
   ·rw [if_neg c6] at H
    have dP : decide ((bt a0 aA) ≤ 90) = false := decide_eq_false c6
    clear c6
    by_cases c9 : aE.length < 140737488355328
    rotate_left
    ·rw [if_neg c9] at H
     exact absurd H Zv
    rw [if_pos c9] at H
    have vN := Ya.mk c9
    clear c9
    obtain ⟨aJK, uF⟩ : ∃ y_ : List Int, y_ = (aE ++ [bt a0 aA]) := ⟨_, rfl⟩
    replace H : (Yka.l0 k1 a0 aJK (wrap64 (aA + 1))) = some r := by first | (rw [uF]; with_reducible exact H) | (have dK := (Option.bind_some _ _).symm.trans H; rw [uF]; with_reducible exact dK) | (have dK := (Option.bind_some _ _).symm.trans H; with_reducible exact dK) | with_reducible exact H | (rw [uF]; exact H) | exact H
    have aJL := Ya.mk uF
    clear uF
    have H' := Ya.mk H
    clear H
    have p4 : 0 ≤ (aA : Int) := of_decide_eq_true Zc
    have q4 : aA < (a0.size : Int) := of_decide_eq_true Zc
    have kN := Yab a0 aA
    replace p4 := eq_true p4
    replace q4 := eq_true q4
    go_wp2_with (first | ((with_reducible refine Yge (b := .append) (xs := #[.tmp 23, .tmp 25]) rfl ?_); at_builtin; refine Kd.R_append (Kd.int .u8) (w0 := w) w.heap.size rfl (.tmp 23) (.tmp 25) 62 5 (.int .u8 0) 1 rfl Tryz.underlying62 Ytl rfl Zea Zl u3 aE (bt a0 aA) [.int .u8 (bt a0 aA)] (fun _ => True) (fun _ => False) rfl rfl ?aP (fun _ hk => hk.elim) ?aF ?aO ?aB ?aS ?aL ?_; (case aP => exact rfl); (case aB => exact Za); (case aF => exact (fun _ _ => trivial)); (case aO => exact Zm); (case aS => exact (Yda Za)); (case aL => have := vN.out; omega); intro aYp qE ho hb hg hat; rw [← aJL.out] at ho; have aM := Ya.mk (hb); have aU := Ya.mk (ho); clear HB; clear HO_3; have HB := aM; have aJM := aU; clear aM aU; clear ho hb hg hat))
    go_roundg k1
    case measure => have := dD.out; omega
    case rel => exact ⟨(aJK), (wrap64 (aA + 1)), Zf, H', ⟨Zaa⟩, ⟨by (with_reducible repeat (first | apply Kd.R_alloc | apply Kd.R_drewN | apply Kd.R_drew)); exact aJM.out⟩, ⟨Za⟩⟩
   rw [if_pos c6] at H
   have dP : decide ((bt a0 aA) ≤ 90) = true := decide_eq_true c6
   clear c6
   by_cases c7 : aE.length < 140737488355328
   rotate_left
   ·rw [if_neg c7] at H
    exact absurd H Zv
   rw [if_pos c7] at H
   have aWg := Ya.mk c7
   clear c7
   obtain ⟨aJN, uG⟩ : ∃ y_ : List Int, y_ = (aE ++ [((bt a0 aA) + 32) % 256]) := ⟨_, rfl⟩
   replace H : (Yka.l0 k1 a0 aJN (wrap64 (aA + 1))) = some r := by first | (rw [uG]; with_reducible exact H) | (have dK := (Option.bind_some _ _).symm.trans H; rw [uG]; with_reducible exact dK) | (have dK := (Option.bind_some _ _).symm.trans H; with_reducible exact dK) | with_reducible exact H | (rw [uG]; exact H) | exact H
   have aJO := Ya.mk uG
   clear uG
   have H' := Ya.mk H
   clear H
   have p4 : 0 ≤ (aA : Int) := of_decide_eq_true Zc
   have q4 : aA < (a0.size : Int) := of_decide_eq_true Zc
   have kN := Yab a0 aA
   replace p4 := eq_true p4
   replace q4 := eq_true q4
   go_wp2_with (first | ((with_reducible refine Yge (b := .append) (xs := #[.tmp 23, .tmp 25]) rfl ?_); at_builtin; refine Kd.R_append (Kd.int .u8) (w0 := w) w.heap.size rfl (.tmp 23) (.tmp 25) 62 5 (.int .u8 0) 1 rfl Tryz.underlying62 Ytl rfl Zea Zl u3 aE (((bt a0 aA) + 32) % 256) [.int .u8 (((bt a0 aA) + 32) % 256)] (fun _ => True) (fun _ => False) rfl rfl ?aP (fun _ hk => hk.elim) ?aF ?aO ?aB ?aS ?aL ?_; (case aP => exact rfl); (case aB => exact Za); (case aF => exact (fun _ _ => trivial)); (case aO => exact Zm); (case aS => exact (Yda Za)); (case aL => have := aWg.out; omega); intro aYq w8 ho hb hg hat; rw [← aJO.out] at ho; have aM := Ya.mk (hb); have aU := Ya.mk (ho); clear HB; clear HO_3; have HB := aM; have aJP := aU; clear aM aU; clear ho hb hg hat))
   go_roundg k1
   case measure => have := dD.out; omega
   case rel => exact ⟨(aJN), (wrap64 (aA + 1)), Zf, H', ⟨Zaa⟩, ⟨by (with_reducible repeat (first | apply Kd.R_alloc | apply Kd.R_drewN | apply Kd.R_drew)); exact aJP.out⟩, ⟨Za⟩⟩
end Go.Proofs.YtnmglnglbdpjjaaGreatDoor.X
