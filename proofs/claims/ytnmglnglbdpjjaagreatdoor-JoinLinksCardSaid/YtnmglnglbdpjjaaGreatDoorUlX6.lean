/- Printed by a program of ours: functions as plain Lean, and what a call of each does. -/
import Derived.Test.YtnmglnglbdpjjaaGreatDoorUlWords
import Derived.Test.YtnmglnglbdpjjaaGreatDoorUlX0
import Derived.Test.YtnmglnglbdpjjaaGreatDoorUlX5
namespace Go.Proofs.YtnmglnglbdpjjaaGreatDoor.X
open Go.RowKit Go.Yw.PrintWords Go.Yw.PrintLast Go.Yw.PrintMore
attribute [local go_sem] Yxd Yae Yoe Yqe Yld Yjd Yyd Yzd
set_option linter.unusedVariables false
set_option linter.unusedSimpArgs false
set_option maxHeartbeats 8000000
set_option maxRecDepth 100000
def Ys.l0 : Nat → ByteArray → ByteArray → ByteArray → Int → Option (ByteArray)
 | 0, _, _, _, _ => none
 | k + 1, x0, x1, x5, x6 => if x6 < (x0.size : Int) then (if 0 ≤ x6 then (if (bt x0 x6) ≤ 32 then (if x6 ≤ (wrap64 (x6 + 1)) then (if (wrap64 (x6 + 1)) ≤ (x0.size : Int) then ((Yv.f k (x0.extract (x6 : Int).toNat ((wrap64 (x6 + 1)) : Int).toNat) (⟨#[]⟩ : ByteArray)).bind fun eH => (if x5.size + eH.size ≤ 9223372036854775807 then (Ys.l0 k x0 x1 (x5 ++ eH) (wrap64 (x6 + 1))) else (none))) else (none)) else (none)) else (if (bt x0 x6) > 126 then (if x6 ≤ (wrap64 (x6 + 1)) then (if (wrap64 (x6 + 1)) ≤ (x0.size : Int) then ((Yv.f k (x0.extract (x6 : Int).toNat ((wrap64 (x6 + 1)) : Int).toNat) (⟨#[]⟩ : ByteArray)).bind fun tI => (if x5.size + tI.size ≤ 9223372036854775807 then (Ys.l0 k x0 x1 (x5 ++ tI) (wrap64 (x6 + 1))) else (none))) else (none)) else (none)) else ((Yha.f k (bt x0 x6) (⟨#[34, 60, 62]⟩ : ByteArray)).bind fun uX => (if uX = true then (if x6 ≤ (wrap64 (x6 + 1)) then (if (wrap64 (x6 + 1)) ≤ (x0.size : Int) then ((Yv.f k (x0.extract (x6 : Int).toNat ((wrap64 (x6 + 1)) : Int).toNat) (⟨#[]⟩ : ByteArray)).bind fun tJ => (if x5.size + tJ.size ≤ 9223372036854775807 then (Ys.l0 k x0 x1 (x5 ++ tJ) (wrap64 (x6 + 1))) else (none))) else (none)) else (none)) else ((Yha.f k (bt x0 x6) x1).bind fun oO => (if oO = true then (if x6 ≤ (wrap64 (x6 + 1)) then (if (wrap64 (x6 + 1)) ≤ (x0.size : Int) then ((Yv.f k (x0.extract (x6 : Int).toNat ((wrap64 (x6 + 1)) : Int).toNat) (⟨#[]⟩ : ByteArray)).bind fun tK => (if x5.size + tK.size ≤ 9223372036854775807 then (Ys.l0 k x0 x1 (x5 ++ tK) (wrap64 (x6 + 1))) else (none))) else (none)) else (none)) else (if x6 ≤ (wrap64 (x6 + 1)) then (if (wrap64 (x6 + 1)) ≤ (x0.size : Int) then (if x5.size + (x0.extract (x6 : Int).toNat ((wrap64 (x6 + 1)) : Int).toNat).size ≤ 9223372036854775807 then (Ys.l0 k x0 x1 (x5 ++ (x0.extract (x6 : Int).toNat ((wrap64 (x6 + 1)) : Int).toNat)) (wrap64 (x6 + 1))) else (none)) else (none)) else (none)))))))) else (none)) else (some x5)
def Ys.f (k : Nat) (a0 a1 : ByteArray) : Option (ByteArray) := Ys.l0 k a0 a1 (⟨#[]⟩ : ByteArray) 0
theorem Ys.calls (k : Nat) (a0 a1 r : ByteArray) (w : World) (hE : EnvOk w) (h : Ys.f k a0 a1 = some r) :
  Calls Tryz.prog 51 #[.string a0, .string a1] w fun e w' => e = .returned (.string r) ∧ Below w.heap.size w w' := by
 have HE := Ya.mk hE
 clear hE
 have HB := Ya.mk (Below.refl w.heap.size w)
 have H : (Ys.l0 k a0 a1 (⟨#[]⟩ : ByteArray) 0) = some r := h
 clear h
 have H' := Ya.mk H
 clear H
 go_enter Tryz.func51, Tryz.ntmps51
 go_wp2
 go_loopg [5, 6] k (fun kq v5 v6 w' => ∃ (bA : ByteArray) (aC : Int), v5 = .string bA ∧ v6 = .int .i64 aC ∧ Ya (Ys.l0 kq a0 a1 bA aC = some r) ∧ Ya (kq ≤ k) ∧ Ya (Below w.heap.size w w'))
 case atStart => exact ⟨((⟨#[]⟩ : ByteArray)), (0), Zf, Zf, H', ⟨Nat.le_refl _⟩, ⟨Za⟩⟩
 case round =>
  clear H'
  try clear p2
  obtain ⟨bA, aC, rfl, rfl, HA, cU, HB⟩ := hrel
  cases gk with
  | zero => exact absurd HA.out (by simp [Ys.l0])
  | succ k1 =>
   have H := HA.out
   clear HA
   simp only [Ys.l0] at H
   by_cases c3 : aC < (a0.size : Int)
   rotate_left
   ·rw [if_neg c3] at H
    have cB : decide (aC < (a0.size : Int)) = false := decide_eq_false c3
    clear c3
    obtain rfl := Option.some.inj H
    go_wp2
    go_ret
    exact ⟨Zl, Za⟩
   rw [if_pos c3] at H
   have cB : decide (aC < (a0.size : Int)) = true := decide_eq_true c3
   clear c3
   by_cases c4 : 0 ≤ aC
   rotate_left
   ·rw [if_neg c4] at H
    exact absurd H Zv
   rw [if_pos c4] at H
   have bX : decide (0 ≤ aC) = true := decide_eq_true c4
   clear c4
   by_cases c6 : (bt a0 aC) ≤ 32
   ·rw [if_pos c6] at H
    have dN : decide ((bt a0 aC) ≤ 32) = true := decide_eq_true c6
    clear c6
    have cQ := eq_true (of_decide_eq_true Zc : 0 ≤ aC)
    by_cases c8 : aC ≤ (wrap64 (aC + 1))
    rotate_left
    ·rw [if_neg c8] at H
     exact absurd H Zv
    rw [if_pos c8] at H
    have gQ := eq_true c8
    have iW : decide (aC ≤ (wrap64 (aC + 1))) = true := decide_eq_true c8
    by_cases c9 : (wrap64 (aC + 1)) ≤ (a0.size : Int)
    rotate_left
    ·rw [if_neg c9] at H
     exact absurd H Zv
    rw [if_pos c9] at H
    have iA := eq_true c9
    have lN : decide ((wrap64 (aC + 1)) ≤ (a0.size : Int)) = true := decide_eq_true c9
    replace H := Option.bind_eq_some_iff.mp H
    obtain ⟨eH, aBr, H⟩ := H
    try dsimp -simprocs only at H
    have A10 := Ya.mk aBr
    clear aBr
    by_cases c11 : bA.size + eH.size ≤ 9223372036854775807
    rotate_left
    ·rw [if_neg c11] at H
     exact absurd H Zv
    rw [if_pos c11] at H
    have gR := eq_true c11
    have pQ : decide (bA.size + eH.size ≤ 9223372036854775807) = true := decide_eq_true c11
    try have aIG : (9223372036854775807 < bA.size + eH.size) = False := eq_false (Nat.not_lt.2 c11)
    have H' := Ya.mk H
    clear H
    have p5 : 0 ≤ (aC : Int) := of_decide_eq_true Zc
    have q5 : aC < (a0.size : Int) := of_decide_eq_true Zc
    have kB := Yza a0 aC
    replace p5 := eq_true p5
    replace q5 := eq_true q5
    go_wp2_with (first | ((with_reducible refine Yi (f := 90) rfl ?_); refine Yaa (some 38) rfl rfl Tryz.func90 Zi rfl #[.string (a0.extract (aC : Int).toNat ((wrap64 (aC + 1)) : Int).toNat), .string (⟨#[]⟩ : ByteArray)] rfl Zb ?_; (with_reducible refine (Yv.calls k1 (a0.extract (aC : Int).toNat ((wrap64 (aC + 1)) : Int).toNat) (⟨#[]⟩ : ByteArray) eH _ ?side1 A10.out).mono ?_); (case side1 => first | exact HE.out | exact EnvOk.below HE.out Za); rintro e uN ⟨rfl, hb⟩; refine ⟨_, rfl, ?_⟩; have aH := Ya.mk (Yt Za hb); clear HB; have HB := aH; clear aH; (try clear hb); (try clear bU); (try clear hk); (try clear hi)))
    go_roundg k1
    case measure => have := cU.out; omega
    case rel => exact ⟨(bA ++ eH), (wrap64 (aC + 1)), Zf, Zf, H', ⟨Zaa⟩, ⟨Za⟩⟩
   rw [if_neg c6] at H
   have dN : decide ((bt a0 aC) ≤ 32) = false := decide_eq_false c6
   clear c6
   by_cases eL : (bt a0 aC) > 126
   ·rw [if_pos eL] at H
    have hD : decide (126 < (bt a0 aC)) = true := decide_eq_true eL
    clear eL
    have iC := eq_true (of_decide_eq_true Zc : 0 ≤ aC)
    by_cases dG : aC ≤ (wrap64 (aC + 1))
    rotate_left
    ·rw [if_neg dG] at H
     exact absurd H Zv
    rw [if_pos dG] at H
    have eS := eq_true dG
    have pN : decide (aC ≤ (wrap64 (aC + 1))) = true := decide_eq_true dG
    by_cases eN : (wrap64 (aC + 1)) ≤ (a0.size : Int)
    rotate_left
    ·rw [if_neg eN] at H
     exact absurd H Zv
    rw [if_pos eN] at H
    have gZ := eq_true eN
    have kC : decide ((wrap64 (aC + 1)) ≤ (a0.size : Int)) = true := decide_eq_true eN
    replace H := Option.bind_eq_some_iff.mp H
    obtain ⟨tI, oI, H⟩ := H
    try dsimp -simprocs only at H
    have A17 := Ya.mk oI
    clear oI
    by_cases eO : bA.size + tI.size ≤ 9223372036854775807
    rotate_left
    ·rw [if_neg eO] at H
     exact absurd H Zv
    rw [if_pos eO] at H
    have nV := eq_true eO
    have pO : decide (bA.size + tI.size ≤ 9223372036854775807) = true := decide_eq_true eO
    try have aEE : (9223372036854775807 < bA.size + tI.size) = False := eq_false (Nat.not_lt.2 eO)
    have H' := Ya.mk H
    clear H
    have p5 : 0 ≤ (aC : Int) := of_decide_eq_true Zc
    have q5 : aC < (a0.size : Int) := of_decide_eq_true Zc
    have kB := Yza a0 aC
    replace p5 := eq_true p5
    replace q5 := eq_true q5
    go_wp2_with (first | ((with_reducible refine Yi (f := 90) rfl ?_); refine Yaa (some 38) rfl rfl Tryz.func90 Zi rfl #[.string (a0.extract (aC : Int).toNat ((wrap64 (aC + 1)) : Int).toNat), .string (⟨#[]⟩ : ByteArray)] rfl Zb ?_; (with_reducible refine (Yv.calls k1 (a0.extract (aC : Int).toNat ((wrap64 (aC + 1)) : Int).toNat) (⟨#[]⟩ : ByteArray) tI _ ?side1 A17.out).mono ?_); (case side1 => first | exact HE.out | exact EnvOk.below HE.out Za); rintro e w19 ⟨rfl, hb⟩; refine ⟨_, rfl, ?_⟩; have aH := Ya.mk (Yt Za hb); clear HB; have HB := aH; clear aH; (try clear hb); (try clear bU); (try clear hk); (try clear hi)))
    go_roundg k1
    case measure => have := cU.out; omega
    case rel => exact ⟨(bA ++ tI), (wrap64 (aC + 1)), Zf, Zf, H', ⟨Zaa⟩, ⟨Za⟩⟩
   rw [if_neg eL] at H
   have hD : decide (126 < (bt a0 aC)) = false := decide_eq_false eL
   clear eL
   replace H := Option.bind_eq_some_iff.mp H
   obtain ⟨uX, aIH, H⟩ := H
   try dsimp -simprocs only at H
   have dV := Ya.mk aIH
   clear aIH
   by_cases mH : uX = true
   ·subst mH
    rw [if_pos rfl] at H
    have lJ := eq_true (of_decide_eq_true Zc : 0 ≤ aC)
    by_cases jG : aC ≤ (wrap64 (aC + 1))
    rotate_left
    ·rw [if_neg jG] at H
     exact absurd H Zv
    rw [if_pos jG] at H
    have nW := eq_true jG
    have nX : decide (aC ≤ (wrap64 (aC + 1))) = true := decide_eq_true jG
    by_cases jX : (wrap64 (aC + 1)) ≤ (a0.size : Int)
    rotate_left
    ·rw [if_neg jX] at H
     exact absurd H Zv
    rw [if_pos jX] at H
    have pU := eq_true jX
    have pV : decide ((wrap64 (aC + 1)) ≤ (a0.size : Int)) = true := decide_eq_true jX
    replace H := Option.bind_eq_some_iff.mp H
    obtain ⟨tJ, aII, H⟩ := H
    try dsimp -simprocs only at H
    have A25 := Ya.mk aII
    clear aII
    by_cases uY : bA.size + tJ.size ≤ 9223372036854775807
    rotate_left
    ·rw [if_neg uY] at H
     exact absurd H Zv
    rw [if_pos uY] at H
    have aIJ := eq_true uY
    have aWx : decide (bA.size + tJ.size ≤ 9223372036854775807) = true := decide_eq_true uY
    try have aWy : (9223372036854775807 < bA.size + tJ.size) = False := eq_false (Nat.not_lt.2 uY)
    have H' := Ya.mk H
    clear H
    have p5 : 0 ≤ (aC : Int) := of_decide_eq_true Zc
    have q5 : aC < (a0.size : Int) := of_decide_eq_true Zc
    have kB := Yza a0 aC
    replace p5 := eq_true p5
    replace q5 := eq_true q5
    go_wp2_with (first | (go_at_call 88; (with_reducible refine (Yha.calls k1 (bt a0 aC) (⟨#[34, 60, 62]⟩ : ByteArray) true _ ?side1 dV.out).mono ?_); (case side1 => first | exact HE.out | exact EnvOk.below HE.out Za); rintro e w' ⟨rfl, ⟨nd, rfl⟩⟩) | ((with_reducible refine Yi (f := 90) rfl ?_); refine Yaa (some 38) rfl rfl Tryz.func90 Zi rfl #[.string (a0.extract (aC : Int).toNat ((wrap64 (aC + 1)) : Int).toNat), .string (⟨#[]⟩ : ByteArray)] rfl Zb ?_; (with_reducible refine (Yv.calls k1 (a0.extract (aC : Int).toNat ((wrap64 (aC + 1)) : Int).toNat) (⟨#[]⟩ : ByteArray) tJ _ ?side1 A25.out).mono ?_); (case side1 => first | exact HE.out | exact EnvOk.below HE.out Za); rintro e w27 ⟨rfl, hb⟩; refine ⟨_, rfl, ?_⟩; have aH := Ya.mk (Yt Za hb); clear HB; have HB := aH; clear aH; (try clear hb); (try clear bU); (try clear hk); (try clear hi)))
    go_roundg k1
    case measure => have := cU.out; omega
    case rel => exact ⟨(bA ++ tJ), (wrap64 (aC + 1)), Zf, Zf, H', ⟨Zaa⟩, ⟨Za⟩⟩
   replace mH := Bool.eq_false_iff.mpr mH
   subst mH
   rw [if_neg (show ¬ (false = true) by decide)] at H
   replace H := Option.bind_eq_some_iff.mp H
   obtain ⟨oO, tG, H⟩ := H
   try dsimp -simprocs only at H
   have A28 := Ya.mk tG
   clear tG
   by_cases oM : oO = true
   rotate_left
   ·replace oM := Bool.eq_false_iff.mpr oM
    subst oM
    rw [if_neg (show ¬ (false = true) by decide)] at H
    have aWz := eq_true (of_decide_eq_true Zc : 0 ≤ aC)
    by_cases c37 : aC ≤ (wrap64 (aC + 1))
    rotate_left
    ·rw [if_neg c37] at H
     exact absurd H Zv
    rw [if_pos c37] at H
    have aWA := eq_true c37
    have aWB : decide (aC ≤ (wrap64 (aC + 1))) = true := decide_eq_true c37
    by_cases c38 : (wrap64 (aC + 1)) ≤ (a0.size : Int)
    rotate_left
    ·rw [if_neg c38] at H
     exact absurd H Zv
    rw [if_pos c38] at H
    have aWC := eq_true c38
    have aWD : decide ((wrap64 (aC + 1)) ≤ (a0.size : Int)) = true := decide_eq_true c38
    by_cases c39 : bA.size + (a0.extract (aC : Int).toNat ((wrap64 (aC + 1)) : Int).toNat).size ≤ 9223372036854775807
    rotate_left
    ·rw [if_neg c39] at H
     exact absurd H Zv
    rw [if_pos c39] at H
    have aWE := eq_true c39
    have aWF : decide (bA.size + (a0.extract (aC : Int).toNat ((wrap64 (aC + 1)) : Int).toNat).size ≤ 9223372036854775807) = true := decide_eq_true c39
    try have aWG : (9223372036854775807 < bA.size + (a0.extract (aC : Int).toNat ((wrap64 (aC + 1)) : Int).toNat).size) = False := eq_false (Nat.not_lt.2 c39)
    try have aWH : (9223372036854775807 < bA.size + (((wrap64 (aC + 1)) : Int).toNat - (aC : Int).toNat)) = False := eq_false (by have h9_ := c39; rw [ByteArray.size_extract] at h9_; omega)
    have H' := Ya.mk H
    clear H
    have p5 : 0 ≤ (aC : Int) := of_decide_eq_true Zc
    have q5 : aC < (a0.size : Int) := of_decide_eq_true Zc
    have kB := Yza a0 aC
    replace p5 := eq_true p5
    replace q5 := eq_true q5
    go_wp2_with (first | (go_at_call 88; (with_reducible refine (Yha.calls k1 (bt a0 aC) (⟨#[34, 60, 62]⟩ : ByteArray) false _ ?side1 dV.out).mono ?_); (case side1 => first | exact HE.out | exact EnvOk.below HE.out Za); rintro e w' ⟨rfl, ⟨nd, rfl⟩⟩) | (go_at_call 88; (with_reducible refine (Yha.calls k1 (bt a0 aC) a1 false _ ?side1 A28.out).mono ?_); (case side1 => first | exact HE.out | exact EnvOk.below HE.out Za); rintro e w' ⟨rfl, ⟨nd, rfl⟩⟩))
    go_roundg k1
    case measure => have := cU.out; omega
    case rel => exact ⟨(bA ++ (a0.extract (aC : Int).toNat ((wrap64 (aC + 1)) : Int).toNat)), (wrap64 (aC + 1)), Zf, Zf, H', ⟨Zaa⟩, ⟨Za⟩⟩
   subst oM
   rw [if_pos rfl] at H
   have aWI := eq_true (of_decide_eq_true Zc : 0 ≤ aC)
   by_cases rD : aC ≤ (wrap64 (aC + 1))
   rotate_left
   ·rw [if_neg rD] at H
    exact absurd H Zv
   rw [if_pos rD] at H
   have aBs := eq_true rD
   have aBt : decide (aC ≤ (wrap64 (aC + 1))) = true := decide_eq_true rD
   by_cases c32 : (wrap64 (aC + 1)) ≤ (a0.size : Int)
   rotate_left
   ·rw [if_neg c32] at H
    exact absurd H Zv
   rw [if_pos c32] at H
   have aIK := eq_true c32
   have aWJ : decide ((wrap64 (aC + 1)) ≤ (a0.size : Int)) = true := decide_eq_true c32
   replace H := Option.bind_eq_some_iff.mp H
   obtain ⟨tK, aIL, H⟩ := H
   try dsimp -simprocs only at H
   have A33 := Ya.mk aIL
   clear aIL
   by_cases c34 : bA.size + tK.size ≤ 9223372036854775807
   rotate_left
   ·rw [if_neg c34] at H
    exact absurd H Zv
   rw [if_pos c34] at H
   have aEO := eq_true c34
   have aWK : decide (bA.size + tK.size ≤ 9223372036854775807) = true := decide_eq_true c34
   try have aWL : (9223372036854775807 < bA.size + tK.size) = False := eq_false (Nat.not_lt.2 c34)
   have H' := Ya.mk H
   clear H
   have p5 : 0 ≤ (aC : Int) := of_decide_eq_true Zc
   have q5 : aC < (a0.size : Int) := of_decide_eq_true Zc
   have kB := Yza a0 aC
   replace p5 := eq_true p5
   replace q5 := eq_true q5
   go_wp2_with (first | (go_at_call 88; (with_reducible refine (Yha.calls k1 (bt a0 aC) (⟨#[34, 60, 62]⟩ : ByteArray) false _ ?side1 dV.out).mono ?_); (case side1 => first | exact HE.out | exact EnvOk.below HE.out Za); rintro e w' ⟨rfl, ⟨nd, rfl⟩⟩) | (go_at_call 88; (with_reducible refine (Yha.calls k1 (bt a0 aC) a1 true _ ?side1 A28.out).mono ?_); (case side1 => first | exact HE.out | exact EnvOk.below HE.out Za); rintro e w' ⟨rfl, ⟨nd, rfl⟩⟩) | ((with_reducible refine Yi (f := 90) rfl ?_); refine Yaa (some 38) rfl rfl Tryz.func90 Zi rfl #[.string (a0.extract (aC : Int).toNat ((wrap64 (aC + 1)) : Int).toNat), .string (⟨#[]⟩ : ByteArray)] rfl Zb ?_; (with_reducible refine (Yv.calls k1 (a0.extract (aC : Int).toNat ((wrap64 (aC + 1)) : Int).toNat) (⟨#[]⟩ : ByteArray) tK _ ?side1 A33.out).mono ?_); (case side1 => first | exact HE.out | exact EnvOk.below HE.out Za); rintro e yP ⟨rfl, hb⟩; refine ⟨_, rfl, ?_⟩; have aH := Ya.mk (Yt Za hb); clear HB; have HB := aH; clear aH; (try clear hb); (try clear bU); (try clear hk); (try clear hi)))
   go_roundg k1
   case measure => have := cU.out; omega
   case rel => exact ⟨(bA ++ tK), (wrap64 (aC + 1)), Zf, Zf, H', ⟨Zaa⟩, ⟨Za⟩⟩
def Yfa.l0 : Nat → ByteArray → List ByteArray → Int → Option (List ByteArray)
 | 0, _, _, _ => none
 | k + 1, x0, x3, x4 => if x4 < (x0.size : Int) then (if 0 ≤ x4 then ((Yya.f (bt x0 x4)).bind fun aFJ => (if aFJ = true then (if x3.length < 8796093022208 then (Yfa.l0 k x0 (x3 ++ [(⟨#[]⟩ : ByteArray)]) (wrap64 (x4 + 1))) else (none)) else (if 0 ≤ (wrap64 ((x3.length : Int) - 1)) then (if (wrap64 ((x3.length : Int) - 1)) < (x3.length : Int) then (if x4 ≤ (wrap64 (x4 + 1)) then (if (wrap64 (x4 + 1)) ≤ (x0.size : Int) then (if (rdOf ByteArray.empty x3 (wrap64 ((x3.length : Int) - 1))).size + (x0.extract (x4 : Int).toNat ((wrap64 (x4 + 1)) : Int).toNat).size ≤ 9223372036854775807 then (Yfa.l0 k x0 (x3.set ((wrap64 ((x3.length : Int) - 1)) : Int).toNat ((rdOf ByteArray.empty x3 (wrap64 ((x3.length : Int) - 1))) ++ (x0.extract (x4 : Int).toNat ((wrap64 (x4 + 1)) : Int).toNat))) (wrap64 (x4 + 1))) else (none)) else (none)) else (none)) else (none)) else (none)))) else (none)) else (some x3)
def Yfa.f (k : Nat) (a0 : ByteArray) : Option (List ByteArray) := Yfa.l0 k a0 (([(⟨#[]⟩ : ByteArray)] : List ByteArray)) 0
def Yfa.T7 : Bool × List (List Nat × List Nat) := (true, [([], []), ([], []), ([1], [1]), ([2], [2]), ([0, 3], [0, 3]), ([4], [4]), ([], []), ([], []), ([], []), ([8], [8]), ([6, 7, 9], [6, 7, 9]), ([5, 10], [5, 10]), ([0, 3, 0, 1, 2, 3, 4, 5, 6, 7, 8, 9, 10, 11], [0, 3]), ([12, 11, 0, 1, 2, 3, 4, 5, 6, 7, 8, 9, 10, 11], [11, 12])])
def Yfa.B7 : List Nat := [0, 0, 2, 6, 15, 31, 0, 0, 0, 256, 960, 2047, 4095, 8191]
theorem Yfa.tab7 : rtab .any (opsOf Tryz.f64 7) = Yfa.T7 := by kernel_rfl
theorem Yfa.bits7 : Ykg Yfa.T7.2 Yfa.B7 = true := by kernel_rfl
theorem Yfa.calls (k : Nat) (a0 : ByteArray) (r : List ByteArray) (w : World) (hE : EnvOk w) (h : Yfa.f k a0 = some r) :
  Calls Tryz.prog 64 #[.string a0] w fun e w' => ∃ v0_ : Value, e = .returned (v0_) ∧ Kd.R Kd.string 9 w' w.heap.size (fun _ => True) v0_ r ∧ Below w.heap.size w w' := by
 have HE := Ya.mk hE
 clear hE
 have HB := Ya.mk (Below.refl w.heap.size w)
 have H : (Yfa.l0 k a0 (([(⟨#[]⟩ : ByteArray)] : List ByteArray)) 0) = some r := h
 clear h
 obtain ⟨aIM, tL⟩ : ∃ y_ : List ByteArray, y_ = (([(⟨#[]⟩ : ByteArray)] : List ByteArray)) := ⟨_, rfl⟩
 replace H : (Yfa.l0 k a0 aIM 0) = some r := by first | (rw [tL]; with_reducible exact H) | (have dH := (Option.bind_some _ _).symm.trans H; rw [tL]; with_reducible exact dH) | (have dH := (Option.bind_some _ _).symm.trans H; with_reducible exact dH) | with_reducible exact H | (rw [tL]; exact H) | exact H
 have aEP := Ya.mk tL
 clear tL
 have H' := Ya.mk H
 clear H
 go_enter Tryz.func64, Tryz.ntmps64
 go_wp2_with (first | ((with_reducible refine Yad (N := 5) rfl ?_); refine Kd.R_lit Kd.string _ 9 ?hg (N := 5) ?hd (xs := ([(⟨#[]⟩ : ByteArray)] : List ByteArray)) (inner := [.string (⟨#[]⟩ : ByteArray)]) (ok := fun _ => True) (okp := fun _ => True) ?hr ?hp (fun _ hk => hk) trivial (Below.refl _ _) (Nat.le_refl _) Zv ?_; (case hd => rfl); (case hg => rfl); (case hr => first | (go_simp; done) | (go_simp; rfl)); (case hp => exact (Reps.one (show Kd.M Kd.string _ _ _ (⟨#[]⟩ : ByteArray) [.string (⟨#[]⟩ : ByteArray)] from rfl) (Reps.none _ _))); intro aXD w2 ho3 hb hg_ hnew_; clear hg_ hnew_; (first | rw [← aEP.out] at ho3 | (simp only [Int.reduceToNat] at ho3; rw [← aEP.out] at ho3)); have aH := Ya.mk (Kd.R_lower ho3 (Yia Za)); have aR := Ya.mk (Yt Za hb); clear HB; have aIO := aH; have HB := aR; clear aH aR; clear hb ho3))
 go_loopg [3, 4] k (fun kq v3 v4 w' => ∃ (aD : List ByteArray) (aA : Int), v4 = .int .i64 aA ∧ Ya (Yfa.l0 kq a0 aD aA = some r) ∧ Ya (kq ≤ k) ∧ Ya (Kd.R Kd.string 9 w' w.heap.size (fun _ => True) v3 aD) ∧ Ya (Below w.heap.size w w'))
 case atStart => exact ⟨(aIM), (0), Zf, H', ⟨Nat.le_refl _⟩, ⟨by (with_reducible repeat (first | apply Kd.R_alloc | apply Kd.R_drewN | apply Kd.R_drew)); exact aIO.out⟩, ⟨Za⟩⟩
 case round =>
  clear H'
  try clear p2
  obtain ⟨aD, aA, rfl, HA, cU, HO_3, HB⟩ := hrel
  cases gk with
  | zero => exact absurd HA.out (by simp [Yfa.l0])
  | succ k1 =>
   have H := HA.out
   clear HA
   simp only [Yfa.l0] at H
   by_cases c4 : aA < (a0.size : Int)
   rotate_left
   ·rw [if_neg c4] at H
    have bX : decide (aA < (a0.size : Int)) = false := decide_eq_false c4
    clear c4
    obtain rfl := Option.some.inj H
    go_wp2
    go_ret
    exact ⟨_, Zl, Zm, Za⟩
   rw [if_pos c4] at H
   have bX : decide (aA < (a0.size : Int)) = true := decide_eq_true c4
   clear c4
   by_cases c5 : 0 ≤ aA
   rotate_left
   ·rw [if_neg c5] at H
    exact absurd H Zv
   rw [if_pos c5] at H
   have dI : decide (0 ≤ aA) = true := decide_eq_true c5
   clear c5
   replace H := Option.bind_eq_some_iff.mp H
   obtain ⟨aFJ, nU, H⟩ := H
   try dsimp -simprocs only at H
   have A7 := Ya.mk nU
   clear nU
   by_cases c8 : aFJ = true
   ·subst c8
    rw [if_pos rfl] at H
    by_cases c9 : aD.length < 8796093022208
    rotate_left
    ·rw [if_neg c9] at H
     exact absurd H Zv
    rw [if_pos c9] at H
    have uU := Ya.mk c9
    clear c9
    obtain ⟨aIP, tM⟩ : ∃ y_ : List ByteArray, y_ = (aD ++ [(⟨#[]⟩ : ByteArray)]) := ⟨_, rfl⟩
    replace H : (Yfa.l0 k1 a0 aIP (wrap64 (aA + 1))) = some r := by first | (rw [tM]; with_reducible exact H) | (have dH := (Option.bind_some _ _).symm.trans H; rw [tM]; with_reducible exact dH) | (have dH := (Option.bind_some _ _).symm.trans H; with_reducible exact dH) | with_reducible exact H | (rw [tM]; exact H) | exact H
    have aIQ := Ya.mk tM
    clear tM
    have H' := Ya.mk H
    clear H
    have p6 : 0 ≤ (aA : Int) := of_decide_eq_true Zc
    have q6 : aA < (a0.size : Int) := of_decide_eq_true Zc
    have hx6 := Yza a0 aA
    replace p6 := eq_true p6
    replace q6 := eq_true q6
    go_wp2_with (first | ((with_reducible refine Yi (f := 48) rfl ?_); refine Yaa (some 15) rfl rfl Tryz.func48 Zi rfl #[.int .u8 (bt a0 aA)] rfl Zb ?_; (with_reducible refine (Yya.calls (bt a0 aA) true _ ?side1 A7.out).mono ?_); (case side1 => first | exact HE.out | exact EnvOk.below HE.out Za); rintro e w' ⟨rfl, ⟨nd, rfl⟩⟩; refine ⟨_, rfl, ?_⟩) | ((with_reducible refine Yde (b := .append) (xs := #[.tmp 16, .tmp 17]) rfl ?_); at_builtin; refine Kd.R_append Kd.string (w0 := w) w.heap.size rfl (.tmp 16) (.tmp 17) 44 9 (.string ⟨#[]⟩) 16 rfl Tryz.underlying44 Yeg rfl Zda Zk u3 aD (⟨#[]⟩ : ByteArray) [.string (⟨#[]⟩ : ByteArray)] (fun _ => True) (fun _ => False) rfl rfl ?aP (fun _ hk => hk.elim) ?aF ?aO ?aB ?aS ?aL ?_; (case aP => exact rfl); (case aB => exact Za); (case aF => exact (fun _ _ => trivial)); (case aO => exact Zm); (case aS => exact (Yia Za)); (case aL => have := uU.out; omega); intro aXE pJ ho hb hg hat; rw [← aIQ.out] at ho; have aH := Ya.mk (hb); have aR := Ya.mk (ho); clear HB; clear HO_3; have HB := aH; have aIR := aR; clear aH aR; clear ho hb hg hat))
    go_roundg k1
    case measure => have := cU.out; omega
    case rel => exact ⟨(aIP), (wrap64 (aA + 1)), Zf, H', ⟨Zaa⟩, ⟨by (with_reducible repeat (first | apply Kd.R_alloc | apply Kd.R_drewN | apply Kd.R_drew)); exact aIR.out⟩, ⟨Za⟩⟩
   replace c8 := Bool.eq_false_iff.mpr c8
   subst c8
   rw [if_neg (show ¬ (false = true) by decide)] at H
   obtain ⟨ji11, lK⟩ : ∃ j_ : Int, (wrap64 ((aD.length : Int) - 1)) = j_ := ⟨_, rfl⟩
   replace H : (if 0 ≤ (ji11) then (if (ji11) < (aD.length : Int) then (if aA ≤ (wrap64 (aA + 1)) then (if (wrap64 (aA + 1)) ≤ (a0.size : Int) then (if (rdOf ByteArray.empty aD (ji11)).size + (a0.extract (aA : Int).toNat ((wrap64 (aA + 1)) : Int).toNat).size ≤ 9223372036854775807 then (Yfa.l0 k1 a0 (aD.set ((ji11) : Int).toNat ((rdOf ByteArray.empty aD (ji11)) ++ (a0.extract (aA : Int).toNat ((wrap64 (aA + 1)) : Int).toNat))) (wrap64 (aA + 1))) else (none)) else (none)) else (none)) else (none)) else (none)) = some r := by first | (rw [lK] at H; exact H) | (simp only [lK] at H ⊢; exact H)
   (try rw [lK] at A7)
   have hji11w : (IntKind.i64.wrap ((aD.length : Int) - 1)) = ji11 := (Yca _).trans lK
   by_cases dD : 0 ≤ (ji11)
   rotate_left
   ·rw [if_neg dD] at H
    exact absurd H Zv
   rw [if_pos dD] at H
   have dS : decide (0 ≤ (ji11)) = true := decide_eq_true dD
   clear dD
   by_cases eL : (ji11) < (aD.length : Int)
   rotate_left
   ·rw [if_neg eL] at H
    exact absurd H Zv
   rw [if_pos eL] at H
   have hD : decide ((ji11) < (aD.length : Int)) = true := decide_eq_true eL
   clear eL
   have iC := eq_true (of_decide_eq_true Zc : 0 ≤ aA)
   by_cases dG : aA ≤ (wrap64 (aA + 1))
   rotate_left
   ·rw [if_neg dG] at H
    exact absurd H Zv
   rw [if_pos dG] at H
   have eS := eq_true dG
   have pN : decide (aA ≤ (wrap64 (aA + 1))) = true := decide_eq_true dG
   by_cases eN : (wrap64 (aA + 1)) ≤ (a0.size : Int)
   rotate_left
   ·rw [if_neg eN] at H
    exact absurd H Zv
   rw [if_pos eN] at H
   have gZ := eq_true eN
   have kC : decide ((wrap64 (aA + 1)) ≤ (a0.size : Int)) = true := decide_eq_true eN
   by_cases eF : (rdOf ByteArray.empty aD (ji11)).size + (a0.extract (aA : Int).toNat ((wrap64 (aA + 1)) : Int).toNat).size ≤ 9223372036854775807
   rotate_left
   ·rw [if_neg eF] at H
    exact absurd H Zv
   rw [if_pos eF] at H
   have jK := eq_true eF
   have lI : decide ((rdOf ByteArray.empty aD (ji11)).size + (a0.extract (aA : Int).toNat ((wrap64 (aA + 1)) : Int).toNat).size ≤ 9223372036854775807) = true := decide_eq_true eF
   try have aIS : (9223372036854775807 < (rdOf ByteArray.empty aD (ji11)).size + (a0.extract (aA : Int).toNat ((wrap64 (aA + 1)) : Int).toNat).size) = False := eq_false (Nat.not_lt.2 eF)
   try have aIT : (9223372036854775807 < (rdOf ByteArray.empty aD (ji11)).size + (((wrap64 (aA + 1)) : Int).toNat - (aA : Int).toNat)) = False := eq_false (by have h9_ := eF; rw [ByteArray.size_extract] at h9_; omega)
   obtain ⟨aIU, tN⟩ : ∃ y_ : List ByteArray, y_ = (aD.set ((ji11) : Int).toNat ((rdOf ByteArray.empty aD (ji11)) ++ (a0.extract (aA : Int).toNat ((wrap64 (aA + 1)) : Int).toNat))) := ⟨_, rfl⟩
   replace H : (Yfa.l0 k1 a0 aIU (wrap64 (aA + 1))) = some r := by first | (rw [tN]; with_reducible exact H) | (have dH := (Option.bind_some _ _).symm.trans H; rw [tN]; with_reducible exact dH) | (have dH := (Option.bind_some _ _).symm.trans H; with_reducible exact dH) | with_reducible exact H | (rw [tN]; exact H) | exact H
   have aIV := Ya.mk tN
   clear tN
   have H' := Ya.mk H
   clear H
   have p6 : 0 ≤ (aA : Int) := of_decide_eq_true Zc
   have q6 : aA < (a0.size : Int) := of_decide_eq_true Zc
   have hx6 := Yza a0 aA
   replace p6 := eq_true p6
   replace q6 := eq_true q6
   try go_wp2_with (first | ((with_reducible refine Yi (f := 48) rfl ?_); refine Yaa (some 15) rfl rfl Tryz.func48 Zi rfl #[.int .u8 (bt a0 aA)] rfl Zb ?_; (with_reducible refine (Yya.calls (bt a0 aA) false _ ?side1 A7.out).mono ?_); (case side1 => first | exact HE.out | exact EnvOk.below HE.out Za); rintro e w' ⟨rfl, ⟨nd, rfl⟩⟩; refine ⟨_, rfl, ?_⟩; (try (rw [Yag wr]; generalize hq_ : World.drewN wr _ = wr; have aH : Ya (Kd.R Kd.string 9 wr w.heap.size (fun _ => True) u3 aD) := ⟨by rw [← hq_]; exact Zm⟩; have aR : Ya (Below w.heap.size w wr) := ⟨by rw [← hq_]; exact Za⟩; clear HO_3 HB hq_; have HO_3 := aH; have HB := aR; clear aH aR))))
   have aH := Ya.mk (Kd.R_drew HO_3.out)
   have aR := Ya.mk (Yc HB.out)
   clear HO_3
   clear HB
   have HO_3 := aH
   have HB := aR
   clear aH aR
   obtain ⟨aVs, aVt, aBu⟩ := Kd.R_slice HO_3.out
   (first | subst aBu | (injection aBu with f1_ f2_ f3_; have f4_ := f1_.symm; have f5_ := f3_.symm; clear f1_ f2_ f3_; subst f4_; subst f5_))
   have aFK : 0 ≤ ((ji11) : Int) := of_decide_eq_true Zc
   have aFL : (ji11) < (aD.length : Int) := of_decide_eq_true Zc
   obtain ⟨aWM, aVu, rE⟩ := Kd.at_string (Kd.R_reads' HO_3.out).2.2 (ji11) aFK aFL
   cases aVu
   replace aFK := eq_true aFK
   replace aFL := eq_true aFL
   have p18 : 0 ≤ ((ji11) : Int) := of_decide_eq_true Zc
   have q18 : ((ji11) : Int) < ((aD.length : Int) : Int) := of_decide_eq_true Zc
   obtain ⟨aFO, aVv, aBv, aBw, aFP, aVw, aBx⟩ := Kd.R_form HO_3.out Zk
   (first | cases aBv | (injection aBv with ea_ en_ ec_; (first | subst ea_ | (injection ea_ with ea_; subst ea_)); subst ec_; clear en_))
   have aFQ := Ya.mk aBw
   have aFR := Ya.mk aBx
   clear aBw aFP aBx
   (first | simp only [add_plain] at rE | skip)
   obtain ⟨uZ, vA⟩ := Kd.R_celln (⟨#[]⟩ : ByteArray) HO_3.out ((ji11) : Int) p18 q18
   replace p18 := eq_true p18
   replace q18 := eq_true q18
   have vB := Kd.R_putn HO_3.out ((ji11) : Int) ((rdOf ByteArray.empty aD (ji11)) ++ (a0.extract (aA : Int).toNat ((wrap64 (aA + 1)) : Int).toNat))
   rw [← aIV.out] at vB
   have aBy := Ya.mk vB
   clear vB
   refine Yig (n := 14) (S := fun w' => w'.cell? ⟨aFO, ((ji11)).toNat, none⟩ = some (.string (rdOf ByteArray.empty aD (ji11)))) (ds := [13]) #[false, false, false, false, false, false, false, false, false, false, false, false, false, false] Zi rfl rfl (rE) (fun hHeld => ?_); refine Ymf Yfa.tab7 Yfa.bits7 (fun HT_ HW_ => ?_)
   generalize wr.drew = w19 at HO_3 HB aFR aBy vA rE uZ hHeld ⊢
   refine Ybb (i := 0) (N := some 19) (v := ?_) (a' := ?_) #[true, false, false, false, false, false, false, false, false, false, false, false, false, false] rfl rfl (Yua HT_.out Zi) (fun _ _ _ h => h) (Or.inl ⟨Zga, ?_⟩) ?_ ?_
   rotate_left
   ·exact Zxb
   rotate_left
   ·exact Zyb
   refine Ybb (i := 1) (N := some 20) (v := ?_) (a' := ?_) #[true, true, false, false, false, false, false, false, false, false, false, false, false, false] rfl rfl (Yua HT_.out Zi) (fun _ _ _ h => h) (Or.inl ⟨Zga, ?_⟩) ?_ ?_
   rotate_left
   ·exact Zxb
   rotate_left
   ·exact Zyb
   refine Ybb (i := 2) (N := some 21) (v := ?_) (a' := ?_) #[true, true, true, false, false, false, false, false, false, false, false, false, false, false] rfl rfl (Yua HT_.out Zi) (fun _ _ _ h => h) (Or.inl ⟨Zga, ?_⟩) ?_ ?_
   rotate_left
   ·exact Zxb
   rotate_left
   ·exact Zyb
   refine Ybb (i := 3) (N := some 22) (v := ?_) (a' := ?_) #[true, true, true, true, false, false, false, false, false, false, false, false, false, false] rfl rfl (Yua HT_.out Zi) (fun _ _ _ h => h) (Or.inl ⟨Zga, ?_⟩) ?_ ?_
   rotate_left
   ·exact Zxb
   rotate_left
   ·exact Zyb
   refine Ybb (i := 4) (N := some 23) (v := ?_) (a' := ?_) #[true, true, true, true, true, false, false, false, false, false, false, false, false, false] rfl rfl (Yua HT_.out Zi) (fun _ _ _ h => h) (Or.inl ⟨Zga, ?_⟩) ?_ ?_
   rotate_left
   ·exact Zxb
   rotate_left
   ·exact Zyb
   refine Ybb (i := 6) (N := some 25) (v := ?_) (a' := ?_) #[true, true, true, true, true, false, true, false, false, false, false, false, false, false] rfl rfl (Yua HT_.out Zi) (fun _ _ _ h => h) (Or.inl ⟨Zga, ?_⟩) ?_ ?_
   rotate_left
   ·exact Zxb
   rotate_left
   ·exact Zyb
   refine Ybb (i := 7) (N := some 26) (v := ?_) (a' := ?_) #[true, true, true, true, true, false, true, true, false, false, false, false, false, false] rfl rfl (Yua HT_.out Zi) (fun _ _ _ h => h) (Or.inl ⟨Zga, ?_⟩) ?_ ?_
   rotate_left
   ·exact Zxb
   rotate_left
   ·exact Zyb
   refine Ybb (i := 8) (N := some 27) (v := ?_) (a' := ?_) #[true, true, true, true, true, false, true, true, true, false, false, false, false, false] rfl rfl (Yua HT_.out Zi) (fun _ _ _ h => h) (Or.inl ⟨Zga, ?_⟩) ?_ ?_
   rotate_left
   ·exact Zxb
   rotate_left
   ·exact Zyb
   refine Ybb (i := 9) (N := some 28) (v := ?_) (a' := ?_) #[true, true, true, true, true, false, true, true, true, true, false, false, false, false] rfl rfl (Yua HT_.out Zi) (fun _ _ _ h => h) (Or.inl ⟨Zga, ?_⟩) ?_ ?_
   rotate_left
   ·exact Zxb
   rotate_left
   ·exact Zyb
   refine Ybb (i := 10) (N := some 29) (v := ?_) (a' := ?_) #[true, true, true, true, true, false, true, true, true, true, true, false, false, false] rfl rfl (Yua HT_.out Zi) (fun _ _ _ h => h) (Or.inl ⟨Zga, ?_⟩) ?_ ?_
   rotate_left
   ·exact Zxb
   rotate_left
   ·exact Zyb
   refine Ypf (i := 5) (N := some 24) (v := ?_) (a' := ?_) #[true, true, true, true, true, true, true, true, true, true, true, false, false, false] rfl rfl (Yke HT_.out HW_.out Zi) (fun _ _ _ h => h) (Or.inl ⟨Zga, ?_⟩) hHeld ?_ ?_
   rotate_left
   ·intro w' s0
    go_simp
    with_reducible rfl
   rotate_left
   ·exact Zyb
   refine Ybb (i := 11) (N := some 30) (v := ?_) (a' := ?_) #[true, true, true, true, true, true, true, true, true, true, true, true, false, false] rfl rfl (Yua HT_.out Zi) (fun _ _ _ h => h) (Or.inl ⟨Zga, ?_⟩) ?_ ?_
   rotate_left
   ·exact Zxb
   rotate_left
   ·exact Zyb
   refine Ybb (i := 12) (N := some 31) (v := ?_) (a' := ?_) #[true, true, true, true, true, true, true, true, true, true, true, true, true, false] rfl rfl (Yua HT_.out Zi) (fun _ _ _ h => h) (Or.inl ⟨Zga, ?_⟩) ?_ ?_
   rotate_left
   ·exact Zxb
   rotate_left
   ·exact Zyb
   refine Yvm (i := 13) (N := none) #[true, true, true, true, true, true, true, true, true, true, true, true, true, true] rfl rfl (Yze HT_.out Zi) Zda (fun K hK => ?_)
   refine Yvi (w1 := ?_) Zga rfl ?_ ?_
   rotate_left
   ·go_simp
    rfl
   refine hK.out _ _ ?_
   clear hK K
   refine Yrh (Yyg HT_.out Zi) ?_
   try go_wp2
   go_roundg k1
   case measure => have := cU.out; omega
   case rel => exact ⟨(aIU), (wrap64 (aA + 1)), Zf, H', ⟨Zaa⟩, ⟨by (with_reducible repeat (first | apply Kd.R_alloc | apply Kd.R_drewN | apply Kd.R_drew)); exact aBy.out⟩, ⟨by repeat (first | (with_reducible first | exact HB.out | apply Yd | apply Yb | apply Yc | refine Yg ?_ aFQ.out) | exact HB.out)⟩⟩
def Yba.l0 : Nat → ByteArray → List Int → Int → Option (ByteArray)
 | 0, _, _, _ => none
 | k + 1, x0, x3, x4 => if x4 < (x0.size : Int) then (if 0 ≤ x4 then (if (bt x0 x4) ≥ 65 then (if (bt x0 x4) ≤ 90 then (if x3.length < 140737488355328 then (Yba.l0 k x0 (x3 ++ [((bt x0 x4) + 32) % 256]) (wrap64 (x4 + 1))) else (none)) else (if x3.length < 140737488355328 then (Yba.l0 k x0 (x3 ++ [bt x0 x4]) (wrap64 (x4 + 1))) else (none))) else (if x3.length < 140737488355328 then (Yba.l0 k x0 (x3 ++ [bt x0 x4]) (wrap64 (x4 + 1))) else (none))) else (none)) else (some (strOfNums x3))
def Yba.f (k : Nat) (a0 : ByteArray) : Option (ByteArray) := Yba.l0 k a0 ([] : List Int) 0
theorem Yba.calls (k : Nat) (a0 r : ByteArray) (w : World) (hE : EnvOk w) (h : Yba.f k a0 = some r) :
  Calls Tryz.prog 47 #[.string a0] w fun e w' => e = .returned (.string r) ∧ Below w.heap.size w w' := by
 have HE := Ya.mk hE
 clear hE
 have HB := Ya.mk (Below.refl w.heap.size w)
 have H : (Yba.l0 k a0 ([] : List Int) 0) = some r := h
 clear h
 have H' := Ya.mk H
 clear H
 go_enter Tryz.func47, Tryz.ntmps47
 go_wp2
 go_loopg [3, 4] k (fun kq v3 v4 w' => ∃ (aD : List Int) (aA : Int), v4 = .int .i64 aA ∧ Ya (Yba.l0 kq a0 aD aA = some r) ∧ Ya (kq ≤ k) ∧ Ya (Kd.R (Kd.int .u8) 5 w' w.heap.size (fun _ => True) v3 aD) ∧ Ya (Below w.heap.size w w'))
 case atStart => exact ⟨(([] : List Int)), (0), Zf, H', ⟨Nat.le_refl _⟩, ⟨Zfa⟩, ⟨Za⟩⟩
 case round =>
  clear H'
  obtain ⟨aD, aA, rfl, HA, cU, HO_3, HB⟩ := hrel
  cases gk with
  | zero => exact absurd HA.out (by simp [Yba.l0])
  | succ k1 =>
   have H := HA.out
   clear HA
   simp only [Yba.l0] at H
   by_cases c2 : aA < (a0.size : Int)
   rotate_left
   ·rw [if_neg c2] at H
    have eR : decide (aA < (a0.size : Int)) = false := decide_eq_false c2
    clear c2
    obtain rfl := Option.some.inj H
    have aWN := Yzg (P := Tryz.prog) Tryz.underlying62 Tryz.underlying5 Tryz.underlying9 (Kd.own_of_R HO_3.out)
    go_wp2
    go_ret
    exact ⟨Zl, Za⟩
   rw [if_pos c2] at H
   have eR : decide (aA < (a0.size : Int)) = true := decide_eq_true c2
   clear c2
   by_cases c3 : 0 ≤ aA
   rotate_left
   ·rw [if_neg c3] at H
    exact absurd H Zv
   rw [if_pos c3] at H
   have cB : decide (0 ≤ aA) = true := decide_eq_true c3
   clear c3
   by_cases c5 : (bt a0 aA) ≥ 65
   rotate_left
   ·rw [if_neg c5] at H
    have dI : decide (65 ≤ (bt a0 aA)) = false := decide_eq_false c5
    clear c5
    by_cases c11 : aD.length < 140737488355328
    rotate_left
    ·rw [if_neg c11] at H
     exact absurd H Zv
    rw [if_pos c11] at H
    have aAu := Ya.mk c11
    clear c11
    obtain ⟨aIY, tO⟩ : ∃ y_ : List Int, y_ = (aD ++ [bt a0 aA]) := ⟨_, rfl⟩
    replace H : (Yba.l0 k1 a0 aIY (wrap64 (aA + 1))) = some r := by first | (rw [tO]; with_reducible exact H) | (have dH := (Option.bind_some _ _).symm.trans H; rw [tO]; with_reducible exact dH) | (have dH := (Option.bind_some _ _).symm.trans H; with_reducible exact dH) | with_reducible exact H | (rw [tO]; exact H) | exact H
    have aIZ := Ya.mk tO
    clear tO
    have H' := Ya.mk H
    clear H
    have p4 : 0 ≤ (aA : Int) := of_decide_eq_true Zc
    have q4 : aA < (a0.size : Int) := of_decide_eq_true Zc
    have jB := Yza a0 aA
    replace p4 := eq_true p4
    replace q4 := eq_true q4
    go_wp2_with (first | ((with_reducible refine Yde (b := .append) (xs := #[.tmp 23, .tmp 25]) rfl ?_); at_builtin; refine Kd.R_append (Kd.int .u8) (w0 := w) w.heap.size rfl (.tmp 23) (.tmp 25) 62 5 (.int .u8 0) 1 rfl Tryz.underlying62 Yam rfl Zda Zk u3 aD (bt a0 aA) [.int .u8 (bt a0 aA)] (fun _ => True) (fun _ => False) rfl rfl ?aP (fun _ hk => hk.elim) ?aF ?aO ?aB ?aS ?aL ?_; (case aP => exact rfl); (case aB => exact Za); (case aF => exact (fun _ _ => trivial)); (case aO => exact Zm); (case aS => exact (Yia Za)); (case aL => have := aAu.out; omega); intro aXF uN ho hb hg hat; rw [← aIZ.out] at ho; have aH := Ya.mk (hb); have aR := Ya.mk (ho); clear HB; clear HO_3; have HB := aH; have aJa := aR; clear aH aR; clear ho hb hg hat))
    go_roundg k1
    case measure => have := cU.out; omega
    case rel => exact ⟨(aIY), (wrap64 (aA + 1)), Zf, H', ⟨Zaa⟩, ⟨by (with_reducible repeat (first | apply Kd.R_alloc | apply Kd.R_drewN | apply Kd.R_drew)); exact aJa.out⟩, ⟨Za⟩⟩
   rw [if_pos c5] at H
   have dI : decide (65 ≤ (bt a0 aA)) = true := decide_eq_true c5
   clear c5
   by_cases c6 : (bt a0 aA) ≤ 90
   rotate_left
   ·rw [if_neg c6] at H
    have dN : decide ((bt a0 aA) ≤ 90) = false := decide_eq_false c6
    clear c6
    by_cases c9 : aD.length < 140737488355328
    rotate_left
    ·rw [if_neg c9] at H
     exact absurd H Zv
    rw [if_pos c9] at H
    have uU := Ya.mk c9
    clear c9
    obtain ⟨aJb, tP⟩ : ∃ y_ : List Int, y_ = (aD ++ [bt a0 aA]) := ⟨_, rfl⟩
    replace H : (Yba.l0 k1 a0 aJb (wrap64 (aA + 1))) = some r := by first | (rw [tP]; with_reducible exact H) | (have dH := (Option.bind_some _ _).symm.trans H; rw [tP]; with_reducible exact dH) | (have dH := (Option.bind_some _ _).symm.trans H; with_reducible exact dH) | with_reducible exact H | (rw [tP]; exact H) | exact H
    have aJc := Ya.mk tP
    clear tP
    have H' := Ya.mk H
    clear H
    have p4 : 0 ≤ (aA : Int) := of_decide_eq_true Zc
    have q4 : aA < (a0.size : Int) := of_decide_eq_true Zc
    have jB := Yza a0 aA
    replace p4 := eq_true p4
    replace q4 := eq_true q4
    go_wp2_with (first | ((with_reducible refine Yde (b := .append) (xs := #[.tmp 23, .tmp 25]) rfl ?_); at_builtin; refine Kd.R_append (Kd.int .u8) (w0 := w) w.heap.size rfl (.tmp 23) (.tmp 25) 62 5 (.int .u8 0) 1 rfl Tryz.underlying62 Yam rfl Zda Zk u3 aD (bt a0 aA) [.int .u8 (bt a0 aA)] (fun _ => True) (fun _ => False) rfl rfl ?aP (fun _ hk => hk.elim) ?aF ?aO ?aB ?aS ?aL ?_; (case aP => exact rfl); (case aB => exact Za); (case aF => exact (fun _ _ => trivial)); (case aO => exact Zm); (case aS => exact (Yia Za)); (case aL => have := uU.out; omega); intro aXG pJ ho hb hg hat; rw [← aJc.out] at ho; have aH := Ya.mk (hb); have aR := Ya.mk (ho); clear HB; clear HO_3; have HB := aH; have aJd := aR; clear aH aR; clear ho hb hg hat))
    go_roundg k1
    case measure => have := cU.out; omega
    case rel => exact ⟨(aJb), (wrap64 (aA + 1)), Zf, H', ⟨Zaa⟩, ⟨by (with_reducible repeat (first | apply Kd.R_alloc | apply Kd.R_drewN | apply Kd.R_drew)); exact aJd.out⟩, ⟨Za⟩⟩
   rw [if_pos c6] at H
   have dN : decide ((bt a0 aA) ≤ 90) = true := decide_eq_true c6
   clear c6
   by_cases c7 : aD.length < 140737488355328
   rotate_left
   ·rw [if_neg c7] at H
    exact absurd H Zv
   rw [if_pos c7] at H
   have aVx := Ya.mk c7
   clear c7
   obtain ⟨aJe, tQ⟩ : ∃ y_ : List Int, y_ = (aD ++ [((bt a0 aA) + 32) % 256]) := ⟨_, rfl⟩
   replace H : (Yba.l0 k1 a0 aJe (wrap64 (aA + 1))) = some r := by first | (rw [tQ]; with_reducible exact H) | (have dH := (Option.bind_some _ _).symm.trans H; rw [tQ]; with_reducible exact dH) | (have dH := (Option.bind_some _ _).symm.trans H; with_reducible exact dH) | with_reducible exact H | (rw [tQ]; exact H) | exact H
   have aJf := Ya.mk tQ
   clear tQ
   have H' := Ya.mk H
   clear H
   have p4 : 0 ≤ (aA : Int) := of_decide_eq_true Zc
   have q4 : aA < (a0.size : Int) := of_decide_eq_true Zc
   have jB := Yza a0 aA
   replace p4 := eq_true p4
   replace q4 := eq_true q4
   go_wp2_with (first | ((with_reducible refine Yde (b := .append) (xs := #[.tmp 23, .tmp 25]) rfl ?_); at_builtin; refine Kd.R_append (Kd.int .u8) (w0 := w) w.heap.size rfl (.tmp 23) (.tmp 25) 62 5 (.int .u8 0) 1 rfl Tryz.underlying62 Yam rfl Zda Zk u3 aD (((bt a0 aA) + 32) % 256) [.int .u8 (((bt a0 aA) + 32) % 256)] (fun _ => True) (fun _ => False) rfl rfl ?aP (fun _ hk => hk.elim) ?aF ?aO ?aB ?aS ?aL ?_; (case aP => exact rfl); (case aB => exact Za); (case aF => exact (fun _ _ => trivial)); (case aO => exact Zm); (case aS => exact (Yia Za)); (case aL => have := aVx.out; omega); intro aXH w8 ho hb hg hat; rw [← aJf.out] at ho; have aH := Ya.mk (hb); have aR := Ya.mk (ho); clear HB; clear HO_3; have HB := aH; have aJg := aR; clear aH aR; clear ho hb hg hat))
   go_roundg k1
   case measure => have := cU.out; omega
   case rel => exact ⟨(aJe), (wrap64 (aA + 1)), Zf, H', ⟨Zaa⟩, ⟨by (with_reducible repeat (first | apply Kd.R_alloc | apply Kd.R_drewN | apply Kd.R_drew)); exact aJg.out⟩, ⟨Za⟩⟩
end Go.Proofs.YtnmglnglbdpjjaaGreatDoor.X
