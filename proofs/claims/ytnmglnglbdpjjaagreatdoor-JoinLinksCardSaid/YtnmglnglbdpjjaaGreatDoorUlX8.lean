/- Printed by a program of ours: functions as plain Lean, and what a call of each does. -/
import Derived.Test.YtnmglnglbdpjjaaGreatDoorUlWords
import Derived.Test.YtnmglnglbdpjjaaGreatDoorUlX0
import Derived.Test.YtnmglnglbdpjjaaGreatDoorUlX5
import Derived.Test.YtnmglnglbdpjjaaGreatDoorUlX7
namespace Go.Proofs.YtnmglnglbdpjjaaGreatDoor.X
open Go.RowKit Go.Yw.PrintWords Go.Yw.PrintLast Go.Yw.PrintMore
attribute [local go_sem] Yxd Yae Yoe Yqe Yld Yjd Yyd Yzd
set_option linter.unusedVariables false
set_option linter.unusedSimpArgs false
set_option maxHeartbeats 8000000
set_option maxRecDepth 100000
mutual
def Ym.l0 : Nat → ByteArray → List Int → Int → Option (ByteArray)
 | 0, _, _, _ => none
 | k + 1, x0, x3, x4 => if x4 < (x0.size : Int) then (if 0 ≤ x4 then (if (bt x0 x4) = 37 then (if (wrap64 (x4 + 2)) < (x0.size : Int) then (if 0 ≤ (wrap64 (x4 + 1)) then (if (wrap64 (x4 + 1)) < (x0.size : Int) then ((Yda.f k (bt x0 (wrap64 (x4 + 1)))).bind fun rG => (if rG < 16 then (if 0 ≤ (wrap64 (x4 + 2)) then ((Yda.f k (bt x0 (wrap64 (x4 + 2)))).bind fun tT => (Ym.j1 k x0 x3 x4 (decide (tT < 16)))) else (none)) else (Ym.j1 k x0 x3 x4 false))) else (none)) else (none)) else (Ym.j1 k x0 x3 x4 false)) else (Ym.j1 k x0 x3 x4 false)) else (none)) else (some (strOfNums x3))
def Ym.j1 : Nat → ByteArray → List Int → Int → Bool → Option (ByteArray)
 | 0, _, _, _, _ => none
 | k + 1, x0, x3, x4, x37 => if x37 = true then (if 0 ≤ (wrap64 (x4 + 1)) then (if (wrap64 (x4 + 1)) < (x0.size : Int) then ((Yda.f k (bt x0 (wrap64 (x4 + 1)))).bind fun rH => (if 0 ≤ (wrap64 (x4 + 2)) then (if (wrap64 (x4 + 2)) < (x0.size : Int) then ((Yda.f k (bt x0 (wrap64 (x4 + 2)))).bind fun pA => (if x3.length < 140737488355328 then (Ym.l0 k x0 (x3 ++ [((((rH * 16) % 4294967296) + pA) % 4294967296) % 256]) (wrap64 ((wrap64 (x4 + 2)) + 1))) else (none))) else (none)) else (none))) else (none)) else (none)) else (if 0 ≤ x4 then (if x4 < (x0.size : Int) then (if x3.length < 140737488355328 then (Ym.l0 k x0 (x3 ++ [bt x0 x4]) (wrap64 (x4 + 1))) else (none)) else (none)) else (none))
end
def Ym.f (k : Nat) (a0 : ByteArray) : Option (ByteArray) := Ym.l0 k a0 ([] : List Int) 0
def Ym.T6 : Bool × List (List Nat × List Nat) := (true, [([], []), ([], []), ([], []), ([2], [2]), ([1, 3], [1, 3]), ([4], [4]), ([5], [5]), ([], []), ([], []), ([8], [8]), ([7, 9], [7, 9]), ([10, 5], [10]), ([6, 11], [6, 11]), ([12], [12]), ([13], [13]), ([0, 14, 11], [0, 14]), ([15, 15, 0, 1, 2, 3, 4, 5, 6, 7, 8, 9, 10, 11, 12, 13, 14, 15], [0, 15])])
def Ym.B6 : List Nat := [0, 0, 0, 4, 14, 30, 62, 0, 0, 256, 896, 1982, 4094, 8190, 16382, 32767, 65535]
theorem Ym.tab6 : rtab .any (opsOf Tryz.f55 6) = Ym.T6 := by kernel_rfl
theorem Ym.bits6 : Ykg Ym.T6.2 Ym.B6 = true := by kernel_rfl
theorem Ym.calls (k : Nat) (a0 r : ByteArray) (w : World) (hE : EnvOk w) (h : Ym.f k a0 = some r) :
  Calls Tryz.prog 55 #[.string a0] w fun e w' => e = .returned (.string r) ∧ Below w.heap.size w w' := by
 have HE := Ya.mk hE
 clear hE
 have HB := Ya.mk (Below.refl w.heap.size w)
 have H : (Ym.l0 k a0 ([] : List Int) 0) = some r := h
 clear h
 have H' := Ya.mk H
 clear H
 go_enter Tryz.func55, Tryz.ntmps55
 go_wp2
 go_loopg [3, 4] k (fun kq v3 v4 w' => ∃ (aD : List Int) (aA : Int), v4 = .int .i64 aA ∧ Ya (Ym.l0 kq a0 aD aA = some r) ∧ Ya (kq ≤ k) ∧ Ya (Kd.R (Kd.int .u8) 5 w' w.heap.size (fun _ => True) v3 aD) ∧ Ya (Below w.heap.size w w'))
 case atStart => exact ⟨(([] : List Int)), (0), Zf, H', ⟨Nat.le_refl _⟩, ⟨Zfa⟩, ⟨Za⟩⟩
 case round =>
  clear H'
  obtain ⟨aD, aA, rfl, HA, cU, HO_3, HB⟩ := hrel
  cases gk with
  | zero => exact absurd HA.out (by simp [Ym.l0])
  | succ k1 =>
   have H := HA.out
   clear HA
   simp only [Ym.l0] at H
   by_cases c2 : aA < (a0.size : Int)
   rotate_left
   ·rw [if_neg c2] at H
    have eR : decide (aA < (a0.size : Int)) = false := decide_eq_false c2
    clear c2
    obtain rfl := Option.some.inj H
    have aWQ := Yzg (P := Tryz.prog) Tryz.underlying62 Tryz.underlying5 Tryz.underlying9 (Kd.own_of_R HO_3.out)
    go_wp2
    go_ret
    exact ⟨Zl, Za⟩
   rw [if_pos c2] at H
   have eR : decide (aA < (a0.size : Int)) = true := decide_eq_true c2
   clear c2
   have qI := Ya.mk H
   clear H
   go_upto_region 5 with (fail)
   go_cut [37] (fun v37 wc => ∃ (kq : Nat) (yU : Bool), v37 = .bool yU ∧ Ya (Ym.j1 kq a0 aD aA yU = some r) ∧ Ya (kq ≤ k1) ∧ Ya (Kd.R (Kd.int .u8) 5 wc w.heap.size (fun _ => True) u3 aD) ∧ Ya (Below w.heap.size w wc))
   case first =>
    have H := qI.out
    clear qI
    by_cases c4 : 0 ≤ aA
    rotate_left
    ·rw [if_neg c4] at H
     exact absurd H Zv
    rw [if_pos c4] at H
    have bX : decide (0 ≤ aA) = true := decide_eq_true c4
    clear c4
    (first | rw [bX] | (simp only [Yca, Yga]; rw [bX]) | skip)
    by_cases c6 : (bt a0 aA) = 37
    rotate_left
    ·rw [if_neg c6] at H
     have dN : ((bt a0 aA) == 37) = false := beq_eq_false_iff_ne.mpr c6
     have iX : ((bt a0 aA) != 37) = true := bne_iff_ne.mpr c6
     have H' := Ya.mk H
     clear H
     have p5 : 0 ≤ (aA : Int) := of_decide_eq_true Zc
     have q5 : aA < (a0.size : Int) := of_decide_eq_true Zc
     have kB := Yza a0 aA
     replace p5 := eq_true p5
     replace q5 := eq_true q5
     go_wp2
     go_meet
     case rel => exact ⟨_, (false), Zf, H', ⟨Zia⟩, ⟨Zm⟩, ⟨Za⟩⟩
    rw [if_pos c6] at H
    have dN : ((bt a0 aA) == 37) = true := beq_iff_eq.mpr c6
    have iX : ((bt a0 aA) != 37) = false := bne_eq_false_iff_eq.mpr c6
    clear c6
    by_cases c7 : (wrap64 (aA + 2)) < (a0.size : Int)
    rotate_left
    ·rw [if_neg c7] at H
     have cQ : decide ((wrap64 (aA + 2)) < (a0.size : Int)) = false := decide_eq_false c7
     clear c7
     have H' := Ya.mk H
     clear H
     have p5 : 0 ≤ (aA : Int) := of_decide_eq_true Zc
     have q5 : aA < (a0.size : Int) := of_decide_eq_true Zc
     have kB := Yza a0 aA
     replace p5 := eq_true p5
     replace q5 := eq_true q5
     go_wp2
     go_meet
     case rel => exact ⟨_, (false), Zf, H', ⟨Zia⟩, ⟨Zm⟩, ⟨Za⟩⟩
    rw [if_pos c7] at H
    have cQ : decide ((wrap64 (aA + 2)) < (a0.size : Int)) = true := decide_eq_true c7
    clear c7
    obtain ⟨ji8, qJ⟩ : ∃ j_ : Int, (wrap64 (aA + 1)) = j_ := ⟨_, rfl⟩
    replace H : (if 0 ≤ (ji8) then (if (ji8) < (a0.size : Int) then ((Yda.f k1 (bt a0 (ji8))).bind fun rG => (if rG < 16 then (if 0 ≤ (wrap64 (aA + 2)) then ((Yda.f k1 (bt a0 (wrap64 (aA + 2)))).bind fun tT => (Ym.j1 k1 a0 aD aA (decide (tT < 16)))) else (none)) else (Ym.j1 k1 a0 aD aA false))) else (none)) else (none)) = some r := by first | (rw [qJ] at H; exact H) | (simp only [qJ] at H ⊢; exact H)
    have hji8w : (IntKind.i64.wrap (aA + 1)) = ji8 := (Yca _).trans qJ
    by_cases c9 : 0 ≤ (ji8)
    rotate_left
    ·rw [if_neg c9] at H
     exact absurd H Zv
    rw [if_pos c9] at H
    have iA : decide (0 ≤ (ji8)) = true := decide_eq_true c9
    clear c9
    by_cases dP : (ji8) < (a0.size : Int)
    rotate_left
    ·rw [if_neg dP] at H
     exact absurd H Zv
    rw [if_pos dP] at H
    have gY : decide ((ji8) < (a0.size : Int)) = true := decide_eq_true dP
    clear dP
    replace H := Option.bind_eq_some_iff.mp H
    obtain ⟨rG, aBD, H⟩ := H
    try dsimp -simprocs only at H
    have A12 := Ya.mk aBD
    clear aBD
    by_cases eL : rG < 16
    rotate_left
    ·rw [if_neg eL] at H
     have hD : decide (rG < 16) = false := decide_eq_false eL
     clear eL
     have H' := Ya.mk H
     clear H
     have p5 : 0 ≤ (aA : Int) := of_decide_eq_true Zc
     have q5 : aA < (a0.size : Int) := of_decide_eq_true Zc
     have kB := Yza a0 aA
     replace p5 := eq_true p5
     replace q5 := eq_true q5
     have iL : 0 ≤ ((ji8) : Int) := of_decide_eq_true Zc
     have iM : (ji8) < (a0.size : Int) := of_decide_eq_true Zc
     have lA := Yza a0 (ji8)
     replace iL := eq_true iL
     replace iM := eq_true iM
     go_wp2_with (first | (go_at_call 97; (with_reducible refine (Yda.calls k1 (bt a0 (ji8)) rG _ ?side1 A12.out).mono ?_); (case side1 => first | exact HE.out | exact EnvOk.below HE.out Za); rintro e w' ⟨rfl, ⟨nd, rfl⟩⟩))
     go_meet
     case rel => exact ⟨_, (false), Zf, H', ⟨Zia⟩, ⟨Zm⟩, ⟨Za⟩⟩
    rw [if_pos eL] at H
    have hD : decide (rG < 16) = true := decide_eq_true eL
    clear eL
    obtain ⟨ji14, tU⟩ : ∃ j_ : Int, (wrap64 (aA + 2)) = j_ := ⟨_, rfl⟩
    replace H : (if 0 ≤ (ji14) then ((Yda.f k1 (bt a0 (ji14))).bind fun tT => (Ym.j1 k1 a0 aD aA (decide (tT < 16)))) else (none)) = some r := by first | (rw [tU] at H; exact H) | (simp only [tU] at H ⊢; exact H)
    (try rw [tU] at cQ)
    (try rw [tU] at A12)
    have hji14w : (IntKind.i64.wrap (aA + 2)) = ji14 := (Yca _).trans tU
    by_cases dG : 0 ≤ (ji14)
    rotate_left
    ·rw [if_neg dG] at H
     exact absurd H Zv
    rw [if_pos dG] at H
    have eS : decide (0 ≤ (ji14)) = true := decide_eq_true dG
    clear dG
    replace H := Option.bind_eq_some_iff.mp H
    obtain ⟨tT, oI, H⟩ := H
    try dsimp -simprocs only at H
    have A17 := Ya.mk oI
    clear oI
    have H' := Ya.mk H
    clear H
    have p5 : 0 ≤ (aA : Int) := of_decide_eq_true Zc
    have q5 : aA < (a0.size : Int) := of_decide_eq_true Zc
    have kB := Yza a0 aA
    replace p5 := eq_true p5
    replace q5 := eq_true q5
    have iL : 0 ≤ ((ji8) : Int) := of_decide_eq_true Zc
    have iM : (ji8) < (a0.size : Int) := of_decide_eq_true Zc
    have lA := Yza a0 (ji8)
    replace iL := eq_true iL
    replace iM := eq_true iM
    go_wp2_with (first | (go_at_call 97; (with_reducible refine (Yda.calls k1 (bt a0 (ji8)) rG _ ?side1 A12.out).mono ?_); (case side1 => first | exact HE.out | exact EnvOk.below HE.out Za); rintro e w' ⟨rfl, ⟨nd, rfl⟩⟩; have p16 : 0 ≤ ((ji14) : Int) := of_decide_eq_true Zc; have q16 : (ji14) < (a0.size : Int) := of_decide_eq_true Zc; have aGa := Yza a0 (ji14); replace p16 := eq_true p16; replace q16 := eq_true q16) | (go_at_call 97; (with_reducible refine (Yda.calls k1 (bt a0 (ji14)) tT _ ?side1 A17.out).mono ?_); (case side1 => first | exact HE.out | exact EnvOk.below HE.out Za); rintro e w' ⟨rfl, ⟨nd, rfl⟩⟩))
    go_meet
    case rel => exact ⟨_, (decide (tT < 16)), Zf, H', ⟨Zia⟩, ⟨Zm⟩, ⟨Za⟩⟩
   case rest =>
    clear qI
    try clear c1
    try clear p1
    try clear q1
    try clear vX
    try clear c2
    try clear eR
    try clear p2
    try clear c4
    try clear bX
    try clear c5
    try clear p5
    try clear q5
    try clear kB
    try clear c6
    try clear dN
    try clear iX
    try clear p6
    try clear c7
    try clear cQ
    try clear c9
    try clear iA
    try clear dP
    try clear gY
    try clear iL
    try clear iM
    try clear lA
    try clear eL
    try clear hD
    try clear dG
    try clear eS
    try clear p16
    try clear q16
    try clear aGa
    try clear iL
    try clear p16
    try clear p5
    try clear iM
    try clear q16
    try clear q5
    obtain ⟨kq, yU, rfl, HA, pH, HO_3, HB⟩ := hcut
    cases kq with
    | zero => exact absurd HA.out (by simp [Ym.j1])
    | succ nA =>
     have H := HA.out
     clear HA
     simp only [Ym.j1] at H
     by_cases eO : yU = true
     rotate_left
     ·replace eO := Bool.eq_false_iff.mpr eO
      subst eO
      rw [if_neg (show ¬ (false = true) by decide)] at H
      by_cases c32 : 0 ≤ aA
      rotate_left
      ·rw [if_neg c32] at H
       exact absurd H Zv
      rw [if_pos c32] at H
      have aIK : decide (0 ≤ aA) = true := decide_eq_true c32
      clear c32
      by_cases c33 : aA < (a0.size : Int)
      rotate_left
      ·rw [if_neg c33] at H
       exact absurd H Zv
      rw [if_pos c33] at H
      have aWR : decide (aA < (a0.size : Int)) = true := decide_eq_true c33
      clear c33
      by_cases c35 : aD.length < 140737488355328
      rotate_left
      ·rw [if_neg c35] at H
       exact absurd H Zv
      rw [if_pos c35] at H
      have aJo := Ya.mk c35
      clear c35
      obtain ⟨aJp, tV⟩ : ∃ y_ : List Int, y_ = (aD ++ [bt a0 aA]) := ⟨_, rfl⟩
      replace H : (Ym.l0 nA a0 aJp (wrap64 (aA + 1))) = some r := by first | (rw [tV]; with_reducible exact H) | (have dH := (Option.bind_some _ _).symm.trans H; rw [tV]; with_reducible exact dH) | (have dH := (Option.bind_some _ _).symm.trans H; with_reducible exact dH) | with_reducible exact H | (rw [tV]; exact H) | exact H
      have aJq := Ya.mk tV
      clear tV
      have H' := Ya.mk H
      clear H
      have p34 : 0 ≤ (aA : Int) := of_decide_eq_true Zc
      have q34 : aA < (a0.size : Int) := of_decide_eq_true Zc
      have aXK := Yza a0 aA
      replace p34 := eq_true p34
      replace q34 := eq_true q34
      go_wp2_with (first | ((with_reducible refine Yde (b := .append) (xs := #[.tmp 56, .tmp 60]) rfl ?_); (try (refine Yli Zga ?_; dsimp only)); at_builtin; refine Kd.R_append (Kd.int .u8) (w0 := w) w.heap.size rfl (.tmp 56) (.tmp 60) 62 5 (.int .u8 0) 1 rfl Tryz.underlying62 Yam rfl Zda Zk u3 aD (bt a0 aA) [.int .u8 (bt a0 aA)] (fun _ => True) (fun _ => False) rfl rfl ?aP (fun _ hk => hk.elim) ?aF ?aO ?aB ?aS ?aL ?_; (case aP => exact rfl); (case aB => exact Za); (case aF => exact (fun _ _ => trivial)); (case aO => exact Zm); (case aS => exact (Yia Za)); (case aL => have := aJo.out; omega); intro aXL w36 ho hb hg hat; rw [← aJq.out] at ho; have aH := Ya.mk (hb); have aR := Ya.mk (ho); clear HB; clear HO_3; have HB := aH; have aJr := aR; clear aH aR; clear ho hb hg hat))
      go_roundg nA
      case measure => have := cU.out; have := pH.out; omega
      case rel => exact ⟨(aJp), (wrap64 (aA + 1)), Zf, H', ⟨by have := cU.out; have := pH.out; omega⟩, ⟨by (with_reducible repeat (first | apply Kd.R_alloc | apply Kd.R_drewN | apply Kd.R_drew)); exact aJr.out⟩, ⟨Za⟩⟩
     subst eO
     rw [if_pos rfl] at H
     obtain ⟨ji19, yV⟩ : ∃ j_ : Int, (wrap64 (aA + 1)) = j_ := ⟨_, rfl⟩
     replace H : (if 0 ≤ (ji19) then (if (ji19) < (a0.size : Int) then ((Yda.f nA (bt a0 (ji19))).bind fun rH => (if 0 ≤ (wrap64 (aA + 2)) then (if (wrap64 (aA + 2)) < (a0.size : Int) then ((Yda.f nA (bt a0 (wrap64 (aA + 2)))).bind fun pA => (if aD.length < 140737488355328 then (Ym.l0 nA a0 (aD ++ [((((rH * 16) % 4294967296) + pA) % 4294967296) % 256]) (wrap64 ((wrap64 (aA + 2)) + 1))) else (none))) else (none)) else (none))) else (none)) else (none)) = some r := by first | (rw [yV] at H; exact H) | (simp only [yV] at H ⊢; exact H)
     have hji19w : (IntKind.i64.wrap (aA + 1)) = ji19 := (Yca _).trans yV
     by_cases gV : 0 ≤ (ji19)
     rotate_left
     ·rw [if_neg gV] at H
      exact absurd H Zv
     rw [if_pos gV] at H
     have kA : decide (0 ≤ (ji19)) = true := decide_eq_true gV
     clear gV
     by_cases mH : (ji19) < (a0.size : Int)
     rotate_left
     ·rw [if_neg mH] at H
      exact absurd H Zv
     rw [if_pos mH] at H
     have yW : decide ((ji19) < (a0.size : Int)) = true := decide_eq_true mH
     clear mH
     replace H := Option.bind_eq_some_iff.mp H
     obtain ⟨rH, aBE, H⟩ := H
     try dsimp -simprocs only at H
     have A23 := Ya.mk aBE
     clear aBE
     obtain ⟨ji24, pX⟩ : ∃ j_ : Int, (wrap64 (aA + 2)) = j_ := ⟨_, rfl⟩
     replace H : (if 0 ≤ (ji24) then (if (ji24) < (a0.size : Int) then ((Yda.f nA (bt a0 (ji24))).bind fun pA => (if aD.length < 140737488355328 then (Ym.l0 nA a0 (aD ++ [((((rH * 16) % 4294967296) + pA) % 4294967296) % 256]) (wrap64 ((ji24) + 1))) else (none))) else (none)) else (none)) = some r := by first | (rw [pX] at H; exact H) | (simp only [pX] at H ⊢; exact H)
     (try rw [pX] at A23)
     have hji24w : (IntKind.i64.wrap (aA + 2)) = ji24 := (Yca _).trans pX
     by_cases pR : 0 ≤ (ji24)
     rotate_left
     ·rw [if_neg pR] at H
      exact absurd H Zv
     rw [if_pos pR] at H
     have tB : decide (0 ≤ (ji24)) = true := decide_eq_true pR
     clear pR
     by_cases uY : (ji24) < (a0.size : Int)
     rotate_left
     ·rw [if_neg uY] at H
      exact absurd H Zv
     rw [if_pos uY] at H
     have aIJ : decide ((ji24) < (a0.size : Int)) = true := decide_eq_true uY
     clear uY
     replace H := Option.bind_eq_some_iff.mp H
     obtain ⟨pA, tG, H⟩ := H
     try dsimp -simprocs only at H
     have A28 := Ya.mk tG
     clear tG
     by_cases oM : aD.length < 140737488355328
     rotate_left
     ·rw [if_neg oM] at H
      exact absurd H Zv
     rw [if_pos oM] at H
     have aJs := Ya.mk oM
     clear oM
     obtain ⟨aJt, tW⟩ : ∃ y_ : List Int, y_ = (aD ++ [((((rH * 16) % 4294967296) + pA) % 4294967296) % 256]) := ⟨_, rfl⟩
     replace H : (Ym.l0 nA a0 aJt (wrap64 ((ji24) + 1))) = some r := by first | (rw [tW]; with_reducible exact H) | (have dH := (Option.bind_some _ _).symm.trans H; rw [tW]; with_reducible exact dH) | (have dH := (Option.bind_some _ _).symm.trans H; with_reducible exact dH) | with_reducible exact H | (rw [tW]; exact H) | exact H
     have aJu := Ya.mk tW
     clear tW
     have H' := Ya.mk H
     clear H
     try go_wp2
     have aH := Ya.mk (Kd.R_drew HO_3.out)
     have aR := Ya.mk (Yc HB.out)
     clear HO_3
     clear HB
     have HO_3 := aH
     have HB := aR
     clear aH aR
     have p22 : 0 ≤ ((ji19) : Int) := of_decide_eq_true Zc
     have q22 : (ji19) < (a0.size : Int) := of_decide_eq_true Zc
     have aVE := Yza a0 (ji19)
     replace p22 := eq_true p22
     replace q22 := eq_true q22
     have p27 : 0 ≤ ((ji24) : Int) := of_decide_eq_true Zc
     have q27 : (ji24) < (a0.size : Int) := of_decide_eq_true Zc
     have aXM := Yza a0 (ji24)
     replace p27 := eq_true p27
     replace q27 := eq_true q27
     refine Yig (n := 17) (S := fun w' => True) (ds := []) #[false, false, false, false, false, false, false, false, false, false, false, false, false, false, false, false, false] Zi rfl rfl trivial (fun hHeld => ?_); refine Ymf Ym.tab6 Ym.bits6 (fun HT_ HW_ => ?_)
     generalize wc.drew = w30 at HO_3 HB hHeld ⊢
     refine Ybb (i := 0) (N := some 38) (v := ?_) (a' := ?_) #[true, false, false, false, false, false, false, false, false, false, false, false, false, false, false, false, false] rfl rfl (Yua HT_.out Zi) (fun _ _ _ h => h) (Or.inl ⟨Zga, ?_⟩) ?_ ?_
     rotate_left
     ·exact Zxb
     rotate_left
     ·exact Zyb
     refine Ybb (i := 1) (N := some 39) (v := ?_) (a' := ?_) #[true, true, false, false, false, false, false, false, false, false, false, false, false, false, false, false, false] rfl rfl (Yua HT_.out Zi) (fun _ _ _ h => h) (Or.inl ⟨Zga, ?_⟩) ?_ ?_
     rotate_left
     ·exact Zxb
     rotate_left
     ·exact Zyb
     refine Ybb (i := 2) (N := some 40) (v := ?_) (a' := ?_) #[true, true, true, false, false, false, false, false, false, false, false, false, false, false, false, false, false] rfl rfl (Yua HT_.out Zi) (fun _ _ _ h => h) (Or.inl ⟨Zga, ?_⟩) ?_ ?_
     rotate_left
     ·exact Zxb
     rotate_left
     ·exact Zyb
     refine Ybb (i := 3) (N := some 41) (v := ?_) (a' := ?_) #[true, true, true, true, false, false, false, false, false, false, false, false, false, false, false, false, false] rfl rfl (Yua HT_.out Zi) (fun _ _ _ h => h) (Or.inl ⟨Zga, ?_⟩) ?_ ?_
     rotate_left
     ·exact Zxb
     rotate_left
     ·exact Zyb
     refine Ybb (i := 7) (N := some 45) (v := ?_) (a' := ?_) #[true, true, true, true, false, false, false, true, false, false, false, false, false, false, false, false, false] rfl rfl (Yua HT_.out Zi) (fun _ _ _ h => h) (Or.inl ⟨Zga, ?_⟩) ?_ ?_
     rotate_left
     ·exact Zxb
     rotate_left
     ·exact Zyb
     refine Ybb (i := 8) (N := some 46) (v := ?_) (a' := ?_) #[true, true, true, true, false, false, false, true, true, false, false, false, false, false, false, false, false] rfl rfl (Yua HT_.out Zi) (fun _ _ _ h => h) (Or.inl ⟨Zga, ?_⟩) ?_ ?_
     rotate_left
     ·exact Zxb
     rotate_left
     ·exact Zyb
     refine Ybb (i := 9) (N := some 47) (v := ?_) (a' := ?_) #[true, true, true, true, false, false, false, true, true, true, false, false, false, false, false, false, false] rfl rfl (Yua HT_.out Zi) (fun _ _ _ h => h) (Or.inl ⟨Zga, ?_⟩) ?_ ?_
     rotate_left
     ·exact Zxb
     rotate_left
     ·exact Zyb
     refine Ypf (i := 4) (N := some 42) (v := ?_) (a' := ?_) #[true, true, true, true, true, false, false, true, true, true, false, false, false, false, false, false, false] rfl rfl (Yke HT_.out HW_.out Zi) (fun _ _ _ h => h) (Or.inl ⟨Zga, ?_⟩) hHeld ?_ ?_
     rotate_left
     ·intro w' _
      go_simp
      with_reducible rfl
     rotate_left
     ·exact Zyb
     refine Ypf (i := 10) (N := some 48) (v := ?_) (a' := ?_) #[true, true, true, true, true, false, false, true, true, true, true, false, false, false, false, false, false] rfl rfl (Yke HT_.out HW_.out Zi) (fun _ _ _ h => h) (Or.inl ⟨Zga, ?_⟩) hHeld ?_ ?_
     rotate_left
     ·intro w' _
      go_simp
      with_reducible rfl
     rotate_left
     ·exact Zyb
     refine one_ (i := 5) (N := some 43) #[true, true, true, true, true, true, false, true, true, true, true, false, false, false, false, false, false] rfl rfl (Yze HT_.out Zi) Zda (fun K hK => ?_)
     refine Yyh Tryz.func97 Zi rfl #[.int .u8 (bt a0 (ji19))] Zga rfl rfl (by (try simp only [List.map_toArray, List.map_cons, List.map_nil]); first | done | (simp only [yV]; rfl) | rfl | (simp only [List.length_drop, List.length_take]; rfl)) ?_
     with_reducible refine (Yda.calls nA (bt a0 (ji19)) rH _ ?side1 A23.out).mono ?_
     (case side1 => first | exact HE.out | exact EnvOk.below HE.out Za)
     rintro e w' ⟨rfl, ⟨nd, rfl⟩⟩
     refine ⟨_, rfl, ?_⟩
     refine hK.out _ _ trivial (fun hHeld => ?_)
     clear hK K
     refine Ylh (a' := ?_) ?_ ?_
     rotate_left
     ·show Act.put _ (some 43) _ = _
      simp only [Act.put, List.setIfInBounds_toArray, List.set_cons_zero, List.set_cons_succ, Yca, Yga]
      rfl
     refine Ybb (i := 6) (N := some 44) (v := ?_) (a' := ?_) #[true, true, true, true, true, true, true, true, true, true, true, false, false, false, false, false, false] rfl rfl (Yua HT_.out Zi) (fun _ _ _ h => h) (Or.inl ⟨Zga, ?_⟩) ?_ ?_
     rotate_left
     ·exact Zxb
     rotate_left
     ·exact Zyb
     refine one_ (i := 11) (N := some 49) #[true, true, true, true, true, true, true, true, true, true, true, true, false, false, false, false, false] rfl rfl (Yze HT_.out Zi) Zda (fun K hK => ?_)
     refine Yyh Tryz.func97 Zi rfl #[.int .u8 (bt a0 (ji24))] Zga rfl rfl (by (try simp only [List.map_toArray, List.map_cons, List.map_nil]); first | done | (simp only [pX]; rfl) | rfl | (simp only [List.length_drop, List.length_take]; rfl)) ?_
     with_reducible refine (Yda.calls nA (bt a0 (ji24)) pA _ ?side1 A28.out).mono ?_
     (case side1 => first | exact HE.out | exact EnvOk.below HE.out Za)
     rintro e w' ⟨rfl, ⟨nd, rfl⟩⟩
     refine ⟨_, rfl, ?_⟩
     refine hK.out _ _ trivial (fun hHeld => ?_)
     clear hK K
     refine Ylh (a' := ?_) ?_ ?_
     rotate_left
     ·show Act.put _ (some 49) _ = _
      simp only [Act.put, List.setIfInBounds_toArray, List.set_cons_zero, List.set_cons_succ, Yca, Yga]
      rfl
     refine Ybb (i := 12) (N := some 50) (v := ?_) (a' := ?_) #[true, true, true, true, true, true, true, true, true, true, true, true, true, false, false, false, false] rfl rfl (Yua HT_.out Zi) (fun _ _ _ h => h) (Or.inl ⟨Zga, ?_⟩) ?_ ?_
     rotate_left
     ·exact Zxb
     rotate_left
     ·exact Zyb
     refine Ybb (i := 13) (N := some 51) (v := ?_) (a' := ?_) #[true, true, true, true, true, true, true, true, true, true, true, true, true, true, false, false, false] rfl rfl (Yua HT_.out Zi) (fun _ _ _ h => h) (Or.inl ⟨Zga, ?_⟩) ?_ ?_
     rotate_left
     ·exact Zxb
     rotate_left
     ·exact Zyb
     refine one_ (i := 14) (N := some 52) #[true, true, true, true, true, true, true, true, true, true, true, true, true, true, true, false, false] rfl rfl (Yze HT_.out Zi) Zda (fun K hK => ?_)
     refine value_ (w1 := ?_) (v := ?_) Zga rfl ?_ ?_
     rotate_left 2
     ·go_simp
      constructor
      ·rfl
      ·rfl
     refine hK.out _ _ trivial (fun hHeld => ?_)
     clear hK K
     refine Ylh (a' := ?_) ?_ ?_
     rotate_left
     ·show Act.put _ (some 52) _ = _
      simp only [Act.put, List.setIfInBounds_toArray, List.set_cons_zero, List.set_cons_succ, Yca, Yga]
      rfl
     refine one_ (i := 15) (N := some 53) #[true, true, true, true, true, true, true, true, true, true, true, true, true, true, true, true, false] rfl rfl (Yze HT_.out Zi) Zda (fun K hK => ?_)
     refine Kd.R_append_step (Kd.int .u8) (w0 := w) w.heap.size Zga (.tmp 38) (.tmp 52) 62 5 (.int .u8 0) 1 rfl Tryz.underlying62 Yam rfl Zda Zk u3 aD (((((rH * 16) % 4294967296) + pA) % 4294967296) % 256) [.int .u8 (((((rH * 16) % 4294967296) + pA) % 4294967296) % 256)] (fun _ => True) (fun _ => False) rfl rfl ?aP (fun _ hk => hk.elim) ?aF ?aO ?aB ?aS ?aL ?_
     (case aP => exact rfl)
     (case aB => exact Za)
     (case aF => exact (fun _ _ => trivial))
     (case aO => exact Zm)
     (case aS => exact (Yia Za))
     (case aL => have := aJs.out; omega)
     intro aXN w31 ho hb hg hat
     rw [← aJu.out] at ho
     have aH := Ya.mk (hb)
     have aR := Ya.mk (ho)
     clear HB
     clear HO_3
     have HB := aH
     have aJv := aR
     clear aH aR
     clear ho hb hg hat
     refine hK.out _ _ trivial (fun hHeld => ?_)
     clear hK K
     refine Ylh (a' := ?_) ?_ ?_
     rotate_left
     ·show Act.put _ (some 53) _ = _
      simp only [Act.put, List.setIfInBounds_toArray, List.set_cons_zero, List.set_cons_succ, Yca, Yga]
      rfl
     refine Ybb (i := 16) (N := some 3) (v := ?_) (a' := ?_) #[true, true, true, true, true, true, true, true, true, true, true, true, true, true, true, true, true] rfl rfl (Yua HT_.out Zi) (fun _ _ _ h => h) (Or.inl ⟨Zga, ?_⟩) ?_ ?_
     rotate_left
     ·exact Zxb
     rotate_left
     ·exact Zyb
     refine Yrh (Yyg HT_.out Zi) ?_
     try go_wp2
     go_roundg nA
     case measure => have := cU.out; have := pH.out; omega
     case rel => exact ⟨(aJt), (wrap64 ((ji24) + 1)), (by first | rfl | (simp; done) | (simp only [← pX] <;> (first | rfl | simp)) | (simp [*]; done)), H', ⟨by have := cU.out; have := pH.out; omega⟩, ⟨by (with_reducible repeat (first | apply Kd.R_alloc | apply Kd.R_drewN | apply Kd.R_drew)); exact aJv.out⟩, ⟨Za⟩⟩
mutual
def Yz.l0 : Nat → ByteArray → Int → Int → Option (Int × Int)
 | 0, _, _, _ => none
 | k + 1, x0, x1, x6 => if x6 < (x0.size : Int) then (if 0 ≤ x6 then ((Yw.f (bt x0 x6)).bind fun aGb => (if aGb = true then (Yz.l0 k x0 x1 (wrap64 (x6 + 1))) else (some (0, 3)))) else (none)) else (if x0.toList = ([] : List UInt8) then (some (0, 3)) else (Yz.l1 k x0 x1 0 0))
def Yz.l1 : Nat → ByteArray → Int → Int → Int → Option (Int × Int)
 | 0, _, _, _, _ => none
 | k + 1, x0, x1, x7, x8 => if x8 < (x0.size : Int) then (if 0 ≤ x8 then (if x7 > (wrap64 (Int.tdiv x1 10)) then (some (0, 5)) else (if x7 = (wrap64 (Int.tdiv x1 10)) then (if (((bt x0 x8) - 48) % 256) > (Int.tmod x1 10) then (some (0, 5)) else (if x1 < 0 then (some (0, 5)) else (Yz.l1 k x0 x1 (wrap64 ((wrap64 (x7 * 10)) + (((bt x0 x8) - 48) % 256))) (wrap64 (x8 + 1))))) else (if x1 < 0 then (some (0, 5)) else (Yz.l1 k x0 x1 (wrap64 ((wrap64 (x7 * 10)) + (((bt x0 x8) - 48) % 256))) (wrap64 (x8 + 1)))))) else (none)) else (some (x7, 0))
end
def Yz.f (k : Nat) (a0 : ByteArray) (a1 : Int) : Option (Int × Int) := Yz.l0 k a0 a1 0
theorem Yz.calls (k : Nat) (a0 : ByteArray) (a1 r1 r2 : Int) (w : World) (hE : EnvOk w) (h : Yz.f k a0 a1 = some (r1, r2)) :
  Calls Tryz.prog 89 #[.string a0, .int .i64 a1] w fun e w' => e = .returned (.tuple #[.int .i64 r1, .int .i64 r2]) ∧ Drawn0 w w' := by
 have HE := Ya.mk hE
 clear hE
 have H : (Yz.l0 k a0 a1 0) = some (r1, r2) := h
 clear h
 have H' := Ya.mk H
 clear H
 go_enter Tryz.func89, Tryz.ntmps89
 go_wp2
 go_loopg [6] k (fun kq v6 w' => ∃ (aC : Int), v6 = .int .i64 aC ∧ Ya (Yz.l0 kq a0 a1 aC = some (r1, r2)) ∧ Ya (kq ≤ k) ∧ Drawn0 w w')
 case atStart => exact ⟨(0), Zf, H', ⟨Nat.le_refl _⟩, Zh⟩
 case round =>
  clear H'
  try clear p2
  obtain ⟨aC, rfl, HA, cU, ⟨m1, rfl⟩⟩ := hrel
  cases gk with
  | zero => exact absurd HA.out (by simp [Yz.l0])
  | succ k1 =>
   have H := HA.out
   clear HA
   simp only [Yz.l0] at H
   by_cases c3 : aC < (a0.size : Int)
   ·rw [if_pos c3] at H
    have cB : decide (aC < (a0.size : Int)) = true := decide_eq_true c3
    clear c3
    by_cases c4 : 0 ≤ aC
    rotate_left
    ·rw [if_neg c4] at H
     exact absurd H Zv
    rw [if_pos c4] at H
    have bX : decide (0 ≤ aC) = true := decide_eq_true c4
    clear c4
    replace H := Option.bind_eq_some_iff.mp H
    obtain ⟨aGb, pM, H⟩ := H
    try dsimp -simprocs only at H
    have A6 := Ya.mk pM
    clear pM
    by_cases c7 : aGb = true
    ·subst c7
     rw [if_pos rfl] at H
     have H' := Ya.mk H
     clear H
     have p5 : 0 ≤ (aC : Int) := of_decide_eq_true Zc
     have q5 : aC < (a0.size : Int) := of_decide_eq_true Zc
     have kB := Yza a0 aC
     replace p5 := eq_true p5
     replace q5 := eq_true q5
     go_wp2_with (first | ((with_reducible refine Yi (f := 87) rfl ?_); refine Yaa (some 19) rfl rfl Tryz.func87 Zi rfl #[.int .u8 (bt a0 aC)] rfl Zb ?_; (with_reducible refine (Yw.calls (bt a0 aC) true _ ?side1 A6.out).mono ?_); (case side1 => first | exact HE.out | exact EnvOk.heap HE.out rfl); rintro e w' ⟨rfl, ⟨nd, rfl⟩⟩; refine ⟨_, rfl, ?_⟩))
     go_roundg k1
     case measure => have := cU.out; omega
     case rel => exact ⟨(wrap64 (aC + 1)), Zf, H', ⟨Zaa⟩, Zh⟩
    replace c7 := Bool.eq_false_iff.mpr c7
    subst c7
    rw [if_neg (show ¬ (false = true) by decide)] at H
    simp only [Option.some.injEq, Prod.mk.injEq] at H
    obtain ⟨rfl, rfl⟩ := H
    have p5 : 0 ≤ (aC : Int) := of_decide_eq_true Zc
    have q5 : aC < (a0.size : Int) := of_decide_eq_true Zc
    have kB := Yza a0 aC
    replace p5 := eq_true p5
    replace q5 := eq_true q5
    go_wp2_with (first | ((with_reducible refine Yi (f := 87) rfl ?_); refine Yaa (some 19) rfl rfl Tryz.func87 Zi rfl #[.int .u8 (bt a0 aC)] rfl Zb ?_; (with_reducible refine (Yw.calls (bt a0 aC) false _ ?side1 A6.out).mono ?_); (case side1 => first | exact HE.out | exact EnvOk.heap HE.out rfl); rintro e w' ⟨rfl, ⟨nd, rfl⟩⟩; refine ⟨_, rfl, ?_⟩))
    go_ret2
    exact ⟨Zf, Zh⟩
   rw [if_neg c3] at H
   have cB : decide (aC < (a0.size : Int)) = false := decide_eq_false c3
   clear c3
   by_cases c8 : a0.toList = ([] : List UInt8)
   ·rw [if_pos c8] at H
    have gQ : (a0.toList == ([] : List UInt8)) = true := beq_iff_eq.mpr c8
    have iW : (a0.toList != ([] : List UInt8)) = false := bne_eq_false_iff_eq.mpr c8
    clear c8
    simp only [Option.some.injEq, Prod.mk.injEq] at H
    obtain ⟨rfl, rfl⟩ := H
    go_wp2
    go_ret2
    exact ⟨Zf, Zh⟩
   rw [if_neg c8] at H
   have gQ : (a0.toList == ([] : List UInt8)) = false := beq_eq_false_iff_ne.mpr c8
   have iW : (a0.toList != ([] : List UInt8)) = true := bne_iff_ne.mpr c8
   have H' := Ya.mk H
   clear H
   go_wp2
   go_loopg [7, 8] k1 (fun kq v7 v8 w' => ∃ (iN : Int) (cO : Int), v7 = .int .i64 iN ∧ v8 = .int .i64 cO ∧ Ya (Yz.l1 kq a0 a1 iN cO = some (r1, r2)) ∧ Ya (kq ≤ k1) ∧ Drawn0 w w')
   case atStart => exact ⟨(0), (0), Zf, Zf, H', ⟨Nat.le_refl _⟩, Zh⟩
   case round =>
    clear H'
    try clear p2
    try clear c3
    try clear cB
    try clear c4
    try clear bX
    try clear p5
    try clear q5
    try clear kB
    try clear p6
    try clear c7
    try clear c8
    try clear gQ
    try clear iW
    try clear p2
    try clear p5
    try clear q5
    obtain ⟨iN, cO, rfl, rfl, HA, jT, ⟨m2, rfl⟩⟩ := hrel
    cases gk with
    | zero => exact absurd HA.out (by simp [Yz.l1])
    | succ k2 =>
     have H := HA.out
     clear HA
     simp only [Yz.l1] at H
     by_cases c9 : cO < (a0.size : Int)
     rotate_left
     ·rw [if_neg c9] at H
      have iA : decide (cO < (a0.size : Int)) = false := decide_eq_false c9
      clear c9
      simp only [Option.some.injEq, Prod.mk.injEq] at H
      obtain ⟨rfl, rfl⟩ := H
      go_wp2
      go_ret2
      exact ⟨Zf, Zh⟩
     rw [if_pos c9] at H
     have iA : decide (cO < (a0.size : Int)) = true := decide_eq_true c9
     clear c9
     by_cases dP : 0 ≤ cO
     rotate_left
     ·rw [if_neg dP] at H
      exact absurd H Zv
     rw [if_pos dP] at H
     have gY : decide (0 ≤ cO) = true := decide_eq_true dP
     clear dP
     by_cases dD : iN > (wrap64 (Int.tdiv a1 10))
     ·rw [if_pos dD] at H
      have dS : decide ((wrap64 (Int.tdiv a1 10)) < iN) = true := decide_eq_true dD
      clear dD
      simp only [Option.some.injEq, Prod.mk.injEq] at H
      obtain ⟨rfl, rfl⟩ := H
      have iL : 0 ≤ (cO : Int) := of_decide_eq_true Zc
      have iM : cO < (a0.size : Int) := of_decide_eq_true Zc
      have lA := Yza a0 cO
      replace iL := eq_true iL
      replace iM := eq_true iM
      go_wp2
      go_ret2
      exact ⟨Zf, Zh⟩
     rw [if_neg dD] at H
     have dS : decide ((wrap64 (Int.tdiv a1 10)) < iN) = false := decide_eq_false dD
     clear dD
     by_cases eL : iN = (wrap64 (Int.tdiv a1 10))
     rotate_left
     ·rw [if_neg eL] at H
      have hD : (iN == (wrap64 (Int.tdiv a1 10))) = false := beq_eq_false_iff_ne.mpr eL
      have aET : (iN != (wrap64 (Int.tdiv a1 10))) = true := bne_iff_ne.mpr eL
      by_cases eN : a1 < 0
      ·rw [if_pos eN] at H
       have gZ : decide (a1 < 0) = true := decide_eq_true eN
       clear eN
       simp only [Option.some.injEq, Prod.mk.injEq] at H
       obtain ⟨rfl, rfl⟩ := H
       have iL : 0 ≤ (cO : Int) := of_decide_eq_true Zc
       have iM : cO < (a0.size : Int) := of_decide_eq_true Zc
       have lA := Yza a0 cO
       replace iL := eq_true iL
       replace iM := eq_true iM
       go_wp2
       go_ret2
       exact ⟨Zf, Zh⟩
      rw [if_neg eN] at H
      have gZ : decide (a1 < 0) = false := decide_eq_false eN
      clear eN
      have H' := Ya.mk H
      clear H
      have iL : 0 ≤ (cO : Int) := of_decide_eq_true Zc
      have iM : cO < (a0.size : Int) := of_decide_eq_true Zc
      have lA := Yza a0 cO
      replace iL := eq_true iL
      replace iM := eq_true iM
      go_wp2
      go_roundg k2
      case measure => have := cU.out; have := jT.out; omega
      case rel => exact ⟨(wrap64 ((wrap64 (iN * 10)) + (((bt a0 cO) - 48) % 256))), (wrap64 (cO + 1)), Zf, Zf, H', ⟨Zdb⟩, Zh⟩
     rw [if_pos eL] at H
     have hD : (iN == (wrap64 (Int.tdiv a1 10))) = true := beq_iff_eq.mpr eL
     have aET : (iN != (wrap64 (Int.tdiv a1 10))) = false := bne_eq_false_iff_eq.mpr eL
     clear eL
     by_cases gO : (((bt a0 cO) - 48) % 256) > (Int.tmod a1 10)
     ·rw [if_pos gO] at H
      have iC : decide ((Int.tmod a1 10) < (((bt a0 cO) - 48) % 256)) = true := decide_eq_true gO
      clear gO
      simp only [Option.some.injEq, Prod.mk.injEq] at H
      obtain ⟨rfl, rfl⟩ := H
      have iL : 0 ≤ (cO : Int) := of_decide_eq_true Zc
      have iM : cO < (a0.size : Int) := of_decide_eq_true Zc
      have lA := Yza a0 cO
      replace iL := eq_true iL
      replace iM := eq_true iM
      go_wp2
      go_ret2
      exact ⟨Zf, Zh⟩
     rw [if_neg gO] at H
     have iC : decide ((Int.tmod a1 10) < (((bt a0 cO) - 48) % 256)) = false := decide_eq_false gO
     clear gO
     by_cases dG : a1 < 0
     ·rw [if_pos dG] at H
      have eS : decide (a1 < 0) = true := decide_eq_true dG
      clear dG
      simp only [Option.some.injEq, Prod.mk.injEq] at H
      obtain ⟨rfl, rfl⟩ := H
      have iL : 0 ≤ (cO : Int) := of_decide_eq_true Zc
      have iM : cO < (a0.size : Int) := of_decide_eq_true Zc
      have lA := Yza a0 cO
      replace iL := eq_true iL
      replace iM := eq_true iM
      go_wp2
      go_ret2
      exact ⟨Zf, Zh⟩
     rw [if_neg dG] at H
     have eS : decide (a1 < 0) = false := decide_eq_false dG
     clear dG
     have H' := Ya.mk H
     clear H
     have iL : 0 ≤ (cO : Int) := of_decide_eq_true Zc
     have iM : cO < (a0.size : Int) := of_decide_eq_true Zc
     have lA := Yza a0 cO
     replace iL := eq_true iL
     replace iM := eq_true iM
     go_wp2
     go_roundg k2
     case measure => have := cU.out; have := jT.out; omega
     case rel => exact ⟨(wrap64 ((wrap64 (iN * 10)) + (((bt a0 cO) - 48) % 256))), (wrap64 (cO + 1)), Zf, Zf, H', ⟨Zdb⟩, Zh⟩
end Go.Proofs.YtnmglnglbdpjjaaGreatDoor.X
