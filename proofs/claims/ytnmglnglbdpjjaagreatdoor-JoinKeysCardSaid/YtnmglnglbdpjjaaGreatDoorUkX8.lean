/- Printed by a program of ours: functions as plain Lean, and what a call of each does. -/
import Derived.Test.YtnmglnglbdpjjaaGreatDoorUkWords
import Derived.Test.YtnmglnglbdpjjaaGreatDoorUkX0
import Derived.Test.YtnmglnglbdpjjaaGreatDoorUkX5
import Derived.Test.YtnmglnglbdpjjaaGreatDoorUkX7
namespace Go.Proofs.YtnmglnglbdpjjaaGreatDoor.X
open Go.RowKit Go.Yw.PrintWords Go.Yw.PrintLast Go.Yw.PrintMore
attribute [local go_sem] Yde Yee Ywe Yve Ypd Yod Yce Ybe
set_option linter.unusedVariables false
set_option linter.unusedSimpArgs false
set_option maxHeartbeats 8000000
set_option maxRecDepth 100000
mutual
def Yn.l0 : Nat → ByteArray → List Int → Int → Option (ByteArray)
 | 0, _, _, _ => none
 | k + 1, x0, x3, x4 => if x4 < (x0.size : Int) then (if 0 ≤ x4 then (if (bt x0 x4) = 37 then (if (wrap64 (x4 + 2)) < (x0.size : Int) then (if 0 ≤ (wrap64 (x4 + 1)) then (if (wrap64 (x4 + 1)) < (x0.size : Int) then ((Yca.f k (bt x0 (wrap64 (x4 + 1)))).bind fun rV => (if rV < 16 then (if 0 ≤ (wrap64 (x4 + 2)) then ((Yca.f k (bt x0 (wrap64 (x4 + 2)))).bind fun uI => (Yn.j1 k x0 x3 x4 (decide (uI < 16)))) else (none)) else (Yn.j1 k x0 x3 x4 false))) else (none)) else (none)) else (Yn.j1 k x0 x3 x4 false)) else (Yn.j1 k x0 x3 x4 false)) else (none)) else (some (strOfNums x3))
def Yn.j1 : Nat → ByteArray → List Int → Int → Bool → Option (ByteArray)
 | 0, _, _, _, _ => none
 | k + 1, x0, x3, x4, x37 => if x37 = true then (if 0 ≤ (wrap64 (x4 + 1)) then (if (wrap64 (x4 + 1)) < (x0.size : Int) then ((Yca.f k (bt x0 (wrap64 (x4 + 1)))).bind fun rW => (if 0 ≤ (wrap64 (x4 + 2)) then (if (wrap64 (x4 + 2)) < (x0.size : Int) then ((Yca.f k (bt x0 (wrap64 (x4 + 2)))).bind fun pW => (if x3.length < 140737488355328 then (Yn.l0 k x0 (x3 ++ [((((rW * 16) % 4294967296) + pW) % 4294967296) % 256]) (wrap64 ((wrap64 (x4 + 2)) + 1))) else (none))) else (none)) else (none))) else (none)) else (none)) else (if 0 ≤ x4 then (if x4 < (x0.size : Int) then (if x3.length < 140737488355328 then (Yn.l0 k x0 (x3 ++ [bt x0 x4]) (wrap64 (x4 + 1))) else (none)) else (none)) else (none))
end
def Yn.f (k : Nat) (a0 : ByteArray) : Option (ByteArray) := Yn.l0 k a0 ([] : List Int) 0
def Yn.T6 : Bool × List (List Nat × List Nat) := (true, [([], []), ([], []), ([], []), ([2], [2]), ([1, 3], [1, 3]), ([4], [4]), ([5], [5]), ([], []), ([], []), ([8], [8]), ([7, 9], [7, 9]), ([10, 5], [10]), ([6, 11], [6, 11]), ([12], [12]), ([13], [13]), ([0, 14, 11], [0, 14]), ([15, 15, 0, 1, 2, 3, 4, 5, 6, 7, 8, 9, 10, 11, 12, 13, 14, 15], [0, 15])])
def Yn.B6 : List Nat := [0, 0, 0, 4, 14, 30, 62, 0, 0, 256, 896, 1982, 4094, 8190, 16382, 32767, 65535]
theorem Yn.tab6 : rtab .any (opsOf Tryz.f55 6) = Yn.T6 := by kernel_rfl
theorem Yn.bits6 : Yoh Yn.T6.2 Yn.B6 = true := by kernel_rfl
theorem Yn.calls (k : Nat) (a0 r : ByteArray) (w : World) (hE : EnvOk w) (h : Yn.f k a0 = some r) :
  Calls Tryz.prog 55 #[.string a0] w fun e w' => e = .returned (.string r) ∧ Below w.heap.size w w' := by
 have HE := Ya.mk hE
 clear hE
 have HB := Ya.mk (Below.refl w.heap.size w)
 have H : (Yn.l0 k a0 ([] : List Int) 0) = some r := h
 clear h
 have H' := Ya.mk H
 clear H
 go_enter Tryz.func55, Tryz.ntmps55
 go_wp2
 go_loopg [3, 4] k (fun kq v3 v4 w' => ∃ (aE : List Int) (aA : Int), v4 = .int .i64 aA ∧ Ya (Yn.l0 kq a0 aE aA = some r) ∧ Ya (kq ≤ k) ∧ Ya (Kd.R (Kd.int .u8) 5 w' w.heap.size (fun _ => True) v3 aE) ∧ Ya (Below w.heap.size w w'))
 case atStart => exact ⟨(([] : List Int)), (0), Zf, H', ⟨Nat.le_refl _⟩, ⟨Zfa⟩, ⟨Za⟩⟩
 case round =>
  clear H'
  obtain ⟨aE, aA, rfl, HA, dD, HO_3, HB⟩ := hrel
  cases gk with
  | zero => exact absurd HA.out (by simp [Yn.l0])
  | succ k1 =>
   have H := HA.out
   clear HA
   simp only [Yn.l0] at H
   by_cases c2 : aA < (a0.size : Int)
   rotate_left
   ·rw [if_neg c2] at H
    have eT : decide (aA < (a0.size : Int)) = false := decide_eq_false c2
    clear c2
    obtain rfl := Option.some.inj H
    have aXw := Ygh (P := Tryz.prog) Tryz.underlying62 Tryz.underlying5 Tryz.underlying9 (Kd.own_of_R HO_3.out)
    go_wp2
    go_ret
    exact ⟨Zk, Za⟩
   rw [if_pos c2] at H
   have eT : decide (aA < (a0.size : Int)) = true := decide_eq_true c2
   clear c2
   have qY := Ya.mk H
   clear H
   go_upto_region 5 with (fail)
   go_cut [37] (fun v37 wc => ∃ (kq : Nat) (aAf : Bool), v37 = .bool aAf ∧ Ya (Yn.j1 kq a0 aE aA aAf = some r) ∧ Ya (kq ≤ k1) ∧ Ya (Kd.R (Kd.int .u8) 5 wc w.heap.size (fun _ => True) u3 aE) ∧ Ya (Below w.heap.size w wc))
   case first =>
    have H := qY.out
    clear qY
    by_cases c4 : 0 ≤ aA
    rotate_left
    ·rw [if_neg c4] at H
     exact absurd H Zv
    rw [if_pos c4] at H
    have cF : decide (0 ≤ aA) = true := decide_eq_true c4
    clear c4
    (first | rw [cF] | (simp only [Yma, Yqa]; rw [cF]) | skip)
    by_cases c6 : (bt a0 aA) = 37
    rotate_left
    ·rw [if_neg c6] at H
     have dP : ((bt a0 aA) == 37) = false := beq_eq_false_iff_ne.mpr c6
     have jF : ((bt a0 aA) != 37) = true := bne_iff_ne.mpr c6
     have H' := Ya.mk H
     clear H
     have p5 : 0 ≤ (aA : Int) := of_decide_eq_true Zc
     have q5 : aA < (a0.size : Int) := of_decide_eq_true Zc
     have kK := Yab a0 aA
     replace p5 := eq_true p5
     replace q5 := eq_true q5
     go_wp2
     go_meet
     case rel => exact ⟨_, (false), Zf, H', ⟨Zka⟩, ⟨Zm⟩, ⟨Za⟩⟩
    rw [if_pos c6] at H
    have dP : ((bt a0 aA) == 37) = true := beq_iff_eq.mpr c6
    have jF : ((bt a0 aA) != 37) = false := bne_eq_false_iff_eq.mpr c6
    clear c6
    by_cases c7 : (wrap64 (aA + 2)) < (a0.size : Int)
    rotate_left
    ·rw [if_neg c7] at H
     have dA : decide ((wrap64 (aA + 2)) < (a0.size : Int)) = false := decide_eq_false c7
     clear c7
     have H' := Ya.mk H
     clear H
     have p5 : 0 ≤ (aA : Int) := of_decide_eq_true Zc
     have q5 : aA < (a0.size : Int) := of_decide_eq_true Zc
     have kK := Yab a0 aA
     replace p5 := eq_true p5
     replace q5 := eq_true q5
     go_wp2
     go_meet
     case rel => exact ⟨_, (false), Zf, H', ⟨Zka⟩, ⟨Zm⟩, ⟨Za⟩⟩
    rw [if_pos c7] at H
    have dA : decide ((wrap64 (aA + 2)) < (a0.size : Int)) = true := decide_eq_true c7
    clear c7
    obtain ⟨ji8, qZ⟩ : ∃ j_ : Int, (wrap64 (aA + 1)) = j_ := ⟨_, rfl⟩
    replace H : (if 0 ≤ (ji8) then (if (ji8) < (a0.size : Int) then ((Yca.f k1 (bt a0 (ji8))).bind fun rV => (if rV < 16 then (if 0 ≤ (wrap64 (aA + 2)) then ((Yca.f k1 (bt a0 (wrap64 (aA + 2)))).bind fun uI => (Yn.j1 k1 a0 aE aA (decide (uI < 16)))) else (none)) else (Yn.j1 k1 a0 aE aA false))) else (none)) else (none)) = some r := by first | (rw [qZ] at H; exact H) | (simp only [qZ] at H ⊢; exact H)
    have hji8w : (IntKind.i64.wrap (aA + 1)) = ji8 := (Yma _).trans qZ
    by_cases c9 : 0 ≤ (ji8)
    rotate_left
    ·rw [if_neg c9] at H
     exact absurd H Zv
    rw [if_pos c9] at H
    have iI : decide (0 ≤ (ji8)) = true := decide_eq_true c9
    clear c9
    by_cases dR : (ji8) < (a0.size : Int)
    rotate_left
    ·rw [if_neg dR] at H
     exact absurd H Zv
    rw [if_pos dR] at H
    have hH : decide ((ji8) < (a0.size : Int)) = true := decide_eq_true dR
    clear dR
    replace H := Option.bind_eq_some_iff.mp H
    obtain ⟨rV, aCa, H⟩ := H
    try dsimp -simprocs only at H
    have A12 := Ya.mk aCa
    clear aCa
    by_cases eN : rV < 16
    rotate_left
    ·rw [if_neg eN] at H
     have hM : decide (rV < 16) = false := decide_eq_false eN
     clear eN
     have H' := Ya.mk H
     clear H
     have p5 : 0 ≤ (aA : Int) := of_decide_eq_true Zc
     have q5 : aA < (a0.size : Int) := of_decide_eq_true Zc
     have kK := Yab a0 aA
     replace p5 := eq_true p5
     replace q5 := eq_true q5
     have iS : 0 ≤ ((ji8) : Int) := of_decide_eq_true Zc
     have iT : (ji8) < (a0.size : Int) := of_decide_eq_true Zc
     have lK := Yab a0 (ji8)
     replace iS := eq_true iS
     replace iT := eq_true iT
     go_wp2_with (first | (go_at_call 97; (with_reducible refine (Yca.calls k1 (bt a0 (ji8)) rV _ ?side1 A12.out).mono ?_); (case side1 => first | exact HE.out | exact EnvOk.below HE.out Za); rintro e w' ⟨rfl, ⟨nd, rfl⟩⟩))
     go_meet
     case rel => exact ⟨_, (false), Zf, H', ⟨Zka⟩, ⟨Zm⟩, ⟨Za⟩⟩
    rw [if_pos eN] at H
    have hM : decide (rV < 16) = true := decide_eq_true eN
    clear eN
    obtain ⟨ji14, uJ⟩ : ∃ j_ : Int, (wrap64 (aA + 2)) = j_ := ⟨_, rfl⟩
    replace H : (if 0 ≤ (ji14) then ((Yca.f k1 (bt a0 (ji14))).bind fun uI => (Yn.j1 k1 a0 aE aA (decide (uI < 16)))) else (none)) = some r := by first | (rw [uJ] at H; exact H) | (simp only [uJ] at H ⊢; exact H)
    (try rw [uJ] at dA)
    (try rw [uJ] at A12)
    have hji14w : (IntKind.i64.wrap (aA + 2)) = ji14 := (Yma _).trans uJ
    by_cases dJ : 0 ≤ (ji14)
    rotate_left
    ·rw [if_neg dJ] at H
     exact absurd H Zv
    rw [if_pos dJ] at H
    have eU : decide (0 ≤ (ji14)) = true := decide_eq_true dJ
    clear dJ
    replace H := Option.bind_eq_some_iff.mp H
    obtain ⟨uI, oT, H⟩ := H
    try dsimp -simprocs only at H
    have A17 := Ya.mk oT
    clear oT
    have H' := Ya.mk H
    clear H
    have p5 : 0 ≤ (aA : Int) := of_decide_eq_true Zc
    have q5 : aA < (a0.size : Int) := of_decide_eq_true Zc
    have kK := Yab a0 aA
    replace p5 := eq_true p5
    replace q5 := eq_true q5
    have iS : 0 ≤ ((ji8) : Int) := of_decide_eq_true Zc
    have iT : (ji8) < (a0.size : Int) := of_decide_eq_true Zc
    have lK := Yab a0 (ji8)
    replace iS := eq_true iS
    replace iT := eq_true iT
    go_wp2_with (first | (go_at_call 97; (with_reducible refine (Yca.calls k1 (bt a0 (ji8)) rV _ ?side1 A12.out).mono ?_); (case side1 => first | exact HE.out | exact EnvOk.below HE.out Za); rintro e w' ⟨rfl, ⟨nd, rfl⟩⟩; have p16 : 0 ≤ ((ji14) : Int) := of_decide_eq_true Zc; have q16 : (ji14) < (a0.size : Int) := of_decide_eq_true Zc; have aGu := Yab a0 (ji14); replace p16 := eq_true p16; replace q16 := eq_true q16) | (go_at_call 97; (with_reducible refine (Yca.calls k1 (bt a0 (ji14)) uI _ ?side1 A17.out).mono ?_); (case side1 => first | exact HE.out | exact EnvOk.below HE.out Za); rintro e w' ⟨rfl, ⟨nd, rfl⟩⟩))
    go_meet
    case rel => exact ⟨_, (decide (uI < 16)), Zf, H', ⟨Zka⟩, ⟨Zm⟩, ⟨Za⟩⟩
   case rest =>
    clear qY
    try clear c1
    try clear p1
    try clear q1
    try clear xI
    try clear c2
    try clear eT
    try clear p2
    try clear c4
    try clear cF
    try clear c5
    try clear p5
    try clear q5
    try clear kK
    try clear c6
    try clear dP
    try clear jF
    try clear p6
    try clear c7
    try clear dA
    try clear c9
    try clear iI
    try clear dR
    try clear hH
    try clear iS
    try clear iT
    try clear lK
    try clear eN
    try clear hM
    try clear dJ
    try clear eU
    try clear p16
    try clear q16
    try clear aGu
    try clear iS
    try clear p16
    try clear p5
    try clear iT
    try clear q16
    try clear q5
    obtain ⟨kq, aAf, rfl, HA, qD, HO_3, HB⟩ := hcut
    cases kq with
    | zero => exact absurd HA.out (by simp [Yn.j1])
    | succ nM =>
     have H := HA.out
     clear HA
     simp only [Yn.j1] at H
     by_cases eQ : aAf = true
     rotate_left
     ·replace eQ := Bool.eq_false_iff.mpr eQ
      subst eQ
      rw [if_neg (show ¬ (false = true) by decide)] at H
      by_cases c32 : 0 ≤ aA
      rotate_left
      ·rw [if_neg c32] at H
       exact absurd H Zv
      rw [if_pos c32] at H
      have aJt : decide (0 ≤ aA) = true := decide_eq_true c32
      clear c32
      by_cases c33 : aA < (a0.size : Int)
      rotate_left
      ·rw [if_neg c33] at H
       exact absurd H Zv
      rw [if_pos c33] at H
      have aXx : decide (aA < (a0.size : Int)) = true := decide_eq_true c33
      clear c33
      by_cases c35 : aE.length < 140737488355328
      rotate_left
      ·rw [if_neg c35] at H
       exact absurd H Zv
      rw [if_pos c35] at H
      have aJW := Ya.mk c35
      clear c35
      obtain ⟨aJX, uK⟩ : ∃ y_ : List Int, y_ = (aE ++ [bt a0 aA]) := ⟨_, rfl⟩
      replace H : (Yn.l0 nM a0 aJX (wrap64 (aA + 1))) = some r := by first | (rw [uK]; with_reducible exact H) | (have dK := (Option.bind_some _ _).symm.trans H; rw [uK]; with_reducible exact dK) | (have dK := (Option.bind_some _ _).symm.trans H; with_reducible exact dK) | with_reducible exact H | (rw [uK]; exact H) | exact H
      have aJY := Ya.mk uK
      clear uK
      have H' := Ya.mk H
      clear H
      have p34 : 0 ≤ (aA : Int) := of_decide_eq_true Zc
      have q34 : aA < (a0.size : Int) := of_decide_eq_true Zc
      have aYt := Yab a0 aA
      replace p34 := eq_true p34
      replace q34 := eq_true q34
      go_wp2_with (first | ((with_reducible refine Yge (b := .append) (xs := #[.tmp 56, .tmp 60]) rfl ?_); (try (refine Yli Zja ?_; dsimp only)); at_builtin; refine Kd.R_append (Kd.int .u8) (w0 := w) w.heap.size rfl (.tmp 56) (.tmp 60) 62 5 (.int .u8 0) 1 rfl Tryz.underlying62 Ytl rfl Zea Zl u3 aE (bt a0 aA) [.int .u8 (bt a0 aA)] (fun _ => True) (fun _ => False) rfl rfl ?aP (fun _ hk => hk.elim) ?aF ?aO ?aB ?aS ?aL ?_; (case aP => exact rfl); (case aB => exact Za); (case aF => exact (fun _ _ => trivial)); (case aO => exact Zm); (case aS => exact (Yda Za)); (case aL => have := aJW.out; omega); intro aYu w36 ho hb hg hat; rw [← aJY.out] at ho; have aM := Ya.mk (hb); have aU := Ya.mk (ho); clear HB; clear HO_3; have HB := aM; have aJZ := aU; clear aM aU; clear ho hb hg hat))
      go_roundg nM
      case measure => have := dD.out; have := qD.out; omega
      case rel => exact ⟨(aJX), (wrap64 (aA + 1)), Zf, H', ⟨by have := dD.out; have := qD.out; omega⟩, ⟨by (with_reducible repeat (first | apply Kd.R_alloc | apply Kd.R_drewN | apply Kd.R_drew)); exact aJZ.out⟩, ⟨Za⟩⟩
     subst eQ
     rw [if_pos rfl] at H
     obtain ⟨ji19, aAg⟩ : ∃ j_ : Int, (wrap64 (aA + 1)) = j_ := ⟨_, rfl⟩
     replace H : (if 0 ≤ (ji19) then (if (ji19) < (a0.size : Int) then ((Yca.f nM (bt a0 (ji19))).bind fun rW => (if 0 ≤ (wrap64 (aA + 2)) then (if (wrap64 (aA + 2)) < (a0.size : Int) then ((Yca.f nM (bt a0 (wrap64 (aA + 2)))).bind fun pW => (if aE.length < 140737488355328 then (Yn.l0 nM a0 (aE ++ [((((rW * 16) % 4294967296) + pW) % 4294967296) % 256]) (wrap64 ((wrap64 (aA + 2)) + 1))) else (none))) else (none)) else (none))) else (none)) else (none)) = some r := by first | (rw [aAg] at H; exact H) | (simp only [aAg] at H ⊢; exact H)
     have hji19w : (IntKind.i64.wrap (aA + 1)) = ji19 := (Yma _).trans aAg
     by_cases hD : 0 ≤ (ji19)
     rotate_left
     ·rw [if_neg hD] at H
      exact absurd H Zv
     rw [if_pos hD] at H
     have kJ : decide (0 ≤ (ji19)) = true := decide_eq_true hD
     clear hD
     by_cases mQ : (ji19) < (a0.size : Int)
     rotate_left
     ·rw [if_neg mQ] at H
      exact absurd H Zv
     rw [if_pos mQ] at H
     have aAh : decide ((ji19) < (a0.size : Int)) = true := decide_eq_true mQ
     clear mQ
     replace H := Option.bind_eq_some_iff.mp H
     obtain ⟨rW, aCb, H⟩ := H
     try dsimp -simprocs only at H
     have A23 := Ya.mk aCb
     clear aCb
     obtain ⟨ji24, qR⟩ : ∃ j_ : Int, (wrap64 (aA + 2)) = j_ := ⟨_, rfl⟩
     replace H : (if 0 ≤ (ji24) then (if (ji24) < (a0.size : Int) then ((Yca.f nM (bt a0 (ji24))).bind fun pW => (if aE.length < 140737488355328 then (Yn.l0 nM a0 (aE ++ [((((rW * 16) % 4294967296) + pW) % 4294967296) % 256]) (wrap64 ((ji24) + 1))) else (none))) else (none)) else (none)) = some r := by first | (rw [qR] at H; exact H) | (simp only [qR] at H ⊢; exact H)
     (try rw [qR] at A23)
     have hji24w : (IntKind.i64.wrap (aA + 2)) = ji24 := (Yma _).trans qR
     by_cases qN : 0 ≤ (ji24)
     rotate_left
     ·rw [if_neg qN] at H
      exact absurd H Zv
     rw [if_pos qN] at H
     have tR : decide (0 ≤ (ji24)) = true := decide_eq_true qN
     clear qN
     by_cases wH : (ji24) < (a0.size : Int)
     rotate_left
     ·rw [if_neg wH] at H
      exact absurd H Zv
     rw [if_pos wH] at H
     have aJs : decide ((ji24) < (a0.size : Int)) = true := decide_eq_true wH
     clear wH
     replace H := Option.bind_eq_some_iff.mp H
     obtain ⟨pW, tW, H⟩ := H
     try dsimp -simprocs only at H
     have A28 := Ya.mk tW
     clear tW
     by_cases oX : aE.length < 140737488355328
     rotate_left
     ·rw [if_neg oX] at H
      exact absurd H Zv
     rw [if_pos oX] at H
     have aKa := Ya.mk oX
     clear oX
     obtain ⟨aKb, uL⟩ : ∃ y_ : List Int, y_ = (aE ++ [((((rW * 16) % 4294967296) + pW) % 4294967296) % 256]) := ⟨_, rfl⟩
     replace H : (Yn.l0 nM a0 aKb (wrap64 ((ji24) + 1))) = some r := by first | (rw [uL]; with_reducible exact H) | (have dK := (Option.bind_some _ _).symm.trans H; rw [uL]; with_reducible exact dK) | (have dK := (Option.bind_some _ _).symm.trans H; with_reducible exact dK) | with_reducible exact H | (rw [uL]; exact H) | exact H
     have aKc := Ya.mk uL
     clear uL
     have H' := Ya.mk H
     clear H
     try go_wp2
     have aM := Ya.mk (Kd.R_drew HO_3.out)
     have aU := Ya.mk (Yc HB.out)
     clear HO_3
     clear HB
     have HO_3 := aM
     have HB := aU
     clear aM aU
     have p22 : 0 ≤ ((ji19) : Int) := of_decide_eq_true Zc
     have q22 : (ji19) < (a0.size : Int) := of_decide_eq_true Zc
     have aWn := Yab a0 (ji19)
     replace p22 := eq_true p22
     replace q22 := eq_true q22
     have p27 : 0 ≤ ((ji24) : Int) := of_decide_eq_true Zc
     have q27 : (ji24) < (a0.size : Int) := of_decide_eq_true Zc
     have aYv := Yab a0 (ji24)
     replace p27 := eq_true p27
     replace q27 := eq_true q27
     refine Yqh (n := 17) (S := fun w' => True) (ds := []) #[false, false, false, false, false, false, false, false, false, false, false, false, false, false, false, false, false] Zi rfl rfl trivial (fun hHeld => ?_); refine Yuh Yn.tab6 Yn.bits6 (fun HT_ HW_ => ?_)
     generalize wc.drew = w30 at HO_3 HB hHeld ⊢
     refine Yqb (i := 0) (N := some 38) (v := ?_) (a' := ?_) #[true, false, false, false, false, false, false, false, false, false, false, false, false, false, false, false, false] rfl rfl (Ypb HT_.out Zi) (fun _ _ _ h => h) (Or.inl ⟨Zja, ?_⟩) ?_ ?_
     rotate_left
     ·exact Zzb
     rotate_left
     ·exact Zac
     refine Yqb (i := 1) (N := some 39) (v := ?_) (a' := ?_) #[true, true, false, false, false, false, false, false, false, false, false, false, false, false, false, false, false] rfl rfl (Ypb HT_.out Zi) (fun _ _ _ h => h) (Or.inl ⟨Zja, ?_⟩) ?_ ?_
     rotate_left
     ·exact Zzb
     rotate_left
     ·exact Zac
     refine Yqb (i := 2) (N := some 40) (v := ?_) (a' := ?_) #[true, true, true, false, false, false, false, false, false, false, false, false, false, false, false, false, false] rfl rfl (Ypb HT_.out Zi) (fun _ _ _ h => h) (Or.inl ⟨Zja, ?_⟩) ?_ ?_
     rotate_left
     ·exact Zzb
     rotate_left
     ·exact Zac
     refine Yqb (i := 3) (N := some 41) (v := ?_) (a' := ?_) #[true, true, true, true, false, false, false, false, false, false, false, false, false, false, false, false, false] rfl rfl (Ypb HT_.out Zi) (fun _ _ _ h => h) (Or.inl ⟨Zja, ?_⟩) ?_ ?_
     rotate_left
     ·exact Zzb
     rotate_left
     ·exact Zac
     refine Yqb (i := 7) (N := some 45) (v := ?_) (a' := ?_) #[true, true, true, true, false, false, false, true, false, false, false, false, false, false, false, false, false] rfl rfl (Ypb HT_.out Zi) (fun _ _ _ h => h) (Or.inl ⟨Zja, ?_⟩) ?_ ?_
     rotate_left
     ·exact Zzb
     rotate_left
     ·exact Zac
     refine Yqb (i := 8) (N := some 46) (v := ?_) (a' := ?_) #[true, true, true, true, false, false, false, true, true, false, false, false, false, false, false, false, false] rfl rfl (Ypb HT_.out Zi) (fun _ _ _ h => h) (Or.inl ⟨Zja, ?_⟩) ?_ ?_
     rotate_left
     ·exact Zzb
     rotate_left
     ·exact Zac
     refine Yqb (i := 9) (N := some 47) (v := ?_) (a' := ?_) #[true, true, true, true, false, false, false, true, true, true, false, false, false, false, false, false, false] rfl rfl (Ypb HT_.out Zi) (fun _ _ _ h => h) (Or.inl ⟨Zja, ?_⟩) ?_ ?_
     rotate_left
     ·exact Zzb
     rotate_left
     ·exact Zac
     refine Ylf (i := 4) (N := some 42) (v := ?_) (a' := ?_) #[true, true, true, true, true, false, false, true, true, true, false, false, false, false, false, false, false] rfl rfl (Yne HT_.out HW_.out Zi) (fun _ _ _ h => h) (Or.inl ⟨Zja, ?_⟩) hHeld ?_ ?_
     rotate_left
     ·intro w' _
      go_simp
      with_reducible rfl
     rotate_left
     ·exact Zac
     refine Ylf (i := 10) (N := some 48) (v := ?_) (a' := ?_) #[true, true, true, true, true, false, false, true, true, true, true, false, false, false, false, false, false] rfl rfl (Yne HT_.out HW_.out Zi) (fun _ _ _ h => h) (Or.inl ⟨Zja, ?_⟩) hHeld ?_ ?_
     rotate_left
     ·intro w' _
      go_simp
      with_reducible rfl
     rotate_left
     ·exact Zac
     refine one_ (i := 5) (N := some 43) #[true, true, true, true, true, true, false, true, true, true, true, false, false, false, false, false, false] rfl rfl (Yyf HT_.out Zi) Zea (fun K hK => ?_)
     refine Yih Tryz.func97 Zi rfl #[.int .u8 (bt a0 (ji19))] Zja rfl rfl (by (try simp only [List.map_toArray, List.map_cons, List.map_nil]); first | done | (simp only [aAg]; rfl) | rfl | (simp only [List.length_drop, List.length_take]; rfl)) ?_
     with_reducible refine (Yca.calls nM (bt a0 (ji19)) rW _ ?side1 A23.out).mono ?_
     (case side1 => first | exact HE.out | exact EnvOk.below HE.out Za)
     rintro e w' ⟨rfl, ⟨nd, rfl⟩⟩
     refine ⟨_, rfl, ?_⟩
     refine hK.out _ _ trivial (fun hHeld => ?_)
     clear hK K
     refine Yxg (a' := ?_) ?_ ?_
     rotate_left
     ·show Act.put _ (some 43) _ = _
      simp only [Act.put, List.setIfInBounds_toArray, List.set_cons_zero, List.set_cons_succ, Yma, Yqa]
      rfl
     refine Yqb (i := 6) (N := some 44) (v := ?_) (a' := ?_) #[true, true, true, true, true, true, true, true, true, true, true, false, false, false, false, false, false] rfl rfl (Ypb HT_.out Zi) (fun _ _ _ h => h) (Or.inl ⟨Zja, ?_⟩) ?_ ?_
     rotate_left
     ·exact Zzb
     rotate_left
     ·exact Zac
     refine one_ (i := 11) (N := some 49) #[true, true, true, true, true, true, true, true, true, true, true, true, false, false, false, false, false] rfl rfl (Yyf HT_.out Zi) Zea (fun K hK => ?_)
     refine Yih Tryz.func97 Zi rfl #[.int .u8 (bt a0 (ji24))] Zja rfl rfl (by (try simp only [List.map_toArray, List.map_cons, List.map_nil]); first | done | (simp only [qR]; rfl) | rfl | (simp only [List.length_drop, List.length_take]; rfl)) ?_
     with_reducible refine (Yca.calls nM (bt a0 (ji24)) pW _ ?side1 A28.out).mono ?_
     (case side1 => first | exact HE.out | exact EnvOk.below HE.out Za)
     rintro e w' ⟨rfl, ⟨nd, rfl⟩⟩
     refine ⟨_, rfl, ?_⟩
     refine hK.out _ _ trivial (fun hHeld => ?_)
     clear hK K
     refine Yxg (a' := ?_) ?_ ?_
     rotate_left
     ·show Act.put _ (some 49) _ = _
      simp only [Act.put, List.setIfInBounds_toArray, List.set_cons_zero, List.set_cons_succ, Yma, Yqa]
      rfl
     refine Yqb (i := 12) (N := some 50) (v := ?_) (a' := ?_) #[true, true, true, true, true, true, true, true, true, true, true, true, true, false, false, false, false] rfl rfl (Ypb HT_.out Zi) (fun _ _ _ h => h) (Or.inl ⟨Zja, ?_⟩) ?_ ?_
     rotate_left
     ·exact Zzb
     rotate_left
     ·exact Zac
     refine Yqb (i := 13) (N := some 51) (v := ?_) (a' := ?_) #[true, true, true, true, true, true, true, true, true, true, true, true, true, true, false, false, false] rfl rfl (Ypb HT_.out Zi) (fun _ _ _ h => h) (Or.inl ⟨Zja, ?_⟩) ?_ ?_
     rotate_left
     ·exact Zzb
     rotate_left
     ·exact Zac
     refine one_ (i := 14) (N := some 52) #[true, true, true, true, true, true, true, true, true, true, true, true, true, true, true, false, false] rfl rfl (Yyf HT_.out Zi) Zea (fun K hK => ?_)
     refine value_ (w1 := ?_) (v := ?_) Zja rfl ?_ ?_
     rotate_left 2
     ·go_simp
      constructor
      ·rfl
      ·rfl
     refine hK.out _ _ trivial (fun hHeld => ?_)
     clear hK K
     refine Yxg (a' := ?_) ?_ ?_
     rotate_left
     ·show Act.put _ (some 52) _ = _
      simp only [Act.put, List.setIfInBounds_toArray, List.set_cons_zero, List.set_cons_succ, Yma, Yqa]
      rfl
     refine one_ (i := 15) (N := some 53) #[true, true, true, true, true, true, true, true, true, true, true, true, true, true, true, true, false] rfl rfl (Yyf HT_.out Zi) Zea (fun K hK => ?_)
     refine Kd.R_append_step (Kd.int .u8) (w0 := w) w.heap.size Zja (.tmp 38) (.tmp 52) 62 5 (.int .u8 0) 1 rfl Tryz.underlying62 Ytl rfl Zea Zl u3 aE (((((rW * 16) % 4294967296) + pW) % 4294967296) % 256) [.int .u8 (((((rW * 16) % 4294967296) + pW) % 4294967296) % 256)] (fun _ => True) (fun _ => False) rfl rfl ?aP (fun _ hk => hk.elim) ?aF ?aO ?aB ?aS ?aL ?_
     (case aP => exact rfl)
     (case aB => exact Za)
     (case aF => exact (fun _ _ => trivial))
     (case aO => exact Zm)
     (case aS => exact (Yda Za))
     (case aL => have := aKa.out; omega)
     intro aYw w31 ho hb hg hat
     rw [← aKc.out] at ho
     have aM := Ya.mk (hb)
     have aU := Ya.mk (ho)
     clear HB
     clear HO_3
     have HB := aM
     have aKd := aU
     clear aM aU
     clear ho hb hg hat
     refine hK.out _ _ trivial (fun hHeld => ?_)
     clear hK K
     refine Yxg (a' := ?_) ?_ ?_
     rotate_left
     ·show Act.put _ (some 53) _ = _
      simp only [Act.put, List.setIfInBounds_toArray, List.set_cons_zero, List.set_cons_succ, Yma, Yqa]
      rfl
     refine Yqb (i := 16) (N := some 3) (v := ?_) (a' := ?_) #[true, true, true, true, true, true, true, true, true, true, true, true, true, true, true, true, true] rfl rfl (Ypb HT_.out Zi) (fun _ _ _ h => h) (Or.inl ⟨Zja, ?_⟩) ?_ ?_
     rotate_left
     ·exact Zzb
     rotate_left
     ·exact Zac
     refine Yxi (Yhj HT_.out Zi) ?_
     try go_wp2
     go_roundg nM
     case measure => have := dD.out; have := qD.out; omega
     case rel => exact ⟨(aKb), (wrap64 ((ji24) + 1)), (by first | rfl | (simp; done) | (simp only [← qR] <;> (first | rfl | simp)) | (simp [*]; done)), H', ⟨by have := dD.out; have := qD.out; omega⟩, ⟨by (with_reducible repeat (first | apply Kd.R_alloc | apply Kd.R_drewN | apply Kd.R_drew)); exact aKd.out⟩, ⟨Za⟩⟩
mutual
def Yaa.l0 : Nat → ByteArray → Int → Int → Option (Int × Int)
 | 0, _, _, _ => none
 | k + 1, x0, x1, x6 => if x6 < (x0.size : Int) then (if 0 ≤ x6 then ((Yy.f (bt x0 x6)).bind fun aGv => (if aGv = true then (Yaa.l0 k x0 x1 (wrap64 (x6 + 1))) else (some (0, 3)))) else (none)) else (if x0.toList = ([] : List UInt8) then (some (0, 3)) else (Yaa.l1 k x0 x1 0 0))
def Yaa.l1 : Nat → ByteArray → Int → Int → Int → Option (Int × Int)
 | 0, _, _, _, _ => none
 | k + 1, x0, x1, x7, x8 => if x8 < (x0.size : Int) then (if 0 ≤ x8 then (if x7 > (wrap64 (Int.tdiv x1 10)) then (some (0, 5)) else (if x7 = (wrap64 (Int.tdiv x1 10)) then (if (((bt x0 x8) - 48) % 256) > (Int.tmod x1 10) then (some (0, 5)) else (if x1 < 0 then (some (0, 5)) else (Yaa.l1 k x0 x1 (wrap64 ((wrap64 (x7 * 10)) + (((bt x0 x8) - 48) % 256))) (wrap64 (x8 + 1))))) else (if x1 < 0 then (some (0, 5)) else (Yaa.l1 k x0 x1 (wrap64 ((wrap64 (x7 * 10)) + (((bt x0 x8) - 48) % 256))) (wrap64 (x8 + 1)))))) else (none)) else (some (x7, 0))
end
def Yaa.f (k : Nat) (a0 : ByteArray) (a1 : Int) : Option (Int × Int) := Yaa.l0 k a0 a1 0
theorem Yaa.calls (k : Nat) (a0 : ByteArray) (a1 r1 r2 : Int) (w : World) (hE : EnvOk w) (h : Yaa.f k a0 a1 = some (r1, r2)) :
  Calls Tryz.prog 89 #[.string a0, .int .i64 a1] w fun e w' => e = .returned (.tuple #[.int .i64 r1, .int .i64 r2]) ∧ Drawn0 w w' := by
 have HE := Ya.mk hE
 clear hE
 have H : (Yaa.l0 k a0 a1 0) = some (r1, r2) := h
 clear h
 have H' := Ya.mk H
 clear H
 go_enter Tryz.func89, Tryz.ntmps89
 go_wp2
 go_loopg [6] k (fun kq v6 w' => ∃ (aD : Int), v6 = .int .i64 aD ∧ Ya (Yaa.l0 kq a0 a1 aD = some (r1, r2)) ∧ Ya (kq ≤ k) ∧ Drawn0 w w')
 case atStart => exact ⟨(0), Zf, H', ⟨Nat.le_refl _⟩, Zh⟩
 case round =>
  clear H'
  try clear p2
  obtain ⟨aD, rfl, HA, dD, ⟨m1, rfl⟩⟩ := hrel
  cases gk with
  | zero => exact absurd HA.out (by simp [Yaa.l0])
  | succ k1 =>
   have H := HA.out
   clear HA
   simp only [Yaa.l0] at H
   by_cases c3 : aD < (a0.size : Int)
   ·rw [if_pos c3] at H
    have cJ : decide (aD < (a0.size : Int)) = true := decide_eq_true c3
    clear c3
    by_cases c4 : 0 ≤ aD
    rotate_left
    ·rw [if_neg c4] at H
     exact absurd H Zv
    rw [if_pos c4] at H
    have cF : decide (0 ≤ aD) = true := decide_eq_true c4
    clear c4
    replace H := Option.bind_eq_some_iff.mp H
    obtain ⟨aGv, qI, H⟩ := H
    try dsimp -simprocs only at H
    have A6 := Ya.mk qI
    clear qI
    by_cases c7 : aGv = true
    ·subst c7
     rw [if_pos rfl] at H
     have H' := Ya.mk H
     clear H
     have p5 : 0 ≤ (aD : Int) := of_decide_eq_true Zc
     have q5 : aD < (a0.size : Int) := of_decide_eq_true Zc
     have kK := Yab a0 aD
     replace p5 := eq_true p5
     replace q5 := eq_true q5
     go_wp2_with (first | ((with_reducible refine Yh (f := 87) rfl ?_); refine Yba (some 19) rfl rfl Tryz.func87 Zi rfl #[.int .u8 (bt a0 aD)] rfl Zb ?_; (with_reducible refine (Yy.calls (bt a0 aD) true _ ?side1 A6.out).mono ?_); (case side1 => first | exact HE.out | exact EnvOk.heap HE.out rfl); rintro e w' ⟨rfl, ⟨nd, rfl⟩⟩; refine ⟨_, rfl, ?_⟩))
     go_roundg k1
     case measure => have := dD.out; omega
     case rel => exact ⟨(wrap64 (aD + 1)), Zf, H', ⟨Zaa⟩, Zh⟩
    replace c7 := Bool.eq_false_iff.mpr c7
    subst c7
    rw [if_neg (show ¬ (false = true) by decide)] at H
    simp only [Option.some.injEq, Prod.mk.injEq] at H
    obtain ⟨rfl, rfl⟩ := H
    have p5 : 0 ≤ (aD : Int) := of_decide_eq_true Zc
    have q5 : aD < (a0.size : Int) := of_decide_eq_true Zc
    have kK := Yab a0 aD
    replace p5 := eq_true p5
    replace q5 := eq_true q5
    go_wp2_with (first | ((with_reducible refine Yh (f := 87) rfl ?_); refine Yba (some 19) rfl rfl Tryz.func87 Zi rfl #[.int .u8 (bt a0 aD)] rfl Zb ?_; (with_reducible refine (Yy.calls (bt a0 aD) false _ ?side1 A6.out).mono ?_); (case side1 => first | exact HE.out | exact EnvOk.heap HE.out rfl); rintro e w' ⟨rfl, ⟨nd, rfl⟩⟩; refine ⟨_, rfl, ?_⟩))
    go_ret2
    exact ⟨Zf, Zh⟩
   rw [if_neg c3] at H
   have cJ : decide (aD < (a0.size : Int)) = false := decide_eq_false c3
   clear c3
   by_cases c8 : a0.toList = ([] : List UInt8)
   ·rw [if_pos c8] at H
    have gZ : (a0.toList == ([] : List UInt8)) = true := beq_iff_eq.mpr c8
    have jE : (a0.toList != ([] : List UInt8)) = false := bne_eq_false_iff_eq.mpr c8
    clear c8
    simp only [Option.some.injEq, Prod.mk.injEq] at H
    obtain ⟨rfl, rfl⟩ := H
    go_wp2
    go_ret2
    exact ⟨Zf, Zh⟩
   rw [if_neg c8] at H
   have gZ : (a0.toList == ([] : List UInt8)) = false := beq_eq_false_iff_ne.mpr c8
   have jE : (a0.toList != ([] : List UInt8)) = true := bne_iff_ne.mpr c8
   have H' := Ya.mk H
   clear H
   go_wp2
   go_loopg [7, 8] k1 (fun kq v7 v8 w' => ∃ (iU : Int) (cY : Int), v7 = .int .i64 iU ∧ v8 = .int .i64 cY ∧ Ya (Yaa.l1 kq a0 a1 iU cY = some (r1, r2)) ∧ Ya (kq ≤ k1) ∧ Drawn0 w w')
   case atStart => exact ⟨(0), (0), Zf, Zf, H', ⟨Nat.le_refl _⟩, Zh⟩
   case round =>
    clear H'
    try clear p2
    try clear c3
    try clear cJ
    try clear c4
    try clear cF
    try clear p5
    try clear q5
    try clear kK
    try clear p6
    try clear c7
    try clear c8
    try clear gZ
    try clear jE
    try clear p2
    try clear p5
    try clear q5
    obtain ⟨iU, cY, rfl, rfl, HA, kB, ⟨m2, rfl⟩⟩ := hrel
    cases gk with
    | zero => exact absurd HA.out (by simp [Yaa.l1])
    | succ k2 =>
     have H := HA.out
     clear HA
     simp only [Yaa.l1] at H
     by_cases c9 : cY < (a0.size : Int)
     rotate_left
     ·rw [if_neg c9] at H
      have iI : decide (cY < (a0.size : Int)) = false := decide_eq_false c9
      clear c9
      simp only [Option.some.injEq, Prod.mk.injEq] at H
      obtain ⟨rfl, rfl⟩ := H
      go_wp2
      go_ret2
      exact ⟨Zf, Zh⟩
     rw [if_pos c9] at H
     have iI : decide (cY < (a0.size : Int)) = true := decide_eq_true c9
     clear c9
     by_cases dR : 0 ≤ cY
     rotate_left
     ·rw [if_neg dR] at H
      exact absurd H Zv
     rw [if_pos dR] at H
     have hH : decide (0 ≤ cY) = true := decide_eq_true dR
     clear dR
     by_cases dG : iU > (wrap64 (Int.tdiv a1 10))
     ·rw [if_pos dG] at H
      have dV : decide ((wrap64 (Int.tdiv a1 10)) < iU) = true := decide_eq_true dG
      clear dG
      simp only [Option.some.injEq, Prod.mk.injEq] at H
      obtain ⟨rfl, rfl⟩ := H
      have iS : 0 ≤ (cY : Int) := of_decide_eq_true Zc
      have iT : cY < (a0.size : Int) := of_decide_eq_true Zc
      have lK := Yab a0 cY
      replace iS := eq_true iS
      replace iT := eq_true iT
      go_wp2
      go_ret2
      exact ⟨Zf, Zh⟩
     rw [if_neg dG] at H
     have dV : decide ((wrap64 (Int.tdiv a1 10)) < iU) = false := decide_eq_false dG
     clear dG
     by_cases eN : iU = (wrap64 (Int.tdiv a1 10))
     rotate_left
     ·rw [if_neg eN] at H
      have hM : (iU == (wrap64 (Int.tdiv a1 10))) = false := beq_eq_false_iff_ne.mpr eN
      have aFm : (iU != (wrap64 (Int.tdiv a1 10))) = true := bne_iff_ne.mpr eN
      by_cases eP : a1 < 0
      ·rw [if_pos eP] at H
       have hJ : decide (a1 < 0) = true := decide_eq_true eP
       clear eP
       simp only [Option.some.injEq, Prod.mk.injEq] at H
       obtain ⟨rfl, rfl⟩ := H
       have iS : 0 ≤ (cY : Int) := of_decide_eq_true Zc
       have iT : cY < (a0.size : Int) := of_decide_eq_true Zc
       have lK := Yab a0 cY
       replace iS := eq_true iS
       replace iT := eq_true iT
       go_wp2
       go_ret2
       exact ⟨Zf, Zh⟩
      rw [if_neg eP] at H
      have hJ : decide (a1 < 0) = false := decide_eq_false eP
      clear eP
      have H' := Ya.mk H
      clear H
      have iS : 0 ≤ (cY : Int) := of_decide_eq_true Zc
      have iT : cY < (a0.size : Int) := of_decide_eq_true Zc
      have lK := Yab a0 cY
      replace iS := eq_true iS
      replace iT := eq_true iT
      go_wp2
      go_roundg k2
      case measure => have := dD.out; have := kB.out; omega
      case rel => exact ⟨(wrap64 ((wrap64 (iU * 10)) + (((bt a0 cY) - 48) % 256))), (wrap64 (cY + 1)), Zf, Zf, H', ⟨Zhb⟩, Zh⟩
     rw [if_pos eN] at H
     have hM : (iU == (wrap64 (Int.tdiv a1 10))) = true := beq_iff_eq.mpr eN
     have aFm : (iU != (wrap64 (Int.tdiv a1 10))) = false := bne_eq_false_iff_eq.mpr eN
     clear eN
     by_cases gS : (((bt a0 cY) - 48) % 256) > (Int.tmod a1 10)
     ·rw [if_pos gS] at H
      have iH : decide ((Int.tmod a1 10) < (((bt a0 cY) - 48) % 256)) = true := decide_eq_true gS
      clear gS
      simp only [Option.some.injEq, Prod.mk.injEq] at H
      obtain ⟨rfl, rfl⟩ := H
      have iS : 0 ≤ (cY : Int) := of_decide_eq_true Zc
      have iT : cY < (a0.size : Int) := of_decide_eq_true Zc
      have lK := Yab a0 cY
      replace iS := eq_true iS
      replace iT := eq_true iT
      go_wp2
      go_ret2
      exact ⟨Zf, Zh⟩
     rw [if_neg gS] at H
     have iH : decide ((Int.tmod a1 10) < (((bt a0 cY) - 48) % 256)) = false := decide_eq_false gS
     clear gS
     by_cases dJ : a1 < 0
     ·rw [if_pos dJ] at H
      have eU : decide (a1 < 0) = true := decide_eq_true dJ
      clear dJ
      simp only [Option.some.injEq, Prod.mk.injEq] at H
      obtain ⟨rfl, rfl⟩ := H
      have iS : 0 ≤ (cY : Int) := of_decide_eq_true Zc
      have iT : cY < (a0.size : Int) := of_decide_eq_true Zc
      have lK := Yab a0 cY
      replace iS := eq_true iS
      replace iT := eq_true iT
      go_wp2
      go_ret2
      exact ⟨Zf, Zh⟩
     rw [if_neg dJ] at H
     have eU : decide (a1 < 0) = false := decide_eq_false dJ
     clear dJ
     have H' := Ya.mk H
     clear H
     have iS : 0 ≤ (cY : Int) := of_decide_eq_true Zc
     have iT : cY < (a0.size : Int) := of_decide_eq_true Zc
     have lK := Yab a0 cY
     replace iS := eq_true iS
     replace iT := eq_true iT
     go_wp2
     go_roundg k2
     case measure => have := dD.out; have := kB.out; omega
     case rel => exact ⟨(wrap64 ((wrap64 (iU * 10)) + (((bt a0 cY) - 48) % 256))), (wrap64 (cY + 1)), Zf, Zf, H', ⟨Zhb⟩, Zh⟩
end Go.Proofs.YtnmglnglbdpjjaaGreatDoor.X
