/- Printed by a program of ours: functions as plain Lean, and what a call of each does. -/
import Derived.Test.YtnmglnglbdpjjaaGreatDoorUjWords
import Derived.Test.YtnmglnglbdpjjaaGreatDoorUjX0
import Derived.Test.YtnmglnglbdpjjaaGreatDoorUjX5
import Derived.Test.YtnmglnglbdpjjaaGreatDoorUjX7
namespace Go.Proofs.YtnmglnglbdpjjaaGreatDoor.X
open Go.RowKit Go.Yw.PrintWords Go.Yw.PrintLast Go.Yw.PrintMore
attribute [local go_sem] Yvd Yyd Yke Yme Yld Ykd Yud Ywd
set_option linter.unusedVariables false
set_option linter.unusedSimpArgs false
mutual
def Yn.l0 : Nat → ByteArray → List Int → Int → Option (ByteArray)
 | 0, _, _, _ => none
 | k + 1, x0, x3, x4 => if x4 < (x0.size : Int) then (if 0 ≤ x4 then (if (bt x0 x4) = 37 then (if (wrap64 (x4 + 2)) < (x0.size : Int) then (if 0 ≤ (wrap64 (x4 + 1)) then (if (wrap64 (x4 + 1)) < (x0.size : Int) then ((Yba.f k (bt x0 (wrap64 (x4 + 1)))).bind fun t184 => (if t184 < 16 then (if 0 ≤ (wrap64 (x4 + 2)) then ((Yba.f k (bt x0 (wrap64 (x4 + 2)))).bind fun t185 => (Yn.j1 k x0 x3 x4 (decide (t185 < 16)))) else (none)) else (Yn.j1 k x0 x3 x4 false))) else (none)) else (none)) else (Yn.j1 k x0 x3 x4 false)) else (Yn.j1 k x0 x3 x4 false)) else (none)) else (some (strOfNums x3))
def Yn.j1 : Nat → ByteArray → List Int → Int → Bool → Option (ByteArray)
 | 0, _, _, _, _ => none
 | k + 1, x0, x3, x4, x37 => if x37 = true then (if 0 ≤ (wrap64 (x4 + 1)) then (if (wrap64 (x4 + 1)) < (x0.size : Int) then ((Yba.f k (bt x0 (wrap64 (x4 + 1)))).bind fun t186 => (if 0 ≤ (wrap64 (x4 + 2)) then (if (wrap64 (x4 + 2)) < (x0.size : Int) then ((Yba.f k (bt x0 (wrap64 (x4 + 2)))).bind fun t187 => (if x3.length < 140737488355328 then (Yn.l0 k x0 (x3 ++ [((((t186 * 16) % 4294967296) + t187) % 4294967296) % 256]) (wrap64 ((wrap64 (x4 + 2)) + 1))) else (none))) else (none)) else (none))) else (none)) else (none)) else (if 0 ≤ x4 then (if x4 < (x0.size : Int) then (if x3.length < 140737488355328 then (Yn.l0 k x0 (x3 ++ [bt x0 x4]) (wrap64 (x4 + 1))) else (none)) else (none)) else (none))
end
def Yn.f (k : Nat) (a0 : ByteArray) : Option (ByteArray) := Yn.l0 k a0 ([] : List Int) 0
def Yn.T6 : Bool × List (List Nat × List Nat) := (true, [([], []), ([], []), ([], []), ([2], [2]), ([1, 3], [1, 3]), ([4], [4]), ([5], [5]), ([], []), ([], []), ([8], [8]), ([7, 9], [7, 9]), ([10, 5], [10]), ([6, 11], [6, 11]), ([12], [12]), ([13], [13]), ([0, 14, 11], [0, 14]), ([15, 15, 0, 1, 2, 3, 4, 5, 6, 7, 8, 9, 10, 11, 12, 13, 14, 15], [0, 15])])
def Yn.B6 : List Nat := [0, 0, 0, 4, 14, 30, 62, 0, 0, 256, 896, 1982, 4094, 8190, 16382, 32767, 65535]
theorem Yn.tab6 : rtab .any (opsOf Tryz.f55 6) = Yn.T6 := by kernel_rfl
theorem Yn.bits6 : Yih Yn.T6.2 Yn.B6 = true := by kernel_rfl
set_option maxHeartbeats 8000000 in
set_option maxRecDepth 100000 in
theorem Yn.calls (k : Nat) (a0 : ByteArray) (r : ByteArray) (w : World) (hE : EnvOk w) (h : Yn.f k a0 = some r) :
  Calls Tryz.prog 55 #[.string a0] w fun e w' => e = .returned (.string r) ∧ Below w.heap.size w w' := by
 have HE := Ya.mk hE
 clear hE
 have HB := Ya.mk (Below.refl w.heap.size w)
 have H : (Yn.l0 k a0 ([] : List Int) 0) = some r := h
 clear h
 have H' := Ya.mk H
 clear H
 go_enter Tryz.func55, Tryz.ntmps55
 go_wp2
 go_loopg [3, 4] k (fun kq v3 v4 w' => ∃ (x3_1 : List Int) (x4_1 : Int), v4 = .int .i64 x4_1 ∧ Ya (Yn.l0 kq a0 x3_1 x4_1 = some r) ∧ Ya (kq ≤ k) ∧ Ya (Kd.R (Kd.int .u8) 5 w' w.heap.size (fun _ => True) v3 x3_1) ∧ Ya (Below w.heap.size w w'))
 case atStart => exact ⟨(([] : List Int)), (0), Zf, H', ⟨Nat.le_refl _⟩, ⟨Zea⟩, ⟨Za⟩⟩
 case round =>
  clear H'
  obtain ⟨x3_1, x4_1, rfl, HA, HK1, HO_3, HB⟩ := hrel
  cases gk with
  | zero => exact absurd HA.out (by simp [Yn.l0])
  | succ k1 =>
   have H := HA.out
   clear HA
   simp only [Yn.l0] at H
   by_cases c2 : x4_1 < (a0.size : Int)
   rotate_left
   ·rw [if_neg c2] at H
    have c2b0 : decide (x4_1 < (a0.size : Int)) = false := decide_eq_false c2
    clear c2
    obtain rfl := Option.some.inj H
    have hcv37 := Yyg (P := Tryz.prog) Tryz.underlying62 Tryz.underlying5 Tryz.underlying9 (Kd.own_of_R HO_3.out)
    go_wp2
    go_ret
    exact ⟨Zk, Za⟩
   rw [if_pos c2] at H
   have c2b0 : decide (x4_1 < (a0.size : Int)) = true := decide_eq_true c2
   clear c2
   have HC3 := Ya.mk H
   clear H
   go_upto_region 5 with (fail)
   go_cut [37] (fun v37 wc => ∃ (kq : Nat) (x37_2 : Bool), v37 = .bool x37_2 ∧ Ya (Yn.j1 kq a0 x3_1 x4_1 x37_2 = some r) ∧ Ya (kq ≤ k1) ∧ Ya (Kd.R (Kd.int .u8) 5 wc w.heap.size (fun _ => True) u3 x3_1) ∧ Ya (Below w.heap.size w wc))
   case first =>
    have H := HC3.out
    clear HC3
    by_cases c4 : 0 ≤ x4_1
    rotate_left
    ·rw [if_neg c4] at H
     exact absurd H Zv
    rw [if_pos c4] at H
    have c4b0 : decide (0 ≤ x4_1) = true := decide_eq_true c4
    clear c4
    (first | rw [c4b0] | (simp only [Yqa, Yra]; rw [c4b0]) | skip)
    by_cases c6 : (bt a0 x4_1) = 37
    rotate_left
    ·rw [if_neg c6] at H
     have c6b0 : ((bt a0 x4_1) == 37) = false := beq_eq_false_iff_ne.mpr c6
     have c6b1 : ((bt a0 x4_1) != 37) = true := bne_iff_ne.mpr c6
     have H' := Ya.mk H
     clear H
     have p5 : 0 ≤ (x4_1 : Int) := of_decide_eq_true Zc
     have q5 : x4_1 < (a0.size : Int) := of_decide_eq_true Zc
     have hx5 := Yya a0 x4_1
     replace p5 := eq_true p5
     replace q5 := eq_true q5
     go_wp2
     go_meet
     case rel => exact ⟨_, (false), Zf, H', ⟨Zja⟩, ⟨Zm⟩, ⟨Za⟩⟩
    rw [if_pos c6] at H
    have c6b0 : ((bt a0 x4_1) == 37) = true := beq_iff_eq.mpr c6
    have c6b1 : ((bt a0 x4_1) != 37) = false := bne_eq_false_iff_eq.mpr c6
    clear c6
    by_cases c7 : (wrap64 (x4_1 + 2)) < (a0.size : Int)
    rotate_left
    ·rw [if_neg c7] at H
     have c7b0 : decide ((wrap64 (x4_1 + 2)) < (a0.size : Int)) = false := decide_eq_false c7
     clear c7
     have H' := Ya.mk H
     clear H
     have p5 : 0 ≤ (x4_1 : Int) := of_decide_eq_true Zc
     have q5 : x4_1 < (a0.size : Int) := of_decide_eq_true Zc
     have hx5 := Yya a0 x4_1
     replace p5 := eq_true p5
     replace q5 := eq_true q5
     go_wp2
     go_meet
     case rel => exact ⟨_, (false), Zf, H', ⟨Zja⟩, ⟨Zm⟩, ⟨Za⟩⟩
    rw [if_pos c7] at H
    have c7b0 : decide ((wrap64 (x4_1 + 2)) < (a0.size : Int)) = true := decide_eq_true c7
    clear c7
    obtain ⟨ji8, hji8⟩ : ∃ j_ : Int, (wrap64 (x4_1 + 1)) = j_ := ⟨_, rfl⟩
    replace H : (if 0 ≤ (ji8) then (if (ji8) < (a0.size : Int) then ((Yba.f k1 (bt a0 (ji8))).bind fun t184 => (if t184 < 16 then (if 0 ≤ (wrap64 (x4_1 + 2)) then ((Yba.f k1 (bt a0 (wrap64 (x4_1 + 2)))).bind fun t185 => (Yn.j1 k1 a0 x3_1 x4_1 (decide (t185 < 16)))) else (none)) else (Yn.j1 k1 a0 x3_1 x4_1 false))) else (none)) else (none)) = some r := by first | (rw [hji8] at H; exact H) | (simp only [hji8] at H ⊢; exact H)
    have hji8w : (IntKind.i64.wrap (x4_1 + 1)) = ji8 := (Yqa _).trans hji8
    by_cases c9 : 0 ≤ (ji8)
    rotate_left
    ·rw [if_neg c9] at H
     exact absurd H Zv
    rw [if_pos c9] at H
    have c9b0 : decide (0 ≤ (ji8)) = true := decide_eq_true c9
    clear c9
    by_cases c10 : (ji8) < (a0.size : Int)
    rotate_left
    ·rw [if_neg c10] at H
     exact absurd H Zv
    rw [if_pos c10] at H
    have c10b0 : decide ((ji8) < (a0.size : Int)) = true := decide_eq_true c10
    clear c10
    replace H := Option.bind_eq_some_iff.mp H
    obtain ⟨t184, A120, H⟩ := H
    try dsimp -simprocs only at H
    have A12 := Ya.mk A120
    clear A120
    by_cases c13 : t184 < 16
    rotate_left
    ·rw [if_neg c13] at H
     have c13b0 : decide (t184 < 16) = false := decide_eq_false c13
     clear c13
     have H' := Ya.mk H
     clear H
     have p5 : 0 ≤ (x4_1 : Int) := of_decide_eq_true Zc
     have q5 : x4_1 < (a0.size : Int) := of_decide_eq_true Zc
     have hx5 := Yya a0 x4_1
     replace p5 := eq_true p5
     replace q5 := eq_true q5
     have p11 : 0 ≤ ((ji8) : Int) := of_decide_eq_true Zc
     have q11 : (ji8) < (a0.size : Int) := of_decide_eq_true Zc
     have hx11 := Yya a0 (ji8)
     replace p11 := eq_true p11
     replace q11 := eq_true q11
     go_wp2_with (first | (go_at_call 97; (with_reducible refine (Yba.calls k1 (bt a0 (ji8)) t184 _ ?side1 A12.out).mono ?_); (case side1 => first | exact HE.out | exact EnvOk.below HE.out Za); rintro e w' ⟨rfl, ⟨nd, rfl⟩⟩))
     go_meet
     case rel => exact ⟨_, (false), Zf, H', ⟨Zja⟩, ⟨Zm⟩, ⟨Za⟩⟩
    rw [if_pos c13] at H
    have c13b0 : decide (t184 < 16) = true := decide_eq_true c13
    clear c13
    obtain ⟨ji14, hji14⟩ : ∃ j_ : Int, (wrap64 (x4_1 + 2)) = j_ := ⟨_, rfl⟩
    replace H : (if 0 ≤ (ji14) then ((Yba.f k1 (bt a0 (ji14))).bind fun t185 => (Yn.j1 k1 a0 x3_1 x4_1 (decide (t185 < 16)))) else (none)) = some r := by first | (rw [hji14] at H; exact H) | (simp only [hji14] at H ⊢; exact H)
    (try rw [hji14] at c7b0)
    (try rw [hji14] at A12)
    have hji14w : (IntKind.i64.wrap (x4_1 + 2)) = ji14 := (Yqa _).trans hji14
    by_cases c15 : 0 ≤ (ji14)
    rotate_left
    ·rw [if_neg c15] at H
     exact absurd H Zv
    rw [if_pos c15] at H
    have c15b0 : decide (0 ≤ (ji14)) = true := decide_eq_true c15
    clear c15
    replace H := Option.bind_eq_some_iff.mp H
    obtain ⟨t185, A170, H⟩ := H
    try dsimp -simprocs only at H
    have A17 := Ya.mk A170
    clear A170
    have H' := Ya.mk H
    clear H
    have p5 : 0 ≤ (x4_1 : Int) := of_decide_eq_true Zc
    have q5 : x4_1 < (a0.size : Int) := of_decide_eq_true Zc
    have hx5 := Yya a0 x4_1
    replace p5 := eq_true p5
    replace q5 := eq_true q5
    have p11 : 0 ≤ ((ji8) : Int) := of_decide_eq_true Zc
    have q11 : (ji8) < (a0.size : Int) := of_decide_eq_true Zc
    have hx11 := Yya a0 (ji8)
    replace p11 := eq_true p11
    replace q11 := eq_true q11
    go_wp2_with (first | (go_at_call 97; (with_reducible refine (Yba.calls k1 (bt a0 (ji8)) t184 _ ?side1 A12.out).mono ?_); (case side1 => first | exact HE.out | exact EnvOk.below HE.out Za); rintro e w' ⟨rfl, ⟨nd, rfl⟩⟩; have p16 : 0 ≤ ((ji14) : Int) := of_decide_eq_true Zc; have q16 : (ji14) < (a0.size : Int) := of_decide_eq_true Zc; have hx16 := Yya a0 (ji14); replace p16 := eq_true p16; replace q16 := eq_true q16) | (go_at_call 97; (with_reducible refine (Yba.calls k1 (bt a0 (ji14)) t185 _ ?side1 A17.out).mono ?_); (case side1 => first | exact HE.out | exact EnvOk.below HE.out Za); rintro e w' ⟨rfl, ⟨nd, rfl⟩⟩))
    go_meet
    case rel => exact ⟨_, (decide (t185 < 16)), Zf, H', ⟨Zja⟩, ⟨Zm⟩, ⟨Za⟩⟩
   case rest =>
    clear HC3
    try clear c1
    try clear p1
    try clear q1
    try clear hx1
    try clear c2
    try clear c2b0
    try clear p2
    try clear c4
    try clear c4b0
    try clear c5
    try clear p5
    try clear q5
    try clear hx5
    try clear c6
    try clear c6b0
    try clear c6b1
    try clear p6
    try clear c7
    try clear c7b0
    try clear c9
    try clear c9b0
    try clear c10
    try clear c10b0
    try clear p11
    try clear q11
    try clear hx11
    try clear c13
    try clear c13b0
    try clear c15
    try clear c15b0
    try clear p16
    try clear q16
    try clear hx16
    try clear p11
    try clear p16
    try clear p5
    try clear q11
    try clear q16
    try clear q5
    obtain ⟨kq, x37_2, rfl, HA, HJ2, HO_3, HB⟩ := hcut
    cases kq with
    | zero => exact absurd HA.out (by simp [Yn.j1])
    | succ kj2 =>
     have H := HA.out
     clear HA
     simp only [Yn.j1] at H
     by_cases c18 : x37_2 = true
     rotate_left
     ·replace c18 := Bool.eq_false_iff.mpr c18
      subst c18
      rw [if_neg (show ¬ (false = true) by decide)] at H
      by_cases c32 : 0 ≤ x4_1
      rotate_left
      ·rw [if_neg c32] at H
       exact absurd H Zv
      rw [if_pos c32] at H
      have c32b0 : decide (0 ≤ x4_1) = true := decide_eq_true c32
      clear c32
      by_cases c33 : x4_1 < (a0.size : Int)
      rotate_left
      ·rw [if_neg c33] at H
       exact absurd H Zv
      rw [if_pos c33] at H
      have c33b0 : decide (x4_1 < (a0.size : Int)) = true := decide_eq_true c33
      clear c33
      by_cases c35 : x3_1.length < 140737488355328
      rotate_left
      ·rw [if_neg c35] at H
       exact absurd H Zv
      rw [if_pos c35] at H
      have LMc35 := Ya.mk c35
      clear c35
      obtain ⟨y191, hy191⟩ : ∃ y_ : List Int, y_ = (x3_1 ++ [bt a0 x4_1]) := ⟨_, rfl⟩
      replace H : (Yn.l0 kj2 a0 y191 (wrap64 (x4_1 + 1))) = some r := by first | (rw [hy191]; with_reducible exact H) | (have H2_ := (Option.bind_some _ _).symm.trans H; rw [hy191]; with_reducible exact H2_) | (have H2_ := (Option.bind_some _ _).symm.trans H; with_reducible exact H2_) | with_reducible exact H | (rw [hy191]; exact H) | exact H
      have Ny191 := Ya.mk hy191
      clear hy191
      have H' := Ya.mk H
      clear H
      have p34 : 0 ≤ (x4_1 : Int) := of_decide_eq_true Zc
      have q34 : x4_1 < (a0.size : Int) := of_decide_eq_true Zc
      have hx34 := Yya a0 x4_1
      replace p34 := eq_true p34
      replace q34 := eq_true q34
      go_wp2_with (first | ((with_reducible refine Yzd (b := .append) (xs := #[.tmp 56, .tmp 60]) rfl ?_); (try (refine Yhi Zla ?_; dsimp only)); at_builtin; refine Kd.R_append (Kd.int .u8) (w0 := w) w.heap.size rfl (.tmp 56) (.tmp 60) 62 5 (.int .u8 0) 1 rfl Tryz.underlying62 Ywl rfl Zda Zl u3 x3_1 (bt a0 x4_1) [.int .u8 (bt a0 x4_1)] (fun _ => True) (fun _ => False) rfl rfl ?aP (fun _ hk => hk.elim) ?aF ?aO ?aB ?aS ?aL ?_; (case aP => exact rfl); (case aB => exact Za); (case aF => exact (fun _ _ => trivial)); (case aO => exact Zm); (case aS => exact (Yea Za)); (case aL => have := LMc35.out; omega); intro v192 w36 ho hb hg hat; rw [← Ny191.out] at ho; have n0_ := Ya.mk (hb); have n1_ := Ya.mk (ho); clear HB; clear HO_3; have HB := n0_; have HO193 := n1_; clear n0_ n1_; clear ho hb hg hat))
      go_roundg kj2
      case measure => have := HK1.out; have := HJ2.out; omega
      case rel => exact ⟨(y191), (wrap64 (x4_1 + 1)), Zf, H', ⟨by have := HK1.out; have := HJ2.out; omega⟩, ⟨by (with_reducible repeat (first | apply Kd.R_alloc | apply Kd.R_drewN | apply Kd.R_drew)); exact HO193.out⟩, ⟨Za⟩⟩
     subst c18
     rw [if_pos rfl] at H
     obtain ⟨ji19, hji19⟩ : ∃ j_ : Int, (wrap64 (x4_1 + 1)) = j_ := ⟨_, rfl⟩
     replace H : (if 0 ≤ (ji19) then (if (ji19) < (a0.size : Int) then ((Yba.f kj2 (bt a0 (ji19))).bind fun t186 => (if 0 ≤ (wrap64 (x4_1 + 2)) then (if (wrap64 (x4_1 + 2)) < (a0.size : Int) then ((Yba.f kj2 (bt a0 (wrap64 (x4_1 + 2)))).bind fun t187 => (if x3_1.length < 140737488355328 then (Yn.l0 kj2 a0 (x3_1 ++ [((((t186 * 16) % 4294967296) + t187) % 4294967296) % 256]) (wrap64 ((wrap64 (x4_1 + 2)) + 1))) else (none))) else (none)) else (none))) else (none)) else (none)) = some r := by first | (rw [hji19] at H; exact H) | (simp only [hji19] at H ⊢; exact H)
     have hji19w : (IntKind.i64.wrap (x4_1 + 1)) = ji19 := (Yqa _).trans hji19
     by_cases c20 : 0 ≤ (ji19)
     rotate_left
     ·rw [if_neg c20] at H
      exact absurd H Zv
     rw [if_pos c20] at H
     have c20b0 : decide (0 ≤ (ji19)) = true := decide_eq_true c20
     clear c20
     by_cases c21 : (ji19) < (a0.size : Int)
     rotate_left
     ·rw [if_neg c21] at H
      exact absurd H Zv
     rw [if_pos c21] at H
     have c21b0 : decide ((ji19) < (a0.size : Int)) = true := decide_eq_true c21
     clear c21
     replace H := Option.bind_eq_some_iff.mp H
     obtain ⟨t186, A230, H⟩ := H
     try dsimp -simprocs only at H
     have A23 := Ya.mk A230
     clear A230
     obtain ⟨ji24, hji24⟩ : ∃ j_ : Int, (wrap64 (x4_1 + 2)) = j_ := ⟨_, rfl⟩
     replace H : (if 0 ≤ (ji24) then (if (ji24) < (a0.size : Int) then ((Yba.f kj2 (bt a0 (ji24))).bind fun t187 => (if x3_1.length < 140737488355328 then (Yn.l0 kj2 a0 (x3_1 ++ [((((t186 * 16) % 4294967296) + t187) % 4294967296) % 256]) (wrap64 ((ji24) + 1))) else (none))) else (none)) else (none)) = some r := by first | (rw [hji24] at H; exact H) | (simp only [hji24] at H ⊢; exact H)
     (try rw [hji24] at A23)
     have hji24w : (IntKind.i64.wrap (x4_1 + 2)) = ji24 := (Yqa _).trans hji24
     by_cases c25 : 0 ≤ (ji24)
     rotate_left
     ·rw [if_neg c25] at H
      exact absurd H Zv
     rw [if_pos c25] at H
     have c25b0 : decide (0 ≤ (ji24)) = true := decide_eq_true c25
     clear c25
     by_cases c26 : (ji24) < (a0.size : Int)
     rotate_left
     ·rw [if_neg c26] at H
      exact absurd H Zv
     rw [if_pos c26] at H
     have c26b0 : decide ((ji24) < (a0.size : Int)) = true := decide_eq_true c26
     clear c26
     replace H := Option.bind_eq_some_iff.mp H
     obtain ⟨t187, A280, H⟩ := H
     try dsimp -simprocs only at H
     have A28 := Ya.mk A280
     clear A280
     by_cases c29 : x3_1.length < 140737488355328
     rotate_left
     ·rw [if_neg c29] at H
      exact absurd H Zv
     rw [if_pos c29] at H
     have LMc29 := Ya.mk c29
     clear c29
     obtain ⟨y188, hy188⟩ : ∃ y_ : List Int, y_ = (x3_1 ++ [((((t186 * 16) % 4294967296) + t187) % 4294967296) % 256]) := ⟨_, rfl⟩
     replace H : (Yn.l0 kj2 a0 y188 (wrap64 ((ji24) + 1))) = some r := by first | (rw [hy188]; with_reducible exact H) | (have H2_ := (Option.bind_some _ _).symm.trans H; rw [hy188]; with_reducible exact H2_) | (have H2_ := (Option.bind_some _ _).symm.trans H; with_reducible exact H2_) | with_reducible exact H | (rw [hy188]; exact H) | exact H
     have Ny188 := Ya.mk hy188
     clear hy188
     have H' := Ya.mk H
     clear H
     try go_wp2
     have n0_ := Ya.mk (Kd.R_drew HO_3.out)
     have n1_ := Ya.mk (Yc HB.out)
     clear HO_3
     clear HB
     have HO_3 := n0_
     have HB := n1_
     clear n0_ n1_
     have p22 : 0 ≤ ((ji19) : Int) := of_decide_eq_true Zc
     have q22 : (ji19) < (a0.size : Int) := of_decide_eq_true Zc
     have hx22 := Yya a0 (ji19)
     replace p22 := eq_true p22
     replace q22 := eq_true q22
     have p27 : 0 ≤ ((ji24) : Int) := of_decide_eq_true Zc
     have q27 : (ji24) < (a0.size : Int) := of_decide_eq_true Zc
     have hx27 := Yya a0 (ji24)
     replace p27 := eq_true p27
     replace q27 := eq_true q27
     refine Ylh (n := 17) (S := fun w' => True) (ds := []) #[false, false, false, false, false, false, false, false, false, false, false, false, false, false, false, false, false] Zi rfl rfl trivial (fun hHeld => ?_); refine Yqh Yn.tab6 Yn.bits6 (fun HT_ HW_ => ?_)
     generalize wc.drew = w30 at HO_3 HB hHeld ⊢
     refine Yrb (i := 0) (N := some 38) (v := ?_) (a' := ?_) #[true, false, false, false, false, false, false, false, false, false, false, false, false, false, false, false, false] rfl rfl (Ypb HT_.out Zi) (fun _ _ _ h => h) (Or.inl ⟨Zla, ?_⟩) ?_ ?_
     rotate_left
     ·intro w'
      go_simp
      with_reducible rfl
     rotate_left
     ·simp only [Act.put, List.setIfInBounds_toArray, List.set_cons_zero, List.set_cons_succ, Yqa, Yra]
      rfl
     refine Yrb (i := 1) (N := some 39) (v := ?_) (a' := ?_) #[true, true, false, false, false, false, false, false, false, false, false, false, false, false, false, false, false] rfl rfl (Ypb HT_.out Zi) (fun _ _ _ h => h) (Or.inl ⟨Zla, ?_⟩) ?_ ?_
     rotate_left
     ·intro w'
      go_simp
      with_reducible rfl
     rotate_left
     ·simp only [Act.put, List.setIfInBounds_toArray, List.set_cons_zero, List.set_cons_succ, Yqa, Yra]
      rfl
     refine Yrb (i := 2) (N := some 40) (v := ?_) (a' := ?_) #[true, true, true, false, false, false, false, false, false, false, false, false, false, false, false, false, false] rfl rfl (Ypb HT_.out Zi) (fun _ _ _ h => h) (Or.inl ⟨Zla, ?_⟩) ?_ ?_
     rotate_left
     ·intro w'
      go_simp
      with_reducible rfl
     rotate_left
     ·simp only [Act.put, List.setIfInBounds_toArray, List.set_cons_zero, List.set_cons_succ, Yqa, Yra]
      rfl
     refine Yrb (i := 3) (N := some 41) (v := ?_) (a' := ?_) #[true, true, true, true, false, false, false, false, false, false, false, false, false, false, false, false, false] rfl rfl (Ypb HT_.out Zi) (fun _ _ _ h => h) (Or.inl ⟨Zla, ?_⟩) ?_ ?_
     rotate_left
     ·intro w'
      go_simp
      with_reducible rfl
     rotate_left
     ·simp only [Act.put, List.setIfInBounds_toArray, List.set_cons_zero, List.set_cons_succ, Yqa, Yra]
      rfl
     refine Yrb (i := 7) (N := some 45) (v := ?_) (a' := ?_) #[true, true, true, true, false, false, false, true, false, false, false, false, false, false, false, false, false] rfl rfl (Ypb HT_.out Zi) (fun _ _ _ h => h) (Or.inl ⟨Zla, ?_⟩) ?_ ?_
     rotate_left
     ·intro w'
      go_simp
      with_reducible rfl
     rotate_left
     ·simp only [Act.put, List.setIfInBounds_toArray, List.set_cons_zero, List.set_cons_succ, Yqa, Yra]
      rfl
     refine Yrb (i := 8) (N := some 46) (v := ?_) (a' := ?_) #[true, true, true, true, false, false, false, true, true, false, false, false, false, false, false, false, false] rfl rfl (Ypb HT_.out Zi) (fun _ _ _ h => h) (Or.inl ⟨Zla, ?_⟩) ?_ ?_
     rotate_left
     ·intro w'
      go_simp
      with_reducible rfl
     rotate_left
     ·simp only [Act.put, List.setIfInBounds_toArray, List.set_cons_zero, List.set_cons_succ, Yqa, Yra]
      rfl
     refine Yrb (i := 9) (N := some 47) (v := ?_) (a' := ?_) #[true, true, true, true, false, false, false, true, true, true, false, false, false, false, false, false, false] rfl rfl (Ypb HT_.out Zi) (fun _ _ _ h => h) (Or.inl ⟨Zla, ?_⟩) ?_ ?_
     rotate_left
     ·intro w'
      go_simp
      with_reducible rfl
     rotate_left
     ·simp only [Act.put, List.setIfInBounds_toArray, List.set_cons_zero, List.set_cons_succ, Yqa, Yra]
      rfl
     refine Ymg (i := 4) (N := some 42) (v := ?_) (a' := ?_) #[true, true, true, true, true, false, false, true, true, true, false, false, false, false, false, false, false] rfl rfl (Yhg HT_.out HW_.out Zi) (fun _ _ _ h => h) (Or.inl ⟨Zla, ?_⟩) hHeld ?_ ?_
     rotate_left
     ·intro w' _
      go_simp
      with_reducible rfl
     rotate_left
     ·simp only [Act.put, List.setIfInBounds_toArray, List.set_cons_zero, List.set_cons_succ, Yqa, Yra]
      rfl
     refine Ymg (i := 10) (N := some 48) (v := ?_) (a' := ?_) #[true, true, true, true, true, false, false, true, true, true, true, false, false, false, false, false, false] rfl rfl (Yhg HT_.out HW_.out Zi) (fun _ _ _ h => h) (Or.inl ⟨Zla, ?_⟩) hHeld ?_ ?_
     rotate_left
     ·intro w' _
      go_simp
      with_reducible rfl
     rotate_left
     ·simp only [Act.put, List.setIfInBounds_toArray, List.set_cons_zero, List.set_cons_succ, Yqa, Yra]
      rfl
     refine one_ (i := 5) (N := some 43) #[true, true, true, true, true, true, false, true, true, true, true, false, false, false, false, false, false] rfl rfl (Ykg HT_.out Zi) Zda (fun K hK => ?_)
     refine Yvh Tryz.func97 Zi rfl #[.int .u8 (bt a0 (ji19))] Zla rfl rfl (by (try simp only [List.map_toArray, List.map_cons, List.map_nil]); first | done | (simp only [hji19]; rfl) | rfl | (simp only [List.length_drop, List.length_take]; rfl)) ?_
     with_reducible refine (Yba.calls kj2 (bt a0 (ji19)) t186 _ ?side1 A23.out).mono ?_
     (case side1 => first | exact HE.out | exact EnvOk.below HE.out Za)
     rintro e w' ⟨rfl, ⟨nd, rfl⟩⟩
     refine ⟨_, rfl, ?_⟩
     refine hK.out _ _ trivial (fun hHeld => ?_)
     clear hK K
     refine Ywf (a' := ?_) ?_ ?_
     rotate_left
     ·show Act.put _ (some 43) _ = _
      simp only [Act.put, List.setIfInBounds_toArray, List.set_cons_zero, List.set_cons_succ, Yqa, Yra]
      rfl
     refine Yrb (i := 6) (N := some 44) (v := ?_) (a' := ?_) #[true, true, true, true, true, true, true, true, true, true, true, false, false, false, false, false, false] rfl rfl (Ypb HT_.out Zi) (fun _ _ _ h => h) (Or.inl ⟨Zla, ?_⟩) ?_ ?_
     rotate_left
     ·intro w'
      go_simp
      with_reducible rfl
     rotate_left
     ·simp only [Act.put, List.setIfInBounds_toArray, List.set_cons_zero, List.set_cons_succ, Yqa, Yra]
      rfl
     refine one_ (i := 11) (N := some 49) #[true, true, true, true, true, true, true, true, true, true, true, true, false, false, false, false, false] rfl rfl (Ykg HT_.out Zi) Zda (fun K hK => ?_)
     refine Yvh Tryz.func97 Zi rfl #[.int .u8 (bt a0 (ji24))] Zla rfl rfl (by (try simp only [List.map_toArray, List.map_cons, List.map_nil]); first | done | (simp only [hji24]; rfl) | rfl | (simp only [List.length_drop, List.length_take]; rfl)) ?_
     with_reducible refine (Yba.calls kj2 (bt a0 (ji24)) t187 _ ?side1 A28.out).mono ?_
     (case side1 => first | exact HE.out | exact EnvOk.below HE.out Za)
     rintro e w' ⟨rfl, ⟨nd, rfl⟩⟩
     refine ⟨_, rfl, ?_⟩
     refine hK.out _ _ trivial (fun hHeld => ?_)
     clear hK K
     refine Ywf (a' := ?_) ?_ ?_
     rotate_left
     ·show Act.put _ (some 49) _ = _
      simp only [Act.put, List.setIfInBounds_toArray, List.set_cons_zero, List.set_cons_succ, Yqa, Yra]
      rfl
     refine Yrb (i := 12) (N := some 50) (v := ?_) (a' := ?_) #[true, true, true, true, true, true, true, true, true, true, true, true, true, false, false, false, false] rfl rfl (Ypb HT_.out Zi) (fun _ _ _ h => h) (Or.inl ⟨Zla, ?_⟩) ?_ ?_
     rotate_left
     ·intro w'
      go_simp
      with_reducible rfl
     rotate_left
     ·simp only [Act.put, List.setIfInBounds_toArray, List.set_cons_zero, List.set_cons_succ, Yqa, Yra]
      rfl
     refine Yrb (i := 13) (N := some 51) (v := ?_) (a' := ?_) #[true, true, true, true, true, true, true, true, true, true, true, true, true, true, false, false, false] rfl rfl (Ypb HT_.out Zi) (fun _ _ _ h => h) (Or.inl ⟨Zla, ?_⟩) ?_ ?_
     rotate_left
     ·intro w'
      go_simp
      with_reducible rfl
     rotate_left
     ·simp only [Act.put, List.setIfInBounds_toArray, List.set_cons_zero, List.set_cons_succ, Yqa, Yra]
      rfl
     refine one_ (i := 14) (N := some 52) #[true, true, true, true, true, true, true, true, true, true, true, true, true, true, true, false, false] rfl rfl (Ykg HT_.out Zi) Zda (fun K hK => ?_)
     refine value_ (w1 := ?_) (v := ?_) Zla rfl ?_ ?_
     rotate_left 2
     ·go_simp
      constructor
      ·rfl
      ·rfl
     refine hK.out _ _ trivial (fun hHeld => ?_)
     clear hK K
     refine Ywf (a' := ?_) ?_ ?_
     rotate_left
     ·show Act.put _ (some 52) _ = _
      simp only [Act.put, List.setIfInBounds_toArray, List.set_cons_zero, List.set_cons_succ, Yqa, Yra]
      rfl
     refine one_ (i := 15) (N := some 53) #[true, true, true, true, true, true, true, true, true, true, true, true, true, true, true, true, false] rfl rfl (Ykg HT_.out Zi) Zda (fun K hK => ?_)
     refine Kd.R_append_step (Kd.int .u8) (w0 := w) w.heap.size Zla (.tmp 38) (.tmp 52) 62 5 (.int .u8 0) 1 rfl Tryz.underlying62 Ywl rfl Zda Zl u3 x3_1 (((((t186 * 16) % 4294967296) + t187) % 4294967296) % 256) [.int .u8 (((((t186 * 16) % 4294967296) + t187) % 4294967296) % 256)] (fun _ => True) (fun _ => False) rfl rfl ?aP (fun _ hk => hk.elim) ?aF ?aO ?aB ?aS ?aL ?_
     (case aP => exact rfl)
     (case aB => exact Za)
     (case aF => exact (fun _ _ => trivial))
     (case aO => exact Zm)
     (case aS => exact (Yea Za))
     (case aL => have := LMc29.out; omega)
     intro v189 w31 ho hb hg hat
     rw [← Ny188.out] at ho
     have n0_ := Ya.mk (hb)
     have n1_ := Ya.mk (ho)
     clear HB
     clear HO_3
     have HB := n0_
     have HO190 := n1_
     clear n0_ n1_
     clear ho hb hg hat
     refine hK.out _ _ trivial (fun hHeld => ?_)
     clear hK K
     refine Ywf (a' := ?_) ?_ ?_
     rotate_left
     ·show Act.put _ (some 53) _ = _
      simp only [Act.put, List.setIfInBounds_toArray, List.set_cons_zero, List.set_cons_succ, Yqa, Yra]
      rfl
     refine Yrb (i := 16) (N := some 3) (v := ?_) (a' := ?_) #[true, true, true, true, true, true, true, true, true, true, true, true, true, true, true, true, true] rfl rfl (Ypb HT_.out Zi) (fun _ _ _ h => h) (Or.inl ⟨Zla, ?_⟩) ?_ ?_
     rotate_left
     ·intro w'
      go_simp
      with_reducible rfl
     rotate_left
     ·simp only [Act.put, List.setIfInBounds_toArray, List.set_cons_zero, List.set_cons_succ, Yqa, Yra]
      rfl
     refine Yqi (Yhj HT_.out Zi) ?_
     try go_wp2
     go_roundg kj2
     case measure => have := HK1.out; have := HJ2.out; omega
     case rel => exact ⟨(y188), (wrap64 ((ji24) + 1)), (by first | rfl | (simp; done) | (simp only [← hji24] <;> (first | rfl | simp)) | (simp [*]; done)), H', ⟨by have := HK1.out; have := HJ2.out; omega⟩, ⟨by (with_reducible repeat (first | apply Kd.R_alloc | apply Kd.R_drewN | apply Kd.R_drew)); exact HO190.out⟩, ⟨Za⟩⟩
mutual
def Yy.l0 : Nat → ByteArray → Int → Int → Option (Int × Int)
 | 0, _, _, _ => none
 | k + 1, x0, x1, x6 => if x6 < (x0.size : Int) then (if 0 ≤ x6 then ((Yv.f (bt x0 x6)).bind fun t194 => (if t194 = true then (Yy.l0 k x0 x1 (wrap64 (x6 + 1))) else (some (0, 3)))) else (none)) else (if x0.toList = ([] : List UInt8) then (some (0, 3)) else (Yy.l1 k x0 x1 0 0))
def Yy.l1 : Nat → ByteArray → Int → Int → Int → Option (Int × Int)
 | 0, _, _, _, _ => none
 | k + 1, x0, x1, x7, x8 => if x8 < (x0.size : Int) then (if 0 ≤ x8 then (if x7 > (wrap64 (Int.tdiv x1 10)) then (some (0, 5)) else (if x7 = (wrap64 (Int.tdiv x1 10)) then (if (((bt x0 x8) - 48) % 256) > (Int.tmod x1 10) then (some (0, 5)) else (if x1 < 0 then (some (0, 5)) else (Yy.l1 k x0 x1 (wrap64 ((wrap64 (x7 * 10)) + (((bt x0 x8) - 48) % 256))) (wrap64 (x8 + 1))))) else (if x1 < 0 then (some (0, 5)) else (Yy.l1 k x0 x1 (wrap64 ((wrap64 (x7 * 10)) + (((bt x0 x8) - 48) % 256))) (wrap64 (x8 + 1)))))) else (none)) else (some (x7, 0))
end
def Yy.f (k : Nat) (a0 : ByteArray) (a1 : Int) : Option (Int × Int) := Yy.l0 k a0 a1 0
set_option maxHeartbeats 8000000 in
set_option maxRecDepth 100000 in
theorem Yy.calls (k : Nat) (a0 : ByteArray) (a1 : Int) (r1 : Int) (r2 : Int) (w : World) (hE : EnvOk w) (h : Yy.f k a0 a1 = some (r1, r2)) :
  Calls Tryz.prog 89 #[.string a0, .int .i64 a1] w fun e w' => e = .returned (.tuple #[.int .i64 r1, .int .i64 r2]) ∧ Drawn0 w w' := by
 have HE := Ya.mk hE
 clear hE
 have H : (Yy.l0 k a0 a1 0) = some (r1, r2) := h
 clear h
 have H' := Ya.mk H
 clear H
 go_enter Tryz.func89, Tryz.ntmps89
 go_wp2
 go_loopg [6] k (fun kq v6 w' => ∃ (x6_1 : Int), v6 = .int .i64 x6_1 ∧ Ya (Yy.l0 kq a0 a1 x6_1 = some (r1, r2)) ∧ Ya (kq ≤ k) ∧ Drawn0 w w')
 case atStart => exact ⟨(0), Zf, H', ⟨Nat.le_refl _⟩, Zh⟩
 case round =>
  clear H'
  try clear p2
  obtain ⟨x6_1, rfl, HA, HK1, ⟨m1, rfl⟩⟩ := hrel
  cases gk with
  | zero => exact absurd HA.out (by simp [Yy.l0])
  | succ k1 =>
   have H := HA.out
   clear HA
   simp only [Yy.l0] at H
   by_cases c3 : x6_1 < (a0.size : Int)
   ·rw [if_pos c3] at H
    have c3b0 : decide (x6_1 < (a0.size : Int)) = true := decide_eq_true c3
    clear c3
    by_cases c4 : 0 ≤ x6_1
    rotate_left
    ·rw [if_neg c4] at H
     exact absurd H Zv
    rw [if_pos c4] at H
    have c4b0 : decide (0 ≤ x6_1) = true := decide_eq_true c4
    clear c4
    replace H := Option.bind_eq_some_iff.mp H
    obtain ⟨t194, A60, H⟩ := H
    try dsimp -simprocs only at H
    have A6 := Ya.mk A60
    clear A60
    by_cases c7 : t194 = true
    ·subst c7
     rw [if_pos rfl] at H
     have H' := Ya.mk H
     clear H
     have p5 : 0 ≤ (x6_1 : Int) := of_decide_eq_true Zc
     have q5 : x6_1 < (a0.size : Int) := of_decide_eq_true Zc
     have hx5 := Yya a0 x6_1
     replace p5 := eq_true p5
     replace q5 := eq_true q5
     go_wp2_with (first | ((with_reducible refine Yh (f := 87) rfl ?_); refine Yz (some 19) rfl rfl Tryz.func87 Zi rfl #[.int .u8 (bt a0 x6_1)] rfl Zb ?_; (with_reducible refine (Yv.calls (bt a0 x6_1) true _ ?side1 A6.out).mono ?_); (case side1 => first | exact HE.out | exact EnvOk.heap HE.out rfl); rintro e w' ⟨rfl, ⟨nd, rfl⟩⟩; refine ⟨_, rfl, ?_⟩))
     go_roundg k1
     case measure => have := HK1.out; omega
     case rel => exact ⟨(wrap64 (x6_1 + 1)), Zf, H', ⟨Zaa⟩, Zh⟩
    replace c7 := Bool.eq_false_iff.mpr c7
    subst c7
    rw [if_neg (show ¬ (false = true) by decide)] at H
    simp only [Option.some.injEq, Prod.mk.injEq] at H
    obtain ⟨rfl, rfl⟩ := H
    have p5 : 0 ≤ (x6_1 : Int) := of_decide_eq_true Zc
    have q5 : x6_1 < (a0.size : Int) := of_decide_eq_true Zc
    have hx5 := Yya a0 x6_1
    replace p5 := eq_true p5
    replace q5 := eq_true q5
    go_wp2_with (first | ((with_reducible refine Yh (f := 87) rfl ?_); refine Yz (some 19) rfl rfl Tryz.func87 Zi rfl #[.int .u8 (bt a0 x6_1)] rfl Zb ?_; (with_reducible refine (Yv.calls (bt a0 x6_1) false _ ?side1 A6.out).mono ?_); (case side1 => first | exact HE.out | exact EnvOk.heap HE.out rfl); rintro e w' ⟨rfl, ⟨nd, rfl⟩⟩; refine ⟨_, rfl, ?_⟩))
    go_ret2
    exact ⟨Zf, Zh⟩
   rw [if_neg c3] at H
   have c3b0 : decide (x6_1 < (a0.size : Int)) = false := decide_eq_false c3
   clear c3
   by_cases c8 : a0.toList = ([] : List UInt8)
   ·rw [if_pos c8] at H
    have c8b0 : (a0.toList == ([] : List UInt8)) = true := beq_iff_eq.mpr c8
    have c8b1 : (a0.toList != ([] : List UInt8)) = false := bne_eq_false_iff_eq.mpr c8
    clear c8
    simp only [Option.some.injEq, Prod.mk.injEq] at H
    obtain ⟨rfl, rfl⟩ := H
    go_wp2
    go_ret2
    exact ⟨Zf, Zh⟩
   rw [if_neg c8] at H
   have c8b0 : (a0.toList == ([] : List UInt8)) = false := beq_eq_false_iff_ne.mpr c8
   have c8b1 : (a0.toList != ([] : List UInt8)) = true := bne_iff_ne.mpr c8
   have H' := Ya.mk H
   clear H
   go_wp2
   go_loopg [7, 8] k1 (fun kq v7 v8 w' => ∃ (x7_2 : Int) (x8_2 : Int), v7 = .int .i64 x7_2 ∧ v8 = .int .i64 x8_2 ∧ Ya (Yy.l1 kq a0 a1 x7_2 x8_2 = some (r1, r2)) ∧ Ya (kq ≤ k1) ∧ Drawn0 w w')
   case atStart => exact ⟨(0), (0), Zf, Zf, H', ⟨Nat.le_refl _⟩, Zh⟩
   case round =>
    clear H'
    try clear p2
    try clear c3
    try clear c3b0
    try clear c4
    try clear c4b0
    try clear p5
    try clear q5
    try clear hx5
    try clear p6
    try clear c7
    try clear c8
    try clear c8b0
    try clear c8b1
    try clear p2
    try clear p5
    try clear q5
    obtain ⟨x7_2, x8_2, rfl, rfl, HA, HK2, ⟨m2, rfl⟩⟩ := hrel
    cases gk with
    | zero => exact absurd HA.out (by simp [Yy.l1])
    | succ k2 =>
     have H := HA.out
     clear HA
     simp only [Yy.l1] at H
     by_cases c9 : x8_2 < (a0.size : Int)
     rotate_left
     ·rw [if_neg c9] at H
      have c9b0 : decide (x8_2 < (a0.size : Int)) = false := decide_eq_false c9
      clear c9
      simp only [Option.some.injEq, Prod.mk.injEq] at H
      obtain ⟨rfl, rfl⟩ := H
      go_wp2
      go_ret2
      exact ⟨Zf, Zh⟩
     rw [if_pos c9] at H
     have c9b0 : decide (x8_2 < (a0.size : Int)) = true := decide_eq_true c9
     clear c9
     by_cases c10 : 0 ≤ x8_2
     rotate_left
     ·rw [if_neg c10] at H
      exact absurd H Zv
     rw [if_pos c10] at H
     have c10b0 : decide (0 ≤ x8_2) = true := decide_eq_true c10
     clear c10
     by_cases c12 : x7_2 > (wrap64 (Int.tdiv a1 10))
     ·rw [if_pos c12] at H
      have c12b0 : decide ((wrap64 (Int.tdiv a1 10)) < x7_2) = true := decide_eq_true c12
      clear c12
      simp only [Option.some.injEq, Prod.mk.injEq] at H
      obtain ⟨rfl, rfl⟩ := H
      have p11 : 0 ≤ (x8_2 : Int) := of_decide_eq_true Zc
      have q11 : x8_2 < (a0.size : Int) := of_decide_eq_true Zc
      have hx11 := Yya a0 x8_2
      replace p11 := eq_true p11
      replace q11 := eq_true q11
      go_wp2
      go_ret2
      exact ⟨Zf, Zh⟩
     rw [if_neg c12] at H
     have c12b0 : decide ((wrap64 (Int.tdiv a1 10)) < x7_2) = false := decide_eq_false c12
     clear c12
     by_cases c13 : x7_2 = (wrap64 (Int.tdiv a1 10))
     rotate_left
     ·rw [if_neg c13] at H
      have c13b0 : (x7_2 == (wrap64 (Int.tdiv a1 10))) = false := beq_eq_false_iff_ne.mpr c13
      have c13b1 : (x7_2 != (wrap64 (Int.tdiv a1 10))) = true := bne_iff_ne.mpr c13
      by_cases c16 : a1 < 0
      ·rw [if_pos c16] at H
       have c16b0 : decide (a1 < 0) = true := decide_eq_true c16
       clear c16
       simp only [Option.some.injEq, Prod.mk.injEq] at H
       obtain ⟨rfl, rfl⟩ := H
       have p11 : 0 ≤ (x8_2 : Int) := of_decide_eq_true Zc
       have q11 : x8_2 < (a0.size : Int) := of_decide_eq_true Zc
       have hx11 := Yya a0 x8_2
       replace p11 := eq_true p11
       replace q11 := eq_true q11
       go_wp2
       go_ret2
       exact ⟨Zf, Zh⟩
      rw [if_neg c16] at H
      have c16b0 : decide (a1 < 0) = false := decide_eq_false c16
      clear c16
      have H' := Ya.mk H
      clear H
      have p11 : 0 ≤ (x8_2 : Int) := of_decide_eq_true Zc
      have q11 : x8_2 < (a0.size : Int) := of_decide_eq_true Zc
      have hx11 := Yya a0 x8_2
      replace p11 := eq_true p11
      replace q11 := eq_true q11
      go_wp2
      go_roundg k2
      case measure => have := HK1.out; have := HK2.out; omega
      case rel => exact ⟨(wrap64 ((wrap64 (x7_2 * 10)) + (((bt a0 x8_2) - 48) % 256))), (wrap64 (x8_2 + 1)), Zf, Zf, H', ⟨Zjb⟩, Zh⟩
     rw [if_pos c13] at H
     have c13b0 : (x7_2 == (wrap64 (Int.tdiv a1 10))) = true := beq_iff_eq.mpr c13
     have c13b1 : (x7_2 != (wrap64 (Int.tdiv a1 10))) = false := bne_eq_false_iff_eq.mpr c13
     clear c13
     by_cases c14 : (((bt a0 x8_2) - 48) % 256) > (Int.tmod a1 10)
     ·rw [if_pos c14] at H
      have c14b0 : decide ((Int.tmod a1 10) < (((bt a0 x8_2) - 48) % 256)) = true := decide_eq_true c14
      clear c14
      simp only [Option.some.injEq, Prod.mk.injEq] at H
      obtain ⟨rfl, rfl⟩ := H
      have p11 : 0 ≤ (x8_2 : Int) := of_decide_eq_true Zc
      have q11 : x8_2 < (a0.size : Int) := of_decide_eq_true Zc
      have hx11 := Yya a0 x8_2
      replace p11 := eq_true p11
      replace q11 := eq_true q11
      go_wp2
      go_ret2
      exact ⟨Zf, Zh⟩
     rw [if_neg c14] at H
     have c14b0 : decide ((Int.tmod a1 10) < (((bt a0 x8_2) - 48) % 256)) = false := decide_eq_false c14
     clear c14
     by_cases c15 : a1 < 0
     ·rw [if_pos c15] at H
      have c15b0 : decide (a1 < 0) = true := decide_eq_true c15
      clear c15
      simp only [Option.some.injEq, Prod.mk.injEq] at H
      obtain ⟨rfl, rfl⟩ := H
      have p11 : 0 ≤ (x8_2 : Int) := of_decide_eq_true Zc
      have q11 : x8_2 < (a0.size : Int) := of_decide_eq_true Zc
      have hx11 := Yya a0 x8_2
      replace p11 := eq_true p11
      replace q11 := eq_true q11
      go_wp2
      go_ret2
      exact ⟨Zf, Zh⟩
     rw [if_neg c15] at H
     have c15b0 : decide (a1 < 0) = false := decide_eq_false c15
     clear c15
     have H' := Ya.mk H
     clear H
     have p11 : 0 ≤ (x8_2 : Int) := of_decide_eq_true Zc
     have q11 : x8_2 < (a0.size : Int) := of_decide_eq_true Zc
     have hx11 := Yya a0 x8_2
     replace p11 := eq_true p11
     replace q11 := eq_true q11
     go_wp2
     go_roundg k2
     case measure => have := HK1.out; have := HK2.out; omega
     case rel => exact ⟨(wrap64 ((wrap64 (x7_2 * 10)) + (((bt a0 x8_2) - 48) % 256))), (wrap64 (x8_2 + 1)), Zf, Zf, H', ⟨Zjb⟩, Zh⟩
end Go.Proofs.YtnmglnglbdpjjaaGreatDoor.X
