/- Printed by a program of ours: functions as plain Lean, and what a call of each does. -/
import Derived.Test.YtnmglnglbdpjjaaGreatDoorUjWords
import Derived.Test.YtnmglnglbdpjjaaGreatDoorUjX0
import Derived.Test.YtnmglnglbdpjjaaGreatDoorUjX5
import Derived.Test.YtnmglnglbdpjjaaGreatDoorUjX8
import Derived.Test.YtnmglnglbdpjjaaGreatDoorUjX9
namespace Go.Proofs.YtnmglnglbdpjjaaGreatDoor.X
open Go.RowKit Go.Yw.PrintWords Go.Yw.PrintLast Go.Yw.PrintMore
attribute [local go_sem] Yvd Yyd Yke Yme Yld Ykd Yud Ywd
set_option linter.unusedVariables false
set_option linter.unusedSimpArgs false
mutual
def Yi.l0 : Nat → ByteArray → List ByteArray → Int → Option (Bool)
 | 0, _, _, _ => none
 | k + 1, x0, x3, x4 => if x4 < (x3.length : Int) then (if 0 ≤ x4 then (if ((rdOf ByteArray.empty x3 x4).size : Int) < 1 then (Yi.j1 k x0 x3 x4 true) else (Yi.j1 k x0 x3 x4 (decide (((rdOf ByteArray.empty x3 x4).size : Int) > 63)))) else (none)) else (if (x0.size : Int) > 253 then (some false) else (if 0 ≤ (wrap64 ((x3.length : Int) - 1)) then (if (wrap64 ((x3.length : Int) - 1)) < (x3.length : Int) then ((Yy.f k (rdOf ByteArray.empty x3 (wrap64 ((x3.length : Int) - 1))) 4611686018427387904).bind fun bt222 => (if bt222.2 = 3 then (some true) else (Yi.l2 k x3 0))) else (none)) else (none)))
def Yi.j1 : Nat → ByteArray → List ByteArray → Int → Bool → Option (Bool)
 | 0, _, _, _, _ => none
 | k + 1, x0, x3, x4, x31 => if x31 = true then (some false) else (Yi.l1 k x0 x3 x4 0)
def Yi.l1 : Nat → ByteArray → List ByteArray → Int → Int → Option (Bool)
 | 0, _, _, _, _ => none
 | k + 1, x0, x3, x4, x5 => if 0 ≤ x4 then (if x4 < (x3.length : Int) then (if x5 < ((rdOf ByteArray.empty x3 x4).size : Int) then (if 0 ≤ x5 then (if (bt (rdOf ByteArray.empty x3 x4) x5) ≥ 97 then (if (bt (rdOf ByteArray.empty x3 x4) x5) ≤ 122 then (Yi.l1 k x0 x3 x4 (wrap64 (x5 + 1))) else ((Yv.f (bt (rdOf ByteArray.empty x3 x4) x5)).bind fun t219 => (if t219 = true then (Yi.l1 k x0 x3 x4 (wrap64 (x5 + 1))) else (if (bt (rdOf ByteArray.empty x3 x4) x5) = 45 then (Yi.l1 k x0 x3 x4 (wrap64 (x5 + 1))) else (if ((bt (rdOf ByteArray.empty x3 x4) x5) = 95) then (Yi.l1 k x0 x3 x4 (wrap64 (x5 + 1))) else (some false)))))) else ((Yv.f (bt (rdOf ByteArray.empty x3 x4) x5)).bind fun t220 => (if t220 = true then (Yi.l1 k x0 x3 x4 (wrap64 (x5 + 1))) else (if (bt (rdOf ByteArray.empty x3 x4) x5) = 45 then (Yi.l1 k x0 x3 x4 (wrap64 (x5 + 1))) else (if ((bt (rdOf ByteArray.empty x3 x4) x5) = 95) then (Yi.l1 k x0 x3 x4 (wrap64 (x5 + 1))) else (some false)))))) else (none)) else (Yi.l0 k x0 x3 (wrap64 (x4 + 1)))) else (none)) else (none)
def Yi.l2 : Nat → List ByteArray → Int → Option (Bool)
 | 0, _, _ => none
 | k + 1, x3, x9 => if x9 < (x3.length : Int) then (if 0 ≤ x9 then ((Ynd.f k (rdOf ByteArray.empty x3 x9)).bind fun t225 => (if t225 = true then (Yi.l2 k x3 (wrap64 (x9 + 1))) else (some false))) else (none)) else (some ((x3.length : Int) == 4))
end
def Yi.f (k : Nat) (a0 : ByteArray) : Option (Bool) := (Yna.f k a0 46).bind fun t212 => (Yi.l0 k a0 t212 0)
set_option maxHeartbeats 8000000 in
set_option maxRecDepth 100000 in
theorem Yi.calls (k : Nat) (a0 : ByteArray) (r : Bool) (w : World) (hE : EnvOk w) (h : Yi.f k a0 = some r) :
  Calls Tryz.prog 56 #[.string a0] w fun e w' => e = .returned (.bool r) ∧ Below w.heap.size w w' := by
 have HE := Ya.mk hE
 clear hE
 have HB := Ya.mk (Below.refl w.heap.size w)
 have H : ((Yna.f k a0 46).bind fun t212 => (Yi.l0 k a0 t212 0)) = some r := h
 clear h
 replace H := Option.bind_eq_some_iff.mp H
 obtain ⟨t212, A20, H⟩ := H
 try dsimp -simprocs only at H
 have A2 := Ya.mk A20
 clear A20
 have H' := Ya.mk H
 clear H
 go_enter Tryz.func56, Tryz.ntmps56
 go_wp2_with (first | ((with_reducible refine Yh (f := 98) rfl ?_); refine Yz (some 11) rfl rfl Tryz.func98 Zi rfl #[.string a0, .int .u8 46] rfl Zb ?_; (with_reducible refine (Yna.calls k a0 46 t212 _ ?side1 A2.out).mono ?_); (case side1 => first | exact HE.out | exact EnvOk.below HE.out Za); rintro e w3 ⟨v213, rfl, ho0, hb⟩; refine ⟨_, rfl, ?_⟩; have n0_ := Ya.mk (Kd.R_lower ho0 (Yea Za)); have n1_ := Ya.mk (Yq Za hb); clear HB; have HO214 := n0_; have HB := n1_; clear n0_ n1_; (try clear hb); (try clear hb2); (try clear hk); (try clear hi); (try clear ho0)))
 go_loopg [4] k (fun kq v4 w' => ∃ (x4_1 : Int), v4 = .int .i64 x4_1 ∧ Ya (Yi.l0 kq a0 t212 x4_1 = some r) ∧ Ya (kq ≤ k) ∧ Ya (Kd.R Kd.string 9 w' w.heap.size (fun _ => True) v213 t212) ∧ Ya (Below w.heap.size w w'))
 case atStart => exact ⟨(0), Zf, H', ⟨Nat.le_refl _⟩, ⟨by (with_reducible repeat (first | apply Kd.R_alloc | apply Kd.R_drewN | apply Kd.R_drew)); exact HO214.out⟩, ⟨Za⟩⟩
 case round =>
  clear H'
  try clear p2
  obtain ⟨x4_1, rfl, HA, HK1, HO_3, HB⟩ := hrel
  cases gk with
  | zero => exact absurd HA.out (by simp [Yi.l0])
  | succ k1 =>
   have H := HA.out
   clear HA
   simp only [Yi.l0] at H
   by_cases c4 : x4_1 < (t212.length : Int)
   rotate_left
   ·rw [if_neg c4] at H
    have c4b0 : decide (x4_1 < (t212.length : Int)) = false := decide_eq_false c4
    clear c4
    by_cases c25 : (a0.size : Int) > 253
    ·rw [if_pos c25] at H
     have c25b0 : decide (253 < (a0.size : Int)) = true := decide_eq_true c25
     have c25b1 : decide (253 < a0.size) = true := decide_eq_true Zl
     clear c25
     obtain rfl := Option.some.inj H
     obtain ⟨Ao26, co26, eo26⟩ := Kd.R_slice HO_3.out
     subst eo26
     go_wp2
     go_ret
     exact ⟨Zk, Za⟩
    rw [if_neg c25] at H
    have c25b0 : decide (253 < (a0.size : Int)) = false := decide_eq_false c25
    have c25b1 : decide (253 < a0.size) = false := decide_eq_false Zl
    clear c25
    obtain ⟨ji27, hji27⟩ : ∃ j_ : Int, (wrap64 ((t212.length : Int) - 1)) = j_ := ⟨_, rfl⟩
    replace H : (if 0 ≤ (ji27) then (if (ji27) < (t212.length : Int) then ((Yy.f k1 (rdOf ByteArray.empty t212 (ji27)) 4611686018427387904).bind fun bt222 => (if bt222.2 = 3 then (some true) else (Yi.l2 k1 t212 0))) else (none)) else (none)) = some r := by first | (rw [hji27] at H; exact H) | (simp only [hji27] at H ⊢; exact H)
    have hji27w : (IntKind.i64.wrap ((t212.length : Int) - 1)) = ji27 := (Yqa _).trans hji27
    by_cases c28 : 0 ≤ (ji27)
    rotate_left
    ·rw [if_neg c28] at H
     exact absurd H Zv
    rw [if_pos c28] at H
    have c28b0 : decide (0 ≤ (ji27)) = true := decide_eq_true c28
    clear c28
    by_cases c29 : (ji27) < (t212.length : Int)
    rotate_left
    ·rw [if_neg c29] at H
     exact absurd H Zv
    rw [if_pos c29] at H
    have c29b0 : decide ((ji27) < (t212.length : Int)) = true := decide_eq_true c29
    clear c29
    replace H := Option.bind_eq_some_iff.mp H
    obtain ⟨⟨t222, t223⟩, A300, H⟩ := H
    try dsimp -simprocs only at H
    have A30 := Ya.mk A300
    clear A300
    by_cases c31 : t223 = 3
    ·rw [if_pos c31] at H
     have c31b0 : (t223 == 3) = true := beq_iff_eq.mpr c31
     have c31b1 : (t223 != 3) = false := bne_eq_false_iff_eq.mpr c31
     clear c31
     obtain rfl := Option.some.inj H
     obtain ⟨Ao32, co32, eo32⟩ := Kd.R_slice HO_3.out
     subst eo32
     have p221 : 0 ≤ ((ji27) : Int) := of_decide_eq_true Zc
     have q221 : (ji27) < (t212.length : Int) := of_decide_eq_true Zc
     obtain ⟨ad221, e221, hx221_0⟩ := Kd.at_string (Kd.R_reads' HO_3.out).2.2 (ji27) p221 q221
     cases e221
     replace p221 := eq_true p221
     replace q221 := eq_true q221
     go_wp2_with (first | ((with_reducible refine Yh (f := 89) rfl ?_); refine Yz (some 76) rfl rfl Tryz.func89 Zi rfl #[.string (rdOf ByteArray.empty t212 (ji27)), .int .i64 4611686018427387904] rfl (by (try simp only [List.map_toArray, List.map_cons, List.map_nil]); first | done | (simp only [hji27]; rfl) | rfl | (simp only [List.length_drop, List.length_take]; rfl)) ?_; (with_reducible refine (Yy.calls k1 (rdOf ByteArray.empty t212 (ji27)) 4611686018427387904 t222 t223 _ ?side1 A30.out).mono ?_); (case side1 => first | exact HE.out | exact EnvOk.below HE.out Za); rintro e w' ⟨rfl, ⟨nd, rfl⟩⟩; refine ⟨_, rfl, ?_⟩))
     go_ret
     exact ⟨Zua, Za⟩
    rw [if_neg c31] at H
    have c31b0 : (t223 == 3) = false := beq_eq_false_iff_ne.mpr c31
    have c31b1 : (t223 != 3) = true := bne_iff_ne.mpr c31
    have H' := Ya.mk H
    clear H
    obtain ⟨Ao33, co33, eo33⟩ := Kd.R_slice HO_3.out
    subst eo33
    have p221 : 0 ≤ ((ji27) : Int) := of_decide_eq_true Zc
    have q221 : (ji27) < (t212.length : Int) := of_decide_eq_true Zc
    obtain ⟨ad221, e221, hx221_0⟩ := Kd.at_string (Kd.R_reads' HO_3.out).2.2 (ji27) p221 q221
    cases e221
    replace p221 := eq_true p221
    replace q221 := eq_true q221
    go_wp2_with (first | ((with_reducible refine Yh (f := 89) rfl ?_); refine Yz (some 76) rfl rfl Tryz.func89 Zi rfl #[.string (rdOf ByteArray.empty t212 (ji27)), .int .i64 4611686018427387904] rfl (by (try simp only [List.map_toArray, List.map_cons, List.map_nil]); first | done | (simp only [hji27]; rfl) | rfl | (simp only [List.length_drop, List.length_take]; rfl)) ?_; (with_reducible refine (Yy.calls k1 (rdOf ByteArray.empty t212 (ji27)) 4611686018427387904 t222 t223 _ ?side1 A30.out).mono ?_); (case side1 => first | exact HE.out | exact EnvOk.below HE.out Za); rintro e w' ⟨rfl, ⟨nd, rfl⟩⟩; refine ⟨_, rfl, ?_⟩))
    go_loopg [9] k1 (fun kq v9 w' => ∃ (x9_2 : Int), v9 = .int .i64 x9_2 ∧ Ya (Yi.l2 kq t212 x9_2 = some r) ∧ Ya (kq ≤ k1) ∧ Ya (Kd.R Kd.string 9 w' w.heap.size (fun _ => True) (.slice (some ad221) t212.length co33) t212) ∧ Ya (Below w.heap.size w w'))
    case atStart => exact ⟨(0), Zf, H', ⟨Nat.le_refl _⟩, ⟨Zm⟩, ⟨Za⟩⟩
    case round =>
     clear H'
     try clear c1
     try clear p1
     try clear q1
     try clear hx1
     try clear c2
     try clear p2
     try clear q2
     try clear hx2
     try clear c3
     try clear c4
     try clear c4b0
     try clear c5
     try clear p6
     try clear c7
     try clear c7b0
     try clear c8
     try clear c8b0
     try clear c8b1
     try clear c9
     try clear c10
     try clear c10b0
     try clear c11
     try clear c11b0
     try clear c12
     try clear c12b0
     try clear c13
     try clear c13b0
     try clear p14
     try clear q14
     try clear hx14
     try clear c15
     try clear c15b0
     try clear c16
     try clear c16b0
     try clear c18
     try clear c19
     try clear c19b0
     try clear c19b1
     try clear c20
     try clear c20b0
     try clear c20b1
     try clear p21
     try clear q21
     try clear hx21
     try clear c22
     try clear p22
     try clear q22
     try clear hx22
     try clear c23
     try clear c23b0
     try clear c23b1
     try clear c24
     try clear c24b0
     try clear c24b1
     try clear c25
     try clear c25b0
     try clear c25b1
     try clear c28
     try clear c28b0
     try clear c29
     try clear c29b0
     try clear c31
     try clear c31b0
     try clear c31b1
     try clear hx215_0
     try clear hx216_0
     try clear hx217_0
     try clear hx218_0
     try clear hx221_0
     try clear p14
     try clear p2
     try clear p215
     try clear p216
     try clear p217
     try clear p218
     try clear p221
     try clear q14
     try clear q2
     try clear q215
     try clear q216
     try clear q217
     try clear q218
     try clear q221
     obtain ⟨x9_2, rfl, HA, HK2, HO_3, HB⟩ := hrel
     cases gk with
     | zero => exact absurd HA.out (by simp [Yi.l2])
     | succ k2 =>
      have H := HA.out
      clear HA
      simp only [Yi.l2] at H
      by_cases c34 : x9_2 < (t212.length : Int)
      rotate_left
      ·rw [if_neg c34] at H
       have c34b0 : decide (x9_2 < (t212.length : Int)) = false := decide_eq_false c34
       clear c34
       obtain rfl := Option.some.inj H
       go_wp2
       go_ret
       exact ⟨Zua, Za⟩
      rw [if_pos c34] at H
      have c34b0 : decide (x9_2 < (t212.length : Int)) = true := decide_eq_true c34
      clear c34
      by_cases c35 : 0 ≤ x9_2
      rotate_left
      ·rw [if_neg c35] at H
       exact absurd H Zv
      rw [if_pos c35] at H
      have c35b0 : decide (0 ≤ x9_2) = true := decide_eq_true c35
      clear c35
      replace H := Option.bind_eq_some_iff.mp H
      obtain ⟨t225, A360, H⟩ := H
      try dsimp -simprocs only at H
      have A36 := Ya.mk A360
      clear A360
      by_cases c37 : t225 = true
      rotate_left
      ·replace c37 := Bool.eq_false_iff.mpr c37
       subst c37
       rw [if_neg (show ¬ (false = true) by decide)] at H
       obtain rfl := Option.some.inj H
       have p224 : 0 ≤ (x9_2 : Int) := of_decide_eq_true Zc
       have q224 : x9_2 < (t212.length : Int) := of_decide_eq_true Zc
       obtain ⟨ad224, e224, hx224_0⟩ := Kd.at_string (Kd.R_reads' HO_3.out).2.2 x9_2 p224 q224
       obtain rfl : ad221 = ad224 := (by injection e224)
       replace p224 := eq_true p224
       replace q224 := eq_true q224
       go_wp2_with (first | ((with_reducible refine Yh (f := 99) rfl ?_); refine Yz (some 91) rfl rfl Tryz.func99 Zi rfl #[.string (rdOf ByteArray.empty t212 x9_2)] rfl Zb ?_; (with_reducible refine (Ynd.calls k2 (rdOf ByteArray.empty t212 x9_2) false _ ?side1 A36.out).mono ?_); (case side1 => first | exact HE.out | exact EnvOk.below HE.out Za); rintro e w39 ⟨rfl, hb⟩; refine ⟨_, rfl, ?_⟩; have n0_ := Ya.mk (Kd.R_below Zm hb); have n1_ := Ya.mk (Yq Za hb); clear HO_3; clear HB; have HO_3 := n0_; have HB := n1_; clear n0_ n1_; (try clear hb); (try clear hb2); (try clear hk); (try clear hi)))
       go_ret
       exact ⟨Zua, Za⟩
      subst c37
      rw [if_pos rfl] at H
      have H' := Ya.mk H
      clear H
      have p224 : 0 ≤ (x9_2 : Int) := of_decide_eq_true Zc
      have q224 : x9_2 < (t212.length : Int) := of_decide_eq_true Zc
      obtain ⟨ad224, e224, hx224_0⟩ := Kd.at_string (Kd.R_reads' HO_3.out).2.2 x9_2 p224 q224
      obtain rfl : ad221 = ad224 := (by injection e224)
      replace p224 := eq_true p224
      replace q224 := eq_true q224
      go_wp2_with (first | ((with_reducible refine Yh (f := 99) rfl ?_); refine Yz (some 91) rfl rfl Tryz.func99 Zi rfl #[.string (rdOf ByteArray.empty t212 x9_2)] rfl Zb ?_; (with_reducible refine (Ynd.calls k2 (rdOf ByteArray.empty t212 x9_2) true _ ?side1 A36.out).mono ?_); (case side1 => first | exact HE.out | exact EnvOk.below HE.out Za); rintro e w38 ⟨rfl, hb⟩; refine ⟨_, rfl, ?_⟩; have n0_ := Ya.mk (Kd.R_below Zm hb); have n1_ := Ya.mk (Yq Za hb); clear HO_3; clear HB; have HO_3 := n0_; have HB := n1_; clear n0_ n1_; (try clear hb); (try clear hb2); (try clear hk); (try clear hi)))
      go_roundg k2
      case measure => have := HK1.out; have := HK2.out; omega
      case rel => exact ⟨(wrap64 (x9_2 + 1)), Zf, H', ⟨Zjb⟩, ⟨Zm⟩, ⟨Za⟩⟩
   rw [if_pos c4] at H
   have c4b0 : decide (x4_1 < (t212.length : Int)) = true := decide_eq_true c4
   clear c4
   have HC5 := Ya.mk H
   clear H
   obtain ⟨Ao6, co6, eo6⟩ := Kd.R_slice HO_3.out
   subst eo6
   go_upto_region 5 with (fail)
   go_cut [31] (fun v31 wc => ∃ (kq : Nat) (x31_4 : Bool), v31 = .bool x31_4 ∧ Ya (Yi.j1 kq a0 t212 x4_1 x31_4 = some r) ∧ Ya (kq ≤ k1) ∧ Ya (Kd.R Kd.string 9 wc w.heap.size (fun _ => True) (.slice Ao6 t212.length co6) t212) ∧ Ya (Below w.heap.size w wc))
   case first =>
    have H := HC5.out
    clear HC5
    by_cases c7 : 0 ≤ x4_1
    rotate_left
    ·rw [if_neg c7] at H
     exact absurd H Zv
    rw [if_pos c7] at H
    have c7b0 : decide (0 ≤ x4_1) = true := decide_eq_true c7
    clear c7
    (first | rw [c7b0] | (simp only [Yqa, Yra]; rw [c7b0]) | skip)
    by_cases c8 : ((rdOf ByteArray.empty t212 x4_1).size : Int) < 1
    ·rw [if_pos c8] at H
     have c8b0 : decide (((rdOf ByteArray.empty t212 x4_1).size : Int) < 1) = true := decide_eq_true c8
     have c8b1 : decide ((rdOf ByteArray.empty t212 x4_1).size < 1) = true := decide_eq_true Zl
     clear c8
     have H' := Ya.mk H
     clear H
     have p215 : 0 ≤ (x4_1 : Int) := of_decide_eq_true Zc
     have q215 : x4_1 < (t212.length : Int) := of_decide_eq_true Zc
     obtain ⟨ad215, e215, hx215_0⟩ := Kd.at_string (Kd.R_reads' HO_3.out).2.2 x4_1 p215 q215
     cases e215
     replace p215 := eq_true p215
     replace q215 := eq_true q215
     go_wp2
     go_meet
     case rel => exact ⟨_, (true), Zf, H', ⟨Zja⟩, ⟨Zm⟩, ⟨Za⟩⟩
    rw [if_neg c8] at H
    have c8b0 : decide (((rdOf ByteArray.empty t212 x4_1).size : Int) < 1) = false := decide_eq_false c8
    have c8b1 : decide ((rdOf ByteArray.empty t212 x4_1).size < 1) = false := decide_eq_false Zl
    clear c8
    have H' := Ya.mk H
    clear H
    have p215 : 0 ≤ (x4_1 : Int) := of_decide_eq_true Zc
    have q215 : x4_1 < (t212.length : Int) := of_decide_eq_true Zc
    obtain ⟨ad215, e215, hx215_0⟩ := Kd.at_string (Kd.R_reads' HO_3.out).2.2 x4_1 p215 q215
    cases e215
    replace p215 := eq_true p215
    replace q215 := eq_true q215
    have p216 : 0 ≤ (x4_1 : Int) := of_decide_eq_true Zc
    have q216 : x4_1 < (t212.length : Int) := of_decide_eq_true Zc
    obtain ⟨ad216, e216, hx216_0⟩ := Kd.at_string (Kd.R_reads' HO_3.out).2.2 x4_1 p216 q216
    obtain rfl : ad215 = ad216 := (by injection e216)
    replace p216 := eq_true p216
    replace q216 := eq_true q216
    go_wp2
    go_meet
    case rel => exact ⟨_, (decide (((rdOf ByteArray.empty t212 x4_1).size : Int) > 63)), Zf, H', ⟨Zja⟩, ⟨Zm⟩, ⟨Za⟩⟩
   case rest =>
    clear HC5
    try clear p2
    try clear q2
    try clear hx2
    try clear c4
    try clear c4b0
    try clear c5
    try clear c7
    try clear c7b0
    try clear c8
    try clear c8b0
    try clear c8b1
    try clear hx215_0
    try clear hx216_0
    try clear p2
    try clear p215
    try clear p216
    try clear q215
    try clear q216
    obtain ⟨kq, x31_4, rfl, HA, HJ4, HO_3, HB⟩ := hcut
    cases kq with
    | zero => exact absurd HA.out (by simp [Yi.j1])
    | succ kj4 =>
     have H := HA.out
     clear HA
     simp only [Yi.j1] at H
     by_cases c9 : x31_4 = true
     ·subst c9
      rw [if_pos rfl] at H
      obtain rfl := Option.some.inj H
      go_wp2
      go_ret
      exact ⟨Zk, Za⟩
     replace c9 := Bool.eq_false_iff.mpr c9
     subst c9
     rw [if_neg (show ¬ (false = true) by decide)] at H
     have H' := Ya.mk H
     clear H
     go_wp2
     go_loopg [5] kj4 (fun kq v5 w' => ∃ (x5_3 : Int), v5 = .int .i64 x5_3 ∧ Ya (Yi.l1 kq a0 t212 x4_1 x5_3 = some r) ∧ Ya (kq ≤ kj4) ∧ Ya (Kd.R Kd.string 9 w' w.heap.size (fun _ => True) (.slice Ao6 t212.length co6) t212) ∧ Ya (Below w.heap.size w w'))
     case atStart => exact ⟨(0), Zf, H', ⟨Nat.le_refl _⟩, ⟨Zm⟩, ⟨Za⟩⟩
     case round =>
      clear H'
      try clear p2
      try clear q2
      try clear hx2
      try clear c4
      try clear c4b0
      try clear c5
      try clear c7
      try clear c7b0
      try clear c8
      try clear c8b0
      try clear c8b1
      try clear c9
      try clear hx215_0
      try clear hx216_0
      try clear p2
      try clear p215
      try clear p216
      try clear q2
      try clear q215
      try clear q216
      obtain ⟨x5_3, rfl, HA, HK3, HO_3, HB⟩ := hrel
      cases gk with
      | zero => exact absurd HA.out (by simp [Yi.l1])
      | succ k3 =>
       have H := HA.out
       clear HA
       simp only [Yi.l1] at H
       by_cases c10 : 0 ≤ x4_1
       rotate_left
       ·rw [if_neg c10] at H
        exact absurd H Zv
       rw [if_pos c10] at H
       have c10b0 : decide (0 ≤ x4_1) = true := decide_eq_true c10
       clear c10
       by_cases c11 : x4_1 < (t212.length : Int)
       rotate_left
       ·rw [if_neg c11] at H
        exact absurd H Zv
       rw [if_pos c11] at H
       have c11b0 : decide (x4_1 < (t212.length : Int)) = true := decide_eq_true c11
       clear c11
       by_cases c12 : x5_3 < ((rdOf ByteArray.empty t212 x4_1).size : Int)
       rotate_left
       ·rw [if_neg c12] at H
        have c12b0 : decide (x5_3 < ((rdOf ByteArray.empty t212 x4_1).size : Int)) = false := decide_eq_false c12
        clear c12
        have H' := Ya.mk H
        clear H
        have p217 : 0 ≤ (x4_1 : Int) := of_decide_eq_true Zc
        have q217 : x4_1 < (t212.length : Int) := of_decide_eq_true Zc
        obtain ⟨ad217, e217, hx217_0⟩ := Kd.at_string (Kd.R_reads' HO_3.out).2.2 x4_1 p217 q217
        cases e217
        replace p217 := eq_true p217
        replace q217 := eq_true q217
        go_wp2
        go_roundg k3
        case measure => have := HK1.out; have := HJ4.out; have := HK3.out; omega
        case rel => exact ⟨(wrap64 (x4_1 + 1)), Zf, H', ⟨Zpa⟩, ⟨Zm⟩, ⟨Za⟩⟩
       rw [if_pos c12] at H
       have c12b0 : decide (x5_3 < ((rdOf ByteArray.empty t212 x4_1).size : Int)) = true := decide_eq_true c12
       clear c12
       by_cases c13 : 0 ≤ x5_3
       rotate_left
       ·rw [if_neg c13] at H
        exact absurd H Zv
       rw [if_pos c13] at H
       have c13b0 : decide (0 ≤ x5_3) = true := decide_eq_true c13
       clear c13
       by_cases c15 : (bt (rdOf ByteArray.empty t212 x4_1) x5_3) ≥ 97
       rotate_left
       ·rw [if_neg c15] at H
        have c15b0 : decide (97 ≤ (bt (rdOf ByteArray.empty t212 x4_1) x5_3)) = false := decide_eq_false c15
        clear c15
        replace H := Option.bind_eq_some_iff.mp H
        obtain ⟨t220, A210, H⟩ := H
        try dsimp -simprocs only at H
        have A21 := Ya.mk A210
        clear A210
        by_cases c22 : t220 = true
        ·subst c22
         rw [if_pos rfl] at H
         have H' := Ya.mk H
         clear H
         have p217 : 0 ≤ (x4_1 : Int) := of_decide_eq_true Zc
         have q217 : x4_1 < (t212.length : Int) := of_decide_eq_true Zc
         obtain ⟨ad217, e217, hx217_0⟩ := Kd.at_string (Kd.R_reads' HO_3.out).2.2 x4_1 p217 q217
         cases e217
         replace p217 := eq_true p217
         replace q217 := eq_true q217
         have p218 : 0 ≤ (x4_1 : Int) := of_decide_eq_true Zc
         have q218 : x4_1 < (t212.length : Int) := of_decide_eq_true Zc
         obtain ⟨ad218, e218, hx218_0⟩ := Kd.at_string (Kd.R_reads' HO_3.out).2.2 x4_1 p218 q218
         obtain rfl : ad217 = ad218 := Zac
         replace p218 := eq_true p218
         replace q218 := eq_true q218
         have p14 : 0 ≤ (x5_3 : Int) := of_decide_eq_true Zc
         have q14 : x5_3 < ((rdOf ByteArray.empty t212 x4_1).size : Int) := of_decide_eq_true Zc
         have hx14 := Yya (rdOf ByteArray.empty t212 x4_1) x5_3
         replace p14 := eq_true p14
         replace q14 := eq_true q14
         go_wp2_with (first | (go_at_call 87; (with_reducible refine (Yv.calls (bt (rdOf ByteArray.empty t212 x4_1) x5_3) true _ ?side1 A21.out).mono ?_); (case side1 => first | exact HE.out | exact EnvOk.below HE.out Za); rintro e w' ⟨rfl, ⟨nd, rfl⟩⟩))
         go_roundg k3
         case measure => have := HK1.out; have := HJ4.out; have := HK3.out; omega
         case rel => exact ⟨(wrap64 (x5_3 + 1)), Zf, H', ⟨Zpa⟩, ⟨Zm⟩, ⟨Za⟩⟩
        replace c22 := Bool.eq_false_iff.mpr c22
        subst c22
        rw [if_neg (show ¬ (false = true) by decide)] at H
        by_cases c23 : (bt (rdOf ByteArray.empty t212 x4_1) x5_3) = 45
        ·rw [if_pos c23] at H
         have c23b0 : ((bt (rdOf ByteArray.empty t212 x4_1) x5_3) == 45) = true := beq_iff_eq.mpr c23
         have c23b1 : ((bt (rdOf ByteArray.empty t212 x4_1) x5_3) != 45) = false := bne_eq_false_iff_eq.mpr c23
         clear c23
         have H' := Ya.mk H
         clear H
         have p217 : 0 ≤ (x4_1 : Int) := of_decide_eq_true Zc
         have q217 : x4_1 < (t212.length : Int) := of_decide_eq_true Zc
         obtain ⟨ad217, e217, hx217_0⟩ := Kd.at_string (Kd.R_reads' HO_3.out).2.2 x4_1 p217 q217
         cases e217
         replace p217 := eq_true p217
         replace q217 := eq_true q217
         have p218 : 0 ≤ (x4_1 : Int) := of_decide_eq_true Zc
         have q218 : x4_1 < (t212.length : Int) := of_decide_eq_true Zc
         obtain ⟨ad218, e218, hx218_0⟩ := Kd.at_string (Kd.R_reads' HO_3.out).2.2 x4_1 p218 q218
         obtain rfl : ad217 = ad218 := Zac
         replace p218 := eq_true p218
         replace q218 := eq_true q218
         have p14 : 0 ≤ (x5_3 : Int) := of_decide_eq_true Zc
         have q14 : x5_3 < ((rdOf ByteArray.empty t212 x4_1).size : Int) := of_decide_eq_true Zc
         have hx14 := Yya (rdOf ByteArray.empty t212 x4_1) x5_3
         replace p14 := eq_true p14
         replace q14 := eq_true q14
         go_wp2_with (first | (go_at_call 87; (with_reducible refine (Yv.calls (bt (rdOf ByteArray.empty t212 x4_1) x5_3) false _ ?side1 A21.out).mono ?_); (case side1 => first | exact HE.out | exact EnvOk.below HE.out Za); rintro e w' ⟨rfl, ⟨nd, rfl⟩⟩))
         go_roundg k3
         case measure => have := HK1.out; have := HJ4.out; have := HK3.out; omega
         case rel => exact ⟨(wrap64 (x5_3 + 1)), Zf, H', ⟨Zpa⟩, ⟨Zm⟩, ⟨Za⟩⟩
        rw [if_neg c23] at H
        have c23b0 : ((bt (rdOf ByteArray.empty t212 x4_1) x5_3) == 45) = false := beq_eq_false_iff_ne.mpr c23
        have c23b1 : ((bt (rdOf ByteArray.empty t212 x4_1) x5_3) != 45) = true := bne_iff_ne.mpr c23
        by_cases c24 : ((bt (rdOf ByteArray.empty t212 x4_1) x5_3) = 95)
        rotate_left
        ·rw [if_neg c24] at H
         have c24b0 : ((bt (rdOf ByteArray.empty t212 x4_1) x5_3) == 95) = false := beq_eq_false_iff_ne.mpr c24
         have c24b1 : ((bt (rdOf ByteArray.empty t212 x4_1) x5_3) != 95) = true := bne_iff_ne.mpr c24
         obtain rfl := Option.some.inj H
         have p217 : 0 ≤ (x4_1 : Int) := of_decide_eq_true Zc
         have q217 : x4_1 < (t212.length : Int) := of_decide_eq_true Zc
         obtain ⟨ad217, e217, hx217_0⟩ := Kd.at_string (Kd.R_reads' HO_3.out).2.2 x4_1 p217 q217
         cases e217
         replace p217 := eq_true p217
         replace q217 := eq_true q217
         have p218 : 0 ≤ (x4_1 : Int) := of_decide_eq_true Zc
         have q218 : x4_1 < (t212.length : Int) := of_decide_eq_true Zc
         obtain ⟨ad218, e218, hx218_0⟩ := Kd.at_string (Kd.R_reads' HO_3.out).2.2 x4_1 p218 q218
         obtain rfl : ad217 = ad218 := Zac
         replace p218 := eq_true p218
         replace q218 := eq_true q218
         have p14 : 0 ≤ (x5_3 : Int) := of_decide_eq_true Zc
         have q14 : x5_3 < ((rdOf ByteArray.empty t212 x4_1).size : Int) := of_decide_eq_true Zc
         have hx14 := Yya (rdOf ByteArray.empty t212 x4_1) x5_3
         replace p14 := eq_true p14
         replace q14 := eq_true q14
         go_wp2_with (first | (go_at_call 87; (with_reducible refine (Yv.calls (bt (rdOf ByteArray.empty t212 x4_1) x5_3) false _ ?side1 A21.out).mono ?_); (case side1 => first | exact HE.out | exact EnvOk.below HE.out Za); rintro e w' ⟨rfl, ⟨nd, rfl⟩⟩))
         go_ret
         exact ⟨Zk, Za⟩
        rw [if_pos c24] at H
        have c24b0 : ((bt (rdOf ByteArray.empty t212 x4_1) x5_3) == 95) = true := beq_iff_eq.mpr c24
        have c24b1 : ((bt (rdOf ByteArray.empty t212 x4_1) x5_3) != 95) = false := bne_eq_false_iff_eq.mpr c24
        clear c24
        have H' := Ya.mk H
        clear H
        have p217 : 0 ≤ (x4_1 : Int) := of_decide_eq_true Zc
        have q217 : x4_1 < (t212.length : Int) := of_decide_eq_true Zc
        obtain ⟨ad217, e217, hx217_0⟩ := Kd.at_string (Kd.R_reads' HO_3.out).2.2 x4_1 p217 q217
        cases e217
        replace p217 := eq_true p217
        replace q217 := eq_true q217
        have p218 : 0 ≤ (x4_1 : Int) := of_decide_eq_true Zc
        have q218 : x4_1 < (t212.length : Int) := of_decide_eq_true Zc
        obtain ⟨ad218, e218, hx218_0⟩ := Kd.at_string (Kd.R_reads' HO_3.out).2.2 x4_1 p218 q218
        obtain rfl : ad217 = ad218 := Zac
        replace p218 := eq_true p218
        replace q218 := eq_true q218
        have p14 : 0 ≤ (x5_3 : Int) := of_decide_eq_true Zc
        have q14 : x5_3 < ((rdOf ByteArray.empty t212 x4_1).size : Int) := of_decide_eq_true Zc
        have hx14 := Yya (rdOf ByteArray.empty t212 x4_1) x5_3
        replace p14 := eq_true p14
        replace q14 := eq_true q14
        go_wp2_with (first | (go_at_call 87; (with_reducible refine (Yv.calls (bt (rdOf ByteArray.empty t212 x4_1) x5_3) false _ ?side1 A21.out).mono ?_); (case side1 => first | exact HE.out | exact EnvOk.below HE.out Za); rintro e w' ⟨rfl, ⟨nd, rfl⟩⟩))
        go_roundg k3
        case measure => have := HK1.out; have := HJ4.out; have := HK3.out; omega
        case rel => exact ⟨(wrap64 (x5_3 + 1)), Zf, H', ⟨Zpa⟩, ⟨Zm⟩, ⟨Za⟩⟩
       rw [if_pos c15] at H
       have c15b0 : decide (97 ≤ (bt (rdOf ByteArray.empty t212 x4_1) x5_3)) = true := decide_eq_true c15
       clear c15
       by_cases c16 : (bt (rdOf ByteArray.empty t212 x4_1) x5_3) ≤ 122
       ·rw [if_pos c16] at H
        have c16b0 : decide ((bt (rdOf ByteArray.empty t212 x4_1) x5_3) ≤ 122) = true := decide_eq_true c16
        clear c16
        have H' := Ya.mk H
        clear H
        have p217 : 0 ≤ (x4_1 : Int) := of_decide_eq_true Zc
        have q217 : x4_1 < (t212.length : Int) := of_decide_eq_true Zc
        obtain ⟨ad217, e217, hx217_0⟩ := Kd.at_string (Kd.R_reads' HO_3.out).2.2 x4_1 p217 q217
        cases e217
        replace p217 := eq_true p217
        replace q217 := eq_true q217
        have p218 : 0 ≤ (x4_1 : Int) := of_decide_eq_true Zc
        have q218 : x4_1 < (t212.length : Int) := of_decide_eq_true Zc
        obtain ⟨ad218, e218, hx218_0⟩ := Kd.at_string (Kd.R_reads' HO_3.out).2.2 x4_1 p218 q218
        obtain rfl : ad217 = ad218 := Zac
        replace p218 := eq_true p218
        replace q218 := eq_true q218
        have p14 : 0 ≤ (x5_3 : Int) := of_decide_eq_true Zc
        have q14 : x5_3 < ((rdOf ByteArray.empty t212 x4_1).size : Int) := of_decide_eq_true Zc
        have hx14 := Yya (rdOf ByteArray.empty t212 x4_1) x5_3
        replace p14 := eq_true p14
        replace q14 := eq_true q14
        go_wp2
        go_roundg k3
        case measure => have := HK1.out; have := HJ4.out; have := HK3.out; omega
        case rel => exact ⟨(wrap64 (x5_3 + 1)), Zf, H', ⟨Zpa⟩, ⟨Zm⟩, ⟨Za⟩⟩
       rw [if_neg c16] at H
       have c16b0 : decide ((bt (rdOf ByteArray.empty t212 x4_1) x5_3) ≤ 122) = false := decide_eq_false c16
       clear c16
       replace H := Option.bind_eq_some_iff.mp H
       obtain ⟨t219, A170, H⟩ := H
       try dsimp -simprocs only at H
       have A17 := Ya.mk A170
       clear A170
       by_cases c18 : t219 = true
       ·subst c18
        rw [if_pos rfl] at H
        have H' := Ya.mk H
        clear H
        have p217 : 0 ≤ (x4_1 : Int) := of_decide_eq_true Zc
        have q217 : x4_1 < (t212.length : Int) := of_decide_eq_true Zc
        obtain ⟨ad217, e217, hx217_0⟩ := Kd.at_string (Kd.R_reads' HO_3.out).2.2 x4_1 p217 q217
        cases e217
        replace p217 := eq_true p217
        replace q217 := eq_true q217
        have p218 : 0 ≤ (x4_1 : Int) := of_decide_eq_true Zc
        have q218 : x4_1 < (t212.length : Int) := of_decide_eq_true Zc
        obtain ⟨ad218, e218, hx218_0⟩ := Kd.at_string (Kd.R_reads' HO_3.out).2.2 x4_1 p218 q218
        obtain rfl : ad217 = ad218 := Zac
        replace p218 := eq_true p218
        replace q218 := eq_true q218
        have p14 : 0 ≤ (x5_3 : Int) := of_decide_eq_true Zc
        have q14 : x5_3 < ((rdOf ByteArray.empty t212 x4_1).size : Int) := of_decide_eq_true Zc
        have hx14 := Yya (rdOf ByteArray.empty t212 x4_1) x5_3
        replace p14 := eq_true p14
        replace q14 := eq_true q14
        go_wp2_with (first | (go_at_call 87; (with_reducible refine (Yv.calls (bt (rdOf ByteArray.empty t212 x4_1) x5_3) true _ ?side1 A17.out).mono ?_); (case side1 => first | exact HE.out | exact EnvOk.below HE.out Za); rintro e w' ⟨rfl, ⟨nd, rfl⟩⟩))
        go_roundg k3
        case measure => have := HK1.out; have := HJ4.out; have := HK3.out; omega
        case rel => exact ⟨(wrap64 (x5_3 + 1)), Zf, H', ⟨Zpa⟩, ⟨Zm⟩, ⟨Za⟩⟩
       replace c18 := Bool.eq_false_iff.mpr c18
       subst c18
       rw [if_neg (show ¬ (false = true) by decide)] at H
       by_cases c19 : (bt (rdOf ByteArray.empty t212 x4_1) x5_3) = 45
       ·rw [if_pos c19] at H
        have c19b0 : ((bt (rdOf ByteArray.empty t212 x4_1) x5_3) == 45) = true := beq_iff_eq.mpr c19
        have c19b1 : ((bt (rdOf ByteArray.empty t212 x4_1) x5_3) != 45) = false := bne_eq_false_iff_eq.mpr c19
        clear c19
        have H' := Ya.mk H
        clear H
        have p217 : 0 ≤ (x4_1 : Int) := of_decide_eq_true Zc
        have q217 : x4_1 < (t212.length : Int) := of_decide_eq_true Zc
        obtain ⟨ad217, e217, hx217_0⟩ := Kd.at_string (Kd.R_reads' HO_3.out).2.2 x4_1 p217 q217
        cases e217
        replace p217 := eq_true p217
        replace q217 := eq_true q217
        have p218 : 0 ≤ (x4_1 : Int) := of_decide_eq_true Zc
        have q218 : x4_1 < (t212.length : Int) := of_decide_eq_true Zc
        obtain ⟨ad218, e218, hx218_0⟩ := Kd.at_string (Kd.R_reads' HO_3.out).2.2 x4_1 p218 q218
        obtain rfl : ad217 = ad218 := Zac
        replace p218 := eq_true p218
        replace q218 := eq_true q218
        have p14 : 0 ≤ (x5_3 : Int) := of_decide_eq_true Zc
        have q14 : x5_3 < ((rdOf ByteArray.empty t212 x4_1).size : Int) := of_decide_eq_true Zc
        have hx14 := Yya (rdOf ByteArray.empty t212 x4_1) x5_3
        replace p14 := eq_true p14
        replace q14 := eq_true q14
        go_wp2_with (first | (go_at_call 87; (with_reducible refine (Yv.calls (bt (rdOf ByteArray.empty t212 x4_1) x5_3) false _ ?side1 A17.out).mono ?_); (case side1 => first | exact HE.out | exact EnvOk.below HE.out Za); rintro e w' ⟨rfl, ⟨nd, rfl⟩⟩))
        go_roundg k3
        case measure => have := HK1.out; have := HJ4.out; have := HK3.out; omega
        case rel => exact ⟨(wrap64 (x5_3 + 1)), Zf, H', ⟨Zpa⟩, ⟨Zm⟩, ⟨Za⟩⟩
       rw [if_neg c19] at H
       have c19b0 : ((bt (rdOf ByteArray.empty t212 x4_1) x5_3) == 45) = false := beq_eq_false_iff_ne.mpr c19
       have c19b1 : ((bt (rdOf ByteArray.empty t212 x4_1) x5_3) != 45) = true := bne_iff_ne.mpr c19
       by_cases c20 : ((bt (rdOf ByteArray.empty t212 x4_1) x5_3) = 95)
       rotate_left
       ·rw [if_neg c20] at H
        have c20b0 : ((bt (rdOf ByteArray.empty t212 x4_1) x5_3) == 95) = false := beq_eq_false_iff_ne.mpr c20
        have c20b1 : ((bt (rdOf ByteArray.empty t212 x4_1) x5_3) != 95) = true := bne_iff_ne.mpr c20
        obtain rfl := Option.some.inj H
        have p217 : 0 ≤ (x4_1 : Int) := of_decide_eq_true Zc
        have q217 : x4_1 < (t212.length : Int) := of_decide_eq_true Zc
        obtain ⟨ad217, e217, hx217_0⟩ := Kd.at_string (Kd.R_reads' HO_3.out).2.2 x4_1 p217 q217
        cases e217
        replace p217 := eq_true p217
        replace q217 := eq_true q217
        have p218 : 0 ≤ (x4_1 : Int) := of_decide_eq_true Zc
        have q218 : x4_1 < (t212.length : Int) := of_decide_eq_true Zc
        obtain ⟨ad218, e218, hx218_0⟩ := Kd.at_string (Kd.R_reads' HO_3.out).2.2 x4_1 p218 q218
        obtain rfl : ad217 = ad218 := Zac
        replace p218 := eq_true p218
        replace q218 := eq_true q218
        have p14 : 0 ≤ (x5_3 : Int) := of_decide_eq_true Zc
        have q14 : x5_3 < ((rdOf ByteArray.empty t212 x4_1).size : Int) := of_decide_eq_true Zc
        have hx14 := Yya (rdOf ByteArray.empty t212 x4_1) x5_3
        replace p14 := eq_true p14
        replace q14 := eq_true q14
        go_wp2_with (first | (go_at_call 87; (with_reducible refine (Yv.calls (bt (rdOf ByteArray.empty t212 x4_1) x5_3) false _ ?side1 A17.out).mono ?_); (case side1 => first | exact HE.out | exact EnvOk.below HE.out Za); rintro e w' ⟨rfl, ⟨nd, rfl⟩⟩))
        go_ret
        exact ⟨Zk, Za⟩
       rw [if_pos c20] at H
       have c20b0 : ((bt (rdOf ByteArray.empty t212 x4_1) x5_3) == 95) = true := beq_iff_eq.mpr c20
       have c20b1 : ((bt (rdOf ByteArray.empty t212 x4_1) x5_3) != 95) = false := bne_eq_false_iff_eq.mpr c20
       clear c20
       have H' := Ya.mk H
       clear H
       have p217 : 0 ≤ (x4_1 : Int) := of_decide_eq_true Zc
       have q217 : x4_1 < (t212.length : Int) := of_decide_eq_true Zc
       obtain ⟨ad217, e217, hx217_0⟩ := Kd.at_string (Kd.R_reads' HO_3.out).2.2 x4_1 p217 q217
       cases e217
       replace p217 := eq_true p217
       replace q217 := eq_true q217
       have p218 : 0 ≤ (x4_1 : Int) := of_decide_eq_true Zc
       have q218 : x4_1 < (t212.length : Int) := of_decide_eq_true Zc
       obtain ⟨ad218, e218, hx218_0⟩ := Kd.at_string (Kd.R_reads' HO_3.out).2.2 x4_1 p218 q218
       obtain rfl : ad217 = ad218 := Zac
       replace p218 := eq_true p218
       replace q218 := eq_true q218
       have p14 : 0 ≤ (x5_3 : Int) := of_decide_eq_true Zc
       have q14 : x5_3 < ((rdOf ByteArray.empty t212 x4_1).size : Int) := of_decide_eq_true Zc
       have hx14 := Yya (rdOf ByteArray.empty t212 x4_1) x5_3
       replace p14 := eq_true p14
       replace q14 := eq_true q14
       go_wp2_with (first | (go_at_call 87; (with_reducible refine (Yv.calls (bt (rdOf ByteArray.empty t212 x4_1) x5_3) false _ ?side1 A17.out).mono ?_); (case side1 => first | exact HE.out | exact EnvOk.below HE.out Za); rintro e w' ⟨rfl, ⟨nd, rfl⟩⟩))
       go_roundg k3
       case measure => have := HK1.out; have := HJ4.out; have := HK3.out; omega
       case rel => exact ⟨(wrap64 (x5_3 + 1)), Zf, H', ⟨Zpa⟩, ⟨Zm⟩, ⟨Za⟩⟩
end Go.Proofs.YtnmglnglbdpjjaaGreatDoor.X
