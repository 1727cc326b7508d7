/- Printed by a program of ours: functions as plain Lean, and what a call of each does. -/
import Derived.Test.YtnmglnglbdpjjaaGreatDoorUjWords
import Derived.Test.YtnmglnglbdpjjaaGreatDoorUjX0
import Derived.Test.YtnmglnglbdpjjaaGreatDoorUjX2
import Derived.Test.YtnmglnglbdpjjaaGreatDoorUjX3
import Derived.Test.YtnmglnglbdpjjaaGreatDoorUjH0e
namespace Go.Proofs.YtnmglnglbdpjjaaGreatDoor.X
open Go.RowKit Go.Yw.PrintWords Go.Yw.PrintLast Go.Yw.PrintMore
attribute [local go_sem] Yvd Yyd Yke Yme Yld Ykd Yud Ywd
set_option linter.unusedVariables false
set_option linter.unusedSimpArgs false
def Yjb.l0 : Nat → ByteArray → Int → List ByteArray → Option (List ByteArray)
 | 0, _, _, _ => none
 | k + 1, x0, x1, x5 => (strings_IndexByte.f x0 x1).bind fun t125 => (if t125 < 0 then (if x5.length < 8796093022208 then (some (x5 ++ [x0])) else (none)) else (if 0 ≤ t125 then (if t125 ≤ (x0.size : Int) then (if x5.length < 8796093022208 then (if 0 ≤ (wrap64 (t125 + 1)) then (if (wrap64 (t125 + 1)) ≤ (x0.size : Int) then (Yjb.l0 k (x0.extract ((wrap64 (t125 + 1)) : Int).toNat x0.size) x1 (x5 ++ [x0.extract 0 (t125 : Int).toNat])) else (none)) else (none)) else (none)) else (none)) else (none)))
def Yjb.f (k : Nat) (a0 : ByteArray) (a1 : Int) : Option (List ByteArray) := Yjb.l0 k a0 a1 ([] : List ByteArray)
theorem Yjb.mono_l : ∀ k, (∀ y0 y1 y2, LeO (Yjb.l0 k y0 y1 y2) (Yjb.l0 (k + 1) y0 y1 y2))
 | 0 => fun _ _ _ r h => by simp [Yjb.l0] at h
 | k + 1 => by
  have ih0 := Yjb.mono_l k
  ·intro y0 y1 y2
   unfold Yjb.l0
   repeat' first
   | (with_reducible exact ih0 _ _ _)
   | (with_reducible exact LeO.refl _)
   | (with_reducible exact LeO.none _)
   | (with_reducible refine LeO.ite ?_ ?_)
   | (with_reducible refine LeO.bind ?_ (fun _ => ?_))
   | exact ih0 _ _ _
   | exact LeO.none _
   | refine LeO.ite ?_ ?_
   | refine LeO.bind ?_ (fun _ => ?_)
theorem Yjb.mono : ∀ a0 a1 k, LeO (Yjb.f k a0 a1) (Yjb.f (k + 1) a0 a1) := by
 intro a0 a1 k
 have ih0 := Yjb.mono_l k
 unfold Yjb.f
 repeat' first
   | (with_reducible exact ih0 _ _ _)
   | (with_reducible exact LeO.refl _)
   | (with_reducible exact LeO.none _)
   | (with_reducible refine LeO.ite ?_ ?_)
   | (with_reducible refine LeO.bind ?_ (fun _ => ?_))
   | exact ih0 _ _ _
   | exact LeO.none _
   | refine LeO.ite ?_ ?_
   | refine LeO.bind ?_ (fun _ => ?_)
set_option maxHeartbeats 8000000 in
set_option maxRecDepth 100000 in
theorem Yjb.calls (k : Nat) (a0 : ByteArray) (a1 : Int) (r : List ByteArray) (w : World) (hE : EnvOk w) (h : Yjb.f k a0 a1 = some r) :
  Calls Tryz.prog 60 #[.string a0, .int .u8 a1] w fun e w' => ∃ v0_ : Value, e = .returned (v0_) ∧ Kd.R Kd.string 9 w' w.heap.size (fun _ => True) v0_ r ∧ Below w.heap.size w w' := by
 have HE := Ya.mk hE
 clear hE
 have HB := Ya.mk (Below.refl w.heap.size w)
 have H : (Yjb.l0 k a0 a1 ([] : List ByteArray)) = some r := h
 clear h
 have H' := Ya.mk H
 clear H
 go_enter Tryz.func60, Tryz.ntmps60
 go_wp2
 go_loopg [0, 5] k (fun kq v0 v5 w' => ∃ (x0_1 : ByteArray) (x5_1 : List ByteArray), v0 = .string x0_1 ∧ Ya (Yjb.l0 kq x0_1 a1 x5_1 = some r) ∧ Ya (kq ≤ k) ∧ Ya (Kd.R Kd.string 9 w' w.heap.size (fun _ => True) v5 x5_1) ∧ Ya (Below w.heap.size w w'))
 case atStart => exact ⟨(a0), (([] : List ByteArray)), Zf, H', ⟨Nat.le_refl _⟩, ⟨Zea⟩, ⟨Za⟩⟩
 case round =>
  clear H'
  try clear p2
  obtain ⟨x0_1, x5_1, rfl, HA, HK1, HO_5, HB⟩ := hrel
  cases gk with
  | zero => exact absurd HA.out (by simp [Yjb.l0])
  | succ k1 =>
   have H := HA.out
   clear HA
   simp only [Yjb.l0] at H
   replace H := Option.bind_eq_some_iff.mp H
   obtain ⟨t125, A30, H⟩ := H
   try dsimp -simprocs only at H
   have A3 := Ya.mk A30
   clear A30
   by_cases c4 : t125 < 0
   ·rw [if_pos c4] at H
    have c4b0 : decide (t125 < 0) = true := decide_eq_true c4
    clear c4
    by_cases c5 : x5_1.length < 8796093022208
    rotate_left
    ·rw [if_neg c5] at H
     exact absurd H Zv
    rw [if_pos c5] at H
    have LMc5 := Ya.mk c5
    clear c5
    obtain ⟨y126, hy126⟩ : ∃ y_ : List ByteArray, y_ = (x5_1 ++ [x0_1]) := ⟨_, rfl⟩
    replace H : (some y126) = some r := by first | (rw [hy126]; with_reducible exact H) | (have H2_ := (Option.bind_some _ _).symm.trans H; rw [hy126]; with_reducible exact H2_) | (have H2_ := (Option.bind_some _ _).symm.trans H; with_reducible exact H2_) | with_reducible exact H | (rw [hy126]; exact H) | exact H
    have Ny126 := Ya.mk hy126
    clear hy126
    obtain rfl := Option.some.inj H
    go_wp2_with (first | ((with_reducible refine Yh (f := 79) rfl ?_); refine Yz (some 9) rfl rfl Tryz.func79 Zi rfl #[.string x0_1, .int .u8 a1] rfl Zb ?_; (with_reducible refine (strings_IndexByte.calls x0_1 a1 t125 _ ?side1 A3.out).mono ?_); (case side1 => first | exact HE.out | exact EnvOk.below HE.out Za); rintro e w' ⟨rfl, ⟨nd, rfl⟩⟩; refine ⟨_, rfl, ?_⟩) | ((with_reducible refine Yzd (b := .append) (xs := #[.tmp 12, .tmp 14]) rfl ?_); at_builtin; refine Kd.R_append Kd.string (w0 := w) w.heap.size rfl (.tmp 12) (.tmp 14) 44 9 (.string ⟨#[]⟩) 16 rfl Tryz.underlying44 Yfg rfl Zda Zl u5 x5_1 x0_1 [.string x0_1] (fun _ => True) (fun _ => False) rfl rfl ?aP (fun _ hk => hk.elim) ?aF ?aO ?aB ?aS ?aL ?_; (case aP => exact rfl); (case aB => exact Za); (case aF => exact (fun _ _ => trivial)); (case aO => exact Zqa); (case aS => exact (Yea Za)); (case aL => have := LMc5.out; omega); intro v127 w6 ho hb hg hat; rw [← Ny126.out] at ho; have n0_ := Ya.mk (hb); have n1_ := Ya.mk (ho); clear HB; clear HO_5; have HB := n0_; have HO128 := n1_; clear n0_ n1_; clear ho hb hg hat))
    go_ret
    exact ⟨_, Zk, by (with_reducible repeat (first | apply Kd.R_alloc | apply Kd.R_drewN | apply Kd.R_drew)); exact HO128.out, Za⟩
   rw [if_neg c4] at H
   have c4b0 : decide (t125 < 0) = false := decide_eq_false c4
   clear c4
   by_cases c7 : 0 ≤ t125
   rotate_left
   ·rw [if_neg c7] at H
    exact absurd H Zv
   rw [if_pos c7] at H
   have c7b0 := eq_true c7
   have c7b1 : decide (0 ≤ t125) = true := decide_eq_true c7
   clear c7
   by_cases c8 : t125 ≤ (x0_1.size : Int)
   rotate_left
   ·rw [if_neg c8] at H
    exact absurd H Zv
   rw [if_pos c8] at H
   have c8b0 := eq_true c8
   have c8b1 : decide (t125 ≤ (x0_1.size : Int)) = true := decide_eq_true c8
   clear c8
   by_cases c9 : x5_1.length < 8796093022208
   rotate_left
   ·rw [if_neg c9] at H
    exact absurd H Zv
   rw [if_pos c9] at H
   have LMc9 := Ya.mk c9
   clear c9
   obtain ⟨y129, hy129⟩ : ∃ y_ : List ByteArray, y_ = (x5_1 ++ [x0_1.extract 0 (t125 : Int).toNat]) := ⟨_, rfl⟩
   replace H : (if 0 ≤ (wrap64 (t125 + 1)) then (if (wrap64 (t125 + 1)) ≤ (x0_1.size : Int) then (Yjb.l0 k1 (x0_1.extract ((wrap64 (t125 + 1)) : Int).toNat x0_1.size) a1 y129) else (none)) else (none)) = some r := by first | (rw [hy129]; with_reducible exact H) | (have H2_ := (Option.bind_some _ _).symm.trans H; rw [hy129]; with_reducible exact H2_) | (have H2_ := (Option.bind_some _ _).symm.trans H; with_reducible exact H2_) | with_reducible exact H | (rw [hy129]; exact H) | exact H
   have Ny129 := Ya.mk hy129
   clear hy129
   obtain ⟨ji10, hji10⟩ : ∃ j_ : Int, (wrap64 (t125 + 1)) = j_ := ⟨_, rfl⟩
   replace H : (if 0 ≤ (ji10) then (if (ji10) ≤ (x0_1.size : Int) then (Yjb.l0 k1 (x0_1.extract ((ji10) : Int).toNat x0_1.size) a1 y129) else (none)) else (none)) = some r := by first | (rw [hji10] at H; exact H) | (simp only [hji10] at H ⊢; exact H)
   (try rw [hji10] at A3)
   have hji10w : (IntKind.i64.wrap (t125 + 1)) = ji10 := (Yqa _).trans hji10
   by_cases c11 : 0 ≤ (ji10)
   rotate_left
   ·rw [if_neg c11] at H
    exact absurd H Zv
   rw [if_pos c11] at H
   have c11b0 := eq_true c11
   have c11b1 : decide (0 ≤ (ji10)) = true := decide_eq_true c11
   clear c11
   by_cases c12 : (ji10) ≤ (x0_1.size : Int)
   rotate_left
   ·rw [if_neg c12] at H
    exact absurd H Zv
   rw [if_pos c12] at H
   have c12b0 := eq_true c12
   have c12b1 : decide ((ji10) ≤ (x0_1.size : Int)) = true := decide_eq_true c12
   clear c12
   have H' := Ya.mk H
   clear H
   go_wp2_with (first | ((with_reducible refine Yh (f := 79) rfl ?_); refine Yz (some 9) rfl rfl Tryz.func79 Zi rfl #[.string x0_1, .int .u8 a1] rfl Zb ?_; (with_reducible refine (strings_IndexByte.calls x0_1 a1 t125 _ ?side1 A3.out).mono ?_); (case side1 => first | exact HE.out | exact EnvOk.below HE.out Za); rintro e w' ⟨rfl, ⟨nd, rfl⟩⟩; refine ⟨_, rfl, ?_⟩) | ((with_reducible refine Yzd (b := .append) (xs := #[.tmp 16, .tmp 20]) rfl ?_); at_builtin; refine Kd.R_append Kd.string (w0 := w) w.heap.size rfl (.tmp 16) (.tmp 20) 44 9 (.string ⟨#[]⟩) 16 rfl Tryz.underlying44 Yfg rfl Zda Zl u5 x5_1 (x0_1.extract 0 (t125 : Int).toNat) [.string (x0_1.extract 0 (t125 : Int).toNat)] (fun _ => True) (fun _ => False) rfl rfl ?aP (fun _ hk => hk.elim) ?aF ?aO ?aB ?aS ?aL ?_; (case aP => exact rfl); (case aB => exact Za); (case aF => exact (fun _ _ => trivial)); (case aO => exact Zqa); (case aS => exact (Yea Za)); (case aL => have := LMc9.out; omega); intro v130 w13 ho hb hg hat; rw [← Ny129.out] at ho; have n0_ := Ya.mk (hb); have n1_ := Ya.mk (ho); clear HB; clear HO_5; have HB := n0_; have HO131 := n1_; clear n0_ n1_; clear ho hb hg hat))
   go_roundg k1
   case measure => have := HK1.out; omega
   case rel => exact ⟨(x0_1.extract ((ji10) : Int).toNat x0_1.size), (y129), (by first | rfl | (simp; done) | (simp only [← hji10] <;> (first | rfl | simp)) | (simp [*]; done)), H', ⟨Zaa⟩, ⟨by (with_reducible repeat (first | apply Kd.R_alloc | apply Kd.R_drewN | apply Kd.R_drew)); exact HO131.out⟩, ⟨Za⟩⟩
def Yha.l0 : Nat → ByteArray → Int → Int → Bool → Int → Int → Option (Int × Int)
 | 0, _, _, _, _, _, _ => none
 | k + 1, x0, x1, x6, x7, x15, x16 => if x16 < x15 then (if 0 ≤ x16 then (if x16 < (x0.size : Int) then ((Yta.f (bt x0 x16)).bind fun t132 => (if t132 = true then (if x7 = true then (Yha.l0 k x0 x1 x6 true x15 (wrap64 (x16 + 1))) else (if x6 > (wrap64 (Int.tdiv (wrap64 (x1 - (((bt x0 x16) - 48) % 256))) 10)) then (Yha.l0 k x0 x1 x6 true x15 (wrap64 (x16 + 1))) else (if x1 < (((bt x0 x16) - 48) % 256) then (Yha.l0 k x0 x1 x6 true x15 (wrap64 (x16 + 1))) else (Yha.l0 k x0 x1 (wrap64 ((wrap64 (x6 * 10)) + (((bt x0 x16) - 48) % 256))) x7 x15 (wrap64 (x16 + 1)))))) else (some (0, 3)))) else (none)) else (none)) else (if x7 = true then (some (0, 5)) else (some (x6, 0)))
def Yha.f (k : Nat) (a0 : ByteArray) (a1 : Int) : Option (Int × Int) := if a0.toList = ([] : List UInt8) then (some (0, 3)) else (Yha.l0 k a0 a1 0 (decide (a1 < 0)) (a0.size : Int) 0)
set_option maxHeartbeats 8000000 in
set_option maxRecDepth 100000 in
theorem Yha.calls (k : Nat) (a0 : ByteArray) (a1 : Int) (r1 : Int) (r2 : Int) (w : World) (hE : EnvOk w) (h : Yha.f k a0 a1 = some (r1, r2)) :
  Calls Tryz.prog 83 #[.string a0, .int .i64 a1] w fun e w' => e = .returned (.tuple #[.int .i64 r1, .int .i64 r2]) ∧ Drawn0 w w' := by
 have HE := Ya.mk hE
 clear hE
 have H : (if a0.toList = ([] : List UInt8) then (some (0, 3)) else (Yha.l0 k a0 a1 0 (decide (a1 < 0)) (a0.size : Int) 0)) = some (r1, r2) := h
 clear h
 by_cases c3 : a0.toList = ([] : List UInt8)
 ·rw [if_pos c3] at H
  have c3b0 : (a0.toList == ([] : List UInt8)) = true := beq_iff_eq.mpr c3
  have c3b1 : (a0.toList != ([] : List UInt8)) = false := bne_eq_false_iff_eq.mpr c3
  clear c3
  simp only [Option.some.injEq, Prod.mk.injEq] at H
  obtain ⟨rfl, rfl⟩ := H
  go_enter Tryz.func83, Tryz.ntmps83
  go_wp2
  go_ret2
  exact ⟨Zf, Zh⟩
 rw [if_neg c3] at H
 have c3b0 : (a0.toList == ([] : List UInt8)) = false := beq_eq_false_iff_ne.mpr c3
 have c3b1 : (a0.toList != ([] : List UInt8)) = true := bne_iff_ne.mpr c3
 have H' := Ya.mk H
 clear H
 go_enter Tryz.func83, Tryz.ntmps83
 go_wp2
 go_loopg [6, 7, 16] k (fun kq v6 v7 v16 w' => ∃ (x6_1 : Int) (x7_1 : Bool) (x16_1 : Int), v6 = .int .i64 x6_1 ∧ v7 = .bool x7_1 ∧ v16 = .int .i64 x16_1 ∧ Ya (Yha.l0 kq a0 a1 x6_1 x7_1 (a0.size : Int) x16_1 = some (r1, r2)) ∧ Ya (kq ≤ k) ∧ Drawn0 w w')
 case atStart => exact ⟨(0), (decide (a1 < 0)), (0), Zf, Zf, Zf, H', ⟨Nat.le_refl _⟩, Zh⟩
 case round =>
  clear H'
  try clear p2
  try clear c3
  try clear c3b0
  try clear c3b1
  obtain ⟨x6_1, x7_1, x16_1, rfl, rfl, rfl, HA, HK1, ⟨m1, rfl⟩⟩ := hrel
  cases gk with
  | zero => exact absurd HA.out (by simp [Yha.l0])
  | succ k1 =>
   have H := HA.out
   clear HA
   simp only [Yha.l0] at H
   by_cases c4 : x16_1 < (a0.size : Int)
   rotate_left
   ·rw [if_neg c4] at H
    have c4b0 : decide (x16_1 < (a0.size : Int)) = false := decide_eq_false c4
    clear c4
    by_cases c14 : x7_1 = true
    ·subst c14
     rw [if_pos rfl] at H
     simp only [Option.some.injEq, Prod.mk.injEq] at H
     obtain ⟨rfl, rfl⟩ := H
     go_wp2
     go_ret2
     exact ⟨Zf, Zh⟩
    replace c14 := Bool.eq_false_iff.mpr c14
    subst c14
    rw [if_neg (show ¬ (false = true) by decide)] at H
    simp only [Option.some.injEq, Prod.mk.injEq] at H
    obtain ⟨rfl, rfl⟩ := H
    go_wp2
    go_ret2
    exact ⟨Zf, Zh⟩
   rw [if_pos c4] at H
   have c4b0 : decide (x16_1 < (a0.size : Int)) = true := decide_eq_true c4
   clear c4
   by_cases c5 : 0 ≤ x16_1
   rotate_left
   ·rw [if_neg c5] at H
    exact absurd H Zv
   rw [if_pos c5] at H
   have c5b0 : decide (0 ≤ x16_1) = true := decide_eq_true c5
   clear c5
   by_cases c6 : x16_1 < (a0.size : Int)
   rotate_left
   ·rw [if_neg c6] at H
    exact absurd H Zv
   rw [if_pos c6] at H
   have c6b0 : decide (x16_1 < (a0.size : Int)) = true := decide_eq_true c6
   clear c6
   replace H := Option.bind_eq_some_iff.mp H
   obtain ⟨t132, A80, H⟩ := H
   try dsimp -simprocs only at H
   have A8 := Ya.mk A80
   clear A80
   by_cases c9 : t132 = true
   rotate_left
   ·replace c9 := Bool.eq_false_iff.mpr c9
    subst c9
    rw [if_neg (show ¬ (false = true) by decide)] at H
    simp only [Option.some.injEq, Prod.mk.injEq] at H
    obtain ⟨rfl, rfl⟩ := H
    have p7 : 0 ≤ (x16_1 : Int) := of_decide_eq_true Zc
    have q7 : x16_1 < (a0.size : Int) := of_decide_eq_true Zc
    have hx7 := Yya a0 x16_1
    replace p7 := eq_true p7
    replace q7 := eq_true q7
    go_wp2_with (first | ((with_reducible refine Yh (f := 78) rfl ?_); refine Yz (some 22) rfl rfl Tryz.func78 Zi rfl #[.int .u8 (bt a0 x16_1)] rfl Zb ?_; (with_reducible refine (Yta.calls (bt a0 x16_1) false _ ?side1 A8.out).mono ?_); (case side1 => first | exact HE.out | exact EnvOk.heap HE.out rfl); rintro e w' ⟨rfl, ⟨nd, rfl⟩⟩; refine ⟨_, rfl, ?_⟩))
    go_ret2
    exact ⟨Zf, Zh⟩
   subst c9
   rw [if_pos rfl] at H
   by_cases c11 : x7_1 = true
   ·subst c11
    rw [if_pos rfl] at H
    have H' := Ya.mk H
    clear H
    have p7 : 0 ≤ (x16_1 : Int) := of_decide_eq_true Zc
    have q7 : x16_1 < (a0.size : Int) := of_decide_eq_true Zc
    have hx7 := Yya a0 x16_1
    replace p7 := eq_true p7
    replace q7 := eq_true q7
    go_wp2_with (first | ((with_reducible refine Yh (f := 78) rfl ?_); refine Yz (some 22) rfl rfl Tryz.func78 Zi rfl #[.int .u8 (bt a0 x16_1)] rfl Zb ?_; (with_reducible refine (Yta.calls (bt a0 x16_1) true _ ?side1 A8.out).mono ?_); (case side1 => first | exact HE.out | exact EnvOk.heap HE.out rfl); rintro e w' ⟨rfl, ⟨nd, rfl⟩⟩; refine ⟨_, rfl, ?_⟩; have p10 : 0 ≤ (x16_1 : Int) := of_decide_eq_true Zc; have q10 : x16_1 < (a0.size : Int) := of_decide_eq_true Zc; have hx10 := Yya a0 x16_1; replace p10 := eq_true p10; replace q10 := eq_true q10))
    go_roundg k1
    case measure => have := HK1.out; omega
    case rel => exact ⟨(x6_1), (true), (wrap64 (x16_1 + 1)), Zf, Zf, Zf, H', ⟨Zaa⟩, Zh⟩
   replace c11 := Bool.eq_false_iff.mpr c11
   subst c11
   rw [if_neg (show ¬ (false = true) by decide)] at H
   by_cases c12 : x6_1 > (wrap64 (Int.tdiv (wrap64 (a1 - (((bt a0 x16_1) - 48) % 256))) 10))
   ·rw [if_pos c12] at H
    have c12b0 : decide ((wrap64 (Int.tdiv (wrap64 (a1 - (((bt a0 x16_1) - 48) % 256))) 10)) < x6_1) = true := decide_eq_true c12
    clear c12
    have H' := Ya.mk H
    clear H
    have p7 : 0 ≤ (x16_1 : Int) := of_decide_eq_true Zc
    have q7 : x16_1 < (a0.size : Int) := of_decide_eq_true Zc
    have hx7 := Yya a0 x16_1
    replace p7 := eq_true p7
    replace q7 := eq_true q7
    go_wp2_with (first | ((with_reducible refine Yh (f := 78) rfl ?_); refine Yz (some 22) rfl rfl Tryz.func78 Zi rfl #[.int .u8 (bt a0 x16_1)] rfl Zb ?_; (with_reducible refine (Yta.calls (bt a0 x16_1) true _ ?side1 A8.out).mono ?_); (case side1 => first | exact HE.out | exact EnvOk.heap HE.out rfl); rintro e w' ⟨rfl, ⟨nd, rfl⟩⟩; refine ⟨_, rfl, ?_⟩; have p10 : 0 ≤ (x16_1 : Int) := of_decide_eq_true Zc; have q10 : x16_1 < (a0.size : Int) := of_decide_eq_true Zc; have hx10 := Yya a0 x16_1; replace p10 := eq_true p10; replace q10 := eq_true q10))
    go_roundg k1
    case measure => have := HK1.out; omega
    case rel => exact ⟨(x6_1), (true), (wrap64 (x16_1 + 1)), Zf, Zf, Zf, H', ⟨Zaa⟩, Zh⟩
   rw [if_neg c12] at H
   have c12b0 : decide ((wrap64 (Int.tdiv (wrap64 (a1 - (((bt a0 x16_1) - 48) % 256))) 10)) < x6_1) = false := decide_eq_false c12
   clear c12
   by_cases c13 : a1 < (((bt a0 x16_1) - 48) % 256)
   ·rw [if_pos c13] at H
    have c13b0 : decide (a1 < (((bt a0 x16_1) - 48) % 256)) = true := decide_eq_true c13
    clear c13
    have H' := Ya.mk H
    clear H
    have p7 : 0 ≤ (x16_1 : Int) := of_decide_eq_true Zc
    have q7 : x16_1 < (a0.size : Int) := of_decide_eq_true Zc
    have hx7 := Yya a0 x16_1
    replace p7 := eq_true p7
    replace q7 := eq_true q7
    go_wp2_with (first | ((with_reducible refine Yh (f := 78) rfl ?_); refine Yz (some 22) rfl rfl Tryz.func78 Zi rfl #[.int .u8 (bt a0 x16_1)] rfl Zb ?_; (with_reducible refine (Yta.calls (bt a0 x16_1) true _ ?side1 A8.out).mono ?_); (case side1 => first | exact HE.out | exact EnvOk.heap HE.out rfl); rintro e w' ⟨rfl, ⟨nd, rfl⟩⟩; refine ⟨_, rfl, ?_⟩; have p10 : 0 ≤ (x16_1 : Int) := of_decide_eq_true Zc; have q10 : x16_1 < (a0.size : Int) := of_decide_eq_true Zc; have hx10 := Yya a0 x16_1; replace p10 := eq_true p10; replace q10 := eq_true q10))
    go_roundg k1
    case measure => have := HK1.out; omega
    case rel => exact ⟨(x6_1), (true), (wrap64 (x16_1 + 1)), Zf, Zf, Zf, H', ⟨Zaa⟩, Zh⟩
   rw [if_neg c13] at H
   have c13b0 : decide (a1 < (((bt a0 x16_1) - 48) % 256)) = false := decide_eq_false c13
   clear c13
   have H' := Ya.mk H
   clear H
   have p7 : 0 ≤ (x16_1 : Int) := of_decide_eq_true Zc
   have q7 : x16_1 < (a0.size : Int) := of_decide_eq_true Zc
   have hx7 := Yya a0 x16_1
   replace p7 := eq_true p7
   replace q7 := eq_true q7
   go_wp2_with (first | ((with_reducible refine Yh (f := 78) rfl ?_); refine Yz (some 22) rfl rfl Tryz.func78 Zi rfl #[.int .u8 (bt a0 x16_1)] rfl Zb ?_; (with_reducible refine (Yta.calls (bt a0 x16_1) true _ ?side1 A8.out).mono ?_); (case side1 => first | exact HE.out | exact EnvOk.heap HE.out rfl); rintro e w' ⟨rfl, ⟨nd, rfl⟩⟩; refine ⟨_, rfl, ?_⟩; have p10 : 0 ≤ (x16_1 : Int) := of_decide_eq_true Zc; have q10 : x16_1 < (a0.size : Int) := of_decide_eq_true Zc; have hx10 := Yya a0 x16_1; replace p10 := eq_true p10; replace q10 := eq_true q10))
   go_roundg k1
   case measure => have := HK1.out; omega
   case rel => exact ⟨(wrap64 ((wrap64 (x6_1 * 10)) + (((bt a0 x16_1) - 48) % 256))), (false), (wrap64 (x16_1 + 1)), Zf, Zf, Zf, H', ⟨Zaa⟩, Zh⟩
def Ynb.l0 : Nat → ByteArray → Int → Int → Option (Bool)
 | 0, _, _, _ => none
 | k + 1, x0, x6, x7 => if x7 < x6 then (if 0 ≤ x7 then (if x7 < (x0.size : Int) then ((Yva.f (bt x0 x7)).bind fun t133 => (if t133 = true then (Ynb.l0 k x0 x6 (wrap64 (x7 + 1))) else ((Yta.f (bt x0 x7)).bind fun t134 => (if t134 = true then (Ynb.l0 k x0 x6 (wrap64 (x7 + 1))) else (if (bt x0 x7) = 45 then (Ynb.l0 k x0 x6 (wrap64 (x7 + 1))) else (if (bt x0 x7) = 95 then (Ynb.l0 k x0 x6 (wrap64 (x7 + 1))) else (some false))))))) else (none)) else (none)) else (if x0.toList = ([] : List UInt8) then (some false) else (some (decide ((x0.size : Int) ≤ 63))))
def Ynb.f (k : Nat) (a0 : ByteArray) : Option (Bool) := Ynb.l0 k a0 (a0.size : Int) 0
set_option maxHeartbeats 8000000 in
set_option maxRecDepth 100000 in
theorem Ynb.calls (k : Nat) (a0 : ByteArray) (r : Bool) (w : World) (hE : EnvOk w) (h : Ynb.f k a0 = some r) :
  Calls Tryz.prog 95 #[.string a0] w fun e w' => e = .returned (.bool r) ∧ Drawn0 w w' := by
 have HE := Ya.mk hE
 clear hE
 have H : (Ynb.l0 k a0 (a0.size : Int) 0) = some r := h
 clear h
 have H' := Ya.mk H
 clear H
 go_enter Tryz.func95, Tryz.ntmps95
 go_wp2
 go_loopg [7] k (fun kq v7 w' => ∃ (x7_1 : Int), v7 = .int .i64 x7_1 ∧ Ya (Ynb.l0 kq a0 (a0.size : Int) x7_1 = some r) ∧ Ya (kq ≤ k) ∧ Drawn0 w w')
 case atStart => exact ⟨(0), Zf, H', ⟨Nat.le_refl _⟩, Zh⟩
 case round =>
  clear H'
  obtain ⟨x7_1, rfl, HA, HK1, ⟨m1, rfl⟩⟩ := hrel
  cases gk with
  | zero => exact absurd HA.out (by simp [Ynb.l0])
  | succ k1 =>
   have H := HA.out
   clear HA
   simp only [Ynb.l0] at H
   by_cases c2 : x7_1 < (a0.size : Int)
   rotate_left
   ·rw [if_neg c2] at H
    have c2b0 : decide (x7_1 < (a0.size : Int)) = false := decide_eq_false c2
    clear c2
    by_cases c12 : a0.toList = ([] : List UInt8)
    rotate_left
    ·rw [if_neg c12] at H
     have c12b0 : (a0.toList == ([] : List UInt8)) = false := beq_eq_false_iff_ne.mpr c12
     have c12b1 : (a0.toList != ([] : List UInt8)) = true := bne_iff_ne.mpr c12
     obtain rfl := Option.some.inj H
     go_wp2
     go_ret
     exact ⟨Zf, Zh⟩
    rw [if_pos c12] at H
    have c12b0 : (a0.toList == ([] : List UInt8)) = true := beq_iff_eq.mpr c12
    have c12b1 : (a0.toList != ([] : List UInt8)) = false := bne_eq_false_iff_eq.mpr c12
    clear c12
    obtain rfl := Option.some.inj H
    go_wp2
    go_ret
    exact ⟨Zf, Zh⟩
   rw [if_pos c2] at H
   have c2b0 : decide (x7_1 < (a0.size : Int)) = true := decide_eq_true c2
   clear c2
   by_cases c3 : 0 ≤ x7_1
   rotate_left
   ·rw [if_neg c3] at H
    exact absurd H Zv
   rw [if_pos c3] at H
   have c3b0 : decide (0 ≤ x7_1) = true := decide_eq_true c3
   clear c3
   by_cases c4 : x7_1 < (a0.size : Int)
   rotate_left
   ·rw [if_neg c4] at H
    exact absurd H Zv
   rw [if_pos c4] at H
   have c4b0 : decide (x7_1 < (a0.size : Int)) = true := decide_eq_true c4
   clear c4
   replace H := Option.bind_eq_some_iff.mp H
   obtain ⟨t133, A60, H⟩ := H
   try dsimp -simprocs only at H
   have A6 := Ya.mk A60
   clear A60
   by_cases c7 : t133 = true
   ·subst c7
    rw [if_pos rfl] at H
    have H' := Ya.mk H
    clear H
    have p5 : 0 ≤ (x7_1 : Int) := of_decide_eq_true Zc
    have q5 : x7_1 < (a0.size : Int) := of_decide_eq_true Zc
    have hx5 := Yya a0 x7_1
    replace p5 := eq_true p5
    replace q5 := eq_true q5
    go_wp2_with (first | ((with_reducible refine Yh (f := 77) rfl ?_); refine Yz (some 14) rfl rfl Tryz.func77 Zi rfl #[.int .u8 (bt a0 x7_1)] rfl Zb ?_; (with_reducible refine (Yva.calls (bt a0 x7_1) true _ ?side1 A6.out).mono ?_); (case side1 => first | exact HE.out | exact EnvOk.heap HE.out rfl); rintro e w' ⟨rfl, ⟨nd, rfl⟩⟩; refine ⟨_, rfl, ?_⟩))
    go_roundg k1
    case measure => have := HK1.out; omega
    case rel => exact ⟨(wrap64 (x7_1 + 1)), Zf, H', ⟨Zaa⟩, Zh⟩
   replace c7 := Bool.eq_false_iff.mpr c7
   subst c7
   rw [if_neg (show ¬ (false = true) by decide)] at H
   replace H := Option.bind_eq_some_iff.mp H
   obtain ⟨t134, A80, H⟩ := H
   try dsimp -simprocs only at H
   have A8 := Ya.mk A80
   clear A80
   by_cases c9 : t134 = true
   ·subst c9
    rw [if_pos rfl] at H
    have H' := Ya.mk H
    clear H
    have p5 : 0 ≤ (x7_1 : Int) := of_decide_eq_true Zc
    have q5 : x7_1 < (a0.size : Int) := of_decide_eq_true Zc
    have hx5 := Yya a0 x7_1
    replace p5 := eq_true p5
    replace q5 := eq_true q5
    go_wp2_with (first | ((with_reducible refine Yh (f := 77) rfl ?_); refine Yz (some 14) rfl rfl Tryz.func77 Zi rfl #[.int .u8 (bt a0 x7_1)] rfl Zb ?_; (with_reducible refine (Yva.calls (bt a0 x7_1) false _ ?side1 A6.out).mono ?_); (case side1 => first | exact HE.out | exact EnvOk.heap HE.out rfl); rintro e w' ⟨rfl, ⟨nd, rfl⟩⟩; refine ⟨_, rfl, ?_⟩) | (go_at_call 78; (with_reducible refine (Yta.calls (bt a0 x7_1) true _ ?side1 A8.out).mono ?_); (case side1 => first | exact HE.out | exact EnvOk.heap HE.out rfl); rintro e w' ⟨rfl, ⟨nd, rfl⟩⟩))
    go_roundg k1
    case measure => have := HK1.out; omega
    case rel => exact ⟨(wrap64 (x7_1 + 1)), Zf, H', ⟨Zaa⟩, Zh⟩
   replace c9 := Bool.eq_false_iff.mpr c9
   subst c9
   rw [if_neg (show ¬ (false = true) by decide)] at H
   by_cases c10 : (bt a0 x7_1) = 45
   ·rw [if_pos c10] at H
    have c10b0 : ((bt a0 x7_1) == 45) = true := beq_iff_eq.mpr c10
    have c10b1 : ((bt a0 x7_1) != 45) = false := bne_eq_false_iff_eq.mpr c10
    clear c10
    have H' := Ya.mk H
    clear H
    have p5 : 0 ≤ (x7_1 : Int) := of_decide_eq_true Zc
    have q5 : x7_1 < (a0.size : Int) := of_decide_eq_true Zc
    have hx5 := Yya a0 x7_1
    replace p5 := eq_true p5
    replace q5 := eq_true q5
    go_wp2_with (first | ((with_reducible refine Yh (f := 77) rfl ?_); refine Yz (some 14) rfl rfl Tryz.func77 Zi rfl #[.int .u8 (bt a0 x7_1)] rfl Zb ?_; (with_reducible refine (Yva.calls (bt a0 x7_1) false _ ?side1 A6.out).mono ?_); (case side1 => first | exact HE.out | exact EnvOk.heap HE.out rfl); rintro e w' ⟨rfl, ⟨nd, rfl⟩⟩; refine ⟨_, rfl, ?_⟩) | (go_at_call 78; (with_reducible refine (Yta.calls (bt a0 x7_1) false _ ?side1 A8.out).mono ?_); (case side1 => first | exact HE.out | exact EnvOk.heap HE.out rfl); rintro e w' ⟨rfl, ⟨nd, rfl⟩⟩))
    go_roundg k1
    case measure => have := HK1.out; omega
    case rel => exact ⟨(wrap64 (x7_1 + 1)), Zf, H', ⟨Zaa⟩, Zh⟩
   rw [if_neg c10] at H
   have c10b0 : ((bt a0 x7_1) == 45) = false := beq_eq_false_iff_ne.mpr c10
   have c10b1 : ((bt a0 x7_1) != 45) = true := bne_iff_ne.mpr c10
   by_cases c11 : (bt a0 x7_1) = 95
   rotate_left
   ·rw [if_neg c11] at H
    have c11b0 : ((bt a0 x7_1) == 95) = false := beq_eq_false_iff_ne.mpr c11
    have c11b1 : ((bt a0 x7_1) != 95) = true := bne_iff_ne.mpr c11
    obtain rfl := Option.some.inj H
    have p5 : 0 ≤ (x7_1 : Int) := of_decide_eq_true Zc
    have q5 : x7_1 < (a0.size : Int) := of_decide_eq_true Zc
    have hx5 := Yya a0 x7_1
    replace p5 := eq_true p5
    replace q5 := eq_true q5
    go_wp2_with (first | ((with_reducible refine Yh (f := 77) rfl ?_); refine Yz (some 14) rfl rfl Tryz.func77 Zi rfl #[.int .u8 (bt a0 x7_1)] rfl Zb ?_; (with_reducible refine (Yva.calls (bt a0 x7_1) false _ ?side1 A6.out).mono ?_); (case side1 => first | exact HE.out | exact EnvOk.heap HE.out rfl); rintro e w' ⟨rfl, ⟨nd, rfl⟩⟩; refine ⟨_, rfl, ?_⟩) | (go_at_call 78; (with_reducible refine (Yta.calls (bt a0 x7_1) false _ ?side1 A8.out).mono ?_); (case side1 => first | exact HE.out | exact EnvOk.heap HE.out rfl); rintro e w' ⟨rfl, ⟨nd, rfl⟩⟩))
    go_ret
    exact ⟨Zf, Zh⟩
   rw [if_pos c11] at H
   have c11b0 : ((bt a0 x7_1) == 95) = true := beq_iff_eq.mpr c11
   have c11b1 : ((bt a0 x7_1) != 95) = false := bne_eq_false_iff_eq.mpr c11
   clear c11
   have H' := Ya.mk H
   clear H
   have p5 : 0 ≤ (x7_1 : Int) := of_decide_eq_true Zc
   have q5 : x7_1 < (a0.size : Int) := of_decide_eq_true Zc
   have hx5 := Yya a0 x7_1
   replace p5 := eq_true p5
   replace q5 := eq_true q5
   go_wp2_with (first | ((with_reducible refine Yh (f := 77) rfl ?_); refine Yz (some 14) rfl rfl Tryz.func77 Zi rfl #[.int .u8 (bt a0 x7_1)] rfl Zb ?_; (with_reducible refine (Yva.calls (bt a0 x7_1) false _ ?side1 A6.out).mono ?_); (case side1 => first | exact HE.out | exact EnvOk.heap HE.out rfl); rintro e w' ⟨rfl, ⟨nd, rfl⟩⟩; refine ⟨_, rfl, ?_⟩) | (go_at_call 78; (with_reducible refine (Yta.calls (bt a0 x7_1) false _ ?side1 A8.out).mono ?_); (case side1 => first | exact HE.out | exact EnvOk.heap HE.out rfl); rintro e w' ⟨rfl, ⟨nd, rfl⟩⟩))
   go_roundg k1
   case measure => have := HK1.out; omega
   case rel => exact ⟨(wrap64 (x7_1 + 1)), Zf, H', ⟨Zaa⟩, Zh⟩
def Yye.f (k : Nat) (a0 : ByteArray) : Option (Bool) := (Yha.f k a0 255).bind fun bt135 => (if bt135.2 = 0 then ((Yie.f k bt135.1).bind fun t137 => (some (t137.toList == a0.toList))) else (some false))
set_option maxHeartbeats 8000000 in
set_option maxRecDepth 100000 in
theorem Yye.calls (k : Nat) (a0 : ByteArray) (r : Bool) (w : World) (hE : EnvOk w) (h : Yye.f k a0 = some r) :
  Calls Tryz.prog 96 #[.string a0] w fun e w' => e = .returned (.bool r) ∧ Below w.heap.size w w' := by
 have HE := Ya.mk hE
 clear hE
 have HB := Ya.mk (Below.refl w.heap.size w)
 have H : ((Yha.f k a0 255).bind fun bt135 => (if bt135.2 = 0 then ((Yie.f k bt135.1).bind fun t137 => (some (t137.toList == a0.toList))) else (some false))) = some r := h
 clear h
 replace H := Option.bind_eq_some_iff.mp H
 obtain ⟨⟨t135, t136⟩, A20, H⟩ := H
 try dsimp -simprocs only at H
 have A2 := Ya.mk A20
 clear A20
 by_cases c3 : t136 = 0
 rotate_left
 ·rw [if_neg c3] at H
  have c3b0 : (t136 == 0) = false := beq_eq_false_iff_ne.mpr c3
  have c3b1 : (t136 != 0) = true := bne_iff_ne.mpr c3
  obtain rfl := Option.some.inj H
  go_enter Tryz.func96, Tryz.ntmps96
  go_wp2_with (first | ((with_reducible refine Yh (f := 83) rfl ?_); refine Yz (some 7) rfl rfl Tryz.func83 Zi rfl #[.string a0, .int .i64 255] rfl Zb ?_; (with_reducible refine (Yha.calls k a0 255 t135 t136 _ ?side1 A2.out).mono ?_); (case side1 => first | exact HE.out | exact EnvOk.below HE.out Za); rintro e w' ⟨rfl, ⟨nd, rfl⟩⟩; refine ⟨_, rfl, ?_⟩))
  go_ret
  exact ⟨Zk, Za⟩
 rw [if_pos c3] at H
 have c3b0 : (t136 == 0) = true := beq_iff_eq.mpr c3
 have c3b1 : (t136 != 0) = false := bne_eq_false_iff_eq.mpr c3
 clear c3
 replace H := Option.bind_eq_some_iff.mp H
 obtain ⟨t137, A40, H⟩ := H
 try dsimp -simprocs only at H
 have A4 := Ya.mk A40
 clear A40
 obtain rfl := Option.some.inj H
 go_enter Tryz.func96, Tryz.ntmps96
 go_wp2_with (first | ((with_reducible refine Yh (f := 83) rfl ?_); refine Yz (some 7) rfl rfl Tryz.func83 Zi rfl #[.string a0, .int .i64 255] rfl Zb ?_; (with_reducible refine (Yha.calls k a0 255 t135 t136 _ ?side1 A2.out).mono ?_); (case side1 => first | exact HE.out | exact EnvOk.below HE.out Za); rintro e w' ⟨rfl, ⟨nd, rfl⟩⟩; refine ⟨_, rfl, ?_⟩) | (go_at_call 68; (with_reducible refine (Yie.calls k t135 t137 _ ?side1 A4.out).mono ?_); (case side1 => first | exact HE.out | exact EnvOk.below HE.out Za); rintro e w5 ⟨rfl, hb⟩; have n0_ := Ya.mk (Yq Za hb); clear HB; have HB := n0_; clear n0_; (try clear hb); (try clear hb2); (try clear hk); (try clear hi)))
 go_ret
 exact ⟨Zk, Za⟩
def Ymb.l0 : Nat → ByteArray → List ByteArray → Bool → List ByteArray → Int → Int → Option (Bool)
 | 0, _, _, _, _, _, _ => none
 | k + 1, x0, x3, x4, x14, x15, x16 => if x16 < x15 then (if 0 ≤ x16 then (if x16 < (x14.length : Int) then ((Ynb.f k (rdOf ByteArray.empty x14 x16)).bind fun t145 => (if t145 = true then (if x4 = true then ((Yye.f k (rdOf ByteArray.empty x14 x16)).bind fun t146 => (Ymb.l0 k x0 x3 t146 x14 x15 (wrap64 (x16 + 1)))) else (Ymb.l0 k x0 x3 false x14 x15 (wrap64 (x16 + 1)))) else (some false))) else (none)) else (none)) else (if 0 ≤ (wrap64 ((x3.length : Int) - 1)) then (if (wrap64 ((x3.length : Int) - 1)) < (x3.length : Int) then ((Yha.f k (rdOf ByteArray.empty x3 (wrap64 ((x3.length : Int) - 1))) 0).bind fun bt142 => (if (x0.size : Int) ≤ 253 then (if bt142.2 = 3 then (some true) else (some x4)) else (some false))) else (none)) else (none))
def Ymb.f (k : Nat) (a0 : ByteArray) : Option (Bool) := (Yjb.f k a0 46).bind fun t138 => (Ymb.l0 k a0 t138 ((t138.length : Int) == 4) t138 (t138.length : Int) 0)
set_option maxHeartbeats 8000000 in
set_option maxRecDepth 100000 in
theorem Ymb.calls (k : Nat) (a0 : ByteArray) (r : Bool) (w : World) (hE : EnvOk w) (h : Ymb.f k a0 = some r) :
  Calls Tryz.prog 54 #[.string a0] w fun e w' => e = .returned (.bool r) ∧ Below w.heap.size w w' := by
 have HE := Ya.mk hE
 clear hE
 have HB := Ya.mk (Below.refl w.heap.size w)
 have H : ((Yjb.f k a0 46).bind fun t138 => (Ymb.l0 k a0 t138 ((t138.length : Int) == 4) t138 (t138.length : Int) 0)) = some r := h
 clear h
 replace H := Option.bind_eq_some_iff.mp H
 obtain ⟨t138, A20, H⟩ := H
 try dsimp -simprocs only at H
 have A2 := Ya.mk A20
 clear A20
 have H' := Ya.mk H
 clear H
 go_enter Tryz.func54, Tryz.ntmps54
 go_wp2_with (first | ((with_reducible refine Yh (f := 60) rfl ?_); refine Yz (some 10) rfl rfl Tryz.func60 Zi rfl #[.string a0, .int .u8 46] rfl Zb ?_; (with_reducible refine (Yjb.calls k a0 46 t138 _ ?side1 A2.out).mono ?_); (case side1 => first | exact HE.out | exact EnvOk.below HE.out Za); rintro e w3 ⟨v139, rfl, ho0, hb⟩; refine ⟨_, rfl, ?_⟩; have n0_ := Ya.mk (Kd.R_lower ho0 (Yea Za)); have n1_ := Ya.mk (Yq Za hb); clear HB; have HO140 := n0_; have HB := n1_; clear n0_ n1_; (try clear hb); (try clear hb2); (try clear hk); (try clear hi); (try clear ho0); obtain ⟨Ao4, co4, eo4⟩ := Kd.R_slice HO140.out; subst eo4))
 go_loopg [4, 16] k (fun kq v4 v16 w' => ∃ (x4_1 : Bool) (x16_1 : Int), v4 = .bool x4_1 ∧ v16 = .int .i64 x16_1 ∧ Ya (Ymb.l0 kq a0 t138 x4_1 t138 (t138.length : Int) x16_1 = some r) ∧ Ya (kq ≤ k) ∧ Ya (Kd.R Kd.string 9 w' w.heap.size (fun _ => True) (.slice Ao4 t138.length co4) t138) ∧ Ya (Kd.R Kd.string 9 w' w.heap.size (fun _ => True) (.slice Ao4 t138.length co4) t138) ∧ Ya (Below w.heap.size w w'))
 case atStart => exact ⟨(((t138.length : Int) == 4)), (0), Zf, Zf, H', ⟨Nat.le_refl _⟩, ⟨by (with_reducible repeat (first | apply Kd.R_alloc | apply Kd.R_drewN | apply Kd.R_drew)); exact HO140.out⟩, ⟨by (with_reducible repeat (first | apply Kd.R_alloc | apply Kd.R_drewN | apply Kd.R_drew)); exact HO140.out⟩, ⟨Za⟩⟩
 case round =>
  clear H'
  try clear p2
  obtain ⟨x4_1, x16_1, rfl, rfl, HA, HK1, HO_3, HO_14, HB⟩ := hrel
  cases gk with
  | zero => exact absurd HA.out (by simp [Ymb.l0])
  | succ k1 =>
   have H := HA.out
   clear HA
   simp only [Ymb.l0] at H
   by_cases c5 : x16_1 < (t138.length : Int)
   rotate_left
   ·rw [if_neg c5] at H
    have c5b0 : decide (x16_1 < (t138.length : Int)) = false := decide_eq_false c5
    clear c5
    obtain ⟨ji13, hji13⟩ : ∃ j_ : Int, (wrap64 ((t138.length : Int) - 1)) = j_ := ⟨_, rfl⟩
    replace H : (if 0 ≤ (ji13) then (if (ji13) < (t138.length : Int) then ((Yha.f k1 (rdOf ByteArray.empty t138 (ji13)) 0).bind fun bt142 => (if (a0.size : Int) ≤ 253 then (if bt142.2 = 3 then (some true) else (some x4_1)) else (some false))) else (none)) else (none)) = some r := by first | (rw [hji13] at H; exact H) | (simp only [hji13] at H ⊢; exact H)
    have hji13w : (IntKind.i64.wrap ((t138.length : Int) - 1)) = ji13 := (Yqa _).trans hji13
    by_cases c14 : 0 ≤ (ji13)
    rotate_left
    ·rw [if_neg c14] at H
     exact absurd H Zv
    rw [if_pos c14] at H
    have c14b0 : decide (0 ≤ (ji13)) = true := decide_eq_true c14
    clear c14
    by_cases c15 : (ji13) < (t138.length : Int)
    rotate_left
    ·rw [if_neg c15] at H
     exact absurd H Zv
    rw [if_pos c15] at H
    have c15b0 : decide ((ji13) < (t138.length : Int)) = true := decide_eq_true c15
    clear c15
    replace H := Option.bind_eq_some_iff.mp H
    obtain ⟨⟨t142, t143⟩, A160, H⟩ := H
    try dsimp -simprocs only at H
    have A16 := Ya.mk A160
    clear A160
    by_cases c17 : (a0.size : Int) ≤ 253
    rotate_left
    ·rw [if_neg c17] at H
     have c17b0 : decide ((a0.size : Int) ≤ 253) = false := decide_eq_false c17
     have c17b1 : decide (a0.size ≤ 253) = false := decide_eq_false Zl
     clear c17
     obtain rfl := Option.some.inj H
     have p141 : 0 ≤ ((ji13) : Int) := of_decide_eq_true Zc
     have q141 : (ji13) < (t138.length : Int) := of_decide_eq_true Zc
     obtain ⟨ad141, e141, hx141_0⟩ := Kd.at_string (Kd.R_reads' HO_3.out).2.2 (ji13) p141 q141
     cases e141
     replace p141 := eq_true p141
     replace q141 := eq_true q141
     go_wp2_with (first | ((with_reducible refine Yh (f := 83) rfl ?_); refine Yz (some 36) rfl rfl Tryz.func83 Zi rfl #[.string (rdOf ByteArray.empty t138 (ji13)), .int .i64 0] rfl Zma ?_; (with_reducible refine (Yha.calls k1 (rdOf ByteArray.empty t138 (ji13)) 0 t142 t143 _ ?side1 A16.out).mono ?_); (case side1 => first | exact HE.out | exact EnvOk.below HE.out Za); rintro e w' ⟨rfl, ⟨nd, rfl⟩⟩; refine ⟨_, rfl, ?_⟩))
     go_ret
     exact ⟨Zta, Za⟩
    rw [if_pos c17] at H
    have c17b0 : decide ((a0.size : Int) ≤ 253) = true := decide_eq_true c17
    have c17b1 : decide (a0.size ≤ 253) = true := decide_eq_true Zl
    clear c17
    by_cases c18 : t143 = 3
    rotate_left
    ·rw [if_neg c18] at H
     have c18b0 : (t143 == 3) = false := beq_eq_false_iff_ne.mpr c18
     have c18b1 : (t143 != 3) = true := bne_iff_ne.mpr c18
     obtain rfl := Option.some.inj H
     have p141 : 0 ≤ ((ji13) : Int) := of_decide_eq_true Zc
     have q141 : (ji13) < (t138.length : Int) := of_decide_eq_true Zc
     obtain ⟨ad141, e141, hx141_0⟩ := Kd.at_string (Kd.R_reads' HO_3.out).2.2 (ji13) p141 q141
     cases e141
     replace p141 := eq_true p141
     replace q141 := eq_true q141
     go_wp2_with (first | ((with_reducible refine Yh (f := 83) rfl ?_); refine Yz (some 36) rfl rfl Tryz.func83 Zi rfl #[.string (rdOf ByteArray.empty t138 (ji13)), .int .i64 0] rfl Zma ?_; (with_reducible refine (Yha.calls k1 (rdOf ByteArray.empty t138 (ji13)) 0 t142 t143 _ ?side1 A16.out).mono ?_); (case side1 => first | exact HE.out | exact EnvOk.below HE.out Za); rintro e w' ⟨rfl, ⟨nd, rfl⟩⟩; refine ⟨_, rfl, ?_⟩))
     go_ret
     exact ⟨Zta, Za⟩
    rw [if_pos c18] at H
    have c18b0 : (t143 == 3) = true := beq_iff_eq.mpr c18
    have c18b1 : (t143 != 3) = false := bne_eq_false_iff_eq.mpr c18
    clear c18
    obtain rfl := Option.some.inj H
    have p141 : 0 ≤ ((ji13) : Int) := of_decide_eq_true Zc
    have q141 : (ji13) < (t138.length : Int) := of_decide_eq_true Zc
    obtain ⟨ad141, e141, hx141_0⟩ := Kd.at_string (Kd.R_reads' HO_3.out).2.2 (ji13) p141 q141
    cases e141
    replace p141 := eq_true p141
    replace q141 := eq_true q141
    go_wp2_with (first | ((with_reducible refine Yh (f := 83) rfl ?_); refine Yz (some 36) rfl rfl Tryz.func83 Zi rfl #[.string (rdOf ByteArray.empty t138 (ji13)), .int .i64 0] rfl Zma ?_; (with_reducible refine (Yha.calls k1 (rdOf ByteArray.empty t138 (ji13)) 0 t142 t143 _ ?side1 A16.out).mono ?_); (case side1 => first | exact HE.out | exact EnvOk.below HE.out Za); rintro e w' ⟨rfl, ⟨nd, rfl⟩⟩; refine ⟨_, rfl, ?_⟩))
    go_ret
    exact ⟨Zta, Za⟩
   rw [if_pos c5] at H
   have c5b0 : decide (x16_1 < (t138.length : Int)) = true := decide_eq_true c5
   clear c5
   by_cases c6 : 0 ≤ x16_1
   rotate_left
   ·rw [if_neg c6] at H
    exact absurd H Zv
   rw [if_pos c6] at H
   have c6b0 : decide (0 ≤ x16_1) = true := decide_eq_true c6
   clear c6
   by_cases c7 : x16_1 < (t138.length : Int)
   rotate_left
   ·rw [if_neg c7] at H
    exact absurd H Zv
   rw [if_pos c7] at H
   have c7b0 : decide (x16_1 < (t138.length : Int)) = true := decide_eq_true c7
   clear c7
   replace H := Option.bind_eq_some_iff.mp H
   obtain ⟨t145, A80, H⟩ := H
   try dsimp -simprocs only at H
   have A8 := Ya.mk A80
   clear A80
   by_cases c9 : t145 = true
   rotate_left
   ·replace c9 := Bool.eq_false_iff.mpr c9
    subst c9
    rw [if_neg (show ¬ (false = true) by decide)] at H
    obtain rfl := Option.some.inj H
    have p144 : 0 ≤ (x16_1 : Int) := of_decide_eq_true Zc
    have q144 : x16_1 < (t138.length : Int) := of_decide_eq_true Zc
    obtain ⟨ad144, e144, hx144_0⟩ := Kd.at_string (Kd.R_reads' HO_14.out).2.2 x16_1 p144 q144
    cases e144
    replace p144 := eq_true p144
    replace q144 := eq_true q144
    go_wp2_with (first | ((with_reducible refine Yh (f := 95) rfl ?_); refine Yz (some 21) rfl rfl Tryz.func95 Zi rfl #[.string (rdOf ByteArray.empty t138 x16_1)] rfl Zb ?_; (with_reducible refine (Ynb.calls k1 (rdOf ByteArray.empty t138 x16_1) false _ ?side1 A8.out).mono ?_); (case side1 => first | exact HE.out | exact EnvOk.below HE.out Za); rintro e w' ⟨rfl, ⟨nd, rfl⟩⟩; refine ⟨_, rfl, ?_⟩))
    go_ret
    exact ⟨Zk, Za⟩
   subst c9
   rw [if_pos rfl] at H
   by_cases c10 : x4_1 = true
   rotate_left
   ·replace c10 := Bool.eq_false_iff.mpr c10
    subst c10
    rw [if_neg (show ¬ (false = true) by decide)] at H
    have H' := Ya.mk H
    clear H
    have p144 : 0 ≤ (x16_1 : Int) := of_decide_eq_true Zc
    have q144 : x16_1 < (t138.length : Int) := of_decide_eq_true Zc
    obtain ⟨ad144, e144, hx144_0⟩ := Kd.at_string (Kd.R_reads' HO_14.out).2.2 x16_1 p144 q144
    cases e144
    replace p144 := eq_true p144
    replace q144 := eq_true q144
    go_wp2_with (first | ((with_reducible refine Yh (f := 95) rfl ?_); refine Yz (some 21) rfl rfl Tryz.func95 Zi rfl #[.string (rdOf ByteArray.empty t138 x16_1)] rfl Zb ?_; (with_reducible refine (Ynb.calls k1 (rdOf ByteArray.empty t138 x16_1) true _ ?side1 A8.out).mono ?_); (case side1 => first | exact HE.out | exact EnvOk.below HE.out Za); rintro e w' ⟨rfl, ⟨nd, rfl⟩⟩; refine ⟨_, rfl, ?_⟩))
    go_roundg k1
    case measure => have := HK1.out; omega
    case rel => exact ⟨(false), (wrap64 (x16_1 + 1)), Zf, Zf, H', ⟨Zaa⟩, ⟨Zm⟩, ⟨Zbb⟩, ⟨Za⟩⟩
   subst c10
   rw [if_pos rfl] at H
   replace H := Option.bind_eq_some_iff.mp H
   obtain ⟨t146, A110, H⟩ := H
   try dsimp -simprocs only at H
   have A11 := Ya.mk A110
   clear A110
   have H' := Ya.mk H
   clear H
   have p144 : 0 ≤ (x16_1 : Int) := of_decide_eq_true Zc
   have q144 : x16_1 < (t138.length : Int) := of_decide_eq_true Zc
   obtain ⟨ad144, e144, hx144_0⟩ := Kd.at_string (Kd.R_reads' HO_14.out).2.2 x16_1 p144 q144
   cases e144
   replace p144 := eq_true p144
   replace q144 := eq_true q144
   go_wp2_with (first | ((with_reducible refine Yh (f := 95) rfl ?_); refine Yz (some 21) rfl rfl Tryz.func95 Zi rfl #[.string (rdOf ByteArray.empty t138 x16_1)] rfl Zb ?_; (with_reducible refine (Ynb.calls k1 (rdOf ByteArray.empty t138 x16_1) true _ ?side1 A8.out).mono ?_); (case side1 => first | exact HE.out | exact EnvOk.below HE.out Za); rintro e w' ⟨rfl, ⟨nd, rfl⟩⟩; refine ⟨_, rfl, ?_⟩) | (go_at_call 96; (with_reducible refine (Yye.calls k1 (rdOf ByteArray.empty t138 x16_1) t146 _ ?side1 A11.out).mono ?_); (case side1 => first | exact HE.out | exact EnvOk.below HE.out Za); rintro e w12 ⟨rfl, hb⟩; have n0_ := Ya.mk (Kd.R_below Zm hb); have n1_ := Ya.mk (Kd.R_below Zbb hb); have n2_ := Ya.mk (Yq Za hb); clear HO_3; clear HO_14; clear HB; have HO_3 := n0_; have HO_14 := n1_; have HB := n2_; clear n0_ n1_ n2_; (try clear hb); (try clear hb2); (try clear hk); (try clear hi)))
   go_roundg k1
   case measure => have := HK1.out; omega
   case rel => exact ⟨(t146), (wrap64 (x16_1 + 1)), Zf, Zf, H', ⟨Zaa⟩, ⟨Zm⟩, ⟨Zbb⟩, ⟨Za⟩⟩
def Yag.f (a0 : ByteArray) : Option (Int) := if a0.toList = ([104, 116, 116, 112] : List UInt8) then (some 80) else (some 443)
set_option maxHeartbeats 8000000 in
set_option maxRecDepth 100000 in
theorem Yag.calls (a0 : ByteArray) (r : Int) (w : World) (hE : EnvOk w) (h : Yag.f a0 = some r) :
  Calls Tryz.prog 84 #[.string a0] w fun e w' => e = .returned (.int .i64 r) ∧ Drawn0 w w' := by
 have HE := Ya.mk hE
 clear hE
 have H : (if a0.toList = ([104, 116, 116, 112] : List UInt8) then (some 80) else (some 443)) = some r := h
 clear h
 by_cases c2 : a0.toList = ([104, 116, 116, 112] : List UInt8)
 rotate_left
 ·rw [if_neg c2] at H
  have c2b0 : (a0.toList == ([104, 116, 116, 112] : List UInt8)) = false := beq_eq_false_iff_ne.mpr c2
  have c2b1 : (a0.toList != ([104, 116, 116, 112] : List UInt8)) = true := bne_iff_ne.mpr c2
  obtain rfl := Option.some.inj H
  go_enter Tryz.func84, Tryz.ntmps84
  go_wp2
  go_ret
  exact ⟨Zf, Zh⟩
 rw [if_pos c2] at H
 have c2b0 : (a0.toList == ([104, 116, 116, 112] : List UInt8)) = true := beq_iff_eq.mpr c2
 have c2b1 : (a0.toList != ([104, 116, 116, 112] : List UInt8)) = false := bne_eq_false_iff_eq.mpr c2
 clear c2
 obtain rfl := Option.some.inj H
 go_enter Tryz.func84, Tryz.ntmps84
 go_wp2
 go_ret
 exact ⟨Zf, Zh⟩
end Go.Proofs.YtnmglnglbdpjjaaGreatDoor.X
