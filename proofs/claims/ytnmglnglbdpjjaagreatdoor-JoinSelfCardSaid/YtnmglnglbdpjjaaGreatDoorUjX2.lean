/- Printed by a program of ours: functions as plain Lean, and what a call of each does. -/
import Derived.Test.YtnmglnglbdpjjaaGreatDoorUjWords
import Derived.Test.YtnmglnglbdpjjaaGreatDoorUjX0
namespace Go.Proofs.YtnmglnglbdpjjaaGreatDoor.X
open Go.RowKit Go.Yw.PrintWords Go.Yw.PrintLast Go.Yw.PrintMore
attribute [local go_sem] Yvd Yyd Yke Yme Yld Ykd Yud Ywd
set_option linter.unusedVariables false
set_option linter.unusedSimpArgs false
def Yo.l0 : Nat → List Int → Int → Int → Option (List Int)
 | 0, _, _, _ => none
 | k + 1, x0, x2, x3 => if x2 < x3 then (if 0 ≤ x3 then (if x3 < (x0.length : Int) then (if 0 ≤ x2 then (if x2 < (x0.length : Int) then (Yo.l0 k ((x0.set (x2 : Int).toNat (rd x0 x3)).set (x3 : Int).toNat (rd x0 x2)) (wrap64 (x2 + 1)) (wrap64 (x3 - 1))) else (none)) else (none)) else (none)) else (none)) else (some x0)
def Yo.f (k : Nat) (l0 : List Int) : Option (List Int) := Yo.l0 k l0 0 (wrap64 ((l0.length : Int) - 1))
theorem Yo.mono_l : ∀ k, (∀ y0 y1 y2, LeO (Yo.l0 k y0 y1 y2) (Yo.l0 (k + 1) y0 y1 y2))
 | 0 => fun _ _ _ r h => by simp [Yo.l0] at h
 | k + 1 => by
  have ih0 := Yo.mono_l k
  ·intro y0 y1 y2
   unfold Yo.l0
   repeat' first
   | (with_reducible exact ih0 _ _ _)
   | (with_reducible exact LeO.refl _)
   | (with_reducible exact LeO.none _)
   | (with_reducible refine LeO.ite ?_ ?_)
   | (with_reducible refine LeO.bind ?_ (fun _ => ?_))
   | exact ih0 _ _ _
   | exact LeO.none _
   | refine LeO.ite ?_ ?_
   | refine LeO.bind ?_ (fun _ => ?_)
theorem Yo.mono : ∀ a0 k, LeO (Yo.f k a0) (Yo.f (k + 1) a0) := by
 intro a0 k
 have ih0 := Yo.mono_l k
 unfold Yo.f
 repeat' first
   | (with_reducible exact ih0 _ _ _)
   | (with_reducible exact LeO.refl _)
   | (with_reducible exact LeO.none _)
   | (with_reducible refine LeO.ite ?_ ?_)
   | (with_reducible refine LeO.bind ?_ (fun _ => ?_))
   | exact ih0 _ _ _
   | exact LeO.none _
   | refine LeO.ite ?_ ?_
   | refine LeO.bind ?_ (fun _ => ?_)
def Yo.T3 : Bool × List (List Nat × List Nat) := (true, [([], []), ([], []), ([], []), ([], []), ([], []), ([], []), ([4, 5], [4, 5]), ([6], [6]), ([], []), ([], []), ([8, 9], [8, 9]), ([10], [10]), ([0, 1, 0, 1, 4, 5, 6, 7, 11], [0, 1]), ([12, 7, 0, 1, 4, 5, 6, 7, 11], [7, 12]), ([2, 3, 0, 1, 2, 3, 4, 5, 6, 7, 8, 9, 10, 11, 12, 13], [2, 3]), ([14, 11, 13, 0, 1, 2, 3, 4, 5, 6, 7, 8, 9, 10, 11, 12, 13], [11, 14])])
def Yo.B3 : List Nat := [0, 0, 0, 0, 0, 0, 48, 112, 0, 0, 768, 1792, 4083, 8179, 16383, 32767]
theorem Yo.tab3 : rtab .any (opsOf Tryz.f132 3) = Yo.T3 := by kernel_rfl
theorem Yo.bits3 : Yih Yo.T3.2 Yo.B3 = true := by kernel_rfl
set_option maxHeartbeats 8000000 in
set_option maxRecDepth 100000 in
theorem Yo.calls (k : Nat) (P0_ : Nat → Prop) (u9000_ : Value) (l0 : List Int) (r : List Int) (w0 w : World) (hE : EnvOk w0) (hB : Below w0.heap.size w0 w) (ho0 : Kd.R (Kd.int .u8) 5 w w0.heap.size P0_ u9000_ l0) (h : Yo.f k l0 = some r) :
  Calls Tryz.prog 132 #[u9000_] w fun e w' => e = .returned (.tuple #[]) ∧ Kd.R (Kd.int .u8) 5 w' w0.heap.size (fun k_ => (P0_ k_ ∨ w.heap.size ≤ k_)) u9000_ r ∧ Below w0.heap.size w0 w' ∧ Kept w w' (fun k_ => P0_ k_) := by
 have HO0 := Ya.mk (show Kd.R (Kd.int .u8) 5 w w0.heap.size (fun k_ => (P0_ k_ ∨ w.heap.size ≤ k_)) u9000_ l0 from Kd.R_mono ho0 (fun k_ hk => (.inl hk)))
 have HK := Ya.mk (Kept.refl w (fun k_ => P0_ k_))
 have HE := Ya.mk hE
 clear hE
 have HW0 := Ya.mk hB.size
 have HB := Ya.mk hB
 clear hB
 have H : (Yo.l0 k l0 0 (wrap64 ((l0.length : Int) - 1))) = some r := h
 clear h
 have H' := Ya.mk H
 clear H
 obtain ⟨Ao2, co2, eo2⟩ := Kd.R_slice HO0.out
 subst eo2
 go_enter Tryz.func132, Tryz.ntmps132
 go_wp2
 go_loopg [2, 3] k (fun kq v2 v3 w' => ∃ (x0_1 : List Int) (x2_1 : Int) (x3_1 : Int), v2 = .int .i64 x2_1 ∧ v3 = .int .i64 x3_1 ∧ Ya (Yo.l0 kq x0_1 x2_1 x3_1 = some r) ∧ Ya (kq ≤ k) ∧ Ya (Kd.R (Kd.int .u8) 5 w' w0.heap.size (fun k_ => (P0_ k_ ∨ w.heap.size ≤ k_)) (.slice Ao2 l0.length co2) x0_1) ∧ Ya (Kept w w' (fun k_ => P0_ k_)) ∧ Ya (Below w0.heap.size w0 w'))
 case atStart => exact ⟨(l0), (0), (wrap64 ((l0.length : Int) - 1)), Zf, Zf, H', ⟨Nat.le_refl _⟩, ⟨by (with_reducible repeat (first | apply Kd.R_alloc | apply Kd.R_drewN | apply Kd.R_drew)); exact HO0.out⟩, ⟨by repeat (first | (with_reducible first | exact HK.out | apply Kept.alloc | apply Kept.drewN | apply Kept.drew) | exact HK.out)⟩, ⟨Za⟩⟩
 case round =>
  clear H'
  try clear c1
  try clear p2
  obtain ⟨x0_1, x2_1, x3_1, rfl, rfl, HA, HK1, HO_0, HK, HB⟩ := hrel
  have hl0_1 := (Kd.R_reads' HO_0.out).1
  rw [hl0_1] at HO_0
  (try simp only [hl0_1])
  cases gk with
  | zero => exact absurd HA.out (by simp [Yo.l0])
  | succ k1 =>
   have H := HA.out
   clear HA
   simp only [Yo.l0] at H
   by_cases c3 : x2_1 < x3_1
   rotate_left
   ·rw [if_neg c3] at H
    have c3b0 : decide (x2_1 < x3_1) = false := decide_eq_false c3
    clear c3
    obtain rfl := Option.some.inj H
    go_wp2
    first | go_end0 | ((try simp only [Exit.inBlock, Exit.then]); refine bodyPost_ret (results_none rfl _ _ _) rfl ?_)
    exact ⟨Zk, (by first | exact (by (with_reducible repeat (first | apply Kd.R_alloc | apply Kd.R_drewN | apply Kd.R_drew)); exact HO_0.out) | (simp only [hl0_1]; exact (by (with_reducible repeat (first | apply Kd.R_alloc | apply Kd.R_drewN | apply Kd.R_drew)); exact HO_0.out))), Za, by repeat (first | (with_reducible first | exact HK.out | apply Kept.alloc | apply Kept.drewN | apply Kept.drew) | exact HK.out)⟩
   rw [if_pos c3] at H
   have c3b0 : decide (x2_1 < x3_1) = true := decide_eq_true c3
   clear c3
   by_cases c4 : 0 ≤ x3_1
   rotate_left
   ·rw [if_neg c4] at H
    exact absurd H Zv
   rw [if_pos c4] at H
   have c4b0 : decide (0 ≤ x3_1) = true := decide_eq_true c4
   clear c4
   by_cases c5 : x3_1 < (x0_1.length : Int)
   rotate_left
   ·rw [if_neg c5] at H
    exact absurd H Zv
   rw [if_pos c5] at H
   have c5b0 : decide (x3_1 < (x0_1.length : Int)) = true := decide_eq_true c5
   clear c5
   by_cases c6 : 0 ≤ x2_1
   rotate_left
   ·rw [if_neg c6] at H
    exact absurd H Zv
   rw [if_pos c6] at H
   have c6b0 : decide (0 ≤ x2_1) = true := decide_eq_true c6
   clear c6
   by_cases c7 : x2_1 < (x0_1.length : Int)
   rotate_left
   ·rw [if_neg c7] at H
    exact absurd H Zv
   rw [if_pos c7] at H
   have c7b0 : decide (x2_1 < (x0_1.length : Int)) = true := decide_eq_true c7
   clear c7
   obtain ⟨y103, hy103⟩ : ∃ y_ : List Int, y_ = (x0_1.set (x2_1 : Int).toNat (rd x0_1 x3_1)) := ⟨_, rfl⟩
   replace H : (Yo.l0 k1 (y103.set (x3_1 : Int).toNat (rd x0_1 x2_1)) (wrap64 (x2_1 + 1)) (wrap64 (x3_1 - 1))) = some r := by first | (rw [hy103]; with_reducible exact H) | (have H2_ := (Option.bind_some _ _).symm.trans H; rw [hy103]; with_reducible exact H2_) | (have H2_ := (Option.bind_some _ _).symm.trans H; with_reducible exact H2_) | with_reducible exact H | (rw [hy103]; exact H) | exact H
   have Ny103 := Ya.mk hy103
   clear hy103
   obtain ⟨y104, hy104⟩ : ∃ y_ : List Int, y_ = (y103.set (x3_1 : Int).toNat (rd x0_1 x2_1)) := ⟨_, rfl⟩
   replace H : (Yo.l0 k1 y104 (wrap64 (x2_1 + 1)) (wrap64 (x3_1 - 1))) = some r := by first | (rw [hy104]; with_reducible exact H) | (have H2_ := (Option.bind_some _ _).symm.trans H; rw [hy104]; with_reducible exact H2_) | (have H2_ := (Option.bind_some _ _).symm.trans H; with_reducible exact H2_) | with_reducible exact H | (rw [hy104]; exact H) | exact H
   have Ny104 := Ya.mk hy104
   clear hy104
   have H' := Ya.mk H
   clear H
   try go_wp2
   have n0_ := Ya.mk (Kd.R_drew HO_0.out)
   have n1_ := Ya.mk (Kept.drew HK.out)
   have n2_ := Ya.mk (Yc HB.out)
   clear HO_0
   clear HK
   clear HB
   have HO_0 := n0_
   have HK := n1_
   have HB := n2_
   clear n0_ n1_ n2_
   have p101 : 0 ≤ (x3_1 : Int) := of_decide_eq_true Zc
   have q101 : x3_1 < (x0_1.length : Int) := of_decide_eq_true Zc
   obtain ⟨ad101, e101, hx101_0⟩ := Kd.at_int (Kd.R_reads' HO_0.out).2.2 x3_1 p101 q101
   cases e101
   replace p101 := eq_true p101
   replace q101 := eq_true q101
   have p102 : 0 ≤ (x2_1 : Int) := of_decide_eq_true Zc
   have q102 : x2_1 < (x0_1.length : Int) := of_decide_eq_true Zc
   obtain ⟨ad102, e102, hx102_0⟩ := Kd.at_int (Kd.R_reads' HO_0.out).2.2 x2_1 p102 q102
   obtain rfl : ad101 = ad102 := (by injection e102)
   replace p102 := eq_true p102
   replace q102 := eq_true q102
   have p8 : 0 ≤ (x2_1 : Int) := of_decide_eq_true Zc
   have q8 : (x2_1 : Int) < ((x0_1.length : Int) : Int) := of_decide_eq_true Zc
   obtain ⟨go8, co8, eo8, gb8, gl8, cl8, HG8⟩ := Kd.R_form HO_0.out Zl
   (first | cases eo8 | (injection eo8 with ea_ en_ ec_; (first | subst ea_ | (injection ea_ with ea_; subst ea_)); subst ec_; clear en_))
   have GB8 := Ya.mk gb8
   have GG8 := Ya.mk HG8
   clear gb8 gl8 HG8
   have HMgo8 := Ya.mk (show (P0_ go8 ∨ w.heap.size ≤ go8) from (HO_0.out.1 _ rfl))
   (first | simp only [add_plain] at hx101_0 | skip)
   (first | simp only [add_plain] at hx102_0 | skip)
   obtain ⟨hx8_0, hf8_0⟩ := Kd.R_celln 0 HO_0.out (x2_1 : Int) p8 q8
   replace p8 := eq_true p8
   replace q8 := eq_true q8
   have HP11 := Kd.R_putn HO_0.out (x2_1 : Int) (rd x0_1 x3_1)
   rw [← Ny103.out] at HP11
   have HQ11 := Ya.mk HP11
   clear HP11
   have p9 : 0 ≤ (x3_1 : Int) := of_decide_eq_true Zc
   have q9 : (x3_1 : Int) < ((x0_1.length : Int) : Int) := of_decide_eq_true Zc
   obtain ⟨hx9_0, hf9_0⟩ := Kd.R_celln 0 HQ11.out (x3_1 : Int) p9 q9
   replace p9 := eq_true p9
   replace q9 := eq_true q9
   have HP12 := Kd.R_putn HQ11.out (x3_1 : Int) (rd x0_1 x2_1)
   rw [← Ny104.out] at HP12
   have HQ12 := Ya.mk HP12
   clear HP12
   refine Ylh (n := 16) (S := fun w' => w'.cell? ⟨go8, (x3_1).toNat, none⟩ = some (.int .u8 (rd x0_1 x3_1)) ∧ w'.cell? ⟨go8, (x2_1).toNat, none⟩ = some (.int .u8 (rd x0_1 x2_1))) (ds := [13, 15]) #[false, false, false, false, false, false, false, false, false, false, false, false, false, false, false, false] Zi rfl rfl ⟨hx101_0, hx102_0⟩ (fun hHeld => ?_); refine Yqh Yo.tab3 Yo.bits3 (fun HT_ HW_ => ?_)
   generalize wr.drew = w10 at HO_0 HK HB GG8 HQ11 HQ12 hf8_0 hf9_0 hx101_0 hx102_0 hx8_0 hx9_0 hHeld ⊢
   refine Yrb (i := 0) (N := some 14) (v := ?_) (a' := ?_) #[true, false, false, false, false, false, false, false, false, false, false, false, false, false, false, false] rfl rfl (Ypb HT_.out Zi) (fun _ _ _ h => h) (Or.inl ⟨Zla, ?_⟩) ?_ ?_
   rotate_left
   ·intro w'
    go_simp
    with_reducible rfl
   rotate_left
   ·simp only [Act.put, List.setIfInBounds_toArray, List.set_cons_zero, List.set_cons_succ, Yqa, Yra]
    rfl
   refine Yrb (i := 1) (N := some 15) (v := ?_) (a' := ?_) #[true, true, false, false, false, false, false, false, false, false, false, false, false, false, false, false] rfl rfl (Ypb HT_.out Zi) (fun _ _ _ h => h) (Or.inl ⟨Zla, ?_⟩) ?_ ?_
   rotate_left
   ·intro w'
    go_simp
    with_reducible rfl
   rotate_left
   ·simp only [Act.put, List.setIfInBounds_toArray, List.set_cons_zero, List.set_cons_succ, Yqa, Yra]
    rfl
   refine Yrb (i := 2) (N := some 16) (v := ?_) (a' := ?_) #[true, true, true, false, false, false, false, false, false, false, false, false, false, false, false, false] rfl rfl (Ypb HT_.out Zi) (fun _ _ _ h => h) (Or.inl ⟨Zla, ?_⟩) ?_ ?_
   rotate_left
   ·intro w'
    go_simp
    with_reducible rfl
   rotate_left
   ·simp only [Act.put, List.setIfInBounds_toArray, List.set_cons_zero, List.set_cons_succ, Yqa, Yra]
    rfl
   refine Yrb (i := 3) (N := some 17) (v := ?_) (a' := ?_) #[true, true, true, true, false, false, false, false, false, false, false, false, false, false, false, false] rfl rfl (Ypb HT_.out Zi) (fun _ _ _ h => h) (Or.inl ⟨Zla, ?_⟩) ?_ ?_
   rotate_left
   ·intro w'
    go_simp
    with_reducible rfl
   rotate_left
   ·simp only [Act.put, List.setIfInBounds_toArray, List.set_cons_zero, List.set_cons_succ, Yqa, Yra]
    rfl
   refine Yrb (i := 4) (N := some 18) (v := ?_) (a' := ?_) #[true, true, true, true, true, false, false, false, false, false, false, false, false, false, false, false] rfl rfl (Ypb HT_.out Zi) (fun _ _ _ h => h) (Or.inl ⟨Zla, ?_⟩) ?_ ?_
   rotate_left
   ·intro w'
    go_simp
    with_reducible rfl
   rotate_left
   ·simp only [Act.put, List.setIfInBounds_toArray, List.set_cons_zero, List.set_cons_succ, Yqa, Yra]
    rfl
   refine Yrb (i := 5) (N := some 19) (v := ?_) (a' := ?_) #[true, true, true, true, true, true, false, false, false, false, false, false, false, false, false, false] rfl rfl (Ypb HT_.out Zi) (fun _ _ _ h => h) (Or.inl ⟨Zla, ?_⟩) ?_ ?_
   rotate_left
   ·intro w'
    go_simp
    with_reducible rfl
   rotate_left
   ·simp only [Act.put, List.setIfInBounds_toArray, List.set_cons_zero, List.set_cons_succ, Yqa, Yra]
    rfl
   refine Yrb (i := 6) (N := some 20) (v := ?_) (a' := ?_) #[true, true, true, true, true, true, true, false, false, false, false, false, false, false, false, false] rfl rfl (Ypb HT_.out Zi) (fun _ _ _ h => h) (Or.inl ⟨Zla, ?_⟩) ?_ ?_
   rotate_left
   ·intro w'
    go_simp
    with_reducible rfl
   rotate_left
   ·simp only [Act.put, List.setIfInBounds_toArray, List.set_cons_zero, List.set_cons_succ, Yqa, Yra]
    rfl
   refine Yrb (i := 8) (N := some 22) (v := ?_) (a' := ?_) #[true, true, true, true, true, true, true, false, true, false, false, false, false, false, false, false] rfl rfl (Ypb HT_.out Zi) (fun _ _ _ h => h) (Or.inl ⟨Zla, ?_⟩) ?_ ?_
   rotate_left
   ·intro w'
    go_simp
    with_reducible rfl
   rotate_left
   ·simp only [Act.put, List.setIfInBounds_toArray, List.set_cons_zero, List.set_cons_succ, Yqa, Yra]
    rfl
   refine Yrb (i := 9) (N := some 23) (v := ?_) (a' := ?_) #[true, true, true, true, true, true, true, false, true, true, false, false, false, false, false, false] rfl rfl (Ypb HT_.out Zi) (fun _ _ _ h => h) (Or.inl ⟨Zla, ?_⟩) ?_ ?_
   rotate_left
   ·intro w'
    go_simp
    with_reducible rfl
   rotate_left
   ·simp only [Act.put, List.setIfInBounds_toArray, List.set_cons_zero, List.set_cons_succ, Yqa, Yra]
    rfl
   refine Yrb (i := 10) (N := some 24) (v := ?_) (a' := ?_) #[true, true, true, true, true, true, true, false, true, true, true, false, false, false, false, false] rfl rfl (Ypb HT_.out Zi) (fun _ _ _ h => h) (Or.inl ⟨Zla, ?_⟩) ?_ ?_
   rotate_left
   ·intro w'
    go_simp
    with_reducible rfl
   rotate_left
   ·simp only [Act.put, List.setIfInBounds_toArray, List.set_cons_zero, List.set_cons_succ, Yqa, Yra]
    rfl
   refine Ymg (i := 7) (N := some 21) (v := ?_) (a' := ?_) #[true, true, true, true, true, true, true, true, true, true, true, false, false, false, false, false] rfl rfl (Yhg HT_.out HW_.out Zi) (fun _ _ _ h => h) (Or.inl ⟨Zla, ?_⟩) hHeld ?_ ?_
   rotate_left
   ·rintro w' ⟨s0, s1⟩
    go_simp
    with_reducible rfl
   rotate_left
   ·simp only [Act.put, List.setIfInBounds_toArray, List.set_cons_zero, List.set_cons_succ, Yqa, Yra]
    rfl
   refine Ymg (i := 11) (N := some 25) (v := ?_) (a' := ?_) #[true, true, true, true, true, true, true, true, true, true, true, true, false, false, false, false] rfl rfl (Yhg HT_.out HW_.out Zi) (fun _ _ _ h => h) (Or.inl ⟨Zla, ?_⟩) hHeld ?_ ?_
   rotate_left
   ·rintro w' ⟨s0, s1⟩
    go_simp
    with_reducible rfl
   rotate_left
   ·simp only [Act.put, List.setIfInBounds_toArray, List.set_cons_zero, List.set_cons_succ, Yqa, Yra]
    rfl
   refine Yrb (i := 12) (N := some 26) (v := ?_) (a' := ?_) #[true, true, true, true, true, true, true, true, true, true, true, true, true, false, false, false] rfl rfl (Ypb HT_.out Zi) (fun _ _ _ h => h) (Or.inl ⟨Zla, ?_⟩) ?_ ?_
   rotate_left
   ·intro w'
    go_simp
    with_reducible rfl
   rotate_left
   ·simp only [Act.put, List.setIfInBounds_toArray, List.set_cons_zero, List.set_cons_succ, Yqa, Yra]
    rfl
   refine Ynn (i := 13) (N := none) #[true, true, true, true, true, true, true, true, true, true, true, true, true, true, false, false] rfl rfl (Ykg HT_.out Zi) Zda (fun K hK => ?_)
   refine Yuk (w1 := ?_) Zla rfl ?_ ?_
   rotate_left
   ·go_simp
    rfl
   refine hK.out _ _ ?_
   clear hK K
   refine Yrb (i := 14) (N := some 27) (v := ?_) (a' := ?_) #[true, true, true, true, true, true, true, true, true, true, true, true, true, true, true, false] rfl rfl (Ypb HT_.out Zi) (fun _ _ _ h => h) (Or.inl ⟨Zla, ?_⟩) ?_ ?_
   rotate_left
   ·intro w'
    go_simp
    with_reducible rfl
   rotate_left
   ·simp only [Act.put, List.setIfInBounds_toArray, List.set_cons_zero, List.set_cons_succ, Yqa, Yra]
    rfl
   refine Ynn (i := 15) (N := none) #[true, true, true, true, true, true, true, true, true, true, true, true, true, true, true, true] rfl rfl (Ykg HT_.out Zi) Zda (fun K hK => ?_)
   refine Yuk (w1 := ?_) Zla rfl ?_ ?_
   rotate_left
   ·go_simp
    rfl
   refine hK.out _ _ ?_
   clear hK K
   refine Yqi (Yhj HT_.out Zi) ?_
   try go_wp2
   (try simp only [← hl0_1])
   go_roundg k1
   case measure => have := HK1.out; omega
   case rel => exact ⟨(y104), (wrap64 (x2_1 + 1)), (wrap64 (x3_1 - 1)), Zf, Zf, H', ⟨Zaa⟩, ⟨by (try simp only [hl0_1]); (with_reducible repeat (first | apply Kd.R_alloc | apply Kd.R_drewN | apply Kd.R_drew)); exact HQ12.out⟩, ⟨by repeat (first | (with_reducible first | exact HK.out | apply Kept.alloc | apply Kept.drewN | apply Kept.drew | refine Kept.setCell ?_ HMgo8.out _ | refine Kept.setCell ?_ HMgo8.out _) | exact HK.out)⟩, ⟨by repeat (first | (with_reducible first | exact HB.out | apply Yd | apply Yb | apply Yc | refine Yg ?_ GB8.out | refine Yg ?_ GB8.out) | exact HB.out)⟩⟩
mutual
def Ykb.j0 : Nat → Int → Int → Int → Option (ByteArray)
 | 0, _, _, _ => none
 | k + 1, x0, x1, x5 => Ykb.l0 k x0 x1 x5 ([] : List Int)
def Ykb.l0 : Nat → Int → Int → Int → List Int → Option (ByteArray)
 | 0, _, _, _, _ => none
 | k + 1, x0, x1, x5, x6 => if x5 > 0 then (if x6.length < 140737488355328 then (Ykb.l0 k x0 x1 (IntKind.u64.wrap (Int.tdiv x5 10)) (x6 ++ [(IntKind.u64.wrap (48 + (Int.tmod x5 10))) % 256])) else (none)) else (if (x6.length : Int) < (mx (mn x1 20) 1) then (if x6.length < 140737488355328 then (Ykb.l0 k x0 x1 (IntKind.u64.wrap (Int.tdiv x5 10)) (x6 ++ [(IntKind.u64.wrap (48 + (Int.tmod x5 10))) % 256])) else (none)) else (if x0 < 0 then (if x6.length < 140737488355328 then ((Yo.f k (x6 ++ [45])).bind fun t114 => (some (strOfNums t114))) else (none)) else ((Yo.f k x6).bind fun t115 => (some (strOfNums t115)))))
end
def Ykb.f (k : Nat) (a0 : Int) (a1 : Int) : Option (ByteArray) := if a0 < 0 then (Ykb.j0 k a0 a1 (IntKind.u64.wrap (-(IntKind.u64.wrap (a0))))) else (Ykb.j0 k a0 a1 (IntKind.u64.wrap (a0)))
set_option maxHeartbeats 8000000 in
set_option maxRecDepth 100000 in
theorem Ykb.calls (k : Nat) (a0 : Int) (a1 : Int) (r : ByteArray) (w : World) (hE : EnvOk w) (h : Ykb.f k a0 a1 = some r) :
  Calls Tryz.prog 107 #[.int .i64 a0, .int .i64 a1] w fun e w' => e = .returned (.string r) ∧ Below w.heap.size w w' := by
 have HE := Ya.mk hE
 clear hE
 have HB := Ya.mk (Below.refl w.heap.size w)
 have H : (if a0 < 0 then (Ykb.j0 k a0 a1 (IntKind.u64.wrap (-(IntKind.u64.wrap (a0))))) else (Ykb.j0 k a0 a1 (IntKind.u64.wrap (a0)))) = some r := h
 clear h
 have HC3 := Ya.mk H
 clear H
 go_enter Tryz.func107, Tryz.ntmps107
 go_upto_if 10 with (fail)
 go_cut [5] (fun v5 wc => ∃ (kq : Nat) (x5_2 : Int), v5 = .int .u64 x5_2 ∧ Ya (Ykb.j0 kq a0 a1 x5_2 = some r) ∧ Ya (kq ≤ k) ∧ Ya (Below w.heap.size w wc))
 case first =>
  have H := HC3.out
  clear HC3
  by_cases c4 : a0 < 0
  rotate_left
  ·rw [if_neg c4] at H
   have c4b0 : decide (a0 < 0) = false := decide_eq_false c4
   clear c4
   (first | rw [c4b0] | (simp only [Yqa, Yra]; rw [c4b0]) | skip)
   have H' := Ya.mk H
   clear H
   go_wp2
   go_meet
   case rel => exact ⟨_, (IntKind.u64.wrap (a0)), Zf, H', ⟨Zna⟩, ⟨Za⟩⟩
  rw [if_pos c4] at H
  have c4b0 : decide (a0 < 0) = true := decide_eq_true c4
  clear c4
  (first | rw [c4b0] | (simp only [Yqa, Yra]; rw [c4b0]) | skip)
  have H' := Ya.mk H
  clear H
  go_wp2
  go_meet
  case rel => exact ⟨_, (IntKind.u64.wrap (-(IntKind.u64.wrap (a0)))), Zf, H', ⟨Zna⟩, ⟨Za⟩⟩
 case rest =>
  clear HC3
  try clear c1
  try clear p2
  try clear c4
  try clear c4b0
  obtain ⟨kq, x5_2, rfl, HA, HJ2, HB⟩ := hcut
  cases kq with
  | zero => exact absurd HA.out (by simp [Ykb.j0])
  | succ kj2 =>
   have H := HA.out
   clear HA
   simp only [Ykb.j0] at H
   have H' := Ya.mk H
   clear H
   go_wp2
   go_loopg [5, 6] kj2 (fun kq v5 v6 w' => ∃ (x5_2 : Int) (x6_2 : List Int), v5 = .int .u64 x5_2 ∧ Ya (Ykb.l0 kq a0 a1 x5_2 x6_2 = some r) ∧ Ya (kq ≤ kj2) ∧ Ya (Kd.R (Kd.int .u8) 5 w' w.heap.size (fun _ => True) v6 x6_2) ∧ Ya (Below w.heap.size w w'))
   case atStart => exact ⟨(x5_2), (([] : List Int)), Zf, H', ⟨Nat.le_refl _⟩, ⟨Zea⟩, ⟨Za⟩⟩
   case round =>
    clear H'
    try clear c1
    try clear p2
    try clear c4
    try clear c4b0
    try clear p2
    obtain ⟨x5_2, x6_2, rfl, HA, HK2, HO_6, HB⟩ := hrel
    cases gk with
    | zero => exact absurd HA.out (by simp [Ykb.l0])
    | succ k2 =>
     have H := HA.out
     clear HA
     simp only [Ykb.l0] at H
     by_cases c5 : x5_2 > 0
     ·rw [if_pos c5] at H
      have c5b0 : decide (0 < x5_2) = true := decide_eq_true c5
      clear c5
      by_cases c6 : x6_2.length < 140737488355328
      rotate_left
      ·rw [if_neg c6] at H
       exact absurd H Zv
      rw [if_pos c6] at H
      have LMc6 := Ya.mk c6
      clear c6
      obtain ⟨y105, hy105⟩ : ∃ y_ : List Int, y_ = (x6_2 ++ [(IntKind.u64.wrap (48 + (Int.tmod x5_2 10))) % 256]) := ⟨_, rfl⟩
      replace H : (Ykb.l0 k2 a0 a1 (IntKind.u64.wrap (Int.tdiv x5_2 10)) y105) = some r := by first | (rw [hy105]; with_reducible exact H) | (have H2_ := (Option.bind_some _ _).symm.trans H; rw [hy105]; with_reducible exact H2_) | (have H2_ := (Option.bind_some _ _).symm.trans H; with_reducible exact H2_) | with_reducible exact H | (rw [hy105]; exact H) | exact H
      have Ny105 := Ya.mk hy105
      clear hy105
      have H' := Ya.mk H
      clear H
      go_wp2_with (first | ((with_reducible refine Yzd (b := .append) (xs := #[.tmp 23, .tmp 28]) rfl ?_); (try (refine Yhi Zla ?_; dsimp only)); at_builtin; refine Kd.R_append (Kd.int .u8) (w0 := w) w.heap.size rfl (.tmp 23) (.tmp 28) 62 5 (.int .u8 0) 1 rfl Tryz.underlying62 Ywl rfl Zda Zl u6 x6_2 ((IntKind.u64.wrap (48 + (Int.tmod x5_2 10))) % 256) [.int .u8 ((IntKind.u64.wrap (48 + (Int.tmod x5_2 10))) % 256)] (fun _ => True) (fun _ => False) rfl rfl ?aP (fun _ hk => hk.elim) ?aF ?aO ?aB ?aS ?aL ?_; (case aP => exact rfl); (case aB => exact Za); (case aF => exact (fun _ _ => trivial)); (case aO => exact Zdb); (case aS => exact (Yea Za)); (case aL => have := LMc6.out; omega); intro v106 w7 ho hb hg hat; rw [← Ny105.out] at ho; have n0_ := Ya.mk (hb); have n1_ := Ya.mk (ho); clear HB; clear HO_6; have HB := n0_; have HO107 := n1_; clear n0_ n1_; clear ho hb hg hat))
      go_roundg k2
      case measure => have := HJ2.out; have := HK2.out; omega
      case rel => exact ⟨(IntKind.u64.wrap (Int.tdiv x5_2 10)), (y105), Zf, H', ⟨Zza⟩, ⟨by (with_reducible repeat (first | apply Kd.R_alloc | apply Kd.R_drewN | apply Kd.R_drew)); exact HO107.out⟩, ⟨Za⟩⟩
     rw [if_neg c5] at H
     have c5b0 : decide (0 < x5_2) = false := decide_eq_false c5
     clear c5
     obtain ⟨ji8, hji8⟩ : ∃ j_ : Int, (mn a1 20) = j_ := ⟨_, rfl⟩
     replace H : (if (x6_2.length : Int) < (mx (ji8) 1) then (if x6_2.length < 140737488355328 then (Ykb.l0 k2 a0 a1 (IntKind.u64.wrap (Int.tdiv x5_2 10)) (x6_2 ++ [(IntKind.u64.wrap (48 + (Int.tmod x5_2 10))) % 256])) else (none)) else (if a0 < 0 then (if x6_2.length < 140737488355328 then ((Yo.f k2 (x6_2 ++ [45])).bind fun t114 => (some (strOfNums t114))) else (none)) else ((Yo.f k2 x6_2).bind fun t115 => (some (strOfNums t115))))) = some r := by first | (rw [hji8] at H; exact H) | (simp only [hji8] at H ⊢; exact H)
     have hji8_ : (if 20 < a1 then 20 else a1) = ji8 := hji8
     obtain ⟨ji9, hji9⟩ : ∃ j_ : Int, (mx (ji8) 1) = j_ := ⟨_, rfl⟩
     replace H : (if (x6_2.length : Int) < (ji9) then (if x6_2.length < 140737488355328 then (Ykb.l0 k2 a0 a1 (IntKind.u64.wrap (Int.tdiv x5_2 10)) (x6_2 ++ [(IntKind.u64.wrap (48 + (Int.tmod x5_2 10))) % 256])) else (none)) else (if a0 < 0 then (if x6_2.length < 140737488355328 then ((Yo.f k2 (x6_2 ++ [45])).bind fun t114 => (some (strOfNums t114))) else (none)) else ((Yo.f k2 x6_2).bind fun t115 => (some (strOfNums t115))))) = some r := by first | (rw [hji9] at H; exact H) | (simp only [hji9] at H ⊢; exact H)
     have hji9_ : (if (ji8) < 1 then 1 else (ji8)) = ji9 := hji9
     by_cases c10 : (x6_2.length : Int) < (ji9)
     ·rw [if_pos c10] at H
      have c10b0 : decide ((x6_2.length : Int) < (ji9)) = true := decide_eq_true c10
      clear c10
      by_cases c11 : x6_2.length < 140737488355328
      rotate_left
      ·rw [if_neg c11] at H
       exact absurd H Zv
      rw [if_pos c11] at H
      have LMc11 := Ya.mk c11
      clear c11
      obtain ⟨y108, hy108⟩ : ∃ y_ : List Int, y_ = (x6_2 ++ [(IntKind.u64.wrap (48 + (Int.tmod x5_2 10))) % 256]) := ⟨_, rfl⟩
      replace H : (Ykb.l0 k2 a0 a1 (IntKind.u64.wrap (Int.tdiv x5_2 10)) y108) = some r := by first | (rw [hy108]; with_reducible exact H) | (have H2_ := (Option.bind_some _ _).symm.trans H; rw [hy108]; with_reducible exact H2_) | (have H2_ := (Option.bind_some _ _).symm.trans H; with_reducible exact H2_) | with_reducible exact H | (rw [hy108]; exact H) | exact H
      have Ny108 := Ya.mk hy108
      clear hy108
      have H' := Ya.mk H
      clear H
      obtain ⟨Ao12, co12, eo12⟩ := Kd.R_slice HO_6.out
      subst eo12
      go_wp2_with (first | ((with_reducible refine Yzd (b := .append) (xs := #[.tmp 23, .tmp 28]) rfl ?_); (try (refine Yhi Zla ?_; dsimp only)); at_builtin; refine Kd.R_append (Kd.int .u8) (w0 := w) w.heap.size rfl (.tmp 23) (.tmp 28) 62 5 (.int .u8 0) 1 rfl Tryz.underlying62 Ywl rfl Zda Zl (.slice Ao12 x6_2.length co12) x6_2 ((IntKind.u64.wrap (48 + (Int.tmod x5_2 10))) % 256) [.int .u8 ((IntKind.u64.wrap (48 + (Int.tmod x5_2 10))) % 256)] (fun _ => True) (fun _ => False) rfl rfl ?aP (fun _ hk => hk.elim) ?aF ?aO ?aB ?aS ?aL ?_; (case aP => exact rfl); (case aB => exact Za); (case aF => exact (fun _ _ => trivial)); (case aO => exact Zdb); (case aS => exact (Yea Za)); (case aL => have := LMc11.out; omega); intro v109 w13 ho hb hg hat; rw [← Ny108.out] at ho; have n0_ := Ya.mk (hb); have n1_ := Ya.mk (ho); clear HB; clear HO_6; have HB := n0_; have HO110 := n1_; clear n0_ n1_; clear ho hb hg hat))
      go_roundg k2
      case measure => have := HJ2.out; have := HK2.out; omega
      case rel => exact ⟨(IntKind.u64.wrap (Int.tdiv x5_2 10)), (y108), Zf, H', ⟨Zza⟩, ⟨by (with_reducible repeat (first | apply Kd.R_alloc | apply Kd.R_drewN | apply Kd.R_drew)); exact HO110.out⟩, ⟨Za⟩⟩
     rw [if_neg c10] at H
     have c10b0 : decide ((x6_2.length : Int) < (ji9)) = false := decide_eq_false c10
     clear c10
     by_cases c14 : a0 < 0
     rotate_left
     ·rw [if_neg c14] at H
      have c14b0 : decide (a0 < 0) = false := decide_eq_false c14
      clear c14
      replace H := Option.bind_eq_some_iff.mp H
      obtain ⟨t115, A220, H⟩ := H
      try dsimp -simprocs only at H
      have A22 := Ya.mk A220
      clear A220
      obtain rfl := Option.some.inj H
      obtain ⟨Ao23, co23, eo23⟩ := Kd.R_slice HO_6.out
      subst eo23
      go_wp2_with (first | ((with_reducible refine Yh (f := 132) rfl ?_); refine Yz (some 38) rfl rfl Tryz.func132 Zi rfl #[.slice Ao23 x6_2.length co23] rfl Zb ?_; (with_reducible refine (Yo.calls k2 (fun k_ => some k_ = (.slice Ao23 x6_2.length co23 : Value).ownBlock) (.slice Ao23 x6_2.length co23) x6_2 t115 w _ ?side1 ?side2 ?side3 A22.out).mono ?_); (case side1 => exact HE.out); (case side2 => repeat (first | (with_reducible first | exact HB.out | apply Yd | apply Yb | apply Yc) | exact HB.out)); (case side3 => exact Kd.R_tight rfl HO_6.out); rintro e w24 ⟨rfl, hy0, hb, hkp⟩; refine ⟨_, rfl, ?_⟩; have n0_ := Ya.mk (Kd.R_reok rfl hy0 (fun k_ e_ => HO_6.out.1 k_ e_)); have n1_ := Ya.mk (hb); clear HO_6; clear HB; have HO_6 := n0_; have HB := n1_; clear n0_ n1_; (try clear hb); (try clear hkp); (try clear hy0); have hcv25 := Yyg (P := Tryz.prog) Tryz.underlying62 Tryz.underlying5 Tryz.underlying9 (Kd.own_of_R HO_6.out)))
      go_ret
      exact ⟨by first | rfl | (simp [Yj, Yk] <;> rfl) | (simp only [← hji8, ← hji9]; first | rfl | (simp [Yj, Yk] <;> rfl)) | (simp [*, Yj, Yk] <;> rfl), Za⟩
     rw [if_pos c14] at H
     have c14b0 : decide (a0 < 0) = true := decide_eq_true c14
     clear c14
     by_cases c15 : x6_2.length < 140737488355328
     rotate_left
     ·rw [if_neg c15] at H
      exact absurd H Zv
     rw [if_pos c15] at H
     have LMc15 := Ya.mk c15
     clear c15
     obtain ⟨y111, hy111⟩ : ∃ y_ : List Int, y_ = (x6_2 ++ [45]) := ⟨_, rfl⟩
     replace H : ((Yo.f k2 y111).bind fun t114 => (some (strOfNums t114))) = some r := by first | (rw [hy111]; with_reducible exact H) | (have H2_ := (Option.bind_some _ _).symm.trans H; rw [hy111]; with_reducible exact H2_) | (have H2_ := (Option.bind_some _ _).symm.trans H; with_reducible exact H2_) | with_reducible exact H | (rw [hy111]; exact H) | exact H
     have Ny111 := Ya.mk hy111
     clear hy111
     replace H := Option.bind_eq_some_iff.mp H
     obtain ⟨t114, A160, H⟩ := H
     try dsimp -simprocs only at H
     have A16 := Ya.mk A160
     clear A160
     obtain rfl := Option.some.inj H
     obtain ⟨Ao17, co17, eo17⟩ := Kd.R_slice HO_6.out
     subst eo17
     go_wp2_with (first | ((with_reducible refine Yzd (b := .append) (xs := #[.tmp 34, .tmp 35]) rfl ?_); (try (refine Yhi Zla ?_; dsimp only)); at_builtin; refine Kd.R_append (Kd.int .u8) (w0 := w) w.heap.size rfl (.tmp 34) (.tmp 35) 62 5 (.int .u8 0) 1 rfl Tryz.underlying62 Ywl rfl Zda Zl (.slice Ao17 x6_2.length co17) x6_2 45 [.int .u8 45] (fun _ => True) (fun _ => False) rfl rfl ?aP (fun _ hk => hk.elim) ?aF ?aO ?aB ?aS ?aL ?_; (case aP => exact rfl); (case aB => exact Za); (case aF => exact (fun _ _ => trivial)); (case aO => exact Zdb); (case aS => exact (Yea Za)); (case aL => have := LMc15.out; omega); intro v112 w18 ho hb hg hat; rw [← Ny111.out] at ho; have n0_ := Ya.mk (hb); have n1_ := Ya.mk (ho); clear HB; clear HO_6; have HB := n0_; have HO113 := n1_; clear n0_ n1_; clear ho hb hg hat; obtain ⟨Ao19, co19, eo19⟩ := Kd.R_slice HO113.out; subst eo19) | ((with_reducible refine Yh (f := 132) rfl ?_); refine Yz (some 38) rfl rfl Tryz.func132 Zi rfl #[.slice Ao19 y111.length co19] rfl Zb ?_; (with_reducible refine (Yo.calls k2 (fun k_ => some k_ = (.slice Ao19 y111.length co19 : Value).ownBlock) (.slice Ao19 y111.length co19) y111 t114 w _ ?side1 ?side2 ?side3 A16.out).mono ?_); (case side1 => exact HE.out); (case side2 => repeat (first | (with_reducible first | exact HB.out | apply Yd | apply Yb | apply Yc) | exact HB.out)); (case side3 => exact Kd.R_tight rfl HO113.out); rintro e w20 ⟨rfl, hy0, hb, hkp⟩; refine ⟨_, rfl, ?_⟩; have n0_ := Ya.mk (Kd.R_reok rfl hy0 (fun k_ e_ => HO113.out.1 k_ e_)); have n1_ := Ya.mk (hb); clear HO113; clear HB; have HO113 := n0_; have HB := n1_; clear n0_ n1_; (try clear hb); (try clear hkp); (try clear hy0); have hcv21 := Yyg (P := Tryz.prog) Tryz.underlying62 Tryz.underlying5 Tryz.underlying9 (Kd.own_of_R HO113.out)))
     go_ret
     exact ⟨by first | rfl | (simp [Yj, Yk] <;> rfl) | (simp only [← hji8, ← hji9]; first | rfl | (simp [Yj, Yk] <;> rfl)) | (simp [*, Yj, Yk] <;> rfl), Za⟩
def Yie.f (k : Nat) (a0 : Int) : Option (ByteArray) := (Ykb.f k a0 1).bind fun t116 => (some t116)
set_option maxHeartbeats 8000000 in
set_option maxRecDepth 100000 in
theorem Yie.calls (k : Nat) (a0 : Int) (r : ByteArray) (w : World) (hE : EnvOk w) (h : Yie.f k a0 = some r) :
  Calls Tryz.prog 68 #[.int .i64 a0] w fun e w' => e = .returned (.string r) ∧ Below w.heap.size w w' := by
 have HE := Ya.mk hE
 clear hE
 have HB := Ya.mk (Below.refl w.heap.size w)
 have H : ((Ykb.f k a0 1).bind fun t116 => (some t116)) = some r := h
 clear h
 replace H := Option.bind_eq_some_iff.mp H
 obtain ⟨t116, A20, H⟩ := H
 try dsimp -simprocs only at H
 have A2 := Ya.mk A20
 clear A20
 obtain rfl := Option.some.inj H
 go_enter Tryz.func68, Tryz.ntmps68
 go_wp2_with (first | ((with_reducible refine Yh (f := 107) rfl ?_); refine Yz (some 4) rfl rfl Tryz.func107 Zi rfl #[.int .i64 a0, .int .i64 1] rfl Zb ?_; (with_reducible refine (Ykb.calls k a0 1 t116 _ ?side1 A2.out).mono ?_); (case side1 => first | exact HE.out | exact EnvOk.below HE.out Za); rintro e w3 ⟨rfl, hb⟩; refine ⟨_, rfl, ?_⟩; have n0_ := Ya.mk (Yq Za hb); clear HB; have HB := n0_; clear n0_; (try clear hb); (try clear hb2); (try clear hk); (try clear hi)))
 go_ret
 exact ⟨Zk, Za⟩
def Yze.f (k : Nat) (a0_0 : ByteArray) (a0_1 : ByteArray) (a0_2 : Int) (a0_3 : ByteArray) (a0_4 : ByteArray) (a0_5 : ByteArray) (a0_6 : Bool) (a0_7 : Bool) : Option (ByteArray) := if a0_0.size + 3 ≤ 9223372036854775807 then (if (a0_0 ++ (⟨#[58, 47, 47]⟩ : ByteArray)).size + a0_1.size ≤ 9223372036854775807 then (if a0_2 = 0 then (some ((a0_0 ++ (⟨#[58, 47, 47]⟩ : ByteArray)) ++ a0_1)) else ((Yie.f k a0_2).bind fun t118 => (if 1 + t118.size ≤ 9223372036854775807 then (if ((a0_0 ++ (⟨#[58, 47, 47]⟩ : ByteArray)) ++ a0_1).size + ((⟨#[58]⟩ : ByteArray) ++ t118).size ≤ 9223372036854775807 then (some (((a0_0 ++ (⟨#[58, 47, 47]⟩ : ByteArray)) ++ a0_1) ++ ((⟨#[58]⟩ : ByteArray) ++ t118))) else (none)) else (none)))) else (none)) else (none)
set_option maxHeartbeats 8000000 in
set_option maxRecDepth 100000 in
theorem Yze.calls (k : Nat) (a0_0 : ByteArray) (a0_1 : ByteArray) (a0_2 : Int) (a0_3 : ByteArray) (a0_4 : ByteArray) (a0_5 : ByteArray) (a0_6 : Bool) (a0_7 : Bool) (r : ByteArray) (w : World) (hE : EnvOk w) (h : Yze.f k a0_0 a0_1 a0_2 a0_3 a0_4 a0_5 a0_6 a0_7 = some r) :
  Calls Tryz.prog 29 #[.agg #[.string a0_0, .string a0_1, .int .i64 a0_2, .string a0_3, .string a0_4, .string a0_5, .bool a0_6, .bool a0_7]] w fun e w' => e = .returned (.string r) ∧ Below w.heap.size w w' := by
 have hu25 := Tryz.underlying25
 have HE := Ya.mk hE
 clear hE
 have HB := Ya.mk (Below.refl w.heap.size w)
 have H : (if a0_0.size + 3 ≤ 9223372036854775807 then (if (a0_0 ++ (⟨#[58, 47, 47]⟩ : ByteArray)).size + a0_1.size ≤ 9223372036854775807 then (if a0_2 = 0 then (some ((a0_0 ++ (⟨#[58, 47, 47]⟩ : ByteArray)) ++ a0_1)) else ((Yie.f k a0_2).bind fun t118 => (if 1 + t118.size ≤ 9223372036854775807 then (if ((a0_0 ++ (⟨#[58, 47, 47]⟩ : ByteArray)) ++ a0_1).size + ((⟨#[58]⟩ : ByteArray) ++ t118).size ≤ 9223372036854775807 then (some (((a0_0 ++ (⟨#[58, 47, 47]⟩ : ByteArray)) ++ a0_1) ++ ((⟨#[58]⟩ : ByteArray) ++ t118))) else (none)) else (none)))) else (none)) else (none)) = some r := h
 clear h
 by_cases c2 : a0_0.size + 3 ≤ 9223372036854775807
 rotate_left
 ·rw [if_neg c2] at H
  exact absurd H Zv
 rw [if_pos c2] at H
 have c2b0 := eq_true c2
 have c2b1 : decide (a0_0.size + 3 ≤ 9223372036854775807) = true := decide_eq_true c2
 try have c2b2 : (9223372036854775807 < a0_0.size + 3) = False := eq_false (Nat.not_lt.2 c2)
 by_cases c3 : (a0_0 ++ (⟨#[58, 47, 47]⟩ : ByteArray)).size + a0_1.size ≤ 9223372036854775807
 rotate_left
 ·rw [if_neg c3] at H
  exact absurd H Zv
 rw [if_pos c3] at H
 have c3b0 := eq_true c3
 have c3b1 : decide ((a0_0 ++ (⟨#[58, 47, 47]⟩ : ByteArray)).size + a0_1.size ≤ 9223372036854775807) = true := decide_eq_true c3
 try have c3b2 : (9223372036854775807 < (a0_0 ++ (⟨#[58, 47, 47]⟩ : ByteArray)).size + a0_1.size) = False := eq_false (Nat.not_lt.2 c3)
 by_cases c4 : a0_2 = 0
 ·rw [if_pos c4] at H
  have c4b0 : (a0_2 == 0) = true := beq_iff_eq.mpr c4
  have c4b1 : (a0_2 != 0) = false := bne_eq_false_iff_eq.mpr c4
  clear c4
  obtain rfl := Option.some.inj H
  go_enter Tryz.func29, Tryz.ntmps29
  go_wp2_with (first | ((with_reducible refine Yuc (N := 1) rfl ?_); refine Yrc ?hg (N := 1) ?hd (cs := #[.string a0_0, .string a0_1, .int .i64 a0_2, .string a0_3, .string a0_4, .string a0_5, .bool a0_6, .bool a0_7]) (t := 25) ?hr ?_; (case hd => rfl); (case hg => rfl); (case hr => first | (go_simp; done) | (go_simp; rfl)); intro gb117 hg w5 hbox hb; have n0_ := Ya.mk (Yq Za hb); have n1_ := Ya.mk (hbox); have n2_ := Ya.mk ((by rw [hg]; exact (Yea Za) : w.heap.size ≤ gb117)); have n3_ := Ya.mk ((by rw [hg]; exact (Yea Za) : w.heap.size ≤ gb117)); clear HB; have HB := n0_; have BK117 := n1_; have GW117 := n2_; have GE117 := n3_; clear n0_ n1_ n2_ n3_; clear hb hbox hg; have hcz6_0 : w5.cell? ⟨gb117, 0, none⟩ = some (.string a0_0) := (Yf BK117.out 0).trans rfl; have hcz6_1 : w5.cell? ⟨gb117, 1, none⟩ = some (.string a0_1) := (Yf BK117.out 1).trans rfl; have hcz6_2 : w5.cell? ⟨gb117, 2, none⟩ = some (.int .i64 a0_2) := (Yf BK117.out 2).trans rfl; have hcz6_3 : w5.cell? ⟨gb117, 3, none⟩ = some (.string a0_3) := (Yf BK117.out 3).trans rfl; have hcz6_4 : w5.cell? ⟨gb117, 4, none⟩ = some (.string a0_4) := (Yf BK117.out 4).trans rfl; have hcz6_5 : w5.cell? ⟨gb117, 5, none⟩ = some (.string a0_5) := (Yf BK117.out 5).trans rfl; have hcz6_6 : w5.cell? ⟨gb117, 6, none⟩ = some (.bool a0_6) := (Yf BK117.out 6).trans rfl; have hcz6_7 : w5.cell? ⟨gb117, 7, none⟩ = some (.bool a0_7) := (Yf BK117.out 7).trans rfl; have hfz6_0 := Ye BK117.out 0; have hfz6_1 := Ye BK117.out 1; have hfz6_2 := Ye BK117.out 2; have hfz6_3 := Ye BK117.out 3; have hfz6_4 := Ye BK117.out 4; have hfz6_5 := Ye BK117.out 5; have hfz6_6 := Ye BK117.out 6; have hfz6_7 := Ye BK117.out 7))
  go_ret
  exact ⟨Zk, Zka⟩
 rw [if_neg c4] at H
 have c4b0 : (a0_2 == 0) = false := beq_eq_false_iff_ne.mpr c4
 have c4b1 : (a0_2 != 0) = true := bne_iff_ne.mpr c4
 replace H := Option.bind_eq_some_iff.mp H
 obtain ⟨t118, A70, H⟩ := H
 try dsimp -simprocs only at H
 have A7 := Ya.mk A70
 clear A70
 by_cases c8 : 1 + t118.size ≤ 9223372036854775807
 rotate_left
 ·rw [if_neg c8] at H
  exact absurd H Zv
 rw [if_pos c8] at H
 have c8b0 := eq_true c8
 have c8b1 : decide (1 + t118.size ≤ 9223372036854775807) = true := decide_eq_true c8
 try have c8b2 : (9223372036854775807 < 1 + t118.size) = False := eq_false (Nat.not_lt.2 c8)
 by_cases c9 : ((a0_0 ++ (⟨#[58, 47, 47]⟩ : ByteArray)) ++ a0_1).size + ((⟨#[58]⟩ : ByteArray) ++ t118).size ≤ 9223372036854775807
 rotate_left
 ·rw [if_neg c9] at H
  exact absurd H Zv
 rw [if_pos c9] at H
 have c9b0 := eq_true c9
 have c9b1 : decide (((a0_0 ++ (⟨#[58, 47, 47]⟩ : ByteArray)) ++ a0_1).size + ((⟨#[58]⟩ : ByteArray) ++ t118).size ≤ 9223372036854775807) = true := decide_eq_true c9
 try have c9b2 : (9223372036854775807 < ((a0_0 ++ (⟨#[58, 47, 47]⟩ : ByteArray)) ++ a0_1).size + ((⟨#[58]⟩ : ByteArray) ++ t118).size) = False := eq_false (Nat.not_lt.2 c9)
 obtain rfl := Option.some.inj H
 go_enter Tryz.func29, Tryz.ntmps29
 go_wp2_with (first | ((with_reducible refine Yuc (N := 1) rfl ?_); refine Yrc ?hg (N := 1) ?hd (cs := #[.string a0_0, .string a0_1, .int .i64 a0_2, .string a0_3, .string a0_4, .string a0_5, .bool a0_6, .bool a0_7]) (t := 25) ?hr ?_; (case hd => rfl); (case hg => rfl); (case hr => first | (go_simp; done) | (go_simp; rfl)); intro gb117 hg w10 hbox hb; have n0_ := Ya.mk (Yq Za hb); have n1_ := Ya.mk (hbox); have n2_ := Ya.mk ((by rw [hg]; exact (Yea Za) : w.heap.size ≤ gb117)); have n3_ := Ya.mk ((by rw [hg]; exact (Yea Za) : w.heap.size ≤ gb117)); clear HB; have HB := n0_; have BK117 := n1_; have GW117 := n2_; have GE117 := n3_; clear n0_ n1_ n2_ n3_; clear hb hbox hg; have hcz11_0 : w10.cell? ⟨gb117, 0, none⟩ = some (.string a0_0) := (Yf BK117.out 0).trans rfl; have hcz11_1 : w10.cell? ⟨gb117, 1, none⟩ = some (.string a0_1) := (Yf BK117.out 1).trans rfl; have hcz11_2 : w10.cell? ⟨gb117, 2, none⟩ = some (.int .i64 a0_2) := (Yf BK117.out 2).trans rfl; have hcz11_3 : w10.cell? ⟨gb117, 3, none⟩ = some (.string a0_3) := (Yf BK117.out 3).trans rfl; have hcz11_4 : w10.cell? ⟨gb117, 4, none⟩ = some (.string a0_4) := (Yf BK117.out 4).trans rfl; have hcz11_5 : w10.cell? ⟨gb117, 5, none⟩ = some (.string a0_5) := (Yf BK117.out 5).trans rfl; have hcz11_6 : w10.cell? ⟨gb117, 6, none⟩ = some (.bool a0_6) := (Yf BK117.out 6).trans rfl; have hcz11_7 : w10.cell? ⟨gb117, 7, none⟩ = some (.bool a0_7) := (Yf BK117.out 7).trans rfl; have hfz11_0 := Ye BK117.out 0; have hfz11_1 := Ye BK117.out 1; have hfz11_2 := Ye BK117.out 2; have hfz11_3 := Ye BK117.out 3; have hfz11_4 := Ye BK117.out 4; have hfz11_5 := Ye BK117.out 5; have hfz11_6 := Ye BK117.out 6; have hfz11_7 := Ye BK117.out 7) | ((with_reducible refine Yh (f := 68) rfl ?_); refine Yz (some 16) rfl rfl Tryz.func68 Zi rfl #[.int .i64 a0_2] rfl Zb ?_; (with_reducible refine (Yie.calls k a0_2 t118 _ ?side1 A7.out).mono ?_); (case side1 => first | exact HE.out | exact EnvOk.below HE.out Zka); rintro e w12 ⟨rfl, hb⟩; refine ⟨_, rfl, ?_⟩; have n0_ := Ya.mk (Ydb (g := gb117) (o := .cells #[.string a0_0, .string a0_1, .int .i64 a0_2, .string a0_3, .string a0_4, .string a0_5, .bool a0_6, .bool a0_7] 25 (0, 0)) (by (with_reducible repeat (first | refine Yl ?_ _ | refine Yp ?_ | refine Ym ?_ _)); exact BK117.out) hb); have n1_ := Ya.mk (Yq Zka hb); clear BK117; clear HB; have BK117 := n0_; have HB := n1_; clear n0_ n1_; (try clear hb); (try clear hb2); (try clear hk); (try clear hi)))
 go_ret
 exact ⟨Zk, Zka⟩
end Go.Proofs.YtnmglnglbdpjjaaGreatDoor.X
