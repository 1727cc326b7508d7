/- Printed by a program of ours: functions as plain Lean, and what a call of each does. -/
import Derived.Test.YtfmjnmglagdcdaaGreatDoorCHWords
import Derived.Test.YtfmjnmglagdcdaaGreatDoorCHX0
import Derived.Test.YtfmjnmglagdcdaaGreatDoorCHX1
namespace Go.Proofs.YtfmjnmglagdcdaaGreatDoor.X
open Go.RowKit Go.Yw.PrintWords Go.Yw.PrintLast Go.Yw.PrintMore
attribute [local go_sem] Ygf Ybf Yzf Yag Yme Ype Ydf Yff
set_option linter.unusedVariables false
set_option linter.unusedSimpArgs false
def Yg.l0 : Nat → List Int → Int → Int → Option (List Int)
 | 0, _, _, _ => none
 | k + 1, x0, x2, x3 => if x2 < x3 then (if 0 ≤ x3 then (if x3 < (x0.length : Int) then (if 0 ≤ x2 then (if x2 < (x0.length : Int) then (Yg.l0 k ((x0.set (x2 : Int).toNat (rd x0 x3)).set (x3 : Int).toNat (rd x0 x2)) (wrap64 (x2 + 1)) (wrap64 (x3 - 1))) else (none)) else (none)) else (none)) else (none)) else (some x0)
def Yg.f (k : Nat) (l0 : List Int) : Option (List Int) := Yg.l0 k l0 0 (wrap64 ((l0.length : Int) - 1))
theorem Yg.mono_l : ∀ k, (∀ y0 y1 y2, LeO (Yg.l0 k y0 y1 y2) (Yg.l0 (k + 1) y0 y1 y2))
 | 0 => fun _ _ _ r h => by simp [Yg.l0] at h
 | k + 1 => by
  have ih0 := Yg.mono_l k
  ·intro y0 y1 y2
   unfold Yg.l0
   repeat' first
   | (with_reducible exact ih0 _ _ _)
   | (with_reducible exact LeO.refl _)
   | (with_reducible exact LeO.none _)
   | (with_reducible refine LeO.ite ?_ ?_)
   | (with_reducible refine LeO.bind ?_ (fun _ => ?_))
   | exact ih0 _ _ _
   | exact LeO.none _
   | refine LeO.ite ?_ ?_
   | refine LeO.bind ?_ (fun _ => ?_)
theorem Yg.mono : ∀ a0 k, LeO (Yg.f k a0) (Yg.f (k + 1) a0) := by
 intro a0 k
 have ih0 := Yg.mono_l k
 unfold Yg.f
 repeat' first
   | (with_reducible exact ih0 _ _ _)
   | (with_reducible exact LeO.refl _)
   | (with_reducible exact LeO.none _)
   | (with_reducible refine LeO.ite ?_ ?_)
   | (with_reducible refine LeO.bind ?_ (fun _ => ?_))
   | exact ih0 _ _ _
   | exact LeO.none _
   | refine LeO.ite ?_ ?_
   | refine LeO.bind ?_ (fun _ => ?_)
def Yg.T3 : Bool × List (List Nat × List Nat) := (true, [([], []), ([], []), ([], []), ([], []), ([], []), ([], []), ([4, 5], [4, 5]), ([6], [6]), ([], []), ([], []), ([8, 9], [8, 9]), ([10], [10]), ([0, 1, 0, 1, 4, 5, 6, 7, 11], [0, 1]), ([12, 7, 0, 1, 4, 5, 6, 7, 11], [7, 12]), ([2, 3, 0, 1, 2, 3, 4, 5, 6, 7, 8, 9, 10, 11, 12, 13], [2, 3]), ([14, 11, 13, 0, 1, 2, 3, 4, 5, 6, 7, 8, 9, 10, 11, 12, 13], [11, 14])])
def Yg.B3 : List Nat := [0, 0, 0, 0, 0, 0, 48, 112, 0, 0, 768, 1792, 4083, 8179, 16383, 32767]
theorem Yg.tab3 : rtab .any (opsOf Tryz.f66 3) = Yg.T3 := by kernel_rfl
theorem Yg.bits3 : Yfi Yg.T3.2 Yg.B3 = true := by kernel_rfl
set_option maxHeartbeats 8000000 in
set_option maxRecDepth 100000 in
theorem Yg.calls (k : Nat) (P0_ : Nat → Prop) (u9000_ : Value) (l0 : List Int) (r : List Int) (w0 w : World) (hE : EnvOk w0) (hB : Below w0.heap.size w0 w) (ho0 : Kd.R (Kd.int .u8) 5 w w0.heap.size P0_ u9000_ l0) (h : Yg.f k l0 = some r) :
  Calls Tryz.prog 66 #[u9000_] w fun e w' => e = .returned (.tuple #[]) ∧ Kd.R (Kd.int .u8) 5 w' w0.heap.size (fun k_ => (P0_ k_ ∨ w.heap.size ≤ k_)) u9000_ r ∧ Below w0.heap.size w0 w' ∧ Kept w w' (fun k_ => P0_ k_) := by
 have HO0 := Ya.mk (show Kd.R (Kd.int .u8) 5 w w0.heap.size (fun k_ => (P0_ k_ ∨ w.heap.size ≤ k_)) u9000_ l0 from Kd.R_mono ho0 (fun k_ hk => (.inl hk)))
 have HK := Ya.mk (Kept.refl w (fun k_ => P0_ k_))
 have HE := Ya.mk hE
 clear hE
 have HW0 := Ya.mk hB.size
 have HB := Ya.mk hB
 clear hB
 have H : (Yg.l0 k l0 0 (wrap64 ((l0.length : Int) - 1))) = some r := h
 clear h
 have H' := Ya.mk H
 clear H
 obtain ⟨Ao2, co2, eo2⟩ := Kd.R_slice HO0.out
 subst eo2
 go_enter Tryz.func66, Tryz.ntmps66
 go_wp2
 go_loopg [2, 3] k (fun kq v2 v3 w' => ∃ (x0_1 : List Int) (x2_1 : Int) (x3_1 : Int), v2 = .int .i64 x2_1 ∧ v3 = .int .i64 x3_1 ∧ Ya (Yg.l0 kq x0_1 x2_1 x3_1 = some r) ∧ Ya (kq ≤ k) ∧ Ya (Kd.R (Kd.int .u8) 5 w' w0.heap.size (fun k_ => (P0_ k_ ∨ w.heap.size ≤ k_)) (.slice Ao2 l0.length co2) x0_1) ∧ Ya (Kept w w' (fun k_ => P0_ k_)) ∧ Ya (Below w0.heap.size w0 w'))
 case atStart => exact ⟨(l0), (0), (wrap64 ((l0.length : Int) - 1)), Zf, Zf, H', ⟨Nat.le_refl _⟩, ⟨by (with_reducible repeat (first | apply Kd.R_alloc | apply Kd.R_drewN | apply Kd.R_drew)); exact HO0.out⟩, ⟨by repeat (first | (with_reducible first | exact HK.out | apply Kept.alloc | apply Kept.drewN | apply Kept.drew) | exact HK.out)⟩, ⟨Zc⟩⟩
 case round =>
  clear H'
  try clear p2
  obtain ⟨x0_1, x2_1, x3_1, rfl, rfl, HA, HK1, HO_0, HK, HB⟩ := hrel
  have hl0_1 := (Kd.R_reads' HO_0.out).1
  rw [hl0_1] at HO_0
  (try simp only [hl0_1])
  cases gk with
  | zero => exact absurd HA.out (by simp [Yg.l0])
  | succ k1 =>
   have H := HA.out
   clear HA
   simp only [Yg.l0] at H
   by_cases c3 : x2_1 < x3_1
   rotate_left
   ·rw [if_neg c3] at H
    have c3b0 : decide (x2_1 < x3_1) = false := decide_eq_false c3
    clear c3
    obtain rfl := Option.some.inj H
    go_wp2
    first | go_end0 | ((try simp only [Exit.inBlock, Exit.then]); refine bodyPost_ret (results_none rfl _ _ _) rfl ?_)
    exact ⟨Zj, (by first | exact (by (with_reducible repeat (first | apply Kd.R_alloc | apply Kd.R_drewN | apply Kd.R_drew)); exact HO_0.out) | (simp only [hl0_1]; exact (by (with_reducible repeat (first | apply Kd.R_alloc | apply Kd.R_drewN | apply Kd.R_drew)); exact HO_0.out))), Zc, by repeat (first | (with_reducible first | exact HK.out | apply Kept.alloc | apply Kept.drewN | apply Kept.drew) | exact HK.out)⟩
   rw [if_pos c3] at H
   have c3b0 : decide (x2_1 < x3_1) = true := decide_eq_true c3
   clear c3
   by_cases c4 : 0 ≤ x3_1
   rotate_left
   ·rw [if_neg c4] at H
    exact absurd H Zy
   rw [if_pos c4] at H
   have c4b0 : decide (0 ≤ x3_1) = true := decide_eq_true c4
   clear c4
   by_cases c5 : x3_1 < (x0_1.length : Int)
   rotate_left
   ·rw [if_neg c5] at H
    exact absurd H Zy
   rw [if_pos c5] at H
   have c5b0 : decide (x3_1 < (x0_1.length : Int)) = true := decide_eq_true c5
   clear c5
   by_cases c6 : 0 ≤ x2_1
   rotate_left
   ·rw [if_neg c6] at H
    exact absurd H Zy
   rw [if_pos c6] at H
   have c6b0 : decide (0 ≤ x2_1) = true := decide_eq_true c6
   clear c6
   by_cases c7 : x2_1 < (x0_1.length : Int)
   rotate_left
   ·rw [if_neg c7] at H
    exact absurd H Zy
   rw [if_pos c7] at H
   have c7b0 : decide (x2_1 < (x0_1.length : Int)) = true := decide_eq_true c7
   clear c7
   obtain ⟨y117, hy117⟩ : ∃ y_ : List Int, y_ = (x0_1.set (x2_1 : Int).toNat (rd x0_1 x3_1)) := ⟨_, rfl⟩
   replace H : (Yg.l0 k1 (y117.set (x3_1 : Int).toNat (rd x0_1 x2_1)) (wrap64 (x2_1 + 1)) (wrap64 (x3_1 - 1))) = some r := by first | (rw [hy117]; with_reducible exact H) | (have H2_ := (Option.bind_some _ _).symm.trans H; rw [hy117]; with_reducible exact H2_) | (have H2_ := (Option.bind_some _ _).symm.trans H; with_reducible exact H2_) | with_reducible exact H | (rw [hy117]; exact H) | exact H
   have Ny117 := Ya.mk hy117
   clear hy117
   obtain ⟨y118, hy118⟩ : ∃ y_ : List Int, y_ = (y117.set (x3_1 : Int).toNat (rd x0_1 x2_1)) := ⟨_, rfl⟩
   replace H : (Yg.l0 k1 y118 (wrap64 (x2_1 + 1)) (wrap64 (x3_1 - 1))) = some r := by first | (rw [hy118]; with_reducible exact H) | (have H2_ := (Option.bind_some _ _).symm.trans H; rw [hy118]; with_reducible exact H2_) | (have H2_ := (Option.bind_some _ _).symm.trans H; with_reducible exact H2_) | with_reducible exact H | (rw [hy118]; exact H) | exact H
   have Ny118 := Ya.mk hy118
   clear hy118
   have H' := Ya.mk H
   clear H
   try go_wp2
   have n0_ := Ya.mk (Kd.R_drew HO_0.out)
   have n1_ := Ya.mk (Kept.drew HK.out)
   have n2_ := Ya.mk (Yd HB.out)
   clear HO_0
   clear HK
   clear HB
   have HO_0 := n0_
   have HK := n1_
   have HB := n2_
   clear n0_ n1_ n2_
   have p115 : 0 ≤ (x3_1 : Int) := of_decide_eq_true Zh
   have q115 : x3_1 < (x0_1.length : Int) := of_decide_eq_true Zh
   obtain ⟨ad115, e115, hx115_0⟩ := Kd.at_int (Kd.R_reads' HO_0.out).2.2 x3_1 p115 q115
   cases e115
   replace p115 := eq_true p115
   replace q115 := eq_true q115
   have p116 : 0 ≤ (x2_1 : Int) := of_decide_eq_true Zh
   have q116 : x2_1 < (x0_1.length : Int) := of_decide_eq_true Zh
   obtain ⟨ad116, e116, hx116_0⟩ := Kd.at_int (Kd.R_reads' HO_0.out).2.2 x2_1 p116 q116
   obtain rfl : ad115 = ad116 := (by injection e116)
   replace p116 := eq_true p116
   replace q116 := eq_true q116
   have p8 : 0 ≤ (x2_1 : Int) := of_decide_eq_true Zh
   have q8 : (x2_1 : Int) < ((x0_1.length : Int) : Int) := of_decide_eq_true Zh
   obtain ⟨go8, co8, eo8, gb8, gl8, cl8, HG8⟩ := Kd.R_form HO_0.out Zk
   (first | cases eo8 | (injection eo8 with ea_ en_ ec_; (first | subst ea_ | (injection ea_ with ea_; subst ea_)); subst ec_; clear en_))
   have GB8 := Ya.mk gb8
   have GG8 := Ya.mk HG8
   clear gb8 gl8 HG8
   have HMgo8 := Ya.mk (show (P0_ go8 ∨ w.heap.size ≤ go8) from (HO_0.out.1 _ rfl))
   (first | simp only [add_plain] at hx115_0 | skip)
   (first | simp only [add_plain] at hx116_0 | skip)
   obtain ⟨hx8_0, hf8_0⟩ := Kd.R_celln 0 HO_0.out (x2_1 : Int) p8 q8
   replace p8 := eq_true p8
   replace q8 := eq_true q8
   have HP11 := Kd.R_putn HO_0.out (x2_1 : Int) (rd x0_1 x3_1)
   rw [← Ny117.out] at HP11
   have HQ11 := Ya.mk HP11
   clear HP11
   have p9 : 0 ≤ (x3_1 : Int) := of_decide_eq_true Zh
   have q9 : (x3_1 : Int) < ((x0_1.length : Int) : Int) := of_decide_eq_true Zh
   obtain ⟨hx9_0, hf9_0⟩ := Kd.R_celln 0 HQ11.out (x3_1 : Int) p9 q9
   replace p9 := eq_true p9
   replace q9 := eq_true q9
   have HP12 := Kd.R_putn HQ11.out (x3_1 : Int) (rd x0_1 x2_1)
   rw [← Ny118.out] at HP12
   have HQ12 := Ya.mk HP12
   clear HP12
   refine Ypi (n := 16) (S := fun w' => w'.cell? ⟨go8, (x3_1).toNat, none⟩ = some (.int .u8 (rd x0_1 x3_1)) ∧ w'.cell? ⟨go8, (x2_1).toNat, none⟩ = some (.int .u8 (rd x0_1 x2_1))) (ds := [13, 15]) #[false, false, false, false, false, false, false, false, false, false, false, false, false, false, false, false] Zg rfl rfl ⟨hx115_0, hx116_0⟩ (fun hHeld => ?_); refine with_tabW Yg.tab3 Yg.bits3 (fun HT_ HW_ => ?_)
   generalize wr.drew = w10 at HO_0 HK HB GG8 HQ11 HQ12 hf8_0 hf9_0 hx115_0 hx116_0 hx8_0 hx9_0 hHeld ⊢
   refine Yuc (i := 0) (N := some 14) (v := ?_) (a' := ?_) #[true, false, false, false, false, false, false, false, false, false, false, false, false, false, false, false] rfl rfl (Ywe HT_.out Zg) (fun _ _ _ h => h) (Or.inl ⟨Zja, ?_⟩) ?_ ?_
   rotate_left
   ·exact Zva
   rotate_left
   ·exact Zwa
   refine Yuc (i := 1) (N := some 15) (v := ?_) (a' := ?_) #[true, true, false, false, false, false, false, false, false, false, false, false, false, false, false, false] rfl rfl (Ywe HT_.out Zg) (fun _ _ _ h => h) (Or.inl ⟨Zja, ?_⟩) ?_ ?_
   rotate_left
   ·exact Zva
   rotate_left
   ·exact Zwa
   refine Yuc (i := 2) (N := some 16) (v := ?_) (a' := ?_) #[true, true, true, false, false, false, false, false, false, false, false, false, false, false, false, false] rfl rfl (Ywe HT_.out Zg) (fun _ _ _ h => h) (Or.inl ⟨Zja, ?_⟩) ?_ ?_
   rotate_left
   ·exact Zva
   rotate_left
   ·exact Zwa
   refine Yuc (i := 3) (N := some 17) (v := ?_) (a' := ?_) #[true, true, true, true, false, false, false, false, false, false, false, false, false, false, false, false] rfl rfl (Ywe HT_.out Zg) (fun _ _ _ h => h) (Or.inl ⟨Zja, ?_⟩) ?_ ?_
   rotate_left
   ·exact Zva
   rotate_left
   ·exact Zwa
   refine Yuc (i := 4) (N := some 18) (v := ?_) (a' := ?_) #[true, true, true, true, true, false, false, false, false, false, false, false, false, false, false, false] rfl rfl (Ywe HT_.out Zg) (fun _ _ _ h => h) (Or.inl ⟨Zja, ?_⟩) ?_ ?_
   rotate_left
   ·exact Zva
   rotate_left
   ·exact Zwa
   refine Yuc (i := 5) (N := some 19) (v := ?_) (a' := ?_) #[true, true, true, true, true, true, false, false, false, false, false, false, false, false, false, false] rfl rfl (Ywe HT_.out Zg) (fun _ _ _ h => h) (Or.inl ⟨Zja, ?_⟩) ?_ ?_
   rotate_left
   ·exact Zva
   rotate_left
   ·exact Zwa
   refine Yuc (i := 6) (N := some 20) (v := ?_) (a' := ?_) #[true, true, true, true, true, true, true, false, false, false, false, false, false, false, false, false] rfl rfl (Ywe HT_.out Zg) (fun _ _ _ h => h) (Or.inl ⟨Zja, ?_⟩) ?_ ?_
   rotate_left
   ·exact Zva
   rotate_left
   ·exact Zwa
   refine Yuc (i := 8) (N := some 22) (v := ?_) (a' := ?_) #[true, true, true, true, true, true, true, false, true, false, false, false, false, false, false, false] rfl rfl (Ywe HT_.out Zg) (fun _ _ _ h => h) (Or.inl ⟨Zja, ?_⟩) ?_ ?_
   rotate_left
   ·exact Zva
   rotate_left
   ·exact Zwa
   refine Yuc (i := 9) (N := some 23) (v := ?_) (a' := ?_) #[true, true, true, true, true, true, true, false, true, true, false, false, false, false, false, false] rfl rfl (Ywe HT_.out Zg) (fun _ _ _ h => h) (Or.inl ⟨Zja, ?_⟩) ?_ ?_
   rotate_left
   ·exact Zva
   rotate_left
   ·exact Zwa
   refine Yuc (i := 10) (N := some 24) (v := ?_) (a' := ?_) #[true, true, true, true, true, true, true, false, true, true, true, false, false, false, false, false] rfl rfl (Ywe HT_.out Zg) (fun _ _ _ h => h) (Or.inl ⟨Zja, ?_⟩) ?_ ?_
   rotate_left
   ·exact Zva
   rotate_left
   ·exact Zwa
   refine Yhg (i := 7) (N := some 21) (v := ?_) (a' := ?_) #[true, true, true, true, true, true, true, true, true, true, true, false, false, false, false, false] rfl rfl (Yin HT_.out HW_.out Zg) (fun _ _ _ h => h) (Or.inl ⟨Zja, ?_⟩) hHeld ?_ ?_
   rotate_left
   ·rintro w' ⟨s0, s1⟩
    go_simp
    with_reducible rfl
   rotate_left
   ·exact Zwa
   refine Yhg (i := 11) (N := some 25) (v := ?_) (a' := ?_) #[true, true, true, true, true, true, true, true, true, true, true, true, false, false, false, false] rfl rfl (Yin HT_.out HW_.out Zg) (fun _ _ _ h => h) (Or.inl ⟨Zja, ?_⟩) hHeld ?_ ?_
   rotate_left
   ·rintro w' ⟨s0, s1⟩
    go_simp
    with_reducible rfl
   rotate_left
   ·exact Zwa
   refine Yuc (i := 12) (N := some 26) (v := ?_) (a' := ?_) #[true, true, true, true, true, true, true, true, true, true, true, true, true, false, false, false] rfl rfl (Ywe HT_.out Zg) (fun _ _ _ h => h) (Or.inl ⟨Zja, ?_⟩) ?_ ?_
   rotate_left
   ·exact Zva
   rotate_left
   ·exact Zwa
   refine last_ (i := 13) (N := none) #[true, true, true, true, true, true, true, true, true, true, true, true, true, true, false, false] rfl rfl (one_of HT_.out Zg) Zq (fun K hK => ?_)
   refine skip_ (w1 := ?_) Zja rfl ?_ ?_
   rotate_left
   ·go_simp
    rfl
   refine hK.out _ _ ?_
   clear hK K
   refine Yuc (i := 14) (N := some 27) (v := ?_) (a' := ?_) #[true, true, true, true, true, true, true, true, true, true, true, true, true, true, true, false] rfl rfl (Ywe HT_.out Zg) (fun _ _ _ h => h) (Or.inl ⟨Zja, ?_⟩) ?_ ?_
   rotate_left
   ·exact Zva
   rotate_left
   ·exact Zwa
   refine last_ (i := 15) (N := none) #[true, true, true, true, true, true, true, true, true, true, true, true, true, true, true, true] rfl rfl (one_of HT_.out Zg) Zq (fun K hK => ?_)
   refine skip_ (w1 := ?_) Zja rfl ?_ ?_
   rotate_left
   ·go_simp
    rfl
   refine hK.out _ _ ?_
   clear hK K
   refine Ywl (done_of HT_.out Zg) ?_
   try go_wp2
   (try simp only [← hl0_1])
   go_roundg k1
   case measure => have := HK1.out; omega
   case rel => exact ⟨(y118), (wrap64 (x2_1 + 1)), (wrap64 (x3_1 - 1)), Zf, Zf, H', ⟨Zga⟩, ⟨by (try simp only [hl0_1]); (with_reducible repeat (first | apply Kd.R_alloc | apply Kd.R_drewN | apply Kd.R_drew)); exact HQ12.out⟩, ⟨by repeat (first | (with_reducible first | exact HK.out | apply Kept.alloc | apply Kept.drewN | apply Kept.drew | refine Kept.setCell ?_ HMgo8.out _ | refine Kept.setCell ?_ HMgo8.out _) | exact HK.out)⟩, ⟨by repeat (first | (with_reducible first | exact HB.out | apply Ye | apply Yb | apply Yd | refine Yh ?_ GB8.out | refine Yh ?_ GB8.out) | exact HB.out)⟩⟩
mutual
def Yla.j0 : Nat → Int → Int → Int → Option (ByteArray)
 | 0, _, _, _ => none
 | k + 1, x0, x1, x5 => Yla.l0 k x0 x1 x5 ([] : List Int)
def Yla.l0 : Nat → Int → Int → Int → List Int → Option (ByteArray)
 | 0, _, _, _, _ => none
 | k + 1, x0, x1, x5, x6 => if x5 > 0 then (if x6.length < 140737488355328 then (Yla.l0 k x0 x1 (IntKind.u64.wrap (Int.tdiv x5 10)) (x6 ++ [(IntKind.u64.wrap (48 + (Int.tmod x5 10))) % 256])) else (none)) else (if (x6.length : Int) < (mx (mn x1 20) 1) then (if x6.length < 140737488355328 then (Yla.l0 k x0 x1 (IntKind.u64.wrap (Int.tdiv x5 10)) (x6 ++ [(IntKind.u64.wrap (48 + (Int.tmod x5 10))) % 256])) else (none)) else (if x0 < 0 then (if x6.length < 140737488355328 then ((Yg.f k (x6 ++ [45])).bind fun t128 => (some (strOfNums t128))) else (none)) else ((Yg.f k x6).bind fun t129 => (some (strOfNums t129)))))
end
def Yla.f (k : Nat) (a0 : Int) (a1 : Int) : Option (ByteArray) := if a0 < 0 then (Yla.j0 k a0 a1 (IntKind.u64.wrap (-(IntKind.u64.wrap (a0))))) else (Yla.j0 k a0 a1 (IntKind.u64.wrap (a0)))
set_option maxHeartbeats 8000000 in
set_option maxRecDepth 100000 in
theorem Yla.calls (k : Nat) (a0 : Int) (a1 : Int) (r : ByteArray) (w : World) (hE : EnvOk w) (h : Yla.f k a0 a1 = some r) :
  Calls Tryz.prog 52 #[.int .i64 a0, .int .i64 a1] w fun e w' => e = .returned (.string r) ∧ Below w.heap.size w w' := by
 have HE := Ya.mk hE
 clear hE
 have HB := Ya.mk (Below.refl w.heap.size w)
 have H : (if a0 < 0 then (Yla.j0 k a0 a1 (IntKind.u64.wrap (-(IntKind.u64.wrap (a0))))) else (Yla.j0 k a0 a1 (IntKind.u64.wrap (a0)))) = some r := h
 clear h
 have HC3 := Ya.mk H
 clear H
 go_enter Tryz.func52, Tryz.ntmps52
 go_upto_if 10 with (fail)
 go_cut [5] (fun v5 wc => ∃ (kq : Nat) (x5_2 : Int), v5 = .int .u64 x5_2 ∧ Ya (Yla.j0 kq a0 a1 x5_2 = some r) ∧ Ya (kq ≤ k) ∧ Ya (Below w.heap.size w wc))
 case first =>
  have H := HC3.out
  clear HC3
  by_cases c4 : a0 < 0
  rotate_left
  ·rw [if_neg c4] at H
   have c4b0 : decide (a0 < 0) = false := decide_eq_false c4
   clear c4
   (first | rw [c4b0] | (simp only [Yza, Yab]; rw [c4b0]) | skip)
   have H' := Ya.mk H
   clear H
   go_wp2
   go_meet
   case rel => exact ⟨_, (IntKind.u64.wrap (a0)), Zf, H', ⟨Zna⟩, ⟨Zc⟩⟩
  rw [if_pos c4] at H
  have c4b0 : decide (a0 < 0) = true := decide_eq_true c4
  clear c4
  (first | rw [c4b0] | (simp only [Yza, Yab]; rw [c4b0]) | skip)
  have H' := Ya.mk H
  clear H
  go_wp2
  go_meet
  case rel => exact ⟨_, (IntKind.u64.wrap (-(IntKind.u64.wrap (a0)))), Zf, H', ⟨Zna⟩, ⟨Zc⟩⟩
 case rest =>
  clear HC3
  try clear p2
  try clear c4
  try clear c4b0
  obtain ⟨kq, x5_2, rfl, HA, HJ2, HB⟩ := hcut
  cases kq with
  | zero => exact absurd HA.out (by simp [Yla.j0])
  | succ kj2 =>
   have H := HA.out
   clear HA
   simp only [Yla.j0] at H
   have H' := Ya.mk H
   clear H
   go_wp2
   go_loopg [5, 6] kj2 (fun kq v5 v6 w' => ∃ (x5_2 : Int) (x6_2 : List Int), v5 = .int .u64 x5_2 ∧ Ya (Yla.l0 kq a0 a1 x5_2 x6_2 = some r) ∧ Ya (kq ≤ kj2) ∧ Ya (Kd.R (Kd.int .u8) 5 w' w.heap.size (fun _ => True) v6 x6_2) ∧ Ya (Below w.heap.size w w'))
   case atStart => exact ⟨(x5_2), (([] : List Int)), Zf, H', ⟨Nat.le_refl _⟩, ⟨Zx⟩, ⟨Zc⟩⟩
   case round =>
    clear H'
    try clear p2
    try clear c4
    try clear c4b0
    try clear p2
    obtain ⟨x5_2, x6_2, rfl, HA, HK2, HO_6, HB⟩ := hrel
    cases gk with
    | zero => exact absurd HA.out (by simp [Yla.l0])
    | succ k2 =>
     have H := HA.out
     clear HA
     simp only [Yla.l0] at H
     by_cases c5 : x5_2 > 0
     ·rw [if_pos c5] at H
      have c5b0 : decide (0 < x5_2) = true := decide_eq_true c5
      clear c5
      by_cases c6 : x6_2.length < 140737488355328
      rotate_left
      ·rw [if_neg c6] at H
       exact absurd H Zy
      rw [if_pos c6] at H
      have LMc6 := Ya.mk c6
      clear c6
      obtain ⟨y119, hy119⟩ : ∃ y_ : List Int, y_ = (x6_2 ++ [(IntKind.u64.wrap (48 + (Int.tmod x5_2 10))) % 256]) := ⟨_, rfl⟩
      replace H : (Yla.l0 k2 a0 a1 (IntKind.u64.wrap (Int.tdiv x5_2 10)) y119) = some r := by first | (rw [hy119]; with_reducible exact H) | (have H2_ := (Option.bind_some _ _).symm.trans H; rw [hy119]; with_reducible exact H2_) | (have H2_ := (Option.bind_some _ _).symm.trans H; with_reducible exact H2_) | with_reducible exact H | (rw [hy119]; exact H) | exact H
      have Ny119 := Ya.mk hy119
      clear hy119
      have H' := Ya.mk H
      clear H
      go_wp2_with (first | ((with_reducible refine Ynd (b := .append) (xs := #[.tmp 23, .tmp 28]) rfl ?_); (try (refine Ynh Zja ?_; dsimp only)); at_builtin; refine Kd.R_append (Kd.int .u8) (w0 := w) w.heap.size rfl (.tmp 23) (.tmp 28) 111 5 (.int .u8 0) 1 rfl Tryz.underlying111 info5 rfl Zq Zk u6 x6_2 ((IntKind.u64.wrap (48 + (Int.tmod x5_2 10))) % 256) [.int .u8 ((IntKind.u64.wrap (48 + (Int.tmod x5_2 10))) % 256)] (fun _ => True) (fun _ => False) rfl rfl ?aP (fun _ hk => hk.elim) ?aF ?aO ?aB ?aS ?aL ?_; (case aP => exact rfl); (case aB => exact Zc); (case aF => exact (fun _ _ => trivial)); (case aO => exact Zfa); (case aS => exact (Yfa Zc)); (case aL => have := LMc6.out; omega); intro v120 w7 ho hb hg hat; rw [← Ny119.out] at ho; have n0_ := Ya.mk (hb); have n1_ := Ya.mk (ho); clear HB; clear HO_6; have HB := n0_; have HO121 := n1_; clear n0_ n1_; clear ho hb hg hat))
      go_roundg k2
      case measure => have := HJ2.out; have := HK2.out; omega
      case rel => exact ⟨(IntKind.u64.wrap (Int.tdiv x5_2 10)), (y119), Zf, H', ⟨Zma⟩, ⟨by (with_reducible repeat (first | apply Kd.R_alloc | apply Kd.R_drewN | apply Kd.R_drew)); exact HO121.out⟩, ⟨Zc⟩⟩
     rw [if_neg c5] at H
     have c5b0 : decide (0 < x5_2) = false := decide_eq_false c5
     clear c5
     obtain ⟨ji8, hji8⟩ : ∃ j_ : Int, (mn a1 20) = j_ := ⟨_, rfl⟩
     replace H : (if (x6_2.length : Int) < (mx (ji8) 1) then (if x6_2.length < 140737488355328 then (Yla.l0 k2 a0 a1 (IntKind.u64.wrap (Int.tdiv x5_2 10)) (x6_2 ++ [(IntKind.u64.wrap (48 + (Int.tmod x5_2 10))) % 256])) else (none)) else (if a0 < 0 then (if x6_2.length < 140737488355328 then ((Yg.f k2 (x6_2 ++ [45])).bind fun t128 => (some (strOfNums t128))) else (none)) else ((Yg.f k2 x6_2).bind fun t129 => (some (strOfNums t129))))) = some r := by first | (rw [hji8] at H; exact H) | (simp only [hji8] at H ⊢; exact H)
     have hji8_ : (if 20 < a1 then 20 else a1) = ji8 := hji8
     obtain ⟨ji9, hji9⟩ : ∃ j_ : Int, (mx (ji8) 1) = j_ := ⟨_, rfl⟩
     replace H : (if (x6_2.length : Int) < (ji9) then (if x6_2.length < 140737488355328 then (Yla.l0 k2 a0 a1 (IntKind.u64.wrap (Int.tdiv x5_2 10)) (x6_2 ++ [(IntKind.u64.wrap (48 + (Int.tmod x5_2 10))) % 256])) else (none)) else (if a0 < 0 then (if x6_2.length < 140737488355328 then ((Yg.f k2 (x6_2 ++ [45])).bind fun t128 => (some (strOfNums t128))) else (none)) else ((Yg.f k2 x6_2).bind fun t129 => (some (strOfNums t129))))) = some r := by first | (rw [hji9] at H; exact H) | (simp only [hji9] at H ⊢; exact H)
     have hji9_ : (if (ji8) < 1 then 1 else (ji8)) = ji9 := hji9
     by_cases c10 : (x6_2.length : Int) < (ji9)
     ·rw [if_pos c10] at H
      have c10b0 : decide ((x6_2.length : Int) < (ji9)) = true := decide_eq_true c10
      clear c10
      by_cases c11 : x6_2.length < 140737488355328
      rotate_left
      ·rw [if_neg c11] at H
       exact absurd H Zy
      rw [if_pos c11] at H
      have LMc11 := Ya.mk c11
      clear c11
      obtain ⟨y122, hy122⟩ : ∃ y_ : List Int, y_ = (x6_2 ++ [(IntKind.u64.wrap (48 + (Int.tmod x5_2 10))) % 256]) := ⟨_, rfl⟩
      replace H : (Yla.l0 k2 a0 a1 (IntKind.u64.wrap (Int.tdiv x5_2 10)) y122) = some r := by first | (rw [hy122]; with_reducible exact H) | (have H2_ := (Option.bind_some _ _).symm.trans H; rw [hy122]; with_reducible exact H2_) | (have H2_ := (Option.bind_some _ _).symm.trans H; with_reducible exact H2_) | with_reducible exact H | (rw [hy122]; exact H) | exact H
      have Ny122 := Ya.mk hy122
      clear hy122
      have H' := Ya.mk H
      clear H
      obtain ⟨Ao12, co12, eo12⟩ := Kd.R_slice HO_6.out
      subst eo12
      go_wp2_with (first | ((with_reducible refine Ynd (b := .append) (xs := #[.tmp 23, .tmp 28]) rfl ?_); (try (refine Ynh Zja ?_; dsimp only)); at_builtin; refine Kd.R_append (Kd.int .u8) (w0 := w) w.heap.size rfl (.tmp 23) (.tmp 28) 111 5 (.int .u8 0) 1 rfl Tryz.underlying111 info5 rfl Zq Zk (.slice Ao12 x6_2.length co12) x6_2 ((IntKind.u64.wrap (48 + (Int.tmod x5_2 10))) % 256) [.int .u8 ((IntKind.u64.wrap (48 + (Int.tmod x5_2 10))) % 256)] (fun _ => True) (fun _ => False) rfl rfl ?aP (fun _ hk => hk.elim) ?aF ?aO ?aB ?aS ?aL ?_; (case aP => exact rfl); (case aB => exact Zc); (case aF => exact (fun _ _ => trivial)); (case aO => exact Zfa); (case aS => exact (Yfa Zc)); (case aL => have := LMc11.out; omega); intro v123 w13 ho hb hg hat; rw [← Ny122.out] at ho; have n0_ := Ya.mk (hb); have n1_ := Ya.mk (ho); clear HB; clear HO_6; have HB := n0_; have HO124 := n1_; clear n0_ n1_; clear ho hb hg hat))
      go_roundg k2
      case measure => have := HJ2.out; have := HK2.out; omega
      case rel => exact ⟨(IntKind.u64.wrap (Int.tdiv x5_2 10)), (y122), Zf, H', ⟨Zma⟩, ⟨by (with_reducible repeat (first | apply Kd.R_alloc | apply Kd.R_drewN | apply Kd.R_drew)); exact HO124.out⟩, ⟨Zc⟩⟩
     rw [if_neg c10] at H
     have c10b0 : decide ((x6_2.length : Int) < (ji9)) = false := decide_eq_false c10
     clear c10
     by_cases c14 : a0 < 0
     rotate_left
     ·rw [if_neg c14] at H
      have c14b0 : decide (a0 < 0) = false := decide_eq_false c14
      clear c14
      replace H := Option.bind_eq_some_iff.mp H
      obtain ⟨t129, A220, H⟩ := H
      try dsimp -simprocs only at H
      have A22 := Ya.mk A220
      clear A220
      obtain rfl := Option.some.inj H
      obtain ⟨Ao23, co23, eo23⟩ := Kd.R_slice HO_6.out
      subst eo23
      go_wp2_with (first | ((with_reducible refine Yi (f := 66) rfl ?_); refine Yp (some 38) rfl rfl Tryz.func66 Zg rfl #[.slice Ao23 x6_2.length co23] rfl Zb ?_; (with_reducible refine (Yg.calls k2 (fun k_ => some k_ = (.slice Ao23 x6_2.length co23 : Value).ownBlock) (.slice Ao23 x6_2.length co23) x6_2 t129 w _ ?side1 ?side2 ?side3 A22.out).mono ?_); (case side1 => exact HE.out); (case side2 => repeat (first | (with_reducible first | exact HB.out | apply Ye | apply Yb | apply Yd) | exact HB.out)); (case side3 => exact Kd.R_tight rfl HO_6.out); rintro e w24 ⟨rfl, hy0, hb, hkp⟩; refine ⟨_, rfl, ?_⟩; have n0_ := Ya.mk (Kd.R_reok rfl hy0 (fun k_ e_ => HO_6.out.1 k_ e_)); have n1_ := Ya.mk (hb); clear HO_6; clear HB; have HO_6 := n0_; have HB := n1_; clear n0_ n1_; (try clear hb); (try clear hkp); (try clear hy0); have hcv25 := Ynj (P := Tryz.prog) Tryz.underlying111 Tryz.underlying5 Tryz.underlying9 (Kd.own_of_R HO_6.out)))
      go_ret
      exact ⟨by first | rfl | (simp [Yk, Yl] <;> rfl) | (simp only [← hji8, ← hji9]; first | rfl | (simp [Yk, Yl] <;> rfl)) | (simp [*, Yk, Yl] <;> rfl), Zc⟩
     rw [if_pos c14] at H
     have c14b0 : decide (a0 < 0) = true := decide_eq_true c14
     clear c14
     by_cases c15 : x6_2.length < 140737488355328
     rotate_left
     ·rw [if_neg c15] at H
      exact absurd H Zy
     rw [if_pos c15] at H
     have LMc15 := Ya.mk c15
     clear c15
     obtain ⟨y125, hy125⟩ : ∃ y_ : List Int, y_ = (x6_2 ++ [45]) := ⟨_, rfl⟩
     replace H : ((Yg.f k2 y125).bind fun t128 => (some (strOfNums t128))) = some r := by first | (rw [hy125]; with_reducible exact H) | (have H2_ := (Option.bind_some _ _).symm.trans H; rw [hy125]; with_reducible exact H2_) | (have H2_ := (Option.bind_some _ _).symm.trans H; with_reducible exact H2_) | with_reducible exact H | (rw [hy125]; exact H) | exact H
     have Ny125 := Ya.mk hy125
     clear hy125
     replace H := Option.bind_eq_some_iff.mp H
     obtain ⟨t128, A160, H⟩ := H
     try dsimp -simprocs only at H
     have A16 := Ya.mk A160
     clear A160
     obtain rfl := Option.some.inj H
     obtain ⟨Ao17, co17, eo17⟩ := Kd.R_slice HO_6.out
     subst eo17
     go_wp2_with (first | ((with_reducible refine Ynd (b := .append) (xs := #[.tmp 34, .tmp 35]) rfl ?_); (try (refine Ynh Zja ?_; dsimp only)); at_builtin; refine Kd.R_append (Kd.int .u8) (w0 := w) w.heap.size rfl (.tmp 34) (.tmp 35) 111 5 (.int .u8 0) 1 rfl Tryz.underlying111 info5 rfl Zq Zk (.slice Ao17 x6_2.length co17) x6_2 45 [.int .u8 45] (fun _ => True) (fun _ => False) rfl rfl ?aP (fun _ hk => hk.elim) ?aF ?aO ?aB ?aS ?aL ?_; (case aP => exact rfl); (case aB => exact Zc); (case aF => exact (fun _ _ => trivial)); (case aO => exact Zfa); (case aS => exact (Yfa Zc)); (case aL => have := LMc15.out; omega); intro v126 w18 ho hb hg hat; rw [← Ny125.out] at ho; have n0_ := Ya.mk (hb); have n1_ := Ya.mk (ho); clear HB; clear HO_6; have HB := n0_; have HO127 := n1_; clear n0_ n1_; clear ho hb hg hat; obtain ⟨Ao19, co19, eo19⟩ := Kd.R_slice HO127.out; subst eo19) | ((with_reducible refine Yi (f := 66) rfl ?_); refine Yp (some 38) rfl rfl Tryz.func66 Zg rfl #[.slice Ao19 y125.length co19] rfl Zb ?_; (with_reducible refine (Yg.calls k2 (fun k_ => some k_ = (.slice Ao19 y125.length co19 : Value).ownBlock) (.slice Ao19 y125.length co19) y125 t128 w _ ?side1 ?side2 ?side3 A16.out).mono ?_); (case side1 => exact HE.out); (case side2 => repeat (first | (with_reducible first | exact HB.out | apply Ye | apply Yb | apply Yd) | exact HB.out)); (case side3 => exact Kd.R_tight rfl HO127.out); rintro e w20 ⟨rfl, hy0, hb, hkp⟩; refine ⟨_, rfl, ?_⟩; have n0_ := Ya.mk (Kd.R_reok rfl hy0 (fun k_ e_ => HO127.out.1 k_ e_)); have n1_ := Ya.mk (hb); clear HO127; clear HB; have HO127 := n0_; have HB := n1_; clear n0_ n1_; (try clear hb); (try clear hkp); (try clear hy0); have hcv21 := Ynj (P := Tryz.prog) Tryz.underlying111 Tryz.underlying5 Tryz.underlying9 (Kd.own_of_R HO127.out)))
     go_ret
     exact ⟨by first | rfl | (simp [Yk, Yl] <;> rfl) | (simp only [← hji8, ← hji9]; first | rfl | (simp [Yk, Yl] <;> rfl)) | (simp [*, Yk, Yl] <;> rfl), Zc⟩
def Yrb.f (k : Nat) (a0 : Int) : Option (ByteArray) := (Yla.f k a0 1).bind fun t130 => (some t130)
set_option maxHeartbeats 8000000 in
set_option maxRecDepth 100000 in
theorem Yrb.calls (k : Nat) (a0 : Int) (r : ByteArray) (w : World) (hE : EnvOk w) (h : Yrb.f k a0 = some r) :
  Calls Tryz.prog 35 #[.int .i64 a0] w fun e w' => e = .returned (.string r) ∧ Below w.heap.size w w' := by
 have HE := Ya.mk hE
 clear hE
 have HB := Ya.mk (Below.refl w.heap.size w)
 have H : ((Yla.f k a0 1).bind fun t130 => (some t130)) = some r := h
 clear h
 replace H := Option.bind_eq_some_iff.mp H
 obtain ⟨t130, A20, H⟩ := H
 try dsimp -simprocs only at H
 have A2 := Ya.mk A20
 clear A20
 obtain rfl := Option.some.inj H
 go_enter Tryz.func35, Tryz.ntmps35
 go_wp2_with (first | ((with_reducible refine Yi (f := 52) rfl ?_); refine Yp (some 4) rfl rfl Tryz.func52 Zg rfl #[.int .i64 a0, .int .i64 1] rfl Zb ?_; (with_reducible refine (Yla.calls k a0 1 t130 _ ?side1 A2.out).mono ?_); (case side1 => first | exact HE.out | exact EnvOk.below HE.out Zc); rintro e w3 ⟨rfl, hb⟩; refine ⟨_, rfl, ?_⟩; have n0_ := Ya.mk (Yn Zc hb); clear HB; have HB := n0_; clear n0_; (try clear hb); (try clear hb2); (try clear hk); (try clear hi)))
 go_ret
 exact ⟨Zj, Zc⟩
def Yxb.f (k : Nat) (a0 : ByteArray) : Option (Bool) := (Ym.f k a0 255).bind fun bt131 => (if bt131.2 = 0 then ((Yrb.f k bt131.1).bind fun t133 => (some (t133.toList == a0.toList))) else (some false))
set_option maxHeartbeats 8000000 in
set_option maxRecDepth 100000 in
theorem Yxb.calls (k : Nat) (a0 : ByteArray) (r : Bool) (w : World) (hE : EnvOk w) (h : Yxb.f k a0 = some r) :
  Calls Tryz.prog 127 #[.string a0] w fun e w' => e = .returned (.bool r) ∧ Below w.heap.size w w' := by
 have HE := Ya.mk hE
 clear hE
 have HB := Ya.mk (Below.refl w.heap.size w)
 have H : ((Ym.f k a0 255).bind fun bt131 => (if bt131.2 = 0 then ((Yrb.f k bt131.1).bind fun t133 => (some (t133.toList == a0.toList))) else (some false))) = some r := h
 clear h
 replace H := Option.bind_eq_some_iff.mp H
 obtain ⟨⟨t131, t132⟩, A20, H⟩ := H
 try dsimp -simprocs only at H
 have A2 := Ya.mk A20
 clear A20
 by_cases c3 : t132 = 0
 rotate_left
 ·rw [if_neg c3] at H
  have c3b0 : (t132 == 0) = false := beq_eq_false_iff_ne.mpr c3
  have c3b1 : (t132 != 0) = true := bne_iff_ne.mpr c3
  obtain rfl := Option.some.inj H
  go_enter Tryz.func127, Tryz.ntmps127
  go_wp2_with (first | ((with_reducible refine Yi (f := 62) rfl ?_); refine Yp (some 7) rfl rfl Tryz.func62 Zg rfl #[.string a0, .int .i64 255] rfl Zb ?_; (with_reducible refine (Ym.calls k a0 255 t131 t132 _ ?side1 A2.out).mono ?_); (case side1 => first | exact HE.out | exact EnvOk.below HE.out Zc); rintro e w' ⟨rfl, ⟨nd, rfl⟩⟩; refine ⟨_, rfl, ?_⟩))
  go_ret
  exact ⟨Zj, Zc⟩
 rw [if_pos c3] at H
 have c3b0 : (t132 == 0) = true := beq_iff_eq.mpr c3
 have c3b1 : (t132 != 0) = false := bne_eq_false_iff_eq.mpr c3
 clear c3
 replace H := Option.bind_eq_some_iff.mp H
 obtain ⟨t133, A40, H⟩ := H
 try dsimp -simprocs only at H
 have A4 := Ya.mk A40
 clear A40
 obtain rfl := Option.some.inj H
 go_enter Tryz.func127, Tryz.ntmps127
 go_wp2_with (first | ((with_reducible refine Yi (f := 62) rfl ?_); refine Yp (some 7) rfl rfl Tryz.func62 Zg rfl #[.string a0, .int .i64 255] rfl Zb ?_; (with_reducible refine (Ym.calls k a0 255 t131 t132 _ ?side1 A2.out).mono ?_); (case side1 => first | exact HE.out | exact EnvOk.below HE.out Zc); rintro e w' ⟨rfl, ⟨nd, rfl⟩⟩; refine ⟨_, rfl, ?_⟩) | (go_at_call 35; (with_reducible refine (Yrb.calls k t131 t133 _ ?side1 A4.out).mono ?_); (case side1 => first | exact HE.out | exact EnvOk.below HE.out Zc); rintro e w5 ⟨rfl, hb⟩; have n0_ := Ya.mk (Yn Zc hb); clear HB; have HB := n0_; clear n0_; (try clear hb); (try clear hb2); (try clear hk); (try clear hi)))
 go_ret
 exact ⟨Zj, Zc⟩
def Yt.l0 : Nat → ByteArray → List ByteArray → Bool → List ByteArray → Int → Int → Option (Bool)
 | 0, _, _, _, _, _, _ => none
 | k + 1, x0, x3, x4, x14, x15, x16 => if x16 < x15 then (if 0 ≤ x16 then (if x16 < (x14.length : Int) then ((Yu.f k (rdOf ByteArray.empty x14 x16)).bind fun t141 => (if t141 = true then (if x4 = true then ((Yxb.f k (rdOf ByteArray.empty x14 x16)).bind fun t142 => (Yt.l0 k x0 x3 t142 x14 x15 (wrap64 (x16 + 1)))) else (Yt.l0 k x0 x3 false x14 x15 (wrap64 (x16 + 1)))) else (some false))) else (none)) else (none)) else (if 0 ≤ (wrap64 ((x3.length : Int) - 1)) then (if (wrap64 ((x3.length : Int) - 1)) < (x3.length : Int) then ((Ym.f k (rdOf ByteArray.empty x3 (wrap64 ((x3.length : Int) - 1))) 0).bind fun bt138 => (if (x0.size : Int) ≤ 253 then (if bt138.2 = 3 then (some true) else (some x4)) else (some false))) else (none)) else (none))
def Yt.f (k : Nat) (a0 : ByteArray) : Option (Bool) := (Ys.f k a0 46).bind fun t134 => (Yt.l0 k a0 t134 ((t134.length : Int) == 4) t134 (t134.length : Int) 0)
set_option maxHeartbeats 8000000 in
set_option maxRecDepth 100000 in
theorem Yt.calls (k : Nat) (a0 : ByteArray) (r : Bool) (w : World) (hE : EnvOk w) (h : Yt.f k a0 = some r) :
  Calls Tryz.prog 103 #[.string a0] w fun e w' => e = .returned (.bool r) ∧ Below w.heap.size w w' := by
 have HE := Ya.mk hE
 clear hE
 have HB := Ya.mk (Below.refl w.heap.size w)
 have H : ((Ys.f k a0 46).bind fun t134 => (Yt.l0 k a0 t134 ((t134.length : Int) == 4) t134 (t134.length : Int) 0)) = some r := h
 clear h
 replace H := Option.bind_eq_some_iff.mp H
 obtain ⟨t134, A20, H⟩ := H
 try dsimp -simprocs only at H
 have A2 := Ya.mk A20
 clear A20
 have H' := Ya.mk H
 clear H
 go_enter Tryz.func103, Tryz.ntmps103
 go_wp2_with (first | ((with_reducible refine Yi (f := 104) rfl ?_); refine Yp (some 10) rfl rfl Tryz.func104 Zg rfl #[.string a0, .int .u8 46] rfl Zb ?_; (with_reducible refine (Ys.calls k a0 46 t134 _ ?side1 A2.out).mono ?_); (case side1 => first | exact HE.out | exact EnvOk.below HE.out Zc); rintro e w3 ⟨v135, rfl, ho0, hb⟩; refine ⟨_, rfl, ?_⟩; have n0_ := Ya.mk (Kd.R_lower ho0 (Yfa Zc)); have n1_ := Ya.mk (Yn Zc hb); clear HB; have HO136 := n0_; have HB := n1_; clear n0_ n1_; (try clear hb); (try clear hb2); (try clear hk); (try clear hi); (try clear ho0); obtain ⟨Ao4, co4, eo4⟩ := Kd.R_slice HO136.out; subst eo4))
 go_loopg [4, 16] k (fun kq v4 v16 w' => ∃ (x4_1 : Bool) (x16_1 : Int), v4 = .bool x4_1 ∧ v16 = .int .i64 x16_1 ∧ Ya (Yt.l0 kq a0 t134 x4_1 t134 (t134.length : Int) x16_1 = some r) ∧ Ya (kq ≤ k) ∧ Ya (Kd.R Kd.string 9 w' w.heap.size (fun _ => True) (.slice Ao4 t134.length co4) t134) ∧ Ya (Kd.R Kd.string 9 w' w.heap.size (fun _ => True) (.slice Ao4 t134.length co4) t134) ∧ Ya (Below w.heap.size w w'))
 case atStart => exact ⟨(((t134.length : Int) == 4)), (0), Zf, Zf, H', ⟨Nat.le_refl _⟩, ⟨by (with_reducible repeat (first | apply Kd.R_alloc | apply Kd.R_drewN | apply Kd.R_drew)); exact HO136.out⟩, ⟨by (with_reducible repeat (first | apply Kd.R_alloc | apply Kd.R_drewN | apply Kd.R_drew)); exact HO136.out⟩, ⟨Zc⟩⟩
 case round =>
  clear H'
  try clear c1
  try clear p2
  obtain ⟨x4_1, x16_1, rfl, rfl, HA, HK1, HO_3, HO_14, HB⟩ := hrel
  cases gk with
  | zero => exact absurd HA.out (by simp [Yt.l0])
  | succ k1 =>
   have H := HA.out
   clear HA
   simp only [Yt.l0] at H
   by_cases c5 : x16_1 < (t134.length : Int)
   rotate_left
   ·rw [if_neg c5] at H
    have c5b0 : decide (x16_1 < (t134.length : Int)) = false := decide_eq_false c5
    clear c5
    obtain ⟨ji13, hji13⟩ : ∃ j_ : Int, (wrap64 ((t134.length : Int) - 1)) = j_ := ⟨_, rfl⟩
    replace H : (if 0 ≤ (ji13) then (if (ji13) < (t134.length : Int) then ((Ym.f k1 (rdOf ByteArray.empty t134 (ji13)) 0).bind fun bt138 => (if (a0.size : Int) ≤ 253 then (if bt138.2 = 3 then (some true) else (some x4_1)) else (some false))) else (none)) else (none)) = some r := by first | (rw [hji13] at H; exact H) | (simp only [hji13] at H ⊢; exact H)
    have hji13w : (IntKind.i64.wrap ((t134.length : Int) - 1)) = ji13 := (Yza _).trans hji13
    by_cases c14 : 0 ≤ (ji13)
    rotate_left
    ·rw [if_neg c14] at H
     exact absurd H Zy
    rw [if_pos c14] at H
    have c14b0 : decide (0 ≤ (ji13)) = true := decide_eq_true c14
    clear c14
    by_cases c15 : (ji13) < (t134.length : Int)
    rotate_left
    ·rw [if_neg c15] at H
     exact absurd H Zy
    rw [if_pos c15] at H
    have c15b0 : decide ((ji13) < (t134.length : Int)) = true := decide_eq_true c15
    clear c15
    replace H := Option.bind_eq_some_iff.mp H
    obtain ⟨⟨t138, t139⟩, A160, H⟩ := H
    try dsimp -simprocs only at H
    have A16 := Ya.mk A160
    clear A160
    by_cases c17 : (a0.size : Int) ≤ 253
    rotate_left
    ·rw [if_neg c17] at H
     have c17b0 : decide ((a0.size : Int) ≤ 253) = false := decide_eq_false c17
     have c17b1 : decide (a0.size ≤ 253) = false := decide_eq_false Zk
     clear c17
     obtain rfl := Option.some.inj H
     have p137 : 0 ≤ ((ji13) : Int) := of_decide_eq_true Zh
     have q137 : (ji13) < (t134.length : Int) := of_decide_eq_true Zh
     obtain ⟨ad137, e137, hx137_0⟩ := Kd.at_string (Kd.R_reads' HO_3.out).2.2 (ji13) p137 q137
     cases e137
     replace p137 := eq_true p137
     replace q137 := eq_true q137
     go_wp2_with (first | ((with_reducible refine Yi (f := 62) rfl ?_); refine Yp (some 36) rfl rfl Tryz.func62 Zg rfl #[.string (rdOf ByteArray.empty t134 (ji13)), .int .i64 0] rfl Zv ?_; (with_reducible refine (Ym.calls k1 (rdOf ByteArray.empty t134 (ji13)) 0 t138 t139 _ ?side1 A16.out).mono ?_); (case side1 => first | exact HE.out | exact EnvOk.below HE.out Zc); rintro e w' ⟨rfl, ⟨nd, rfl⟩⟩; refine ⟨_, rfl, ?_⟩))
     go_ret
     exact ⟨Zz, Zc⟩
    rw [if_pos c17] at H
    have c17b0 : decide ((a0.size : Int) ≤ 253) = true := decide_eq_true c17
    have c17b1 : decide (a0.size ≤ 253) = true := decide_eq_true Zk
    clear c17
    by_cases c18 : t139 = 3
    rotate_left
    ·rw [if_neg c18] at H
     have c18b0 : (t139 == 3) = false := beq_eq_false_iff_ne.mpr c18
     have c18b1 : (t139 != 3) = true := bne_iff_ne.mpr c18
     obtain rfl := Option.some.inj H
     have p137 : 0 ≤ ((ji13) : Int) := of_decide_eq_true Zh
     have q137 : (ji13) < (t134.length : Int) := of_decide_eq_true Zh
     obtain ⟨ad137, e137, hx137_0⟩ := Kd.at_string (Kd.R_reads' HO_3.out).2.2 (ji13) p137 q137
     cases e137
     replace p137 := eq_true p137
     replace q137 := eq_true q137
     go_wp2_with (first | ((with_reducible refine Yi (f := 62) rfl ?_); refine Yp (some 36) rfl rfl Tryz.func62 Zg rfl #[.string (rdOf ByteArray.empty t134 (ji13)), .int .i64 0] rfl Zv ?_; (with_reducible refine (Ym.calls k1 (rdOf ByteArray.empty t134 (ji13)) 0 t138 t139 _ ?side1 A16.out).mono ?_); (case side1 => first | exact HE.out | exact EnvOk.below HE.out Zc); rintro e w' ⟨rfl, ⟨nd, rfl⟩⟩; refine ⟨_, rfl, ?_⟩))
     go_ret
     exact ⟨Zz, Zc⟩
    rw [if_pos c18] at H
    have c18b0 : (t139 == 3) = true := beq_iff_eq.mpr c18
    have c18b1 : (t139 != 3) = false := bne_eq_false_iff_eq.mpr c18
    clear c18
    obtain rfl := Option.some.inj H
    have p137 : 0 ≤ ((ji13) : Int) := of_decide_eq_true Zh
    have q137 : (ji13) < (t134.length : Int) := of_decide_eq_true Zh
    obtain ⟨ad137, e137, hx137_0⟩ := Kd.at_string (Kd.R_reads' HO_3.out).2.2 (ji13) p137 q137
    cases e137
    replace p137 := eq_true p137
    replace q137 := eq_true q137
    go_wp2_with (first | ((with_reducible refine Yi (f := 62) rfl ?_); refine Yp (some 36) rfl rfl Tryz.func62 Zg rfl #[.string (rdOf ByteArray.empty t134 (ji13)), .int .i64 0] rfl Zv ?_; (with_reducible refine (Ym.calls k1 (rdOf ByteArray.empty t134 (ji13)) 0 t138 t139 _ ?side1 A16.out).mono ?_); (case side1 => first | exact HE.out | exact EnvOk.below HE.out Zc); rintro e w' ⟨rfl, ⟨nd, rfl⟩⟩; refine ⟨_, rfl, ?_⟩))
    go_ret
    exact ⟨Zz, Zc⟩
   rw [if_pos c5] at H
   have c5b0 : decide (x16_1 < (t134.length : Int)) = true := decide_eq_true c5
   clear c5
   by_cases c6 : 0 ≤ x16_1
   rotate_left
   ·rw [if_neg c6] at H
    exact absurd H Zy
   rw [if_pos c6] at H
   have c6b0 : decide (0 ≤ x16_1) = true := decide_eq_true c6
   clear c6
   by_cases c7 : x16_1 < (t134.length : Int)
   rotate_left
   ·rw [if_neg c7] at H
    exact absurd H Zy
   rw [if_pos c7] at H
   have c7b0 : decide (x16_1 < (t134.length : Int)) = true := decide_eq_true c7
   clear c7
   replace H := Option.bind_eq_some_iff.mp H
   obtain ⟨t141, A80, H⟩ := H
   try dsimp -simprocs only at H
   have A8 := Ya.mk A80
   clear A80
   by_cases c9 : t141 = true
   rotate_left
   ·replace c9 := Bool.eq_false_iff.mpr c9
    subst c9
    rw [if_neg (show ¬ (false = true) by decide)] at H
    obtain rfl := Option.some.inj H
    have p140 : 0 ≤ (x16_1 : Int) := of_decide_eq_true Zh
    have q140 : x16_1 < (t134.length : Int) := of_decide_eq_true Zh
    obtain ⟨ad140, e140, hx140_0⟩ := Kd.at_string (Kd.R_reads' HO_14.out).2.2 x16_1 p140 q140
    cases e140
    replace p140 := eq_true p140
    replace q140 := eq_true q140
    go_wp2_with (first | ((with_reducible refine Yi (f := 126) rfl ?_); refine Yp (some 21) rfl rfl Tryz.func126 Zg rfl #[.string (rdOf ByteArray.empty t134 x16_1)] rfl Zb ?_; (with_reducible refine (Yu.calls k1 (rdOf ByteArray.empty t134 x16_1) false _ ?side1 A8.out).mono ?_); (case side1 => first | exact HE.out | exact EnvOk.below HE.out Zc); rintro e w' ⟨rfl, ⟨nd, rfl⟩⟩; refine ⟨_, rfl, ?_⟩))
    go_ret
    exact ⟨Zj, Zc⟩
   subst c9
   rw [if_pos rfl] at H
   by_cases c10 : x4_1 = true
   rotate_left
   ·replace c10 := Bool.eq_false_iff.mpr c10
    subst c10
    rw [if_neg (show ¬ (false = true) by decide)] at H
    have H' := Ya.mk H
    clear H
    have p140 : 0 ≤ (x16_1 : Int) := of_decide_eq_true Zh
    have q140 : x16_1 < (t134.length : Int) := of_decide_eq_true Zh
    obtain ⟨ad140, e140, hx140_0⟩ := Kd.at_string (Kd.R_reads' HO_14.out).2.2 x16_1 p140 q140
    cases e140
    replace p140 := eq_true p140
    replace q140 := eq_true q140
    go_wp2_with (first | ((with_reducible refine Yi (f := 126) rfl ?_); refine Yp (some 21) rfl rfl Tryz.func126 Zg rfl #[.string (rdOf ByteArray.empty t134 x16_1)] rfl Zb ?_; (with_reducible refine (Yu.calls k1 (rdOf ByteArray.empty t134 x16_1) true _ ?side1 A8.out).mono ?_); (case side1 => first | exact HE.out | exact EnvOk.below HE.out Zc); rintro e w' ⟨rfl, ⟨nd, rfl⟩⟩; refine ⟨_, rfl, ?_⟩))
    go_roundg k1
    case measure => have := HK1.out; omega
    case rel => exact ⟨(false), (wrap64 (x16_1 + 1)), Zf, Zf, H', ⟨Zga⟩, ⟨Zp⟩, ⟨Zea⟩, ⟨Zc⟩⟩
   subst c10
   rw [if_pos rfl] at H
   replace H := Option.bind_eq_some_iff.mp H
   obtain ⟨t142, A110, H⟩ := H
   try dsimp -simprocs only at H
   have A11 := Ya.mk A110
   clear A110
   have H' := Ya.mk H
   clear H
   have p140 : 0 ≤ (x16_1 : Int) := of_decide_eq_true Zh
   have q140 : x16_1 < (t134.length : Int) := of_decide_eq_true Zh
   obtain ⟨ad140, e140, hx140_0⟩ := Kd.at_string (Kd.R_reads' HO_14.out).2.2 x16_1 p140 q140
   cases e140
   replace p140 := eq_true p140
   replace q140 := eq_true q140
   go_wp2_with (first | ((with_reducible refine Yi (f := 126) rfl ?_); refine Yp (some 21) rfl rfl Tryz.func126 Zg rfl #[.string (rdOf ByteArray.empty t134 x16_1)] rfl Zb ?_; (with_reducible refine (Yu.calls k1 (rdOf ByteArray.empty t134 x16_1) true _ ?side1 A8.out).mono ?_); (case side1 => first | exact HE.out | exact EnvOk.below HE.out Zc); rintro e w' ⟨rfl, ⟨nd, rfl⟩⟩; refine ⟨_, rfl, ?_⟩) | (go_at_call 127; (with_reducible refine (Yxb.calls k1 (rdOf ByteArray.empty t134 x16_1) t142 _ ?side1 A11.out).mono ?_); (case side1 => first | exact HE.out | exact EnvOk.below HE.out Zc); rintro e w12 ⟨rfl, hb⟩; have n0_ := Ya.mk (Kd.R_below Zp hb); have n1_ := Ya.mk (Kd.R_below Zea hb); have n2_ := Ya.mk (Yn Zc hb); clear HO_3; clear HO_14; clear HB; have HO_3 := n0_; have HO_14 := n1_; have HB := n2_; clear n0_ n1_ n2_; (try clear hb); (try clear hb2); (try clear hk); (try clear hi)))
   go_roundg k1
   case measure => have := HK1.out; omega
   case rel => exact ⟨(t142), (wrap64 (x16_1 + 1)), Zf, Zf, H', ⟨Zga⟩, ⟨Zp⟩, ⟨Zea⟩, ⟨Zc⟩⟩
def Yxc.f (a0 : ByteArray) : Option (Int) := if a0.toList = ([104, 116, 116, 112] : List UInt8) then (some 80) else (some 443)
set_option maxHeartbeats 8000000 in
set_option maxRecDepth 100000 in
theorem Yxc.calls (a0 : ByteArray) (r : Int) (w : World) (hE : EnvOk w) (h : Yxc.f a0 = some r) :
  Calls Tryz.prog 79 #[.string a0] w fun e w' => e = .returned (.int .i64 r) ∧ Drawn0 w w' := by
 have HE := Ya.mk hE
 clear hE
 have H : (if a0.toList = ([104, 116, 116, 112] : List UInt8) then (some 80) else (some 443)) = some r := h
 clear h
 by_cases c2 : a0.toList = ([104, 116, 116, 112] : List UInt8)
 rotate_left
 ·rw [if_neg c2] at H
  have c2b0 : (a0.toList == ([104, 116, 116, 112] : List UInt8)) = false := beq_eq_false_iff_ne.mpr c2
  have c2b1 : (a0.toList != ([104, 116, 116, 112] : List UInt8)) = true := bne_iff_ne.mpr c2
  obtain rfl := Option.some.inj H
  go_enter Tryz.func79, Tryz.ntmps79
  go_wp2
  go_ret
  exact ⟨Zf, Zl⟩
 rw [if_pos c2] at H
 have c2b0 : (a0.toList == ([104, 116, 116, 112] : List UInt8)) = true := beq_iff_eq.mpr c2
 have c2b1 : (a0.toList != ([104, 116, 116, 112] : List UInt8)) = false := bne_eq_false_iff_eq.mpr c2
 clear c2
 obtain rfl := Option.some.inj H
 go_enter Tryz.func79, Tryz.ntmps79
 go_wp2
 go_ret
 exact ⟨Zf, Zl⟩
end Go.Proofs.YtfmjnmglagdcdaaGreatDoor.X
