/- Printed by a program of ours: functions as plain Lean, and what a call of each does. -/
import Derived.Test.YtnmglnglbdpjjaaGreatDoorUkWords
import Derived.Test.YtnmglnglbdpjjaaGreatDoorUkX0
namespace Go.Proofs.YtnmglnglbdpjjaaGreatDoor.X
open Go.RowKit Go.Yw.PrintWords Go.Yw.PrintLast Go.Yw.PrintMore
attribute [local go_sem] Yde Yee Ywe Yve Ypd Yod Yce Ybe
set_option linter.unusedVariables false
set_option linter.unusedSimpArgs false
set_option maxHeartbeats 8000000
set_option maxRecDepth 100000
def Yp.l0 : Nat → List Int → Int → Int → Option (List Int)
 | 0, _, _, _ => none
 | k + 1, x0, x2, x3 => if x2 < x3 then (if 0 ≤ x3 then (if x3 < (x0.length : Int) then (if 0 ≤ x2 then (if x2 < (x0.length : Int) then (Yp.l0 k ((x0.set (x2 : Int).toNat (rd x0 x3)).set (x3 : Int).toNat (rd x0 x2)) (wrap64 (x2 + 1)) (wrap64 (x3 - 1))) else (none)) else (none)) else (none)) else (none)) else (some x0)
def Yp.f (k : Nat) (l0 : List Int) : Option (List Int) := Yp.l0 k l0 0 (wrap64 ((l0.length : Int) - 1))
theorem Yp.mono_l : ∀ k, (∀ y0 y1 y2, LeO (Yp.l0 k y0 y1 y2) (Yp.l0 (k + 1) y0 y1 y2))
 | 0 => fun _ _ _ r h => by simp [Yp.l0] at h
 | k + 1 => by
  have tC := Yp.mono_l k
  ·intro y0 y1 y2
   unfold Yp.l0
   repeat' first
   | (with_reducible exact tC _ _ _)
   | (with_reducible exact LeO.refl _)
   | (with_reducible exact LeO.none _)
   | (with_reducible refine LeO.ite ?_ ?_)
   | (with_reducible refine LeO.bind ?_ (fun _ => ?_))
   | exact tC _ _ _
   | exact LeO.none _
   | refine LeO.ite ?_ ?_
   | refine LeO.bind ?_ (fun _ => ?_)
theorem Yp.mono : ∀ a0 k, LeO (Yp.f k a0) (Yp.f (k + 1) a0) := by
 intro a0 k
 have tC := Yp.mono_l k
 unfold Yp.f
 repeat' first
   | (with_reducible exact tC _ _ _)
   | (with_reducible exact LeO.refl _)
   | (with_reducible exact LeO.none _)
   | (with_reducible refine LeO.ite ?_ ?_)
   | (with_reducible refine LeO.bind ?_ (fun _ => ?_))
   | exact tC _ _ _
   | exact LeO.none _
   | refine LeO.ite ?_ ?_
   | refine LeO.bind ?_ (fun _ => ?_)
def Yp.T3 : Bool × List (List Nat × List Nat) := (true, [([], []), ([], []), ([], []), ([], []), ([], []), ([], []), ([4, 5], [4, 5]), ([6], [6]), ([], []), ([], []), ([8, 9], [8, 9]), ([10], [10]), ([0, 1, 0, 1, 4, 5, 6, 7, 11], [0, 1]), ([12, 7, 0, 1, 4, 5, 6, 7, 11], [7, 12]), ([2, 3, 0, 1, 2, 3, 4, 5, 6, 7, 8, 9, 10, 11, 12, 13], [2, 3]), ([14, 11, 13, 0, 1, 2, 3, 4, 5, 6, 7, 8, 9, 10, 11, 12, 13], [11, 14])])
def Yp.B3 : List Nat := [0, 0, 0, 0, 0, 0, 48, 112, 0, 0, 768, 1792, 4083, 8179, 16383, 32767]
theorem Yp.tab3 : rtab .any (opsOf Tryz.f132 3) = Yp.T3 := by kernel_rfl
theorem Yp.bits3 : Yoh Yp.T3.2 Yp.B3 = true := by kernel_rfl
theorem Yp.calls (k : Nat) (P0_ : Nat → Prop) (qT : Value) (l0 r : List Int) (w0 w : World) (hE : EnvOk w0) (hB : Below w0.heap.size w0 w) (qU : Kd.R (Kd.int .u8) 5 w w0.heap.size P0_ qT l0) (h : Yp.f k l0 = some r) :
  Calls Tryz.prog 132 #[qT] w fun e w' => e = .returned (.tuple #[]) ∧ Kd.R (Kd.int .u8) 5 w' w0.heap.size (fun k_ => (P0_ k_ ∨ w.heap.size ≤ k_)) qT r ∧ Below w0.heap.size w0 w' ∧ Kept w w' (fun k_ => P0_ k_) := by
 have HO0 := Ya.mk (show Kd.R (Kd.int .u8) 5 w w0.heap.size (fun k_ => (P0_ k_ ∨ w.heap.size ≤ k_)) qT l0 from Kd.R_mono qU (fun k_ hk => (.inl hk)))
 have HK := Ya.mk (Kept.refl w (fun k_ => P0_ k_))
 have HE := Ya.mk hE
 clear hE
 have HW0 := Ya.mk hB.size
 have HB := Ya.mk hB
 clear hB
 have H : (Yp.l0 k l0 0 (wrap64 ((l0.length : Int) - 1))) = some r := h
 clear h
 have H' := Ya.mk H
 clear H
 obtain ⟨Ao2, co2, eo2⟩ := Kd.R_slice HO0.out
 subst eo2
 go_enter Tryz.func132, Tryz.ntmps132
 go_wp2
 go_loopg [2, 3] k (fun kq v2 v3 w' => ∃ (aX : List Int) (gK : Int) (aE : Int), v2 = .int .i64 gK ∧ v3 = .int .i64 aE ∧ Ya (Yp.l0 kq aX gK aE = some r) ∧ Ya (kq ≤ k) ∧ Ya (Kd.R (Kd.int .u8) 5 w' w0.heap.size (fun k_ => (P0_ k_ ∨ w.heap.size ≤ k_)) (.slice Ao2 l0.length co2) aX) ∧ Ya (Kept w w' (fun k_ => P0_ k_)) ∧ Ya (Below w0.heap.size w0 w'))
 case atStart => exact ⟨(l0), (0), (wrap64 ((l0.length : Int) - 1)), Zf, Zf, H', ⟨Nat.le_refl _⟩, ⟨by (with_reducible repeat (first | apply Kd.R_alloc | apply Kd.R_drewN | apply Kd.R_drew)); exact HO0.out⟩, ⟨by repeat (first | (with_reducible first | exact HK.out | apply Kept.alloc | apply Kept.drewN | apply Kept.drew) | exact HK.out)⟩, ⟨Za⟩⟩
 case round =>
  clear H'
  try clear c1
  try clear p2
  obtain ⟨aX, gK, aE, rfl, rfl, HA, dD, HO_0, HK, HB⟩ := hrel
  have tD := (Kd.R_reads' HO_0.out).1
  rw [tD] at HO_0
  (try simp only [tD])
  cases gk with
  | zero => exact absurd HA.out (by simp [Yp.l0])
  | succ k1 =>
   have H := HA.out
   clear HA
   simp only [Yp.l0] at H
   by_cases c3 : gK < aE
   rotate_left
   ·rw [if_neg c3] at H
    have cJ : decide (gK < aE) = false := decide_eq_false c3
    clear c3
    obtain rfl := Option.some.inj H
    go_wp2
    first | go_end0 | ((try simp only [Exit.inBlock, Exit.then]); refine bodyPost_ret (results_none rfl _ _ _) rfl ?_)
    exact ⟨Zk, (by first | exact (by (with_reducible repeat (first | apply Kd.R_alloc | apply Kd.R_drewN | apply Kd.R_drew)); exact HO_0.out) | (simp only [tD]; exact (by (with_reducible repeat (first | apply Kd.R_alloc | apply Kd.R_drewN | apply Kd.R_drew)); exact HO_0.out))), Za, by repeat (first | (with_reducible first | exact HK.out | apply Kept.alloc | apply Kept.drewN | apply Kept.drew) | exact HK.out)⟩
   rw [if_pos c3] at H
   have cJ : decide (gK < aE) = true := decide_eq_true c3
   clear c3
   by_cases c4 : 0 ≤ aE
   rotate_left
   ·rw [if_neg c4] at H
    exact absurd H Zv
   rw [if_pos c4] at H
   have cF : decide (0 ≤ aE) = true := decide_eq_true c4
   clear c4
   by_cases c5 : aE < (aX.length : Int)
   rotate_left
   ·rw [if_neg c5] at H
    exact absurd H Zv
   rw [if_pos c5] at H
   have dL : decide (aE < (aX.length : Int)) = true := decide_eq_true c5
   clear c5
   by_cases c6 : 0 ≤ gK
   rotate_left
   ·rw [if_neg c6] at H
    exact absurd H Zv
   rw [if_pos c6] at H
   have dP : decide (0 ≤ gK) = true := decide_eq_true c6
   clear c6
   by_cases c7 : gK < (aX.length : Int)
   rotate_left
   ·rw [if_neg c7] at H
    exact absurd H Zv
   rw [if_pos c7] at H
   have dA : decide (gK < (aX.length : Int)) = true := decide_eq_true c7
   clear c7
   obtain ⟨aHQ, tE⟩ : ∃ y_ : List Int, y_ = (aX.set (gK : Int).toNat (rd aX aE)) := ⟨_, rfl⟩
   replace H : (Yp.l0 k1 (aHQ.set (aE : Int).toNat (rd aX gK)) (wrap64 (gK + 1)) (wrap64 (aE - 1))) = some r := by first | (rw [tE]; with_reducible exact H) | (have dK := (Option.bind_some _ _).symm.trans H; rw [tE]; with_reducible exact dK) | (have dK := (Option.bind_some _ _).symm.trans H; with_reducible exact dK) | with_reducible exact H | (rw [tE]; exact H) | exact H
   have aHR := Ya.mk tE
   clear tE
   obtain ⟨aHS, tF⟩ : ∃ y_ : List Int, y_ = (aHQ.set (aE : Int).toNat (rd aX gK)) := ⟨_, rfl⟩
   replace H : (Yp.l0 k1 aHS (wrap64 (gK + 1)) (wrap64 (aE - 1))) = some r := by first | (rw [tF]; with_reducible exact H) | (have dK := (Option.bind_some _ _).symm.trans H; rw [tF]; with_reducible exact dK) | (have dK := (Option.bind_some _ _).symm.trans H; with_reducible exact dK) | with_reducible exact H | (rw [tF]; exact H) | exact H
   have aHT := Ya.mk tF
   clear tF
   have H' := Ya.mk H
   clear H
   try go_wp2
   have aM := Ya.mk (Kd.R_drew HO_0.out)
   have aU := Ya.mk (Kept.drew HK.out)
   have bI := Ya.mk (Yc HB.out)
   clear HO_0
   clear HK
   clear HB
   have HO_0 := aM
   have HK := aU
   have HB := bI
   clear aM aU bI
   have aFB : 0 ≤ (aE : Int) := of_decide_eq_true Zc
   have aFC : aE < (aX.length : Int) := of_decide_eq_true Zc
   obtain ⟨aHU, aVm, qV⟩ := Kd.at_int (Kd.R_reads' HO_0.out).2.2 aE aFB aFC
   cases aVm
   replace aFB := eq_true aFB
   replace aFC := eq_true aFC
   have aFD : 0 ≤ (gK : Int) := of_decide_eq_true Zc
   have aFE : gK < (aX.length : Int) := of_decide_eq_true Zc
   obtain ⟨ad102, aVn, qW⟩ := Kd.at_int (Kd.R_reads' HO_0.out).2.2 gK aFD aFE
   obtain rfl : aHU = ad102 := (by injection aVn)
   replace aFD := eq_true aFD
   replace aFE := eq_true aFE
   have p8 : 0 ≤ (gK : Int) := of_decide_eq_true Zc
   have q8 : (gK : Int) < ((aX.length : Int) : Int) := of_decide_eq_true Zc
   obtain ⟨go8, co8, eo8, gb8, gl8, cl8, HG8⟩ := Kd.R_form HO_0.out Zl
   (first | cases eo8 | (injection eo8 with ea_ en_ ec_; (first | subst ea_ | (injection ea_ with ea_; subst ea_)); subst ec_; clear en_))
   have GB8 := Ya.mk gb8
   have GG8 := Ya.mk HG8
   clear gb8 gl8 HG8
   have aET := Ya.mk (show (P0_ go8 ∨ w.heap.size ≤ go8) from (HO_0.out.1 _ rfl))
   (first | simp only [add_plain] at qV | skip)
   (first | simp only [add_plain] at qW | skip)
   obtain ⟨aHV, aHW⟩ := Kd.R_celln 0 HO_0.out (gK : Int) p8 q8
   replace p8 := eq_true p8
   replace q8 := eq_true q8
   have aFF := Kd.R_putn HO_0.out (gK : Int) (rd aX aE)
   rw [← aHR.out] at aFF
   have aFG := Ya.mk aFF
   clear aFF
   have p9 : 0 ≤ (aE : Int) := of_decide_eq_true Zc
   have q9 : (aE : Int) < ((aX.length : Int) : Int) := of_decide_eq_true Zc
   obtain ⟨aHX, aHY⟩ := Kd.R_celln 0 aFG.out (aE : Int) p9 q9
   replace p9 := eq_true p9
   replace q9 := eq_true q9
   have aFH := Kd.R_putn aFG.out (aE : Int) (rd aX gK)
   rw [← aHT.out] at aFH
   have aHZ := Ya.mk aFH
   clear aFH
   refine Yqh (n := 16) (S := fun w' => w'.cell? ⟨go8, (aE).toNat, none⟩ = some (.int .u8 (rd aX aE)) ∧ w'.cell? ⟨go8, (gK).toNat, none⟩ = some (.int .u8 (rd aX gK))) (ds := [13, 15]) #[false, false, false, false, false, false, false, false, false, false, false, false, false, false, false, false] Zi rfl rfl ⟨qV, qW⟩ (fun hHeld => ?_); refine Yuh Yp.tab3 Yp.bits3 (fun HT_ HW_ => ?_)
   generalize wr.drew = qE at HO_0 HK HB GG8 aFG aHZ aHW aHY qV qW aHV aHX hHeld ⊢
   refine Yqb (i := 0) (N := some 14) (v := ?_) (a' := ?_) #[true, false, false, false, false, false, false, false, false, false, false, false, false, false, false, false] rfl rfl (Ypb HT_.out Zi) (fun _ _ _ h => h) (Or.inl ⟨Zja, ?_⟩) ?_ ?_
   rotate_left
   ·exact Zzb
   rotate_left
   ·exact Zac
   refine Yqb (i := 1) (N := some 15) (v := ?_) (a' := ?_) #[true, true, false, false, false, false, false, false, false, false, false, false, false, false, false, false] rfl rfl (Ypb HT_.out Zi) (fun _ _ _ h => h) (Or.inl ⟨Zja, ?_⟩) ?_ ?_
   rotate_left
   ·exact Zzb
   rotate_left
   ·exact Zac
   refine Yqb (i := 2) (N := some 16) (v := ?_) (a' := ?_) #[true, true, true, false, false, false, false, false, false, false, false, false, false, false, false, false] rfl rfl (Ypb HT_.out Zi) (fun _ _ _ h => h) (Or.inl ⟨Zja, ?_⟩) ?_ ?_
   rotate_left
   ·exact Zzb
   rotate_left
   ·exact Zac
   refine Yqb (i := 3) (N := some 17) (v := ?_) (a' := ?_) #[true, true, true, true, false, false, false, false, false, false, false, false, false, false, false, false] rfl rfl (Ypb HT_.out Zi) (fun _ _ _ h => h) (Or.inl ⟨Zja, ?_⟩) ?_ ?_
   rotate_left
   ·exact Zzb
   rotate_left
   ·exact Zac
   refine Yqb (i := 4) (N := some 18) (v := ?_) (a' := ?_) #[true, true, true, true, true, false, false, false, false, false, false, false, false, false, false, false] rfl rfl (Ypb HT_.out Zi) (fun _ _ _ h => h) (Or.inl ⟨Zja, ?_⟩) ?_ ?_
   rotate_left
   ·exact Zzb
   rotate_left
   ·exact Zac
   refine Yqb (i := 5) (N := some 19) (v := ?_) (a' := ?_) #[true, true, true, true, true, true, false, false, false, false, false, false, false, false, false, false] rfl rfl (Ypb HT_.out Zi) (fun _ _ _ h => h) (Or.inl ⟨Zja, ?_⟩) ?_ ?_
   rotate_left
   ·exact Zzb
   rotate_left
   ·exact Zac
   refine Yqb (i := 6) (N := some 20) (v := ?_) (a' := ?_) #[true, true, true, true, true, true, true, false, false, false, false, false, false, false, false, false] rfl rfl (Ypb HT_.out Zi) (fun _ _ _ h => h) (Or.inl ⟨Zja, ?_⟩) ?_ ?_
   rotate_left
   ·exact Zzb
   rotate_left
   ·exact Zac
   refine Yqb (i := 8) (N := some 22) (v := ?_) (a' := ?_) #[true, true, true, true, true, true, true, false, true, false, false, false, false, false, false, false] rfl rfl (Ypb HT_.out Zi) (fun _ _ _ h => h) (Or.inl ⟨Zja, ?_⟩) ?_ ?_
   rotate_left
   ·exact Zzb
   rotate_left
   ·exact Zac
   refine Yqb (i := 9) (N := some 23) (v := ?_) (a' := ?_) #[true, true, true, true, true, true, true, false, true, true, false, false, false, false, false, false] rfl rfl (Ypb HT_.out Zi) (fun _ _ _ h => h) (Or.inl ⟨Zja, ?_⟩) ?_ ?_
   rotate_left
   ·exact Zzb
   rotate_left
   ·exact Zac
   refine Yqb (i := 10) (N := some 24) (v := ?_) (a' := ?_) #[true, true, true, true, true, true, true, false, true, true, true, false, false, false, false, false] rfl rfl (Ypb HT_.out Zi) (fun _ _ _ h => h) (Or.inl ⟨Zja, ?_⟩) ?_ ?_
   rotate_left
   ·exact Zzb
   rotate_left
   ·exact Zac
   refine Ylf (i := 7) (N := some 21) (v := ?_) (a' := ?_) #[true, true, true, true, true, true, true, true, true, true, true, false, false, false, false, false] rfl rfl (Yne HT_.out HW_.out Zi) (fun _ _ _ h => h) (Or.inl ⟨Zja, ?_⟩) hHeld ?_ ?_
   rotate_left
   ·rintro w' ⟨s0, s1⟩
    go_simp
    with_reducible rfl
   rotate_left
   ·exact Zac
   refine Ylf (i := 11) (N := some 25) (v := ?_) (a' := ?_) #[true, true, true, true, true, true, true, true, true, true, true, true, false, false, false, false] rfl rfl (Yne HT_.out HW_.out Zi) (fun _ _ _ h => h) (Or.inl ⟨Zja, ?_⟩) hHeld ?_ ?_
   rotate_left
   ·rintro w' ⟨s0, s1⟩
    go_simp
    with_reducible rfl
   rotate_left
   ·exact Zac
   refine Yqb (i := 12) (N := some 26) (v := ?_) (a' := ?_) #[true, true, true, true, true, true, true, true, true, true, true, true, true, false, false, false] rfl rfl (Ypb HT_.out Zi) (fun _ _ _ h => h) (Or.inl ⟨Zja, ?_⟩) ?_ ?_
   rotate_left
   ·exact Zzb
   rotate_left
   ·exact Zac
   refine Yao (i := 13) (N := none) #[true, true, true, true, true, true, true, true, true, true, true, true, true, true, false, false] rfl rfl (Yyf HT_.out Zi) Zea (fun K hK => ?_)
   refine Yhm (w1 := ?_) Zja rfl ?_ ?_
   rotate_left
   ·go_simp
    rfl
   refine hK.out _ _ ?_
   clear hK K
   refine Yqb (i := 14) (N := some 27) (v := ?_) (a' := ?_) #[true, true, true, true, true, true, true, true, true, true, true, true, true, true, true, false] rfl rfl (Ypb HT_.out Zi) (fun _ _ _ h => h) (Or.inl ⟨Zja, ?_⟩) ?_ ?_
   rotate_left
   ·exact Zzb
   rotate_left
   ·exact Zac
   refine Yao (i := 15) (N := none) #[true, true, true, true, true, true, true, true, true, true, true, true, true, true, true, true] rfl rfl (Yyf HT_.out Zi) Zea (fun K hK => ?_)
   refine Yhm (w1 := ?_) Zja rfl ?_ ?_
   rotate_left
   ·go_simp
    rfl
   refine hK.out _ _ ?_
   clear hK K
   refine Yxi (Yhj HT_.out Zi) ?_
   try go_wp2
   (try simp only [← tD])
   go_roundg k1
   case measure => have := dD.out; omega
   case rel => exact ⟨(aHS), (wrap64 (gK + 1)), (wrap64 (aE - 1)), Zf, Zf, H', ⟨Zaa⟩, ⟨by (try simp only [tD]); (with_reducible repeat (first | apply Kd.R_alloc | apply Kd.R_drewN | apply Kd.R_drew)); exact aHZ.out⟩, ⟨by repeat (first | (with_reducible first | exact HK.out | apply Kept.alloc | apply Kept.drewN | apply Kept.drew | refine Kept.setCell ?_ aET.out _ | refine Kept.setCell ?_ aET.out _) | exact HK.out)⟩, ⟨by repeat (first | (with_reducible first | exact HB.out | apply Yd | apply Yb | apply Yc | refine Yg ?_ GB8.out | refine Yg ?_ GB8.out) | exact HB.out)⟩⟩
mutual
def Ykb.j0 : Nat → Int → Int → Int → Option (ByteArray)
 | 0, _, _, _ => none
 | k + 1, x0, x1, x5 => Ykb.l0 k x0 x1 x5 ([] : List Int)
def Ykb.l0 : Nat → Int → Int → Int → List Int → Option (ByteArray)
 | 0, _, _, _, _ => none
 | k + 1, x0, x1, x5, x6 => if x5 > 0 then (if x6.length < 140737488355328 then (Ykb.l0 k x0 x1 (IntKind.u64.wrap (Int.tdiv x5 10)) (x6 ++ [(IntKind.u64.wrap (48 + (Int.tmod x5 10))) % 256])) else (none)) else (if (x6.length : Int) < (mx (mn x1 20) 1) then (if x6.length < 140737488355328 then (Ykb.l0 k x0 x1 (IntKind.u64.wrap (Int.tdiv x5 10)) (x6 ++ [(IntKind.u64.wrap (48 + (Int.tmod x5 10))) % 256])) else (none)) else (if x0 < 0 then (if x6.length < 140737488355328 then ((Yp.f k (x6 ++ [45])).bind fun qX => (some (strOfNums qX))) else (none)) else ((Yp.f k x6).bind fun vL => (some (strOfNums vL)))))
end
def Ykb.f (k : Nat) (a0 a1 : Int) : Option (ByteArray) := if a0 < 0 then (Ykb.j0 k a0 a1 (IntKind.u64.wrap (-(IntKind.u64.wrap (a0))))) else (Ykb.j0 k a0 a1 (IntKind.u64.wrap (a0)))
theorem Ykb.calls (k : Nat) (a0 a1 : Int) (r : ByteArray) (w : World) (hE : EnvOk w) (h : Ykb.f k a0 a1 = some r) :
  Calls Tryz.prog 107 #[.int .i64 a0, .int .i64 a1] w fun e w' => e = .returned (.string r) ∧ Below w.heap.size w w' := by
 have HE := Ya.mk hE
 clear hE
 have HB := Ya.mk (Below.refl w.heap.size w)
 have H : (if a0 < 0 then (Ykb.j0 k a0 a1 (IntKind.u64.wrap (-(IntKind.u64.wrap (a0))))) else (Ykb.j0 k a0 a1 (IntKind.u64.wrap (a0)))) = some r := h
 clear h
 have qY := Ya.mk H
 clear H
 go_enter Tryz.func107, Tryz.ntmps107
 go_upto_if 10 with (fail)
 go_cut [5] (fun v5 wc => ∃ (kq : Nat) (dQ : Int), v5 = .int .u64 dQ ∧ Ya (Ykb.j0 kq a0 a1 dQ = some r) ∧ Ya (kq ≤ k) ∧ Ya (Below w.heap.size w wc))
 case first =>
  have H := qY.out
  clear qY
  by_cases c4 : a0 < 0
  rotate_left
  ·rw [if_neg c4] at H
   have cF : decide (a0 < 0) = false := decide_eq_false c4
   clear c4
   (first | rw [cF] | (simp only [Yma, Yqa]; rw [cF]) | skip)
   have H' := Ya.mk H
   clear H
   go_wp2
   go_meet
   case rel => exact ⟨_, (IntKind.u64.wrap (a0)), Zf, H', ⟨Zna⟩, ⟨Za⟩⟩
  rw [if_pos c4] at H
  have cF : decide (a0 < 0) = true := decide_eq_true c4
  clear c4
  (first | rw [cF] | (simp only [Yma, Yqa]; rw [cF]) | skip)
  have H' := Ya.mk H
  clear H
  go_wp2
  go_meet
  case rel => exact ⟨_, (IntKind.u64.wrap (-(IntKind.u64.wrap (a0)))), Zf, H', ⟨Zna⟩, ⟨Za⟩⟩
 case rest =>
  clear qY
  try clear c1
  try clear p2
  try clear c4
  try clear cF
  obtain ⟨kq, dQ, rfl, HA, qD, HB⟩ := hcut
  cases kq with
  | zero => exact absurd HA.out (by simp [Ykb.j0])
  | succ nM =>
   have H := HA.out
   clear HA
   simp only [Ykb.j0] at H
   have H' := Ya.mk H
   clear H
   go_wp2
   go_loopg [5, 6] nM (fun kq v5 v6 w' => ∃ (dQ : Int) (cN : List Int), v5 = .int .u64 dQ ∧ Ya (Ykb.l0 kq a0 a1 dQ cN = some r) ∧ Ya (kq ≤ nM) ∧ Ya (Kd.R (Kd.int .u8) 5 w' w.heap.size (fun _ => True) v6 cN) ∧ Ya (Below w.heap.size w w'))
   case atStart => exact ⟨(dQ), (([] : List Int)), Zf, H', ⟨Nat.le_refl _⟩, ⟨Zfa⟩, ⟨Za⟩⟩
   case round =>
    clear H'
    try clear c1
    try clear p2
    try clear c4
    try clear cF
    try clear p2
    obtain ⟨dQ, cN, rfl, HA, kB, HO_6, HB⟩ := hrel
    cases gk with
    | zero => exact absurd HA.out (by simp [Ykb.l0])
    | succ k2 =>
     have H := HA.out
     clear HA
     simp only [Ykb.l0] at H
     by_cases c5 : dQ > 0
     ·rw [if_pos c5] at H
      have dL : decide (0 < dQ) = true := decide_eq_true c5
      clear c5
      by_cases c6 : cN.length < 140737488355328
      rotate_left
      ·rw [if_neg c6] at H
       exact absurd H Zv
      rw [if_pos c6] at H
      have aVo := Ya.mk c6
      clear c6
      obtain ⟨aIa, tG⟩ : ∃ y_ : List Int, y_ = (cN ++ [(IntKind.u64.wrap (48 + (Int.tmod dQ 10))) % 256]) := ⟨_, rfl⟩
      replace H : (Ykb.l0 k2 a0 a1 (IntKind.u64.wrap (Int.tdiv dQ 10)) aIa) = some r := by first | (rw [tG]; with_reducible exact H) | (have dK := (Option.bind_some _ _).symm.trans H; rw [tG]; with_reducible exact dK) | (have dK := (Option.bind_some _ _).symm.trans H; with_reducible exact dK) | with_reducible exact H | (rw [tG]; exact H) | exact H
      have aIb := Ya.mk tG
      clear tG
      have H' := Ya.mk H
      clear H
      go_wp2_with (first | ((with_reducible refine Yge (b := .append) (xs := #[.tmp 23, .tmp 28]) rfl ?_); (try (refine Yli Zja ?_; dsimp only)); at_builtin; refine Kd.R_append (Kd.int .u8) (w0 := w) w.heap.size rfl (.tmp 23) (.tmp 28) 62 5 (.int .u8 0) 1 rfl Tryz.underlying62 Ytl rfl Zea Zl u6 cN ((IntKind.u64.wrap (48 + (Int.tmod dQ 10))) % 256) [.int .u8 ((IntKind.u64.wrap (48 + (Int.tmod dQ 10))) % 256)] (fun _ => True) (fun _ => False) rfl rfl ?aP (fun _ hk => hk.elim) ?aF ?aO ?aB ?aS ?aL ?_; (case aP => exact rfl); (case aB => exact Za); (case aF => exact (fun _ _ => trivial)); (case aO => exact Zcb); (case aS => exact (Yda Za)); (case aL => have := aVo.out; omega); intro aYh w7 ho hb hg hat; rw [← aIb.out] at ho; have aM := Ya.mk (hb); have aU := Ya.mk (ho); clear HB; clear HO_6; have HB := aM; have aIc := aU; clear aM aU; clear ho hb hg hat))
      go_roundg k2
      case measure => have := qD.out; have := kB.out; omega
      case rel => exact ⟨(IntKind.u64.wrap (Int.tdiv dQ 10)), (aIa), Zf, H', ⟨Zza⟩, ⟨by (with_reducible repeat (first | apply Kd.R_alloc | apply Kd.R_drewN | apply Kd.R_drew)); exact aIc.out⟩, ⟨Za⟩⟩
     rw [if_neg c5] at H
     have dL : decide (0 < dQ) = false := decide_eq_false c5
     clear c5
     obtain ⟨ji8, qZ⟩ : ∃ j_ : Int, (mn a1 20) = j_ := ⟨_, rfl⟩
     replace H : (if (cN.length : Int) < (mx (ji8) 1) then (if cN.length < 140737488355328 then (Ykb.l0 k2 a0 a1 (IntKind.u64.wrap (Int.tdiv dQ 10)) (cN ++ [(IntKind.u64.wrap (48 + (Int.tmod dQ 10))) % 256])) else (none)) else (if a0 < 0 then (if cN.length < 140737488355328 then ((Yp.f k2 (cN ++ [45])).bind fun qX => (some (strOfNums qX))) else (none)) else ((Yp.f k2 cN).bind fun vL => (some (strOfNums vL))))) = some r := by first | (rw [qZ] at H; exact H) | (simp only [qZ] at H ⊢; exact H)
     have aWY : (if 20 < a1 then 20 else a1) = ji8 := qZ
     obtain ⟨ji9, pS⟩ : ∃ j_ : Int, (mx (ji8) 1) = j_ := ⟨_, rfl⟩
     replace H : (if (cN.length : Int) < (ji9) then (if cN.length < 140737488355328 then (Ykb.l0 k2 a0 a1 (IntKind.u64.wrap (Int.tdiv dQ 10)) (cN ++ [(IntKind.u64.wrap (48 + (Int.tmod dQ 10))) % 256])) else (none)) else (if a0 < 0 then (if cN.length < 140737488355328 then ((Yp.f k2 (cN ++ [45])).bind fun qX => (some (strOfNums qX))) else (none)) else ((Yp.f k2 cN).bind fun vL => (some (strOfNums vL))))) = some r := by first | (rw [pS] at H; exact H) | (simp only [pS] at H ⊢; exact H)
     have aId : (if (ji8) < 1 then 1 else (ji8)) = ji9 := pS
     by_cases dR : (cN.length : Int) < (ji9)
     ·rw [if_pos dR] at H
      have hH : decide ((cN.length : Int) < (ji9)) = true := decide_eq_true dR
      clear dR
      by_cases c11 : cN.length < 140737488355328
      rotate_left
      ·rw [if_neg c11] at H
       exact absurd H Zv
      rw [if_pos c11] at H
      have aBg := Ya.mk c11
      clear c11
      obtain ⟨aIe, tH⟩ : ∃ y_ : List Int, y_ = (cN ++ [(IntKind.u64.wrap (48 + (Int.tmod dQ 10))) % 256]) := ⟨_, rfl⟩
      replace H : (Ykb.l0 k2 a0 a1 (IntKind.u64.wrap (Int.tdiv dQ 10)) aIe) = some r := by first | (rw [tH]; with_reducible exact H) | (have dK := (Option.bind_some _ _).symm.trans H; rw [tH]; with_reducible exact dK) | (have dK := (Option.bind_some _ _).symm.trans H; with_reducible exact dK) | with_reducible exact H | (rw [tH]; exact H) | exact H
      have aIf := Ya.mk tH
      clear tH
      have H' := Ya.mk H
      clear H
      obtain ⟨aVp, aVq, aVr⟩ := Kd.R_slice HO_6.out
      subst aVr
      go_wp2_with (first | ((with_reducible refine Yge (b := .append) (xs := #[.tmp 23, .tmp 28]) rfl ?_); (try (refine Yli Zja ?_; dsimp only)); at_builtin; refine Kd.R_append (Kd.int .u8) (w0 := w) w.heap.size rfl (.tmp 23) (.tmp 28) 62 5 (.int .u8 0) 1 rfl Tryz.underlying62 Ytl rfl Zea Zl (.slice aVp cN.length aVq) cN ((IntKind.u64.wrap (48 + (Int.tmod dQ 10))) % 256) [.int .u8 ((IntKind.u64.wrap (48 + (Int.tmod dQ 10))) % 256)] (fun _ => True) (fun _ => False) rfl rfl ?aP (fun _ hk => hk.elim) ?aF ?aO ?aB ?aS ?aL ?_; (case aP => exact rfl); (case aB => exact Za); (case aF => exact (fun _ _ => trivial)); (case aO => exact Zcb); (case aS => exact (Yda Za)); (case aL => have := aBg.out; omega); intro aYi nN ho hb hg hat; rw [← aIf.out] at ho; have aM := Ya.mk (hb); have aU := Ya.mk (ho); clear HB; clear HO_6; have HB := aM; have aIg := aU; clear aM aU; clear ho hb hg hat))
      go_roundg k2
      case measure => have := qD.out; have := kB.out; omega
      case rel => exact ⟨(IntKind.u64.wrap (Int.tdiv dQ 10)), (aIe), Zf, H', ⟨Zza⟩, ⟨by (with_reducible repeat (first | apply Kd.R_alloc | apply Kd.R_drewN | apply Kd.R_drew)); exact aIg.out⟩, ⟨Za⟩⟩
     rw [if_neg dR] at H
     have hH : decide ((cN.length : Int) < (ji9)) = false := decide_eq_false dR
     clear dR
     by_cases gS : a0 < 0
     rotate_left
     ·rw [if_neg gS] at H
      have iH : decide (a0 < 0) = false := decide_eq_false gS
      clear gS
      replace H := Option.bind_eq_some_iff.mp H
      obtain ⟨vL, aBh, H⟩ := H
      try dsimp -simprocs only at H
      have A22 := Ya.mk aBh
      clear aBh
      obtain rfl := Option.some.inj H
      obtain ⟨aFI, aFJ, aVs⟩ := Kd.R_slice HO_6.out
      subst aVs
      go_wp2_with (first | ((with_reducible refine Yh (f := 132) rfl ?_); refine Yba (some 38) rfl rfl Tryz.func132 Zi rfl #[.slice aFI cN.length aFJ] rfl Zb ?_; (with_reducible refine (Yp.calls k2 (fun k_ => some k_ = (.slice aFI cN.length aFJ : Value).ownBlock) (.slice aFI cN.length aFJ) cN vL w _ ?side1 ?side2 ?side3 A22.out).mono ?_); (case side1 => exact HE.out); (case side2 => repeat (first | (with_reducible first | exact HB.out | apply Yd | apply Yb | apply Yc) | exact HB.out)); (case side3 => exact Kd.R_tight rfl HO_6.out); rintro e w24 ⟨rfl, hy0, hb, hkp⟩; refine ⟨_, rfl, ?_⟩; have aM := Ya.mk (Kd.R_reok rfl hy0 (fun k_ e_ => HO_6.out.1 k_ e_)); have aU := Ya.mk (hb); clear HO_6; clear HB; have HO_6 := aM; have HB := aU; clear aM aU; (try clear hb); (try clear hkp); (try clear hy0); have aWZ := Ygh (P := Tryz.prog) Tryz.underlying62 Tryz.underlying5 Tryz.underlying9 (Kd.own_of_R HO_6.out)))
      go_ret
      exact ⟨by first | rfl | (simp [Yl, Yk] <;> rfl) | (simp only [← qZ, ← pS]; first | rfl | (simp [Yl, Yk] <;> rfl)) | (simp [*, Yl, Yk] <;> rfl), Za⟩
     rw [if_pos gS] at H
     have iH : decide (a0 < 0) = true := decide_eq_true gS
     clear gS
     by_cases dJ : cN.length < 140737488355328
     rotate_left
     ·rw [if_neg dJ] at H
      exact absurd H Zv
     rw [if_pos dJ] at H
     have aIj := Ya.mk dJ
     clear dJ
     obtain ⟨aBi, tI⟩ : ∃ y_ : List Int, y_ = (cN ++ [45]) := ⟨_, rfl⟩
     replace H : ((Yp.f k2 aBi).bind fun qX => (some (strOfNums qX))) = some r := by first | (rw [tI]; with_reducible exact H) | (have dK := (Option.bind_some _ _).symm.trans H; rw [tI]; with_reducible exact dK) | (have dK := (Option.bind_some _ _).symm.trans H; with_reducible exact dK) | with_reducible exact H | (rw [tI]; exact H) | exact H
     have aIk := Ya.mk tI
     clear tI
     replace H := Option.bind_eq_some_iff.mp H
     obtain ⟨qX, tJ, H⟩ := H
     try dsimp -simprocs only at H
     have A16 := Ya.mk tJ
     clear tJ
     obtain rfl := Option.some.inj H
     obtain ⟨aVt, aVu, aVv⟩ := Kd.R_slice HO_6.out
     subst aVv
     go_wp2_with (first | ((with_reducible refine Yge (b := .append) (xs := #[.tmp 34, .tmp 35]) rfl ?_); (try (refine Yli Zja ?_; dsimp only)); at_builtin; refine Kd.R_append (Kd.int .u8) (w0 := w) w.heap.size rfl (.tmp 34) (.tmp 35) 62 5 (.int .u8 0) 1 rfl Tryz.underlying62 Ytl rfl Zea Zl (.slice aVt cN.length aVu) cN 45 [.int .u8 45] (fun _ => True) (fun _ => False) rfl rfl ?aP (fun _ hk => hk.elim) ?aF ?aO ?aB ?aS ?aL ?_; (case aP => exact rfl); (case aB => exact Za); (case aF => exact (fun _ _ => trivial)); (case aO => exact Zcb); (case aS => exact (Yda Za)); (case aL => have := aIj.out; omega); intro aYj w18 ho hb hg hat; rw [← aIk.out] at ho; have aM := Ya.mk (hb); have aU := Ya.mk (ho); clear HB; clear HO_6; have HB := aM; have qF := aU; clear aM aU; clear ho hb hg hat; obtain ⟨aFK, aFL, aVw⟩ := Kd.R_slice qF.out; subst aVw) | ((with_reducible refine Yh (f := 132) rfl ?_); refine Yba (some 38) rfl rfl Tryz.func132 Zi rfl #[.slice aFK aBi.length aFL] rfl Zb ?_; (with_reducible refine (Yp.calls k2 (fun k_ => some k_ = (.slice aFK aBi.length aFL : Value).ownBlock) (.slice aFK aBi.length aFL) aBi qX w _ ?side1 ?side2 ?side3 A16.out).mono ?_); (case side1 => exact HE.out); (case side2 => repeat (first | (with_reducible first | exact HB.out | apply Yd | apply Yb | apply Yc) | exact HB.out)); (case side3 => exact Kd.R_tight rfl qF.out); rintro e w20 ⟨rfl, hy0, hb, hkp⟩; refine ⟨_, rfl, ?_⟩; have aM := Ya.mk (Kd.R_reok rfl hy0 (fun k_ e_ => qF.out.1 k_ e_)); have aU := Ya.mk (hb); clear qF; clear HB; have qF := aM; have HB := aU; clear aM aU; (try clear hb); (try clear hkp); (try clear hy0); have aXa := Ygh (P := Tryz.prog) Tryz.underlying62 Tryz.underlying5 Tryz.underlying9 (Kd.own_of_R qF.out)))
     go_ret
     exact ⟨by first | rfl | (simp [Yl, Yk] <;> rfl) | (simp only [← qZ, ← pS]; first | rfl | (simp [Yl, Yk] <;> rfl)) | (simp [*, Yl, Yk] <;> rfl), Za⟩
def Yte.f (k : Nat) (a0 : Int) : Option (ByteArray) := (Ykb.f k a0 1).bind fun t116 => (some t116)
theorem Yte.calls (k : Nat) (a0 : Int) (r : ByteArray) (w : World) (hE : EnvOk w) (h : Yte.f k a0 = some r) :
  Calls Tryz.prog 68 #[.int .i64 a0] w fun e w' => e = .returned (.string r) ∧ Below w.heap.size w w' := by
 have HE := Ya.mk hE
 clear hE
 have HB := Ya.mk (Below.refl w.heap.size w)
 have H : ((Ykb.f k a0 1).bind fun t116 => (some t116)) = some r := h
 clear h
 replace H := Option.bind_eq_some_iff.mp H
 obtain ⟨t116, dU, H⟩ := H
 try dsimp -simprocs only at H
 have A2 := Ya.mk dU
 clear dU
 obtain rfl := Option.some.inj H
 go_enter Tryz.func68, Tryz.ntmps68
 go_wp2_with (first | ((with_reducible refine Yh (f := 107) rfl ?_); refine Yba (some 4) rfl rfl Tryz.func107 Zi rfl #[.int .i64 a0, .int .i64 1] rfl Zb ?_; (with_reducible refine (Ykb.calls k a0 1 t116 _ ?side1 A2.out).mono ?_); (case side1 => first | exact HE.out | exact EnvOk.below HE.out Za); rintro e w3 ⟨rfl, hb⟩; refine ⟨_, rfl, ?_⟩; have aM := Ya.mk (Ys Za hb); clear HB; have HB := aM; clear aM; (try clear hb); (try clear cC); (try clear hk); (try clear hi)))
 go_ret
 exact ⟨Zk, Za⟩
def Yuc.f (k : Nat) (aC aH : ByteArray) (aJ : Int) (aG aI aK : ByteArray) (aQ aR : Bool) : Option (ByteArray) := if aC.size + 3 ≤ 9223372036854775807 then (if (aC ++ (⟨#[58, 47, 47]⟩ : ByteArray)).size + aH.size ≤ 9223372036854775807 then (if aJ = 0 then (some ((aC ++ (⟨#[58, 47, 47]⟩ : ByteArray)) ++ aH)) else ((Yte.f k aJ).bind fun kC => (if 1 + kC.size ≤ 9223372036854775807 then (if ((aC ++ (⟨#[58, 47, 47]⟩ : ByteArray)) ++ aH).size + ((⟨#[58]⟩ : ByteArray) ++ kC).size ≤ 9223372036854775807 then (some (((aC ++ (⟨#[58, 47, 47]⟩ : ByteArray)) ++ aH) ++ ((⟨#[58]⟩ : ByteArray) ++ kC))) else (none)) else (none)))) else (none)) else (none)
theorem Yuc.calls (k : Nat) (aC aH : ByteArray) (aJ : Int) (aG aI aK : ByteArray) (aQ aR : Bool) (r : ByteArray) (w : World) (hE : EnvOk w) (h : Yuc.f k aC aH aJ aG aI aK aQ aR = some r) :
  Calls Tryz.prog 29 #[.agg #[.string aC, .string aH, .int .i64 aJ, .string aG, .string aI, .string aK, .bool aQ, .bool aR]] w fun e w' => e = .returned (.string r) ∧ Below w.heap.size w w' := by
 have cB := Tryz.underlying25
 have HE := Ya.mk hE
 clear hE
 have HB := Ya.mk (Below.refl w.heap.size w)
 have H : (if aC.size + 3 ≤ 9223372036854775807 then (if (aC ++ (⟨#[58, 47, 47]⟩ : ByteArray)).size + aH.size ≤ 9223372036854775807 then (if aJ = 0 then (some ((aC ++ (⟨#[58, 47, 47]⟩ : ByteArray)) ++ aH)) else ((Yte.f k aJ).bind fun kC => (if 1 + kC.size ≤ 9223372036854775807 then (if ((aC ++ (⟨#[58, 47, 47]⟩ : ByteArray)) ++ aH).size + ((⟨#[58]⟩ : ByteArray) ++ kC).size ≤ 9223372036854775807 then (some (((aC ++ (⟨#[58, 47, 47]⟩ : ByteArray)) ++ aH) ++ ((⟨#[58]⟩ : ByteArray) ++ kC))) else (none)) else (none)))) else (none)) else (none)) = some r := h
 clear h
 by_cases c2 : aC.size + 3 ≤ 9223372036854775807
 rotate_left
 ·rw [if_neg c2] at H
  exact absurd H Zv
 rw [if_pos c2] at H
 have eT := eq_true c2
 have kG : decide (aC.size + 3 ≤ 9223372036854775807) = true := decide_eq_true c2
 try have aFM : (9223372036854775807 < aC.size + 3) = False := eq_false (Nat.not_lt.2 c2)
 by_cases c3 : (aC ++ (⟨#[58, 47, 47]⟩ : ByteArray)).size + aH.size ≤ 9223372036854775807
 rotate_left
 ·rw [if_neg c3] at H
  exact absurd H Zv
 rw [if_pos c3] at H
 have cJ := eq_true c3
 have fY : decide ((aC ++ (⟨#[58, 47, 47]⟩ : ByteArray)).size + aH.size ≤ 9223372036854775807) = true := decide_eq_true c3
 try have aBj : (9223372036854775807 < (aC ++ (⟨#[58, 47, 47]⟩ : ByteArray)).size + aH.size) = False := eq_false (Nat.not_lt.2 c3)
 by_cases c4 : aJ = 0
 ·rw [if_pos c4] at H
  have cF : (aJ == 0) = true := beq_iff_eq.mpr c4
  have jL : (aJ != 0) = false := bne_eq_false_iff_eq.mpr c4
  clear c4
  obtain rfl := Option.some.inj H
  go_enter Tryz.func29, Tryz.ntmps29
  go_wp2_with (first | ((with_reducible refine Ywc (N := 1) rfl ?_); refine Yrc ?hg (N := 1) ?hd (cs := #[.string aC, .string aH, .int .i64 aJ, .string aG, .string aI, .string aK, .bool aQ, .bool aR]) (t := 25) ?hr ?_; (case hd => rfl); (case hg => rfl); (case hr => first | (go_simp; done) | (go_simp; rfl)); intro eB hg w5 hbox hb; have aM := Ya.mk (Ys Za hb); have aU := Ya.mk (hbox); have bI := Ya.mk ((by rw [hg]; exact (Yda Za) : w.heap.size ≤ eB)); have dE := Ya.mk ((by rw [hg]; exact (Yda Za) : w.heap.size ≤ eB)); clear HB; have HB := aM; have cO := aU; have aIl := bI; have aEO := dE; clear aM aU bI dE; clear hb hbox hg; have nO : w5.cell? ⟨eB, 0, none⟩ = some (.string aC) := (Yf cO.out 0).trans rfl; have nP : w5.cell? ⟨eB, 1, none⟩ = some (.string aH) := (Yf cO.out 1).trans rfl; have nQ : w5.cell? ⟨eB, 2, none⟩ = some (.int .i64 aJ) := (Yf cO.out 2).trans rfl; have nR : w5.cell? ⟨eB, 3, none⟩ = some (.string aG) := (Yf cO.out 3).trans rfl; have nS : w5.cell? ⟨eB, 4, none⟩ = some (.string aI) := (Yf cO.out 4).trans rfl; have nT : w5.cell? ⟨eB, 5, none⟩ = some (.string aK) := (Yf cO.out 5).trans rfl; have nU : w5.cell? ⟨eB, 6, none⟩ = some (.bool aQ) := (Yf cO.out 6).trans rfl; have nV : w5.cell? ⟨eB, 7, none⟩ = some (.bool aR) := (Yf cO.out 7).trans rfl; have nW := Ye cO.out 0; have nX := Ye cO.out 1; have nY := Ye cO.out 2; have nZ := Ye cO.out 3; have oA := Ye cO.out 4; have oB := Ye cO.out 5; have oC := Ye cO.out 6; have oD := Ye cO.out 7))
  go_ret
  exact ⟨Zk, Zla⟩
 rw [if_neg c4] at H
 have cF : (aJ == 0) = false := beq_eq_false_iff_ne.mpr c4
 have jL : (aJ != 0) = true := bne_iff_ne.mpr c4
 replace H := Option.bind_eq_some_iff.mp H
 obtain ⟨kC, oE, H⟩ := H
 try dsimp -simprocs only at H
 have A7 := Ya.mk oE
 clear oE
 by_cases c8 : 1 + kC.size ≤ 9223372036854775807
 rotate_left
 ·rw [if_neg c8] at H
  exact absurd H Zv
 rw [if_pos c8] at H
 have gZ := eq_true c8
 have jE : decide (1 + kC.size ≤ 9223372036854775807) = true := decide_eq_true c8
 try have aVx : (9223372036854775807 < 1 + kC.size) = False := eq_false (Nat.not_lt.2 c8)
 by_cases c9 : ((aC ++ (⟨#[58, 47, 47]⟩ : ByteArray)) ++ aH).size + ((⟨#[58]⟩ : ByteArray) ++ kC).size ≤ 9223372036854775807
 rotate_left
 ·rw [if_neg c9] at H
  exact absurd H Zv
 rw [if_pos c9] at H
 have iI := eq_true c9
 have oF : decide (((aC ++ (⟨#[58, 47, 47]⟩ : ByteArray)) ++ aH).size + ((⟨#[58]⟩ : ByteArray) ++ kC).size ≤ 9223372036854775807) = true := decide_eq_true c9
 try have aBk : (9223372036854775807 < ((aC ++ (⟨#[58, 47, 47]⟩ : ByteArray)) ++ aH).size + ((⟨#[58]⟩ : ByteArray) ++ kC).size) = False := eq_false (Nat.not_lt.2 c9)
 obtain rfl := Option.some.inj H
 go_enter Tryz.func29, Tryz.ntmps29
 go_wp2_with (first | ((with_reducible refine Ywc (N := 1) rfl ?_); refine Yrc ?hg (N := 1) ?hd (cs := #[.string aC, .string aH, .int .i64 aJ, .string aG, .string aI, .string aK, .bool aQ, .bool aR]) (t := 25) ?hr ?_; (case hd => rfl); (case hg => rfl); (case hr => first | (go_simp; done) | (go_simp; rfl)); intro eB hg qE hbox hb; have aM := Ya.mk (Ys Za hb); have aU := Ya.mk (hbox); have bI := Ya.mk ((by rw [hg]; exact (Yda Za) : w.heap.size ≤ eB)); have dE := Ya.mk ((by rw [hg]; exact (Yda Za) : w.heap.size ≤ eB)); clear HB; have HB := aM; have cO := aU; have aIl := bI; have aEO := dE; clear aM aU bI dE; clear hb hbox hg; have lY : qE.cell? ⟨eB, 0, none⟩ = some (.string aC) := (Yf cO.out 0).trans rfl; have lZ : qE.cell? ⟨eB, 1, none⟩ = some (.string aH) := (Yf cO.out 1).trans rfl; have mA : qE.cell? ⟨eB, 2, none⟩ = some (.int .i64 aJ) := (Yf cO.out 2).trans rfl; have mB : qE.cell? ⟨eB, 3, none⟩ = some (.string aG) := (Yf cO.out 3).trans rfl; have mC : qE.cell? ⟨eB, 4, none⟩ = some (.string aI) := (Yf cO.out 4).trans rfl; have mD : qE.cell? ⟨eB, 5, none⟩ = some (.string aK) := (Yf cO.out 5).trans rfl; have mE : qE.cell? ⟨eB, 6, none⟩ = some (.bool aQ) := (Yf cO.out 6).trans rfl; have mF : qE.cell? ⟨eB, 7, none⟩ = some (.bool aR) := (Yf cO.out 7).trans rfl; have mG := Ye cO.out 0; have mH := Ye cO.out 1; have mI := Ye cO.out 2; have mJ := Ye cO.out 3; have mK := Ye cO.out 4; have mL := Ye cO.out 5; have mM := Ye cO.out 6; have mN := Ye cO.out 7) | ((with_reducible refine Yh (f := 68) rfl ?_); refine Yba (some 16) rfl rfl Tryz.func68 Zi rfl #[.int .i64 aJ] rfl Zb ?_; (with_reducible refine (Yte.calls k aJ kC _ ?side1 A7.out).mono ?_); (case side1 => first | exact HE.out | exact EnvOk.below HE.out Zla); rintro e vG ⟨rfl, hb⟩; refine ⟨_, rfl, ?_⟩; have aM := Ya.mk (Ydb (g := eB) (o := .cells #[.string aC, .string aH, .int .i64 aJ, .string aG, .string aI, .string aK, .bool aQ, .bool aR] 25 (0, 0)) (by (with_reducible repeat (first | refine Ym ?_ _ | refine Yr ?_ | refine Yj ?_ _)); exact cO.out) hb); have aU := Ya.mk (Ys Zla hb); clear cO; clear HB; have cO := aM; have HB := aU; clear aM aU; (try clear hb); (try clear cC); (try clear hk); (try clear hi)))
 go_ret
 exact ⟨Zk, Zla⟩
end Go.Proofs.YtnmglnglbdpjjaaGreatDoor.X
