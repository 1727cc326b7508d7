/- Printed by a program of ours: functions as plain Lean, and what a call of each does. -/
import Derived.Test.YtnmglnglbdpjjaaGreatDoorUlWords
import Derived.Test.YtnmglnglbdpjjaaGreatDoorUlX0
namespace Go.Proofs.YtnmglnglbdpjjaaGreatDoor.X
open Go.RowKit Go.Yw.PrintWords Go.Yw.PrintLast Go.Yw.PrintMore
attribute [local go_sem] Yxd Yae Yoe Yqe Yld Yjd Yyd Yzd
set_option linter.unusedVariables false
set_option linter.unusedSimpArgs false
set_option maxHeartbeats 8000000
set_option maxRecDepth 100000
def Yo.l0 : Nat → List Int → Int → Int → Option (List Int)
 | 0, _, _, _ => none
 | k + 1, x0, x2, x3 => if x2 < x3 then (if 0 ≤ x3 then (if x3 < (x0.length : Int) then (if 0 ≤ x2 then (if x2 < (x0.length : Int) then (Yo.l0 k ((x0.set (x2 : Int).toNat (rd x0 x3)).set (x3 : Int).toNat (rd x0 x2)) (wrap64 (x2 + 1)) (wrap64 (x3 - 1))) else (none)) else (none)) else (none)) else (none)) else (some x0)
def Yo.f (k : Nat) (l0 : List Int) : Option (List Int) := Yo.l0 k l0 0 (wrap64 ((l0.length : Int) - 1))
theorem Yo.mono_l : ∀ k, (∀ y0 y1 y2, LeO (Yo.l0 k y0 y1 y2) (Yo.l0 (k + 1) y0 y1 y2))
 | 0 => fun _ _ _ r h => by simp [Yo.l0] at h
 | k + 1 => by
  have sL := Yo.mono_l k
  ·intro y0 y1 y2
   unfold Yo.l0
   repeat' first
   | (with_reducible exact sL _ _ _)
   | (with_reducible exact LeO.refl _)
   | (with_reducible exact LeO.none _)
   | (with_reducible refine LeO.ite ?_ ?_)
   | (with_reducible refine LeO.bind ?_ (fun _ => ?_))
   | exact sL _ _ _
   | exact LeO.none _
   | refine LeO.ite ?_ ?_
   | refine LeO.bind ?_ (fun _ => ?_)
theorem Yo.mono : ∀ a0 k, LeO (Yo.f k a0) (Yo.f (k + 1) a0) := by
 intro a0 k
 have sL := Yo.mono_l k
 unfold Yo.f
 repeat' first
   | (with_reducible exact sL _ _ _)
   | (with_reducible exact LeO.refl _)
   | (with_reducible exact LeO.none _)
   | (with_reducible refine LeO.ite ?_ ?_)
   | (with_reducible refine LeO.bind ?_ (fun _ => ?_))
   | exact sL _ _ _
   | exact LeO.none _
   | refine LeO.ite ?_ ?_
   | refine LeO.bind ?_ (fun _ => ?_)
def Yo.T3 : Bool × List (List Nat × List Nat) := (true, [([], []), ([], []), ([], []), ([], []), ([], []), ([], []), ([4, 5], [4, 5]), ([6], [6]), ([], []), ([], []), ([8, 9], [8, 9]), ([10], [10]), ([0, 1, 0, 1, 4, 5, 6, 7, 11], [0, 1]), ([12, 7, 0, 1, 4, 5, 6, 7, 11], [7, 12]), ([2, 3, 0, 1, 2, 3, 4, 5, 6, 7, 8, 9, 10, 11, 12, 13], [2, 3]), ([14, 11, 13, 0, 1, 2, 3, 4, 5, 6, 7, 8, 9, 10, 11, 12, 13], [11, 14])])
def Yo.B3 : List Nat := [0, 0, 0, 0, 0, 0, 48, 112, 0, 0, 768, 1792, 4083, 8179, 16383, 32767]
theorem Yo.tab3 : rtab .any (opsOf Tryz.f132 3) = Yo.T3 := by kernel_rfl
theorem Yo.bits3 : Ykg Yo.T3.2 Yo.B3 = true := by kernel_rfl
theorem Yo.calls (k : Nat) (P0_ : Nat → Prop) (qD : Value) (l0 r : List Int) (w0 w : World) (hE : EnvOk w0) (hB : Below w0.heap.size w0 w) (qE : Kd.R (Kd.int .u8) 5 w w0.heap.size P0_ qD l0) (h : Yo.f k l0 = some r) :
  Calls Tryz.prog 132 #[qD] w fun e w' => e = .returned (.tuple #[]) ∧ Kd.R (Kd.int .u8) 5 w' w0.heap.size (fun k_ => (P0_ k_ ∨ w.heap.size ≤ k_)) qD r ∧ Below w0.heap.size w0 w' ∧ Kept w w' (fun k_ => P0_ k_) := by
 have HO0 := Ya.mk (show Kd.R (Kd.int .u8) 5 w w0.heap.size (fun k_ => (P0_ k_ ∨ w.heap.size ≤ k_)) qD l0 from Kd.R_mono qE (fun k_ hk => (.inl hk)))
 have HK := Ya.mk (Kept.refl w (fun k_ => P0_ k_))
 have HE := Ya.mk hE
 clear hE
 have HW0 := Ya.mk hB.size
 have HB := Ya.mk hB
 clear hB
 have H : (Yo.l0 k l0 0 (wrap64 ((l0.length : Int) - 1))) = some r := h
 clear h
 have H' := Ya.mk H
 clear H
 obtain ⟨Ao2, co2, eo2⟩ := Kd.R_slice HO0.out
 subst eo2
 go_enter Tryz.func132, Tryz.ntmps132
 go_wp2
 go_loopg [2, 3] k (fun kq v2 v3 w' => ∃ (aX : List Int) (gH : Int) (aD : Int), v2 = .int .i64 gH ∧ v3 = .int .i64 aD ∧ Ya (Yo.l0 kq aX gH aD = some r) ∧ Ya (kq ≤ k) ∧ Ya (Kd.R (Kd.int .u8) 5 w' w0.heap.size (fun k_ => (P0_ k_ ∨ w.heap.size ≤ k_)) (.slice Ao2 l0.length co2) aX) ∧ Ya (Kept w w' (fun k_ => P0_ k_)) ∧ Ya (Below w0.heap.size w0 w'))
 case atStart => exact ⟨(l0), (0), (wrap64 ((l0.length : Int) - 1)), Zf, Zf, H', ⟨Nat.le_refl _⟩, ⟨by (with_reducible repeat (first | apply Kd.R_alloc | apply Kd.R_drewN | apply Kd.R_drew)); exact HO0.out⟩, ⟨by repeat (first | (with_reducible first | exact HK.out | apply Kept.alloc | apply Kept.drewN | apply Kept.drew) | exact HK.out)⟩, ⟨Za⟩⟩
 case round =>
  clear H'
  try clear c1
  try clear p2
  obtain ⟨aX, gH, aD, rfl, rfl, HA, cU, HO_0, HK, HB⟩ := hrel
  have sM := (Kd.R_reads' HO_0.out).1
  rw [sM] at HO_0
  (try simp only [sM])
  cases gk with
  | zero => exact absurd HA.out (by simp [Yo.l0])
  | succ k1 =>
   have H := HA.out
   clear HA
   simp only [Yo.l0] at H
   by_cases c3 : gH < aD
   rotate_left
   ·rw [if_neg c3] at H
    have cB : decide (gH < aD) = false := decide_eq_false c3
    clear c3
    obtain rfl := Option.some.inj H
    go_wp2
    first | go_end0 | ((try simp only [Exit.inBlock, Exit.then]); refine bodyPost_ret (results_none rfl _ _ _) rfl ?_)
    exact ⟨Zl, (by first | exact (by (with_reducible repeat (first | apply Kd.R_alloc | apply Kd.R_drewN | apply Kd.R_drew)); exact HO_0.out) | (simp only [sM]; exact (by (with_reducible repeat (first | apply Kd.R_alloc | apply Kd.R_drewN | apply Kd.R_drew)); exact HO_0.out))), Za, by repeat (first | (with_reducible first | exact HK.out | apply Kept.alloc | apply Kept.drewN | apply Kept.drew) | exact HK.out)⟩
   rw [if_pos c3] at H
   have cB : decide (gH < aD) = true := decide_eq_true c3
   clear c3
   by_cases c4 : 0 ≤ aD
   rotate_left
   ·rw [if_neg c4] at H
    exact absurd H Zv
   rw [if_pos c4] at H
   have bX : decide (0 ≤ aD) = true := decide_eq_true c4
   clear c4
   by_cases c5 : aD < (aX.length : Int)
   rotate_left
   ·rw [if_neg c5] at H
    exact absurd H Zv
   rw [if_pos c5] at H
   have dI : decide (aD < (aX.length : Int)) = true := decide_eq_true c5
   clear c5
   by_cases c6 : 0 ≤ gH
   rotate_left
   ·rw [if_neg c6] at H
    exact absurd H Zv
   rw [if_pos c6] at H
   have dN : decide (0 ≤ gH) = true := decide_eq_true c6
   clear c6
   by_cases c7 : gH < (aX.length : Int)
   rotate_left
   ·rw [if_neg c7] at H
    exact absurd H Zv
   rw [if_pos c7] at H
   have cQ : decide (gH < (aX.length : Int)) = true := decide_eq_true c7
   clear c7
   obtain ⟨aHi, sN⟩ : ∃ y_ : List Int, y_ = (aX.set (gH : Int).toNat (rd aX aD)) := ⟨_, rfl⟩
   replace H : (Yo.l0 k1 (aHi.set (aD : Int).toNat (rd aX gH)) (wrap64 (gH + 1)) (wrap64 (aD - 1))) = some r := by first | (rw [sN]; with_reducible exact H) | (have dH := (Option.bind_some _ _).symm.trans H; rw [sN]; with_reducible exact dH) | (have dH := (Option.bind_some _ _).symm.trans H; with_reducible exact dH) | with_reducible exact H | (rw [sN]; exact H) | exact H
   have aHj := Ya.mk sN
   clear sN
   obtain ⟨aHk, sO⟩ : ∃ y_ : List Int, y_ = (aHi.set (aD : Int).toNat (rd aX gH)) := ⟨_, rfl⟩
   replace H : (Yo.l0 k1 aHk (wrap64 (gH + 1)) (wrap64 (aD - 1))) = some r := by first | (rw [sO]; with_reducible exact H) | (have dH := (Option.bind_some _ _).symm.trans H; rw [sO]; with_reducible exact dH) | (have dH := (Option.bind_some _ _).symm.trans H; with_reducible exact dH) | with_reducible exact H | (rw [sO]; exact H) | exact H
   have aHl := Ya.mk sO
   clear sO
   have H' := Ya.mk H
   clear H
   try go_wp2
   have aH := Ya.mk (Kd.R_drew HO_0.out)
   have aR := Ya.mk (Kept.drew HK.out)
   have bK := Ya.mk (Yc HB.out)
   clear HO_0
   clear HK
   clear HB
   have HO_0 := aH
   have HK := aR
   have HB := bK
   clear aH aR bK
   have aFh : 0 ≤ (aD : Int) := of_decide_eq_true Zc
   have aFi : aD < (aX.length : Int) := of_decide_eq_true Zc
   obtain ⟨aHm, aUD, qF⟩ := Kd.at_int (Kd.R_reads' HO_0.out).2.2 aD aFh aFi
   cases aUD
   replace aFh := eq_true aFh
   replace aFi := eq_true aFi
   have aFj : 0 ≤ (gH : Int) := of_decide_eq_true Zc
   have aFk : gH < (aX.length : Int) := of_decide_eq_true Zc
   obtain ⟨ad102, aUE, qG⟩ := Kd.at_int (Kd.R_reads' HO_0.out).2.2 gH aFj aFk
   obtain rfl : aHm = ad102 := (by injection aUE)
   replace aFj := eq_true aFj
   replace aFk := eq_true aFk
   have p8 : 0 ≤ (gH : Int) := of_decide_eq_true Zc
   have q8 : (gH : Int) < ((aX.length : Int) : Int) := of_decide_eq_true Zc
   obtain ⟨go8, co8, eo8, gb8, gl8, cl8, HG8⟩ := Kd.R_form HO_0.out Zk
   (first | cases eo8 | (injection eo8 with ea_ en_ ec_; (first | subst ea_ | (injection ea_ with ea_; subst ea_)); subst ec_; clear en_))
   have GB8 := Ya.mk gb8
   have GG8 := Ya.mk HG8
   clear gb8 gl8 HG8
   have aEB := Ya.mk (show (P0_ go8 ∨ w.heap.size ≤ go8) from (HO_0.out.1 _ rfl))
   (first | simp only [add_plain] at qF | skip)
   (first | simp only [add_plain] at qG | skip)
   obtain ⟨aHn, aHo⟩ := Kd.R_celln 0 HO_0.out (gH : Int) p8 q8
   replace p8 := eq_true p8
   replace q8 := eq_true q8
   have aFl := Kd.R_putn HO_0.out (gH : Int) (rd aX aD)
   rw [← aHj.out] at aFl
   have aFm := Ya.mk aFl
   clear aFl
   have p9 : 0 ≤ (aD : Int) := of_decide_eq_true Zc
   have q9 : (aD : Int) < ((aX.length : Int) : Int) := of_decide_eq_true Zc
   obtain ⟨aHp, aHq⟩ := Kd.R_celln 0 aFm.out (aD : Int) p9 q9
   replace p9 := eq_true p9
   replace q9 := eq_true q9
   have aFn := Kd.R_putn aFm.out (aD : Int) (rd aX gH)
   rw [← aHl.out] at aFn
   have aHr := Ya.mk aFn
   clear aFn
   refine Yig (n := 16) (S := fun w' => w'.cell? ⟨go8, (aD).toNat, none⟩ = some (.int .u8 (rd aX aD)) ∧ w'.cell? ⟨go8, (gH).toNat, none⟩ = some (.int .u8 (rd aX gH))) (ds := [13, 15]) #[false, false, false, false, false, false, false, false, false, false, false, false, false, false, false, false] Zi rfl rfl ⟨qF, qG⟩ (fun hHeld => ?_); refine Ymf Yo.tab3 Yo.bits3 (fun HT_ HW_ => ?_)
   generalize wr.drew = pJ at HO_0 HK HB GG8 aFm aHr aHo aHq qF qG aHn aHp hHeld ⊢
   refine Ybb (i := 0) (N := some 14) (v := ?_) (a' := ?_) #[true, false, false, false, false, false, false, false, false, false, false, false, false, false, false, false] rfl rfl (Yua HT_.out Zi) (fun _ _ _ h => h) (Or.inl ⟨Zga, ?_⟩) ?_ ?_
   rotate_left
   ·exact Zxb
   rotate_left
   ·exact Zyb
   refine Ybb (i := 1) (N := some 15) (v := ?_) (a' := ?_) #[true, true, false, false, false, false, false, false, false, false, false, false, false, false, false, false] rfl rfl (Yua HT_.out Zi) (fun _ _ _ h => h) (Or.inl ⟨Zga, ?_⟩) ?_ ?_
   rotate_left
   ·exact Zxb
   rotate_left
   ·exact Zyb
   refine Ybb (i := 2) (N := some 16) (v := ?_) (a' := ?_) #[true, true, true, false, false, false, false, false, false, false, false, false, false, false, false, false] rfl rfl (Yua HT_.out Zi) (fun _ _ _ h => h) (Or.inl ⟨Zga, ?_⟩) ?_ ?_
   rotate_left
   ·exact Zxb
   rotate_left
   ·exact Zyb
   refine Ybb (i := 3) (N := some 17) (v := ?_) (a' := ?_) #[true, true, true, true, false, false, false, false, false, false, false, false, false, false, false, false] rfl rfl (Yua HT_.out Zi) (fun _ _ _ h => h) (Or.inl ⟨Zga, ?_⟩) ?_ ?_
   rotate_left
   ·exact Zxb
   rotate_left
   ·exact Zyb
   refine Ybb (i := 4) (N := some 18) (v := ?_) (a' := ?_) #[true, true, true, true, true, false, false, false, false, false, false, false, false, false, false, false] rfl rfl (Yua HT_.out Zi) (fun _ _ _ h => h) (Or.inl ⟨Zga, ?_⟩) ?_ ?_
   rotate_left
   ·exact Zxb
   rotate_left
   ·exact Zyb
   refine Ybb (i := 5) (N := some 19) (v := ?_) (a' := ?_) #[true, true, true, true, true, true, false, false, false, false, false, false, false, false, false, false] rfl rfl (Yua HT_.out Zi) (fun _ _ _ h => h) (Or.inl ⟨Zga, ?_⟩) ?_ ?_
   rotate_left
   ·exact Zxb
   rotate_left
   ·exact Zyb
   refine Ybb (i := 6) (N := some 20) (v := ?_) (a' := ?_) #[true, true, true, true, true, true, true, false, false, false, false, false, false, false, false, false] rfl rfl (Yua HT_.out Zi) (fun _ _ _ h => h) (Or.inl ⟨Zga, ?_⟩) ?_ ?_
   rotate_left
   ·exact Zxb
   rotate_left
   ·exact Zyb
   refine Ybb (i := 8) (N := some 22) (v := ?_) (a' := ?_) #[true, true, true, true, true, true, true, false, true, false, false, false, false, false, false, false] rfl rfl (Yua HT_.out Zi) (fun _ _ _ h => h) (Or.inl ⟨Zga, ?_⟩) ?_ ?_
   rotate_left
   ·exact Zxb
   rotate_left
   ·exact Zyb
   refine Ybb (i := 9) (N := some 23) (v := ?_) (a' := ?_) #[true, true, true, true, true, true, true, false, true, true, false, false, false, false, false, false] rfl rfl (Yua HT_.out Zi) (fun _ _ _ h => h) (Or.inl ⟨Zga, ?_⟩) ?_ ?_
   rotate_left
   ·exact Zxb
   rotate_left
   ·exact Zyb
   refine Ybb (i := 10) (N := some 24) (v := ?_) (a' := ?_) #[true, true, true, true, true, true, true, false, true, true, true, false, false, false, false, false] rfl rfl (Yua HT_.out Zi) (fun _ _ _ h => h) (Or.inl ⟨Zga, ?_⟩) ?_ ?_
   rotate_left
   ·exact Zxb
   rotate_left
   ·exact Zyb
   refine Ypf (i := 7) (N := some 21) (v := ?_) (a' := ?_) #[true, true, true, true, true, true, true, true, true, true, true, false, false, false, false, false] rfl rfl (Yke HT_.out HW_.out Zi) (fun _ _ _ h => h) (Or.inl ⟨Zga, ?_⟩) hHeld ?_ ?_
   rotate_left
   ·rintro w' ⟨s0, s1⟩
    go_simp
    with_reducible rfl
   rotate_left
   ·exact Zyb
   refine Ypf (i := 11) (N := some 25) (v := ?_) (a' := ?_) #[true, true, true, true, true, true, true, true, true, true, true, true, false, false, false, false] rfl rfl (Yke HT_.out HW_.out Zi) (fun _ _ _ h => h) (Or.inl ⟨Zga, ?_⟩) hHeld ?_ ?_
   rotate_left
   ·rintro w' ⟨s0, s1⟩
    go_simp
    with_reducible rfl
   rotate_left
   ·exact Zyb
   refine Ybb (i := 12) (N := some 26) (v := ?_) (a' := ?_) #[true, true, true, true, true, true, true, true, true, true, true, true, true, false, false, false] rfl rfl (Yua HT_.out Zi) (fun _ _ _ h => h) (Or.inl ⟨Zga, ?_⟩) ?_ ?_
   rotate_left
   ·exact Zxb
   rotate_left
   ·exact Zyb
   refine Yvm (i := 13) (N := none) #[true, true, true, true, true, true, true, true, true, true, true, true, true, true, false, false] rfl rfl (Yze HT_.out Zi) Zda (fun K hK => ?_)
   refine Yvi (w1 := ?_) Zga rfl ?_ ?_
   rotate_left
   ·go_simp
    rfl
   refine hK.out _ _ ?_
   clear hK K
   refine Ybb (i := 14) (N := some 27) (v := ?_) (a' := ?_) #[true, true, true, true, true, true, true, true, true, true, true, true, true, true, true, false] rfl rfl (Yua HT_.out Zi) (fun _ _ _ h => h) (Or.inl ⟨Zga, ?_⟩) ?_ ?_
   rotate_left
   ·exact Zxb
   rotate_left
   ·exact Zyb
   refine Yvm (i := 15) (N := none) #[true, true, true, true, true, true, true, true, true, true, true, true, true, true, true, true] rfl rfl (Yze HT_.out Zi) Zda (fun K hK => ?_)
   refine Yvi (w1 := ?_) Zga rfl ?_ ?_
   rotate_left
   ·go_simp
    rfl
   refine hK.out _ _ ?_
   clear hK K
   refine Yrh (Yyg HT_.out Zi) ?_
   try go_wp2
   (try simp only [← sM])
   go_roundg k1
   case measure => have := cU.out; omega
   case rel => exact ⟨(aHk), (wrap64 (gH + 1)), (wrap64 (aD - 1)), Zf, Zf, H', ⟨Zaa⟩, ⟨by (try simp only [sM]); (with_reducible repeat (first | apply Kd.R_alloc | apply Kd.R_drewN | apply Kd.R_drew)); exact aHr.out⟩, ⟨by repeat (first | (with_reducible first | exact HK.out | apply Kept.alloc | apply Kept.drewN | apply Kept.drew | refine Kept.setCell ?_ aEB.out _ | refine Kept.setCell ?_ aEB.out _) | exact HK.out)⟩, ⟨by repeat (first | (with_reducible first | exact HB.out | apply Yd | apply Yb | apply Yc | refine Yg ?_ GB8.out | refine Yg ?_ GB8.out) | exact HB.out)⟩⟩
mutual
def Ymb.j0 : Nat → Int → Int → Int → Option (ByteArray)
 | 0, _, _, _ => none
 | k + 1, x0, x1, x5 => Ymb.l0 k x0 x1 x5 ([] : List Int)
def Ymb.l0 : Nat → Int → Int → Int → List Int → Option (ByteArray)
 | 0, _, _, _, _ => none
 | k + 1, x0, x1, x5, x6 => if x5 > 0 then (if x6.length < 140737488355328 then (Ymb.l0 k x0 x1 (IntKind.u64.wrap (Int.tdiv x5 10)) (x6 ++ [(IntKind.u64.wrap (48 + (Int.tmod x5 10))) % 256])) else (none)) else (if (x6.length : Int) < (mx (mn x1 20) 1) then (if x6.length < 140737488355328 then (Ymb.l0 k x0 x1 (IntKind.u64.wrap (Int.tdiv x5 10)) (x6 ++ [(IntKind.u64.wrap (48 + (Int.tmod x5 10))) % 256])) else (none)) else (if x0 < 0 then (if x6.length < 140737488355328 then ((Yo.f k (x6 ++ [45])).bind fun qH => (some (strOfNums qH))) else (none)) else ((Yo.f k x6).bind fun uS => (some (strOfNums uS)))))
end
def Ymb.f (k : Nat) (a0 a1 : Int) : Option (ByteArray) := if a0 < 0 then (Ymb.j0 k a0 a1 (IntKind.u64.wrap (-(IntKind.u64.wrap (a0))))) else (Ymb.j0 k a0 a1 (IntKind.u64.wrap (a0)))
theorem Ymb.calls (k : Nat) (a0 a1 : Int) (r : ByteArray) (w : World) (hE : EnvOk w) (h : Ymb.f k a0 a1 = some r) :
  Calls Tryz.prog 107 #[.int .i64 a0, .int .i64 a1] w fun e w' => e = .returned (.string r) ∧ Below w.heap.size w w' := by
 have HE := Ya.mk hE
 clear hE
 have HB := Ya.mk (Below.refl w.heap.size w)
 have H : (if a0 < 0 then (Ymb.j0 k a0 a1 (IntKind.u64.wrap (-(IntKind.u64.wrap (a0))))) else (Ymb.j0 k a0 a1 (IntKind.u64.wrap (a0)))) = some r := h
 clear h
 have qI := Ya.mk H
 clear H
 go_enter Tryz.func107, Tryz.ntmps107
 go_upto_if 10 with (fail)
 go_cut [5] (fun v5 wc => ∃ (kq : Nat) (dO : Int), v5 = .int .u64 dO ∧ Ya (Ymb.j0 kq a0 a1 dO = some r) ∧ Ya (kq ≤ k) ∧ Ya (Below w.heap.size w wc))
 case first =>
  have H := qI.out
  clear qI
  by_cases c4 : a0 < 0
  rotate_left
  ·rw [if_neg c4] at H
   have bX : decide (a0 < 0) = false := decide_eq_false c4
   clear c4
   (first | rw [bX] | (simp only [Yca, Yga]; rw [bX]) | skip)
   have H' := Ya.mk H
   clear H
   go_wp2
   go_meet
   case rel => exact ⟨_, (IntKind.u64.wrap (a0)), Zf, H', ⟨Zla⟩, ⟨Za⟩⟩
  rw [if_pos c4] at H
  have bX : decide (a0 < 0) = true := decide_eq_true c4
  clear c4
  (first | rw [bX] | (simp only [Yca, Yga]; rw [bX]) | skip)
  have H' := Ya.mk H
  clear H
  go_wp2
  go_meet
  case rel => exact ⟨_, (IntKind.u64.wrap (-(IntKind.u64.wrap (a0)))), Zf, H', ⟨Zla⟩, ⟨Za⟩⟩
 case rest =>
  clear qI
  try clear c1
  try clear p2
  try clear c4
  try clear bX
  obtain ⟨kq, dO, rfl, HA, pH, HB⟩ := hcut
  cases kq with
  | zero => exact absurd HA.out (by simp [Ymb.j0])
  | succ nA =>
   have H := HA.out
   clear HA
   simp only [Ymb.j0] at H
   have H' := Ya.mk H
   clear H
   go_wp2
   go_loopg [5, 6] nA (fun kq v5 v6 w' => ∃ (dO : Int) (cF : List Int), v5 = .int .u64 dO ∧ Ya (Ymb.l0 kq a0 a1 dO cF = some r) ∧ Ya (kq ≤ nA) ∧ Ya (Kd.R (Kd.int .u8) 5 w' w.heap.size (fun _ => True) v6 cF) ∧ Ya (Below w.heap.size w w'))
   case atStart => exact ⟨(dO), (([] : List Int)), Zf, H', ⟨Nat.le_refl _⟩, ⟨Zfa⟩, ⟨Za⟩⟩
   case round =>
    clear H'
    try clear c1
    try clear p2
    try clear c4
    try clear bX
    try clear p2
    obtain ⟨dO, cF, rfl, HA, jT, HO_6, HB⟩ := hrel
    cases gk with
    | zero => exact absurd HA.out (by simp [Ymb.l0])
    | succ k2 =>
     have H := HA.out
     clear HA
     simp only [Ymb.l0] at H
     by_cases c5 : dO > 0
     ·rw [if_pos c5] at H
      have dI : decide (0 < dO) = true := decide_eq_true c5
      clear c5
      by_cases c6 : cF.length < 140737488355328
      rotate_left
      ·rw [if_neg c6] at H
       exact absurd H Zv
      rw [if_pos c6] at H
      have aUF := Ya.mk c6
      clear c6
      obtain ⟨aHs, sP⟩ : ∃ y_ : List Int, y_ = (cF ++ [(IntKind.u64.wrap (48 + (Int.tmod dO 10))) % 256]) := ⟨_, rfl⟩
      replace H : (Ymb.l0 k2 a0 a1 (IntKind.u64.wrap (Int.tdiv dO 10)) aHs) = some r := by first | (rw [sP]; with_reducible exact H) | (have dH := (Option.bind_some _ _).symm.trans H; rw [sP]; with_reducible exact dH) | (have dH := (Option.bind_some _ _).symm.trans H; with_reducible exact dH) | with_reducible exact H | (rw [sP]; exact H) | exact H
      have aHt := Ya.mk sP
      clear sP
      have H' := Ya.mk H
      clear H
      go_wp2_with (first | ((with_reducible refine Yde (b := .append) (xs := #[.tmp 23, .tmp 28]) rfl ?_); (try (refine Yli Zga ?_; dsimp only)); at_builtin; refine Kd.R_append (Kd.int .u8) (w0 := w) w.heap.size rfl (.tmp 23) (.tmp 28) 62 5 (.int .u8 0) 1 rfl Tryz.underlying62 Yam rfl Zda Zk u6 cF ((IntKind.u64.wrap (48 + (Int.tmod dO 10))) % 256) [.int .u8 ((IntKind.u64.wrap (48 + (Int.tmod dO 10))) % 256)] (fun _ => True) (fun _ => False) rfl rfl ?aP (fun _ hk => hk.elim) ?aF ?aO ?aB ?aS ?aL ?_; (case aP => exact rfl); (case aB => exact Za); (case aF => exact (fun _ _ => trivial)); (case aO => exact Zya); (case aS => exact (Yia Za)); (case aL => have := aUF.out; omega); intro aXy w7 ho hb hg hat; rw [← aHt.out] at ho; have aH := Ya.mk (hb); have aR := Ya.mk (ho); clear HB; clear HO_6; have HB := aH; have aHu := aR; clear aH aR; clear ho hb hg hat))
      go_roundg k2
      case measure => have := pH.out; have := jT.out; omega
      case rel => exact ⟨(IntKind.u64.wrap (Int.tdiv dO 10)), (aHs), Zf, H', ⟨Zva⟩, ⟨by (with_reducible repeat (first | apply Kd.R_alloc | apply Kd.R_drewN | apply Kd.R_drew)); exact aHu.out⟩, ⟨Za⟩⟩
     rw [if_neg c5] at H
     have dI : decide (0 < dO) = false := decide_eq_false c5
     clear c5
     obtain ⟨ji8, qJ⟩ : ∃ j_ : Int, (mn a1 20) = j_ := ⟨_, rfl⟩
     replace H : (if (cF.length : Int) < (mx (ji8) 1) then (if cF.length < 140737488355328 then (Ymb.l0 k2 a0 a1 (IntKind.u64.wrap (Int.tdiv dO 10)) (cF ++ [(IntKind.u64.wrap (48 + (Int.tmod dO 10))) % 256])) else (none)) else (if a0 < 0 then (if cF.length < 140737488355328 then ((Yo.f k2 (cF ++ [45])).bind fun qH => (some (strOfNums qH))) else (none)) else ((Yo.f k2 cF).bind fun uS => (some (strOfNums uS))))) = some r := by first | (rw [qJ] at H; exact H) | (simp only [qJ] at H ⊢; exact H)
     have aWs : (if 20 < a1 then 20 else a1) = ji8 := qJ
     obtain ⟨ji9, oV⟩ : ∃ j_ : Int, (mx (ji8) 1) = j_ := ⟨_, rfl⟩
     replace H : (if (cF.length : Int) < (ji9) then (if cF.length < 140737488355328 then (Ymb.l0 k2 a0 a1 (IntKind.u64.wrap (Int.tdiv dO 10)) (cF ++ [(IntKind.u64.wrap (48 + (Int.tmod dO 10))) % 256])) else (none)) else (if a0 < 0 then (if cF.length < 140737488355328 then ((Yo.f k2 (cF ++ [45])).bind fun qH => (some (strOfNums qH))) else (none)) else ((Yo.f k2 cF).bind fun uS => (some (strOfNums uS))))) = some r := by first | (rw [oV] at H; exact H) | (simp only [oV] at H ⊢; exact H)
     have aHv : (if (ji8) < 1 then 1 else (ji8)) = ji9 := oV
     by_cases dP : (cF.length : Int) < (ji9)
     ·rw [if_pos dP] at H
      have gY : decide ((cF.length : Int) < (ji9)) = true := decide_eq_true dP
      clear dP
      by_cases c11 : cF.length < 140737488355328
      rotate_left
      ·rw [if_neg c11] at H
       exact absurd H Zv
      rw [if_pos c11] at H
      have aAu := Ya.mk c11
      clear c11
      obtain ⟨aHw, sQ⟩ : ∃ y_ : List Int, y_ = (cF ++ [(IntKind.u64.wrap (48 + (Int.tmod dO 10))) % 256]) := ⟨_, rfl⟩
      replace H : (Ymb.l0 k2 a0 a1 (IntKind.u64.wrap (Int.tdiv dO 10)) aHw) = some r := by first | (rw [sQ]; with_reducible exact H) | (have dH := (Option.bind_some _ _).symm.trans H; rw [sQ]; with_reducible exact dH) | (have dH := (Option.bind_some _ _).symm.trans H; with_reducible exact dH) | with_reducible exact H | (rw [sQ]; exact H) | exact H
      have aHx := Ya.mk sQ
      clear sQ
      have H' := Ya.mk H
      clear H
      obtain ⟨aUG, aUH, aUI⟩ := Kd.R_slice HO_6.out
      subst aUI
      go_wp2_with (first | ((with_reducible refine Yde (b := .append) (xs := #[.tmp 23, .tmp 28]) rfl ?_); (try (refine Yli Zga ?_; dsimp only)); at_builtin; refine Kd.R_append (Kd.int .u8) (w0 := w) w.heap.size rfl (.tmp 23) (.tmp 28) 62 5 (.int .u8 0) 1 rfl Tryz.underlying62 Yam rfl Zda Zk (.slice aUG cF.length aUH) cF ((IntKind.u64.wrap (48 + (Int.tmod dO 10))) % 256) [.int .u8 ((IntKind.u64.wrap (48 + (Int.tmod dO 10))) % 256)] (fun _ => True) (fun _ => False) rfl rfl ?aP (fun _ hk => hk.elim) ?aF ?aO ?aB ?aS ?aL ?_; (case aP => exact rfl); (case aB => exact Za); (case aF => exact (fun _ _ => trivial)); (case aO => exact Zya); (case aS => exact (Yia Za)); (case aL => have := aAu.out; omega); intro aXz nB ho hb hg hat; rw [← aHx.out] at ho; have aH := Ya.mk (hb); have aR := Ya.mk (ho); clear HB; clear HO_6; have HB := aH; have aHy := aR; clear aH aR; clear ho hb hg hat))
      go_roundg k2
      case measure => have := pH.out; have := jT.out; omega
      case rel => exact ⟨(IntKind.u64.wrap (Int.tdiv dO 10)), (aHw), Zf, H', ⟨Zva⟩, ⟨by (with_reducible repeat (first | apply Kd.R_alloc | apply Kd.R_drewN | apply Kd.R_drew)); exact aHy.out⟩, ⟨Za⟩⟩
     rw [if_neg dP] at H
     have gY : decide ((cF.length : Int) < (ji9)) = false := decide_eq_false dP
     clear dP
     by_cases gO : a0 < 0
     rotate_left
     ·rw [if_neg gO] at H
      have iC : decide (a0 < 0) = false := decide_eq_false gO
      clear gO
      replace H := Option.bind_eq_some_iff.mp H
      obtain ⟨uS, aAv, H⟩ := H
      try dsimp -simprocs only at H
      have A22 := Ya.mk aAv
      clear aAv
      obtain rfl := Option.some.inj H
      obtain ⟨aFo, aFp, aUJ⟩ := Kd.R_slice HO_6.out
      subst aUJ
      go_wp2_with (first | ((with_reducible refine Yi (f := 132) rfl ?_); refine Yaa (some 38) rfl rfl Tryz.func132 Zi rfl #[.slice aFo cF.length aFp] rfl Zb ?_; (with_reducible refine (Yo.calls k2 (fun k_ => some k_ = (.slice aFo cF.length aFp : Value).ownBlock) (.slice aFo cF.length aFp) cF uS w _ ?side1 ?side2 ?side3 A22.out).mono ?_); (case side1 => exact HE.out); (case side2 => repeat (first | (with_reducible first | exact HB.out | apply Yd | apply Yb | apply Yc) | exact HB.out)); (case side3 => exact Kd.R_tight rfl HO_6.out); rintro e w24 ⟨rfl, hy0, hb, hkp⟩; refine ⟨_, rfl, ?_⟩; have aH := Ya.mk (Kd.R_reok rfl hy0 (fun k_ e_ => HO_6.out.1 k_ e_)); have aR := Ya.mk (hb); clear HO_6; clear HB; have HO_6 := aH; have HB := aR; clear aH aR; (try clear hb); (try clear hkp); (try clear hy0); have aWt := Yzg (P := Tryz.prog) Tryz.underlying62 Tryz.underlying5 Tryz.underlying9 (Kd.own_of_R HO_6.out)))
      go_ret
      exact ⟨by first | rfl | (simp [Yl, Yk] <;> rfl) | (simp only [← qJ, ← oV]; first | rfl | (simp [Yl, Yk] <;> rfl)) | (simp [*, Yl, Yk] <;> rfl), Za⟩
     rw [if_pos gO] at H
     have iC : decide (a0 < 0) = true := decide_eq_true gO
     clear gO
     by_cases dG : cF.length < 140737488355328
     rotate_left
     ·rw [if_neg dG] at H
      exact absurd H Zv
     rw [if_pos dG] at H
     have aHA := Ya.mk dG
     clear dG
     obtain ⟨aAw, sR⟩ : ∃ y_ : List Int, y_ = (cF ++ [45]) := ⟨_, rfl⟩
     replace H : ((Yo.f k2 aAw).bind fun qH => (some (strOfNums qH))) = some r := by first | (rw [sR]; with_reducible exact H) | (have dH := (Option.bind_some _ _).symm.trans H; rw [sR]; with_reducible exact dH) | (have dH := (Option.bind_some _ _).symm.trans H; with_reducible exact dH) | with_reducible exact H | (rw [sR]; exact H) | exact H
     have aHB := Ya.mk sR
     clear sR
     replace H := Option.bind_eq_some_iff.mp H
     obtain ⟨qH, sS, H⟩ := H
     try dsimp -simprocs only at H
     have A16 := Ya.mk sS
     clear sS
     obtain rfl := Option.some.inj H
     obtain ⟨aUK, aUL, aUM⟩ := Kd.R_slice HO_6.out
     subst aUM
     go_wp2_with (first | ((with_reducible refine Yde (b := .append) (xs := #[.tmp 34, .tmp 35]) rfl ?_); (try (refine Yli Zga ?_; dsimp only)); at_builtin; refine Kd.R_append (Kd.int .u8) (w0 := w) w.heap.size rfl (.tmp 34) (.tmp 35) 62 5 (.int .u8 0) 1 rfl Tryz.underlying62 Yam rfl Zda Zk (.slice aUK cF.length aUL) cF 45 [.int .u8 45] (fun _ => True) (fun _ => False) rfl rfl ?aP (fun _ hk => hk.elim) ?aF ?aO ?aB ?aS ?aL ?_; (case aP => exact rfl); (case aB => exact Za); (case aF => exact (fun _ _ => trivial)); (case aO => exact Zya); (case aS => exact (Yia Za)); (case aL => have := aHA.out; omega); intro aXA w18 ho hb hg hat; rw [← aHB.out] at ho; have aH := Ya.mk (hb); have aR := Ya.mk (ho); clear HB; clear HO_6; have HB := aH; have pK := aR; clear aH aR; clear ho hb hg hat; obtain ⟨aFq, aFr, aUN⟩ := Kd.R_slice pK.out; subst aUN) | ((with_reducible refine Yi (f := 132) rfl ?_); refine Yaa (some 38) rfl rfl Tryz.func132 Zi rfl #[.slice aFq aAw.length aFr] rfl Zb ?_; (with_reducible refine (Yo.calls k2 (fun k_ => some k_ = (.slice aFq aAw.length aFr : Value).ownBlock) (.slice aFq aAw.length aFr) aAw qH w _ ?side1 ?side2 ?side3 A16.out).mono ?_); (case side1 => exact HE.out); (case side2 => repeat (first | (with_reducible first | exact HB.out | apply Yd | apply Yb | apply Yc) | exact HB.out)); (case side3 => exact Kd.R_tight rfl pK.out); rintro e w20 ⟨rfl, hy0, hb, hkp⟩; refine ⟨_, rfl, ?_⟩; have aH := Ya.mk (Kd.R_reok rfl hy0 (fun k_ e_ => pK.out.1 k_ e_)); have aR := Ya.mk (hb); clear pK; clear HB; have pK := aH; have HB := aR; clear aH aR; (try clear hb); (try clear hkp); (try clear hy0); have aWu := Yzg (P := Tryz.prog) Tryz.underlying62 Tryz.underlying5 Tryz.underlying9 (Kd.own_of_R pK.out)))
     go_ret
     exact ⟨by first | rfl | (simp [Yl, Yk] <;> rfl) | (simp only [← qJ, ← oV]; first | rfl | (simp [Yl, Yk] <;> rfl)) | (simp [*, Yl, Yk] <;> rfl), Za⟩
def Yme.f (k : Nat) (a0 : Int) : Option (ByteArray) := (Ymb.f k a0 1).bind fun t116 => (some t116)
theorem Yme.calls (k : Nat) (a0 : Int) (r : ByteArray) (w : World) (hE : EnvOk w) (h : Yme.f k a0 = some r) :
  Calls Tryz.prog 68 #[.int .i64 a0] w fun e w' => e = .returned (.string r) ∧ Below w.heap.size w w' := by
 have HE := Ya.mk hE
 clear hE
 have HB := Ya.mk (Below.refl w.heap.size w)
 have H : ((Ymb.f k a0 1).bind fun t116 => (some t116)) = some r := h
 clear h
 replace H := Option.bind_eq_some_iff.mp H
 obtain ⟨t116, dV, H⟩ := H
 try dsimp -simprocs only at H
 have A2 := Ya.mk dV
 clear dV
 obtain rfl := Option.some.inj H
 go_enter Tryz.func68, Tryz.ntmps68
 go_wp2_with (first | ((with_reducible refine Yi (f := 107) rfl ?_); refine Yaa (some 4) rfl rfl Tryz.func107 Zi rfl #[.int .i64 a0, .int .i64 1] rfl Zb ?_; (with_reducible refine (Ymb.calls k a0 1 t116 _ ?side1 A2.out).mono ?_); (case side1 => first | exact HE.out | exact EnvOk.below HE.out Za); rintro e w3 ⟨rfl, hb⟩; refine ⟨_, rfl, ?_⟩; have aH := Ya.mk (Yt Za hb); clear HB; have HB := aH; clear aH; (try clear hb); (try clear bU); (try clear hk); (try clear hi)))
 go_ret
 exact ⟨Zl, Za⟩
def Yye.f (k : Nat) (aE aJ : ByteArray) (aN : Int) (aG aM aK : ByteArray) (aU aV : Bool) : Option (ByteArray) := if aE.size + 3 ≤ 9223372036854775807 then (if (aE ++ (⟨#[58, 47, 47]⟩ : ByteArray)).size + aJ.size ≤ 9223372036854775807 then (if aN = 0 then (some ((aE ++ (⟨#[58, 47, 47]⟩ : ByteArray)) ++ aJ)) else ((Yme.f k aN).bind fun jV => (if 1 + jV.size ≤ 9223372036854775807 then (if ((aE ++ (⟨#[58, 47, 47]⟩ : ByteArray)) ++ aJ).size + ((⟨#[58]⟩ : ByteArray) ++ jV).size ≤ 9223372036854775807 then (some (((aE ++ (⟨#[58, 47, 47]⟩ : ByteArray)) ++ aJ) ++ ((⟨#[58]⟩ : ByteArray) ++ jV))) else (none)) else (none)))) else (none)) else (none)
theorem Yye.calls (k : Nat) (aE aJ : ByteArray) (aN : Int) (aG aM aK : ByteArray) (aU aV : Bool) (r : ByteArray) (w : World) (hE : EnvOk w) (h : Yye.f k aE aJ aN aG aM aK aU aV = some r) :
  Calls Tryz.prog 29 #[.agg #[.string aE, .string aJ, .int .i64 aN, .string aG, .string aM, .string aK, .bool aU, .bool aV]] w fun e w' => e = .returned (.string r) ∧ Below w.heap.size w w' := by
 have bQ := Tryz.underlying25
 have HE := Ya.mk hE
 clear hE
 have HB := Ya.mk (Below.refl w.heap.size w)
 have H : (if aE.size + 3 ≤ 9223372036854775807 then (if (aE ++ (⟨#[58, 47, 47]⟩ : ByteArray)).size + aJ.size ≤ 9223372036854775807 then (if aN = 0 then (some ((aE ++ (⟨#[58, 47, 47]⟩ : ByteArray)) ++ aJ)) else ((Yme.f k aN).bind fun jV => (if 1 + jV.size ≤ 9223372036854775807 then (if ((aE ++ (⟨#[58, 47, 47]⟩ : ByteArray)) ++ aJ).size + ((⟨#[58]⟩ : ByteArray) ++ jV).size ≤ 9223372036854775807 then (some (((aE ++ (⟨#[58, 47, 47]⟩ : ByteArray)) ++ aJ) ++ ((⟨#[58]⟩ : ByteArray) ++ jV))) else (none)) else (none)))) else (none)) else (none)) = some r := h
 clear h
 by_cases c2 : aE.size + 3 ≤ 9223372036854775807
 rotate_left
 ·rw [if_neg c2] at H
  exact absurd H Zv
 rw [if_pos c2] at H
 have eR := eq_true c2
 have jY : decide (aE.size + 3 ≤ 9223372036854775807) = true := decide_eq_true c2
 try have aFs : (9223372036854775807 < aE.size + 3) = False := eq_false (Nat.not_lt.2 c2)
 by_cases c3 : (aE ++ (⟨#[58, 47, 47]⟩ : ByteArray)).size + aJ.size ≤ 9223372036854775807
 rotate_left
 ·rw [if_neg c3] at H
  exact absurd H Zv
 rw [if_pos c3] at H
 have cB := eq_true c3
 have fV : decide ((aE ++ (⟨#[58, 47, 47]⟩ : ByteArray)).size + aJ.size ≤ 9223372036854775807) = true := decide_eq_true c3
 try have aAx : (9223372036854775807 < (aE ++ (⟨#[58, 47, 47]⟩ : ByteArray)).size + aJ.size) = False := eq_false (Nat.not_lt.2 c3)
 by_cases c4 : aN = 0
 ·rw [if_pos c4] at H
  have bX : (aN == 0) = true := beq_iff_eq.mpr c4
  have jF : (aN != 0) = false := bne_eq_false_iff_eq.mpr c4
  clear c4
  obtain rfl := Option.some.inj H
  go_enter Tryz.func29, Tryz.ntmps29
  go_wp2_with (first | ((with_reducible refine Yad (N := 1) rfl ?_); refine Yzc ?hg (N := 1) ?hd (cs := #[.string aE, .string aJ, .int .i64 aN, .string aG, .string aM, .string aK, .bool aU, .bool aV]) (t := 25) ?hr ?_; (case hd => rfl); (case hg => rfl); (case hr => first | (go_simp; done) | (go_simp; rfl)); intro dZ hg w5 hbox hb; have aH := Ya.mk (Yt Za hb); have aR := Ya.mk (hbox); have bK := Ya.mk ((by rw [hg]; exact (Yia Za) : w.heap.size ≤ dZ)); have dM := Ya.mk ((by rw [hg]; exact (Yia Za) : w.heap.size ≤ dZ)); clear HB; have HB := aH; have cG := aR; have aHC := bK; have aEw := dM; clear aH aR bK dM; clear hb hbox hg; have nC : w5.cell? ⟨dZ, 0, none⟩ = some (.string aE) := (Yf cG.out 0).trans rfl; have nD : w5.cell? ⟨dZ, 1, none⟩ = some (.string aJ) := (Yf cG.out 1).trans rfl; have nE : w5.cell? ⟨dZ, 2, none⟩ = some (.int .i64 aN) := (Yf cG.out 2).trans rfl; have nF : w5.cell? ⟨dZ, 3, none⟩ = some (.string aG) := (Yf cG.out 3).trans rfl; have nG : w5.cell? ⟨dZ, 4, none⟩ = some (.string aM) := (Yf cG.out 4).trans rfl; have nH : w5.cell? ⟨dZ, 5, none⟩ = some (.string aK) := (Yf cG.out 5).trans rfl; have nJ : w5.cell? ⟨dZ, 6, none⟩ = some (.bool aU) := (Yf cG.out 6).trans rfl; have nK : w5.cell? ⟨dZ, 7, none⟩ = some (.bool aV) := (Yf cG.out 7).trans rfl; have nM := Ye cG.out 0; have nN := Ye cG.out 1; have nO := Ye cG.out 2; have nP := Ye cG.out 3; have nQ := Ye cG.out 4; have nR := Ye cG.out 5; have nS := Ye cG.out 6; have nT := Ye cG.out 7))
  go_ret
  exact ⟨Zl, Zja⟩
 rw [if_neg c4] at H
 have bX : (aN == 0) = false := beq_eq_false_iff_ne.mpr c4
 have jF : (aN != 0) = true := bne_iff_ne.mpr c4
 replace H := Option.bind_eq_some_iff.mp H
 obtain ⟨jV, nU, H⟩ := H
 try dsimp -simprocs only at H
 have A7 := Ya.mk nU
 clear nU
 by_cases c8 : 1 + jV.size ≤ 9223372036854775807
 rotate_left
 ·rw [if_neg c8] at H
  exact absurd H Zv
 rw [if_pos c8] at H
 have gQ := eq_true c8
 have iW : decide (1 + jV.size ≤ 9223372036854775807) = true := decide_eq_true c8
 try have aUO : (9223372036854775807 < 1 + jV.size) = False := eq_false (Nat.not_lt.2 c8)
 by_cases c9 : ((aE ++ (⟨#[58, 47, 47]⟩ : ByteArray)) ++ aJ).size + ((⟨#[58]⟩ : ByteArray) ++ jV).size ≤ 9223372036854775807
 rotate_left
 ·rw [if_neg c9] at H
  exact absurd H Zv
 rw [if_pos c9] at H
 have iA := eq_true c9
 have lN : decide (((aE ++ (⟨#[58, 47, 47]⟩ : ByteArray)) ++ aJ).size + ((⟨#[58]⟩ : ByteArray) ++ jV).size ≤ 9223372036854775807) = true := decide_eq_true c9
 try have zH : (9223372036854775807 < ((aE ++ (⟨#[58, 47, 47]⟩ : ByteArray)) ++ aJ).size + ((⟨#[58]⟩ : ByteArray) ++ jV).size) = False := eq_false (Nat.not_lt.2 c9)
 obtain rfl := Option.some.inj H
 go_enter Tryz.func29, Tryz.ntmps29
 go_wp2_with (first | ((with_reducible refine Yad (N := 1) rfl ?_); refine Yzc ?hg (N := 1) ?hd (cs := #[.string aE, .string aJ, .int .i64 aN, .string aG, .string aM, .string aK, .bool aU, .bool aV]) (t := 25) ?hr ?_; (case hd => rfl); (case hg => rfl); (case hr => first | (go_simp; done) | (go_simp; rfl)); intro dZ hg pJ hbox hb; have aH := Ya.mk (Yt Za hb); have aR := Ya.mk (hbox); have bK := Ya.mk ((by rw [hg]; exact (Yia Za) : w.heap.size ≤ dZ)); have dM := Ya.mk ((by rw [hg]; exact (Yia Za) : w.heap.size ≤ dZ)); clear HB; have HB := aH; have cG := aR; have aHC := bK; have aEw := dM; clear aH aR bK dM; clear hb hbox hg; have lP : pJ.cell? ⟨dZ, 0, none⟩ = some (.string aE) := (Yf cG.out 0).trans rfl; have lQ : pJ.cell? ⟨dZ, 1, none⟩ = some (.string aJ) := (Yf cG.out 1).trans rfl; have lR : pJ.cell? ⟨dZ, 2, none⟩ = some (.int .i64 aN) := (Yf cG.out 2).trans rfl; have lS : pJ.cell? ⟨dZ, 3, none⟩ = some (.string aG) := (Yf cG.out 3).trans rfl; have lT : pJ.cell? ⟨dZ, 4, none⟩ = some (.string aM) := (Yf cG.out 4).trans rfl; have lU : pJ.cell? ⟨dZ, 5, none⟩ = some (.string aK) := (Yf cG.out 5).trans rfl; have lV : pJ.cell? ⟨dZ, 6, none⟩ = some (.bool aU) := (Yf cG.out 6).trans rfl; have lW : pJ.cell? ⟨dZ, 7, none⟩ = some (.bool aV) := (Yf cG.out 7).trans rfl; have lX := Ye cG.out 0; have lY := Ye cG.out 1; have lZ := Ye cG.out 2; have mA := Ye cG.out 3; have mB := Ye cG.out 4; have mC := Ye cG.out 5; have mD := Ye cG.out 6; have mE := Ye cG.out 7) | ((with_reducible refine Yi (f := 68) rfl ?_); refine Yaa (some 16) rfl rfl Tryz.func68 Zi rfl #[.int .i64 aN] rfl Zb ?_; (with_reducible refine (Yme.calls k aN jV _ ?side1 A7.out).mono ?_); (case side1 => first | exact HE.out | exact EnvOk.below HE.out Zja); rintro e uN ⟨rfl, hb⟩; refine ⟨_, rfl, ?_⟩; have aH := Ya.mk (Ykb (g := dZ) (o := .cells #[.string aE, .string aJ, .int .i64 aN, .string aG, .string aM, .string aK, .bool aU, .bool aV] 25 (0, 0)) (by (with_reducible repeat (first | refine Yh ?_ _ | refine Yp ?_ | refine Yn ?_ _)); exact cG.out) hb); have aR := Ya.mk (Yt Zja hb); clear cG; clear HB; have cG := aH; have HB := aR; clear aH aR; (try clear hb); (try clear bU); (try clear hk); (try clear hi)))
 go_ret
 exact ⟨Zl, Zja⟩
end Go.Proofs.YtnmglnglbdpjjaaGreatDoor.X
