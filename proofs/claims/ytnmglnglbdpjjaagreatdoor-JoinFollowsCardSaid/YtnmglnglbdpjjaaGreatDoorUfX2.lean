import Derived.Test.YtnmglnglbdpjjaaGreatDoorUfX0
set_option linter.all false
namespace Go.Proofs.YtnmglnglbdpjjaaGreatDoor.X
open Go.RowKit Go.Yw.PrintWords Go.Yw.PrintLast Go.Yw.PrintMore
attribute [local go_sem] Yfe Ybe Yre Yue Yld Ykd Yee Yde
set_option maxHeartbeats 8000000
set_option maxRecDepth 100000
def Yo.l0 : Nat → List Int → Int → Int → Option (List Int)
 | 0, _, _, _ => none
 | k + 1, x0, x2, x3 => if x2 < x3 then (if 0 ≤ x3 then (if x3 < (x0.length : Int) then (if 0 ≤ x2 then (if x2 < (x0.length : Int) then (Yo.l0 k ((x0.set (x2 : Int).toNat (rd x0 x3)).set (x3 : Int).toNat (rd x0 x2)) (wrap64 (x2 + 1)) (wrap64 (x3 - 1))) else (none)) else (none)) else (none)) else (none)) else (some x0)
def Yo.f (k : Nat) (l0 : List Int) : Option (List Int) := Yo.l0 k l0 0 (wrap64 ((l0.length : Int) - 1))
theorem Yo.mono_l : ∀ k, (∀ y0 y1 y2, LeO (Yo.l0 k y0 y1 y2) (Yo.l0 (k + 1) y0 y1 y2))
 | 0 => fun _ _ _ r h => by simp [Yo.l0] at h
 | k + 1 => by
  have sP := Yo.mono_l k
  ·intro y0 y1 y2
   unfold Yo.l0
   repeat' first
   | (with_reducible exact sP _ _ _)
   | (with_reducible exact LeO.refl _)
   | (with_reducible exact LeO.none _)
   | (with_reducible refine LeO.ite ?_ ?_)
   | (with_reducible refine LeO.bind ?_ (fun _ => ?_))
   | exact sP _ _ _
   | exact LeO.none _
   | refine LeO.ite ?_ ?_
   | refine LeO.bind ?_ (fun _ => ?_)
theorem Yo.mono : ∀ a0 k, LeO (Yo.f k a0) (Yo.f (k + 1) a0) := by
 intro a0 k
 have sP := Yo.mono_l k
 unfold Yo.f
 repeat' first
   | (with_reducible exact sP _ _ _)
   | (with_reducible exact LeO.refl _)
   | (with_reducible exact LeO.none _)
   | (with_reducible refine LeO.ite ?_ ?_)
   | (with_reducible refine LeO.bind ?_ (fun _ => ?_))
   | exact sP _ _ _
   | exact LeO.none _
   | refine LeO.ite ?_ ?_
   | refine LeO.bind ?_ (fun _ => ?_)
def Yo.T3 : Bool × List (List Nat × List Nat) := (true, [([], []), ([], []), ([], []), ([], []), ([], []), ([], []), ([4, 5], [4, 5]), ([6], [6]), ([], []), ([], []), ([8, 9], [8, 9]), ([10], [10]), ([0, 1, 0, 1, 4, 5, 6, 7, 11], [0, 1]), ([12, 7, 0, 1, 4, 5, 6, 7, 11], [7, 12]), ([2, 3, 0, 1, 2, 3, 4, 5, 6, 7, 8, 9, 10, 11, 12, 13], [2, 3]), ([14, 11, 13, 0, 1, 2, 3, 4, 5, 6, 7, 8, 9, 10, 11, 12, 13], [11, 14])])
def Yo.B3 : List Nat := [0, 0, 0, 0, 0, 0, 48, 112, 0, 0, 768, 1792, 4083, 8179, 16383, 32767]
theorem Yo.tab3 : rtab .any (opsOf Tryz.f132 3) = Yo.T3 := by kernel_rfl
theorem Yo.bits3 : Yig Yo.T3.2 Yo.B3 = true := by kernel_rfl
theorem Yo.calls (k : Nat) (P0_ : Nat → Prop) (qI : Value) (l0 r : List Int) (w0 w : World) (hE : EnvOk w0) (hB : Below w0.heap.size w0 w) (qJ : Kd.R (Kd.int .u8) 5 w w0.heap.size P0_ qI l0) (h : Yo.f k l0 = some r) :
  Calls Tryz.prog 132 #[qI] w fun e w' => e = .returned (.tuple #[]) ∧ Kd.R (Kd.int .u8) 5 w' w0.heap.size (fun k_ => (P0_ k_ ∨ w.heap.size ≤ k_)) qI r ∧ Below w0.heap.size w0 w' ∧ Kept w w' (fun k_ => P0_ k_) := by
 have HO0 := Ya.mk (show Kd.R (Kd.int .u8) 5 w w0.heap.size (fun k_ => (P0_ k_ ∨ w.heap.size ≤ k_)) qI l0 from Kd.R_mono qJ (fun k_ hk => (.inl hk)))
 have HK := Ya.mk (Kept.refl w (fun k_ => P0_ k_))
 have HE := Ya.mk hE
 clear hE
 have HW0 := Ya.mk hB.size
 have HB := Ya.mk hB
 clear hB
 have H : (Yo.l0 k l0 0 (wrap64 ((l0.length : Int) - 1))) = some r := h
 clear h
 have H' := Ya.mk H
 clear H
 obtain ⟨Ao2, co2, eo2⟩ := Kd.R_slice HO0.out
 subst eo2
 go_enter Tryz.func132, Tryz.ntmps132
 go_wp2
 go_loopg [2, 3] k (fun kq v2 v3 w' => ∃ (aX : List Int) (gJ : Int) (aD : Int), v2 = .int .i64 gJ ∧ v3 = .int .i64 aD ∧ Ya (Yo.l0 kq aX gJ aD = some r) ∧ Ya (kq ≤ k) ∧ Ya (Kd.R (Kd.int .u8) 5 w' w0.heap.size (fun k_ => (P0_ k_ ∨ w.heap.size ≤ k_)) (.slice Ao2 l0.length co2) aX) ∧ Ya (Kept w w' (fun k_ => P0_ k_)) ∧ Ya (Below w0.heap.size w0 w'))
 case atStart => exact ⟨(l0), (0), (wrap64 ((l0.length : Int) - 1)), Zf, Zf, H', ⟨Kw _⟩, ⟨by (with_reducible repeat (first | apply Kd.R_alloc | apply Kd.R_drewN | apply Kd.R_drew)); exact HO0.out⟩, ⟨by repeat (first | (with_reducible first | exact HK.out | apply Kept.alloc | apply Kept.drewN | apply Kept.drew) | exact HK.out)⟩, ⟨Za⟩⟩
 case round =>
  clear H'
  try clear c1
  try clear p2
  obtain ⟨aX, gJ, aD, rfl, rfl, HA, dB, HO_0, HK, HB⟩ := hrel
  have sQ := (Kd.R_reads' HO_0.out).1
  rw [sQ] at HO_0
  (try simp only [sQ])
  cases gk with
  | zero => exact absurd HA.out (by simp [Yo.l0])
  | succ k1 =>
   have H := HA.out
   clear HA
   simp only [Yo.l0] at H
   by_cases c3 : gJ < aD
   rotate_left
   ·rw [if_neg c3] at H
    have cC : decide (gJ < aD) = false := Ks c3
    clear c3
    obtain rfl := Kv H
    go_wp2
    first | go_end0 | ((try simp only [Exit.inBlock, Exit.then]); refine bodyPost_ret (results_none rfl _ _ _) rfl ?_)
    exact ⟨Zl, (by first | exact (by (with_reducible repeat (first | apply Kd.R_alloc | apply Kd.R_drewN | apply Kd.R_drew)); exact HO_0.out) | (simp only [sQ]; exact (by (with_reducible repeat (first | apply Kd.R_alloc | apply Kd.R_drewN | apply Kd.R_drew)); exact HO_0.out))), Za, by repeat (first | (with_reducible first | exact HK.out | apply Kept.alloc | apply Kept.drewN | apply Kept.drew) | exact HK.out)⟩
   rw [if_pos c3] at H
   have cC : decide (gJ < aD) = true := Kr c3
   clear c3
   by_cases c4 : 0 ≤ aD
   rotate_left
   ·rw [if_neg c4] at H
    exact absurd H Zv
   rw [if_pos c4] at H
   have bX : decide (0 ≤ aD) = true := Kr c4
   clear c4
   by_cases c5 : aD < (aX.length : Int)
   rotate_left
   ·rw [if_neg c5] at H
    exact absurd H Zv
   rw [if_pos c5] at H
   have dI : decide (aD < (aX.length : Int)) = true := Kr c5
   clear c5
   by_cases c6 : 0 ≤ gJ
   rotate_left
   ·rw [if_neg c6] at H
    exact absurd H Zv
   rw [if_pos c6] at H
   have dN : decide (0 ≤ gJ) = true := Kr c6
   clear c6
   by_cases c7 : gJ < (aX.length : Int)
   rotate_left
   ·rw [if_neg c7] at H
    exact absurd H Zv
   rw [if_pos c7] at H
   have cW : decide (gJ < (aX.length : Int)) = true := Kr c7
   clear c7
   obtain ⟨aHu, sR⟩ : ∃ y_ : List Int, y_ = (aX.set (gJ : Int).toNat (rd aX aD)) := ⟨_, rfl⟩
   replace H : (Yo.l0 k1 (aHu.set (aD : Int).toNat (rd aX gJ)) (wrap64 (gJ + 1)) (wrap64 (aD - 1))) = some r := by first | (rw [sR]; with_reducible exact H) | (have dH := (Kfa _ _).symm.trans H; rw [sR]; with_reducible exact dH) | (have dH := (Kfa _ _).symm.trans H; with_reducible exact dH) | with_reducible exact H | (rw [sR]; exact H) | exact H
   have aHv := Ya.mk sR
   clear sR
   obtain ⟨aHw, sS⟩ : ∃ y_ : List Int, y_ = (aHu.set (aD : Int).toNat (rd aX gJ)) := ⟨_, rfl⟩
   replace H : (Yo.l0 k1 aHw (wrap64 (gJ + 1)) (wrap64 (aD - 1))) = some r := by first | (rw [sS]; with_reducible exact H) | (have dH := (Kfa _ _).symm.trans H; rw [sS]; with_reducible exact dH) | (have dH := (Kfa _ _).symm.trans H; with_reducible exact dH) | with_reducible exact H | (rw [sS]; exact H) | exact H
   have aHx := Ya.mk sS
   clear sS
   have H' := Ya.mk H
   clear H
   try go_wp2
   have aH := Ya.mk (Kd.R_drew HO_0.out)
   have aR := Ya.mk (Kept.drew HK.out)
   have bK := Ya.mk (Yc HB.out)
   clear HO_0
   clear HK
   clear HB
   have HO_0 := aH
   have HK := aR
   have HB := bK
   clear aH aR bK
   have aFl : 0 ≤ (aD : Int) := Kq Zc
   have aFm : aD < (aX.length : Int) := Kq Zc
   obtain ⟨aHy, aUY, qK⟩ := Kd.at_int (Kd.R_reads' HO_0.out).2.2 aD aFl aFm
   cases aUY
   replace aFl := Kt aFl
   replace aFm := Kt aFm
   have aFn : 0 ≤ (gJ : Int) := Kq Zc
   have aFo : gJ < (aX.length : Int) := Kq Zc
   obtain ⟨ad102, aUZ, qL⟩ := Kd.at_int (Kd.R_reads' HO_0.out).2.2 gJ aFn aFo
   obtain rfl : aHy = ad102 := (by injection aUZ)
   replace aFn := Kt aFn
   replace aFo := Kt aFo
   have p8 : 0 ≤ (gJ : Int) := Kq Zc
   have q8 : (gJ : Int) < ((aX.length : Int) : Int) := Kq Zc
   obtain ⟨go8, co8, eo8, gb8, gl8, cl8, HG8⟩ := Kd.R_form HO_0.out Zk
   (first | cases eo8 | (injection eo8 with ea_ en_ ec_; (first | subst ea_ | (injection ea_ with ea_; subst ea_)); subst ec_; clear en_))
   have GB8 := Ya.mk gb8
   have GG8 := Ya.mk HG8
   clear gb8 gl8 HG8
   have aEH := Ya.mk (show (P0_ go8 ∨ w.heap.size ≤ go8) from (HO_0.out.1 _ rfl))
   (first | simp only [add_plain] at qK | skip)
   (first | simp only [add_plain] at qL | skip)
   obtain ⟨aHz, aHA⟩ := Kd.R_celln 0 HO_0.out (gJ : Int) p8 q8
   replace p8 := Kt p8
   replace q8 := Kt q8
   have aFp := Kd.R_putn HO_0.out (gJ : Int) (rd aX aD)
   rw [← aHv.out] at aFp
   have aFq := Ya.mk aFp
   clear aFp
   have p9 : 0 ≤ (aD : Int) := Kq Zc
   have q9 : (aD : Int) < ((aX.length : Int) : Int) := Kq Zc
   obtain ⟨aHB, aHC⟩ := Kd.R_celln 0 aFq.out (aD : Int) p9 q9
   replace p9 := Kt p9
   replace q9 := Kt q9
   have aFr := Kd.R_putn aFq.out (aD : Int) (rd aX gJ)
   rw [← aHx.out] at aFr
   have aHD := Ya.mk aFr
   clear aFr
   refine Ykg (n := 16) (S := fun w' => w'.cell? ⟨go8, (aD).toNat, none⟩ = some (.int .u8 (rd aX aD)) ∧ w'.cell? ⟨go8, (gJ).toNat, none⟩ = some (.int .u8 (rd aX gJ))) (ds := [13, 15]) #[false, false, false, false, false, false, false, false, false, false, false, false, false, false, false, false] Zi rfl rfl ⟨qK, qL⟩ (fun hHeld => ?_); refine Ylf Yo.tab3 Yo.bits3 (fun HT_ HW_ => ?_)
   generalize wr.drew = pN at HO_0 HK HB GG8 aFq aHD aHA aHC qK qL aHz aHB hHeld ⊢
   refine Yya (i := 0) (N := some 14) (v := ?_) (a' := ?_) #[true, false, false, false, false, false, false, false, false, false, false, false, false, false, false, false] rfl rfl (Ysa HT_.out Zi) (fun _ _ _ h => h) (Or.inl ⟨Zga, ?_⟩) ?_ ?_
   rotate_left
   ·exact Zyb
   rotate_left
   ·exact Zzb
   refine Yya (i := 1) (N := some 15) (v := ?_) (a' := ?_) #[true, true, false, false, false, false, false, false, false, false, false, false, false, false, false, false] rfl rfl (Ysa HT_.out Zi) (fun _ _ _ h => h) (Or.inl ⟨Zga, ?_⟩) ?_ ?_
   rotate_left
   ·exact Zyb
   rotate_left
   ·exact Zzb
   refine Yya (i := 2) (N := some 16) (v := ?_) (a' := ?_) #[true, true, true, false, false, false, false, false, false, false, false, false, false, false, false, false] rfl rfl (Ysa HT_.out Zi) (fun _ _ _ h => h) (Or.inl ⟨Zga, ?_⟩) ?_ ?_
   rotate_left
   ·exact Zyb
   rotate_left
   ·exact Zzb
   refine Yya (i := 3) (N := some 17) (v := ?_) (a' := ?_) #[true, true, true, true, false, false, false, false, false, false, false, false, false, false, false, false] rfl rfl (Ysa HT_.out Zi) (fun _ _ _ h => h) (Or.inl ⟨Zga, ?_⟩) ?_ ?_
   rotate_left
   ·exact Zyb
   rotate_left
   ·exact Zzb
   refine Yya (i := 4) (N := some 18) (v := ?_) (a' := ?_) #[true, true, true, true, true, false, false, false, false, false, false, false, false, false, false, false] rfl rfl (Ysa HT_.out Zi) (fun _ _ _ h => h) (Or.inl ⟨Zga, ?_⟩) ?_ ?_
   rotate_left
   ·exact Zyb
   rotate_left
   ·exact Zzb
   refine Yya (i := 5) (N := some 19) (v := ?_) (a' := ?_) #[true, true, true, true, true, true, false, false, false, false, false, false, false, false, false, false] rfl rfl (Ysa HT_.out Zi) (fun _ _ _ h => h) (Or.inl ⟨Zga, ?_⟩) ?_ ?_
   rotate_left
   ·exact Zyb
   rotate_left
   ·exact Zzb
   refine Yya (i := 6) (N := some 20) (v := ?_) (a' := ?_) #[true, true, true, true, true, true, true, false, false, false, false, false, false, false, false, false] rfl rfl (Ysa HT_.out Zi) (fun _ _ _ h => h) (Or.inl ⟨Zga, ?_⟩) ?_ ?_
   rotate_left
   ·exact Zyb
   rotate_left
   ·exact Zzb
   refine Yya (i := 8) (N := some 22) (v := ?_) (a' := ?_) #[true, true, true, true, true, true, true, false, true, false, false, false, false, false, false, false] rfl rfl (Ysa HT_.out Zi) (fun _ _ _ h => h) (Or.inl ⟨Zga, ?_⟩) ?_ ?_
   rotate_left
   ·exact Zyb
   rotate_left
   ·exact Zzb
   refine Yya (i := 9) (N := some 23) (v := ?_) (a' := ?_) #[true, true, true, true, true, true, true, false, true, true, false, false, false, false, false, false] rfl rfl (Ysa HT_.out Zi) (fun _ _ _ h => h) (Or.inl ⟨Zga, ?_⟩) ?_ ?_
   rotate_left
   ·exact Zyb
   rotate_left
   ·exact Zzb
   refine Yya (i := 10) (N := some 24) (v := ?_) (a' := ?_) #[true, true, true, true, true, true, true, false, true, true, true, false, false, false, false, false] rfl rfl (Ysa HT_.out Zi) (fun _ _ _ h => h) (Or.inl ⟨Zga, ?_⟩) ?_ ?_
   rotate_left
   ·exact Zyb
   rotate_left
   ·exact Zzb
   refine Ynf (i := 7) (N := some 21) (v := ?_) (a' := ?_) #[true, true, true, true, true, true, true, true, true, true, true, false, false, false, false, false] rfl rfl (Yae HT_.out HW_.out Zi) (fun _ _ _ h => h) (Or.inl ⟨Zga, ?_⟩) hHeld ?_ ?_
   rotate_left
   ·rintro w' ⟨s0, s1⟩
    go_simp
    with_reducible rfl
   rotate_left
   ·exact Zzb
   refine Ynf (i := 11) (N := some 25) (v := ?_) (a' := ?_) #[true, true, true, true, true, true, true, true, true, true, true, true, false, false, false, false] rfl rfl (Yae HT_.out HW_.out Zi) (fun _ _ _ h => h) (Or.inl ⟨Zga, ?_⟩) hHeld ?_ ?_
   rotate_left
   ·rintro w' ⟨s0, s1⟩
    go_simp
    with_reducible rfl
   rotate_left
   ·exact Zzb
   refine Yya (i := 12) (N := some 26) (v := ?_) (a' := ?_) #[true, true, true, true, true, true, true, true, true, true, true, true, true, false, false, false] rfl rfl (Ysa HT_.out Zi) (fun _ _ _ h => h) (Or.inl ⟨Zga, ?_⟩) ?_ ?_
   rotate_left
   ·exact Zyb
   rotate_left
   ·exact Zzb
   refine Ymn (i := 13) (N := none) #[true, true, true, true, true, true, true, true, true, true, true, true, true, true, false, false] rfl rfl (Yne HT_.out Zi) Zca (fun K hK => ?_)
   refine Ysi (w1 := ?_) Zga rfl ?_ ?_
   rotate_left
   ·go_simp
    rfl
   refine hK.out _ _ ?_
   clear hK K
   refine Yya (i := 14) (N := some 27) (v := ?_) (a' := ?_) #[true, true, true, true, true, true, true, true, true, true, true, true, true, true, true, false] rfl rfl (Ysa HT_.out Zi) (fun _ _ _ h => h) (Or.inl ⟨Zga, ?_⟩) ?_ ?_
   rotate_left
   ·exact Zyb
   rotate_left
   ·exact Zzb
   refine Ymn (i := 15) (N := none) #[true, true, true, true, true, true, true, true, true, true, true, true, true, true, true, true] rfl rfl (Yne HT_.out Zi) Zca (fun K hK => ?_)
   refine Ysi (w1 := ?_) Zga rfl ?_ ?_
   rotate_left
   ·go_simp
    rfl
   refine hK.out _ _ ?_
   clear hK K
   refine Yoh (Yvg HT_.out Zi) ?_
   try go_wp2
   (try simp only [← sQ])
   go_roundg k1
   case measure => have := dB.out; omega
   case rel => exact ⟨(aHw), (wrap64 (gJ + 1)), (wrap64 (aD - 1)), Zf, Zf, H', ⟨Zba⟩, ⟨by (try simp only [sQ]); (with_reducible repeat (first | apply Kd.R_alloc | apply Kd.R_drewN | apply Kd.R_drew)); exact aHD.out⟩, ⟨by repeat (first | (with_reducible first | exact HK.out | apply Kept.alloc | apply Kept.drewN | apply Kept.drew | refine Kept.setCell ?_ aEH.out _ | refine Kept.setCell ?_ aEH.out _) | exact HK.out)⟩, ⟨by repeat (first | (with_reducible first | exact HB.out | apply Yd | apply Yb | apply Yc | refine Yg ?_ GB8.out | refine Yg ?_ GB8.out) | exact HB.out)⟩⟩
mutual
def Ymb.j0 : Nat → Int → Int → Int → Option (Y)
 | 0, _, _, _ => none
 | k + 1, x0, x1, x5 => Ymb.l0 k x0 x1 x5 ([] : List Int)
def Ymb.l0 : Nat → Int → Int → Int → List Int → Option (Y)
 | 0, _, _, _, _ => none
 | k + 1, x0, x1, x5, x6 => if x5 > 0 then (if x6.length < 140737488355328 then (Ymb.l0 k x0 x1 (IntKind.u64.wrap (Int.tdiv x5 10)) (x6 ++ [(IntKind.u64.wrap (48 + (Int.tmod x5 10))) % 256])) else (none)) else (if (x6.length : Int) < (mx (mn x1 20) 1) then (if x6.length < 140737488355328 then (Ymb.l0 k x0 x1 (IntKind.u64.wrap (Int.tdiv x5 10)) (x6 ++ [(IntKind.u64.wrap (48 + (Int.tmod x5 10))) % 256])) else (none)) else (if x0 < 0 then (if x6.length < 140737488355328 then ((Yo.f k (x6 ++ [45])).bind fun qM => (some (strOfNums qM))) else (none)) else ((Yo.f k x6).bind fun uZ => (some (strOfNums uZ)))))
end
def Ymb.f (k : Nat) (a0 a1 : Int) : Option (Y) := if a0 < 0 then (Ymb.j0 k a0 a1 (IntKind.u64.wrap (-(IntKind.u64.wrap (a0))))) else (Ymb.j0 k a0 a1 (IntKind.u64.wrap (a0)))
theorem Ymb.calls (k : Nat) (a0 a1 : Int) (r : Y) (w : World) (hE : EnvOk w) (h : Ymb.f k a0 a1 = some r) :
  Calls Tryz.prog 107 #[.int .i64 a0, .int .i64 a1] w fun e w' => e = .returned (.string r) ∧ Below w.heap.size w w' := by
 have HE := Ya.mk hE
 clear hE
 have HB := Ya.mk (Below.refl w.heap.size w)
 have H : (if a0 < 0 then (Ymb.j0 k a0 a1 (IntKind.u64.wrap (-(IntKind.u64.wrap (a0))))) else (Ymb.j0 k a0 a1 (IntKind.u64.wrap (a0)))) = some r := h
 clear h
 have qN := Ya.mk H
 clear H
 go_enter Tryz.func107, Tryz.ntmps107
 go_upto_if 10 with (fail)
 go_cut [5] (fun v5 wc => ∃ (kq : Nat) (dO : Int), v5 = .int .u64 dO ∧ Ya (Ymb.j0 kq a0 a1 dO = some r) ∧ Ya (kq ≤ k) ∧ Ya (Below w.heap.size w wc))
 case first =>
  have H := qN.out
  clear qN
  by_cases c4 : a0 < 0
  rotate_left
  ·rw [if_neg c4] at H
   have bX : decide (a0 < 0) = false := Ks c4
   clear c4
   (first | rw [bX] | (simp only [Yaa, Yda]; rw [bX]) | skip)
   have H' := Ya.mk H
   clear H
   go_wp2
   go_meet
   case rel => exact ⟨_, (IntKind.u64.wrap (a0)), Zf, H', ⟨Zla⟩, ⟨Za⟩⟩
  rw [if_pos c4] at H
  have bX : decide (a0 < 0) = true := Kr c4
  clear c4
  (first | rw [bX] | (simp only [Yaa, Yda]; rw [bX]) | skip)
  have H' := Ya.mk H
  clear H
  go_wp2
  go_meet
  case rel => exact ⟨_, (IntKind.u64.wrap (-(IntKind.u64.wrap (a0)))), Zf, H', ⟨Zla⟩, ⟨Za⟩⟩
 case rest =>
  clear qN
  obtain ⟨kq, dO, rfl, HA, pL, HB⟩ := hcut
  cases kq with
  | zero => exact absurd HA.out (by simp [Ymb.j0])
  | succ nG =>
   have H := HA.out
   clear HA
   simp only [Ymb.j0] at H
   have H' := Ya.mk H
   clear H
   go_wp2
   go_loopg [5, 6] nG (fun kq v5 v6 w' => ∃ (dO : Int) (cG : List Int), v5 = .int .u64 dO ∧ Ya (Ymb.l0 kq a0 a1 dO cG = some r) ∧ Ya (kq ≤ nG) ∧ Ya (Kd.R (Kd.int .u8) 5 w' w.heap.size (fun _ => True) v6 cG) ∧ Ya (Below w.heap.size w w'))
   case atStart => exact ⟨(dO), (([] : List Int)), Zf, H', ⟨Kw _⟩, ⟨Zfa⟩, ⟨Za⟩⟩
   case round =>
    clear H'
    try clear c1
    try clear p2
    try clear c4
    try clear bX
    try clear p2
    obtain ⟨dO, cG, rfl, HA, jX, HO_6, HB⟩ := hrel
    cases gk with
    | zero => exact absurd HA.out (by simp [Ymb.l0])
    | succ k2 =>
     have H := HA.out
     clear HA
     simp only [Ymb.l0] at H
     by_cases c5 : dO > 0
     ·rw [if_pos c5] at H
      have dI : decide (0 < dO) = true := Kr c5
      clear c5
      by_cases c6 : cG.length < 140737488355328
      rotate_left
      ·rw [if_neg c6] at H
       exact absurd H Zv
      rw [if_pos c6] at H
      have aVa := Ya.mk c6
      clear c6
      obtain ⟨aHE, sT⟩ : ∃ y_ : List Int, y_ = (cG ++ [(IntKind.u64.wrap (48 + (Int.tmod dO 10))) % 256]) := ⟨_, rfl⟩
      replace H : (Ymb.l0 k2 a0 a1 (IntKind.u64.wrap (Int.tdiv dO 10)) aHE) = some r := by first | (rw [sT]; with_reducible exact H) | (have dH := (Kfa _ _).symm.trans H; rw [sT]; with_reducible exact dH) | (have dH := (Kfa _ _).symm.trans H; with_reducible exact dH) | with_reducible exact H | (rw [sT]; exact H) | exact H
      have aHF := Ya.mk sT
      clear sT
      have H' := Ya.mk H
      clear H
      go_wp2_with (first | ((with_reducible refine Yje (b := .append) (xs := #[.tmp 23, .tmp 28]) rfl ?_); (try (refine Yni Zga ?_; dsimp only)); at_builtin; refine Kd.R_append (Kd.int .u8) (w0 := w) w.heap.size rfl (.tmp 23) (.tmp 28) 62 5 (.int .u8 0) 1 rfl Tryz.underlying62 Yqm rfl Zca Zk u6 cG ((IntKind.u64.wrap (48 + (Int.tmod dO 10))) % 256) [.int .u8 ((IntKind.u64.wrap (48 + (Int.tmod dO 10))) % 256)] (fun _ => True) (fun _ => False) rfl rfl ?aP (fun _ hk => hk.elim) ?aF ?aO ?aB ?aS ?aL ?_; (case aP => exact rfl); (case aB => exact Za); (case aF => exact (fun _ _ => trivial)); (case aO => exact Zya); (case aS => exact Kg); (case aL => have := aVa.out; omega); intro aXT w7 ho hb hg hat; rw [← aHF.out] at ho; replace HB := Ya.mk (hb); have aHG := Ya.mk (ho); clear HO_6; clear ho hb hg hat))
      go_roundg k2
      case measure => have := pL.out; have := jX.out; omega
      case rel => exact ⟨(IntKind.u64.wrap (Int.tdiv dO 10)), (aHE), Zf, H', ⟨Zva⟩, ⟨by (with_reducible repeat (first | apply Kd.R_alloc | apply Kd.R_drewN | apply Kd.R_drew)); exact aHG.out⟩, ⟨Za⟩⟩
     rw [if_neg c5] at H
     have dI : decide (0 < dO) = false := Ks c5
     clear c5
     obtain ⟨ji8, qO⟩ : ∃ j_ : Int, (mn a1 20) = j_ := ⟨_, rfl⟩
     replace H : (if (cG.length : Int) < (mx (ji8) 1) then (if cG.length < 140737488355328 then (Ymb.l0 k2 a0 a1 (IntKind.u64.wrap (Int.tdiv dO 10)) (cG ++ [(IntKind.u64.wrap (48 + (Int.tmod dO 10))) % 256])) else (none)) else (if a0 < 0 then (if cG.length < 140737488355328 then ((Yo.f k2 (cG ++ [45])).bind fun qM => (some (strOfNums qM))) else (none)) else ((Yo.f k2 cG).bind fun uZ => (some (strOfNums uZ))))) = some r := by first | (rw [qO] at H; exact H) | (simp only [qO] at H ⊢; exact H)
     have aWN : (if 20 < a1 then 20 else a1) = ji8 := qO
     obtain ⟨ji9, oZ⟩ : ∃ j_ : Int, (mx (ji8) 1) = j_ := ⟨_, rfl⟩
     replace H : (if (cG.length : Int) < (ji9) then (if cG.length < 140737488355328 then (Ymb.l0 k2 a0 a1 (IntKind.u64.wrap (Int.tdiv dO 10)) (cG ++ [(IntKind.u64.wrap (48 + (Int.tmod dO 10))) % 256])) else (none)) else (if a0 < 0 then (if cG.length < 140737488355328 then ((Yo.f k2 (cG ++ [45])).bind fun qM => (some (strOfNums qM))) else (none)) else ((Yo.f k2 cG).bind fun uZ => (some (strOfNums uZ))))) = some r := by first | (rw [oZ] at H; exact H) | (simp only [oZ] at H ⊢; exact H)
     have aHH : (if (ji8) < 1 then 1 else (ji8)) = ji9 := oZ
     by_cases dP : (cG.length : Int) < (ji9)
     ·rw [if_pos dP] at H
      have hD : decide ((cG.length : Int) < (ji9)) = true := Kr dP
      clear dP
      by_cases c11 : cG.length < 140737488355328
      rotate_left
      ·rw [if_neg c11] at H
       exact absurd H Zv
      rw [if_pos c11] at H
      have aAE := Ya.mk c11
      clear c11
      obtain ⟨aHI, sU⟩ : ∃ y_ : List Int, y_ = (cG ++ [(IntKind.u64.wrap (48 + (Int.tmod dO 10))) % 256]) := ⟨_, rfl⟩
      replace H : (Ymb.l0 k2 a0 a1 (IntKind.u64.wrap (Int.tdiv dO 10)) aHI) = some r := by first | (rw [sU]; with_reducible exact H) | (have dH := (Kfa _ _).symm.trans H; rw [sU]; with_reducible exact dH) | (have dH := (Kfa _ _).symm.trans H; with_reducible exact dH) | with_reducible exact H | (rw [sU]; exact H) | exact H
      have aHJ := Ya.mk sU
      clear sU
      have H' := Ya.mk H
      clear H
      obtain ⟨aVb, aVc, aVd⟩ := Kd.R_slice HO_6.out
      subst aVd
      go_wp2_with (first | ((with_reducible refine Yje (b := .append) (xs := #[.tmp 23, .tmp 28]) rfl ?_); (try (refine Yni Zga ?_; dsimp only)); at_builtin; refine Kd.R_append (Kd.int .u8) (w0 := w) w.heap.size rfl (.tmp 23) (.tmp 28) 62 5 (.int .u8 0) 1 rfl Tryz.underlying62 Yqm rfl Zca Zk (.slice aVb cG.length aVc) cG ((IntKind.u64.wrap (48 + (Int.tmod dO 10))) % 256) [.int .u8 ((IntKind.u64.wrap (48 + (Int.tmod dO 10))) % 256)] (fun _ => True) (fun _ => False) rfl rfl ?aP (fun _ hk => hk.elim) ?aF ?aO ?aB ?aS ?aL ?_; (case aP => exact rfl); (case aB => exact Za); (case aF => exact (fun _ _ => trivial)); (case aO => exact Zya); (case aS => exact Kg); (case aL => have := aAE.out; omega); intro aXU nH ho hb hg hat; rw [← aHJ.out] at ho; replace HB := Ya.mk (hb); have aHK := Ya.mk (ho); clear HO_6; clear ho hb hg hat))
      go_roundg k2
      case measure => have := pL.out; have := jX.out; omega
      case rel => exact ⟨(IntKind.u64.wrap (Int.tdiv dO 10)), (aHI), Zf, H', ⟨Zva⟩, ⟨by (with_reducible repeat (first | apply Kd.R_alloc | apply Kd.R_drewN | apply Kd.R_drew)); exact aHK.out⟩, ⟨Za⟩⟩
     rw [if_neg dP] at H
     have hD : decide ((cG.length : Int) < (ji9)) = false := Ks dP
     clear dP
     by_cases gQ : a0 < 0
     rotate_left
     ·rw [if_neg gQ] at H
      have iE : decide (a0 < 0) = false := Ks gQ
      clear gQ
      obtain ⟨uZ, aAF, H⟩ := Ku H
      try dsimp -simprocs only at H
      have A22 := Ya.mk aAF
      clear aAF
      obtain rfl := Kv H
      obtain ⟨aFs, aFt, aVe⟩ := Kd.R_slice HO_6.out
      subst aVe
      go_wp2_with (first | ((with_reducible refine Yh (f := 132) rfl ?_); refine Yca (some 38) rfl rfl Tryz.func132 Zi rfl #[.slice aFs cG.length aFt] rfl Zb ?_; (with_reducible refine (Yo.calls k2 (fun k_ => some k_ = (.slice aFs cG.length aFt : Value).ownBlock) (.slice aFs cG.length aFt) cG uZ w _ ?z1 ?z2 ?z3 A22.out).mono ?_); (case z1 => exact HE.out); (case z2 => repeat (first | (with_reducible first | exact HB.out | apply Yd | apply Yb | apply Yc) | exact HB.out)); (case z3 => exact Kd.R_tight rfl HO_6.out); rintro e w24 ⟨rfl, hy0, hb, hkp⟩; refine ⟨_, rfl, ?_⟩; replace HO_6 := Ya.mk (Kd.R_reok rfl hy0 (fun k_ e_ => HO_6.out.1 k_ e_)); replace HB := Ya.mk (hb); (try clear hb); (try clear hkp); (try clear hy0); have aWO := Ygh (P := Tryz.prog) Tryz.underlying62 Tryz.underlying5 Tryz.underlying9 (Kd.own_of_R HO_6.out)))
      go_ret
      exact ⟨by first | rfl | (simp [Yk, Yl] <;> rfl) | (simp only [← qO, ← oZ]; first | rfl | (simp [Yk, Yl] <;> rfl)) | (simp [*, Yk, Yl] <;> rfl), Za⟩
     rw [if_pos gQ] at H
     have iE : decide (a0 < 0) = true := Kr gQ
     clear gQ
     by_cases dG : cG.length < 140737488355328
     rotate_left
     ·rw [if_neg dG] at H
      exact absurd H Zv
     rw [if_pos dG] at H
     have aHM := Ya.mk dG
     clear dG
     obtain ⟨aAH, sV⟩ : ∃ y_ : List Int, y_ = (cG ++ [45]) := ⟨_, rfl⟩
     replace H : ((Yo.f k2 aAH).bind fun qM => (some (strOfNums qM))) = some r := by first | (rw [sV]; with_reducible exact H) | (have dH := (Kfa _ _).symm.trans H; rw [sV]; with_reducible exact dH) | (have dH := (Kfa _ _).symm.trans H; with_reducible exact dH) | with_reducible exact H | (rw [sV]; exact H) | exact H
     have aHN := Ya.mk sV
     clear sV
     obtain ⟨qM, sW, H⟩ := Ku H
     try dsimp -simprocs only at H
     have A16 := Ya.mk sW
     clear sW
     obtain rfl := Kv H
     obtain ⟨aVf, aVg, aVh⟩ := Kd.R_slice HO_6.out
     subst aVh
     go_wp2_with (first | ((with_reducible refine Yje (b := .append) (xs := #[.tmp 34, .tmp 35]) rfl ?_); (try (refine Yni Zga ?_; dsimp only)); at_builtin; refine Kd.R_append (Kd.int .u8) (w0 := w) w.heap.size rfl (.tmp 34) (.tmp 35) 62 5 (.int .u8 0) 1 rfl Tryz.underlying62 Yqm rfl Zca Zk (.slice aVf cG.length aVg) cG 45 [.int .u8 45] (fun _ => True) (fun _ => False) rfl rfl ?aP (fun _ hk => hk.elim) ?aF ?aO ?aB ?aS ?aL ?_; (case aP => exact rfl); (case aB => exact Za); (case aF => exact (fun _ _ => trivial)); (case aO => exact Zya); (case aS => exact Kg); (case aL => have := aHM.out; omega); intro aXV w18 ho hb hg hat; rw [← aHN.out] at ho; replace HB := Ya.mk (hb); have pO := Ya.mk (ho); clear HO_6; clear ho hb hg hat; obtain ⟨aFu, aFv, aVi⟩ := Kd.R_slice pO.out; subst aVi) | ((with_reducible refine Yh (f := 132) rfl ?_); refine Yca (some 38) rfl rfl Tryz.func132 Zi rfl #[.slice aFu aAH.length aFv] rfl Zb ?_; (with_reducible refine (Yo.calls k2 (fun k_ => some k_ = (.slice aFu aAH.length aFv : Value).ownBlock) (.slice aFu aAH.length aFv) aAH qM w _ ?z1 ?z2 ?z3 A16.out).mono ?_); (case z1 => exact HE.out); (case z2 => repeat (first | (with_reducible first | exact HB.out | apply Yd | apply Yb | apply Yc) | exact HB.out)); (case z3 => exact Kd.R_tight rfl pO.out); rintro e w20 ⟨rfl, hy0, hb, hkp⟩; refine ⟨_, rfl, ?_⟩; replace pO := Ya.mk (Kd.R_reok rfl hy0 (fun k_ e_ => pO.out.1 k_ e_)); replace HB := Ya.mk (hb); (try clear hb); (try clear hkp); (try clear hy0); have aWP := Ygh (P := Tryz.prog) Tryz.underlying62 Tryz.underlying5 Tryz.underlying9 (Kd.own_of_R pO.out)))
     go_ret
     exact ⟨by first | rfl | (simp [Yk, Yl] <;> rfl) | (simp only [← qO, ← oZ]; first | rfl | (simp [Yk, Yl] <;> rfl)) | (simp [*, Yk, Yl] <;> rfl), Za⟩
def Yqe.f (k : Nat) (a0 : Int) : Option (Y) := (Ymb.f k a0 1).bind fun t116 => (some t116)
theorem Yqe.calls (k : Nat) (a0 : Int) (r : Y) (w : World) (hE : EnvOk w) (h : Yqe.f k a0 = some r) :
  Calls Tryz.prog 68 #[.int .i64 a0] w fun e w' => e = .returned (.string r) ∧ Below w.heap.size w w' := by
 have HE := Ya.mk hE
 clear hE
 have HB := Ya.mk (Below.refl w.heap.size w)
 have H : ((Ymb.f k a0 1).bind fun t116 => (some t116)) = some r := h
 clear h
 obtain ⟨t116, dW, H⟩ := Ku H
 try dsimp -simprocs only at H
 have A2 := Ya.mk dW
 clear dW
 obtain rfl := Kv H
 go_enter Tryz.func68, Tryz.ntmps68
 go_wp2_with (first | ((with_reducible refine Yh (f := 107) rfl ?_); refine Yca (some 4) rfl rfl Tryz.func107 Zi rfl #[.int .i64 a0, .int .i64 1] rfl Zb ?_; (with_reducible refine (Ymb.calls k a0 1 t116 _ ?z1 A2.out).mono ?_); (case z1 => exact Kh); rintro e w3 ⟨rfl, hb⟩; refine ⟨_, rfl, ?_⟩; replace HB := Ya.mk (Yt Za hb); (try clear hb)))
 go_ret
 exact ⟨Zl, Za⟩
def Yef.f (k : Nat) (aE aJ : Y) (aN : Int) (aG aM aK : Y) (aU aV : Bool) : Option (Y) := if aE.size + 3 ≤ 9223372036854775807 then (if (aE ++ (⟨#[58, 47, 47]⟩ : Y)).size + aJ.size ≤ 9223372036854775807 then (if aN = 0 then (some ((aE ++ (⟨#[58, 47, 47]⟩ : Y)) ++ aJ)) else ((Yqe.f k aN).bind fun jZ => (if 1 + jZ.size ≤ 9223372036854775807 then (if ((aE ++ (⟨#[58, 47, 47]⟩ : Y)) ++ aJ).size + ((⟨#[58]⟩ : Y) ++ jZ).size ≤ 9223372036854775807 then (some (((aE ++ (⟨#[58, 47, 47]⟩ : Y)) ++ aJ) ++ ((⟨#[58]⟩ : Y) ++ jZ))) else (none)) else (none)))) else (none)) else (none)
theorem Yef.calls (k : Nat) (aE aJ : Y) (aN : Int) (aG aM aK : Y) (aU aV : Bool) (r : Y) (w : World) (hE : EnvOk w) (h : Yef.f k aE aJ aN aG aM aK aU aV = some r) :
  Calls Tryz.prog 29 #[.agg #[.string aE, .string aJ, .int .i64 aN, .string aG, .string aM, .string aK, .bool aU, .bool aV]] w fun e w' => e = .returned (.string r) ∧ Below w.heap.size w w' := by
 have bQ := Tryz.underlying25
 have HE := Ya.mk hE
 clear hE
 have HB := Ya.mk (Below.refl w.heap.size w)
 have H : (if aE.size + 3 ≤ 9223372036854775807 then (if (aE ++ (⟨#[58, 47, 47]⟩ : Y)).size + aJ.size ≤ 9223372036854775807 then (if aN = 0 then (some ((aE ++ (⟨#[58, 47, 47]⟩ : Y)) ++ aJ)) else ((Yqe.f k aN).bind fun jZ => (if 1 + jZ.size ≤ 9223372036854775807 then (if ((aE ++ (⟨#[58, 47, 47]⟩ : Y)) ++ aJ).size + ((⟨#[58]⟩ : Y) ++ jZ).size ≤ 9223372036854775807 then (some (((aE ++ (⟨#[58, 47, 47]⟩ : Y)) ++ aJ) ++ ((⟨#[58]⟩ : Y) ++ jZ))) else (none)) else (none)))) else (none)) else (none)) = some r := h
 clear h
 by_cases c2 : aE.size + 3 ≤ 9223372036854775807
 rotate_left
 ·rw [if_neg c2] at H
  exact absurd H Zv
 rw [if_pos c2] at H
 have eS := Kt c2
 have kC : decide (aE.size + 3 ≤ 9223372036854775807) = true := Kr c2
 try have aFw : (9223372036854775807 < aE.size + 3) = False := eq_false (Nat.not_lt.2 c2)
 by_cases c3 : (aE ++ (⟨#[58, 47, 47]⟩ : Y)).size + aJ.size ≤ 9223372036854775807
 rotate_left
 ·rw [if_neg c3] at H
  exact absurd H Zv
 rw [if_pos c3] at H
 have cC := Kt c3
 have fX : decide ((aE ++ (⟨#[58, 47, 47]⟩ : Y)).size + aJ.size ≤ 9223372036854775807) = true := Kr c3
 try have aAI : (9223372036854775807 < (aE ++ (⟨#[58, 47, 47]⟩ : Y)).size + aJ.size) = False := eq_false (Nat.not_lt.2 c3)
 by_cases c4 : aN = 0
 ·rw [if_pos c4] at H
  have bX : (aN == 0) = true := Kba c4
  have jJ : (aN != 0) = false := Ky c4
  clear c4
  obtain rfl := Kv H
  go_enter Tryz.func29, Tryz.ntmps29
  go_wp2_with (first | ((with_reducible refine Ybd (N := 1) rfl ?_); refine Yzc ?hg (N := 1) ?hd (cs := #[.string aE, .string aJ, .int .i64 aN, .string aG, .string aM, .string aK, .bool aU, .bool aV]) (t := 25) ?hr ?_; (case hd => rfl); (case hg => rfl); (case hr => first | (go_simp; done) | (go_simp; rfl)); intro eA hg w5 hbox hb; have aH := Ya.mk (Yt Za hb); have aR := Ya.mk (hbox); have bK := Ya.mk ((by rw [hg]; exact (Yka Za) : w.heap.size ≤ eA)); have dM := Ya.mk ((by rw [hg]; exact (Yka Za) : w.heap.size ≤ eA)); clear HB; have HB := aH; have cI := aR; have aHO := bK; have aEC := dM; clear aH aR bK dM; clear hb hbox hg; obtain ⟨nJ, nK, nM, nN, nO, nP, nQ, nR, nS, nT, nU, nV, nW, nX, nY, nZ⟩ := Ka cI.out))
  go_ret
  exact ⟨Zl, Zja⟩
 rw [if_neg c4] at H
 have bX : (aN == 0) = false := Kz c4
 have jJ : (aN != 0) = true := Kaa c4
 obtain ⟨jZ, oA, H⟩ := Ku H
 try dsimp -simprocs only at H
 have A7 := Ya.mk oA
 clear oA
 by_cases c8 : 1 + jZ.size ≤ 9223372036854775807
 rotate_left
 ·rw [if_neg c8] at H
  exact absurd H Zv
 rw [if_pos c8] at H
 have gS := Kt c8
 have jA : decide (1 + jZ.size ≤ 9223372036854775807) = true := Kr c8
 try have aVj : (9223372036854775807 < 1 + jZ.size) = False := eq_false (Nat.not_lt.2 c8)
 by_cases c9 : ((aE ++ (⟨#[58, 47, 47]⟩ : Y)) ++ aJ).size + ((⟨#[58]⟩ : Y) ++ jZ).size ≤ 9223372036854775807
 rotate_left
 ·rw [if_neg c9] at H
  exact absurd H Zv
 rw [if_pos c9] at H
 have iC := Kt c9
 have lT : decide (((aE ++ (⟨#[58, 47, 47]⟩ : Y)) ++ aJ).size + ((⟨#[58]⟩ : Y) ++ jZ).size ≤ 9223372036854775807) = true := Kr c9
 try have zO : (9223372036854775807 < ((aE ++ (⟨#[58, 47, 47]⟩ : Y)) ++ aJ).size + ((⟨#[58]⟩ : Y) ++ jZ).size) = False := eq_false (Nat.not_lt.2 c9)
 obtain rfl := Kv H
 go_enter Tryz.func29, Tryz.ntmps29
 go_wp2_with (first | ((with_reducible refine Ybd (N := 1) rfl ?_); refine Yzc ?hg (N := 1) ?hd (cs := #[.string aE, .string aJ, .int .i64 aN, .string aG, .string aM, .string aK, .bool aU, .bool aV]) (t := 25) ?hr ?_; (case hd => rfl); (case hg => rfl); (case hr => first | (go_simp; done) | (go_simp; rfl)); intro eA hg pN hbox hb; have aH := Ya.mk (Yt Za hb); have aR := Ya.mk (hbox); have bK := Ya.mk ((by rw [hg]; exact (Yka Za) : w.heap.size ≤ eA)); have dM := Ya.mk ((by rw [hg]; exact (Yka Za) : w.heap.size ≤ eA)); clear HB; have HB := aH; have cI := aR; have aHO := bK; have aEC := dM; clear aH aR bK dM; clear hb hbox hg; obtain ⟨lV, lW, lX, lY, lZ, mA, mB, mC, mD, mE, mF, mG, mH, mI, mJ, mK⟩ := Ka cI.out) | ((with_reducible refine Yh (f := 68) rfl ?_); refine Yca (some 16) rfl rfl Tryz.func68 Zi rfl #[.int .i64 aN] rfl Zb ?_; (with_reducible refine (Yqe.calls k aN jZ _ ?z1 A7.out).mono ?_); (case z1 => first | exact HE.out | exact EnvOk.below HE.out Zja); rintro e uS ⟨rfl, hb⟩; refine ⟨_, rfl, ?_⟩; have aH := Ya.mk (Ykb (g := eA) (o := .cells #[.string aE, .string aJ, .int .i64 aN, .string aG, .string aM, .string aK, .bool aU, .bool aV] 25 (0, 0)) (by (with_reducible repeat (first | refine Yi ?_ _ | refine Yp ?_ | refine Ym ?_ _)); exact cI.out) hb); have aR := Ya.mk (Yt Zja hb); clear cI; clear HB; have cI := aH; have HB := aR; clear aH aR; (try clear hb)))
 go_ret
 exact ⟨Zl, Zja⟩
end Go.Proofs.YtnmglnglbdpjjaaGreatDoor.X
