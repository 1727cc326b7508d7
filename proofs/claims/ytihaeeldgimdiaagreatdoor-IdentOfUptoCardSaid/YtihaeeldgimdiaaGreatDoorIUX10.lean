import Derived.Test.YtihaeeldgimdiaaGreatDoorIUX8
set_option linter.all false
namespace Go.Proofs.YtihaeeldgimdiaaGreatDoor.X
open Go.RowKit Go.Yw.PrintWords Go.Yw.PrintLast Go.Yw.PrintMore
attribute [local go_sem] Yxd Yvd Yze Yye Ymd Yld Yyd Ywd
set_option maxHeartbeats 8000000
set_option maxRecDepth 100000
def Yx.l0 : Nat → Y → List Y → Int → Option (List Y)
 | 0, _, _, _ => none
 | k + 1, x0, x3, x4 => if x4 < (x0.size : Int) then (if 0 ≤ x4 then ((Ywa.f (bt x0 x4)).bind fun aGF => (if aGF = true then (if x3.length < 8796093022208 then (Yx.l0 k x0 (x3 ++ [(⟨#[]⟩ : Y)]) (wrap64 (x4 + 1))) else (none)) else (if 0 ≤ (wrap64 ((x3.length : Int) - 1)) then (if (wrap64 ((x3.length : Int) - 1)) < (x3.length : Int) then (if x4 ≤ (wrap64 (x4 + 1)) then (if (wrap64 (x4 + 1)) ≤ (x0.size : Int) then (if (rdOf ByteArray.empty x3 (wrap64 ((x3.length : Int) - 1))).size + (x0.extract (x4 : Int).toNat ((wrap64 (x4 + 1)) : Int).toNat).size ≤ 9223372036854775807 then (Yx.l0 k x0 (x3.set ((wrap64 ((x3.length : Int) - 1)) : Int).toNat ((rdOf ByteArray.empty x3 (wrap64 ((x3.length : Int) - 1))) ++ (x0.extract (x4 : Int).toNat ((wrap64 (x4 + 1)) : Int).toNat))) (wrap64 (x4 + 1))) else (none)) else (none)) else (none)) else (none)) else (none)))) else (none)) else (some x3)
def Yx.f (k : Nat) (a0 : Y) : Option (List Y) := Yx.l0 k a0 (([(⟨#[]⟩ : Y)] : List Y)) 0
def Yx.T7 : Bool × List (List Nat × List Nat) := (true, [([], []), ([], []), ([1], [1]), ([2], [2]), ([0, 3], [0, 3]), ([4], [4]), ([], []), ([], []), ([], []), ([8], [8]), ([6, 7, 9], [6, 7, 9]), ([5, 10], [5, 10]), ([0, 3, 0, 1, 2, 3, 4, 5, 6, 7, 8, 9, 10, 11], [0, 3]), ([12, 11, 0, 1, 2, 3, 4, 5, 6, 7, 8, 9, 10, 11], [11, 12])])
def Yx.B7 : List Nat := [0, 0, 2, 6, 15, 31, 0, 0, 0, 256, 960, 2047, 4095, 8191]
theorem Yx.tab7 : rtab .any (opsOf Tryz.f85 7) = Yx.T7 := by kernel_rfl
theorem Yx.bits7 : Yvg Yx.T7.2 Yx.B7 = true := by kernel_rfl
theorem Yx.calls (k : Nat) (a0 : Y) (r : List Y) (w : World) (hE : EnvOk w) (h : Yx.f k a0 = some r) :
  Calls Tryz.prog 85 #[.string a0] w fun e w' => ∃ v0_ : Value, e = .returned (v0_) ∧ Kd.R Kd.string 9 w' w.heap.size (fun _ => True) v0_ r ∧ Below w.heap.size w w' := by
 have HE := Ya.mk hE
 clear hE
 have HB := Ya.mk (Below.refl w.heap.size w)
 have H : (Yx.l0 k a0 (([(⟨#[]⟩ : Y)] : List Y)) 0) = some r := h
 clear h
 obtain ⟨aLQ, tE⟩ : ∃ y_ : List Y, y_ = (([(⟨#[]⟩ : Y)] : List Y)) := ⟨_, rfl⟩
 replace H : (Yx.l0 k a0 aLQ 0) = some r := by first | (rw [tE]; with_reducible exact H) | (have cO := (Kba _ _).symm.trans H; rw [tE]; with_reducible exact cO) | (have cO := (Kba _ _).symm.trans H; with_reducible exact cO) | with_reducible exact H | (rw [tE]; exact H) | exact H
 have aEN := Ya.mk tE
 clear tE
 have H' := Ya.mk H
 clear H
 go_enter Tryz.func85, Tryz.ntmps85
 go_wp2_with (first | ((with_reducible refine Ybd (N := 5) rfl ?_); refine Kd.R_lit Kd.string _ 9 ?hg (N := 5) ?hd (xs := ([(⟨#[]⟩ : Y)] : List Y)) (inner := [.string (⟨#[]⟩ : Y)]) (ok := fun _ => True) (okp := fun _ => True) ?hr ?hp (fun _ hk => hk) trivial (Below.refl _ _) (Ks _) Zq ?_; (case hd => rfl); (case hg => rfl); (case hr => first | (go_simp; done) | (go_simp; rfl)); (case hp => exact (Reps.one (show Kd.M Kd.string _ _ _ (⟨#[]⟩ : Y) [.string (⟨#[]⟩ : Y)] from rfl) (Reps.none _ _))); intro bAt w2 ho3 hb hg_ hnew_; clear hg_ hnew_; (first | rw [← aEN.out] at ho3 | (simp only [Int.reduceToNat] at ho3; rw [← aEN.out] at ho3)); have aLS := Ya.mk (Kd.R_lower ho3 (Yna Za)); replace HB := Ya.mk (Ys Za hb); clear hb ho3))
 go_loopg [3, 4] k (fun kq v3 v4 w' => ∃ (aE : List Y) (aC : Int), v4 = .int .i64 aC ∧ Ya (Yx.l0 kq a0 aE aC = some r) ∧ Ya (kq ≤ k) ∧ Ya (Kd.R Kd.string 9 w' w.heap.size (fun _ => True) v3 aE) ∧ Ya (Below w.heap.size w w'))
 case atStart => exact ⟨(aLQ), (0), Zf, H', ⟨Ks _⟩, ⟨by (with_reducible repeat (first | apply Kd.R_alloc | apply Kd.R_drewN | apply Kd.R_drew)); exact aLS.out⟩, ⟨Za⟩⟩
 case round =>
  clear H'
  try clear p2
  obtain ⟨aE, aC, rfl, HA, cC, HO_3, HB⟩ := hrel
  cases gk with
  | zero => exact absurd HA.out (by simp [Yx.l0])
  | succ k1 =>
   have H := HA.out
   clear HA
   simp only [Yx.l0] at H
   by_cases c4 : aC < (a0.size : Int)
   rotate_left
   ·rw [if_neg c4] at H
    have bM : decide (aC < (a0.size : Int)) = false := Ko c4
    clear c4
    obtain rfl := Kr H
    go_wp2
    go_ret
    exact ⟨_, Zk, Zl, Za⟩
   rw [if_pos c4] at H
   have bM : decide (aC < (a0.size : Int)) = true := Kn c4
   clear c4
   by_cases c5 : 0 ≤ aC
   rotate_left
   ·rw [if_neg c5] at H
    exact absurd H Zq
   rw [if_pos c5] at H
   have dG : decide (0 ≤ aC) = true := Kn c5
   clear c5
   obtain ⟨aGF, pG, H⟩ := Kq H
   try dsimp -simprocs only at H
   have A7 := Ya.mk pG
   clear pG
   by_cases c8 : aGF = true
   ·subst c8
    rw [if_pos rfl] at H
    by_cases c9 : aE.length < 8796093022208
    rotate_left
    ·rw [if_neg c9] at H
     exact absurd H Zq
    rw [if_pos c9] at H
    have uO := Ya.mk c9
    clear c9
    obtain ⟨aLT, tF⟩ : ∃ y_ : List Y, y_ = (aE ++ [(⟨#[]⟩ : Y)]) := ⟨_, rfl⟩
    replace H : (Yx.l0 k1 a0 aLT (wrap64 (aC + 1))) = some r := by first | (rw [tF]; with_reducible exact H) | (have cO := (Kba _ _).symm.trans H; rw [tF]; with_reducible exact cO) | (have cO := (Kba _ _).symm.trans H; with_reducible exact cO) | with_reducible exact H | (rw [tF]; exact H) | exact H
    have aLU := Ya.mk tF
    clear tF
    have H' := Ya.mk H
    clear H
    have p6 : (0 ≤ (aC : Int)) = True := Kl
    have q6 : aC < (a0.size : Int) := Km Zc
    have hx6 := Ypa a0 aC
    replace q6 := Kp q6
    go_wp2_with (first | ((with_reducible refine Yh (f := 34) rfl ?_); refine Yy (some 15) rfl rfl Tryz.func34 Zi rfl #[.int .u8 (bt a0 aC)] rfl Zb ?_; (with_reducible refine (Ywa.calls (bt a0 aC) true _ ?z1 A7.out).mono ?_); (case z1 => exact Kh); rintro e w' ⟨rfl, ⟨nd, rfl⟩⟩; refine ⟨_, rfl, ?_⟩) | ((with_reducible refine Yic (b := .append) (xs := #[.tmp 16, .tmp 17]) rfl ?_); at_builtin; refine Kd.R_append Kd.string (w0 := w) w.heap.size rfl (.tmp 16) (.tmp 17) 23 9 (.string ⟨#[]⟩) 16 rfl Tryz.underlying23 Ype rfl Zw Zj u3 aE (⟨#[]⟩ : Y) [.string (⟨#[]⟩ : Y)] (fun _ => True) (fun _ => False) rfl rfl ?aP (fun _ hk => hk.elim) ?aF ?aO ?aB ?aS ?aL ?_; (case aP => exact rfl); (case aB => exact Za); (case aF => exact (fun _ _ => trivial)); (case aO => exact Zl); (case aS => exact Ki); (case aL => have := uO.out; omega); intro bAu qZ ho hb hg hat; rw [← aLU.out] at ho; replace HB := Ya.mk (hb); have aLV := Ya.mk (ho); clear HO_3; clear ho hb hg hat))
    go_roundg k1
    case measure => have := cC.out; omega
    case rel => exact ⟨(aLT), (wrap64 (aC + 1)), Zf, H', ⟨Zu⟩, ⟨by (with_reducible repeat (first | apply Kd.R_alloc | apply Kd.R_drewN | apply Kd.R_drew)); exact aLV.out⟩, ⟨Za⟩⟩
   replace c8 := Kt c8
   subst c8
   rw [if_neg (show ¬ (false = true) by decide)] at H
   obtain ⟨ji11, mQ⟩ : ∃ j_ : Int, (wrap64 ((aE.length : Int) - 1)) = j_ := ⟨_, rfl⟩
   replace H : (if 0 ≤ (ji11) then (if (ji11) < (aE.length : Int) then (if aC ≤ (wrap64 (aC + 1)) then (if (wrap64 (aC + 1)) ≤ (a0.size : Int) then (if (rdOf ByteArray.empty aE (ji11)).size + (a0.extract (aC : Int).toNat ((wrap64 (aC + 1)) : Int).toNat).size ≤ 9223372036854775807 then (Yx.l0 k1 a0 (aE.set ((ji11) : Int).toNat ((rdOf ByteArray.empty aE (ji11)) ++ (a0.extract (aC : Int).toNat ((wrap64 (aC + 1)) : Int).toNat))) (wrap64 (aC + 1))) else (none)) else (none)) else (none)) else (none)) else (none)) = some r := by first | (rw [mQ] at H; exact H) | (simp only [mQ] at H ⊢; exact H)
   (try rw [mQ] at A7)
   have hji11w : (IntKind.i64.wrap ((aE.length : Int) - 1)) = ji11 := (Yha _).trans mQ
   by_cases bT : 0 ≤ (ji11)
   rotate_left
   ·rw [if_neg bT] at H
    exact absurd H Zq
   rw [if_pos bT] at H
   have dZ : decide (0 ≤ (ji11)) = true := Kn bT
   clear bT
   by_cases cI : (ji11) < (aE.length : Int)
   rotate_left
   ·rw [if_neg cI] at H
    exact absurd H Zq
   rw [if_pos cI] at H
   have hJ : decide ((ji11) < (aE.length : Int)) = true := Kn cI
   clear cI
   have gC := Kp (Km Zc : 0 ≤ aC)
   by_cases bN : aC ≤ (wrap64 (aC + 1))
   rotate_left
   ·rw [if_neg bN] at H
    exact absurd H Zq
   rw [if_pos bN] at H
   have eA := Kp bN
   have pR : decide (aC ≤ (wrap64 (aC + 1))) = true := Kn bN
   by_cases dF : (wrap64 (aC + 1)) ≤ (a0.size : Int)
   rotate_left
   ·rw [if_neg dF] at H
    exact absurd H Zq
   rw [if_pos dF] at H
   have gD := Kp dF
   have lP : decide ((wrap64 (aC + 1)) ≤ (a0.size : Int)) = true := Kn dF
   by_cases gG : (rdOf ByteArray.empty aE (ji11)).size + (a0.extract (aC : Int).toNat ((wrap64 (aC + 1)) : Int).toNat).size ≤ 9223372036854775807
   rotate_left
   ·rw [if_neg gG] at H
    exact absurd H Zq
   rw [if_pos gG] at H
   have kI := Kp gG
   have mP : decide ((rdOf ByteArray.empty aE (ji11)).size + (a0.extract (aC : Int).toNat ((wrap64 (aC + 1)) : Int).toNat).size ≤ 9223372036854775807) = true := Kn gG
   try have aLW : (9223372036854775807 < (rdOf ByteArray.empty aE (ji11)).size + (a0.extract (aC : Int).toNat ((wrap64 (aC + 1)) : Int).toNat).size) = False := eq_false (Nat.not_lt.2 gG)
   try have aLX : (9223372036854775807 < (rdOf ByteArray.empty aE (ji11)).size + (((wrap64 (aC + 1)) : Int).toNat - (aC : Int).toNat)) = False := eq_false (by have h9_ := gG; rw [ByteArray.size_extract] at h9_; omega)
   obtain ⟨aLY, tG⟩ : ∃ y_ : List Y, y_ = (aE.set ((ji11) : Int).toNat ((rdOf ByteArray.empty aE (ji11)) ++ (a0.extract (aC : Int).toNat ((wrap64 (aC + 1)) : Int).toNat))) := ⟨_, rfl⟩
   replace H : (Yx.l0 k1 a0 aLY (wrap64 (aC + 1))) = some r := by first | (rw [tG]; with_reducible exact H) | (have cO := (Kba _ _).symm.trans H; rw [tG]; with_reducible exact cO) | (have cO := (Kba _ _).symm.trans H; with_reducible exact cO) | with_reducible exact H | (rw [tG]; exact H) | exact H
   have aLZ := Ya.mk tG
   clear tG
   have H' := Ya.mk H
   clear H
   have p6 : (0 ≤ (aC : Int)) = True := Kl
   have q6 : aC < (a0.size : Int) := Km Zc
   have hx6 := Ypa a0 aC
   replace q6 := Kp q6
   try go_wp2_with (first | ((with_reducible refine Yh (f := 34) rfl ?_); refine Yy (some 15) rfl rfl Tryz.func34 Zi rfl #[.int .u8 (bt a0 aC)] rfl Zb ?_; (with_reducible refine (Ywa.calls (bt a0 aC) false _ ?z1 A7.out).mono ?_); (case z1 => exact Kh); rintro e w' ⟨rfl, ⟨nd, rfl⟩⟩; refine ⟨_, rfl, ?_⟩; (try (rw [Ynf wr]; generalize hq_ : World.drewN wr _ = wr; have aJ : Ya (Kd.R Kd.string 9 wr w.heap.size (fun _ => True) u3 aE) := ⟨by rw [← hq_]; exact Zl⟩; have aU : Ya (Below w.heap.size w wr) := ⟨by rw [← hq_]; exact Za⟩; clear HO_3 HB hq_; have HO_3 := aJ; have HB := aU; clear aJ aU))))
   have aJ := Ya.mk (Kd.R_drew HO_3.out)
   have aU := Ya.mk (Yc HB.out)
   clear HO_3
   clear HB
   have HO_3 := aJ
   have HB := aU
   clear aJ aU
   obtain ⟨aXZ, aYa, aBI⟩ := Kd.R_slice HO_3.out
   (first | subst aBI | (injection aBI with f1_ f2_ f3_; have f4_ := f1_.symm; have f5_ := f3_.symm; clear f1_ f2_ f3_; subst f4_; subst f5_))
   have aGG : 0 ≤ ((ji11) : Int) := Km Zc
   have aGH : (ji11) < (aE.length : Int) := Km Zc
   obtain ⟨aZw, aYb, qM⟩ := Kd.at_string (Kd.R_reads' HO_3.out).2.2 (ji11) aGG aGH
   cases aYb
   replace aGG := Kp aGG
   replace aGH := Kp aGH
   have p18 : 0 ≤ ((ji11) : Int) := Km Zc
   have q18 : ((ji11) : Int) < ((aE.length : Int) : Int) := Km Zc
   obtain ⟨aGK, aYc, aBJ, aBK, aGL, aYd, aBL⟩ := Kd.R_form HO_3.out Zj
   (first | cases aBJ | (injection aBJ with ea_ en_ ec_; (first | subst ea_ | (injection ea_ with ea_; subst ea_)); subst ec_; clear en_))
   have aGM := Ya.mk aBK
   have aGN := Ya.mk aBL
   clear aBK aGL aBL
   (first | simp only [add_plain] at qM | skip)
   obtain ⟨wJ, wK⟩ := Kd.R_celln (⟨#[]⟩ : Y) HO_3.out ((ji11) : Int) p18 q18
   replace p18 := Kp p18
   replace q18 := Kp q18
   have wL := Kd.R_putn HO_3.out ((ji11) : Int) ((rdOf ByteArray.empty aE (ji11)) ++ (a0.extract (aC : Int).toNat ((wrap64 (aC + 1)) : Int).toNat))
   rw [← aLZ.out] at wL
   have aBM := Ya.mk wL
   clear wL
   refine Ydh (n := 14) (S := fun w' => w'.cell? ⟨aGK, ((ji11)).toNat, none⟩ = some (.string (rdOf ByteArray.empty aE (ji11)))) (ds := [13]) #[false, false, false, false, false, false, false, false, false, false, false, false, false, false] Zi rfl rfl (qM) (fun hHeld => ?_); refine Yzg Yx.tab7 Yx.bits7 (fun HT_ HW_ => ?_)
   generalize wr.drew = w19 at HO_3 HB aGN aBM wK wJ qM hHeld ⊢
   refine Yjb (i := 0) (N := some 19) (v := ?_) (a' := ?_) #[true, false, false, false, false, false, false, false, false, false, false, false, false, false] rfl rfl (Yfb HT_.out Zi) (fun _ _ _ h => h) (Or.inl ⟨Zda, ?_⟩) ?_ ?_
   rotate_left
   ·exact Zsb
   rotate_left
   ·exact Ztb
   refine Yjb (i := 1) (N := some 20) (v := ?_) (a' := ?_) #[true, true, false, false, false, false, false, false, false, false, false, false, false, false] rfl rfl (Yfb HT_.out Zi) (fun _ _ _ h => h) (Or.inl ⟨Zda, ?_⟩) ?_ ?_
   rotate_left
   ·exact Zsb
   rotate_left
   ·exact Ztb
   refine Yjb (i := 2) (N := some 21) (v := ?_) (a' := ?_) #[true, true, true, false, false, false, false, false, false, false, false, false, false, false] rfl rfl (Yfb HT_.out Zi) (fun _ _ _ h => h) (Or.inl ⟨Zda, ?_⟩) ?_ ?_
   rotate_left
   ·exact Zsb
   rotate_left
   ·exact Ztb
   refine Yjb (i := 3) (N := some 22) (v := ?_) (a' := ?_) #[true, true, true, true, false, false, false, false, false, false, false, false, false, false] rfl rfl (Yfb HT_.out Zi) (fun _ _ _ h => h) (Or.inl ⟨Zda, ?_⟩) ?_ ?_
   rotate_left
   ·exact Zsb
   rotate_left
   ·exact Ztb
   refine Yjb (i := 4) (N := some 23) (v := ?_) (a' := ?_) #[true, true, true, true, true, false, false, false, false, false, false, false, false, false] rfl rfl (Yfb HT_.out Zi) (fun _ _ _ h => h) (Or.inl ⟨Zda, ?_⟩) ?_ ?_
   rotate_left
   ·exact Zsb
   rotate_left
   ·exact Ztb
   refine Yjb (i := 6) (N := some 25) (v := ?_) (a' := ?_) #[true, true, true, true, true, false, true, false, false, false, false, false, false, false] rfl rfl (Yfb HT_.out Zi) (fun _ _ _ h => h) (Or.inl ⟨Zda, ?_⟩) ?_ ?_
   rotate_left
   ·exact Zsb
   rotate_left
   ·exact Ztb
   refine Yjb (i := 7) (N := some 26) (v := ?_) (a' := ?_) #[true, true, true, true, true, false, true, true, false, false, false, false, false, false] rfl rfl (Yfb HT_.out Zi) (fun _ _ _ h => h) (Or.inl ⟨Zda, ?_⟩) ?_ ?_
   rotate_left
   ·exact Zsb
   rotate_left
   ·exact Ztb
   refine Yjb (i := 8) (N := some 27) (v := ?_) (a' := ?_) #[true, true, true, true, true, false, true, true, true, false, false, false, false, false] rfl rfl (Yfb HT_.out Zi) (fun _ _ _ h => h) (Or.inl ⟨Zda, ?_⟩) ?_ ?_
   rotate_left
   ·exact Zsb
   rotate_left
   ·exact Ztb
   refine Yjb (i := 9) (N := some 28) (v := ?_) (a' := ?_) #[true, true, true, true, true, false, true, true, true, true, false, false, false, false] rfl rfl (Yfb HT_.out Zi) (fun _ _ _ h => h) (Or.inl ⟨Zda, ?_⟩) ?_ ?_
   rotate_left
   ·exact Zsb
   rotate_left
   ·exact Ztb
   refine Yjb (i := 10) (N := some 29) (v := ?_) (a' := ?_) #[true, true, true, true, true, false, true, true, true, true, true, false, false, false] rfl rfl (Yfb HT_.out Zi) (fun _ _ _ h => h) (Or.inl ⟨Zda, ?_⟩) ?_ ?_
   rotate_left
   ·exact Zsb
   rotate_left
   ·exact Ztb
   refine Yxf (i := 5) (N := some 24) (v := ?_) (a' := ?_) #[true, true, true, true, true, true, true, true, true, true, true, false, false, false] rfl rfl (Yif HT_.out HW_.out Zi) (fun _ _ _ h => h) (Or.inl ⟨Zda, ?_⟩) hHeld ?_ ?_
   rotate_left
   ·intro w' s0
    go_simp
    with_reducible rfl
   rotate_left
   ·exact Ztb
   refine Yjb (i := 11) (N := some 30) (v := ?_) (a' := ?_) #[true, true, true, true, true, true, true, true, true, true, true, true, false, false] rfl rfl (Yfb HT_.out Zi) (fun _ _ _ h => h) (Or.inl ⟨Zda, ?_⟩) ?_ ?_
   rotate_left
   ·exact Zsb
   rotate_left
   ·exact Ztb
   refine Yjb (i := 12) (N := some 31) (v := ?_) (a' := ?_) #[true, true, true, true, true, true, true, true, true, true, true, true, true, false] rfl rfl (Yfb HT_.out Zi) (fun _ _ _ h => h) (Or.inl ⟨Zda, ?_⟩) ?_ ?_
   rotate_left
   ·exact Zsb
   rotate_left
   ·exact Ztb
   refine Ynp (i := 13) (N := none) #[true, true, true, true, true, true, true, true, true, true, true, true, true, true] rfl rfl (Yhg HT_.out Zi) Zw (fun K hK => ?_)
   refine Ygp (w1 := ?_) Zda rfl ?_ ?_
   rotate_left
   ·go_simp
    rfl
   refine hK.out _ _ ?_
   clear hK K
   refine Yoi (Yti HT_.out Zi) ?_
   try go_wp2
   go_roundg k1
   case measure => have := cC.out; omega
   case rel => exact ⟨(aLY), (wrap64 (aC + 1)), Zf, H', ⟨Zu⟩, ⟨by (with_reducible repeat (first | apply Kd.R_alloc | apply Kd.R_drewN | apply Kd.R_drew)); exact aBM.out⟩, ⟨by repeat (first | (with_reducible first | exact HB.out | apply Yd | apply Yb | apply Yc | refine Yg ?_ aGM.out) | exact HB.out)⟩⟩
def Yua.l0 : Nat → Y → Int → Option (Int)
 | 0, _, _ => none
 | k + 1, x0, x3 => if (x0.size : Int) > 0 then (if 0 < (x0.size : Int) then (if (bt x0 0) = 46 then (if 1 ≤ (x0.size : Int) then (Yua.l0 k (x0.extract 1 x0.size) (wrap64 (x3 + 1))) else (none)) else (if (x0.size : Int) > 2 then (if 0 ≤ 3 then (if 3 ≤ (x0.size : Int) then ((Yda.f k (x0.extract 0 3)).bind fun qN => (if qN.toList = ([37, 50, 101] : List UInt8) then (Yua.l0 k (x0.extract 3 x0.size) (wrap64 (x3 + 1))) else (some 0))) else (none)) else (none)) else (some 0))) else (none)) else (if x3 > 2 then (some 0) else (some x3))
def Yua.f (k : Nat) (a0 : Y) : Option (Int) := Yua.l0 k a0 0
theorem Yua.calls (k : Nat) (a0 : Y) (r : Int) (w : World) (hE : EnvOk w) (h : Yua.f k a0 = some r) :
  Calls Tryz.prog 86 #[.string a0] w fun e w' => e = .returned (.int .i64 r) ∧ Below w.heap.size w w' := by
 have HE := Ya.mk hE
 clear hE
 have HB := Ya.mk (Below.refl w.heap.size w)
 have H : (Yua.l0 k a0 0) = some r := h
 clear h
 have H' := Ya.mk H
 clear H
 go_enter Tryz.func86, Tryz.ntmps86
 go_wp2
 go_loopg [0, 3] k (fun kq v0 v3 w' => ∃ (aK : Y) (aE : Int), v0 = .string aK ∧ v3 = .int .i64 aE ∧ Ya (Yua.l0 kq aK aE = some r) ∧ Ya (kq ≤ k) ∧ Ya (Below w.heap.size w w'))
 case atStart => exact ⟨(a0), (0), Zf, Zf, H', ⟨Ks _⟩, ⟨Za⟩⟩
 case round =>
  clear H'
  obtain ⟨aK, aE, rfl, rfl, HA, cC, HB⟩ := hrel
  cases gk with
  | zero => exact absurd HA.out (by simp [Yua.l0])
  | succ k1 =>
   have H := HA.out
   clear HA
   simp only [Yua.l0] at H
   by_cases c2 : (aK.size : Int) > 0
   rotate_left
   ·rw [if_neg c2] at H
    have dS : decide (0 < (aK.size : Int)) = false := Ko c2
    have lD : decide (0 < aK.size) = false := Ko Zj
    clear c2
    by_cases bN : aE > 2
    ·rw [if_pos bN] at H
     have eA : decide (2 < aE) = true := Kn bN
     clear bN
     obtain rfl := Kr H
     go_wp2
     go_ret
     exact ⟨Zk, Za⟩
    rw [if_neg bN] at H
    have eA : decide (2 < aE) = false := Ko bN
    clear bN
    obtain rfl := Kr H
    go_wp2
    go_ret
    exact ⟨Zk, Za⟩
   rw [if_pos c2] at H
   have dS : decide (0 < (aK.size : Int)) = true := Kn c2
   have lD : decide (0 < aK.size) = true := Kn Zj
   clear c2
   by_cases c3 : 0 < (aK.size : Int)
   rotate_left
   ·rw [if_neg c3] at H
    exact absurd H Zq
   rw [if_pos c3] at H
   have bV : decide (0 < (aK.size : Int)) = true := Kn c3
   have dY : decide (0 < aK.size) = true := Kn Zj
   clear c3
   by_cases c5 : (bt aK 0) = 46
   ·rw [if_pos c5] at H
    have dG : ((bt aK 0) == 46) = true := Kx c5
    have oT : ((bt aK 0) != 46) = false := Ku c5
    clear c5
    by_cases c6 : 1 ≤ (aK.size : Int)
    rotate_left
    ·rw [if_neg c6] at H
     exact absurd H Zq
    rw [if_pos c6] at H
    have dN := Kp c6
    have lF : decide (1 ≤ (aK.size : Int)) = true := Kn c6
    clear c6
    have H' := Ya.mk H
    clear H
    have p4 : 0 ≤ (0 : Int) := Zj
    have q4 : 0 < aK.size := (by have : (0 : Int) < (aK.size : Int) := Km Zc; omega)
    have kA : ∀ h : 0 < aK.size, ((aK[0]'h).toNat : Int) = bt aK 0 := Ypa aK 0
    clear p4
    have uF : (0 < (aK.size : Int)) = True := Kp (Km Zc)
    replace q4 := Kp q4
    go_wp2
    go_roundg k1
    case measure => have := cC.out; omega
    case rel => exact ⟨(aK.extract 1 aK.size), (wrap64 (aE + 1)), Zf, Zf, H', ⟨Zu⟩, ⟨Za⟩⟩
   rw [if_neg c5] at H
   have dG : ((bt aK 0) == 46) = false := Kv c5
   have oT : ((bt aK 0) != 46) = true := Kw c5
   by_cases c7 : (aK.size : Int) > 2
   rotate_left
   ·rw [if_neg c7] at H
    have cM : decide (2 < (aK.size : Int)) = false := Ko c7
    have gZ : decide (2 < aK.size) = false := Ko Zj
    clear c7
    obtain rfl := Kr H
    have p4 : 0 ≤ (0 : Int) := Zj
    have q4 : 0 < aK.size := (by have : (0 : Int) < (aK.size : Int) := Km Zc; omega)
    have kA : ∀ h : 0 < aK.size, ((aK[0]'h).toNat : Int) = bt aK 0 := Ypa aK 0
    clear p4
    have uF : (0 < (aK.size : Int)) = True := Kp (Km Zc)
    replace q4 := Kp q4
    go_wp2
    go_ret
    exact ⟨Zk, Za⟩
   rw [if_pos c7] at H
   have cM : decide (2 < (aK.size : Int)) = true := Kn c7
   have gZ : decide (2 < aK.size) = true := Kn Zj
   clear c7
   by_cases c8 : 0 ≤ 3
   rotate_left
   ·rw [if_neg c8] at H
    exact absurd H Zq
   rw [if_pos c8] at H
   have fS := Kp c8
   have jA : decide (0 ≤ 3) = true := Kn c8
   clear c8
   by_cases c9 : 3 ≤ (aK.size : Int)
   rotate_left
   ·rw [if_neg c9] at H
    exact absurd H Zq
   rw [if_pos c9] at H
   have gN := Kp c9
   have nX : decide (3 ≤ (aK.size : Int)) = true := Kn c9
   clear c9
   obtain ⟨qN, rO, H⟩ := Kq H
   try dsimp -simprocs only at H
   have gE := Ya.mk rO
   clear rO
   by_cases bK : qN.toList = ([37, 50, 101] : List UInt8)
   rotate_left
   ·rw [if_neg bK] at H
    have fM : (qN.toList == ([37, 50, 101] : List UInt8)) = false := Kv bK
    have kH : (qN.toList != ([37, 50, 101] : List UInt8)) = true := Kw bK
    obtain rfl := Kr H
    have p4 : 0 ≤ (0 : Int) := Zj
    have q4 : 0 < aK.size := (by have : (0 : Int) < (aK.size : Int) := Km Zc; omega)
    have kA : ∀ h : 0 < aK.size, ((aK[0]'h).toNat : Int) = bt aK 0 := Ypa aK 0
    clear p4
    have uF : (0 < (aK.size : Int)) = True := Kp (Km Zc)
    replace q4 := Kp q4
    go_wp2_with (first | (go_at_call 33; (with_reducible refine (Yda.calls k1 (aK.extract 0 3) qN _ ?z1 gE.out).mono ?_); (case z1 => exact Kh); rintro e w14 ⟨rfl, hb⟩; replace HB := Ya.mk (Ys Za hb); (try clear hb)))
    go_ret
    exact ⟨Zk, Za⟩
   rw [if_pos bK] at H
   have fM : (qN.toList == ([37, 50, 101] : List UInt8)) = true := Kx bK
   have kH : (qN.toList != ([37, 50, 101] : List UInt8)) = false := Ku bK
   clear bK
   have dZ := Kp (Km Zc : 3 ≤ (aK.size : Int))
   have H' := Ya.mk H
   clear H
   have p4 : 0 ≤ (0 : Int) := Zj
   have q4 : 0 < aK.size := (by have : (0 : Int) < (aK.size : Int) := Km Zc; omega)
   have kA : ∀ h : 0 < aK.size, ((aK[0]'h).toNat : Int) = bt aK 0 := Ypa aK 0
   clear p4
   have uF : (0 < (aK.size : Int)) = True := Kp (Km Zc)
   replace q4 := Kp q4
   go_wp2_with (first | (go_at_call 33; (with_reducible refine (Yda.calls k1 (aK.extract 0 3) qN _ ?z1 gE.out).mono ?_); (case z1 => exact Kh); rintro e mW ⟨rfl, hb⟩; replace HB := Ya.mk (Ys Za hb); (try clear hb)))
   go_roundg k1
   case measure => have := cC.out; omega
   case rel => exact ⟨(aK.extract 3 aK.size), (wrap64 (aE + 1)), Zf, Zf, H', ⟨Zu⟩, ⟨Za⟩⟩
def Yya.l0 : Nat → Y → List Y → Y → Int → Option (Y)
 | 0, _, _, _, _ => none
 | k + 1, x0, x1, x5, x6 => if x6 < (x1.length : Int) then (if x6 > 0 then (if x5.size + x0.size ≤ 9223372036854775807 then (if 0 ≤ x6 then (if (x5 ++ x0).size + (rdOf ByteArray.empty x1 x6).size ≤ 9223372036854775807 then (Yya.l0 k x0 x1 ((x5 ++ x0) ++ (rdOf ByteArray.empty x1 x6)) (wrap64 (x6 + 1))) else (none)) else (none)) else (none)) else (if 0 ≤ x6 then (if x5.size + (rdOf ByteArray.empty x1 x6).size ≤ 9223372036854775807 then (Yya.l0 k x0 x1 (x5 ++ (rdOf ByteArray.empty x1 x6)) (wrap64 (x6 + 1))) else (none)) else (none))) else (some x5)
def Yya.f (k : Nat) (a0 : Y) (l1 : List Y) : Option (Y) := Yya.l0 k a0 l1 (⟨#[]⟩ : Y) 0
theorem Yya.calls (k : Nat) (a0 : Y) (A1 : Option Addr) (c1 : Nat) (l1 : List Y) (r : Y) (w : World) (hE : EnvOk w) (hr1 : Kd.C Kd.string w A1 l1.length l1) (fL : l1.length ≤ c1) (h : Yya.f k a0 l1 = some r) :
  Calls Tryz.prog 87 #[.string a0, .slice A1 l1.length c1] w fun e w' => e = .returned (.string r) ∧ Drawn0 w w' := by
 have rM := Ya.mk hr1
 have HC1 := Ya.mk fL
 clear hr1 fL
 have HE := Ya.mk hE
 clear hE
 have H : (Yya.l0 k a0 l1 (⟨#[]⟩ : Y) 0) = some r := h
 clear h
 have H' := Ya.mk H
 clear H
 go_enter Tryz.func87, Tryz.ntmps87
 go_wp2
 go_loopg [5, 6] k (fun kq v5 v6 w' => ∃ (aI : Y) (aD : Int), v5 = .string aI ∧ v6 = .int .i64 aD ∧ Ya (Yya.l0 kq a0 l1 aI aD = some r) ∧ Ya (kq ≤ k) ∧ Drawn0 w w')
 case atStart => exact ⟨((⟨#[]⟩ : Y)), (0), Zf, Zf, H', ⟨Ks _⟩, Zh⟩
 case round =>
  clear H'
  try clear c1
  try clear p2
  obtain ⟨aI, aD, rfl, rfl, HA, cC, ⟨m1, rfl⟩⟩ := hrel
  cases gk with
  | zero => exact absurd HA.out (by simp [Yya.l0])
  | succ k1 =>
   have H := HA.out
   clear HA
   simp only [Yya.l0] at H
   by_cases c3 : aD < (l1.length : Int)
   rotate_left
   ·rw [if_neg c3] at H
    have bV : decide (aD < (l1.length : Int)) = false := Ko c3
    clear c3
    obtain rfl := Kr H
    go_wp2
    go_ret
    exact ⟨Zf, Zh⟩
   rw [if_pos c3] at H
   have bV : decide (aD < (l1.length : Int)) = true := Kn c3
   clear c3
   by_cases c4 : aD > 0
   rotate_left
   ·rw [if_neg c4] at H
    have bM : decide (0 < aD) = false := Ko c4
    clear c4
    by_cases c8 : 0 ≤ aD
    rotate_left
    ·rw [if_neg c8] at H
     exact absurd H Zq
    rw [if_pos c8] at H
    have fS : decide (0 ≤ aD) = true := Kn c8
    clear c8
    by_cases c9 : aI.size + (rdOf ByteArray.empty l1 aD).size ≤ 9223372036854775807
    rotate_left
    ·rw [if_neg c9] at H
     exact absurd H Zq
    rw [if_pos c9] at H
    have gN := Kp c9
    have nX : decide (aI.size + (rdOf ByteArray.empty l1 aD).size ≤ 9223372036854775807) = true := Kn c9
    try have aBg : (9223372036854775807 < aI.size + (rdOf ByteArray.empty l1 aD).size) = False := eq_false (Nat.not_lt.2 c9)
    have H' := Ya.mk H
    clear H
    have aGO : 0 ≤ (aD : Int) := Km Zc
    have aGP : aD < (l1.length : Int) := Km Zc
    obtain ⟨aZx, aYe, aVL⟩ := Kd.at_string rM.out aD aGO aGP
    cases aYe
    replace aGO := Kp aGO
    replace aGP := Kp aGP
    go_wp2
    go_roundg k1
    case measure => have := cC.out; omega
    case rel => exact ⟨(aI ++ (rdOf ByteArray.empty l1 aD)), (wrap64 (aD + 1)), Zf, Zf, H', ⟨Zu⟩, Zh⟩
   rw [if_pos c4] at H
   have bM : decide (0 < aD) = true := Kn c4
   clear c4
   by_cases c5 : aI.size + a0.size ≤ 9223372036854775807
   rotate_left
   ·rw [if_neg c5] at H
    exact absurd H Zq
   rw [if_pos c5] at H
   have dG := Kp c5
   have oT : decide (aI.size + a0.size ≤ 9223372036854775807) = true := Kn c5
   try have aXp : (9223372036854775807 < aI.size + a0.size) = False := eq_false (Nat.not_lt.2 c5)
   by_cases c6 : 0 ≤ aD
   rotate_left
   ·rw [if_neg c6] at H
    exact absurd H Zq
   rw [if_pos c6] at H
   have dN : decide (0 ≤ aD) = true := Kn c6
   clear c6
   by_cases c7 : (aI ++ a0).size + (rdOf ByteArray.empty l1 aD).size ≤ 9223372036854775807
   rotate_left
   ·rw [if_neg c7] at H
    exact absurd H Zq
   rw [if_pos c7] at H
   have cM := Kp c7
   have gZ : decide ((aI ++ a0).size + (rdOf ByteArray.empty l1 aD).size ≤ 9223372036854775807) = true := Kn c7
   try have bAv : (9223372036854775807 < (aI ++ a0).size + (rdOf ByteArray.empty l1 aD).size) = False := eq_false (Nat.not_lt.2 c7)
   have H' := Ya.mk H
   clear H
   have aGQ : 0 ≤ (aD : Int) := Km Zc
   have aGR : aD < (l1.length : Int) := Km Zc
   obtain ⟨aZy, aYf, aVM⟩ := Kd.at_string rM.out aD aGQ aGR
   cases aYf
   replace aGQ := Kp aGQ
   replace aGR := Kp aGR
   go_wp2
   go_roundg k1
   case measure => have := cC.out; omega
   case rel => exact ⟨((aI ++ a0) ++ (rdOf ByteArray.empty l1 aD)), (wrap64 (aD + 1)), Zf, Zf, H', ⟨Zu⟩, Zh⟩
def Yxa.l0 : Nat → Int → Y → Option (Y)
 | 0, _, _ => none
 | k + 1, x0, x3 => (some (([(IntKind.u64.wrap (48 + (Int.tmod x0 10))) % 256] : List Int) : List Int)).bind fun oO => (if (strOfNums oO).size + x3.size ≤ 9223372036854775807 then (if (IntKind.u64.wrap (Int.tdiv x0 10)) = 0 then (some ((strOfNums oO) ++ x3)) else (Yxa.l0 k (IntKind.u64.wrap (Int.tdiv x0 10)) ((strOfNums oO) ++ x3))) else (none))
def Yxa.f (k : Nat) (a0 : Int) : Option (Y) := Yxa.l0 k a0 (⟨#[]⟩ : Y)
theorem Yxa.calls (k : Nat) (a0 : Int) (r : Y) (w : World) (hE : EnvOk w) (h : Yxa.f k a0 = some r) :
  Calls Tryz.prog 62 #[.int .u64 a0] w fun e w' => e = .returned (.string r) ∧ Below w.heap.size w w' := by
 have HE := Ya.mk hE
 clear hE
 have HB := Ya.mk (Below.refl w.heap.size w)
 have H : (Yxa.l0 k a0 (⟨#[]⟩ : Y)) = some r := h
 clear h
 have H' := Ya.mk H
 clear H
 go_enter Tryz.func62, Tryz.ntmps62
 go_wp2
 go_loopg [0, 3] k (fun kq v0 v3 w' => ∃ (aK : Int) (aE : Y), v0 = .int .u64 aK ∧ v3 = .string aE ∧ Ya (Yxa.l0 kq aK aE = some r) ∧ Ya (kq ≤ k) ∧ Ya (Below w.heap.size w w'))
 case atStart => exact ⟨(a0), ((⟨#[]⟩ : Y)), Zf, Zf, H', ⟨Ks _⟩, ⟨Za⟩⟩
 case round =>
  clear H'
  obtain ⟨aK, aE, rfl, rfl, HA, cC, HB⟩ := hrel
  cases gk with
  | zero => exact absurd HA.out (by simp [Yxa.l0])
  | succ k1 =>
   have H := HA.out
   clear HA
   simp only [Yxa.l0] at H
   obtain ⟨oO, tH⟩ : ∃ y_ : List Int, y_ = (([(IntKind.u64.wrap (48 + (Int.tmod aK 10))) % 256] : List Int)) := ⟨_, rfl⟩
   replace H : (if (strOfNums oO).size + aE.size ≤ 9223372036854775807 then (if (IntKind.u64.wrap (Int.tdiv aK 10)) = 0 then (some ((strOfNums oO) ++ aE)) else (Yxa.l0 k1 (IntKind.u64.wrap (Int.tdiv aK 10)) ((strOfNums oO) ++ aE))) else (none)) = some r := by first | (rw [tH]; with_reducible exact H) | (have cO := (Kba _ _).symm.trans H; rw [tH]; with_reducible exact cO) | (have cO := (Kba _ _).symm.trans H; with_reducible exact cO) | with_reducible exact H | (rw [tH]; exact H) | exact H
   have yS := Ya.mk tH
   clear tH
   by_cases c2 : (strOfNums oO).size + aE.size ≤ 9223372036854775807
   rotate_left
   ·rw [if_neg c2] at H
    exact absurd H Zq
   rw [if_pos c2] at H
   have dS := Kp c2
   have lD : decide ((strOfNums oO).size + aE.size ≤ 9223372036854775807) = true := Kn c2
   try have aFE : (9223372036854775807 < (strOfNums oO).size + aE.size) = False := eq_false (Nat.not_lt.2 c2)
   by_cases c3 : (IntKind.u64.wrap (Int.tdiv aK 10)) = 0
   ·rw [if_pos c3] at H
    have bV : ((IntKind.u64.wrap (Int.tdiv aK 10)) == 0) = true := Kx c3
    have dY : ((IntKind.u64.wrap (Int.tdiv aK 10)) != 0) = false := Ku c3
    clear c3
    obtain rfl := Kr H
    go_wp2_with (first | ((with_reducible refine Ybd (N := 8) rfl ?_); refine Kd.R_lit (Kd.int .u8) _ 5 ?hg (N := 8) ?hd (xs := ([(IntKind.u64.wrap (48 + (Int.tmod aK 10))) % 256] : List Int)) (inner := [.int .u8 ((IntKind.u64.wrap (48 + (Int.tmod aK 10))) % 256)]) (ok := fun _ => True) (okp := fun _ => True) ?hr ?hp (fun _ hk => hk) trivial (Below.refl _ _) (Ks _) Zq ?_; (case hd => rfl); (case hg => rfl); (case hr => first | (go_simp; done) | (go_simp; rfl)); (case hp => exact (Reps.one (show Kd.M (Kd.int .u8) _ _ _ ((IntKind.u64.wrap (48 + (Int.tmod aK 10))) % 256) [.int .u8 ((IntKind.u64.wrap (48 + (Int.tmod aK 10))) % 256)] from rfl) (Reps.none _ _))); intro aYg w4 tY hb hg_ hnew_; clear hg_ hnew_; (first | rw [← yS.out] at tY | (simp only [Int.reduceToNat] at tY; rw [← yS.out] at tY)); have aBN := Ya.mk (Kd.R_lower tY (Yna Za)); replace HB := Ya.mk (Ys Za hb); clear hb tY; have bAw := Yzf (P := Tryz.prog) Tryz.underlying67 Tryz.underlying5 Tryz.underlying9 (Kd.own_of_R aBN.out)))
    go_ret
    exact ⟨Zk, Za⟩
   rw [if_neg c3] at H
   have bV : ((IntKind.u64.wrap (Int.tdiv aK 10)) == 0) = false := Kv c3
   have dY : ((IntKind.u64.wrap (Int.tdiv aK 10)) != 0) = true := Kw c3
   have H' := Ya.mk H
   clear H
   go_wp2_with (first | ((with_reducible refine Ybd (N := 8) rfl ?_); refine Kd.R_lit (Kd.int .u8) _ 5 ?hg (N := 8) ?hd (xs := ([(IntKind.u64.wrap (48 + (Int.tmod aK 10))) % 256] : List Int)) (inner := [.int .u8 ((IntKind.u64.wrap (48 + (Int.tmod aK 10))) % 256)]) (ok := fun _ => True) (okp := fun _ => True) ?hr ?hp (fun _ hk => hk) trivial (Below.refl _ _) (Ks _) Zq ?_; (case hd => rfl); (case hg => rfl); (case hr => first | (go_simp; done) | (go_simp; rfl)); (case hp => exact (Reps.one (show Kd.M (Kd.int .u8) _ _ _ ((IntKind.u64.wrap (48 + (Int.tmod aK 10))) % 256) [.int .u8 ((IntKind.u64.wrap (48 + (Int.tmod aK 10))) % 256)] from rfl) (Reps.none _ _))); intro aYg w7 ho8 hb hg_ hnew_; clear hg_ hnew_; (first | rw [← yS.out] at ho8 | (simp only [Int.reduceToNat] at ho8; rw [← yS.out] at ho8)); have aBN := Ya.mk (Kd.R_lower ho8 (Yna Za)); replace HB := Ya.mk (Ys Za hb); clear hb ho8; have bAx := Yzf (P := Tryz.prog) Tryz.underlying67 Tryz.underlying5 Tryz.underlying9 (Kd.own_of_R aBN.out)))
   go_roundg k1
   case measure => have := cC.out; omega
   case rel => exact ⟨(IntKind.u64.wrap (Int.tdiv aK 10)), ((strOfNums oO) ++ aE), Zf, Zf, H', ⟨Zu⟩, ⟨Za⟩⟩
end Go.Proofs.YtihaeeldgimdiaaGreatDoor.X
