import Derived.Test.YtihaeeldgimdiaaGreatDoorIUX12
set_option linter.all false
namespace Go.Proofs.YtihaeeldgimdiaaGreatDoor.X
open Go.RowKit Go.Yw.PrintWords Go.Yw.PrintLast Go.Yw.PrintMore
attribute [local go_sem] Yxd Yvd Yze Yye Ymd Yld Yyd Ywd
set_option maxHeartbeats 8000000
set_option maxRecDepth 100000
def Yga.l0 : Nat → Y → Int → List Y → Int → Option (List Y)
 | 0, _, _, _, _ => none
 | k + 1, x0, x1, x5, x6 => if x6 < (x0.size : Int) then (if 0 ≤ x6 then (if (bt x0 x6) = x1 then (if x5.length < 8796093022208 then (Yga.l0 k x0 x1 (x5 ++ [(⟨#[]⟩ : Y)]) (wrap64 (x6 + 1))) else (none)) else (if 0 ≤ (wrap64 ((x5.length : Int) - 1)) then (if (wrap64 ((x5.length : Int) - 1)) < (x5.length : Int) then (if x6 ≤ (wrap64 (x6 + 1)) then (if (wrap64 (x6 + 1)) ≤ (x0.size : Int) then (if (rdOf ByteArray.empty x5 (wrap64 ((x5.length : Int) - 1))).size + (x0.extract (x6 : Int).toNat ((wrap64 (x6 + 1)) : Int).toNat).size ≤ 9223372036854775807 then (Yga.l0 k x0 x1 (x5.set ((wrap64 ((x5.length : Int) - 1)) : Int).toNat ((rdOf ByteArray.empty x5 (wrap64 ((x5.length : Int) - 1))) ++ (x0.extract (x6 : Int).toNat ((wrap64 (x6 + 1)) : Int).toNat))) (wrap64 (x6 + 1))) else (none)) else (none)) else (none)) else (none)) else (none))) else (none)) else (some x5)
def Yga.f (k : Nat) (a0 : Y) (a1 : Int) : Option (List Y) := Yga.l0 k a0 a1 (([(⟨#[]⟩ : Y)] : List Y)) 0
def Yga.T7 : Bool × List (List Nat × List Nat) := (true, [([], []), ([], []), ([1], [1]), ([2], [2]), ([0, 3], [0, 3]), ([4], [4]), ([], []), ([], []), ([], []), ([8], [8]), ([6, 7, 9], [6, 7, 9]), ([5, 10], [5, 10]), ([0, 3, 0, 1, 2, 3, 4, 5, 6, 7, 8, 9, 10, 11], [0, 3]), ([12, 11, 0, 1, 2, 3, 4, 5, 6, 7, 8, 9, 10, 11], [11, 12])])
def Yga.B7 : List Nat := [0, 0, 2, 6, 15, 31, 0, 0, 0, 256, 960, 2047, 4095, 8191]
theorem Yga.tab7 : rtab .any (opsOf Tryz.f114 7) = Yga.T7 := by kernel_rfl
theorem Yga.bits7 : Yvg Yga.T7.2 Yga.B7 = true := by kernel_rfl
theorem Yga.calls (k : Nat) (a0 : Y) (a1 : Int) (r : List Y) (w : World) (hE : EnvOk w) (h : Yga.f k a0 a1 = some r) :
  Calls Tryz.prog 114 #[.string a0, .int .u8 a1] w fun e w' => ∃ v0_ : Value, e = .returned (v0_) ∧ Kd.R Kd.string 9 w' w.heap.size (fun _ => True) v0_ r ∧ Below w.heap.size w w' := by
 have HE := Ya.mk hE
 clear hE
 have HB := Ya.mk (Below.refl w.heap.size w)
 have H : (Yga.l0 k a0 a1 (([(⟨#[]⟩ : Y)] : List Y)) 0) = some r := h
 clear h
 obtain ⟨aMo, tM⟩ : ∃ y_ : List Y, y_ = (([(⟨#[]⟩ : Y)] : List Y)) := ⟨_, rfl⟩
 replace H : (Yga.l0 k a0 a1 aMo 0) = some r := by first | (rw [tM]; with_reducible exact H) | (have cO := (Kba _ _).symm.trans H; rw [tM]; with_reducible exact cO) | (have cO := (Kba _ _).symm.trans H; with_reducible exact cO) | with_reducible exact H | (rw [tM]; exact H) | exact H
 have aEP := Ya.mk tM
 clear tM
 have H' := Ya.mk H
 clear H
 go_enter Tryz.func114, Tryz.ntmps114
 go_wp2_with (first | ((with_reducible refine Ybd (N := 7) rfl ?_); refine Kd.R_lit Kd.string _ 9 ?hg (N := 7) ?hd (xs := ([(⟨#[]⟩ : Y)] : List Y)) (inner := [.string (⟨#[]⟩ : Y)]) (ok := fun _ => True) (okp := fun _ => True) ?hr ?hp (fun _ hk => hk) trivial (Below.refl _ _) (Ks _) Zq ?_; (case hd => rfl); (case hg => rfl); (case hr => first | (go_simp; done) | (go_simp; rfl)); (case hp => exact (Reps.one (show Kd.M Kd.string _ _ _ (⟨#[]⟩ : Y) [.string (⟨#[]⟩ : Y)] from rfl) (Reps.none _ _))); intro bAC w3 ho4 hb hg_ hnew_; clear hg_ hnew_; (first | rw [← aEP.out] at ho4 | (simp only [Int.reduceToNat] at ho4; rw [← aEP.out] at ho4)); have aMq := Ya.mk (Kd.R_lower ho4 (Yna Za)); replace HB := Ya.mk (Ys Za hb); clear hb ho4))
 go_loopg [5, 6] k (fun kq v5 v6 w' => ∃ (aI : List Y) (aD : Int), v6 = .int .i64 aD ∧ Ya (Yga.l0 kq a0 a1 aI aD = some r) ∧ Ya (kq ≤ k) ∧ Ya (Kd.R Kd.string 9 w' w.heap.size (fun _ => True) v5 aI) ∧ Ya (Below w.heap.size w w'))
 case atStart => exact ⟨(aMo), (0), Zf, H', ⟨Ks _⟩, ⟨by (with_reducible repeat (first | apply Kd.R_alloc | apply Kd.R_drewN | apply Kd.R_drew)); exact aMq.out⟩, ⟨Za⟩⟩
 case round =>
  clear H'
  try clear c1
  try clear p2
  obtain ⟨aI, aD, rfl, HA, cC, HO_5, HB⟩ := hrel
  cases gk with
  | zero => exact absurd HA.out (by simp [Yga.l0])
  | succ k1 =>
   have H := HA.out
   clear HA
   simp only [Yga.l0] at H
   by_cases c5 : aD < (a0.size : Int)
   rotate_left
   ·rw [if_neg c5] at H
    have dG : decide (aD < (a0.size : Int)) = false := Ko c5
    clear c5
    obtain rfl := Kr H
    go_wp2
    go_ret
    exact ⟨_, Zk, Zz, Za⟩
   rw [if_pos c5] at H
   have dG : decide (aD < (a0.size : Int)) = true := Kn c5
   clear c5
   by_cases c6 : 0 ≤ aD
   rotate_left
   ·rw [if_neg c6] at H
    exact absurd H Zq
   rw [if_pos c6] at H
   have dN : decide (0 ≤ aD) = true := Kn c6
   clear c6
   by_cases c8 : (bt a0 aD) = a1
   ·rw [if_pos c8] at H
    have fS : ((bt a0 aD) == a1) = true := Kx c8
    have jA : ((bt a0 aD) != a1) = false := Ku c8
    clear c8
    by_cases c9 : aI.length < 8796093022208
    rotate_left
    ·rw [if_neg c9] at H
     exact absurd H Zq
    rw [if_pos c9] at H
    have uO := Ya.mk c9
    clear c9
    obtain ⟨aMr, tN⟩ : ∃ y_ : List Y, y_ = (aI ++ [(⟨#[]⟩ : Y)]) := ⟨_, rfl⟩
    replace H : (Yga.l0 k1 a0 a1 aMr (wrap64 (aD + 1))) = some r := by first | (rw [tN]; with_reducible exact H) | (have cO := (Kba _ _).symm.trans H; rw [tN]; with_reducible exact cO) | (have cO := (Kba _ _).symm.trans H; with_reducible exact cO) | with_reducible exact H | (rw [tN]; exact H) | exact H
    have aMs := Ya.mk tN
    clear tN
    have H' := Ya.mk H
    clear H
    have p7 : (0 ≤ (aD : Int)) = True := Kl
    have q7 : aD < (a0.size : Int) := Km Zc
    have hx7 := Ypa a0 aD
    replace q7 := Kp q7
    go_wp2_with (first | ((with_reducible refine Yic (b := .append) (xs := #[.tmp 19, .tmp 20]) rfl ?_); at_builtin; refine Kd.R_append Kd.string (w0 := w) w.heap.size rfl (.tmp 19) (.tmp 20) 23 9 (.string ⟨#[]⟩) 16 rfl Tryz.underlying23 Ype rfl Zw Zj u5 aI (⟨#[]⟩ : Y) [.string (⟨#[]⟩ : Y)] (fun _ => True) (fun _ => False) rfl rfl ?aP (fun _ hk => hk.elim) ?aF ?aO ?aB ?aS ?aL ?_; (case aP => exact rfl); (case aB => exact Za); (case aF => exact (fun _ _ => trivial)); (case aO => exact Zz); (case aS => exact Ki); (case aL => have := uO.out; omega); intro bAD qZ ho hb hg hat; rw [← aMs.out] at ho; replace HB := Ya.mk (hb); have aMt := Ya.mk (ho); clear HO_5; clear ho hb hg hat))
    go_roundg k1
    case measure => have := cC.out; omega
    case rel => exact ⟨(aMr), (wrap64 (aD + 1)), Zf, H', ⟨Zu⟩, ⟨by (with_reducible repeat (first | apply Kd.R_alloc | apply Kd.R_drewN | apply Kd.R_drew)); exact aMt.out⟩, ⟨Za⟩⟩
   rw [if_neg c8] at H
   have fS : ((bt a0 aD) == a1) = false := Kv c8
   have jA : ((bt a0 aD) != a1) = true := Kw c8
   obtain ⟨ji11, mQ⟩ : ∃ j_ : Int, (wrap64 ((aI.length : Int) - 1)) = j_ := ⟨_, rfl⟩
   replace H : (if 0 ≤ (ji11) then (if (ji11) < (aI.length : Int) then (if aD ≤ (wrap64 (aD + 1)) then (if (wrap64 (aD + 1)) ≤ (a0.size : Int) then (if (rdOf ByteArray.empty aI (ji11)).size + (a0.extract (aD : Int).toNat ((wrap64 (aD + 1)) : Int).toNat).size ≤ 9223372036854775807 then (Yga.l0 k1 a0 a1 (aI.set ((ji11) : Int).toNat ((rdOf ByteArray.empty aI (ji11)) ++ (a0.extract (aD : Int).toNat ((wrap64 (aD + 1)) : Int).toNat))) (wrap64 (aD + 1))) else (none)) else (none)) else (none)) else (none)) else (none)) = some r := by first | (rw [mQ] at H; exact H) | (simp only [mQ] at H ⊢; exact H)
   have hji11w : (IntKind.i64.wrap ((aI.length : Int) - 1)) = ji11 := (Yha _).trans mQ
   by_cases bT : 0 ≤ (ji11)
   rotate_left
   ·rw [if_neg bT] at H
    exact absurd H Zq
   rw [if_pos bT] at H
   have dZ : decide (0 ≤ (ji11)) = true := Kn bT
   clear bT
   by_cases cI : (ji11) < (aI.length : Int)
   rotate_left
   ·rw [if_neg cI] at H
    exact absurd H Zq
   rw [if_pos cI] at H
   have hJ : decide ((ji11) < (aI.length : Int)) = true := Kn cI
   clear cI
   have gC := Kp (Km Zc : 0 ≤ aD)
   by_cases bN : aD ≤ (wrap64 (aD + 1))
   rotate_left
   ·rw [if_neg bN] at H
    exact absurd H Zq
   rw [if_pos bN] at H
   have eA := Kp bN
   have pR : decide (aD ≤ (wrap64 (aD + 1))) = true := Kn bN
   by_cases dF : (wrap64 (aD + 1)) ≤ (a0.size : Int)
   rotate_left
   ·rw [if_neg dF] at H
    exact absurd H Zq
   rw [if_pos dF] at H
   have gD := Kp dF
   have lP : decide ((wrap64 (aD + 1)) ≤ (a0.size : Int)) = true := Kn dF
   by_cases gG : (rdOf ByteArray.empty aI (ji11)).size + (a0.extract (aD : Int).toNat ((wrap64 (aD + 1)) : Int).toNat).size ≤ 9223372036854775807
   rotate_left
   ·rw [if_neg gG] at H
    exact absurd H Zq
   rw [if_pos gG] at H
   have kI := Kp gG
   have mP : decide ((rdOf ByteArray.empty aI (ji11)).size + (a0.extract (aD : Int).toNat ((wrap64 (aD + 1)) : Int).toNat).size ≤ 9223372036854775807) = true := Kn gG
   try have aLW : (9223372036854775807 < (rdOf ByteArray.empty aI (ji11)).size + (a0.extract (aD : Int).toNat ((wrap64 (aD + 1)) : Int).toNat).size) = False := eq_false (Nat.not_lt.2 gG)
   try have aLX : (9223372036854775807 < (rdOf ByteArray.empty aI (ji11)).size + (((wrap64 (aD + 1)) : Int).toNat - (aD : Int).toNat)) = False := eq_false (by have h9_ := gG; rw [ByteArray.size_extract] at h9_; omega)
   obtain ⟨aMu, tO⟩ : ∃ y_ : List Y, y_ = (aI.set ((ji11) : Int).toNat ((rdOf ByteArray.empty aI (ji11)) ++ (a0.extract (aD : Int).toNat ((wrap64 (aD + 1)) : Int).toNat))) := ⟨_, rfl⟩
   replace H : (Yga.l0 k1 a0 a1 aMu (wrap64 (aD + 1))) = some r := by first | (rw [tO]; with_reducible exact H) | (have cO := (Kba _ _).symm.trans H; rw [tO]; with_reducible exact cO) | (have cO := (Kba _ _).symm.trans H; with_reducible exact cO) | with_reducible exact H | (rw [tO]; exact H) | exact H
   have aMv := Ya.mk tO
   clear tO
   have H' := Ya.mk H
   clear H
   have p7 : (0 ≤ (aD : Int)) = True := Kl
   have q7 : aD < (a0.size : Int) := Km Zc
   have hx7 := Ypa a0 aD
   replace q7 := Kp q7
   try go_wp2
   have aJ := Ya.mk (Kd.R_drew HO_5.out)
   have aU := Ya.mk (Yc HB.out)
   clear HO_5
   clear HB
   have HO_5 := aJ
   have HB := aU
   clear aJ aU
   obtain ⟨aXZ, aYa, aBI⟩ := Kd.R_slice HO_5.out
   (first | subst aBI | (injection aBI with f1_ f2_ f3_; have f4_ := f1_.symm; have f5_ := f3_.symm; clear f1_ f2_ f3_; subst f4_; subst f5_))
   have aGV : 0 ≤ ((ji11) : Int) := Km Zc
   have aGW : (ji11) < (aI.length : Int) := Km Zc
   obtain ⟨aZH, aYj, qQ⟩ := Kd.at_string (Kd.R_reads' HO_5.out).2.2 (ji11) aGV aGW
   cases aYj
   replace aGV := Kp aGV
   replace aGW := Kp aGW
   have p18 : 0 ≤ ((ji11) : Int) := Km Zc
   have q18 : ((ji11) : Int) < ((aI.length : Int) : Int) := Km Zc
   obtain ⟨aGK, aYc, aBJ, aBK, aGL, aYd, aBL⟩ := Kd.R_form HO_5.out Zj
   (first | cases aBJ | (injection aBJ with ea_ en_ ec_; (first | subst ea_ | (injection ea_ with ea_; subst ea_)); subst ec_; clear en_))
   have aGM := Ya.mk aBK
   have aGN := Ya.mk aBL
   clear aBK aGL aBL
   (first | simp only [add_plain] at qQ | skip)
   obtain ⟨wJ, wK⟩ := Kd.R_celln (⟨#[]⟩ : Y) HO_5.out ((ji11) : Int) p18 q18
   replace p18 := Kp p18
   replace q18 := Kp q18
   have wL := Kd.R_putn HO_5.out ((ji11) : Int) ((rdOf ByteArray.empty aI (ji11)) ++ (a0.extract (aD : Int).toNat ((wrap64 (aD + 1)) : Int).toNat))
   rw [← aMv.out] at wL
   have aBM := Ya.mk wL
   clear wL
   refine Ydh (n := 14) (S := fun w' => w'.cell? ⟨aGK, ((ji11)).toNat, none⟩ = some (.string (rdOf ByteArray.empty aI (ji11)))) (ds := [13]) #[false, false, false, false, false, false, false, false, false, false, false, false, false, false] Zi rfl rfl (qQ) (fun hHeld => ?_); refine Yzg Yga.tab7 Yga.bits7 (fun HT_ HW_ => ?_)
   generalize wr.drew = w19 at HO_5 HB aGN aBM wK wJ qQ hHeld ⊢
   refine Yjb (i := 0) (N := some 22) (v := ?_) (a' := ?_) #[true, false, false, false, false, false, false, false, false, false, false, false, false, false] rfl rfl (Yfb HT_.out Zi) (fun _ _ _ h => h) (Or.inl ⟨Zda, ?_⟩) ?_ ?_
   rotate_left
   ·exact Zsb
   rotate_left
   ·exact Ztb
   refine Yjb (i := 1) (N := some 23) (v := ?_) (a' := ?_) #[true, true, false, false, false, false, false, false, false, false, false, false, false, false] rfl rfl (Yfb HT_.out Zi) (fun _ _ _ h => h) (Or.inl ⟨Zda, ?_⟩) ?_ ?_
   rotate_left
   ·exact Zsb
   rotate_left
   ·exact Ztb
   refine Yjb (i := 2) (N := some 24) (v := ?_) (a' := ?_) #[true, true, true, false, false, false, false, false, false, false, false, false, false, false] rfl rfl (Yfb HT_.out Zi) (fun _ _ _ h => h) (Or.inl ⟨Zda, ?_⟩) ?_ ?_
   rotate_left
   ·exact Zsb
   rotate_left
   ·exact Ztb
   refine Yjb (i := 3) (N := some 25) (v := ?_) (a' := ?_) #[true, true, true, true, false, false, false, false, false, false, false, false, false, false] rfl rfl (Yfb HT_.out Zi) (fun _ _ _ h => h) (Or.inl ⟨Zda, ?_⟩) ?_ ?_
   rotate_left
   ·exact Zsb
   rotate_left
   ·exact Ztb
   refine Yjb (i := 4) (N := some 26) (v := ?_) (a' := ?_) #[true, true, true, true, true, false, false, false, false, false, false, false, false, false] rfl rfl (Yfb HT_.out Zi) (fun _ _ _ h => h) (Or.inl ⟨Zda, ?_⟩) ?_ ?_
   rotate_left
   ·exact Zsb
   rotate_left
   ·exact Ztb
   refine Yjb (i := 6) (N := some 28) (v := ?_) (a' := ?_) #[true, true, true, true, true, false, true, false, false, false, false, false, false, false] rfl rfl (Yfb HT_.out Zi) (fun _ _ _ h => h) (Or.inl ⟨Zda, ?_⟩) ?_ ?_
   rotate_left
   ·exact Zsb
   rotate_left
   ·exact Ztb
   refine Yjb (i := 7) (N := some 29) (v := ?_) (a' := ?_) #[true, true, true, true, true, false, true, true, false, false, false, false, false, false] rfl rfl (Yfb HT_.out Zi) (fun _ _ _ h => h) (Or.inl ⟨Zda, ?_⟩) ?_ ?_
   rotate_left
   ·exact Zsb
   rotate_left
   ·exact Ztb
   refine Yjb (i := 8) (N := some 30) (v := ?_) (a' := ?_) #[true, true, true, true, true, false, true, true, true, false, false, false, false, false] rfl rfl (Yfb HT_.out Zi) (fun _ _ _ h => h) (Or.inl ⟨Zda, ?_⟩) ?_ ?_
   rotate_left
   ·exact Zsb
   rotate_left
   ·exact Ztb
   refine Yjb (i := 9) (N := some 31) (v := ?_) (a' := ?_) #[true, true, true, true, true, false, true, true, true, true, false, false, false, false] rfl rfl (Yfb HT_.out Zi) (fun _ _ _ h => h) (Or.inl ⟨Zda, ?_⟩) ?_ ?_
   rotate_left
   ·exact Zsb
   rotate_left
   ·exact Ztb
   refine Yjb (i := 10) (N := some 32) (v := ?_) (a' := ?_) #[true, true, true, true, true, false, true, true, true, true, true, false, false, false] rfl rfl (Yfb HT_.out Zi) (fun _ _ _ h => h) (Or.inl ⟨Zda, ?_⟩) ?_ ?_
   rotate_left
   ·exact Zsb
   rotate_left
   ·exact Ztb
   refine Yxf (i := 5) (N := some 27) (v := ?_) (a' := ?_) #[true, true, true, true, true, true, true, true, true, true, true, false, false, false] rfl rfl (Yif HT_.out HW_.out Zi) (fun _ _ _ h => h) (Or.inl ⟨Zda, ?_⟩) hHeld ?_ ?_
   rotate_left
   ·intro w' s0
    go_simp
    with_reducible rfl
   rotate_left
   ·exact Ztb
   refine Yjb (i := 11) (N := some 33) (v := ?_) (a' := ?_) #[true, true, true, true, true, true, true, true, true, true, true, true, false, false] rfl rfl (Yfb HT_.out Zi) (fun _ _ _ h => h) (Or.inl ⟨Zda, ?_⟩) ?_ ?_
   rotate_left
   ·exact Zsb
   rotate_left
   ·exact Ztb
   refine Yjb (i := 12) (N := some 34) (v := ?_) (a' := ?_) #[true, true, true, true, true, true, true, true, true, true, true, true, true, false] rfl rfl (Yfb HT_.out Zi) (fun _ _ _ h => h) (Or.inl ⟨Zda, ?_⟩) ?_ ?_
   rotate_left
   ·exact Zsb
   rotate_left
   ·exact Ztb
   refine Ynp (i := 13) (N := none) #[true, true, true, true, true, true, true, true, true, true, true, true, true, true] rfl rfl (Yhg HT_.out Zi) Zw (fun K hK => ?_)
   refine Ygp (w1 := ?_) Zda rfl ?_ ?_
   rotate_left
   ·go_simp
    rfl
   refine hK.out _ _ ?_
   clear hK K
   refine Yoi (Yti HT_.out Zi) ?_
   try go_wp2
   go_roundg k1
   case measure => have := cC.out; omega
   case rel => exact ⟨(aMu), (wrap64 (aD + 1)), Zf, H', ⟨Zu⟩, ⟨by (with_reducible repeat (first | apply Kd.R_alloc | apply Kd.R_drewN | apply Kd.R_drew)); exact aBM.out⟩, ⟨by repeat (first | (with_reducible first | exact HB.out | apply Yd | apply Yb | apply Yc | refine Yg ?_ aGM.out) | exact HB.out)⟩⟩
def Yxc.f (k : Nat) (a0 : Y) : Option (Bool) := (Yv.f k a0 255).bind fun tP => (if tP.2 = 0 then ((Ygc.f k tP.1).bind fun aBR => (some (aBR.toList == a0.toList))) else (some false))
theorem Yxc.calls (k : Nat) (a0 : Y) (r : Bool) (w : World) (hE : EnvOk w) (h : Yxc.f k a0 = some r) :
  Calls Tryz.prog 115 #[.string a0] w fun e w' => e = .returned (.bool r) ∧ Below w.heap.size w w' := by
 have HE := Ya.mk hE
 clear hE
 have HB := Ya.mk (Below.refl w.heap.size w)
 have H : ((Yv.f k a0 255).bind fun tP => (if tP.2 = 0 then ((Ygc.f k tP.1).bind fun aBR => (some (aBR.toList == a0.toList))) else (some false))) = some r := h
 clear h
 obtain ⟨⟨aGX, wN⟩, dX, H⟩ := Kq H
 try dsimp -simprocs only at H
 have A2 := Ya.mk dX
 clear dX
 by_cases c3 : wN = 0
 rotate_left
 ·rw [if_neg c3] at H
  have bV : (wN == 0) = false := Kv c3
  have dY : (wN != 0) = true := Kw c3
  obtain rfl := Kr H
  go_enter Tryz.func115, Tryz.ntmps115
  go_wp2_with (first | ((with_reducible refine Yh (f := 59) rfl ?_); refine Yy (some 7) rfl rfl Tryz.func59 Zi rfl #[.string a0, .int .i64 255] rfl Zb ?_; (with_reducible refine (Yv.calls k a0 255 aGX wN _ ?z1 A2.out).mono ?_); (case z1 => exact Kh); rintro e w' ⟨rfl, ⟨nd, rfl⟩⟩; refine ⟨_, rfl, ?_⟩))
  go_ret
  exact ⟨Zk, Za⟩
 rw [if_pos c3] at H
 have bV : (wN == 0) = true := Kx c3
 have dY : (wN != 0) = false := Ku c3
 clear c3
 obtain ⟨aBR, xQ, H⟩ := Kq H
 try dsimp -simprocs only at H
 have A4 := Ya.mk xQ
 clear xQ
 obtain rfl := Kr H
 go_enter Tryz.func115, Tryz.ntmps115
 go_wp2_with (first | ((with_reducible refine Yh (f := 59) rfl ?_); refine Yy (some 7) rfl rfl Tryz.func59 Zi rfl #[.string a0, .int .i64 255] rfl Zb ?_; (with_reducible refine (Yv.calls k a0 255 aGX wN _ ?z1 A2.out).mono ?_); (case z1 => exact Kh); rintro e w' ⟨rfl, ⟨nd, rfl⟩⟩; refine ⟨_, rfl, ?_⟩) | (go_at_call 22; (with_reducible refine (Ygc.calls k aGX aBR _ ?z1 A4.out).mono ?_); (case z1 => exact Kh); rintro e w5 ⟨rfl, hb⟩; replace HB := Ya.mk (Ys Za hb); (try clear hb)))
 go_ret
 exact ⟨Zk, Za⟩
end Go.Proofs.YtihaeeldgimdiaaGreatDoor.X
