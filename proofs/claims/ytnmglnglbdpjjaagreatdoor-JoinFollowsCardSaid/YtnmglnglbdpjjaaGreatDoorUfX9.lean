import Derived.Test.YtnmglnglbdpjjaaGreatDoorUfX8
set_option linter.all false
namespace Go.Proofs.YtnmglnglbdpjjaaGreatDoor.X
open Go.RowKit Go.Yw.PrintWords Go.Yw.PrintLast Go.Yw.PrintMore
attribute [local go_sem] Yfe Ybe Yre Yue Yld Ykd Yee Yde
set_option maxHeartbeats 8000000
set_option maxRecDepth 100000
def Yqa.l0 : Nat → Y → Int → List Y → Int → Option (List Y)
 | 0, _, _, _, _ => none
 | k + 1, x0, x1, x5, x6 => if x6 < (x0.size : Int) then (if 0 ≤ x6 then (if (bt x0 x6) = x1 then (if x5.length < 8796093022208 then (Yqa.l0 k x0 x1 (x5 ++ [(⟨#[]⟩ : Y)]) (wrap64 (x6 + 1))) else (none)) else (if 0 ≤ (wrap64 ((x5.length : Int) - 1)) then (if (wrap64 ((x5.length : Int) - 1)) < (x5.length : Int) then (if x6 ≤ (wrap64 (x6 + 1)) then (if (wrap64 (x6 + 1)) ≤ (x0.size : Int) then (if (rdOf ByteArray.empty x5 (wrap64 ((x5.length : Int) - 1))).size + (x0.extract (x6 : Int).toNat ((wrap64 (x6 + 1)) : Int).toNat).size ≤ 9223372036854775807 then (Yqa.l0 k x0 x1 (x5.set ((wrap64 ((x5.length : Int) - 1)) : Int).toNat ((rdOf ByteArray.empty x5 (wrap64 ((x5.length : Int) - 1))) ++ (x0.extract (x6 : Int).toNat ((wrap64 (x6 + 1)) : Int).toNat))) (wrap64 (x6 + 1))) else (none)) else (none)) else (none)) else (none)) else (none))) else (none)) else (some x5)
def Yqa.f (k : Nat) (a0 : Y) (a1 : Int) : Option (List Y) := Yqa.l0 k a0 a1 (([(⟨#[]⟩ : Y)] : List Y)) 0
def Yqa.T7 : Bool × List (List Nat × List Nat) := (true, [([], []), ([], []), ([1], [1]), ([2], [2]), ([0, 3], [0, 3]), ([4], [4]), ([], []), ([], []), ([], []), ([8], [8]), ([6, 7, 9], [6, 7, 9]), ([5, 10], [5, 10]), ([0, 3, 0, 1, 2, 3, 4, 5, 6, 7, 8, 9, 10, 11], [0, 3]), ([12, 11, 0, 1, 2, 3, 4, 5, 6, 7, 8, 9, 10, 11], [11, 12])])
def Yqa.B7 : List Nat := [0, 0, 2, 6, 15, 31, 0, 0, 0, 256, 960, 2047, 4095, 8191]
theorem Yqa.tab7 : rtab .any (opsOf Tryz.f98 7) = Yqa.T7 := by kernel_rfl
theorem Yqa.bits7 : Yig Yqa.T7.2 Yqa.B7 = true := by kernel_rfl
theorem Yqa.calls (k : Nat) (a0 : Y) (a1 : Int) (r : List Y) (w : World) (hE : EnvOk w) (h : Yqa.f k a0 a1 = some r) :
  Calls Tryz.prog 98 #[.string a0, .int .u8 a1] w fun e w' => ∃ v0_ : Value, e = .returned (v0_) ∧ Kd.R Kd.string 9 w' w.heap.size (fun _ => True) v0_ r ∧ Below w.heap.size w w' := by
 have HE := Ya.mk hE
 clear hE
 have HB := Ya.mk (Below.refl w.heap.size w)
 have H : (Yqa.l0 k a0 a1 (([(⟨#[]⟩ : Y)] : List Y)) 0) = some r := h
 clear h
 obtain ⟨aJI, uC⟩ : ∃ y_ : List Y, y_ = (([(⟨#[]⟩ : Y)] : List Y)) := ⟨_, rfl⟩
 replace H : (Yqa.l0 k a0 a1 aJI 0) = some r := by first | (rw [uC]; with_reducible exact H) | (have dH := (Kfa _ _).symm.trans H; rw [uC]; with_reducible exact dH) | (have dH := (Kfa _ _).symm.trans H; with_reducible exact dH) | with_reducible exact H | (rw [uC]; exact H) | exact H
 have aEY := Ya.mk uC
 clear uC
 have H' := Ya.mk H
 clear H
 go_enter Tryz.func98, Tryz.ntmps98
 go_wp2_with (first | ((with_reducible refine Ybd (N := 7) rfl ?_); refine Kd.R_lit Kd.string _ 9 ?hg (N := 7) ?hd (xs := ([(⟨#[]⟩ : Y)] : List Y)) (inner := [.string (⟨#[]⟩ : Y)]) (ok := fun _ => True) (okp := fun _ => True) ?hr ?hp (fun _ hk => hk) trivial (Below.refl _ _) (Kw _) Zv ?_; (case hd => rfl); (case hg => rfl); (case hr => first | (go_simp; done) | (go_simp; rfl)); (case hp => exact (Reps.one (show Kd.M Kd.string _ _ _ (⟨#[]⟩ : Y) [.string (⟨#[]⟩ : Y)] from rfl) (Reps.none _ _))); intro aYj w3 ho4 hb hg_ hnew_; clear hg_ hnew_; (first | rw [← aEY.out] at ho4 | (simp only [Int.reduceToNat] at ho4; rw [← aEY.out] at ho4)); have aJK := Ya.mk (Kd.R_lower ho4 (Yka Za)); replace HB := Ya.mk (Yt Za hb); clear hb ho4))
 go_loopg [5, 6] k (fun kq v5 v6 w' => ∃ (bA : List Y) (aC : Int), v6 = .int .i64 aC ∧ Ya (Yqa.l0 kq a0 a1 bA aC = some r) ∧ Ya (kq ≤ k) ∧ Ya (Kd.R Kd.string 9 w' w.heap.size (fun _ => True) v5 bA) ∧ Ya (Below w.heap.size w w'))
 case atStart => exact ⟨(aJI), (0), Zf, H', ⟨Kw _⟩, ⟨by (with_reducible repeat (first | apply Kd.R_alloc | apply Kd.R_drewN | apply Kd.R_drew)); exact aJK.out⟩, ⟨Za⟩⟩
 case round =>
  clear H'
  try clear p2
  obtain ⟨bA, aC, rfl, HA, dB, HO_5, HB⟩ := hrel
  cases gk with
  | zero => exact absurd HA.out (by simp [Yqa.l0])
  | succ k1 =>
   have H := HA.out
   clear HA
   simp only [Yqa.l0] at H
   by_cases c5 : aC < (a0.size : Int)
   rotate_left
   ·rw [if_neg c5] at H
    have dI : decide (aC < (a0.size : Int)) = false := Ks c5
    clear c5
    obtain rfl := Kv H
    go_wp2
    go_ret
    exact ⟨_, Zl, Zoa, Za⟩
   rw [if_pos c5] at H
   have dI : decide (aC < (a0.size : Int)) = true := Kr c5
   clear c5
   by_cases c6 : 0 ≤ aC
   rotate_left
   ·rw [if_neg c6] at H
    exact absurd H Zv
   rw [if_pos c6] at H
   have dN : decide (0 ≤ aC) = true := Kr c6
   clear c6
   by_cases c8 : (bt a0 aC) = a1
   ·rw [if_pos c8] at H
    have gS : ((bt a0 aC) == a1) = true := Kba c8
    have jA : ((bt a0 aC) != a1) = false := Ky c8
    clear c8
    by_cases c9 : bA.length < 8796093022208
    rotate_left
    ·rw [if_neg c9] at H
     exact absurd H Zv
    rw [if_pos c9] at H
    have vB := Ya.mk c9
    clear c9
    obtain ⟨aJL, uD⟩ : ∃ y_ : List Y, y_ = (bA ++ [(⟨#[]⟩ : Y)]) := ⟨_, rfl⟩
    replace H : (Yqa.l0 k1 a0 a1 aJL (wrap64 (aC + 1))) = some r := by first | (rw [uD]; with_reducible exact H) | (have dH := (Kfa _ _).symm.trans H; rw [uD]; with_reducible exact dH) | (have dH := (Kfa _ _).symm.trans H; with_reducible exact dH) | with_reducible exact H | (rw [uD]; exact H) | exact H
    have aJM := Ya.mk uD
    clear uD
    have H' := Ya.mk H
    clear H
    have p7 : (0 ≤ (aC : Int)) = True := Kp
    have q7 : aC < (a0.size : Int) := Kq Zc
    have hx7 := Ybb a0 aC
    replace q7 := Kt q7
    go_wp2_with (first | ((with_reducible refine Yje (b := .append) (xs := #[.tmp 19, .tmp 20]) rfl ?_); at_builtin; refine Kd.R_append Kd.string (w0 := w) w.heap.size rfl (.tmp 19) (.tmp 20) 44 9 (.string ⟨#[]⟩) 16 rfl Tryz.underlying44 Yog rfl Zca Zk u5 bA (⟨#[]⟩ : Y) [.string (⟨#[]⟩ : Y)] (fun _ => True) (fun _ => False) rfl rfl ?aP (fun _ hk => hk.elim) ?aF ?aO ?aB ?aS ?aL ?_; (case aP => exact rfl); (case aB => exact Za); (case aF => exact (fun _ _ => trivial)); (case aO => exact Zoa); (case aS => exact Kg); (case aL => have := vB.out; omega); intro aYk pN ho hb hg hat; rw [← aJM.out] at ho; replace HB := Ya.mk (hb); have aJN := Ya.mk (ho); clear HO_5; clear ho hb hg hat))
    go_roundg k1
    case measure => have := dB.out; omega
    case rel => exact ⟨(aJL), (wrap64 (aC + 1)), Zf, H', ⟨Zba⟩, ⟨by (with_reducible repeat (first | apply Kd.R_alloc | apply Kd.R_drewN | apply Kd.R_drew)); exact aJN.out⟩, ⟨Za⟩⟩
   rw [if_neg c8] at H
   have gS : ((bt a0 aC) == a1) = false := Kz c8
   have jA : ((bt a0 aC) != a1) = true := Kaa c8
   obtain ⟨ji11, lQ⟩ : ∃ j_ : Int, (wrap64 ((bA.length : Int) - 1)) = j_ := ⟨_, rfl⟩
   replace H : (if 0 ≤ (ji11) then (if (ji11) < (bA.length : Int) then (if aC ≤ (wrap64 (aC + 1)) then (if (wrap64 (aC + 1)) ≤ (a0.size : Int) then (if (rdOf ByteArray.empty bA (ji11)).size + (a0.extract (aC : Int).toNat ((wrap64 (aC + 1)) : Int).toNat).size ≤ 9223372036854775807 then (Yqa.l0 k1 a0 a1 (bA.set ((ji11) : Int).toNat ((rdOf ByteArray.empty bA (ji11)) ++ (a0.extract (aC : Int).toNat ((wrap64 (aC + 1)) : Int).toNat))) (wrap64 (aC + 1))) else (none)) else (none)) else (none)) else (none)) else (none)) = some r := by first | (rw [lQ] at H; exact H) | (simp only [lQ] at H ⊢; exact H)
   have hji11w : (IntKind.i64.wrap ((bA.length : Int) - 1)) = ji11 := (Yaa _).trans lQ
   by_cases dD : 0 ≤ (ji11)
   rotate_left
   ·rw [if_neg dD] at H
    exact absurd H Zv
   rw [if_pos dD] at H
   have dS : decide (0 ≤ (ji11)) = true := Kr dD
   clear dD
   by_cases eM : (ji11) < (bA.length : Int)
   rotate_left
   ·rw [if_neg eM] at H
    exact absurd H Zv
   rw [if_pos eM] at H
   have hG : decide ((ji11) < (bA.length : Int)) = true := Kr eM
   clear eM
   have iE := Kt (Kq Zc : 0 ≤ aC)
   by_cases dG : aC ≤ (wrap64 (aC + 1))
   rotate_left
   ·rw [if_neg dG] at H
    exact absurd H Zv
   rw [if_pos dG] at H
   have eT := Kt dG
   have pR : decide (aC ≤ (wrap64 (aC + 1))) = true := Kr dG
   by_cases eO : (wrap64 (aC + 1)) ≤ (a0.size : Int)
   rotate_left
   ·rw [if_neg eO] at H
    exact absurd H Zv
   rw [if_pos eO] at H
   have hF := Kt eO
   have kF : decide ((wrap64 (aC + 1)) ≤ (a0.size : Int)) = true := Kr eO
   by_cases eG : (rdOf ByteArray.empty bA (ji11)).size + (a0.extract (aC : Int).toNat ((wrap64 (aC + 1)) : Int).toNat).size ≤ 9223372036854775807
   rotate_left
   ·rw [if_neg eG] at H
    exact absurd H Zv
   rw [if_pos eG] at H
   have jO := Kt eG
   have lN : decide ((rdOf ByteArray.empty bA (ji11)).size + (a0.extract (aC : Int).toNat ((wrap64 (aC + 1)) : Int).toNat).size ≤ 9223372036854775807) = true := Kr eG
   try have aJe : (9223372036854775807 < (rdOf ByteArray.empty bA (ji11)).size + (a0.extract (aC : Int).toNat ((wrap64 (aC + 1)) : Int).toNat).size) = False := eq_false (Nat.not_lt.2 eG)
   try have aJf : (9223372036854775807 < (rdOf ByteArray.empty bA (ji11)).size + (((wrap64 (aC + 1)) : Int).toNat - (aC : Int).toNat)) = False := eq_false (by have h9_ := eG; rw [ByteArray.size_extract] at h9_; omega)
   obtain ⟨aJO, uE⟩ : ∃ y_ : List Y, y_ = (bA.set ((ji11) : Int).toNat ((rdOf ByteArray.empty bA (ji11)) ++ (a0.extract (aC : Int).toNat ((wrap64 (aC + 1)) : Int).toNat))) := ⟨_, rfl⟩
   replace H : (Yqa.l0 k1 a0 a1 aJO (wrap64 (aC + 1))) = some r := by first | (rw [uE]; with_reducible exact H) | (have dH := (Kfa _ _).symm.trans H; rw [uE]; with_reducible exact dH) | (have dH := (Kfa _ _).symm.trans H; with_reducible exact dH) | with_reducible exact H | (rw [uE]; exact H) | exact H
   have aJP := Ya.mk uE
   clear uE
   have H' := Ya.mk H
   clear H
   have p7 : (0 ≤ (aC : Int)) = True := Kp
   have q7 : aC < (a0.size : Int) := Kq Zc
   have hx7 := Ybb a0 aC
   replace q7 := Kt q7
   try go_wp2
   have aH := Ya.mk (Kd.R_drew HO_5.out)
   have aR := Ya.mk (Yc HB.out)
   clear HO_5
   clear HB
   have HO_5 := aH
   have HB := aR
   clear aH aR
   obtain ⟨aVN, aVO, aBG⟩ := Kd.R_slice HO_5.out
   (first | subst aBG | (injection aBG with f1_ f2_ f3_; have f4_ := f1_.symm; have f5_ := f3_.symm; clear f1_ f2_ f3_; subst f4_; subst f5_))
   have aGh : 0 ≤ ((ji11) : Int) := Kq Zc
   have aGi : (ji11) < (bA.length : Int) := Kq Zc
   obtain ⟨aXn, aWa, rN⟩ := Kd.at_string (Kd.R_reads' HO_5.out).2.2 (ji11) aGh aGi
   cases aWa
   replace aGh := Kt aGh
   replace aGi := Kt aGi
   have p18 : 0 ≤ ((ji11) : Int) := Kq Zc
   have q18 : ((ji11) : Int) < ((bA.length : Int) : Int) := Kq Zc
   obtain ⟨aFS, aVQ, aBH, aBI, aFT, aVR, aBJ⟩ := Kd.R_form HO_5.out Zk
   (first | cases aBH | (injection aBH with ea_ en_ ec_; (first | subst ea_ | (injection ea_ with ea_; subst ea_)); subst ec_; clear en_))
   have aFU := Ya.mk aBI
   have aFV := Ya.mk aBJ
   clear aBI aFT aBJ
   (first | simp only [add_plain] at rN | skip)
   obtain ⟨vG, vH⟩ := Kd.R_celln (⟨#[]⟩ : Y) HO_5.out ((ji11) : Int) p18 q18
   replace p18 := Kt p18
   replace q18 := Kt q18
   have vI := Kd.R_putn HO_5.out ((ji11) : Int) ((rdOf ByteArray.empty bA (ji11)) ++ (a0.extract (aC : Int).toNat ((wrap64 (aC + 1)) : Int).toNat))
   rw [← aJP.out] at vI
   have aBK := Ya.mk vI
   clear vI
   refine Ykg (n := 14) (S := fun w' => w'.cell? ⟨aFS, ((ji11)).toNat, none⟩ = some (.string (rdOf ByteArray.empty bA (ji11)))) (ds := [13]) #[false, false, false, false, false, false, false, false, false, false, false, false, false, false] Zi rfl rfl (rN) (fun hHeld => ?_); refine Ylf Yqa.tab7 Yqa.bits7 (fun HT_ HW_ => ?_)
   generalize wr.drew = w19 at HO_5 HB aFV aBK vH vG rN hHeld ⊢
   refine Yya (i := 0) (N := some 22) (v := ?_) (a' := ?_) #[true, false, false, false, false, false, false, false, false, false, false, false, false, false] rfl rfl (Ysa HT_.out Zi) (fun _ _ _ h => h) (Or.inl ⟨Zga, ?_⟩) ?_ ?_
   rotate_left
   ·exact Zyb
   rotate_left
   ·exact Zzb
   refine Yya (i := 1) (N := some 23) (v := ?_) (a' := ?_) #[true, true, false, false, false, false, false, false, false, false, false, false, false, false] rfl rfl (Ysa HT_.out Zi) (fun _ _ _ h => h) (Or.inl ⟨Zga, ?_⟩) ?_ ?_
   rotate_left
   ·exact Zyb
   rotate_left
   ·exact Zzb
   refine Yya (i := 2) (N := some 24) (v := ?_) (a' := ?_) #[true, true, true, false, false, false, false, false, false, false, false, false, false, false] rfl rfl (Ysa HT_.out Zi) (fun _ _ _ h => h) (Or.inl ⟨Zga, ?_⟩) ?_ ?_
   rotate_left
   ·exact Zyb
   rotate_left
   ·exact Zzb
   refine Yya (i := 3) (N := some 25) (v := ?_) (a' := ?_) #[true, true, true, true, false, false, false, false, false, false, false, false, false, false] rfl rfl (Ysa HT_.out Zi) (fun _ _ _ h => h) (Or.inl ⟨Zga, ?_⟩) ?_ ?_
   rotate_left
   ·exact Zyb
   rotate_left
   ·exact Zzb
   refine Yya (i := 4) (N := some 26) (v := ?_) (a' := ?_) #[true, true, true, true, true, false, false, false, false, false, false, false, false, false] rfl rfl (Ysa HT_.out Zi) (fun _ _ _ h => h) (Or.inl ⟨Zga, ?_⟩) ?_ ?_
   rotate_left
   ·exact Zyb
   rotate_left
   ·exact Zzb
   refine Yya (i := 6) (N := some 28) (v := ?_) (a' := ?_) #[true, true, true, true, true, false, true, false, false, false, false, false, false, false] rfl rfl (Ysa HT_.out Zi) (fun _ _ _ h => h) (Or.inl ⟨Zga, ?_⟩) ?_ ?_
   rotate_left
   ·exact Zyb
   rotate_left
   ·exact Zzb
   refine Yya (i := 7) (N := some 29) (v := ?_) (a' := ?_) #[true, true, true, true, true, false, true, true, false, false, false, false, false, false] rfl rfl (Ysa HT_.out Zi) (fun _ _ _ h => h) (Or.inl ⟨Zga, ?_⟩) ?_ ?_
   rotate_left
   ·exact Zyb
   rotate_left
   ·exact Zzb
   refine Yya (i := 8) (N := some 30) (v := ?_) (a' := ?_) #[true, true, true, true, true, false, true, true, true, false, false, false, false, false] rfl rfl (Ysa HT_.out Zi) (fun _ _ _ h => h) (Or.inl ⟨Zga, ?_⟩) ?_ ?_
   rotate_left
   ·exact Zyb
   rotate_left
   ·exact Zzb
   refine Yya (i := 9) (N := some 31) (v := ?_) (a' := ?_) #[true, true, true, true, true, false, true, true, true, true, false, false, false, false] rfl rfl (Ysa HT_.out Zi) (fun _ _ _ h => h) (Or.inl ⟨Zga, ?_⟩) ?_ ?_
   rotate_left
   ·exact Zyb
   rotate_left
   ·exact Zzb
   refine Yya (i := 10) (N := some 32) (v := ?_) (a' := ?_) #[true, true, true, true, true, false, true, true, true, true, true, false, false, false] rfl rfl (Ysa HT_.out Zi) (fun _ _ _ h => h) (Or.inl ⟨Zga, ?_⟩) ?_ ?_
   rotate_left
   ·exact Zyb
   rotate_left
   ·exact Zzb
   refine Ynf (i := 5) (N := some 27) (v := ?_) (a' := ?_) #[true, true, true, true, true, true, true, true, true, true, true, false, false, false] rfl rfl (Yae HT_.out HW_.out Zi) (fun _ _ _ h => h) (Or.inl ⟨Zga, ?_⟩) hHeld ?_ ?_
   rotate_left
   ·intro w' s0
    go_simp
    with_reducible rfl
   rotate_left
   ·exact Zzb
   refine Yya (i := 11) (N := some 33) (v := ?_) (a' := ?_) #[true, true, true, true, true, true, true, true, true, true, true, true, false, false] rfl rfl (Ysa HT_.out Zi) (fun _ _ _ h => h) (Or.inl ⟨Zga, ?_⟩) ?_ ?_
   rotate_left
   ·exact Zyb
   rotate_left
   ·exact Zzb
   refine Yya (i := 12) (N := some 34) (v := ?_) (a' := ?_) #[true, true, true, true, true, true, true, true, true, true, true, true, true, false] rfl rfl (Ysa HT_.out Zi) (fun _ _ _ h => h) (Or.inl ⟨Zga, ?_⟩) ?_ ?_
   rotate_left
   ·exact Zyb
   rotate_left
   ·exact Zzb
   refine Ymn (i := 13) (N := none) #[true, true, true, true, true, true, true, true, true, true, true, true, true, true] rfl rfl (Yne HT_.out Zi) Zca (fun K hK => ?_)
   refine Ysi (w1 := ?_) Zga rfl ?_ ?_
   rotate_left
   ·go_simp
    rfl
   refine hK.out _ _ ?_
   clear hK K
   refine Yoh (Yvg HT_.out Zi) ?_
   try go_wp2
   go_roundg k1
   case measure => have := dB.out; omega
   case rel => exact ⟨(aJO), (wrap64 (aC + 1)), Zf, H', ⟨Zba⟩, ⟨by (with_reducible repeat (first | apply Kd.R_alloc | apply Kd.R_drewN | apply Kd.R_drew)); exact aBK.out⟩, ⟨by repeat (first | (with_reducible first | exact HB.out | apply Yd | apply Yb | apply Yc | refine Yg ?_ aFU.out) | exact HB.out)⟩⟩
def Yhb.l0 : Nat → Int → Y → Option (Y)
 | 0, _, _ => none
 | k + 1, x0, x3 => (some (([(IntKind.u64.wrap (48 + (Int.tmod x0 10))) % 256] : List Int) : List Int)).bind fun oW => (if (strOfNums oW).size + x3.size ≤ 9223372036854775807 then (if (IntKind.u64.wrap (Int.tdiv x0 10)) = 0 then (some ((strOfNums oW) ++ x3)) else (Yhb.l0 k (IntKind.u64.wrap (Int.tdiv x0 10)) ((strOfNums oW) ++ x3))) else (none))
def Yhb.f (k : Nat) (a0 : Int) : Option (Y) := Yhb.l0 k a0 (⟨#[]⟩ : Y)
theorem Yhb.calls (k : Nat) (a0 : Int) (r : Y) (w : World) (hE : EnvOk w) (h : Yhb.f k a0 = some r) :
  Calls Tryz.prog 131 #[.int .u64 a0] w fun e w' => e = .returned (.string r) ∧ Below w.heap.size w w' := by
 have HE := Ya.mk hE
 clear hE
 have HB := Ya.mk (Below.refl w.heap.size w)
 have H : (Yhb.l0 k a0 (⟨#[]⟩ : Y)) = some r := h
 clear h
 have H' := Ya.mk H
 clear H
 go_enter Tryz.func131, Tryz.ntmps131
 go_wp2
 go_loopg [0, 3] k (fun kq v0 v3 w' => ∃ (aX : Int) (aD : Y), v0 = .int .u64 aX ∧ v3 = .string aD ∧ Ya (Yhb.l0 kq aX aD = some r) ∧ Ya (kq ≤ k) ∧ Ya (Below w.heap.size w w'))
 case atStart => exact ⟨(a0), ((⟨#[]⟩ : Y)), Zf, Zf, H', ⟨Kw _⟩, ⟨Za⟩⟩
 case round =>
  clear H'
  try clear c1
  obtain ⟨aX, aD, rfl, rfl, HA, dB, HB⟩ := hrel
  cases gk with
  | zero => exact absurd HA.out (by simp [Yhb.l0])
  | succ k1 =>
   have H := HA.out
   clear HA
   simp only [Yhb.l0] at H
   obtain ⟨oW, uF⟩ : ∃ y_ : List Int, y_ = (([(IntKind.u64.wrap (48 + (Int.tmod aX 10))) % 256] : List Int)) := ⟨_, rfl⟩
   replace H : (if (strOfNums oW).size + aD.size ≤ 9223372036854775807 then (if (IntKind.u64.wrap (Int.tdiv aX 10)) = 0 then (some ((strOfNums oW) ++ aD)) else (Yhb.l0 k1 (IntKind.u64.wrap (Int.tdiv aX 10)) ((strOfNums oW) ++ aD))) else (none)) = some r := by first | (rw [uF]; with_reducible exact H) | (have dH := (Kfa _ _).symm.trans H; rw [uF]; with_reducible exact dH) | (have dH := (Kfa _ _).symm.trans H; with_reducible exact dH) | with_reducible exact H | (rw [uF]; exact H) | exact H
   have zE := Ya.mk uF
   clear uF
   by_cases c2 : (strOfNums oW).size + aD.size ≤ 9223372036854775807
   rotate_left
   ·rw [if_neg c2] at H
    exact absurd H Zv
   rw [if_pos c2] at H
   have eS := Kt c2
   have kC : decide ((strOfNums oW).size + aD.size ≤ 9223372036854775807) = true := Kr c2
   try have aFw : (9223372036854775807 < (strOfNums oW).size + aD.size) = False := eq_false (Nat.not_lt.2 c2)
   by_cases c3 : (IntKind.u64.wrap (Int.tdiv aX 10)) = 0
   ·rw [if_pos c3] at H
    have cC : ((IntKind.u64.wrap (Int.tdiv aX 10)) == 0) = true := Kba c3
    have fX : ((IntKind.u64.wrap (Int.tdiv aX 10)) != 0) = false := Ky c3
    clear c3
    obtain rfl := Kv H
    go_wp2_with (first | ((with_reducible refine Ybd (N := 8) rfl ?_); refine Kd.R_lit (Kd.int .u8) _ 5 ?hg (N := 8) ?hd (xs := ([(IntKind.u64.wrap (48 + (Int.tmod aX 10))) % 256] : List Int)) (inner := [.int .u8 ((IntKind.u64.wrap (48 + (Int.tmod aX 10))) % 256)]) (ok := fun _ => True) (okp := fun _ => True) ?hr ?hp (fun _ hk => hk) trivial (Below.refl _ _) (Kw _) Zv ?_; (case hd => rfl); (case hg => rfl); (case hr => first | (go_simp; done) | (go_simp; rfl)); (case hp => exact (Reps.one (show Kd.M (Kd.int .u8) _ _ _ ((IntKind.u64.wrap (48 + (Int.tmod aX 10))) % 256) [.int .u8 ((IntKind.u64.wrap (48 + (Int.tmod aX 10))) % 256)] from rfl) (Reps.none _ _))); intro aWb w4 ho5 hb hg_ hnew_; clear hg_ hnew_; (first | rw [← zE.out] at ho5 | (simp only [Int.reduceToNat] at ho5; rw [← zE.out] at ho5)); have aBR := Ya.mk (Kd.R_lower ho5 (Yka Za)); replace HB := Ya.mk (Yt Za hb); clear hb ho5; have aYl := Ygh (P := Tryz.prog) Tryz.underlying62 Tryz.underlying5 Tryz.underlying9 (Kd.own_of_R aBR.out)))
    go_ret
    exact ⟨Zl, Za⟩
   rw [if_neg c3] at H
   have cC : ((IntKind.u64.wrap (Int.tdiv aX 10)) == 0) = false := Kz c3
   have fX : ((IntKind.u64.wrap (Int.tdiv aX 10)) != 0) = true := Kaa c3
   have H' := Ya.mk H
   clear H
   go_wp2_with (first | ((with_reducible refine Ybd (N := 8) rfl ?_); refine Kd.R_lit (Kd.int .u8) _ 5 ?hg (N := 8) ?hd (xs := ([(IntKind.u64.wrap (48 + (Int.tmod aX 10))) % 256] : List Int)) (inner := [.int .u8 ((IntKind.u64.wrap (48 + (Int.tmod aX 10))) % 256)]) (ok := fun _ => True) (okp := fun _ => True) ?hr ?hp (fun _ hk => hk) trivial (Below.refl _ _) (Kw _) Zv ?_; (case hd => rfl); (case hg => rfl); (case hr => first | (go_simp; done) | (go_simp; rfl)); (case hp => exact (Reps.one (show Kd.M (Kd.int .u8) _ _ _ ((IntKind.u64.wrap (48 + (Int.tmod aX 10))) % 256) [.int .u8 ((IntKind.u64.wrap (48 + (Int.tmod aX 10))) % 256)] from rfl) (Reps.none _ _))); intro aWb w7 ho8 hb hg_ hnew_; clear hg_ hnew_; (first | rw [← zE.out] at ho8 | (simp only [Int.reduceToNat] at ho8; rw [← zE.out] at ho8)); have aBR := Ya.mk (Kd.R_lower ho8 (Yka Za)); replace HB := Ya.mk (Yt Za hb); clear hb ho8; have aYm := Ygh (P := Tryz.prog) Tryz.underlying62 Tryz.underlying5 Tryz.underlying9 (Kd.own_of_R aBR.out)))
   go_roundg k1
   case measure => have := dB.out; omega
   case rel => exact ⟨(IntKind.u64.wrap (Int.tdiv aX 10)), ((strOfNums oW) ++ aD), Zf, Zf, H', ⟨Zba⟩, ⟨Za⟩⟩
mutual
def Ycb.j0 : Nat → Int → Y → Y → Option (Y)
 | 0, _, _, _ => none
 | k + 1, x1, x5, x6 => Ycb.l0 k x1 x5 x6
def Ycb.l0 : Nat → Int → Y → Y → Option (Y)
 | 0, _, _, _ => none
 | k + 1, x1, x5, x6 => if (x6.size : Int) < (mn x1 20) then (if 1 + x6.size ≤ 9223372036854775807 then (Ycb.l0 k x1 x5 ((⟨#[48]⟩ : Y) ++ x6)) else (none)) else (if x5.size + x6.size ≤ 9223372036854775807 then (some (x5 ++ x6)) else (none))
end
def Ycb.f (k : Nat) (a0 a1 : Int) : Option (Y) := if a0 < 0 then ((Yhb.f k (IntKind.u64.wrap ((IntKind.u64.wrap (wrap64 (-(wrap64 (a0 + 1))))) + 1))).bind fun zX => (Ycb.j0 k a1 (⟨#[45]⟩ : Y) zX)) else ((Yhb.f k (IntKind.u64.wrap (a0))).bind fun zY => (Ycb.j0 k a1 (⟨#[]⟩ : Y) zY))
theorem Ycb.calls (k : Nat) (a0 a1 : Int) (r : Y) (w : World) (hE : EnvOk w) (h : Ycb.f k a0 a1 = some r) :
  Calls Tryz.prog 106 #[.int .i64 a0, .int .i64 a1] w fun e w' => e = .returned (.string r) ∧ Below w.heap.size w w' := by
 have HE := Ya.mk hE
 clear hE
 have HB := Ya.mk (Below.refl w.heap.size w)
 have H : (if a0 < 0 then ((Yhb.f k (IntKind.u64.wrap ((IntKind.u64.wrap (wrap64 (-(wrap64 (a0 + 1))))) + 1))).bind fun zX => (Ycb.j0 k a1 (⟨#[45]⟩ : Y) zX)) else ((Yhb.f k (IntKind.u64.wrap (a0))).bind fun zY => (Ycb.j0 k a1 (⟨#[]⟩ : Y) zY))) = some r := h
 clear h
 have qN := Ya.mk H
 clear H
 go_enter Tryz.func106, Tryz.ntmps106
 go_upto_if 8 with (fail)
 go_cut [5, 6] (fun v5 v6 wc => ∃ (kq : Nat) (dO : Y) (cG : Y), v5 = .string dO ∧ v6 = .string cG ∧ Ya (Ycb.j0 kq a1 dO cG = some r) ∧ Ya (kq ≤ k) ∧ Ya (Below w.heap.size w wc))
 case first =>
  have H := qN.out
  clear qN
  by_cases c4 : a0 < 0
  rotate_left
  ·rw [if_neg c4] at H
   have bX : decide (a0 < 0) = false := Ks c4
   clear c4
   (first | rw [bX] | (simp only [Yaa, Yda]; rw [bX]) | skip)
   obtain ⟨zY, oA, H⟩ := Ku H
   try dsimp -simprocs only at H
   have A7 := Ya.mk oA
   clear oA
   have H' := Ya.mk H
   clear H
   go_wp2_with (first | ((with_reducible refine Yh (f := 131) rfl ?_); refine Yca (some 17) rfl rfl Tryz.func131 Zi rfl #[.int .u64 (IntKind.u64.wrap (a0))] rfl Zb ?_; (with_reducible refine (Yhb.calls k (IntKind.u64.wrap (a0)) zY _ ?z1 A7.out).mono ?_); (case z1 => exact Kh); rintro e w8 ⟨rfl, hb⟩; refine ⟨_, rfl, ?_⟩; replace HB := Ya.mk (Yt Za hb); (try clear hb)))
   go_meet
   case rel => exact ⟨_, ((⟨#[]⟩ : Y)), (zY), Zf, Zf, H', ⟨Zla⟩, ⟨Za⟩⟩
  rw [if_pos c4] at H
  have bX : decide (a0 < 0) = true := Kr c4
  clear c4
  (first | rw [bX] | (simp only [Yaa, Yda]; rw [bX]) | skip)
  obtain ⟨zX, tH, H⟩ := Ku H
  try dsimp -simprocs only at H
  have A5 := Ya.mk tH
  clear tH
  have H' := Ya.mk H
  clear H
  go_wp2_with (first | ((with_reducible refine Yh (f := 131) rfl ?_); refine Yca (some 14) rfl rfl Tryz.func131 Zi rfl #[.int .u64 (IntKind.u64.wrap ((IntKind.u64.wrap (wrap64 (-(wrap64 (a0 + 1))))) + 1))] rfl Zb ?_; (with_reducible refine (Yhb.calls k (IntKind.u64.wrap ((IntKind.u64.wrap (wrap64 (-(wrap64 (a0 + 1))))) + 1)) zX _ ?z1 A5.out).mono ?_); (case z1 => exact Kh); rintro e w6 ⟨rfl, hb⟩; refine ⟨_, rfl, ?_⟩; replace HB := Ya.mk (Yt Za hb); (try clear hb)))
  go_meet
  case rel => exact ⟨_, ((⟨#[45]⟩ : Y)), (zX), Zf, Zf, H', ⟨Zla⟩, ⟨Za⟩⟩
 case rest =>
  clear qN
  obtain ⟨kq, dO, cG, rfl, rfl, HA, pL, HB⟩ := hcut
  cases kq with
  | zero => exact absurd HA.out (by simp [Ycb.j0])
  | succ nG =>
   have H := HA.out
   clear HA
   simp only [Ycb.j0] at H
   have H' := Ya.mk H
   clear H
   go_wp2
   go_loopg [6] nG (fun kq v6 w' => ∃ (cG : Y), v6 = .string cG ∧ Ya (Ycb.l0 kq a1 dO cG = some r) ∧ Ya (kq ≤ nG) ∧ Ya (Below w.heap.size w w'))
   case atStart => exact ⟨(cG), Zf, H', ⟨Kw _⟩, ⟨Za⟩⟩
   case round =>
    clear H'
    try clear c1
    try clear p2
    try clear c4
    try clear bX
    try clear p6
    try clear p2
    try clear p6
    obtain ⟨cG, rfl, HA, jX, HB⟩ := hrel
    cases gk with
    | zero => exact absurd HA.out (by simp [Ycb.l0])
    | succ k2 =>
     have H := HA.out
     clear HA
     simp only [Ycb.l0] at H
     obtain ⟨ji9, oZ⟩ : ∃ j_ : Int, (mn a1 20) = j_ := ⟨_, rfl⟩
     replace H : (if (cG.size : Int) < (ji9) then (if 1 + cG.size ≤ 9223372036854775807 then (Ycb.l0 k2 a1 dO ((⟨#[48]⟩ : Y) ++ cG)) else (none)) else (if dO.size + cG.size ≤ 9223372036854775807 then (some (dO ++ cG)) else (none))) = some r := by first | (rw [oZ] at H; exact H) | (simp only [oZ] at H ⊢; exact H)
     have aHH : (if 20 < a1 then 20 else a1) = ji9 := oZ
     by_cases dP : (cG.size : Int) < (ji9)
     rotate_left
     ·rw [if_neg dP] at H
      have hD : decide ((cG.size : Int) < (ji9)) = false := Ks dP
      clear dP
      by_cases dD : dO.size + cG.size ≤ 9223372036854775807
      rotate_left
      ·rw [if_neg dD] at H
       exact absurd H Zv
      rw [if_pos dD] at H
      have dS := Kt dD
      have oG : decide (dO.size + cG.size ≤ 9223372036854775807) = true := Kr dD
      try have aXo : (9223372036854775807 < dO.size + cG.size) = False := eq_false (Nat.not_lt.2 dD)
      obtain rfl := Kv H
      go_wp2
      go_ret
      exact ⟨by first | rfl | (simp [Yk, Yl] <;> rfl) | (simp only [← oZ]; first | rfl | (simp [Yk, Yl] <;> rfl)) | (simp [*, Yk, Yl] <;> rfl), Za⟩
     rw [if_pos dP] at H
     have hD : decide ((cG.size : Int) < (ji9)) = true := Kr dP
     clear dP
     by_cases c11 : 1 + cG.size ≤ 9223372036854775807
     rotate_left
     ·rw [if_neg c11] at H
      exact absurd H Zv
     rw [if_pos c11] at H
     have gT := Kt c11
     have pU : decide (1 + cG.size ≤ 9223372036854775807) = true := Kr c11
     try have aIS : (9223372036854775807 < 1 + cG.size) = False := eq_false (Nat.not_lt.2 c11)
     have H' := Ya.mk H
     clear H
     go_wp2
     go_roundg k2
     case measure => have := pL.out; have := jX.out; omega
     case rel => exact ⟨((⟨#[48]⟩ : Y) ++ cG), Zf, H', ⟨Zva⟩, ⟨Za⟩⟩
def Ytc.f (k : Nat) (a0 : Int) : Option (Y) := (Ycb.f k a0 1).bind fun aBS => (some aBS)
theorem Ytc.calls (k : Nat) (a0 : Int) (r : Y) (w : World) (hE : EnvOk w) (h : Ytc.f k a0 = some r) :
  Calls Tryz.prog 67 #[.int .i64 a0] w fun e w' => e = .returned (.string r) ∧ Below w.heap.size w w' := by
 have HE := Ya.mk hE
 clear hE
 have HB := Ya.mk (Below.refl w.heap.size w)
 have H : ((Ycb.f k a0 1).bind fun aBS => (some aBS)) = some r := h
 clear h
 obtain ⟨aBS, dW, H⟩ := Ku H
 try dsimp -simprocs only at H
 have A2 := Ya.mk dW
 clear dW
 obtain rfl := Kv H
 go_enter Tryz.func67, Tryz.ntmps67
 go_wp2_with (first | ((with_reducible refine Yh (f := 106) rfl ?_); refine Yca (some 4) rfl rfl Tryz.func106 Zi rfl #[.int .i64 a0, .int .i64 1] rfl Zb ?_; (with_reducible refine (Ycb.calls k a0 1 aBS _ ?z1 A2.out).mono ?_); (case z1 => exact Kh); rintro e w3 ⟨rfl, hb⟩; refine ⟨_, rfl, ?_⟩; replace HB := Ya.mk (Yt Za hb); (try clear hb)))
 go_ret
 exact ⟨Zl, Za⟩
def Ypd.f (k : Nat) (a0 : Y) : Option (Bool) := (Yz.f k a0 255).bind fun uG => (if uG.2 = 0 then ((Ytc.f k uG.1).bind fun aBT => (some (aBT.toList == a0.toList))) else (some false))
theorem Ypd.calls (k : Nat) (a0 : Y) (r : Bool) (w : World) (hE : EnvOk w) (h : Ypd.f k a0 = some r) :
  Calls Tryz.prog 99 #[.string a0] w fun e w' => e = .returned (.bool r) ∧ Below w.heap.size w w' := by
 have HE := Ya.mk hE
 clear hE
 have HB := Ya.mk (Below.refl w.heap.size w)
 have H : ((Yz.f k a0 255).bind fun uG => (if uG.2 = 0 then ((Ytc.f k uG.1).bind fun aBT => (some (aBT.toList == a0.toList))) else (some false))) = some r := h
 clear h
 obtain ⟨⟨aGj, vK⟩, dW, H⟩ := Ku H
 try dsimp -simprocs only at H
 have A2 := Ya.mk dW
 clear dW
 by_cases c3 : vK = 0
 rotate_left
 ·rw [if_neg c3] at H
  have cC : (vK == 0) = false := Kz c3
  have fX : (vK != 0) = true := Kaa c3
  obtain rfl := Kv H
  go_enter Tryz.func99, Tryz.ntmps99
  go_wp2_with (first | ((with_reducible refine Yh (f := 89) rfl ?_); refine Yca (some 7) rfl rfl Tryz.func89 Zi rfl #[.string a0, .int .i64 255] rfl Zb ?_; (with_reducible refine (Yz.calls k a0 255 aGj vK _ ?z1 A2.out).mono ?_); (case z1 => exact Kh); rintro e w' ⟨rfl, ⟨nd, rfl⟩⟩; refine ⟨_, rfl, ?_⟩))
  go_ret
  exact ⟨Zl, Za⟩
 rw [if_pos c3] at H
 have cC : (vK == 0) = true := Kba c3
 have fX : (vK != 0) = false := Ky c3
 clear c3
 obtain ⟨aBT, sY, H⟩ := Ku H
 try dsimp -simprocs only at H
 have A4 := Ya.mk sY
 clear sY
 obtain rfl := Kv H
 go_enter Tryz.func99, Tryz.ntmps99
 go_wp2_with (first | ((with_reducible refine Yh (f := 89) rfl ?_); refine Yca (some 7) rfl rfl Tryz.func89 Zi rfl #[.string a0, .int .i64 255] rfl Zb ?_; (with_reducible refine (Yz.calls k a0 255 aGj vK _ ?z1 A2.out).mono ?_); (case z1 => exact Kh); rintro e w' ⟨rfl, ⟨nd, rfl⟩⟩; refine ⟨_, rfl, ?_⟩) | (go_at_call 67; (with_reducible refine (Ytc.calls k aGj aBT _ ?z1 A4.out).mono ?_); (case z1 => exact Kh); rintro e w5 ⟨rfl, hb⟩; replace HB := Ya.mk (Yt Za hb); (try clear hb)))
 go_ret
 exact ⟨Zl, Za⟩
end Go.Proofs.YtnmglnglbdpjjaaGreatDoor.X
