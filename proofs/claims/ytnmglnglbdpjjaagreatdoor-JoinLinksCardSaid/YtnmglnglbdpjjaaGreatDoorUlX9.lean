/- Printed by a program of ours: functions as plain Lean, and what a call of each does. -/
import Derived.Test.YtnmglnglbdpjjaaGreatDoorUlWords
import Derived.Test.YtnmglnglbdpjjaaGreatDoorUlX0
import Derived.Test.YtnmglnglbdpjjaaGreatDoorUlX8
namespace Go.Proofs.YtnmglnglbdpjjaaGreatDoor.X
open Go.RowKit Go.Yw.PrintWords Go.Yw.PrintLast Go.Yw.PrintMore
attribute [local go_sem] Yxd Yae Yoe Yqe Yld Yjd Yyd Yzd
set_option linter.unusedVariables false
set_option linter.unusedSimpArgs false
set_option maxHeartbeats 8000000
set_option maxRecDepth 100000
def Yoa.l0 : Nat → ByteArray → Int → List ByteArray → Int → Option (List ByteArray)
 | 0, _, _, _, _ => none
 | k + 1, x0, x1, x5, x6 => if x6 < (x0.size : Int) then (if 0 ≤ x6 then (if (bt x0 x6) = x1 then (if x5.length < 8796093022208 then (Yoa.l0 k x0 x1 (x5 ++ [(⟨#[]⟩ : ByteArray)]) (wrap64 (x6 + 1))) else (none)) else (if 0 ≤ (wrap64 ((x5.length : Int) - 1)) then (if (wrap64 ((x5.length : Int) - 1)) < (x5.length : Int) then (if x6 ≤ (wrap64 (x6 + 1)) then (if (wrap64 (x6 + 1)) ≤ (x0.size : Int) then (if (rdOf ByteArray.empty x5 (wrap64 ((x5.length : Int) - 1))).size + (x0.extract (x6 : Int).toNat ((wrap64 (x6 + 1)) : Int).toNat).size ≤ 9223372036854775807 then (Yoa.l0 k x0 x1 (x5.set ((wrap64 ((x5.length : Int) - 1)) : Int).toNat ((rdOf ByteArray.empty x5 (wrap64 ((x5.length : Int) - 1))) ++ (x0.extract (x6 : Int).toNat ((wrap64 (x6 + 1)) : Int).toNat))) (wrap64 (x6 + 1))) else (none)) else (none)) else (none)) else (none)) else (none))) else (none)) else (some x5)
def Yoa.f (k : Nat) (a0 : ByteArray) (a1 : Int) : Option (List ByteArray) := Yoa.l0 k a0 a1 (([(⟨#[]⟩ : ByteArray)] : List ByteArray)) 0
def Yoa.T7 : Bool × List (List Nat × List Nat) := (true, [([], []), ([], []), ([1], [1]), ([2], [2]), ([0, 3], [0, 3]), ([4], [4]), ([], []), ([], []), ([], []), ([8], [8]), ([6, 7, 9], [6, 7, 9]), ([5, 10], [5, 10]), ([0, 3, 0, 1, 2, 3, 4, 5, 6, 7, 8, 9, 10, 11], [0, 3]), ([12, 11, 0, 1, 2, 3, 4, 5, 6, 7, 8, 9, 10, 11], [11, 12])])
def Yoa.B7 : List Nat := [0, 0, 2, 6, 15, 31, 0, 0, 0, 256, 960, 2047, 4095, 8191]
theorem Yoa.tab7 : rtab .any (opsOf Tryz.f98 7) = Yoa.T7 := by kernel_rfl
theorem Yoa.bits7 : Ykg Yoa.T7.2 Yoa.B7 = true := by kernel_rfl
theorem Yoa.calls (k : Nat) (a0 : ByteArray) (a1 : Int) (r : List ByteArray) (w : World) (hE : EnvOk w) (h : Yoa.f k a0 a1 = some r) :
  Calls Tryz.prog 98 #[.string a0, .int .u8 a1] w fun e w' => ∃ v0_ : Value, e = .returned (v0_) ∧ Kd.R Kd.string 9 w' w.heap.size (fun _ => True) v0_ r ∧ Below w.heap.size w w' := by
 have HE := Ya.mk hE
 clear hE
 have HB := Ya.mk (Below.refl w.heap.size w)
 have H : (Yoa.l0 k a0 a1 (([(⟨#[]⟩ : ByteArray)] : List ByteArray)) 0) = some r := h
 clear h
 obtain ⟨aJw, tX⟩ : ∃ y_ : List ByteArray, y_ = (([(⟨#[]⟩ : ByteArray)] : List ByteArray)) := ⟨_, rfl⟩
 replace H : (Yoa.l0 k a0 a1 aJw 0) = some r := by first | (rw [tX]; with_reducible exact H) | (have dH := (Option.bind_some _ _).symm.trans H; rw [tX]; with_reducible exact dH) | (have dH := (Option.bind_some _ _).symm.trans H; with_reducible exact dH) | with_reducible exact H | (rw [tX]; exact H) | exact H
 have aEU := Ya.mk tX
 clear tX
 have H' := Ya.mk H
 clear H
 go_enter Tryz.func98, Tryz.ntmps98
 go_wp2_with (first | ((with_reducible refine Yad (N := 7) rfl ?_); refine Kd.R_lit Kd.string _ 9 ?hg (N := 7) ?hd (xs := ([(⟨#[]⟩ : ByteArray)] : List ByteArray)) (inner := [.string (⟨#[]⟩ : ByteArray)]) (ok := fun _ => True) (okp := fun _ => True) ?hr ?hp (fun _ hk => hk) trivial (Below.refl _ _) (Nat.le_refl _) Zv ?_; (case hd => rfl); (case hg => rfl); (case hr => first | (go_simp; done) | (go_simp; rfl)); (case hp => exact (Reps.one (show Kd.M Kd.string _ _ _ (⟨#[]⟩ : ByteArray) [.string (⟨#[]⟩ : ByteArray)] from rfl) (Reps.none _ _))); intro aXO w3 ho4 hb hg_ hnew_; clear hg_ hnew_; (first | rw [← aEU.out] at ho4 | (simp only [Int.reduceToNat] at ho4; rw [← aEU.out] at ho4)); have aH := Ya.mk (Kd.R_lower ho4 (Yia Za)); have aR := Ya.mk (Yt Za hb); clear HB; have aJy := aH; have HB := aR; clear aH aR; clear hb ho4))
 go_loopg [5, 6] k (fun kq v5 v6 w' => ∃ (bA : List ByteArray) (aC : Int), v6 = .int .i64 aC ∧ Ya (Yoa.l0 kq a0 a1 bA aC = some r) ∧ Ya (kq ≤ k) ∧ Ya (Kd.R Kd.string 9 w' w.heap.size (fun _ => True) v5 bA) ∧ Ya (Below w.heap.size w w'))
 case atStart => exact ⟨(aJw), (0), Zf, H', ⟨Nat.le_refl _⟩, ⟨by (with_reducible repeat (first | apply Kd.R_alloc | apply Kd.R_drewN | apply Kd.R_drew)); exact aJy.out⟩, ⟨Za⟩⟩
 case round =>
  clear H'
  try clear p2
  obtain ⟨bA, aC, rfl, HA, cU, HO_5, HB⟩ := hrel
  cases gk with
  | zero => exact absurd HA.out (by simp [Yoa.l0])
  | succ k1 =>
   have H := HA.out
   clear HA
   simp only [Yoa.l0] at H
   by_cases c5 : aC < (a0.size : Int)
   rotate_left
   ·rw [if_neg c5] at H
    have dI : decide (aC < (a0.size : Int)) = false := decide_eq_false c5
    clear c5
    obtain rfl := Option.some.inj H
    go_wp2
    go_ret
    exact ⟨_, Zl, Zoa, Za⟩
   rw [if_pos c5] at H
   have dI : decide (aC < (a0.size : Int)) = true := decide_eq_true c5
   clear c5
   by_cases c6 : 0 ≤ aC
   rotate_left
   ·rw [if_neg c6] at H
    exact absurd H Zv
   rw [if_pos c6] at H
   have dN : decide (0 ≤ aC) = true := decide_eq_true c6
   clear c6
   by_cases c8 : (bt a0 aC) = a1
   ·rw [if_pos c8] at H
    have gQ : ((bt a0 aC) == a1) = true := beq_iff_eq.mpr c8
    have iW : ((bt a0 aC) != a1) = false := bne_eq_false_iff_eq.mpr c8
    clear c8
    by_cases c9 : bA.length < 8796093022208
    rotate_left
    ·rw [if_neg c9] at H
     exact absurd H Zv
    rw [if_pos c9] at H
    have uU := Ya.mk c9
    clear c9
    obtain ⟨aJz, tY⟩ : ∃ y_ : List ByteArray, y_ = (bA ++ [(⟨#[]⟩ : ByteArray)]) := ⟨_, rfl⟩
    replace H : (Yoa.l0 k1 a0 a1 aJz (wrap64 (aC + 1))) = some r := by first | (rw [tY]; with_reducible exact H) | (have dH := (Option.bind_some _ _).symm.trans H; rw [tY]; with_reducible exact dH) | (have dH := (Option.bind_some _ _).symm.trans H; with_reducible exact dH) | with_reducible exact H | (rw [tY]; exact H) | exact H
    have aJA := Ya.mk tY
    clear tY
    have H' := Ya.mk H
    clear H
    have p7 : 0 ≤ (aC : Int) := of_decide_eq_true Zc
    have q7 : aC < (a0.size : Int) := of_decide_eq_true Zc
    have hx7 := Yza a0 aC
    replace p7 := eq_true p7
    replace q7 := eq_true q7
    go_wp2_with (first | ((with_reducible refine Yde (b := .append) (xs := #[.tmp 19, .tmp 20]) rfl ?_); at_builtin; refine Kd.R_append Kd.string (w0 := w) w.heap.size rfl (.tmp 19) (.tmp 20) 44 9 (.string ⟨#[]⟩) 16 rfl Tryz.underlying44 Yeg rfl Zda Zk u5 bA (⟨#[]⟩ : ByteArray) [.string (⟨#[]⟩ : ByteArray)] (fun _ => True) (fun _ => False) rfl rfl ?aP (fun _ hk => hk.elim) ?aF ?aO ?aB ?aS ?aL ?_; (case aP => exact rfl); (case aB => exact Za); (case aF => exact (fun _ _ => trivial)); (case aO => exact Zoa); (case aS => exact (Yia Za)); (case aL => have := uU.out; omega); intro aXP pJ ho hb hg hat; rw [← aJA.out] at ho; have aH := Ya.mk (hb); have aR := Ya.mk (ho); clear HB; clear HO_5; have HB := aH; have aJB := aR; clear aH aR; clear ho hb hg hat))
    go_roundg k1
    case measure => have := cU.out; omega
    case rel => exact ⟨(aJz), (wrap64 (aC + 1)), Zf, H', ⟨Zaa⟩, ⟨by (with_reducible repeat (first | apply Kd.R_alloc | apply Kd.R_drewN | apply Kd.R_drew)); exact aJB.out⟩, ⟨Za⟩⟩
   rw [if_neg c8] at H
   have gQ : ((bt a0 aC) == a1) = false := beq_eq_false_iff_ne.mpr c8
   have iW : ((bt a0 aC) != a1) = true := bne_iff_ne.mpr c8
   obtain ⟨ji11, lK⟩ : ∃ j_ : Int, (wrap64 ((bA.length : Int) - 1)) = j_ := ⟨_, rfl⟩
   replace H : (if 0 ≤ (ji11) then (if (ji11) < (bA.length : Int) then (if aC ≤ (wrap64 (aC + 1)) then (if (wrap64 (aC + 1)) ≤ (a0.size : Int) then (if (rdOf ByteArray.empty bA (ji11)).size + (a0.extract (aC : Int).toNat ((wrap64 (aC + 1)) : Int).toNat).size ≤ 9223372036854775807 then (Yoa.l0 k1 a0 a1 (bA.set ((ji11) : Int).toNat ((rdOf ByteArray.empty bA (ji11)) ++ (a0.extract (aC : Int).toNat ((wrap64 (aC + 1)) : Int).toNat))) (wrap64 (aC + 1))) else (none)) else (none)) else (none)) else (none)) else (none)) = some r := by first | (rw [lK] at H; exact H) | (simp only [lK] at H ⊢; exact H)
   have hji11w : (IntKind.i64.wrap ((bA.length : Int) - 1)) = ji11 := (Yca _).trans lK
   by_cases dD : 0 ≤ (ji11)
   rotate_left
   ·rw [if_neg dD] at H
    exact absurd H Zv
   rw [if_pos dD] at H
   have dS : decide (0 ≤ (ji11)) = true := decide_eq_true dD
   clear dD
   by_cases eL : (ji11) < (bA.length : Int)
   rotate_left
   ·rw [if_neg eL] at H
    exact absurd H Zv
   rw [if_pos eL] at H
   have hD : decide ((ji11) < (bA.length : Int)) = true := decide_eq_true eL
   clear eL
   have iC := eq_true (of_decide_eq_true Zc : 0 ≤ aC)
   by_cases dG : aC ≤ (wrap64 (aC + 1))
   rotate_left
   ·rw [if_neg dG] at H
    exact absurd H Zv
   rw [if_pos dG] at H
   have eS := eq_true dG
   have pN : decide (aC ≤ (wrap64 (aC + 1))) = true := decide_eq_true dG
   by_cases eN : (wrap64 (aC + 1)) ≤ (a0.size : Int)
   rotate_left
   ·rw [if_neg eN] at H
    exact absurd H Zv
   rw [if_pos eN] at H
   have gZ := eq_true eN
   have kC : decide ((wrap64 (aC + 1)) ≤ (a0.size : Int)) = true := decide_eq_true eN
   by_cases eF : (rdOf ByteArray.empty bA (ji11)).size + (a0.extract (aC : Int).toNat ((wrap64 (aC + 1)) : Int).toNat).size ≤ 9223372036854775807
   rotate_left
   ·rw [if_neg eF] at H
    exact absurd H Zv
   rw [if_pos eF] at H
   have jK := eq_true eF
   have lI : decide ((rdOf ByteArray.empty bA (ji11)).size + (a0.extract (aC : Int).toNat ((wrap64 (aC + 1)) : Int).toNat).size ≤ 9223372036854775807) = true := decide_eq_true eF
   try have aIS : (9223372036854775807 < (rdOf ByteArray.empty bA (ji11)).size + (a0.extract (aC : Int).toNat ((wrap64 (aC + 1)) : Int).toNat).size) = False := eq_false (Nat.not_lt.2 eF)
   try have aIT : (9223372036854775807 < (rdOf ByteArray.empty bA (ji11)).size + (((wrap64 (aC + 1)) : Int).toNat - (aC : Int).toNat)) = False := eq_false (by have h9_ := eF; rw [ByteArray.size_extract] at h9_; omega)
   obtain ⟨aJC, tZ⟩ : ∃ y_ : List ByteArray, y_ = (bA.set ((ji11) : Int).toNat ((rdOf ByteArray.empty bA (ji11)) ++ (a0.extract (aC : Int).toNat ((wrap64 (aC + 1)) : Int).toNat))) := ⟨_, rfl⟩
   replace H : (Yoa.l0 k1 a0 a1 aJC (wrap64 (aC + 1))) = some r := by first | (rw [tZ]; with_reducible exact H) | (have dH := (Option.bind_some _ _).symm.trans H; rw [tZ]; with_reducible exact dH) | (have dH := (Option.bind_some _ _).symm.trans H; with_reducible exact dH) | with_reducible exact H | (rw [tZ]; exact H) | exact H
   have aJD := Ya.mk tZ
   clear tZ
   have H' := Ya.mk H
   clear H
   have p7 : 0 ≤ (aC : Int) := of_decide_eq_true Zc
   have q7 : aC < (a0.size : Int) := of_decide_eq_true Zc
   have hx7 := Yza a0 aC
   replace p7 := eq_true p7
   replace q7 := eq_true q7
   try go_wp2
   have aH := Ya.mk (Kd.R_drew HO_5.out)
   have aR := Ya.mk (Yc HB.out)
   clear HO_5
   clear HB
   have HO_5 := aH
   have HB := aR
   clear aH aR
   obtain ⟨aVs, aVt, aBu⟩ := Kd.R_slice HO_5.out
   (first | subst aBu | (injection aBu with f1_ f2_ f3_; have f4_ := f1_.symm; have f5_ := f3_.symm; clear f1_ f2_ f3_; subst f4_; subst f5_))
   have aGc : 0 ≤ ((ji11) : Int) := of_decide_eq_true Zc
   have aGd : (ji11) < (bA.length : Int) := of_decide_eq_true Zc
   obtain ⟨aWS, aVF, rI⟩ := Kd.at_string (Kd.R_reads' HO_5.out).2.2 (ji11) aGc aGd
   cases aVF
   replace aGc := eq_true aGc
   replace aGd := eq_true aGd
   have p18 : 0 ≤ ((ji11) : Int) := of_decide_eq_true Zc
   have q18 : ((ji11) : Int) < ((bA.length : Int) : Int) := of_decide_eq_true Zc
   obtain ⟨aFO, aVv, aBv, aBw, aFP, aVw, aBx⟩ := Kd.R_form HO_5.out Zk
   (first | cases aBv | (injection aBv with ea_ en_ ec_; (first | subst ea_ | (injection ea_ with ea_; subst ea_)); subst ec_; clear en_))
   have aFQ := Ya.mk aBw
   have aFR := Ya.mk aBx
   clear aBw aFP aBx
   (first | simp only [add_plain] at rI | skip)
   obtain ⟨uZ, vA⟩ := Kd.R_celln (⟨#[]⟩ : ByteArray) HO_5.out ((ji11) : Int) p18 q18
   replace p18 := eq_true p18
   replace q18 := eq_true q18
   have vB := Kd.R_putn HO_5.out ((ji11) : Int) ((rdOf ByteArray.empty bA (ji11)) ++ (a0.extract (aC : Int).toNat ((wrap64 (aC + 1)) : Int).toNat))
   rw [← aJD.out] at vB
   have aBy := Ya.mk vB
   clear vB
   refine Yig (n := 14) (S := fun w' => w'.cell? ⟨aFO, ((ji11)).toNat, none⟩ = some (.string (rdOf ByteArray.empty bA (ji11)))) (ds := [13]) #[false, false, false, false, false, false, false, false, false, false, false, false, false, false] Zi rfl rfl (rI) (fun hHeld => ?_); refine Ymf Yoa.tab7 Yoa.bits7 (fun HT_ HW_ => ?_)
   generalize wr.drew = w19 at HO_5 HB aFR aBy vA uZ rI hHeld ⊢
   refine Ybb (i := 0) (N := some 22) (v := ?_) (a' := ?_) #[true, false, false, false, false, false, false, false, false, false, false, false, false, false] rfl rfl (Yua HT_.out Zi) (fun _ _ _ h => h) (Or.inl ⟨Zga, ?_⟩) ?_ ?_
   rotate_left
   ·exact Zxb
   rotate_left
   ·exact Zyb
   refine Ybb (i := 1) (N := some 23) (v := ?_) (a' := ?_) #[true, true, false, false, false, false, false, false, false, false, false, false, false, false] rfl rfl (Yua HT_.out Zi) (fun _ _ _ h => h) (Or.inl ⟨Zga, ?_⟩) ?_ ?_
   rotate_left
   ·exact Zxb
   rotate_left
   ·exact Zyb
   refine Ybb (i := 2) (N := some 24) (v := ?_) (a' := ?_) #[true, true, true, false, false, false, false, false, false, false, false, false, false, false] rfl rfl (Yua HT_.out Zi) (fun _ _ _ h => h) (Or.inl ⟨Zga, ?_⟩) ?_ ?_
   rotate_left
   ·exact Zxb
   rotate_left
   ·exact Zyb
   refine Ybb (i := 3) (N := some 25) (v := ?_) (a' := ?_) #[true, true, true, true, false, false, false, false, false, false, false, false, false, false] rfl rfl (Yua HT_.out Zi) (fun _ _ _ h => h) (Or.inl ⟨Zga, ?_⟩) ?_ ?_
   rotate_left
   ·exact Zxb
   rotate_left
   ·exact Zyb
   refine Ybb (i := 4) (N := some 26) (v := ?_) (a' := ?_) #[true, true, true, true, true, false, false, false, false, false, false, false, false, false] rfl rfl (Yua HT_.out Zi) (fun _ _ _ h => h) (Or.inl ⟨Zga, ?_⟩) ?_ ?_
   rotate_left
   ·exact Zxb
   rotate_left
   ·exact Zyb
   refine Ybb (i := 6) (N := some 28) (v := ?_) (a' := ?_) #[true, true, true, true, true, false, true, false, false, false, false, false, false, false] rfl rfl (Yua HT_.out Zi) (fun _ _ _ h => h) (Or.inl ⟨Zga, ?_⟩) ?_ ?_
   rotate_left
   ·exact Zxb
   rotate_left
   ·exact Zyb
   refine Ybb (i := 7) (N := some 29) (v := ?_) (a' := ?_) #[true, true, true, true, true, false, true, true, false, false, false, false, false, false] rfl rfl (Yua HT_.out Zi) (fun _ _ _ h => h) (Or.inl ⟨Zga, ?_⟩) ?_ ?_
   rotate_left
   ·exact Zxb
   rotate_left
   ·exact Zyb
   refine Ybb (i := 8) (N := some 30) (v := ?_) (a' := ?_) #[true, true, true, true, true, false, true, true, true, false, false, false, false, false] rfl rfl (Yua HT_.out Zi) (fun _ _ _ h => h) (Or.inl ⟨Zga, ?_⟩) ?_ ?_
   rotate_left
   ·exact Zxb
   rotate_left
   ·exact Zyb
   refine Ybb (i := 9) (N := some 31) (v := ?_) (a' := ?_) #[true, true, true, true, true, false, true, true, true, true, false, false, false, false] rfl rfl (Yua HT_.out Zi) (fun _ _ _ h => h) (Or.inl ⟨Zga, ?_⟩) ?_ ?_
   rotate_left
   ·exact Zxb
   rotate_left
   ·exact Zyb
   refine Ybb (i := 10) (N := some 32) (v := ?_) (a' := ?_) #[true, true, true, true, true, false, true, true, true, true, true, false, false, false] rfl rfl (Yua HT_.out Zi) (fun _ _ _ h => h) (Or.inl ⟨Zga, ?_⟩) ?_ ?_
   rotate_left
   ·exact Zxb
   rotate_left
   ·exact Zyb
   refine Ypf (i := 5) (N := some 27) (v := ?_) (a' := ?_) #[true, true, true, true, true, true, true, true, true, true, true, false, false, false] rfl rfl (Yke HT_.out HW_.out Zi) (fun _ _ _ h => h) (Or.inl ⟨Zga, ?_⟩) hHeld ?_ ?_
   rotate_left
   ·intro w' s0
    go_simp
    with_reducible rfl
   rotate_left
   ·exact Zyb
   refine Ybb (i := 11) (N := some 33) (v := ?_) (a' := ?_) #[true, true, true, true, true, true, true, true, true, true, true, true, false, false] rfl rfl (Yua HT_.out Zi) (fun _ _ _ h => h) (Or.inl ⟨Zga, ?_⟩) ?_ ?_
   rotate_left
   ·exact Zxb
   rotate_left
   ·exact Zyb
   refine Ybb (i := 12) (N := some 34) (v := ?_) (a' := ?_) #[true, true, true, true, true, true, true, true, true, true, true, true, true, false] rfl rfl (Yua HT_.out Zi) (fun _ _ _ h => h) (Or.inl ⟨Zga, ?_⟩) ?_ ?_
   rotate_left
   ·exact Zxb
   rotate_left
   ·exact Zyb
   refine Yvm (i := 13) (N := none) #[true, true, true, true, true, true, true, true, true, true, true, true, true, true] rfl rfl (Yze HT_.out Zi) Zda (fun K hK => ?_)
   refine Yvi (w1 := ?_) Zga rfl ?_ ?_
   rotate_left
   ·go_simp
    rfl
   refine hK.out _ _ ?_
   clear hK K
   refine Yrh (Yyg HT_.out Zi) ?_
   try go_wp2
   go_roundg k1
   case measure => have := cU.out; omega
   case rel => exact ⟨(aJC), (wrap64 (aC + 1)), Zf, H', ⟨Zaa⟩, ⟨by (with_reducible repeat (first | apply Kd.R_alloc | apply Kd.R_drewN | apply Kd.R_drew)); exact aBy.out⟩, ⟨by repeat (first | (with_reducible first | exact HB.out | apply Yd | apply Yb | apply Yc | refine Yg ?_ aFQ.out) | exact HB.out)⟩⟩
def Yhb.l0 : Nat → Int → ByteArray → Option (ByteArray)
 | 0, _, _ => none
 | k + 1, x0, x3 => (some (([(IntKind.u64.wrap (48 + (Int.tmod x0 10))) % 256] : List Int) : List Int)).bind fun oQ => (if (strOfNums oQ).size + x3.size ≤ 9223372036854775807 then (if (IntKind.u64.wrap (Int.tdiv x0 10)) = 0 then (some ((strOfNums oQ) ++ x3)) else (Yhb.l0 k (IntKind.u64.wrap (Int.tdiv x0 10)) ((strOfNums oQ) ++ x3))) else (none))
def Yhb.f (k : Nat) (a0 : Int) : Option (ByteArray) := Yhb.l0 k a0 (⟨#[]⟩ : ByteArray)
theorem Yhb.calls (k : Nat) (a0 : Int) (r : ByteArray) (w : World) (hE : EnvOk w) (h : Yhb.f k a0 = some r) :
  Calls Tryz.prog 131 #[.int .u64 a0] w fun e w' => e = .returned (.string r) ∧ Below w.heap.size w w' := by
 have HE := Ya.mk hE
 clear hE
 have HB := Ya.mk (Below.refl w.heap.size w)
 have H : (Yhb.l0 k a0 (⟨#[]⟩ : ByteArray)) = some r := h
 clear h
 have H' := Ya.mk H
 clear H
 go_enter Tryz.func131, Tryz.ntmps131
 go_wp2
 go_loopg [0, 3] k (fun kq v0 v3 w' => ∃ (aX : Int) (aD : ByteArray), v0 = .int .u64 aX ∧ v3 = .string aD ∧ Ya (Yhb.l0 kq aX aD = some r) ∧ Ya (kq ≤ k) ∧ Ya (Below w.heap.size w w'))
 case atStart => exact ⟨(a0), ((⟨#[]⟩ : ByteArray)), Zf, Zf, H', ⟨Nat.le_refl _⟩, ⟨Za⟩⟩
 case round =>
  clear H'
  try clear c1
  obtain ⟨aX, aD, rfl, rfl, HA, cU, HB⟩ := hrel
  cases gk with
  | zero => exact absurd HA.out (by simp [Yhb.l0])
  | succ k1 =>
   have H := HA.out
   clear HA
   simp only [Yhb.l0] at H
   obtain ⟨oQ, uA⟩ : ∃ y_ : List Int, y_ = (([(IntKind.u64.wrap (48 + (Int.tmod aX 10))) % 256] : List Int)) := ⟨_, rfl⟩
   replace H : (if (strOfNums oQ).size + aD.size ≤ 9223372036854775807 then (if (IntKind.u64.wrap (Int.tdiv aX 10)) = 0 then (some ((strOfNums oQ) ++ aD)) else (Yhb.l0 k1 (IntKind.u64.wrap (Int.tdiv aX 10)) ((strOfNums oQ) ++ aD))) else (none)) = some r := by first | (rw [uA]; with_reducible exact H) | (have dH := (Option.bind_some _ _).symm.trans H; rw [uA]; with_reducible exact dH) | (have dH := (Option.bind_some _ _).symm.trans H; with_reducible exact dH) | with_reducible exact H | (rw [uA]; exact H) | exact H
   have yX := Ya.mk uA
   clear uA
   by_cases c2 : (strOfNums oQ).size + aD.size ≤ 9223372036854775807
   rotate_left
   ·rw [if_neg c2] at H
    exact absurd H Zv
   rw [if_pos c2] at H
   have eR := eq_true c2
   have jY : decide ((strOfNums oQ).size + aD.size ≤ 9223372036854775807) = true := decide_eq_true c2
   try have aFs : (9223372036854775807 < (strOfNums oQ).size + aD.size) = False := eq_false (Nat.not_lt.2 c2)
   by_cases c3 : (IntKind.u64.wrap (Int.tdiv aX 10)) = 0
   ·rw [if_pos c3] at H
    have cB : ((IntKind.u64.wrap (Int.tdiv aX 10)) == 0) = true := beq_iff_eq.mpr c3
    have fV : ((IntKind.u64.wrap (Int.tdiv aX 10)) != 0) = false := bne_eq_false_iff_eq.mpr c3
    clear c3
    obtain rfl := Option.some.inj H
    go_wp2_with (first | ((with_reducible refine Yad (N := 8) rfl ?_); refine Kd.R_lit (Kd.int .u8) _ 5 ?hg (N := 8) ?hd (xs := ([(IntKind.u64.wrap (48 + (Int.tmod aX 10))) % 256] : List Int)) (inner := [.int .u8 ((IntKind.u64.wrap (48 + (Int.tmod aX 10))) % 256)]) (ok := fun _ => True) (okp := fun _ => True) ?hr ?hp (fun _ hk => hk) trivial (Below.refl _ _) (Nat.le_refl _) Zv ?_; (case hd => rfl); (case hg => rfl); (case hr => first | (go_simp; done) | (go_simp; rfl)); (case hp => exact (Reps.one (show Kd.M (Kd.int .u8) _ _ _ ((IntKind.u64.wrap (48 + (Int.tmod aX 10))) % 256) [.int .u8 ((IntKind.u64.wrap (48 + (Int.tmod aX 10))) % 256)] from rfl) (Reps.none _ _))); intro aVG w4 ho5 hb hg_ hnew_; clear hg_ hnew_; (first | rw [← yX.out] at ho5 | (simp only [Int.reduceToNat] at ho5; rw [← yX.out] at ho5)); have aH := Ya.mk (Kd.R_lower ho5 (Yia Za)); have aR := Ya.mk (Yt Za hb); clear HB; have aBF := aH; have HB := aR; clear aH aR; clear hb ho5; have aXQ := Yzg (P := Tryz.prog) Tryz.underlying62 Tryz.underlying5 Tryz.underlying9 (Kd.own_of_R aBF.out)))
    go_ret
    exact ⟨Zl, Za⟩
   rw [if_neg c3] at H
   have cB : ((IntKind.u64.wrap (Int.tdiv aX 10)) == 0) = false := beq_eq_false_iff_ne.mpr c3
   have fV : ((IntKind.u64.wrap (Int.tdiv aX 10)) != 0) = true := bne_iff_ne.mpr c3
   have H' := Ya.mk H
   clear H
   go_wp2_with (first | ((with_reducible refine Yad (N := 8) rfl ?_); refine Kd.R_lit (Kd.int .u8) _ 5 ?hg (N := 8) ?hd (xs := ([(IntKind.u64.wrap (48 + (Int.tmod aX 10))) % 256] : List Int)) (inner := [.int .u8 ((IntKind.u64.wrap (48 + (Int.tmod aX 10))) % 256)]) (ok := fun _ => True) (okp := fun _ => True) ?hr ?hp (fun _ hk => hk) trivial (Below.refl _ _) (Nat.le_refl _) Zv ?_; (case hd => rfl); (case hg => rfl); (case hr => first | (go_simp; done) | (go_simp; rfl)); (case hp => exact (Reps.one (show Kd.M (Kd.int .u8) _ _ _ ((IntKind.u64.wrap (48 + (Int.tmod aX 10))) % 256) [.int .u8 ((IntKind.u64.wrap (48 + (Int.tmod aX 10))) % 256)] from rfl) (Reps.none _ _))); intro aVG w7 ho8 hb hg_ hnew_; clear hg_ hnew_; (first | rw [← yX.out] at ho8 | (simp only [Int.reduceToNat] at ho8; rw [← yX.out] at ho8)); have aH := Ya.mk (Kd.R_lower ho8 (Yia Za)); have aR := Ya.mk (Yt Za hb); clear HB; have aBF := aH; have HB := aR; clear aH aR; clear hb ho8; have aXR := Yzg (P := Tryz.prog) Tryz.underlying62 Tryz.underlying5 Tryz.underlying9 (Kd.own_of_R aBF.out)))
   go_roundg k1
   case measure => have := cU.out; omega
   case rel => exact ⟨(IntKind.u64.wrap (Int.tdiv aX 10)), ((strOfNums oQ) ++ aD), Zf, Zf, H', ⟨Zaa⟩, ⟨Za⟩⟩
mutual
def Yab.j0 : Nat → Int → ByteArray → ByteArray → Option (ByteArray)
 | 0, _, _, _ => none
 | k + 1, x1, x5, x6 => Yab.l0 k x1 x5 x6
def Yab.l0 : Nat → Int → ByteArray → ByteArray → Option (ByteArray)
 | 0, _, _, _ => none
 | k + 1, x1, x5, x6 => if (x6.size : Int) < (mn x1 20) then (if 1 + x6.size ≤ 9223372036854775807 then (Yab.l0 k x1 x5 ((⟨#[48]⟩ : ByteArray) ++ x6)) else (none)) else (if x5.size + x6.size ≤ 9223372036854775807 then (some (x5 ++ x6)) else (none))
end
def Yab.f (k : Nat) (a0 a1 : Int) : Option (ByteArray) := if a0 < 0 then ((Yhb.f k (IntKind.u64.wrap ((IntKind.u64.wrap (wrap64 (-(wrap64 (a0 + 1))))) + 1))).bind fun zQ => (Yab.j0 k a1 (⟨#[45]⟩ : ByteArray) zQ)) else ((Yhb.f k (IntKind.u64.wrap (a0))).bind fun zR => (Yab.j0 k a1 (⟨#[]⟩ : ByteArray) zR))
theorem Yab.calls (k : Nat) (a0 a1 : Int) (r : ByteArray) (w : World) (hE : EnvOk w) (h : Yab.f k a0 a1 = some r) :
  Calls Tryz.prog 106 #[.int .i64 a0, .int .i64 a1] w fun e w' => e = .returned (.string r) ∧ Below w.heap.size w w' := by
 have HE := Ya.mk hE
 clear hE
 have HB := Ya.mk (Below.refl w.heap.size w)
 have H : (if a0 < 0 then ((Yhb.f k (IntKind.u64.wrap ((IntKind.u64.wrap (wrap64 (-(wrap64 (a0 + 1))))) + 1))).bind fun zQ => (Yab.j0 k a1 (⟨#[45]⟩ : ByteArray) zQ)) else ((Yhb.f k (IntKind.u64.wrap (a0))).bind fun zR => (Yab.j0 k a1 (⟨#[]⟩ : ByteArray) zR))) = some r := h
 clear h
 have qI := Ya.mk H
 clear H
 go_enter Tryz.func106, Tryz.ntmps106
 go_upto_if 8 with (fail)
 go_cut [5, 6] (fun v5 v6 wc => ∃ (kq : Nat) (dO : ByteArray) (cF : ByteArray), v5 = .string dO ∧ v6 = .string cF ∧ Ya (Yab.j0 kq a1 dO cF = some r) ∧ Ya (kq ≤ k) ∧ Ya (Below w.heap.size w wc))
 case first =>
  have H := qI.out
  clear qI
  by_cases c4 : a0 < 0
  rotate_left
  ·rw [if_neg c4] at H
   have bX : decide (a0 < 0) = false := decide_eq_false c4
   clear c4
   (first | rw [bX] | (simp only [Yca, Yga]; rw [bX]) | skip)
   replace H := Option.bind_eq_some_iff.mp H
   obtain ⟨zR, nU, H⟩ := H
   try dsimp -simprocs only at H
   have A7 := Ya.mk nU
   clear nU
   have H' := Ya.mk H
   clear H
   go_wp2_with (first | ((with_reducible refine Yi (f := 131) rfl ?_); refine Yaa (some 17) rfl rfl Tryz.func131 Zi rfl #[.int .u64 (IntKind.u64.wrap (a0))] rfl Zb ?_; (with_reducible refine (Yhb.calls k (IntKind.u64.wrap (a0)) zR _ ?side1 A7.out).mono ?_); (case side1 => first | exact HE.out | exact EnvOk.below HE.out Za); rintro e w8 ⟨rfl, hb⟩; refine ⟨_, rfl, ?_⟩; have aH := Ya.mk (Yt Za hb); clear HB; have HB := aH; clear aH; (try clear hb); (try clear bU); (try clear hk); (try clear hi)))
   go_meet
   case rel => exact ⟨_, ((⟨#[]⟩ : ByteArray)), (zR), Zf, Zf, H', ⟨Zla⟩, ⟨Za⟩⟩
  rw [if_pos c4] at H
  have bX : decide (a0 < 0) = true := decide_eq_true c4
  clear c4
  (first | rw [bX] | (simp only [Yca, Yga]; rw [bX]) | skip)
  replace H := Option.bind_eq_some_iff.mp H
  obtain ⟨zQ, tD, H⟩ := H
  try dsimp -simprocs only at H
  have A5 := Ya.mk tD
  clear tD
  have H' := Ya.mk H
  clear H
  go_wp2_with (first | ((with_reducible refine Yi (f := 131) rfl ?_); refine Yaa (some 14) rfl rfl Tryz.func131 Zi rfl #[.int .u64 (IntKind.u64.wrap ((IntKind.u64.wrap (wrap64 (-(wrap64 (a0 + 1))))) + 1))] rfl Zb ?_; (with_reducible refine (Yhb.calls k (IntKind.u64.wrap ((IntKind.u64.wrap (wrap64 (-(wrap64 (a0 + 1))))) + 1)) zQ _ ?side1 A5.out).mono ?_); (case side1 => first | exact HE.out | exact EnvOk.below HE.out Za); rintro e w6 ⟨rfl, hb⟩; refine ⟨_, rfl, ?_⟩; have aH := Ya.mk (Yt Za hb); clear HB; have HB := aH; clear aH; (try clear hb); (try clear bU); (try clear hk); (try clear hi)))
  go_meet
  case rel => exact ⟨_, ((⟨#[45]⟩ : ByteArray)), (zQ), Zf, Zf, H', ⟨Zla⟩, ⟨Za⟩⟩
 case rest =>
  clear qI
  try clear c1
  try clear p2
  try clear c4
  try clear bX
  try clear p6
  obtain ⟨kq, dO, cF, rfl, rfl, HA, pH, HB⟩ := hcut
  cases kq with
  | zero => exact absurd HA.out (by simp [Yab.j0])
  | succ nA =>
   have H := HA.out
   clear HA
   simp only [Yab.j0] at H
   have H' := Ya.mk H
   clear H
   go_wp2
   go_loopg [6] nA (fun kq v6 w' => ∃ (cF : ByteArray), v6 = .string cF ∧ Ya (Yab.l0 kq a1 dO cF = some r) ∧ Ya (kq ≤ nA) ∧ Ya (Below w.heap.size w w'))
   case atStart => exact ⟨(cF), Zf, H', ⟨Nat.le_refl _⟩, ⟨Za⟩⟩
   case round =>
    clear H'
    try clear c1
    try clear p2
    try clear c4
    try clear bX
    try clear p6
    try clear p2
    try clear p6
    obtain ⟨cF, rfl, HA, jT, HB⟩ := hrel
    cases gk with
    | zero => exact absurd HA.out (by simp [Yab.l0])
    | succ k2 =>
     have H := HA.out
     clear HA
     simp only [Yab.l0] at H
     obtain ⟨ji9, oV⟩ : ∃ j_ : Int, (mn a1 20) = j_ := ⟨_, rfl⟩
     replace H : (if (cF.size : Int) < (ji9) then (if 1 + cF.size ≤ 9223372036854775807 then (Yab.l0 k2 a1 dO ((⟨#[48]⟩ : ByteArray) ++ cF)) else (none)) else (if dO.size + cF.size ≤ 9223372036854775807 then (some (dO ++ cF)) else (none))) = some r := by first | (rw [oV] at H; exact H) | (simp only [oV] at H ⊢; exact H)
     have aHv : (if 20 < a1 then 20 else a1) = ji9 := oV
     by_cases dP : (cF.size : Int) < (ji9)
     rotate_left
     ·rw [if_neg dP] at H
      have gY : decide ((cF.size : Int) < (ji9)) = false := decide_eq_false dP
      clear dP
      by_cases dD : dO.size + cF.size ≤ 9223372036854775807
      rotate_left
      ·rw [if_neg dD] at H
       exact absurd H Zv
      rw [if_pos dD] at H
      have dS := eq_true dD
      have oA : decide (dO.size + cF.size ≤ 9223372036854775807) = true := decide_eq_true dD
      try have aWT : (9223372036854775807 < dO.size + cF.size) = False := eq_false (Nat.not_lt.2 dD)
      obtain rfl := Option.some.inj H
      go_wp2
      go_ret
      exact ⟨by first | rfl | (simp [Yl, Yk] <;> rfl) | (simp only [← oV]; first | rfl | (simp [Yl, Yk] <;> rfl)) | (simp [*, Yl, Yk] <;> rfl), Za⟩
     rw [if_pos dP] at H
     have gY : decide ((cF.size : Int) < (ji9)) = true := decide_eq_true dP
     clear dP
     by_cases c11 : 1 + cF.size ≤ 9223372036854775807
     rotate_left
     ·rw [if_neg c11] at H
      exact absurd H Zv
     rw [if_pos c11] at H
     have gR := eq_true c11
     have pQ : decide (1 + cF.size ≤ 9223372036854775807) = true := decide_eq_true c11
     try have aIG : (9223372036854775807 < 1 + cF.size) = False := eq_false (Nat.not_lt.2 c11)
     have H' := Ya.mk H
     clear H
     go_wp2
     go_roundg k2
     case measure => have := pH.out; have := jT.out; omega
     case rel => exact ⟨((⟨#[48]⟩ : ByteArray) ++ cF), Zf, H', ⟨Zva⟩, ⟨Za⟩⟩
def Yrc.f (k : Nat) (a0 : Int) : Option (ByteArray) := (Yab.f k a0 1).bind fun aBG => (some aBG)
theorem Yrc.calls (k : Nat) (a0 : Int) (r : ByteArray) (w : World) (hE : EnvOk w) (h : Yrc.f k a0 = some r) :
  Calls Tryz.prog 67 #[.int .i64 a0] w fun e w' => e = .returned (.string r) ∧ Below w.heap.size w w' := by
 have HE := Ya.mk hE
 clear hE
 have HB := Ya.mk (Below.refl w.heap.size w)
 have H : ((Yab.f k a0 1).bind fun aBG => (some aBG)) = some r := h
 clear h
 replace H := Option.bind_eq_some_iff.mp H
 obtain ⟨aBG, dV, H⟩ := H
 try dsimp -simprocs only at H
 have A2 := Ya.mk dV
 clear dV
 obtain rfl := Option.some.inj H
 go_enter Tryz.func67, Tryz.ntmps67
 go_wp2_with (first | ((with_reducible refine Yi (f := 106) rfl ?_); refine Yaa (some 4) rfl rfl Tryz.func106 Zi rfl #[.int .i64 a0, .int .i64 1] rfl Zb ?_; (with_reducible refine (Yab.calls k a0 1 aBG _ ?side1 A2.out).mono ?_); (case side1 => first | exact HE.out | exact EnvOk.below HE.out Za); rintro e w3 ⟨rfl, hb⟩; refine ⟨_, rfl, ?_⟩; have aH := Ya.mk (Yt Za hb); clear HB; have HB := aH; clear aH; (try clear hb); (try clear bU); (try clear hk); (try clear hi)))
 go_ret
 exact ⟨Zl, Za⟩
def Yod.f (k : Nat) (a0 : ByteArray) : Option (Bool) := (Yz.f k a0 255).bind fun uB => (if uB.2 = 0 then ((Yrc.f k uB.1).bind fun aBH => (some (aBH.toList == a0.toList))) else (some false))
theorem Yod.calls (k : Nat) (a0 : ByteArray) (r : Bool) (w : World) (hE : EnvOk w) (h : Yod.f k a0 = some r) :
  Calls Tryz.prog 99 #[.string a0] w fun e w' => e = .returned (.bool r) ∧ Below w.heap.size w w' := by
 have HE := Ya.mk hE
 clear hE
 have HB := Ya.mk (Below.refl w.heap.size w)
 have H : ((Yz.f k a0 255).bind fun uB => (if uB.2 = 0 then ((Yrc.f k uB.1).bind fun aBH => (some (aBH.toList == a0.toList))) else (some false))) = some r := h
 clear h
 replace H := Option.bind_eq_some_iff.mp H
 obtain ⟨⟨aGe, vD⟩, dV, H⟩ := H
 try dsimp -simprocs only at H
 have A2 := Ya.mk dV
 clear dV
 by_cases c3 : vD = 0
 rotate_left
 ·rw [if_neg c3] at H
  have cB : (vD == 0) = false := beq_eq_false_iff_ne.mpr c3
  have fV : (vD != 0) = true := bne_iff_ne.mpr c3
  obtain rfl := Option.some.inj H
  go_enter Tryz.func99, Tryz.ntmps99
  go_wp2_with (first | ((with_reducible refine Yi (f := 89) rfl ?_); refine Yaa (some 7) rfl rfl Tryz.func89 Zi rfl #[.string a0, .int .i64 255] rfl Zb ?_; (with_reducible refine (Yz.calls k a0 255 aGe vD _ ?side1 A2.out).mono ?_); (case side1 => first | exact HE.out | exact EnvOk.below HE.out Za); rintro e w' ⟨rfl, ⟨nd, rfl⟩⟩; refine ⟨_, rfl, ?_⟩))
  go_ret
  exact ⟨Zl, Za⟩
 rw [if_pos c3] at H
 have cB : (vD == 0) = true := beq_iff_eq.mpr c3
 have fV : (vD != 0) = false := bne_eq_false_iff_eq.mpr c3
 clear c3
 replace H := Option.bind_eq_some_iff.mp H
 obtain ⟨aBH, sU, H⟩ := H
 try dsimp -simprocs only at H
 have A4 := Ya.mk sU
 clear sU
 obtain rfl := Option.some.inj H
 go_enter Tryz.func99, Tryz.ntmps99
 go_wp2_with (first | ((with_reducible refine Yi (f := 89) rfl ?_); refine Yaa (some 7) rfl rfl Tryz.func89 Zi rfl #[.string a0, .int .i64 255] rfl Zb ?_; (with_reducible refine (Yz.calls k a0 255 aGe vD _ ?side1 A2.out).mono ?_); (case side1 => first | exact HE.out | exact EnvOk.below HE.out Za); rintro e w' ⟨rfl, ⟨nd, rfl⟩⟩; refine ⟨_, rfl, ?_⟩) | (go_at_call 67; (with_reducible refine (Yrc.calls k aGe aBH _ ?side1 A4.out).mono ?_); (case side1 => first | exact HE.out | exact EnvOk.below HE.out Za); rintro e w5 ⟨rfl, hb⟩; have aH := Ya.mk (Yt Za hb); clear HB; have HB := aH; clear aH; (try clear hb); (try clear bU); (try clear hk); (try clear hi)))
 go_ret
 exact ⟨Zl, Za⟩
end Go.Proofs.YtnmglnglbdpjjaaGreatDoor.X
