/- Printed by a program of ours: functions as plain Lean, and what a call of each does. -/
import Derived.Test.YtnmglnglbdpjjaaGreatDoorUkWords
import Derived.Test.YtnmglnglbdpjjaaGreatDoorUkX0
import Derived.Test.YtnmglnglbdpjjaaGreatDoorUkX8
namespace Go.Proofs.YtnmglnglbdpjjaaGreatDoor.X
open Go.RowKit Go.Yw.PrintWords Go.Yw.PrintLast Go.Yw.PrintMore
attribute [local go_sem] Yde Yee Ywe Yve Ypd Yod Yce Ybe
set_option linter.unusedVariables false
set_option linter.unusedSimpArgs false
set_option maxHeartbeats 8000000
set_option maxRecDepth 100000
def Yna.l0 : Nat → ByteArray → Int → List ByteArray → Int → Option (List ByteArray)
 | 0, _, _, _, _ => none
 | k + 1, x0, x1, x5, x6 => if x6 < (x0.size : Int) then (if 0 ≤ x6 then (if (bt x0 x6) = x1 then (if x5.length < 8796093022208 then (Yna.l0 k x0 x1 (x5 ++ [(⟨#[]⟩ : ByteArray)]) (wrap64 (x6 + 1))) else (none)) else (if 0 ≤ (wrap64 ((x5.length : Int) - 1)) then (if (wrap64 ((x5.length : Int) - 1)) < (x5.length : Int) then (if x6 ≤ (wrap64 (x6 + 1)) then (if (wrap64 (x6 + 1)) ≤ (x0.size : Int) then (if (rdOf ByteArray.empty x5 (wrap64 ((x5.length : Int) - 1))).size + (x0.extract (x6 : Int).toNat ((wrap64 (x6 + 1)) : Int).toNat).size ≤ 9223372036854775807 then (Yna.l0 k x0 x1 (x5.set ((wrap64 ((x5.length : Int) - 1)) : Int).toNat ((rdOf ByteArray.empty x5 (wrap64 ((x5.length : Int) - 1))) ++ (x0.extract (x6 : Int).toNat ((wrap64 (x6 + 1)) : Int).toNat))) (wrap64 (x6 + 1))) else (none)) else (none)) else (none)) else (none)) else (none))) else (none)) else (some x5)
def Yna.f (k : Nat) (a0 : ByteArray) (a1 : Int) : Option (List ByteArray) := Yna.l0 k a0 a1 (([(⟨#[]⟩ : ByteArray)] : List ByteArray)) 0
def Yna.T7 : Bool × List (List Nat × List Nat) := (true, [([], []), ([], []), ([1], [1]), ([2], [2]), ([0, 3], [0, 3]), ([4], [4]), ([], []), ([], []), ([], []), ([8], [8]), ([6, 7, 9], [6, 7, 9]), ([5, 10], [5, 10]), ([0, 3, 0, 1, 2, 3, 4, 5, 6, 7, 8, 9, 10, 11], [0, 3]), ([12, 11, 0, 1, 2, 3, 4, 5, 6, 7, 8, 9, 10, 11], [11, 12])])
def Yna.B7 : List Nat := [0, 0, 2, 6, 15, 31, 0, 0, 0, 256, 960, 2047, 4095, 8191]
theorem Yna.tab7 : rtab .any (opsOf Tryz.f98 7) = Yna.T7 := by kernel_rfl
theorem Yna.bits7 : Yoh Yna.T7.2 Yna.B7 = true := by kernel_rfl
theorem Yna.calls (k : Nat) (a0 : ByteArray) (a1 : Int) (r : List ByteArray) (w : World) (hE : EnvOk w) (h : Yna.f k a0 a1 = some r) :
  Calls Tryz.prog 98 #[.string a0, .int .u8 a1] w fun e w' => ∃ v0_ : Value, e = .returned (v0_) ∧ Kd.R Kd.string 9 w' w.heap.size (fun _ => True) v0_ r ∧ Below w.heap.size w w' := by
 have HE := Ya.mk hE
 clear hE
 have HB := Ya.mk (Below.refl w.heap.size w)
 have H : (Yna.l0 k a0 a1 (([(⟨#[]⟩ : ByteArray)] : List ByteArray)) 0) = some r := h
 clear h
 obtain ⟨aKe, uM⟩ : ∃ y_ : List ByteArray, y_ = (([(⟨#[]⟩ : ByteArray)] : List ByteArray)) := ⟨_, rfl⟩
 replace H : (Yna.l0 k a0 a1 aKe 0) = some r := by first | (rw [uM]; with_reducible exact H) | (have dK := (Option.bind_some _ _).symm.trans H; rw [uM]; with_reducible exact dK) | (have dK := (Option.bind_some _ _).symm.trans H; with_reducible exact dK) | with_reducible exact H | (rw [uM]; exact H) | exact H
 have aFn := Ya.mk uM
 clear uM
 have H' := Ya.mk H
 clear H
 go_enter Tryz.func98, Tryz.ntmps98
 go_wp2_with (first | ((with_reducible refine Ywc (N := 7) rfl ?_); refine Kd.R_lit Kd.string _ 9 ?hg (N := 7) ?hd (xs := ([(⟨#[]⟩ : ByteArray)] : List ByteArray)) (inner := [.string (⟨#[]⟩ : ByteArray)]) (ok := fun _ => True) (okp := fun _ => True) ?hr ?hp (fun _ hk => hk) trivial (Below.refl _ _) (Nat.le_refl _) Zv ?_; (case hd => rfl); (case hg => rfl); (case hr => first | (go_simp; done) | (go_simp; rfl)); (case hp => exact (Reps.one (show Kd.M Kd.string _ _ _ (⟨#[]⟩ : ByteArray) [.string (⟨#[]⟩ : ByteArray)] from rfl) (Reps.none _ _))); intro aYx w3 ho4 hb hg_ hnew_; clear hg_ hnew_; (first | rw [← aFn.out] at ho4 | (simp only [Int.reduceToNat] at ho4; rw [← aFn.out] at ho4)); have aM := Ya.mk (Kd.R_lower ho4 (Yda Za)); have aU := Ya.mk (Ys Za hb); clear HB; have aKg := aM; have HB := aU; clear aM aU; clear hb ho4))
 go_loopg [5, 6] k (fun kq v5 v6 w' => ∃ (bA : List ByteArray) (aD : Int), v6 = .int .i64 aD ∧ Ya (Yna.l0 kq a0 a1 bA aD = some r) ∧ Ya (kq ≤ k) ∧ Ya (Kd.R Kd.string 9 w' w.heap.size (fun _ => True) v5 bA) ∧ Ya (Below w.heap.size w w'))
 case atStart => exact ⟨(aKe), (0), Zf, H', ⟨Nat.le_refl _⟩, ⟨by (with_reducible repeat (first | apply Kd.R_alloc | apply Kd.R_drewN | apply Kd.R_drew)); exact aKg.out⟩, ⟨Za⟩⟩
 case round =>
  clear H'
  try clear p2
  obtain ⟨bA, aD, rfl, HA, dD, HO_5, HB⟩ := hrel
  cases gk with
  | zero => exact absurd HA.out (by simp [Yna.l0])
  | succ k1 =>
   have H := HA.out
   clear HA
   simp only [Yna.l0] at H
   by_cases c5 : aD < (a0.size : Int)
   rotate_left
   ·rw [if_neg c5] at H
    have dL : decide (aD < (a0.size : Int)) = false := decide_eq_false c5
    clear c5
    obtain rfl := Option.some.inj H
    go_wp2
    go_ret
    exact ⟨_, Zk, Zra, Za⟩
   rw [if_pos c5] at H
   have dL : decide (aD < (a0.size : Int)) = true := decide_eq_true c5
   clear c5
   by_cases c6 : 0 ≤ aD
   rotate_left
   ·rw [if_neg c6] at H
    exact absurd H Zv
   rw [if_pos c6] at H
   have dP : decide (0 ≤ aD) = true := decide_eq_true c6
   clear c6
   by_cases c8 : (bt a0 aD) = a1
   ·rw [if_pos c8] at H
    have gZ : ((bt a0 aD) == a1) = true := beq_iff_eq.mpr c8
    have jE : ((bt a0 aD) != a1) = false := bne_eq_false_iff_eq.mpr c8
    clear c8
    by_cases c9 : bA.length < 8796093022208
    rotate_left
    ·rw [if_neg c9] at H
     exact absurd H Zv
    rw [if_pos c9] at H
    have vN := Ya.mk c9
    clear c9
    obtain ⟨aKh, uN⟩ : ∃ y_ : List ByteArray, y_ = (bA ++ [(⟨#[]⟩ : ByteArray)]) := ⟨_, rfl⟩
    replace H : (Yna.l0 k1 a0 a1 aKh (wrap64 (aD + 1))) = some r := by first | (rw [uN]; with_reducible exact H) | (have dK := (Option.bind_some _ _).symm.trans H; rw [uN]; with_reducible exact dK) | (have dK := (Option.bind_some _ _).symm.trans H; with_reducible exact dK) | with_reducible exact H | (rw [uN]; exact H) | exact H
    have aKi := Ya.mk uN
    clear uN
    have H' := Ya.mk H
    clear H
    have p7 : 0 ≤ (aD : Int) := of_decide_eq_true Zc
    have q7 : aD < (a0.size : Int) := of_decide_eq_true Zc
    have hx7 := Yab a0 aD
    replace p7 := eq_true p7
    replace q7 := eq_true q7
    go_wp2_with (first | ((with_reducible refine Yge (b := .append) (xs := #[.tmp 19, .tmp 20]) rfl ?_); at_builtin; refine Kd.R_append Kd.string (w0 := w) w.heap.size rfl (.tmp 19) (.tmp 20) 44 9 (.string ⟨#[]⟩) 16 rfl Tryz.underlying44 Ykg rfl Zea Zl u5 bA (⟨#[]⟩ : ByteArray) [.string (⟨#[]⟩ : ByteArray)] (fun _ => True) (fun _ => False) rfl rfl ?aP (fun _ hk => hk.elim) ?aF ?aO ?aB ?aS ?aL ?_; (case aP => exact rfl); (case aB => exact Za); (case aF => exact (fun _ _ => trivial)); (case aO => exact Zra); (case aS => exact (Yda Za)); (case aL => have := vN.out; omega); intro aYy qE ho hb hg hat; rw [← aKi.out] at ho; have aM := Ya.mk (hb); have aU := Ya.mk (ho); clear HB; clear HO_5; have HB := aM; have aKj := aU; clear aM aU; clear ho hb hg hat))
    go_roundg k1
    case measure => have := dD.out; omega
    case rel => exact ⟨(aKh), (wrap64 (aD + 1)), Zf, H', ⟨Zaa⟩, ⟨by (with_reducible repeat (first | apply Kd.R_alloc | apply Kd.R_drewN | apply Kd.R_drew)); exact aKj.out⟩, ⟨Za⟩⟩
   rw [if_neg c8] at H
   have gZ : ((bt a0 aD) == a1) = false := beq_eq_false_iff_ne.mpr c8
   have jE : ((bt a0 aD) != a1) = true := bne_iff_ne.mpr c8
   obtain ⟨ji11, lU⟩ : ∃ j_ : Int, (wrap64 ((bA.length : Int) - 1)) = j_ := ⟨_, rfl⟩
   replace H : (if 0 ≤ (ji11) then (if (ji11) < (bA.length : Int) then (if aD ≤ (wrap64 (aD + 1)) then (if (wrap64 (aD + 1)) ≤ (a0.size : Int) then (if (rdOf ByteArray.empty bA (ji11)).size + (a0.extract (aD : Int).toNat ((wrap64 (aD + 1)) : Int).toNat).size ≤ 9223372036854775807 then (Yna.l0 k1 a0 a1 (bA.set ((ji11) : Int).toNat ((rdOf ByteArray.empty bA (ji11)) ++ (a0.extract (aD : Int).toNat ((wrap64 (aD + 1)) : Int).toNat))) (wrap64 (aD + 1))) else (none)) else (none)) else (none)) else (none)) else (none)) = some r := by first | (rw [lU] at H; exact H) | (simp only [lU] at H ⊢; exact H)
   have hji11w : (IntKind.i64.wrap ((bA.length : Int) - 1)) = ji11 := (Yma _).trans lU
   by_cases dG : 0 ≤ (ji11)
   rotate_left
   ·rw [if_neg dG] at H
    exact absurd H Zv
   rw [if_pos dG] at H
   have dV : decide (0 ≤ (ji11)) = true := decide_eq_true dG
   clear dG
   by_cases eN : (ji11) < (bA.length : Int)
   rotate_left
   ·rw [if_neg eN] at H
    exact absurd H Zv
   rw [if_pos eN] at H
   have hM : decide ((ji11) < (bA.length : Int)) = true := decide_eq_true eN
   clear eN
   have iH := eq_true (of_decide_eq_true Zc : 0 ≤ aD)
   by_cases dJ : aD ≤ (wrap64 (aD + 1))
   rotate_left
   ·rw [if_neg dJ] at H
    exact absurd H Zv
   rw [if_pos dJ] at H
   have eU := eq_true dJ
   have qJ : decide (aD ≤ (wrap64 (aD + 1))) = true := decide_eq_true dJ
   by_cases eP : (wrap64 (aD + 1)) ≤ (a0.size : Int)
   rotate_left
   ·rw [if_neg eP] at H
    exact absurd H Zv
   rw [if_pos eP] at H
   have hJ := eq_true eP
   have kM : decide ((wrap64 (aD + 1)) ≤ (a0.size : Int)) = true := decide_eq_true eP
   by_cases eH : (rdOf ByteArray.empty bA (ji11)).size + (a0.extract (aD : Int).toNat ((wrap64 (aD + 1)) : Int).toNat).size ≤ 9223372036854775807
   rotate_left
   ·rw [if_neg eH] at H
    exact absurd H Zv
   rw [if_pos eH] at H
   have jQ := eq_true eH
   have lS : decide ((rdOf ByteArray.empty bA (ji11)).size + (a0.extract (aD : Int).toNat ((wrap64 (aD + 1)) : Int).toNat).size ≤ 9223372036854775807) = true := decide_eq_true eH
   try have aJB : (9223372036854775807 < (rdOf ByteArray.empty bA (ji11)).size + (a0.extract (aD : Int).toNat ((wrap64 (aD + 1)) : Int).toNat).size) = False := eq_false (Nat.not_lt.2 eH)
   try have aJC : (9223372036854775807 < (rdOf ByteArray.empty bA (ji11)).size + (((wrap64 (aD + 1)) : Int).toNat - (aD : Int).toNat)) = False := eq_false (by have h9_ := eH; rw [ByteArray.size_extract] at h9_; omega)
   obtain ⟨aKk, uO⟩ : ∃ y_ : List ByteArray, y_ = (bA.set ((ji11) : Int).toNat ((rdOf ByteArray.empty bA (ji11)) ++ (a0.extract (aD : Int).toNat ((wrap64 (aD + 1)) : Int).toNat))) := ⟨_, rfl⟩
   replace H : (Yna.l0 k1 a0 a1 aKk (wrap64 (aD + 1))) = some r := by first | (rw [uO]; with_reducible exact H) | (have dK := (Option.bind_some _ _).symm.trans H; rw [uO]; with_reducible exact dK) | (have dK := (Option.bind_some _ _).symm.trans H; with_reducible exact dK) | with_reducible exact H | (rw [uO]; exact H) | exact H
   have aKl := Ya.mk uO
   clear uO
   have H' := Ya.mk H
   clear H
   have p7 : 0 ≤ (aD : Int) := of_decide_eq_true Zc
   have q7 : aD < (a0.size : Int) := of_decide_eq_true Zc
   have hx7 := Yab a0 aD
   replace p7 := eq_true p7
   replace q7 := eq_true q7
   try go_wp2
   have aM := Ya.mk (Kd.R_drew HO_5.out)
   have aU := Ya.mk (Yc HB.out)
   clear HO_5
   clear HB
   have HO_5 := aM
   have HB := aU
   clear aM aU
   obtain ⟨aWb, aWc, aBR⟩ := Kd.R_slice HO_5.out
   (first | subst aBR | (injection aBR with f1_ f2_ f3_; have f4_ := f1_.symm; have f5_ := f3_.symm; clear f1_ f2_ f3_; subst f4_; subst f5_))
   have aGw : 0 ≤ ((ji11) : Int) := of_decide_eq_true Zc
   have aGx : (ji11) < (bA.length : Int) := of_decide_eq_true Zc
   obtain ⟨aXy, aWo, rX⟩ := Kd.at_string (Kd.R_reads' HO_5.out).2.2 (ji11) aGw aGx
   cases aWo
   replace aGw := eq_true aGw
   replace aGx := eq_true aGx
   have p18 : 0 ≤ ((ji11) : Int) := of_decide_eq_true Zc
   have q18 : ((ji11) : Int) < ((bA.length : Int) : Int) := of_decide_eq_true Zc
   obtain ⟨aGi, aWe, aBS, aBT, aGj, aWf, aBU⟩ := Kd.R_form HO_5.out Zl
   (first | cases aBS | (injection aBS with ea_ en_ ec_; (first | subst ea_ | (injection ea_ with ea_; subst ea_)); subst ec_; clear en_))
   have aGk := Ya.mk aBT
   have aGl := Ya.mk aBU
   clear aBT aGj aBU
   (first | simp only [add_plain] at rX | skip)
   obtain ⟨wI, wJ⟩ := Kd.R_celln (⟨#[]⟩ : ByteArray) HO_5.out ((ji11) : Int) p18 q18
   replace p18 := eq_true p18
   replace q18 := eq_true q18
   have wK := Kd.R_putn HO_5.out ((ji11) : Int) ((rdOf ByteArray.empty bA (ji11)) ++ (a0.extract (aD : Int).toNat ((wrap64 (aD + 1)) : Int).toNat))
   rw [← aKl.out] at wK
   have aBV := Ya.mk wK
   clear wK
   refine Yqh (n := 14) (S := fun w' => w'.cell? ⟨aGi, ((ji11)).toNat, none⟩ = some (.string (rdOf ByteArray.empty bA (ji11)))) (ds := [13]) #[false, false, false, false, false, false, false, false, false, false, false, false, false, false] Zi rfl rfl (rX) (fun hHeld => ?_); refine Yuh Yna.tab7 Yna.bits7 (fun HT_ HW_ => ?_)
   generalize wr.drew = w19 at HO_5 HB aGl aBV wJ wI rX hHeld ⊢
   refine Yqb (i := 0) (N := some 22) (v := ?_) (a' := ?_) #[true, false, false, false, false, false, false, false, false, false, false, false, false, false] rfl rfl (Ypb HT_.out Zi) (fun _ _ _ h => h) (Or.inl ⟨Zja, ?_⟩) ?_ ?_
   rotate_left
   ·exact Zzb
   rotate_left
   ·exact Zac
   refine Yqb (i := 1) (N := some 23) (v := ?_) (a' := ?_) #[true, true, false, false, false, false, false, false, false, false, false, false, false, false] rfl rfl (Ypb HT_.out Zi) (fun _ _ _ h => h) (Or.inl ⟨Zja, ?_⟩) ?_ ?_
   rotate_left
   ·exact Zzb
   rotate_left
   ·exact Zac
   refine Yqb (i := 2) (N := some 24) (v := ?_) (a' := ?_) #[true, true, true, false, false, false, false, false, false, false, false, false, false, false] rfl rfl (Ypb HT_.out Zi) (fun _ _ _ h => h) (Or.inl ⟨Zja, ?_⟩) ?_ ?_
   rotate_left
   ·exact Zzb
   rotate_left
   ·exact Zac
   refine Yqb (i := 3) (N := some 25) (v := ?_) (a' := ?_) #[true, true, true, true, false, false, false, false, false, false, false, false, false, false] rfl rfl (Ypb HT_.out Zi) (fun _ _ _ h => h) (Or.inl ⟨Zja, ?_⟩) ?_ ?_
   rotate_left
   ·exact Zzb
   rotate_left
   ·exact Zac
   refine Yqb (i := 4) (N := some 26) (v := ?_) (a' := ?_) #[true, true, true, true, true, false, false, false, false, false, false, false, false, false] rfl rfl (Ypb HT_.out Zi) (fun _ _ _ h => h) (Or.inl ⟨Zja, ?_⟩) ?_ ?_
   rotate_left
   ·exact Zzb
   rotate_left
   ·exact Zac
   refine Yqb (i := 6) (N := some 28) (v := ?_) (a' := ?_) #[true, true, true, true, true, false, true, false, false, false, false, false, false, false] rfl rfl (Ypb HT_.out Zi) (fun _ _ _ h => h) (Or.inl ⟨Zja, ?_⟩) ?_ ?_
   rotate_left
   ·exact Zzb
   rotate_left
   ·exact Zac
   refine Yqb (i := 7) (N := some 29) (v := ?_) (a' := ?_) #[true, true, true, true, true, false, true, true, false, false, false, false, false, false] rfl rfl (Ypb HT_.out Zi) (fun _ _ _ h => h) (Or.inl ⟨Zja, ?_⟩) ?_ ?_
   rotate_left
   ·exact Zzb
   rotate_left
   ·exact Zac
   refine Yqb (i := 8) (N := some 30) (v := ?_) (a' := ?_) #[true, true, true, true, true, false, true, true, true, false, false, false, false, false] rfl rfl (Ypb HT_.out Zi) (fun _ _ _ h => h) (Or.inl ⟨Zja, ?_⟩) ?_ ?_
   rotate_left
   ·exact Zzb
   rotate_left
   ·exact Zac
   refine Yqb (i := 9) (N := some 31) (v := ?_) (a' := ?_) #[true, true, true, true, true, false, true, true, true, true, false, false, false, false] rfl rfl (Ypb HT_.out Zi) (fun _ _ _ h => h) (Or.inl ⟨Zja, ?_⟩) ?_ ?_
   rotate_left
   ·exact Zzb
   rotate_left
   ·exact Zac
   refine Yqb (i := 10) (N := some 32) (v := ?_) (a' := ?_) #[true, true, true, true, true, false, true, true, true, true, true, false, false, false] rfl rfl (Ypb HT_.out Zi) (fun _ _ _ h => h) (Or.inl ⟨Zja, ?_⟩) ?_ ?_
   rotate_left
   ·exact Zzb
   rotate_left
   ·exact Zac
   refine Ylf (i := 5) (N := some 27) (v := ?_) (a' := ?_) #[true, true, true, true, true, true, true, true, true, true, true, false, false, false] rfl rfl (Yne HT_.out HW_.out Zi) (fun _ _ _ h => h) (Or.inl ⟨Zja, ?_⟩) hHeld ?_ ?_
   rotate_left
   ·intro w' s0
    go_simp
    with_reducible rfl
   rotate_left
   ·exact Zac
   refine Yqb (i := 11) (N := some 33) (v := ?_) (a' := ?_) #[true, true, true, true, true, true, true, true, true, true, true, true, false, false] rfl rfl (Ypb HT_.out Zi) (fun _ _ _ h => h) (Or.inl ⟨Zja, ?_⟩) ?_ ?_
   rotate_left
   ·exact Zzb
   rotate_left
   ·exact Zac
   refine Yqb (i := 12) (N := some 34) (v := ?_) (a' := ?_) #[true, true, true, true, true, true, true, true, true, true, true, true, true, false] rfl rfl (Ypb HT_.out Zi) (fun _ _ _ h => h) (Or.inl ⟨Zja, ?_⟩) ?_ ?_
   rotate_left
   ·exact Zzb
   rotate_left
   ·exact Zac
   refine Yao (i := 13) (N := none) #[true, true, true, true, true, true, true, true, true, true, true, true, true, true] rfl rfl (Yyf HT_.out Zi) Zea (fun K hK => ?_)
   refine Yhm (w1 := ?_) Zja rfl ?_ ?_
   rotate_left
   ·go_simp
    rfl
   refine hK.out _ _ ?_
   clear hK K
   refine Yxi (Yhj HT_.out Zi) ?_
   try go_wp2
   go_roundg k1
   case measure => have := dD.out; omega
   case rel => exact ⟨(aKk), (wrap64 (aD + 1)), Zf, H', ⟨Zaa⟩, ⟨by (with_reducible repeat (first | apply Kd.R_alloc | apply Kd.R_drewN | apply Kd.R_drew)); exact aBV.out⟩, ⟨by repeat (first | (with_reducible first | exact HB.out | apply Yd | apply Yb | apply Yc | refine Yg ?_ aGk.out) | exact HB.out)⟩⟩
def Yeb.l0 : Nat → Int → ByteArray → Option (ByteArray)
 | 0, _, _ => none
 | k + 1, x0, x3 => (some (([(IntKind.u64.wrap (48 + (Int.tmod x0 10))) % 256] : List Int) : List Int)).bind fun pC => (if (strOfNums pC).size + x3.size ≤ 9223372036854775807 then (if (IntKind.u64.wrap (Int.tdiv x0 10)) = 0 then (some ((strOfNums pC) ++ x3)) else (Yeb.l0 k (IntKind.u64.wrap (Int.tdiv x0 10)) ((strOfNums pC) ++ x3))) else (none))
def Yeb.f (k : Nat) (a0 : Int) : Option (ByteArray) := Yeb.l0 k a0 (⟨#[]⟩ : ByteArray)
theorem Yeb.calls (k : Nat) (a0 : Int) (r : ByteArray) (w : World) (hE : EnvOk w) (h : Yeb.f k a0 = some r) :
  Calls Tryz.prog 131 #[.int .u64 a0] w fun e w' => e = .returned (.string r) ∧ Below w.heap.size w w' := by
 have HE := Ya.mk hE
 clear hE
 have HB := Ya.mk (Below.refl w.heap.size w)
 have H : (Yeb.l0 k a0 (⟨#[]⟩ : ByteArray)) = some r := h
 clear h
 have H' := Ya.mk H
 clear H
 go_enter Tryz.func131, Tryz.ntmps131
 go_wp2
 go_loopg [0, 3] k (fun kq v0 v3 w' => ∃ (aX : Int) (aE : ByteArray), v0 = .int .u64 aX ∧ v3 = .string aE ∧ Ya (Yeb.l0 kq aX aE = some r) ∧ Ya (kq ≤ k) ∧ Ya (Below w.heap.size w w'))
 case atStart => exact ⟨(a0), ((⟨#[]⟩ : ByteArray)), Zf, Zf, H', ⟨Nat.le_refl _⟩, ⟨Za⟩⟩
 case round =>
  clear H'
  try clear c1
  obtain ⟨aX, aE, rfl, rfl, HA, dD, HB⟩ := hrel
  cases gk with
  | zero => exact absurd HA.out (by simp [Yeb.l0])
  | succ k1 =>
   have H := HA.out
   clear HA
   simp only [Yeb.l0] at H
   obtain ⟨pC, uP⟩ : ∃ y_ : List Int, y_ = (([(IntKind.u64.wrap (48 + (Int.tmod aX 10))) % 256] : List Int)) := ⟨_, rfl⟩
   replace H : (if (strOfNums pC).size + aE.size ≤ 9223372036854775807 then (if (IntKind.u64.wrap (Int.tdiv aX 10)) = 0 then (some ((strOfNums pC) ++ aE)) else (Yeb.l0 k1 (IntKind.u64.wrap (Int.tdiv aX 10)) ((strOfNums pC) ++ aE))) else (none)) = some r := by first | (rw [uP]; with_reducible exact H) | (have dK := (Option.bind_some _ _).symm.trans H; rw [uP]; with_reducible exact dK) | (have dK := (Option.bind_some _ _).symm.trans H; with_reducible exact dK) | with_reducible exact H | (rw [uP]; exact H) | exact H
   have aAi := Ya.mk uP
   clear uP
   by_cases c2 : (strOfNums pC).size + aE.size ≤ 9223372036854775807
   rotate_left
   ·rw [if_neg c2] at H
    exact absurd H Zv
   rw [if_pos c2] at H
   have eT := eq_true c2
   have kG : decide ((strOfNums pC).size + aE.size ≤ 9223372036854775807) = true := decide_eq_true c2
   try have aFM : (9223372036854775807 < (strOfNums pC).size + aE.size) = False := eq_false (Nat.not_lt.2 c2)
   by_cases c3 : (IntKind.u64.wrap (Int.tdiv aX 10)) = 0
   ·rw [if_pos c3] at H
    have cJ : ((IntKind.u64.wrap (Int.tdiv aX 10)) == 0) = true := beq_iff_eq.mpr c3
    have fY : ((IntKind.u64.wrap (Int.tdiv aX 10)) != 0) = false := bne_eq_false_iff_eq.mpr c3
    clear c3
    obtain rfl := Option.some.inj H
    go_wp2_with (first | ((with_reducible refine Ywc (N := 8) rfl ?_); refine Kd.R_lit (Kd.int .u8) _ 5 ?hg (N := 8) ?hd (xs := ([(IntKind.u64.wrap (48 + (Int.tmod aX 10))) % 256] : List Int)) (inner := [.int .u8 ((IntKind.u64.wrap (48 + (Int.tmod aX 10))) % 256)]) (ok := fun _ => True) (okp := fun _ => True) ?hr ?hp (fun _ hk => hk) trivial (Below.refl _ _) (Nat.le_refl _) Zv ?_; (case hd => rfl); (case hg => rfl); (case hr => first | (go_simp; done) | (go_simp; rfl)); (case hp => exact (Reps.one (show Kd.M (Kd.int .u8) _ _ _ ((IntKind.u64.wrap (48 + (Int.tmod aX 10))) % 256) [.int .u8 ((IntKind.u64.wrap (48 + (Int.tmod aX 10))) % 256)] from rfl) (Reps.none _ _))); intro aWp w4 ho5 hb hg_ hnew_; clear hg_ hnew_; (first | rw [← aAi.out] at ho5 | (simp only [Int.reduceToNat] at ho5; rw [← aAi.out] at ho5)); have aM := Ya.mk (Kd.R_lower ho5 (Yda Za)); have aU := Ya.mk (Ys Za hb); clear HB; have aCc := aM; have HB := aU; clear aM aU; clear hb ho5; have aYz := Ygh (P := Tryz.prog) Tryz.underlying62 Tryz.underlying5 Tryz.underlying9 (Kd.own_of_R aCc.out)))
    go_ret
    exact ⟨Zk, Za⟩
   rw [if_neg c3] at H
   have cJ : ((IntKind.u64.wrap (Int.tdiv aX 10)) == 0) = false := beq_eq_false_iff_ne.mpr c3
   have fY : ((IntKind.u64.wrap (Int.tdiv aX 10)) != 0) = true := bne_iff_ne.mpr c3
   have H' := Ya.mk H
   clear H
   go_wp2_with (first | ((with_reducible refine Ywc (N := 8) rfl ?_); refine Kd.R_lit (Kd.int .u8) _ 5 ?hg (N := 8) ?hd (xs := ([(IntKind.u64.wrap (48 + (Int.tmod aX 10))) % 256] : List Int)) (inner := [.int .u8 ((IntKind.u64.wrap (48 + (Int.tmod aX 10))) % 256)]) (ok := fun _ => True) (okp := fun _ => True) ?hr ?hp (fun _ hk => hk) trivial (Below.refl _ _) (Nat.le_refl _) Zv ?_; (case hd => rfl); (case hg => rfl); (case hr => first | (go_simp; done) | (go_simp; rfl)); (case hp => exact (Reps.one (show Kd.M (Kd.int .u8) _ _ _ ((IntKind.u64.wrap (48 + (Int.tmod aX 10))) % 256) [.int .u8 ((IntKind.u64.wrap (48 + (Int.tmod aX 10))) % 256)] from rfl) (Reps.none _ _))); intro aWp w7 ho8 hb hg_ hnew_; clear hg_ hnew_; (first | rw [← aAi.out] at ho8 | (simp only [Int.reduceToNat] at ho8; rw [← aAi.out] at ho8)); have aM := Ya.mk (Kd.R_lower ho8 (Yda Za)); have aU := Ya.mk (Ys Za hb); clear HB; have aCc := aM; have HB := aU; clear aM aU; clear hb ho8; have aYA := Ygh (P := Tryz.prog) Tryz.underlying62 Tryz.underlying5 Tryz.underlying9 (Kd.own_of_R aCc.out)))
   go_roundg k1
   case measure => have := dD.out; omega
   case rel => exact ⟨(IntKind.u64.wrap (Int.tdiv aX 10)), ((strOfNums pC) ++ aE), Zf, Zf, H', ⟨Zaa⟩, ⟨Za⟩⟩
mutual
def Yya.j0 : Nat → Int → ByteArray → ByteArray → Option (ByteArray)
 | 0, _, _, _ => none
 | k + 1, x1, x5, x6 => Yya.l0 k x1 x5 x6
def Yya.l0 : Nat → Int → ByteArray → ByteArray → Option (ByteArray)
 | 0, _, _, _ => none
 | k + 1, x1, x5, x6 => if (x6.size : Int) < (mn x1 20) then (if 1 + x6.size ≤ 9223372036854775807 then (Yya.l0 k x1 x5 ((⟨#[48]⟩ : ByteArray) ++ x6)) else (none)) else (if x5.size + x6.size ≤ 9223372036854775807 then (some (x5 ++ x6)) else (none))
end
def Yya.f (k : Nat) (a0 a1 : Int) : Option (ByteArray) := if a0 < 0 then ((Yeb.f k (IntKind.u64.wrap ((IntKind.u64.wrap (wrap64 (-(wrap64 (a0 + 1))))) + 1))).bind fun aAz => (Yya.j0 k a1 (⟨#[45]⟩ : ByteArray) aAz)) else ((Yeb.f k (IntKind.u64.wrap (a0))).bind fun aAA => (Yya.j0 k a1 (⟨#[]⟩ : ByteArray) aAA))
theorem Yya.calls (k : Nat) (a0 a1 : Int) (r : ByteArray) (w : World) (hE : EnvOk w) (h : Yya.f k a0 a1 = some r) :
  Calls Tryz.prog 106 #[.int .i64 a0, .int .i64 a1] w fun e w' => e = .returned (.string r) ∧ Below w.heap.size w w' := by
 have HE := Ya.mk hE
 clear hE
 have HB := Ya.mk (Below.refl w.heap.size w)
 have H : (if a0 < 0 then ((Yeb.f k (IntKind.u64.wrap ((IntKind.u64.wrap (wrap64 (-(wrap64 (a0 + 1))))) + 1))).bind fun aAz => (Yya.j0 k a1 (⟨#[45]⟩ : ByteArray) aAz)) else ((Yeb.f k (IntKind.u64.wrap (a0))).bind fun aAA => (Yya.j0 k a1 (⟨#[]⟩ : ByteArray) aAA))) = some r := h
 clear h
 have qY := Ya.mk H
 clear H
 go_enter Tryz.func106, Tryz.ntmps106
 go_upto_if 8 with (fail)
 go_cut [5, 6] (fun v5 v6 wc => ∃ (kq : Nat) (dQ : ByteArray) (cN : ByteArray), v5 = .string dQ ∧ v6 = .string cN ∧ Ya (Yya.j0 kq a1 dQ cN = some r) ∧ Ya (kq ≤ k) ∧ Ya (Below w.heap.size w wc))
 case first =>
  have H := qY.out
  clear qY
  by_cases c4 : a0 < 0
  rotate_left
  ·rw [if_neg c4] at H
   have cF : decide (a0 < 0) = false := decide_eq_false c4
   clear c4
   (first | rw [cF] | (simp only [Yma, Yqa]; rw [cF]) | skip)
   replace H := Option.bind_eq_some_iff.mp H
   obtain ⟨aAA, oE, H⟩ := H
   try dsimp -simprocs only at H
   have A7 := Ya.mk oE
   clear oE
   have H' := Ya.mk H
   clear H
   go_wp2_with (first | ((with_reducible refine Yh (f := 131) rfl ?_); refine Yba (some 17) rfl rfl Tryz.func131 Zi rfl #[.int .u64 (IntKind.u64.wrap (a0))] rfl Zb ?_; (with_reducible refine (Yeb.calls k (IntKind.u64.wrap (a0)) aAA _ ?side1 A7.out).mono ?_); (case side1 => first | exact HE.out | exact EnvOk.below HE.out Za); rintro e w8 ⟨rfl, hb⟩; refine ⟨_, rfl, ?_⟩; have aM := Ya.mk (Ys Za hb); clear HB; have HB := aM; clear aM; (try clear hb); (try clear cC); (try clear hk); (try clear hi)))
   go_meet
   case rel => exact ⟨_, ((⟨#[]⟩ : ByteArray)), (aAA), Zf, Zf, H', ⟨Zna⟩, ⟨Za⟩⟩
  rw [if_pos c4] at H
  have cF : decide (a0 < 0) = true := decide_eq_true c4
  clear c4
  (first | rw [cF] | (simp only [Yma, Yqa]; rw [cF]) | skip)
  replace H := Option.bind_eq_some_iff.mp H
  obtain ⟨aAz, tT, H⟩ := H
  try dsimp -simprocs only at H
  have A5 := Ya.mk tT
  clear tT
  have H' := Ya.mk H
  clear H
  go_wp2_with (first | ((with_reducible refine Yh (f := 131) rfl ?_); refine Yba (some 14) rfl rfl Tryz.func131 Zi rfl #[.int .u64 (IntKind.u64.wrap ((IntKind.u64.wrap (wrap64 (-(wrap64 (a0 + 1))))) + 1))] rfl Zb ?_; (with_reducible refine (Yeb.calls k (IntKind.u64.wrap ((IntKind.u64.wrap (wrap64 (-(wrap64 (a0 + 1))))) + 1)) aAz _ ?side1 A5.out).mono ?_); (case side1 => first | exact HE.out | exact EnvOk.below HE.out Za); rintro e w6 ⟨rfl, hb⟩; refine ⟨_, rfl, ?_⟩; have aM := Ya.mk (Ys Za hb); clear HB; have HB := aM; clear aM; (try clear hb); (try clear cC); (try clear hk); (try clear hi)))
  go_meet
  case rel => exact ⟨_, ((⟨#[45]⟩ : ByteArray)), (aAz), Zf, Zf, H', ⟨Zna⟩, ⟨Za⟩⟩
 case rest =>
  clear qY
  try clear c1
  try clear p2
  try clear c4
  try clear cF
  try clear p6
  obtain ⟨kq, dQ, cN, rfl, rfl, HA, qD, HB⟩ := hcut
  cases kq with
  | zero => exact absurd HA.out (by simp [Yya.j0])
  | succ nM =>
   have H := HA.out
   clear HA
   simp only [Yya.j0] at H
   have H' := Ya.mk H
   clear H
   go_wp2
   go_loopg [6] nM (fun kq v6 w' => ∃ (cN : ByteArray), v6 = .string cN ∧ Ya (Yya.l0 kq a1 dQ cN = some r) ∧ Ya (kq ≤ nM) ∧ Ya (Below w.heap.size w w'))
   case atStart => exact ⟨(cN), Zf, H', ⟨Nat.le_refl _⟩, ⟨Za⟩⟩
   case round =>
    clear H'
    try clear c1
    try clear p2
    try clear c4
    try clear cF
    try clear p6
    try clear p2
    try clear p6
    obtain ⟨cN, rfl, HA, kB, HB⟩ := hrel
    cases gk with
    | zero => exact absurd HA.out (by simp [Yya.l0])
    | succ k2 =>
     have H := HA.out
     clear HA
     simp only [Yya.l0] at H
     obtain ⟨ji9, pS⟩ : ∃ j_ : Int, (mn a1 20) = j_ := ⟨_, rfl⟩
     replace H : (if (cN.size : Int) < (ji9) then (if 1 + cN.size ≤ 9223372036854775807 then (Yya.l0 k2 a1 dQ ((⟨#[48]⟩ : ByteArray) ++ cN)) else (none)) else (if dQ.size + cN.size ≤ 9223372036854775807 then (some (dQ ++ cN)) else (none))) = some r := by first | (rw [pS] at H; exact H) | (simp only [pS] at H ⊢; exact H)
     have aId : (if 20 < a1 then 20 else a1) = ji9 := pS
     by_cases dR : (cN.size : Int) < (ji9)
     rotate_left
     ·rw [if_neg dR] at H
      have hH : decide ((cN.size : Int) < (ji9)) = false := decide_eq_false dR
      clear dR
      by_cases dG : dQ.size + cN.size ≤ 9223372036854775807
      rotate_left
      ·rw [if_neg dG] at H
       exact absurd H Zv
      rw [if_pos dG] at H
      have dV := eq_true dG
      have oL : decide (dQ.size + cN.size ≤ 9223372036854775807) = true := decide_eq_true dG
      try have aXz : (9223372036854775807 < dQ.size + cN.size) = False := eq_false (Nat.not_lt.2 dG)
      obtain rfl := Option.some.inj H
      go_wp2
      go_ret
      exact ⟨by first | rfl | (simp [Yl, Yk] <;> rfl) | (simp only [← pS]; first | rfl | (simp [Yl, Yk] <;> rfl)) | (simp [*, Yl, Yk] <;> rfl), Za⟩
     rw [if_pos dR] at H
     have hH : decide ((cN.size : Int) < (ji9)) = true := decide_eq_true dR
     clear dR
     by_cases c11 : 1 + cN.size ≤ 9223372036854775807
     rotate_left
     ·rw [if_neg c11] at H
      exact absurd H Zv
     rw [if_pos c11] at H
     have gU := eq_true c11
     have qM : decide (1 + cN.size ≤ 9223372036854775807) = true := decide_eq_true c11
     try have aJp : (9223372036854775807 < 1 + cN.size) = False := eq_false (Nat.not_lt.2 c11)
     have H' := Ya.mk H
     clear H
     go_wp2
     go_roundg k2
     case measure => have := qD.out; have := kB.out; omega
     case rel => exact ⟨((⟨#[48]⟩ : ByteArray) ++ cN), Zf, H', ⟨Zza⟩, ⟨Za⟩⟩
def Yxc.f (k : Nat) (a0 : Int) : Option (ByteArray) := (Yya.f k a0 1).bind fun aCd => (some aCd)
theorem Yxc.calls (k : Nat) (a0 : Int) (r : ByteArray) (w : World) (hE : EnvOk w) (h : Yxc.f k a0 = some r) :
  Calls Tryz.prog 67 #[.int .i64 a0] w fun e w' => e = .returned (.string r) ∧ Below w.heap.size w w' := by
 have HE := Ya.mk hE
 clear hE
 have HB := Ya.mk (Below.refl w.heap.size w)
 have H : ((Yya.f k a0 1).bind fun aCd => (some aCd)) = some r := h
 clear h
 replace H := Option.bind_eq_some_iff.mp H
 obtain ⟨aCd, dU, H⟩ := H
 try dsimp -simprocs only at H
 have A2 := Ya.mk dU
 clear dU
 obtain rfl := Option.some.inj H
 go_enter Tryz.func67, Tryz.ntmps67
 go_wp2_with (first | ((with_reducible refine Yh (f := 106) rfl ?_); refine Yba (some 4) rfl rfl Tryz.func106 Zi rfl #[.int .i64 a0, .int .i64 1] rfl Zb ?_; (with_reducible refine (Yya.calls k a0 1 aCd _ ?side1 A2.out).mono ?_); (case side1 => first | exact HE.out | exact EnvOk.below HE.out Za); rintro e w3 ⟨rfl, hb⟩; refine ⟨_, rfl, ?_⟩; have aM := Ya.mk (Ys Za hb); clear HB; have HB := aM; clear aM; (try clear hb); (try clear cC); (try clear hk); (try clear hi)))
 go_ret
 exact ⟨Zk, Za⟩
def Yrd.f (k : Nat) (a0 : ByteArray) : Option (Bool) := (Yaa.f k a0 255).bind fun uQ => (if uQ.2 = 0 then ((Yxc.f k uQ.1).bind fun aCe => (some (aCe.toList == a0.toList))) else (some false))
theorem Yrd.calls (k : Nat) (a0 : ByteArray) (r : Bool) (w : World) (hE : EnvOk w) (h : Yrd.f k a0 = some r) :
  Calls Tryz.prog 99 #[.string a0] w fun e w' => e = .returned (.bool r) ∧ Below w.heap.size w w' := by
 have HE := Ya.mk hE
 clear hE
 have HB := Ya.mk (Below.refl w.heap.size w)
 have H : ((Yaa.f k a0 255).bind fun uQ => (if uQ.2 = 0 then ((Yxc.f k uQ.1).bind fun aCe => (some (aCe.toList == a0.toList))) else (some false))) = some r := h
 clear h
 replace H := Option.bind_eq_some_iff.mp H
 obtain ⟨⟨aGy, wN⟩, dU, H⟩ := H
 try dsimp -simprocs only at H
 have A2 := Ya.mk dU
 clear dU
 by_cases c3 : wN = 0
 rotate_left
 ·rw [if_neg c3] at H
  have cJ : (wN == 0) = false := beq_eq_false_iff_ne.mpr c3
  have fY : (wN != 0) = true := bne_iff_ne.mpr c3
  obtain rfl := Option.some.inj H
  go_enter Tryz.func99, Tryz.ntmps99
  go_wp2_with (first | ((with_reducible refine Yh (f := 89) rfl ?_); refine Yba (some 7) rfl rfl Tryz.func89 Zi rfl #[.string a0, .int .i64 255] rfl Zb ?_; (with_reducible refine (Yaa.calls k a0 255 aGy wN _ ?side1 A2.out).mono ?_); (case side1 => first | exact HE.out | exact EnvOk.below HE.out Za); rintro e w' ⟨rfl, ⟨nd, rfl⟩⟩; refine ⟨_, rfl, ?_⟩))
  go_ret
  exact ⟨Zk, Za⟩
 rw [if_pos c3] at H
 have cJ : (wN == 0) = true := beq_iff_eq.mpr c3
 have fY : (wN != 0) = false := bne_eq_false_iff_eq.mpr c3
 clear c3
 replace H := Option.bind_eq_some_iff.mp H
 obtain ⟨aCe, qH, H⟩ := H
 try dsimp -simprocs only at H
 have A4 := Ya.mk qH
 clear qH
 obtain rfl := Option.some.inj H
 go_enter Tryz.func99, Tryz.ntmps99
 go_wp2_with (first | ((with_reducible refine Yh (f := 89) rfl ?_); refine Yba (some 7) rfl rfl Tryz.func89 Zi rfl #[.string a0, .int .i64 255] rfl Zb ?_; (with_reducible refine (Yaa.calls k a0 255 aGy wN _ ?side1 A2.out).mono ?_); (case side1 => first | exact HE.out | exact EnvOk.below HE.out Za); rintro e w' ⟨rfl, ⟨nd, rfl⟩⟩; refine ⟨_, rfl, ?_⟩) | (go_at_call 67; (with_reducible refine (Yxc.calls k aGy aCe _ ?side1 A4.out).mono ?_); (case side1 => first | exact HE.out | exact EnvOk.below HE.out Za); rintro e w5 ⟨rfl, hb⟩; have aM := Ya.mk (Ys Za hb); clear HB; have HB := aM; clear aM; (try clear hb); (try clear cC); (try clear hk); (try clear hi)))
 go_ret
 exact ⟨Zk, Za⟩
end Go.Proofs.YtnmglnglbdpjjaaGreatDoor.X
