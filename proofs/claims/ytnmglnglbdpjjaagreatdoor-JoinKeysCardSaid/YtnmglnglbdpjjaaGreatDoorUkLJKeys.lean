/- JoinKeys: what a call of it does. -/
import Derived.Test.YtnmglnglbdpjjaaGreatDoorUkWords
import Derived.Test.YtnmglnglbdpjjaaGreatDoorUkJq
import Derived.Test.YtnmglnglbdpjjaaGreatDoorUkRow
import Derived.Test.YtnmglnglbdpjjaaGreatDoorUkJr
namespace Go.Proofs.YtnmglnglbdpjjaaGreatDoor.X
open Go.RowKit Go.Lib Go.Shelf Go.Yw.PrintWords Go.Yw.PrintLast Go.Yw.PrintMore
set_option linter.unusedVariables false
set_option linter.unusedSimpArgs false
set_option maxHeartbeats 8000000
set_option maxRecDepth 100000
attribute [local go_sem high] eqSame
def Yfn : Bool × List (List Nat × List Nat) := (true, [([], []), ([0], [0]), ([], []), ([2, 1], [2]), ([1, 3], [1, 3]), ([4, 3], [4]), ([5], [5]), ([5], [5]), ([6, 7, 5, 5], [5, 6, 7]), ([5], [5]), ([9, 8, 5], [5, 9]), ([5], [5]), ([11, 10, 5], [5, 11]), ([10, 12, 5], [5, 10, 12]), ([8, 13, 5], [5, 8, 13]), ([5, 14], [5, 14]), ([15, 12], [15]), ([16], [16]), ([16], [16]), ([17, 18, 16, 16], [16, 17, 18]), ([16], [16]), ([16], [16]), ([20, 21, 19, 16], [16, 20, 21]), ([19, 22, 16], [16, 19, 22]), ([16, 23], [16, 23]), ([24, 22], [24]), ([25, 25], [25]), ([25, 26], [25, 26]), ([27, 26, 0, 1, 2, 3, 4, 5, 6, 7, 8, 9, 10, 11, 12, 13, 14, 15, 16, 17, 18, 19, 20, 21, 22, 23, 24, 25, 26, 27], [27])])
def Ybs : List Nat := [0, 1, 0, 7, 15, 31, 63, 63, 255, 63, 1023, 63, 4095, 8191, 16383, 32767, 65535, 131071, 131071, 524287, 131071, 131071, 4194303, 8388607, 16777215, 33554431, 67108863, 134217727, 268435455]
theorem Yrp : rtab .any (opsOf Tryz.f12 3) = Yfn := by kernel_rfl
theorem Yvn : Yoh Yfn.2 Ybs = true := by kernel_rfl
theorem Yir (k0 k1 : Nat) (b1 b2 : ByteArray) (b3 : Int) (b4 b5 b6 : ByteArray) (b7 b8 : Bool) (u1 u2 : ByteArray) (u3 : Int) (u4 u5 u6 : ByteArray) (u7 u8 : Bool) (w : World) (hE : EnvOk w)
  (hf : Yra.f k0 b1 b2 b3 b4 b5 b6 b7 b8 = some true) :
  Calls Tryz.prog 12 #[.agg (uc b1 b2 b3 b4 b5 b6 b7 b8), .agg (uc u1 u2 u3 u4 u5 u6 u7 u8)] w fun e w' => e = .returned (.bool true) ∧ Below w.heap.size w w' := by
 have HE := Ya.mk hE
 have HF := Ya.mk hf
 clear hE hf
 have cB := Tryz.underlying25
 have BK := Ya.mk (heap_alloc_new w (.cells (uc b1 b2 b3 b4 b5 b6 b7 b8) 25))
 have HB := Ya.mk ((Below.refl w.heap.size w).alloc (Nat.le_refl _) (.cells (uc b1 b2 b3 b4 b5 b6 b7 b8) 25))
 have BKq := Ya.mk (Yj BK.out (.cells (uc u1 u2 u3 u4 u5 u6 u7 u8) 25))
 clear BK
 have BK := BKq
 clear BKq
 have BU := Ya.mk (heap_alloc_new (w.alloc (.cells (uc b1 b2 b3 b4 b5 b6 b7 b8) 25)) (.cells (uc u1 u2 u3 u4 u5 u6 u7 u8) 25))
 rw [Ycc] at BU
 have HBq := Ya.mk (HB.out.alloc HB.out.size (.cells (uc u1 u2 u3 u4 u5 u6 u7 u8) 25))
 clear HB
 have HB := HBq
 clear HBq
 go_enter Tryz.func12, Tryz.ntmps12
 obtain ⟨bN, bM, bO, bS, bR, bQ, bT, bP⟩ := Yv BK.out
 go_wp2_with fail
 clear bN bM bO bS bR bQ bT bP
 refine (Yra.calls k0 b1 b2 b3 b4 b5 b6 b7 b8 true _ (HE.out.below HB.out) HF.out).mono ?_
 rintro e w1 ⟨rfl, hb⟩
 replace BK := Ya.mk (Yq BK.out hb)
 replace BU := Ya.mk (Yq BU.out hb)
 replace HB := Ya.mk (HB.out.trans (hb.mono HB.out.size))
 clear hb
 go_wp2_with fail
 refine (Ydk _ (HE.out.below HB.out)).mono ?_
 rintro e w2 ⟨rfl, hb⟩
 replace BK := Ya.mk (Yq BK.out hb)
 replace BU := Ya.mk (Yq BU.out hb)
 replace HB := Ya.mk (HB.out.trans (hb.mono HB.out.size))
 clear hb
 go_wp2_with fail
 go_ret
 exact ⟨rfl, HB.out⟩
theorem Yvq (k0 k1 : Nat) (b1 b2 : ByteArray) (b3 : Int) (b4 b5 b6 : ByteArray) (b7 b8 : Bool) (u1 u2 : ByteArray) (u3 : Int) (u4 u5 u6 : ByteArray) (u7 u8 : Bool) (w : World) (hE : EnvOk w)
  (hf : Yra.f k0 b1 b2 b3 b4 b5 b6 b7 b8 = some false)
  (hg : Yra.f k1 u1 u2 u3 u4 u5 u6 u7 u8 = some true) :
  Calls Tryz.prog 12 #[.agg (uc b1 b2 b3 b4 b5 b6 b7 b8), .agg (uc u1 u2 u3 u4 u5 u6 u7 u8)] w fun e w' => e = .returned (.bool true) ∧ Below w.heap.size w w' := by
 have HE := Ya.mk hE
 have HF := Ya.mk hf
 have HG := Ya.mk hg
 clear hE hf hg
 have cB := Tryz.underlying25
 have BK := Ya.mk (heap_alloc_new w (.cells (uc b1 b2 b3 b4 b5 b6 b7 b8) 25))
 have HB := Ya.mk ((Below.refl w.heap.size w).alloc (Nat.le_refl _) (.cells (uc b1 b2 b3 b4 b5 b6 b7 b8) 25))
 have BKq := Ya.mk (Yj BK.out (.cells (uc u1 u2 u3 u4 u5 u6 u7 u8) 25))
 clear BK
 have BK := BKq
 clear BKq
 have BU := Ya.mk (heap_alloc_new (w.alloc (.cells (uc b1 b2 b3 b4 b5 b6 b7 b8) 25)) (.cells (uc u1 u2 u3 u4 u5 u6 u7 u8) 25))
 rw [Ycc] at BU
 have HBq := Ya.mk (HB.out.alloc HB.out.size (.cells (uc u1 u2 u3 u4 u5 u6 u7 u8) 25))
 clear HB
 have HB := HBq
 clear HBq
 go_enter Tryz.func12, Tryz.ntmps12
 obtain ⟨bN, bM, bO, bS, bR, bQ, bT, bP⟩ := Yv BK.out
 go_wp2_with fail
 clear bN bM bO bS bR bQ bT bP
 refine (Yra.calls k0 b1 b2 b3 b4 b5 b6 b7 b8 false _ (HE.out.below HB.out) HF.out).mono ?_
 rintro e w1 ⟨rfl, hb⟩
 replace BK := Ya.mk (Yq BK.out hb)
 replace BU := Ya.mk (Yq BU.out hb)
 replace HB := Ya.mk (HB.out.trans (hb.mono HB.out.size))
 clear hb
 obtain ⟨bN, bM, bO, bS, bR, bQ, bT, bP⟩ := Yv BU.out
 go_wp2_with fail
 clear bN bM bO bS bR bQ bT bP
 refine (Yra.calls k1 u1 u2 u3 u4 u5 u6 u7 u8 true _ (HE.out.below HB.out) HG.out).mono ?_
 rintro e w2 ⟨rfl, hb⟩
 replace BK := Ya.mk (Yq BK.out hb)
 replace BU := Ya.mk (Yq BU.out hb)
 replace HB := Ya.mk (HB.out.trans (hb.mono HB.out.size))
 clear hb
 go_wp2_with fail
 refine (Ydk _ (HE.out.below HB.out)).mono ?_
 rintro e w3 ⟨rfl, hb⟩
 replace BK := Ya.mk (Yq BK.out hb)
 replace BU := Ya.mk (Yq BU.out hb)
 replace HB := Ya.mk (HB.out.trans (hb.mono HB.out.size))
 clear hb
 go_wp2_with fail
 go_ret
 exact ⟨rfl, HB.out⟩
theorem Yop (k0 k1 k2 k3 k4 k5 : Nat) (b1 b2 : ByteArray) (b3 : Int) (b4 b5 b6 : ByteArray) (b7 b8 : Bool) (u1 u2 : ByteArray) (u3 : Int) (u4 u5 u6 : ByteArray) (u7 u8 : Bool) (ka kb l : ByteArray) (sm : Bool) (w : World) (hE : EnvOk w)
  (hf : Yra.f k0 b1 b2 b3 b4 b5 b6 b7 b8 = some false)
  (hg : Yra.f k1 u1 u2 u3 u4 u5 u6 u7 u8 = some false)
  (hk : Ynf.f k2 b1 b2 b3 b4 b5 b6 b7 b8 = some ka)
  (hr : Yvd.f k3 b1 b2 b3 b4 b5 b6 b7 b8 = some ka)
  (hs : Yhi.f k4 b1 b2 b3 b4 b5 b6 b7 b8 u1 u2 u3 u4 u5 u6 u7 u8 = some sm)
  (ht : Yvd.f k5 u1 u2 u3 u4 u5 u6 u7 u8 = some kb)
  (hm : (ka.toList == kb.toList) = sm)
  (ha : Room b1 b2 b3 b4 b5 b6)
  (hc : Room u1 u2 u3 u4 u5 u6)
  (hd : (Ykc b1 b2 b3 b4 b5 b6 b7 b8).size ≤ 1000000)
  (hg_ : (Ykc u1 u2 u3 u4 u5 u6 u7 u8).size ≤ 1000000)
  (hl : Ykm b1 b2 b3 b4 b5 b6 b7 b8 u1 u2 u3 u4 u5 u6 u7 u8 = l) :
  Calls Tryz.prog 12 #[.agg (uc b1 b2 b3 b4 b5 b6 b7 b8), .agg (uc u1 u2 u3 u4 u5 u6 u7 u8)] w fun e w' => e = .returned (.bool true) ∧ Below w.heap.size w w' := by
 have HE := Ya.mk hE
 have HF := Ya.mk hf
 have HG := Ya.mk hg
 have HK := Ya.mk hk
 have HR := Ya.mk hr
 have HS := Ya.mk hs
 have HT := Ya.mk ht
 have HM := Ya.mk hm
 have HA := Ya.mk ha
 have HC := Ya.mk hc
 have HD := Ya.mk hd
 have HG_ := Ya.mk hg_
 have HL := Ya.mk hl
 clear hE hf hg hk hr hs ht hm ha hc hd hg_ hl
 have cB := Tryz.underlying25
 have BK := Ya.mk (heap_alloc_new w (.cells (uc b1 b2 b3 b4 b5 b6 b7 b8) 25))
 have HB := Ya.mk ((Below.refl w.heap.size w).alloc (Nat.le_refl _) (.cells (uc b1 b2 b3 b4 b5 b6 b7 b8) 25))
 have BKq := Ya.mk (Yj BK.out (.cells (uc u1 u2 u3 u4 u5 u6 u7 u8) 25))
 clear BK
 have BK := BKq
 clear BKq
 have BU := Ya.mk (heap_alloc_new (w.alloc (.cells (uc b1 b2 b3 b4 b5 b6 b7 b8) 25)) (.cells (uc u1 u2 u3 u4 u5 u6 u7 u8) 25))
 rw [Ycc] at BU
 have HBq := Ya.mk (HB.out.alloc HB.out.size (.cells (uc u1 u2 u3 u4 u5 u6 u7 u8) 25))
 clear HB
 have HB := HBq
 clear HBq
 go_enter Tryz.func12, Tryz.ntmps12
 obtain ⟨bN, bM, bO, bS, bR, bQ, bT, bP⟩ := Yv BK.out
 go_wp2_with fail
 clear bN bM bO bS bR bQ bT bP
 refine (Yra.calls k0 b1 b2 b3 b4 b5 b6 b7 b8 false _ (HE.out.below HB.out) HF.out).mono ?_
 rintro e w1 ⟨rfl, hb⟩
 replace BK := Ya.mk (Yq BK.out hb)
 replace BU := Ya.mk (Yq BU.out hb)
 replace HB := Ya.mk (HB.out.trans (hb.mono HB.out.size))
 clear hb
 obtain ⟨bN, bM, bO, bS, bR, bQ, bT, bP⟩ := Yv BU.out
 go_wp2_with fail
 clear bN bM bO bS bR bQ bT bP
 refine (Yra.calls k1 u1 u2 u3 u4 u5 u6 u7 u8 false _ (HE.out.below HB.out) HG.out).mono ?_
 rintro e w2 ⟨rfl, hb⟩
 replace BK := Ya.mk (Yq BK.out hb)
 replace BU := Ya.mk (Yq BU.out hb)
 replace HB := Ya.mk (HB.out.trans (hb.mono HB.out.size))
 clear hb
 go_wp2_with fail
 refine Yqh (n := 29) (S := fun w' => (w'.cell? ⟨w.heap.size, 0, none⟩ = some (.string b1) ∧ w'.cell? ⟨w.heap.size, 1, none⟩ = some (.string b2) ∧ w'.cell? ⟨w.heap.size, 2, none⟩ = some (.int .i64 b3) ∧ w'.cell? ⟨w.heap.size, 3, none⟩ = some (.string b4) ∧ w'.cell? ⟨w.heap.size, 4, none⟩ = some (.string b5) ∧ w'.cell? ⟨w.heap.size, 5, none⟩ = some (.string b6) ∧ w'.cell? ⟨w.heap.size, 6, none⟩ = some (.bool b7) ∧ w'.cell? ⟨w.heap.size, 7, none⟩ = some (.bool b8)) ∧ (w'.cell? ⟨w.heap.size + 1, 0, none⟩ = some (.string u1) ∧ w'.cell? ⟨w.heap.size + 1, 1, none⟩ = some (.string u2) ∧ w'.cell? ⟨w.heap.size + 1, 2, none⟩ = some (.int .i64 u3) ∧ w'.cell? ⟨w.heap.size + 1, 3, none⟩ = some (.string u4) ∧ w'.cell? ⟨w.heap.size + 1, 4, none⟩ = some (.string u5) ∧ w'.cell? ⟨w.heap.size + 1, 5, none⟩ = some (.string u6) ∧ w'.cell? ⟨w.heap.size + 1, 6, none⟩ = some (.bool u7) ∧ w'.cell? ⟨w.heap.size + 1, 7, none⟩ = some (.bool u8))) (ds := []) #[false, false, false, false, false, false, false, false, false, false, false, false, false, false, false, false, false, false, false, false, false, false, false, false, false, false, false, false, false] Zi rfl rfl ⟨Yv (Yr BK.out), Yv (Yr BU.out)⟩ (fun hHeld => ?_); refine Yuh Yrp Yvn (fun HT_ HW_ => ?_)
 replace BK := Ya.mk (Yr BK.out)
 replace BU := Ya.mk (Yr BU.out)
 replace HB := Ya.mk (Yc HB.out)
 generalize w2.drew = wd at BK BU HB hHeld ⊢
 have hkk : (ka.toList == ka.toList) = true := beq_self_eq_true _
 refine Ylf (i := 0) (N := some 12) (v := ?_) (a' := ?_) #[true, false, false, false, false, false, false, false, false, false, false, false, false, false, false, false, false, false, false, false, false, false, false, false, false, false, false, false, false] rfl rfl (Yne HT_.out HW_.out Zi) (fun _ _ _ h => h) (Or.inl ⟨Zja, ?_⟩) hHeld ?_ ?_
 rotate_left
 ·exact Zcc
 rotate_left
 ·exact Zac
 refine Ylf (i := 2) (N := some 14) (v := ?_) (a' := ?_) #[true, false, true, false, false, false, false, false, false, false, false, false, false, false, false, false, false, false, false, false, false, false, false, false, false, false, false, false, false] rfl rfl (Yne HT_.out HW_.out Zi) (fun _ _ _ h => h) (Or.inl ⟨Zja, ?_⟩) hHeld ?_ ?_
 rotate_left
 ·exact Zcc
 rotate_left
 ·exact Zac
 refine one_ (i := 1) (N := some 13) #[true, true, true, false, false, false, false, false, false, false, false, false, false, false, false, false, false, false, false, false, false, false, false, false, false, false, false, false, false] rfl rfl (Yyf HT_.out Zi) Zea (fun K hK => ?_)
 refine Yih Tryz.func36 Zi rfl #[.agg #[.string b1, .string b2, .int .i64 b3, .string b4, .string b5, .string b6, .bool b7, .bool b8]] Zja rfl rfl Zba ?_
 refine (Ynf.calls k2 b1 b2 b3 b4 b5 b6 b7 b8 ka _ (HE.out.below HB.out) HK.out).mono ?_
 rintro e we ⟨rfl, hb⟩
 refine ⟨_, rfl, ?_⟩
 replace BK := Ya.mk (Yq BK.out hb)
 replace BU := Ya.mk (Yq BU.out hb)
 replace HB := Ya.mk (HB.out.trans (hb.mono HB.out.size))
 clear hb
 refine hK.out _ _ ⟨Yv BK.out, Yv BU.out⟩ (fun hHeld => ?_)
 clear hK K
 refine Yxg (a' := ?_) ?_ ?_
 rotate_left
 ·show Act.put _ (some 13) _ = _
  simp only [Act.put, List.setIfInBounds_toArray, List.set_cons_zero, List.set_cons_succ, Yma, Yqa]
  rfl
 refine one_ (i := 3) (N := some 15) #[true, true, true, true, false, false, false, false, false, false, false, false, false, false, false, false, false, false, false, false, false, false, false, false, false, false, false, false, false] rfl rfl (Yyf HT_.out Zi) Zea (fun K hK => ?_)
 refine Yih Tryz.func41 Zi rfl #[.agg #[.string b1, .string b2, .int .i64 b3, .string b4, .string b5, .string b6, .bool b7, .bool b8]] Zja rfl rfl Zba ?_
 refine (Yvd.calls k3 b1 b2 b3 b4 b5 b6 b7 b8 ka _ (HE.out.below HB.out) HR.out).mono ?_
 rintro e we ⟨rfl, hb⟩
 refine ⟨_, rfl, ?_⟩
 replace BK := Ya.mk (Yq BK.out hb)
 replace BU := Ya.mk (Yq BU.out hb)
 replace HB := Ya.mk (HB.out.trans (hb.mono HB.out.size))
 clear hb
 refine hK.out _ _ ⟨Yv BK.out, Yv BU.out⟩ (fun hHeld => ?_)
 clear hK K
 refine Yxg (a' := ?_) ?_ ?_
 rotate_left
 ·show Act.put _ (some 15) _ = _
  simp only [Act.put, List.setIfInBounds_toArray, List.set_cons_zero, List.set_cons_succ, Yma, Yqa]
  rfl
 refine Yqb (i := 4) (N := some 16) (v := ?_) (a' := ?_) #[true, true, true, true, true, false, false, false, false, false, false, false, false, false, false, false, false, false, false, false, false, false, false, false, false, false, false, false, false] rfl rfl (Ypb HT_.out Zi) (fun _ _ _ h => h) (Or.inl ⟨Zja, ?_⟩) ?_ ?_
 rotate_left
 ·exact Zzb
 rotate_left
 ·exact Zac
 refine Yqb (i := 5) (N := some 17) (v := ?_) (a' := ?_) #[true, true, true, true, true, true, false, false, false, false, false, false, false, false, false, false, false, false, false, false, false, false, false, false, false, false, false, false, false] rfl rfl (Ypb HT_.out Zi) (fun _ _ _ h => h) (Or.inl ⟨Zja, ?_⟩) ?_ ?_
 rotate_left
 ·exact Zzb
 rotate_left
 ·exact Zac
 refine Ylf (i := 6) (N := some 18) (v := ?_) (a' := ?_) #[true, true, true, true, true, true, true, false, false, false, false, false, false, false, false, false, false, false, false, false, false, false, false, false, false, false, false, false, false] rfl rfl (Yne HT_.out HW_.out Zi) (fun _ _ _ h => h) (Or.inl ⟨Zja, ?_⟩) hHeld ?_ ?_
 rotate_left
 ·exact Zcc
 rotate_left
 ·exact Zac
 refine Ylf (i := 7) (N := some 19) (v := ?_) (a' := ?_) #[true, true, true, true, true, true, true, true, false, false, false, false, false, false, false, false, false, false, false, false, false, false, false, false, false, false, false, false, false] rfl rfl (Yne HT_.out HW_.out Zi) (fun _ _ _ h => h) (Or.inl ⟨Zja, ?_⟩) hHeld ?_ ?_
 rotate_left
 ·exact Zcc
 rotate_left
 ·exact Zac
 refine Ylf (i := 9) (N := some 21) (v := ?_) (a' := ?_) #[true, true, true, true, true, true, true, true, false, true, false, false, false, false, false, false, false, false, false, false, false, false, false, false, false, false, false, false, false] rfl rfl (Yne HT_.out HW_.out Zi) (fun _ _ _ h => h) (Or.inl ⟨Zja, ?_⟩) hHeld ?_ ?_
 rotate_left
 ·exact Zcc
 rotate_left
 ·exact Zac
 refine Ylf (i := 11) (N := some 23) (v := ?_) (a' := ?_) #[true, true, true, true, true, true, true, true, false, true, false, true, false, false, false, false, false, false, false, false, false, false, false, false, false, false, false, false, false] rfl rfl (Yne HT_.out HW_.out Zi) (fun _ _ _ h => h) (Or.inl ⟨Zja, ?_⟩) hHeld ?_ ?_
 rotate_left
 ·exact Zcc
 rotate_left
 ·exact Zac
 refine one_ (i := 8) (N := some 20) #[true, true, true, true, true, true, true, true, true, true, false, true, false, false, false, false, false, false, false, false, false, false, false, false, false, false, false, false, false] rfl rfl (Yyf HT_.out Zi) Zea (fun K hK => ?_)
 refine Yih Tryz.func37 Zi rfl #[.agg #[.string b1, .string b2, .int .i64 b3, .string b4, .string b5, .string b6, .bool b7, .bool b8], .agg #[.string u1, .string u2, .int .i64 u3, .string u4, .string u5, .string u6, .bool u7, .bool u8]] Zja rfl rfl Zba ?_
 refine (Yhi.calls k4 b1 b2 b3 b4 b5 b6 b7 b8 u1 u2 u3 u4 u5 u6 u7 u8 sm _ (HE.out.below HB.out) HS.out).mono ?_
 rintro e we ⟨rfl, hb⟩
 refine ⟨_, rfl, ?_⟩
 replace BK := Ya.mk (Yq BK.out hb)
 replace BU := Ya.mk (Yq BU.out hb)
 replace HB := Ya.mk (HB.out.trans (hb.mono HB.out.size))
 clear hb
 refine hK.out _ _ ⟨Yv BK.out, Yv BU.out⟩ (fun hHeld => ?_)
 clear hK K
 refine Yxg (a' := ?_) ?_ ?_
 rotate_left
 ·show Act.put _ (some 20) _ = _
  simp only [Act.put, List.setIfInBounds_toArray, List.set_cons_zero, List.set_cons_succ, Yma, Yqa]
  rfl
 refine one_ (i := 10) (N := some 22) #[true, true, true, true, true, true, true, true, true, true, true, true, false, false, false, false, false, false, false, false, false, false, false, false, false, false, false, false, false] rfl rfl (Yyf HT_.out Zi) Zea (fun K hK => ?_)
 refine Yih Tryz.func41 Zi rfl #[.agg #[.string b1, .string b2, .int .i64 b3, .string b4, .string b5, .string b6, .bool b7, .bool b8]] Zja rfl rfl Zba ?_
 refine (Yvd.calls k3 b1 b2 b3 b4 b5 b6 b7 b8 ka _ (HE.out.below HB.out) HR.out).mono ?_
 rintro e we ⟨rfl, hb⟩
 refine ⟨_, rfl, ?_⟩
 replace BK := Ya.mk (Yq BK.out hb)
 replace BU := Ya.mk (Yq BU.out hb)
 replace HB := Ya.mk (HB.out.trans (hb.mono HB.out.size))
 clear hb
 refine hK.out _ _ ⟨Yv BK.out, Yv BU.out⟩ (fun hHeld => ?_)
 clear hK K
 refine Yxg (a' := ?_) ?_ ?_
 rotate_left
 ·show Act.put _ (some 22) _ = _
  simp only [Act.put, List.setIfInBounds_toArray, List.set_cons_zero, List.set_cons_succ, Yma, Yqa]
  rfl
 refine one_ (i := 12) (N := some 24) #[true, true, true, true, true, true, true, true, true, true, true, true, true, false, false, false, false, false, false, false, false, false, false, false, false, false, false, false, false] rfl rfl (Yyf HT_.out Zi) Zea (fun K hK => ?_)
 refine Yih Tryz.func41 Zi rfl #[.agg #[.string u1, .string u2, .int .i64 u3, .string u4, .string u5, .string u6, .bool u7, .bool u8]] Zja rfl rfl Zba ?_
 refine (Yvd.calls k5 u1 u2 u3 u4 u5 u6 u7 u8 kb _ (HE.out.below HB.out) HT.out).mono ?_
 rintro e we ⟨rfl, hb⟩
 refine ⟨_, rfl, ?_⟩
 replace BK := Ya.mk (Yq BK.out hb)
 replace BU := Ya.mk (Yq BU.out hb)
 replace HB := Ya.mk (HB.out.trans (hb.mono HB.out.size))
 clear hb
 refine hK.out _ _ ⟨Yv BK.out, Yv BU.out⟩ (fun hHeld => ?_)
 clear hK K
 refine Yxg (a' := ?_) ?_ ?_
 rotate_left
 ·show Act.put _ (some 24) _ = _
  simp only [Act.put, List.setIfInBounds_toArray, List.set_cons_zero, List.set_cons_succ, Yma, Yqa]
  rfl
 have hsm := HM.out
 have tA : (sm == sm) = true := beq_self_eq_true _
 refine Yqb (i := 13) (N := some 25) (v := ?_) (a' := ?_) #[true, true, true, true, true, true, true, true, true, true, true, true, true, true, false, false, false, false, false, false, false, false, false, false, false, false, false, false, false] rfl rfl (Ypb HT_.out Zi) (fun _ _ _ h => h) (Or.inl ⟨Zja, ?_⟩) ?_ ?_
 rotate_left
 ·exact Zzb
 rotate_left
 ·exact Zac
 refine Yqb (i := 14) (N := some 26) (v := ?_) (a' := ?_) #[true, true, true, true, true, true, true, true, true, true, true, true, true, true, true, false, false, false, false, false, false, false, false, false, false, false, false, false, false] rfl rfl (Ypb HT_.out Zi) (fun _ _ _ h => h) (Or.inl ⟨Zja, ?_⟩) ?_ ?_
 rotate_left
 ·exact Zzb
 rotate_left
 ·exact Zac
 refine Yqb (i := 15) (N := some 27) (v := ?_) (a' := ?_) #[true, true, true, true, true, true, true, true, true, true, true, true, true, true, true, true, false, false, false, false, false, false, false, false, false, false, false, false, false] rfl rfl (Ypb HT_.out Zi) (fun _ _ _ h => h) (Or.inl ⟨Zja, ?_⟩) ?_ ?_
 rotate_left
 ·exact Zzb
 rotate_left
 ·exact Zac
 refine Yqb (i := 16) (N := some 28) (v := ?_) (a' := ?_) #[true, true, true, true, true, true, true, true, true, true, true, true, true, true, true, true, true, false, false, false, false, false, false, false, false, false, false, false, false] rfl rfl (Ypb HT_.out Zi) (fun _ _ _ h => h) (Or.inl ⟨Zja, ?_⟩) ?_ ?_
 rotate_left
 ·exact Zzb
 rotate_left
 ·exact Zac
 refine Ylf (i := 17) (N := some 29) (v := ?_) (a' := ?_) #[true, true, true, true, true, true, true, true, true, true, true, true, true, true, true, true, true, true, false, false, false, false, false, false, false, false, false, false, false] rfl rfl (Yne HT_.out HW_.out Zi) (fun _ _ _ h => h) (Or.inl ⟨Zja, ?_⟩) hHeld ?_ ?_
 rotate_left
 ·exact Zcc
 rotate_left
 ·exact Zac
 refine Ylf (i := 18) (N := some 30) (v := ?_) (a' := ?_) #[true, true, true, true, true, true, true, true, true, true, true, true, true, true, true, true, true, true, true, false, false, false, false, false, false, false, false, false, false] rfl rfl (Yne HT_.out HW_.out Zi) (fun _ _ _ h => h) (Or.inl ⟨Zja, ?_⟩) hHeld ?_ ?_
 rotate_left
 ·exact Zcc
 rotate_left
 ·exact Zac
 refine Ylf (i := 20) (N := some 32) (v := ?_) (a' := ?_) #[true, true, true, true, true, true, true, true, true, true, true, true, true, true, true, true, true, true, true, false, true, false, false, false, false, false, false, false, false] rfl rfl (Yne HT_.out HW_.out Zi) (fun _ _ _ h => h) (Or.inl ⟨Zja, ?_⟩) hHeld ?_ ?_
 rotate_left
 ·exact Zcc
 rotate_left
 ·exact Zac
 refine Ylf (i := 21) (N := some 33) (v := ?_) (a' := ?_) #[true, true, true, true, true, true, true, true, true, true, true, true, true, true, true, true, true, true, true, false, true, true, false, false, false, false, false, false, false] rfl rfl (Yne HT_.out HW_.out Zi) (fun _ _ _ h => h) (Or.inl ⟨Zja, ?_⟩) hHeld ?_ ?_
 rotate_left
 ·exact Zcc
 rotate_left
 ·exact Zac
 refine one_ (i := 19) (N := some 31) #[true, true, true, true, true, true, true, true, true, true, true, true, true, true, true, true, true, true, true, true, true, true, false, false, false, false, false, false, false] rfl rfl (Yyf HT_.out Zi) Zea (fun K hK => ?_)
 refine Yih Tryz.func40 Zi rfl #[.agg #[.string b1, .string b2, .int .i64 b3, .string b4, .string b5, .string b6, .bool b7, .bool b8], .agg #[.string u1, .string u2, .int .i64 u3, .string u4, .string u5, .string u6, .bool u7, .bool u8]] Zja rfl rfl Zba ?_
 refine (Yen HA.out HC.out HD.out HG_.out l HL.out _ (HE.out.below HB.out)).mono ?_
 rintro e we ⟨rfl, hb⟩
 refine ⟨_, rfl, ?_⟩
 replace BK := Ya.mk (Yq BK.out hb)
 replace BU := Ya.mk (Yq BU.out hb)
 replace HB := Ya.mk (HB.out.trans (hb.mono HB.out.size))
 clear hb
 refine hK.out _ _ ⟨Yv BK.out, Yv BU.out⟩ (fun hHeld => ?_)
 clear hK K
 refine Yxg (a' := ?_) ?_ ?_
 rotate_left
 ·show Act.put _ (some 31) _ = _
  simp only [Act.put, List.setIfInBounds_toArray, List.set_cons_zero, List.set_cons_succ, Yma, Yqa]
  rfl
 refine one_ (i := 22) (N := some 34) #[true, true, true, true, true, true, true, true, true, true, true, true, true, true, true, true, true, true, true, true, true, true, true, false, false, false, false, false, false] rfl rfl (Yyf HT_.out Zi) Zea (fun K hK => ?_)
 refine Yih Tryz.func42 Zi rfl #[.agg #[.string b1, .string b2, .int .i64 b3, .string b4, .string b5, .string b6, .bool b7, .bool b8], .agg #[.string u1, .string u2, .int .i64 u3, .string u4, .string u5, .string u6, .bool u7, .bool u8]] Zja rfl rfl Zba ?_
 refine (Yjs HA.out HC.out HD.out HG_.out l HL.out _ (HE.out.below HB.out)).mono ?_
 rintro e we ⟨rfl, hb⟩
 refine ⟨_, rfl, ?_⟩
 replace BK := Ya.mk (Yq BK.out hb)
 replace BU := Ya.mk (Yq BU.out hb)
 replace HB := Ya.mk (HB.out.trans (hb.mono HB.out.size))
 clear hb
 refine hK.out _ _ ⟨Yv BK.out, Yv BU.out⟩ (fun hHeld => ?_)
 clear hK K
 refine Yxg (a' := ?_) ?_ ?_
 rotate_left
 ·show Act.put _ (some 34) _ = _
  simp only [Act.put, List.setIfInBounds_toArray, List.set_cons_zero, List.set_cons_succ, Yma, Yqa]
  rfl
 have hll : (l.toList == l.toList) = true := beq_self_eq_true _
 refine Yqb (i := 23) (N := some 35) (v := ?_) (a' := ?_) #[true, true, true, true, true, true, true, true, true, true, true, true, true, true, true, true, true, true, true, true, true, true, true, true, false, false, false, false, false] rfl rfl (Ypb HT_.out Zi) (fun _ _ _ h => h) (Or.inl ⟨Zja, ?_⟩) ?_ ?_
 rotate_left
 ·exact Zzb
 rotate_left
 ·exact Zac
 refine Yqb (i := 24) (N := some 36) (v := ?_) (a' := ?_) #[true, true, true, true, true, true, true, true, true, true, true, true, true, true, true, true, true, true, true, true, true, true, true, true, true, false, false, false, false] rfl rfl (Ypb HT_.out Zi) (fun _ _ _ h => h) (Or.inl ⟨Zja, ?_⟩) ?_ ?_
 rotate_left
 ·exact Zzb
 rotate_left
 ·exact Zac
 refine Yqb (i := 25) (N := some 37) (v := ?_) (a' := ?_) #[true, true, true, true, true, true, true, true, true, true, true, true, true, true, true, true, true, true, true, true, true, true, true, true, true, true, false, false, false] rfl rfl (Ypb HT_.out Zi) (fun _ _ _ h => h) (Or.inl ⟨Zja, ?_⟩) ?_ ?_
 rotate_left
 ·exact Zzb
 rotate_left
 ·exact Zac
 refine one_ (i := 26) (N := some 38) #[true, true, true, true, true, true, true, true, true, true, true, true, true, true, true, true, true, true, true, true, true, true, true, true, true, true, true, false, false] rfl rfl (Yyf HT_.out Zi) Zea (fun K hK => ?_)
 refine Yih Tryz.func32 Zi rfl #[] Zja rfl rfl Zba ?_
 refine (Ydk _ (HE.out.below HB.out)).mono ?_
 rintro e we ⟨rfl, hb⟩
 refine ⟨_, rfl, ?_⟩
 replace BK := Ya.mk (Yq BK.out hb)
 replace BU := Ya.mk (Yq BU.out hb)
 replace HB := Ya.mk (HB.out.trans (hb.mono HB.out.size))
 clear hb
 refine hK.out _ _ ⟨Yv BK.out, Yv BU.out⟩ (fun hHeld => ?_)
 clear hK K
 refine Yxg (a' := ?_) ?_ ?_
 rotate_left
 ·show Act.put _ (some 38) _ = _
  simp only [Act.put, List.setIfInBounds_toArray, List.set_cons_zero, List.set_cons_succ, Yma, Yqa]
  rfl
 refine Yqb (i := 27) (N := some 39) (v := ?_) (a' := ?_) #[true, true, true, true, true, true, true, true, true, true, true, true, true, true, true, true, true, true, true, true, true, true, true, true, true, true, true, true, false] rfl rfl (Ypb HT_.out Zi) (fun _ _ _ h => h) (Or.inl ⟨Zja, ?_⟩) ?_ ?_
 rotate_left
 ·exact Zzb
 rotate_left
 ·exact Zac
 refine Yqb (i := 28) (N := some 4) (v := ?_) (a' := ?_) #[true, true, true, true, true, true, true, true, true, true, true, true, true, true, true, true, true, true, true, true, true, true, true, true, true, true, true, true, true] rfl rfl (Ypb HT_.out Zi) (fun _ _ _ h => h) (Or.inl ⟨Zja, ?_⟩) ?_ ?_
 rotate_left
 ·exact Zzb
 rotate_left
 ·exact Zac
 refine Yxi (Yhj HT_.out Zi) ?_
 try go_wp2
 go_ret
 exact ⟨rfl, HB.out⟩
theorem joinKeys_walk (b1 b2 : ByteArray) (b3 : Int) (b4 b5 b6 : ByteArray) (b7 b8 : Bool) (u1 u2 : ByteArray) (u3 : Int) (u4 u5 u6 : ByteArray) (u7 u8 : Bool) (w : World) (hE : EnvOk w) (hr : Room b1 b2 b3 b4 b5 b6) (hr2 : Room u1 u2 u3 u4 u5 u6) :
  Calls Tryz.prog 12 #[.agg (uc b1 b2 b3 b4 b5 b6 b7 b8), .agg (uc u1 u2 u3 u4 u5 u6 u7 u8)] w fun e w' => e = .returned (.bool true) ∧ Below w.heap.size w w' := by
 obtain ⟨k0, h0⟩ := far_f (u7 := b7) (u8 := b8) hr
 have hf := h0 k0 (Nat.le_refl _)
 obtain ⟨k1, h1⟩ := far_f (u7 := u7) (u8 := u8) hr2
 have hg := h1 k1 (Nat.le_refl _)
 cases hfar : (decide ((b1.size : Int) > 2200) || decide (((Ykc b1 b2 b3 b4 b5 b6 b7 b8).size : Int) > 2200)) with
 | true =>
  rw [hfar] at hf
  exact Yir k0 k1 b1 b2 b3 b4 b5 b6 b7 b8 u1 u2 u3 u4 u5 u6 u7 u8 w hE hf
 | false =>
  rw [hfar] at hf
  rw [Bool.or_eq_false_iff, decide_eq_false_iff_not, decide_eq_false_iff_not] at hfar
  cases pP : (decide ((u1.size : Int) > 2200) || decide (((Ykc u1 u2 u3 u4 u5 u6 u7 u8).size : Int) > 2200)) with
  | true =>
   rw [pP] at hg
   exact Yvq k0 k1 b1 b2 b3 b4 b5 b6 b7 b8 u1 u2 u3 u4 u5 u6 u7 u8 w hE hf hg
  | false =>
   rw [pP] at hg
   rw [Bool.or_eq_false_iff, decide_eq_false_iff_not, decide_eq_false_iff_not] at pP
   obtain ⟨k2, h2⟩ := key_f (u7 := b7) (u8 := b8) hr
   obtain ⟨k6, h6⟩ := key_f (u7 := u7) (u8 := u8) hr2
   obtain ⟨k3, h3⟩ := keyR_f (u7 := b7) (u8 := b8) hr
   obtain ⟨k5, h5⟩ := keyR_f (u7 := u7) (u8 := u8) hr2
   have hS : Yhi.f (k2 + k6) b1 b2 b3 b4 b5 b6 b7 b8 u1 u2 u3 u4 u5 u6 u7 u8 = some ((Ykc b1 b2 b3 b4 b5 ⟨#[]⟩ b7 false).toList == (Ykc u1 u2 u3 u4 u5 ⟨#[]⟩ u7 false).toList) := by
    have a1 := h2 (k2 + k6) Zl
    have a2 := h6 (k2 + k6) Zl
    unfold Yhi.f
    simp only at a1 a2
    rw [a1, a2]
    rfl
   exact Yop k0 k1 k2 k3 (k2 + k6) k5 b1 b2 b3 b4 b5 b6 b7 b8 u1 u2 u3 u4 u5 u6 u7 u8 _ _ _ _ w hE hf hg (h2 k2 (Nat.le_refl _)) (h3 k3 (Nat.le_refl _)) hS (h5 k5 (Nat.le_refl _)) rfl hr hr2 Zl Zl rfl
end Go.Proofs.YtnmglnglbdpjjaaGreatDoor.X
