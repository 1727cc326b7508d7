import Derived.Test.YtnmglnglbdpjjaaGreatDoorUfJq
set_option linter.all false
namespace Go.Proofs.YtnmglnglbdpjjaaGreatDoor.X
open Go.RowKit Go.Lib Go.Shelf Go.Yw.PrintWords Go.Yw.PrintLast Go.Yw.PrintMore
set_option maxHeartbeats 8000000
set_option maxRecDepth 100000
theorem Yaf (w : World) (c d : Array Value) (t : TypeId) : Ya (((w.alloc (.cells c t)).alloc (.cells d t)).heap[w.heap.size]? = some (.cells c t (0, 0))) ∧ Ya (((w.alloc (.cells c t)).alloc (.cells d t)).heap[w.heap.size + 1]? = some (.cells d t (0, 0))) ∧ Ya (Below w.heap.size w ((w.alloc (.cells c t)).alloc (.cells d t))) := by
 have h := heap_alloc_new (w.alloc (.cells c t)) (.cells d t)
 rw [Yof] at h
 have hb := (Below.refl w.heap.size w).alloc (Kw _) (.cells c t)
 exact ⟨⟨Ym (heap_alloc_new w (.cells c t)) (.cells d t)⟩, ⟨h⟩, ⟨hb.alloc hb.size (.cells d t)⟩⟩
theorem rJoin_not (k0 : Nat) (b1 b2 : Y) (b3 : Int) (b4 b5 b6 : Y) (b7 b8 : Bool) (s : Y) (w : World) (hE : EnvOk w)
  (hm : Ymd.f k0 b1 b2 b3 b4 b5 b6 b7 b8 = some false) :
  Calls Tryz.prog 34 #[.agg (uc b1 b2 b3 b4 b5 b6 b7 b8), .string s] w fun e w' => e = .returned (.tuple #[.agg (uc ⟨#[]⟩ ⟨#[]⟩ 0 ⟨#[]⟩ ⟨#[]⟩ ⟨#[]⟩ false false), .int .i64 1]) ∧ Below w.heap.size w w' := by
 have HE := Ya.mk hE
 have HM := Ya.mk hm
 clear hE hm
 have bQ := Tryz.underlying25
 have bD : (Tryz.prog.info? 25).map (·.size) = some 8 := by kernel_rfl
 obtain ⟨BK, BZ, HB⟩ := Yaf w (uc b1 b2 b3 b4 b5 b6 b7 b8) (uc ⟨#[]⟩ ⟨#[]⟩ 0 ⟨#[]⟩ ⟨#[]⟩ ⟨#[]⟩ false false) 25
 go_enter Tryz.func34, Tryz.ntmps34
 obtain ⟨cQ, cB, cN, cX, cU, cT, cY, cR⟩ := Yea BK.out
 go_wp2_with fail
 clear cQ cB cN cX cU cT cY cR
 refine (Ymd.calls k0 b1 b2 b3 b4 b5 b6 b7 b8 false _ (HE.out.below HB.out) HM.out).mono ?_
 rintro e w1 ⟨rfl, hb⟩
 replace BK := Ya.mk (Yla BK.out hb)
 replace BZ := Ya.mk (Yla BZ.out hb)
 replace HB := Ya.mk (HB.out.trans (hb.mono HB.out.size))
 clear hb
 go_wp2_with ((with_reducible refine Yxa (t := 25) (p := 4) rfl ?_); refine wpList_store_row rfl 25 (.tmp 4) (.tmp 10) rfl (w.heap.size + 1) (uc ⟨#[]⟩ ⟨#[]⟩ 0 ⟨#[]⟩ ⟨#[]⟩ ⟨#[]⟩ false false) rfl rfl 25 _ BZ.out bD rfl (Ypb _ _ _ _ _ _ _ _) ?_)
 refine bodyPost_ret (v := ?v1x) ?hv1x ?dv1x ?_
 case hv1x => refine Yba (p := 4) (u := 5) (ty := 25) ?_ _ _ (w.heap.size + 1) 25 (uc ⟨#[]⟩ ⟨#[]⟩ 0 ⟨#[]⟩ ⟨#[]⟩ ⟨#[]⟩ false false) (0, 0) _ ?_ (setRow_heap _ _ _ _ _ _ BZ.out) bQ rfl bD <;> rfl
 case dv1x => rfl
 exact ⟨rfl, below_setRow HB.out Zk _⟩
theorem rJoin_far (k0 k1 : Nat) (b1 b2 : Y) (b3 : Int) (b4 b5 b6 : Y) (b7 b8 : Bool) (s c : Y) (w : World) (hE : EnvOk w)
  (hm : Ymd.f k0 b1 b2 b3 b4 b5 b6 b7 b8 = some true)
  (hc : Yq.f k1 s = some c)
  (hd : 2048 < c.size) :
  Calls Tryz.prog 34 #[.agg (uc b1 b2 b3 b4 b5 b6 b7 b8), .string s] w fun e w' => e = .returned (.tuple #[.agg (uc ⟨#[]⟩ ⟨#[]⟩ 0 ⟨#[]⟩ ⟨#[]⟩ ⟨#[]⟩ false false), .int .i64 5]) ∧ Below w.heap.size w w' := by
 have HE := Ya.mk hE
 have HM := Ya.mk hm
 have HC := Ya.mk hc
 have HD := Ya.mk hd
 clear hE hm hc hd
 have bQ := Tryz.underlying25
 have bD : (Tryz.prog.info? 25).map (·.size) = some 8 := by kernel_rfl
 obtain ⟨BK, BZ, HB⟩ := Yaf w (uc b1 b2 b3 b4 b5 b6 b7 b8) (uc ⟨#[]⟩ ⟨#[]⟩ 0 ⟨#[]⟩ ⟨#[]⟩ ⟨#[]⟩ false false) 25
 go_enter Tryz.func34, Tryz.ntmps34
 obtain ⟨cQ, cB, cN, cX, cU, cT, cY, cR⟩ := Yea BK.out
 go_wp2_with fail
 clear cQ cB cN cX cU cT cY cR
 refine (Ymd.calls k0 b1 b2 b3 b4 b5 b6 b7 b8 true _ (HE.out.below HB.out) HM.out).mono ?_
 rintro e w1 ⟨rfl, hb⟩
 replace BK := Ya.mk (Yla BK.out hb)
 replace BZ := Ya.mk (Yla BZ.out hb)
 replace HB := Ya.mk (HB.out.trans (hb.mono HB.out.size))
 clear hb
 go_wp2_with fail
 refine (Yq.calls k1 s c _ (HE.out.below HB.out) HC.out).mono ?_
 rintro e w2 ⟨rfl, hb⟩
 replace BK := Ya.mk (Yla BK.out hb)
 replace BZ := Ya.mk (Yla BZ.out hb)
 replace HB := Ya.mk (HB.out.trans (hb.mono HB.out.size))
 clear hb
 have d0 : decide (2048 < (c.size : Int)) = true := Kr (by have := HD.out; omega)
 have d1 : decide (2048 < c.size) = true := Kr (by have := HD.out; omega)
 go_wp2_with ((with_reducible refine Yxa (t := 25) (p := 4) rfl ?_); refine wpList_store_row rfl 25 (.tmp 4) (.tmp 16) rfl (w.heap.size + 1) (uc ⟨#[]⟩ ⟨#[]⟩ 0 ⟨#[]⟩ ⟨#[]⟩ ⟨#[]⟩ false false) rfl rfl 25 _ BZ.out bD rfl (Ypb _ _ _ _ _ _ _ _) ?_)
 refine bodyPost_ret (v := ?v2x) ?hv2x ?dv2x ?_
 case hv2x => refine Yba (p := 4) (u := 5) (ty := 25) ?_ _ _ (w.heap.size + 1) 25 (uc ⟨#[]⟩ ⟨#[]⟩ 0 ⟨#[]⟩ ⟨#[]⟩ ⟨#[]⟩ false false) (0, 0) _ ?_ (setRow_heap _ _ _ _ _ _ BZ.out) bQ rfl bD <;> rfl
 case dv2x => rfl
 exact ⟨rfl, below_setRow HB.out Zk _⟩
theorem rJoin_in (k0 k1 : Nat) (b1 b2 : Y) (b3 : Int) (b4 b5 b6 : Y) (b7 b8 : Bool) (s c r1 r2 : Y) (r3 : Int) (r4 r5 r6 : Y) (r7 r8 : Bool) (r9 : Int) (w : World) (hE : EnvOk w)
  (hm : Ymd.f k0 b1 b2 b3 b4 b5 b6 b7 b8 = some true)
  (hc : Yq.f k1 s = some c)
  (hd : c.size ≤ 2048)
  (hj : ∀ W : World, EnvOk W → Calls Tryz.prog 74 #[.agg (uc b1 b2 b3 b4 b5 b6 b7 b8), .string c] W fun e w' => e = .returned (.tuple #[.agg (uc r1 r2 r3 r4 r5 r6 r7 r8), .int .i64 r9]) ∧ Below W.heap.size W w') :
  Calls Tryz.prog 34 #[.agg (uc b1 b2 b3 b4 b5 b6 b7 b8), .string s] w fun e w' => e = .returned (.tuple #[.agg (uc r1 r2 r3 r4 r5 r6 r7 r8), .int .i64 r9]) ∧ Below w.heap.size w w' := by
 have HE := Ya.mk hE
 have HM := Ya.mk hm
 have HC := Ya.mk hc
 have HD := Ya.mk hd
 have HJ := Ya.mk hj
 clear hE hm hc hd hj
 have bQ := Tryz.underlying25
 have bD : (Tryz.prog.info? 25).map (·.size) = some 8 := by kernel_rfl
 obtain ⟨BK, BZ, HB⟩ := Yaf w (uc b1 b2 b3 b4 b5 b6 b7 b8) (uc ⟨#[]⟩ ⟨#[]⟩ 0 ⟨#[]⟩ ⟨#[]⟩ ⟨#[]⟩ false false) 25
 go_enter Tryz.func34, Tryz.ntmps34
 obtain ⟨cQ, cB, cN, cX, cU, cT, cY, cR⟩ := Yea BK.out
 go_wp2_with fail
 clear cQ cB cN cX cU cT cY cR
 refine (Ymd.calls k0 b1 b2 b3 b4 b5 b6 b7 b8 true _ (HE.out.below HB.out) HM.out).mono ?_
 rintro e w1 ⟨rfl, hb⟩
 replace BK := Ya.mk (Yla BK.out hb)
 replace BZ := Ya.mk (Yla BZ.out hb)
 replace HB := Ya.mk (HB.out.trans (hb.mono HB.out.size))
 clear hb
 go_wp2_with fail
 refine (Yq.calls k1 s c _ (HE.out.below HB.out) HC.out).mono ?_
 rintro e w2 ⟨rfl, hb⟩
 replace BK := Ya.mk (Yla BK.out hb)
 replace BZ := Ya.mk (Yla BZ.out hb)
 replace HB := Ya.mk (HB.out.trans (hb.mono HB.out.size))
 clear hb
 have d0 : decide (2048 < (c.size : Int)) = false := Ks (by have := HD.out; omega)
 have d1 : decide (2048 < c.size) = false := Ks (by have := HD.out; omega)
 obtain ⟨cQ, cB, cN, cX, cU, cT, cY, cR⟩ := Yea BK.out
 go_wp2_with fail
 clear cQ cB cN cX cU cT cY cR
 refine (HJ.out _ (HE.out.below HB.out)).mono ?_
 rintro e w3 ⟨rfl, hb⟩
 replace BK := Ya.mk (Yla BK.out hb)
 replace BZ := Ya.mk (Yla BZ.out hb)
 replace HB := Ya.mk (HB.out.trans (hb.mono HB.out.size))
 clear hb
 go_wp2_with ((with_reducible refine Yxa (t := 25) (p := 4) rfl ?_); refine wpList_store_row rfl 25 (.tmp 4) (.tmp 20) rfl (w.heap.size + 1) (uc r1 r2 r3 r4 r5 r6 r7 r8) rfl rfl 25 _ BZ.out bD rfl (Ypb _ _ _ _ _ _ _ _) ?_)
 refine bodyPost_ret (v := ?v3x) ?hv3x ?dv3x ?_
 case hv3x => refine Yba (p := 4) (u := 5) (ty := 25) ?_ _ _ (w.heap.size + 1) 25 (uc r1 r2 r3 r4 r5 r6 r7 r8) (0, 0) _ ?_ (setRow_heap _ _ _ _ _ _ BZ.out) bQ rfl bD <;> rfl
 case dv3x => rfl
 exact ⟨rfl, below_setRow HB.out Zk _⟩
def Ykq : Bool × List (List Nat × List Nat) := (true, [([], []), ([], []), ([1], [1]), ([0, 2], [0, 2]), ([3], [3]), ([], []), ([5], [5]), ([4, 6], [4, 6]), ([7, 4], [7]), ([8], [8]), ([8], [8]), ([9, 10, 8], [8, 9, 10]), ([11, 8, 8], [8, 11]), ([8, 12], [8, 12])])
def joined_B3 : List Nat := [0, 0, 2, 7, 15, 0, 32, 127, 255, 511, 511, 2047, 4095, 8191]
theorem Yxj : rtab .any (opsOf Tryz.f74 3) = Ykq := by kernel_rfl
theorem Ymj : Yig Ykq.2 joined_B3 = true := by kernel_rfl
def Yeq : Bool × List (List Nat × List Nat) := (true, [([], []), ([], []), ([], []), ([1, 2], [1, 2]), ([0, 3], [0, 3]), ([4], [4]), ([4], [4]), ([5, 4, 0, 1, 2, 3, 4, 5, 6], [5]), ([6, 7, 0, 1, 2, 3, 4, 5, 6, 7], [6])])
def joined_B5 : List Nat := [0, 0, 0, 6, 15, 31, 31, 127, 255]
theorem Ypt : rtab .any (opsOf Tryz.f74 5) = Yeq := by kernel_rfl
theorem Ygr : Yig Yeq.2 joined_B5 = true := by kernel_rfl
def Yxo : Bool × List (List Nat × List Nat) := (true, [([], []), ([], []), ([1], [1]), ([], []), ([2, 3], [2, 3]), ([], []), ([4, 5], [4, 5]), ([0, 6], [0, 6]), ([7, 7, 0, 1, 2, 3, 4, 5, 6, 7], [7])])
def Yfu : List Nat := [0, 0, 2, 0, 14, 0, 62, 127, 255]
theorem Ykr : rtab .any (opsOf Tryz.f74 13) = Yxo := by kernel_rfl
theorem Yyp : Yig Yxo.2 Yfu = true := by kernel_rfl
def Yco : Bool × List (List Nat × List Nat) := (true, [([], []), ([0], [0]), ([], []), ([2], [2]), ([], []), ([4], [4]), ([0, 1], []), ([6, 1, 0, 1], [1, 6]), ([0, 1, 2, 3, 6, 7], []), ([8, 3, 7, 0, 1, 2, 3, 6, 7], [3, 8]), ([0, 1, 2, 3, 4, 5, 6, 7, 8, 9], []), ([10, 5, 9, 0, 1, 2, 3, 4, 5, 6, 7, 8, 9], [5, 10])])
def Yju : List Nat := [0, 1, 0, 4, 0, 16, 3, 67, 207, 463, 1023, 2047]
theorem Yhr : rtab .any (opsOf Tryz.f74 18) = Yco := by kernel_rfl
theorem Yop : Yig Yco.2 Yju = true := by kernel_rfl
theorem Yur (k0 kl : Nat) (b1 b2 : Y) (b3 : Int) (b4 b5 b6 : Y) (b7 b8 : Bool) (s : Y) (n m : Int) (x r1 r2 : Y) (r3 : Int) (r4 r5 r6 : Y) (r7 r8 : Bool) (r9 : Int) (w : World) (hE : EnvOk w)
  (hs : Yr.f k0 s = some n)
  (hn : 0 < n ∧ n ≤ (s.size : Int) ∧ m = n - 1)
  (hw : wrap64 (n - 1) = m)
  (hl : Yfa.f kl (s.extract 0 m.toNat) = some x)
  (hx : ¬ x.toList = b1.toList)
  (hp : Ysb.f s = some (r1, r2, r3, r4, r5, r6, r7, r8, r9)) :
  Calls Tryz.prog 74 #[.agg (uc b1 b2 b3 b4 b5 b6 b7 b8), .string s] w fun e w' => e = .returned (.tuple #[.agg (uc r1 r2 r3 r4 r5 r6 r7 r8), .int .i64 r9]) ∧ Below w.heap.size w w' := by
 have HE := Ya.mk hE
 have HS := Ya.mk hs
 have HN := Ya.mk hn
 have HW := Ya.mk hw
 have HL := Ya.mk hl
 have HX := Ya.mk hx
 have HP := Ya.mk hp
 clear hE hs hn hw hl hx hp
 have bQ := Tryz.underlying25
 have bD : (Tryz.prog.info? 25).map (·.size) = some 8 := by kernel_rfl
 obtain ⟨BK, BZ, HB⟩ := Yaf w (uc b1 b2 b3 b4 b5 b6 b7 b8) (uc ⟨#[]⟩ ⟨#[]⟩ 0 ⟨#[]⟩ ⟨#[]⟩ ⟨#[]⟩ false false) 25
 go_enter Tryz.func74, Tryz.ntmps74
 go_wp2_with fail
 refine (Yr.calls k0 s n _ (HE.out.below HB.out) HS.out).mono ?_
 rintro e wq ⟨rfl, ⟨nd, rfl⟩⟩
 replace BK := Ya.mk (Yi BK.out nd)
 replace BZ := Ya.mk (Yi BZ.out nd)
 replace HB := Ya.mk (Yb HB.out nd)
 generalize World.drewN _ nd = w1 at BK BZ HB ⊢
 have pX := HN.out
 have hw1 : wrap64 (n - 1) = m := HW.out
 have a0 : decide (n > 0) = true := Kr Zk
 have a1 : decide (0 < n) = true := Kr Zk
 go_wp2_with fail
 clear a0 a1
 have e0 := Kt (show 0 ≤ m by omega)
 have e1 := Kt (show m ≤ (s.size : Int) by omega)
 have e2 := Kt (show 0 ≤ n by omega)
 have e3 := Kt (show n ≤ (s.size : Int) by omega)
 clear pX
 refine Ykg (n := 14) (S := fun w' => w'.cell? ⟨w.heap.size, 0, none⟩ = some (.string b1) ∧ w'.cell? ⟨w.heap.size, 1, none⟩ = some (.string b2) ∧ w'.cell? ⟨w.heap.size, 2, none⟩ = some (.int .i64 b3) ∧ w'.cell? ⟨w.heap.size, 3, none⟩ = some (.string b4) ∧ w'.cell? ⟨w.heap.size, 4, none⟩ = some (.string b5) ∧ w'.cell? ⟨w.heap.size, 5, none⟩ = some (.string b6) ∧ w'.cell? ⟨w.heap.size, 6, none⟩ = some (.bool b7) ∧ w'.cell? ⟨w.heap.size, 7, none⟩ = some (.bool b8)) (ds := []) #[false, false, false, false, false, false, false, false, false, false, false, false, false, false] Zi rfl rfl (Yea (Yp BK.out)) (fun hHeld => ?_); refine Ylf Yxj Ymj (fun HT_ HW_ => ?_)
 replace BK := Ya.mk (Yp BK.out)
 replace BZ := Ya.mk (Yp BZ.out)
 replace HB := Ya.mk (Yc HB.out)
 generalize w1.drew = wd at BK BZ HB hHeld ⊢
 refine Yya (i := 0) (N := some 13) (v := ?_) (a' := ?_) #[true, false, false, false, false, false, false, false, false, false, false, false, false, false] rfl rfl (Ysa HT_.out Zi) (fun _ _ _ h => h) (Or.inl ⟨Zga, ?_⟩) ?_ ?_
 rotate_left
 ·exact Zyb
 rotate_left
 ·exact Zzb
 refine Yya (i := 1) (N := some 14) (v := ?_) (a' := ?_) #[true, true, false, false, false, false, false, false, false, false, false, false, false, false] rfl rfl (Ysa HT_.out Zi) (fun _ _ _ h => h) (Or.inl ⟨Zga, ?_⟩) ?_ ?_
 rotate_left
 ·exact Zyb
 rotate_left
 ·exact Zzb
 refine Yya (i := 2) (N := some 15) (v := ?_) (a' := ?_) #[true, true, true, false, false, false, false, false, false, false, false, false, false, false] rfl rfl (Ysa HT_.out Zi) (fun _ _ _ h => h) (Or.inl ⟨Zga, ?_⟩) ?_ ?_
 rotate_left
 ·exact Zyb
 rotate_left
 ·exact Zzb
 refine Yya (i := 5) (N := some 18) (v := ?_) (a' := ?_) #[true, true, true, false, false, true, false, false, false, false, false, false, false, false] rfl rfl (Ysa HT_.out Zi) (fun _ _ _ h => h) (Or.inl ⟨Zga, ?_⟩) ?_ ?_
 rotate_left
 ·exact Zyb
 rotate_left
 ·exact Zzb
 refine Ynf (i := 6) (N := some 19) (v := ?_) (a' := ?_) #[true, true, true, false, false, true, true, false, false, false, false, false, false, false] rfl rfl (Yae HT_.out HW_.out Zi) (fun _ _ _ h => h) (Or.inl ⟨Zga, ?_⟩) hHeld ?_ ?_
 rotate_left
 ·exact Zac
 rotate_left
 ·exact Zzb
 refine Yya (i := 3) (N := some 16) (v := ?_) (a' := ?_) #[true, true, true, true, false, true, true, false, false, false, false, false, false, false] rfl rfl (Ysa HT_.out Zi) (fun _ _ _ h => h) (Or.inl ⟨Zga, ?_⟩) ?_ ?_
 rotate_left
 ·exact Zyb
 rotate_left
 ·exact Zzb
 refine one_ (i := 4) (N := some 17) #[true, true, true, true, true, true, true, false, false, false, false, false, false, false] rfl rfl (Yne HT_.out Zi) Zca (fun K hK => ?_)
 refine Yvh Tryz.func47 Zi rfl #[.string (s.extract 0 m.toNat)] Zga rfl rfl Zz ?_
 refine (Yfa.calls kl (s.extract 0 m.toNat) x _ (HE.out.below HB.out) HL.out).mono ?_
 rintro e we ⟨rfl, hb⟩
 refine ⟨_, rfl, ?_⟩
 replace BK := Ya.mk (Yla BK.out hb)
 replace BZ := Ya.mk (Yla BZ.out hb)
 replace HB := Ya.mk (HB.out.trans (hb.mono HB.out.size))
 clear hb
 refine hK.out _ _ (Yea BK.out) (fun hHeld => ?_)
 clear hK K
 refine Yeg (a' := ?_) ?_ ?_
 rotate_left
 ·show Act.put _ (some 17) _ = _
  simp only [Act.put, Kca, Yaa, Yda]
  rfl
 have x0 : (x.toList == b1.toList) = false := beq_eq_false_iff_ne.2 HX.out
 have x1 : (x.toList != b1.toList) = true := bne_iff_ne.2 HX.out
 refine Yya (i := 7) (N := some 20) (v := ?_) (a' := ?_) #[true, true, true, true, true, true, true, true, false, false, false, false, false, false] rfl rfl (Ysa HT_.out Zi) (fun _ _ _ h => h) (Or.inl ⟨Zga, ?_⟩) ?_ ?_
 rotate_left
 ·exact Zyb
 rotate_left
 ·exact Zzb
 refine Yya (i := 8) (N := some 21) (v := ?_) (a' := ?_) #[true, true, true, true, true, true, true, true, true, false, false, false, false, false] rfl rfl (Ysa HT_.out Zi) (fun _ _ _ h => h) (Or.inl ⟨Zga, ?_⟩) ?_ ?_
 rotate_left
 ·exact Zyb
 rotate_left
 ·exact Zzb
 refine Yya (i := 9) (N := some 22) (v := undef) (a' := ?_) #[true, true, true, true, true, true, true, true, true, true, false, false, false, false] rfl rfl (Ysa HT_.out Zi) (fun _ _ _ h => h) (Or.inr ⟨Zga, rfl⟩) ?_ ?_
 rotate_left
 ·exact Zzb
 refine Yya (i := 10) (N := some 23) (v := undef) (a' := ?_) #[true, true, true, true, true, true, true, true, true, true, true, false, false, false] rfl rfl (Ysa HT_.out Zi) (fun _ _ _ h => h) (Or.inr ⟨Zga, rfl⟩) ?_ ?_
 rotate_left
 ·exact Zzb
 refine Yya (i := 11) (N := some 24) (v := undef) (a' := ?_) #[true, true, true, true, true, true, true, true, true, true, true, true, false, false] rfl rfl (Ysa HT_.out Zi) (fun _ _ _ h => h) (Or.inr ⟨Zga, rfl⟩) ?_ ?_
 rotate_left
 ·exact Zzb
 refine Yya (i := 12) (N := some 25) (v := undef) (a' := ?_) #[true, true, true, true, true, true, true, true, true, true, true, true, true, false] rfl rfl (Ysa HT_.out Zi) (fun _ _ _ h => h) (Or.inr ⟨Zga, rfl⟩) ?_ ?_
 rotate_left
 ·exact Zzb
 refine Yya (i := 13) (N := some 26) (v := ?_) (a' := ?_) #[true, true, true, true, true, true, true, true, true, true, true, true, true, true] rfl rfl (Ysa HT_.out Zi) (fun _ _ _ h => h) (Or.inl ⟨Zga, ?_⟩) ?_ ?_
 rotate_left
 ·exact Zyb
 rotate_left
 ·exact Zzb
 refine Yoh (Yvg HT_.out Zi) ?_
 go_wp2_with fail
 refine (Ysb.calls s r1 r2 r3 r4 r5 r6 r7 r8 r9 _ (HE.out.below HB.out) HP.out).mono ?_
 rintro e w2 ⟨rfl, hb⟩
 replace BK := Ya.mk (Yla BK.out hb)
 replace BZ := Ya.mk (Yla BZ.out hb)
 replace HB := Ya.mk (HB.out.trans (hb.mono HB.out.size))
 clear hb
 go_wp2_with ((with_reducible refine Yxa (t := 25) (p := 4) rfl ?_); refine wpList_store_row rfl 25 (.tmp 4) (.tmp 29) rfl (w.heap.size + 1) (uc r1 r2 r3 r4 r5 r6 r7 r8) rfl rfl 25 _ BZ.out bD rfl (Ypb _ _ _ _ _ _ _ _) ?_)
 refine bodyPost_ret (v := ?v4x) ?hv4x ?dv4x ?_
 case hv4x => refine Yba (p := 4) (u := 5) (ty := 25) ?_ _ _ (w.heap.size + 1) 25 (uc r1 r2 r3 r4 r5 r6 r7 r8) (0, 0) _ ?_ (setRow_heap _ _ _ _ _ _ BZ.out) bQ rfl bD <;> rfl
 case dv4x => rfl
 exact ⟨rfl, below_setRow HB.out Zk _⟩
theorem Ysr (k0 kl : Nat) (b1 b2 : Y) (b3 : Int) (b4 b5 b6 : Y) (b7 b8 : Bool) (s : Y) (n m : Int) (x r1 r2 : Y) (r3 : Int) (r4 r5 r6 : Y) (r7 r8 : Bool) (r9 : Int) (w : World) (hE : EnvOk w)
  (hs : Yr.f k0 s = some n)
  (hn : 0 < n ∧ n ≤ (s.size : Int) ∧ m = n - 1)
  (hw : wrap64 (n - 1) = m)
  (hl : Yfa.f kl (s.extract 0 m.toNat) = some x)
  (hx : x.toList = b1.toList)
  (hy : Ypa.f (s.extract n.toNat s.size) = some true)
  (hp : Ysb.f s = some (r1, r2, r3, r4, r5, r6, r7, r8, r9)) :
  Calls Tryz.prog 74 #[.agg (uc b1 b2 b3 b4 b5 b6 b7 b8), .string s] w fun e w' => e = .returned (.tuple #[.agg (uc r1 r2 r3 r4 r5 r6 r7 r8), .int .i64 r9]) ∧ Below w.heap.size w w' := by
 have HE := Ya.mk hE
 have HS := Ya.mk hs
 have HN := Ya.mk hn
 have HW := Ya.mk hw
 have HL := Ya.mk hl
 have HX := Ya.mk hx
 have HY := Ya.mk hy
 have HP := Ya.mk hp
 clear hE hs hn hw hl hx hy hp
 have bQ := Tryz.underlying25
 have bD : (Tryz.prog.info? 25).map (·.size) = some 8 := by kernel_rfl
 obtain ⟨BK, BZ, HB⟩ := Yaf w (uc b1 b2 b3 b4 b5 b6 b7 b8) (uc ⟨#[]⟩ ⟨#[]⟩ 0 ⟨#[]⟩ ⟨#[]⟩ ⟨#[]⟩ false false) 25
 go_enter Tryz.func74, Tryz.ntmps74
 go_wp2_with fail
 refine (Yr.calls k0 s n _ (HE.out.below HB.out) HS.out).mono ?_
 rintro e wq ⟨rfl, ⟨nd, rfl⟩⟩
 replace BK := Ya.mk (Yi BK.out nd)
 replace BZ := Ya.mk (Yi BZ.out nd)
 replace HB := Ya.mk (Yb HB.out nd)
 generalize World.drewN _ nd = w1 at BK BZ HB ⊢
 have pX := HN.out
 have hw1 : wrap64 (n - 1) = m := HW.out
 have a0 : decide (n > 0) = true := Kr Zk
 have a1 : decide (0 < n) = true := Kr Zk
 go_wp2_with fail
 clear a0 a1
 have e0 := Kt (show 0 ≤ m by omega)
 have e1 := Kt (show m ≤ (s.size : Int) by omega)
 have e2 := Kt (show 0 ≤ n by omega)
 have e3 := Kt (show n ≤ (s.size : Int) by omega)
 clear pX
 refine Ykg (n := 14) (S := fun w' => w'.cell? ⟨w.heap.size, 0, none⟩ = some (.string b1) ∧ w'.cell? ⟨w.heap.size, 1, none⟩ = some (.string b2) ∧ w'.cell? ⟨w.heap.size, 2, none⟩ = some (.int .i64 b3) ∧ w'.cell? ⟨w.heap.size, 3, none⟩ = some (.string b4) ∧ w'.cell? ⟨w.heap.size, 4, none⟩ = some (.string b5) ∧ w'.cell? ⟨w.heap.size, 5, none⟩ = some (.string b6) ∧ w'.cell? ⟨w.heap.size, 6, none⟩ = some (.bool b7) ∧ w'.cell? ⟨w.heap.size, 7, none⟩ = some (.bool b8)) (ds := []) #[false, false, false, false, false, false, false, false, false, false, false, false, false, false] Zi rfl rfl (Yea (Yp BK.out)) (fun hHeld => ?_); refine Ylf Yxj Ymj (fun HT_ HW_ => ?_)
 replace BK := Ya.mk (Yp BK.out)
 replace BZ := Ya.mk (Yp BZ.out)
 replace HB := Ya.mk (Yc HB.out)
 generalize w1.drew = wd at BK BZ HB hHeld ⊢
 refine Yya (i := 0) (N := some 13) (v := ?_) (a' := ?_) #[true, false, false, false, false, false, false, false, false, false, false, false, false, false] rfl rfl (Ysa HT_.out Zi) (fun _ _ _ h => h) (Or.inl ⟨Zga, ?_⟩) ?_ ?_
 rotate_left
 ·exact Zyb
 rotate_left
 ·exact Zzb
 refine Yya (i := 1) (N := some 14) (v := ?_) (a' := ?_) #[true, true, false, false, false, false, false, false, false, false, false, false, false, false] rfl rfl (Ysa HT_.out Zi) (fun _ _ _ h => h) (Or.inl ⟨Zga, ?_⟩) ?_ ?_
 rotate_left
 ·exact Zyb
 rotate_left
 ·exact Zzb
 refine Yya (i := 2) (N := some 15) (v := ?_) (a' := ?_) #[true, true, true, false, false, false, false, false, false, false, false, false, false, false] rfl rfl (Ysa HT_.out Zi) (fun _ _ _ h => h) (Or.inl ⟨Zga, ?_⟩) ?_ ?_
 rotate_left
 ·exact Zyb
 rotate_left
 ·exact Zzb
 refine Yya (i := 5) (N := some 18) (v := ?_) (a' := ?_) #[true, true, true, false, false, true, false, false, false, false, false, false, false, false] rfl rfl (Ysa HT_.out Zi) (fun _ _ _ h => h) (Or.inl ⟨Zga, ?_⟩) ?_ ?_
 rotate_left
 ·exact Zyb
 rotate_left
 ·exact Zzb
 refine Ynf (i := 6) (N := some 19) (v := ?_) (a' := ?_) #[true, true, true, false, false, true, true, false, false, false, false, false, false, false] rfl rfl (Yae HT_.out HW_.out Zi) (fun _ _ _ h => h) (Or.inl ⟨Zga, ?_⟩) hHeld ?_ ?_
 rotate_left
 ·exact Zac
 rotate_left
 ·exact Zzb
 refine Yya (i := 3) (N := some 16) (v := ?_) (a' := ?_) #[true, true, true, true, false, true, true, false, false, false, false, false, false, false] rfl rfl (Ysa HT_.out Zi) (fun _ _ _ h => h) (Or.inl ⟨Zga, ?_⟩) ?_ ?_
 rotate_left
 ·exact Zyb
 rotate_left
 ·exact Zzb
 refine one_ (i := 4) (N := some 17) #[true, true, true, true, true, true, true, false, false, false, false, false, false, false] rfl rfl (Yne HT_.out Zi) Zca (fun K hK => ?_)
 refine Yvh Tryz.func47 Zi rfl #[.string (s.extract 0 m.toNat)] Zga rfl rfl Zz ?_
 refine (Yfa.calls kl (s.extract 0 m.toNat) x _ (HE.out.below HB.out) HL.out).mono ?_
 rintro e we ⟨rfl, hb⟩
 refine ⟨_, rfl, ?_⟩
 replace BK := Ya.mk (Yla BK.out hb)
 replace BZ := Ya.mk (Yla BZ.out hb)
 replace HB := Ya.mk (HB.out.trans (hb.mono HB.out.size))
 clear hb
 refine hK.out _ _ (Yea BK.out) (fun hHeld => ?_)
 clear hK K
 refine Yeg (a' := ?_) ?_ ?_
 rotate_left
 ·show Act.put _ (some 17) _ = _
  simp only [Act.put, Kca, Yaa, Yda]
  rfl
 have x0 : (x.toList == b1.toList) = true := beq_iff_eq.2 HX.out
 have x1 : (x.toList != b1.toList) = false := bne_eq_false_iff_eq.2 HX.out
 refine Yya (i := 7) (N := some 20) (v := ?_) (a' := ?_) #[true, true, true, true, true, true, true, true, false, false, false, false, false, false] rfl rfl (Ysa HT_.out Zi) (fun _ _ _ h => h) (Or.inl ⟨Zga, ?_⟩) ?_ ?_
 rotate_left
 ·exact Zyb
 rotate_left
 ·exact Zzb
 refine Yya (i := 8) (N := some 21) (v := ?_) (a' := ?_) #[true, true, true, true, true, true, true, true, true, false, false, false, false, false] rfl rfl (Ysa HT_.out Zi) (fun _ _ _ h => h) (Or.inl ⟨Zga, ?_⟩) ?_ ?_
 rotate_left
 ·exact Zyb
 rotate_left
 ·exact Zzb
 refine Yya (i := 9) (N := some 22) (v := ?_) (a' := ?_) #[true, true, true, true, true, true, true, true, true, true, false, false, false, false] rfl rfl (Ysa HT_.out Zi) (fun _ _ _ h => h) (Or.inl ⟨Zga, ?_⟩) ?_ ?_
 rotate_left
 ·exact Zyb
 rotate_left
 ·exact Zzb
 refine Yya (i := 10) (N := some 23) (v := ?_) (a' := ?_) #[true, true, true, true, true, true, true, true, true, true, true, false, false, false] rfl rfl (Ysa HT_.out Zi) (fun _ _ _ h => h) (Or.inl ⟨Zga, ?_⟩) ?_ ?_
 rotate_left
 ·exact Zyb
 rotate_left
 ·exact Zzb
 refine Yya (i := 11) (N := some 24) (v := ?_) (a' := ?_) #[true, true, true, true, true, true, true, true, true, true, true, true, false, false] rfl rfl (Ysa HT_.out Zi) (fun _ _ _ h => h) (Or.inl ⟨Zga, ?_⟩) ?_ ?_
 rotate_left
 ·exact Zyb
 rotate_left
 ·exact Zzb
 refine one_ (i := 12) (N := some 25) #[true, true, true, true, true, true, true, true, true, true, true, true, true, false] rfl rfl (Yne HT_.out Zi) Zca (fun K hK => ?_)
 refine Yvh Tryz.func75 Zi rfl #[.string (s.extract n.toNat s.size)] Zga rfl rfl Zz ?_
 refine (Ypa.calls (s.extract n.toNat s.size) true _ (HE.out.below HB.out) HY.out).mono ?_
 rintro e wq ⟨rfl, ⟨nd, rfl⟩⟩
 refine ⟨_, rfl, ?_⟩
 replace BK := Ya.mk (Yi BK.out nd)
 replace BZ := Ya.mk (Yi BZ.out nd)
 replace HB := Ya.mk (Yb HB.out nd)
 generalize World.drewN _ nd = we at BK BZ HB ⊢
 refine hK.out _ _ (Yea BK.out) (fun hHeld => ?_)
 clear hK K
 refine Yeg (a' := ?_) ?_ ?_
 rotate_left
 ·show Act.put _ (some 25) _ = _
  simp only [Act.put, Kca, Yaa, Yda]
  rfl
 refine Yya (i := 13) (N := some 26) (v := ?_) (a' := ?_) #[true, true, true, true, true, true, true, true, true, true, true, true, true, true] rfl rfl (Ysa HT_.out Zi) (fun _ _ _ h => h) (Or.inl ⟨Zga, ?_⟩) ?_ ?_
 rotate_left
 ·exact Zyb
 rotate_left
 ·exact Zzb
 refine Yoh (Yvg HT_.out Zi) ?_
 go_wp2_with fail
 refine (Ysb.calls s r1 r2 r3 r4 r5 r6 r7 r8 r9 _ (HE.out.below HB.out) HP.out).mono ?_
 rintro e w2 ⟨rfl, hb⟩
 replace BK := Ya.mk (Yla BK.out hb)
 replace BZ := Ya.mk (Yla BZ.out hb)
 replace HB := Ya.mk (HB.out.trans (hb.mono HB.out.size))
 clear hb
 go_wp2_with ((with_reducible refine Yxa (t := 25) (p := 4) rfl ?_); refine wpList_store_row rfl 25 (.tmp 4) (.tmp 29) rfl (w.heap.size + 1) (uc r1 r2 r3 r4 r5 r6 r7 r8) rfl rfl 25 _ BZ.out bD rfl (Ypb _ _ _ _ _ _ _ _) ?_)
 refine bodyPost_ret (v := ?v5x) ?hv5x ?dv5x ?_
 case hv5x => refine Yba (p := 4) (u := 5) (ty := 25) ?_ _ _ (w.heap.size + 1) 25 (uc r1 r2 r3 r4 r5 r6 r7 r8) (0, 0) _ ?_ (setRow_heap _ _ _ _ _ _ BZ.out) bQ rfl bD <;> rfl
 case dv5x => rfl
 exact ⟨rfl, below_setRow HB.out Zk _⟩
theorem Ydr (k0 kl : Nat) (b1 b2 : Y) (b3 : Int) (b4 b5 b6 : Y) (b7 b8 : Bool) (s : Y) (n m : Int) (x r1 r2 : Y) (r3 : Int) (r4 r5 r6 : Y) (r7 r8 : Bool) (r9 : Int) (w : World) (hE : EnvOk w)
  (hs : Yr.f k0 s = some n)
  (hn : 0 < n ∧ n ≤ (s.size : Int) ∧ m = n - 1)
  (hw : wrap64 (n - 1) = m)
  (hl : Yfa.f kl (s.extract 0 m.toNat) = some x)
  (hx : x.toList = b1.toList)
  (hy : Ypa.f (s.extract n.toNat s.size) = some false)
  (hj : ∀ W : World, EnvOk W → Calls Tryz.prog 34 #[.agg (uc b1 b2 b3 b4 b5 b6 b7 b8), .string (s.extract n.toNat s.size)] W fun e w' => e = .returned (.tuple #[.agg (uc r1 r2 r3 r4 r5 r6 r7 r8), .int .i64 r9]) ∧ Below W.heap.size W w') :
  Calls Tryz.prog 74 #[.agg (uc b1 b2 b3 b4 b5 b6 b7 b8), .string s] w fun e w' => e = .returned (.tuple #[.agg (uc r1 r2 r3 r4 r5 r6 r7 r8), .int .i64 r9]) ∧ Below w.heap.size w w' := by
 have HE := Ya.mk hE
 have HS := Ya.mk hs
 have HN := Ya.mk hn
 have HW := Ya.mk hw
 have HL := Ya.mk hl
 have HX := Ya.mk hx
 have HY := Ya.mk hy
 have HJ := Ya.mk hj
 clear hE hs hn hw hl hx hy hj
 have bQ := Tryz.underlying25
 have bD : (Tryz.prog.info? 25).map (·.size) = some 8 := by kernel_rfl
 obtain ⟨BK, BZ, HB⟩ := Yaf w (uc b1 b2 b3 b4 b5 b6 b7 b8) (uc ⟨#[]⟩ ⟨#[]⟩ 0 ⟨#[]⟩ ⟨#[]⟩ ⟨#[]⟩ false false) 25
 go_enter Tryz.func74, Tryz.ntmps74
 go_wp2_with fail
 refine (Yr.calls k0 s n _ (HE.out.below HB.out) HS.out).mono ?_
 rintro e wq ⟨rfl, ⟨nd, rfl⟩⟩
 replace BK := Ya.mk (Yi BK.out nd)
 replace BZ := Ya.mk (Yi BZ.out nd)
 replace HB := Ya.mk (Yb HB.out nd)
 generalize World.drewN _ nd = w1 at BK BZ HB ⊢
 have pX := HN.out
 have hw1 : wrap64 (n - 1) = m := HW.out
 have a0 : decide (n > 0) = true := Kr Zk
 have a1 : decide (0 < n) = true := Kr Zk
 go_wp2_with fail
 clear a0 a1
 have e0 := Kt (show 0 ≤ m by omega)
 have e1 := Kt (show m ≤ (s.size : Int) by omega)
 have e2 := Kt (show 0 ≤ n by omega)
 have e3 := Kt (show n ≤ (s.size : Int) by omega)
 clear pX
 refine Ykg (n := 14) (S := fun w' => w'.cell? ⟨w.heap.size, 0, none⟩ = some (.string b1) ∧ w'.cell? ⟨w.heap.size, 1, none⟩ = some (.string b2) ∧ w'.cell? ⟨w.heap.size, 2, none⟩ = some (.int .i64 b3) ∧ w'.cell? ⟨w.heap.size, 3, none⟩ = some (.string b4) ∧ w'.cell? ⟨w.heap.size, 4, none⟩ = some (.string b5) ∧ w'.cell? ⟨w.heap.size, 5, none⟩ = some (.string b6) ∧ w'.cell? ⟨w.heap.size, 6, none⟩ = some (.bool b7) ∧ w'.cell? ⟨w.heap.size, 7, none⟩ = some (.bool b8)) (ds := []) #[false, false, false, false, false, false, false, false, false, false, false, false, false, false] Zi rfl rfl (Yea (Yp BK.out)) (fun hHeld => ?_); refine Ylf Yxj Ymj (fun HT_ HW_ => ?_)
 replace BK := Ya.mk (Yp BK.out)
 replace BZ := Ya.mk (Yp BZ.out)
 replace HB := Ya.mk (Yc HB.out)
 generalize w1.drew = wd at BK BZ HB hHeld ⊢
 refine Yya (i := 0) (N := some 13) (v := ?_) (a' := ?_) #[true, false, false, false, false, false, false, false, false, false, false, false, false, false] rfl rfl (Ysa HT_.out Zi) (fun _ _ _ h => h) (Or.inl ⟨Zga, ?_⟩) ?_ ?_
 rotate_left
 ·exact Zyb
 rotate_left
 ·exact Zzb
 refine Yya (i := 1) (N := some 14) (v := ?_) (a' := ?_) #[true, true, false, false, false, false, false, false, false, false, false, false, false, false] rfl rfl (Ysa HT_.out Zi) (fun _ _ _ h => h) (Or.inl ⟨Zga, ?_⟩) ?_ ?_
 rotate_left
 ·exact Zyb
 rotate_left
 ·exact Zzb
 refine Yya (i := 2) (N := some 15) (v := ?_) (a' := ?_) #[true, true, true, false, false, false, false, false, false, false, false, false, false, false] rfl rfl (Ysa HT_.out Zi) (fun _ _ _ h => h) (Or.inl ⟨Zga, ?_⟩) ?_ ?_
 rotate_left
 ·exact Zyb
 rotate_left
 ·exact Zzb
 refine Yya (i := 5) (N := some 18) (v := ?_) (a' := ?_) #[true, true, true, false, false, true, false, false, false, false, false, false, false, false] rfl rfl (Ysa HT_.out Zi) (fun _ _ _ h => h) (Or.inl ⟨Zga, ?_⟩) ?_ ?_
 rotate_left
 ·exact Zyb
 rotate_left
 ·exact Zzb
 refine Ynf (i := 6) (N := some 19) (v := ?_) (a' := ?_) #[true, true, true, false, false, true, true, false, false, false, false, false, false, false] rfl rfl (Yae HT_.out HW_.out Zi) (fun _ _ _ h => h) (Or.inl ⟨Zga, ?_⟩) hHeld ?_ ?_
 rotate_left
 ·exact Zac
 rotate_left
 ·exact Zzb
 refine Yya (i := 3) (N := some 16) (v := ?_) (a' := ?_) #[true, true, true, true, false, true, true, false, false, false, false, false, false, false] rfl rfl (Ysa HT_.out Zi) (fun _ _ _ h => h) (Or.inl ⟨Zga, ?_⟩) ?_ ?_
 rotate_left
 ·exact Zyb
 rotate_left
 ·exact Zzb
 refine one_ (i := 4) (N := some 17) #[true, true, true, true, true, true, true, false, false, false, false, false, false, false] rfl rfl (Yne HT_.out Zi) Zca (fun K hK => ?_)
 refine Yvh Tryz.func47 Zi rfl #[.string (s.extract 0 m.toNat)] Zga rfl rfl Zz ?_
 refine (Yfa.calls kl (s.extract 0 m.toNat) x _ (HE.out.below HB.out) HL.out).mono ?_
 rintro e we ⟨rfl, hb⟩
 refine ⟨_, rfl, ?_⟩
 replace BK := Ya.mk (Yla BK.out hb)
 replace BZ := Ya.mk (Yla BZ.out hb)
 replace HB := Ya.mk (HB.out.trans (hb.mono HB.out.size))
 clear hb
 refine hK.out _ _ (Yea BK.out) (fun hHeld => ?_)
 clear hK K
 refine Yeg (a' := ?_) ?_ ?_
 rotate_left
 ·show Act.put _ (some 17) _ = _
  simp only [Act.put, Kca, Yaa, Yda]
  rfl
 have x0 : (x.toList == b1.toList) = true := beq_iff_eq.2 HX.out
 have x1 : (x.toList != b1.toList) = false := bne_eq_false_iff_eq.2 HX.out
 refine Yya (i := 7) (N := some 20) (v := ?_) (a' := ?_) #[true, true, true, true, true, true, true, true, false, false, false, false, false, false] rfl rfl (Ysa HT_.out Zi) (fun _ _ _ h => h) (Or.inl ⟨Zga, ?_⟩) ?_ ?_
 rotate_left
 ·exact Zyb
 rotate_left
 ·exact Zzb
 refine Yya (i := 8) (N := some 21) (v := ?_) (a' := ?_) #[true, true, true, true, true, true, true, true, true, false, false, false, false, false] rfl rfl (Ysa HT_.out Zi) (fun _ _ _ h => h) (Or.inl ⟨Zga, ?_⟩) ?_ ?_
 rotate_left
 ·exact Zyb
 rotate_left
 ·exact Zzb
 refine Yya (i := 9) (N := some 22) (v := ?_) (a' := ?_) #[true, true, true, true, true, true, true, true, true, true, false, false, false, false] rfl rfl (Ysa HT_.out Zi) (fun _ _ _ h => h) (Or.inl ⟨Zga, ?_⟩) ?_ ?_
 rotate_left
 ·exact Zyb
 rotate_left
 ·exact Zzb
 refine Yya (i := 10) (N := some 23) (v := ?_) (a' := ?_) #[true, true, true, true, true, true, true, true, true, true, true, false, false, false] rfl rfl (Ysa HT_.out Zi) (fun _ _ _ h => h) (Or.inl ⟨Zga, ?_⟩) ?_ ?_
 rotate_left
 ·exact Zyb
 rotate_left
 ·exact Zzb
 refine Yya (i := 11) (N := some 24) (v := ?_) (a' := ?_) #[true, true, true, true, true, true, true, true, true, true, true, true, false, false] rfl rfl (Ysa HT_.out Zi) (fun _ _ _ h => h) (Or.inl ⟨Zga, ?_⟩) ?_ ?_
 rotate_left
 ·exact Zyb
 rotate_left
 ·exact Zzb
 refine one_ (i := 12) (N := some 25) #[true, true, true, true, true, true, true, true, true, true, true, true, true, false] rfl rfl (Yne HT_.out Zi) Zca (fun K hK => ?_)
 refine Yvh Tryz.func75 Zi rfl #[.string (s.extract n.toNat s.size)] Zga rfl rfl Zz ?_
 refine (Ypa.calls (s.extract n.toNat s.size) false _ (HE.out.below HB.out) HY.out).mono ?_
 rintro e wq ⟨rfl, ⟨nd, rfl⟩⟩
 refine ⟨_, rfl, ?_⟩
 replace BK := Ya.mk (Yi BK.out nd)
 replace BZ := Ya.mk (Yi BZ.out nd)
 replace HB := Ya.mk (Yb HB.out nd)
 generalize World.drewN _ nd = we at BK BZ HB ⊢
 refine hK.out _ _ (Yea BK.out) (fun hHeld => ?_)
 clear hK K
 refine Yeg (a' := ?_) ?_ ?_
 rotate_left
 ·show Act.put _ (some 25) _ = _
  simp only [Act.put, Kca, Yaa, Yda]
  rfl
 refine Yya (i := 13) (N := some 26) (v := ?_) (a' := ?_) #[true, true, true, true, true, true, true, true, true, true, true, true, true, true] rfl rfl (Ysa HT_.out Zi) (fun _ _ _ h => h) (Or.inl ⟨Zga, ?_⟩) ?_ ?_
 rotate_left
 ·exact Zyb
 rotate_left
 ·exact Zzb
 refine Yoh (Yvg HT_.out Zi) ?_
 go_wp2_with fail
 refine Ykg (n := 9) (S := fun w' => w'.cell? ⟨w.heap.size, 0, none⟩ = some (.string b1) ∧ w'.cell? ⟨w.heap.size, 1, none⟩ = some (.string b2) ∧ w'.cell? ⟨w.heap.size, 2, none⟩ = some (.int .i64 b3) ∧ w'.cell? ⟨w.heap.size, 3, none⟩ = some (.string b4) ∧ w'.cell? ⟨w.heap.size, 4, none⟩ = some (.string b5) ∧ w'.cell? ⟨w.heap.size, 5, none⟩ = some (.string b6) ∧ w'.cell? ⟨w.heap.size, 6, none⟩ = some (.bool b7) ∧ w'.cell? ⟨w.heap.size, 7, none⟩ = some (.bool b8)) (ds := []) #[false, false, false, false, false, false, false, false, false] Zi rfl rfl (Yea (Yp BK.out)) (fun hHeld => ?_); refine Ylf Ypt Ygr (fun HT_ HW_ => ?_)
 replace BK := Ya.mk (Yp BK.out)
 replace BZ := Ya.mk (Yp BZ.out)
 replace HB := Ya.mk (Yc HB.out)
 generalize World.drew _ = wf at BK BZ HB hHeld ⊢
 refine Ynf (i := 0) (N := some 31) (v := ?_) (a' := ?_) #[true, false, false, false, false, false, false, false, false] rfl rfl (Yae HT_.out HW_.out Zi) (fun _ _ _ h => h) (Or.inl ⟨Zga, ?_⟩) hHeld ?_ ?_
 rotate_left
 ·exact Zac
 rotate_left
 ·exact Zzb
 refine Yya (i := 1) (N := some 32) (v := ?_) (a' := ?_) #[true, true, false, false, false, false, false, false, false] rfl rfl (Ysa HT_.out Zi) (fun _ _ _ h => h) (Or.inl ⟨Zga, ?_⟩) ?_ ?_
 rotate_left
 ·exact Zyb
 rotate_left
 ·exact Zzb
 refine Yya (i := 2) (N := some 33) (v := ?_) (a' := ?_) #[true, true, true, false, false, false, false, false, false] rfl rfl (Ysa HT_.out Zi) (fun _ _ _ h => h) (Or.inl ⟨Zga, ?_⟩) ?_ ?_
 rotate_left
 ·exact Zyb
 rotate_left
 ·exact Zzb
 refine Yya (i := 3) (N := some 34) (v := ?_) (a' := ?_) #[true, true, true, true, false, false, false, false, false] rfl rfl (Ysa HT_.out Zi) (fun _ _ _ h => h) (Or.inl ⟨Zga, ?_⟩) ?_ ?_
 rotate_left
 ·exact Zyb
 rotate_left
 ·exact Zzb
 refine one_ (i := 4) (N := some 35) #[true, true, true, true, true, false, false, false, false] rfl rfl (Yne HT_.out Zi) Zca (fun K hK => ?_)
 refine Yvh Tryz.func34 Zi rfl #[.agg #[.string b1, .string b2, .int .i64 b3, .string b4, .string b5, .string b6, .bool b7, .bool b8], .string (s.extract n.toNat s.size)] Zga rfl rfl Zz ?_
 refine (HJ.out _ (HE.out.below HB.out)).mono ?_
 rintro e we ⟨rfl, hb⟩
 refine ⟨_, rfl, ?_⟩
 replace BK := Ya.mk (Yla BK.out hb)
 replace BZ := Ya.mk (Yla BZ.out hb)
 replace HB := Ya.mk (HB.out.trans (hb.mono HB.out.size))
 clear hb
 refine hK.out _ _ (Yea BK.out) (fun hHeld => ?_)
 clear hK K
 refine Yeg (a' := ?_) ?_ ?_
 rotate_left
 ·show Act.put _ (some 35) _ = _
  simp only [Act.put, Kca, Yaa, Yda]
  rfl
 refine Yya (i := 5) (N := some 36) (v := ?_) (a' := ?_) #[true, true, true, true, true, true, false, false, false] rfl rfl (Ysa HT_.out Zi) (fun _ _ _ h => h) (Or.inl ⟨Zga, ?_⟩) ?_ ?_
 rotate_left
 ·exact Zyb
 rotate_left
 ·exact Zzb
 refine Yya (i := 6) (N := some 37) (v := ?_) (a' := ?_) #[true, true, true, true, true, true, true, false, false] rfl rfl (Ysa HT_.out Zi) (fun _ _ _ h => h) (Or.inl ⟨Zga, ?_⟩) ?_ ?_
 rotate_left
 ·exact Zyb
 rotate_left
 ·exact Zzb
 refine one_ (i := 7) (N := none) #[true, true, true, true, true, true, true, true, false] rfl rfl (Yne HT_.out Zi) Zca (fun K hK => ?_)
 have qH := (Yf BZ.out 0).trans rfl
 have hy0 := Ye BZ.out 0
 have uW := (Yf BZ.out 1).trans rfl
 have hy1 := Ye BZ.out 1
 have lL := (Yf BZ.out 2).trans rfl
 have hy2 := Ye BZ.out 2
 have hz3 := (Yf BZ.out 3).trans rfl
 have hy3 := Ye BZ.out 3
 have hz4 := (Yf BZ.out 4).trans rfl
 have hy4 := Ye BZ.out 4
 have hz5 := (Yf BZ.out 5).trans rfl
 have hy5 := Ye BZ.out 5
 have hz6 := (Yf BZ.out 6).trans rfl
 have hy6 := Ye BZ.out 6
 have hz7 := (Yf BZ.out 7).trans rfl
 have hy7 := Ye BZ.out 7
 have HNE := Ya.mk (show w.heap.size + 1 ≠ w.heap.size by omega)
 refine Ysi (w1 := ?_) Zga rfl ?_ ?_
 rotate_left
 ·go_simp
  rfl
 refine hK.out _ _ (Yea (far8 BK.out HNE.out)) (fun hHeld => ?_)
 clear hK K qH hy0 uW hy1 lL hy2 hz3 hy3 hz4 hy4 hz5 hy5 hz6 hy6 hz7 hy7
 refine Yya (i := 8) (N := some 5) (v := ?_) (a' := ?_) #[true, true, true, true, true, true, true, true, true] rfl rfl (Ysa HT_.out Zi) (fun _ _ _ h => h) (Or.inl ⟨Zga, ?_⟩) ?_ ?_
 rotate_left
 ·exact Zyb
 rotate_left
 ·exact Zzb
 refine Yoh (Yvg HT_.out Zi) ?_
 go_wp2_with fail
 refine bodyPost_ret (v := ?vj) ?hvj ?dvj ?_
 case hvj => refine Yba (p := 4) (u := 5) (ty := 25) ?_ _ _ (w.heap.size + 1) 25 (uc r1 r2 r3 r4 r5 r6 r7 r8) (0, 0) _ ?_ (put8 BZ.out) bQ rfl bD <;> rfl
 case dvj => rfl
 exact ⟨rfl, Yir HB.out Zk⟩
theorem Yku (k0 : Nat) (b1 b2 : Y) (b3 : Int) (b4 b5 b6 : Y) (b7 b8 : Bool) (s r1 r2 : Y) (r3 : Int) (r4 r5 r6 : Y) (r7 r8 : Bool) (r9 : Int) (w : World) (hE : EnvOk w)
  (hs : Yr.f k0 s = some 0)
  (hf : Ypa.f s = some true)
  (hz : 1 ≤ s.size)
  (hg : Ypa.f (s.extract 1 s.size) = some true)
  (hy : b1.size + s.size ≤ 10000000)
  (hp : Ysb.f (b1 ++ (⟨#[58]⟩ : Y) ++ s) = some (r1, r2, r3, r4, r5, r6, r7, r8, r9)) :
  Calls Tryz.prog 74 #[.agg (uc b1 b2 b3 b4 b5 b6 b7 b8), .string s] w fun e w' => e = .returned (.tuple #[.agg (uc r1 r2 r3 r4 r5 r6 r7 r8), .int .i64 r9]) ∧ Below w.heap.size w w' := by
 have HE := Ya.mk hE
 have HS := Ya.mk hs
 have HF := Ya.mk hf
 have HZ := Ya.mk hz
 have HG := Ya.mk hg
 have HY := Ya.mk hy
 have HP := Ya.mk hp
 clear hE hs hf hz hg hy hp
 have bQ := Tryz.underlying25
 have bD : (Tryz.prog.info? 25).map (·.size) = some 8 := by kernel_rfl
 obtain ⟨BK, BZ, HB⟩ := Yaf w (uc b1 b2 b3 b4 b5 b6 b7 b8) (uc ⟨#[]⟩ ⟨#[]⟩ 0 ⟨#[]⟩ ⟨#[]⟩ ⟨#[]⟩ false false) 25
 go_enter Tryz.func74, Tryz.ntmps74
 go_wp2_with fail
 refine (Yr.calls k0 s 0 _ (HE.out.below HB.out) HS.out).mono ?_
 rintro e wq ⟨rfl, ⟨nd, rfl⟩⟩
 replace BK := Ya.mk (Yi BK.out nd)
 replace BZ := Ya.mk (Yi BZ.out nd)
 replace HB := Ya.mk (Yb HB.out nd)
 generalize World.drewN _ nd = w1 at BK BZ HB ⊢
 go_wp2_with fail
 refine (Ypa.calls s true _ (HE.out.below HB.out) HF.out).mono ?_
 rintro e wq ⟨rfl, ⟨nd, rfl⟩⟩
 replace BK := Ya.mk (Yi BK.out nd)
 replace BZ := Ya.mk (Yi BZ.out nd)
 replace HB := Ya.mk (Yb HB.out nd)
 generalize World.drewN _ nd = w2 at BK BZ HB ⊢
 have f0 := Kt (show (1 : Int) ≤ (s.size : Int) by have := HZ.out; omega)
 have f1 := Kt (show 1 ≤ s.size by have := HZ.out; omega)
 have f2 : decide ((1 : Int) ≤ (s.size : Int)) = true := Kr (by have := HZ.out; omega)
 go_wp2_with fail
 refine (Ypa.calls (s.extract 1 s.size) true _ (HE.out.below HB.out) HG.out).mono ?_
 rintro e wq ⟨rfl, ⟨nd, rfl⟩⟩
 replace BK := Ya.mk (Yi BK.out nd)
 replace BZ := Ya.mk (Yi BZ.out nd)
 replace HB := Ya.mk (Yb HB.out nd)
 generalize World.drewN _ nd = w3 at BK BZ HB ⊢
 obtain ⟨cQ, cB, cN, cX, cU, cT, cY, cR⟩ := Yea BK.out
 have pC : (⟨#[58]⟩ : Y).size = 1 := rfl
 have c0 := Kt (show b1.size + 1 ≤ 9223372036854775807 by have := HY.out; omega)
 have c1 : (9223372036854775807 < b1.size + 1) = False := eq_false (by have := HY.out; omega)
 have c2 : (9223372036854775807 < (b1 ++ (⟨#[58]⟩ : Y)).size + s.size) = False := eq_false (by rw [ByteArray.size_append, pC]; have := HY.out; omega)
 have c3 : (9223372036854775807 < b1.size + 1 + s.size) = False := eq_false (by have := HY.out; omega)
 have c4 := Kt (show (b1 ++ (⟨#[58]⟩ : Y)).size + s.size ≤ 9223372036854775807 by rw [ByteArray.size_append, pC]; have := HY.out; omega)
 go_wp2_with fail
 clear cQ cB cN cX cU cT cY cR
 refine (Ysb.calls (b1 ++ (⟨#[58]⟩ : Y) ++ s) r1 r2 r3 r4 r5 r6 r7 r8 r9 _ (HE.out.below HB.out) HP.out).mono ?_
 rintro e w4 ⟨rfl, hb⟩
 replace BK := Ya.mk (Yla BK.out hb)
 replace BZ := Ya.mk (Yla BZ.out hb)
 replace HB := Ya.mk (HB.out.trans (hb.mono HB.out.size))
 clear hb
 go_wp2_with ((with_reducible refine Yxa (t := 25) (p := 4) rfl ?_); refine wpList_store_row rfl 25 (.tmp 4) (.tmp 51) rfl (w.heap.size + 1) (uc r1 r2 r3 r4 r5 r6 r7 r8) rfl rfl 25 _ BZ.out bD rfl (Ypb _ _ _ _ _ _ _ _) ?_)
 refine bodyPost_ret (v := ?v6x) ?hv6x ?dv6x ?_
 case hv6x => refine Yba (p := 4) (u := 5) (ty := 25) ?_ _ _ (w.heap.size + 1) 25 (uc r1 r2 r3 r4 r5 r6 r7 r8) (0, 0) _ ?_ (setRow_heap _ _ _ _ _ _ BZ.out) bQ rfl bD <;> rfl
 case dv6x => rfl
 exact ⟨rfl, below_setRow HB.out Zk _⟩
theorem Ycu (k0 : Nat) (b1 b2 : Y) (b3 : Int) (b4 b5 b6 : Y) (b7 b8 : Bool) (s : Y) (w : World) (hE : EnvOk w)
  (hs : Yr.f k0 s = some 0)
  (hf : Ypa.f s = some false)
  (hn : s.toList = ([] : List UInt8)) :
  Calls Tryz.prog 74 #[.agg (uc b1 b2 b3 b4 b5 b6 b7 b8), .string s] w fun e w' => e = .returned (.tuple #[.agg (uc b1 b2 b3 b4 b5 ⟨#[]⟩ b7 false), .int .i64 0]) ∧ Below w.heap.size w w' := by
 have HE := Ya.mk hE
 have HS := Ya.mk hs
 have HF := Ya.mk hf
 have HN := Ya.mk hn
 clear hE hs hf hn
 have bQ := Tryz.underlying25
 have bD : (Tryz.prog.info? 25).map (·.size) = some 8 := by kernel_rfl
 obtain ⟨BK, BZ, HB⟩ := Yaf w (uc b1 b2 b3 b4 b5 b6 b7 b8) (uc ⟨#[]⟩ ⟨#[]⟩ 0 ⟨#[]⟩ ⟨#[]⟩ ⟨#[]⟩ false false) 25
 go_enter Tryz.func74, Tryz.ntmps74
 go_wp2_with fail
 refine (Yr.calls k0 s 0 _ (HE.out.below HB.out) HS.out).mono ?_
 rintro e wq ⟨rfl, ⟨nd, rfl⟩⟩
 replace BK := Ya.mk (Yi BK.out nd)
 replace BZ := Ya.mk (Yi BZ.out nd)
 replace HB := Ya.mk (Yb HB.out nd)
 generalize World.drewN _ nd = w1 at BK BZ HB ⊢
 go_wp2_with fail
 refine (Ypa.calls s false _ (HE.out.below HB.out) HF.out).mono ?_
 rintro e wq ⟨rfl, ⟨nd, rfl⟩⟩
 replace BK := Ya.mk (Yi BK.out nd)
 replace BZ := Ya.mk (Yi BZ.out nd)
 replace HB := Ya.mk (Yb HB.out nd)
 generalize World.drewN _ nd = w2 at BK BZ HB ⊢
 have HNK := Ya.mk (show w2.heap.size ≠ w.heap.size from Nat.ne_of_gt (Yyd BK.out))
 have HNZ := Ya.mk (show w2.heap.size ≠ w.heap.size + 1 from Nat.ne_of_gt (Yyd BZ.out))
 have HGE := Ya.mk (show w.heap.size ≤ w2.heap.size from HB.out.size)
 obtain ⟨cQ, cB, cN, cX, cU, cT, cY, cR⟩ := Yea BK.out
 go_upto_block 0 with fail
 (try simp only [Act.put, Kca])
 clear cQ cB cN cX cU cT cY cR
 replace BK := Ya.mk (Ym BK.out (.cells #[.string b1, .string b2, .int .i64 b3, .string b4, .string b5, .string ⟨#[]⟩, .bool b7, .bool false] 25))
 replace BZ := Ya.mk (Ym BZ.out (.cells #[.string b1, .string b2, .int .i64 b3, .string b4, .string b5, .string ⟨#[]⟩, .bool b7, .bool false] 25))
 have BG := Ya.mk (heap_alloc_new w2 (.cells #[.string b1, .string b2, .int .i64 b3, .string b4, .string b5, .string ⟨#[]⟩, .bool b7, .bool false] 25))
 replace HB := Ya.mk (HB.out.alloc HB.out.size (.cells #[.string b1, .string b2, .int .i64 b3, .string b4, .string b5, .string ⟨#[]⟩, .bool b7, .bool false] 25))
 generalize w2.alloc (.cells #[.string b1, .string b2, .int .i64 b3, .string b4, .string b5, .string ⟨#[]⟩, .bool b7, .bool false] 25) = ws at BK BZ BG HB ⊢
 obtain ⟨g, hg⟩ : ∃ n, n = w2.heap.size := ⟨_, rfl⟩
 rw [← hg] at BG HNK HNZ HGE ⊢
 clear hg
 obtain ⟨cQ, cB, cN, cX, cU, cT, cY, cR⟩ := Yea BG.out
 have n0 : (s.toList == ([] : List UInt8)) = true := beq_iff_eq.2 HN.out
 have n1 : (s.toList != ([] : List UInt8)) = false := bne_eq_false_iff_eq.2 HN.out
 go_wp2_with ((with_reducible refine Yxa (t := 25) (p := 4) rfl ?_); refine wpList_store_row rfl 25 (.tmp 4) (.tmp 82) rfl (w.heap.size + 1) (uc b1 b2 b3 b4 b5 ⟨#[]⟩ b7 false) rfl rfl 25 _ BZ.out bD rfl (Ypb _ _ _ _ _ _ _ _) ?_)
 refine bodyPost_ret (v := ?v7x) ?hv7x ?dv7x ?_
 case hv7x => refine Yba (p := 4) (u := 5) (ty := 25) ?_ _ _ (w.heap.size + 1) 25 (uc b1 b2 b3 b4 b5 ⟨#[]⟩ b7 false) (0, 0) _ ?_ (setRow_heap _ _ _ _ _ _ BZ.out) bQ rfl bD <;> rfl
 case dv7x => rfl
 exact ⟨rfl, below_setRow HB.out Zk _⟩
theorem Yxt (k0 kt : Nat) (b1 b2 : Y) (b3 : Int) (b4 b5 b6 : Y) (b7 b8 : Bool) (s t : Y) (res : Array Value) (tp tq tf : Y) (hq hh : Bool) (w : World) (hE : EnvOk w)
  (hs : Yr.f k0 s = some 0)
  (hf : Ypa.f s = some false)
  (hn : ¬ s.toList = ([] : List UInt8) ∧ 0 < s.size)
  (hp : bt s 0 = 35)
  (hk : Yac.f b1 b2 b3 b4 b5 ⟨#[]⟩ b7 false s = some (b1, b2, b3, tp, tq, tf, hq, hh))
  (ht : Yx.f kt b1 b2 b3 b4 b5 tf b7 hh = some t)
  (hr : (if (t.size : Int) > 2048 then #[.agg (uc ⟨#[]⟩ ⟨#[]⟩ 0 ⟨#[]⟩ ⟨#[]⟩ ⟨#[]⟩ false false), .int .i64 5] else #[.agg (uc b1 b2 b3 b4 b5 tf b7 hh), .int .i64 0]) = res) :
  Calls Tryz.prog 74 #[.agg (uc b1 b2 b3 b4 b5 b6 b7 b8), .string s] w fun e w' => e = .returned (.tuple res) ∧ Below w.heap.size w w' := by
 have HE := Ya.mk hE
 have HS := Ya.mk hs
 have HF := Ya.mk hf
 have HN := Ya.mk hn
 have HP := Ya.mk hp
 have HK := Ya.mk hk
 have HT := Ya.mk ht
 have HR := Ya.mk hr
 clear hE hs hf hn hp hk ht hr
 have bQ := Tryz.underlying25
 have bD : (Tryz.prog.info? 25).map (·.size) = some 8 := by kernel_rfl
 obtain ⟨BK, BZ, HB⟩ := Yaf w (uc b1 b2 b3 b4 b5 b6 b7 b8) (uc ⟨#[]⟩ ⟨#[]⟩ 0 ⟨#[]⟩ ⟨#[]⟩ ⟨#[]⟩ false false) 25
 go_enter Tryz.func74, Tryz.ntmps74
 go_wp2_with fail
 refine (Yr.calls k0 s 0 _ (HE.out.below HB.out) HS.out).mono ?_
 rintro e wq ⟨rfl, ⟨nd, rfl⟩⟩
 replace BK := Ya.mk (Yi BK.out nd)
 replace BZ := Ya.mk (Yi BZ.out nd)
 replace HB := Ya.mk (Yb HB.out nd)
 generalize World.drewN _ nd = w1 at BK BZ HB ⊢
 go_wp2_with fail
 refine (Ypa.calls s false _ (HE.out.below HB.out) HF.out).mono ?_
 rintro e wq ⟨rfl, ⟨nd, rfl⟩⟩
 replace BK := Ya.mk (Yi BK.out nd)
 replace BZ := Ya.mk (Yi BZ.out nd)
 replace HB := Ya.mk (Yb HB.out nd)
 generalize World.drewN _ nd = w2 at BK BZ HB ⊢
 have HNK := Ya.mk (show w2.heap.size ≠ w.heap.size from Nat.ne_of_gt (Yyd BK.out))
 have HNZ := Ya.mk (show w2.heap.size ≠ w.heap.size + 1 from Nat.ne_of_gt (Yyd BZ.out))
 have HGE := Ya.mk (show w.heap.size ≤ w2.heap.size from HB.out.size)
 obtain ⟨cQ, cB, cN, cX, cU, cT, cY, cR⟩ := Yea BK.out
 go_upto_block 0 with fail
 (try simp only [Act.put, Kca])
 clear cQ cB cN cX cU cT cY cR
 replace BK := Ya.mk (Ym BK.out (.cells #[.string b1, .string b2, .int .i64 b3, .string b4, .string b5, .string ⟨#[]⟩, .bool b7, .bool false] 25))
 replace BZ := Ya.mk (Ym BZ.out (.cells #[.string b1, .string b2, .int .i64 b3, .string b4, .string b5, .string ⟨#[]⟩, .bool b7, .bool false] 25))
 have BG := Ya.mk (heap_alloc_new w2 (.cells #[.string b1, .string b2, .int .i64 b3, .string b4, .string b5, .string ⟨#[]⟩, .bool b7, .bool false] 25))
 replace HB := Ya.mk (HB.out.alloc HB.out.size (.cells #[.string b1, .string b2, .int .i64 b3, .string b4, .string b5, .string ⟨#[]⟩, .bool b7, .bool false] 25))
 generalize w2.alloc (.cells #[.string b1, .string b2, .int .i64 b3, .string b4, .string b5, .string ⟨#[]⟩, .bool b7, .bool false] 25) = ws at BK BZ BG HB ⊢
 obtain ⟨g, hg⟩ : ∃ n, n = w2.heap.size := ⟨_, rfl⟩
 rw [← hg] at BG HNK HNZ HGE ⊢
 clear hg
 have n0 : (s.toList == ([] : List UInt8)) = false := beq_eq_false_iff_ne.2 HN.out.1
 have n1 : (s.toList != ([] : List UInt8)) = true := bne_iff_ne.2 HN.out.1
 have q4 := Kt HN.out.2
 have tV : (0 < (s.size : Int)) = True := Kt (by have := HN.out.2; omega)
 have jF : ∀ h : 0 < s.size, ((s[0]'h).toNat : Int) = bt s 0 := Ybb s 0
 have pa : (bt s 0 == 35) = true := beq_iff_eq.2 HP.out
 have pb : decide (bt s 0 = 35) = true := Kr HP.out
 obtain ⟨cQ, cB, cN, cX, cU, cT, cY, cR⟩ := Yea BG.out
 go_wp2_with fail
 clear cQ cB cN cX cU cT cY cR
 refine (Yac.calls b1 b2 b3 b4 b5 ⟨#[]⟩ b7 false s b1 b2 b3 tp tq tf hq hh _ (HE.out.below HB.out) HK.out).mono ?_
 rintro e w3 ⟨rfl, hb⟩
 replace BK := Ya.mk (Yla BK.out hb)
 replace BZ := Ya.mk (Yla BZ.out hb)
 replace BG := Ya.mk (Yla BG.out hb)
 replace HB := Ya.mk (HB.out.trans (hb.mono HB.out.size))
 clear hb
 go_wp2_with ((with_reducible refine Yxa (t := 25) (p := 7) rfl ?_); refine wpList_store_row rfl 25 (.tmp 7) (.tmp 89) rfl g (uc b1 b2 b3 tp tq tf hq hh) rfl rfl 25 _ BG.out bD rfl (Ypb _ _ _ _ _ _ _ _) ?_; replace BK := Ya.mk ((setRow_other w3 g w.heap.size (uc b1 b2 b3 tp tq tf hq hh) HNK.out.symm).trans BK.out); replace BZ := Ya.mk ((setRow_other w3 g (w.heap.size + 1) (uc b1 b2 b3 tp tq tf hq hh) HNZ.out.symm).trans BZ.out); replace HB := Ya.mk (below_setRow HB.out HGE.out (uc b1 b2 b3 tp tq tf hq hh)); replace BG := Ya.mk (setRow_heap _ _ _ (uc b1 b2 b3 tp tq tf hq hh) _ _ BG.out); generalize w3.setRow g (uc b1 b2 b3 tp tq tf hq hh) = wn at BK BZ BG HB ⊢)
 refine Ykg (n := 12) (S := fun w' => w'.cell? ⟨w.heap.size, 0, none⟩ = some (.string b1) ∧ w'.cell? ⟨w.heap.size, 1, none⟩ = some (.string b2) ∧ w'.cell? ⟨w.heap.size, 2, none⟩ = some (.int .i64 b3) ∧ w'.cell? ⟨w.heap.size, 3, none⟩ = some (.string b4) ∧ w'.cell? ⟨w.heap.size, 4, none⟩ = some (.string b5) ∧ w'.cell? ⟨w.heap.size, 5, none⟩ = some (.string b6) ∧ w'.cell? ⟨w.heap.size, 6, none⟩ = some (.bool b7) ∧ w'.cell? ⟨w.heap.size, 7, none⟩ = some (.bool b8)) (ds := []) #[false, false, false, false, false, false, false, false, false, false, false, false] Zi rfl rfl (Yea (Yp BK.out)) (fun hHeld => ?_); refine Ylf Yhr Yop (fun HT_ HW_ => ?_)
 replace BK := Ya.mk (Yp BK.out)
 replace BZ := Ya.mk (Yp BZ.out)
 replace BG := Ya.mk (Yp BG.out)
 replace HB := Ya.mk (Yc HB.out)
 generalize wn.drew = wo at BK BZ BG HB hHeld ⊢
 refine Yya (i := 0) (N := some 90) (v := ?_) (a' := ?_) #[true, false, false, false, false, false, false, false, false, false, false, false] rfl rfl (Ysa HT_.out Zi) (fun _ _ _ h => h) (Or.inl ⟨Zga, ?_⟩) ?_ ?_
 rotate_left
 ·exact Zyb
 rotate_left
 ·exact Zzb
 refine Ynf (i := 1) (N := some 91) (v := ?_) (a' := ?_) #[true, true, false, false, false, false, false, false, false, false, false, false] rfl rfl (Yae HT_.out HW_.out Zi) (fun _ _ _ h => h) (Or.inl ⟨Zga, ?_⟩) hHeld ?_ ?_
 rotate_left
 ·exact Zac
 rotate_left
 ·exact Zzb
 refine Yya (i := 2) (N := some 92) (v := ?_) (a' := ?_) #[true, true, true, false, false, false, false, false, false, false, false, false] rfl rfl (Ysa HT_.out Zi) (fun _ _ _ h => h) (Or.inl ⟨Zga, ?_⟩) ?_ ?_
 rotate_left
 ·exact Zyb
 rotate_left
 ·exact Zzb
 refine Ynf (i := 3) (N := some 93) (v := ?_) (a' := ?_) #[true, true, true, true, false, false, false, false, false, false, false, false] rfl rfl (Yae HT_.out HW_.out Zi) (fun _ _ _ h => h) (Or.inl ⟨Zga, ?_⟩) hHeld ?_ ?_
 rotate_left
 ·exact Zac
 rotate_left
 ·exact Zzb
 refine Yya (i := 4) (N := some 94) (v := ?_) (a' := ?_) #[true, true, true, true, true, false, false, false, false, false, false, false] rfl rfl (Ysa HT_.out Zi) (fun _ _ _ h => h) (Or.inl ⟨Zga, ?_⟩) ?_ ?_
 rotate_left
 ·exact Zyb
 rotate_left
 ·exact Zzb
 refine Ynf (i := 5) (N := some 95) (v := ?_) (a' := ?_) #[true, true, true, true, true, true, false, false, false, false, false, false] rfl rfl (Yae HT_.out HW_.out Zi) (fun _ _ _ h => h) (Or.inl ⟨Zga, ?_⟩) hHeld ?_ ?_
 rotate_left
 ·exact Zac
 rotate_left
 ·exact Zzb
 refine Yya (i := 6) (N := some 96) (v := ?_) (a' := ?_) #[true, true, true, true, true, true, true, false, false, false, false, false] rfl rfl (Ysa HT_.out Zi) (fun _ _ _ h => h) (Or.inl ⟨Zga, ?_⟩) ?_ ?_
 rotate_left
 ·exact Zyb
 rotate_left
 ·exact Zzb
 refine one_ (i := 7) (N := none) #[true, true, true, true, true, true, true, true, false, false, false, false] rfl rfl (Yne HT_.out Zi) Zca (fun K hK => ?_)
 have hs6 := (Yf BG.out 3).trans rfl
 have hf6 := Ye BG.out 3
 have hnk := HNK.out
 have aCH := HNK.out.symm
 refine Ysi (w1 := ?_) Zga rfl ?_ ?_
 rotate_left
 ·go_simp
  rfl
 refine hK.out _ _ (Yea (Yvb BK.out (p := ⟨g, 3, none⟩) HNK.out.symm (.string b4))) (fun hHeld => ?_)
 clear hK K hs6 hf6 hnk aCH
 replace BK := Ya.mk (Yvb BK.out (p := ⟨g, 3, none⟩) HNK.out.symm (.string b4))
 replace BZ := Ya.mk (Yvb BZ.out (p := ⟨g, 3, none⟩) HNZ.out.symm (.string b4))
 replace HB := Ya.mk (Yg (j := 3) (v := .string b4) HB.out HGE.out)
 replace BG := Ya.mk (Yoa BG.out 3 (.string b4) rfl)
 generalize wo.setCell ⟨g, 3, none⟩ (.string b4) = wp at BK BZ BG HB hHeld ⊢
 refine Yya (i := 8) (N := some 97) (v := ?_) (a' := ?_) #[true, true, true, true, true, true, true, true, true, false, false, false] rfl rfl (Ysa HT_.out Zi) (fun _ _ _ h => h) (Or.inl ⟨Zga, ?_⟩) ?_ ?_
 rotate_left
 ·exact Zyb
 rotate_left
 ·exact Zzb
 refine one_ (i := 9) (N := none) #[true, true, true, true, true, true, true, true, true, true, false, false] rfl rfl (Yne HT_.out Zi) Zca (fun K hK => ?_)
 have hs6 := (Yf BG.out 6).trans rfl
 have hf6 := Ye BG.out 6
 have hnk := HNK.out
 have aCH := HNK.out.symm
 refine Ysi (w1 := ?_) Zga rfl ?_ ?_
 rotate_left
 ·go_simp
  rfl
 refine hK.out _ _ (Yea (Yvb BK.out (p := ⟨g, 6, none⟩) HNK.out.symm (.bool b7))) (fun hHeld => ?_)
 clear hK K hs6 hf6 hnk aCH
 replace BK := Ya.mk (Yvb BK.out (p := ⟨g, 6, none⟩) HNK.out.symm (.bool b7))
 replace BZ := Ya.mk (Yvb BZ.out (p := ⟨g, 6, none⟩) HNZ.out.symm (.bool b7))
 replace HB := Ya.mk (Yg (j := 6) (v := .bool b7) HB.out HGE.out)
 replace BG := Ya.mk (Yoa BG.out 6 (.bool b7) rfl)
 generalize wp.setCell ⟨g, 6, none⟩ (.bool b7) = wq at BK BZ BG HB hHeld ⊢
 refine Yya (i := 10) (N := some 98) (v := ?_) (a' := ?_) #[true, true, true, true, true, true, true, true, true, true, true, false] rfl rfl (Ysa HT_.out Zi) (fun _ _ _ h => h) (Or.inl ⟨Zga, ?_⟩) ?_ ?_
 rotate_left
 ·exact Zyb
 rotate_left
 ·exact Zzb
 refine one_ (i := 11) (N := none) #[true, true, true, true, true, true, true, true, true, true, true, true] rfl rfl (Yne HT_.out Zi) Zca (fun K hK => ?_)
 have hs6 := (Yf BG.out 4).trans rfl
 have hf6 := Ye BG.out 4
 have hnk := HNK.out
 have aCH := HNK.out.symm
 refine Ysi (w1 := ?_) Zga rfl ?_ ?_
 rotate_left
 ·go_simp
  rfl
 refine hK.out _ _ (Yea (Yvb BK.out (p := ⟨g, 4, none⟩) HNK.out.symm (.string b5))) (fun hHeld => ?_)
 clear hK K hs6 hf6 hnk aCH
 replace BK := Ya.mk (Yvb BK.out (p := ⟨g, 4, none⟩) HNK.out.symm (.string b5))
 replace BZ := Ya.mk (Yvb BZ.out (p := ⟨g, 4, none⟩) HNZ.out.symm (.string b5))
 replace HB := Ya.mk (Yg (j := 4) (v := .string b5) HB.out HGE.out)
 replace BG := Ya.mk (Yoa BG.out 4 (.string b5) rfl)
 generalize wq.setCell ⟨g, 4, none⟩ (.string b5) = wr at BK BZ BG HB hHeld ⊢
 refine Yoh (Yvg HT_.out Zi) ?_
 obtain ⟨cQ, cB, cN, cX, cU, cT, cY, cR⟩ := Yea BG.out
 go_wp2_with fail
 clear cQ cB cN cX cU cT cY cR
 refine (Yx.calls kt b1 b2 b3 b4 b5 tf b7 hh t _ (HE.out.below HB.out) HT.out).mono ?_
 rintro e w4 ⟨rfl, hb⟩
 replace BK := Ya.mk (Yla BK.out hb)
 replace BZ := Ya.mk (Yla BZ.out hb)
 replace BG := Ya.mk (Yla BG.out hb)
 replace HB := Ya.mk (HB.out.trans (hb.mono HB.out.size))
 clear hb
 by_cases hbig : (t.size : Int) > 2048
 ·have HBG := Ya.mk (show (#[.agg (uc ⟨#[]⟩ ⟨#[]⟩ 0 ⟨#[]⟩ ⟨#[]⟩ ⟨#[]⟩ false false), .int .i64 5]) = res from by rw [← HR.out, if_pos hbig])
  have cb0 : decide (2048 < (t.size : Int)) = true := Kr hbig
  have cb1 : decide (2048 < t.size) = true := Kr Zk
  clear hbig
  go_wp2_with ((with_reducible refine Yxa (t := 25) (p := 4) rfl ?_); refine wpList_store_row rfl 25 (.tmp 4) (.tmp 119) rfl (w.heap.size + 1) (uc ⟨#[]⟩ ⟨#[]⟩ 0 ⟨#[]⟩ ⟨#[]⟩ ⟨#[]⟩ false false) rfl rfl 25 _ BZ.out bD rfl (Ypb _ _ _ _ _ _ _ _) ?_)
  refine bodyPost_ret (v := ?v8x) ?hv8x ?dv8x ?_
  case hv8x => refine Yba (p := 4) (u := 5) (ty := 25) ?_ _ _ (w.heap.size + 1) 25 (uc ⟨#[]⟩ ⟨#[]⟩ 0 ⟨#[]⟩ ⟨#[]⟩ ⟨#[]⟩ false false) (0, 0) _ ?_ (setRow_heap _ _ _ _ _ _ BZ.out) bQ rfl bD <;> rfl
  case dv8x => rfl
  exact ⟨Znb, below_setRow HB.out Zk _⟩
 ·have HBG := Ya.mk (show (#[.agg (uc b1 b2 b3 b4 b5 tf b7 hh), .int .i64 0]) = res from by rw [← HR.out, if_neg hbig])
  have cb0 : decide (2048 < (t.size : Int)) = false := Ks hbig
  have cb1 : decide (2048 < t.size) = false := Ks Zk
  clear hbig
  obtain ⟨cQ, cB, cN, cX, cU, cT, cY, cR⟩ := Yea BG.out
  go_wp2_with ((with_reducible refine Yxa (t := 25) (p := 4) rfl ?_); refine wpList_store_row rfl 25 (.tmp 4) (.tmp 120) rfl (w.heap.size + 1) (uc b1 b2 b3 b4 b5 tf b7 hh) rfl rfl 25 _ BZ.out bD rfl (Ypb _ _ _ _ _ _ _ _) ?_)
  refine bodyPost_ret (v := ?v9x) ?hv9x ?dv9x ?_
  case hv9x => refine Yba (p := 4) (u := 5) (ty := 25) ?_ _ _ (w.heap.size + 1) 25 (uc b1 b2 b3 b4 b5 tf b7 hh) (0, 0) _ ?_ (setRow_heap _ _ _ _ _ _ BZ.out) bQ rfl bD <;> rfl
  case dv9x => rfl
  exact ⟨Znb, below_setRow HB.out Zk _⟩
theorem Yds (k0 kt : Nat) (b1 b2 : Y) (b3 : Int) (b4 b5 b6 : Y) (b7 b8 : Bool) (s t : Y) (res : Array Value) (tp tq tf : Y) (hq hh : Bool) (w : World) (hE : EnvOk w)
  (hs : Yr.f k0 s = some 0)
  (hf : Ypa.f s = some false)
  (hn : ¬ s.toList = ([] : List UInt8) ∧ 0 < s.size)
  (hp : ¬ bt s 0 = 35)
  (hq_ : bt s 0 = 63)
  (hk : Yac.f b1 b2 b3 b4 b5 ⟨#[]⟩ b7 false s = some (b1, b2, b3, tp, tq, tf, hq, hh))
  (ht : Yx.f kt b1 b2 b3 b4 tq tf hq hh = some t)
  (hr : (if (t.size : Int) > 2048 then #[.agg (uc ⟨#[]⟩ ⟨#[]⟩ 0 ⟨#[]⟩ ⟨#[]⟩ ⟨#[]⟩ false false), .int .i64 5] else #[.agg (uc b1 b2 b3 b4 tq tf hq hh), .int .i64 0]) = res) :
  Calls Tryz.prog 74 #[.agg (uc b1 b2 b3 b4 b5 b6 b7 b8), .string s] w fun e w' => e = .returned (.tuple res) ∧ Below w.heap.size w w' := by
 have HE := Ya.mk hE
 have HS := Ya.mk hs
 have HF := Ya.mk hf
 have HN := Ya.mk hn
 have HP := Ya.mk hp
 have HQ_ := Ya.mk hq_
 have HK := Ya.mk hk
 have HT := Ya.mk ht
 have HR := Ya.mk hr
 clear hE hs hf hn hp hq_ hk ht hr
 have bQ := Tryz.underlying25
 have bD : (Tryz.prog.info? 25).map (·.size) = some 8 := by kernel_rfl
 obtain ⟨BK, BZ, HB⟩ := Yaf w (uc b1 b2 b3 b4 b5 b6 b7 b8) (uc ⟨#[]⟩ ⟨#[]⟩ 0 ⟨#[]⟩ ⟨#[]⟩ ⟨#[]⟩ false false) 25
 go_enter Tryz.func74, Tryz.ntmps74
 go_wp2_with fail
 refine (Yr.calls k0 s 0 _ (HE.out.below HB.out) HS.out).mono ?_
 rintro e wq ⟨rfl, ⟨nd, rfl⟩⟩
 replace BK := Ya.mk (Yi BK.out nd)
 replace BZ := Ya.mk (Yi BZ.out nd)
 replace HB := Ya.mk (Yb HB.out nd)
 generalize World.drewN _ nd = w1 at BK BZ HB ⊢
 go_wp2_with fail
 refine (Ypa.calls s false _ (HE.out.below HB.out) HF.out).mono ?_
 rintro e wq ⟨rfl, ⟨nd, rfl⟩⟩
 replace BK := Ya.mk (Yi BK.out nd)
 replace BZ := Ya.mk (Yi BZ.out nd)
 replace HB := Ya.mk (Yb HB.out nd)
 generalize World.drewN _ nd = w2 at BK BZ HB ⊢
 have HNK := Ya.mk (show w2.heap.size ≠ w.heap.size from Nat.ne_of_gt (Yyd BK.out))
 have HNZ := Ya.mk (show w2.heap.size ≠ w.heap.size + 1 from Nat.ne_of_gt (Yyd BZ.out))
 have HGE := Ya.mk (show w.heap.size ≤ w2.heap.size from HB.out.size)
 obtain ⟨cQ, cB, cN, cX, cU, cT, cY, cR⟩ := Yea BK.out
 go_upto_block 0 with fail
 (try simp only [Act.put, Kca])
 clear cQ cB cN cX cU cT cY cR
 replace BK := Ya.mk (Ym BK.out (.cells #[.string b1, .string b2, .int .i64 b3, .string b4, .string b5, .string ⟨#[]⟩, .bool b7, .bool false] 25))
 replace BZ := Ya.mk (Ym BZ.out (.cells #[.string b1, .string b2, .int .i64 b3, .string b4, .string b5, .string ⟨#[]⟩, .bool b7, .bool false] 25))
 have BG := Ya.mk (heap_alloc_new w2 (.cells #[.string b1, .string b2, .int .i64 b3, .string b4, .string b5, .string ⟨#[]⟩, .bool b7, .bool false] 25))
 replace HB := Ya.mk (HB.out.alloc HB.out.size (.cells #[.string b1, .string b2, .int .i64 b3, .string b4, .string b5, .string ⟨#[]⟩, .bool b7, .bool false] 25))
 generalize w2.alloc (.cells #[.string b1, .string b2, .int .i64 b3, .string b4, .string b5, .string ⟨#[]⟩, .bool b7, .bool false] 25) = ws at BK BZ BG HB ⊢
 obtain ⟨g, hg⟩ : ∃ n, n = w2.heap.size := ⟨_, rfl⟩
 rw [← hg] at BG HNK HNZ HGE ⊢
 clear hg
 have n0 : (s.toList == ([] : List UInt8)) = false := beq_eq_false_iff_ne.2 HN.out.1
 have n1 : (s.toList != ([] : List UInt8)) = true := bne_iff_ne.2 HN.out.1
 have q4 := Kt HN.out.2
 have tV : (0 < (s.size : Int)) = True := Kt (by have := HN.out.2; omega)
 have jF : ∀ h : 0 < s.size, ((s[0]'h).toNat : Int) = bt s 0 := Ybb s 0
 have pa : (bt s 0 == 35) = false := beq_eq_false_iff_ne.2 HP.out
 have pb : decide (bt s 0 = 35) = false := Ks HP.out
 have qa : (bt s 0 == 63) = true := beq_iff_eq.2 HQ_.out
 have qb : decide (bt s 0 = 63) = true := Kr HQ_.out
 obtain ⟨cQ, cB, cN, cX, cU, cT, cY, cR⟩ := Yea BG.out
 go_wp2_with fail
 clear cQ cB cN cX cU cT cY cR
 refine (Yac.calls b1 b2 b3 b4 b5 ⟨#[]⟩ b7 false s b1 b2 b3 tp tq tf hq hh _ (HE.out.below HB.out) HK.out).mono ?_
 rintro e w3 ⟨rfl, hb⟩
 replace BK := Ya.mk (Yla BK.out hb)
 replace BZ := Ya.mk (Yla BZ.out hb)
 replace BG := Ya.mk (Yla BG.out hb)
 replace HB := Ya.mk (HB.out.trans (hb.mono HB.out.size))
 clear hb
 go_upto_region 24 with ((with_reducible refine Yxa (t := 25) (p := 7) rfl ?_); refine wpList_store_row rfl 25 (.tmp 7) (.tmp 105) rfl g (uc b1 b2 b3 tp tq tf hq hh) rfl rfl 25 _ BG.out bD rfl (Ypb _ _ _ _ _ _ _ _) ?_; replace BK := Ya.mk ((setRow_other w3 g w.heap.size (uc b1 b2 b3 tp tq tf hq hh) HNK.out.symm).trans BK.out); replace BZ := Ya.mk ((setRow_other w3 g (w.heap.size + 1) (uc b1 b2 b3 tp tq tf hq hh) HNZ.out.symm).trans BZ.out); replace HB := Ya.mk (below_setRow HB.out HGE.out (uc b1 b2 b3 tp tq tf hq hh)); replace BG := Ya.mk (setRow_heap _ _ _ (uc b1 b2 b3 tp tq tf hq hh) _ _ BG.out); generalize w3.setRow g (uc b1 b2 b3 tp tq tf hq hh) = wn at BK BZ BG HB ⊢; have hcz := (Yf BG.out 3).trans rfl; have hfz := Ye BG.out 3; have hck := (Yf BK.out 3).trans rfl)
 (try simp only [Act.put, Kca])
 clear hcz hfz hck
 replace BK := Ya.mk (Yvb BK.out (p := ⟨g, 3, none⟩) HNK.out.symm (.string b4))
 replace BZ := Ya.mk (Yvb BZ.out (p := ⟨g, 3, none⟩) HNZ.out.symm (.string b4))
 replace HB := Ya.mk (Yg (j := 3) (v := .string b4) HB.out HGE.out)
 replace BG := Ya.mk (Yoa BG.out 3 (.string b4) rfl)
 generalize wn.setCell ⟨g, 3, none⟩ (.string b4) = wo at BK BZ BG HB ⊢
 obtain ⟨cQ, cB, cN, cX, cU, cT, cY, cR⟩ := Yea BG.out
 go_wp2_with fail
 clear cQ cB cN cX cU cT cY cR
 refine (Yx.calls kt b1 b2 b3 b4 tq tf hq hh t _ (HE.out.below HB.out) HT.out).mono ?_
 rintro e w4 ⟨rfl, hb⟩
 replace BK := Ya.mk (Yla BK.out hb)
 replace BZ := Ya.mk (Yla BZ.out hb)
 replace BG := Ya.mk (Yla BG.out hb)
 replace HB := Ya.mk (HB.out.trans (hb.mono HB.out.size))
 clear hb
 by_cases hbig : (t.size : Int) > 2048
 ·have HBG := Ya.mk (show (#[.agg (uc ⟨#[]⟩ ⟨#[]⟩ 0 ⟨#[]⟩ ⟨#[]⟩ ⟨#[]⟩ false false), .int .i64 5]) = res from by rw [← HR.out, if_pos hbig])
  have cb0 : decide (2048 < (t.size : Int)) = true := Kr hbig
  have cb1 : decide (2048 < t.size) = true := Kr Zk
  clear hbig
  go_wp2_with ((with_reducible refine Yxa (t := 25) (p := 4) rfl ?_); refine wpList_store_row rfl 25 (.tmp 4) (.tmp 119) rfl (w.heap.size + 1) (uc ⟨#[]⟩ ⟨#[]⟩ 0 ⟨#[]⟩ ⟨#[]⟩ ⟨#[]⟩ false false) rfl rfl 25 _ BZ.out bD rfl (Ypb _ _ _ _ _ _ _ _) ?_)
  refine bodyPost_ret (v := ?v10x) ?hv10x ?dv10x ?_
  case hv10x => refine Yba (p := 4) (u := 5) (ty := 25) ?_ _ _ (w.heap.size + 1) 25 (uc ⟨#[]⟩ ⟨#[]⟩ 0 ⟨#[]⟩ ⟨#[]⟩ ⟨#[]⟩ false false) (0, 0) _ ?_ (setRow_heap _ _ _ _ _ _ BZ.out) bQ rfl bD <;> rfl
  case dv10x => rfl
  exact ⟨Znb, below_setRow HB.out Zk _⟩
 ·have HBG := Ya.mk (show (#[.agg (uc b1 b2 b3 b4 tq tf hq hh), .int .i64 0]) = res from by rw [← HR.out, if_neg hbig])
  have cb0 : decide (2048 < (t.size : Int)) = false := Ks hbig
  have cb1 : decide (2048 < t.size) = false := Ks Zk
  clear hbig
  obtain ⟨cQ, cB, cN, cX, cU, cT, cY, cR⟩ := Yea BG.out
  go_wp2_with ((with_reducible refine Yxa (t := 25) (p := 4) rfl ?_); refine wpList_store_row rfl 25 (.tmp 4) (.tmp 120) rfl (w.heap.size + 1) (uc b1 b2 b3 b4 tq tf hq hh) rfl rfl 25 _ BZ.out bD rfl (Ypb _ _ _ _ _ _ _ _) ?_)
  refine bodyPost_ret (v := ?v11x) ?hv11x ?dv11x ?_
  case hv11x => refine Yba (p := 4) (u := 5) (ty := 25) ?_ _ _ (w.heap.size + 1) 25 (uc b1 b2 b3 b4 tq tf hq hh) (0, 0) _ ?_ (setRow_heap _ _ _ _ _ _ BZ.out) bQ rfl bD <;> rfl
  case dv11x => rfl
  exact ⟨Znb, below_setRow HB.out Zk _⟩
theorem Yjr (k0 kt : Nat) (b1 b2 : Y) (b3 : Int) (b4 b5 b6 : Y) (b7 b8 : Bool) (s t : Y) (res : Array Value) (tp tq tf : Y) (hq hh : Bool) (w : World) (hE : EnvOk w)
  (hs : Yr.f k0 s = some 0)
  (hf : Ypa.f s = some true)
  (hz : 1 ≤ s.size)
  (hg : Ypa.f (s.extract 1 s.size) = some false)
  (hn : ¬ s.toList = ([] : List UInt8) ∧ 0 < s.size)
  (hp : ¬ bt s 0 = 35)
  (hq_ : ¬ bt s 0 = 63)
  (hk : Yac.f b1 b2 b3 b4 b5 ⟨#[]⟩ b7 false s = some (b1, b2, b3, tp, tq, tf, hq, hh))
  (ht : Yx.f kt b1 b2 b3 tp tq tf hq hh = some t)
  (hr : (if (t.size : Int) > 2048 then #[.agg (uc ⟨#[]⟩ ⟨#[]⟩ 0 ⟨#[]⟩ ⟨#[]⟩ ⟨#[]⟩ false false), .int .i64 5] else #[.agg (uc b1 b2 b3 tp tq tf hq hh), .int .i64 0]) = res) :
  Calls Tryz.prog 74 #[.agg (uc b1 b2 b3 b4 b5 b6 b7 b8), .string s] w fun e w' => e = .returned (.tuple res) ∧ Below w.heap.size w w' := by
 have HE := Ya.mk hE
 have HS := Ya.mk hs
 have HF := Ya.mk hf
 have HZ := Ya.mk hz
 have HG := Ya.mk hg
 have HN := Ya.mk hn
 have HP := Ya.mk hp
 have HQ_ := Ya.mk hq_
 have HK := Ya.mk hk
 have HT := Ya.mk ht
 have HR := Ya.mk hr
 clear hE hs hf hz hg hn hp hq_ hk ht hr
 have bQ := Tryz.underlying25
 have bD : (Tryz.prog.info? 25).map (·.size) = some 8 := by kernel_rfl
 obtain ⟨BK, BZ, HB⟩ := Yaf w (uc b1 b2 b3 b4 b5 b6 b7 b8) (uc ⟨#[]⟩ ⟨#[]⟩ 0 ⟨#[]⟩ ⟨#[]⟩ ⟨#[]⟩ false false) 25
 go_enter Tryz.func74, Tryz.ntmps74
 go_wp2_with fail
 refine (Yr.calls k0 s 0 _ (HE.out.below HB.out) HS.out).mono ?_
 rintro e wq ⟨rfl, ⟨nd, rfl⟩⟩
 replace BK := Ya.mk (Yi BK.out nd)
 replace BZ := Ya.mk (Yi BZ.out nd)
 replace HB := Ya.mk (Yb HB.out nd)
 generalize World.drewN _ nd = w1 at BK BZ HB ⊢
 go_wp2_with fail
 refine (Ypa.calls s true _ (HE.out.below HB.out) HF.out).mono ?_
 rintro e wq ⟨rfl, ⟨nd, rfl⟩⟩
 replace BK := Ya.mk (Yi BK.out nd)
 replace BZ := Ya.mk (Yi BZ.out nd)
 replace HB := Ya.mk (Yb HB.out nd)
 generalize World.drewN _ nd = w2 at BK BZ HB ⊢
 have f0 := Kt (show (1 : Int) ≤ (s.size : Int) by have := HZ.out; omega)
 have f1 := Kt (show 1 ≤ s.size by have := HZ.out; omega)
 have f2 : decide ((1 : Int) ≤ (s.size : Int)) = true := Kr (by have := HZ.out; omega)
 go_wp2_with fail
 refine (Ypa.calls (s.extract 1 s.size) false _ (HE.out.below HB.out) HG.out).mono ?_
 rintro e wq ⟨rfl, ⟨nd, rfl⟩⟩
 replace BK := Ya.mk (Yi BK.out nd)
 replace BZ := Ya.mk (Yi BZ.out nd)
 replace HB := Ya.mk (Yb HB.out nd)
 generalize World.drewN _ nd = w3 at BK BZ HB ⊢
 have HNK := Ya.mk (show w3.heap.size ≠ w.heap.size from Nat.ne_of_gt (Yyd BK.out))
 have HNZ := Ya.mk (show w3.heap.size ≠ w.heap.size + 1 from Nat.ne_of_gt (Yyd BZ.out))
 have HGE := Ya.mk (show w.heap.size ≤ w3.heap.size from HB.out.size)
 obtain ⟨cQ, cB, cN, cX, cU, cT, cY, cR⟩ := Yea BK.out
 go_upto_block 0 with fail
 (try simp only [Act.put, Kca])
 clear cQ cB cN cX cU cT cY cR
 replace BK := Ya.mk (Ym BK.out (.cells #[.string b1, .string b2, .int .i64 b3, .string b4, .string b5, .string ⟨#[]⟩, .bool b7, .bool false] 25))
 replace BZ := Ya.mk (Ym BZ.out (.cells #[.string b1, .string b2, .int .i64 b3, .string b4, .string b5, .string ⟨#[]⟩, .bool b7, .bool false] 25))
 have BG := Ya.mk (heap_alloc_new w3 (.cells #[.string b1, .string b2, .int .i64 b3, .string b4, .string b5, .string ⟨#[]⟩, .bool b7, .bool false] 25))
 replace HB := Ya.mk (HB.out.alloc HB.out.size (.cells #[.string b1, .string b2, .int .i64 b3, .string b4, .string b5, .string ⟨#[]⟩, .bool b7, .bool false] 25))
 generalize w3.alloc (.cells #[.string b1, .string b2, .int .i64 b3, .string b4, .string b5, .string ⟨#[]⟩, .bool b7, .bool false] 25) = ws at BK BZ BG HB ⊢
 obtain ⟨g, hg⟩ : ∃ n, n = w3.heap.size := ⟨_, rfl⟩
 rw [← hg] at BG HNK HNZ HGE ⊢
 clear hg
 have n0 : (s.toList == ([] : List UInt8)) = false := beq_eq_false_iff_ne.2 HN.out.1
 have n1 : (s.toList != ([] : List UInt8)) = true := bne_iff_ne.2 HN.out.1
 have q4 := Kt HN.out.2
 have tV : (0 < (s.size : Int)) = True := Kt (by have := HN.out.2; omega)
 have jF : ∀ h : 0 < s.size, ((s[0]'h).toNat : Int) = bt s 0 := Ybb s 0
 have pa : (bt s 0 == 35) = false := beq_eq_false_iff_ne.2 HP.out
 have pb : decide (bt s 0 = 35) = false := Ks HP.out
 have qa : (bt s 0 == 63) = false := beq_eq_false_iff_ne.2 HQ_.out
 have qb : decide (bt s 0 = 63) = false := Ks HQ_.out
 go_wp2_with fail
 refine (Ypa.calls s true _ (HE.out.below HB.out) HF.out).mono ?_
 rintro e wq ⟨rfl, ⟨nd, rfl⟩⟩
 replace BK := Ya.mk (Yi BK.out nd)
 replace BZ := Ya.mk (Yi BZ.out nd)
 replace BG := Ya.mk (Yi BG.out nd)
 replace HB := Ya.mk (Yb HB.out nd)
 generalize World.drewN _ nd = w4 at BK BZ BG HB ⊢
 obtain ⟨cQ, cB, cN, cX, cU, cT, cY, cR⟩ := Yea BG.out
 go_wp2_with fail
 clear cQ cB cN cX cU cT cY cR
 refine (Yac.calls b1 b2 b3 b4 b5 ⟨#[]⟩ b7 false s b1 b2 b3 tp tq tf hq hh _ (HE.out.below HB.out) HK.out).mono ?_
 rintro e w5 ⟨rfl, hb⟩
 replace BK := Ya.mk (Yla BK.out hb)
 replace BZ := Ya.mk (Yla BZ.out hb)
 replace BG := Ya.mk (Yla BG.out hb)
 replace HB := Ya.mk (HB.out.trans (hb.mono HB.out.size))
 clear hb
 go_upto_region 24 with ((with_reducible refine Yxa (t := 25) (p := 7) rfl ?_); refine wpList_store_row rfl 25 (.tmp 7) (.tmp 114) rfl g (uc b1 b2 b3 tp tq tf hq hh) rfl rfl 25 _ BG.out bD rfl (Ypb _ _ _ _ _ _ _ _) ?_; replace BK := Ya.mk ((setRow_other w5 g w.heap.size (uc b1 b2 b3 tp tq tf hq hh) HNK.out.symm).trans BK.out); replace BZ := Ya.mk ((setRow_other w5 g (w.heap.size + 1) (uc b1 b2 b3 tp tq tf hq hh) HNZ.out.symm).trans BZ.out); replace HB := Ya.mk (below_setRow HB.out HGE.out (uc b1 b2 b3 tp tq tf hq hh)); replace BG := Ya.mk (setRow_heap _ _ _ (uc b1 b2 b3 tp tq tf hq hh) _ _ BG.out); generalize w5.setRow g (uc b1 b2 b3 tp tq tf hq hh) = wn at BK BZ BG HB ⊢)
 (try simp only [Act.put, Kca])
 obtain ⟨cQ, cB, cN, cX, cU, cT, cY, cR⟩ := Yea BG.out
 go_wp2_with fail
 clear cQ cB cN cX cU cT cY cR
 refine (Yx.calls kt b1 b2 b3 tp tq tf hq hh t _ (HE.out.below HB.out) HT.out).mono ?_
 rintro e w6 ⟨rfl, hb⟩
 replace BK := Ya.mk (Yla BK.out hb)
 replace BZ := Ya.mk (Yla BZ.out hb)
 replace BG := Ya.mk (Yla BG.out hb)
 replace HB := Ya.mk (HB.out.trans (hb.mono HB.out.size))
 clear hb
 by_cases hbig : (t.size : Int) > 2048
 ·have HBG := Ya.mk (show (#[.agg (uc ⟨#[]⟩ ⟨#[]⟩ 0 ⟨#[]⟩ ⟨#[]⟩ ⟨#[]⟩ false false), .int .i64 5]) = res from by rw [← HR.out, if_pos hbig])
  have cb0 : decide (2048 < (t.size : Int)) = true := Kr hbig
  have cb1 : decide (2048 < t.size) = true := Kr Zk
  clear hbig
  go_wp2_with ((with_reducible refine Yxa (t := 25) (p := 4) rfl ?_); refine wpList_store_row rfl 25 (.tmp 4) (.tmp 119) rfl (w.heap.size + 1) (uc ⟨#[]⟩ ⟨#[]⟩ 0 ⟨#[]⟩ ⟨#[]⟩ ⟨#[]⟩ false false) rfl rfl 25 _ BZ.out bD rfl (Ypb _ _ _ _ _ _ _ _) ?_)
  refine bodyPost_ret (v := ?v12x) ?hv12x ?dv12x ?_
  case hv12x => refine Yba (p := 4) (u := 5) (ty := 25) ?_ _ _ (w.heap.size + 1) 25 (uc ⟨#[]⟩ ⟨#[]⟩ 0 ⟨#[]⟩ ⟨#[]⟩ ⟨#[]⟩ false false) (0, 0) _ ?_ (setRow_heap _ _ _ _ _ _ BZ.out) bQ rfl bD <;> rfl
  case dv12x => rfl
  exact ⟨Znb, below_setRow HB.out Zk _⟩
 ·have HBG := Ya.mk (show (#[.agg (uc b1 b2 b3 tp tq tf hq hh), .int .i64 0]) = res from by rw [← HR.out, if_neg hbig])
  have cb0 : decide (2048 < (t.size : Int)) = false := Ks hbig
  have cb1 : decide (2048 < t.size) = false := Ks Zk
  clear hbig
  obtain ⟨cQ, cB, cN, cX, cU, cT, cY, cR⟩ := Yea BG.out
  go_wp2_with ((with_reducible refine Yxa (t := 25) (p := 4) rfl ?_); refine wpList_store_row rfl 25 (.tmp 4) (.tmp 120) rfl (w.heap.size + 1) (uc b1 b2 b3 tp tq tf hq hh) rfl rfl 25 _ BZ.out bD rfl (Ypb _ _ _ _ _ _ _ _) ?_)
  refine bodyPost_ret (v := ?v13x) ?hv13x ?dv13x ?_
  case hv13x => refine Yba (p := 4) (u := 5) (ty := 25) ?_ _ _ (w.heap.size + 1) 25 (uc b1 b2 b3 tp tq tf hq hh) (0, 0) _ ?_ (setRow_heap _ _ _ _ _ _ BZ.out) bQ rfl bD <;> rfl
  case dv13x => rfl
  exact ⟨Znb, below_setRow HB.out Zk _⟩
theorem Yut (k0 kt : Nat) (b1 b2 : Y) (b3 : Int) (b4 b5 b6 : Y) (b7 b8 : Bool) (s t : Y) (res : Array Value) (tp tq tf : Y) (hq hh : Bool) (kk : Nat) (w : World) (hE : EnvOk w)
  (hs : Yr.f k0 s = some 0)
  (hf : Ypa.f s = some false)
  (hn : ¬ s.toList = ([] : List UInt8) ∧ 0 < s.size)
  (hp : ¬ bt s 0 = 35)
  (hq_ : ¬ bt s 0 = 63)
  (hkk : (upTo b4.data.toList).length = kk ∧ kk ≤ b4.size)
  (hbs : b4.size + s.size ≤ 10000000)
  (hk : Yac.f b1 b2 b3 b4 b5 ⟨#[]⟩ b7 false (b4.extract 0 (kk : Int).toNat ++ s) = some (b1, b2, b3, tp, tq, tf, hq, hh))
  (ht : Yx.f kt b1 b2 b3 tp tq tf hq hh = some t)
  (hr : (if (t.size : Int) > 2048 then #[.agg (uc ⟨#[]⟩ ⟨#[]⟩ 0 ⟨#[]⟩ ⟨#[]⟩ ⟨#[]⟩ false false), .int .i64 5] else #[.agg (uc b1 b2 b3 tp tq tf hq hh), .int .i64 0]) = res) :
  Calls Tryz.prog 74 #[.agg (uc b1 b2 b3 b4 b5 b6 b7 b8), .string s] w fun e w' => e = .returned (.tuple res) ∧ Below w.heap.size w w' := by
 have HE := Ya.mk hE
 have HS := Ya.mk hs
 have HF := Ya.mk hf
 have HN := Ya.mk hn
 have HP := Ya.mk hp
 have HQ_ := Ya.mk hq_
 have HKK := Ya.mk hkk
 have HBS := Ya.mk hbs
 have HK := Ya.mk hk
 have HT := Ya.mk ht
 have HR := Ya.mk hr
 clear hE hs hf hn hp hq_ hkk hbs hk ht hr
 have bQ := Tryz.underlying25
 have bD : (Tryz.prog.info? 25).map (·.size) = some 8 := by kernel_rfl
 obtain ⟨BK, BZ, HB⟩ := Yaf w (uc b1 b2 b3 b4 b5 b6 b7 b8) (uc ⟨#[]⟩ ⟨#[]⟩ 0 ⟨#[]⟩ ⟨#[]⟩ ⟨#[]⟩ false false) 25
 go_enter Tryz.func74, Tryz.ntmps74
 go_wp2_with fail
 refine (Yr.calls k0 s 0 _ (HE.out.below HB.out) HS.out).mono ?_
 rintro e wq ⟨rfl, ⟨nd, rfl⟩⟩
 replace BK := Ya.mk (Yi BK.out nd)
 replace BZ := Ya.mk (Yi BZ.out nd)
 replace HB := Ya.mk (Yb HB.out nd)
 generalize World.drewN _ nd = w1 at BK BZ HB ⊢
 go_wp2_with fail
 refine (Ypa.calls s false _ (HE.out.below HB.out) HF.out).mono ?_
 rintro e wq ⟨rfl, ⟨nd, rfl⟩⟩
 replace BK := Ya.mk (Yi BK.out nd)
 replace BZ := Ya.mk (Yi BZ.out nd)
 replace HB := Ya.mk (Yb HB.out nd)
 generalize World.drewN _ nd = w2 at BK BZ HB ⊢
 have HNK := Ya.mk (show w2.heap.size ≠ w.heap.size from Nat.ne_of_gt (Yyd BK.out))
 have HNZ := Ya.mk (show w2.heap.size ≠ w.heap.size + 1 from Nat.ne_of_gt (Yyd BZ.out))
 have HGE := Ya.mk (show w.heap.size ≤ w2.heap.size from HB.out.size)
 obtain ⟨cQ, cB, cN, cX, cU, cT, cY, cR⟩ := Yea BK.out
 go_upto_block 0 with fail
 (try simp only [Act.put, Kca])
 clear cQ cB cN cX cU cT cY cR
 replace BK := Ya.mk (Ym BK.out (.cells #[.string b1, .string b2, .int .i64 b3, .string b4, .string b5, .string ⟨#[]⟩, .bool b7, .bool false] 25))
 replace BZ := Ya.mk (Ym BZ.out (.cells #[.string b1, .string b2, .int .i64 b3, .string b4, .string b5, .string ⟨#[]⟩, .bool b7, .bool false] 25))
 have BG := Ya.mk (heap_alloc_new w2 (.cells #[.string b1, .string b2, .int .i64 b3, .string b4, .string b5, .string ⟨#[]⟩, .bool b7, .bool false] 25))
 replace HB := Ya.mk (HB.out.alloc HB.out.size (.cells #[.string b1, .string b2, .int .i64 b3, .string b4, .string b5, .string ⟨#[]⟩, .bool b7, .bool false] 25))
 generalize w2.alloc (.cells #[.string b1, .string b2, .int .i64 b3, .string b4, .string b5, .string ⟨#[]⟩, .bool b7, .bool false] 25) = ws at BK BZ BG HB ⊢
 obtain ⟨g, hg⟩ : ∃ n, n = w2.heap.size := ⟨_, rfl⟩
 rw [← hg] at BG HNK HNZ HGE ⊢
 clear hg
 have n0 : (s.toList == ([] : List UInt8)) = false := beq_eq_false_iff_ne.2 HN.out.1
 have n1 : (s.toList != ([] : List UInt8)) = true := bne_iff_ne.2 HN.out.1
 have q4 := Kt HN.out.2
 have tV : (0 < (s.size : Int)) = True := Kt (by have := HN.out.2; omega)
 have jF : ∀ h : 0 < s.size, ((s[0]'h).toNat : Int) = bt s 0 := Ybb s 0
 have pa : (bt s 0 == 35) = false := beq_eq_false_iff_ne.2 HP.out
 have pb : decide (bt s 0 = 35) = false := Ks HP.out
 have qa : (bt s 0 == 63) = false := beq_eq_false_iff_ne.2 HQ_.out
 have qb : decide (bt s 0 = 63) = false := Ks HQ_.out
 go_wp2_with fail
 refine (Ypa.calls s false _ (HE.out.below HB.out) HF.out).mono ?_
 rintro e wq ⟨rfl, ⟨nd, rfl⟩⟩
 replace BK := Ya.mk (Yi BK.out nd)
 replace BZ := Ya.mk (Yi BZ.out nd)
 replace BG := Ya.mk (Yi BG.out nd)
 replace HB := Ya.mk (Yb HB.out nd)
 generalize World.drewN _ nd = w3 at BK BZ BG HB ⊢
 obtain ⟨hd0, hd1, hd2, hd3, hd4, hd5, hd6, hd7⟩ := Yea BK.out
 clear q4 tV jF
 go_upto_block 1 with fail
 (try simp only [Act.put, Kca])
 have HKB := Ya.mk (show kk ≤ b4.size from HKK.out.2)
 go_cut [8] (fun v8 wx => v8 = .int .i64 (kk : Int) ∧ w3 = wx)
 case first =>
  go_wp2_with fail
  go_loopg [8] b4.size (fun gk v8 wx => ∃ k : Nat, v8 = .int .i64 (k : Int) ∧ w3 = wx ∧ Ya (k ≤ gk ∧ k ≤ b4.size) ∧ Ya ((upTo (b4.data.toList.take k)).length = kk))
  case atStart => exact ⟨b4.size, rfl, rfl, ⟨Kw _, Kw _⟩, ⟨by rw [List.take_of_length_le Zmb]; exact HKK.out.1⟩⟩
  case round =>
   obtain ⟨k, rfl, rfl, HGK, HUP⟩ := hrel
   cases k with
   | zero =>
    have hk0 : kk = 0 := by rw [← HUP.out]; rfl
    subst hk0
    go_wp2_with fail
    go_meet
    case rel => exact ⟨rfl, rfl⟩
   | succ m =>
    have hlen : m < b4.data.toList.length := by have := HGK.out; rw [← Lib.size_eq]; omega
    obtain ⟨c, hcc⟩ : ∃ c, c = b4.data.toList[m] := ⟨_, rfl⟩
    have hdr : b4.data.toList.drop m = c :: b4.data.toList.drop (m + 1) := by rw [hcc]; exact List.drop_eq_getElem_cons hlen
    obtain ⟨z1, z2, _⟩ := Yvc b4 m c _ hdr
    have htk : b4.data.toList.take (m + 1) = b4.data.toList.take m ++ [c] := by rw [hcc, List.take_append_getElem hlen]
    have hml : (b4.data.toList.take m).length = m := by rw [List.length_take]; omega
    have a0 : decide (((m + 1 : Nat) : Int) > 0) = true := Kr Zk
    have a1 : decide (0 < ((m + 1 : Nat) : Int)) = true := Kr Zk
    have a2 : wrap64 (((m + 1 : Nat) : Int) - 1) = (m : Int) := by have := HGK.out; have := HBS.out; unfold wrap64; omega
    have a5 : wrap64 (m : Int) = (m : Int) := by have := HGK.out; have := HBS.out; unfold wrap64; omega
    have a3 := Kt (show 0 ≤ (m : Int) by omega)
    have a4 := Kt (show (m : Int) < (b4.size : Int) by omega)
    have hxm : ∀ h : m < b4.size, ((b4[m]'h).toNat : Int) = bt b4 (m : Int) := fun h => Ybb b4 (m : Int) h
    by_cases h47 : c = 47
    ·have hk0 : kk = m + 1 := by
      have := HUP.out
      rw [htk, h47] at this
      unfold upTo at this
      rw [List.reverse_append] at this
      simp [hml] at this
      omega
     have y0 : (bt b4 (m : Int) == 47) = true := beq_iff_eq.2 (by rw [z2, h47]; rfl)
     have y1 : (bt b4 (m : Int) != 47) = false := bne_eq_false_iff_eq.2 (by rw [z2, h47]; rfl)
     clear z2 hlen hcc hdr htk hml h47
     subst hk0
     go_wp2_with fail
     go_meet
     case rel => exact ⟨rfl, rfl⟩
    ·have hne : ¬ bt b4 (m : Int) = 47 := by rw [z2]; intro h; exact h47 (by have := (Yzk c 47 Zk).1 h; simpa using this)
     have y0 : (bt b4 (m : Int) == 47) = false := beq_eq_false_iff_ne.2 hne
     have y1 : (bt b4 (m : Int) != 47) = true := bne_iff_ne.2 hne
     have hu : (upTo (b4.data.toList.take m)).length = kk := by
      have := HUP.out
      rw [htk] at this
      unfold upTo at this ⊢
      rw [List.reverse_append] at this
      simpa [List.dropWhile_cons, h47] using this
     have HU2 := Ya.mk hu
     have qF := Ya.mk (show m + 1 ≤ gk from HGK.out.1)
     cases gk with
     | zero => exact absurd qF.out Zk
     | succ g9 =>
      clear z2 hlen hcc hdr htk hml h47 hne hu HUP
      go_wp2_with fail
      go_roundg g9
      case measure => omega
      case rel => exact ⟨m, rfl, rfl, ⟨by have := qF.out; omega, Zk⟩, HU2⟩
 case rest =>
  obtain ⟨rfl, rfl⟩ := hcut
  clear hd0 hd1 hd2 hd3 hd4 hd5 hd6 hd7
  go_wp2_with fail
  have cW := Kt (show 0 ≤ (kk : Int) by omega)
  have gS := Kt (show (kk : Int) ≤ (b4.size : Int) by have := HKB.out; omega)
  have iC := Kt (show (b4.extract 0 (kk : Int).toNat).size + s.size ≤ 9223372036854775807 by rw [ByteArray.size_extract]; have := HBS.out; omega)
  have lT : (9223372036854775807 < (b4.extract 0 (kk : Int).toNat).size + s.size) = False := eq_false (by rw [ByteArray.size_extract]; have := HBS.out; omega)
  have zO : (9223372036854775807 < ((kk : Int).toNat - 0) + s.size) = False := eq_false Ztb
  have aWE : (9223372036854775807 < (kk : Int).toNat + s.size) = False := eq_false Ztb
  have aYy : (9223372036854775807 < min kk b4.size + s.size) = False := eq_false Ztb
  have aYz : (9223372036854775807 < kk + s.size) = False := eq_false Ztb
  refine Ykg (n := 9) (S := fun w' => (w'.cell? ⟨w.heap.size, 0, none⟩ = some (.string b1) ∧ w'.cell? ⟨w.heap.size, 1, none⟩ = some (.string b2) ∧ w'.cell? ⟨w.heap.size, 2, none⟩ = some (.int .i64 b3) ∧ w'.cell? ⟨w.heap.size, 3, none⟩ = some (.string b4) ∧ w'.cell? ⟨w.heap.size, 4, none⟩ = some (.string b5) ∧ w'.cell? ⟨w.heap.size, 5, none⟩ = some (.string b6) ∧ w'.cell? ⟨w.heap.size, 6, none⟩ = some (.bool b7) ∧ w'.cell? ⟨w.heap.size, 7, none⟩ = some (.bool b8)) ∧ (w'.cell? ⟨g, 0, none⟩ = some (.string b1) ∧ w'.cell? ⟨g, 1, none⟩ = some (.string b2) ∧ w'.cell? ⟨g, 2, none⟩ = some (.int .i64 b3) ∧ w'.cell? ⟨g, 3, none⟩ = some (.string b4) ∧ w'.cell? ⟨g, 4, none⟩ = some (.string b5) ∧ w'.cell? ⟨g, 5, none⟩ = some (.string ⟨#[]⟩) ∧ w'.cell? ⟨g, 6, none⟩ = some (.bool b7) ∧ w'.cell? ⟨g, 7, none⟩ = some (.bool false))) (ds := [8]) #[false, false, false, false, false, false, false, false, false] Zi rfl rfl ⟨Yea (Yp BK.out), Yea (Yp BG.out)⟩ (fun hHeld => ?_); refine Ylf Ykr Yyp (fun HT_ HW_ => ?_)
  replace BK := Ya.mk (Yp BK.out)
  replace BZ := Ya.mk (Yp BZ.out)
  replace BG := Ya.mk (Yp BG.out)
  replace HB := Ya.mk (Yc HB.out)
  generalize w3.drew = wo at BK BZ BG HB hHeld ⊢
  refine Ynf (i := 0) (N := some 71) (v := ?_) (a' := ?_) #[true, false, false, false, false, false, false, false, false] rfl rfl (Yae HT_.out HW_.out Zi) (fun _ _ _ h => h) (Or.inl ⟨Zga, ?_⟩) hHeld ?_ ?_
  rotate_left
  ·rintro w' ⟨⟨s0, s1, s2, s3, s4, s5, s6, s7⟩, ⟨q0, q1, q2, q3, q4, q5, q6, q7⟩⟩
   go_simp
   with_reducible rfl
  rotate_left
  ·exact Zzb
  refine Yya (i := 1) (N := some 72) (v := ?_) (a' := ?_) #[true, true, false, false, false, false, false, false, false] rfl rfl (Ysa HT_.out Zi) (fun _ _ _ h => h) (Or.inl ⟨Zga, ?_⟩) ?_ ?_
  rotate_left
  ·exact Zyb
  rotate_left
  ·exact Zzb
  refine Ynf (i := 2) (N := some 73) (v := ?_) (a' := ?_) #[true, true, true, false, false, false, false, false, false] rfl rfl (Yae HT_.out HW_.out Zi) (fun _ _ _ h => h) (Or.inl ⟨Zga, ?_⟩) hHeld ?_ ?_
  rotate_left
  ·rintro w' ⟨⟨s0, s1, s2, s3, s4, s5, s6, s7⟩, ⟨q0, q1, q2, q3, q4, q5, q6, q7⟩⟩
   go_simp
   with_reducible rfl
  rotate_left
  ·exact Zzb
  refine Yya (i := 3) (N := some 74) (v := ?_) (a' := ?_) #[true, true, true, true, false, false, false, false, false] rfl rfl (Ysa HT_.out Zi) (fun _ _ _ h => h) (Or.inl ⟨Zga, ?_⟩) ?_ ?_
  rotate_left
  ·exact Zyb
  rotate_left
  ·exact Zzb
  refine Yya (i := 4) (N := some 75) (v := ?_) (a' := ?_) #[true, true, true, true, true, false, false, false, false] rfl rfl (Ysa HT_.out Zi) (fun _ _ _ h => h) (Or.inl ⟨Zga, ?_⟩) ?_ ?_
  rotate_left
  ·exact Zyb
  rotate_left
  ·exact Zzb
  refine Yya (i := 5) (N := some 76) (v := ?_) (a' := ?_) #[true, true, true, true, true, true, false, false, false] rfl rfl (Ysa HT_.out Zi) (fun _ _ _ h => h) (Or.inl ⟨Zga, ?_⟩) ?_ ?_
  rotate_left
  ·exact Zyb
  rotate_left
  ·exact Zzb
  refine Yya (i := 6) (N := some 77) (v := ?_) (a' := ?_) #[true, true, true, true, true, true, true, false, false] rfl rfl (Ysa HT_.out Zi) (fun _ _ _ h => h) (Or.inl ⟨Zga, ?_⟩) ?_ ?_
  rotate_left
  ·exact Zyb
  rotate_left
  ·exact Zzb
  refine one_ (i := 7) (N := some 78) #[true, true, true, true, true, true, true, true, false] rfl rfl (Yne HT_.out Zi) Zca (fun K hK => ?_)
  refine Yvh Tryz.func18 Zi rfl #[.agg #[.string b1, .string b2, .int .i64 b3, .string b4, .string b5, .string ⟨#[]⟩, .bool b7, .bool false], .string (b4.extract 0 (kk : Int).toNat ++ s)] Zga rfl rfl Zz ?_
  refine (Yac.calls b1 b2 b3 b4 b5 ⟨#[]⟩ b7 false (b4.extract 0 (kk : Int).toNat ++ s) b1 b2 b3 tp tq tf hq hh _ (HE.out.below HB.out) HK.out).mono ?_
  rintro e we ⟨rfl, hb⟩
  refine ⟨_, rfl, ?_⟩
  replace BK := Ya.mk (Yla BK.out hb)
  replace BZ := Ya.mk (Yla BZ.out hb)
  replace BG := Ya.mk (Yla BG.out hb)
  replace HB := Ya.mk (HB.out.trans (hb.mono HB.out.size))
  clear hb
  refine hK.out _ _ ⟨Yea BK.out, Yea BG.out⟩ (fun hHeld => ?_)
  clear hK K
  refine Yeg (a' := ?_) ?_ ?_
  rotate_left
  ·show Act.put _ (some 78) _ = _
   simp only [Act.put, Kca, Yaa, Yda]
   rfl
  refine Ymn (i := 8) (N := none) #[true, true, true, true, true, true, true, true, true] rfl rfl (Yne HT_.out Zi) Zca (fun K hK => ?_)
  have qH := (Yf BG.out 0).trans rfl
  have hy0 := Ye BG.out 0
  have uW := (Yf BG.out 1).trans rfl
  have hy1 := Ye BG.out 1
  have lL := (Yf BG.out 2).trans rfl
  have hy2 := Ye BG.out 2
  have hz3 := (Yf BG.out 3).trans rfl
  have hy3 := Ye BG.out 3
  have hz4 := (Yf BG.out 4).trans rfl
  have hy4 := Ye BG.out 4
  have hz5 := (Yf BG.out 5).trans rfl
  have hy5 := Ye BG.out 5
  have hz6 := (Yf BG.out 6).trans rfl
  have hy6 := Ye BG.out 6
  have hz7 := (Yf BG.out 7).trans rfl
  have hy7 := Ye BG.out 7
  refine Ysi (w1 := ?_) Zga rfl ?_ ?_
  rotate_left
  ·go_simp
   rfl
  refine hK.out _ _ ?_
  clear hK K qH hy0 uW hy1 lL hy2 hz3 hy3 hz4 hy4 hz5 hy5 hz6 hy6 hz7 hy7
  replace BK := Ya.mk (show ((((((((we.setCell ⟨g, 0, none⟩ (.string b1)).setCell ⟨g, 1, none⟩ (.string b2)).setCell ⟨g, 2, none⟩ (.int .i64 b3)).setCell ⟨g, 3, none⟩ (.string tp)).setCell ⟨g, 4, none⟩ (.string tq)).setCell ⟨g, 5, none⟩ (.string tf)).setCell ⟨g, 6, none⟩ (.bool hq)).setCell ⟨g, 7, none⟩ (.bool hh)).heap[w.heap.size]? = some (.cells (uc b1 b2 b3 b4 b5 b6 b7 b8) 25 (0, 0)) from far8 BK.out HNK.out)
  replace BZ := Ya.mk (show ((((((((we.setCell ⟨g, 0, none⟩ (.string b1)).setCell ⟨g, 1, none⟩ (.string b2)).setCell ⟨g, 2, none⟩ (.int .i64 b3)).setCell ⟨g, 3, none⟩ (.string tp)).setCell ⟨g, 4, none⟩ (.string tq)).setCell ⟨g, 5, none⟩ (.string tf)).setCell ⟨g, 6, none⟩ (.bool hq)).setCell ⟨g, 7, none⟩ (.bool hh)).heap[w.heap.size + 1]? = some (.cells (uc ⟨#[]⟩ ⟨#[]⟩ 0 ⟨#[]⟩ ⟨#[]⟩ ⟨#[]⟩ false false) 25 (0, 0)) from far8 BZ.out HNZ.out)
  replace BG := Ya.mk (show ((((((((we.setCell ⟨g, 0, none⟩ (.string b1)).setCell ⟨g, 1, none⟩ (.string b2)).setCell ⟨g, 2, none⟩ (.int .i64 b3)).setCell ⟨g, 3, none⟩ (.string tp)).setCell ⟨g, 4, none⟩ (.string tq)).setCell ⟨g, 5, none⟩ (.string tf)).setCell ⟨g, 6, none⟩ (.bool hq)).setCell ⟨g, 7, none⟩ (.bool hh)).heap[g]? = some (.cells (uc b1 b2 b3 tp tq tf hq hh) 25 (0, 0)) from put8 BG.out)
  replace HB := Ya.mk (show Below w.heap.size w ((((((((we.setCell ⟨g, 0, none⟩ (.string b1)).setCell ⟨g, 1, none⟩ (.string b2)).setCell ⟨g, 2, none⟩ (.int .i64 b3)).setCell ⟨g, 3, none⟩ (.string tp)).setCell ⟨g, 4, none⟩ (.string tq)).setCell ⟨g, 5, none⟩ (.string tf)).setCell ⟨g, 6, none⟩ (.bool hq)).setCell ⟨g, 7, none⟩ (.bool hh)) from Yir HB.out HGE.out)
  generalize ((((((((we.setCell ⟨g, 0, none⟩ (.string b1)).setCell ⟨g, 1, none⟩ (.string b2)).setCell ⟨g, 2, none⟩ (.int .i64 b3)).setCell ⟨g, 3, none⟩ (.string tp)).setCell ⟨g, 4, none⟩ (.string tq)).setCell ⟨g, 5, none⟩ (.string tf)).setCell ⟨g, 6, none⟩ (.bool hq)).setCell ⟨g, 7, none⟩ (.bool hh)) = wr at BK BZ BG HB ⊢
  refine Yoh (Yvg HT_.out Zi) ?_
  obtain ⟨cQ, cB, cN, cX, cU, cT, cY, cR⟩ := Yea BG.out
  go_wp2_with fail
  clear cQ cB cN cX cU cT cY cR
  refine (Yx.calls kt b1 b2 b3 tp tq tf hq hh t _ (HE.out.below HB.out) HT.out).mono ?_
  rintro e zS ⟨rfl, hb⟩
  replace BK := Ya.mk (Yla BK.out hb)
  replace BZ := Ya.mk (Yla BZ.out hb)
  replace BG := Ya.mk (Yla BG.out hb)
  replace HB := Ya.mk (HB.out.trans (hb.mono HB.out.size))
  clear hb
  by_cases hbig : (t.size : Int) > 2048
  ·have HBG := Ya.mk (show (#[.agg (uc ⟨#[]⟩ ⟨#[]⟩ 0 ⟨#[]⟩ ⟨#[]⟩ ⟨#[]⟩ false false), .int .i64 5]) = res from by rw [← HR.out, if_pos hbig])
   have cb0 : decide (2048 < (t.size : Int)) = true := Kr hbig
   have cb1 : decide (2048 < t.size) = true := Kr Zk
   clear hbig
   go_wp2_with ((with_reducible refine Yxa (t := 25) (p := 4) rfl ?_); refine wpList_store_row rfl 25 (.tmp 4) (.tmp 119) rfl (w.heap.size + 1) (uc ⟨#[]⟩ ⟨#[]⟩ 0 ⟨#[]⟩ ⟨#[]⟩ ⟨#[]⟩ false false) rfl rfl 25 _ BZ.out bD rfl (Ypb _ _ _ _ _ _ _ _) ?_)
   refine bodyPost_ret (v := ?v14x) ?hv14x ?dv14x ?_
   case hv14x => refine Yba (p := 4) (u := 5) (ty := 25) ?_ _ _ (w.heap.size + 1) 25 (uc ⟨#[]⟩ ⟨#[]⟩ 0 ⟨#[]⟩ ⟨#[]⟩ ⟨#[]⟩ false false) (0, 0) _ ?_ (setRow_heap _ _ _ _ _ _ BZ.out) bQ rfl bD <;> rfl
   case dv14x => rfl
   exact ⟨Znb, below_setRow HB.out Zk _⟩
  ·have HBG := Ya.mk (show (#[.agg (uc b1 b2 b3 tp tq tf hq hh), .int .i64 0]) = res from by rw [← HR.out, if_neg hbig])
   have cb0 : decide (2048 < (t.size : Int)) = false := Ks hbig
   have cb1 : decide (2048 < t.size) = false := Ks Zk
   clear hbig
   obtain ⟨cQ, cB, cN, cX, cU, cT, cY, cR⟩ := Yea BG.out
   go_wp2_with ((with_reducible refine Yxa (t := 25) (p := 4) rfl ?_); refine wpList_store_row rfl 25 (.tmp 4) (.tmp 120) rfl (w.heap.size + 1) (uc b1 b2 b3 tp tq tf hq hh) rfl rfl 25 _ BZ.out bD rfl (Ypb _ _ _ _ _ _ _ _) ?_)
   refine bodyPost_ret (v := ?v15x) ?hv15x ?dv15x ?_
   case hv15x => refine Yba (p := 4) (u := 5) (ty := 25) ?_ _ _ (w.heap.size + 1) 25 (uc b1 b2 b3 tp tq tf hq hh) (0, 0) _ ?_ (setRow_heap _ _ _ _ _ _ BZ.out) bQ rfl bD <;> rfl
   case dv15x => rfl
   exact ⟨Znb, below_setRow HB.out Zk _⟩
end Go.Proofs.YtnmglnglbdpjjaaGreatDoor.X
