import Derived.Test.YtihaeeldgimdiaaGreatDoorIURe
import Derived.Test.YtihaeeldgimdiaaGreatDoorIURv
set_option linter.all false
namespace Go.Proofs.YtihaeeldgimdiaaGreatDoor.X
open Go.RowKit Go.Lib Go.Shelf Go.Yw.PrintWords Go.Yw.PrintLast Go.Yw.PrintMore
set_option maxHeartbeats 8000000
set_option maxRecDepth 100000
theorem one_C {w W : World} {x : En} {cs : List Value} (hK : k32.K w x cs) (hb : Below w.heap.size w W) : Kd.C k32 (W.alloc (.cells cs.toArray 32)) (some ⟨W.heap.size, 0, none⟩) 1 [x] := by
 have h := OwnRow.lit (R := (Kd.fixed k32 w).M W W.heap.size (fun _ => True)) (e := 32) (size := 16) W W.heap.size (ps := [x]) (inner := cs) ⟨by rw [k32.K_len hK]; rfl, fun j p hj => by
  rcases j with _ | j
  ·obtain rfl : x = p := by simpa using hj
   rw [Nat.zero_mul, List.drop_zero, List.take_of_length_le (by rw [k32.K_len hK]; exact Ks _)]
   exact hK
  ·simp at hj⟩ (Ks _) Zq
 exact fixed_C (Kd.R_reads' (show Kd.R (Kd.fixed k32 w) 32 _ W.heap.size (fun _ => True) (.slice (some ⟨W.heap.size, 0, none⟩) 1 1) [x] from ⟨fun _ _ => trivial, h⟩)).2.2 (hb.alloc hb.size _)
def idof.T7 : Bool × List (List Nat × List Nat) := (true, [([], []), ([0], [0]), ([], []), ([2, 1], [2]), ([1, 3], [1, 3]), ([4, 3], [4]), ([5], [5]), ([6, 5, 5], [5, 6]), ([5], [5]), ([7, 8, 7, 5], [5, 7, 8]), ([5, 9], [5, 9]), ([10, 9], [10]), ([11], [11]), ([11], [11]), ([12, 13, 11], [11, 12, 13]), ([11, 14], [11, 14]), ([15, 11], [15]), ([16], [16]), ([16], [16]), ([17, 18, 16], [16, 17, 18]), ([16, 19], [16, 19]), ([20, 16], [20]), ([21, 21], [21]), ([21, 22], [21, 22]), ([23, 22, 0, 1, 2, 3, 4, 5, 6, 7, 8, 9, 10, 11, 12, 13, 14, 15, 16, 17, 18, 19, 20, 21, 22, 23], [23])])
def idof.B7 : List Nat := [0, 1, 0, 7, 15, 31, 63, 127, 63, 511, 1023, 2047, 4095, 4095, 16383, 32767, 65535, 131071, 131071, 524287, 1048575, 2097151, 4194303, 8388607, 16777215]
theorem idof.tab7 : rtab .any (opsOf Tryz.f4 7) = idof.T7 := by kernel_rfl
theorem idof.bits7 : Yvg idof.T7.2 idof.B7 = true := by kernel_rfl
theorem idof_far (k : Nat) (x : En) (s : Y) (A9 gE cA bW cB : Option Addr) (n9 n10 n11 n12 n13 : Nat) (w : World) (hE : EnvOk w)
  (r9 : x.f9.length ≤ n9 ∧ Kd.C Kd.string w A9 x.f9.length x.f9) (lX : x.f10.length ≤ n10 ∧ Kd.C Kd.string w gE x.f10.length x.f10) (rB : x.f11.length ≤ n11 ∧ Kd.C Kd.string w cA x.f11.length x.f11) (rC : x.f12.length ≤ n12 ∧ Kd.C Kd.string w bW x.f12.length x.f12) (rD : x.f13.length ≤ n13 ∧ Kd.C Kd.string w cB x.f13.length x.f13)
  (hf : Yra.f k [x] [] = some true) :
  Calls Tryz.prog 4 #[.agg (ec x.f0 x.f1 x.f2 x.f3 x.f4 x.f5 x.f6 x.f7 x.f8.f0 x.f8.f1 x.f8.f2 (.slice A9 x.f9.length n9) (.slice gE x.f10.length n10) (.slice cA x.f11.length n11) (.slice bW x.f12.length n12) (.slice cB x.f13.length n13)), .string s] w fun e w' => e = .returned (.bool true) ∧ Below w.heap.size w w' := by
 have HE := Ya.mk hE
 have HK := Ya.mk (Yuk w x r9.1 r9.2 lX.1 lX.2 rB.1 rB.2 rC.1 rC.2 rD.1 rD.2)
 have R9 := Ya.mk r9
 have R10 := Ya.mk lX
 have R11 := Ya.mk rB
 have R12 := Ya.mk rC
 have R13 := Ya.mk rD
 have HF := Ya.mk hf
 clear hE r9 lX rB rC rD hf
 have mT := Tryz.underlying32
 have BK := Ya.mk (heap_alloc_new w (.cells (ec x.f0 x.f1 x.f2 x.f3 x.f4 x.f5 x.f6 x.f7 x.f8.f0 x.f8.f1 x.f8.f2 (.slice A9 x.f9.length n9) (.slice gE x.f10.length n10) (.slice cA x.f11.length n11) (.slice bW x.f12.length n12) (.slice cB x.f13.length n13)) 32))
 have HB := Ya.mk ((Below.refl w.heap.size w).alloc (Ks _) (.cells (ec x.f0 x.f1 x.f2 x.f3 x.f4 x.f5 x.f6 x.f7 x.f8.f0 x.f8.f1 x.f8.f2 (.slice A9 x.f9.length n9) (.slice gE x.f10.length n10) (.slice cA x.f11.length n11) (.slice bW x.f12.length n12) (.slice cB x.f13.length n13)) 32))
 go_enter Tryz.func4, Tryz.ntmps4
 obtain ⟨h0, h1, h2, h3, h4, h5, h6, h7, h8, h9, oI, oW, oL, nA, nB, mJ⟩ := Yhf BK.out
 go_wp2_with fail
 clear h0 h1 h2 h3 h4 h5 h6 h7 h8 h9 oI oW oL nA nB mJ
 have HC := Ya.mk (one_C HK.out HB.out)
 have hsz : (w.alloc (.cells (ec x.f0 x.f1 x.f2 x.f3 x.f4 x.f5 x.f6 x.f7 x.f8.f0 x.f8.f1 x.f8.f2 (.slice A9 x.f9.length n9) (.slice gE x.f10.length n10) (.slice cA x.f11.length n11) (.slice bW x.f12.length n12) (.slice cB x.f13.length n13)) 32)).heap.size = w.heap.size + 1 := Array.size_push _
 rw [hsz] at HC
 clear hsz
 replace HB := Ya.mk (HB.out.alloc HB.out.size (.cells (ec x.f0 x.f1 x.f2 x.f3 x.f4 x.f5 x.f6 x.f7 x.f8.f0 x.f8.f1 x.f8.f2 (.slice A9 x.f9.length n9) (.slice gE x.f10.length n10) (.slice cA x.f11.length n11) (.slice bW x.f12.length n12) (.slice cB x.f13.length n13)) 32))
 replace BK := Ya.mk (Yja BK.out (.cells (ec x.f0 x.f1 x.f2 x.f3 x.f4 x.f5 x.f6 x.f7 x.f8.f0 x.f8.f1 x.f8.f2 (.slice A9 x.f9.length n9) (.slice gE x.f10.length n10) (.slice cA x.f11.length n11) (.slice bW x.f12.length n12) (.slice cB x.f13.length n13)) 32))
 refine (Yra.calls k _ 1 [x] none 0 [] true _ (HE.out.below HB.out) HC.out (Ks _) (Kd.C_nil _ _) (Ks _) HF.out).mono ?_
 rintro e w1 ⟨rfl, hb⟩
 replace BK := Ya.mk (Ycb BK.out hb)
 replace HB := Ya.mk (HB.out.trans (hb.mono HB.out.size))
 clear hb
 go_wp2_with fail
 refine (Yzm _ (HE.out.below HB.out)).mono ?_
 rintro e w2 ⟨rfl, hb⟩
 replace HB := Ya.mk (HB.out.trans (hb.mono HB.out.size))
 clear hb
 go_wp2_with fail
 go_ret
 exact ⟨rfl, HB.out⟩
theorem Yhi {w : World} {g t : Nat} {c : Array Value} (h : w.heap[g]? = some (.cells c t (0, 0))) : g < w.heap.size := by
 obtain ⟨h, _⟩ := Array.getElem?_eq_some_iff.1 h
 exact h
theorem idof_main (k : Nat) (kd : Int × Int) (x : En) (s : Y) (A9 gE cA bW cB : Option Addr) (n9 n10 n11 n12 n13 : Nat) (w : World) (hE : EnvOk w)
  (r9 : x.f9.length ≤ n9 ∧ Kd.C Kd.string w A9 x.f9.length x.f9) (lX : x.f10.length ≤ n10 ∧ Kd.C Kd.string w gE x.f10.length x.f10) (rB : x.f11.length ≤ n11 ∧ Kd.C Kd.string w cA x.f11.length x.f11) (rC : x.f12.length ≤ n12 ∧ Kd.C Kd.string w bW x.f12.length x.f12) (rD : x.f13.length ≤ n13 ∧ Kd.C Kd.string w cB x.f13.length x.f13)
  (hf : Yra.f k [x] [] = some false)
  (ho : Yom x)
  (hp : Yih.f s = some (kd.1, kd.2))
  (hr : Yae.f s = some (kd.1, kd.2)) :
  Calls Tryz.prog 4 #[.agg (ec x.f0 x.f1 x.f2 x.f3 x.f4 x.f5 x.f6 x.f7 x.f8.f0 x.f8.f1 x.f8.f2 (.slice A9 x.f9.length n9) (.slice gE x.f10.length n10) (.slice cA x.f11.length n11) (.slice bW x.f12.length n12) (.slice cB x.f13.length n13)), .string s] w fun e w' => e = .returned (.bool true) ∧ Below w.heap.size w w' := by
 have HE := Ya.mk hE
 have HK := Ya.mk (Yuk w x r9.1 r9.2 lX.1 lX.2 rB.1 rB.2 rC.1 rC.2 rD.1 rD.2)
 have R9 := Ya.mk r9
 have R10 := Ya.mk lX
 have R11 := Ya.mk rB
 have R12 := Ya.mk rC
 have R13 := Ya.mk rD
 have HF := Ya.mk hf
 have HO := Ya.mk ho
 have HP := Ya.mk hp
 have HR := Ya.mk hr
 clear hE r9 lX rB rC rD hf ho hp hr
 have mT := Tryz.underlying32
 have BK := Ya.mk (heap_alloc_new w (.cells (ec x.f0 x.f1 x.f2 x.f3 x.f4 x.f5 x.f6 x.f7 x.f8.f0 x.f8.f1 x.f8.f2 (.slice A9 x.f9.length n9) (.slice gE x.f10.length n10) (.slice cA x.f11.length n11) (.slice bW x.f12.length n12) (.slice cB x.f13.length n13)) 32))
 have HB := Ya.mk ((Below.refl w.heap.size w).alloc (Ks _) (.cells (ec x.f0 x.f1 x.f2 x.f3 x.f4 x.f5 x.f6 x.f7 x.f8.f0 x.f8.f1 x.f8.f2 (.slice A9 x.f9.length n9) (.slice gE x.f10.length n10) (.slice cA x.f11.length n11) (.slice bW x.f12.length n12) (.slice cB x.f13.length n13)) 32))
 go_enter Tryz.func4, Tryz.ntmps4
 obtain ⟨h0, h1, h2, h3, h4, h5, h6, h7, h8, h9, oI, oW, oL, nA, nB, mJ⟩ := Yhf BK.out
 go_wp2_with fail
 clear h0 h1 h2 h3 h4 h5 h6 h7 h8 h9 oI oW oL nA nB mJ
 have HC := Ya.mk (one_C HK.out HB.out)
 have hsz : (w.alloc (.cells (ec x.f0 x.f1 x.f2 x.f3 x.f4 x.f5 x.f6 x.f7 x.f8.f0 x.f8.f1 x.f8.f2 (.slice A9 x.f9.length n9) (.slice gE x.f10.length n10) (.slice cA x.f11.length n11) (.slice bW x.f12.length n12) (.slice cB x.f13.length n13)) 32)).heap.size = w.heap.size + 1 := Array.size_push _
 rw [hsz] at HC
 clear hsz
 replace HB := Ya.mk (HB.out.alloc HB.out.size (.cells (ec x.f0 x.f1 x.f2 x.f3 x.f4 x.f5 x.f6 x.f7 x.f8.f0 x.f8.f1 x.f8.f2 (.slice A9 x.f9.length n9) (.slice gE x.f10.length n10) (.slice cA x.f11.length n11) (.slice bW x.f12.length n12) (.slice cB x.f13.length n13)) 32))
 replace BK := Ya.mk (Yja BK.out (.cells (ec x.f0 x.f1 x.f2 x.f3 x.f4 x.f5 x.f6 x.f7 x.f8.f0 x.f8.f1 x.f8.f2 (.slice A9 x.f9.length n9) (.slice gE x.f10.length n10) (.slice cA x.f11.length n11) (.slice bW x.f12.length n12) (.slice cB x.f13.length n13)) 32))
 refine (Yra.calls k _ 1 [x] none 0 [] false _ (HE.out.below HB.out) HC.out (Ks _) (Kd.C_nil _ _) (Ks _) HF.out).mono ?_
 rintro e w1 ⟨rfl, hb⟩
 replace BK := Ya.mk (Ycb BK.out hb)
 replace HB := Ya.mk (HB.out.trans (hb.mono HB.out.size))
 clear hb
 obtain ⟨h0, h1, h2, h3, h4, h5, h6, h7, h8, h9, oI, oW, oL, nA, nB, mJ⟩ := Yhf BK.out
 have hlt := Yhi BK.out
 go_wp2_with fail
 clear h0 h1 h2 h3 h4 h5 h6 h7 h8 h9 oI oW oL nA nB mJ hlt
 have HG := Ya.mk (show w.heap.size ≤ w1.heap.size ∧ w.heap.size ≠ w1.heap.size from ⟨HB.out.size, Nat.ne_of_lt (Yhi BK.out)⟩)
 have BN := Ya.mk (heap_alloc_new w1 (.cells (ec x.f0 x.f1 x.f2 x.f3 x.f4 x.f5 x.f6 x.f7 x.f8.f0 x.f8.f1 x.f8.f2 (.slice A9 x.f9.length n9) (.slice gE x.f10.length n10) (.slice cA x.f11.length n11) (.slice bW x.f12.length n12) (.slice cB x.f13.length n13)) 32))
 replace BK := Ya.mk (Yja BK.out (.cells (ec x.f0 x.f1 x.f2 x.f3 x.f4 x.f5 x.f6 x.f7 x.f8.f0 x.f8.f1 x.f8.f2 (.slice A9 x.f9.length n9) (.slice gE x.f10.length n10) (.slice cA x.f11.length n11) (.slice bW x.f12.length n12) (.slice cB x.f13.length n13)) 32))
 replace HB := Ya.mk (HB.out.alloc HB.out.size (.cells (ec x.f0 x.f1 x.f2 x.f3 x.f4 x.f5 x.f6 x.f7 x.f8.f0 x.f8.f1 x.f8.f2 (.slice A9 x.f9.length n9) (.slice gE x.f10.length n10) (.slice cA x.f11.length n11) (.slice bW x.f12.length n12) (.slice cB x.f13.length n13)) 32))
 generalize (w1.alloc (.cells (ec x.f0 x.f1 x.f2 x.f3 x.f4 x.f5 x.f6 x.f7 x.f8.f0 x.f8.f1 x.f8.f2 (.slice A9 x.f9.length n9) (.slice gE x.f10.length n10) (.slice cA x.f11.length n11) (.slice bW x.f12.length n12) (.slice cB x.f13.length n13)) 32)) = w2 at BK BN HB ⊢
 generalize w1.heap.size = gn at BN HG ⊢
 refine (Yyl x _ _ (HE.out.below HB.out) (k32.K_below HB.out HK.out) HO.out).mono ?_
 rintro e w3 ⟨rfl, hb⟩
 replace BN := Ya.mk (Ycb BN.out hb)
 have hq0 := (Yf BN.out 0).trans rfl
 have hfz := Ye BN.out 0
 replace BN := Ya.mk (Yeb BN.out 0 (.string (ofR x)) rfl)
 replace BK := Ya.mk (Ync (Ycb BK.out hb) (p := ⟨gn, 0, none⟩) HG.out.2 (.string (ofR x)))
 replace HB := Ya.mk ((HB.out.trans (hb.mono HB.out.size)).setCell (p := ⟨gn, 0, none⟩) HG.out.1 (.string (ofR x)))
 clear hb
 generalize hix : ofR x = ix at BN BK HB ⊢
 have HIX := Ya.mk hix
 clear hix
 go_wp2_with fail
 clear hq0 hfz
 generalize World.setCell _ _ _ = w4 at BK BN HB ⊢
 refine (Yih.calls s _ _ _ (HE.out.below HB.out) HP.out).mono ?_
 rintro e w5 ⟨rfl, hd⟩
 replace BK := Ya.mk (Ycb BK.out hd.below)
 replace BN := Ya.mk (Ycb BN.out hd.below)
 replace HB := Ya.mk (HB.out.trans (hd.below.mono HB.out.size))
 clear hd
 go_wp2_with fail
 refine (Yae.calls s _ _ _ (HE.out.below HB.out) HR.out).mono ?_
 rintro e w6 ⟨rfl, hd⟩
 replace BK := Ya.mk (Ycb BK.out hd.below)
 replace BN := Ya.mk (Ycb BN.out hd.below)
 replace HB := Ya.mk (HB.out.trans (hd.below.mono HB.out.size))
 clear hd
 go_wp2_with fail
 have cC := Ya.mk (k32.K_below HB.out HK.out)
 as_aux_lemma =>
  refine Ydh (n := 25) (S := fun w' => w'.heap[w.heap.size]? = some (.cells (ec x.f0 x.f1 x.f2 x.f3 x.f4 x.f5 x.f6 x.f7 x.f8.f0 x.f8.f1 x.f8.f2 (.slice A9 x.f9.length n9) (.slice gE x.f10.length n10) (.slice cA x.f11.length n11) (.slice bW x.f12.length n12) (.slice cB x.f13.length n13)) 32 (0, 0)) ∧ w'.heap[gn]? = some (.cells (ec ix x.f1 x.f2 x.f3 x.f4 x.f5 x.f6 x.f7 x.f8.f0 x.f8.f1 x.f8.f2 (.slice A9 x.f9.length n9) (.slice gE x.f10.length n10) (.slice cA x.f11.length n11) (.slice bW x.f12.length n12) (.slice cB x.f13.length n13)) 32 (0, 0))) (ds := []) #[false, false, false, false, false, false, false, false, false, false, false, false, false, false, false, false, false, false, false, false, false, false, false, false, false] Zi rfl rfl ⟨(Yma BK.out), (Yma BN.out)⟩ (fun hHeld => ?_); refine Yzg idof.tab7 idof.bits7 (fun HT_ HW_ => ?_)
  replace BK := Ya.mk (Yma BK.out)
  replace BN := Ya.mk (Yma BN.out)
  replace cC := Ya.mk (k32.K_below (Yc (Below.refl _ _)) cC.out)
  replace HB := Ya.mk (Yc HB.out)
  generalize World.drew _ = wd at BK BN cC HB hHeld ⊢
  refine Yxf (i := 0) (N := some 28) (v := ?_) (a' := ?_) #[true, false, false, false, false, false, false, false, false, false, false, false, false, false, false, false, false, false, false, false, false, false, false, false, false] rfl rfl (Yif HT_.out HW_.out Zi) (fun _ _ _ h => h) (Or.inl ⟨Zda, ?_⟩) hHeld ?_ ?_
  rotate_left
  ·rintro w' ⟨s0, s1⟩
   obtain ⟨h0, h1, h2, h3, h4, h5, h6, h7, h8, h9, oI, oW, oL, nA, nB, mJ⟩ := Yhf s0
   go_simp
   with_reducible rfl
  rotate_left
  ·exact Ztb
  refine Yxf (i := 2) (N := some 30) (v := ?_) (a' := ?_) #[true, false, true, false, false, false, false, false, false, false, false, false, false, false, false, false, false, false, false, false, false, false, false, false, false] rfl rfl (Yif HT_.out HW_.out Zi) (fun _ _ _ h => h) (Or.inl ⟨Zda, ?_⟩) hHeld ?_ ?_
  rotate_left
  ·rintro w' ⟨s0, s1⟩
   obtain ⟨h0, h1, h2, h3, h4, h5, h6, h7, h8, h9, oI, oW, oL, nA, nB, mJ⟩ := Yhf s0
   go_simp
   with_reducible rfl
  rotate_left
  ·exact Ztb
  refine one_ (i := 1) (N := some 29) #[true, true, true, false, false, false, false, false, false, false, false, false, false, false, false, false, false, false, false, false, false, false, false, false, false] rfl rfl (Yhg HT_.out Zi) Zw (fun K hK => ?_)
  refine Ydi Tryz.func15 Zi rfl #[.agg (ec x.f0 x.f1 x.f2 x.f3 x.f4 x.f5 x.f6 x.f7 x.f8.f0 x.f8.f1 x.f8.f2 (.slice A9 x.f9.length n9) (.slice gE x.f10.length n10) (.slice cA x.f11.length n11) (.slice bW x.f12.length n12) (.slice cB x.f13.length n13))] Zda rfl rfl Zca ?_
  refine (Yjj x _ _ (HE.out.below HB.out) cC.out HO.out.ok).mono ?_
  rintro e we ⟨rfl, hb⟩
  refine ⟨_, rfl, ?_⟩
  replace BK := Ya.mk (Ycb BK.out hb)
  replace BN := Ya.mk (Ycb BN.out hb)
  replace cC := Ya.mk (k32.K_below hb cC.out)
  replace HB := Ya.mk (HB.out.trans (hb.mono HB.out.size))
  clear hb
  refine hK.out _ _ ⟨BK.out, BN.out⟩ (fun hHeld => ?_)
  clear hK K
  refine Yth (a' := ?_) ?_ ?_
  rotate_left
  ·show Act.put _ (some 29) _ = _
   simp only [Act.put, Ky, Yha, Yka]
   rfl
  refine one_ (i := 3) (N := some 31) #[true, true, true, true, false, false, false, false, false, false, false, false, false, false, false, false, false, false, false, false, false, false, false, false, false] rfl rfl (Yhg HT_.out Zi) Zw (fun K hK => ?_)
  refine Ydi Tryz.func12 Zi rfl #[.agg (ec x.f0 x.f1 x.f2 x.f3 x.f4 x.f5 x.f6 x.f7 x.f8.f0 x.f8.f1 x.f8.f2 (.slice A9 x.f9.length n9) (.slice gE x.f10.length n10) (.slice cA x.f11.length n11) (.slice bW x.f12.length n12) (.slice cB x.f13.length n13))] Zda rfl rfl Zca ?_
  refine (Yyl x _ _ (HE.out.below HB.out) cC.out HO.out).mono ?_
  rintro e we ⟨rfl, hb⟩
  refine ⟨_, rfl, ?_⟩
  replace BK := Ya.mk (Ycb BK.out hb)
  replace BN := Ya.mk (Ycb BN.out hb)
  replace cC := Ya.mk (k32.K_below hb cC.out)
  replace HB := Ya.mk (HB.out.trans (hb.mono HB.out.size))
  clear hb
  refine hK.out _ _ ⟨BK.out, BN.out⟩ (fun hHeld => ?_)
  clear hK K
  refine Yth (a' := ?_) ?_ ?_
  rotate_left
  ·show Act.put _ (some 31) _ = _
   simp only [Act.put, Ky, Yha, Yka]
   rfl
  rw [HIX.out]
  have e0 : (ix.toList == ix.toList) = true := beq_self_eq_true _
  refine Yjb (i := 4) (N := some 32) (v := ?_) (a' := ?_) #[true, true, true, true, true, false, false, false, false, false, false, false, false, false, false, false, false, false, false, false, false, false, false, false, false] rfl rfl (Yfb HT_.out Zi) (fun _ _ _ h => h) (Or.inl ⟨Zda, ?_⟩) ?_ ?_
  rotate_left
  ·exact Zsb
  rotate_left
  ·exact Ztb
  refine Yjb (i := 5) (N := some 33) (v := ?_) (a' := ?_) #[true, true, true, true, true, true, false, false, false, false, false, false, false, false, false, false, false, false, false, false, false, false, false, false, false] rfl rfl (Yfb HT_.out Zi) (fun _ _ _ h => h) (Or.inl ⟨Zda, ?_⟩) ?_ ?_
  rotate_left
  ·exact Zsb
  rotate_left
  ·exact Ztb
  clear e0
  refine Yxf (i := 6) (N := some 34) (v := ?_) (a' := ?_) #[true, true, true, true, true, true, true, false, false, false, false, false, false, false, false, false, false, false, false, false, false, false, false, false, false] rfl rfl (Yif HT_.out HW_.out Zi) (fun _ _ _ h => h) (Or.inl ⟨Zda, ?_⟩) hHeld ?_ ?_
  rotate_left
  ·rintro w' ⟨s0, s1⟩
   obtain ⟨h0, h1, h2, h3, h4, h5, h6, h7, h8, h9, oI, oW, oL, nA, nB, mJ⟩ := Yhf s0
   go_simp
   with_reducible rfl
  rotate_left
  ·exact Ztb
  refine Yxf (i := 8) (N := some 36) (v := ?_) (a' := ?_) #[true, true, true, true, true, true, true, false, true, false, false, false, false, false, false, false, false, false, false, false, false, false, false, false, false] rfl rfl (Yif HT_.out HW_.out Zi) (fun _ _ _ h => h) (Or.inl ⟨Zda, ?_⟩) hHeld ?_ ?_
  rotate_left
  ·rintro w' ⟨s0, s1⟩
   obtain ⟨h0, h1, h2, h3, h4, h5, h6, h7, h8, h9, oI, oW, oL, nA, nB, mJ⟩ := Yhf s1
   go_simp
   with_reducible rfl
  rotate_left
  ·exact Ztb
  refine one_ (i := 7) (N := some 35) #[true, true, true, true, true, true, true, true, true, false, false, false, false, false, false, false, false, false, false, false, false, false, false, false, false] rfl rfl (Yhg HT_.out Zi) Zw (fun K hK => ?_)
  refine Ydi Tryz.func17 Zi rfl #[.agg (ec x.f0 x.f1 x.f2 x.f3 x.f4 x.f5 x.f6 x.f7 x.f8.f0 x.f8.f1 x.f8.f2 (.slice A9 x.f9.length n9) (.slice gE x.f10.length n10) (.slice cA x.f11.length n11) (.slice bW x.f12.length n12) (.slice cB x.f13.length n13))] Zda rfl rfl Zca ?_
  refine (Yvn x.f0 x.f1 x.f2 x.f3 x.f4 x.f5 x.f6 x.f7 x.f8.f0 x.f8.f1 x.f8.f2 _ _ _ _ _ _ _ _ _ _ _ _ _ _ _ ix _ (fun W hW => by rw [← HIX.out]; exact Yjj x _ W (HE.out.below (HB.out.trans (hW.mono HB.out.size))) (k32.K_below hW cC.out) HO.out.ok)).mono ?_
  rintro e we ⟨rfl, hb⟩
  refine ⟨_, rfl, ?_⟩
  replace BK := Ya.mk (Ycb BK.out hb)
  replace BN := Ya.mk (Ycb BN.out hb)
  replace cC := Ya.mk (k32.K_below hb cC.out)
  replace HB := Ya.mk (HB.out.trans (hb.mono HB.out.size))
  clear hb
  refine hK.out _ _ ⟨BK.out, BN.out⟩ (fun hHeld => ?_)
  clear hK K
  refine Yth (a' := ?_) ?_ ?_
  rotate_left
  ·show Act.put _ (some 35) _ = _
   simp only [Act.put, Ky, Yha, Yka]
   rfl
  refine one_ (i := 9) (N := some 37) #[true, true, true, true, true, true, true, true, true, true, false, false, false, false, false, false, false, false, false, false, false, false, false, false, false] rfl rfl (Yhg HT_.out Zi) Zw (fun K hK => ?_)
  refine Ydi Tryz.func16 Zi rfl #[.agg (ec ix x.f1 x.f2 x.f3 x.f4 x.f5 x.f6 x.f7 x.f8.f0 x.f8.f1 x.f8.f2 (.slice A9 x.f9.length n9) (.slice gE x.f10.length n10) (.slice cA x.f11.length n11) (.slice bW x.f12.length n12) (.slice cB x.f13.length n13)), .agg (ec ix x.f1 x.f2 x.f3 x.f4 x.f5 x.f6 x.f7 x.f8.f0 x.f8.f1 x.f8.f2 (.slice A9 x.f9.length n9) (.slice gE x.f10.length n10) (.slice cA x.f11.length n11) (.slice bW x.f12.length n12) (.slice cB x.f13.length n13))] Zda rfl rfl Zca ?_
  refine (Ycp { x with f0 := ix } _ _ _ _ _ _ _ _ _ _ _ _ _ _ _ _ _ _ _ _ _ (HE.out.below HB.out) ⟨R9.out.1, Kd.C_below R9.out.2 HB.out⟩ ⟨R9.out.1, Kd.C_below R9.out.2 HB.out⟩ ⟨R10.out.1, Kd.C_below R10.out.2 HB.out⟩ ⟨R10.out.1, Kd.C_below R10.out.2 HB.out⟩ ⟨R11.out.1, Kd.C_below R11.out.2 HB.out⟩ ⟨R11.out.1, Kd.C_below R11.out.2 HB.out⟩ ⟨R12.out.1, Kd.C_below R12.out.2 HB.out⟩ ⟨R12.out.1, Kd.C_below R12.out.2 HB.out⟩ ⟨R13.out.1, Kd.C_below R13.out.2 HB.out⟩ ⟨R13.out.1, Kd.C_below R13.out.2 HB.out⟩ (fun l hl => Nat.le_trans (HO.out.ok.few5 l hl) Zw)).mono ?_
  rintro e we ⟨rfl, hb⟩
  refine ⟨_, rfl, ?_⟩
  replace BK := Ya.mk (Ycb BK.out hb)
  replace BN := Ya.mk (Ycb BN.out hb)
  replace cC := Ya.mk (k32.K_below hb cC.out)
  replace HB := Ya.mk (HB.out.trans (hb.mono HB.out.size))
  clear hb
  refine hK.out _ _ ⟨BK.out, BN.out⟩ (fun hHeld => ?_)
  clear hK K
  refine Yth (a' := ?_) ?_ ?_
  rotate_left
  ·show Act.put _ (some 37) _ = _
   simp only [Act.put, Ky, Yha, Yka]
   rfl
  refine Yjb (i := 10) (N := some 38) (v := ?_) (a' := ?_) #[true, true, true, true, true, true, true, true, true, true, true, false, false, false, false, false, false, false, false, false, false, false, false, false, false] rfl rfl (Yfb HT_.out Zi) (fun _ _ _ h => h) (Or.inl ⟨Zda, ?_⟩) ?_ ?_
  rotate_left
  ·exact Zsb
  rotate_left
  ·exact Ztb
  refine Yjb (i := 11) (N := some 39) (v := ?_) (a' := ?_) #[true, true, true, true, true, true, true, true, true, true, true, true, false, false, false, false, false, false, false, false, false, false, false, false, false] rfl rfl (Yfb HT_.out Zi) (fun _ _ _ h => h) (Or.inl ⟨Zda, ?_⟩) ?_ ?_
  rotate_left
  ·exact Zsb
  rotate_left
  ·exact Ztb
  refine Yjb (i := 12) (N := some 40) (v := ?_) (a' := ?_) #[true, true, true, true, true, true, true, true, true, true, true, true, true, false, false, false, false, false, false, false, false, false, false, false, false] rfl rfl (Yfb HT_.out Zi) (fun _ _ _ h => h) (Or.inl ⟨Zda, ?_⟩) ?_ ?_
  rotate_left
  ·exact Zsb
  rotate_left
  ·exact Ztb
  refine Yjb (i := 13) (N := some 41) (v := ?_) (a' := ?_) #[true, true, true, true, true, true, true, true, true, true, true, true, true, true, false, false, false, false, false, false, false, false, false, false, false] rfl rfl (Yfb HT_.out Zi) (fun _ _ _ h => h) (Or.inl ⟨Zda, ?_⟩) ?_ ?_
  rotate_left
  ·exact Zsb
  rotate_left
  ·exact Ztb
  refine Yjb (i := 14) (N := some 42) (v := ?_) (a' := ?_) #[true, true, true, true, true, true, true, true, true, true, true, true, true, true, true, false, false, false, false, false, false, false, false, false, false] rfl rfl (Yfb HT_.out Zi) (fun _ _ _ h => h) (Or.inl ⟨Zda, ?_⟩) ?_ ?_
  rotate_left
  ·exact Zsb
  rotate_left
  ·exact Ztb
  refine Yjb (i := 15) (N := some 43) (v := ?_) (a' := ?_) #[true, true, true, true, true, true, true, true, true, true, true, true, true, true, true, true, false, false, false, false, false, false, false, false, false] rfl rfl (Yfb HT_.out Zi) (fun _ _ _ h => h) (Or.inl ⟨Zda, ?_⟩) ?_ ?_
  rotate_left
  ·exact Zsb
  rotate_left
  ·exact Ztb
  refine Yjb (i := 16) (N := some 44) (v := ?_) (a' := ?_) #[true, true, true, true, true, true, true, true, true, true, true, true, true, true, true, true, true, false, false, false, false, false, false, false, false] rfl rfl (Yfb HT_.out Zi) (fun _ _ _ h => h) (Or.inl ⟨Zda, ?_⟩) ?_ ?_
  rotate_left
  ·exact Zsb
  rotate_left
  ·exact Ztb
  refine Yjb (i := 17) (N := some 45) (v := ?_) (a' := ?_) #[true, true, true, true, true, true, true, true, true, true, true, true, true, true, true, true, true, true, false, false, false, false, false, false, false] rfl rfl (Yfb HT_.out Zi) (fun _ _ _ h => h) (Or.inl ⟨Zda, ?_⟩) ?_ ?_
  rotate_left
  ·exact Zsb
  rotate_left
  ·exact Ztb
  refine Yjb (i := 18) (N := some 46) (v := ?_) (a' := ?_) #[true, true, true, true, true, true, true, true, true, true, true, true, true, true, true, true, true, true, true, false, false, false, false, false, false] rfl rfl (Yfb HT_.out Zi) (fun _ _ _ h => h) (Or.inl ⟨Zda, ?_⟩) ?_ ?_
  rotate_left
  ·exact Zsb
  rotate_left
  ·exact Ztb
  refine Yjb (i := 19) (N := some 47) (v := ?_) (a' := ?_) #[true, true, true, true, true, true, true, true, true, true, true, true, true, true, true, true, true, true, true, true, false, false, false, false, false] rfl rfl (Yfb HT_.out Zi) (fun _ _ _ h => h) (Or.inl ⟨Zda, ?_⟩) ?_ ?_
  rotate_left
  ·exact Zsb
  rotate_left
  ·exact Ztb
  refine Yjb (i := 20) (N := some 48) (v := ?_) (a' := ?_) #[true, true, true, true, true, true, true, true, true, true, true, true, true, true, true, true, true, true, true, true, true, false, false, false, false] rfl rfl (Yfb HT_.out Zi) (fun _ _ _ h => h) (Or.inl ⟨Zda, ?_⟩) ?_ ?_
  rotate_left
  ·exact Zsb
  rotate_left
  ·exact Ztb
  refine Yjb (i := 21) (N := some 49) (v := ?_) (a' := ?_) #[true, true, true, true, true, true, true, true, true, true, true, true, true, true, true, true, true, true, true, true, true, true, false, false, false] rfl rfl (Yfb HT_.out Zi) (fun _ _ _ h => h) (Or.inl ⟨Zda, ?_⟩) ?_ ?_
  rotate_left
  ·exact Zsb
  rotate_left
  ·exact Ztb
  refine one_ (i := 22) (N := some 50) #[true, true, true, true, true, true, true, true, true, true, true, true, true, true, true, true, true, true, true, true, true, true, true, false, false] rfl rfl (Yhg HT_.out Zi) Zw (fun K hK => ?_)
  refine Ydi Tryz.func6 Zi rfl #[] Zda rfl rfl Zca ?_
  refine (Yzm _ (HE.out.below HB.out)).mono ?_
  rintro e we ⟨rfl, hb⟩
  refine ⟨_, rfl, ?_⟩
  replace BK := Ya.mk (Ycb BK.out hb)
  replace BN := Ya.mk (Ycb BN.out hb)
  replace cC := Ya.mk (k32.K_below hb cC.out)
  replace HB := Ya.mk (HB.out.trans (hb.mono HB.out.size))
  clear hb
  refine hK.out _ _ ⟨BK.out, BN.out⟩ (fun hHeld => ?_)
  clear hK K
  refine Yth (a' := ?_) ?_ ?_
  rotate_left
  ·show Act.put _ (some 50) _ = _
   simp only [Act.put, Ky, Yha, Yka]
   rfl
  refine Yjb (i := 23) (N := some 51) (v := ?_) (a' := ?_) #[true, true, true, true, true, true, true, true, true, true, true, true, true, true, true, true, true, true, true, true, true, true, true, true, false] rfl rfl (Yfb HT_.out Zi) (fun _ _ _ h => h) (Or.inl ⟨Zda, ?_⟩) ?_ ?_
  rotate_left
  ·exact Zsb
  rotate_left
  ·exact Ztb
  refine Yjb (i := 24) (N := some 4) (v := ?_) (a' := ?_) #[true, true, true, true, true, true, true, true, true, true, true, true, true, true, true, true, true, true, true, true, true, true, true, true, true] rfl rfl (Yfb HT_.out Zi) (fun _ _ _ h => h) (Or.inl ⟨Zda, ?_⟩) ?_ ?_
  rotate_left
  ·exact Zsb
  rotate_left
  ·exact Ztb
  refine Yoi (Yti HT_.out Zi) ?_
  go_wp2_with fail
  go_ret
  exact ⟨rfl, HB.out⟩
theorem identOf_walk (x : En) (cs : Array Value) {w : World} (hK : k32.K w x cs.toList) (hr : Ysi x) (hm : mE x ≤ 1048576) (s : Y) (pK : mS s ≤ 1048576) (w1 : World) (hE : EnvOk w) :
  Calls Tryz.prog 4 #[.agg cs, .string s] w fun e w' => e = .returned (.bool true) ∧ Below w.heap.size w w' := by
 obtain ⟨A9, n9, gE, n10, cA, n11, bW, n12, cB, n13, hcs, l9, g9, l10, g10, jW, nC, jX, mL, jY, lW⟩ := Yij hK
 obtain rfl : cs = _ := by rw [← Array.toArray_toList (xs := cs), hcs]
 obtain ⟨b, ⟨k, hk⟩, hb⟩ := far_f [x] [] (by intro y hy; rw [List.mem_singleton.1 hy]; exact hr) Zq
 have hf := hk k (Ks _)
 cases b with
 | true => exact idof_far k x s A9 gE cA bW cB n9 n10 n11 n12 n13 w hE ⟨l9, g9⟩ ⟨l10, g10⟩ ⟨jW, nC⟩ ⟨jX, mL⟩ ⟨jY, lW⟩ hf
 | false =>
  have hs : s.data.toList.length < 4294967281 := by
   have h1 : s.size = s.data.toList.length := by rw [Array.length_toList]; rfl
   unfold mS at pK
   omega
  have hp := pkind_f s.data.toList hs
  have hr2 := rkind_f s.data.toList
  rw [show ofL s.data.toList = s from rfl] at hp hr2
  exact idof_main k (Yml s.data.toList) x s A9 gE cA bW cB n9 n10 n11 n12 n13 w hE ⟨l9, g9⟩ ⟨l10, g10⟩ ⟨jW, nC⟩ ⟨jX, mL⟩ ⟨jY, lW⟩ hf (all_ok ((hb rfl).2.2 x List.mem_cons_self) hm) hp hr2
end Go.Proofs.YtihaeeldgimdiaaGreatDoor.X
