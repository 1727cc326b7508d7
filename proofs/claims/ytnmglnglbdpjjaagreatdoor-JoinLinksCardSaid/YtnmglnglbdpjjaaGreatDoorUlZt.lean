/- The document's Tail: what stands behind a place. -/
import Derived.Test.YtnmglnglbdpjjaaGreatDoorUlWords
import Derived.Test.YtnmglnglbdpjjaaGreatDoorUlZp
import Derived.Test.YtnmglnglbdpjjaaGreatDoorUlH5
namespace Go.Proofs.YtnmglnglbdpjjaaGreatDoor.X
open Go.RowKit Go.Lib Go.Shelf Go.Yw.PrintWords Go.Yw.PrintLast Go.Yw.PrintMore
set_option linter.unusedVariables false
set_option linter.unusedSimpArgs false
abbrev uc (u1 u2 : ByteArray) (u3 : Int) (u4 u5 u6 : ByteArray) (u7 u8 : Bool) : Array Value := #[.string u1, .string u2, .int .i64 u3, .string u4, .string u5, .string u6, .bool u7, .bool u8]
theorem Ybh (w : World) (o : Obj) : (w.alloc o).heap.size = w.heap.size + 1 := by simp
def Yxb.f (aE aJ : ByteArray) (aN : Int) (aG aM aK : ByteArray) (aU aV : Bool) (a1 : ByteArray) : Option (ByteArray × ByteArray × Int × ByteArray × ByteArray × ByteArray × Bool × Bool) :=
 if a1.size ≤ 30000000 then some (aE, aJ, aN, Ydd a1.data.toList, Yzb a1.data.toList, Ybc a1.data.toList, Ytc a1.data.toList, Yqc a1.data.toList) else none
set_option maxHeartbeats 8000000 in
set_option maxRecDepth 100000 in
theorem Ynt (s h : ByteArray) (p : Int) (o3 o4 o5 : ByteArray) (o6 o7 : Bool) (a1 : ByteArray) (w : World) (hE : EnvOk w) (hs : a1.size ≤ 30000000) :
  Calls Tryz.prog 18 #[.agg (uc s h p o3 o4 o5 o6 o7), .string a1] w fun e w' => e = .returned (.agg (uc s h p (Ydd a1.data.toList) (Yzb a1.data.toList) (Ybc a1.data.toList) (Ytc a1.data.toList) (Yqc a1.data.toList))) ∧ Below w.heap.size w w' := by
 have HE := Ya.mk hE
 have bQ := Tryz.underlying25
 have bG : (Tryz.prog.info? 25).map (·.size) = some 8 := by kernel_rfl
 obtain ⟨n0, pT⟩ : ∃ n, n = (Yui a1.data.toList).length := ⟨_, rfl⟩
 have hn0s : n0 ≤ a1.size := by rw [pT, Lib.size_eq]; exact Yms _
 obtain ⟨k0, hk0⟩ := Yhm a1 ⟨#[63, 35]⟩ Zk Zda
 have hu0 : Yqa.f k0 a1 ⟨#[63, 35]⟩ = some ((n0 : Nat) : Int) := by rw [pT]; exact hk0 k0 (Nat.le_refl _)
 have hx0 : a1.extract 0 n0 = ofL (Yui a1.data.toList) := by
  rw [Yfe, pT]; unfold Yui
  congr 1
  have := List.take_left (l₁ := a1.data.toList.takeWhile (Ycb [63, 35])) (l₂ := a1.data.toList.dropWhile (Ycb [63, 35]))
  rw [List.takeWhile_append_dropWhile] at this; exact this
 have vX : a1.extract n0 a1.size = ofL (Yud a1.data.toList) := by
  rw [Yuc, pT]; unfold Yui Yud
  congr 1
  have := List.drop_left (l₁ := a1.data.toList.takeWhile (Ycb [63, 35])) (l₂ := a1.data.toList.dropWhile (Ycb [63, 35]))
  rw [List.takeWhile_append_dropWhile] at this; exact this
 have hp0 : Yve.f (a1.extract 0 n0) = some (Ydd a1.data.toList) := by
  unfold Yve.f
  rw [if_pos Zpa, hx0, Yfb]; rfl
 obtain ⟨bh, hbh⟩ : ∃ bh, bh = Yud a1.data.toList := ⟨_, rfl⟩
 obtain ⟨x1, hxd⟩ : ∃ x, x = a1.extract n0 a1.size := ⟨_, rfl⟩
 have hx1d : x1.data.toList = bh := by rw [hxd, vX, hbh]; rfl
 have hbl : bh.length ≤ a1.size := by rw [hbh, Lib.size_eq]; exact Yrl _
 have hx1s : x1.size = bh.length := by rw [Lib.size_eq, hx1d]
 have hsh : bh = [] ∨ (∃ t, bh = 63 :: t) ∨ (∃ t, bh = 35 :: t) := by
  rw [hbh]; unfold Yud
  cases hd : a1.data.toList.dropWhile (Ycb [63, 35]) with
  | nil => exact .inl rfl
  | cons b t =>
   have := List.head?_dropWhile_not (Ycb [63, 35]) a1.data.toList
   rw [hd] at this
   simp only [List.head?_cons, Ycb, Bool.not_eq_true'] at this
   have h2 : ¬ b = 63 → b = 35 := by simpa using this
   have h3 : b = 63 ∨ b = 35 := by
    by_cases hb : b = 63
    ·exact .inl hb
    ·exact .inr (h2 hb)
   rcases h3 with rfl | rfl
   ·exact .inr (.inl ⟨t, rfl⟩)
   ·exact .inr (.inr ⟨t, rfl⟩)
 have hT : Yzb a1.data.toList = (match Ywe bh with | some q => ofL (Yoc Yhg q) | none => ⟨#[]⟩) ∧ Ybc a1.data.toList = (match Yif (Ygb bh) with | some q => ofL (Yoc Yug q) | none => ⟨#[]⟩) ∧ Ytc a1.data.toList = (match Ywe bh with | some _ => true | none => false) ∧ Yqc a1.data.toList = (match Yif (Ygb bh) with | some _ => true | none => false) := by
  rw [hbh]; exact ⟨rfl, rfl, rfl, rfl⟩
 obtain ⟨path, hpath⟩ : ∃ x, x = Ydd a1.data.toList := ⟨_, rfl⟩
 obtain ⟨tq, htq⟩ : ∃ x, x = Yzb a1.data.toList := ⟨_, rfl⟩
 obtain ⟨tf, htf⟩ : ∃ x, x = Ybc a1.data.toList := ⟨_, rfl⟩
 obtain ⟨bq, hbq⟩ : ∃ x, x = Ytc a1.data.toList := ⟨_, rfl⟩
 obtain ⟨bf, hbf⟩ : ∃ x, x = Yqc a1.data.toList := ⟨_, rfl⟩
 rw [← htq, ← htf, ← hbq, ← hbf] at hT
 rw [← hpath] at hp0
 rw [← hpath, ← htq, ← htf, ← hbq, ← hbf]
 have HU0 := Ya.mk hu0
 have HP0 := Ya.mk hp0
 have HT := Ya.mk hT
 have HXD := Ya.mk hx1d
 have hxe := hxd.symm
 clear hu0 hp0 hx0 vX hk0 hE pT hbh hxd hpath htq htf hbq hbf hT hx1d
 have hbkA := heap_alloc_new w (.cells (uc s h p o3 o4 o5 o6 o7) 25)
 have hbk := Yn hbkA (.cells urlZ 25)
 have HBA := Ya.mk ((Below.refl w.heap.size w).alloc (Nat.le_refl _) (.cells (uc s h p o3 o4 o5 o6 o7) 25))
 have HBB := Ya.mk (HBA.out.alloc HBA.out.size (.cells urlZ 25))
 have HZ := Ya.mk hbk
 have HZ4 := Ya.mk (heap_alloc_new (w.alloc (.cells (uc s h p o3 o4 o5 o6 o7) 25)) (.cells urlZ 25))
 have cW := (Yf hbk 0).trans rfl
 have cR := (Yf hbk 1).trans rfl
 have cV := (Yf hbk 2).trans rfl
 clear hbk hbkA
 go_enter Tryz.func18, Tryz.ntmps18
 go_wp2_with (refine wpList_store_row rfl 25 (.tmp 2) (.tmp 12) rfl w.heap.size (uc s h p ⟨#[]⟩ ⟨#[]⟩ ⟨#[]⟩ false false) rfl rfl 25 _ HZ.out bG rfl (Yrb _ _ _ _ _ _ _ _) ?_)
 have aJm : (w.alloc (.cells (uc s h p o3 o4 o5 o6 o7) 25)).heap.size = w.heap.size + 1 := Ybh _ _
 rw [aJm] at HZ4
 clear aJm cW cR cV
 have BK1 := Ya.mk (setRow_heap _ _ _ (uc s h p ⟨#[]⟩ ⟨#[]⟩ ⟨#[]⟩ false false) _ _ HZ.out)
 have zP := Ya.mk ((setRow_other _ w.heap.size (w.heap.size + 1) (uc s h p ⟨#[]⟩ ⟨#[]⟩ ⟨#[]⟩ false false) Zk).trans HZ4.out)
 have hZ := Ya.mk (below_setRow HBB.out (Nat.le_refl _) (uc s h p ⟨#[]⟩ ⟨#[]⟩ ⟨#[]⟩ false false))
 clear HZ HZ4 HBA HBB
 obtain ⟨w1, hw⟩ : ∃ W, W = ((w.alloc (.cells (uc s h p o3 o4 o5 o6 o7) 25)).alloc (.cells urlZ 25)).setRow w.heap.size (uc s h p ⟨#[]⟩ ⟨#[]⟩ ⟨#[]⟩ false false) := ⟨_, rfl⟩
 rw [← hw] at BK1 zP hZ ⊢
 clear hw
 have lH := Ya.mk (HE.out.below hZ.out)
 refine (Yqa.calls k0 _ _ _ _ lH.out HU0.out).mono ?_
 rintro e w2' ⟨rfl, ⟨nd, rfl⟩⟩
 have BK2 := Ya.mk (Yh BK1.out nd)
 have tS := Ya.mk (Yh zP.out nd)
 have eK := Ya.mk (Yb hZ.out nd)
 obtain ⟨w2, hw⟩ : ∃ W, W = w1.drewN nd := ⟨_, rfl⟩
 rw [← hw] at BK2 tS eK ⊢
 clear hw BK1 zP hZ lH
 have uL := Ya.mk (HE.out.below eK.out)
 go_wp2_with fail
 refine (Yve.calls _ _ _ uL.out HP0.out).mono ?_
 rintro e w3 ⟨rfl, gL⟩
 have BK3 := Ya.mk (Yra BK2.out gL)
 have yS := Ya.mk (Yra tS.out gL)
 have eE := Ya.mk (eK.out.trans (gL.mono eK.out.size))
 have hcz := (Yf BK3.out 3).trans rfl
 have hfz := Ye BK3.out 3
 have uP := Ya.mk (Yna BK3.out 3 (.string path) rfl)
 have yT := Ya.mk (Yub yS.out (p := ⟨w.heap.size, 3, none⟩) Zv (.string path))
 have dL := Ya.mk (Yg (j := 3) (v := .string path) eE.out (Nat.le_refl _))
 clear gL BK2 tS eK uL BK3 yS eE
 rcases hsh with rfl | ⟨t, rfl⟩ | ⟨t, rfl⟩
 ·obtain ⟨h1, h2, h3, h4⟩ := HT.out
  simp only [Ywe, Ygb, Yif] at h1 h2 h3 h4
  subst h1 h2 h3 h4
  have e1 : (x1.toList != ([] : List UInt8)) = false := by rw [Lib.toList_data, HXD.out]; rfl
  have e0 : (x1.toList == ([] : List UInt8)) = true := by rw [Lib.toList_data, HXD.out]; rfl
  clear hx1s hbl
  have cW := (Yf uP.out 0).trans rfl
  have cR := (Yf uP.out 1).trans rfl
  have cV := (Yf uP.out 2).trans rfl
  have dA := (Yf uP.out 3).trans rfl
  have cZ := (Yf uP.out 4).trans rfl
  have cY := (Yf uP.out 5).trans rfl
  have dB := (Yf uP.out 6).trans rfl
  have cX := (Yf uP.out 7).trans rfl
  go_wp2_with (refine wpList_store_row rfl 25 (.tmp 4) (.tmp 48) rfl (w.heap.size + 1) (uc s h p path ⟨#[]⟩ ⟨#[]⟩ false false) rfl rfl 25 _ yT.out bG rfl (Yrb _ _ _ _ _ _ _ _) ?_)
  refine bodyPost_ret (results_cell_row rfl _ _ (w.heap.size + 1) 25 (uc s h p path ⟨#[]⟩ ⟨#[]⟩ false false) (0, 0) _ rfl (setRow_heap _ _ _ _ _ _ yT.out) bQ rfl bG) rfl ?_
  exact ⟨rfl, below_setRow dL.out Zk _⟩
 ·obtain ⟨h1, h2, h3, h4⟩ := HT.out
  simp only [Ywe, Ygb, if_true] at h1 h2 h3 h4
  have e1 : (x1.toList != ([] : List UInt8)) = true := by rw [Lib.toList_data, HXD.out]; rfl
  have e0 : (x1.toList == ([] : List UInt8)) = false := by rw [Lib.toList_data, HXD.out]; rfl
  have hx1s2 : 0 < x1.size := by rw [hx1s]; simp
  have hx1l : x1.size = t.length + 1 := by rw [hx1s]; simp
  have hbt : bt x1 0 = 63 := (Yvc x1 0 63 t HXD.out).2.1
  obtain ⟨n1, pI⟩ : ∃ n, n = (t.takeWhile (Ycb [35])).length := ⟨_, rfl⟩
  have hn1s : n1 ≤ t.length := by rw [pI]; exact Ype _ _
  have ht1 : (63 :: t).takeWhile (Ycb [35]) = 63 :: t.takeWhile (Ycb [35]) := by rw [List.takeWhile_cons_of_pos Zda]
  have ht2 : (63 :: t).dropWhile (Ycb [35]) = t.dropWhile (Ycb [35]) := by rw [List.dropWhile_cons_of_pos Zda]
  simp only [List.length_cons] at hbl
  obtain ⟨k1, uM⟩ := Yhm x1 ⟨#[35]⟩ Zk Zda
  have HU1 := Ya.mk (show Yqa.f k1 x1 ⟨#[35]⟩ = some ((n1 + 1 : Nat) : Int) from by
   have h9 : Yqa.f k1 x1 ⟨#[35]⟩ = _ := uM k1 (Nat.le_refl _)
   rw [h9, HXD.out]
   show some ((((63 :: t).takeWhile (Ycb [35])).length : Nat) : Int) = _
   rw [ht1, List.length_cons, pI])
  have hxs : x1.extract 1 (n1 + 1) = ofL (t.takeWhile (Ycb [35])) := by
   rw [Ydh, HXD.out, show n1 + 1 - 1 = n1 by omega, pI]
   show ofL (t.take _) = _
   congr 1
   have := List.take_left (l₁ := t.takeWhile (Ycb [35])) (l₂ := t.dropWhile (Ycb [35]))
   rw [List.takeWhile_append_dropWhile] at this; exact this
  have hxr : (x1.extract (n1 + 1) x1.size).data.toList = t.dropWhile (Ycb [35]) := by
   rw [Yuc, HXD.out, pI, Yfb]
   show t.drop _ = _
   have := List.drop_left (l₁ := t.takeWhile (Ycb [35])) (l₂ := t.dropWhile (Ycb [35]))
   rw [List.takeWhile_append_dropWhile] at this; exact this
  obtain ⟨km, hm⟩ := Yxj (ofL (t.takeWhile (Ycb [35]))) ⟨#[35, 39]⟩ (by rw [Yx, ← pI]; omega) Zda
  have HM := Ya.mk (show Ys.f km (x1.extract 1 (n1 + 1)) ⟨#[35, 39]⟩ = some tq from by rw [hxs, h1]; exact hm km (Nat.le_refl _))
  obtain ⟨x2, pW⟩ : ∃ x, x = x1.extract (n1 + 1) x1.size := ⟨_, rfl⟩
  rw [← pW] at hxr
  have hxf := pW.symm
  have HXR := Ya.mk hxr
  have aVC : (t.dropWhile (Ycb [35]) = [] ∧ tf = ⟨#[]⟩ ∧ bf = false) ∨ (∃ u, t.dropWhile (Ycb [35]) = 35 :: u ∧ tf = ofL (Yoc Yug u) ∧ bf = true ∧ u.length ≤ t.length) := by
   have hdl := Yse (Ycb [35]) t
   cases hd : t.dropWhile (Ycb [35]) with
   | nil => rw [hd] at h2 h4; exact .inl ⟨rfl, h2, h4⟩
   | cons b u =>
    have := List.head?_dropWhile_not (Ycb [35]) t
    rw [hd] at this hdl
    simp only [List.head?_cons, Ycb, Bool.not_eq_true'] at this
    have hb : b = 35 := by simpa using this
    subst hb
    rw [hd] at h2 h4
    simp only [Yif, if_true] at h2 h4
    simp only [List.length_cons] at hdl
    exact .inr ⟨u, rfl, h2, h4, Zk⟩
  have H3 := Ya.mk h3
  have b1 : (1 : Int) ≤ ((n1 + 1 : Nat) : Int) := by omega
  have b2 : ((n1 + 1 : Nat) : Int) ≤ (x1.size : Int) := by omega
  have b3 : n1 + 1 ≤ x1.size := by omega
  have jB : ∀ h : 0 < x1.size, ((x1[0]'h).toNat : Int) = bt x1 0 := Yza x1 0
  have q4 := eq_true hx1s2
  have tR : (0 < (x1.size : Int)) = True := eq_true Zk
  have cB : decide (0 < (x1.size : Int)) = true := decide_eq_true Zk
  have fV : decide (0 < x1.size) = true := decide_eq_true hx1s2
  have e2 : (bt x1 0 == 63) = true := by rw [hbt]; rfl
  clear hbt hm hxs h1 h2 h3 h4 uM ht1 ht2 pW hxr hx1s pI hx1s2 hx1l
  have aVD := Ya.mk hbl
  have aXJ := Ya.mk hn1s
  clear hbl hn1s
  go_wp2_with fail
  refine (Yqa.calls k1 _ _ _ _ (HE.out.below dL.out) HU1.out).mono ?_
  rintro e w5' ⟨rfl, ⟨nd2, rfl⟩⟩
  have lL := Ya.mk (Yh uP.out nd2)
  have eA := Ya.mk (Yh yT.out nd2)
  have cK := Ya.mk (Yb dL.out nd2)
  obtain ⟨w5, hw⟩ : ∃ W, W = (w3.setCell ⟨w.heap.size, 3, none⟩ (.string path)).drewN nd2 := ⟨_, rfl⟩
  rw [← hw] at lL eA cK ⊢
  clear hw uP yT dL hcz hfz
  go_wp2_with fail
  refine (Ys.calls km _ _ _ _ (HE.out.below cK.out) HM.out).mono ?_
  rintro e w6 ⟨rfl, hb6⟩
  have BK6 := Ya.mk (Yra lL.out hb6)
  have BZ6 := Ya.mk (Yra eA.out hb6)
  have jD := Ya.mk (cK.out.trans (hb6.mono cK.out.size))
  clear hb6
  have hcy := (Yf BK6.out 6).trans rfl
  have hfy := Ye BK6.out 6
  have oZ := Ya.mk (Yna BK6.out 6 (.bool true) rfl)
  have BZ7 := Ya.mk (Yub BZ6.out (p := ⟨w.heap.size, 6, none⟩) Zv (.bool true))
  have HB7 := Ya.mk (Yg (j := 6) (v := .bool true) jD.out (Nat.le_refl _))
  have hcx := (Yf oZ.out 4).trans rfl
  have hfx := Ye oZ.out 4
  have BK8 := Ya.mk (Yna oZ.out 4 (.string tq) rfl)
  have BZ8 := Ya.mk (Yub BZ7.out (p := ⟨w.heap.size, 4, none⟩) Zv (.string tq))
  have HB8 := Ya.mk (Yg (j := 4) (v := .string tq) HB7.out (Nat.le_refl _))
  have h3 := H3.out
  subst h3
  rcases aVC with ⟨hd, rfl, rfl⟩ | ⟨u, hd, htf, rfl, hul⟩
  ·have f1 : (x2.toList != ([] : List UInt8)) = false := by rw [Lib.toList_data, HXR.out, hd]; rfl
   have f0 : (x2.toList == ([] : List UInt8)) = true := by rw [Lib.toList_data, HXR.out, hd]; rfl
   clear hd
   have cW := (Yf BK8.out 0).trans rfl
   have cR := (Yf BK8.out 1).trans rfl
   have cV := (Yf BK8.out 2).trans rfl
   have dA := (Yf BK8.out 3).trans rfl
   have cZ := (Yf BK8.out 4).trans rfl
   have cY := (Yf BK8.out 5).trans rfl
   have dB := (Yf BK8.out 6).trans rfl
   have cX := (Yf BK8.out 7).trans rfl
   go_wp2_with (refine wpList_store_row rfl 25 (.tmp 4) (.tmp 48) rfl (w.heap.size + 1) (uc s h p path tq ⟨#[]⟩ true false) rfl rfl 25 _ BZ8.out bG rfl (Yrb _ _ _ _ _ _ _ _) ?_)
   refine bodyPost_ret (results_cell_row rfl _ _ (w.heap.size + 1) 25 (uc s h p path tq ⟨#[]⟩ true false) (0, 0) _ rfl (setRow_heap _ _ _ _ _ _ BZ8.out) bQ rfl bG) rfl ?_
   exact ⟨rfl, below_setRow HB8.out Zk _⟩
  ·have f1 : (x2.toList != ([] : List UInt8)) = true := by rw [Lib.toList_data, HXR.out, hd]; rfl
   have f0 : (x2.toList == ([] : List UInt8)) = false := by rw [Lib.toList_data, HXR.out, hd]; rfl
   have hx2l : x2.size = u.length + 1 := by rw [Lib.size_eq, HXR.out, hd]; simp
   have b5 : (1 : Int) ≤ (x2.size : Int) := by omega
   have hys : x2.extract 1 x2.size = ofL u := by rw [Yuc, HXR.out, hd]; rfl
   obtain ⟨kf, hm⟩ := Yxj (ofL u) ⟨#[96]⟩ (by rw [Yx]; have := aVD.out; omega) Zda
   have HM2 := Ya.mk (show Ys.f kf (x2.extract 1 x2.size) ⟨#[96]⟩ = some tf from by rw [hys, htf]; exact hm kf (Nat.le_refl _))
   clear hm hys htf hd hul hx2l
   go_wp2_with fail
   refine (Ys.calls kf _ _ _ _ (HE.out.below HB8.out) HM2.out).mono ?_
   rintro e w9 ⟨rfl, hb9⟩
   have BK9 := Ya.mk (Yra BK8.out hb9)
   have BZ9 := Ya.mk (Yra BZ8.out hb9)
   have HB9 := Ya.mk (HB8.out.trans (hb9.mono HB8.out.size))
   clear hcy hfy hcx hfx hb9
   have hcy := (Yf BK9.out 7).trans rfl
   have hfy := Ye BK9.out 7
   have BKa := Ya.mk (Yna BK9.out 7 (.bool true) rfl)
   have BZa := Ya.mk (Yub BZ9.out (p := ⟨w.heap.size, 7, none⟩) Zv (.bool true))
   have HBa := Ya.mk (Yg (j := 7) (v := .bool true) HB9.out (Nat.le_refl _))
   have hcx := (Yf BKa.out 5).trans rfl
   have hfx := Ye BKa.out 5
   have BKb := Ya.mk (Yna BKa.out 5 (.string tf) rfl)
   have BZb := Ya.mk (Yub BZa.out (p := ⟨w.heap.size, 5, none⟩) Zv (.string tf))
   have HBb := Ya.mk (Yg (j := 5) (v := .string tf) HBa.out (Nat.le_refl _))
   have cW := (Yf BKb.out 0).trans rfl
   have cR := (Yf BKb.out 1).trans rfl
   have cV := (Yf BKb.out 2).trans rfl
   have dA := (Yf BKb.out 3).trans rfl
   have cZ := (Yf BKb.out 4).trans rfl
   have cY := (Yf BKb.out 5).trans rfl
   have dB := (Yf BKb.out 6).trans rfl
   have cX := (Yf BKb.out 7).trans rfl
   go_wp2_with (refine wpList_store_row rfl 25 (.tmp 4) (.tmp 48) rfl (w.heap.size + 1) (uc s h p path tq tf true true) rfl rfl 25 _ BZb.out bG rfl (Yrb _ _ _ _ _ _ _ _) ?_)
   refine bodyPost_ret (results_cell_row rfl _ _ (w.heap.size + 1) 25 (uc s h p path tq tf true true) (0, 0) _ rfl (setRow_heap _ _ _ _ _ _ BZb.out) bQ rfl bG) rfl ?_
   exact ⟨rfl, below_setRow HBb.out Zk _⟩
 ·obtain ⟨h1, h2, h3, h4⟩ := HT.out
  simp only [Ywe, Ygb, Yif, show ¬ (35 : UInt8) = 63 from by decide, if_false, if_true] at h1 h2 h3 h4
  have e1 : (x1.toList != ([] : List UInt8)) = true := by rw [Lib.toList_data, HXD.out]; rfl
  have e0 : (x1.toList == ([] : List UInt8)) = false := by rw [Lib.toList_data, HXD.out]; rfl
  have hx1s2 : 0 < x1.size := by rw [hx1s]; simp
  clear hx1s
  have hbt : bt x1 0 = 35 := (Yvc x1 0 35 t HXD.out).2.1
  have jB : ∀ h : 0 < x1.size, ((x1[0]'h).toNat : Int) = bt x1 0 := Yza x1 0
  have q4 := eq_true hx1s2
  have tR : (0 < (x1.size : Int)) = True := eq_true Zk
  have cB : decide (0 < (x1.size : Int)) = true := decide_eq_true Zk
  have fV : decide (0 < x1.size) = true := decide_eq_true hx1s2
  have e2 : (bt x1 0 == 63) = false := by rw [hbt]; rfl
  clear hbt
  have hxs : x1.extract 1 x1.size = ofL t := by rw [Yuc, HXD.out]; rfl
  obtain ⟨km, hm⟩ := Yxj (ofL t) ⟨#[96]⟩ (by rw [Yx]; simp only [List.length_cons] at hbl; omega) Zda
  have HM := Ya.mk (show Ys.f km (x1.extract 1 x1.size) ⟨#[96]⟩ = some tf from by rw [hxs, h2]; exact hm km (Nat.le_refl _))
  clear hm hxs hbl h2
  have b1 : (1 : Int) ≤ (x1.size : Int) := by omega
  go_wp2_with fail
  refine (Ys.calls km _ _ _ _ (HE.out.below dL.out) HM.out).mono ?_
  rintro e w5 ⟨rfl, hb5⟩
  have lL := Ya.mk (Yra uP.out hb5)
  have eA := Ya.mk (Yra yT.out hb5)
  have cK := Ya.mk (dL.out.trans (hb5.mono dL.out.size))
  clear hcz hfz
  have hcy := (Yf lL.out 7).trans rfl
  have hfy := Ye lL.out 7
  have BK6 := Ya.mk (Yna lL.out 7 (.bool true) rfl)
  have BZ6 := Ya.mk (Yub eA.out (p := ⟨w.heap.size, 7, none⟩) Zv (.bool true))
  have jD := Ya.mk (Yg (j := 7) (v := .bool true) cK.out (Nat.le_refl _))
  have hcx := (Yf BK6.out 5).trans rfl
  have hfx := Ye BK6.out 5
  have oZ := Ya.mk (Yna BK6.out 5 (.string tf) rfl)
  have BZ7 := Ya.mk (Yub BZ6.out (p := ⟨w.heap.size, 5, none⟩) Zv (.string tf))
  have HB7 := Ya.mk (Yg (j := 5) (v := .string tf) jD.out (Nat.le_refl _))
  subst h1 h3 h4
  have cW := (Yf oZ.out 0).trans rfl
  have cR := (Yf oZ.out 1).trans rfl
  have cV := (Yf oZ.out 2).trans rfl
  have dA := (Yf oZ.out 3).trans rfl
  have cZ := (Yf oZ.out 4).trans rfl
  have cY := (Yf oZ.out 5).trans rfl
  have dB := (Yf oZ.out 6).trans rfl
  have cX := (Yf oZ.out 7).trans rfl
  go_wp2_with (refine wpList_store_row rfl 25 (.tmp 4) (.tmp 48) rfl (w.heap.size + 1) (uc s h p path ⟨#[]⟩ tf false true) rfl rfl 25 _ BZ7.out bG rfl (Yrb _ _ _ _ _ _ _ _) ?_)
  refine bodyPost_ret (results_cell_row rfl _ _ (w.heap.size + 1) 25 (uc s h p path ⟨#[]⟩ tf false true) (0, 0) _ rfl (setRow_heap _ _ _ _ _ _ BZ7.out) bQ rfl bG) rfl ?_
  exact ⟨rfl, below_setRow HB7.out Zk _⟩
theorem Yxb.calls (aE aJ : ByteArray) (aN : Int) (aG aM aK : ByteArray) (aU aV : Bool) (a1 r1 r2 : ByteArray) (r3 : Int) (r4 r5 r6 : ByteArray) (r7 r8 : Bool) (w : World) (hE : EnvOk w) (h : Yxb.f aE aJ aN aG aM aK aU aV a1 = some (r1, r2, r3, r4, r5, r6, r7, r8)) :
  Calls Tryz.prog 18 #[.agg #[.string aE, .string aJ, .int .i64 aN, .string aG, .string aM, .string aK, .bool aU, .bool aV], .string a1] w fun e w' => e = .returned (.agg #[.string r1, .string r2, .int .i64 r3, .string r4, .string r5, .string r6, .bool r7, .bool r8]) ∧ Below w.heap.size w w' := by
 unfold Yxb.f at h
 by_cases hs : a1.size ≤ 30000000
 ·rw [if_pos hs] at h
  simp only [Option.some.injEq, Prod.mk.injEq] at h
  obtain ⟨rfl, rfl, rfl, rfl, rfl, rfl, rfl, rfl⟩ := h
  exact Ynt aE aJ aN aG aM aK aU aV a1 w hE hs
 ·rw [if_neg hs] at h; cases h
end Go.Proofs.YtnmglnglbdpjjaaGreatDoor.X
