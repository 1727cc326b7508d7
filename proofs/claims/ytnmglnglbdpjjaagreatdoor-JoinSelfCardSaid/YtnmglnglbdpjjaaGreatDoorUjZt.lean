/- The document's Tail: what stands behind a place. -/
import Derived.Test.YtnmglnglbdpjjaaGreatDoorUjWords
import Derived.Test.YtnmglnglbdpjjaaGreatDoorUjZp
import Derived.Test.YtnmglnglbdpjjaaGreatDoorUjH5
namespace Go.Proofs.YtnmglnglbdpjjaaGreatDoor.X
open Go.RowKit Go.Lib Go.Shelf Go.Yw.PrintWords Go.Yw.PrintLast Go.Yw.PrintMore
set_option linter.unusedVariables false
set_option linter.unusedSimpArgs false
abbrev uc (u1 u2 : ByteArray) (u3 : Int) (u4 u5 u6 : ByteArray) (u7 u8 : Bool) : Array Value := #[.string u1, .string u2, .int .i64 u3, .string u4, .string u5, .string u6, .bool u7, .bool u8]
theorem Yif (w : World) (o : Obj) : (w.alloc o).heap.size = w.heap.size + 1 := by simp
def Ywe.f (a0_0 a0_1 : ByteArray) (a0_2 : Int) (a0_3 a0_4 a0_5 : ByteArray) (a0_6 a0_7 : Bool) (a1 : ByteArray) : Option (ByteArray × ByteArray × Int × ByteArray × ByteArray × ByteArray × Bool × Bool) :=
 if a1.size ≤ 30000000 then some (a0_0, a0_1, a0_2, Ydd a1.data.toList, Yac a1.data.toList, Ylc a1.data.toList, Yvc a1.data.toList, Yqc a1.data.toList) else none
set_option maxHeartbeats 8000000 in
set_option maxRecDepth 100000 in
theorem Yhu (s h : ByteArray) (p : Int) (o3 o4 o5 : ByteArray) (o6 o7 : Bool) (a1 : ByteArray) (w : World) (hE : EnvOk w) (hs : a1.size ≤ 30000000) :
  Calls Tryz.prog 18 #[.agg (uc s h p o3 o4 o5 o6 o7), .string a1] w fun e w' => e = .returned (.agg (uc s h p (Ydd a1.data.toList) (Yac a1.data.toList) (Ylc a1.data.toList) (Yvc a1.data.toList) (Yqc a1.data.toList))) ∧ Below w.heap.size w w' := by
 have HE := Ya.mk hE
 have hu25 := Tryz.underlying25
 have hi25 : (Tryz.prog.info? 25).map (·.size) = some 8 := by kernel_rfl
 obtain ⟨n0, hn0⟩ : ∃ n, n = (Ypi a1.data.toList).length := ⟨_, rfl⟩
 have hn0s : n0 ≤ a1.size := by rw [hn0, Lib.size_eq]; exact Yls _
 obtain ⟨k0, hk0⟩ := Ygm a1 ⟨#[63, 35]⟩ Zl Zda
 have hu0 : Ypa.f k0 a1 ⟨#[63, 35]⟩ = some ((n0 : Nat) : Int) := by rw [hn0]; exact hk0 k0 (Nat.le_refl _)
 have hx0 : a1.extract 0 n0 = ofL (Ypi a1.data.toList) := by
  rw [Ype, hn0]; unfold Ypi
  congr 1
  have := List.take_left (l₁ := a1.data.toList.takeWhile (Yza [63, 35])) (l₂ := a1.data.toList.dropWhile (Yza [63, 35]))
  rw [List.takeWhile_append_dropWhile] at this; exact this
 have hx1 : a1.extract n0 a1.size = ofL (Yod a1.data.toList) := by
  rw [Yhd, hn0]; unfold Ypi Yod
  congr 1
  have := List.drop_left (l₁ := a1.data.toList.takeWhile (Yza [63, 35])) (l₂ := a1.data.toList.dropWhile (Yza [63, 35]))
  rw [List.takeWhile_append_dropWhile] at this; exact this
 have hp0 : Yxe.f (a1.extract 0 n0) = some (Ydd a1.data.toList) := by
  unfold Yxe.f
  rw [if_pos Zya, hx0, Yob]; rfl
 obtain ⟨bh, hbh⟩ : ∃ bh, bh = Yod a1.data.toList := ⟨_, rfl⟩
 obtain ⟨x1, hxd⟩ : ∃ x, x = a1.extract n0 a1.size := ⟨_, rfl⟩
 have hx1d : x1.data.toList = bh := by rw [hxd, hx1, hbh]; rfl
 have hbl : bh.length ≤ a1.size := by rw [hbh, Lib.size_eq]; exact Yrl _
 have hx1s : x1.size = bh.length := by rw [Lib.size_eq, hx1d]
 have hsh : bh = [] ∨ (∃ t, bh = 63 :: t) ∨ (∃ t, bh = 35 :: t) := by
  rw [hbh]; unfold Yod
  cases hd : a1.data.toList.dropWhile (Yza [63, 35]) with
  | nil => exact .inl rfl
  | cons b t =>
   have := List.head?_dropWhile_not (Yza [63, 35]) a1.data.toList
   rw [hd] at this
   simp only [List.head?_cons, Yza, Bool.not_eq_true'] at this
   have h2 : ¬ b = 63 → b = 35 := by simpa using this
   have h3 : b = 63 ∨ b = 35 := by
    by_cases hb : b = 63
    ·exact .inl hb
    ·exact .inr (h2 hb)
   rcases h3 with rfl | rfl
   ·exact .inr (.inl ⟨t, rfl⟩)
   ·exact .inr (.inr ⟨t, rfl⟩)
 have hT : Yac a1.data.toList = (match Yoe bh with | some q => ofL (Ydc Ygf q) | none => ⟨#[]⟩) ∧ Ylc a1.data.toList = (match Ycf (Ycb bh) with | some q => ofL (Ydc Ytf q) | none => ⟨#[]⟩) ∧ Yvc a1.data.toList = (match Yoe bh with | some _ => true | none => false) ∧ Yqc a1.data.toList = (match Ycf (Ycb bh) with | some _ => true | none => false) := by
  rw [hbh]; exact ⟨rfl, rfl, rfl, rfl⟩
 obtain ⟨path, hpath⟩ : ∃ x, x = Ydd a1.data.toList := ⟨_, rfl⟩
 obtain ⟨tq, htq⟩ : ∃ x, x = Yac a1.data.toList := ⟨_, rfl⟩
 obtain ⟨tf, htf⟩ : ∃ x, x = Ylc a1.data.toList := ⟨_, rfl⟩
 obtain ⟨bq, hbq⟩ : ∃ x, x = Yvc a1.data.toList := ⟨_, rfl⟩
 obtain ⟨bf, hbf⟩ : ∃ x, x = Yqc a1.data.toList := ⟨_, rfl⟩
 rw [← htq, ← htf, ← hbq, ← hbf] at hT
 rw [← hpath] at hp0
 rw [← hpath, ← htq, ← htf, ← hbq, ← hbf]
 have HU0 := Ya.mk hu0
 have HP0 := Ya.mk hp0
 have HT := Ya.mk hT
 have HXD := Ya.mk hx1d
 have hxe := hxd.symm
 clear hu0 hp0 hx0 hx1 hk0 hE hn0 hbh hxd hpath htq htf hbq hbf hT hx1d
 have hbkA := heap_alloc_new w (.cells (uc s h p o3 o4 o5 o6 o7) 25)
 have hbk := Ym hbkA (.cells urlZ 25)
 have HBA := Ya.mk ((Below.refl w.heap.size w).alloc (Nat.le_refl _) (.cells (uc s h p o3 o4 o5 o6 o7) 25))
 have HBB := Ya.mk (HBA.out.alloc HBA.out.size (.cells urlZ 25))
 have HZ := Ya.mk hbk
 have HZ4 := Ya.mk (heap_alloc_new (w.alloc (.cells (uc s h p o3 o4 o5 o6 o7) 25)) (.cells urlZ 25))
 have hc0 := (Yf hbk 0).trans rfl
 have hc1 := (Yf hbk 1).trans rfl
 have hc2 := (Yf hbk 2).trans rfl
 clear hbk hbkA
 go_enter Tryz.func18, Tryz.ntmps18
 go_wp2_with (refine wpList_store_row rfl 25 (.tmp 2) (.tmp 12) rfl w.heap.size (uc s h p ⟨#[]⟩ ⟨#[]⟩ ⟨#[]⟩ false false) rfl rfl 25 _ HZ.out hi25 rfl (Ypc _ _ _ _ _ _ _ _) ?_)
 have hsz2 : (w.alloc (.cells (uc s h p o3 o4 o5 o6 o7) 25)).heap.size = w.heap.size + 1 := Yif _ _
 rw [hsz2] at HZ4
 clear hsz2 hc0 hc1 hc2
 have BK1 := Ya.mk (setRow_heap _ _ _ (uc s h p ⟨#[]⟩ ⟨#[]⟩ ⟨#[]⟩ false false) _ _ HZ.out)
 have BZ1 := Ya.mk ((setRow_other _ w.heap.size (w.heap.size + 1) (uc s h p ⟨#[]⟩ ⟨#[]⟩ ⟨#[]⟩ false false) Zl).trans HZ4.out)
 have HB1 := Ya.mk (below_setRow HBB.out (Nat.le_refl _) (uc s h p ⟨#[]⟩ ⟨#[]⟩ ⟨#[]⟩ false false))
 clear HZ HZ4 HBA HBB
 obtain ⟨w1, hw⟩ : ∃ W, W = ((w.alloc (.cells (uc s h p o3 o4 o5 o6 o7) 25)).alloc (.cells urlZ 25)).setRow w.heap.size (uc s h p ⟨#[]⟩ ⟨#[]⟩ ⟨#[]⟩ false false) := ⟨_, rfl⟩
 rw [← hw] at BK1 BZ1 HB1 ⊢
 clear hw
 have HE1 := Ya.mk (HE.out.below HB1.out)
 refine (Ypa.calls k0 _ _ _ _ HE1.out HU0.out).mono ?_
 rintro e w2' ⟨rfl, ⟨nd, rfl⟩⟩
 have BK2 := Ya.mk (Yl BK1.out nd)
 have BZ2 := Ya.mk (Yl BZ1.out nd)
 have HB2 := Ya.mk (Yb HB1.out nd)
 obtain ⟨w2, hw⟩ : ∃ W, W = w1.drewN nd := ⟨_, rfl⟩
 rw [← hw] at BK2 BZ2 HB2 ⊢
 clear hw BK1 BZ1 HB1 HE1
 have HE2 := Ya.mk (HE.out.below HB2.out)
 go_wp2_with fail
 refine (Yxe.calls _ _ _ HE2.out HP0.out).mono ?_
 rintro e w3 ⟨rfl, hb3⟩
 have BK3 := Ya.mk (Yx BK2.out hb3)
 have BZ3 := Ya.mk (Yx BZ2.out hb3)
 have HB3 := Ya.mk (HB2.out.trans (hb3.mono HB2.out.size))
 have hcz := (Yf BK3.out 3).trans rfl
 have hfz := Ye BK3.out 3
 have BK4 := Ya.mk (Yma BK3.out 3 (.string path) rfl)
 have BZ4 := Ya.mk (Yvb BZ3.out (p := ⟨w.heap.size, 3, none⟩) Zv (.string path))
 have HB4 := Ya.mk (Yg (j := 3) (v := .string path) HB3.out (Nat.le_refl _))
 clear hb3 BK2 BZ2 HB2 HE2 BK3 BZ3 HB3
 rcases hsh with rfl | ⟨t, rfl⟩ | ⟨t, rfl⟩
 ·obtain ⟨h1, h2, h3, h4⟩ := HT.out
  simp only [Yoe, Ycb, Ycf] at h1 h2 h3 h4
  subst h1 h2 h3 h4
  have e1 : (x1.toList != ([] : List UInt8)) = false := by rw [Lib.toList_data, HXD.out]; rfl
  have e0 : (x1.toList == ([] : List UInt8)) = true := by rw [Lib.toList_data, HXD.out]; rfl
  clear hx1s hbl
  have hc0 := (Yf BK4.out 0).trans rfl
  have hc1 := (Yf BK4.out 1).trans rfl
  have hc2 := (Yf BK4.out 2).trans rfl
  have hc3 := (Yf BK4.out 3).trans rfl
  have hc4 := (Yf BK4.out 4).trans rfl
  have hc5 := (Yf BK4.out 5).trans rfl
  have hc6 := (Yf BK4.out 6).trans rfl
  have hc7 := (Yf BK4.out 7).trans rfl
  go_wp2_with (refine wpList_store_row rfl 25 (.tmp 4) (.tmp 48) rfl (w.heap.size + 1) (uc s h p path ⟨#[]⟩ ⟨#[]⟩ false false) rfl rfl 25 _ BZ4.out hi25 rfl (Ypc _ _ _ _ _ _ _ _) ?_)
  refine bodyPost_ret (results_cell_row rfl _ _ (w.heap.size + 1) 25 (uc s h p path ⟨#[]⟩ ⟨#[]⟩ false false) (0, 0) _ rfl (setRow_heap _ _ _ _ _ _ BZ4.out) hu25 rfl hi25) rfl ?_
  exact ⟨rfl, below_setRow HB4.out Zl _⟩
 ·obtain ⟨h1, h2, h3, h4⟩ := HT.out
  simp only [Yoe, Ycb, if_true] at h1 h2 h3 h4
  have e1 : (x1.toList != ([] : List UInt8)) = true := by rw [Lib.toList_data, HXD.out]; rfl
  have e0 : (x1.toList == ([] : List UInt8)) = false := by rw [Lib.toList_data, HXD.out]; rfl
  have hx1s2 : 0 < x1.size := by rw [hx1s]; simp
  have hx1l : x1.size = t.length + 1 := by rw [hx1s]; simp
  have hbt : bt x1 0 = 63 := (Yzc x1 0 63 t HXD.out).2.1
  obtain ⟨n1, hn1⟩ : ∃ n, n = (t.takeWhile (Yza [35])).length := ⟨_, rfl⟩
  have hn1s : n1 ≤ t.length := by rw [hn1]; exact Yle _ _
  have ht1 : (63 :: t).takeWhile (Yza [35]) = 63 :: t.takeWhile (Yza [35]) := by rw [List.takeWhile_cons_of_pos Zda]
  have ht2 : (63 :: t).dropWhile (Yza [35]) = t.dropWhile (Yza [35]) := by rw [List.dropWhile_cons_of_pos Zda]
  simp only [List.length_cons] at hbl
  obtain ⟨k1, hk1⟩ := Ygm x1 ⟨#[35]⟩ Zl Zda
  have HU1 := Ya.mk (show Ypa.f k1 x1 ⟨#[35]⟩ = some ((n1 + 1 : Nat) : Int) from by
   have h9 : Ypa.f k1 x1 ⟨#[35]⟩ = _ := hk1 k1 (Nat.le_refl _)
   rw [h9, HXD.out]
   show some ((((63 :: t).takeWhile (Yza [35])).length : Nat) : Int) = _
   rw [ht1, List.length_cons, hn1])
  have hxs : x1.extract 1 (n1 + 1) = ofL (t.takeWhile (Yza [35])) := by
   rw [Ybh, HXD.out, show n1 + 1 - 1 = n1 by omega, hn1]
   show ofL (t.take _) = _
   congr 1
   have := List.take_left (l₁ := t.takeWhile (Yza [35])) (l₂ := t.dropWhile (Yza [35]))
   rw [List.takeWhile_append_dropWhile] at this; exact this
  have hxr : (x1.extract (n1 + 1) x1.size).data.toList = t.dropWhile (Yza [35]) := by
   rw [Yhd, HXD.out, hn1, Yob]
   show t.drop _ = _
   have := List.drop_left (l₁ := t.takeWhile (Yza [35])) (l₂ := t.dropWhile (Yza [35]))
   rw [List.takeWhile_append_dropWhile] at this; exact this
  obtain ⟨km, hm⟩ := Yzj (ofL (t.takeWhile (Yza [35]))) ⟨#[35, 39]⟩ (by rw [Yda, ← hn1]; omega) Zda
  have HM := Ya.mk (show Yr.f km (x1.extract 1 (n1 + 1)) ⟨#[35, 39]⟩ = some tq from by rw [hxs, h1]; exact hm km (Nat.le_refl _))
  obtain ⟨x2, hx2⟩ : ∃ x, x = x1.extract (n1 + 1) x1.size := ⟨_, rfl⟩
  rw [← hx2] at hxr
  have hxf := hx2.symm
  have HXR := Ya.mk hxr
  have hsh2 : (t.dropWhile (Yza [35]) = [] ∧ tf = ⟨#[]⟩ ∧ bf = false) ∨ (∃ u, t.dropWhile (Yza [35]) = 35 :: u ∧ tf = ofL (Ydc Ytf u) ∧ bf = true ∧ u.length ≤ t.length) := by
   have hdl := Yne (Yza [35]) t
   cases hd : t.dropWhile (Yza [35]) with
   | nil => rw [hd] at h2 h4; exact .inl ⟨rfl, h2, h4⟩
   | cons b u =>
    have := List.head?_dropWhile_not (Yza [35]) t
    rw [hd] at this hdl
    simp only [List.head?_cons, Yza, Bool.not_eq_true'] at this
    have hb : b = 35 := by simpa using this
    subst hb
    rw [hd] at h2 h4
    simp only [Ycf, if_true] at h2 h4
    simp only [List.length_cons] at hdl
    exact .inr ⟨u, rfl, h2, h4, Zl⟩
  have H3 := Ya.mk h3
  have b1 : (1 : Int) ≤ ((n1 + 1 : Nat) : Int) := by omega
  have b2 : ((n1 + 1 : Nat) : Int) ≤ (x1.size : Int) := by omega
  have b3 : n1 + 1 ≤ x1.size := by omega
  have hx4 : ∀ h : 0 < x1.size, ((x1[0]'h).toNat : Int) = bt x1 0 := Yya x1 0
  have q4 := eq_true hx1s2
  have qi4 : (0 < (x1.size : Int)) = True := eq_true Zl
  have c3b0 : decide (0 < (x1.size : Int)) = true := decide_eq_true Zl
  have c3b1 : decide (0 < x1.size) = true := decide_eq_true hx1s2
  have e2 : (bt x1 0 == 63) = true := by rw [hbt]; rfl
  clear hbt hm hxs h1 h2 h3 h4 hk1 ht1 ht2 hx2 hxr hx1s hn1 hx1s2 hx1l
  have hbl2 := Ya.mk hbl
  have hnl2 := Ya.mk hn1s
  clear hbl hn1s
  go_wp2_with fail
  refine (Ypa.calls k1 _ _ _ _ (HE.out.below HB4.out) HU1.out).mono ?_
  rintro e w5' ⟨rfl, ⟨nd2, rfl⟩⟩
  have BK5 := Ya.mk (Yl BK4.out nd2)
  have BZ5 := Ya.mk (Yl BZ4.out nd2)
  have HB5 := Ya.mk (Yb HB4.out nd2)
  obtain ⟨w5, hw⟩ : ∃ W, W = (w3.setCell ⟨w.heap.size, 3, none⟩ (.string path)).drewN nd2 := ⟨_, rfl⟩
  rw [← hw] at BK5 BZ5 HB5 ⊢
  clear hw BK4 BZ4 HB4 hcz hfz
  go_wp2_with fail
  refine (Yr.calls km _ _ _ _ (HE.out.below HB5.out) HM.out).mono ?_
  rintro e w6 ⟨rfl, hb6⟩
  have BK6 := Ya.mk (Yx BK5.out hb6)
  have BZ6 := Ya.mk (Yx BZ5.out hb6)
  have HB6 := Ya.mk (HB5.out.trans (hb6.mono HB5.out.size))
  clear hb6
  have hcy := (Yf BK6.out 6).trans rfl
  have hfy := Ye BK6.out 6
  have BK7 := Ya.mk (Yma BK6.out 6 (.bool true) rfl)
  have BZ7 := Ya.mk (Yvb BZ6.out (p := ⟨w.heap.size, 6, none⟩) Zv (.bool true))
  have HB7 := Ya.mk (Yg (j := 6) (v := .bool true) HB6.out (Nat.le_refl _))
  have hcx := (Yf BK7.out 4).trans rfl
  have hfx := Ye BK7.out 4
  have BK8 := Ya.mk (Yma BK7.out 4 (.string tq) rfl)
  have BZ8 := Ya.mk (Yvb BZ7.out (p := ⟨w.heap.size, 4, none⟩) Zv (.string tq))
  have HB8 := Ya.mk (Yg (j := 4) (v := .string tq) HB7.out (Nat.le_refl _))
  have h3 := H3.out
  subst h3
  rcases hsh2 with ⟨hd, rfl, rfl⟩ | ⟨u, hd, htf, rfl, hul⟩
  ·have f1 : (x2.toList != ([] : List UInt8)) = false := by rw [Lib.toList_data, HXR.out, hd]; rfl
   have f0 : (x2.toList == ([] : List UInt8)) = true := by rw [Lib.toList_data, HXR.out, hd]; rfl
   clear hd
   have hc0 := (Yf BK8.out 0).trans rfl
   have hc1 := (Yf BK8.out 1).trans rfl
   have hc2 := (Yf BK8.out 2).trans rfl
   have hc3 := (Yf BK8.out 3).trans rfl
   have hc4 := (Yf BK8.out 4).trans rfl
   have hc5 := (Yf BK8.out 5).trans rfl
   have hc6 := (Yf BK8.out 6).trans rfl
   have hc7 := (Yf BK8.out 7).trans rfl
   go_wp2_with (refine wpList_store_row rfl 25 (.tmp 4) (.tmp 48) rfl (w.heap.size + 1) (uc s h p path tq ⟨#[]⟩ true false) rfl rfl 25 _ BZ8.out hi25 rfl (Ypc _ _ _ _ _ _ _ _) ?_)
   refine bodyPost_ret (results_cell_row rfl _ _ (w.heap.size + 1) 25 (uc s h p path tq ⟨#[]⟩ true false) (0, 0) _ rfl (setRow_heap _ _ _ _ _ _ BZ8.out) hu25 rfl hi25) rfl ?_
   exact ⟨rfl, below_setRow HB8.out Zl _⟩
  ·have f1 : (x2.toList != ([] : List UInt8)) = true := by rw [Lib.toList_data, HXR.out, hd]; rfl
   have f0 : (x2.toList == ([] : List UInt8)) = false := by rw [Lib.toList_data, HXR.out, hd]; rfl
   have hx2l : x2.size = u.length + 1 := by rw [Lib.size_eq, HXR.out, hd]; simp
   have b5 : (1 : Int) ≤ (x2.size : Int) := by omega
   have hys : x2.extract 1 x2.size = ofL u := by rw [Yhd, HXR.out, hd]; rfl
   obtain ⟨kf, hm⟩ := Yzj (ofL u) ⟨#[96]⟩ (by rw [Yda]; have := hbl2.out; omega) Zda
   have HM2 := Ya.mk (show Yr.f kf (x2.extract 1 x2.size) ⟨#[96]⟩ = some tf from by rw [hys, htf]; exact hm kf (Nat.le_refl _))
   clear hm hys htf hd hul hx2l
   go_wp2_with fail
   refine (Yr.calls kf _ _ _ _ (HE.out.below HB8.out) HM2.out).mono ?_
   rintro e w9 ⟨rfl, hb9⟩
   have BK9 := Ya.mk (Yx BK8.out hb9)
   have BZ9 := Ya.mk (Yx BZ8.out hb9)
   have HB9 := Ya.mk (HB8.out.trans (hb9.mono HB8.out.size))
   clear hcy hfy hcx hfx hb9
   have hcy := (Yf BK9.out 7).trans rfl
   have hfy := Ye BK9.out 7
   have BKa := Ya.mk (Yma BK9.out 7 (.bool true) rfl)
   have BZa := Ya.mk (Yvb BZ9.out (p := ⟨w.heap.size, 7, none⟩) Zv (.bool true))
   have HBa := Ya.mk (Yg (j := 7) (v := .bool true) HB9.out (Nat.le_refl _))
   have hcx := (Yf BKa.out 5).trans rfl
   have hfx := Ye BKa.out 5
   have BKb := Ya.mk (Yma BKa.out 5 (.string tf) rfl)
   have BZb := Ya.mk (Yvb BZa.out (p := ⟨w.heap.size, 5, none⟩) Zv (.string tf))
   have HBb := Ya.mk (Yg (j := 5) (v := .string tf) HBa.out (Nat.le_refl _))
   have hc0 := (Yf BKb.out 0).trans rfl
   have hc1 := (Yf BKb.out 1).trans rfl
   have hc2 := (Yf BKb.out 2).trans rfl
   have hc3 := (Yf BKb.out 3).trans rfl
   have hc4 := (Yf BKb.out 4).trans rfl
   have hc5 := (Yf BKb.out 5).trans rfl
   have hc6 := (Yf BKb.out 6).trans rfl
   have hc7 := (Yf BKb.out 7).trans rfl
   go_wp2_with (refine wpList_store_row rfl 25 (.tmp 4) (.tmp 48) rfl (w.heap.size + 1) (uc s h p path tq tf true true) rfl rfl 25 _ BZb.out hi25 rfl (Ypc _ _ _ _ _ _ _ _) ?_)
   refine bodyPost_ret (results_cell_row rfl _ _ (w.heap.size + 1) 25 (uc s h p path tq tf true true) (0, 0) _ rfl (setRow_heap _ _ _ _ _ _ BZb.out) hu25 rfl hi25) rfl ?_
   exact ⟨rfl, below_setRow HBb.out Zl _⟩
 ·obtain ⟨h1, h2, h3, h4⟩ := HT.out
  simp only [Yoe, Ycb, Ycf, show ¬ (35 : UInt8) = 63 from by decide, if_false, if_true] at h1 h2 h3 h4
  have e1 : (x1.toList != ([] : List UInt8)) = true := by rw [Lib.toList_data, HXD.out]; rfl
  have e0 : (x1.toList == ([] : List UInt8)) = false := by rw [Lib.toList_data, HXD.out]; rfl
  have hx1s2 : 0 < x1.size := by rw [hx1s]; simp
  clear hx1s
  have hbt : bt x1 0 = 35 := (Yzc x1 0 35 t HXD.out).2.1
  have hx4 : ∀ h : 0 < x1.size, ((x1[0]'h).toNat : Int) = bt x1 0 := Yya x1 0
  have q4 := eq_true hx1s2
  have qi4 : (0 < (x1.size : Int)) = True := eq_true Zl
  have c3b0 : decide (0 < (x1.size : Int)) = true := decide_eq_true Zl
  have c3b1 : decide (0 < x1.size) = true := decide_eq_true hx1s2
  have e2 : (bt x1 0 == 63) = false := by rw [hbt]; rfl
  clear hbt
  have hxs : x1.extract 1 x1.size = ofL t := by rw [Yhd, HXD.out]; rfl
  obtain ⟨km, hm⟩ := Yzj (ofL t) ⟨#[96]⟩ (by rw [Yda]; simp only [List.length_cons] at hbl; omega) Zda
  have HM := Ya.mk (show Yr.f km (x1.extract 1 x1.size) ⟨#[96]⟩ = some tf from by rw [hxs, h2]; exact hm km (Nat.le_refl _))
  clear hm hxs hbl h2
  have b1 : (1 : Int) ≤ (x1.size : Int) := by omega
  go_wp2_with fail
  refine (Yr.calls km _ _ _ _ (HE.out.below HB4.out) HM.out).mono ?_
  rintro e w5 ⟨rfl, hb5⟩
  have BK5 := Ya.mk (Yx BK4.out hb5)
  have BZ5 := Ya.mk (Yx BZ4.out hb5)
  have HB5 := Ya.mk (HB4.out.trans (hb5.mono HB4.out.size))
  clear hcz hfz
  have hcy := (Yf BK5.out 7).trans rfl
  have hfy := Ye BK5.out 7
  have BK6 := Ya.mk (Yma BK5.out 7 (.bool true) rfl)
  have BZ6 := Ya.mk (Yvb BZ5.out (p := ⟨w.heap.size, 7, none⟩) Zv (.bool true))
  have HB6 := Ya.mk (Yg (j := 7) (v := .bool true) HB5.out (Nat.le_refl _))
  have hcx := (Yf BK6.out 5).trans rfl
  have hfx := Ye BK6.out 5
  have BK7 := Ya.mk (Yma BK6.out 5 (.string tf) rfl)
  have BZ7 := Ya.mk (Yvb BZ6.out (p := ⟨w.heap.size, 5, none⟩) Zv (.string tf))
  have HB7 := Ya.mk (Yg (j := 5) (v := .string tf) HB6.out (Nat.le_refl _))
  subst h1 h3 h4
  have hc0 := (Yf BK7.out 0).trans rfl
  have hc1 := (Yf BK7.out 1).trans rfl
  have hc2 := (Yf BK7.out 2).trans rfl
  have hc3 := (Yf BK7.out 3).trans rfl
  have hc4 := (Yf BK7.out 4).trans rfl
  have hc5 := (Yf BK7.out 5).trans rfl
  have hc6 := (Yf BK7.out 6).trans rfl
  have hc7 := (Yf BK7.out 7).trans rfl
  go_wp2_with (refine wpList_store_row rfl 25 (.tmp 4) (.tmp 48) rfl (w.heap.size + 1) (uc s h p path ⟨#[]⟩ tf false true) rfl rfl 25 _ BZ7.out hi25 rfl (Ypc _ _ _ _ _ _ _ _) ?_)
  refine bodyPost_ret (results_cell_row rfl _ _ (w.heap.size + 1) 25 (uc s h p path ⟨#[]⟩ tf false true) (0, 0) _ rfl (setRow_heap _ _ _ _ _ _ BZ7.out) hu25 rfl hi25) rfl ?_
  exact ⟨rfl, below_setRow HB7.out Zl _⟩
theorem Ywe.calls (a0_0 a0_1 : ByteArray) (a0_2 : Int) (a0_3 a0_4 a0_5 : ByteArray) (a0_6 a0_7 : Bool) (a1 : ByteArray) (r1 r2 : ByteArray) (r3 : Int) (r4 r5 r6 : ByteArray) (r7 r8 : Bool) (w : World) (hE : EnvOk w) (h : Ywe.f a0_0 a0_1 a0_2 a0_3 a0_4 a0_5 a0_6 a0_7 a1 = some (r1, r2, r3, r4, r5, r6, r7, r8)) :
  Calls Tryz.prog 18 #[.agg #[.string a0_0, .string a0_1, .int .i64 a0_2, .string a0_3, .string a0_4, .string a0_5, .bool a0_6, .bool a0_7], .string a1] w fun e w' => e = .returned (.agg #[.string r1, .string r2, .int .i64 r3, .string r4, .string r5, .string r6, .bool r7, .bool r8]) ∧ Below w.heap.size w w' := by
 unfold Ywe.f at h
 by_cases hs : a1.size ≤ 30000000
 ·rw [if_pos hs] at h
  simp only [Option.some.injEq, Prod.mk.injEq] at h
  obtain ⟨rfl, rfl, rfl, rfl, rfl, rfl, rfl, rfl⟩ := h
  exact Yhu a0_0 a0_1 a0_2 a0_3 a0_4 a0_5 a0_6 a0_7 a1 w hE hs
 ·rw [if_neg hs] at h; cases h
end Go.Proofs.YtnmglnglbdpjjaaGreatDoor.X
