import Derived.Test.YtihaeeldgimdiaaGreatDoorIUZp
set_option linter.all false
namespace Go.Proofs.YtihaeeldgimdiaaGreatDoor.X
open Go.RowKit Go.Lib Go.Shelf Go.Yw.PrintWords Go.Yw.PrintLast Go.Yw.PrintMore
abbrev uc (u1 u2 : Y) (u3 : Int) (u4 u5 u6 : Y) (u7 u8 : Bool) : Array Value := #[.string u1, .string u2, .int .i64 u3, .string u4, .string u5, .string u6, .bool u7, .bool u8]
theorem Yon (w : World) (o : Obj) : (w.alloc o).heap.size = w.heap.size + 1 := by simp
def Yee.f (aM aQ : Y) (aW : Int) (aR aV aX : Y) (bB bD : Bool) (a1 : Y) : Option (Y × Y × Int × Y × Y × Y × Bool × Bool) :=
 if a1.size ≤ 30000000 then some (aM, aQ, aW, Yie a1.data.toList, Ypd a1.data.toList, Yje a1.data.toList, Ybf a1.data.toList, Yve a1.data.toList) else none
set_option maxHeartbeats 8000000 in
set_option maxRecDepth 100000 in
theorem Yws (s h : Y) (p : Int) (o3 o4 o5 : Y) (o6 o7 : Bool) (a1 : Y) (w : World) (hE : EnvOk w) (hs : a1.size ≤ 30000000) :
  Calls Tryz.prog 37 #[.agg (uc s h p o3 o4 o5 o6 o7), .string a1] w fun e w' => e = .returned (.agg (uc s h p (Yie a1.data.toList) (Ypd a1.data.toList) (Yje a1.data.toList) (Ybf a1.data.toList) (Yve a1.data.toList))) ∧ Below w.heap.size w w' := by
 have HE := Ya.mk hE
 have cV := Tryz.underlying46
 have bJ : (Tryz.prog.info? 46).map (·.size) = some 8 := by kernel_rfl
 obtain ⟨n0, uC⟩ : ∃ n, n = (Ykj a1.data.toList).length := ⟨_, rfl⟩
 have hn0s : n0 ≤ a1.size := by rw [uC, Lib.size_eq]; exact Ywr _
 obtain ⟨k0, hk0⟩ := Yvl a1 ⟨#[63, 35]⟩ Zj Zw
 have hu0 : Yia.f k0 a1 ⟨#[63, 35]⟩ = some ((n0 : Nat) : Int) := by rw [uC]; exact hk0 k0 (Ks _)
 have hx0 : a1.extract 0 n0 = ofL (Ykj a1.data.toList) := by
  rw [Yxe, uC]; unfold Ykj
  congr 1
  have := List.take_left (l₁ := a1.data.toList.takeWhile (Yza [63, 35])) (l₂ := a1.data.toList.dropWhile (Yza [63, 35]))
  rw [List.takeWhile_append_dropWhile] at this; exact this
 have uN : a1.extract n0 a1.size = ofL (Yce a1.data.toList) := by
  rw [Ytc, uC]; unfold Ykj Yce
  congr 1
  have := List.drop_left (l₁ := a1.data.toList.takeWhile (Yza [63, 35])) (l₂ := a1.data.toList.dropWhile (Yza [63, 35]))
  rw [List.takeWhile_append_dropWhile] at this; exact this
 have hp0 : Yde.f (a1.extract 0 n0) = some (Yie a1.data.toList) := by
  unfold Yde.f
  rw [if_pos Zoa, hx0, Ytb]; rfl
 obtain ⟨bh, hbh⟩ : ∃ bh, bh = Yce a1.data.toList := ⟨_, rfl⟩
 obtain ⟨x1, hxd⟩ : ∃ x, x = a1.extract n0 a1.size := ⟨_, rfl⟩
 have hx1d : x1.data.toList = bh := by rw [hxd, uN, hbh]; rfl
 have hbl : bh.length ≤ a1.size := by rw [hbh, Lib.size_eq]; exact Ydl _
 have hx1s : x1.size = bh.length := by rw [Lib.size_eq, hx1d]
 have hsh : bh = [] ∨ (∃ t, bh = 63 :: t) ∨ (∃ t, bh = 35 :: t) := by
  rw [hbh]; unfold Yce
  cases hd : a1.data.toList.dropWhile (Yza [63, 35]) with
  | nil => exact .inl rfl
  | cons b t =>
   have := List.head?_dropWhile_not (Yza [63, 35]) a1.data.toList
   rw [hd] at this
   simp only [List.head?_cons, Yza, Bool.not_eq_true'] at this
   have h2 : ¬ b = 63 → b = 35 := by simpa using this
   have h3 : b = 63 ∨ b = 35 := by
    by_cases hb : b = 63
    ·exact .inl hb
    ·exact .inr (h2 hb)
   rcases h3 with rfl | rfl
   ·exact .inr (.inl ⟨t, rfl⟩)
   ·exact .inr (.inr ⟨t, rfl⟩)
 have hT : Ypd a1.data.toList = (match Ydf bh with | some q => ofL (Ydd Yvj q) | none => ⟨#[]⟩) ∧ Yje a1.data.toList = (match Ypf (Ybb bh) with | some q => ofL (Ydd Yhj q) | none => ⟨#[]⟩) ∧ Ybf a1.data.toList = (match Ydf bh with | some _ => true | none => false) ∧ Yve a1.data.toList = (match Ypf (Ybb bh) with | some _ => true | none => false) := by
  rw [hbh]; exact ⟨rfl, rfl, rfl, rfl⟩
 obtain ⟨path, hpath⟩ : ∃ x, x = Yie a1.data.toList := ⟨_, rfl⟩
 obtain ⟨tq, htq⟩ : ∃ x, x = Ypd a1.data.toList := ⟨_, rfl⟩
 obtain ⟨tf, htf⟩ : ∃ x, x = Yje a1.data.toList := ⟨_, rfl⟩
 obtain ⟨bq, hbq⟩ : ∃ x, x = Ybf a1.data.toList := ⟨_, rfl⟩
 obtain ⟨bf, hbf⟩ : ∃ x, x = Yve a1.data.toList := ⟨_, rfl⟩
 rw [← htq, ← htf, ← hbq, ← hbf] at hT
 rw [← hpath] at hp0
 rw [← hpath, ← htq, ← htf, ← hbq, ← hbf]
 have HU0 := Ya.mk hu0
 have HP0 := Ya.mk hp0
 have HT := Ya.mk hT
 have HXD := Ya.mk hx1d
 have hxe := hxd.symm
 clear hu0 hp0 hx0 uN hk0 hE uC hbh hxd hpath htq htf hbq hbf hT hx1d
 have hbkA := heap_alloc_new w (.cells (uc s h p o3 o4 o5 o6 o7) 46)
 have hbk := Yja hbkA (.cells urlZ 46)
 have HBA := Ya.mk ((Below.refl w.heap.size w).alloc (Ks _) (.cells (uc s h p o3 o4 o5 o6 o7) 46))
 have HBB := Ya.mk (HBA.out.alloc HBA.out.size (.cells urlZ 46))
 have HZ := Ya.mk hbk
 have HZ4 := Ya.mk (heap_alloc_new (w.alloc (.cells (uc s h p o3 o4 o5 o6 o7) 46)) (.cells urlZ 46))
 have eE := (Yf hbk 0).trans rfl
 have fL := (Yf hbk 1).trans rfl
 have gU := (Yf hbk 2).trans rfl
 clear hbk hbkA
 go_enter Tryz.func37, Tryz.ntmps37
 go_wp2_with (refine wpList_store_row rfl 46 (.tmp 2) (.tmp 12) rfl w.heap.size (uc s h p ⟨#[]⟩ ⟨#[]⟩ ⟨#[]⟩ false false) rfl rfl 46 _ HZ.out bJ rfl (Yqc _ _ _ _ _ _ _ _) ?_)
 have aMO : (w.alloc (.cells (uc s h p o3 o4 o5 o6 o7) 46)).heap.size = w.heap.size + 1 := Yon _ _
 rw [aMO] at HZ4
 clear aMO eE fL gU
 have BK1 := Ya.mk (setRow_heap _ _ _ (uc s h p ⟨#[]⟩ ⟨#[]⟩ ⟨#[]⟩ false false) _ _ HZ.out)
 have BZ1 := Ya.mk ((setRow_other _ w.heap.size (w.heap.size + 1) (uc s h p ⟨#[]⟩ ⟨#[]⟩ ⟨#[]⟩ false false) Zj).trans HZ4.out)
 have hY := Ya.mk (below_setRow HBB.out (Ks _) (uc s h p ⟨#[]⟩ ⟨#[]⟩ ⟨#[]⟩ false false))
 clear HZ HZ4 HBA HBB
 obtain ⟨w1, hw⟩ : ∃ W, W = ((w.alloc (.cells (uc s h p o3 o4 o5 o6 o7) 46)).alloc (.cells urlZ 46)).setRow w.heap.size (uc s h p ⟨#[]⟩ ⟨#[]⟩ ⟨#[]⟩ false false) := ⟨_, rfl⟩
 rw [← hw] at BK1 BZ1 hY ⊢
 clear hw
 have mN := Ya.mk (HE.out.below hY.out)
 refine (Yia.calls k0 _ _ _ _ mN.out HU0.out).mono ?_
 rintro e w2' ⟨rfl, ⟨nd, rfl⟩⟩
 have BK2 := Ya.mk (Yba BK1.out nd)
 have yZ := Ya.mk (Yba BZ1.out nd)
 have fJ := Ya.mk (Yb hY.out nd)
 obtain ⟨w2, hw⟩ : ∃ W, W = w1.drewN nd := ⟨_, rfl⟩
 rw [← hw] at BK2 yZ fJ ⊢
 clear hw BK1 BZ1 hY mN
 have tX := Ya.mk (HE.out.below fJ.out)
 go_wp2_with fail
 refine (Yde.calls _ _ _ tX.out HP0.out).mono ?_
 rintro e w3 ⟨rfl, gR⟩
 have yR := Ya.mk (Ycb BK2.out gR)
 have zA := Ya.mk (Ycb yZ.out gR)
 have cZ := Ya.mk (fJ.out.trans (gR.mono fJ.out.size))
 have hcz := (Yf yR.out 3).trans rfl
 have hfz := Ye yR.out 3
 have oK := Ya.mk (Yeb yR.out 3 (.string path) rfl)
 have zB := Ya.mk (Ync zA.out (p := ⟨w.heap.size, 3, none⟩) Zq (.string path))
 have cU := Ya.mk (Yg (j := 3) (v := .string path) cZ.out (Ks _))
 clear gR BK2 yZ fJ tX yR zA cZ
 rcases hsh with rfl | ⟨t, rfl⟩ | ⟨t, rfl⟩
 ·obtain ⟨h1, h2, h3, h4⟩ := HT.out
  simp only [Ydf, Ybb, Ypf] at h1 h2 h3 h4
  subst h1 h2 h3 h4
  have e1 : (x1.toList != ([] : List UInt8)) = false := by rw [Lib.toList_data, HXD.out]; rfl
  have e0 : (x1.toList == ([] : List UInt8)) = true := by rw [Lib.toList_data, HXD.out]; rfl
  clear hx1s hbl
  have eE := (Yf oK.out 0).trans rfl
  have fL := (Yf oK.out 1).trans rfl
  have gU := (Yf oK.out 2).trans rfl
  have lS := (Yf oK.out 3).trans rfl
  have kT := (Yf oK.out 4).trans rfl
  have kS := (Yf oK.out 5).trans rfl
  have mZ := (Yf oK.out 6).trans rfl
  have lQ := (Yf oK.out 7).trans rfl
  go_wp2_with (refine wpList_store_row rfl 46 (.tmp 4) (.tmp 48) rfl (w.heap.size + 1) (uc s h p path ⟨#[]⟩ ⟨#[]⟩ false false) rfl rfl 46 _ zB.out bJ rfl (Yqc _ _ _ _ _ _ _ _) ?_)
  refine bodyPost_ret (results_cell_row rfl _ _ (w.heap.size + 1) 46 (uc s h p path ⟨#[]⟩ ⟨#[]⟩ false false) (0, 0) _ rfl (setRow_heap _ _ _ _ _ _ zB.out) cV rfl bJ) rfl ?_
  exact ⟨rfl, below_setRow cU.out Zj _⟩
 ·obtain ⟨h1, h2, h3, h4⟩ := HT.out
  simp only [Ydf, Ybb, if_true] at h1 h2 h3 h4
  have e1 : (x1.toList != ([] : List UInt8)) = true := by rw [Lib.toList_data, HXD.out]; rfl
  have e0 : (x1.toList == ([] : List UInt8)) = false := by rw [Lib.toList_data, HXD.out]; rfl
  have hx1s2 : 0 < x1.size := by rw [hx1s]; simp
  have hx1l : x1.size = t.length + 1 := by rw [hx1s]; simp
  have hbt : bt x1 0 = 63 := (Yyc x1 0 63 t HXD.out).2.1
  obtain ⟨n1, pE⟩ : ∃ n, n = (t.takeWhile (Yza [35])).length := ⟨_, rfl⟩
  have hn1s : n1 ≤ t.length := by rw [pE]; exact Yud _ _
  have ht1 : (63 :: t).takeWhile (Yza [35]) = 63 :: t.takeWhile (Yza [35]) := by rw [List.takeWhile_cons_of_pos Zw]
  have ht2 : (63 :: t).dropWhile (Yza [35]) = t.dropWhile (Yza [35]) := by rw [List.dropWhile_cons_of_pos Zw]
  simp only [List.length_cons] at hbl
  obtain ⟨k1, mM⟩ := Yvl x1 ⟨#[35]⟩ Zj Zw
  have HU1 := Ya.mk (show Yia.f k1 x1 ⟨#[35]⟩ = some ((n1 + 1 : Nat) : Int) from by
   have h9 : Yia.f k1 x1 ⟨#[35]⟩ = _ := mM k1 (Ks _)
   rw [h9, HXD.out]
   show some ((((63 :: t).takeWhile (Yza [35])).length : Nat) : Int) = _
   rw [ht1, List.length_cons, pE])
  have hxs : x1.extract 1 (n1 + 1) = ofL (t.takeWhile (Yza [35])) := by
   rw [Yog, HXD.out, show n1 + 1 - 1 = n1 by omega, pE]
   show ofL (t.take _) = _
   congr 1
   have := List.take_left (l₁ := t.takeWhile (Yza [35])) (l₂ := t.dropWhile (Yza [35]))
   rw [List.takeWhile_append_dropWhile] at this; exact this
  have hxr : (x1.extract (n1 + 1) x1.size).data.toList = t.dropWhile (Yza [35]) := by
   rw [Ytc, HXD.out, pE, Ytb]
   show t.drop _ = _
   have := List.drop_left (l₁ := t.takeWhile (Yza [35])) (l₂ := t.dropWhile (Yza [35]))
   rw [List.takeWhile_append_dropWhile] at this; exact this
  obtain ⟨km, hm⟩ := Ydj (ofL (t.takeWhile (Yza [35]))) ⟨#[35, 39]⟩ (by rw [Yfa, ← pE]; omega) Zw
  have HM := Ya.mk (show Yo.f km (x1.extract 1 (n1 + 1)) ⟨#[35, 39]⟩ = some tq from by rw [hxs, h1]; exact hm km (Ks _))
  obtain ⟨x2, wP⟩ : ∃ x, x = x1.extract (n1 + 1) x1.size := ⟨_, rfl⟩
  rw [← wP] at hxr
  have hxf := wP.symm
  have HXR := Ya.mk hxr
  have aYE : (t.dropWhile (Yza [35]) = [] ∧ tf = ⟨#[]⟩ ∧ bf = false) ∨ (∃ u, t.dropWhile (Yza [35]) = 35 :: u ∧ tf = ofL (Ydd Yhj u) ∧ bf = true ∧ u.length ≤ t.length) := by
   have hdl := Yne (Yza [35]) t
   cases hd : t.dropWhile (Yza [35]) with
   | nil => rw [hd] at h2 h4; exact .inl ⟨rfl, h2, h4⟩
   | cons b u =>
    have := List.head?_dropWhile_not (Yza [35]) t
    rw [hd] at this hdl
    simp only [List.head?_cons, Yza, Bool.not_eq_true'] at this
    have hb : b = 35 := by simpa using this
    subst hb
    rw [hd] at h2 h4
    simp only [Ypf, if_true] at h2 h4
    simp only [List.length_cons] at hdl
    exact .inr ⟨u, rfl, h2, h4, Zj⟩
  have H3 := Ya.mk h3
  have b1 : (1 : Int) ≤ ((n1 + 1 : Nat) : Int) := by omega
  have b2 : ((n1 + 1 : Nat) : Int) ≤ (x1.size : Int) := by omega
  have b3 : n1 + 1 ≤ x1.size := by omega
  have kA : ∀ h : 0 < x1.size, ((x1[0]'h).toNat : Int) = bt x1 0 := Ypa x1 0
  have q4 := Kp hx1s2
  have uF : (0 < (x1.size : Int)) = True := Kp Zj
  have bV : decide (0 < (x1.size : Int)) = true := Kn Zj
  have dY : decide (0 < x1.size) = true := Kn hx1s2
  have e2 : (bt x1 0 == 63) = true := by rw [hbt]; rfl
  clear hbt hm hxs h1 h2 h3 h4 mM ht1 ht2 wP hxr hx1s pE hx1s2 hx1l
  have aYF := Ya.mk hbl
  have bAO := Ya.mk hn1s
  clear hbl hn1s
  go_wp2_with fail
  refine (Yia.calls k1 _ _ _ _ (HE.out.below cU.out) HU1.out).mono ?_
  rintro e w5' ⟨rfl, ⟨nd2, rfl⟩⟩
  have kW := Ya.mk (Yba oK.out nd2)
  have dV := Ya.mk (Yba zB.out nd2)
  have cH := Ya.mk (Yb cU.out nd2)
  obtain ⟨w5, hw⟩ : ∃ W, W = (w3.setCell ⟨w.heap.size, 3, none⟩ (.string path)).drewN nd2 := ⟨_, rfl⟩
  rw [← hw] at kW dV cH ⊢
  clear hw oK zB cU hcz hfz
  go_wp2_with fail
  refine (Yo.calls km _ _ _ _ (HE.out.below cH.out) HM.out).mono ?_
  rintro e w6 ⟨rfl, hb6⟩
  have BK6 := Ya.mk (Ycb kW.out hb6)
  have BZ6 := Ya.mk (Ycb dV.out hb6)
  have jG := Ya.mk (cH.out.trans (hb6.mono cH.out.size))
  clear hb6
  have hcy := (Yf BK6.out 6).trans rfl
  have hfy := Ye BK6.out 6
  have pC := Ya.mk (Yeb BK6.out 6 (.bool true) rfl)
  have BZ7 := Ya.mk (Ync BZ6.out (p := ⟨w.heap.size, 6, none⟩) Zq (.bool true))
  have yN := Ya.mk (Yg (j := 6) (v := .bool true) jG.out (Ks _))
  have hcx := (Yf pC.out 4).trans rfl
  have hfx := Ye pC.out 4
  have BK8 := Ya.mk (Yeb pC.out 4 (.string tq) rfl)
  have BZ8 := Ya.mk (Ync BZ7.out (p := ⟨w.heap.size, 4, none⟩) Zq (.string tq))
  have HB8 := Ya.mk (Yg (j := 4) (v := .string tq) yN.out (Ks _))
  have h3 := H3.out
  subst h3
  rcases aYE with ⟨hd, rfl, rfl⟩ | ⟨u, hd, htf, rfl, hul⟩
  ·have f1 : (x2.toList != ([] : List UInt8)) = false := by rw [Lib.toList_data, HXR.out, hd]; rfl
   have f0 : (x2.toList == ([] : List UInt8)) = true := by rw [Lib.toList_data, HXR.out, hd]; rfl
   clear hd
   have eE := (Yf BK8.out 0).trans rfl
   have fL := (Yf BK8.out 1).trans rfl
   have gU := (Yf BK8.out 2).trans rfl
   have lS := (Yf BK8.out 3).trans rfl
   have kT := (Yf BK8.out 4).trans rfl
   have kS := (Yf BK8.out 5).trans rfl
   have mZ := (Yf BK8.out 6).trans rfl
   have lQ := (Yf BK8.out 7).trans rfl
   go_wp2_with (refine wpList_store_row rfl 46 (.tmp 4) (.tmp 48) rfl (w.heap.size + 1) (uc s h p path tq ⟨#[]⟩ true false) rfl rfl 46 _ BZ8.out bJ rfl (Yqc _ _ _ _ _ _ _ _) ?_)
   refine bodyPost_ret (results_cell_row rfl _ _ (w.heap.size + 1) 46 (uc s h p path tq ⟨#[]⟩ true false) (0, 0) _ rfl (setRow_heap _ _ _ _ _ _ BZ8.out) cV rfl bJ) rfl ?_
   exact ⟨rfl, below_setRow HB8.out Zj _⟩
  ·have f1 : (x2.toList != ([] : List UInt8)) = true := by rw [Lib.toList_data, HXR.out, hd]; rfl
   have f0 : (x2.toList == ([] : List UInt8)) = false := by rw [Lib.toList_data, HXR.out, hd]; rfl
   have hx2l : x2.size = u.length + 1 := by rw [Lib.size_eq, HXR.out, hd]; simp
   have b5 : (1 : Int) ≤ (x2.size : Int) := by omega
   have hys : x2.extract 1 x2.size = ofL u := by rw [Ytc, HXR.out, hd]; rfl
   obtain ⟨kf, hm⟩ := Ydj (ofL u) ⟨#[96]⟩ (by rw [Yfa]; have := aYF.out; omega) Zw
   have HM2 := Ya.mk (show Yo.f kf (x2.extract 1 x2.size) ⟨#[96]⟩ = some tf from by rw [hys, htf]; exact hm kf (Ks _))
   clear hm hys htf hd hul hx2l
   go_wp2_with fail
   refine (Yo.calls kf _ _ _ _ (HE.out.below HB8.out) HM2.out).mono ?_
   rintro e w9 ⟨rfl, hb9⟩
   have BK9 := Ya.mk (Ycb BK8.out hb9)
   have BZ9 := Ya.mk (Ycb BZ8.out hb9)
   have HB9 := Ya.mk (HB8.out.trans (hb9.mono HB8.out.size))
   clear hcy hfy hcx hfx hb9
   have hcy := (Yf BK9.out 7).trans rfl
   have hfy := Ye BK9.out 7
   have BKa := Ya.mk (Yeb BK9.out 7 (.bool true) rfl)
   have BZa := Ya.mk (Ync BZ9.out (p := ⟨w.heap.size, 7, none⟩) Zq (.bool true))
   have HBa := Ya.mk (Yg (j := 7) (v := .bool true) HB9.out (Ks _))
   have hcx := (Yf BKa.out 5).trans rfl
   have hfx := Ye BKa.out 5
   have BKb := Ya.mk (Yeb BKa.out 5 (.string tf) rfl)
   have BZb := Ya.mk (Ync BZa.out (p := ⟨w.heap.size, 5, none⟩) Zq (.string tf))
   have HBb := Ya.mk (Yg (j := 5) (v := .string tf) HBa.out (Ks _))
   have eE := (Yf BKb.out 0).trans rfl
   have fL := (Yf BKb.out 1).trans rfl
   have gU := (Yf BKb.out 2).trans rfl
   have lS := (Yf BKb.out 3).trans rfl
   have kT := (Yf BKb.out 4).trans rfl
   have kS := (Yf BKb.out 5).trans rfl
   have mZ := (Yf BKb.out 6).trans rfl
   have lQ := (Yf BKb.out 7).trans rfl
   go_wp2_with (refine wpList_store_row rfl 46 (.tmp 4) (.tmp 48) rfl (w.heap.size + 1) (uc s h p path tq tf true true) rfl rfl 46 _ BZb.out bJ rfl (Yqc _ _ _ _ _ _ _ _) ?_)
   refine bodyPost_ret (results_cell_row rfl _ _ (w.heap.size + 1) 46 (uc s h p path tq tf true true) (0, 0) _ rfl (setRow_heap _ _ _ _ _ _ BZb.out) cV rfl bJ) rfl ?_
   exact ⟨rfl, below_setRow HBb.out Zj _⟩
 ·obtain ⟨h1, h2, h3, h4⟩ := HT.out
  simp only [Ydf, Ybb, Ypf, show ¬ (35 : UInt8) = 63 from by decide, if_false, if_true] at h1 h2 h3 h4
  have e1 : (x1.toList != ([] : List UInt8)) = true := by rw [Lib.toList_data, HXD.out]; rfl
  have e0 : (x1.toList == ([] : List UInt8)) = false := by rw [Lib.toList_data, HXD.out]; rfl
  have hx1s2 : 0 < x1.size := by rw [hx1s]; simp
  clear hx1s
  have hbt : bt x1 0 = 35 := (Yyc x1 0 35 t HXD.out).2.1
  have kA : ∀ h : 0 < x1.size, ((x1[0]'h).toNat : Int) = bt x1 0 := Ypa x1 0
  have q4 := Kp hx1s2
  have uF : (0 < (x1.size : Int)) = True := Kp Zj
  have bV : decide (0 < (x1.size : Int)) = true := Kn Zj
  have dY : decide (0 < x1.size) = true := Kn hx1s2
  have e2 : (bt x1 0 == 63) = false := by rw [hbt]; rfl
  clear hbt
  have hxs : x1.extract 1 x1.size = ofL t := by rw [Ytc, HXD.out]; rfl
  obtain ⟨km, hm⟩ := Ydj (ofL t) ⟨#[96]⟩ (by rw [Yfa]; simp only [List.length_cons] at hbl; omega) Zw
  have HM := Ya.mk (show Yo.f km (x1.extract 1 x1.size) ⟨#[96]⟩ = some tf from by rw [hxs, h2]; exact hm km (Ks _))
  clear hm hxs hbl h2
  have b1 : (1 : Int) ≤ (x1.size : Int) := by omega
  go_wp2_with fail
  refine (Yo.calls km _ _ _ _ (HE.out.below cU.out) HM.out).mono ?_
  rintro e w5 ⟨rfl, zX⟩
  have kW := Ya.mk (Ycb oK.out zX)
  have dV := Ya.mk (Ycb zB.out zX)
  have cH := Ya.mk (cU.out.trans (zX.mono cU.out.size))
  clear hcz hfz
  have hcy := (Yf kW.out 7).trans rfl
  have hfy := Ye kW.out 7
  have BK6 := Ya.mk (Yeb kW.out 7 (.bool true) rfl)
  have BZ6 := Ya.mk (Ync dV.out (p := ⟨w.heap.size, 7, none⟩) Zq (.bool true))
  have jG := Ya.mk (Yg (j := 7) (v := .bool true) cH.out (Ks _))
  have hcx := (Yf BK6.out 5).trans rfl
  have hfx := Ye BK6.out 5
  have pC := Ya.mk (Yeb BK6.out 5 (.string tf) rfl)
  have BZ7 := Ya.mk (Ync BZ6.out (p := ⟨w.heap.size, 5, none⟩) Zq (.string tf))
  have yN := Ya.mk (Yg (j := 5) (v := .string tf) jG.out (Ks _))
  subst h1 h3 h4
  have eE := (Yf pC.out 0).trans rfl
  have fL := (Yf pC.out 1).trans rfl
  have gU := (Yf pC.out 2).trans rfl
  have lS := (Yf pC.out 3).trans rfl
  have kT := (Yf pC.out 4).trans rfl
  have kS := (Yf pC.out 5).trans rfl
  have mZ := (Yf pC.out 6).trans rfl
  have lQ := (Yf pC.out 7).trans rfl
  go_wp2_with (refine wpList_store_row rfl 46 (.tmp 4) (.tmp 48) rfl (w.heap.size + 1) (uc s h p path ⟨#[]⟩ tf false true) rfl rfl 46 _ BZ7.out bJ rfl (Yqc _ _ _ _ _ _ _ _) ?_)
  refine bodyPost_ret (results_cell_row rfl _ _ (w.heap.size + 1) 46 (uc s h p path ⟨#[]⟩ tf false true) (0, 0) _ rfl (setRow_heap _ _ _ _ _ _ BZ7.out) cV rfl bJ) rfl ?_
  exact ⟨rfl, below_setRow yN.out Zj _⟩
theorem Yee.calls (aM aQ : Y) (aW : Int) (aR aV aX : Y) (bB bD : Bool) (a1 r1 r2 : Y) (r3 : Int) (r4 r5 r6 : Y) (r7 r8 : Bool) (w : World) (hE : EnvOk w) (h : Yee.f aM aQ aW aR aV aX bB bD a1 = some (r1, r2, r3, r4, r5, r6, r7, r8)) :
  Calls Tryz.prog 37 #[.agg #[.string aM, .string aQ, .int .i64 aW, .string aR, .string aV, .string aX, .bool bB, .bool bD], .string a1] w fun e w' => e = .returned (.agg #[.string r1, .string r2, .int .i64 r3, .string r4, .string r5, .string r6, .bool r7, .bool r8]) ∧ Below w.heap.size w w' := by
 unfold Yee.f at h
 by_cases hs : a1.size ≤ 30000000
 ·rw [if_pos hs] at h
  simp only [Kz, Kaa] at h
  obtain ⟨rfl, rfl, rfl, rfl, rfl, rfl, rfl, rfl⟩ := h
  exact Yws aM aQ aW aR aV aX bB bD a1 w hE hs
 ·rw [if_neg hs] at h; cases h
end Go.Proofs.YtihaeeldgimdiaaGreatDoor.X
