import Derived.Test.YtnmglnglbdpjjaaGreatDoorUfZp
set_option linter.all false
section
namespace Go.Proofs.YtnmglnglbdpjjaaGreatDoor.X
open Go.RowKit Go.Lib Go.Shelf Go.Yw.PrintWords Go.Yw.PrintLast Go.Yw.PrintMore
abbrev aliveIn : Y := ⟨#[72, 84, 84, 80, 58, 47, 47, 69, 120, 46, 111, 114, 103, 58, 56, 48, 47, 97, 47, 46, 47, 98, 47, 46, 46, 47, 99, 63, 120, 35, 121]⟩
abbrev aliveOut : Y := ⟨#[104, 116, 116, 112, 58, 47, 47, 101, 120, 46, 111, 114, 103, 47, 97, 47, 99, 63, 120, 35, 121]⟩
def aliveAt (k : Nat) : Prop :=
 Yrd.f k aliveIn = some (⟨#[104, 116, 116, 112]⟩, ⟨#[101, 120, 46, 111, 114, 103]⟩, 0, ⟨#[47, 97, 47, 99]⟩, ⟨#[120]⟩, ⟨#[121]⟩, true, true, 0) ∧
 Yid.f k ⟨#[104, 116, 116, 112]⟩ ⟨#[101, 120, 46, 111, 114, 103]⟩ 0 ⟨#[47, 97, 47, 99]⟩ ⟨#[120]⟩ ⟨#[121]⟩ true true = some aliveOut
theorem eqH25 (d : Nat) (w : World) (x0 y0 x1 y1 : Y) (x2 y2 : Int) (x3 y3 x4 y4 x5 y5 : Y) (x6 y6 x7 y7 : Bool) :
  (Op.equalIn (d + 2) 25 (.agg #[.string x0, .string x1, .int .i64 x2, .string x3, .string x4, .string x5, .bool x6, .bool x7]) (.agg #[.string y0, .string y1, .int .i64 y2, .string y3, .string y4, .string y5, .bool y6, .bool y7])).run Tryz.prog w = .ok (x0.toList == y0.toList && (x1.toList == y1.toList && (x2 == y2 && (x3.toList == y3.toList && (x4.toList == y4.toList && (x5.toList == y5.toList && (x6 == y6 && (x7 == y7)))))))) w := by
 refine eqA_of Tryz.underlying25 Zi ?_
 refine Ywf Zga (by go_simp; rfl) (by go_simp; rfl) (by go_simp) ?_
 refine Ywf Zga (by go_simp; rfl) (by go_simp; rfl) (by go_simp) ?_
 refine Ywf Zga (by go_simp; rfl) (by go_simp; rfl) (by go_simp) ?_
 refine Ywf Zga (by go_simp; rfl) (by go_simp; rfl) (by go_simp) ?_
 refine Ywf Zga (by go_simp; rfl) (by go_simp; rfl) (by go_simp) ?_
 refine Ywf Zga (by go_simp; rfl) (by go_simp; rfl) (by go_simp) ?_
 refine Ywf Zga (by go_simp; rfl) (by go_simp; rfl) (by go_simp) ?_
 exact Ylt Zga (by go_simp; rfl) (by go_simp; rfl) (by go_simp)
theorem eqAlive (d : Nat) (w : World) : (Op.equalIn (d + 2) 25 (.agg #[.string ⟨#[104, 116, 116, 112]⟩, .string ⟨#[101, 120, 46, 111, 114, 103]⟩, .int .i64 0, .string ⟨#[47, 97, 47, 99]⟩, .string ⟨#[120]⟩, .string ⟨#[121]⟩, .bool true, .bool true]) (.agg #[.string ⟨#[104, 116, 116, 112]⟩, .string ⟨#[101, 120, 46, 111, 114, 103]⟩, .int .i64 0, .string ⟨#[47, 97, 47, 99]⟩, .string ⟨#[120]⟩, .string ⟨#[121]⟩, .bool true, .bool true])).run Tryz.prog w = .ok true w := by
 rw [eqH25]
 simp only [beq_self_eq_true, Bool.and_self]
attribute [local go_sem high] eqAlive
instance eqUrl5 : DecidableEq (Y × Y × Bool × Bool × Int) := inferInstance
instance eqUrl3 : DecidableEq (Int × Y × Y × Y × Bool × Bool × Int) := inferInstance
instance eqUrl1 : DecidableEq (Y × Y × Int × Y × Y × Y × Bool × Bool × Int) := inferInstance
instance (k : Nat) : Decidable (aliveAt k) := by unfold aliveAt; infer_instance
end Go.Proofs.YtnmglnglbdpjjaaGreatDoor.X
end
section
namespace Go.Proofs.YtnmglnglbdpjjaaGreatDoor.X
open Go.RowKit Go.Lib Go.Shelf Go.Yw.PrintWords Go.Yw.PrintLast Go.Yw.PrintMore
abbrev uc (u1 u2 : Y) (u3 : Int) (u4 u5 u6 : Y) (u7 u8 : Bool) : Array Value := #[.string u1, .string u2, .int .i64 u3, .string u4, .string u5, .string u6, .bool u7, .bool u8]
theorem Yof (w : World) (o : Obj) : (w.alloc o).heap.size = w.heap.size + 1 := by simp
def Yac.f (aE aJ : Y) (aN : Int) (aG aM aK : Y) (aU aV : Bool) (a1 : Y) : Option (Y × Y × Int × Y × Y × Y × Bool × Bool) :=
 if a1.size ≤ 30000000 then some (aE, aJ, aN, Ycd a1.data.toList, Yyb a1.data.toList, Ycc a1.data.toList, Yqc a1.data.toList, Ydc a1.data.toList) else none
set_option maxHeartbeats 8000000 in
set_option maxRecDepth 100000 in
theorem Ypu (s h : Y) (p : Int) (o3 o4 o5 : Y) (o6 o7 : Bool) (a1 : Y) (w : World) (hE : EnvOk w) (hs : a1.size ≤ 30000000) :
  Calls Tryz.prog 18 #[.agg (uc s h p o3 o4 o5 o6 o7), .string a1] w fun e w' => e = .returned (.agg (uc s h p (Ycd a1.data.toList) (Yyb a1.data.toList) (Ycc a1.data.toList) (Yqc a1.data.toList) (Ydc a1.data.toList))) ∧ Below w.heap.size w w' := by
 have HE := Ya.mk hE
 have bQ := Tryz.underlying25
 have bD : (Tryz.prog.info? 25).map (·.size) = some 8 := by kernel_rfl
 obtain ⟨n0, pX⟩ : ∃ n, n = (Yxi a1.data.toList).length := ⟨_, rfl⟩
 have hn0s : n0 ≤ a1.size := by rw [pX, Lib.size_eq]; exact Ydt _
 obtain ⟨k0, hk0⟩ := Yem a1 ⟨#[63, 35]⟩ Zk Zca
 have hu0 : Yra.f k0 a1 ⟨#[63, 35]⟩ = some ((n0 : Nat) : Int) := by rw [pX]; exact hk0 k0 (Kw _)
 have hx0 : a1.extract 0 n0 = ofL (Yxi a1.data.toList) := by
  rw [Yge, pX]; unfold Yxi
  congr 1
  have := List.take_left (l₁ := a1.data.toList.takeWhile (Ydb [63, 35])) (l₂ := a1.data.toList.dropWhile (Ydb [63, 35]))
  rw [List.takeWhile_append_dropWhile] at this; exact this
 have wE : a1.extract n0 a1.size = ofL (Yjd a1.data.toList) := by
  rw [Yuc, pX]; unfold Yxi Yjd
  congr 1
  have := List.drop_left (l₁ := a1.data.toList.takeWhile (Ydb [63, 35])) (l₂ := a1.data.toList.dropWhile (Ydb [63, 35]))
  rw [List.takeWhile_append_dropWhile] at this; exact this
 have hp0 : Yze.f (a1.extract 0 n0) = some (Ycd a1.data.toList) := by
  unfold Yze.f
  rw [if_pos Zpa, hx0, Ygb]; rfl
 obtain ⟨bh, hbh⟩ : ∃ bh, bh = Yjd a1.data.toList := ⟨_, rfl⟩
 obtain ⟨x1, hxd⟩ : ∃ x, x = a1.extract n0 a1.size := ⟨_, rfl⟩
 have hx1d : x1.data.toList = bh := by rw [hxd, wE, hbh]; rfl
 have hbl : bh.length ≤ a1.size := by rw [hbh, Lib.size_eq]; exact Yql _
 have hx1s : x1.size = bh.length := by rw [Lib.size_eq, hx1d]
 have hsh : bh = [] ∨ (∃ t, bh = 63 :: t) ∨ (∃ t, bh = 35 :: t) := by
  rw [hbh]; unfold Yjd
  cases hd : a1.data.toList.dropWhile (Ydb [63, 35]) with
  | nil => exact .inl rfl
  | cons b t =>
   have := List.head?_dropWhile_not (Ydb [63, 35]) a1.data.toList
   rw [hd] at this
   simp only [List.head?_cons, Ydb, Bool.not_eq_true'] at this
   have h2 : ¬ b = 63 → b = 35 := by simpa using this
   have h3 : b = 63 ∨ b = 35 := by
    by_cases hb : b = 63
    ·exact .inl hb
    ·exact .inr (h2 hb)
   rcases h3 with rfl | rfl
   ·exact .inr (.inl ⟨t, rfl⟩)
   ·exact .inr (.inr ⟨t, rfl⟩)
 have hT : Yyb a1.data.toList = (match Yve bh with | some q => ofL (Yic Ykf q) | none => ⟨#[]⟩) ∧ Ycc a1.data.toList = (match Ycf (Yeb bh) with | some q => ofL (Yic Yyf q) | none => ⟨#[]⟩) ∧ Yqc a1.data.toList = (match Yve bh with | some _ => true | none => false) ∧ Ydc a1.data.toList = (match Ycf (Yeb bh) with | some _ => true | none => false) := by
  rw [hbh]; exact ⟨rfl, rfl, rfl, rfl⟩
 obtain ⟨path, hpath⟩ : ∃ x, x = Ycd a1.data.toList := ⟨_, rfl⟩
 obtain ⟨tq, htq⟩ : ∃ x, x = Yyb a1.data.toList := ⟨_, rfl⟩
 obtain ⟨tf, htf⟩ : ∃ x, x = Ycc a1.data.toList := ⟨_, rfl⟩
 obtain ⟨bq, hbq⟩ : ∃ x, x = Yqc a1.data.toList := ⟨_, rfl⟩
 obtain ⟨bf, hbf⟩ : ∃ x, x = Ydc a1.data.toList := ⟨_, rfl⟩
 rw [← htq, ← htf, ← hbq, ← hbf] at hT
 rw [← hpath] at hp0
 rw [← hpath, ← htq, ← htf, ← hbq, ← hbf]
 have HU0 := Ya.mk hu0
 have HP0 := Ya.mk hp0
 have HT := Ya.mk hT
 have HXD := Ya.mk hx1d
 have hxe := hxd.symm
 clear hu0 hp0 hx0 wE hk0 hE pX hbh hxd hpath htq htf hbq hbf hT hx1d
 have hbkA := heap_alloc_new w (.cells (uc s h p o3 o4 o5 o6 o7) 25)
 have hbk := Ym hbkA (.cells urlZ 25)
 have HBA := Ya.mk ((Below.refl w.heap.size w).alloc (Kw _) (.cells (uc s h p o3 o4 o5 o6 o7) 25))
 have HBB := Ya.mk (HBA.out.alloc HBA.out.size (.cells urlZ 25))
 have HZ := Ya.mk hbk
 have HZ4 := Ya.mk (heap_alloc_new (w.alloc (.cells (uc s h p o3 o4 o5 o6 o7) 25)) (.cells urlZ 25))
 have cQ := (Yf hbk 0).trans rfl
 have cB := (Yf hbk 1).trans rfl
 have cN := (Yf hbk 2).trans rfl
 clear hbk hbkA
 go_enter Tryz.func18, Tryz.ntmps18
 go_wp2_with (refine wpList_store_row rfl 25 (.tmp 2) (.tmp 12) rfl w.heap.size (uc s h p ⟨#[]⟩ ⟨#[]⟩ ⟨#[]⟩ false false) rfl rfl 25 _ HZ.out bD rfl (Ypb _ _ _ _ _ _ _ _) ?_)
 have aJy : (w.alloc (.cells (uc s h p o3 o4 o5 o6 o7) 25)).heap.size = w.heap.size + 1 := Yof _ _
 rw [aJy] at HZ4
 clear aJy cQ cB cN
 have BK1 := Ya.mk (setRow_heap _ _ _ (uc s h p ⟨#[]⟩ ⟨#[]⟩ ⟨#[]⟩ false false) _ _ HZ.out)
 have zW := Ya.mk ((setRow_other _ w.heap.size (w.heap.size + 1) (uc s h p ⟨#[]⟩ ⟨#[]⟩ ⟨#[]⟩ false false) Zk).trans HZ4.out)
 have iB := Ya.mk (below_setRow HBB.out (Kw _) (uc s h p ⟨#[]⟩ ⟨#[]⟩ ⟨#[]⟩ false false))
 clear HZ HZ4 HBA HBB
 obtain ⟨w1, hw⟩ : ∃ W, W = ((w.alloc (.cells (uc s h p o3 o4 o5 o6 o7) 25)).alloc (.cells urlZ 25)).setRow w.heap.size (uc s h p ⟨#[]⟩ ⟨#[]⟩ ⟨#[]⟩ false false) := ⟨_, rfl⟩
 rw [← hw] at BK1 zW iB ⊢
 clear hw
 have lM := Ya.mk (HE.out.below iB.out)
 refine (Yra.calls k0 _ _ _ _ lM.out HU0.out).mono ?_
 rintro e w2' ⟨rfl, ⟨nd, rfl⟩⟩
 have BK2 := Ya.mk (Yi BK1.out nd)
 have tW := Ya.mk (Yi zW.out nd)
 have eL := Ya.mk (Yb iB.out nd)
 obtain ⟨w2, hw⟩ : ∃ W, W = w1.drewN nd := ⟨_, rfl⟩
 rw [← hw] at BK2 tW eL ⊢
 clear hw BK1 zW iB lM
 have uQ := Ya.mk (HE.out.below eL.out)
 go_wp2_with fail
 refine (Yze.calls _ _ _ uQ.out HP0.out).mono ?_
 rintro e w3 ⟨rfl, gN⟩
 have BK3 := Ya.mk (Yla BK2.out gN)
 have yZ := Ya.mk (Yla tW.out gN)
 have eF := Ya.mk (eL.out.trans (gN.mono eL.out.size))
 have hcz := (Yf BK3.out 3).trans rfl
 have hfz := Ye BK3.out 3
 have uV := Ya.mk (Yoa BK3.out 3 (.string path) rfl)
 have zA := Ya.mk (Yvb yZ.out (p := ⟨w.heap.size, 3, none⟩) Zv (.string path))
 have dL := Ya.mk (Yg (j := 3) (v := .string path) eF.out (Kw _))
 clear gN BK2 tW eL uQ BK3 yZ eF
 rcases hsh with rfl | ⟨t, rfl⟩ | ⟨t, rfl⟩
 ·obtain ⟨h1, h2, h3, h4⟩ := HT.out
  simp only [Yve, Yeb, Ycf] at h1 h2 h3 h4
  subst h1 h2 h3 h4
  have e1 : (x1.toList != ([] : List UInt8)) = false := by rw [Lib.toList_data, HXD.out]; rfl
  have e0 : (x1.toList == ([] : List UInt8)) = true := by rw [Lib.toList_data, HXD.out]; rfl
  clear hx1s hbl
  have cQ := (Yf uV.out 0).trans rfl
  have cB := (Yf uV.out 1).trans rfl
  have cN := (Yf uV.out 2).trans rfl
  have cX := (Yf uV.out 3).trans rfl
  have cU := (Yf uV.out 4).trans rfl
  have cT := (Yf uV.out 5).trans rfl
  have cY := (Yf uV.out 6).trans rfl
  have cR := (Yf uV.out 7).trans rfl
  go_wp2_with (refine wpList_store_row rfl 25 (.tmp 4) (.tmp 48) rfl (w.heap.size + 1) (uc s h p path ⟨#[]⟩ ⟨#[]⟩ false false) rfl rfl 25 _ zA.out bD rfl (Ypb _ _ _ _ _ _ _ _) ?_)
  refine bodyPost_ret (results_cell_row rfl _ _ (w.heap.size + 1) 25 (uc s h p path ⟨#[]⟩ ⟨#[]⟩ false false) (0, 0) _ rfl (setRow_heap _ _ _ _ _ _ zA.out) bQ rfl bD) rfl ?_
  exact ⟨rfl, below_setRow dL.out Zk _⟩
 ·obtain ⟨h1, h2, h3, h4⟩ := HT.out
  simp only [Yve, Yeb, if_true] at h1 h2 h3 h4
  have e1 : (x1.toList != ([] : List UInt8)) = true := by rw [Lib.toList_data, HXD.out]; rfl
  have e0 : (x1.toList == ([] : List UInt8)) = false := by rw [Lib.toList_data, HXD.out]; rfl
  have hx1s2 : 0 < x1.size := by rw [hx1s]; simp
  have hx1l : x1.size = t.length + 1 := by rw [hx1s]; simp
  have hbt : bt x1 0 = 63 := (Yvc x1 0 63 t HXD.out).2.1
  obtain ⟨n1, pM⟩ : ∃ n, n = (t.takeWhile (Ydb [35])).length := ⟨_, rfl⟩
  have hn1s : n1 ≤ t.length := by rw [pM]; exact Yse _ _
  have ht1 : (63 :: t).takeWhile (Ydb [35]) = 63 :: t.takeWhile (Ydb [35]) := by rw [List.takeWhile_cons_of_pos Zca]
  have ht2 : (63 :: t).dropWhile (Ydb [35]) = t.dropWhile (Ydb [35]) := by rw [List.dropWhile_cons_of_pos Zca]
  simp only [List.length_cons] at hbl
  obtain ⟨k1, uR⟩ := Yem x1 ⟨#[35]⟩ Zk Zca
  have HU1 := Ya.mk (show Yra.f k1 x1 ⟨#[35]⟩ = some ((n1 + 1 : Nat) : Int) from by
   have h9 : Yra.f k1 x1 ⟨#[35]⟩ = _ := uR k1 (Kw _)
   rw [h9, HXD.out]
   show some ((((63 :: t).takeWhile (Ydb [35])).length : Nat) : Int) = _
   rw [ht1, List.length_cons, pM])
  have hxs : x1.extract 1 (n1 + 1) = ofL (t.takeWhile (Ydb [35])) := by
   rw [Ynh, HXD.out, show n1 + 1 - 1 = n1 by omega, pM]
   show ofL (t.take _) = _
   congr 1
   have := List.take_left (l₁ := t.takeWhile (Ydb [35])) (l₂ := t.dropWhile (Ydb [35]))
   rw [List.takeWhile_append_dropWhile] at this; exact this
  have hxr : (x1.extract (n1 + 1) x1.size).data.toList = t.dropWhile (Ydb [35]) := by
   rw [Yuc, HXD.out, pM, Ygb]
   show t.drop _ = _
   have := List.drop_left (l₁ := t.takeWhile (Ydb [35])) (l₂ := t.dropWhile (Ydb [35]))
   rw [List.takeWhile_append_dropWhile] at this; exact this
  obtain ⟨km, hm⟩ := Yck (ofL (t.takeWhile (Ydb [35]))) ⟨#[35, 39]⟩ (by rw [Yy, ← pM]; omega) Zca
  have HM := Ya.mk (show Ys.f km (x1.extract 1 (n1 + 1)) ⟨#[35, 39]⟩ = some tq from by rw [hxs, h1]; exact hm km (Kw _))
  obtain ⟨x2, qA⟩ : ∃ x, x = x1.extract (n1 + 1) x1.size := ⟨_, rfl⟩
  rw [← qA] at hxr
  have hxf := qA.symm
  have HXR := Ya.mk hxr
  have aVX : (t.dropWhile (Ydb [35]) = [] ∧ tf = ⟨#[]⟩ ∧ bf = false) ∨ (∃ u, t.dropWhile (Ydb [35]) = 35 :: u ∧ tf = ofL (Yic Yyf u) ∧ bf = true ∧ u.length ≤ t.length) := by
   have hdl := Yte (Ydb [35]) t
   cases hd : t.dropWhile (Ydb [35]) with
   | nil => rw [hd] at h2 h4; exact .inl ⟨rfl, h2, h4⟩
   | cons b u =>
    have := List.head?_dropWhile_not (Ydb [35]) t
    rw [hd] at this hdl
    simp only [List.head?_cons, Ydb, Bool.not_eq_true'] at this
    have hb : b = 35 := by simpa using this
    subst hb
    rw [hd] at h2 h4
    simp only [Ycf, if_true] at h2 h4
    simp only [List.length_cons] at hdl
    exact .inr ⟨u, rfl, h2, h4, Zk⟩
  have H3 := Ya.mk h3
  have b1 : (1 : Int) ≤ ((n1 + 1 : Nat) : Int) := by omega
  have b2 : ((n1 + 1 : Nat) : Int) ≤ (x1.size : Int) := by omega
  have b3 : n1 + 1 ≤ x1.size := by omega
  have jF : ∀ h : 0 < x1.size, ((x1[0]'h).toNat : Int) = bt x1 0 := Ybb x1 0
  have q4 := Kt hx1s2
  have tV : (0 < (x1.size : Int)) = True := Kt Zk
  have cC : decide (0 < (x1.size : Int)) = true := Kr Zk
  have fX : decide (0 < x1.size) = true := Kr hx1s2
  have e2 : (bt x1 0 == 63) = true := by rw [hbt]; rfl
  clear hbt hm hxs h1 h2 h3 h4 uR ht1 ht2 qA hxr hx1s pM hx1s2 hx1l
  have aVY := Ya.mk hbl
  have aYe := Ya.mk hn1s
  clear hbl hn1s
  go_wp2_with fail
  refine (Yra.calls k1 _ _ _ _ (HE.out.below dL.out) HU1.out).mono ?_
  rintro e w5' ⟨rfl, ⟨nd2, rfl⟩⟩
  have lR := Ya.mk (Yi uV.out nd2)
  have eB := Ya.mk (Yi zA.out nd2)
  have cM := Ya.mk (Yb dL.out nd2)
  obtain ⟨w5, hw⟩ : ∃ W, W = (w3.setCell ⟨w.heap.size, 3, none⟩ (.string path)).drewN nd2 := ⟨_, rfl⟩
  rw [← hw] at lR eB cM ⊢
  clear hw uV zA dL hcz hfz
  go_wp2_with fail
  refine (Ys.calls km _ _ _ _ (HE.out.below cM.out) HM.out).mono ?_
  rintro e w6 ⟨rfl, hb6⟩
  have BK6 := Ya.mk (Yla lR.out hb6)
  have BZ6 := Ya.mk (Yla eB.out hb6)
  have jH := Ya.mk (cM.out.trans (hb6.mono cM.out.size))
  clear hb6
  have hcy := (Yf BK6.out 6).trans rfl
  have hfy := Ye BK6.out 6
  have pD := Ya.mk (Yoa BK6.out 6 (.bool true) rfl)
  have BZ7 := Ya.mk (Yvb BZ6.out (p := ⟨w.heap.size, 6, none⟩) Zv (.bool true))
  have HB7 := Ya.mk (Yg (j := 6) (v := .bool true) jH.out (Kw _))
  have hcx := (Yf pD.out 4).trans rfl
  have hfx := Ye pD.out 4
  have BK8 := Ya.mk (Yoa pD.out 4 (.string tq) rfl)
  have BZ8 := Ya.mk (Yvb BZ7.out (p := ⟨w.heap.size, 4, none⟩) Zv (.string tq))
  have yY := Ya.mk (Yg (j := 4) (v := .string tq) HB7.out (Kw _))
  have h3 := H3.out
  subst h3
  rcases aVX with ⟨hd, rfl, rfl⟩ | ⟨u, hd, htf, rfl, hul⟩
  ·have f1 : (x2.toList != ([] : List UInt8)) = false := by rw [Lib.toList_data, HXR.out, hd]; rfl
   have f0 : (x2.toList == ([] : List UInt8)) = true := by rw [Lib.toList_data, HXR.out, hd]; rfl
   clear hd
   have cQ := (Yf BK8.out 0).trans rfl
   have cB := (Yf BK8.out 1).trans rfl
   have cN := (Yf BK8.out 2).trans rfl
   have cX := (Yf BK8.out 3).trans rfl
   have cU := (Yf BK8.out 4).trans rfl
   have cT := (Yf BK8.out 5).trans rfl
   have cY := (Yf BK8.out 6).trans rfl
   have cR := (Yf BK8.out 7).trans rfl
   go_wp2_with (refine wpList_store_row rfl 25 (.tmp 4) (.tmp 48) rfl (w.heap.size + 1) (uc s h p path tq ⟨#[]⟩ true false) rfl rfl 25 _ BZ8.out bD rfl (Ypb _ _ _ _ _ _ _ _) ?_)
   refine bodyPost_ret (results_cell_row rfl _ _ (w.heap.size + 1) 25 (uc s h p path tq ⟨#[]⟩ true false) (0, 0) _ rfl (setRow_heap _ _ _ _ _ _ BZ8.out) bQ rfl bD) rfl ?_
   exact ⟨rfl, below_setRow yY.out Zk _⟩
  ·have f1 : (x2.toList != ([] : List UInt8)) = true := by rw [Lib.toList_data, HXR.out, hd]; rfl
   have f0 : (x2.toList == ([] : List UInt8)) = false := by rw [Lib.toList_data, HXR.out, hd]; rfl
   have hx2l : x2.size = u.length + 1 := by rw [Lib.size_eq, HXR.out, hd]; simp
   have b5 : (1 : Int) ≤ (x2.size : Int) := by omega
   have hys : x2.extract 1 x2.size = ofL u := by rw [Yuc, HXR.out, hd]; rfl
   obtain ⟨kf, hm⟩ := Yck (ofL u) ⟨#[96]⟩ (by rw [Yy]; have := aVY.out; omega) Zca
   have HM2 := Ya.mk (show Ys.f kf (x2.extract 1 x2.size) ⟨#[96]⟩ = some tf from by rw [hys, htf]; exact hm kf (Kw _))
   clear hm hys htf hd hul hx2l
   go_wp2_with fail
   refine (Ys.calls kf _ _ _ _ (HE.out.below yY.out) HM2.out).mono ?_
   rintro e w9 ⟨rfl, tX⟩
   have BK9 := Ya.mk (Yla BK8.out tX)
   have BZ9 := Ya.mk (Yla BZ8.out tX)
   have HB9 := Ya.mk (yY.out.trans (tX.mono yY.out.size))
   clear hcy hfy hcx hfx tX
   have hcy := (Yf BK9.out 7).trans rfl
   have hfy := Ye BK9.out 7
   have BKa := Ya.mk (Yoa BK9.out 7 (.bool true) rfl)
   have BZa := Ya.mk (Yvb BZ9.out (p := ⟨w.heap.size, 7, none⟩) Zv (.bool true))
   have HBa := Ya.mk (Yg (j := 7) (v := .bool true) HB9.out (Kw _))
   have hcx := (Yf BKa.out 5).trans rfl
   have hfx := Ye BKa.out 5
   have BKb := Ya.mk (Yoa BKa.out 5 (.string tf) rfl)
   have BZb := Ya.mk (Yvb BZa.out (p := ⟨w.heap.size, 5, none⟩) Zv (.string tf))
   have HBb := Ya.mk (Yg (j := 5) (v := .string tf) HBa.out (Kw _))
   have cQ := (Yf BKb.out 0).trans rfl
   have cB := (Yf BKb.out 1).trans rfl
   have cN := (Yf BKb.out 2).trans rfl
   have cX := (Yf BKb.out 3).trans rfl
   have cU := (Yf BKb.out 4).trans rfl
   have cT := (Yf BKb.out 5).trans rfl
   have cY := (Yf BKb.out 6).trans rfl
   have cR := (Yf BKb.out 7).trans rfl
   go_wp2_with (refine wpList_store_row rfl 25 (.tmp 4) (.tmp 48) rfl (w.heap.size + 1) (uc s h p path tq tf true true) rfl rfl 25 _ BZb.out bD rfl (Ypb _ _ _ _ _ _ _ _) ?_)
   refine bodyPost_ret (results_cell_row rfl _ _ (w.heap.size + 1) 25 (uc s h p path tq tf true true) (0, 0) _ rfl (setRow_heap _ _ _ _ _ _ BZb.out) bQ rfl bD) rfl ?_
   exact ⟨rfl, below_setRow HBb.out Zk _⟩
 ·obtain ⟨h1, h2, h3, h4⟩ := HT.out
  simp only [Yve, Yeb, Ycf, show ¬ (35 : UInt8) = 63 from by decide, if_false, if_true] at h1 h2 h3 h4
  have e1 : (x1.toList != ([] : List UInt8)) = true := by rw [Lib.toList_data, HXD.out]; rfl
  have e0 : (x1.toList == ([] : List UInt8)) = false := by rw [Lib.toList_data, HXD.out]; rfl
  have hx1s2 : 0 < x1.size := by rw [hx1s]; simp
  clear hx1s
  have hbt : bt x1 0 = 35 := (Yvc x1 0 35 t HXD.out).2.1
  have jF : ∀ h : 0 < x1.size, ((x1[0]'h).toNat : Int) = bt x1 0 := Ybb x1 0
  have q4 := Kt hx1s2
  have tV : (0 < (x1.size : Int)) = True := Kt Zk
  have cC : decide (0 < (x1.size : Int)) = true := Kr Zk
  have fX : decide (0 < x1.size) = true := Kr hx1s2
  have e2 : (bt x1 0 == 63) = false := by rw [hbt]; rfl
  clear hbt
  have hxs : x1.extract 1 x1.size = ofL t := by rw [Yuc, HXD.out]; rfl
  obtain ⟨km, hm⟩ := Yck (ofL t) ⟨#[96]⟩ (by rw [Yy]; simp only [List.length_cons] at hbl; omega) Zca
  have HM := Ya.mk (show Ys.f km (x1.extract 1 x1.size) ⟨#[96]⟩ = some tf from by rw [hxs, h2]; exact hm km (Kw _))
  clear hm hxs hbl h2
  have b1 : (1 : Int) ≤ (x1.size : Int) := by omega
  go_wp2_with fail
  refine (Ys.calls km _ _ _ _ (HE.out.below dL.out) HM.out).mono ?_
  rintro e w5 ⟨rfl, hb5⟩
  have lR := Ya.mk (Yla uV.out hb5)
  have eB := Ya.mk (Yla zA.out hb5)
  have cM := Ya.mk (dL.out.trans (hb5.mono dL.out.size))
  clear hcz hfz
  have hcy := (Yf lR.out 7).trans rfl
  have hfy := Ye lR.out 7
  have BK6 := Ya.mk (Yoa lR.out 7 (.bool true) rfl)
  have BZ6 := Ya.mk (Yvb eB.out (p := ⟨w.heap.size, 7, none⟩) Zv (.bool true))
  have jH := Ya.mk (Yg (j := 7) (v := .bool true) cM.out (Kw _))
  have hcx := (Yf BK6.out 5).trans rfl
  have hfx := Ye BK6.out 5
  have pD := Ya.mk (Yoa BK6.out 5 (.string tf) rfl)
  have BZ7 := Ya.mk (Yvb BZ6.out (p := ⟨w.heap.size, 5, none⟩) Zv (.string tf))
  have HB7 := Ya.mk (Yg (j := 5) (v := .string tf) jH.out (Kw _))
  subst h1 h3 h4
  have cQ := (Yf pD.out 0).trans rfl
  have cB := (Yf pD.out 1).trans rfl
  have cN := (Yf pD.out 2).trans rfl
  have cX := (Yf pD.out 3).trans rfl
  have cU := (Yf pD.out 4).trans rfl
  have cT := (Yf pD.out 5).trans rfl
  have cY := (Yf pD.out 6).trans rfl
  have cR := (Yf pD.out 7).trans rfl
  go_wp2_with (refine wpList_store_row rfl 25 (.tmp 4) (.tmp 48) rfl (w.heap.size + 1) (uc s h p path ⟨#[]⟩ tf false true) rfl rfl 25 _ BZ7.out bD rfl (Ypb _ _ _ _ _ _ _ _) ?_)
  refine bodyPost_ret (results_cell_row rfl _ _ (w.heap.size + 1) 25 (uc s h p path ⟨#[]⟩ tf false true) (0, 0) _ rfl (setRow_heap _ _ _ _ _ _ BZ7.out) bQ rfl bD) rfl ?_
  exact ⟨rfl, below_setRow HB7.out Zk _⟩
theorem Yac.calls (aE aJ : Y) (aN : Int) (aG aM aK : Y) (aU aV : Bool) (a1 r1 r2 : Y) (r3 : Int) (r4 r5 r6 : Y) (r7 r8 : Bool) (w : World) (hE : EnvOk w) (h : Yac.f aE aJ aN aG aM aK aU aV a1 = some (r1, r2, r3, r4, r5, r6, r7, r8)) :
  Calls Tryz.prog 18 #[.agg #[.string aE, .string aJ, .int .i64 aN, .string aG, .string aM, .string aK, .bool aU, .bool aV], .string a1] w fun e w' => e = .returned (.agg #[.string r1, .string r2, .int .i64 r3, .string r4, .string r5, .string r6, .bool r7, .bool r8]) ∧ Below w.heap.size w w' := by
 unfold Yac.f at h
 by_cases hs : a1.size ≤ 30000000
 ·rw [if_pos hs] at h
  simp only [Kda, Kea] at h
  obtain ⟨rfl, rfl, rfl, rfl, rfl, rfl, rfl, rfl⟩ := h
  exact Ypu aE aJ aN aG aM aK aU aV a1 w hE hs
 ·rw [if_neg hs] at h; cases h
end Go.Proofs.YtnmglnglbdpjjaaGreatDoor.X
end
