/- Texts of this seat's proof that belong together. -/
import Derived.Test.YtnmglnglbdpjjaaGreatDoorUkH4
import Derived.Test.YtnmglnglbdpjjaaGreatDoorUkWords
import Derived.Test.YtnmglnglbdpjjaaGreatDoorUkZp
section
namespace Go.Proofs.YtnmglnglbdpjjaaGreatDoor.X
open Go.RowKit Go.Lib Go.Shelf Go.Yw.PrintWords Go.Yw.PrintLast Go.Yw.PrintMore
set_option linter.unusedVariables false
set_option linter.unusedSimpArgs false
abbrev aliveIn : ByteArray := ⟨#[72, 84, 84, 80, 58, 47, 47, 69, 120, 46, 111, 114, 103, 58, 56, 48, 47, 97, 47, 46, 47, 98, 47, 46, 46, 47, 99, 63, 120, 35, 121]⟩
abbrev aliveOut : ByteArray := ⟨#[104, 116, 116, 112, 58, 47, 47, 101, 120, 46, 111, 114, 103, 47, 97, 47, 99, 63, 120, 35, 121]⟩
def aliveAt (k : Nat) : Prop :=
 Ysd.f k aliveIn = some (⟨#[104, 116, 116, 112]⟩, ⟨#[101, 120, 46, 111, 114, 103]⟩, 0, ⟨#[47, 97, 47, 99]⟩, ⟨#[120]⟩, ⟨#[121]⟩, true, true, 0) ∧
 Ysb.f k ⟨#[104, 116, 116, 112]⟩ ⟨#[101, 120, 46, 111, 114, 103]⟩ 0 ⟨#[47, 97, 47, 99]⟩ ⟨#[120]⟩ ⟨#[121]⟩ true true = some aliveOut
theorem eqH25 (d : Nat) (w : World) (x0 y0 x1 y1 : ByteArray) (x2 y2 : Int) (x3 y3 x4 y4 x5 y5 : ByteArray) (x6 y6 x7 y7 : Bool) :
  (Op.equalIn (d + 2) 25 (.agg #[.string x0, .string x1, .int .i64 x2, .string x3, .string x4, .string x5, .bool x6, .bool x7]) (.agg #[.string y0, .string y1, .int .i64 y2, .string y3, .string y4, .string y5, .bool y6, .bool y7])).run Tryz.prog w = .ok (x0.toList == y0.toList && (x1.toList == y1.toList && (x2 == y2 && (x3.toList == y3.toList && (x4.toList == y4.toList && (x5.toList == y5.toList && (x6 == y6 && (x7 == y7)))))))) w := by
 refine eqA_of Tryz.underlying25 Zi ?_
 refine Ywf Zja (by go_simp; rfl) (by go_simp; rfl) (by go_simp) ?_
 refine Ywf Zja (by go_simp; rfl) (by go_simp; rfl) (by go_simp) ?_
 refine Ywf Zja (by go_simp; rfl) (by go_simp; rfl) (by go_simp) ?_
 refine Ywf Zja (by go_simp; rfl) (by go_simp; rfl) (by go_simp) ?_
 refine Ywf Zja (by go_simp; rfl) (by go_simp; rfl) (by go_simp) ?_
 refine Ywf Zja (by go_simp; rfl) (by go_simp; rfl) (by go_simp) ?_
 refine Ywf Zja (by go_simp; rfl) (by go_simp; rfl) (by go_simp) ?_
 exact Yss Zja (by go_simp; rfl) (by go_simp; rfl) (by go_simp)
theorem eqAlive (d : Nat) (w : World) : (Op.equalIn (d + 2) 25 (.agg #[.string ⟨#[104, 116, 116, 112]⟩, .string ⟨#[101, 120, 46, 111, 114, 103]⟩, .int .i64 0, .string ⟨#[47, 97, 47, 99]⟩, .string ⟨#[120]⟩, .string ⟨#[121]⟩, .bool true, .bool true]) (.agg #[.string ⟨#[104, 116, 116, 112]⟩, .string ⟨#[101, 120, 46, 111, 114, 103]⟩, .int .i64 0, .string ⟨#[47, 97, 47, 99]⟩, .string ⟨#[120]⟩, .string ⟨#[121]⟩, .bool true, .bool true])).run Tryz.prog w = .ok true w := by
 rw [eqH25]
 simp only [beq_self_eq_true, Bool.and_self]
attribute [local go_sem high] eqAlive
instance eqUrl5 : DecidableEq (ByteArray × ByteArray × Bool × Bool × Int) := inferInstance
instance eqUrl3 : DecidableEq (Int × ByteArray × ByteArray × ByteArray × Bool × Bool × Int) := inferInstance
instance eqUrl1 : DecidableEq (ByteArray × ByteArray × Int × ByteArray × ByteArray × ByteArray × Bool × Bool × Int) := inferInstance
instance (k : Nat) : Decidable (aliveAt k) := by unfold aliveAt; infer_instance
end Go.Proofs.YtnmglnglbdpjjaaGreatDoor.X
end
section
namespace Go.Proofs.YtnmglnglbdpjjaaGreatDoor.X
open Go.RowKit Go.Lib Go.Shelf Go.Yw.PrintWords Go.Yw.PrintLast Go.Yw.PrintMore
set_option linter.unusedVariables false
set_option linter.unusedSimpArgs false
abbrev uc (u1 u2 : ByteArray) (u3 : Int) (u4 u5 u6 : ByteArray) (u7 u8 : Bool) : Array Value := #[.string u1, .string u2, .int .i64 u3, .string u4, .string u5, .string u6, .bool u7, .bool u8]
theorem Ycc (w : World) (o : Obj) : (w.alloc o).heap.size = w.heap.size + 1 := by simp
def Yaf.f (aC aH : ByteArray) (aJ : Int) (aG aI aK : ByteArray) (aQ aR : Bool) (a1 : ByteArray) : Option (ByteArray × ByteArray × Int × ByteArray × ByteArray × ByteArray × Bool × Bool) :=
 if a1.size ≤ 30000000 then some (aC, aH, aJ, Ymd a1.data.toList, Yhc a1.data.toList, Ypc a1.data.toList, Yid a1.data.toList, Yfd a1.data.toList) else none
set_option maxHeartbeats 8000000 in
set_option maxRecDepth 100000 in
theorem Yit (s h : ByteArray) (p : Int) (o3 o4 o5 : ByteArray) (o6 o7 : Bool) (a1 : ByteArray) (w : World) (hE : EnvOk w) (hs : a1.size ≤ 30000000) :
  Calls Tryz.prog 18 #[.agg (uc s h p o3 o4 o5 o6 o7), .string a1] w fun e w' => e = .returned (.agg (uc s h p (Ymd a1.data.toList) (Yhc a1.data.toList) (Ypc a1.data.toList) (Yid a1.data.toList) (Yfd a1.data.toList))) ∧ Below w.heap.size w w' := by
 have HE := Ya.mk hE
 have cB := Tryz.underlying25
 have bX : (Tryz.prog.info? 25).map (·.size) = some 8 := by kernel_rfl
 obtain ⟨n0, hn0⟩ : ∃ n, n = (Ywi a1.data.toList).length := ⟨_, rfl⟩
 have hn0s : n0 ≤ a1.size := by rw [hn0, Lib.size_eq]; exact Ywr _
 obtain ⟨k0, hk0⟩ := Yjm a1 ⟨#[63, 35]⟩ Zl Zea
 have hu0 : Ypa.f k0 a1 ⟨#[63, 35]⟩ = some ((n0 : Nat) : Int) := by rw [hn0]; exact hk0 k0 (Nat.le_refl _)
 have hx0 : a1.extract 0 n0 = ofL (Ywi a1.data.toList) := by
  rw [Yye, hn0]; unfold Ywi
  congr 1
  have := List.take_left (l₁ := a1.data.toList.takeWhile (Ybb [63, 35])) (l₂ := a1.data.toList.dropWhile (Ybb [63, 35]))
  rw [List.takeWhile_append_dropWhile] at this; exact this
 have xI : a1.extract n0 a1.size = ofL (Yfe a1.data.toList) := by
  rw [Yyc, hn0]; unfold Ywi Yfe
  congr 1
  have := List.drop_left (l₁ := a1.data.toList.takeWhile (Ybb [63, 35])) (l₂ := a1.data.toList.dropWhile (Ybb [63, 35]))
  rw [List.takeWhile_append_dropWhile] at this; exact this
 have hp0 : Ycf.f (a1.extract 0 n0) = some (Ymd a1.data.toList) := by
  unfold Ycf.f
  rw [if_pos Zqa, hx0, Ygb]; rfl
 obtain ⟨bh, hbh⟩ : ∃ bh, bh = Yfe a1.data.toList := ⟨_, rfl⟩
 obtain ⟨x1, hxd⟩ : ∃ x, x = a1.extract n0 a1.size := ⟨_, rfl⟩
 have hx1d : x1.data.toList = bh := by rw [hxd, xI, hbh]; rfl
 have hbl : bh.length ≤ a1.size := by rw [hbh, Lib.size_eq]; exact Yil _
 have hx1s : x1.size = bh.length := by rw [Lib.size_eq, hx1d]
 have hsh : bh = [] ∨ (∃ t, bh = 63 :: t) ∨ (∃ t, bh = 35 :: t) := by
  rw [hbh]; unfold Yfe
  cases hd : a1.data.toList.dropWhile (Ybb [63, 35]) with
  | nil => exact .inl rfl
  | cons b t =>
   have := List.head?_dropWhile_not (Ybb [63, 35]) a1.data.toList
   rw [hd] at this
   simp only [List.head?_cons, Ybb, Bool.not_eq_true'] at this
   have h2 : ¬ b = 63 → b = 35 := by simpa using this
   have h3 : b = 63 ∨ b = 35 := by
    by_cases hb : b = 63
    ·exact .inl hb
    ·exact .inr (h2 hb)
   rcases h3 with rfl | rfl
   ·exact .inr (.inl ⟨t, rfl⟩)
   ·exact .inr (.inr ⟨t, rfl⟩)
 have hT : Yhc a1.data.toList = (match Ybf bh with | some q => ofL (Yoc Yog q) | none => ⟨#[]⟩) ∧ Ypc a1.data.toList = (match Yrf (Yfb bh) with | some q => ofL (Yoc Yzg q) | none => ⟨#[]⟩) ∧ Yid a1.data.toList = (match Ybf bh with | some _ => true | none => false) ∧ Yfd a1.data.toList = (match Yrf (Yfb bh) with | some _ => true | none => false) := by
  rw [hbh]; exact ⟨rfl, rfl, rfl, rfl⟩
 obtain ⟨path, hpath⟩ : ∃ x, x = Ymd a1.data.toList := ⟨_, rfl⟩
 obtain ⟨tq, htq⟩ : ∃ x, x = Yhc a1.data.toList := ⟨_, rfl⟩
 obtain ⟨tf, htf⟩ : ∃ x, x = Ypc a1.data.toList := ⟨_, rfl⟩
 obtain ⟨bq, hbq⟩ : ∃ x, x = Yid a1.data.toList := ⟨_, rfl⟩
 obtain ⟨bf, hbf⟩ : ∃ x, x = Yfd a1.data.toList := ⟨_, rfl⟩
 rw [← htq, ← htf, ← hbq, ← hbf] at hT
 rw [← hpath] at hp0
 rw [← hpath, ← htq, ← htf, ← hbq, ← hbf]
 have HU0 := Ya.mk hu0
 have HP0 := Ya.mk hp0
 have HT := Ya.mk hT
 have HXD := Ya.mk hx1d
 have hxe := hxd.symm
 clear hu0 hp0 hx0 xI hk0 hE hn0 hbh hxd hpath htq htf hbq hbf hT hx1d
 have hbkA := heap_alloc_new w (.cells (uc s h p o3 o4 o5 o6 o7) 25)
 have hbk := Yj hbkA (.cells urlZ 25)
 have HBA := Ya.mk ((Below.refl w.heap.size w).alloc (Nat.le_refl _) (.cells (uc s h p o3 o4 o5 o6 o7) 25))
 have HBB := Ya.mk (HBA.out.alloc HBA.out.size (.cells urlZ 25))
 have HZ := Ya.mk hbk
 have HZ4 := Ya.mk (heap_alloc_new (w.alloc (.cells (uc s h p o3 o4 o5 o6 o7) 25)) (.cells urlZ 25))
 have bN := (Yf hbk 0).trans rfl
 have bM := (Yf hbk 1).trans rfl
 have bO := (Yf hbk 2).trans rfl
 clear hbk hbkA
 go_enter Tryz.func18, Tryz.ntmps18
 go_wp2_with (refine wpList_store_row rfl 25 (.tmp 2) (.tmp 12) rfl w.heap.size (uc s h p ⟨#[]⟩ ⟨#[]⟩ ⟨#[]⟩ false false) rfl rfl 25 _ HZ.out bX rfl (Yvc _ _ _ _ _ _ _ _) ?_)
 have aJU : (w.alloc (.cells (uc s h p o3 o4 o5 o6 o7) 25)).heap.size = w.heap.size + 1 := Ycc _ _
 rw [aJU] at HZ4
 clear aJU bN bM bO
 have BK1 := Ya.mk (setRow_heap _ _ _ (uc s h p ⟨#[]⟩ ⟨#[]⟩ ⟨#[]⟩ false false) _ _ HZ.out)
 have BZ1 := Ya.mk ((setRow_other _ w.heap.size (w.heap.size + 1) (uc s h p ⟨#[]⟩ ⟨#[]⟩ ⟨#[]⟩ false false) Zl).trans HZ4.out)
 have iE := Ya.mk (below_setRow HBB.out (Nat.le_refl _) (uc s h p ⟨#[]⟩ ⟨#[]⟩ ⟨#[]⟩ false false))
 clear HZ HZ4 HBA HBB
 obtain ⟨w1, hw⟩ : ∃ W, W = ((w.alloc (.cells (uc s h p o3 o4 o5 o6 o7) 25)).alloc (.cells urlZ 25)).setRow w.heap.size (uc s h p ⟨#[]⟩ ⟨#[]⟩ ⟨#[]⟩ false false) := ⟨_, rfl⟩
 rw [← hw] at BK1 BZ1 iE ⊢
 clear hw
 have lR := Ya.mk (HE.out.below iE.out)
 refine (Ypa.calls k0 _ _ _ _ lR.out HU0.out).mono ?_
 rintro e w2' ⟨rfl, ⟨nd, rfl⟩⟩
 have BK2 := Ya.mk (Ym BK1.out nd)
 have uH := Ya.mk (Ym BZ1.out nd)
 have eM := Ya.mk (Yb iE.out nd)
 obtain ⟨w2, hw⟩ : ∃ W, W = w1.drewN nd := ⟨_, rfl⟩
 rw [← hw] at BK2 uH eM ⊢
 clear hw BK1 BZ1 iE lR
 have vE := Ya.mk (HE.out.below eM.out)
 go_wp2_with fail
 refine (Ycf.calls _ _ _ vE.out HP0.out).mono ?_
 rintro e w3 ⟨rfl, gP⟩
 have BK3 := Ya.mk (Yq BK2.out gP)
 have BZ3 := Ya.mk (Yq uH.out gP)
 have eG := Ya.mk (eM.out.trans (gP.mono eM.out.size))
 have hcz := (Yf BK3.out 3).trans rfl
 have hfz := Ye BK3.out 3
 have vH := Ya.mk (Yoa BK3.out 3 (.string path) rfl)
 have BZ4 := Ya.mk (Yzb BZ3.out (p := ⟨w.heap.size, 3, none⟩) Zv (.string path))
 have dO := Ya.mk (Yg (j := 3) (v := .string path) eG.out (Nat.le_refl _))
 clear gP BK2 uH eM vE BK3 BZ3 eG
 rcases hsh with rfl | ⟨t, rfl⟩ | ⟨t, rfl⟩
 ·obtain ⟨h1, h2, h3, h4⟩ := HT.out
  simp only [Ybf, Yfb, Yrf] at h1 h2 h3 h4
  subst h1 h2 h3 h4
  have e1 : (x1.toList != ([] : List UInt8)) = false := by rw [Lib.toList_data, HXD.out]; rfl
  have e0 : (x1.toList == ([] : List UInt8)) = true := by rw [Lib.toList_data, HXD.out]; rfl
  clear hx1s hbl
  have bN := (Yf vH.out 0).trans rfl
  have bM := (Yf vH.out 1).trans rfl
  have bO := (Yf vH.out 2).trans rfl
  have bS := (Yf vH.out 3).trans rfl
  have bR := (Yf vH.out 4).trans rfl
  have bQ := (Yf vH.out 5).trans rfl
  have bT := (Yf vH.out 6).trans rfl
  have bP := (Yf vH.out 7).trans rfl
  go_wp2_with (refine wpList_store_row rfl 25 (.tmp 4) (.tmp 48) rfl (w.heap.size + 1) (uc s h p path ⟨#[]⟩ ⟨#[]⟩ false false) rfl rfl 25 _ BZ4.out bX rfl (Yvc _ _ _ _ _ _ _ _) ?_)
  refine bodyPost_ret (results_cell_row rfl _ _ (w.heap.size + 1) 25 (uc s h p path ⟨#[]⟩ ⟨#[]⟩ false false) (0, 0) _ rfl (setRow_heap _ _ _ _ _ _ BZ4.out) cB rfl bX) rfl ?_
  exact ⟨rfl, below_setRow dO.out Zl _⟩
 ·obtain ⟨h1, h2, h3, h4⟩ := HT.out
  simp only [Ybf, Yfb, if_true] at h1 h2 h3 h4
  have e1 : (x1.toList != ([] : List UInt8)) = true := by rw [Lib.toList_data, HXD.out]; rfl
  have e0 : (x1.toList == ([] : List UInt8)) = false := by rw [Lib.toList_data, HXD.out]; rfl
  have hx1s2 : 0 < x1.size := by rw [hx1s]; simp
  have hx1l : x1.size = t.length + 1 := by rw [hx1s]; simp
  have hbt : bt x1 0 = 63 := (Ydd x1 0 63 t HXD.out).2.1
  obtain ⟨n1, kF⟩ : ∃ n, n = (t.takeWhile (Ybb [35])).length := ⟨_, rfl⟩
  have hn1s : n1 ≤ t.length := by rw [kF]; exact Yxe _ _
  have ht1 : (63 :: t).takeWhile (Ybb [35]) = 63 :: t.takeWhile (Ybb [35]) := by rw [List.takeWhile_cons_of_pos Zea]
  have ht2 : (63 :: t).dropWhile (Ybb [35]) = t.dropWhile (Ybb [35]) := by rw [List.dropWhile_cons_of_pos Zea]
  simp only [List.length_cons] at hbl
  obtain ⟨k1, vF⟩ := Yjm x1 ⟨#[35]⟩ Zl Zea
  have HU1 := Ya.mk (show Ypa.f k1 x1 ⟨#[35]⟩ = some ((n1 + 1 : Nat) : Int) from by
   have h9 : Ypa.f k1 x1 ⟨#[35]⟩ = _ := vF k1 (Nat.le_refl _)
   rw [h9, HXD.out]
   show some ((((63 :: t).takeWhile (Ybb [35])).length : Nat) : Int) = _
   rw [ht1, List.length_cons, kF])
  have hxs : x1.extract 1 (n1 + 1) = ofL (t.takeWhile (Ybb [35])) := by
   rw [Yhh, HXD.out, show n1 + 1 - 1 = n1 by omega, kF]
   show ofL (t.take _) = _
   congr 1
   have := List.take_left (l₁ := t.takeWhile (Ybb [35])) (l₂ := t.dropWhile (Ybb [35]))
   rw [List.takeWhile_append_dropWhile] at this; exact this
  have hxr : (x1.extract (n1 + 1) x1.size).data.toList = t.dropWhile (Ybb [35]) := by
   rw [Yyc, HXD.out, kF, Ygb]
   show t.drop _ = _
   have := List.drop_left (l₁ := t.takeWhile (Ybb [35])) (l₂ := t.dropWhile (Ybb [35]))
   rw [List.takeWhile_append_dropWhile] at this; exact this
  obtain ⟨km, hm⟩ := Yfk (ofL (t.takeWhile (Ybb [35]))) ⟨#[35, 39]⟩ (by rw [Yea, ← kF]; omega) Zea
  have HM := Ya.mk (show Yt.f km (x1.extract 1 (n1 + 1)) ⟨#[35, 39]⟩ = some tq from by rw [hxs, h1]; exact hm km (Nat.le_refl _))
  obtain ⟨x2, wM⟩ : ∃ x, x = x1.extract (n1 + 1) x1.size := ⟨_, rfl⟩
  rw [← wM] at hxr
  have hxf := wM.symm
  have HXR := Ya.mk hxr
  have aWl : (t.dropWhile (Ybb [35]) = [] ∧ tf = ⟨#[]⟩ ∧ bf = false) ∨ (∃ u, t.dropWhile (Ybb [35]) = 35 :: u ∧ tf = ofL (Yoc Yzg u) ∧ bf = true ∧ u.length ≤ t.length) := by
   have hdl := Yue (Ybb [35]) t
   cases hd : t.dropWhile (Ybb [35]) with
   | nil => rw [hd] at h2 h4; exact .inl ⟨rfl, h2, h4⟩
   | cons b u =>
    have := List.head?_dropWhile_not (Ybb [35]) t
    rw [hd] at this hdl
    simp only [List.head?_cons, Ybb, Bool.not_eq_true'] at this
    have hb : b = 35 := by simpa using this
    subst hb
    rw [hd] at h2 h4
    simp only [Yrf, if_true] at h2 h4
    simp only [List.length_cons] at hdl
    exact .inr ⟨u, rfl, h2, h4, Zl⟩
  have H3 := Ya.mk h3
  have b1 : (1 : Int) ≤ ((n1 + 1 : Nat) : Int) := by omega
  have b2 : ((n1 + 1 : Nat) : Int) ≤ (x1.size : Int) := by omega
  have b3 : n1 + 1 ≤ x1.size := by omega
  have kN : ∀ h : 0 < x1.size, ((x1[0]'h).toNat : Int) = bt x1 0 := Yab x1 0
  have q4 := eq_true hx1s2
  have qi4 : (0 < (x1.size : Int)) = True := eq_true Zl
  have cJ : decide (0 < (x1.size : Int)) = true := decide_eq_true Zl
  have fY : decide (0 < x1.size) = true := decide_eq_true hx1s2
  have e2 : (bt x1 0 == 63) = true := by rw [hbt]; rfl
  clear hbt hm hxs h1 h2 h3 h4 vF ht1 ht2 wM hxr hx1s kF hx1s2 hx1l
  have aWm := Ya.mk hbl
  have aYs := Ya.mk hn1s
  clear hbl hn1s
  go_wp2_with fail
  refine (Ypa.calls k1 _ _ _ _ (HE.out.below dO.out) HU1.out).mono ?_
  rintro e w5' ⟨rfl, ⟨nd2, rfl⟩⟩
  have lV := Ya.mk (Ym vH.out nd2)
  have eC := Ya.mk (Ym BZ4.out nd2)
  have cU := Ya.mk (Yb dO.out nd2)
  obtain ⟨w5, hw⟩ : ∃ W, W = (w3.setCell ⟨w.heap.size, 3, none⟩ (.string path)).drewN nd2 := ⟨_, rfl⟩
  rw [← hw] at lV eC cU ⊢
  clear hw vH BZ4 dO hcz hfz
  go_wp2_with fail
  refine (Yt.calls km _ _ _ _ (HE.out.below cU.out) HM.out).mono ?_
  rintro e w6 ⟨rfl, hb6⟩
  have BK6 := Ya.mk (Yq lV.out hb6)
  have BZ6 := Ya.mk (Yq eC.out hb6)
  have jJ := Ya.mk (cU.out.trans (hb6.mono cU.out.size))
  clear hb6
  have hcy := (Yf BK6.out 6).trans rfl
  have hfy := Ye BK6.out 6
  have pV := Ya.mk (Yoa BK6.out 6 (.bool true) rfl)
  have BZ7 := Ya.mk (Yzb BZ6.out (p := ⟨w.heap.size, 6, none⟩) Zv (.bool true))
  have HB7 := Ya.mk (Yg (j := 6) (v := .bool true) jJ.out (Nat.le_refl _))
  have hcx := (Yf pV.out 4).trans rfl
  have hfx := Ye pV.out 4
  have BK8 := Ya.mk (Yoa pV.out 4 (.string tq) rfl)
  have BZ8 := Ya.mk (Yzb BZ7.out (p := ⟨w.heap.size, 4, none⟩) Zv (.string tq))
  have HB8 := Ya.mk (Yg (j := 4) (v := .string tq) HB7.out (Nat.le_refl _))
  have h3 := H3.out
  subst h3
  rcases aWl with ⟨hd, rfl, rfl⟩ | ⟨u, hd, htf, rfl, hul⟩
  ·have f1 : (x2.toList != ([] : List UInt8)) = false := by rw [Lib.toList_data, HXR.out, hd]; rfl
   have f0 : (x2.toList == ([] : List UInt8)) = true := by rw [Lib.toList_data, HXR.out, hd]; rfl
   clear hd
   have bN := (Yf BK8.out 0).trans rfl
   have bM := (Yf BK8.out 1).trans rfl
   have bO := (Yf BK8.out 2).trans rfl
   have bS := (Yf BK8.out 3).trans rfl
   have bR := (Yf BK8.out 4).trans rfl
   have bQ := (Yf BK8.out 5).trans rfl
   have bT := (Yf BK8.out 6).trans rfl
   have bP := (Yf BK8.out 7).trans rfl
   go_wp2_with (refine wpList_store_row rfl 25 (.tmp 4) (.tmp 48) rfl (w.heap.size + 1) (uc s h p path tq ⟨#[]⟩ true false) rfl rfl 25 _ BZ8.out bX rfl (Yvc _ _ _ _ _ _ _ _) ?_)
   refine bodyPost_ret (results_cell_row rfl _ _ (w.heap.size + 1) 25 (uc s h p path tq ⟨#[]⟩ true false) (0, 0) _ rfl (setRow_heap _ _ _ _ _ _ BZ8.out) cB rfl bX) rfl ?_
   exact ⟨rfl, below_setRow HB8.out Zl _⟩
  ·have f1 : (x2.toList != ([] : List UInt8)) = true := by rw [Lib.toList_data, HXR.out, hd]; rfl
   have f0 : (x2.toList == ([] : List UInt8)) = false := by rw [Lib.toList_data, HXR.out, hd]; rfl
   have hx2l : x2.size = u.length + 1 := by rw [Lib.size_eq, HXR.out, hd]; simp
   have b5 : (1 : Int) ≤ (x2.size : Int) := by omega
   have hys : x2.extract 1 x2.size = ofL u := by rw [Yyc, HXR.out, hd]; rfl
   obtain ⟨kf, hm⟩ := Yfk (ofL u) ⟨#[96]⟩ (by rw [Yea]; have := aWm.out; omega) Zea
   have HM2 := Ya.mk (show Yt.f kf (x2.extract 1 x2.size) ⟨#[96]⟩ = some tf from by rw [hys, htf]; exact hm kf (Nat.le_refl _))
   clear hm hys htf hd hul hx2l
   go_wp2_with fail
   refine (Yt.calls kf _ _ _ _ (HE.out.below HB8.out) HM2.out).mono ?_
   rintro e w9 ⟨rfl, hb9⟩
   have BK9 := Ya.mk (Yq BK8.out hb9)
   have BZ9 := Ya.mk (Yq BZ8.out hb9)
   have HB9 := Ya.mk (HB8.out.trans (hb9.mono HB8.out.size))
   clear hcy hfy hcx hfx hb9
   have hcy := (Yf BK9.out 7).trans rfl
   have hfy := Ye BK9.out 7
   have BKa := Ya.mk (Yoa BK9.out 7 (.bool true) rfl)
   have BZa := Ya.mk (Yzb BZ9.out (p := ⟨w.heap.size, 7, none⟩) Zv (.bool true))
   have HBa := Ya.mk (Yg (j := 7) (v := .bool true) HB9.out (Nat.le_refl _))
   have hcx := (Yf BKa.out 5).trans rfl
   have hfx := Ye BKa.out 5
   have BKb := Ya.mk (Yoa BKa.out 5 (.string tf) rfl)
   have BZb := Ya.mk (Yzb BZa.out (p := ⟨w.heap.size, 5, none⟩) Zv (.string tf))
   have HBb := Ya.mk (Yg (j := 5) (v := .string tf) HBa.out (Nat.le_refl _))
   have bN := (Yf BKb.out 0).trans rfl
   have bM := (Yf BKb.out 1).trans rfl
   have bO := (Yf BKb.out 2).trans rfl
   have bS := (Yf BKb.out 3).trans rfl
   have bR := (Yf BKb.out 4).trans rfl
   have bQ := (Yf BKb.out 5).trans rfl
   have bT := (Yf BKb.out 6).trans rfl
   have bP := (Yf BKb.out 7).trans rfl
   go_wp2_with (refine wpList_store_row rfl 25 (.tmp 4) (.tmp 48) rfl (w.heap.size + 1) (uc s h p path tq tf true true) rfl rfl 25 _ BZb.out bX rfl (Yvc _ _ _ _ _ _ _ _) ?_)
   refine bodyPost_ret (results_cell_row rfl _ _ (w.heap.size + 1) 25 (uc s h p path tq tf true true) (0, 0) _ rfl (setRow_heap _ _ _ _ _ _ BZb.out) cB rfl bX) rfl ?_
   exact ⟨rfl, below_setRow HBb.out Zl _⟩
 ·obtain ⟨h1, h2, h3, h4⟩ := HT.out
  simp only [Ybf, Yfb, Yrf, show ¬ (35 : UInt8) = 63 from by decide, if_false, if_true] at h1 h2 h3 h4
  have e1 : (x1.toList != ([] : List UInt8)) = true := by rw [Lib.toList_data, HXD.out]; rfl
  have e0 : (x1.toList == ([] : List UInt8)) = false := by rw [Lib.toList_data, HXD.out]; rfl
  have hx1s2 : 0 < x1.size := by rw [hx1s]; simp
  clear hx1s
  have hbt : bt x1 0 = 35 := (Ydd x1 0 35 t HXD.out).2.1
  have kN : ∀ h : 0 < x1.size, ((x1[0]'h).toNat : Int) = bt x1 0 := Yab x1 0
  have q4 := eq_true hx1s2
  have qi4 : (0 < (x1.size : Int)) = True := eq_true Zl
  have cJ : decide (0 < (x1.size : Int)) = true := decide_eq_true Zl
  have fY : decide (0 < x1.size) = true := decide_eq_true hx1s2
  have e2 : (bt x1 0 == 63) = false := by rw [hbt]; rfl
  clear hbt
  have hxs : x1.extract 1 x1.size = ofL t := by rw [Yyc, HXD.out]; rfl
  obtain ⟨km, hm⟩ := Yfk (ofL t) ⟨#[96]⟩ (by rw [Yea]; simp only [List.length_cons] at hbl; omega) Zea
  have HM := Ya.mk (show Yt.f km (x1.extract 1 x1.size) ⟨#[96]⟩ = some tf from by rw [hxs, h2]; exact hm km (Nat.le_refl _))
  clear hm hxs hbl h2
  have b1 : (1 : Int) ≤ (x1.size : Int) := by omega
  go_wp2_with fail
  refine (Yt.calls km _ _ _ _ (HE.out.below dO.out) HM.out).mono ?_
  rintro e w5 ⟨rfl, hb5⟩
  have lV := Ya.mk (Yq vH.out hb5)
  have eC := Ya.mk (Yq BZ4.out hb5)
  have cU := Ya.mk (dO.out.trans (hb5.mono dO.out.size))
  clear hcz hfz
  have hcy := (Yf lV.out 7).trans rfl
  have hfy := Ye lV.out 7
  have BK6 := Ya.mk (Yoa lV.out 7 (.bool true) rfl)
  have BZ6 := Ya.mk (Yzb eC.out (p := ⟨w.heap.size, 7, none⟩) Zv (.bool true))
  have jJ := Ya.mk (Yg (j := 7) (v := .bool true) cU.out (Nat.le_refl _))
  have hcx := (Yf BK6.out 5).trans rfl
  have hfx := Ye BK6.out 5
  have pV := Ya.mk (Yoa BK6.out 5 (.string tf) rfl)
  have BZ7 := Ya.mk (Yzb BZ6.out (p := ⟨w.heap.size, 5, none⟩) Zv (.string tf))
  have HB7 := Ya.mk (Yg (j := 5) (v := .string tf) jJ.out (Nat.le_refl _))
  subst h1 h3 h4
  have bN := (Yf pV.out 0).trans rfl
  have bM := (Yf pV.out 1).trans rfl
  have bO := (Yf pV.out 2).trans rfl
  have bS := (Yf pV.out 3).trans rfl
  have bR := (Yf pV.out 4).trans rfl
  have bQ := (Yf pV.out 5).trans rfl
  have bT := (Yf pV.out 6).trans rfl
  have bP := (Yf pV.out 7).trans rfl
  go_wp2_with (refine wpList_store_row rfl 25 (.tmp 4) (.tmp 48) rfl (w.heap.size + 1) (uc s h p path ⟨#[]⟩ tf false true) rfl rfl 25 _ BZ7.out bX rfl (Yvc _ _ _ _ _ _ _ _) ?_)
  refine bodyPost_ret (results_cell_row rfl _ _ (w.heap.size + 1) 25 (uc s h p path ⟨#[]⟩ tf false true) (0, 0) _ rfl (setRow_heap _ _ _ _ _ _ BZ7.out) cB rfl bX) rfl ?_
  exact ⟨rfl, below_setRow HB7.out Zl _⟩
theorem Yaf.calls (aC aH : ByteArray) (aJ : Int) (aG aI aK : ByteArray) (aQ aR : Bool) (a1 r1 r2 : ByteArray) (r3 : Int) (r4 r5 r6 : ByteArray) (r7 r8 : Bool) (w : World) (hE : EnvOk w) (h : Yaf.f aC aH aJ aG aI aK aQ aR a1 = some (r1, r2, r3, r4, r5, r6, r7, r8)) :
  Calls Tryz.prog 18 #[.agg #[.string aC, .string aH, .int .i64 aJ, .string aG, .string aI, .string aK, .bool aQ, .bool aR], .string a1] w fun e w' => e = .returned (.agg #[.string r1, .string r2, .int .i64 r3, .string r4, .string r5, .string r6, .bool r7, .bool r8]) ∧ Below w.heap.size w w' := by
 unfold Yaf.f at h
 by_cases hs : a1.size ≤ 30000000
 ·rw [if_pos hs] at h
  simp only [Option.some.injEq, Prod.mk.injEq] at h
  obtain ⟨rfl, rfl, rfl, rfl, rfl, rfl, rfl, rfl⟩ := h
  exact Yit aC aH aJ aG aI aK aQ aR a1 w hE hs
 ·rw [if_neg hs] at h; cases h
end Go.Proofs.YtnmglnglbdpjjaaGreatDoor.X
end
