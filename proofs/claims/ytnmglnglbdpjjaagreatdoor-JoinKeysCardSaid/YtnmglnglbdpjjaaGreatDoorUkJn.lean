/- Link, the program's and the document's: what a call of it gives. -/
import Derived.Test.YtnmglnglbdpjjaaGreatDoorUkWords
import Derived.Test.YtnmglnglbdpjjaaGreatDoorUkJq
import Derived.Test.YtnmglnglbdpjjaaGreatDoorUkX13
namespace Go.Proofs.YtnmglnglbdpjjaaGreatDoor.X
open Go.RowKit Go.Lib Go.Shelf Go.Yw.PrintWords Go.Yw.PrintLast Go.Yw.PrintMore
set_option linter.unusedVariables false
set_option linter.unusedSimpArgs false
set_option maxHeartbeats 8000000
set_option maxRecDepth 100000
theorem pLink_no0 (k0 k1 k2 k3 k4 k5 : Nat) (b1 b2 : ByteArray) (b3 : Int) (b4 b5 b6 : ByteArray) (b7 b8 : Bool) (u1 u2 : ByteArray) (u3 : Int) (u4 u5 u6 : ByteArray) (u7 u8 : Bool) (s o : ByteArray) (w : World) (hE : EnvOk w)
  (hs : Ysb.f k0 u1 u2 u3 u4 u5 u6 u7 u8 = some s)
  (hm : Ynd.f k1 b1 b2 b3 b4 b5 b6 b7 b8 = some false) :
  Calls Tryz.prog 40 #[.agg (uc b1 b2 b3 b4 b5 b6 b7 b8), .agg (uc u1 u2 u3 u4 u5 u6 u7 u8)] w fun e w' => e = .returned (.string s) ∧ Below w.heap.size w w' := by
 have HE := Ya.mk hE
 have HS := Ya.mk hs
 have HM := Ya.mk hm
 clear hE hs hm
 have cB := Tryz.underlying25
 have BK := Ya.mk (heap_alloc_new w (.cells (uc b1 b2 b3 b4 b5 b6 b7 b8) 25))
 have HB := Ya.mk ((Below.refl w.heap.size w).alloc (Nat.le_refl _) (.cells (uc b1 b2 b3 b4 b5 b6 b7 b8) 25))
 have BKq := Ya.mk (Yj BK.out (.cells (uc u1 u2 u3 u4 u5 u6 u7 u8) 25))
 clear BK
 have BK := BKq
 clear BKq
 have BU := Ya.mk (heap_alloc_new (w.alloc (.cells (uc b1 b2 b3 b4 b5 b6 b7 b8) 25)) (.cells (uc u1 u2 u3 u4 u5 u6 u7 u8) 25))
 rw [Ycc] at BU
 have HBq := Ya.mk (HB.out.alloc HB.out.size (.cells (uc u1 u2 u3 u4 u5 u6 u7 u8) 25))
 clear HB
 have HB := HBq
 clear HBq
 go_enter Tryz.func40, Tryz.ntmps40
 obtain ⟨bN, bM, bO, bS, bR, bQ, bT, bP⟩ := Yv BU.out
 go_wp2_with fail
 clear bN bM bO bS bR bQ bT bP
 refine (Ysb.calls k0 u1 u2 u3 u4 u5 u6 u7 u8 s _ (HE.out.below HB.out) HS.out).mono ?_
 rintro e w1 ⟨rfl, hb⟩
 replace BK := Ya.mk (Yq BK.out hb)
 replace BU := Ya.mk (Yq BU.out hb)
 replace HB := Ya.mk (HB.out.trans (hb.mono HB.out.size))
 clear hb
 obtain ⟨bN, bM, bO, bS, bR, bQ, bT, bP⟩ := Yv BK.out
 go_wp2_with fail
 clear bN bM bO bS bR bQ bT bP
 refine (Ynd.calls k1 b1 b2 b3 b4 b5 b6 b7 b8 false _ (HE.out.below HB.out) HM.out).mono ?_
 rintro e w2 ⟨rfl, hb⟩
 replace BK := Ya.mk (Yq BK.out hb)
 replace BU := Ya.mk (Yq BU.out hb)
 replace HB := Ya.mk (HB.out.trans (hb.mono HB.out.size))
 clear hb
 go_wp2_with fail
 go_ret
 exact ⟨rfl, HB.out⟩
theorem pLink_no1 (k0 k1 k2 k3 k4 k5 : Nat) (b1 b2 : ByteArray) (b3 : Int) (b4 b5 b6 : ByteArray) (b7 b8 : Bool) (u1 u2 : ByteArray) (u3 : Int) (u4 u5 u6 : ByteArray) (u7 u8 : Bool) (s o : ByteArray) (w : World) (hE : EnvOk w)
  (hs : Ysb.f k0 u1 u2 u3 u4 u5 u6 u7 u8 = some s)
  (hm : Ynd.f k1 b1 b2 b3 b4 b5 b6 b7 b8 = some true)
  (hn : Ynd.f k2 u1 u2 u3 u4 u5 u6 u7 u8 = some false) :
  Calls Tryz.prog 40 #[.agg (uc b1 b2 b3 b4 b5 b6 b7 b8), .agg (uc u1 u2 u3 u4 u5 u6 u7 u8)] w fun e w' => e = .returned (.string s) ∧ Below w.heap.size w w' := by
 have HE := Ya.mk hE
 have HS := Ya.mk hs
 have HM := Ya.mk hm
 have HN := Ya.mk hn
 clear hE hs hm hn
 have cB := Tryz.underlying25
 have BK := Ya.mk (heap_alloc_new w (.cells (uc b1 b2 b3 b4 b5 b6 b7 b8) 25))
 have HB := Ya.mk ((Below.refl w.heap.size w).alloc (Nat.le_refl _) (.cells (uc b1 b2 b3 b4 b5 b6 b7 b8) 25))
 have BKq := Ya.mk (Yj BK.out (.cells (uc u1 u2 u3 u4 u5 u6 u7 u8) 25))
 clear BK
 have BK := BKq
 clear BKq
 have BU := Ya.mk (heap_alloc_new (w.alloc (.cells (uc b1 b2 b3 b4 b5 b6 b7 b8) 25)) (.cells (uc u1 u2 u3 u4 u5 u6 u7 u8) 25))
 rw [Ycc] at BU
 have HBq := Ya.mk (HB.out.alloc HB.out.size (.cells (uc u1 u2 u3 u4 u5 u6 u7 u8) 25))
 clear HB
 have HB := HBq
 clear HBq
 go_enter Tryz.func40, Tryz.ntmps40
 obtain ⟨bN, bM, bO, bS, bR, bQ, bT, bP⟩ := Yv BU.out
 go_wp2_with fail
 clear bN bM bO bS bR bQ bT bP
 refine (Ysb.calls k0 u1 u2 u3 u4 u5 u6 u7 u8 s _ (HE.out.below HB.out) HS.out).mono ?_
 rintro e w1 ⟨rfl, hb⟩
 replace BK := Ya.mk (Yq BK.out hb)
 replace BU := Ya.mk (Yq BU.out hb)
 replace HB := Ya.mk (HB.out.trans (hb.mono HB.out.size))
 clear hb
 obtain ⟨bN, bM, bO, bS, bR, bQ, bT, bP⟩ := Yv BK.out
 go_wp2_with fail
 clear bN bM bO bS bR bQ bT bP
 refine (Ynd.calls k1 b1 b2 b3 b4 b5 b6 b7 b8 true _ (HE.out.below HB.out) HM.out).mono ?_
 rintro e w2 ⟨rfl, hb⟩
 replace BK := Ya.mk (Yq BK.out hb)
 replace BU := Ya.mk (Yq BU.out hb)
 replace HB := Ya.mk (HB.out.trans (hb.mono HB.out.size))
 clear hb
 obtain ⟨bN, bM, bO, bS, bR, bQ, bT, bP⟩ := Yv BU.out
 go_wp2_with fail
 clear bN bM bO bS bR bQ bT bP
 refine (Ynd.calls k2 u1 u2 u3 u4 u5 u6 u7 u8 false _ (HE.out.below HB.out) HN.out).mono ?_
 rintro e w3 ⟨rfl, hb⟩
 replace BK := Ya.mk (Yq BK.out hb)
 replace BU := Ya.mk (Yq BU.out hb)
 replace HB := Ya.mk (HB.out.trans (hb.mono HB.out.size))
 clear hb
 go_wp2_with fail
 go_ret
 exact ⟨rfl, HB.out⟩
theorem pLink_no2 (k0 k1 k2 k3 k4 k5 : Nat) (b1 b2 : ByteArray) (b3 : Int) (b4 b5 b6 : ByteArray) (b7 b8 : Bool) (u1 u2 : ByteArray) (u3 : Int) (u4 u5 u6 : ByteArray) (u7 u8 : Bool) (s o : ByteArray) (w : World) (hE : EnvOk w)
  (hs : Ysb.f k0 u1 u2 u3 u4 u5 u6 u7 u8 = some s)
  (hm : Ynd.f k1 b1 b2 b3 b4 b5 b6 b7 b8 = some true)
  (hn : Ynd.f k2 u1 u2 u3 u4 u5 u6 u7 u8 = some true)
  (hq : ¬ b1.toList = u1.toList) :
  Calls Tryz.prog 40 #[.agg (uc b1 b2 b3 b4 b5 b6 b7 b8), .agg (uc u1 u2 u3 u4 u5 u6 u7 u8)] w fun e w' => e = .returned (.string s) ∧ Below w.heap.size w w' := by
 have HE := Ya.mk hE
 have HS := Ya.mk hs
 have HM := Ya.mk hm
 have HN := Ya.mk hn
 have HQ := Ya.mk hq
 clear hE hs hm hn hq
 have cB := Tryz.underlying25
 have BK := Ya.mk (heap_alloc_new w (.cells (uc b1 b2 b3 b4 b5 b6 b7 b8) 25))
 have HB := Ya.mk ((Below.refl w.heap.size w).alloc (Nat.le_refl _) (.cells (uc b1 b2 b3 b4 b5 b6 b7 b8) 25))
 have BKq := Ya.mk (Yj BK.out (.cells (uc u1 u2 u3 u4 u5 u6 u7 u8) 25))
 clear BK
 have BK := BKq
 clear BKq
 have BU := Ya.mk (heap_alloc_new (w.alloc (.cells (uc b1 b2 b3 b4 b5 b6 b7 b8) 25)) (.cells (uc u1 u2 u3 u4 u5 u6 u7 u8) 25))
 rw [Ycc] at BU
 have HBq := Ya.mk (HB.out.alloc HB.out.size (.cells (uc u1 u2 u3 u4 u5 u6 u7 u8) 25))
 clear HB
 have HB := HBq
 clear HBq
 go_enter Tryz.func40, Tryz.ntmps40
 obtain ⟨bN, bM, bO, bS, bR, bQ, bT, bP⟩ := Yv BU.out
 go_wp2_with fail
 clear bN bM bO bS bR bQ bT bP
 refine (Ysb.calls k0 u1 u2 u3 u4 u5 u6 u7 u8 s _ (HE.out.below HB.out) HS.out).mono ?_
 rintro e w1 ⟨rfl, hb⟩
 replace BK := Ya.mk (Yq BK.out hb)
 replace BU := Ya.mk (Yq BU.out hb)
 replace HB := Ya.mk (HB.out.trans (hb.mono HB.out.size))
 clear hb
 obtain ⟨bN, bM, bO, bS, bR, bQ, bT, bP⟩ := Yv BK.out
 go_wp2_with fail
 clear bN bM bO bS bR bQ bT bP
 refine (Ynd.calls k1 b1 b2 b3 b4 b5 b6 b7 b8 true _ (HE.out.below HB.out) HM.out).mono ?_
 rintro e w2 ⟨rfl, hb⟩
 replace BK := Ya.mk (Yq BK.out hb)
 replace BU := Ya.mk (Yq BU.out hb)
 replace HB := Ya.mk (HB.out.trans (hb.mono HB.out.size))
 clear hb
 obtain ⟨bN, bM, bO, bS, bR, bQ, bT, bP⟩ := Yv BU.out
 go_wp2_with fail
 clear bN bM bO bS bR bQ bT bP
 refine (Ynd.calls k2 u1 u2 u3 u4 u5 u6 u7 u8 true _ (HE.out.below HB.out) HN.out).mono ?_
 rintro e w3 ⟨rfl, hb⟩
 replace BK := Ya.mk (Yq BK.out hb)
 replace BU := Ya.mk (Yq BU.out hb)
 replace HB := Ya.mk (HB.out.trans (hb.mono HB.out.size))
 clear hb
 obtain ⟨bN, bM, bO, bS, bR, bQ, bT, bP⟩ := Yv BK.out
 obtain ⟨nJ, hd1, hd2, hd3, hd4, hd5, vB, vC⟩ := Yv BU.out
 have q1 : (b1.toList == u1.toList) = false := beq_eq_false_iff_ne.2 HQ.out
 have q2 : (b1.toList != u1.toList) = true := bne_iff_ne.2 HQ.out
 go_wp2_with fail
 go_ret
 exact ⟨rfl, HB.out⟩
theorem pLink_far (k0 k1 k2 k3 k4 k5 : Nat) (b1 b2 : ByteArray) (b3 : Int) (b4 b5 b6 : ByteArray) (b7 b8 : Bool) (u1 u2 : ByteArray) (u3 : Int) (u4 u5 u6 : ByteArray) (u7 u8 : Bool) (s o ob : ByteArray) (w : World) (hE : EnvOk w)
  (hs : Ysb.f k0 u1 u2 u3 u4 u5 u6 u7 u8 = some s)
  (hm : Ynd.f k1 b1 b2 b3 b4 b5 b6 b7 b8 = some true)
  (hn : Ynd.f k2 u1 u2 u3 u4 u5 u6 u7 u8 = some true)
  (hq : b1.toList = u1.toList)
  (ha : Yuc.f k3 u1 u2 u3 u4 u5 u6 u7 u8 = some o)
  (hb_ : Yuc.f k4 b1 b2 b3 b4 b5 b6 b7 b8 = some ob)
  (hr : ¬ ob.toList = o.toList)
  (hx : u1.size + 1 ≤ s.size)
  (hy : s.size ≤ 1000000) :
  Calls Tryz.prog 40 #[.agg (uc b1 b2 b3 b4 b5 b6 b7 b8), .agg (uc u1 u2 u3 u4 u5 u6 u7 u8)] w fun e w' => e = .returned (.string (s.extract (u1.size + 1) s.size)) ∧ Below w.heap.size w w' := by
 have HE := Ya.mk hE
 have HS := Ya.mk hs
 have HM := Ya.mk hm
 have HN := Ya.mk hn
 have HQ := Ya.mk hq
 have HA := Ya.mk ha
 have HB_ := Ya.mk hb_
 have HR := Ya.mk hr
 have HX := Ya.mk hx
 have HY := Ya.mk hy
 clear hE hs hm hn hq ha hb_ hr hx hy
 have cB := Tryz.underlying25
 have BK := Ya.mk (heap_alloc_new w (.cells (uc b1 b2 b3 b4 b5 b6 b7 b8) 25))
 have HB := Ya.mk ((Below.refl w.heap.size w).alloc (Nat.le_refl _) (.cells (uc b1 b2 b3 b4 b5 b6 b7 b8) 25))
 have BKq := Ya.mk (Yj BK.out (.cells (uc u1 u2 u3 u4 u5 u6 u7 u8) 25))
 clear BK
 have BK := BKq
 clear BKq
 have BU := Ya.mk (heap_alloc_new (w.alloc (.cells (uc b1 b2 b3 b4 b5 b6 b7 b8) 25)) (.cells (uc u1 u2 u3 u4 u5 u6 u7 u8) 25))
 rw [Ycc] at BU
 have HBq := Ya.mk (HB.out.alloc HB.out.size (.cells (uc u1 u2 u3 u4 u5 u6 u7 u8) 25))
 clear HB
 have HB := HBq
 clear HBq
 go_enter Tryz.func40, Tryz.ntmps40
 obtain ⟨bN, bM, bO, bS, bR, bQ, bT, bP⟩ := Yv BU.out
 go_wp2_with fail
 clear bN bM bO bS bR bQ bT bP
 refine (Ysb.calls k0 u1 u2 u3 u4 u5 u6 u7 u8 s _ (HE.out.below HB.out) HS.out).mono ?_
 rintro e w1 ⟨rfl, hb⟩
 replace BK := Ya.mk (Yq BK.out hb)
 replace BU := Ya.mk (Yq BU.out hb)
 replace HB := Ya.mk (HB.out.trans (hb.mono HB.out.size))
 clear hb
 obtain ⟨bN, bM, bO, bS, bR, bQ, bT, bP⟩ := Yv BK.out
 go_wp2_with fail
 clear bN bM bO bS bR bQ bT bP
 refine (Ynd.calls k1 b1 b2 b3 b4 b5 b6 b7 b8 true _ (HE.out.below HB.out) HM.out).mono ?_
 rintro e w2 ⟨rfl, hb⟩
 replace BK := Ya.mk (Yq BK.out hb)
 replace BU := Ya.mk (Yq BU.out hb)
 replace HB := Ya.mk (HB.out.trans (hb.mono HB.out.size))
 clear hb
 obtain ⟨bN, bM, bO, bS, bR, bQ, bT, bP⟩ := Yv BU.out
 go_wp2_with fail
 clear bN bM bO bS bR bQ bT bP
 refine (Ynd.calls k2 u1 u2 u3 u4 u5 u6 u7 u8 true _ (HE.out.below HB.out) HN.out).mono ?_
 rintro e w3 ⟨rfl, hb⟩
 replace BK := Ya.mk (Yq BK.out hb)
 replace BU := Ya.mk (Yq BU.out hb)
 replace HB := Ya.mk (HB.out.trans (hb.mono HB.out.size))
 clear hb
 obtain ⟨bN, bM, bO, bS, bR, bQ, bT, bP⟩ := Yv BK.out
 obtain ⟨nJ, hd1, hd2, hd3, hd4, hd5, vB, vC⟩ := Yv BU.out
 have q1 : (b1.toList == u1.toList) = true := beq_iff_eq.2 HQ.out
 have q2 : (b1.toList != u1.toList) = false := bne_eq_false_iff_eq.2 HQ.out
 go_wp2_with fail
 clear bN bM bO bS bR bQ bT bP
 clear nJ hd1 hd2 hd3 hd4 hd5 vB vC
 refine (Yuc.calls k3 u1 u2 u3 u4 u5 u6 u7 u8 o _ (HE.out.below HB.out) HA.out).mono ?_
 rintro e w4 ⟨rfl, hb⟩
 replace BK := Ya.mk (Yq BK.out hb)
 replace BU := Ya.mk (Yq BU.out hb)
 replace HB := Ya.mk (HB.out.trans (hb.mono HB.out.size))
 clear hb
 clear q1 q2
 obtain ⟨bN, bM, bO, bS, bR, bQ, bT, bP⟩ := Yv BK.out
 go_wp2_with fail
 clear bN bM bO bS bR bQ bT bP
 refine (Yuc.calls k4 b1 b2 b3 b4 b5 b6 b7 b8 ob _ (HE.out.below HB.out) HB_.out).mono ?_
 rintro e w5 ⟨rfl, hb⟩
 replace BK := Ya.mk (Yq BK.out hb)
 replace BU := Ya.mk (Yq BU.out hb)
 replace HB := Ya.mk (HB.out.trans (hb.mono HB.out.size))
 clear hb
 have q3 : (ob.toList == o.toList) = false := beq_eq_false_iff_ne.2 HR.out
 obtain ⟨bN, bM, bO, bS, bR, bQ, bT, bP⟩ := Yv BU.out
 obtain ⟨n1, kF⟩ : ∃ n : Int, wrap64 ((u1.size : Int) + 1) = n := ⟨_, rfl⟩
 have wU : n1 = ((u1.size + 1 : Nat) : Int) := by rw [← kF]; unfold wrap64; have := HY.out; have := HX.out; omega
 have d0 := eq_true (show 0 ≤ n1 by omega)
 have d1 := eq_true (show n1 ≤ (s.size : Int) by have := HX.out; omega)
 have d2 : decide (n1 ≤ (s.size : Int)) = true := decide_eq_true (by have := HX.out; omega)
 have HN2 := Ya.mk (show n1.toNat = u1.size + 1 by omega)
 clear wU
 go_wp2_with fail
 go_ret
 exact ⟨by (try rw [HN2.out]); rfl, HB.out⟩
theorem pLink_two (k0 k1 k2 k3 k4 k5 : Nat) (b1 b2 : ByteArray) (b3 : Int) (b4 b5 b6 : ByteArray) (b7 b8 : Bool) (u1 u2 : ByteArray) (u3 : Int) (u4 u5 u6 : ByteArray) (u7 u8 : Bool) (s o ob : ByteArray) (n : Int) (w : World) (hE : EnvOk w)
  (hs : Ysb.f k0 u1 u2 u3 u4 u5 u6 u7 u8 = some s)
  (hm : Ynd.f k1 b1 b2 b3 b4 b5 b6 b7 b8 = some true)
  (hn : Ynd.f k2 u1 u2 u3 u4 u5 u6 u7 u8 = some true)
  (hq : b1.toList = u1.toList)
  (ha : Yuc.f k3 u1 u2 u3 u4 u5 u6 u7 u8 = some o)
  (hb_ : Yuc.f k4 b1 b2 b3 b4 b5 b6 b7 b8 = some ob)
  (hr : ob.toList = o.toList)
  (ht : Yob.f k5 u4 = some n)
  (hu : ¬ n = 1)
  (hx : u1.size + 1 ≤ s.size)
  (hy : s.size ≤ 1000000) :
  Calls Tryz.prog 40 #[.agg (uc b1 b2 b3 b4 b5 b6 b7 b8), .agg (uc u1 u2 u3 u4 u5 u6 u7 u8)] w fun e w' => e = .returned (.string (s.extract (u1.size + 1) s.size)) ∧ Below w.heap.size w w' := by
 have HE := Ya.mk hE
 have HS := Ya.mk hs
 have HM := Ya.mk hm
 have HN := Ya.mk hn
 have HQ := Ya.mk hq
 have HA := Ya.mk ha
 have HB_ := Ya.mk hb_
 have HR := Ya.mk hr
 have HT := Ya.mk ht
 have HU := Ya.mk hu
 have HX := Ya.mk hx
 have HY := Ya.mk hy
 clear hE hs hm hn hq ha hb_ hr ht hu hx hy
 have cB := Tryz.underlying25
 have BK := Ya.mk (heap_alloc_new w (.cells (uc b1 b2 b3 b4 b5 b6 b7 b8) 25))
 have HB := Ya.mk ((Below.refl w.heap.size w).alloc (Nat.le_refl _) (.cells (uc b1 b2 b3 b4 b5 b6 b7 b8) 25))
 have BKq := Ya.mk (Yj BK.out (.cells (uc u1 u2 u3 u4 u5 u6 u7 u8) 25))
 clear BK
 have BK := BKq
 clear BKq
 have BU := Ya.mk (heap_alloc_new (w.alloc (.cells (uc b1 b2 b3 b4 b5 b6 b7 b8) 25)) (.cells (uc u1 u2 u3 u4 u5 u6 u7 u8) 25))
 rw [Ycc] at BU
 have HBq := Ya.mk (HB.out.alloc HB.out.size (.cells (uc u1 u2 u3 u4 u5 u6 u7 u8) 25))
 clear HB
 have HB := HBq
 clear HBq
 go_enter Tryz.func40, Tryz.ntmps40
 obtain ⟨bN, bM, bO, bS, bR, bQ, bT, bP⟩ := Yv BU.out
 go_wp2_with fail
 clear bN bM bO bS bR bQ bT bP
 refine (Ysb.calls k0 u1 u2 u3 u4 u5 u6 u7 u8 s _ (HE.out.below HB.out) HS.out).mono ?_
 rintro e w1 ⟨rfl, hb⟩
 replace BK := Ya.mk (Yq BK.out hb)
 replace BU := Ya.mk (Yq BU.out hb)
 replace HB := Ya.mk (HB.out.trans (hb.mono HB.out.size))
 clear hb
 obtain ⟨bN, bM, bO, bS, bR, bQ, bT, bP⟩ := Yv BK.out
 go_wp2_with fail
 clear bN bM bO bS bR bQ bT bP
 refine (Ynd.calls k1 b1 b2 b3 b4 b5 b6 b7 b8 true _ (HE.out.below HB.out) HM.out).mono ?_
 rintro e w2 ⟨rfl, hb⟩
 replace BK := Ya.mk (Yq BK.out hb)
 replace BU := Ya.mk (Yq BU.out hb)
 replace HB := Ya.mk (HB.out.trans (hb.mono HB.out.size))
 clear hb
 obtain ⟨bN, bM, bO, bS, bR, bQ, bT, bP⟩ := Yv BU.out
 go_wp2_with fail
 clear bN bM bO bS bR bQ bT bP
 refine (Ynd.calls k2 u1 u2 u3 u4 u5 u6 u7 u8 true _ (HE.out.below HB.out) HN.out).mono ?_
 rintro e w3 ⟨rfl, hb⟩
 replace BK := Ya.mk (Yq BK.out hb)
 replace BU := Ya.mk (Yq BU.out hb)
 replace HB := Ya.mk (HB.out.trans (hb.mono HB.out.size))
 clear hb
 obtain ⟨bN, bM, bO, bS, bR, bQ, bT, bP⟩ := Yv BK.out
 obtain ⟨nJ, hd1, hd2, hd3, hd4, hd5, vB, vC⟩ := Yv BU.out
 have q1 : (b1.toList == u1.toList) = true := beq_iff_eq.2 HQ.out
 have q2 : (b1.toList != u1.toList) = false := bne_eq_false_iff_eq.2 HQ.out
 go_wp2_with fail
 clear bN bM bO bS bR bQ bT bP
 clear nJ hd1 hd2 hd3 hd4 hd5 vB vC
 refine (Yuc.calls k3 u1 u2 u3 u4 u5 u6 u7 u8 o _ (HE.out.below HB.out) HA.out).mono ?_
 rintro e w4 ⟨rfl, hb⟩
 replace BK := Ya.mk (Yq BK.out hb)
 replace BU := Ya.mk (Yq BU.out hb)
 replace HB := Ya.mk (HB.out.trans (hb.mono HB.out.size))
 clear hb
 clear q1 q2
 obtain ⟨bN, bM, bO, bS, bR, bQ, bT, bP⟩ := Yv BK.out
 go_wp2_with fail
 clear bN bM bO bS bR bQ bT bP
 refine (Yuc.calls k4 b1 b2 b3 b4 b5 b6 b7 b8 ob _ (HE.out.below HB.out) HB_.out).mono ?_
 rintro e w5 ⟨rfl, hb⟩
 replace BK := Ya.mk (Yq BK.out hb)
 replace BU := Ya.mk (Yq BU.out hb)
 replace HB := Ya.mk (HB.out.trans (hb.mono HB.out.size))
 clear hb
 have q3 : (ob.toList == o.toList) = true := beq_iff_eq.2 HR.out
 obtain ⟨bN, bM, bO, bS, bR, bQ, bT, bP⟩ := Yv BU.out
 go_wp2_with fail
 clear bN bM bO bS bR bQ bT bP
 refine (Yob.calls k5 u4 n _ (HE.out.below HB.out) HT.out).mono ?_
 rintro e w6 ⟨rfl, hb⟩
 replace BK := Ya.mk (Yq BK.out hb)
 replace BU := Ya.mk (Yq BU.out hb)
 replace HB := Ya.mk (HB.out.trans (hb.mono HB.out.size))
 clear hb
 obtain ⟨bN, bM, bO, bS, bR, bQ, bT, bP⟩ := Yv BU.out
 have q4 : (n == 1) = false := beq_eq_false_iff_ne.2 HU.out
 have q5 : decide (n = 1) = false := decide_eq_false HU.out
 obtain ⟨n1, kF⟩ : ∃ n : Int, wrap64 ((u1.size : Int) + 1) = n := ⟨_, rfl⟩
 have wU : n1 = ((u1.size + 1 : Nat) : Int) := by rw [← kF]; unfold wrap64; have := HY.out; have := HX.out; omega
 have d0 := eq_true (show 0 ≤ n1 by omega)
 have d1 := eq_true (show n1 ≤ (s.size : Int) by have := HX.out; omega)
 have d2 : decide (n1 ≤ (s.size : Int)) = true := decide_eq_true (by have := HX.out; omega)
 have HN2 := Ya.mk (show n1.toNat = u1.size + 1 by omega)
 clear wU
 go_wp2_with fail
 go_ret
 exact ⟨by (try rw [HN2.out]); rfl, HB.out⟩
theorem Ydu (k0 k1 k2 k3 k4 k5 : Nat) (b1 b2 : ByteArray) (b3 : Int) (b4 b5 b6 : ByteArray) (b7 b8 : Bool) (u1 u2 : ByteArray) (u3 : Int) (u4 u5 u6 : ByteArray) (u7 u8 : Bool) (s o ob : ByteArray) (w : World) (hE : EnvOk w)
  (hs : Ysb.f k0 u1 u2 u3 u4 u5 u6 u7 u8 = some s)
  (hm : Ynd.f k1 b1 b2 b3 b4 b5 b6 b7 b8 = some true)
  (hn : Ynd.f k2 u1 u2 u3 u4 u5 u6 u7 u8 = some true)
  (hq : b1.toList = u1.toList)
  (ha : Yuc.f k3 u1 u2 u3 u4 u5 u6 u7 u8 = some o)
  (hb_ : Yuc.f k4 b1 b2 b3 b4 b5 b6 b7 b8 = some ob)
  (hr : ob.toList = o.toList)
  (ht : Yob.f k5 u4 = some 1)
  (hz : o.size ≤ s.size) :
  Calls Tryz.prog 40 #[.agg (uc b1 b2 b3 b4 b5 b6 b7 b8), .agg (uc u1 u2 u3 u4 u5 u6 u7 u8)] w fun e w' => e = .returned (.string (s.extract o.size s.size)) ∧ Below w.heap.size w w' := by
 have HE := Ya.mk hE
 have HS := Ya.mk hs
 have HM := Ya.mk hm
 have HN := Ya.mk hn
 have HQ := Ya.mk hq
 have HA := Ya.mk ha
 have HB_ := Ya.mk hb_
 have HR := Ya.mk hr
 have HT := Ya.mk ht
 have HZ := Ya.mk hz
 clear hE hs hm hn hq ha hb_ hr ht hz
 have cB := Tryz.underlying25
 have BK := Ya.mk (heap_alloc_new w (.cells (uc b1 b2 b3 b4 b5 b6 b7 b8) 25))
 have HB := Ya.mk ((Below.refl w.heap.size w).alloc (Nat.le_refl _) (.cells (uc b1 b2 b3 b4 b5 b6 b7 b8) 25))
 have BKq := Ya.mk (Yj BK.out (.cells (uc u1 u2 u3 u4 u5 u6 u7 u8) 25))
 clear BK
 have BK := BKq
 clear BKq
 have BU := Ya.mk (heap_alloc_new (w.alloc (.cells (uc b1 b2 b3 b4 b5 b6 b7 b8) 25)) (.cells (uc u1 u2 u3 u4 u5 u6 u7 u8) 25))
 rw [Ycc] at BU
 have HBq := Ya.mk (HB.out.alloc HB.out.size (.cells (uc u1 u2 u3 u4 u5 u6 u7 u8) 25))
 clear HB
 have HB := HBq
 clear HBq
 go_enter Tryz.func40, Tryz.ntmps40
 obtain ⟨bN, bM, bO, bS, bR, bQ, bT, bP⟩ := Yv BU.out
 go_wp2_with fail
 clear bN bM bO bS bR bQ bT bP
 refine (Ysb.calls k0 u1 u2 u3 u4 u5 u6 u7 u8 s _ (HE.out.below HB.out) HS.out).mono ?_
 rintro e w1 ⟨rfl, hb⟩
 replace BK := Ya.mk (Yq BK.out hb)
 replace BU := Ya.mk (Yq BU.out hb)
 replace HB := Ya.mk (HB.out.trans (hb.mono HB.out.size))
 clear hb
 obtain ⟨bN, bM, bO, bS, bR, bQ, bT, bP⟩ := Yv BK.out
 go_wp2_with fail
 clear bN bM bO bS bR bQ bT bP
 refine (Ynd.calls k1 b1 b2 b3 b4 b5 b6 b7 b8 true _ (HE.out.below HB.out) HM.out).mono ?_
 rintro e w2 ⟨rfl, hb⟩
 replace BK := Ya.mk (Yq BK.out hb)
 replace BU := Ya.mk (Yq BU.out hb)
 replace HB := Ya.mk (HB.out.trans (hb.mono HB.out.size))
 clear hb
 obtain ⟨bN, bM, bO, bS, bR, bQ, bT, bP⟩ := Yv BU.out
 go_wp2_with fail
 clear bN bM bO bS bR bQ bT bP
 refine (Ynd.calls k2 u1 u2 u3 u4 u5 u6 u7 u8 true _ (HE.out.below HB.out) HN.out).mono ?_
 rintro e w3 ⟨rfl, hb⟩
 replace BK := Ya.mk (Yq BK.out hb)
 replace BU := Ya.mk (Yq BU.out hb)
 replace HB := Ya.mk (HB.out.trans (hb.mono HB.out.size))
 clear hb
 obtain ⟨bN, bM, bO, bS, bR, bQ, bT, bP⟩ := Yv BK.out
 obtain ⟨nJ, hd1, hd2, hd3, hd4, hd5, vB, vC⟩ := Yv BU.out
 have q1 : (b1.toList == u1.toList) = true := beq_iff_eq.2 HQ.out
 have q2 : (b1.toList != u1.toList) = false := bne_eq_false_iff_eq.2 HQ.out
 go_wp2_with fail
 clear bN bM bO bS bR bQ bT bP
 clear nJ hd1 hd2 hd3 hd4 hd5 vB vC
 refine (Yuc.calls k3 u1 u2 u3 u4 u5 u6 u7 u8 o _ (HE.out.below HB.out) HA.out).mono ?_
 rintro e w4 ⟨rfl, hb⟩
 replace BK := Ya.mk (Yq BK.out hb)
 replace BU := Ya.mk (Yq BU.out hb)
 replace HB := Ya.mk (HB.out.trans (hb.mono HB.out.size))
 clear hb
 clear q1 q2
 obtain ⟨bN, bM, bO, bS, bR, bQ, bT, bP⟩ := Yv BK.out
 go_wp2_with fail
 clear bN bM bO bS bR bQ bT bP
 refine (Yuc.calls k4 b1 b2 b3 b4 b5 b6 b7 b8 ob _ (HE.out.below HB.out) HB_.out).mono ?_
 rintro e w5 ⟨rfl, hb⟩
 replace BK := Ya.mk (Yq BK.out hb)
 replace BU := Ya.mk (Yq BU.out hb)
 replace HB := Ya.mk (HB.out.trans (hb.mono HB.out.size))
 clear hb
 have q3 : (ob.toList == o.toList) = true := beq_iff_eq.2 HR.out
 obtain ⟨bN, bM, bO, bS, bR, bQ, bT, bP⟩ := Yv BU.out
 go_wp2_with fail
 clear bN bM bO bS bR bQ bT bP
 refine (Yob.calls k5 u4 1 _ (HE.out.below HB.out) HT.out).mono ?_
 rintro e w6 ⟨rfl, hb⟩
 replace BK := Ya.mk (Yq BK.out hb)
 replace BU := Ya.mk (Yq BU.out hb)
 replace HB := Ya.mk (HB.out.trans (hb.mono HB.out.size))
 clear hb
 obtain ⟨bN, bM, bO, bS, bR, bQ, bT, bP⟩ := Yv BU.out
 have d0 := eq_true (show (0 : Int) ≤ (o.size : Int) by omega)
 have d1 := eq_true (show (o.size : Int) ≤ (s.size : Int) by have := HZ.out; omega)
 have d2 : decide ((o.size : Int) ≤ (s.size : Int)) = true := decide_eq_true (by have := HZ.out; omega)
 have d3 := eq_true (show o.size ≤ s.size from HZ.out)
 go_wp2_with fail
 go_ret
 exact ⟨rfl, HB.out⟩
theorem rLink_no0 (k0 k1 k2 k3 k4 k5 : Nat) (b1 b2 : ByteArray) (b3 : Int) (b4 b5 b6 : ByteArray) (b7 b8 : Bool) (u1 u2 : ByteArray) (u3 : Int) (u4 u5 u6 : ByteArray) (u7 u8 : Bool) (s o : ByteArray) (w : World) (hE : EnvOk w)
  (hs : Yo.f k0 u1 u2 u3 u4 u5 u6 u7 u8 = some s)
  (ho : Yo.f k3 u1 u2 u3 ⟨#[]⟩ ⟨#[]⟩ ⟨#[]⟩ false false = some o)
  (hm : Yga.f k1 b1 b2 b3 b4 b5 b6 b7 b8 = some false) :
  Calls Tryz.prog 42 #[.agg (uc b1 b2 b3 b4 b5 b6 b7 b8), .agg (uc u1 u2 u3 u4 u5 u6 u7 u8)] w fun e w' => e = .returned (.string s) ∧ Below w.heap.size w w' := by
 have HE := Ya.mk hE
 have HS := Ya.mk hs
 have HO := Ya.mk ho
 have HM := Ya.mk hm
 clear hE hs ho hm
 have cB := Tryz.underlying25
 have BK := Ya.mk (heap_alloc_new w (.cells (uc b1 b2 b3 b4 b5 b6 b7 b8) 25))
 have HB := Ya.mk ((Below.refl w.heap.size w).alloc (Nat.le_refl _) (.cells (uc b1 b2 b3 b4 b5 b6 b7 b8) 25))
 have BKq := Ya.mk (Yj BK.out (.cells (uc u1 u2 u3 u4 u5 u6 u7 u8) 25))
 clear BK
 have BK := BKq
 clear BKq
 have BU := Ya.mk (heap_alloc_new (w.alloc (.cells (uc b1 b2 b3 b4 b5 b6 b7 b8) 25)) (.cells (uc u1 u2 u3 u4 u5 u6 u7 u8) 25))
 rw [Ycc] at BU
 have HBq := Ya.mk (HB.out.alloc HB.out.size (.cells (uc u1 u2 u3 u4 u5 u6 u7 u8) 25))
 clear HB
 have HB := HBq
 clear HBq
 go_enter Tryz.func42, Tryz.ntmps42
 obtain ⟨bN, bM, bO, bS, bR, bQ, bT, bP⟩ := Yv BU.out
 go_wp2_with fail
 clear bN bM bO bS bR bQ bT bP
 refine (Yo.calls k0 u1 u2 u3 u4 u5 u6 u7 u8 s _ (HE.out.below HB.out) HS.out).mono ?_
 rintro e w1 ⟨rfl, hb⟩
 replace BK := Ya.mk (Yq BK.out hb)
 replace BU := Ya.mk (Yq BU.out hb)
 replace HB := Ya.mk (HB.out.trans (hb.mono HB.out.size))
 clear hb
 obtain ⟨bN, bM, bO, bS, bR, bQ, bT, bP⟩ := Yv BU.out
 go_wp2_with fail
 clear bN bM bO bS bR bQ bT bP
 refine (Yo.calls k3 u1 u2 u3 ⟨#[]⟩ ⟨#[]⟩ ⟨#[]⟩ false false o _ (HE.out.below HB.out) HO.out).mono ?_
 rintro e w2 ⟨rfl, hb⟩
 replace BK := Ya.mk (Yq BK.out hb)
 replace BU := Ya.mk (Yq BU.out hb)
 replace HB := Ya.mk (HB.out.trans (hb.mono HB.out.size))
 clear hb
 obtain ⟨bN, bM, bO, bS, bR, bQ, bT, bP⟩ := Yv BK.out
 go_wp2_with fail
 clear bN bM bO bS bR bQ bT bP
 refine (Yga.calls k1 b1 b2 b3 b4 b5 b6 b7 b8 false _ (HE.out.below HB.out) HM.out).mono ?_
 rintro e w3 ⟨rfl, hb⟩
 replace BK := Ya.mk (Yq BK.out hb)
 replace BU := Ya.mk (Yq BU.out hb)
 replace HB := Ya.mk (HB.out.trans (hb.mono HB.out.size))
 clear hb
 go_wp2_with fail
 go_ret
 exact ⟨rfl, HB.out⟩
theorem rLink_no1 (k0 k1 k2 k3 k4 k5 : Nat) (b1 b2 : ByteArray) (b3 : Int) (b4 b5 b6 : ByteArray) (b7 b8 : Bool) (u1 u2 : ByteArray) (u3 : Int) (u4 u5 u6 : ByteArray) (u7 u8 : Bool) (s o : ByteArray) (w : World) (hE : EnvOk w)
  (hs : Yo.f k0 u1 u2 u3 u4 u5 u6 u7 u8 = some s)
  (ho : Yo.f k3 u1 u2 u3 ⟨#[]⟩ ⟨#[]⟩ ⟨#[]⟩ false false = some o)
  (hm : Yga.f k1 b1 b2 b3 b4 b5 b6 b7 b8 = some true)
  (hn : Yga.f k2 u1 u2 u3 u4 u5 u6 u7 u8 = some false) :
  Calls Tryz.prog 42 #[.agg (uc b1 b2 b3 b4 b5 b6 b7 b8), .agg (uc u1 u2 u3 u4 u5 u6 u7 u8)] w fun e w' => e = .returned (.string s) ∧ Below w.heap.size w w' := by
 have HE := Ya.mk hE
 have HS := Ya.mk hs
 have HO := Ya.mk ho
 have HM := Ya.mk hm
 have HN := Ya.mk hn
 clear hE hs ho hm hn
 have cB := Tryz.underlying25
 have BK := Ya.mk (heap_alloc_new w (.cells (uc b1 b2 b3 b4 b5 b6 b7 b8) 25))
 have HB := Ya.mk ((Below.refl w.heap.size w).alloc (Nat.le_refl _) (.cells (uc b1 b2 b3 b4 b5 b6 b7 b8) 25))
 have BKq := Ya.mk (Yj BK.out (.cells (uc u1 u2 u3 u4 u5 u6 u7 u8) 25))
 clear BK
 have BK := BKq
 clear BKq
 have BU := Ya.mk (heap_alloc_new (w.alloc (.cells (uc b1 b2 b3 b4 b5 b6 b7 b8) 25)) (.cells (uc u1 u2 u3 u4 u5 u6 u7 u8) 25))
 rw [Ycc] at BU
 have HBq := Ya.mk (HB.out.alloc HB.out.size (.cells (uc u1 u2 u3 u4 u5 u6 u7 u8) 25))
 clear HB
 have HB := HBq
 clear HBq
 go_enter Tryz.func42, Tryz.ntmps42
 obtain ⟨bN, bM, bO, bS, bR, bQ, bT, bP⟩ := Yv BU.out
 go_wp2_with fail
 clear bN bM bO bS bR bQ bT bP
 refine (Yo.calls k0 u1 u2 u3 u4 u5 u6 u7 u8 s _ (HE.out.below HB.out) HS.out).mono ?_
 rintro e w1 ⟨rfl, hb⟩
 replace BK := Ya.mk (Yq BK.out hb)
 replace BU := Ya.mk (Yq BU.out hb)
 replace HB := Ya.mk (HB.out.trans (hb.mono HB.out.size))
 clear hb
 obtain ⟨bN, bM, bO, bS, bR, bQ, bT, bP⟩ := Yv BU.out
 go_wp2_with fail
 clear bN bM bO bS bR bQ bT bP
 refine (Yo.calls k3 u1 u2 u3 ⟨#[]⟩ ⟨#[]⟩ ⟨#[]⟩ false false o _ (HE.out.below HB.out) HO.out).mono ?_
 rintro e w2 ⟨rfl, hb⟩
 replace BK := Ya.mk (Yq BK.out hb)
 replace BU := Ya.mk (Yq BU.out hb)
 replace HB := Ya.mk (HB.out.trans (hb.mono HB.out.size))
 clear hb
 obtain ⟨bN, bM, bO, bS, bR, bQ, bT, bP⟩ := Yv BK.out
 go_wp2_with fail
 clear bN bM bO bS bR bQ bT bP
 refine (Yga.calls k1 b1 b2 b3 b4 b5 b6 b7 b8 true _ (HE.out.below HB.out) HM.out).mono ?_
 rintro e w3 ⟨rfl, hb⟩
 replace BK := Ya.mk (Yq BK.out hb)
 replace BU := Ya.mk (Yq BU.out hb)
 replace HB := Ya.mk (HB.out.trans (hb.mono HB.out.size))
 clear hb
 obtain ⟨bN, bM, bO, bS, bR, bQ, bT, bP⟩ := Yv BU.out
 go_wp2_with fail
 clear bN bM bO bS bR bQ bT bP
 refine (Yga.calls k2 u1 u2 u3 u4 u5 u6 u7 u8 false _ (HE.out.below HB.out) HN.out).mono ?_
 rintro e w4 ⟨rfl, hb⟩
 replace BK := Ya.mk (Yq BK.out hb)
 replace BU := Ya.mk (Yq BU.out hb)
 replace HB := Ya.mk (HB.out.trans (hb.mono HB.out.size))
 clear hb
 go_wp2_with fail
 go_ret
 exact ⟨rfl, HB.out⟩
theorem rLink_no2 (k0 k1 k2 k3 k4 k5 : Nat) (b1 b2 : ByteArray) (b3 : Int) (b4 b5 b6 : ByteArray) (b7 b8 : Bool) (u1 u2 : ByteArray) (u3 : Int) (u4 u5 u6 : ByteArray) (u7 u8 : Bool) (s o : ByteArray) (w : World) (hE : EnvOk w)
  (hs : Yo.f k0 u1 u2 u3 u4 u5 u6 u7 u8 = some s)
  (ho : Yo.f k3 u1 u2 u3 ⟨#[]⟩ ⟨#[]⟩ ⟨#[]⟩ false false = some o)
  (hm : Yga.f k1 b1 b2 b3 b4 b5 b6 b7 b8 = some true)
  (hn : Yga.f k2 u1 u2 u3 u4 u5 u6 u7 u8 = some true)
  (hq : ¬ b1.toList = u1.toList) :
  Calls Tryz.prog 42 #[.agg (uc b1 b2 b3 b4 b5 b6 b7 b8), .agg (uc u1 u2 u3 u4 u5 u6 u7 u8)] w fun e w' => e = .returned (.string s) ∧ Below w.heap.size w w' := by
 have HE := Ya.mk hE
 have HS := Ya.mk hs
 have HO := Ya.mk ho
 have HM := Ya.mk hm
 have HN := Ya.mk hn
 have HQ := Ya.mk hq
 clear hE hs ho hm hn hq
 have cB := Tryz.underlying25
 have BK := Ya.mk (heap_alloc_new w (.cells (uc b1 b2 b3 b4 b5 b6 b7 b8) 25))
 have HB := Ya.mk ((Below.refl w.heap.size w).alloc (Nat.le_refl _) (.cells (uc b1 b2 b3 b4 b5 b6 b7 b8) 25))
 have BKq := Ya.mk (Yj BK.out (.cells (uc u1 u2 u3 u4 u5 u6 u7 u8) 25))
 clear BK
 have BK := BKq
 clear BKq
 have BU := Ya.mk (heap_alloc_new (w.alloc (.cells (uc b1 b2 b3 b4 b5 b6 b7 b8) 25)) (.cells (uc u1 u2 u3 u4 u5 u6 u7 u8) 25))
 rw [Ycc] at BU
 have HBq := Ya.mk (HB.out.alloc HB.out.size (.cells (uc u1 u2 u3 u4 u5 u6 u7 u8) 25))
 clear HB
 have HB := HBq
 clear HBq
 go_enter Tryz.func42, Tryz.ntmps42
 obtain ⟨bN, bM, bO, bS, bR, bQ, bT, bP⟩ := Yv BU.out
 go_wp2_with fail
 clear bN bM bO bS bR bQ bT bP
 refine (Yo.calls k0 u1 u2 u3 u4 u5 u6 u7 u8 s _ (HE.out.below HB.out) HS.out).mono ?_
 rintro e w1 ⟨rfl, hb⟩
 replace BK := Ya.mk (Yq BK.out hb)
 replace BU := Ya.mk (Yq BU.out hb)
 replace HB := Ya.mk (HB.out.trans (hb.mono HB.out.size))
 clear hb
 obtain ⟨bN, bM, bO, bS, bR, bQ, bT, bP⟩ := Yv BU.out
 go_wp2_with fail
 clear bN bM bO bS bR bQ bT bP
 refine (Yo.calls k3 u1 u2 u3 ⟨#[]⟩ ⟨#[]⟩ ⟨#[]⟩ false false o _ (HE.out.below HB.out) HO.out).mono ?_
 rintro e w2 ⟨rfl, hb⟩
 replace BK := Ya.mk (Yq BK.out hb)
 replace BU := Ya.mk (Yq BU.out hb)
 replace HB := Ya.mk (HB.out.trans (hb.mono HB.out.size))
 clear hb
 obtain ⟨bN, bM, bO, bS, bR, bQ, bT, bP⟩ := Yv BK.out
 go_wp2_with fail
 clear bN bM bO bS bR bQ bT bP
 refine (Yga.calls k1 b1 b2 b3 b4 b5 b6 b7 b8 true _ (HE.out.below HB.out) HM.out).mono ?_
 rintro e w3 ⟨rfl, hb⟩
 replace BK := Ya.mk (Yq BK.out hb)
 replace BU := Ya.mk (Yq BU.out hb)
 replace HB := Ya.mk (HB.out.trans (hb.mono HB.out.size))
 clear hb
 obtain ⟨bN, bM, bO, bS, bR, bQ, bT, bP⟩ := Yv BU.out
 go_wp2_with fail
 clear bN bM bO bS bR bQ bT bP
 refine (Yga.calls k2 u1 u2 u3 u4 u5 u6 u7 u8 true _ (HE.out.below HB.out) HN.out).mono ?_
 rintro e w4 ⟨rfl, hb⟩
 replace BK := Ya.mk (Yq BK.out hb)
 replace BU := Ya.mk (Yq BU.out hb)
 replace HB := Ya.mk (HB.out.trans (hb.mono HB.out.size))
 clear hb
 obtain ⟨bN, bM, bO, bS, bR, bQ, bT, bP⟩ := Yv BK.out
 obtain ⟨nJ, hd1, hd2, hd3, hd4, hd5, vB, vC⟩ := Yv BU.out
 have q1 : (b1.toList == u1.toList) = false := beq_eq_false_iff_ne.2 HQ.out
 have q2 : (b1.toList != u1.toList) = true := bne_iff_ne.2 HQ.out
 go_wp2_with fail
 go_ret
 exact ⟨rfl, HB.out⟩
theorem Ywt (k0 k1 k2 k3 k4 k5 : Nat) (b1 b2 : ByteArray) (b3 : Int) (b4 b5 b6 : ByteArray) (b7 b8 : Bool) (u1 u2 : ByteArray) (u3 : Int) (u4 u5 u6 : ByteArray) (u7 u8 : Bool) (s o : ByteArray) (w : World) (hE : EnvOk w)
  (hs : Yo.f k0 u1 u2 u3 u4 u5 u6 u7 u8 = some s)
  (ho : Yo.f k3 u1 u2 u3 ⟨#[]⟩ ⟨#[]⟩ ⟨#[]⟩ false false = some o)
  (hm : Yga.f k1 b1 b2 b3 b4 b5 b6 b7 b8 = some true)
  (hn : Yga.f k2 u1 u2 u3 u4 u5 u6 u7 u8 = some true)
  (hq : b1.toList = u1.toList)
  (hr : ¬ b2.toList = u2.toList)
  (hx : u1.size + 1 ≤ s.size)
  (hy : s.size ≤ 1000000) :
  Calls Tryz.prog 42 #[.agg (uc b1 b2 b3 b4 b5 b6 b7 b8), .agg (uc u1 u2 u3 u4 u5 u6 u7 u8)] w fun e w' => e = .returned (.string (s.extract (u1.size + 1) s.size)) ∧ Below w.heap.size w w' := by
 have HE := Ya.mk hE
 have HS := Ya.mk hs
 have HO := Ya.mk ho
 have HM := Ya.mk hm
 have HN := Ya.mk hn
 have HQ := Ya.mk hq
 have HR := Ya.mk hr
 have HX := Ya.mk hx
 have HY := Ya.mk hy
 clear hE hs ho hm hn hq hr hx hy
 have cB := Tryz.underlying25
 have BK := Ya.mk (heap_alloc_new w (.cells (uc b1 b2 b3 b4 b5 b6 b7 b8) 25))
 have HB := Ya.mk ((Below.refl w.heap.size w).alloc (Nat.le_refl _) (.cells (uc b1 b2 b3 b4 b5 b6 b7 b8) 25))
 have BKq := Ya.mk (Yj BK.out (.cells (uc u1 u2 u3 u4 u5 u6 u7 u8) 25))
 clear BK
 have BK := BKq
 clear BKq
 have BU := Ya.mk (heap_alloc_new (w.alloc (.cells (uc b1 b2 b3 b4 b5 b6 b7 b8) 25)) (.cells (uc u1 u2 u3 u4 u5 u6 u7 u8) 25))
 rw [Ycc] at BU
 have HBq := Ya.mk (HB.out.alloc HB.out.size (.cells (uc u1 u2 u3 u4 u5 u6 u7 u8) 25))
 clear HB
 have HB := HBq
 clear HBq
 go_enter Tryz.func42, Tryz.ntmps42
 obtain ⟨bN, bM, bO, bS, bR, bQ, bT, bP⟩ := Yv BU.out
 go_wp2_with fail
 clear bN bM bO bS bR bQ bT bP
 refine (Yo.calls k0 u1 u2 u3 u4 u5 u6 u7 u8 s _ (HE.out.below HB.out) HS.out).mono ?_
 rintro e w1 ⟨rfl, hb⟩
 replace BK := Ya.mk (Yq BK.out hb)
 replace BU := Ya.mk (Yq BU.out hb)
 replace HB := Ya.mk (HB.out.trans (hb.mono HB.out.size))
 clear hb
 obtain ⟨bN, bM, bO, bS, bR, bQ, bT, bP⟩ := Yv BU.out
 go_wp2_with fail
 clear bN bM bO bS bR bQ bT bP
 refine (Yo.calls k3 u1 u2 u3 ⟨#[]⟩ ⟨#[]⟩ ⟨#[]⟩ false false o _ (HE.out.below HB.out) HO.out).mono ?_
 rintro e w2 ⟨rfl, hb⟩
 replace BK := Ya.mk (Yq BK.out hb)
 replace BU := Ya.mk (Yq BU.out hb)
 replace HB := Ya.mk (HB.out.trans (hb.mono HB.out.size))
 clear hb
 obtain ⟨bN, bM, bO, bS, bR, bQ, bT, bP⟩ := Yv BK.out
 go_wp2_with fail
 clear bN bM bO bS bR bQ bT bP
 refine (Yga.calls k1 b1 b2 b3 b4 b5 b6 b7 b8 true _ (HE.out.below HB.out) HM.out).mono ?_
 rintro e w3 ⟨rfl, hb⟩
 replace BK := Ya.mk (Yq BK.out hb)
 replace BU := Ya.mk (Yq BU.out hb)
 replace HB := Ya.mk (HB.out.trans (hb.mono HB.out.size))
 clear hb
 obtain ⟨bN, bM, bO, bS, bR, bQ, bT, bP⟩ := Yv BU.out
 go_wp2_with fail
 clear bN bM bO bS bR bQ bT bP
 refine (Yga.calls k2 u1 u2 u3 u4 u5 u6 u7 u8 true _ (HE.out.below HB.out) HN.out).mono ?_
 rintro e w4 ⟨rfl, hb⟩
 replace BK := Ya.mk (Yq BK.out hb)
 replace BU := Ya.mk (Yq BU.out hb)
 replace HB := Ya.mk (HB.out.trans (hb.mono HB.out.size))
 clear hb
 obtain ⟨bN, bM, bO, bS, bR, bQ, bT, bP⟩ := Yv BK.out
 obtain ⟨nJ, hd1, hd2, hd3, hd4, hd5, vB, vC⟩ := Yv BU.out
 have q1 : (b1.toList == u1.toList) = true := beq_iff_eq.2 HQ.out
 have q2 : (b1.toList != u1.toList) = false := bne_eq_false_iff_eq.2 HQ.out
 have q3 : (b2.toList == u2.toList) = false := beq_eq_false_iff_ne.2 HR.out
 obtain ⟨n1, kF⟩ : ∃ n : Int, wrap64 ((u1.size : Int) + 1) = n := ⟨_, rfl⟩
 have wU : n1 = ((u1.size + 1 : Nat) : Int) := by rw [← kF]; unfold wrap64; have := HY.out; have := HX.out; omega
 have d0 := eq_true (show 0 ≤ n1 by omega)
 have d1 := eq_true (show n1 ≤ (s.size : Int) by have := HX.out; omega)
 have d2 : decide (n1 ≤ (s.size : Int)) = true := decide_eq_true (by have := HX.out; omega)
 have HN2 := Ya.mk (show n1.toNat = u1.size + 1 by omega)
 clear wU
 go_wp2_with fail
 go_ret
 exact ⟨by (try rw [HN2.out]); rfl, HB.out⟩
theorem Yqt (k0 k1 k2 k3 k4 k5 : Nat) (b1 b2 : ByteArray) (b3 : Int) (b4 b5 b6 : ByteArray) (b7 b8 : Bool) (u1 u2 : ByteArray) (u3 : Int) (u4 u5 u6 : ByteArray) (u7 u8 : Bool) (s o : ByteArray) (w : World) (hE : EnvOk w)
  (hs : Yo.f k0 u1 u2 u3 u4 u5 u6 u7 u8 = some s)
  (ho : Yo.f k3 u1 u2 u3 ⟨#[]⟩ ⟨#[]⟩ ⟨#[]⟩ false false = some o)
  (hm : Yga.f k1 b1 b2 b3 b4 b5 b6 b7 b8 = some true)
  (hn : Yga.f k2 u1 u2 u3 u4 u5 u6 u7 u8 = some true)
  (hq : b1.toList = u1.toList)
  (hr : b2.toList = u2.toList)
  (ht : ¬ b3 = u3)
  (hx : u1.size + 1 ≤ s.size)
  (hy : s.size ≤ 1000000) :
  Calls Tryz.prog 42 #[.agg (uc b1 b2 b3 b4 b5 b6 b7 b8), .agg (uc u1 u2 u3 u4 u5 u6 u7 u8)] w fun e w' => e = .returned (.string (s.extract (u1.size + 1) s.size)) ∧ Below w.heap.size w w' := by
 have HE := Ya.mk hE
 have HS := Ya.mk hs
 have HO := Ya.mk ho
 have HM := Ya.mk hm
 have HN := Ya.mk hn
 have HQ := Ya.mk hq
 have HR := Ya.mk hr
 have HT := Ya.mk ht
 have HX := Ya.mk hx
 have HY := Ya.mk hy
 clear hE hs ho hm hn hq hr ht hx hy
 have cB := Tryz.underlying25
 have BK := Ya.mk (heap_alloc_new w (.cells (uc b1 b2 b3 b4 b5 b6 b7 b8) 25))
 have HB := Ya.mk ((Below.refl w.heap.size w).alloc (Nat.le_refl _) (.cells (uc b1 b2 b3 b4 b5 b6 b7 b8) 25))
 have BKq := Ya.mk (Yj BK.out (.cells (uc u1 u2 u3 u4 u5 u6 u7 u8) 25))
 clear BK
 have BK := BKq
 clear BKq
 have BU := Ya.mk (heap_alloc_new (w.alloc (.cells (uc b1 b2 b3 b4 b5 b6 b7 b8) 25)) (.cells (uc u1 u2 u3 u4 u5 u6 u7 u8) 25))
 rw [Ycc] at BU
 have HBq := Ya.mk (HB.out.alloc HB.out.size (.cells (uc u1 u2 u3 u4 u5 u6 u7 u8) 25))
 clear HB
 have HB := HBq
 clear HBq
 go_enter Tryz.func42, Tryz.ntmps42
 obtain ⟨bN, bM, bO, bS, bR, bQ, bT, bP⟩ := Yv BU.out
 go_wp2_with fail
 clear bN bM bO bS bR bQ bT bP
 refine (Yo.calls k0 u1 u2 u3 u4 u5 u6 u7 u8 s _ (HE.out.below HB.out) HS.out).mono ?_
 rintro e w1 ⟨rfl, hb⟩
 replace BK := Ya.mk (Yq BK.out hb)
 replace BU := Ya.mk (Yq BU.out hb)
 replace HB := Ya.mk (HB.out.trans (hb.mono HB.out.size))
 clear hb
 obtain ⟨bN, bM, bO, bS, bR, bQ, bT, bP⟩ := Yv BU.out
 go_wp2_with fail
 clear bN bM bO bS bR bQ bT bP
 refine (Yo.calls k3 u1 u2 u3 ⟨#[]⟩ ⟨#[]⟩ ⟨#[]⟩ false false o _ (HE.out.below HB.out) HO.out).mono ?_
 rintro e w2 ⟨rfl, hb⟩
 replace BK := Ya.mk (Yq BK.out hb)
 replace BU := Ya.mk (Yq BU.out hb)
 replace HB := Ya.mk (HB.out.trans (hb.mono HB.out.size))
 clear hb
 obtain ⟨bN, bM, bO, bS, bR, bQ, bT, bP⟩ := Yv BK.out
 go_wp2_with fail
 clear bN bM bO bS bR bQ bT bP
 refine (Yga.calls k1 b1 b2 b3 b4 b5 b6 b7 b8 true _ (HE.out.below HB.out) HM.out).mono ?_
 rintro e w3 ⟨rfl, hb⟩
 replace BK := Ya.mk (Yq BK.out hb)
 replace BU := Ya.mk (Yq BU.out hb)
 replace HB := Ya.mk (HB.out.trans (hb.mono HB.out.size))
 clear hb
 obtain ⟨bN, bM, bO, bS, bR, bQ, bT, bP⟩ := Yv BU.out
 go_wp2_with fail
 clear bN bM bO bS bR bQ bT bP
 refine (Yga.calls k2 u1 u2 u3 u4 u5 u6 u7 u8 true _ (HE.out.below HB.out) HN.out).mono ?_
 rintro e w4 ⟨rfl, hb⟩
 replace BK := Ya.mk (Yq BK.out hb)
 replace BU := Ya.mk (Yq BU.out hb)
 replace HB := Ya.mk (HB.out.trans (hb.mono HB.out.size))
 clear hb
 obtain ⟨bN, bM, bO, bS, bR, bQ, bT, bP⟩ := Yv BK.out
 obtain ⟨nJ, hd1, hd2, hd3, hd4, hd5, vB, vC⟩ := Yv BU.out
 have q1 : (b1.toList == u1.toList) = true := beq_iff_eq.2 HQ.out
 have q2 : (b1.toList != u1.toList) = false := bne_eq_false_iff_eq.2 HQ.out
 have q3 : (b2.toList == u2.toList) = true := beq_iff_eq.2 HR.out
 have q4 : (b3 == u3) = false := beq_eq_false_iff_ne.2 HT.out
 have q5 : decide (b3 = u3) = false := decide_eq_false HT.out
 obtain ⟨n1, kF⟩ : ∃ n : Int, wrap64 ((u1.size : Int) + 1) = n := ⟨_, rfl⟩
 have wU : n1 = ((u1.size + 1 : Nat) : Int) := by rw [← kF]; unfold wrap64; have := HY.out; have := HX.out; omega
 have d0 := eq_true (show 0 ≤ n1 by omega)
 have d1 := eq_true (show n1 ≤ (s.size : Int) by have := HX.out; omega)
 have d2 : decide (n1 ≤ (s.size : Int)) = true := decide_eq_true (by have := HX.out; omega)
 have HN2 := Ya.mk (show n1.toNat = u1.size + 1 by omega)
 clear wU
 go_wp2_with fail
 go_ret
 exact ⟨by (try rw [HN2.out]); rfl, HB.out⟩
theorem rLink_two (k0 k1 k2 k3 k4 k5 : Nat) (b1 b2 : ByteArray) (b3 : Int) (b4 b5 b6 : ByteArray) (b7 b8 : Bool) (u1 u2 : ByteArray) (u3 : Int) (u4 u5 u6 : ByteArray) (u7 u8 : Bool) (s o : ByteArray) (w : World) (hE : EnvOk w)
  (hs : Yo.f k0 u1 u2 u3 u4 u5 u6 u7 u8 = some s)
  (ho : Yo.f k3 u1 u2 u3 ⟨#[]⟩ ⟨#[]⟩ ⟨#[]⟩ false false = some o)
  (hm : Yga.f k1 b1 b2 b3 b4 b5 b6 b7 b8 = some true)
  (hn : Yga.f k2 u1 u2 u3 u4 u5 u6 u7 u8 = some true)
  (hq : b1.toList = u1.toList)
  (hr : b2.toList = u2.toList)
  (ht : b3 = u3)
  (hi : 1 ≤ u4.size)
  (hj : Ybd.f (u4.extract 1 u4.size) = some true)
  (hx : u1.size + 1 ≤ s.size)
  (hy : s.size ≤ 1000000) :
  Calls Tryz.prog 42 #[.agg (uc b1 b2 b3 b4 b5 b6 b7 b8), .agg (uc u1 u2 u3 u4 u5 u6 u7 u8)] w fun e w' => e = .returned (.string (s.extract (u1.size + 1) s.size)) ∧ Below w.heap.size w w' := by
 have HE := Ya.mk hE
 have HS := Ya.mk hs
 have HO := Ya.mk ho
 have HM := Ya.mk hm
 have HN := Ya.mk hn
 have HQ := Ya.mk hq
 have HR := Ya.mk hr
 have HT := Ya.mk ht
 have HI := Ya.mk hi
 have HJ := Ya.mk hj
 have HX := Ya.mk hx
 have HY := Ya.mk hy
 clear hE hs ho hm hn hq hr ht hi hj hx hy
 have cB := Tryz.underlying25
 have BK := Ya.mk (heap_alloc_new w (.cells (uc b1 b2 b3 b4 b5 b6 b7 b8) 25))
 have HB := Ya.mk ((Below.refl w.heap.size w).alloc (Nat.le_refl _) (.cells (uc b1 b2 b3 b4 b5 b6 b7 b8) 25))
 have BKq := Ya.mk (Yj BK.out (.cells (uc u1 u2 u3 u4 u5 u6 u7 u8) 25))
 clear BK
 have BK := BKq
 clear BKq
 have BU := Ya.mk (heap_alloc_new (w.alloc (.cells (uc b1 b2 b3 b4 b5 b6 b7 b8) 25)) (.cells (uc u1 u2 u3 u4 u5 u6 u7 u8) 25))
 rw [Ycc] at BU
 have HBq := Ya.mk (HB.out.alloc HB.out.size (.cells (uc u1 u2 u3 u4 u5 u6 u7 u8) 25))
 clear HB
 have HB := HBq
 clear HBq
 go_enter Tryz.func42, Tryz.ntmps42
 obtain ⟨bN, bM, bO, bS, bR, bQ, bT, bP⟩ := Yv BU.out
 go_wp2_with fail
 clear bN bM bO bS bR bQ bT bP
 refine (Yo.calls k0 u1 u2 u3 u4 u5 u6 u7 u8 s _ (HE.out.below HB.out) HS.out).mono ?_
 rintro e w1 ⟨rfl, hb⟩
 replace BK := Ya.mk (Yq BK.out hb)
 replace BU := Ya.mk (Yq BU.out hb)
 replace HB := Ya.mk (HB.out.trans (hb.mono HB.out.size))
 clear hb
 obtain ⟨bN, bM, bO, bS, bR, bQ, bT, bP⟩ := Yv BU.out
 go_wp2_with fail
 clear bN bM bO bS bR bQ bT bP
 refine (Yo.calls k3 u1 u2 u3 ⟨#[]⟩ ⟨#[]⟩ ⟨#[]⟩ false false o _ (HE.out.below HB.out) HO.out).mono ?_
 rintro e w2 ⟨rfl, hb⟩
 replace BK := Ya.mk (Yq BK.out hb)
 replace BU := Ya.mk (Yq BU.out hb)
 replace HB := Ya.mk (HB.out.trans (hb.mono HB.out.size))
 clear hb
 obtain ⟨bN, bM, bO, bS, bR, bQ, bT, bP⟩ := Yv BK.out
 go_wp2_with fail
 clear bN bM bO bS bR bQ bT bP
 refine (Yga.calls k1 b1 b2 b3 b4 b5 b6 b7 b8 true _ (HE.out.below HB.out) HM.out).mono ?_
 rintro e w3 ⟨rfl, hb⟩
 replace BK := Ya.mk (Yq BK.out hb)
 replace BU := Ya.mk (Yq BU.out hb)
 replace HB := Ya.mk (HB.out.trans (hb.mono HB.out.size))
 clear hb
 obtain ⟨bN, bM, bO, bS, bR, bQ, bT, bP⟩ := Yv BU.out
 go_wp2_with fail
 clear bN bM bO bS bR bQ bT bP
 refine (Yga.calls k2 u1 u2 u3 u4 u5 u6 u7 u8 true _ (HE.out.below HB.out) HN.out).mono ?_
 rintro e w4 ⟨rfl, hb⟩
 replace BK := Ya.mk (Yq BK.out hb)
 replace BU := Ya.mk (Yq BU.out hb)
 replace HB := Ya.mk (HB.out.trans (hb.mono HB.out.size))
 clear hb
 obtain ⟨bN, bM, bO, bS, bR, bQ, bT, bP⟩ := Yv BK.out
 obtain ⟨nJ, hd1, hd2, hd3, hd4, hd5, vB, vC⟩ := Yv BU.out
 have q1 : (b1.toList == u1.toList) = true := beq_iff_eq.2 HQ.out
 have q2 : (b1.toList != u1.toList) = false := bne_eq_false_iff_eq.2 HQ.out
 have q3 : (b2.toList == u2.toList) = true := beq_iff_eq.2 HR.out
 have q4 : (b3 == u3) = true := beq_iff_eq.2 HT.out
 have q5 : decide (b3 = u3) = true := decide_eq_true HT.out
 have e0 := eq_true (show (1 : Int) ≤ (u4.size : Int) by have := HI.out; omega)
 have e1 : decide ((1 : Int) ≤ (u4.size : Int)) = true := decide_eq_true (by have := HI.out; omega)
 have e2 := eq_true (show 1 ≤ u4.size from HI.out)
 go_wp2_with fail
 clear bN bM bO bS bR bQ bT bP
 clear nJ hd1 hd2 hd3 hd4 hd5 vB vC
 refine (Ybd.calls (u4.extract 1 u4.size) true _ (HE.out.below HB.out) HJ.out).mono ?_
 rintro e wq ⟨rfl, ⟨nd, rfl⟩⟩
 replace BK := Ya.mk (Ym BK.out nd)
 replace BU := Ya.mk (Ym BU.out nd)
 replace HB := Ya.mk (Yb HB.out nd)
 generalize World.drewN _ nd = w5 at BK BU HB ⊢
 obtain ⟨bN, bM, bO, bS, bR, bQ, bT, bP⟩ := Yv BU.out
 obtain ⟨n1, kF⟩ : ∃ n : Int, wrap64 ((u1.size : Int) + 1) = n := ⟨_, rfl⟩
 have wU : n1 = ((u1.size + 1 : Nat) : Int) := by rw [← kF]; unfold wrap64; have := HY.out; have := HX.out; omega
 have d0 := eq_true (show 0 ≤ n1 by omega)
 have d1 := eq_true (show n1 ≤ (s.size : Int) by have := HX.out; omega)
 have d2 : decide (n1 ≤ (s.size : Int)) = true := decide_eq_true (by have := HX.out; omega)
 have HN2 := Ya.mk (show n1.toNat = u1.size + 1 by omega)
 clear wU
 go_wp2_with fail
 go_ret
 exact ⟨by (try rw [HN2.out]); rfl, HB.out⟩
theorem Ylt (k0 k1 k2 k3 k4 k5 : Nat) (b1 b2 : ByteArray) (b3 : Int) (b4 b5 b6 : ByteArray) (b7 b8 : Bool) (u1 u2 : ByteArray) (u3 : Int) (u4 u5 u6 : ByteArray) (u7 u8 : Bool) (s o : ByteArray) (w : World) (hE : EnvOk w)
  (hs : Yo.f k0 u1 u2 u3 u4 u5 u6 u7 u8 = some s)
  (ho : Yo.f k3 u1 u2 u3 ⟨#[]⟩ ⟨#[]⟩ ⟨#[]⟩ false false = some o)
  (hm : Yga.f k1 b1 b2 b3 b4 b5 b6 b7 b8 = some true)
  (hn : Yga.f k2 u1 u2 u3 u4 u5 u6 u7 u8 = some true)
  (hq : b1.toList = u1.toList)
  (hr : b2.toList = u2.toList)
  (ht : b3 = u3)
  (hi : 1 ≤ u4.size)
  (hj : Ybd.f (u4.extract 1 u4.size) = some false)
  (hz : o.size ≤ s.size) :
  Calls Tryz.prog 42 #[.agg (uc b1 b2 b3 b4 b5 b6 b7 b8), .agg (uc u1 u2 u3 u4 u5 u6 u7 u8)] w fun e w' => e = .returned (.string (s.extract o.size s.size)) ∧ Below w.heap.size w w' := by
 have HE := Ya.mk hE
 have HS := Ya.mk hs
 have HO := Ya.mk ho
 have HM := Ya.mk hm
 have HN := Ya.mk hn
 have HQ := Ya.mk hq
 have HR := Ya.mk hr
 have HT := Ya.mk ht
 have HI := Ya.mk hi
 have HJ := Ya.mk hj
 have HZ := Ya.mk hz
 clear hE hs ho hm hn hq hr ht hi hj hz
 have cB := Tryz.underlying25
 have BK := Ya.mk (heap_alloc_new w (.cells (uc b1 b2 b3 b4 b5 b6 b7 b8) 25))
 have HB := Ya.mk ((Below.refl w.heap.size w).alloc (Nat.le_refl _) (.cells (uc b1 b2 b3 b4 b5 b6 b7 b8) 25))
 have BKq := Ya.mk (Yj BK.out (.cells (uc u1 u2 u3 u4 u5 u6 u7 u8) 25))
 clear BK
 have BK := BKq
 clear BKq
 have BU := Ya.mk (heap_alloc_new (w.alloc (.cells (uc b1 b2 b3 b4 b5 b6 b7 b8) 25)) (.cells (uc u1 u2 u3 u4 u5 u6 u7 u8) 25))
 rw [Ycc] at BU
 have HBq := Ya.mk (HB.out.alloc HB.out.size (.cells (uc u1 u2 u3 u4 u5 u6 u7 u8) 25))
 clear HB
 have HB := HBq
 clear HBq
 go_enter Tryz.func42, Tryz.ntmps42
 obtain ⟨bN, bM, bO, bS, bR, bQ, bT, bP⟩ := Yv BU.out
 go_wp2_with fail
 clear bN bM bO bS bR bQ bT bP
 refine (Yo.calls k0 u1 u2 u3 u4 u5 u6 u7 u8 s _ (HE.out.below HB.out) HS.out).mono ?_
 rintro e w1 ⟨rfl, hb⟩
 replace BK := Ya.mk (Yq BK.out hb)
 replace BU := Ya.mk (Yq BU.out hb)
 replace HB := Ya.mk (HB.out.trans (hb.mono HB.out.size))
 clear hb
 obtain ⟨bN, bM, bO, bS, bR, bQ, bT, bP⟩ := Yv BU.out
 go_wp2_with fail
 clear bN bM bO bS bR bQ bT bP
 refine (Yo.calls k3 u1 u2 u3 ⟨#[]⟩ ⟨#[]⟩ ⟨#[]⟩ false false o _ (HE.out.below HB.out) HO.out).mono ?_
 rintro e w2 ⟨rfl, hb⟩
 replace BK := Ya.mk (Yq BK.out hb)
 replace BU := Ya.mk (Yq BU.out hb)
 replace HB := Ya.mk (HB.out.trans (hb.mono HB.out.size))
 clear hb
 obtain ⟨bN, bM, bO, bS, bR, bQ, bT, bP⟩ := Yv BK.out
 go_wp2_with fail
 clear bN bM bO bS bR bQ bT bP
 refine (Yga.calls k1 b1 b2 b3 b4 b5 b6 b7 b8 true _ (HE.out.below HB.out) HM.out).mono ?_
 rintro e w3 ⟨rfl, hb⟩
 replace BK := Ya.mk (Yq BK.out hb)
 replace BU := Ya.mk (Yq BU.out hb)
 replace HB := Ya.mk (HB.out.trans (hb.mono HB.out.size))
 clear hb
 obtain ⟨bN, bM, bO, bS, bR, bQ, bT, bP⟩ := Yv BU.out
 go_wp2_with fail
 clear bN bM bO bS bR bQ bT bP
 refine (Yga.calls k2 u1 u2 u3 u4 u5 u6 u7 u8 true _ (HE.out.below HB.out) HN.out).mono ?_
 rintro e w4 ⟨rfl, hb⟩
 replace BK := Ya.mk (Yq BK.out hb)
 replace BU := Ya.mk (Yq BU.out hb)
 replace HB := Ya.mk (HB.out.trans (hb.mono HB.out.size))
 clear hb
 obtain ⟨bN, bM, bO, bS, bR, bQ, bT, bP⟩ := Yv BK.out
 obtain ⟨nJ, hd1, hd2, hd3, hd4, hd5, vB, vC⟩ := Yv BU.out
 have q1 : (b1.toList == u1.toList) = true := beq_iff_eq.2 HQ.out
 have q2 : (b1.toList != u1.toList) = false := bne_eq_false_iff_eq.2 HQ.out
 have q3 : (b2.toList == u2.toList) = true := beq_iff_eq.2 HR.out
 have q4 : (b3 == u3) = true := beq_iff_eq.2 HT.out
 have q5 : decide (b3 = u3) = true := decide_eq_true HT.out
 have e0 := eq_true (show (1 : Int) ≤ (u4.size : Int) by have := HI.out; omega)
 have e1 : decide ((1 : Int) ≤ (u4.size : Int)) = true := decide_eq_true (by have := HI.out; omega)
 have e2 := eq_true (show 1 ≤ u4.size from HI.out)
 go_wp2_with fail
 clear bN bM bO bS bR bQ bT bP
 clear nJ hd1 hd2 hd3 hd4 hd5 vB vC
 refine (Ybd.calls (u4.extract 1 u4.size) false _ (HE.out.below HB.out) HJ.out).mono ?_
 rintro e wq ⟨rfl, ⟨nd, rfl⟩⟩
 replace BK := Ya.mk (Ym BK.out nd)
 replace BU := Ya.mk (Ym BU.out nd)
 replace HB := Ya.mk (Yb HB.out nd)
 generalize World.drewN _ nd = w5 at BK BU HB ⊢
 obtain ⟨bN, bM, bO, bS, bR, bQ, bT, bP⟩ := Yv BU.out
 have d0 := eq_true (show (0 : Int) ≤ (o.size : Int) by omega)
 have d1 := eq_true (show (o.size : Int) ≤ (s.size : Int) by have := HZ.out; omega)
 have d2 : decide ((o.size : Int) ≤ (s.size : Int)) = true := decide_eq_true (by have := HZ.out; omega)
 have d3 := eq_true (show o.size ≤ s.size from HZ.out)
 go_wp2_with fail
 go_ret
 exact ⟨rfl, HB.out⟩
end Go.Proofs.YtnmglnglbdpjjaaGreatDoor.X
