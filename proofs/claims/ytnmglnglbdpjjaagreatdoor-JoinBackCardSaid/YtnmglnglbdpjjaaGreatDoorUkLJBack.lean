/- JoinBack: what a call of it does. -/
import Derived.Test.YtnmglnglbdpjjaaGreatDoorUkWords
import Derived.Test.YtnmglnglbdpjjaaGreatDoorUkJq
import Derived.Test.YtnmglnglbdpjjaaGreatDoorUkRow
import Derived.Test.YtnmglnglbdpjjaaGreatDoorUkJo
namespace Go.Proofs.YtnmglnglbdpjjaaGreatDoor.X
open Go.RowKit Go.Lib Go.Shelf Go.Yw.PrintWords Go.Yw.PrintLast Go.Yw.PrintMore
set_option linter.unusedVariables false
set_option linter.unusedSimpArgs false
set_option maxHeartbeats 8000000
set_option maxRecDepth 100000
attribute [local go_sem high] eqSame
theorem Yfr (k0 k1 k2 k3 : Nat) (b1 b2 : ByteArray) (b3 : Int) (b4 b5 b6 : ByteArray) (b7 b8 : Bool) (u1 u2 : ByteArray) (u3 : Int) (u4 u5 u6 : ByteArray) (u7 u8 : Bool) (w : World) (hE : EnvOk w)
  (hf : Yra.f k0 b1 b2 b3 b4 b5 b6 b7 b8 = some true) :
  Calls Tryz.prog 11 #[.agg (uc b1 b2 b3 b4 b5 b6 b7 b8), .agg (uc u1 u2 u3 u4 u5 u6 u7 u8)] w fun e w' => e = .returned (.bool true) ∧ Below w.heap.size w w' := by
 have HE := Ya.mk hE
 have HF := Ya.mk hf
 clear hE hf
 have cB := Tryz.underlying25
 have BK := Ya.mk (heap_alloc_new w (.cells (uc b1 b2 b3 b4 b5 b6 b7 b8) 25))
 have HB := Ya.mk ((Below.refl w.heap.size w).alloc (Nat.le_refl _) (.cells (uc b1 b2 b3 b4 b5 b6 b7 b8) 25))
 have BKq := Ya.mk (Yj BK.out (.cells (uc u1 u2 u3 u4 u5 u6 u7 u8) 25))
 clear BK
 have BK := BKq
 clear BKq
 have BU := Ya.mk (heap_alloc_new (w.alloc (.cells (uc b1 b2 b3 b4 b5 b6 b7 b8) 25)) (.cells (uc u1 u2 u3 u4 u5 u6 u7 u8) 25))
 rw [Ycc] at BU
 have HBq := Ya.mk (HB.out.alloc HB.out.size (.cells (uc u1 u2 u3 u4 u5 u6 u7 u8) 25))
 clear HB
 have HB := HBq
 clear HBq
 go_enter Tryz.func11, Tryz.ntmps11
 obtain ⟨bN, bM, bO, bS, bR, bQ, bT, bP⟩ := Yv BK.out
 go_wp2_with fail
 clear bN bM bO bS bR bQ bT bP
 refine (Yra.calls k0 b1 b2 b3 b4 b5 b6 b7 b8 true _ (HE.out.below HB.out) HF.out).mono ?_
 rintro e w1 ⟨rfl, hb⟩
 replace BK := Ya.mk (Yq BK.out hb)
 replace BU := Ya.mk (Yq BU.out hb)
 replace HB := Ya.mk (HB.out.trans (hb.mono HB.out.size))
 clear hb
 go_wp2_with fail
 refine (Ydk _ (HE.out.below HB.out)).mono ?_
 rintro e w2 ⟨rfl, hb⟩
 replace BK := Ya.mk (Yq BK.out hb)
 replace BU := Ya.mk (Yq BU.out hb)
 replace HB := Ya.mk (HB.out.trans (hb.mono HB.out.size))
 clear hb
 go_wp2_with fail
 go_ret
 exact ⟨rfl, HB.out⟩
theorem Ynr (k0 k1 k2 k3 : Nat) (b1 b2 : ByteArray) (b3 : Int) (b4 b5 b6 : ByteArray) (b7 b8 : Bool) (u1 u2 : ByteArray) (u3 : Int) (u4 u5 u6 : ByteArray) (u7 u8 : Bool) (w : World) (hE : EnvOk w)
  (hf : Yra.f k0 b1 b2 b3 b4 b5 b6 b7 b8 = some false)
  (hg : Yra.f k1 u1 u2 u3 u4 u5 u6 u7 u8 = some true) :
  Calls Tryz.prog 11 #[.agg (uc b1 b2 b3 b4 b5 b6 b7 b8), .agg (uc u1 u2 u3 u4 u5 u6 u7 u8)] w fun e w' => e = .returned (.bool true) ∧ Below w.heap.size w w' := by
 have HE := Ya.mk hE
 have HF := Ya.mk hf
 have HG := Ya.mk hg
 clear hE hf hg
 have cB := Tryz.underlying25
 have BK := Ya.mk (heap_alloc_new w (.cells (uc b1 b2 b3 b4 b5 b6 b7 b8) 25))
 have HB := Ya.mk ((Below.refl w.heap.size w).alloc (Nat.le_refl _) (.cells (uc b1 b2 b3 b4 b5 b6 b7 b8) 25))
 have BKq := Ya.mk (Yj BK.out (.cells (uc u1 u2 u3 u4 u5 u6 u7 u8) 25))
 clear BK
 have BK := BKq
 clear BKq
 have BU := Ya.mk (heap_alloc_new (w.alloc (.cells (uc b1 b2 b3 b4 b5 b6 b7 b8) 25)) (.cells (uc u1 u2 u3 u4 u5 u6 u7 u8) 25))
 rw [Ycc] at BU
 have HBq := Ya.mk (HB.out.alloc HB.out.size (.cells (uc u1 u2 u3 u4 u5 u6 u7 u8) 25))
 clear HB
 have HB := HBq
 clear HBq
 go_enter Tryz.func11, Tryz.ntmps11
 obtain ⟨bN, bM, bO, bS, bR, bQ, bT, bP⟩ := Yv BK.out
 go_wp2_with fail
 clear bN bM bO bS bR bQ bT bP
 refine (Yra.calls k0 b1 b2 b3 b4 b5 b6 b7 b8 false _ (HE.out.below HB.out) HF.out).mono ?_
 rintro e w1 ⟨rfl, hb⟩
 replace BK := Ya.mk (Yq BK.out hb)
 replace BU := Ya.mk (Yq BU.out hb)
 replace HB := Ya.mk (HB.out.trans (hb.mono HB.out.size))
 clear hb
 obtain ⟨bN, bM, bO, bS, bR, bQ, bT, bP⟩ := Yv BU.out
 go_wp2_with fail
 clear bN bM bO bS bR bQ bT bP
 refine (Yra.calls k1 u1 u2 u3 u4 u5 u6 u7 u8 true _ (HE.out.below HB.out) HG.out).mono ?_
 rintro e w2 ⟨rfl, hb⟩
 replace BK := Ya.mk (Yq BK.out hb)
 replace BU := Ya.mk (Yq BU.out hb)
 replace HB := Ya.mk (HB.out.trans (hb.mono HB.out.size))
 clear hb
 go_wp2_with fail
 refine (Ydk _ (HE.out.below HB.out)).mono ?_
 rintro e w3 ⟨rfl, hb⟩
 replace BK := Ya.mk (Yq BK.out hb)
 replace BU := Ya.mk (Yq BU.out hb)
 replace HB := Ya.mk (HB.out.trans (hb.mono HB.out.size))
 clear hb
 go_wp2_with fail
 go_ret
 exact ⟨rfl, HB.out⟩
theorem Yzq (k0 k1 k2 k3 : Nat) (b1 b2 : ByteArray) (b3 : Int) (b4 b5 b6 : ByteArray) (b7 b8 : Bool) (u1 u2 : ByteArray) (u3 : Int) (u4 u5 u6 : ByteArray) (u7 u8 : Bool) (w : World) (hE : EnvOk w)
  (hf : Yra.f k0 b1 b2 b3 b4 b5 b6 b7 b8 = some false)
  (hg : Yra.f k1 u1 u2 u3 u4 u5 u6 u7 u8 = some false)
  (hm : Yga.f k2 b1 b2 b3 b4 b5 b6 b7 b8 = some false) :
  Calls Tryz.prog 11 #[.agg (uc b1 b2 b3 b4 b5 b6 b7 b8), .agg (uc u1 u2 u3 u4 u5 u6 u7 u8)] w fun e w' => e = .returned (.bool true) ∧ Below w.heap.size w w' := by
 have HE := Ya.mk hE
 have HF := Ya.mk hf
 have HG := Ya.mk hg
 have HM := Ya.mk hm
 clear hE hf hg hm
 have cB := Tryz.underlying25
 have BK := Ya.mk (heap_alloc_new w (.cells (uc b1 b2 b3 b4 b5 b6 b7 b8) 25))
 have HB := Ya.mk ((Below.refl w.heap.size w).alloc (Nat.le_refl _) (.cells (uc b1 b2 b3 b4 b5 b6 b7 b8) 25))
 have BKq := Ya.mk (Yj BK.out (.cells (uc u1 u2 u3 u4 u5 u6 u7 u8) 25))
 clear BK
 have BK := BKq
 clear BKq
 have BU := Ya.mk (heap_alloc_new (w.alloc (.cells (uc b1 b2 b3 b4 b5 b6 b7 b8) 25)) (.cells (uc u1 u2 u3 u4 u5 u6 u7 u8) 25))
 rw [Ycc] at BU
 have HBq := Ya.mk (HB.out.alloc HB.out.size (.cells (uc u1 u2 u3 u4 u5 u6 u7 u8) 25))
 clear HB
 have HB := HBq
 clear HBq
 go_enter Tryz.func11, Tryz.ntmps11
 obtain ⟨bN, bM, bO, bS, bR, bQ, bT, bP⟩ := Yv BK.out
 go_wp2_with fail
 clear bN bM bO bS bR bQ bT bP
 refine (Yra.calls k0 b1 b2 b3 b4 b5 b6 b7 b8 false _ (HE.out.below HB.out) HF.out).mono ?_
 rintro e w1 ⟨rfl, hb⟩
 replace BK := Ya.mk (Yq BK.out hb)
 replace BU := Ya.mk (Yq BU.out hb)
 replace HB := Ya.mk (HB.out.trans (hb.mono HB.out.size))
 clear hb
 obtain ⟨bN, bM, bO, bS, bR, bQ, bT, bP⟩ := Yv BU.out
 go_wp2_with fail
 clear bN bM bO bS bR bQ bT bP
 refine (Yra.calls k1 u1 u2 u3 u4 u5 u6 u7 u8 false _ (HE.out.below HB.out) HG.out).mono ?_
 rintro e w2 ⟨rfl, hb⟩
 replace BK := Ya.mk (Yq BK.out hb)
 replace BU := Ya.mk (Yq BU.out hb)
 replace HB := Ya.mk (HB.out.trans (hb.mono HB.out.size))
 clear hb
 obtain ⟨bN, bM, bO, bS, bR, bQ, bT, bP⟩ := Yv BK.out
 go_wp2_with fail
 clear bN bM bO bS bR bQ bT bP
 refine (Yga.calls k2 b1 b2 b3 b4 b5 b6 b7 b8 false _ (HE.out.below HB.out) HM.out).mono ?_
 rintro e w3 ⟨rfl, hb⟩
 replace BK := Ya.mk (Yq BK.out hb)
 replace BU := Ya.mk (Yq BU.out hb)
 replace HB := Ya.mk (HB.out.trans (hb.mono HB.out.size))
 clear hb
 go_wp2_with fail
 refine (Ydk _ (HE.out.below HB.out)).mono ?_
 rintro e w4 ⟨rfl, hb⟩
 replace BK := Ya.mk (Yq BK.out hb)
 replace BU := Ya.mk (Yq BU.out hb)
 replace HB := Ya.mk (HB.out.trans (hb.mono HB.out.size))
 clear hb
 go_wp2_with fail
 go_ret
 exact ⟨rfl, HB.out⟩
theorem Ydr (k0 k1 k2 k3 : Nat) (b1 b2 : ByteArray) (b3 : Int) (b4 b5 b6 : ByteArray) (b7 b8 : Bool) (u1 u2 : ByteArray) (u3 : Int) (u4 u5 u6 : ByteArray) (u7 u8 : Bool) (w : World) (hE : EnvOk w)
  (hf : Yra.f k0 b1 b2 b3 b4 b5 b6 b7 b8 = some false)
  (hg : Yra.f k1 u1 u2 u3 u4 u5 u6 u7 u8 = some false)
  (hm : Yga.f k2 b1 b2 b3 b4 b5 b6 b7 b8 = some true)
  (hn : Yga.f k3 u1 u2 u3 u4 u5 u6 u7 u8 = some false) :
  Calls Tryz.prog 11 #[.agg (uc b1 b2 b3 b4 b5 b6 b7 b8), .agg (uc u1 u2 u3 u4 u5 u6 u7 u8)] w fun e w' => e = .returned (.bool true) ∧ Below w.heap.size w w' := by
 have HE := Ya.mk hE
 have HF := Ya.mk hf
 have HG := Ya.mk hg
 have HM := Ya.mk hm
 have HN := Ya.mk hn
 clear hE hf hg hm hn
 have cB := Tryz.underlying25
 have BK := Ya.mk (heap_alloc_new w (.cells (uc b1 b2 b3 b4 b5 b6 b7 b8) 25))
 have HB := Ya.mk ((Below.refl w.heap.size w).alloc (Nat.le_refl _) (.cells (uc b1 b2 b3 b4 b5 b6 b7 b8) 25))
 have BKq := Ya.mk (Yj BK.out (.cells (uc u1 u2 u3 u4 u5 u6 u7 u8) 25))
 clear BK
 have BK := BKq
 clear BKq
 have BU := Ya.mk (heap_alloc_new (w.alloc (.cells (uc b1 b2 b3 b4 b5 b6 b7 b8) 25)) (.cells (uc u1 u2 u3 u4 u5 u6 u7 u8) 25))
 rw [Ycc] at BU
 have HBq := Ya.mk (HB.out.alloc HB.out.size (.cells (uc u1 u2 u3 u4 u5 u6 u7 u8) 25))
 clear HB
 have HB := HBq
 clear HBq
 go_enter Tryz.func11, Tryz.ntmps11
 obtain ⟨bN, bM, bO, bS, bR, bQ, bT, bP⟩ := Yv BK.out
 go_wp2_with fail
 clear bN bM bO bS bR bQ bT bP
 refine (Yra.calls k0 b1 b2 b3 b4 b5 b6 b7 b8 false _ (HE.out.below HB.out) HF.out).mono ?_
 rintro e w1 ⟨rfl, hb⟩
 replace BK := Ya.mk (Yq BK.out hb)
 replace BU := Ya.mk (Yq BU.out hb)
 replace HB := Ya.mk (HB.out.trans (hb.mono HB.out.size))
 clear hb
 obtain ⟨bN, bM, bO, bS, bR, bQ, bT, bP⟩ := Yv BU.out
 go_wp2_with fail
 clear bN bM bO bS bR bQ bT bP
 refine (Yra.calls k1 u1 u2 u3 u4 u5 u6 u7 u8 false _ (HE.out.below HB.out) HG.out).mono ?_
 rintro e w2 ⟨rfl, hb⟩
 replace BK := Ya.mk (Yq BK.out hb)
 replace BU := Ya.mk (Yq BU.out hb)
 replace HB := Ya.mk (HB.out.trans (hb.mono HB.out.size))
 clear hb
 obtain ⟨bN, bM, bO, bS, bR, bQ, bT, bP⟩ := Yv BK.out
 go_wp2_with fail
 clear bN bM bO bS bR bQ bT bP
 refine (Yga.calls k2 b1 b2 b3 b4 b5 b6 b7 b8 true _ (HE.out.below HB.out) HM.out).mono ?_
 rintro e w3 ⟨rfl, hb⟩
 replace BK := Ya.mk (Yq BK.out hb)
 replace BU := Ya.mk (Yq BU.out hb)
 replace HB := Ya.mk (HB.out.trans (hb.mono HB.out.size))
 clear hb
 obtain ⟨bN, bM, bO, bS, bR, bQ, bT, bP⟩ := Yv BU.out
 go_wp2_with fail
 clear bN bM bO bS bR bQ bT bP
 refine (Yga.calls k3 u1 u2 u3 u4 u5 u6 u7 u8 false _ (HE.out.below HB.out) HN.out).mono ?_
 rintro e w4 ⟨rfl, hb⟩
 replace BK := Ya.mk (Yq BK.out hb)
 replace BU := Ya.mk (Yq BU.out hb)
 replace HB := Ya.mk (HB.out.trans (hb.mono HB.out.size))
 clear hb
 go_wp2_with fail
 refine (Ydk _ (HE.out.below HB.out)).mono ?_
 rintro e w5 ⟨rfl, hb⟩
 replace BK := Ya.mk (Yq BK.out hb)
 replace BU := Ya.mk (Yq BU.out hb)
 replace HB := Ya.mk (HB.out.trans (hb.mono HB.out.size))
 clear hb
 go_wp2_with fail
 go_ret
 exact ⟨rfl, HB.out⟩
theorem Yhp (k0 k1 k2 k3 k4 k5 k6 : Nat) (b1 b2 : ByteArray) (b3 : Int) (b4 b5 b6 : ByteArray) (b7 b8 : Bool) (u1 u2 : ByteArray) (u3 : Int) (u4 u5 u6 : ByteArray) (u7 u8 : Bool) (l t : ByteArray) (w : World) (hE : EnvOk w)
  (hf : Yra.f k0 b1 b2 b3 b4 b5 b6 b7 b8 = some false)
  (hg : Yra.f k1 u1 u2 u3 u4 u5 u6 u7 u8 = some false)
  (hm : Yga.f k2 b1 b2 b3 b4 b5 b6 b7 b8 = some true)
  (hn : Yga.f k3 u1 u2 u3 u4 u5 u6 u7 u8 = some true)
  (ha : Room b1 b2 b3 b4 b5 b6)
  (hc : Room u1 u2 u3 u4 u5 u6)
  (hd : (Ykc b1 b2 b3 b4 b5 b6 b7 b8).size ≤ 1000000)
  (hg_ : (Ykc u1 u2 u3 u4 u5 u6 u7 u8).size ≤ 1000000)
  (hl : Ykm b1 b2 b3 b4 b5 b6 b7 b8 u1 u2 u3 u4 u5 u6 u7 u8 = l)
  (hj : Ywa.f k5 b1 b2 b3 b4 b5 b6 b7 b8 l = some (u1, u2, u3, u4, u5, u6, u7, u8, 0))
  (hs : Yo.f k6 u1 u2 u3 u4 u5 u6 u7 u8 = some t)
  (hz : l.size ≤ t.size) :
  Calls Tryz.prog 11 #[.agg (uc b1 b2 b3 b4 b5 b6 b7 b8), .agg (uc u1 u2 u3 u4 u5 u6 u7 u8)] w fun e w' => e = .returned (.bool true) ∧ Below w.heap.size w w' := by
 have HE := Ya.mk hE
 have HF := Ya.mk hf
 have HG := Ya.mk hg
 have HM := Ya.mk hm
 have HN := Ya.mk hn
 have HA := Ya.mk ha
 have HC := Ya.mk hc
 have HD := Ya.mk hd
 have HG_ := Ya.mk hg_
 have HL := Ya.mk hl
 have HJ := Ya.mk hj
 have HS := Ya.mk hs
 have HZ := Ya.mk hz
 clear hE hf hg hm hn ha hc hd hg_ hl hj hs hz
 have cB := Tryz.underlying25
 have BK := Ya.mk (heap_alloc_new w (.cells (uc b1 b2 b3 b4 b5 b6 b7 b8) 25))
 have HB := Ya.mk ((Below.refl w.heap.size w).alloc (Nat.le_refl _) (.cells (uc b1 b2 b3 b4 b5 b6 b7 b8) 25))
 have BKq := Ya.mk (Yj BK.out (.cells (uc u1 u2 u3 u4 u5 u6 u7 u8) 25))
 clear BK
 have BK := BKq
 clear BKq
 have BU := Ya.mk (heap_alloc_new (w.alloc (.cells (uc b1 b2 b3 b4 b5 b6 b7 b8) 25)) (.cells (uc u1 u2 u3 u4 u5 u6 u7 u8) 25))
 rw [Ycc] at BU
 have HBq := Ya.mk (HB.out.alloc HB.out.size (.cells (uc u1 u2 u3 u4 u5 u6 u7 u8) 25))
 clear HB
 have HB := HBq
 clear HBq
 go_enter Tryz.func11, Tryz.ntmps11
 obtain ⟨bN, bM, bO, bS, bR, bQ, bT, bP⟩ := Yv BK.out
 go_wp2_with fail
 clear bN bM bO bS bR bQ bT bP
 refine (Yra.calls k0 b1 b2 b3 b4 b5 b6 b7 b8 false _ (HE.out.below HB.out) HF.out).mono ?_
 rintro e w1 ⟨rfl, hb⟩
 replace BK := Ya.mk (Yq BK.out hb)
 replace BU := Ya.mk (Yq BU.out hb)
 replace HB := Ya.mk (HB.out.trans (hb.mono HB.out.size))
 clear hb
 obtain ⟨bN, bM, bO, bS, bR, bQ, bT, bP⟩ := Yv BU.out
 go_wp2_with fail
 clear bN bM bO bS bR bQ bT bP
 refine (Yra.calls k1 u1 u2 u3 u4 u5 u6 u7 u8 false _ (HE.out.below HB.out) HG.out).mono ?_
 rintro e w2 ⟨rfl, hb⟩
 replace BK := Ya.mk (Yq BK.out hb)
 replace BU := Ya.mk (Yq BU.out hb)
 replace HB := Ya.mk (HB.out.trans (hb.mono HB.out.size))
 clear hb
 obtain ⟨bN, bM, bO, bS, bR, bQ, bT, bP⟩ := Yv BK.out
 go_wp2_with fail
 clear bN bM bO bS bR bQ bT bP
 refine (Yga.calls k2 b1 b2 b3 b4 b5 b6 b7 b8 true _ (HE.out.below HB.out) HM.out).mono ?_
 rintro e w3 ⟨rfl, hb⟩
 replace BK := Ya.mk (Yq BK.out hb)
 replace BU := Ya.mk (Yq BU.out hb)
 replace HB := Ya.mk (HB.out.trans (hb.mono HB.out.size))
 clear hb
 obtain ⟨bN, bM, bO, bS, bR, bQ, bT, bP⟩ := Yv BU.out
 go_wp2_with fail
 clear bN bM bO bS bR bQ bT bP
 refine (Yga.calls k3 u1 u2 u3 u4 u5 u6 u7 u8 true _ (HE.out.below HB.out) HN.out).mono ?_
 rintro e w4 ⟨rfl, hb⟩
 replace BK := Ya.mk (Yq BK.out hb)
 replace BU := Ya.mk (Yq BU.out hb)
 replace HB := Ya.mk (HB.out.trans (hb.mono HB.out.size))
 clear hb
 obtain ⟨bN, bM, bO, bS, bR, bQ, bT, bP⟩ := Yv BK.out
 obtain ⟨nJ, hd1, hd2, hd3, hd4, hd5, vB, vC⟩ := Yv BU.out
 go_wp2_with fail
 clear bN bM bO bS bR bQ bT bP
 clear nJ hd1 hd2 hd3 hd4 hd5 vB vC
 refine (Yen HA.out HC.out HD.out HG_.out l HL.out _ (HE.out.below HB.out)).mono ?_
 rintro e w5 ⟨rfl, hb⟩
 replace BK := Ya.mk (Yq BK.out hb)
 replace BU := Ya.mk (Yq BU.out hb)
 replace HB := Ya.mk (HB.out.trans (hb.mono HB.out.size))
 clear hb
 obtain ⟨bN, bM, bO, bS, bR, bQ, bT, bP⟩ := Yv BK.out
 go_wp2_with fail
 clear bN bM bO bS bR bQ bT bP
 refine (Ywa.calls k5 b1 b2 b3 b4 b5 b6 b7 b8 l u1 u2 u3 u4 u5 u6 u7 u8 0 _ (HE.out.below HB.out) HJ.out).mono ?_
 rintro e w6 ⟨rfl, hb⟩
 replace BK := Ya.mk (Yq BK.out hb)
 replace BU := Ya.mk (Yq BU.out hb)
 replace HB := Ya.mk (HB.out.trans (hb.mono HB.out.size))
 clear hb
 replace BK := Ya.mk (Yj BK.out (.cells #[.string u1, .string u2, .int .i64 u3, .string u4, .string u5, .string u6, .bool u7, .bool u8] 25))
 replace BU := Ya.mk (Yj BU.out (.cells #[.string u1, .string u2, .int .i64 u3, .string u4, .string u5, .string u6, .bool u7, .bool u8] 25))
 have BV := Ya.mk (heap_alloc_new w6 (.cells #[.string u1, .string u2, .int .i64 u3, .string u4, .string u5, .string u6, .bool u7, .bool u8] 25))
 replace HB := Ya.mk (HB.out.alloc HB.out.size (.cells #[.string u1, .string u2, .int .i64 u3, .string u4, .string u5, .string u6, .bool u7, .bool u8] 25))
 obtain ⟨bN, bM, bO, bS, bR, bQ, bT, bP⟩ := Yv BV.out
 obtain ⟨nJ, hd1, hd2, hd3, hd4, hd5, vB, vC⟩ := Yv BU.out
 go_wp2_with fail
 clear bN bM bO bS bR bQ bT bP
 clear nJ hd1 hd2 hd3 hd4 hd5 vB vC
 refine (Yo.calls k6 u1 u2 u3 u4 u5 u6 u7 u8 t _ (HE.out.below HB.out) HS.out).mono ?_
 rintro e w7 ⟨rfl, hb⟩
 replace BK := Ya.mk (Yq BK.out hb)
 replace BU := Ya.mk (Yq BU.out hb)
 replace BV := Ya.mk (Yq BV.out hb)
 replace HB := Ya.mk (HB.out.trans (hb.mono HB.out.size))
 clear hb
 have cl0 : decide ((l.size : Int) ≤ (t.size : Int)) = true := decide_eq_true (by have := HZ.out; omega)
 have cl1 : decide (l.size ≤ t.size) = true := decide_eq_true HZ.out
 go_wp2_with fail
 refine (Ydk _ (HE.out.below HB.out)).mono ?_
 rintro e w8 ⟨rfl, hb⟩
 replace BK := Ya.mk (Yq BK.out hb)
 replace BU := Ya.mk (Yq BU.out hb)
 replace BV := Ya.mk (Yq BV.out hb)
 replace HB := Ya.mk (HB.out.trans (hb.mono HB.out.size))
 clear hb
 go_wp2_with fail
 go_ret
 exact ⟨rfl, HB.out⟩
theorem joinBack_walk (b1 b2 : ByteArray) (b3 : Int) (b4 b5 b6 : ByteArray) (b7 b8 : Bool) (u1 u2 : ByteArray) (u3 : Int) (u4 u5 u6 : ByteArray) (u7 u8 : Bool) (w : World) (hE : EnvOk w) (hr : Room b1 b2 b3 b4 b5 b6) (hr2 : Room u1 u2 u3 u4 u5 u6) :
  Calls Tryz.prog 11 #[.agg (uc b1 b2 b3 b4 b5 b6 b7 b8), .agg (uc u1 u2 u3 u4 u5 u6 u7 u8)] w fun e w' => e = .returned (.bool true) ∧ Below w.heap.size w w' := by
 obtain ⟨k0, h0⟩ := far_f (u7 := b7) (u8 := b8) hr
 have hf := h0 k0 (Nat.le_refl _)
 obtain ⟨k1, h1⟩ := far_f (u7 := u7) (u8 := u8) hr2
 have hg := h1 k1 (Nat.le_refl _)
 cases hfar : (decide ((b1.size : Int) > 2200) || decide (((Ykc b1 b2 b3 b4 b5 b6 b7 b8).size : Int) > 2200)) with
 | true =>
  rw [hfar] at hf
  exact Yfr k0 k1 0 0 b1 b2 b3 b4 b5 b6 b7 b8 u1 u2 u3 u4 u5 u6 u7 u8 w hE hf
 | false =>
  rw [hfar] at hf
  rw [Bool.or_eq_false_iff, decide_eq_false_iff_not, decide_eq_false_iff_not] at hfar
  cases pP : (decide ((u1.size : Int) > 2200) || decide (((Ykc u1 u2 u3 u4 u5 u6 u7 u8).size : Int) > 2200)) with
  | true =>
   rw [pP] at hg
   exact Ynr k0 k1 0 0 b1 b2 b3 b4 b5 b6 b7 b8 u1 u2 u3 u4 u5 u6 u7 u8 w hE hf hg
  | false =>
   rw [pP] at hg
   rw [Bool.or_eq_false_iff, decide_eq_false_iff_not, decide_eq_false_iff_not] at pP
   obtain ⟨k2, h2⟩ := Ycm (u7 := b7) (u8 := b8) hr Zl
   have hm := h2 k2 (Nat.le_refl _)
   obtain ⟨k3, h3⟩ := Ycm (u7 := u7) (u8 := u8) hr2 Zl
   have hn := h3 k3 (Nat.le_refl _)
   cases hmay : mayB b1 b2 b3 b4 b5 b6 b7 b8 with
   | false =>
    rw [hmay] at hm
    exact Yzq k0 k1 k2 k3 b1 b2 b3 b4 b5 b6 b7 b8 u1 u2 u3 u4 u5 u6 u7 u8 w hE hf hg hm
   | true =>
    rw [hmay] at hm
    cases aCV : mayB u1 u2 u3 u4 u5 u6 u7 u8 with
    | false =>
     rw [aCV] at hn
     exact Ydr k0 k1 k2 k3 b1 b2 b3 b4 b5 b6 b7 b8 u1 u2 u3 u4 u5 u6 u7 u8 w hE hf hg hm hn
    | true =>
     rw [aCV] at hn
     obtain ⟨iO, gX, jZ, iG, kA, rfl, rfl, rfl, rfl, rfl, hb⟩ := Yji hmay
     obtain ⟨sch, host, path, query, frag, rfl, rfl, rfl, rfl, rfl, hc⟩ := Yji aCV
     have hzb : (Ykc (ofL iO) (ofL gX) b3 (ofL jZ) (ofL iG) (ofL kA) b7 b8).size ≤ 1000000 := by omega
     have hzu := hc.size
     obtain ⟨l, hle⟩ : ∃ l, Ykm (ofL iO) (ofL gX) b3 (ofL jZ) (ofL iG) (ofL kA) b7 b8 (ofL sch) (ofL host) u3 (ofL path) (ofL query) (ofL frag) u7 u8 = l := ⟨_, rfl⟩
     obtain ⟨hl, hj⟩ := link_back hb hc l hle
     obtain ⟨k5, h5⟩ := join_f hr hzb l Zl
     obtain ⟨k6, h6⟩ := Yth (ofL sch) (ofL host) u3 (ofL path) (ofL query) (ofL frag) u7 u8 hr2.s1 hr2.s2 hr2.s4 hr2.s5 hr2.s6 hr2.p0 hr2.p1
     have g5 := h5 k5 (Nat.le_refl _)
     rw [hj] at g5
     have g6 := h6 k6 (Nat.le_refl _)
     rw [Ygl _ _ _ _ _ _ _ _ hc.p0] at g6
     exact Yhp k0 k1 k2 k3 0 k5 k6 _ _ b3 _ _ _ b7 b8 _ _ u3 _ _ _ u7 u8 l _ w hE hf hg hm hn hr hr2 hzb Zl hle g5 g6 hl
end Go.Proofs.YtnmglnglbdpjjaaGreatDoor.X
