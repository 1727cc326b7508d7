/- JoinSelf: what a call of it does. -/
import Derived.Test.YtnmglnglbdpjjaaGreatDoorUjWords
import Derived.Test.YtnmglnglbdpjjaaGreatDoorUjJq
import Derived.Test.YtnmglnglbdpjjaaGreatDoorUjRow
import Derived.Test.YtnmglnglbdpjjaaGreatDoorUjJk
namespace Go.Proofs.YtnmglnglbdpjjaaGreatDoor.X
open Go.RowKit Go.Lib Go.Shelf Go.Yw.PrintWords Go.Yw.PrintLast Go.Yw.PrintMore
set_option linter.unusedVariables false
set_option linter.unusedSimpArgs false
attribute [local go_sem high] Yvq
def Yan : Bool × List (List Nat × List Nat) := (true, [([], []), ([], []), ([1], [1]), ([0, 2, 2], [0, 2]), ([3], [3]), ([4], [4]), ([4], [4]), ([], []), ([7, 5, 3, 0, 1, 2, 3, 4, 5, 7], [5, 7]), ([6, 8, 0, 1, 2, 3, 4, 5, 6, 7, 8], [6])])
def Yxr : List Nat := [0, 0, 2, 7, 15, 31, 31, 0, 191, 511]
theorem Yap : rtab .any (opsOf Tryz.f7 3) = Yan := by kernel_rfl
theorem Ypo : Yih Yan.2 Yxr = true := by kernel_rfl
set_option maxHeartbeats 8000000 in
set_option maxRecDepth 100000 in
theorem Yxq (k0 k1 k2 k3 : Nat) (b1 b2 : ByteArray) (b3 : Int) (b4 b5 b6 : ByteArray) (b7 b8 : Bool) (u1 u2 : ByteArray) (u3 : Int) (u4 u5 u6 : ByteArray) (u7 u8 : Bool) (w : World) (hE : EnvOk w)
  (hf : Yia.f k0 b1 b2 b3 b4 b5 b6 b7 b8 = some true) :
  Calls Tryz.prog 7 #[.agg (uc b1 b2 b3 b4 b5 b6 b7 b8), .agg (uc u1 u2 u3 u4 u5 u6 u7 u8)] w fun e w' => e = .returned (.bool true) ∧ Below w.heap.size w w' := by
 have HE := Ya.mk hE
 have HF := Ya.mk hf
 clear hE hf
 have hu25 := Tryz.underlying25
 have BK := Ya.mk (heap_alloc_new w (.cells (uc b1 b2 b3 b4 b5 b6 b7 b8) 25))
 have HB := Ya.mk ((Below.refl w.heap.size w).alloc (Nat.le_refl _) (.cells (uc b1 b2 b3 b4 b5 b6 b7 b8) 25))
 have BKq := Ya.mk (Ym BK.out (.cells (uc u1 u2 u3 u4 u5 u6 u7 u8) 25))
 clear BK
 have BK := BKq
 clear BKq
 have BU := Ya.mk (heap_alloc_new (w.alloc (.cells (uc b1 b2 b3 b4 b5 b6 b7 b8) 25)) (.cells (uc u1 u2 u3 u4 u5 u6 u7 u8) 25))
 rw [Yif] at BU
 have HBq := Ya.mk (HB.out.alloc HB.out.size (.cells (uc u1 u2 u3 u4 u5 u6 u7 u8) 25))
 clear HB
 have HB := HBq
 clear HBq
 go_enter Tryz.func7, Tryz.ntmps7
 obtain ⟨hc0, hc1, hc2, hc3, hc4, hc5, hc6, hc7⟩ := Yaa BK.out
 go_wp2_with fail
 clear hc0 hc1 hc2 hc3 hc4 hc5 hc6 hc7
 refine (Yia.calls k0 b1 b2 b3 b4 b5 b6 b7 b8 true _ (HE.out.below HB.out) HF.out).mono ?_
 rintro e w1 ⟨rfl, hb⟩
 replace BK := Ya.mk (Yx BK.out hb)
 replace BU := Ya.mk (Yx BU.out hb)
 replace HB := Ya.mk (HB.out.trans (hb.mono HB.out.size))
 clear hb
 go_wp2_with fail
 refine (Yph _ (HE.out.below HB.out)).mono ?_
 rintro e w2 ⟨rfl, hb⟩
 replace BK := Ya.mk (Yx BK.out hb)
 replace BU := Ya.mk (Yx BU.out hb)
 replace HB := Ya.mk (HB.out.trans (hb.mono HB.out.size))
 clear hb
 go_wp2_with fail
 go_ret
 exact ⟨rfl, HB.out⟩
set_option maxHeartbeats 8000000 in
set_option maxRecDepth 100000 in
theorem Ypq (k0 k1 k2 k3 : Nat) (b1 b2 : ByteArray) (b3 : Int) (b4 b5 b6 : ByteArray) (b7 b8 : Bool) (u1 u2 : ByteArray) (u3 : Int) (u4 u5 u6 : ByteArray) (u7 u8 : Bool) (w : World) (hE : EnvOk w)
  (hf : Yia.f k0 b1 b2 b3 b4 b5 b6 b7 b8 = some false)
  (hg : Yia.f k1 u1 u2 u3 u4 u5 u6 u7 u8 = some true) :
  Calls Tryz.prog 7 #[.agg (uc b1 b2 b3 b4 b5 b6 b7 b8), .agg (uc u1 u2 u3 u4 u5 u6 u7 u8)] w fun e w' => e = .returned (.bool true) ∧ Below w.heap.size w w' := by
 have HE := Ya.mk hE
 have HF := Ya.mk hf
 have HG := Ya.mk hg
 clear hE hf hg
 have hu25 := Tryz.underlying25
 have BK := Ya.mk (heap_alloc_new w (.cells (uc b1 b2 b3 b4 b5 b6 b7 b8) 25))
 have HB := Ya.mk ((Below.refl w.heap.size w).alloc (Nat.le_refl _) (.cells (uc b1 b2 b3 b4 b5 b6 b7 b8) 25))
 have BKq := Ya.mk (Ym BK.out (.cells (uc u1 u2 u3 u4 u5 u6 u7 u8) 25))
 clear BK
 have BK := BKq
 clear BKq
 have BU := Ya.mk (heap_alloc_new (w.alloc (.cells (uc b1 b2 b3 b4 b5 b6 b7 b8) 25)) (.cells (uc u1 u2 u3 u4 u5 u6 u7 u8) 25))
 rw [Yif] at BU
 have HBq := Ya.mk (HB.out.alloc HB.out.size (.cells (uc u1 u2 u3 u4 u5 u6 u7 u8) 25))
 clear HB
 have HB := HBq
 clear HBq
 go_enter Tryz.func7, Tryz.ntmps7
 obtain ⟨hc0, hc1, hc2, hc3, hc4, hc5, hc6, hc7⟩ := Yaa BK.out
 go_wp2_with fail
 clear hc0 hc1 hc2 hc3 hc4 hc5 hc6 hc7
 refine (Yia.calls k0 b1 b2 b3 b4 b5 b6 b7 b8 false _ (HE.out.below HB.out) HF.out).mono ?_
 rintro e w1 ⟨rfl, hb⟩
 replace BK := Ya.mk (Yx BK.out hb)
 replace BU := Ya.mk (Yx BU.out hb)
 replace HB := Ya.mk (HB.out.trans (hb.mono HB.out.size))
 clear hb
 obtain ⟨hc0, hc1, hc2, hc3, hc4, hc5, hc6, hc7⟩ := Yaa BU.out
 go_wp2_with fail
 clear hc0 hc1 hc2 hc3 hc4 hc5 hc6 hc7
 refine (Yia.calls k1 u1 u2 u3 u4 u5 u6 u7 u8 true _ (HE.out.below HB.out) HG.out).mono ?_
 rintro e w2 ⟨rfl, hb⟩
 replace BK := Ya.mk (Yx BK.out hb)
 replace BU := Ya.mk (Yx BU.out hb)
 replace HB := Ya.mk (HB.out.trans (hb.mono HB.out.size))
 clear hb
 go_wp2_with fail
 refine (Yph _ (HE.out.below HB.out)).mono ?_
 rintro e w3 ⟨rfl, hb⟩
 replace BK := Ya.mk (Yx BK.out hb)
 replace BU := Ya.mk (Yx BU.out hb)
 replace HB := Ya.mk (HB.out.trans (hb.mono HB.out.size))
 clear hb
 go_wp2_with fail
 go_ret
 exact ⟨rfl, HB.out⟩
set_option maxHeartbeats 8000000 in
set_option maxRecDepth 100000 in
theorem Yzq (k0 k1 k2 k3 : Nat) (b1 b2 : ByteArray) (b3 : Int) (b4 b5 b6 : ByteArray) (b7 b8 : Bool) (u1 u2 : ByteArray) (u3 : Int) (u4 u5 u6 : ByteArray) (u7 u8 : Bool) (w : World) (hE : EnvOk w)
  (hf : Yia.f k0 b1 b2 b3 b4 b5 b6 b7 b8 = some false)
  (hg : Yia.f k1 u1 u2 u3 u4 u5 u6 u7 u8 = some false)
  (hm : Yab.f k2 b1 b2 b3 b4 b5 b6 b7 b8 = some false) :
  Calls Tryz.prog 7 #[.agg (uc b1 b2 b3 b4 b5 b6 b7 b8), .agg (uc u1 u2 u3 u4 u5 u6 u7 u8)] w fun e w' => e = .returned (.bool true) ∧ Below w.heap.size w w' := by
 have HE := Ya.mk hE
 have HF := Ya.mk hf
 have HG := Ya.mk hg
 have HM := Ya.mk hm
 clear hE hf hg hm
 have hu25 := Tryz.underlying25
 have BK := Ya.mk (heap_alloc_new w (.cells (uc b1 b2 b3 b4 b5 b6 b7 b8) 25))
 have HB := Ya.mk ((Below.refl w.heap.size w).alloc (Nat.le_refl _) (.cells (uc b1 b2 b3 b4 b5 b6 b7 b8) 25))
 have BKq := Ya.mk (Ym BK.out (.cells (uc u1 u2 u3 u4 u5 u6 u7 u8) 25))
 clear BK
 have BK := BKq
 clear BKq
 have BU := Ya.mk (heap_alloc_new (w.alloc (.cells (uc b1 b2 b3 b4 b5 b6 b7 b8) 25)) (.cells (uc u1 u2 u3 u4 u5 u6 u7 u8) 25))
 rw [Yif] at BU
 have HBq := Ya.mk (HB.out.alloc HB.out.size (.cells (uc u1 u2 u3 u4 u5 u6 u7 u8) 25))
 clear HB
 have HB := HBq
 clear HBq
 go_enter Tryz.func7, Tryz.ntmps7
 obtain ⟨hc0, hc1, hc2, hc3, hc4, hc5, hc6, hc7⟩ := Yaa BK.out
 go_wp2_with fail
 clear hc0 hc1 hc2 hc3 hc4 hc5 hc6 hc7
 refine (Yia.calls k0 b1 b2 b3 b4 b5 b6 b7 b8 false _ (HE.out.below HB.out) HF.out).mono ?_
 rintro e w1 ⟨rfl, hb⟩
 replace BK := Ya.mk (Yx BK.out hb)
 replace BU := Ya.mk (Yx BU.out hb)
 replace HB := Ya.mk (HB.out.trans (hb.mono HB.out.size))
 clear hb
 obtain ⟨hc0, hc1, hc2, hc3, hc4, hc5, hc6, hc7⟩ := Yaa BU.out
 go_wp2_with fail
 clear hc0 hc1 hc2 hc3 hc4 hc5 hc6 hc7
 refine (Yia.calls k1 u1 u2 u3 u4 u5 u6 u7 u8 false _ (HE.out.below HB.out) HG.out).mono ?_
 rintro e w2 ⟨rfl, hb⟩
 replace BK := Ya.mk (Yx BK.out hb)
 replace BU := Ya.mk (Yx BU.out hb)
 replace HB := Ya.mk (HB.out.trans (hb.mono HB.out.size))
 clear hb
 obtain ⟨hc0, hc1, hc2, hc3, hc4, hc5, hc6, hc7⟩ := Yaa BK.out
 go_wp2_with fail
 clear hc0 hc1 hc2 hc3 hc4 hc5 hc6 hc7
 refine (Yab.calls k2 b1 b2 b3 b4 b5 b6 b7 b8 false _ (HE.out.below HB.out) HM.out).mono ?_
 rintro e w3 ⟨rfl, hb⟩
 replace BK := Ya.mk (Yx BK.out hb)
 replace BU := Ya.mk (Yx BU.out hb)
 replace HB := Ya.mk (HB.out.trans (hb.mono HB.out.size))
 clear hb
 go_wp2_with fail
 refine (Yph _ (HE.out.below HB.out)).mono ?_
 rintro e w4 ⟨rfl, hb⟩
 replace BK := Ya.mk (Yx BK.out hb)
 replace BU := Ya.mk (Yx BU.out hb)
 replace HB := Ya.mk (HB.out.trans (hb.mono HB.out.size))
 clear hb
 go_wp2_with fail
 go_ret
 exact ⟨rfl, HB.out⟩
set_option maxHeartbeats 8000000 in
set_option maxRecDepth 100000 in
theorem Ygr (k0 k1 k2 k3 : Nat) (b1 b2 : ByteArray) (b3 : Int) (b4 b5 b6 : ByteArray) (b7 b8 : Bool) (u1 u2 : ByteArray) (u3 : Int) (u4 u5 u6 : ByteArray) (u7 u8 : Bool) (w : World) (hE : EnvOk w)
  (hf : Yia.f k0 b1 b2 b3 b4 b5 b6 b7 b8 = some false)
  (hg : Yia.f k1 u1 u2 u3 u4 u5 u6 u7 u8 = some false)
  (hm : Yab.f k2 b1 b2 b3 b4 b5 b6 b7 b8 = some true)
  (hn : Yab.f k3 u1 u2 u3 u4 u5 u6 u7 u8 = some false) :
  Calls Tryz.prog 7 #[.agg (uc b1 b2 b3 b4 b5 b6 b7 b8), .agg (uc u1 u2 u3 u4 u5 u6 u7 u8)] w fun e w' => e = .returned (.bool true) ∧ Below w.heap.size w w' := by
 have HE := Ya.mk hE
 have HF := Ya.mk hf
 have HG := Ya.mk hg
 have HM := Ya.mk hm
 have HN := Ya.mk hn
 clear hE hf hg hm hn
 have hu25 := Tryz.underlying25
 have BK := Ya.mk (heap_alloc_new w (.cells (uc b1 b2 b3 b4 b5 b6 b7 b8) 25))
 have HB := Ya.mk ((Below.refl w.heap.size w).alloc (Nat.le_refl _) (.cells (uc b1 b2 b3 b4 b5 b6 b7 b8) 25))
 have BKq := Ya.mk (Ym BK.out (.cells (uc u1 u2 u3 u4 u5 u6 u7 u8) 25))
 clear BK
 have BK := BKq
 clear BKq
 have BU := Ya.mk (heap_alloc_new (w.alloc (.cells (uc b1 b2 b3 b4 b5 b6 b7 b8) 25)) (.cells (uc u1 u2 u3 u4 u5 u6 u7 u8) 25))
 rw [Yif] at BU
 have HBq := Ya.mk (HB.out.alloc HB.out.size (.cells (uc u1 u2 u3 u4 u5 u6 u7 u8) 25))
 clear HB
 have HB := HBq
 clear HBq
 go_enter Tryz.func7, Tryz.ntmps7
 obtain ⟨hc0, hc1, hc2, hc3, hc4, hc5, hc6, hc7⟩ := Yaa BK.out
 go_wp2_with fail
 clear hc0 hc1 hc2 hc3 hc4 hc5 hc6 hc7
 refine (Yia.calls k0 b1 b2 b3 b4 b5 b6 b7 b8 false _ (HE.out.below HB.out) HF.out).mono ?_
 rintro e w1 ⟨rfl, hb⟩
 replace BK := Ya.mk (Yx BK.out hb)
 replace BU := Ya.mk (Yx BU.out hb)
 replace HB := Ya.mk (HB.out.trans (hb.mono HB.out.size))
 clear hb
 obtain ⟨hc0, hc1, hc2, hc3, hc4, hc5, hc6, hc7⟩ := Yaa BU.out
 go_wp2_with fail
 clear hc0 hc1 hc2 hc3 hc4 hc5 hc6 hc7
 refine (Yia.calls k1 u1 u2 u3 u4 u5 u6 u7 u8 false _ (HE.out.below HB.out) HG.out).mono ?_
 rintro e w2 ⟨rfl, hb⟩
 replace BK := Ya.mk (Yx BK.out hb)
 replace BU := Ya.mk (Yx BU.out hb)
 replace HB := Ya.mk (HB.out.trans (hb.mono HB.out.size))
 clear hb
 obtain ⟨hc0, hc1, hc2, hc3, hc4, hc5, hc6, hc7⟩ := Yaa BK.out
 go_wp2_with fail
 clear hc0 hc1 hc2 hc3 hc4 hc5 hc6 hc7
 refine (Yab.calls k2 b1 b2 b3 b4 b5 b6 b7 b8 true _ (HE.out.below HB.out) HM.out).mono ?_
 rintro e w3 ⟨rfl, hb⟩
 replace BK := Ya.mk (Yx BK.out hb)
 replace BU := Ya.mk (Yx BU.out hb)
 replace HB := Ya.mk (HB.out.trans (hb.mono HB.out.size))
 clear hb
 obtain ⟨hc0, hc1, hc2, hc3, hc4, hc5, hc6, hc7⟩ := Yaa BU.out
 go_wp2_with fail
 clear hc0 hc1 hc2 hc3 hc4 hc5 hc6 hc7
 refine (Yab.calls k3 u1 u2 u3 u4 u5 u6 u7 u8 false _ (HE.out.below HB.out) HN.out).mono ?_
 rintro e w4 ⟨rfl, hb⟩
 replace BK := Ya.mk (Yx BK.out hb)
 replace BU := Ya.mk (Yx BU.out hb)
 replace HB := Ya.mk (HB.out.trans (hb.mono HB.out.size))
 clear hb
 go_wp2_with fail
 refine (Yph _ (HE.out.below HB.out)).mono ?_
 rintro e w5 ⟨rfl, hb⟩
 replace BK := Ya.mk (Yx BK.out hb)
 replace BU := Ya.mk (Yx BU.out hb)
 replace HB := Ya.mk (HB.out.trans (hb.mono HB.out.size))
 clear hb
 go_wp2_with fail
 go_ret
 exact ⟨rfl, HB.out⟩
set_option maxHeartbeats 8000000 in
set_option maxRecDepth 100000 in
theorem Ykp (k0 k1 k2 k3 k4 k5 : Nat) (b1 b2 : ByteArray) (b3 : Int) (b4 b5 b6 : ByteArray) (b7 b8 : Bool) (u1 u2 : ByteArray) (u3 : Int) (u4 u5 u6 : ByteArray) (u7 u8 : Bool) (t : ByteArray) (w : World) (hE : EnvOk w)
  (hf : Yia.f k0 b1 b2 b3 b4 b5 b6 b7 b8 = some false)
  (hg : Yia.f k1 u1 u2 u3 u4 u5 u6 u7 u8 = some false)
  (hm : Yab.f k2 b1 b2 b3 b4 b5 b6 b7 b8 = some true)
  (hn : Yab.f k3 u1 u2 u3 u4 u5 u6 u7 u8 = some true)
  (hs : Yca.f k4 u1 u2 u3 u4 u5 u6 u7 u8 = some t)
  (hj : Yoa.f k5 b1 b2 b3 b4 b5 b6 b7 b8 t = some (u1, u2, u3, u4, u5, u6, u7, u8, 0)) :
  Calls Tryz.prog 7 #[.agg (uc b1 b2 b3 b4 b5 b6 b7 b8), .agg (uc u1 u2 u3 u4 u5 u6 u7 u8)] w fun e w' => e = .returned (.bool true) ∧ Below w.heap.size w w' := by
 have HE := Ya.mk hE
 have HF := Ya.mk hf
 have HG := Ya.mk hg
 have HM := Ya.mk hm
 have HN := Ya.mk hn
 have HS := Ya.mk hs
 have HJ := Ya.mk hj
 clear hE hf hg hm hn hs hj
 have hu25 := Tryz.underlying25
 have BK := Ya.mk (heap_alloc_new w (.cells (uc b1 b2 b3 b4 b5 b6 b7 b8) 25))
 have HB := Ya.mk ((Below.refl w.heap.size w).alloc (Nat.le_refl _) (.cells (uc b1 b2 b3 b4 b5 b6 b7 b8) 25))
 have BKq := Ya.mk (Ym BK.out (.cells (uc u1 u2 u3 u4 u5 u6 u7 u8) 25))
 clear BK
 have BK := BKq
 clear BKq
 have BU := Ya.mk (heap_alloc_new (w.alloc (.cells (uc b1 b2 b3 b4 b5 b6 b7 b8) 25)) (.cells (uc u1 u2 u3 u4 u5 u6 u7 u8) 25))
 rw [Yif] at BU
 have HBq := Ya.mk (HB.out.alloc HB.out.size (.cells (uc u1 u2 u3 u4 u5 u6 u7 u8) 25))
 clear HB
 have HB := HBq
 clear HBq
 go_enter Tryz.func7, Tryz.ntmps7
 obtain ⟨hc0, hc1, hc2, hc3, hc4, hc5, hc6, hc7⟩ := Yaa BK.out
 go_wp2_with fail
 clear hc0 hc1 hc2 hc3 hc4 hc5 hc6 hc7
 refine (Yia.calls k0 b1 b2 b3 b4 b5 b6 b7 b8 false _ (HE.out.below HB.out) HF.out).mono ?_
 rintro e w1 ⟨rfl, hb⟩
 replace BK := Ya.mk (Yx BK.out hb)
 replace BU := Ya.mk (Yx BU.out hb)
 replace HB := Ya.mk (HB.out.trans (hb.mono HB.out.size))
 clear hb
 obtain ⟨hc0, hc1, hc2, hc3, hc4, hc5, hc6, hc7⟩ := Yaa BU.out
 go_wp2_with fail
 clear hc0 hc1 hc2 hc3 hc4 hc5 hc6 hc7
 refine (Yia.calls k1 u1 u2 u3 u4 u5 u6 u7 u8 false _ (HE.out.below HB.out) HG.out).mono ?_
 rintro e w2 ⟨rfl, hb⟩
 replace BK := Ya.mk (Yx BK.out hb)
 replace BU := Ya.mk (Yx BU.out hb)
 replace HB := Ya.mk (HB.out.trans (hb.mono HB.out.size))
 clear hb
 obtain ⟨hc0, hc1, hc2, hc3, hc4, hc5, hc6, hc7⟩ := Yaa BK.out
 go_wp2_with fail
 clear hc0 hc1 hc2 hc3 hc4 hc5 hc6 hc7
 refine (Yab.calls k2 b1 b2 b3 b4 b5 b6 b7 b8 true _ (HE.out.below HB.out) HM.out).mono ?_
 rintro e w3 ⟨rfl, hb⟩
 replace BK := Ya.mk (Yx BK.out hb)
 replace BU := Ya.mk (Yx BU.out hb)
 replace HB := Ya.mk (HB.out.trans (hb.mono HB.out.size))
 clear hb
 obtain ⟨hc0, hc1, hc2, hc3, hc4, hc5, hc6, hc7⟩ := Yaa BU.out
 go_wp2_with fail
 clear hc0 hc1 hc2 hc3 hc4 hc5 hc6 hc7
 refine (Yab.calls k3 u1 u2 u3 u4 u5 u6 u7 u8 true _ (HE.out.below HB.out) HN.out).mono ?_
 rintro e w4 ⟨rfl, hb⟩
 replace BK := Ya.mk (Yx BK.out hb)
 replace BU := Ya.mk (Yx BU.out hb)
 replace HB := Ya.mk (HB.out.trans (hb.mono HB.out.size))
 clear hb
 go_wp2_with fail
 refine Ylh (n := 10) (S := fun w' => (w'.cell? ⟨w.heap.size, 0, none⟩ = some (.string b1) ∧ w'.cell? ⟨w.heap.size, 1, none⟩ = some (.string b2) ∧ w'.cell? ⟨w.heap.size, 2, none⟩ = some (.int .i64 b3) ∧ w'.cell? ⟨w.heap.size, 3, none⟩ = some (.string b4) ∧ w'.cell? ⟨w.heap.size, 4, none⟩ = some (.string b5) ∧ w'.cell? ⟨w.heap.size, 5, none⟩ = some (.string b6) ∧ w'.cell? ⟨w.heap.size, 6, none⟩ = some (.bool b7) ∧ w'.cell? ⟨w.heap.size, 7, none⟩ = some (.bool b8)) ∧ (w'.cell? ⟨w.heap.size + 1, 0, none⟩ = some (.string u1) ∧ w'.cell? ⟨w.heap.size + 1, 1, none⟩ = some (.string u2) ∧ w'.cell? ⟨w.heap.size + 1, 2, none⟩ = some (.int .i64 u3) ∧ w'.cell? ⟨w.heap.size + 1, 3, none⟩ = some (.string u4) ∧ w'.cell? ⟨w.heap.size + 1, 4, none⟩ = some (.string u5) ∧ w'.cell? ⟨w.heap.size + 1, 5, none⟩ = some (.string u6) ∧ w'.cell? ⟨w.heap.size + 1, 6, none⟩ = some (.bool u7) ∧ w'.cell? ⟨w.heap.size + 1, 7, none⟩ = some (.bool u8))) (ds := []) #[false, false, false, false, false, false, false, false, false, false] Zi rfl rfl ⟨Yaa (Yp BK.out), Yaa (Yp BU.out)⟩ (fun hHeld => ?_); refine Yqh Yap Ypo (fun HT_ HW_ => ?_)
 replace BK := Ya.mk (Yp BK.out)
 replace BU := Ya.mk (Yp BU.out)
 replace HB := Ya.mk (Yc HB.out)
 generalize w4.drew = wd at BK BU HB hHeld ⊢
 refine Ymg (i := 0) (N := some 25) (v := ?_) (a' := ?_) #[true, false, false, false, false, false, false, false, false, false] rfl rfl (Yhg HT_.out HW_.out Zi) (fun _ _ _ h => h) (Or.inl ⟨Zla, ?_⟩) hHeld ?_ ?_
 rotate_left
 ·rintro w' ⟨⟨s0, s1, s2, s3, s4, s5, s6, s7⟩, ⟨q0, q1, q2, q3, q4, q5, q6, q7⟩⟩
  go_simp
  with_reducible rfl
 rotate_left
 ·simp only [Act.put, List.setIfInBounds_toArray, List.set_cons_zero, List.set_cons_succ, Yqa, Yra]
  rfl
 refine Ymg (i := 1) (N := some 26) (v := ?_) (a' := ?_) #[true, true, false, false, false, false, false, false, false, false] rfl rfl (Yhg HT_.out HW_.out Zi) (fun _ _ _ h => h) (Or.inl ⟨Zla, ?_⟩) hHeld ?_ ?_
 rotate_left
 ·rintro w' ⟨⟨s0, s1, s2, s3, s4, s5, s6, s7⟩, ⟨q0, q1, q2, q3, q4, q5, q6, q7⟩⟩
  go_simp
  with_reducible rfl
 rotate_left
 ·simp only [Act.put, List.setIfInBounds_toArray, List.set_cons_zero, List.set_cons_succ, Yqa, Yra]
  rfl
 refine join_ (σ := Nat) 2 #[true, true, true, true, true, true, true, true, false, false] (fun s_ => [(27, .string t), (28, .tuple #[.agg #[.string u1, .string u2, .int .i64 u3, .string u4, .string u5, .string u6, .bool u7, .bool u8], .int .i64 0]), (5, .pointer (some ⟨s_, 0, none⟩)), (24, .tuple #[.agg #[.string u1, .string u2, .int .i64 u3, .string u4, .string u5, .string u6, .bool u7, .bool u8], .int .i64 0]), (29, .agg #[.string u1, .string u2, .int .i64 u3, .string u4, .string u5, .string u6, .bool u7, .bool u8]), (30, .int .i64 0)]) (fun s_ w' => ((w'.cell? ⟨w.heap.size, 0, none⟩ = some (.string b1) ∧ w'.cell? ⟨w.heap.size, 1, none⟩ = some (.string b2) ∧ w'.cell? ⟨w.heap.size, 2, none⟩ = some (.int .i64 b3) ∧ w'.cell? ⟨w.heap.size, 3, none⟩ = some (.string b4) ∧ w'.cell? ⟨w.heap.size, 4, none⟩ = some (.string b5) ∧ w'.cell? ⟨w.heap.size, 5, none⟩ = some (.string b6) ∧ w'.cell? ⟨w.heap.size, 6, none⟩ = some (.bool b7) ∧ w'.cell? ⟨w.heap.size, 7, none⟩ = some (.bool b8)) ∧ (w'.cell? ⟨w.heap.size + 1, 0, none⟩ = some (.string u1) ∧ w'.cell? ⟨w.heap.size + 1, 1, none⟩ = some (.string u2) ∧ w'.cell? ⟨w.heap.size + 1, 2, none⟩ = some (.int .i64 u3) ∧ w'.cell? ⟨w.heap.size + 1, 3, none⟩ = some (.string u4) ∧ w'.cell? ⟨w.heap.size + 1, 4, none⟩ = some (.string u5) ∧ w'.cell? ⟨w.heap.size + 1, 5, none⟩ = some (.string u6) ∧ w'.cell? ⟨w.heap.size + 1, 6, none⟩ = some (.bool u7) ∧ w'.cell? ⟨w.heap.size + 1, 7, none⟩ = some (.bool u8))) ∧ (w'.heap[w.heap.size]? = some (.cells (uc b1 b2 b3 b4 b5 b6 b7 b8) 25 (0, 0))) ∧ (w'.heap[w.heap.size + 1]? = some (.cells (uc u1 u2 u3 u4 u5 u6 u7 u8) 25 (0, 0))) ∧ (w'.heap[s_]? = some (.cells #[.string (⟨#[]⟩ : ByteArray), .string (⟨#[]⟩ : ByteArray), .int .i64 0, .string (⟨#[]⟩ : ByteArray), .string (⟨#[]⟩ : ByteArray), .string (⟨#[]⟩ : ByteArray), .bool false, .bool false] 25 (0, 0))) ∧ (w.heap.size + 1 < s_) ∧ (Below w.heap.size w w')) ?_ ?_
 rotate_left
 ·intro hCont
  refine two_ (i := 2) (j := 7) (Ni := some 27) (Nj := some 5) #[true, true, true, false, false, false, false, false, false, false] #[true, true, false, false, false, false, false, true, false, false] rfl rfl rfl rfl (two_of HT_.out Zi) Zda Zda (fun K hK => ?_) (fun K hK => ?_)
  ·refine Yvh Tryz.func25 Zi rfl #[.agg #[.string u1, .string u2, .int .i64 u3, .string u4, .string u5, .string u6, .bool u7, .bool u8]] Zla rfl rfl Zha ?_
   refine (Yca.calls k4 u1 u2 u3 u4 u5 u6 u7 u8 t _ (HE.out.below HB.out) HS.out).mono ?_
   rintro e we ⟨rfl, hb⟩
   refine ⟨_, rfl, ?_⟩
   replace BK := Ya.mk (Yx BK.out hb)
   replace BU := Ya.mk (Yx BU.out hb)
   replace HB := Ya.mk (HB.out.trans (hb.mono HB.out.size))
   clear hb
   refine hK.out _ _ ⟨Yaa BK.out, Yaa BU.out⟩ (fun hHeld => ?_)
   clear hK K
   refine Ywf (a' := ?_) ?_ ?_
   rotate_left
   ·show Act.put _ (some 27) _ = _
    simp only [Act.put, List.setIfInBounds_toArray, List.set_cons_zero, List.set_cons_succ, Yqa, Yra]
    rfl
   refine two_ (i := 3) (j := 7) (Ni := some 28) (Nj := some 5) #[true, true, true, true, false, false, false, false, false, false] #[true, true, true, false, false, false, false, true, false, false] rfl rfl rfl rfl (two_of HT_.out Zi) Zda Zda (fun K hK => ?_) (fun K hK => ?_)
   ·refine Yvh Tryz.func33 Zi rfl #[.agg #[.string b1, .string b2, .int .i64 b3, .string b4, .string b5, .string b6, .bool b7, .bool b8], .string t] Zla rfl rfl Zha ?_
    refine (Yoa.calls k5 b1 b2 b3 b4 b5 b6 b7 b8 t u1 u2 u3 u4 u5 u6 u7 u8 0 _ (HE.out.below HB.out) HJ.out).mono ?_
    rintro e we ⟨rfl, hb⟩
    refine ⟨_, rfl, ?_⟩
    replace BK := Ya.mk (Yx BK.out hb)
    replace BU := Ya.mk (Yx BU.out hb)
    replace HB := Ya.mk (HB.out.trans (hb.mono HB.out.size))
    clear hb
    refine hK.out _ _ ⟨Yaa BK.out, Yaa BU.out⟩ (fun hHeld => ?_)
    clear hK K
    refine Ywf (a' := ?_) ?_ ?_
    rotate_left
    ·show Act.put _ (some 28) _ = _
     simp only [Act.put, List.setIfInBounds_toArray, List.set_cons_zero, List.set_cons_succ, Yqa, Yra]
     rfl
    refine Yrb (i := 4) (N := some 24) (v := ?_) (a' := ?_) #[true, true, true, true, true, false, false, false, false, false] rfl rfl (Ypb HT_.out Zi) (fun _ _ _ h => h) (Or.inl ⟨Zla, ?_⟩) ?_ ?_
    rotate_left
    ·intro w'
     go_simp
     with_reducible rfl
    rotate_left
    ·simp only [Act.put, List.setIfInBounds_toArray, List.set_cons_zero, List.set_cons_succ, Yqa, Yra]
     rfl
    refine Yrb (i := 5) (N := some 29) (v := ?_) (a' := ?_) #[true, true, true, true, true, true, false, false, false, false] rfl rfl (Ypb HT_.out Zi) (fun _ _ _ h => h) (Or.inl ⟨Zla, ?_⟩) ?_ ?_
    rotate_left
    ·intro w'
     go_simp
     with_reducible rfl
    rotate_left
    ·simp only [Act.put, List.setIfInBounds_toArray, List.set_cons_zero, List.set_cons_succ, Yqa, Yra]
     rfl
    refine Yrb (i := 6) (N := some 30) (v := ?_) (a' := ?_) #[true, true, true, true, true, true, true, false, false, false] rfl rfl (Ypb HT_.out Zi) (fun _ _ _ h => h) (Or.inl ⟨Zla, ?_⟩) ?_ ?_
    rotate_left
    ·intro w'
     go_simp
     with_reducible rfl
    rotate_left
    ·simp only [Act.put, List.setIfInBounds_toArray, List.set_cons_zero, List.set_cons_succ, Yqa, Yra]
     rfl
    refine one_ (i := 7) (N := some 5) #[true, true, true, true, true, true, true, true, false, false] rfl rfl (Ykg HT_.out Zi) Zda (fun K hK => ?_)
    refine Yqn ?hg (N := 5) ?hd (cs := #[.string (⟨#[]⟩ : ByteArray), .string (⟨#[]⟩ : ByteArray), .int .i64 0, .string (⟨#[]⟩ : ByteArray), .string (⟨#[]⟩ : ByteArray), .string (⟨#[]⟩ : ByteArray), .bool false, .bool false]) (t := 25) ?hr ?_; (case hd => rfl); (case hg => rfl); (case hr => first | (go_simp; done) | (go_simp; rfl))
    intro gb hg wb hbox hb
    have HLT := Ya.mk (show w.heap.size + 1 < gb from by rw [hg]; exact Yje BU.out)
    replace BK := Ya.mk (Yx BK.out hb)
    replace BU := Ya.mk (Yx BU.out hb)
    replace HB := Ya.mk (HB.out.trans (hb.mono HB.out.size))
    clear hb
    have BN := Ya.mk hbox
    clear hbox hg
    refine hK.out _ _ ⟨Yaa BK.out, Yaa BU.out⟩ (fun hHeld => ?_)
    clear hK K
    refine Ywf (a' := ?_) ?_ ?_
    rotate_left
    ·show Act.put _ (some 5) _ = _
     simp only [Act.put, List.setIfInBounds_toArray, List.set_cons_zero, List.set_cons_succ, Yqa, Yra]
     rfl
    exact Ywf Zib (hCont gb _ ⟨hHeld, BK.out, BU.out, BN.out, HLT.out, HB.out⟩)
   ·refine Yqn ?hg (N := 5) ?hd (cs := #[.string (⟨#[]⟩ : ByteArray), .string (⟨#[]⟩ : ByteArray), .int .i64 0, .string (⟨#[]⟩ : ByteArray), .string (⟨#[]⟩ : ByteArray), .string (⟨#[]⟩ : ByteArray), .bool false, .bool false]) (t := 25) ?hr ?_; (case hd => rfl); (case hg => rfl); (case hr => first | (go_simp; done) | (go_simp; rfl))
    intro gb hg wb hbox hb
    have HLT := Ya.mk (show w.heap.size + 1 < gb from by rw [hg]; exact Yje BU.out)
    replace BK := Ya.mk (Yx BK.out hb)
    replace BU := Ya.mk (Yx BU.out hb)
    replace HB := Ya.mk (HB.out.trans (hb.mono HB.out.size))
    clear hb
    have BN := Ya.mk hbox
    clear hbox hg
    refine hK.out _ _ ⟨Yaa BK.out, Yaa BU.out⟩ (fun hHeld => ?_)
    clear hK K
    refine Ywf (a' := ?_) ?_ ?_
    rotate_left
    ·show Act.put _ (some 5) _ = _
     simp only [Act.put, List.setIfInBounds_toArray, List.set_cons_zero, List.set_cons_succ, Yqa, Yra]
     rfl
    refine one_ (i := 3) (N := some 28) #[true, true, true, true, false, false, false, true, false, false] rfl rfl (Ykg HT_.out Zi) Zda (fun K hK => ?_)
    refine Yvh Tryz.func33 Zi rfl #[.agg #[.string b1, .string b2, .int .i64 b3, .string b4, .string b5, .string b6, .bool b7, .bool b8], .string t] Zla rfl rfl Zha ?_
    refine (Yoa.calls k5 b1 b2 b3 b4 b5 b6 b7 b8 t u1 u2 u3 u4 u5 u6 u7 u8 0 _ (HE.out.below HB.out) HJ.out).mono ?_
    rintro e we ⟨rfl, hb⟩
    refine ⟨_, rfl, ?_⟩
    replace BK := Ya.mk (Yx BK.out hb)
    replace BU := Ya.mk (Yx BU.out hb)
    replace BN := Ya.mk (Yx BN.out hb)
    replace HB := Ya.mk (HB.out.trans (hb.mono HB.out.size))
    clear hb
    refine hK.out _ _ ⟨Yaa BK.out, Yaa BU.out⟩ (fun hHeld => ?_)
    clear hK K
    refine Ywf (a' := ?_) ?_ ?_
    rotate_left
    ·show Act.put _ (some 28) _ = _
     simp only [Act.put, List.setIfInBounds_toArray, List.set_cons_zero, List.set_cons_succ, Yqa, Yra]
     rfl
    refine Yrb (i := 4) (N := some 24) (v := ?_) (a' := ?_) #[true, true, true, true, true, false, false, true, false, false] rfl rfl (Ypb HT_.out Zi) (fun _ _ _ h => h) (Or.inl ⟨Zla, ?_⟩) ?_ ?_
    rotate_left
    ·intro w'
     go_simp
     with_reducible rfl
    rotate_left
    ·simp only [Act.put, List.setIfInBounds_toArray, List.set_cons_zero, List.set_cons_succ, Yqa, Yra]
     rfl
    refine Yrb (i := 5) (N := some 29) (v := ?_) (a' := ?_) #[true, true, true, true, true, true, false, true, false, false] rfl rfl (Ypb HT_.out Zi) (fun _ _ _ h => h) (Or.inl ⟨Zla, ?_⟩) ?_ ?_
    rotate_left
    ·intro w'
     go_simp
     with_reducible rfl
    rotate_left
    ·simp only [Act.put, List.setIfInBounds_toArray, List.set_cons_zero, List.set_cons_succ, Yqa, Yra]
     rfl
    refine Yrb (i := 6) (N := some 30) (v := ?_) (a' := ?_) #[true, true, true, true, true, true, true, true, false, false] rfl rfl (Ypb HT_.out Zi) (fun _ _ _ h => h) (Or.inl ⟨Zla, ?_⟩) ?_ ?_
    rotate_left
    ·intro w'
     go_simp
     with_reducible rfl
    rotate_left
    ·simp only [Act.put, List.setIfInBounds_toArray, List.set_cons_zero, List.set_cons_succ, Yqa, Yra]
     rfl
    exact Ywf Zib (hCont gb _ ⟨hHeld, BK.out, BU.out, BN.out, HLT.out, HB.out⟩)
  ·refine Yqn ?hg (N := 5) ?hd (cs := #[.string (⟨#[]⟩ : ByteArray), .string (⟨#[]⟩ : ByteArray), .int .i64 0, .string (⟨#[]⟩ : ByteArray), .string (⟨#[]⟩ : ByteArray), .string (⟨#[]⟩ : ByteArray), .bool false, .bool false]) (t := 25) ?hr ?_; (case hd => rfl); (case hg => rfl); (case hr => first | (go_simp; done) | (go_simp; rfl))
   intro gb hg wb hbox hb
   have HLT := Ya.mk (show w.heap.size + 1 < gb from by rw [hg]; exact Yje BU.out)
   replace BK := Ya.mk (Yx BK.out hb)
   replace BU := Ya.mk (Yx BU.out hb)
   replace HB := Ya.mk (HB.out.trans (hb.mono HB.out.size))
   clear hb
   have BN := Ya.mk hbox
   clear hbox hg
   refine hK.out _ _ ⟨Yaa BK.out, Yaa BU.out⟩ (fun hHeld => ?_)
   clear hK K
   refine Ywf (a' := ?_) ?_ ?_
   rotate_left
   ·show Act.put _ (some 5) _ = _
    simp only [Act.put, List.setIfInBounds_toArray, List.set_cons_zero, List.set_cons_succ, Yqa, Yra]
    rfl
   refine one_ (i := 2) (N := some 27) #[true, true, true, false, false, false, false, true, false, false] rfl rfl (Ykg HT_.out Zi) Zda (fun K hK => ?_)
   refine Yvh Tryz.func25 Zi rfl #[.agg #[.string u1, .string u2, .int .i64 u3, .string u4, .string u5, .string u6, .bool u7, .bool u8]] Zla rfl rfl Zha ?_
   refine (Yca.calls k4 u1 u2 u3 u4 u5 u6 u7 u8 t _ (HE.out.below HB.out) HS.out).mono ?_
   rintro e we ⟨rfl, hb⟩
   refine ⟨_, rfl, ?_⟩
   replace BK := Ya.mk (Yx BK.out hb)
   replace BU := Ya.mk (Yx BU.out hb)
   replace BN := Ya.mk (Yx BN.out hb)
   replace HB := Ya.mk (HB.out.trans (hb.mono HB.out.size))
   clear hb
   refine hK.out _ _ ⟨Yaa BK.out, Yaa BU.out⟩ (fun hHeld => ?_)
   clear hK K
   refine Ywf (a' := ?_) ?_ ?_
   rotate_left
   ·show Act.put _ (some 27) _ = _
    simp only [Act.put, List.setIfInBounds_toArray, List.set_cons_zero, List.set_cons_succ, Yqa, Yra]
    rfl
   refine one_ (i := 3) (N := some 28) #[true, true, true, true, false, false, false, true, false, false] rfl rfl (Ykg HT_.out Zi) Zda (fun K hK => ?_)
   refine Yvh Tryz.func33 Zi rfl #[.agg #[.string b1, .string b2, .int .i64 b3, .string b4, .string b5, .string b6, .bool b7, .bool b8], .string t] Zla rfl rfl Zha ?_
   refine (Yoa.calls k5 b1 b2 b3 b4 b5 b6 b7 b8 t u1 u2 u3 u4 u5 u6 u7 u8 0 _ (HE.out.below HB.out) HJ.out).mono ?_
   rintro e we ⟨rfl, hb⟩
   refine ⟨_, rfl, ?_⟩
   replace BK := Ya.mk (Yx BK.out hb)
   replace BU := Ya.mk (Yx BU.out hb)
   replace BN := Ya.mk (Yx BN.out hb)
   replace HB := Ya.mk (HB.out.trans (hb.mono HB.out.size))
   clear hb
   refine hK.out _ _ ⟨Yaa BK.out, Yaa BU.out⟩ (fun hHeld => ?_)
   clear hK K
   refine Ywf (a' := ?_) ?_ ?_
   rotate_left
   ·show Act.put _ (some 28) _ = _
    simp only [Act.put, List.setIfInBounds_toArray, List.set_cons_zero, List.set_cons_succ, Yqa, Yra]
    rfl
   refine Yrb (i := 4) (N := some 24) (v := ?_) (a' := ?_) #[true, true, true, true, true, false, false, true, false, false] rfl rfl (Ypb HT_.out Zi) (fun _ _ _ h => h) (Or.inl ⟨Zla, ?_⟩) ?_ ?_
   rotate_left
   ·intro w'
    go_simp
    with_reducible rfl
   rotate_left
   ·simp only [Act.put, List.setIfInBounds_toArray, List.set_cons_zero, List.set_cons_succ, Yqa, Yra]
    rfl
   refine Yrb (i := 5) (N := some 29) (v := ?_) (a' := ?_) #[true, true, true, true, true, true, false, true, false, false] rfl rfl (Ypb HT_.out Zi) (fun _ _ _ h => h) (Or.inl ⟨Zla, ?_⟩) ?_ ?_
   rotate_left
   ·intro w'
    go_simp
    with_reducible rfl
   rotate_left
   ·simp only [Act.put, List.setIfInBounds_toArray, List.set_cons_zero, List.set_cons_succ, Yqa, Yra]
    rfl
   refine Yrb (i := 6) (N := some 30) (v := ?_) (a' := ?_) #[true, true, true, true, true, true, true, true, false, false] rfl rfl (Ypb HT_.out Zi) (fun _ _ _ h => h) (Or.inl ⟨Zla, ?_⟩) ?_ ?_
   rotate_left
   ·intro w'
    go_simp
    with_reducible rfl
   rotate_left
   ·simp only [Act.put, List.setIfInBounds_toArray, List.set_cons_zero, List.set_cons_succ, Yqa, Yra]
    rfl
   exact Ywf Zib (hCont gb _ ⟨hHeld, BK.out, BU.out, BN.out, HLT.out, HB.out⟩)
 rintro gb w9 ⟨hHeld, h0_, h1_, h2_, h3_, h4_⟩
 replace BK := Ya.mk h0_
 replace BU := Ya.mk h1_
 have BN := Ya.mk h2_
 have HLT := Ya.mk h3_
 replace HB := Ya.mk h4_
 clear h0_ h1_ h2_ h3_ h4_
 refine Ywf (a' := ?_) ?_ ?_
 rotate_left
 ·simp only [Yhl, Act.put, List.setIfInBounds_toArray, List.set_cons_zero, List.set_cons_succ]
  rfl
 refine one_ (i := 8) (N := none) #[true, true, true, true, true, true, true, true, true, false] rfl rfl (Ykg HT_.out Zi) Zda (fun K hK => ?_)
 have hz0 := (Yf BN.out 0).trans rfl
 have hy0 := Ye BN.out 0
 have hz1 := (Yf BN.out 1).trans rfl
 have hy1 := Ye BN.out 1
 have hz2 := (Yf BN.out 2).trans rfl
 have hy2 := Ye BN.out 2
 have hz3 := (Yf BN.out 3).trans rfl
 have hy3 := Ye BN.out 3
 have hz4 := (Yf BN.out 4).trans rfl
 have hy4 := Ye BN.out 4
 have hz5 := (Yf BN.out 5).trans rfl
 have hy5 := Ye BN.out 5
 have hz6 := (Yf BN.out 6).trans rfl
 have hy6 := Ye BN.out 6
 have hz7 := (Yf BN.out 7).trans rfl
 have hy7 := Ye BN.out 7
 have HN0 := Ya.mk (show gb ≠ w.heap.size from fun h => by have := HLT.out; omega)
 have HN1 := Ya.mk (show gb ≠ w.heap.size + 1 from fun h => by have := HLT.out; omega)
 have HG := Ya.mk (show w.heap.size ≤ gb from by have := HLT.out; omega)
 refine Yuk (w1 := ?_) Zla rfl ?_ ?_
 rotate_left
 ·go_simp
  rfl
 refine hK.out _ _ ⟨Yaa (far8 BK.out HN0.out), Yaa (far8 BU.out HN1.out)⟩ (fun hHeld => ?_)
 clear hK K hz0 hy0 hz1 hy1 hz2 hy2 hz3 hy3 hz4 hy4 hz5 hy5 hz6 hy6 hz7 hy7
 replace BK := Ya.mk (show ((((((((w9.setCell ⟨gb, 0, none⟩ (.string u1)).setCell ⟨gb, 1, none⟩ (.string u2)).setCell ⟨gb, 2, none⟩ (.int .i64 u3)).setCell ⟨gb, 3, none⟩ (.string u4)).setCell ⟨gb, 4, none⟩ (.string u5)).setCell ⟨gb, 5, none⟩ (.string u6)).setCell ⟨gb, 6, none⟩ (.bool u7)).setCell ⟨gb, 7, none⟩ (.bool u8)).heap[w.heap.size]? = some (.cells (uc b1 b2 b3 b4 b5 b6 b7 b8) 25 (0, 0)) from far8 BK.out HN0.out)
 replace BU := Ya.mk (show ((((((((w9.setCell ⟨gb, 0, none⟩ (.string u1)).setCell ⟨gb, 1, none⟩ (.string u2)).setCell ⟨gb, 2, none⟩ (.int .i64 u3)).setCell ⟨gb, 3, none⟩ (.string u4)).setCell ⟨gb, 4, none⟩ (.string u5)).setCell ⟨gb, 5, none⟩ (.string u6)).setCell ⟨gb, 6, none⟩ (.bool u7)).setCell ⟨gb, 7, none⟩ (.bool u8)).heap[w.heap.size + 1]? = some (.cells (uc u1 u2 u3 u4 u5 u6 u7 u8) 25 (0, 0)) from far8 BU.out HN1.out)
 have BV := Ya.mk (show ((((((((w9.setCell ⟨gb, 0, none⟩ (.string u1)).setCell ⟨gb, 1, none⟩ (.string u2)).setCell ⟨gb, 2, none⟩ (.int .i64 u3)).setCell ⟨gb, 3, none⟩ (.string u4)).setCell ⟨gb, 4, none⟩ (.string u5)).setCell ⟨gb, 5, none⟩ (.string u6)).setCell ⟨gb, 6, none⟩ (.bool u7)).setCell ⟨gb, 7, none⟩ (.bool u8)).heap[gb]? = some (.cells (uc u1 u2 u3 u4 u5 u6 u7 u8) 25 (0, 0)) from put8 BN.out)
 replace HB := Ya.mk (show Below w.heap.size w ((((((((w9.setCell ⟨gb, 0, none⟩ (.string u1)).setCell ⟨gb, 1, none⟩ (.string u2)).setCell ⟨gb, 2, none⟩ (.int .i64 u3)).setCell ⟨gb, 3, none⟩ (.string u4)).setCell ⟨gb, 4, none⟩ (.string u5)).setCell ⟨gb, 5, none⟩ (.string u6)).setCell ⟨gb, 6, none⟩ (.bool u7)).setCell ⟨gb, 7, none⟩ (.bool u8)) from below8 HB.out HG.out)
 clear BN
 generalize ((((((((w9.setCell ⟨gb, 0, none⟩ (.string u1)).setCell ⟨gb, 1, none⟩ (.string u2)).setCell ⟨gb, 2, none⟩ (.int .i64 u3)).setCell ⟨gb, 3, none⟩ (.string u4)).setCell ⟨gb, 4, none⟩ (.string u5)).setCell ⟨gb, 5, none⟩ (.string u6)).setCell ⟨gb, 6, none⟩ (.bool u7)).setCell ⟨gb, 7, none⟩ (.bool u8)) = wz at BK BU BV HB hHeld ⊢
 refine Yrb (i := 9) (N := some 6) (v := ?_) (a' := ?_) #[true, true, true, true, true, true, true, true, true, true] rfl rfl (Ypb HT_.out Zi) (fun _ _ _ h => h) (Or.inl ⟨Zla, ?_⟩) ?_ ?_
 rotate_left
 ·intro w'
  go_simp
  with_reducible rfl
 rotate_left
 ·simp only [Act.put, List.setIfInBounds_toArray, List.set_cons_zero, List.set_cons_succ, Yqa, Yra]
  rfl
 refine Yqi (Yhj HT_.out Zi) ?_
 obtain ⟨hc0, hc1, hc2, hc3, hc4, hc5, hc6, hc7⟩ := Yaa BV.out
 obtain ⟨hd0, hd1, hd2, hd3, hd4, hd5, hd6, hd7⟩ := Yaa BU.out
 go_wp2_with fail
 clear hc0 hc1 hc2 hc3 hc4 hc5 hc6 hc7
 clear hd0 hd1 hd2 hd3 hd4 hd5 hd6 hd7
 refine (Yph _ (HE.out.below HB.out)).mono ?_
 rintro e w5 ⟨rfl, hb⟩
 replace BK := Ya.mk (Yx BK.out hb)
 replace BU := Ya.mk (Yx BU.out hb)
 replace BV := Ya.mk (Yx BV.out hb)
 replace HB := Ya.mk (HB.out.trans (hb.mono HB.out.size))
 clear hb
 go_wp2_with fail
 go_ret
 exact ⟨rfl, HB.out⟩
theorem joinSelf_walk (b1 b2 : ByteArray) (b3 : Int) (b4 b5 b6 : ByteArray) (b7 b8 : Bool) (u1 u2 : ByteArray) (u3 : Int) (u4 u5 u6 : ByteArray) (u7 u8 : Bool) (w : World) (hE : EnvOk w) (hr : Room b1 b2 b3 b4 b5 b6) (hr2 : Room u1 u2 u3 u4 u5 u6) :
  Calls Tryz.prog 7 #[.agg (uc b1 b2 b3 b4 b5 b6 b7 b8), .agg (uc u1 u2 u3 u4 u5 u6 u7 u8)] w fun e w' => e = .returned (.bool true) ∧ Below w.heap.size w w' := by
 obtain ⟨k0, h0⟩ := far_f (u7 := b7) (u8 := b8) hr
 have hf := h0 k0 (Nat.le_refl _)
 obtain ⟨k1, h1⟩ := far_f (u7 := u7) (u8 := u8) hr2
 have hg := h1 k1 (Nat.le_refl _)
 cases hfar : (decide ((b1.size : Int) > 2200) || decide (((Yfe b1 b2 b3 b4 b5 b6 b7 b8).size : Int) > 2200)) with
 | true =>
  rw [hfar] at hf
  exact Yxq k0 k1 0 0 b1 b2 b3 b4 b5 b6 b7 b8 u1 u2 u3 u4 u5 u6 u7 u8 w hE hf
 | false =>
  rw [hfar] at hf
  rw [Bool.or_eq_false_iff, decide_eq_false_iff_not, decide_eq_false_iff_not] at hfar
  cases hfar2 : (decide ((u1.size : Int) > 2200) || decide (((Yfe u1 u2 u3 u4 u5 u6 u7 u8).size : Int) > 2200)) with
  | true =>
   rw [hfar2] at hg
   exact Ypq k0 k1 0 0 b1 b2 b3 b4 b5 b6 b7 b8 u1 u2 u3 u4 u5 u6 u7 u8 w hE hf hg
  | false =>
   rw [hfar2] at hg
   rw [Bool.or_eq_false_iff, decide_eq_false_iff_not, decide_eq_false_iff_not] at hfar2
   obtain ⟨k2, h2⟩ := Yqj (u7 := b7) (u8 := b8) hr Zl
   have hm := h2 k2 (Nat.le_refl _)
   obtain ⟨k3, h3⟩ := Yqj (u7 := u7) (u8 := u8) hr2 Zl
   have hn := h3 k3 (Nat.le_refl _)
   cases hmay : mayB b1 b2 b3 b4 b5 b6 b7 b8 with
   | false =>
    rw [hmay] at hm
    exact Yzq k0 k1 k2 k3 b1 b2 b3 b4 b5 b6 b7 b8 u1 u2 u3 u4 u5 u6 u7 u8 w hE hf hg hm
   | true =>
    rw [hmay] at hm
    cases hmay2 : mayB u1 u2 u3 u4 u5 u6 u7 u8 with
    | false =>
     rw [hmay2] at hn
     exact Ygr k0 k1 k2 k3 b1 b2 b3 b4 b5 b6 b7 b8 u1 u2 u3 u4 u5 u6 u7 u8 w hE hf hg hm hn
    | true =>
     rw [hmay2] at hn
     obtain ⟨sch0, host0, path0, query0, frag0, rfl, rfl, rfl, rfl, rfl, hb⟩ := Yfh hmay
     obtain ⟨sch, host, path, query, frag, rfl, rfl, rfl, rfl, rfl, hc⟩ := Yfh hmay2
     have hzb : (Yfe (ofL sch0) (ofL host0) b3 (ofL path0) (ofL query0) (ofL frag0) b7 b8).size ≤ 1000000 := by omega
     have hzu := hc.size
     obtain ⟨k4, h4⟩ := Yql (ofL sch) (ofL host) u3 (ofL path) (ofL query) (ofL frag) u7 u8 hr2.s1 hr2.s2 hr2.s4 hr2.s5 hr2.s6 hr2.p0 hr2.p1
     have g4 := h4 k4 (Nat.le_refl _)
     rw [Ysh _ _ _ _ _ _ _ _ hc.p0] at g4
     obtain ⟨k5, h5⟩ := join_f hr hzb (Yjd (ofL sch) (ofL host) u3 (ofL path) (ofL query) (ofL frag) u7 u8) Zl
     have g5 := h5 k5 (Nat.le_refl _)
     rw [join_self hmay hc] at g5
     exact Ykp k0 k1 k2 k3 k4 k5 _ _ b3 _ _ _ b7 b8 _ _ u3 _ _ _ u7 u8 _ w hE hf hg hm hn g4 g5
end Go.Proofs.YtnmglnglbdpjjaaGreatDoor.X
