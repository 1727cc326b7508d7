/- JoinMay: what a call of it does. -/
import Derived.Test.YtnmglnglbdpjjaaGreatDoorUjWords
import Derived.Test.YtnmglnglbdpjjaaGreatDoorUjJq
import Derived.Test.YtnmglnglbdpjjaaGreatDoorUjRow
import Derived.Test.YtnmglnglbdpjjaaGreatDoorUjJk
namespace Go.Proofs.YtnmglnglbdpjjaaGreatDoor.X
open Go.RowKit Go.Lib Go.Shelf Go.Yw.PrintWords Go.Yw.PrintLast Go.Yw.PrintMore
set_option linter.unusedVariables false
set_option linter.unusedSimpArgs false
attribute [local go_sem high] Yvq
set_option maxHeartbeats 8000000 in
set_option maxRecDepth 100000 in
theorem Yes (k0 k1 k2 : Nat) (b1 b2 : ByteArray) (b3 : Int) (b4 b5 b6 : ByteArray) (b7 b8 : Bool) (s : ByteArray) (w : World) (hE : EnvOk w)
  (hf : Yia.f k0 b1 b2 b3 b4 b5 b6 b7 b8 = some true) :
  Calls Tryz.prog 8 #[.agg (uc b1 b2 b3 b4 b5 b6 b7 b8), .string s] w fun e w' => e = .returned (.bool true) ∧ Below w.heap.size w w' := by
 have HE := Ya.mk hE
 have HF := Ya.mk hf
 clear hE hf
 have hu25 := Tryz.underlying25
 have BK := Ya.mk (heap_alloc_new w (.cells (uc b1 b2 b3 b4 b5 b6 b7 b8) 25))
 have HB := Ya.mk ((Below.refl w.heap.size w).alloc (Nat.le_refl _) (.cells (uc b1 b2 b3 b4 b5 b6 b7 b8) 25))
 go_enter Tryz.func8, Tryz.ntmps8
 obtain ⟨hc0, hc1, hc2, hc3, hc4, hc5, hc6, hc7⟩ := Yaa BK.out
 go_wp2_with fail
 clear hc0 hc1 hc2 hc3 hc4 hc5 hc6 hc7
 refine (Yia.calls k0 b1 b2 b3 b4 b5 b6 b7 b8 true _ (HE.out.below HB.out) HF.out).mono ?_
 rintro e w1 ⟨rfl, hb⟩
 replace BK := Ya.mk (Yx BK.out hb)
 replace HB := Ya.mk (HB.out.trans (hb.mono HB.out.size))
 clear hb
 go_wp2_with fail
 refine (Yph _ (HE.out.below HB.out)).mono ?_
 rintro e w2 ⟨rfl, hb⟩
 replace BK := Ya.mk (Yx BK.out hb)
 replace HB := Ya.mk (HB.out.trans (hb.mono HB.out.size))
 clear hb
 go_wp2_with fail
 go_ret
 exact ⟨rfl, HB.out⟩
set_option maxHeartbeats 8000000 in
set_option maxRecDepth 100000 in
theorem Yks (k0 k1 k2 : Nat) (b1 b2 : ByteArray) (b3 : Int) (b4 b5 b6 : ByteArray) (b7 b8 : Bool) (s : ByteArray) (w : World) (hE : EnvOk w)
  (hf : Yia.f k0 b1 b2 b3 b4 b5 b6 b7 b8 = some false)
  (hg : Ygb.f s = some true) :
  Calls Tryz.prog 8 #[.agg (uc b1 b2 b3 b4 b5 b6 b7 b8), .string s] w fun e w' => e = .returned (.bool true) ∧ Below w.heap.size w w' := by
 have HE := Ya.mk hE
 have HF := Ya.mk hf
 have HG := Ya.mk hg
 clear hE hf hg
 have hu25 := Tryz.underlying25
 have BK := Ya.mk (heap_alloc_new w (.cells (uc b1 b2 b3 b4 b5 b6 b7 b8) 25))
 have HB := Ya.mk ((Below.refl w.heap.size w).alloc (Nat.le_refl _) (.cells (uc b1 b2 b3 b4 b5 b6 b7 b8) 25))
 go_enter Tryz.func8, Tryz.ntmps8
 obtain ⟨hc0, hc1, hc2, hc3, hc4, hc5, hc6, hc7⟩ := Yaa BK.out
 go_wp2_with fail
 clear hc0 hc1 hc2 hc3 hc4 hc5 hc6 hc7
 refine (Yia.calls k0 b1 b2 b3 b4 b5 b6 b7 b8 false _ (HE.out.below HB.out) HF.out).mono ?_
 rintro e w1 ⟨rfl, hb⟩
 replace BK := Ya.mk (Yx BK.out hb)
 replace HB := Ya.mk (HB.out.trans (hb.mono HB.out.size))
 clear hb
 go_wp2_with fail
 refine (Ygb.calls s true _ (HE.out.below HB.out) HG.out).mono ?_
 rintro e wq ⟨rfl, ⟨nd, rfl⟩⟩
 replace BK := Ya.mk (Yl BK.out nd)
 replace HB := Ya.mk (Yb HB.out nd)
 generalize World.drewN _ nd = w2 at BK HB ⊢
 go_wp2_with fail
 refine (Yph _ (HE.out.below HB.out)).mono ?_
 rintro e w3 ⟨rfl, hb⟩
 replace BK := Ya.mk (Yx BK.out hb)
 replace HB := Ya.mk (HB.out.trans (hb.mono HB.out.size))
 clear hb
 go_wp2_with fail
 go_ret
 exact ⟨rfl, HB.out⟩
set_option maxHeartbeats 8000000 in
set_option maxRecDepth 100000 in
theorem Yyr (k0 k1 k2 : Nat) (b1 b2 : ByteArray) (b3 : Int) (b4 b5 b6 : ByteArray) (b7 b8 : Bool) (s : ByteArray) (w : World) (hE : EnvOk w)
  (hf : Yia.f k0 b1 b2 b3 b4 b5 b6 b7 b8 = some false)
  (hg : Ygb.f s = some false)
  (hm : Yab.f k2 b1 b2 b3 b4 b5 b6 b7 b8 = some false) :
  Calls Tryz.prog 8 #[.agg (uc b1 b2 b3 b4 b5 b6 b7 b8), .string s] w fun e w' => e = .returned (.bool true) ∧ Below w.heap.size w w' := by
 have HE := Ya.mk hE
 have HF := Ya.mk hf
 have HG := Ya.mk hg
 have HM := Ya.mk hm
 clear hE hf hg hm
 have hu25 := Tryz.underlying25
 have BK := Ya.mk (heap_alloc_new w (.cells (uc b1 b2 b3 b4 b5 b6 b7 b8) 25))
 have HB := Ya.mk ((Below.refl w.heap.size w).alloc (Nat.le_refl _) (.cells (uc b1 b2 b3 b4 b5 b6 b7 b8) 25))
 go_enter Tryz.func8, Tryz.ntmps8
 obtain ⟨hc0, hc1, hc2, hc3, hc4, hc5, hc6, hc7⟩ := Yaa BK.out
 go_wp2_with fail
 clear hc0 hc1 hc2 hc3 hc4 hc5 hc6 hc7
 refine (Yia.calls k0 b1 b2 b3 b4 b5 b6 b7 b8 false _ (HE.out.below HB.out) HF.out).mono ?_
 rintro e w1 ⟨rfl, hb⟩
 replace BK := Ya.mk (Yx BK.out hb)
 replace HB := Ya.mk (HB.out.trans (hb.mono HB.out.size))
 clear hb
 go_wp2_with fail
 refine (Ygb.calls s false _ (HE.out.below HB.out) HG.out).mono ?_
 rintro e wq ⟨rfl, ⟨nd, rfl⟩⟩
 replace BK := Ya.mk (Yl BK.out nd)
 replace HB := Ya.mk (Yb HB.out nd)
 generalize World.drewN _ nd = w2 at BK HB ⊢
 obtain ⟨hc0, hc1, hc2, hc3, hc4, hc5, hc6, hc7⟩ := Yaa BK.out
 go_wp2_with fail
 clear hc0 hc1 hc2 hc3 hc4 hc5 hc6 hc7
 refine (Yab.calls k2 b1 b2 b3 b4 b5 b6 b7 b8 false _ (HE.out.below HB.out) HM.out).mono ?_
 rintro e w3 ⟨rfl, hb⟩
 replace BK := Ya.mk (Yx BK.out hb)
 replace HB := Ya.mk (HB.out.trans (hb.mono HB.out.size))
 clear hb
 go_wp2_with fail
 refine (Yph _ (HE.out.below HB.out)).mono ?_
 rintro e w4 ⟨rfl, hb⟩
 replace BK := Ya.mk (Yx BK.out hb)
 replace HB := Ya.mk (HB.out.trans (hb.mono HB.out.size))
 clear hb
 go_wp2_with fail
 go_ret
 exact ⟨rfl, HB.out⟩
set_option maxHeartbeats 8000000 in
set_option maxRecDepth 100000 in
theorem Ytt (k0 k1 k2 k3 k4 k5 : Nat) (b1 b2 : ByteArray) (b3 : Int) (b4 b5 b6 : ByteArray) (b7 b8 : Bool) (s : ByteArray) (u1 u2 : ByteArray) (u3 : Int) (u4 u5 u6 : ByteArray) (u7 u8 : Bool) (w : World) (hE : EnvOk w)
  (hf : Yia.f k0 b1 b2 b3 b4 b5 b6 b7 b8 = some false)
  (hg : Ygb.f s = some false)
  (hm : Yab.f k2 b1 b2 b3 b4 b5 b6 b7 b8 = some true)
  (hj : Yoa.f k3 b1 b2 b3 b4 b5 b6 b7 b8 s = some (u1, u2, u3, u4, u5, u6, u7, u8, 0))
  (hi : Yoa.f k4 b1 b2 b3 b4 b5 ⟨#[]⟩ b7 false s = some (u1, u2, u3, u4, u5, u6, u7, u8, 0))
  (ho : Yab.f k5 u1 u2 u3 u4 u5 u6 u7 u8 = some true) :
  Calls Tryz.prog 8 #[.agg (uc b1 b2 b3 b4 b5 b6 b7 b8), .string s] w fun e w' => e = .returned (.bool true) ∧ Below w.heap.size w w' := by
 have HE := Ya.mk hE
 have HF := Ya.mk hf
 have HG := Ya.mk hg
 have HM := Ya.mk hm
 have HJ := Ya.mk hj
 have HI := Ya.mk hi
 have HO := Ya.mk ho
 clear hE hf hg hm hj hi ho
 have hu25 := Tryz.underlying25
 have BK := Ya.mk (heap_alloc_new w (.cells (uc b1 b2 b3 b4 b5 b6 b7 b8) 25))
 have HB := Ya.mk ((Below.refl w.heap.size w).alloc (Nat.le_refl _) (.cells (uc b1 b2 b3 b4 b5 b6 b7 b8) 25))
 go_enter Tryz.func8, Tryz.ntmps8
 obtain ⟨hc0, hc1, hc2, hc3, hc4, hc5, hc6, hc7⟩ := Yaa BK.out
 go_wp2_with fail
 clear hc0 hc1 hc2 hc3 hc4 hc5 hc6 hc7
 refine (Yia.calls k0 b1 b2 b3 b4 b5 b6 b7 b8 false _ (HE.out.below HB.out) HF.out).mono ?_
 rintro e w1 ⟨rfl, hb⟩
 replace BK := Ya.mk (Yx BK.out hb)
 replace HB := Ya.mk (HB.out.trans (hb.mono HB.out.size))
 clear hb
 go_wp2_with fail
 refine (Ygb.calls s false _ (HE.out.below HB.out) HG.out).mono ?_
 rintro e wq ⟨rfl, ⟨nd, rfl⟩⟩
 replace BK := Ya.mk (Yl BK.out nd)
 replace HB := Ya.mk (Yb HB.out nd)
 generalize World.drewN _ nd = w2 at BK HB ⊢
 obtain ⟨hc0, hc1, hc2, hc3, hc4, hc5, hc6, hc7⟩ := Yaa BK.out
 go_wp2_with fail
 clear hc0 hc1 hc2 hc3 hc4 hc5 hc6 hc7
 refine (Yab.calls k2 b1 b2 b3 b4 b5 b6 b7 b8 true _ (HE.out.below HB.out) HM.out).mono ?_
 rintro e w3 ⟨rfl, hb⟩
 replace BK := Ya.mk (Yx BK.out hb)
 replace HB := Ya.mk (HB.out.trans (hb.mono HB.out.size))
 clear hb
 obtain ⟨hc0, hc1, hc2, hc3, hc4, hc5, hc6, hc7⟩ := Yaa BK.out
 go_wp2_with fail
 clear hc0 hc1 hc2 hc3 hc4 hc5 hc6 hc7
 refine (Yoa.calls k3 b1 b2 b3 b4 b5 b6 b7 b8 s u1 u2 u3 u4 u5 u6 u7 u8 0 _ (HE.out.below HB.out) HJ.out).mono ?_
 rintro e w4 ⟨rfl, hb⟩
 replace BK := Ya.mk (Yx BK.out hb)
 replace HB := Ya.mk (HB.out.trans (hb.mono HB.out.size))
 clear hb
 have HNE := Ya.mk (show w4.heap.size ≠ w.heap.size from Nat.ne_of_gt (Yje BK.out))
 replace BK := Ya.mk (Ym BK.out (.cells #[.string u1, .string u2, .int .i64 u3, .string u4, .string u5, .string u6, .bool u7, .bool u8] 25))
 have BR := Ya.mk (heap_alloc_new w4 (.cells #[.string u1, .string u2, .int .i64 u3, .string u4, .string u5, .string u6, .bool u7, .bool u8] 25))
 replace HB := Ya.mk (HB.out.alloc HB.out.size (.cells #[.string u1, .string u2, .int .i64 u3, .string u4, .string u5, .string u6, .bool u7, .bool u8] 25))
 have hcz5 := (Yf BK.out 5).trans rfl
 have hfz5 := Ye BK.out 5
 have hcz7 := (Yf BK.out 7).trans rfl
 have hfz7 := Ye BK.out 7
 go_upto_region 5 with fail
 (try simp only [Act.put, List.setIfInBounds_toArray, List.set_cons_zero, List.set_cons_succ])
 clear hcz5 hcz7 hfz5 hfz7
 replace BK := Ya.mk (Yma (Yma BK.out 7 (.bool false) rfl) 5 (.string ⟨#[]⟩) rfl)
 replace BR := Ya.mk (Yvb (Yvb BR.out (p := ⟨w.heap.size, 7, none⟩) HNE.out (.bool false)) (p := ⟨w.heap.size, 5, none⟩) HNE.out (.string ⟨#[]⟩))
 replace HB := Ya.mk (Yg (j := 5) (v := .string ⟨#[]⟩) (Yg (j := 7) (v := .bool false) HB.out (Nat.le_refl _)) (Nat.le_refl _))
 generalize (((w4.alloc (.cells #[.string u1, .string u2, .int .i64 u3, .string u4, .string u5, .string u6, .bool u7, .bool u8] 25)).setCell ⟨w.heap.size, 7, none⟩ (.bool false)).setCell ⟨w.heap.size, 5, none⟩ (.string ⟨#[]⟩)) = wS at BK BR HB ⊢
 obtain ⟨hc0, hc1, hc2, hc3, hc4, hc5, hc6, hc7⟩ := Yaa BK.out
 go_wp2_with fail
 clear hc0 hc1 hc2 hc3 hc4 hc5 hc6 hc7
 refine (Yoa.calls k4 b1 b2 b3 b4 b5 ⟨#[]⟩ b7 false s u1 u2 u3 u4 u5 u6 u7 u8 0 _ (HE.out.below HB.out) HI.out).mono ?_
 rintro e w5 ⟨rfl, hb⟩
 replace BK := Ya.mk (Yx BK.out hb)
 replace BR := Ya.mk (Yx BR.out hb)
 replace HB := Ya.mk (HB.out.trans (hb.mono HB.out.size))
 clear hb
 replace BK := Ya.mk (Ym BK.out (.cells #[.string u1, .string u2, .int .i64 u3, .string u4, .string u5, .string u6, .bool u7, .bool u8] 25))
 replace BR := Ya.mk (Ym BR.out (.cells #[.string u1, .string u2, .int .i64 u3, .string u4, .string u5, .string u6, .bool u7, .bool u8] 25))
 have BS := Ya.mk (heap_alloc_new w5 (.cells #[.string u1, .string u2, .int .i64 u3, .string u4, .string u5, .string u6, .bool u7, .bool u8] 25))
 replace HB := Ya.mk (HB.out.alloc HB.out.size (.cells #[.string u1, .string u2, .int .i64 u3, .string u4, .string u5, .string u6, .bool u7, .bool u8] 25))
 obtain ⟨hc0, hc1, hc2, hc3, hc4, hc5, hc6, hc7⟩ := Yaa BR.out
 obtain ⟨hd0, hd1, hd2, hd3, hd4, hd5, hd6, hd7⟩ := Yaa BS.out
 go_wp2_with fail
 clear hc0 hc1 hc2 hc3 hc4 hc5 hc6 hc7
 clear hd0 hd1 hd2 hd3 hd4 hd5 hd6 hd7
 refine (Yab.calls k5 u1 u2 u3 u4 u5 u6 u7 u8 true _ (HE.out.below HB.out) HO.out).mono ?_
 rintro e w6 ⟨rfl, hb⟩
 replace BK := Ya.mk (Yx BK.out hb)
 replace BR := Ya.mk (Yx BR.out hb)
 replace BS := Ya.mk (Yx BS.out hb)
 replace HB := Ya.mk (HB.out.trans (hb.mono HB.out.size))
 clear hb
 go_wp2_with fail
 refine (Yph _ (HE.out.below HB.out)).mono ?_
 rintro e w7 ⟨rfl, hb⟩
 replace BK := Ya.mk (Yx BK.out hb)
 replace BR := Ya.mk (Yx BR.out hb)
 replace BS := Ya.mk (Yx BS.out hb)
 replace HB := Ya.mk (HB.out.trans (hb.mono HB.out.size))
 clear hb
 go_wp2_with fail
 go_ret
 exact ⟨rfl, HB.out⟩
set_option maxHeartbeats 8000000 in
set_option maxRecDepth 100000 in
theorem Ybs (k0 k1 k2 k3 k4 k5 : Nat) (b1 b2 : ByteArray) (b3 : Int) (b4 b5 b6 : ByteArray) (b7 b8 : Bool) (s : ByteArray) (e : Int) (w : World) (hE : EnvOk w)
  (hf : Yia.f k0 b1 b2 b3 b4 b5 b6 b7 b8 = some false)
  (hg : Ygb.f s = some false)
  (hm : Yab.f k2 b1 b2 b3 b4 b5 b6 b7 b8 = some true)
  (hj : Yoa.f k3 b1 b2 b3 b4 b5 b6 b7 b8 s = some (⟨#[]⟩, ⟨#[]⟩, 0, ⟨#[]⟩, ⟨#[]⟩, ⟨#[]⟩, false, false, e))
  (hi : Yoa.f k4 b1 b2 b3 b4 b5 ⟨#[]⟩ b7 false s = some (⟨#[]⟩, ⟨#[]⟩, 0, ⟨#[]⟩, ⟨#[]⟩, ⟨#[]⟩, false, false, e))
  (hn : ¬ e = 0) :
  Calls Tryz.prog 8 #[.agg (uc b1 b2 b3 b4 b5 b6 b7 b8), .string s] w fun e w' => e = .returned (.bool true) ∧ Below w.heap.size w w' := by
 have HE := Ya.mk hE
 have HF := Ya.mk hf
 have HG := Ya.mk hg
 have HM := Ya.mk hm
 have HJ := Ya.mk hj
 have HI := Ya.mk hi
 have HN := Ya.mk hn
 clear hE hf hg hm hj hi hn
 have hu25 := Tryz.underlying25
 have BK := Ya.mk (heap_alloc_new w (.cells (uc b1 b2 b3 b4 b5 b6 b7 b8) 25))
 have HB := Ya.mk ((Below.refl w.heap.size w).alloc (Nat.le_refl _) (.cells (uc b1 b2 b3 b4 b5 b6 b7 b8) 25))
 go_enter Tryz.func8, Tryz.ntmps8
 obtain ⟨hc0, hc1, hc2, hc3, hc4, hc5, hc6, hc7⟩ := Yaa BK.out
 go_wp2_with fail
 clear hc0 hc1 hc2 hc3 hc4 hc5 hc6 hc7
 refine (Yia.calls k0 b1 b2 b3 b4 b5 b6 b7 b8 false _ (HE.out.below HB.out) HF.out).mono ?_
 rintro e w1 ⟨rfl, hb⟩
 replace BK := Ya.mk (Yx BK.out hb)
 replace HB := Ya.mk (HB.out.trans (hb.mono HB.out.size))
 clear hb
 go_wp2_with fail
 refine (Ygb.calls s false _ (HE.out.below HB.out) HG.out).mono ?_
 rintro e wq ⟨rfl, ⟨nd, rfl⟩⟩
 replace BK := Ya.mk (Yl BK.out nd)
 replace HB := Ya.mk (Yb HB.out nd)
 generalize World.drewN _ nd = w2 at BK HB ⊢
 obtain ⟨hc0, hc1, hc2, hc3, hc4, hc5, hc6, hc7⟩ := Yaa BK.out
 go_wp2_with fail
 clear hc0 hc1 hc2 hc3 hc4 hc5 hc6 hc7
 refine (Yab.calls k2 b1 b2 b3 b4 b5 b6 b7 b8 true _ (HE.out.below HB.out) HM.out).mono ?_
 rintro e w3 ⟨rfl, hb⟩
 replace BK := Ya.mk (Yx BK.out hb)
 replace HB := Ya.mk (HB.out.trans (hb.mono HB.out.size))
 clear hb
 obtain ⟨hc0, hc1, hc2, hc3, hc4, hc5, hc6, hc7⟩ := Yaa BK.out
 go_wp2_with fail
 clear hc0 hc1 hc2 hc3 hc4 hc5 hc6 hc7
 refine (Yoa.calls k3 b1 b2 b3 b4 b5 b6 b7 b8 s ⟨#[]⟩ ⟨#[]⟩ 0 ⟨#[]⟩ ⟨#[]⟩ ⟨#[]⟩ false false e _ (HE.out.below HB.out) HJ.out).mono ?_
 rintro e w4 ⟨rfl, hb⟩
 replace BK := Ya.mk (Yx BK.out hb)
 replace HB := Ya.mk (HB.out.trans (hb.mono HB.out.size))
 clear hb
 have HNE := Ya.mk (show w4.heap.size ≠ w.heap.size from Nat.ne_of_gt (Yje BK.out))
 replace BK := Ya.mk (Ym BK.out (.cells #[.string ⟨#[]⟩, .string ⟨#[]⟩, .int .i64 0, .string ⟨#[]⟩, .string ⟨#[]⟩, .string ⟨#[]⟩, .bool false, .bool false] 25))
 have BR := Ya.mk (heap_alloc_new w4 (.cells #[.string ⟨#[]⟩, .string ⟨#[]⟩, .int .i64 0, .string ⟨#[]⟩, .string ⟨#[]⟩, .string ⟨#[]⟩, .bool false, .bool false] 25))
 replace HB := Ya.mk (HB.out.alloc HB.out.size (.cells #[.string ⟨#[]⟩, .string ⟨#[]⟩, .int .i64 0, .string ⟨#[]⟩, .string ⟨#[]⟩, .string ⟨#[]⟩, .bool false, .bool false] 25))
 have hcz5 := (Yf BK.out 5).trans rfl
 have hfz5 := Ye BK.out 5
 have hcz7 := (Yf BK.out 7).trans rfl
 have hfz7 := Ye BK.out 7
 go_upto_region 5 with fail
 (try simp only [Act.put, List.setIfInBounds_toArray, List.set_cons_zero, List.set_cons_succ])
 clear hcz5 hcz7 hfz5 hfz7
 replace BK := Ya.mk (Yma (Yma BK.out 7 (.bool false) rfl) 5 (.string ⟨#[]⟩) rfl)
 replace BR := Ya.mk (Yvb (Yvb BR.out (p := ⟨w.heap.size, 7, none⟩) HNE.out (.bool false)) (p := ⟨w.heap.size, 5, none⟩) HNE.out (.string ⟨#[]⟩))
 replace HB := Ya.mk (Yg (j := 5) (v := .string ⟨#[]⟩) (Yg (j := 7) (v := .bool false) HB.out (Nat.le_refl _)) (Nat.le_refl _))
 generalize (((w4.alloc (.cells #[.string ⟨#[]⟩, .string ⟨#[]⟩, .int .i64 0, .string ⟨#[]⟩, .string ⟨#[]⟩, .string ⟨#[]⟩, .bool false, .bool false] 25)).setCell ⟨w.heap.size, 7, none⟩ (.bool false)).setCell ⟨w.heap.size, 5, none⟩ (.string ⟨#[]⟩)) = wS at BK BR HB ⊢
 obtain ⟨hc0, hc1, hc2, hc3, hc4, hc5, hc6, hc7⟩ := Yaa BK.out
 go_wp2_with fail
 clear hc0 hc1 hc2 hc3 hc4 hc5 hc6 hc7
 refine (Yoa.calls k4 b1 b2 b3 b4 b5 ⟨#[]⟩ b7 false s ⟨#[]⟩ ⟨#[]⟩ 0 ⟨#[]⟩ ⟨#[]⟩ ⟨#[]⟩ false false e _ (HE.out.below HB.out) HI.out).mono ?_
 rintro e w5 ⟨rfl, hb⟩
 replace BK := Ya.mk (Yx BK.out hb)
 replace BR := Ya.mk (Yx BR.out hb)
 replace HB := Ya.mk (HB.out.trans (hb.mono HB.out.size))
 clear hb
 replace BK := Ya.mk (Ym BK.out (.cells #[.string ⟨#[]⟩, .string ⟨#[]⟩, .int .i64 0, .string ⟨#[]⟩, .string ⟨#[]⟩, .string ⟨#[]⟩, .bool false, .bool false] 25))
 replace BR := Ya.mk (Ym BR.out (.cells #[.string ⟨#[]⟩, .string ⟨#[]⟩, .int .i64 0, .string ⟨#[]⟩, .string ⟨#[]⟩, .string ⟨#[]⟩, .bool false, .bool false] 25))
 have BS := Ya.mk (heap_alloc_new w5 (.cells #[.string ⟨#[]⟩, .string ⟨#[]⟩, .int .i64 0, .string ⟨#[]⟩, .string ⟨#[]⟩, .string ⟨#[]⟩, .bool false, .bool false] 25))
 replace HB := Ya.mk (HB.out.alloc HB.out.size (.cells #[.string ⟨#[]⟩, .string ⟨#[]⟩, .int .i64 0, .string ⟨#[]⟩, .string ⟨#[]⟩, .string ⟨#[]⟩, .bool false, .bool false] 25))
 obtain ⟨hc0, hc1, hc2, hc3, hc4, hc5, hc6, hc7⟩ := Yaa BR.out
 obtain ⟨hd0, hd1, hd2, hd3, hd4, hd5, hd6, hd7⟩ := Yaa BS.out
 have hee : (e == e) = true := beq_self_eq_true _
 have he1 : (e != 0) = true := bne_iff_ne.2 HN.out
 have he2 : (e == 0) = false := beq_eq_false_iff_ne.2 HN.out
 have he3 : decide (e = 0) = false := decide_eq_false HN.out
 have he4 : decide (e = e) = true := decide_eq_true rfl
 go_wp2_with fail
 clear hc0 hc1 hc2 hc3 hc4 hc5 hc6 hc7
 clear hd0 hd1 hd2 hd3 hd4 hd5 hd6 hd7
 refine (Yph _ (HE.out.below HB.out)).mono ?_
 rintro e w6 ⟨rfl, hb⟩
 replace BK := Ya.mk (Yx BK.out hb)
 replace BR := Ya.mk (Yx BR.out hb)
 replace BS := Ya.mk (Yx BS.out hb)
 replace HB := Ya.mk (HB.out.trans (hb.mono HB.out.size))
 clear hb
 go_wp2_with fail
 go_ret
 exact ⟨rfl, HB.out⟩
theorem joinMay_walk (b1 b2 : ByteArray) (b3 : Int) (b4 b5 b6 : ByteArray) (b7 b8 : Bool) (s : ByteArray) (w : World) (hE : EnvOk w) (hr : Room b1 b2 b3 b4 b5 b6) :
  Calls Tryz.prog 8 #[.agg (uc b1 b2 b3 b4 b5 b6 b7 b8), .string s] w fun e w' => e = .returned (.bool true) ∧ Below w.heap.size w w' := by
 obtain ⟨k0, h0⟩ := far_f (u7 := b7) (u8 := b8) hr
 have hf := h0 k0 (Nat.le_refl _)
 have hg : Ygb.f s = some (decide ((s.size : Int) > 2200)) := rfl
 cases hfar : (decide ((b1.size : Int) > 2200) || decide (((Yfe b1 b2 b3 b4 b5 b6 b7 b8).size : Int) > 2200)) with
 | true =>
  rw [hfar] at hf
  exact Yes k0 0 0 b1 b2 b3 b4 b5 b6 b7 b8 s w hE hf
 | false =>
  rw [hfar] at hf
  rw [Bool.or_eq_false_iff, decide_eq_false_iff_not, decide_eq_false_iff_not] at hfar
  cases hlong : decide ((s.size : Int) > 2200) with
  | true =>
   rw [hlong] at hg
   exact Yks k0 0 0 b1 b2 b3 b4 b5 b6 b7 b8 s w hE hf hg
  | false =>
   rw [hlong] at hg
   rw [decide_eq_false_iff_not] at hlong
   obtain ⟨k2, h2⟩ := Yqj (u7 := b7) (u8 := b8) hr Zl
   have hm := h2 k2 (Nat.le_refl _)
   cases hmay : mayB b1 b2 b3 b4 b5 b6 b7 b8 with
   | false =>
    rw [hmay] at hm
    exact Yyr k0 0 k2 b1 b2 b3 b4 b5 b6 b7 b8 s w hE hf hg hm
   | true =>
    rw [hmay] at hm
    obtain ⟨hmb, heq⟩ := join_bare hmay s.data.toList
    obtain ⟨k3, h3⟩ := join_f (b6 := b7) (b7 := b8) hr Zl s Zl
    obtain ⟨sch, host, path, query, frag, rfl, rfl, rfl, rfl, rfl, hc⟩ := Yfh hmay
    have hrb := Yel (Ymj hc)
    have hzb := (Ymj hc).size
    rw [← Ysh _ _ _ _ _ _ _ _ hc.p0] at hzb
    obtain ⟨k4, h4⟩ := join_f (b6 := b7) (b7 := false) hrb Zl s Zl
    have g3 := h3 k3 (Nat.le_refl _)
    have g4 := h4 k4 (Nat.le_refl _)
    have he : ofL [] = (⟨#[]⟩ : ByteArray) := rfl
    rw [he] at g4
    rw [heq] at g4
    have hgood := join_good hmay s.data.toList
    simp only at g3 g4
    generalize Ywk (ofL sch) (ofL host) b3 (ofL path) (ofL query) (ofL frag) b7 b8 s.data.toList = r at g3 g4 hgood
    obtain ⟨r1, r2, r3, r4, r5, r6, r7, r8, r9⟩ := r
    rcases hgood with ⟨hne, hz⟩ | ⟨h9, hok⟩
    ·simp only at hne hz
     simp only [Ytb, Prod.mk.injEq] at hz
     obtain ⟨rfl, rfl, rfl, rfl, rfl, rfl, rfl, rfl, _⟩ := hz
     exact Ybs k0 0 k2 k3 k4 0 _ _ b3 _ _ _ b7 b8 s r9 w hE hf hg hm g3 g4 hne
    ·simp only at h9 hok
     subst h9
     obtain ⟨sch1, host1, path1, query1, frag1, rfl, rfl, rfl, rfl, rfl, hc1⟩ := Yfh hok
     have hz1 := hc1.size
     rw [← Ysh _ _ _ _ _ _ _ _ hc1.p0] at hz1
     obtain ⟨k5, h5⟩ := Yqj (u7 := r7) (u8 := r8) (Yel hc1) Zl
     have g5 := h5 k5 (Nat.le_refl _)
     rw [hok] at g5
     exact Ytt k0 0 k2 k3 k4 k5 _ _ b3 _ _ _ b7 b8 s _ _ r3 _ _ _ r7 r8 w hE hf hg hm g3 g4 g5
end Go.Proofs.YtnmglnglbdpjjaaGreatDoor.X
