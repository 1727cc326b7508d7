/- JoinKeyed: what a call of it does. -/
import Derived.Test.YtnmglnglbdpjjaaGreatDoorUjWords
import Derived.Test.YtnmglnglbdpjjaaGreatDoorUjJq
import Derived.Test.YtnmglnglbdpjjaaGreatDoorUjRow
namespace Go.Proofs.YtnmglnglbdpjjaaGreatDoor.X
open Go.RowKit Go.Lib Go.Shelf Go.Yw.PrintWords Go.Yw.PrintLast Go.Yw.PrintMore
set_option linter.unusedVariables false
set_option linter.unusedSimpArgs false
attribute [local go_sem high] Yvq
set_option maxHeartbeats 8000000 in
set_option maxRecDepth 100000 in
theorem Ydp (k : Nat) (u1 u2 : ByteArray) (u3 : Int) (u4 u5 u6 : ByteArray) (u7 u8 : Bool) (w : World) (hE : EnvOk w)
  (hf : Yia.f k u1 u2 u3 u4 u5 u6 u7 u8 = some true) :
  Calls Tryz.prog 9 #[.agg (uc u1 u2 u3 u4 u5 u6 u7 u8)] w fun e w' => e = .returned (.bool true) ∧ Below w.heap.size w w' := by
 have HE := Ya.mk hE
 have HF := Ya.mk hf
 clear hE hf
 have hu25 := Tryz.underlying25
 have BK := Ya.mk (heap_alloc_new w (.cells (uc u1 u2 u3 u4 u5 u6 u7 u8) 25))
 have HB := Ya.mk ((Below.refl w.heap.size w).alloc (Nat.le_refl _) (.cells (uc u1 u2 u3 u4 u5 u6 u7 u8) 25))
 go_enter Tryz.func9, Tryz.ntmps9
 obtain ⟨hc0, hc1, hc2, hc3, hc4, hc5, hc6, hc7⟩ := Yaa BK.out
 go_wp2_with fail
 clear hc0 hc1 hc2 hc3 hc4 hc5 hc6 hc7
 refine (Yia.calls k u1 u2 u3 u4 u5 u6 u7 u8 true _ (HE.out.below HB.out) HF.out).mono ?_
 rintro e w1 ⟨rfl, hb⟩
 replace BK := Ya.mk (Yx BK.out hb)
 replace HB := Ya.mk (HB.out.trans (hb.mono HB.out.size))
 clear hb
 go_wp2_with fail
 refine (Yph _ (HE.out.below HB.out)).mono ?_
 rintro e w2 ⟨rfl, hb⟩
 replace BK := Ya.mk (Yx BK.out hb)
 replace HB := Ya.mk (HB.out.trans (hb.mono HB.out.size))
 clear hb
 go_wp2_with fail
 go_ret
 exact ⟨rfl, HB.out⟩
set_option maxHeartbeats 8000000 in
set_option maxRecDepth 100000 in
theorem Yhp (k j : Nat) (u1 u2 : ByteArray) (u3 : Int) (u4 u5 u6 : ByteArray) (u7 u8 : Bool) (w : World) (hE : EnvOk w)
  (hf : Yia.f k u1 u2 u3 u4 u5 u6 u7 u8 = some false)
  (hm : Yab.f j u1 u2 u3 u4 u5 u6 u7 u8 = some false) :
  Calls Tryz.prog 9 #[.agg (uc u1 u2 u3 u4 u5 u6 u7 u8)] w fun e w' => e = .returned (.bool true) ∧ Below w.heap.size w w' := by
 have HE := Ya.mk hE
 have HF := Ya.mk hf
 have HM := Ya.mk hm
 clear hE hf hm
 have hu25 := Tryz.underlying25
 have BK := Ya.mk (heap_alloc_new w (.cells (uc u1 u2 u3 u4 u5 u6 u7 u8) 25))
 have HB := Ya.mk ((Below.refl w.heap.size w).alloc (Nat.le_refl _) (.cells (uc u1 u2 u3 u4 u5 u6 u7 u8) 25))
 go_enter Tryz.func9, Tryz.ntmps9
 obtain ⟨hc0, hc1, hc2, hc3, hc4, hc5, hc6, hc7⟩ := Yaa BK.out
 go_wp2_with fail
 clear hc0 hc1 hc2 hc3 hc4 hc5 hc6 hc7
 refine (Yia.calls k u1 u2 u3 u4 u5 u6 u7 u8 false _ (HE.out.below HB.out) HF.out).mono ?_
 rintro e w1 ⟨rfl, hb⟩
 replace BK := Ya.mk (Yx BK.out hb)
 replace HB := Ya.mk (HB.out.trans (hb.mono HB.out.size))
 clear hb
 obtain ⟨hc0, hc1, hc2, hc3, hc4, hc5, hc6, hc7⟩ := Yaa BK.out
 go_wp2_with fail
 clear hc0 hc1 hc2 hc3 hc4 hc5 hc6 hc7
 refine (Yab.calls j u1 u2 u3 u4 u5 u6 u7 u8 false _ (HE.out.below HB.out) HM.out).mono ?_
 rintro e w2 ⟨rfl, hb⟩
 replace BK := Ya.mk (Yx BK.out hb)
 replace HB := Ya.mk (HB.out.trans (hb.mono HB.out.size))
 clear hb
 go_wp2_with fail
 refine (Yph _ (HE.out.below HB.out)).mono ?_
 rintro e w3 ⟨rfl, hb⟩
 replace BK := Ya.mk (Yx BK.out hb)
 replace HB := Ya.mk (HB.out.trans (hb.mono HB.out.size))
 clear hb
 go_wp2_with fail
 go_ret
 exact ⟨rfl, HB.out⟩
set_option maxHeartbeats 8000000 in
set_option maxRecDepth 100000 in
theorem Yqo (k j i l : Nat) (u1 u2 : ByteArray) (u3 : Int) (u4 u5 u6 : ByteArray) (u7 u8 : Bool) (t : ByteArray) (w : World) (hE : EnvOk w)
  (hf : Yia.f k u1 u2 u3 u4 u5 u6 u7 u8 = some false)
  (hm : Yab.f j u1 u2 u3 u4 u5 u6 u7 u8 = some true)
  (hk : Yte.f i u1 u2 u3 u4 u5 u6 u7 u8 = some t)
  (hp : Yhc.f t = some (u1, u2, u3, u4, u5, ⟨#[]⟩, u7, false, 0))
  (hv : Yte.f i u1 u2 u3 u4 u5 ⟨#[]⟩ u7 false = some t)
  (hs : Ydi.f l u1 u2 u3 u4 u5 u6 u7 u8 u1 u2 u3 u4 u5 ⟨#[]⟩ u7 false = some true) :
  Calls Tryz.prog 9 #[.agg (uc u1 u2 u3 u4 u5 u6 u7 u8)] w fun e w' => e = .returned (.bool true) ∧ Below w.heap.size w w' := by
 have HE := Ya.mk hE
 have HF := Ya.mk hf
 have HM := Ya.mk hm
 have HK := Ya.mk hk
 have HP := Ya.mk hp
 have HV := Ya.mk hv
 have HS := Ya.mk hs
 clear hE hf hm hk hp hv hs
 have hu25 := Tryz.underlying25
 have BK := Ya.mk (heap_alloc_new w (.cells (uc u1 u2 u3 u4 u5 u6 u7 u8) 25))
 have HB := Ya.mk ((Below.refl w.heap.size w).alloc (Nat.le_refl _) (.cells (uc u1 u2 u3 u4 u5 u6 u7 u8) 25))
 go_enter Tryz.func9, Tryz.ntmps9
 obtain ⟨hc0, hc1, hc2, hc3, hc4, hc5, hc6, hc7⟩ := Yaa BK.out
 go_wp2_with fail
 clear hc0 hc1 hc2 hc3 hc4 hc5 hc6 hc7
 refine (Yia.calls k u1 u2 u3 u4 u5 u6 u7 u8 false _ (HE.out.below HB.out) HF.out).mono ?_
 rintro e w1 ⟨rfl, hb⟩
 replace BK := Ya.mk (Yx BK.out hb)
 replace HB := Ya.mk (HB.out.trans (hb.mono HB.out.size))
 clear hb
 obtain ⟨hc0, hc1, hc2, hc3, hc4, hc5, hc6, hc7⟩ := Yaa BK.out
 go_wp2_with fail
 clear hc0 hc1 hc2 hc3 hc4 hc5 hc6 hc7
 refine (Yab.calls j u1 u2 u3 u4 u5 u6 u7 u8 true _ (HE.out.below HB.out) HM.out).mono ?_
 rintro e w2 ⟨rfl, hb⟩
 replace BK := Ya.mk (Yx BK.out hb)
 replace HB := Ya.mk (HB.out.trans (hb.mono HB.out.size))
 clear hb
 obtain ⟨hc0, hc1, hc2, hc3, hc4, hc5, hc6, hc7⟩ := Yaa BK.out
 go_wp2_with fail
 clear hc0 hc1 hc2 hc3 hc4 hc5 hc6 hc7
 refine (Yte.calls i u1 u2 u3 u4 u5 u6 u7 u8 t _ (HE.out.below HB.out) HK.out).mono ?_
 rintro e w3 ⟨rfl, hb⟩
 replace BK := Ya.mk (Yx BK.out hb)
 replace HB := Ya.mk (HB.out.trans (hb.mono HB.out.size))
 clear hb
 go_wp2_with fail
 refine (Yhc.calls t u1 u2 u3 u4 u5 ⟨#[]⟩ u7 false 0 _ (HE.out.below HB.out) HP.out).mono ?_
 rintro e w4 ⟨rfl, hb⟩
 replace BK := Ya.mk (Yx BK.out hb)
 replace HB := Ya.mk (HB.out.trans (hb.mono HB.out.size))
 clear hb
 replace BK := Ya.mk (Ym BK.out (.cells #[.string u1, .string u2, .int .i64 u3, .string u4, .string u5, .string ⟨#[]⟩, .bool u7, .bool false] 25))
 have BV := Ya.mk (heap_alloc_new w4 (.cells #[.string u1, .string u2, .int .i64 u3, .string u4, .string u5, .string ⟨#[]⟩, .bool u7, .bool false] 25))
 replace HB := Ya.mk (HB.out.alloc HB.out.size (.cells #[.string u1, .string u2, .int .i64 u3, .string u4, .string u5, .string ⟨#[]⟩, .bool u7, .bool false] 25))
 obtain ⟨hc0, hc1, hc2, hc3, hc4, hc5, hc6, hc7⟩ := Yaa BV.out
 have hkk : (t.toList == t.toList) = true := beq_self_eq_true _
 go_wp2_with fail
 clear hc0 hc1 hc2 hc3 hc4 hc5 hc6 hc7
 refine (Yte.calls i u1 u2 u3 u4 u5 ⟨#[]⟩ u7 false t _ (HE.out.below HB.out) HV.out).mono ?_
 rintro e w5 ⟨rfl, hb⟩
 replace BK := Ya.mk (Yx BK.out hb)
 replace BV := Ya.mk (Yx BV.out hb)
 replace HB := Ya.mk (HB.out.trans (hb.mono HB.out.size))
 clear hb
 obtain ⟨hc0, hc1, hc2, hc3, hc4, hc5, hc6, hc7⟩ := Yaa BK.out
 obtain ⟨hd0, hd1, hd2, hd3, hd4, hd5, hd6, hd7⟩ := Yaa BV.out
 go_wp2_with fail
 clear hc0 hc1 hc2 hc3 hc4 hc5 hc6 hc7
 clear hd0 hd1 hd2 hd3 hd4 hd5 hd6 hd7
 refine (Ydi.calls l u1 u2 u3 u4 u5 u6 u7 u8 u1 u2 u3 u4 u5 ⟨#[]⟩ u7 false true _ (HE.out.below HB.out) HS.out).mono ?_
 rintro e w6 ⟨rfl, hb⟩
 replace BK := Ya.mk (Yx BK.out hb)
 replace BV := Ya.mk (Yx BV.out hb)
 replace HB := Ya.mk (HB.out.trans (hb.mono HB.out.size))
 clear hb
 obtain ⟨hc0, hc1, hc2, hc3, hc4, hc5, hc6, hc7⟩ := Yaa BV.out
 go_wp2_with fail
 clear hc0 hc1 hc2 hc3 hc4 hc5 hc6 hc7
 refine (Yph _ (HE.out.below HB.out)).mono ?_
 rintro e w7 ⟨rfl, hb⟩
 replace BK := Ya.mk (Yx BK.out hb)
 replace BV := Ya.mk (Yx BV.out hb)
 replace HB := Ya.mk (HB.out.trans (hb.mono HB.out.size))
 clear hb
 go_wp2_with fail
 go_ret
 exact ⟨rfl, HB.out⟩
theorem joinKeyed_walk (u1 u2 : ByteArray) (u3 : Int) (u4 u5 u6 : ByteArray) (u7 u8 : Bool) (w : World) (hE : EnvOk w) (hr : Room u1 u2 u3 u4 u5 u6) :
  Calls Tryz.prog 9 #[.agg (uc u1 u2 u3 u4 u5 u6 u7 u8)] w fun e w' => e = .returned (.bool true) ∧ Below w.heap.size w w' := by
 obtain ⟨k, hk⟩ := far_f (u7 := u7) (u8 := u8) hr
 have hf := hk k (Nat.le_refl _)
 by_cases hfar : (decide ((u1.size : Int) > 2200) || decide (((Yfe u1 u2 u3 u4 u5 u6 u7 u8).size : Int) > 2200)) = true
 ·rw [hfar] at hf
  exact Ydp k u1 u2 u3 u4 u5 u6 u7 u8 w hE hf
 ·rw [Bool.not_eq_true] at hfar
  rw [hfar] at hf
  rw [Bool.or_eq_false_iff, decide_eq_false_iff_not, decide_eq_false_iff_not] at hfar
  obtain ⟨j, hj⟩ := Yqj (u7 := u7) (u8 := u8) hr Zl
  have hm := hj j (Nat.le_refl _)
  cases hmay : mayB u1 u2 u3 u4 u5 u6 u7 u8 with
  | false =>
   rw [hmay] at hm
   exact Yhp k j u1 u2 u3 u4 u5 u6 u7 u8 w hE hf hm
  | true =>
   rw [hmay] at hm
   obtain ⟨sch, host, path, query, frag, rfl, rfl, rfl, rfl, rfl, hc⟩ := Yfh hmay
   have hb := Ymj hc
   have hp := round hb
   rw [← Ysh _ _ _ _ _ _ _ _ hc.p0] at hp
   have he : ofL [] = (⟨#[]⟩ : ByteArray) := rfl
   rw [he] at hp
   obtain ⟨i1, hi1⟩ := key_f (u7 := u7) (u8 := u8) hr
   obtain ⟨i2, hi2⟩ := key_f (u7 := u7) (u8 := false) (Yel hb)
   have hz := hb.size
   rw [← Ysh _ _ _ _ _ _ _ _ hc.p0, he] at hz
   have hP : Yhc.f (Yfe (ofL sch) (ofL host) u3 (ofL path) (ofL query) ⟨#[]⟩ u7 false) = some (ofL sch, ofL host, u3, ofL path, ofL query, ⟨#[]⟩, u7, false, 0) := by
    unfold Yhc.f
    rw [if_pos Zl, hp]
   have hS : Ydi.f (i1 + i2) (ofL sch) (ofL host) u3 (ofL path) (ofL query) (ofL frag) u7 u8 (ofL sch) (ofL host) u3 (ofL path) (ofL query) ⟨#[]⟩ u7 false = some true := by
    have h1 := hi1 (i1 + i2) Zl
    have h2 := hi2 (i1 + i2) Zl
    rw [he] at h2
    unfold Ydi.f
    simp only at h1 h2
    rw [h1, h2]
    simp only [Option.bind_some, beq_self_eq_true]
   exact Yqo k j (i1 + i2) (i1 + i2) _ _ u3 _ _ _ u7 u8 _ w hE hf hm (hi1 (i1 + i2) Zl) hP (by have := hi2 (i1 + i2) Zl; rw [he] at this; exact this) hS
end Go.Proofs.YtnmglnglbdpjjaaGreatDoor.X
