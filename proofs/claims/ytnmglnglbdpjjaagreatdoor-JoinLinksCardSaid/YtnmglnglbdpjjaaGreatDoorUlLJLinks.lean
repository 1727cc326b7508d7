/- JoinLinks: what a call of it does. -/
import Derived.Test.YtnmglnglbdpjjaaGreatDoorUlWords
import Derived.Test.YtnmglnglbdpjjaaGreatDoorUlJq
import Derived.Test.YtnmglnglbdpjjaaGreatDoorUlRow
import Derived.Test.YtnmglnglbdpjjaaGreatDoorUlRx
namespace Go.Proofs.YtnmglnglbdpjjaaGreatDoor.X
open Go.RowKit Go.Lib Go.Shelf Go.Yw.PrintWords Go.Yw.PrintLast Go.Yw.PrintMore
set_option linter.unusedVariables false
set_option linter.unusedSimpArgs false
set_option maxHeartbeats 8000000
set_option maxRecDepth 100000
attribute [local go_sem high] eqSame
theorem Yfp (k0 k1 : Nat) (b1 b2 : ByteArray) (b3 : Int) (b4 b5 b6 : ByteArray) (b7 b8 : Bool) (s : ByteArray) (w : World) (hE : EnvOk w)
  (hf : Ykd.f k0 b1 b2 b3 b4 b5 b6 b7 b8 = some true) :
  Calls Tryz.prog 6 #[.agg (uc b1 b2 b3 b4 b5 b6 b7 b8), .string s] w fun e w' => e = .returned (.bool true) ∧ Below w.heap.size w w' := by
 have HE := Ya.mk hE
 have HF := Ya.mk hf
 clear hE hf
 have bQ := Tryz.underlying25
 have BK := Ya.mk (heap_alloc_new w (.cells (uc b1 b2 b3 b4 b5 b6 b7 b8) 25))
 have HB := Ya.mk ((Below.refl w.heap.size w).alloc (Nat.le_refl _) (.cells (uc b1 b2 b3 b4 b5 b6 b7 b8) 25))
 go_enter Tryz.func6, Tryz.ntmps6
 obtain ⟨cW, cR, cV, dA, cZ, cY, dB, cX⟩ := Yka BK.out
 go_wp2_with fail
 clear cW cR cV dA cZ cY dB cX
 refine (Ykd.calls k0 b1 b2 b3 b4 b5 b6 b7 b8 true _ (HE.out.below HB.out) HF.out).mono ?_
 rintro e w1 ⟨rfl, hb⟩
 replace BK := Ya.mk (Yra BK.out hb)
 replace HB := Ya.mk (HB.out.trans (hb.mono HB.out.size))
 clear hb
 go_wp2_with fail
 refine (alive5 _ (HE.out.below HB.out)).mono ?_
 rintro e w2 ⟨rfl, hb⟩
 replace BK := Ya.mk (Yra BK.out hb)
 replace HB := Ya.mk (HB.out.trans (hb.mono HB.out.size))
 clear hb
 go_wp2_with fail
 go_ret
 exact ⟨rfl, HB.out⟩
theorem Yyo (k0 k1 : Nat) (b1 b2 : ByteArray) (b3 : Int) (b4 b5 b6 : ByteArray) (b7 b8 : Bool) (s : ByteArray) (w : World) (hE : EnvOk w)
  (hf : Ykd.f k0 b1 b2 b3 b4 b5 b6 b7 b8 = some false)
  (hg : Ytb.f s = some true) :
  Calls Tryz.prog 6 #[.agg (uc b1 b2 b3 b4 b5 b6 b7 b8), .string s] w fun e w' => e = .returned (.bool true) ∧ Below w.heap.size w w' := by
 have HE := Ya.mk hE
 have HF := Ya.mk hf
 have HG := Ya.mk hg
 clear hE hf hg
 have bQ := Tryz.underlying25
 have BK := Ya.mk (heap_alloc_new w (.cells (uc b1 b2 b3 b4 b5 b6 b7 b8) 25))
 have HB := Ya.mk ((Below.refl w.heap.size w).alloc (Nat.le_refl _) (.cells (uc b1 b2 b3 b4 b5 b6 b7 b8) 25))
 go_enter Tryz.func6, Tryz.ntmps6
 obtain ⟨cW, cR, cV, dA, cZ, cY, dB, cX⟩ := Yka BK.out
 go_wp2_with fail
 clear cW cR cV dA cZ cY dB cX
 refine (Ykd.calls k0 b1 b2 b3 b4 b5 b6 b7 b8 false _ (HE.out.below HB.out) HF.out).mono ?_
 rintro e w1 ⟨rfl, hb⟩
 replace BK := Ya.mk (Yra BK.out hb)
 replace HB := Ya.mk (HB.out.trans (hb.mono HB.out.size))
 clear hb
 go_wp2_with fail
 refine (Ytb.calls s true _ (HE.out.below HB.out) HG.out).mono ?_
 rintro e wq ⟨rfl, ⟨nd, rfl⟩⟩
 replace BK := Ya.mk (Yh BK.out nd)
 replace HB := Ya.mk (Yb HB.out nd)
 generalize World.drewN _ nd = w2 at BK HB ⊢
 go_wp2_with fail
 refine (alive5 _ (HE.out.below HB.out)).mono ?_
 rintro e w3 ⟨rfl, hb⟩
 replace BK := Ya.mk (Yra BK.out hb)
 replace HB := Ya.mk (HB.out.trans (hb.mono HB.out.size))
 clear hb
 go_wp2_with fail
 go_ret
 exact ⟨rfl, HB.out⟩
theorem Yro (k0 k1 : Nat) (b1 b2 : ByteArray) (b3 : Int) (b4 b5 b6 : ByteArray) (b7 b8 : Bool) (s u1 u2 : ByteArray) (u3 : Int) (u4 u5 u6 : ByteArray) (u7 u8 : Bool) (e : Int) (w : World) (hE : EnvOk w)
  (hf : Ykd.f k0 b1 b2 b3 b4 b5 b6 b7 b8 = some false)
  (hg : Ytb.f s = some false)
  (hj : Yxa.f k1 b1 b2 b3 b4 b5 b6 b7 b8 s = some (u1, u2, u3, u4, u5, u6, u7, u8, e))
  (ha : Room b1 b2 b3 b4 b5 b6)
  (hd : (Yre b1 b2 b3 b4 b5 b6 b7 b8).size ≤ 1000000)
  (hz : s.size ≤ 1000000)
  (hx : Ywp b1 b2 b3 b4 b5 b6 b7 b8 s.data.toList = (u1, u2, u3, u4, u5, u6, u7, u8, e)) :
  Calls Tryz.prog 6 #[.agg (uc b1 b2 b3 b4 b5 b6 b7 b8), .string s] w fun e w' => e = .returned (.bool true) ∧ Below w.heap.size w w' := by
 have HE := Ya.mk hE
 have HF := Ya.mk hf
 have HG := Ya.mk hg
 have HJ := Ya.mk hj
 have HA := Ya.mk ha
 have HD := Ya.mk hd
 have HZ := Ya.mk hz
 have HX := Ya.mk hx
 clear hE hf hg hj ha hd hz hx
 have bQ := Tryz.underlying25
 have BK := Ya.mk (heap_alloc_new w (.cells (uc b1 b2 b3 b4 b5 b6 b7 b8) 25))
 have HB := Ya.mk ((Below.refl w.heap.size w).alloc (Nat.le_refl _) (.cells (uc b1 b2 b3 b4 b5 b6 b7 b8) 25))
 go_enter Tryz.func6, Tryz.ntmps6
 obtain ⟨cW, cR, cV, dA, cZ, cY, dB, cX⟩ := Yka BK.out
 go_wp2_with fail
 clear cW cR cV dA cZ cY dB cX
 refine (Ykd.calls k0 b1 b2 b3 b4 b5 b6 b7 b8 false _ (HE.out.below HB.out) HF.out).mono ?_
 rintro e w1 ⟨rfl, hb⟩
 replace BK := Ya.mk (Yra BK.out hb)
 replace HB := Ya.mk (HB.out.trans (hb.mono HB.out.size))
 clear hb
 go_wp2_with fail
 refine (Ytb.calls s false _ (HE.out.below HB.out) HG.out).mono ?_
 rintro e wq ⟨rfl, ⟨nd, rfl⟩⟩
 replace BK := Ya.mk (Yh BK.out nd)
 replace HB := Ya.mk (Yb HB.out nd)
 generalize World.drewN _ nd = w2 at BK HB ⊢
 obtain ⟨cW, cR, cV, dA, cZ, cY, dB, cX⟩ := Yka BK.out
 go_wp2_with fail
 clear cW cR cV dA cZ cY dB cX
 refine (Yxa.calls k1 b1 b2 b3 b4 b5 b6 b7 b8 s u1 u2 u3 u4 u5 u6 u7 u8 e _ (HE.out.below HB.out) HJ.out).mono ?_
 rintro e w3 ⟨rfl, hb⟩
 replace BK := Ya.mk (Yra BK.out hb)
 replace HB := Ya.mk (HB.out.trans (hb.mono HB.out.size))
 clear hb
 replace BK := Ya.mk (Yn BK.out (.cells #[.string u1, .string u2, .int .i64 u3, .string u4, .string u5, .string u6, .bool u7, .bool u8] 25))
 have BR := Ya.mk (heap_alloc_new w3 (.cells #[.string u1, .string u2, .int .i64 u3, .string u4, .string u5, .string u6, .bool u7, .bool u8] 25))
 replace HB := Ya.mk (HB.out.alloc HB.out.size (.cells #[.string u1, .string u2, .int .i64 u3, .string u4, .string u5, .string u6, .bool u7, .bool u8] 25))
 obtain ⟨cW, cR, cV, dA, cZ, cY, dB, cX⟩ := Yka BK.out
 go_wp2_with fail
 clear cW cR cV dA cZ cY dB cX
 refine (Ybs HA.out HD.out s HZ.out u1 u2 u3 u4 u5 u6 u7 u8 e HX.out _ (HE.out.below HB.out)).mono ?_
 rintro e w4 ⟨rfl, hb⟩
 replace BK := Ya.mk (Yra BK.out hb)
 replace BR := Ya.mk (Yra BR.out hb)
 replace HB := Ya.mk (HB.out.trans (hb.mono HB.out.size))
 clear hb
 replace BK := Ya.mk (Yn BK.out (.cells #[.string u1, .string u2, .int .i64 u3, .string u4, .string u5, .string u6, .bool u7, .bool u8] 25))
 replace BR := Ya.mk (Yn BR.out (.cells #[.string u1, .string u2, .int .i64 u3, .string u4, .string u5, .string u6, .bool u7, .bool u8] 25))
 have BS := Ya.mk (heap_alloc_new w4 (.cells #[.string u1, .string u2, .int .i64 u3, .string u4, .string u5, .string u6, .bool u7, .bool u8] 25))
 replace HB := Ya.mk (HB.out.alloc HB.out.size (.cells #[.string u1, .string u2, .int .i64 u3, .string u4, .string u5, .string u6, .bool u7, .bool u8] 25))
 obtain ⟨cW, cR, cV, dA, cZ, cY, dB, cX⟩ := Yka BR.out
 obtain ⟨hd0, hd1, hd2, hd3, hd4, hd5, hd6, hd7⟩ := Yka BS.out
 have hee : (e == e) = true := beq_self_eq_true _
 have he4 : decide (e = e) = true := decide_eq_true rfl
 go_wp2_with fail
 clear cW cR cV dA cZ cY dB cX
 clear hd0 hd1 hd2 hd3 hd4 hd5 hd6 hd7
 refine (alive5 _ (HE.out.below HB.out)).mono ?_
 rintro e w5 ⟨rfl, hb⟩
 replace BK := Ya.mk (Yra BK.out hb)
 replace BR := Ya.mk (Yra BR.out hb)
 replace BS := Ya.mk (Yra BS.out hb)
 replace HB := Ya.mk (HB.out.trans (hb.mono HB.out.size))
 clear hb
 go_wp2_with fail
 go_ret
 exact ⟨rfl, HB.out⟩
theorem joinLinks_walk (b1 b2 : ByteArray) (b3 : Int) (b4 b5 b6 : ByteArray) (b7 b8 : Bool) (s : ByteArray) (w : World) (hE : EnvOk w) (hr : Room b1 b2 b3 b4 b5 b6) :
  Calls Tryz.prog 6 #[.agg (uc b1 b2 b3 b4 b5 b6 b7 b8), .string s] w fun e w' => e = .returned (.bool true) ∧ Below w.heap.size w w' := by
 obtain ⟨k0, h0⟩ := far_f (u7 := b7) (u8 := b8) hr
 have hf := h0 k0 (Nat.le_refl _)
 have hg : Ytb.f s = some (decide ((s.size : Int) > 2200)) := rfl
 cases hfar : (decide ((b1.size : Int) > 2200) || decide (((Yre b1 b2 b3 b4 b5 b6 b7 b8).size : Int) > 2200)) with
 | true =>
  rw [hfar] at hf
  exact Yfp k0 0 b1 b2 b3 b4 b5 b6 b7 b8 s w hE hf
 | false =>
  rw [hfar] at hf
  rw [Bool.or_eq_false_iff, decide_eq_false_iff_not, decide_eq_false_iff_not] at hfar
  cases hlong : decide ((s.size : Int) > 2200) with
  | true =>
   rw [hlong] at hg
   exact Yyo k0 0 b1 b2 b3 b4 b5 b6 b7 b8 s w hE hf hg
  | false =>
   rw [hlong] at hg
   rw [decide_eq_false_iff_not] at hlong
   obtain ⟨k1, h1⟩ := join_f (b6 := b7) (b7 := b8) hr Zk s Zk
   have g1 := h1 k1 (Nat.le_refl _)
   obtain ⟨u1, u2, u3, u4, u5, u6, u7, u8, u9, hx⟩ : ∃ a b c d e f g h i, Ywp b1 b2 b3 b4 b5 b6 b7 b8 s.data.toList = (a, b, c, d, e, f, g, h, i) := ⟨_, _, _, _, _, _, _, _, _, rfl⟩
   rw [hx] at g1
   exact Yro k0 k1 b1 b2 b3 b4 b5 b6 b7 b8 s u1 u2 u3 u4 u5 u6 u7 u8 u9 w hE hf hg g1 hr Zk Zk hx
end Go.Proofs.YtnmglnglbdpjjaaGreatDoor.X
