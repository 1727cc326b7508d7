import Derived.Test.YtnmglnglbdpjjaaGreatDoorUfFr
import Derived.Test.YtnmglnglbdpjjaaGreatDoorUfRow
set_option linter.all false
namespace Go.Proofs.YtnmglnglbdpjjaaGreatDoor.X
open Go.RowKit Go.Lib Go.Shelf Go.Yw.PrintWords Go.Yw.PrintLast Go.Yw.PrintMore
set_option maxHeartbeats 8000000
set_option maxRecDepth 100000
attribute [local go_sem high] eqSame
theorem Yqs (b1 b2 : Y) (b3 : Int) (b4 b5 b6 : Y) (b7 b8 : Bool) (A1 : Option Addr) (c1 : Nat) (l1 : List Y) (y1 y2 : Y) (y3 : Int) (y4 y5 y6 : Y) (y7 y8 : Bool) (ye : Int) (w : World) (hE : EnvOk w)
  (ha : Room b1 b2 b3 b4 b5 b6)
  (hd : (Ysd b1 b2 b3 b4 b5 b6 b7 b8).size ≤ 1000000)
  (hl : ∀ x ∈ l1, x.size ≤ 1000000)
  (hn : l1.length ≤ 1000)
  (hr1 : Kd.C Kd.string w A1 l1.length l1)
  (cB : l1.length ≤ c1)
  (hres : Ywg (b1, b2, b3, b4, b5, b6, b7, b8) l1 = (y1, y2, y3, y4, y5, y6, y7, y8, ye)) :
  Calls Tryz.prog 38 #[.agg (uc b1 b2 b3 b4 b5 b6 b7 b8), .slice A1 l1.length c1] w fun e w' => e = .returned (.tuple #[.agg (uc y1 y2 y3 y4 y5 y6 y7 y8), .int .i64 ye]) ∧ Below w.heap.size w w' :=
 Ydq b1 b2 b3 b4 b5 b6 b7 b8 A1 c1 l1 _ w hE ha hd hl hn hr1 cB hres
theorem Yat (b1 b2 : Y) (b3 : Int) (b4 b5 b6 : Y) (b7 b8 : Bool) (A1 : Option Addr) (c1 : Nat) (l1 : List Y) (y1 y2 : Y) (y3 : Int) (y4 y5 y6 : Y) (y7 y8 : Bool) (ye : Int) (w : World) (hE : EnvOk w)
  (ha : Room b1 b2 b3 b4 b5 b6)
  (hd : (Ysd b1 b2 b3 b4 b5 b6 b7 b8).size ≤ 1000000)
  (hl : ∀ x ∈ l1, x.size ≤ 1000000)
  (hn : l1.length ≤ 1000)
  (hr1 : Kd.C Kd.string w A1 l1.length l1)
  (cB : l1.length ≤ c1)
  (hres : Ywg (b1, b2, b3, b4, b5, b6, b7, b8) l1 = (y1, y2, y3, y4, y5, y6, y7, y8, ye)) :
  Calls Tryz.prog 39 #[.agg (uc b1 b2 b3 b4 b5 b6 b7 b8), .slice A1 l1.length c1] w fun e w' => e = .returned (.tuple #[.agg (uc y1 y2 y3 y4 y5 y6 y7 y8), .int .i64 ye]) ∧ Below w.heap.size w w' :=
 Yxp b1 b2 b3 b4 b5 b6 b7 b8 A1 c1 l1 _ w hE ha hd hl hn hr1 cB hres
theorem Ysn (b1 b2 : Y) (b3 : Int) (b4 b5 b6 : Y) (b7 b8 : Bool) (A1 : Option Addr) (c1 : Nat) (l1 : List Y) (k0 : Nat) (w : World) (hE : EnvOk w)
  (hf : Ynd.f k0 b1 b2 b3 b4 b5 b6 b7 b8 = some true) :
  Calls Tryz.prog 10 #[.agg (uc b1 b2 b3 b4 b5 b6 b7 b8), .slice A1 l1.length c1] w fun e w' => e = .returned (.bool true) ∧ Below w.heap.size w w' := by
 have HE := Ya.mk hE
 have HF := Ya.mk hf
 clear hE hf
 have bQ := Tryz.underlying25
 have BK := Ya.mk (heap_alloc_new w (.cells (uc b1 b2 b3 b4 b5 b6 b7 b8) 25))
 have HB := Ya.mk ((Below.refl w.heap.size w).alloc (Kw _) (.cells (uc b1 b2 b3 b4 b5 b6 b7 b8) 25))
 go_enter Tryz.func10, Tryz.ntmps10
 obtain ⟨cQ, cB, cN, cX, cU, cT, cY, cR⟩ := Yea BK.out
 go_wp2_with fail
 clear cQ cB cN cX cU cT cY cR
 refine (Ynd.calls k0 b1 b2 b3 b4 b5 b6 b7 b8 true _ (HE.out.below HB.out) HF.out).mono ?_
 rintro e w1 ⟨rfl, hb⟩
 replace BK := Ya.mk (Yla BK.out hb)
 replace HB := Ya.mk (HB.out.trans (hb.mono HB.out.size))
 clear hb
 go_wp2_with fail
 refine (Yyr _ (HE.out.below HB.out)).mono ?_
 rintro e w2 ⟨rfl, hb⟩
 replace BK := Ya.mk (Yla BK.out hb)
 replace HB := Ya.mk (HB.out.trans (hb.mono HB.out.size))
 clear hb
 go_wp2_with fail
 go_ret
 exact ⟨rfl, HB.out⟩
theorem Ypn (b1 b2 : Y) (b3 : Int) (b4 b5 b6 : Y) (b7 b8 : Bool) (A1 : Option Addr) (c1 : Nat) (l1 : List Y) (k0 : Nat) (w : World) (hE : EnvOk w)
  (hf : Ynd.f k0 b1 b2 b3 b4 b5 b6 b7 b8 = some false)
  (hn : 20 < l1.length) :
  Calls Tryz.prog 10 #[.agg (uc b1 b2 b3 b4 b5 b6 b7 b8), .slice A1 l1.length c1] w fun e w' => e = .returned (.bool true) ∧ Below w.heap.size w w' := by
 have HE := Ya.mk hE
 have HF := Ya.mk hf
 have HN := Ya.mk hn
 clear hE hf hn
 have bQ := Tryz.underlying25
 have BK := Ya.mk (heap_alloc_new w (.cells (uc b1 b2 b3 b4 b5 b6 b7 b8) 25))
 have HB := Ya.mk ((Below.refl w.heap.size w).alloc (Kw _) (.cells (uc b1 b2 b3 b4 b5 b6 b7 b8) 25))
 go_enter Tryz.func10, Tryz.ntmps10
 obtain ⟨cQ, cB, cN, cX, cU, cT, cY, cR⟩ := Yea BK.out
 go_wp2_with fail
 clear cQ cB cN cX cU cT cY cR
 refine (Ynd.calls k0 b1 b2 b3 b4 b5 b6 b7 b8 false _ (HE.out.below HB.out) HF.out).mono ?_
 rintro e w1 ⟨rfl, hb⟩
 replace BK := Ya.mk (Yla BK.out hb)
 replace HB := Ya.mk (HB.out.trans (hb.mono HB.out.size))
 clear hb
 have n0 : decide ((l1.length : Int) > 20) = true := Kr Zrb
 have n1 : decide (20 < (l1.length : Int)) = true := Kr Zrb
 have n2 : decide (20 < l1.length) = true := Kr Zrb
 go_wp2_with fail
 refine (Yyr _ (HE.out.below HB.out)).mono ?_
 rintro e w2 ⟨rfl, hb⟩
 replace BK := Ya.mk (Yla BK.out hb)
 replace HB := Ya.mk (HB.out.trans (hb.mono HB.out.size))
 clear hb
 go_wp2_with fail
 go_ret
 exact ⟨rfl, HB.out⟩
theorem Ybn (b1 b2 : Y) (b3 : Int) (b4 b5 b6 : Y) (b7 b8 : Bool) (A1 : Option Addr) (c1 : Nat) (l1 : List Y) (k0 : Nat) (y1 y2 : Y) (y3 : Int) (y4 y5 y6 : Y) (y7 y8 : Bool) (ye : Int) (w : World) (hE : EnvOk w)
  (hf : Ynd.f k0 b1 b2 b3 b4 b5 b6 b7 b8 = some false)
  (hn : l1.length ≤ 20)
  (ha : Room b1 b2 b3 b4 b5 b6)
  (hd : (Ysd b1 b2 b3 b4 b5 b6 b7 b8).size ≤ 1000000)
  (hr1 : Kd.C Kd.string w A1 l1.length l1)
  (cB : l1.length ≤ c1)
  (hres : Ywg (b1, b2, b3, b4, b5, b6, b7, b8) l1 = (y1, y2, y3, y4, y5, y6, y7, y8, ye)) :
  Calls Tryz.prog 10 #[.agg (uc b1 b2 b3 b4 b5 b6 b7 b8), .slice A1 l1.length c1] w fun e w' => e = .returned (.bool true) ∧ Below w.heap.size w w' := by
 have HE := Ya.mk hE
 have HF := Ya.mk hf
 have HN := Ya.mk hn
 have HA := Ya.mk ha
 have HD := Ya.mk hd
 have uU := Ya.mk hr1
 have HC1 := Ya.mk cB
 have HRES := Ya.mk hres
 clear hE hf hn ha hd hr1 cB hres
 have bQ := Tryz.underlying25
 have BK := Ya.mk (heap_alloc_new w (.cells (uc b1 b2 b3 b4 b5 b6 b7 b8) 25))
 have HB := Ya.mk ((Below.refl w.heap.size w).alloc (Kw _) (.cells (uc b1 b2 b3 b4 b5 b6 b7 b8) 25))
 go_enter Tryz.func10, Tryz.ntmps10
 obtain ⟨cQ, cB, cN, cX, cU, cT, cY, cR⟩ := Yea BK.out
 go_wp2_with fail
 clear cQ cB cN cX cU cT cY cR
 refine (Ynd.calls k0 b1 b2 b3 b4 b5 b6 b7 b8 false _ (HE.out.below HB.out) HF.out).mono ?_
 rintro e w1 ⟨rfl, hb⟩
 replace BK := Ya.mk (Yla BK.out hb)
 replace HB := Ya.mk (HB.out.trans (hb.mono HB.out.size))
 clear hb
 have n0 : decide ((l1.length : Int) > 20) = false := Ks Zrb
 have n1 : decide (20 < (l1.length : Int)) = false := Ks Zrb
 have n2 : decide (20 < l1.length) = false := Ks Zrb
 go_wp2_with fail
 clear n0 n1 n2
 go_loopg [21] l1.length (fun gk vi wx => ∃ i : Nat, vi = .int .i64 (i : Int) ∧ Ya (i + gk = l1.length) ∧ Ya (∀ j, j < i → (rdOf ByteArray.empty l1 (j : Int)).size ≤ 2200) ∧ Ya (wx.heap[w.heap.size]? = some (.cells (uc b1 b2 b3 b4 b5 b6 b7 b8) 25 (0, 0))) ∧ Ya (Below w.heap.size w wx))
 case atStart => exact ⟨0, rfl, ⟨Zk⟩, ⟨fun j hj => absurd hj Zk⟩, BK, HB⟩
 case round =>
  clear BK HB
  obtain ⟨i, rfl, HIG, HSM, BK, HB⟩ := hrel
  cases gk with
  | zero =>
   have hi : i = l1.length := by have := HIG.out; omega
   have c0 : decide ((i : Int) < (l1.length : Int)) = false := Ks Zk
   have c1_ : decide (i < l1.length) = false := Ks Zk
   have HSZ := Ya.mk (show ∀ x ∈ l1, x.size ≤ 1000000 from fun x hx => by
    obtain ⟨j, hj, he⟩ := List.getElem_of_mem hx
    have h1 := HSM.out j Zk
    have e : rdOf ByteArray.empty l1 (j : Int) = l1[j] := by
     unfold rdOf
     rw [Int.toNat_natCast, List.getD_eq_getElem?_getD, List.getElem?_eq_getElem hj]; rfl
    rw [e, he] at h1
    omega)
   clear hi
   obtain ⟨cQ, cB, cN, cX, cU, cT, cY, cR⟩ := Yea BK.out
   go_wp2_with fail
   clear cQ cB cN cX cU cT cY cR
   refine (Yqs b1 b2 b3 b4 b5 b6 b7 b8 A1 c1 l1 y1 y2 y3 y4 y5 y6 y7 y8 ye _ (HE.out.below HB.out) HA.out HD.out HSZ.out Zrb (Kd.C_below uU.out HB.out) HC1.out HRES.out).mono ?_
   rintro e w61 ⟨rfl, hb⟩
   replace BK := Ya.mk (Yla BK.out hb)
   replace HB := Ya.mk (HB.out.trans (hb.mono HB.out.size))
   clear hb
   replace BK := Ya.mk (Ym BK.out (.cells #[.string y1, .string y2, .int .i64 y3, .string y4, .string y5, .string y6, .bool y7, .bool y8] 25))
   have BR := Ya.mk (heap_alloc_new w61 (.cells #[.string y1, .string y2, .int .i64 y3, .string y4, .string y5, .string y6, .bool y7, .bool y8] 25))
   replace HB := Ya.mk (HB.out.alloc HB.out.size (.cells #[.string y1, .string y2, .int .i64 y3, .string y4, .string y5, .string y6, .bool y7, .bool y8] 25))
   obtain ⟨cQ, cB, cN, cX, cU, cT, cY, cR⟩ := Yea BK.out
   go_wp2_with fail
   clear cQ cB cN cX cU cT cY cR
   refine (Yat b1 b2 b3 b4 b5 b6 b7 b8 A1 c1 l1 y1 y2 y3 y4 y5 y6 y7 y8 ye _ (HE.out.below HB.out) HA.out HD.out HSZ.out Zrb (Kd.C_below uU.out HB.out) HC1.out HRES.out).mono ?_
   rintro e w62 ⟨rfl, hb⟩
   replace BK := Ya.mk (Yla BK.out hb)
   replace BR := Ya.mk (Yla BR.out hb)
   replace HB := Ya.mk (HB.out.trans (hb.mono HB.out.size))
   clear hb
   replace BK := Ya.mk (Ym BK.out (.cells #[.string y1, .string y2, .int .i64 y3, .string y4, .string y5, .string y6, .bool y7, .bool y8] 25))
   replace BR := Ya.mk (Ym BR.out (.cells #[.string y1, .string y2, .int .i64 y3, .string y4, .string y5, .string y6, .bool y7, .bool y8] 25))
   have BS := Ya.mk (heap_alloc_new w62 (.cells #[.string y1, .string y2, .int .i64 y3, .string y4, .string y5, .string y6, .bool y7, .bool y8] 25))
   replace HB := Ya.mk (HB.out.alloc HB.out.size (.cells #[.string y1, .string y2, .int .i64 y3, .string y4, .string y5, .string y6, .bool y7, .bool y8] 25))
   obtain ⟨cQ, cB, cN, cX, cU, cT, cY, cR⟩ := Yea BR.out
   obtain ⟨hd0, hd1, hd2, hd3, hd4, hd5, hd6, hd7⟩ := Yea BS.out
   have hee : (ye == ye) = true := beq_self_eq_true _
   have he4 : decide (ye = ye) = true := Kr rfl
   go_wp2_with fail
   clear cQ cB cN cX cU cT cY cR
   clear hd0 hd1 hd2 hd3 hd4 hd5 hd6 hd7
   refine (Yyr _ (HE.out.below HB.out)).mono ?_
   rintro e w63 ⟨rfl, hb⟩
   replace BK := Ya.mk (Yla BK.out hb)
   replace BR := Ya.mk (Yla BR.out hb)
   replace BS := Ya.mk (Yla BS.out hb)
   replace HB := Ya.mk (HB.out.trans (hb.mono HB.out.size))
   clear hb
   go_wp2_with fail
   go_ret
   exact ⟨rfl, HB.out⟩
  | succ g1 =>
   have hlt : i < l1.length := by have := HIG.out; omega
   have c0 : decide ((i : Int) < (l1.length : Int)) = true := Kr Zk
   have c1_ : decide (i < l1.length) = true := Kr hlt
   have p5 : 0 ≤ (i : Int) := by omega
   have q5 : (i : Int) < (l1.length : Int) := by omega
   obtain ⟨ad, e5, dV⟩ := Kd.at_string uU.out (i : Int) p5 q5
   cases e5
   rw [Int.toNat_natCast] at dV
   replace dV := (HB.out.cell (World.block_lt_of_cell? w _ dV)).trans dV
   obtain ⟨x9, hx9⟩ : ∃ x, rdOf ByteArray.empty l1 (i : Int) = x := ⟨_, rfl⟩
   rw [hx9] at dV
   have HX9 := Ya.mk hx9
   have hw1 : wrap64 ((i : Int) + 1) = ((i + 1 : Nat) : Int) := by have := HN.out; unfold wrap64; omega
   have q6 := Kt hlt
   clear hlt hx9
   replace p5 := Kt p5
   replace q5 := Kt q5
   have hL : ∀ s : Y, Yzb.f s = some (decide ((s.size : Int) > 2200)) := fun s => rfl
   have hl0 := hL x9
   clear hL
   by_cases tX : (x9.size : Int) > 2200
   ·rw [decide_eq_true tX] at hl0
    have HL0 := Ya.mk hl0
    clear hl0 tX
    go_wp2_with fail
    refine (Yzb.calls x9 true _ (HE.out.below HB.out) HL0.out).mono ?_
    rintro e wq ⟨rfl, ⟨nd, rfl⟩⟩
    replace HB := Ya.mk (Yb HB.out nd)
    generalize World.drewN _ nd = wq at HB ⊢
    go_wp2_with fail
    refine (Yyr _ (HE.out.below HB.out)).mono ?_
    rintro e wz ⟨rfl, hb⟩
    replace HB := Ya.mk (HB.out.trans (hb.mono HB.out.size))
    clear hb
    go_wp2_with fail
    go_ret
    exact ⟨rfl, HB.out⟩
   ·have HB9 := Ya.mk (show x9.size ≤ 2200 by omega)
    rw [decide_eq_false tX] at hl0
    have HL0 := Ya.mk hl0
    clear hl0 tX
    have HWR := Ya.mk hw1
    go_wp2_with fail
    refine (Yzb.calls x9 false _ (HE.out.below HB.out) HL0.out).mono ?_
    rintro e wq ⟨rfl, ⟨nd, rfl⟩⟩
    replace BK := Ya.mk (Yi BK.out nd)
    replace HB := Ya.mk (Yb HB.out nd)
    generalize World.drewN _ nd = wq at BK HB ⊢
    go_wp2_with fail
    go_roundg g1
    case measure => omega
    case rel => exact ⟨i + 1, by first | rfl | (simp; done) | (rw [← HWR.out]), ⟨by have := HIG.out; omega⟩, ⟨fun j hj => by
     by_cases hji : j = i
     ·subst hji; rw [HX9.out]; exact HB9.out
     ·exact HSM.out j Zk⟩, BK, HB⟩
theorem joinFollows_walk (b1 b2 : Y) (b3 : Int) (b4 b5 b6 : Y) (b7 b8 : Bool) (A1 : Option Addr) (c1 : Nat) (l1 : List Y) (w : World) (hE : EnvOk w) (hr : Room b1 b2 b3 b4 b5 b6) (hr1 : Kd.C Kd.string w A1 l1.length l1) (cB : l1.length ≤ c1) :
  Calls Tryz.prog 10 #[.agg (uc b1 b2 b3 b4 b5 b6 b7 b8), .slice A1 l1.length c1] w fun e w' => e = .returned (.bool true) ∧ Below w.heap.size w w' := by
 obtain ⟨k0, h0⟩ := far_f (u7 := b7) (u8 := b8) hr
 have hf := h0 k0 (Kw _)
 cases hfar : (decide ((b1.size : Int) > 2200) || decide (((Ysd b1 b2 b3 b4 b5 b6 b7 b8).size : Int) > 2200)) with
 | true =>
  rw [hfar] at hf
  exact Ysn b1 b2 b3 b4 b5 b6 b7 b8 A1 c1 l1 k0 w hE hf
 | false =>
  rw [hfar] at hf
  rw [Bool.or_eq_false_iff, decide_eq_false_iff_not, decide_eq_false_iff_not] at hfar
  by_cases hn : 20 < l1.length
  ·exact Ypn b1 b2 b3 b4 b5 b6 b7 b8 A1 c1 l1 k0 w hE hf hn
  ·obtain ⟨y1, y2, y3, y4, y5, y6, y7, y8, ye, hres⟩ : ∃ a b c d e f g h i, Ywg (b1, b2, b3, b4, b5, b6, b7, b8) l1 = (a, b, c, d, e, f, g, h, i) := ⟨_, _, _, _, _, _, _, _, _, rfl⟩
   exact Ybn b1 b2 b3 b4 b5 b6 b7 b8 A1 c1 l1 k0 y1 y2 y3 y4 y5 y6 y7 y8 ye w hE hf Zk hr Zk hr1 cB hres
end Go.Proofs.YtnmglnglbdpjjaaGreatDoor.X
