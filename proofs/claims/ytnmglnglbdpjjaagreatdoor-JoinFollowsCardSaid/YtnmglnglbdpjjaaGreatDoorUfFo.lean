import Derived.Test.YtnmglnglbdpjjaaGreatDoorUfRx
set_option linter.all false
namespace Go.Proofs.YtnmglnglbdpjjaaGreatDoor.X
open Go.RowKit Go.Lib Go.Shelf Go.Yw.PrintWords Go.Yw.PrintLast Go.Yw.PrintMore
def joinT (u : UrlT) (l : Y) : UrlE := Ylk u.1 u.2.1 u.2.2.1 u.2.2.2.1 u.2.2.2.2.1 u.2.2.2.2.2.1 u.2.2.2.2.2.2.1 u.2.2.2.2.2.2.2 l.data.toList
def partsE (r : UrlE) : UrlT := (r.1, r.2.1, r.2.2.1, r.2.2.2.1, r.2.2.2.2.1, r.2.2.2.2.2.1, r.2.2.2.2.2.2.1, r.2.2.2.2.2.2.2.1)
def Ywg : UrlT → List Y → UrlE
 | u, [] => (u.1, u.2.1, u.2.2.1, u.2.2.2.1, u.2.2.2.2.1, u.2.2.2.2.2.1, u.2.2.2.2.2.2.1, u.2.2.2.2.2.2.2, 0)
 | u, l :: r => if (joinT u l).2.2.2.2.2.2.2.2 = 0 then Ywg (partsE (joinT u l)) r else Ytb (joinT u l).2.2.2.2.2.2.2.2
theorem next_ok {u1 u2 : Y} {u3 : Int} {u4 u5 u6 : Y} {u7 u8 : Bool} {l : List UInt8} {v1 v2 : Y} {v3 : Int} {v4 v5 v6 : Y} {v7 v8 : Bool} (h : Ylk u1 u2 u3 u4 u5 u6 u7 u8 l = (v1, v2, v3, v4, v5, v6, v7, v8, 0)) : Room v1 v2 v3 v4 v5 v6 ∧ (Ysd v1 v2 v3 v4 v5 v6 v7 v8).size ≤ 1000000 := by
 have hm : mayB u1 u2 u3 u4 u5 u6 u7 u8 = true := by
  cases hm : mayB u1 u2 u3 u4 u5 u6 u7 u8 with
  | true => rfl
  | false =>
   unfold Ylk at h
   rw [hm, if_neg Zca] at h
   simp only [Ytb, Kea] at h
   exact absurd h.2.2.2.2.2.2.2.2 Zca
 have hg := join_good hm l
 rw [h] at hg
 rcases hg with ⟨h1, _⟩ | ⟨_, h2⟩
 ·exact absurd rfl h1
 ·simp only at h2
  obtain ⟨sch, host, path, query, frag, rfl, rfl, rfl, rfl, rfl, hc⟩ := Ynk h2
  have := hc.size
  exact ⟨Yyo hc, by rw [Ykj _ _ _ _ _ _ _ _ hc.p0]; omega⟩
theorem drop_rd (l : List Y) (i : Nat) (h : i < l.length) : l.drop i = rdOf ByteArray.empty l (i : Int) :: l.drop (i + 1) ∧ rdOf ByteArray.empty l (i : Int) ∈ l := by
 have e : rdOf ByteArray.empty l (i : Int) = l[i] := by
  unfold rdOf
  rw [Int.toNat_natCast, List.getD_eq_getElem?_getD, List.getElem?_eq_getElem h]; rfl
 rw [e]
 exact ⟨List.drop_eq_getElem_cons h, List.getElem_mem h⟩
set_option maxHeartbeats 8000000 in
set_option maxRecDepth 100000 in
theorem Ydq (b1 b2 : Y) (b3 : Int) (b4 b5 b6 : Y) (b7 b8 : Bool) (A1 : Option Addr) (c1 : Nat) (l1 : List Y) (res : UrlE) (w : World) (hE : EnvOk w)
  (ha : Room b1 b2 b3 b4 b5 b6)
  (hd : (Ysd b1 b2 b3 b4 b5 b6 b7 b8).size ≤ 1000000)
  (hl : ∀ x ∈ l1, x.size ≤ 1000000)
  (hn : l1.length ≤ 1000)
  (hr1 : Kd.C Kd.string w A1 l1.length l1)
  (cB : l1.length ≤ c1)
  (hres : Ywg (b1, b2, b3, b4, b5, b6, b7, b8) l1 = res) :
  Calls Tryz.prog 38 #[.agg (uc b1 b2 b3 b4 b5 b6 b7 b8), .slice A1 l1.length c1] w fun e w' => e = .returned (.tuple (ansV res)) ∧ Below w.heap.size w w' := by
 have HE := Ya.mk hE
 have HA := Ya.mk ha
 have HD := Ya.mk hd
 have HL := Ya.mk hl
 have HN := Ya.mk hn
 have uU := Ya.mk hr1
 have HC1 := Ya.mk cB
 have HRES := Ya.mk hres
 clear hE ha hd hl hn hr1 cB hres
 have bQ := Tryz.underlying25
 have bD : (Tryz.prog.info? 25).map (·.size) = some 8 := by kernel_rfl
 obtain ⟨BK, BZ, HB⟩ := Yaf w (uc b1 b2 b3 b4 b5 b6 b7 b8) (uc ⟨#[]⟩ ⟨#[]⟩ 0 ⟨#[]⟩ ⟨#[]⟩ ⟨#[]⟩ false false) 25
 have BU := Ya.mk (heap_alloc_new ((w.alloc (.cells (uc b1 b2 b3 b4 b5 b6 b7 b8) 25)).alloc (.cells (uc ⟨#[]⟩ ⟨#[]⟩ 0 ⟨#[]⟩ ⟨#[]⟩ ⟨#[]⟩ false false) 25)) (.cells #[.string b1, .string b2, .int .i64 b3, .string b4, .string b5, .string b6, .bool b7, .bool b8] 25))
 rw [Yof, Yof] at BU
 obtain ⟨cQ, cB, cN, cX, cU, cT, cY, cR⟩ := Yea BK.out
 replace BZ := Ya.mk (Ym BZ.out (.cells #[.string b1, .string b2, .int .i64 b3, .string b4, .string b5, .string b6, .bool b7, .bool b8] 25))
 replace HB := Ya.mk (HB.out.alloc HB.out.size (.cells #[.string b1, .string b2, .int .i64 b3, .string b4, .string b5, .string b6, .bool b7, .bool b8] 25))
 go_enter Tryz.func38, Tryz.ntmps38
 go_wp2_with fail
 clear cQ cB cN cX cU cT cY cR BK
 generalize ((w.alloc (.cells (uc b1 b2 b3 b4 b5 b6 b7 b8) 25)).alloc (.cells (uc ⟨#[]⟩ ⟨#[]⟩ 0 ⟨#[]⟩ ⟨#[]⟩ ⟨#[]⟩ false false) 25)).alloc (.cells #[.string b1, .string b2, .int .i64 b3, .string b4, .string b5, .string b6, .bool b7, .bool b8] 25) = ws at BZ BU HB ⊢
 go_loopg [14] l1.length (fun gk vi wx => ∃ (i : Nat) (x1 x2 : Y) (x3 : Int) (x4 x5 x6 : Y) (x7 x8 : Bool), vi = .int .i64 (i : Int) ∧ Ya (i + gk = l1.length) ∧ Ya (Room x1 x2 x3 x4 x5 x6 ∧ (Ysd x1 x2 x3 x4 x5 x6 x7 x8).size ≤ 1000000) ∧ Ya (Ywg (x1, x2, x3, x4, x5, x6, x7, x8) (l1.drop i) = res) ∧ Ya (wx.heap[w.heap.size + 1 + 1]? = some (.cells (uc x1 x2 x3 x4 x5 x6 x7 x8) 25 (0, 0))) ∧ Ya (wx.heap[w.heap.size + 1]? = some (.cells (uc ⟨#[]⟩ ⟨#[]⟩ 0 ⟨#[]⟩ ⟨#[]⟩ ⟨#[]⟩ false false) 25 (0, 0))) ∧ Ya (Below w.heap.size w wx))
 case atStart => exact ⟨0, b1, b2, b3, b4, b5, b6, b7, b8, rfl, ⟨Zk⟩, ⟨HA.out, HD.out⟩, ⟨by rw [List.drop_zero]; exact HRES.out⟩, BU, BZ, HB⟩
 case round =>
  clear BU BZ HB
  obtain ⟨i, x1, x2, x3, x4, x5, x6, x7, x8, rfl, HIG, HOK, HFL, BU, BZ, HB⟩ := hrel
  cases gk with
  | zero =>
   have hi : i = l1.length := by have := HIG.out; omega
   have c0 : decide ((i : Int) < (l1.length : Int)) = false := Ks Zk
   have c1_ : decide (i < l1.length) = false := Ks Zk
   have hf := HFL.out
   rw [hi, List.drop_length] at hf
   subst hf
   clear hi
   obtain ⟨cQ, cB, cN, cX, cU, cT, cY, cR⟩ := Yea BU.out
   go_wp2_with ((with_reducible refine Yxa (t := 25) (p := 4) rfl ?_); refine wpList_store_row rfl 25 (.tmp 4) (.tmp 30) rfl (w.heap.size + 1) (uc x1 x2 x3 x4 x5 x6 x7 x8) rfl rfl 25 _ BZ.out bD rfl (Ypb _ _ _ _ _ _ _ _) ?_)
   refine bodyPost_ret (v := ?v2x) ?hv2x ?dv2x ?_
   case hv2x => refine Yba (p := 4) (u := 5) (ty := 25) ?_ _ _ (w.heap.size + 1) 25 (uc x1 x2 x3 x4 x5 x6 x7 x8) (0, 0) _ ?_ (setRow_heap _ _ _ _ _ _ BZ.out) bQ rfl bD <;> rfl
   case dv2x => rfl
   exact ⟨rfl, below_setRow HB.out Zk _⟩
  | succ g1 =>
   have hlt : i < l1.length := by have := HIG.out; omega
   have c0 : decide ((i : Int) < (l1.length : Int)) = true := Kr Zk
   have c1_ : decide (i < l1.length) = true := Kr hlt
   obtain ⟨hdr, hmem⟩ := drop_rd l1 i hlt
   have p5 : 0 ≤ (i : Int) := by omega
   have q5 : (i : Int) < (l1.length : Int) := by omega
   obtain ⟨ad, e5, dV⟩ := Kd.at_string uU.out (i : Int) p5 q5
   cases e5
   rw [Int.toNat_natCast] at dV
   replace dV := (HB.out.cell (World.block_lt_of_cell? w _ dV)).trans dV
   obtain ⟨x9, hx9⟩ : ∃ x, rdOf ByteArray.empty l1 (i : Int) = x := ⟨_, rfl⟩
   rw [hx9] at hdr hmem dV
   have hsz := HL.out x9 hmem
   have hf := HFL.out
   rw [hdr, Ywg] at hf
   obtain ⟨y1, y2, y3, y4, y5, y6, y7, y8, ye, hy⟩ : ∃ a b c d e f g h i, Ylk x1 x2 x3 x4 x5 x6 x7 x8 x9.data.toList = (a, b, c, d, e, f, g, h, i) := ⟨_, _, _, _, _, _, _, _, _, rfl⟩
   have hjt : joinT (x1, x2, x3, x4, x5, x6, x7, x8) x9 = (y1, y2, y3, y4, y5, y6, y7, y8, ye) := hy
   rw [hjt] at hf
   simp only [partsE] at hf
   have HF := Ya.mk hf
   have HY := Ya.mk hy
   have HSZ := Ya.mk hsz
   have hw1 : wrap64 ((i : Int) + 1) = ((i + 1 : Nat) : Int) := by have := HN.out; unfold wrap64; omega
   obtain ⟨kJ, hkJ⟩ := join_f (b6 := x7) (b7 := x8) HOK.out.1 HOK.out.2 x9 hsz
   have hJ0 := hkJ kJ (Kw _)
   simp only at hJ0
   rw [hy] at hJ0
   have HJ := Ya.mk hJ0
   clear hkJ hJ0 hf hy hjt hdr hmem hsz
   have q6 := Kt hlt
   clear hlt
   replace p5 := Kt p5
   replace q5 := Kt q5
   obtain ⟨cQ, cB, cN, cX, cU, cT, cY, cR⟩ := Yea BU.out
   go_wp2_with fail
   clear cQ cB cN cX cU cT cY cR
   refine (Yza.calls kJ x1 x2 x3 x4 x5 x6 x7 x8 x9 y1 y2 y3 y4 y5 y6 y7 y8 ye _ (HE.out.below HB.out) HJ.out).mono ?_
   rintro e we ⟨rfl, hb⟩
   replace BU := Ya.mk (Yla BU.out hb)
   replace BZ := Ya.mk (Yla BZ.out hb)
   replace HB := Ya.mk (HB.out.trans (hb.mono HB.out.size))
   clear hb
   have HNV := Ya.mk (show we.heap.size ≠ w.heap.size + 1 + 1 from Nat.ne_of_gt (Yyd BU.out))
   have BV := Ya.mk (heap_alloc_new we (.cells #[.string y1, .string y2, .int .i64 y3, .string y4, .string y5, .string y6, .bool y7, .bool y8] 25))
   replace BU := Ya.mk (Ym BU.out (.cells #[.string y1, .string y2, .int .i64 y3, .string y4, .string y5, .string y6, .bool y7, .bool y8] 25))
   replace BZ := Ya.mk (Ym BZ.out (.cells #[.string y1, .string y2, .int .i64 y3, .string y4, .string y5, .string y6, .bool y7, .bool y8] 25))
   replace HB := Ya.mk (HB.out.alloc HB.out.size (.cells #[.string y1, .string y2, .int .i64 y3, .string y4, .string y5, .string y6, .bool y7, .bool y8] 25))
   by_cases h0 : ye = 0
   ·subst h0
    have lO := Ya.mk (show Ywg (y1, y2, y3, y4, y5, y6, y7, y8) (l1.drop (i + 1)) = res from by have := HF.out; rw [if_pos rfl] at this; exact this)
    have HWR := Ya.mk hw1
    obtain ⟨cQ, cB, cN, cX, cU, cT, cY, cR⟩ := Yea BV.out
    go_wp2_with ((with_reducible refine Yxa (t := 25) (p := 6) rfl ?_); refine wpList_store_row rfl 25 (.tmp 6) (.tmp 28) rfl (w.heap.size + 1 + 1) (uc y1 y2 y3 y4 y5 y6 y7 y8) rfl rfl 25 _ BU.out bD rfl (Ypb _ _ _ _ _ _ _ _) ?_; replace BZ := Ya.mk ((setRow_other (we.alloc (.cells #[.string y1, .string y2, .int .i64 y3, .string y4, .string y5, .string y6, .bool y7, .bool y8] 25)) (w.heap.size + 1 + 1) (w.heap.size + 1) (uc y1 y2 y3 y4 y5 y6 y7 y8) (show w.heap.size + 1 ≠ w.heap.size + 1 + 1 by omega)).trans BZ.out); replace HB := Ya.mk (below_setRow HB.out (show w.heap.size ≤ w.heap.size + 1 + 1 by omega) (uc y1 y2 y3 y4 y5 y6 y7 y8)); replace BU := Ya.mk (setRow_heap _ _ _ (uc y1 y2 y3 y4 y5 y6 y7 y8) _ _ BU.out))
    go_roundg g1
    case measure => omega
    case rel => exact ⟨i + 1, y1, y2, y3, y4, y5, y6, y7, y8, by first | rfl | (simp; done) | (rw [← HWR.out]), ⟨by have := HIG.out; omega⟩, ⟨next_ok HY.out⟩, ⟨lO.out⟩, BU, BZ, HB⟩
   ·have e0 : (ye == 0) = false := beq_eq_false_iff_ne.2 h0
    have e1 : (ye != 0) = true := bne_iff_ne.2 h0
    have e2 : decide (ye = 0) = false := Ks h0
    have iZ := HF.out
    rw [if_neg h0] at iZ
    subst iZ
    clear h0
    go_wp2_with ((with_reducible refine Yxa (t := 25) (p := 4) rfl ?_); refine wpList_store_row rfl 25 (.tmp 4) (.tmp 26) rfl (w.heap.size + 1) (uc ⟨#[]⟩ ⟨#[]⟩ 0 ⟨#[]⟩ ⟨#[]⟩ ⟨#[]⟩ false false) rfl rfl 25 _ BZ.out bD rfl (Ypb _ _ _ _ _ _ _ _) ?_)
    refine bodyPost_ret (v := ?v1x) ?hv1x ?dv1x ?_
    case hv1x => refine Yba (p := 4) (u := 5) (ty := 25) ?_ _ _ (w.heap.size + 1) 25 (uc ⟨#[]⟩ ⟨#[]⟩ 0 ⟨#[]⟩ ⟨#[]⟩ ⟨#[]⟩ false false) (0, 0) _ ?_ (setRow_heap _ _ _ _ _ _ BZ.out) bQ rfl bD <;> rfl
    case dv1x => rfl
    exact ⟨rfl, below_setRow HB.out Zk _⟩
end Go.Proofs.YtnmglnglbdpjjaaGreatDoor.X
