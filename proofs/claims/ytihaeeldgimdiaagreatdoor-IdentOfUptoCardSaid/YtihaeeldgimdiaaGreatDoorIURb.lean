import Derived.Test.YtihaeeldgimdiaaGreatDoorIUIz
set_option linter.all false
namespace Go.Proofs.YtihaeeldgimdiaaGreatDoor.X
open Go.RowKit Go.Lib Go.Shelf Go.Yw.PrintWords Go.Yw.PrintLast Go.Yw.PrintMore
set_option maxHeartbeats 8000000
set_option maxRecDepth 100000
theorem Yar (l : List Y) (hl : l.length ≤ 1000000000000000000) : ∀ (d i : Nat), i + d = l.length → EvR (fun k => Ymb.l0 k l l (i : Int)) true
 | 0, i, hi => by
  refine EvR.succ (EvR.of fun k => ?_)
  simp only [Ymb.l0]
  rw [if_neg Zj]
 | d + 1, i, hi => by
  have iN : wrap64 ((i : Int) + 1) = ((i + 1 : Nat) : Int) := by unfold wrap64; omega
  refine EvR.succ (EvR.congr (Yar l hl d (i + 1) Zj) (fun k => ?_))
  simp only [Ymb.l0]
  rw [if_pos Zj, if_pos Zj, if_pos Zj, if_pos trivial, iN]
theorem texts_f (l : List Y) (hl : l.length ≤ 1000000000000000000) : EvR (fun k => Ymb.f k l l) true := by
 unfold Ymb.f
 simp only [if_pos]
 exact Yar l hl l.length 0 Zj
theorem Yoh (l : List Y) (hl : l.length ≤ 1000000000000000000) (A B : Option Addr) (a b : Nat) (w : World) (hE : EnvOk w) (h1 : Kd.C Kd.string w A l.length l) (h2 : l.length ≤ a) (h3 : Kd.C Kd.string w B l.length l) (h4 : l.length ≤ b) :
  Calls Tryz.prog 30 #[.slice A l.length a, .slice B l.length b] w fun e w' => e = .returned (.bool true) ∧ Below w.heap.size w w' := by
 obtain ⟨k, hk⟩ := texts_f l hl
 refine (Ymb.calls k A a l B b l true w hE h1 h2 h3 h4 (hk k (Ks _))).mono ?_
 rintro e w' ⟨rfl, hd⟩
 exact ⟨rfl, hd.below⟩
theorem eqCard (d : Nat) (w : World) (x0 x1 x2 : Y) : (Op.equalIn (d + 2) 30 (.agg #[.string x0, .string x1, .string x2]) (.agg #[.string x0, .string x1, .string x2])).run Tryz.prog w = .ok true w := by
 have h : (Op.equalIn (d + 2) 30 (.agg #[.string x0, .string x1, .string x2]) (.agg #[.string x0, .string x1, .string x2])).run Tryz.prog w = .ok (x0.toList == x0.toList && (x1.toList == x1.toList && (x2.toList == x2.toList))) w := by
  refine eqA_of Tryz.underlying30 Zi ?_
  refine Yer Zda (by go_simp; rfl) (by go_simp; rfl) (by go_simp) ?_
  refine Yer Zda (by go_simp; rfl) (by go_simp; rfl) (by go_simp) ?_
  exact eqf_last Zda (by go_simp; rfl) (by go_simp; rfl) (by go_simp)
 rw [h]
 simp only [beq_self_eq_true, Bool.and_self]
attribute [local go_sem high] eqCard
theorem boxes3 (w : World) (c d : Array Value) (t : TypeId) : Ya (((w.alloc (.cells c t)).alloc (.cells d t)).heap[w.heap.size]? = some (.cells c t (0, 0))) ∧ Ya (((w.alloc (.cells c t)).alloc (.cells d t)).heap[w.heap.size + 1]? = some (.cells d t (0, 0))) ∧ Ya (Below w.heap.size w ((w.alloc (.cells c t)).alloc (.cells d t))) := boxes2 w c d t
theorem Ycp (x : S32) (A9 gE cA bW cB B9 B10 B11 B12 B13 : Option Addr) (a9 a10 a11 a12 a13 b9 b10 b11 b12 b13 : Nat) (w : World) (hE : EnvOk w) (r9 : x.f9.length ≤ a9 ∧ Kd.C Kd.string w A9 x.f9.length x.f9) (s9 : x.f9.length ≤ b9 ∧ Kd.C Kd.string w B9 x.f9.length x.f9) (lX : x.f10.length ≤ a10 ∧ Kd.C Kd.string w gE x.f10.length x.f10) (s10 : x.f10.length ≤ b10 ∧ Kd.C Kd.string w B10 x.f10.length x.f10) (rB : x.f11.length ≤ a11 ∧ Kd.C Kd.string w cA x.f11.length x.f11) (s11 : x.f11.length ≤ b11 ∧ Kd.C Kd.string w B11 x.f11.length x.f11) (rC : x.f12.length ≤ a12 ∧ Kd.C Kd.string w bW x.f12.length x.f12) (s12 : x.f12.length ≤ b12 ∧ Kd.C Kd.string w B12 x.f12.length x.f12) (rD : x.f13.length ≤ a13 ∧ Kd.C Kd.string w cB x.f13.length x.f13) (s13 : x.f13.length ≤ b13 ∧ Kd.C Kd.string w B13 x.f13.length x.f13)
  (hn : ∀ l ∈ [x.f9, x.f10, x.f11, x.f12, x.f13], l.length ≤ 1000000000000000000) :
  Calls Tryz.prog 16 #[.agg (ec x.f0 x.f1 x.f2 x.f3 x.f4 x.f5 x.f6 x.f7 x.f8.f0 x.f8.f1 x.f8.f2 (.slice A9 x.f9.length a9) (.slice gE x.f10.length a10) (.slice cA x.f11.length a11) (.slice bW x.f12.length a12) (.slice cB x.f13.length a13)), .agg (ec x.f0 x.f1 x.f2 x.f3 x.f4 x.f5 x.f6 x.f7 x.f8.f0 x.f8.f1 x.f8.f2 (.slice B9 x.f9.length b9) (.slice B10 x.f10.length b10) (.slice B11 x.f11.length b11) (.slice B12 x.f12.length b12) (.slice B13 x.f13.length b13))] w fun e w' => e = .returned (.bool true) ∧ Below w.heap.size w w' := by
 have HE := Ya.mk hE
 have R9 := Ya.mk r9
 have S9 := Ya.mk s9
 have HN9 := Ya.mk (show x.f9.length ≤ 1000000000000000000 from hn x.f9 Zq)
 have R10 := Ya.mk lX
 have S10 := Ya.mk s10
 have aXx := Ya.mk (show x.f10.length ≤ 1000000000000000000 from hn x.f10 Zq)
 have R11 := Ya.mk rB
 have S11 := Ya.mk s11
 have aXy := Ya.mk (show x.f11.length ≤ 1000000000000000000 from hn x.f11 Zq)
 have R12 := Ya.mk rC
 have S12 := Ya.mk s12
 have aXz := Ya.mk (show x.f12.length ≤ 1000000000000000000 from hn x.f12 Zq)
 have R13 := Ya.mk rD
 have S13 := Ya.mk s13
 have aXA := Ya.mk (show x.f13.length ≤ 1000000000000000000 from hn x.f13 Zq)
 clear hE hn r9 s9 lX s10 rB s11 rC s12 rD s13
 have hu := Tryz.underlying32
 have huc := Tryz.underlying30
 have t0 : (x.f0.toList == x.f0.toList) = true := beq_self_eq_true _
 have t1 : (x.f1.toList == x.f1.toList) = true := beq_self_eq_true _
 have t2 : (x.f2.toList == x.f2.toList) = true := beq_self_eq_true _
 have t3 : (x.f3.toList == x.f3.toList) = true := beq_self_eq_true _
 have t4 : (x.f4.toList == x.f4.toList) = true := beq_self_eq_true _
 have t5 : (x.f5.toList == x.f5.toList) = true := beq_self_eq_true _
 have t6 : (x.f6 == x.f6) = true := beq_self_eq_true _
 have t7 : (x.f7 == x.f7) = true := beq_self_eq_true _
 obtain ⟨BK, BF, HB⟩ := boxes3 w (ec x.f0 x.f1 x.f2 x.f3 x.f4 x.f5 x.f6 x.f7 x.f8.f0 x.f8.f1 x.f8.f2 (.slice A9 x.f9.length a9) (.slice gE x.f10.length a10) (.slice cA x.f11.length a11) (.slice bW x.f12.length a12) (.slice cB x.f13.length a13)) (ec x.f0 x.f1 x.f2 x.f3 x.f4 x.f5 x.f6 x.f7 x.f8.f0 x.f8.f1 x.f8.f2 (.slice B9 x.f9.length b9) (.slice B10 x.f10.length b10) (.slice B11 x.f11.length b11) (.slice B12 x.f12.length b12) (.slice B13 x.f13.length b13)) 32
 go_enter Tryz.func16, Tryz.ntmps16
 obtain ⟨h0, h1, h2, h3, h4, h5, h6, h7, h8, h9, oI, oW, oL, nA, nB, mJ⟩ := Yhf BK.out
 obtain ⟨g0, g1, g2, g3, g4, g5, g6, g7, g8, g9, g10, nC, mL, lW, nJ, mR⟩ := Yhf BF.out
 go_wp2_with fail
 clear h0 g0 h1 g1 h2 g2 h3 g3 h4 g4 h5 g5 h6 g6 h7 g7 h8 g8 h9 g9 oI g10 oW nC oL mL nA lW nB nJ mJ mR
 refine (Yoh x.f9 HN9.out _ _ _ _ _ (HE.out.below HB.out) (Kd.C_below R9.out.2 HB.out) R9.out.1 (Kd.C_below S9.out.2 HB.out) S9.out.1).mono ?_
 rintro e w1 ⟨rfl, hb⟩
 replace BK := Ya.mk (Ycb BK.out hb)
 replace BF := Ya.mk (Ycb BF.out hb)
 replace HB := Ya.mk (HB.out.trans (hb.mono HB.out.size))
 clear hb
 have oL := (Yf BK.out 12).trans rfl
 have mL := (Yf BF.out 12).trans rfl
 have nA := (Yf BK.out 13).trans rfl
 have lW := (Yf BF.out 13).trans rfl
 have nB := (Yf BK.out 14).trans rfl
 have nJ := (Yf BF.out 14).trans rfl
 have mJ := (Yf BK.out 15).trans rfl
 have mR := (Yf BF.out 15).trans rfl
 go_wp2_with fail
 clear oL mL nA lW nB nJ mJ mR
 refine (Yoh x.f10 aXx.out _ _ _ _ _ (HE.out.below HB.out) (Kd.C_below R10.out.2 HB.out) R10.out.1 (Kd.C_below S10.out.2 HB.out) S10.out.1).mono ?_
 rintro e w2 ⟨rfl, hb⟩
 replace BK := Ya.mk (Ycb BK.out hb)
 replace BF := Ya.mk (Ycb BF.out hb)
 replace HB := Ya.mk (HB.out.trans (hb.mono HB.out.size))
 clear hb
 have nA := (Yf BK.out 13).trans rfl
 have lW := (Yf BF.out 13).trans rfl
 have nB := (Yf BK.out 14).trans rfl
 have nJ := (Yf BF.out 14).trans rfl
 have mJ := (Yf BK.out 15).trans rfl
 have mR := (Yf BF.out 15).trans rfl
 go_wp2_with fail
 clear nA lW nB nJ mJ mR
 refine (Yoh x.f11 aXy.out _ _ _ _ _ (HE.out.below HB.out) (Kd.C_below R11.out.2 HB.out) R11.out.1 (Kd.C_below S11.out.2 HB.out) S11.out.1).mono ?_
 rintro e w3 ⟨rfl, hb⟩
 replace BK := Ya.mk (Ycb BK.out hb)
 replace BF := Ya.mk (Ycb BF.out hb)
 replace HB := Ya.mk (HB.out.trans (hb.mono HB.out.size))
 clear hb
 have nB := (Yf BK.out 14).trans rfl
 have nJ := (Yf BF.out 14).trans rfl
 have mJ := (Yf BK.out 15).trans rfl
 have mR := (Yf BF.out 15).trans rfl
 go_wp2_with fail
 clear nB nJ mJ mR
 refine (Yoh x.f12 aXz.out _ _ _ _ _ (HE.out.below HB.out) (Kd.C_below R12.out.2 HB.out) R12.out.1 (Kd.C_below S12.out.2 HB.out) S12.out.1).mono ?_
 rintro e w4 ⟨rfl, hb⟩
 replace BK := Ya.mk (Ycb BK.out hb)
 replace BF := Ya.mk (Ycb BF.out hb)
 replace HB := Ya.mk (HB.out.trans (hb.mono HB.out.size))
 clear hb
 have mJ := (Yf BK.out 15).trans rfl
 have mR := (Yf BF.out 15).trans rfl
 go_wp2_with fail
 clear mJ mR
 refine (Yoh x.f13 aXA.out _ _ _ _ _ (HE.out.below HB.out) (Kd.C_below R13.out.2 HB.out) R13.out.1 (Kd.C_below S13.out.2 HB.out) S13.out.1).mono ?_
 rintro e w5 ⟨rfl, hb⟩
 replace BK := Ya.mk (Ycb BK.out hb)
 replace BF := Ya.mk (Ycb BF.out hb)
 replace HB := Ya.mk (HB.out.trans (hb.mono HB.out.size))
 clear hb
 go_wp2_with fail
 go_ret
 exact ⟨rfl, HB.out⟩
def sames.T6 : Bool × List (List Nat × List Nat) := (true, [([], []), ([], []), ([0, 1], [0, 1]), ([2], [2]), ([], []), ([], []), ([4, 5], [4, 5]), ([6], [6]), ([3, 7], [3, 7]), ([8], [8])])
def sames.B6 : List Nat := [0, 0, 3, 7, 0, 0, 48, 112, 255, 511]
theorem sames.tab6 : rtab .any (opsOf Tryz.f7 6) = sames.T6 := by kernel_rfl
theorem sames.bits6 : Yvg sames.T6.2 sames.B6 = true := by kernel_rfl
def FewL (x : S32) : Prop := ∀ l ∈ [x.f9, x.f10, x.f11, x.f12, x.f13], l.length ≤ 1000000000000000000
theorem Ykm (A B : Option Addr) (a b : Nat) (u : List S32) (w0 w : World) (lV : Below w0.heap.size w0 w) (hE : EnvOk w) (r : Kd.C (Kd.fixed k32 w0) w A u.length u) (r2 : Kd.C (Kd.fixed k32 w0) w B u.length u) (hx : ∀ x ∈ u, FewL x) (hn : u.length ≤ 100000000) :
  Calls Tryz.prog 7 #[.slice A u.length a, .slice B u.length b] w fun e w' => e = .returned (.bool true) ∧ Below w.heap.size w w' := by
 have HE := Ya.mk hE
 have jT := Ya.mk lV
 have R := Ya.mk r
 have R2 := Ya.mk r2
 have HXS := Ya.mk hx
 clear hE lV r r2 hx
 have hul : u.length ≤ 9223372036854775807 := by omega
 have hu := Tryz.underlying32
 have HB := Ya.mk (Below.refl w.heap.size w)
 go_enter Tryz.func7, Tryz.ntmps7
 go_wp2_with fail
 go_loopg [5] u.length (fun gk v5 wx => ∃ (i : Nat), i + gk = u.length ∧ v5 = .int .i64 (i : Int) ∧ Ya (Below w.heap.size w wx))
 case atStart => exact ⟨0, Zj, rfl, HB⟩
 case round =>
  clear HB
  obtain ⟨i, hi1, rfl, HB⟩ := hrel
  cases gk with
  | zero =>
   obtain rfl : i = u.length := by omega
   go_wp2_with fail
   go_ret
   exact ⟨rfl, HB.out⟩
  | succ g1 =>
   have hlt : i < u.length := by omega
   have c0_ : decide ((i : Int) < (u.length : Int)) = true := Kn Zj
   have c1_ : decide (i < u.length) = true := Kn hlt
   have p5 : 0 ≤ (i : Int) := by omega
   have p6 : (i : Int) < (u.length : Int) := by omega
   have hrd : Yj u (i : Int) = u[i] := by unfold Yj; rw [Int.toNat_natCast, List.getD_eq_getElem?_getD, List.getElem?_eq_getElem hlt]; rfl
   obtain ⟨ad, cA, a11, bW, a12, cB, a13, eF, a14, dW, a15, eq, q0, q1, q2, q3, q4, q5, q6, q7, q8, q9, iQ, fG, rE, iP, fP, rF, aKI, aKJ, aKK, aKL, aKM, aKN, aKO, aKP, aKQ, aKR⟩ := at_fx R.out (i : Int) p5 p6
   obtain ⟨bd, B11, b11, B12, b12, B13, b13, B14, b14, B15, b15, ep, p0, p1, p2, p3, p4, p5, p6, p7, p8, p9, mU, gW, p12, pO, hU, p15, aKU, aKV, aKW, aKX, aKY, aKZ, aLa, aLb, aLc, aLd⟩ := at_fx R2.out (i : Int) p5 p6
   have HX := Ya.mk (show FewL (Yj u (i : Int)) by rw [hrd]; exact HXS.out _ (List.getElem_mem hlt))
   clear hrd
   subst eq ep
   rw [Int.toNat_natCast] at q0 p0 q1 p1 q2 p2 q3 p3 q4 p4 q5 p5 q6 p6 q7 p7 q8 p8 q9 p9 iQ mU fG gW rE p12 iP pO fP hU rF p15
   generalize Yj u (i : Int) = x at *
   have Qq0 := Ya.mk q0
   have Qq1 := Ya.mk q1
   have Qq2 := Ya.mk q2
   have Qq3 := Ya.mk q3
   have Qq4 := Ya.mk q4
   have Qq5 := Ya.mk q5
   have Qq6 := Ya.mk q6
   have Qq7 := Ya.mk q7
   have Qq8 := Ya.mk q8
   have Qq9 := Ya.mk q9
   have aLe := Ya.mk iQ
   have aLf := Ya.mk fG
   have aLg := Ya.mk rE
   have aLh := Ya.mk iP
   have aLi := Ya.mk fP
   have aLj := Ya.mk rF
   have Qp0 := Ya.mk p0
   have Qp1 := Ya.mk p1
   have Qp2 := Ya.mk p2
   have Qp3 := Ya.mk p3
   have Qp4 := Ya.mk p4
   have Qp5 := Ya.mk p5
   have Qp6 := Ya.mk p6
   have Qp7 := Ya.mk p7
   have Qp8 := Ya.mk p8
   have Qp9 := Ya.mk p9
   have aLk := Ya.mk mU
   have aLl := Ya.mk gW
   have aLm := Ya.mk p12
   have aLn := Ya.mk pO
   have aLo := Ya.mk hU
   have aLp := Ya.mk p15
   have aXB := Ya.mk aKI
   have aXC := Ya.mk aKJ
   have aXD := Ya.mk aKK
   have aXE := Ya.mk aKL
   have aXF := Ya.mk aKM
   have aXG := Ya.mk aKN
   have aXH := Ya.mk aKO
   have aXI := Ya.mk aKP
   have aXJ := Ya.mk aKQ
   have aXK := Ya.mk aKR
   have aXL := Ya.mk aKU
   have aXM := Ya.mk aKV
   have aXN := Ya.mk aKW
   have aXO := Ya.mk aKX
   have aXP := Ya.mk aKY
   have aXQ := Ya.mk aKZ
   have aXR := Ya.mk aLa
   have aXS := Ya.mk aLb
   have aXT := Ya.mk aLc
   have aXU := Ya.mk aLd
   clear q0 p0 q1 p1 q2 p2 q3 p3 q4 p4 q5 p5 q6 p6 q7 p7 q8 p8 q9 p9 iQ mU fG gW rE p12 iP pO fP hU rF p15 aKI aKJ aKK aKL aKM aKN aKO aKP aKQ aKR aKU aKV aKW aKX aKY aKZ aLa aLb aLc aLd
   have iN : wrap64 ((i : Int) + 1) = ((i + 1 : Nat) : Int) := by unfold wrap64; omega
   have HW := Ya.mk iN
   clear iN
   go_wp2_with fail
   refine Ydh (n := 10) (S := fun w' => Below w.heap.size w w') (ds := []) #[false, false, false, false, false, false, false, false, false, false] Zi rfl rfl (Yc HB.out) (fun hHeld => ?_); refine Yzg sames.tab6 sames.bits6 (fun HT_ HW_ => ?_)
   replace HB := Ya.mk (Yc HB.out)
   generalize World.drew _ = wd at  HB hHeld ⊢
   refine Yjb (i := 0) (N := some 17) (v := ?_) (a' := ?_) #[true, false, false, false, false, false, false, false, false, false] rfl rfl (Yfb HT_.out Zi) (fun _ _ _ h => h) (Or.inl ⟨Zda, ?_⟩) ?_ ?_
   rotate_left
   ·exact Zsb
   rotate_left
   ·exact Ztb
   refine Yjb (i := 1) (N := some 18) (v := ?_) (a' := ?_) #[true, true, false, false, false, false, false, false, false, false] rfl rfl (Yfb HT_.out Zi) (fun _ _ _ h => h) (Or.inl ⟨Zda, ?_⟩) ?_ ?_
   rotate_left
   ·exact Zsb
   rotate_left
   ·exact Ztb
   refine Yjb (i := 2) (N := some 19) (v := ?_) (a' := ?_) #[true, true, true, false, false, false, false, false, false, false] rfl rfl (Yfb HT_.out Zi) (fun _ _ _ h => h) (Or.inl ⟨Zda, ?_⟩) ?_ ?_
   rotate_left
   ·exact Zsb
   rotate_left
   ·exact Ztb
   refine Yjb (i := 4) (N := some 21) (v := ?_) (a' := ?_) #[true, true, true, false, true, false, false, false, false, false] rfl rfl (Yfb HT_.out Zi) (fun _ _ _ h => h) (Or.inl ⟨Zda, ?_⟩) ?_ ?_
   rotate_left
   ·exact Zsb
   rotate_left
   ·exact Ztb
   refine Yjb (i := 5) (N := some 22) (v := ?_) (a' := ?_) #[true, true, true, false, true, true, false, false, false, false] rfl rfl (Yfb HT_.out Zi) (fun _ _ _ h => h) (Or.inl ⟨Zda, ?_⟩) ?_ ?_
   rotate_left
   ·exact Zsb
   rotate_left
   ·exact Ztb
   refine Yjb (i := 6) (N := some 23) (v := ?_) (a' := ?_) #[true, true, true, false, true, true, true, false, false, false] rfl rfl (Yfb HT_.out Zi) (fun _ _ _ h => h) (Or.inl ⟨Zda, ?_⟩) ?_ ?_
   rotate_left
   ·exact Zsb
   rotate_left
   ·exact Ztb
   refine Yxf (i := 3) (N := some 20) (v := ?_) (a' := ?_) #[true, true, true, true, true, true, true, false, false, false] rfl rfl (Yif HT_.out HW_.out Zi) (fun _ _ _ h => h) (Or.inl ⟨Zda, ?_⟩) hHeld ?_ ?_
   rotate_left
   ·rintro w' s0
    have hq0 := (s0.cell (World.block_lt_of_cell? w _ Qq0.out)).trans Qq0.out
    have hq1 := (s0.cell (World.block_lt_of_cell? w _ Qq1.out)).trans Qq1.out
    have cP := (s0.cell (World.block_lt_of_cell? w _ Qq2.out)).trans Qq2.out
    have hq3 := (s0.cell (World.block_lt_of_cell? w _ Qq3.out)).trans Qq3.out
    have hq4 := (s0.cell (World.block_lt_of_cell? w _ Qq4.out)).trans Qq4.out
    have hq5 := (s0.cell (World.block_lt_of_cell? w _ Qq5.out)).trans Qq5.out
    have hq6 := (s0.cell (World.block_lt_of_cell? w _ Qq6.out)).trans Qq6.out
    have hq7 := (s0.cell (World.block_lt_of_cell? w _ Qq7.out)).trans Qq7.out
    have hq8 := (s0.cell (World.block_lt_of_cell? w _ Qq8.out)).trans Qq8.out
    have jN := (s0.cell (World.block_lt_of_cell? w _ Qq9.out)).trans Qq9.out
    have bAc := (s0.cell (World.block_lt_of_cell? w _ aLe.out)).trans aLe.out
    have bAd := (s0.cell (World.block_lt_of_cell? w _ aLf.out)).trans aLf.out
    have bAe := (s0.cell (World.block_lt_of_cell? w _ aLg.out)).trans aLg.out
    have bAf := (s0.cell (World.block_lt_of_cell? w _ aLh.out)).trans aLh.out
    have bAg := (s0.cell (World.block_lt_of_cell? w _ aLi.out)).trans aLi.out
    have bAh := (s0.cell (World.block_lt_of_cell? w _ aLj.out)).trans aLj.out
    go_simp
    with_reducible rfl
   rotate_left
   ·exact Ztb
   refine Yxf (i := 7) (N := some 24) (v := ?_) (a' := ?_) #[true, true, true, true, true, true, true, true, false, false] rfl rfl (Yif HT_.out HW_.out Zi) (fun _ _ _ h => h) (Or.inl ⟨Zda, ?_⟩) hHeld ?_ ?_
   rotate_left
   ·rintro w' s0
    have hp0 := (s0.cell (World.block_lt_of_cell? w _ Qp0.out)).trans Qp0.out
    have hp1 := (s0.cell (World.block_lt_of_cell? w _ Qp1.out)).trans Qp1.out
    have hp2 := (s0.cell (World.block_lt_of_cell? w _ Qp2.out)).trans Qp2.out
    have hp3 := (s0.cell (World.block_lt_of_cell? w _ Qp3.out)).trans Qp3.out
    have hp4 := (s0.cell (World.block_lt_of_cell? w _ Qp4.out)).trans Qp4.out
    have hp5 := (s0.cell (World.block_lt_of_cell? w _ Qp5.out)).trans Qp5.out
    have hp6 := (s0.cell (World.block_lt_of_cell? w _ Qp6.out)).trans Qp6.out
    have hp7 := (s0.cell (World.block_lt_of_cell? w _ Qp7.out)).trans Qp7.out
    have hp8 := (s0.cell (World.block_lt_of_cell? w _ Qp8.out)).trans Qp8.out
    have hp9 := (s0.cell (World.block_lt_of_cell? w _ Qp9.out)).trans Qp9.out
    have bAi := (s0.cell (World.block_lt_of_cell? w _ aLk.out)).trans aLk.out
    have bAj := (s0.cell (World.block_lt_of_cell? w _ aLl.out)).trans aLl.out
    have bAk := (s0.cell (World.block_lt_of_cell? w _ aLm.out)).trans aLm.out
    have bAl := (s0.cell (World.block_lt_of_cell? w _ aLn.out)).trans aLn.out
    have bAm := (s0.cell (World.block_lt_of_cell? w _ aLo.out)).trans aLo.out
    have bAn := (s0.cell (World.block_lt_of_cell? w _ aLp.out)).trans aLp.out
    go_simp
    with_reducible rfl
   rotate_left
   ·exact Ztb
   refine one_ (i := 8) (N := some 25) #[true, true, true, true, true, true, true, true, true, false] rfl rfl (Yhg HT_.out Zi) Zw (fun K hK => ?_)
   refine Ydi Tryz.func16 Zi rfl #[.agg (ec x.f0 x.f1 x.f2 x.f3 x.f4 x.f5 x.f6 x.f7 x.f8.f0 x.f8.f1 x.f8.f2 (.slice cA x.f9.length a11) (.slice bW x.f10.length a12) (.slice cB x.f11.length a13) (.slice eF x.f12.length a14) (.slice dW x.f13.length a15)), .agg (ec x.f0 x.f1 x.f2 x.f3 x.f4 x.f5 x.f6 x.f7 x.f8.f0 x.f8.f1 x.f8.f2 (.slice B11 x.f9.length b11) (.slice B12 x.f10.length b12) (.slice B13 x.f11.length b13) (.slice B14 x.f12.length b14) (.slice B15 x.f13.length b15))] Zda rfl rfl Zca ?_
   refine (Ycp x _ _ _ _ _ _ _ _ _ _ _ _ _ _ _ _ _ _ _ _ _ (HE.out.below HB.out) ⟨aXB.out, Kd.C_below aXC.out (jT.out.trans (HB.out.mono jT.out.size))⟩ ⟨aXL.out, Kd.C_below aXM.out (jT.out.trans (HB.out.mono jT.out.size))⟩ ⟨aXD.out, Kd.C_below aXE.out (jT.out.trans (HB.out.mono jT.out.size))⟩ ⟨aXN.out, Kd.C_below aXO.out (jT.out.trans (HB.out.mono jT.out.size))⟩ ⟨aXF.out, Kd.C_below aXG.out (jT.out.trans (HB.out.mono jT.out.size))⟩ ⟨aXP.out, Kd.C_below aXQ.out (jT.out.trans (HB.out.mono jT.out.size))⟩ ⟨aXH.out, Kd.C_below aXI.out (jT.out.trans (HB.out.mono jT.out.size))⟩ ⟨aXR.out, Kd.C_below aXS.out (jT.out.trans (HB.out.mono jT.out.size))⟩ ⟨aXJ.out, Kd.C_below aXK.out (jT.out.trans (HB.out.mono jT.out.size))⟩ ⟨aXT.out, Kd.C_below aXU.out (jT.out.trans (HB.out.mono jT.out.size))⟩ HX.out).mono ?_
   rintro e we ⟨rfl, hb⟩
   refine ⟨_, rfl, ?_⟩
   replace HB := Ya.mk (HB.out.trans (hb.mono HB.out.size))
   clear hb
   refine hK.out _ _ HB.out (fun hHeld => ?_)
   clear hK K
   refine Yth (a' := ?_) ?_ ?_
   rotate_left
   ·show Act.put _ (some 25) _ = _
    simp only [Act.put, Ky, Yha, Yka]
    rfl
   refine Yjb (i := 9) (N := some 26) (v := ?_) (a' := ?_) #[true, true, true, true, true, true, true, true, true, true] rfl rfl (Yfb HT_.out Zi) (fun _ _ _ h => h) (Or.inl ⟨Zda, ?_⟩) ?_ ?_
   rotate_left
   ·exact Zsb
   rotate_left
   ·exact Ztb
   refine Yoi (Yti HT_.out Zi) ?_
   go_wp2_with fail
   go_roundg g1
   case measure => omega
   case rel => exact ⟨i + 1, Zj, by go_num, HB⟩
end Go.Proofs.YtihaeeldgimdiaaGreatDoor.X
