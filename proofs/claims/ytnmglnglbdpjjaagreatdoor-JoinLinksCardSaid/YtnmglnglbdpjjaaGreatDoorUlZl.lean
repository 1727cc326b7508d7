/- The document's Place: the host and the port of a text. -/
import Derived.Test.YtnmglnglbdpjjaaGreatDoorUlWords
import Derived.Test.YtnmglnglbdpjjaaGreatDoorUlZt
import Derived.Test.YtnmglnglbdpjjaaGreatDoorUlZs
import Derived.Test.YtnmglnglbdpjjaaGreatDoorUlX11
namespace Go.Proofs.YtnmglnglbdpjjaaGreatDoor.X
open Go.RowKit Go.Lib Go.Shelf Go.Yw.PrintWords Go.Yw.PrintLast Go.Yw.PrintMore
set_option linter.unusedVariables false
set_option linter.unusedSimpArgs false
theorem rhost_f (s : ByteArray) (hs : s.size ≤ 90000000) : EvR (fun k => Yue.f k s) (ofL (Ydf s.data.toList).1, (Ydf s.data.toList).2) := by
 have hu := Ypk _ s.data.toList (Nat.le_refl _)
 rw [← Lib.size_eq] at hu
 have h1 := runmark_f s Zk
 have h2 := Yin (ofL (Yob s.data.toList)) Zba
 rw [Yfb] at h2
 have h3 := rname_f (ofL (lowL (Yob s.data.toList))) (by rw [Yx, Yfh]; omega)
 rw [Yfb, nameR_low] at h3
 unfold Yue.f
 refine EvR.bind (g := fun k aBO => (Yba.f k aBO).bind fun oR => if oR.toList = ([] : List UInt8) then some ((⟨#[]⟩ : ByteArray), (4 : Int)) else (Yj.f k oR).bind fun rK => if rK = true then some (oR, 0) else some ((⟨#[]⟩ : ByteArray), 17)) h1 ?_
 refine EvR.bind (g := fun k oR => if oR.toList = ([] : List UInt8) then some ((⟨#[]⟩ : ByteArray), (4 : Int)) else (Yj.f k oR).bind fun rK => if rK = true then some (oR, 0) else some ((⟨#[]⟩ : ByteArray), 17)) h2 ?_
 unfold Ydf
 by_cases he : lowL (Yob s.data.toList) = []
 ·refine EvR.of fun k => ?_
  rw [Ywc, if_pos he, if_pos he]; rfl
 ·simp only [Ywc, if_neg he]
  refine EvR.bind (g := fun k rK => if rK = true then some (ofL (lowL (Yob s.data.toList)), (0 : Int)) else some ((⟨#[]⟩ : ByteArray), 17)) h3 (EvR.of fun k => ?_)
  by_cases hn : Yji (lowL (Yob s.data.toList)) = true
  ·rw [if_pos hn, if_pos hn]
  ·rw [if_neg hn, if_neg hn]; rfl
def Ymi (sch : ByteArray) (h : List UInt8) : ByteArray × ByteArray × Int × Int :=
 if h.contains 64 = true then (⟨#[]⟩, ⟨#[]⟩, 0, 3) else
  if (Ydf (h.takeWhile (Ycb [58]))).2 = 0 then
   if (h.dropWhile (Ycb [58])).drop 1 = [] then (sch, ofL (Ydf (h.takeWhile (Ycb [58]))).1, 0, 0) else
    if (numL 65535 ((h.dropWhile (Ycb [58])).drop 1)).2 = 0 then
     (sch, ofL (Ydf (h.takeWhile (Ycb [58]))).1, if (numL 65535 ((h.dropWhile (Ycb [58])).drop 1)).1 = ownN sch.data.toList then 0 else (numL 65535 ((h.dropWhile (Ycb [58])).drop 1)).1, 0)
    else (⟨#[]⟩, ⟨#[]⟩, 0, 3)
  else (⟨#[]⟩, ⟨#[]⟩, 0, (Ydf (h.takeWhile (Ycb [58]))).2)
theorem Yum (c b : UInt8) : Ycb [c] b = (b != c) := by
 unfold Ycb
 by_cases h : b = c <;> simp [h]
theorem take_lt (c : UInt8) (h : List UInt8) : (h.takeWhile (Ycb [c])).length < h.length ↔ h.contains c = true := by
 induction h with
 | nil => simp
 | cons b t ih =>
  by_cases hb : b = c
  ·subst hb
   rw [List.takeWhile_cons_of_neg (by rw [Yum]; simp)]; simp
  ·rw [List.takeWhile_cons_of_pos (by rw [Yum]; simpa using hb), List.length_cons, List.length_cons, List.contains_cons, beq_eq_false_iff_ne.2 (Ne.symm hb), Bool.false_or, ← ih]
   omega
theorem Yka {W : World} {g : Nat} {t : TypeId} {u1 u2 : ByteArray} {u3 : Int} {u4 u5 u6 : ByteArray} {u7 u8 : Bool} (h : W.heap[g]? = some (.cells (uc u1 u2 u3 u4 u5 u6 u7 u8) t (0, 0))) :
  W.cell? ⟨g, 0, none⟩ = some (.string u1) ∧ W.cell? ⟨g, 1, none⟩ = some (.string u2) ∧ W.cell? ⟨g, 2, none⟩ = some (.int .i64 u3) ∧ W.cell? ⟨g, 3, none⟩ = some (.string u4) ∧ W.cell? ⟨g, 4, none⟩ = some (.string u5) ∧ W.cell? ⟨g, 5, none⟩ = some (.string u6) ∧ W.cell? ⟨g, 6, none⟩ = some (.bool u7) ∧ W.cell? ⟨g, 7, none⟩ = some (.bool u8) :=
 ⟨(Yf h 0).trans rfl, (Yf h 1).trans rfl, (Yf h 2).trans rfl, (Yf h 3).trans rfl, (Yf h 4).trans rfl, (Yf h 5).trans rfl, (Yf h 6).trans rfl, (Yf h 7).trans rfl⟩
set_option maxHeartbeats 8000000 in
set_option maxRecDepth 100000 in
theorem Yzq (sch h q1 q2 : ByteArray) (q3 q9 : Int) (w : World) (hE : EnvOk w) (hs : h.size ≤ 30000000) (hsch : sch.data.toList = Yxg ∨ sch.data.toList = Yuf) (hq : Ymi sch h.data.toList = (q1, q2, q3, q9)) :
  Calls Tryz.prog 50 #[.agg (uc sch ⟨#[]⟩ 0 ⟨#[]⟩ ⟨#[]⟩ ⟨#[]⟩ false false), .string h] w fun e w' => e = .returned (.tuple #[.agg (uc q1 q2 q3 ⟨#[]⟩ ⟨#[]⟩ ⟨#[]⟩ false false), .int .i64 q9]) ∧ Below w.heap.size w w' := by
 have HE := Ya.mk hE
 have bQ := Tryz.underlying25
 have bG : (Tryz.prog.info? 25).map (·.size) = some 8 := by kernel_rfl
 have hsz := Lib.size_eq h
 obtain ⟨n1, pI⟩ : ∃ n, n = (h.data.toList.takeWhile (Ycb [64])).length := ⟨_, rfl⟩
 obtain ⟨n2, hn2⟩ : ∃ n, n = (h.data.toList.takeWhile (Ycb [58])).length := ⟨_, rfl⟩
 have hn2s : n2 ≤ h.size := by rw [hn2, hsz]; exact Ype _ _
 obtain ⟨k1, uM⟩ := Yhm h ⟨#[64]⟩ Zk Zda
 obtain ⟨k2, hk2⟩ := Yhm h ⟨#[58]⟩ Zk Zda
 have HU1 := Ya.mk (show Yqa.f k1 h ⟨#[64]⟩ = some ((n1 : Nat) : Int) from by rw [pI]; exact uM k1 (Nat.le_refl _))
 have HU2 := Ya.mk (show Yqa.f k2 h ⟨#[58]⟩ = some ((n2 : Nat) : Int) from by rw [hn2]; exact hk2 k2 (Nat.le_refl _))
 have hx0 : h.extract 0 n2 = ofL (h.data.toList.takeWhile (Ycb [58])) := by
  rw [Yfe, hn2]
  congr 1
  have := List.take_left (l₁ := h.data.toList.takeWhile (Ycb [58])) (l₂ := h.data.toList.dropWhile (Ycb [58]))
  rw [List.takeWhile_append_dropWhile] at this; exact this
 have vX : n2 < h.size → h.extract (n2 + 1) h.size = ofL ((h.data.toList.dropWhile (Ycb [58])).drop 1) := fun _ => by
  rw [Yuc, hn2]
  congr 1
  have := List.drop_left (l₁ := h.data.toList.takeWhile (Ycb [58])) (l₂ := h.data.toList.dropWhile (Ycb [58]))
  rw [List.takeWhile_append_dropWhile] at this
  conv => rhs; rw [← this]
  rw [List.drop_drop, Nat.add_comm]
 have pW : ¬ n2 < h.size → (h.data.toList.dropWhile (Ycb [58])).drop 1 = [] := fun hn => by
  have e := congrArg List.length (List.takeWhile_append_dropWhile (p := Ycb [58]) (l := h.data.toList))
  rw [List.length_append] at e
  rw [List.eq_nil_of_length_eq_zero (show (h.data.toList.dropWhile (Ycb [58])).length = 0 by omega)]; rfl
 obtain ⟨k3, hk3⟩ := rhost_f (h.extract 0 n2) Zpa
 rw [hx0, Yfb] at hk3
 obtain ⟨hb, hhb⟩ : ∃ x, x = ofL (Ydf (h.data.toList.takeWhile (Ycb [58]))).1 := ⟨_, rfl⟩
 obtain ⟨sg, hsg⟩ : ∃ x, x = (Ydf (h.data.toList.takeWhile (Ycb [58]))).2 := ⟨_, rfl⟩
 have HH := Ya.mk (show Yue.f k3 (h.extract 0 n2) = some (hb, sg) from by rw [hx0, hhb, hsg]; exact hk3 k3 (Nat.le_refl _))
 have h64 : n1 < h.size ↔ h.data.toList.contains 64 = true := by rw [pI, hsz]; exact take_lt 64 _
 obtain ⟨rest, hrest⟩ : ∃ r, r = (h.data.toList.dropWhile (Ycb [58])).drop 1 := ⟨_, rfl⟩
 have hrl : rest.length ≤ h.size := by
  rw [hrest, hsz]; have := Yse (Ycb [58]) h.data.toList; rw [List.length_drop]; omega
 have cN : (if n1 < h.size then ((⟨#[]⟩ : ByteArray), (⟨#[]⟩ : ByteArray), (0 : Int), (3 : Int)) else if sg = 0 then (if rest = [] then (sch, hb, 0, 0) else if (numL 65535 rest).2 = 0 then (sch, hb, if (numL 65535 rest).1 = ownN sch.data.toList then 0 else (numL 65535 rest).1, 0) else (⟨#[]⟩, ⟨#[]⟩, 0, 3)) else (⟨#[]⟩, ⟨#[]⟩, 0, sg)) = (q1, q2, q3, q9) := by
  rw [← hq, hhb, hsg, hrest]
  unfold Ymi
  by_cases c : n1 < h.size
  ·rw [if_pos c, if_pos (h64.1 c)]
  ·rw [if_neg c, if_neg (fun e => c (h64.2 e))]
 rw [← hrest] at vX pW
 have hsc : ((sch.toList == ([104, 116, 116, 112] : List UInt8)) = true ∧ (sch.toList == ([104, 116, 116, 112, 115] : List UInt8)) = false ∧ Ya (ownN sch.data.toList = 80)) ∨ ((sch.toList == ([104, 116, 116, 112] : List UInt8)) = false ∧ (sch.toList == ([104, 116, 116, 112, 115] : List UInt8)) = true ∧ Ya (ownN sch.data.toList = 443)) := by
  rw [Lib.toList_data]
  rcases hsch with e | e
  ·rw [e]; exact .inl ⟨rfl, rfl, ⟨rfl⟩⟩
  ·rw [e]; exact .inr ⟨rfl, rfl, ⟨rfl⟩⟩
 have HQ := Ya.mk cN
 clear uM hk2 hk3 pI hn2 hx0 hhb hsg h64 hrest hq cN hE hsz hsch
 have HX1 := Ya.mk vX
 have HX2 := Ya.mk pW
 clear vX pW
 have hbkA := heap_alloc_new w (.cells (uc sch ⟨#[]⟩ 0 ⟨#[]⟩ ⟨#[]⟩ ⟨#[]⟩ false false) 25)
 have hbk := Yn hbkA (.cells urlZ 25)
 have HBA := Ya.mk ((Below.refl w.heap.size w).alloc (Nat.le_refl _) (.cells (uc sch ⟨#[]⟩ 0 ⟨#[]⟩ ⟨#[]⟩ ⟨#[]⟩ false false) 25))
 have hZ := Ya.mk (HBA.out.alloc HBA.out.size (.cells urlZ 25))
 have BK1 := Ya.mk hbk
 have zP := Ya.mk (heap_alloc_new (w.alloc (.cells (uc sch ⟨#[]⟩ 0 ⟨#[]⟩ ⟨#[]⟩ ⟨#[]⟩ false false) 25)) (.cells urlZ 25))
 rw [Ybh] at zP
 have lH := Ya.mk (HE.out.below hZ.out)
 clear hbk hbkA HBA
 by_cases c1 : n1 < h.size
 ·have d1 : decide ((n1 : Int) < (h.size : Int)) = true := decide_eq_true Zk
  have d2 : decide (n1 < h.size) = true := decide_eq_true c1
  have cN := HQ.out
  rw [if_pos c1] at cN
  simp only [Prod.mk.injEq] at cN
  obtain ⟨rfl, rfl, rfl, rfl⟩ := cN
  clear c1 HQ
  go_enter Tryz.func50, Tryz.ntmps50
  go_wp2_with fail
  refine (Yqa.calls k1 _ _ _ _ lH.out HU1.out).mono ?_
  rintro e w2' ⟨rfl, ⟨nd, rfl⟩⟩
  have BK2 := Ya.mk (Yh BK1.out nd)
  have tS := Ya.mk (Yh zP.out nd)
  have eK := Ya.mk (Yb hZ.out nd)
  obtain ⟨w2, hw⟩ : ∃ W, W = ((w.alloc (.cells (uc sch ⟨#[]⟩ 0 ⟨#[]⟩ ⟨#[]⟩ ⟨#[]⟩ false false) 25)).alloc (.cells urlZ 25)).drewN nd := ⟨_, rfl⟩
  rw [← hw] at BK2 tS eK ⊢
  clear hw BK1 zP hZ lH
  go_wp2_with ((with_reducible refine Ydb (t := 25) (p := 4) rfl ?_); refine wpList_store_row rfl 25 (.tmp 4) (.tmp 16) rfl (w.heap.size + 1) (uc ⟨#[]⟩ ⟨#[]⟩ 0 ⟨#[]⟩ ⟨#[]⟩ ⟨#[]⟩ false false) rfl rfl 25 _ tS.out bG rfl (Yrb _ _ _ _ _ _ _ _) ?_)
  refine bodyPost_ret (v := ?v16) ?hr16 ?hd16 ?_
  case hr16 => refine Yea (p := 4) (u := 5) (ty := 25) ?_ _ _ (w.heap.size + 1) 25 (uc ⟨#[]⟩ ⟨#[]⟩ 0 ⟨#[]⟩ ⟨#[]⟩ ⟨#[]⟩ false false) (0, 0) _ ?_ (setRow_heap _ _ _ _ _ _ tS.out) bQ rfl bG <;> rfl
  case hd16 => rfl
  exact ⟨rfl, below_setRow eK.out Zk _⟩
 ·have d1 : decide ((n1 : Int) < (h.size : Int)) = false := decide_eq_false Zk
  have d2 : decide (n1 < h.size) = false := decide_eq_false c1
  have cN := HQ.out
  rw [if_neg c1] at cN
  have zN := Ya.mk cN
  clear c1 HQ cN
  go_enter Tryz.func50, Tryz.ntmps50
  go_wp2_with fail
  refine (Yqa.calls k1 _ _ _ _ lH.out HU1.out).mono ?_
  rintro e w2' ⟨rfl, ⟨nd, rfl⟩⟩
  have BK2 := Ya.mk (Yh BK1.out nd)
  have tS := Ya.mk (Yh zP.out nd)
  have eK := Ya.mk (Yb hZ.out nd)
  obtain ⟨w2, hw⟩ : ∃ W, W = ((w.alloc (.cells (uc sch ⟨#[]⟩ 0 ⟨#[]⟩ ⟨#[]⟩ ⟨#[]⟩ false false) 25)).alloc (.cells urlZ 25)).drewN nd := ⟨_, rfl⟩
  rw [← hw] at BK2 tS eK ⊢
  clear hw BK1 zP hZ lH
  go_wp2_with fail
  refine (Yqa.calls k2 _ _ _ _ (HE.out.below eK.out) HU2.out).mono ?_
  rintro e w3' ⟨rfl, ⟨nd3, rfl⟩⟩
  have BK3 := Ya.mk (Yh BK2.out nd3)
  have yS := Ya.mk (Yh tS.out nd3)
  have eE := Ya.mk (Yb eK.out nd3)
  obtain ⟨w3, hw⟩ : ∃ W, W = w2.drewN nd3 := ⟨_, rfl⟩
  rw [← hw] at BK3 yS eE ⊢
  clear hw BK2 tS eK
  go_wp2_with fail
  refine (Yue.calls k3 _ _ _ _ (HE.out.below eE.out) HH.out).mono ?_
  rintro e w4 ⟨rfl, kR⟩
  have uP := Ya.mk (Yra BK3.out kR)
  have yT := Ya.mk (Yra yS.out kR)
  have dL := Ya.mk (eE.out.trans (kR.mono eE.out.size))
  clear kR BK3 yS eE
  by_cases c2 : sg = 0
  ·subst c2
   have cN := zN.out
   rw [if_pos rfl] at cN
   have HQ3 := Ya.mk cN
   clear cN zN
   obtain ⟨_, hcz, _⟩ := Yka uP.out
   have hfz := Ye uP.out 1
   have lL := Ya.mk (Yna (cs' := uc sch hb 0 ⟨#[]⟩ ⟨#[]⟩ ⟨#[]⟩ false false) uP.out 1 (.string hb) rfl)
   have eA := Ya.mk (Yub yT.out (p := ⟨w.heap.size, 1, none⟩) Zv (.string hb))
   have cK := Ya.mk (Yg (j := 1) (v := .string hb) dL.out (Nat.le_refl _))
   clear uP yT dL
   have hno : (rest = [] ∧ ((decide ((n2 : Int) < (h.size : Int)) = false ∧ decide (n2 < h.size) = false) ∨ (n2 < h.size ∧ ((h.extract (n2 + 1) h.size).toList != ([] : List UInt8)) = false ∧ ((h.extract (n2 + 1) h.size).toList == ([] : List UInt8)) = true))) ∨ (rest ≠ [] ∧ n2 < h.size ∧ ((h.extract (n2 + 1) h.size).toList != ([] : List UInt8)) = true ∧ ((h.extract (n2 + 1) h.size).toList == ([] : List UInt8)) = false) := by
    by_cases c3 : n2 < h.size
    ·rw [HX1.out c3, Ywc]
     by_cases c4 : rest = []
     ·exact .inl ⟨c4, .inr ⟨c3, by rw [c4]; rfl, by rw [c4]; rfl⟩⟩
     ·exact .inr ⟨c4, c3, bne_iff_ne.2 c4, beq_eq_false_iff_ne.2 c4⟩
    ·exact .inl ⟨HX2.out c3, .inl ⟨decide_eq_false Zk, decide_eq_false c3⟩⟩
   rcases hno with ⟨hre, hc⟩ | ⟨hre, c3, e1, e2⟩
   ·have cN := HQ3.out
    rw [if_pos hre] at cN
    obtain ⟨p, hp0⟩ : ∃ p : Int, p = 0 := ⟨_, rfl⟩
    have HQF := Ya.mk (show sch = q1 ∧ hb = q2 ∧ (if p = ownN sch.data.toList then 0 else p) = q3 ∧ 0 = q9 from by
     simp only [Prod.mk.injEq] at cN
     refine ⟨cN.1, cN.2.1, ?_, cN.2.2.2⟩
     rw [hp0]; split <;> exact cN.2.2.1)
    rw [← hp0] at lL
    clear cN HQ3 hre hp0
    rcases hc with ⟨d3, d4⟩ | ⟨c3, e1, e2⟩
    ·skip
     rcases hsc with ⟨s1, s2, HOwn⟩ | ⟨s1, s2, HOwn⟩
     ·by_cases hp : p = 80
      ·have ep : (p == 80) = true := beq_iff_eq.2 hp
       have iZ := HQF.out
       rw [HOwn.out, if_pos hp] at iZ
       obtain ⟨rfl, rfl, rfl, rfl⟩ := iZ
       obtain ⟨sK, _, oS, _⟩ := Yka lL.out
       have hzf := Ye lL.out 2
       have BKn := Ya.mk (Yna (cs' := uc sch hb 0 ⟨#[]⟩ ⟨#[]⟩ ⟨#[]⟩ false false) lL.out 2 (.int .i64 0) rfl)
       have BZn := Ya.mk (Yub eA.out (p := ⟨w.heap.size, 2, none⟩) Zv (.int .i64 0))
       have HBn := Ya.mk (Yg (j := 2) (v := .int .i64 0) cK.out (Nat.le_refl _))
       obtain ⟨cW, cR, cV, dA, cZ, cY, dB, cX⟩ := Yka BKn.out
       clear hp
       go_wp2_with ((with_reducible refine Ydb (t := 25) (p := 4) rfl ?_); refine wpList_store_row rfl 25 (.tmp 4) (.tmp 75) rfl (w.heap.size + 1) (uc sch hb 0 ⟨#[]⟩ ⟨#[]⟩ ⟨#[]⟩ false false) rfl rfl 25 _ BZn.out bG rfl (Yrb _ _ _ _ _ _ _ _) ?_)
       refine bodyPost_ret (v := ?vz1) ?hrz1 ?hdz1 ?_
       case hrz1 => refine Yea (p := 4) (u := 5) (ty := 25) ?_ _ _ (w.heap.size + 1) 25 (uc sch hb 0 ⟨#[]⟩ ⟨#[]⟩ ⟨#[]⟩ false false) (0, 0) _ ?_ (setRow_heap _ _ _ _ _ _ BZn.out) bQ rfl bG <;> rfl
       case hdz1 => rfl
       exact ⟨rfl, below_setRow HBn.out Zk _⟩
      ·have ep : (p == 80) = false := beq_eq_false_iff_ne.2 hp
       have iZ := HQF.out
       rw [HOwn.out, if_neg hp] at iZ
       obtain ⟨rfl, rfl, rfl, rfl⟩ := iZ
       obtain ⟨cW, cR, cV, dA, cZ, cY, dB, cX⟩ := Yka lL.out
       clear hp
       go_wp2_with ((with_reducible refine Ydb (t := 25) (p := 4) rfl ?_); refine wpList_store_row rfl 25 (.tmp 4) (.tmp 75) rfl (w.heap.size + 1) (uc sch hb p ⟨#[]⟩ ⟨#[]⟩ ⟨#[]⟩ false false) rfl rfl 25 _ eA.out bG rfl (Yrb _ _ _ _ _ _ _ _) ?_)
       refine bodyPost_ret (v := ?vz2) ?hrz2 ?hdz2 ?_
       case hrz2 => refine Yea (p := 4) (u := 5) (ty := 25) ?_ _ _ (w.heap.size + 1) 25 (uc sch hb p ⟨#[]⟩ ⟨#[]⟩ ⟨#[]⟩ false false) (0, 0) _ ?_ (setRow_heap _ _ _ _ _ _ eA.out) bQ rfl bG <;> rfl
       case hdz2 => rfl
       exact ⟨rfl, below_setRow cK.out Zk _⟩
     ·by_cases hp : p = 443
      ·have ep : (p == 443) = true := beq_iff_eq.2 hp
       have iZ := HQF.out
       rw [HOwn.out, if_pos hp] at iZ
       obtain ⟨rfl, rfl, rfl, rfl⟩ := iZ
       obtain ⟨sK, _, oS, _⟩ := Yka lL.out
       have hzf := Ye lL.out 2
       have BKn := Ya.mk (Yna (cs' := uc sch hb 0 ⟨#[]⟩ ⟨#[]⟩ ⟨#[]⟩ false false) lL.out 2 (.int .i64 0) rfl)
       have BZn := Ya.mk (Yub eA.out (p := ⟨w.heap.size, 2, none⟩) Zv (.int .i64 0))
       have HBn := Ya.mk (Yg (j := 2) (v := .int .i64 0) cK.out (Nat.le_refl _))
       obtain ⟨cW, cR, cV, dA, cZ, cY, dB, cX⟩ := Yka BKn.out
       clear hp
       go_wp2_with ((with_reducible refine Ydb (t := 25) (p := 4) rfl ?_); refine wpList_store_row rfl 25 (.tmp 4) (.tmp 75) rfl (w.heap.size + 1) (uc sch hb 0 ⟨#[]⟩ ⟨#[]⟩ ⟨#[]⟩ false false) rfl rfl 25 _ BZn.out bG rfl (Yrb _ _ _ _ _ _ _ _) ?_)
       refine bodyPost_ret (v := ?vz3) ?hrz3 ?hdz3 ?_
       case hrz3 => refine Yea (p := 4) (u := 5) (ty := 25) ?_ _ _ (w.heap.size + 1) 25 (uc sch hb 0 ⟨#[]⟩ ⟨#[]⟩ ⟨#[]⟩ false false) (0, 0) _ ?_ (setRow_heap _ _ _ _ _ _ BZn.out) bQ rfl bG <;> rfl
       case hdz3 => rfl
       exact ⟨rfl, below_setRow HBn.out Zk _⟩
      ·have ep : (p == 443) = false := beq_eq_false_iff_ne.2 hp
       have iZ := HQF.out
       rw [HOwn.out, if_neg hp] at iZ
       obtain ⟨rfl, rfl, rfl, rfl⟩ := iZ
       obtain ⟨cW, cR, cV, dA, cZ, cY, dB, cX⟩ := Yka lL.out
       clear hp
       go_wp2_with ((with_reducible refine Ydb (t := 25) (p := 4) rfl ?_); refine wpList_store_row rfl 25 (.tmp 4) (.tmp 75) rfl (w.heap.size + 1) (uc sch hb p ⟨#[]⟩ ⟨#[]⟩ ⟨#[]⟩ false false) rfl rfl 25 _ eA.out bG rfl (Yrb _ _ _ _ _ _ _ _) ?_)
       refine bodyPost_ret (v := ?vz4) ?hrz4 ?hdz4 ?_
       case hrz4 => refine Yea (p := 4) (u := 5) (ty := 25) ?_ _ _ (w.heap.size + 1) 25 (uc sch hb p ⟨#[]⟩ ⟨#[]⟩ ⟨#[]⟩ false false) (0, 0) _ ?_ (setRow_heap _ _ _ _ _ _ eA.out) bQ rfl bG <;> rfl
       case hdz4 => rfl
       exact ⟨rfl, below_setRow cK.out Zk _⟩
    ·have d3 : decide ((n2 : Int) < (h.size : Int)) = true := decide_eq_true Zk
     have d4 : decide (n2 < h.size) = true := decide_eq_true c3
     have b3 : ((n2 + 1 : Nat) : Int) ≤ (h.size : Int) := by omega
     have b4 : (n2 : Int) + 1 ≤ (h.size : Int) := by omega
     have hw9 : wrap64 ((n2 : Int) + 1) = ((n2 + 1 : Nat) : Int) := by unfold wrap64; omega
     rcases hsc with ⟨s1, s2, HOwn⟩ | ⟨s1, s2, HOwn⟩
     ·by_cases hp : p = 80
      ·have ep : (p == 80) = true := beq_iff_eq.2 hp
       have iZ := HQF.out
       rw [HOwn.out, if_pos hp] at iZ
       obtain ⟨rfl, rfl, rfl, rfl⟩ := iZ
       obtain ⟨sK, _, oS, _⟩ := Yka lL.out
       have hzf := Ye lL.out 2
       have BKn := Ya.mk (Yna (cs' := uc sch hb 0 ⟨#[]⟩ ⟨#[]⟩ ⟨#[]⟩ false false) lL.out 2 (.int .i64 0) rfl)
       have BZn := Ya.mk (Yub eA.out (p := ⟨w.heap.size, 2, none⟩) Zv (.int .i64 0))
       have HBn := Ya.mk (Yg (j := 2) (v := .int .i64 0) cK.out (Nat.le_refl _))
       obtain ⟨cW, cR, cV, dA, cZ, cY, dB, cX⟩ := Yka BKn.out
       clear hp
       go_wp2_with ((with_reducible refine Ydb (t := 25) (p := 4) rfl ?_); refine wpList_store_row rfl 25 (.tmp 4) (.tmp 75) rfl (w.heap.size + 1) (uc sch hb 0 ⟨#[]⟩ ⟨#[]⟩ ⟨#[]⟩ false false) rfl rfl 25 _ BZn.out bG rfl (Yrb _ _ _ _ _ _ _ _) ?_)
       refine bodyPost_ret (v := ?vz5) ?hrz5 ?hdz5 ?_
       case hrz5 => refine Yea (p := 4) (u := 5) (ty := 25) ?_ _ _ (w.heap.size + 1) 25 (uc sch hb 0 ⟨#[]⟩ ⟨#[]⟩ ⟨#[]⟩ false false) (0, 0) _ ?_ (setRow_heap _ _ _ _ _ _ BZn.out) bQ rfl bG <;> rfl
       case hdz5 => rfl
       exact ⟨rfl, below_setRow HBn.out Zk _⟩
      ·have ep : (p == 80) = false := beq_eq_false_iff_ne.2 hp
       have iZ := HQF.out
       rw [HOwn.out, if_neg hp] at iZ
       obtain ⟨rfl, rfl, rfl, rfl⟩ := iZ
       obtain ⟨cW, cR, cV, dA, cZ, cY, dB, cX⟩ := Yka lL.out
       clear hp
       go_wp2_with ((with_reducible refine Ydb (t := 25) (p := 4) rfl ?_); refine wpList_store_row rfl 25 (.tmp 4) (.tmp 75) rfl (w.heap.size + 1) (uc sch hb p ⟨#[]⟩ ⟨#[]⟩ ⟨#[]⟩ false false) rfl rfl 25 _ eA.out bG rfl (Yrb _ _ _ _ _ _ _ _) ?_)
       refine bodyPost_ret (v := ?vz6) ?hrz6 ?hdz6 ?_
       case hrz6 => refine Yea (p := 4) (u := 5) (ty := 25) ?_ _ _ (w.heap.size + 1) 25 (uc sch hb p ⟨#[]⟩ ⟨#[]⟩ ⟨#[]⟩ false false) (0, 0) _ ?_ (setRow_heap _ _ _ _ _ _ eA.out) bQ rfl bG <;> rfl
       case hdz6 => rfl
       exact ⟨rfl, below_setRow cK.out Zk _⟩
     ·by_cases hp : p = 443
      ·have ep : (p == 443) = true := beq_iff_eq.2 hp
       have iZ := HQF.out
       rw [HOwn.out, if_pos hp] at iZ
       obtain ⟨rfl, rfl, rfl, rfl⟩ := iZ
       obtain ⟨sK, _, oS, _⟩ := Yka lL.out
       have hzf := Ye lL.out 2
       have BKn := Ya.mk (Yna (cs' := uc sch hb 0 ⟨#[]⟩ ⟨#[]⟩ ⟨#[]⟩ false false) lL.out 2 (.int .i64 0) rfl)
       have BZn := Ya.mk (Yub eA.out (p := ⟨w.heap.size, 2, none⟩) Zv (.int .i64 0))
       have HBn := Ya.mk (Yg (j := 2) (v := .int .i64 0) cK.out (Nat.le_refl _))
       obtain ⟨cW, cR, cV, dA, cZ, cY, dB, cX⟩ := Yka BKn.out
       clear hp
       go_wp2_with ((with_reducible refine Ydb (t := 25) (p := 4) rfl ?_); refine wpList_store_row rfl 25 (.tmp 4) (.tmp 75) rfl (w.heap.size + 1) (uc sch hb 0 ⟨#[]⟩ ⟨#[]⟩ ⟨#[]⟩ false false) rfl rfl 25 _ BZn.out bG rfl (Yrb _ _ _ _ _ _ _ _) ?_)
       refine bodyPost_ret (v := ?vz7) ?hrz7 ?hdz7 ?_
       case hrz7 => refine Yea (p := 4) (u := 5) (ty := 25) ?_ _ _ (w.heap.size + 1) 25 (uc sch hb 0 ⟨#[]⟩ ⟨#[]⟩ ⟨#[]⟩ false false) (0, 0) _ ?_ (setRow_heap _ _ _ _ _ _ BZn.out) bQ rfl bG <;> rfl
       case hdz7 => rfl
       exact ⟨rfl, below_setRow HBn.out Zk _⟩
      ·have ep : (p == 443) = false := beq_eq_false_iff_ne.2 hp
       have iZ := HQF.out
       rw [HOwn.out, if_neg hp] at iZ
       obtain ⟨rfl, rfl, rfl, rfl⟩ := iZ
       obtain ⟨cW, cR, cV, dA, cZ, cY, dB, cX⟩ := Yka lL.out
       clear hp
       go_wp2_with ((with_reducible refine Ydb (t := 25) (p := 4) rfl ?_); refine wpList_store_row rfl 25 (.tmp 4) (.tmp 75) rfl (w.heap.size + 1) (uc sch hb p ⟨#[]⟩ ⟨#[]⟩ ⟨#[]⟩ false false) rfl rfl 25 _ eA.out bG rfl (Yrb _ _ _ _ _ _ _ _) ?_)
       refine bodyPost_ret (v := ?vz8) ?hrz8 ?hdz8 ?_
       case hrz8 => refine Yea (p := 4) (u := 5) (ty := 25) ?_ _ _ (w.heap.size + 1) 25 (uc sch hb p ⟨#[]⟩ ⟨#[]⟩ ⟨#[]⟩ false false) (0, 0) _ ?_ (setRow_heap _ _ _ _ _ _ eA.out) bQ rfl bG <;> rfl
       case hdz8 => rfl
       exact ⟨rfl, below_setRow cK.out Zk _⟩
   ·have cN := HQ3.out
    rw [if_neg hre] at cN
    have HQ4 := Ya.mk cN
    have d3 : decide ((n2 : Int) < (h.size : Int)) = true := decide_eq_true Zk
    have d4 : decide (n2 < h.size) = true := decide_eq_true c3
    have b3 : ((n2 + 1 : Nat) : Int) ≤ (h.size : Int) := by omega
    have b4 : (n2 : Int) + 1 ≤ (h.size : Int) := by omega
    have hw9 : wrap64 ((n2 : Int) + 1) = ((n2 + 1 : Nat) : Int) := by unfold wrap64; omega
    obtain ⟨k4, hk4⟩ := Yom (ofL rest) 65535 Zk Zk Zba
    obtain ⟨pn, hpn⟩ : ∃ x, x = (numL 65535 rest).1 := ⟨_, rfl⟩
    obtain ⟨ps, hps⟩ : ∃ x, x = (numL 65535 rest).2 := ⟨_, rfl⟩
    have HN := Ya.mk (show Yz.f k4 (h.extract (n2 + 1) h.size) 65535 = some (pn, ps) from by
     rw [HX1.out c3, hpn, hps]; have := hk4 k4 (Nat.le_refl _); rw [Yfb] at this; exact this)
    rw [← hpn, ← hps] at HQ4
    clear hk4 hpn hps cN HQ3 hre c3
    go_wp2_with fail
    refine (Yz.calls k4 _ _ _ _ _ (HE.out.below cK.out) HN.out).mono ?_
    rintro e w6' ⟨rfl, ⟨nd6, rfl⟩⟩
    have BK6 := Ya.mk (Yh lL.out nd6)
    have BZ6 := Ya.mk (Yh eA.out nd6)
    have jD := Ya.mk (Yb cK.out nd6)
    obtain ⟨w6, hw⟩ : ∃ W, W = (w4.setCell ⟨w.heap.size, 1, none⟩ (.string hb)).drewN nd6 := ⟨_, rfl⟩
    rw [← hw] at BK6 BZ6 jD ⊢
    clear hw lL eA cK
    clear hcz hfz
    by_cases c5 : ps = 0
    ·subst c5
     have cN := HQ4.out
     rw [if_pos rfl] at cN
     have HQF := Ya.mk (show sch = q1 ∧ hb = q2 ∧ (if pn = ownN sch.data.toList then 0 else pn) = q3 ∧ 0 = q9 from by
      simp only [Prod.mk.injEq] at cN; exact cN)
     obtain ⟨p, hpp⟩ : ∃ p, p = pn := ⟨_, rfl⟩
     rw [← hpp] at HQF ⊢
     clear hpp cN HQ4
     obtain ⟨_, _, hcy, _⟩ := Yka BK6.out
     have hfy := Ye BK6.out 2
     have oZ := Ya.mk (Yna (cs' := uc sch hb p ⟨#[]⟩ ⟨#[]⟩ ⟨#[]⟩ false false) BK6.out 2 (.int .i64 p) rfl)
     have BZ7 := Ya.mk (Yub BZ6.out (p := ⟨w.heap.size, 2, none⟩) Zv (.int .i64 p))
     have HB7 := Ya.mk (Yg (j := 2) (v := .int .i64 p) jD.out (Nat.le_refl _))
     rcases hsc with ⟨s1, s2, HOwn⟩ | ⟨s1, s2, HOwn⟩
     ·by_cases hp : p = 80
      ·have ep : (p == 80) = true := beq_iff_eq.2 hp
       have iZ := HQF.out
       rw [HOwn.out, if_pos hp] at iZ
       obtain ⟨rfl, rfl, rfl, rfl⟩ := iZ
       obtain ⟨sK, _, oS, _⟩ := Yka oZ.out
       have hzf := Ye oZ.out 2
       have BKn := Ya.mk (Yna (cs' := uc sch hb 0 ⟨#[]⟩ ⟨#[]⟩ ⟨#[]⟩ false false) oZ.out 2 (.int .i64 0) rfl)
       have BZn := Ya.mk (Yub BZ7.out (p := ⟨w.heap.size, 2, none⟩) Zv (.int .i64 0))
       have HBn := Ya.mk (Yg (j := 2) (v := .int .i64 0) HB7.out (Nat.le_refl _))
       obtain ⟨cW, cR, cV, dA, cZ, cY, dB, cX⟩ := Yka BKn.out
       clear hp
       go_wp2_with ((with_reducible refine Ydb (t := 25) (p := 4) rfl ?_); refine wpList_store_row rfl 25 (.tmp 4) (.tmp 75) rfl (w.heap.size + 1) (uc sch hb 0 ⟨#[]⟩ ⟨#[]⟩ ⟨#[]⟩ false false) rfl rfl 25 _ BZn.out bG rfl (Yrb _ _ _ _ _ _ _ _) ?_)
       refine bodyPost_ret (v := ?vz9) ?hrz9 ?hdz9 ?_
       case hrz9 => refine Yea (p := 4) (u := 5) (ty := 25) ?_ _ _ (w.heap.size + 1) 25 (uc sch hb 0 ⟨#[]⟩ ⟨#[]⟩ ⟨#[]⟩ false false) (0, 0) _ ?_ (setRow_heap _ _ _ _ _ _ BZn.out) bQ rfl bG <;> rfl
       case hdz9 => rfl
       exact ⟨rfl, below_setRow HBn.out Zk _⟩
      ·have ep : (p == 80) = false := beq_eq_false_iff_ne.2 hp
       have iZ := HQF.out
       rw [HOwn.out, if_neg hp] at iZ
       obtain ⟨rfl, rfl, rfl, rfl⟩ := iZ
       obtain ⟨cW, cR, cV, dA, cZ, cY, dB, cX⟩ := Yka oZ.out
       clear hp
       go_wp2_with ((with_reducible refine Ydb (t := 25) (p := 4) rfl ?_); refine wpList_store_row rfl 25 (.tmp 4) (.tmp 75) rfl (w.heap.size + 1) (uc sch hb p ⟨#[]⟩ ⟨#[]⟩ ⟨#[]⟩ false false) rfl rfl 25 _ BZ7.out bG rfl (Yrb _ _ _ _ _ _ _ _) ?_)
       refine bodyPost_ret (v := ?vz10) ?hrz10 ?hdz10 ?_
       case hrz10 => refine Yea (p := 4) (u := 5) (ty := 25) ?_ _ _ (w.heap.size + 1) 25 (uc sch hb p ⟨#[]⟩ ⟨#[]⟩ ⟨#[]⟩ false false) (0, 0) _ ?_ (setRow_heap _ _ _ _ _ _ BZ7.out) bQ rfl bG <;> rfl
       case hdz10 => rfl
       exact ⟨rfl, below_setRow HB7.out Zk _⟩
     ·by_cases hp : p = 443
      ·have ep : (p == 443) = true := beq_iff_eq.2 hp
       have iZ := HQF.out
       rw [HOwn.out, if_pos hp] at iZ
       obtain ⟨rfl, rfl, rfl, rfl⟩ := iZ
       obtain ⟨sK, _, oS, _⟩ := Yka oZ.out
       have hzf := Ye oZ.out 2
       have BKn := Ya.mk (Yna (cs' := uc sch hb 0 ⟨#[]⟩ ⟨#[]⟩ ⟨#[]⟩ false false) oZ.out 2 (.int .i64 0) rfl)
       have BZn := Ya.mk (Yub BZ7.out (p := ⟨w.heap.size, 2, none⟩) Zv (.int .i64 0))
       have HBn := Ya.mk (Yg (j := 2) (v := .int .i64 0) HB7.out (Nat.le_refl _))
       obtain ⟨cW, cR, cV, dA, cZ, cY, dB, cX⟩ := Yka BKn.out
       clear hp
       go_wp2_with ((with_reducible refine Ydb (t := 25) (p := 4) rfl ?_); refine wpList_store_row rfl 25 (.tmp 4) (.tmp 75) rfl (w.heap.size + 1) (uc sch hb 0 ⟨#[]⟩ ⟨#[]⟩ ⟨#[]⟩ false false) rfl rfl 25 _ BZn.out bG rfl (Yrb _ _ _ _ _ _ _ _) ?_)
       refine bodyPost_ret (v := ?vz11) ?hrz11 ?hdz11 ?_
       case hrz11 => refine Yea (p := 4) (u := 5) (ty := 25) ?_ _ _ (w.heap.size + 1) 25 (uc sch hb 0 ⟨#[]⟩ ⟨#[]⟩ ⟨#[]⟩ false false) (0, 0) _ ?_ (setRow_heap _ _ _ _ _ _ BZn.out) bQ rfl bG <;> rfl
       case hdz11 => rfl
       exact ⟨rfl, below_setRow HBn.out Zk _⟩
      ·have ep : (p == 443) = false := beq_eq_false_iff_ne.2 hp
       have iZ := HQF.out
       rw [HOwn.out, if_neg hp] at iZ
       obtain ⟨rfl, rfl, rfl, rfl⟩ := iZ
       obtain ⟨cW, cR, cV, dA, cZ, cY, dB, cX⟩ := Yka oZ.out
       clear hp
       go_wp2_with ((with_reducible refine Ydb (t := 25) (p := 4) rfl ?_); refine wpList_store_row rfl 25 (.tmp 4) (.tmp 75) rfl (w.heap.size + 1) (uc sch hb p ⟨#[]⟩ ⟨#[]⟩ ⟨#[]⟩ false false) rfl rfl 25 _ BZ7.out bG rfl (Yrb _ _ _ _ _ _ _ _) ?_)
       refine bodyPost_ret (v := ?vz12) ?hrz12 ?hdz12 ?_
       case hrz12 => refine Yea (p := 4) (u := 5) (ty := 25) ?_ _ _ (w.heap.size + 1) 25 (uc sch hb p ⟨#[]⟩ ⟨#[]⟩ ⟨#[]⟩ false false) (0, 0) _ ?_ (setRow_heap _ _ _ _ _ _ BZ7.out) bQ rfl bG <;> rfl
       case hdz12 => rfl
       exact ⟨rfl, below_setRow HB7.out Zk _⟩
    ·have d5 : decide (ps = 0) = false := decide_eq_false c5
     have d6 : (ps == 0) = false := beq_eq_false_iff_ne.2 c5
     have cN := HQ4.out
     rw [if_neg c5] at cN
     simp only [Prod.mk.injEq] at cN
     obtain ⟨rfl, rfl, rfl, rfl⟩ := cN
     clear c5 HQ4
     go_wp2_with ((with_reducible refine Ydb (t := 25) (p := 4) rfl ?_); refine wpList_store_row rfl 25 (.tmp 4) (.tmp 53) rfl (w.heap.size + 1) (uc ⟨#[]⟩ ⟨#[]⟩ 0 ⟨#[]⟩ ⟨#[]⟩ ⟨#[]⟩ false false) rfl rfl 25 _ BZ6.out bG rfl (Yrb _ _ _ _ _ _ _ _) ?_)
     refine bodyPost_ret (v := ?v53) ?hr53 ?hd53 ?_
     case hr53 => refine Yea (p := 4) (u := 5) (ty := 25) ?_ _ _ (w.heap.size + 1) 25 (uc ⟨#[]⟩ ⟨#[]⟩ 0 ⟨#[]⟩ ⟨#[]⟩ ⟨#[]⟩ false false) (0, 0) _ ?_ (setRow_heap _ _ _ _ _ _ BZ6.out) bQ rfl bG <;> rfl
     case hd53 => rfl
     exact ⟨rfl, below_setRow jD.out Zk _⟩
  ·have d5 : decide (sg = 0) = false := decide_eq_false c2
   have d6 : (sg == 0) = false := beq_eq_false_iff_ne.2 c2
   have cN := zN.out
   rw [if_neg c2] at cN
   simp only [Prod.mk.injEq] at cN
   obtain ⟨rfl, rfl, rfl, rfl⟩ := cN
   clear c2 zN
   go_wp2_with ((with_reducible refine Ydb (t := 25) (p := 4) rfl ?_); refine wpList_store_row rfl 25 (.tmp 4) (.tmp 28) rfl (w.heap.size + 1) (uc ⟨#[]⟩ ⟨#[]⟩ 0 ⟨#[]⟩ ⟨#[]⟩ ⟨#[]⟩ false false) rfl rfl 25 _ yT.out bG rfl (Yrb _ _ _ _ _ _ _ _) ?_)
   refine bodyPost_ret (v := ?v28) ?hr28 ?hd28 ?_
   case hr28 => refine Yea (p := 4) (u := 5) (ty := 25) ?_ _ _ (w.heap.size + 1) 25 (uc ⟨#[]⟩ ⟨#[]⟩ 0 ⟨#[]⟩ ⟨#[]⟩ ⟨#[]⟩ false false) (0, 0) _ ?_ (setRow_heap _ _ _ _ _ _ yT.out) bQ rfl bG <;> rfl
   case hd28 => rfl
   exact ⟨rfl, below_setRow dL.out Zk _⟩
end Go.Proofs.YtnmglnglbdpjjaaGreatDoor.X
