import Derived.Test.YtnmglnglbdpjjaaGreatDoorUfH5
import Derived.Test.YtnmglnglbdpjjaaGreatDoorUfZs
set_option linter.all false
namespace Go.Proofs.YtnmglnglbdpjjaaGreatDoor.X
open Go.RowKit Go.Lib Go.Shelf Go.Yw.PrintWords Go.Yw.PrintLast Go.Yw.PrintMore
theorem rhost_f (s : Y) (hs : s.size ≤ 90000000) : EvR (fun k => Yye.f k s) (ofL (Yif s.data.toList).1, (Yif s.data.toList).2) := by
 have hu := Yuk _ s.data.toList (Kw _)
 rw [← Lib.size_eq] at hu
 have h1 := runmark_f s Zk
 have h2 := Yyn (ofL (Ynb s.data.toList)) Zda
 rw [Ygb] at h2
 have h3 := rname_f (ofL (lowL (Ynb s.data.toList))) (by rw [Yy, Ylh]; omega)
 rw [Ygb, nameR_low] at h3
 unfold Yye.f
 refine EvR.bind (g := fun k aCa => (Yfa.f k aCa).bind fun oX => if oX.toList = ([] : List UInt8) then some ((⟨#[]⟩ : Y), (4 : Int)) else (Yj.f k oX).bind fun rP => if rP = true then some (oX, 0) else some ((⟨#[]⟩ : Y), 17)) h1 ?_
 refine EvR.bind (g := fun k oX => if oX.toList = ([] : List UInt8) then some ((⟨#[]⟩ : Y), (4 : Int)) else (Yj.f k oX).bind fun rP => if rP = true then some (oX, 0) else some ((⟨#[]⟩ : Y), 17)) h2 ?_
 unfold Yif
 by_cases he : lowL (Ynb s.data.toList) = []
 ·refine EvR.of fun k => ?_
  rw [Ywc, if_pos he, if_pos he]; rfl
 ·simp only [Ywc, if_neg he]
  refine EvR.bind (g := fun k rP => if rP = true then some (ofL (lowL (Ynb s.data.toList)), (0 : Int)) else some ((⟨#[]⟩ : Y), 17)) h3 (EvR.of fun k => ?_)
  by_cases hn : Yri (lowL (Ynb s.data.toList)) = true
  ·rw [if_pos hn, if_pos hn]
  ·rw [if_neg hn, if_neg hn]; rfl
def Ypi (sch : Y) (h : List UInt8) : Y × Y × Int × Int :=
 if h.contains 64 = true then (⟨#[]⟩, ⟨#[]⟩, 0, 3) else
  if (Yif (h.takeWhile (Ydb [58]))).2 = 0 then
   if (h.dropWhile (Ydb [58])).drop 1 = [] then (sch, ofL (Yif (h.takeWhile (Ydb [58]))).1, 0, 0) else
    if (numL 65535 ((h.dropWhile (Ydb [58])).drop 1)).2 = 0 then
     (sch, ofL (Yif (h.takeWhile (Ydb [58]))).1, if (numL 65535 ((h.dropWhile (Ydb [58])).drop 1)).1 = ownN sch.data.toList then 0 else (numL 65535 ((h.dropWhile (Ydb [58])).drop 1)).1, 0)
    else (⟨#[]⟩, ⟨#[]⟩, 0, 3)
  else (⟨#[]⟩, ⟨#[]⟩, 0, (Yif (h.takeWhile (Ydb [58]))).2)
theorem Yxm (c b : UInt8) : Ydb [c] b = (b != c) := by
 unfold Ydb
 by_cases h : b = c <;> simp [h]
theorem take_lt (c : UInt8) (h : List UInt8) : (h.takeWhile (Ydb [c])).length < h.length ↔ h.contains c = true := by
 induction h with
 | nil => simp
 | cons b t ih =>
  by_cases hb : b = c
  ·subst hb
   rw [List.takeWhile_cons_of_neg (by rw [Yxm]; simp)]; simp
  ·rw [List.takeWhile_cons_of_pos (by rw [Yxm]; simpa using hb), List.length_cons, List.length_cons, List.contains_cons, beq_eq_false_iff_ne.2 (Ne.symm hb), Bool.false_or, ← ih]
   omega
theorem Yea {W : World} {g : Nat} {t : TypeId} {u1 u2 : Y} {u3 : Int} {u4 u5 u6 : Y} {u7 u8 : Bool} (h : W.heap[g]? = some (.cells (uc u1 u2 u3 u4 u5 u6 u7 u8) t (0, 0))) :
  W.cell? ⟨g, 0, none⟩ = some (.string u1) ∧ W.cell? ⟨g, 1, none⟩ = some (.string u2) ∧ W.cell? ⟨g, 2, none⟩ = some (.int .i64 u3) ∧ W.cell? ⟨g, 3, none⟩ = some (.string u4) ∧ W.cell? ⟨g, 4, none⟩ = some (.string u5) ∧ W.cell? ⟨g, 5, none⟩ = some (.string u6) ∧ W.cell? ⟨g, 6, none⟩ = some (.bool u7) ∧ W.cell? ⟨g, 7, none⟩ = some (.bool u8) :=
 ⟨(Yf h 0).trans rfl, (Yf h 1).trans rfl, (Yf h 2).trans rfl, (Yf h 3).trans rfl, (Yf h 4).trans rfl, (Yf h 5).trans rfl, (Yf h 6).trans rfl, (Yf h 7).trans rfl⟩
set_option maxHeartbeats 8000000 in
set_option maxRecDepth 100000 in
theorem Ycs (sch h q1 q2 : Y) (q3 q9 : Int) (w : World) (hE : EnvOk w) (hs : h.size ≤ 30000000) (hsch : sch.data.toList = Yeh ∨ sch.data.toList = Yzf) (hq : Ypi sch h.data.toList = (q1, q2, q3, q9)) :
  Calls Tryz.prog 50 #[.agg (uc sch ⟨#[]⟩ 0 ⟨#[]⟩ ⟨#[]⟩ ⟨#[]⟩ false false), .string h] w fun e w' => e = .returned (.tuple #[.agg (uc q1 q2 q3 ⟨#[]⟩ ⟨#[]⟩ ⟨#[]⟩ false false), .int .i64 q9]) ∧ Below w.heap.size w w' := by
 have HE := Ya.mk hE
 have bQ := Tryz.underlying25
 have bD : (Tryz.prog.info? 25).map (·.size) = some 8 := by kernel_rfl
 have hsz := Lib.size_eq h
 obtain ⟨n1, pM⟩ : ∃ n, n = (h.data.toList.takeWhile (Ydb [64])).length := ⟨_, rfl⟩
 obtain ⟨n2, hn2⟩ : ∃ n, n = (h.data.toList.takeWhile (Ydb [58])).length := ⟨_, rfl⟩
 have hn2s : n2 ≤ h.size := by rw [hn2, hsz]; exact Yse _ _
 obtain ⟨k1, uR⟩ := Yem h ⟨#[64]⟩ Zk Zca
 obtain ⟨k2, hk2⟩ := Yem h ⟨#[58]⟩ Zk Zca
 have HU1 := Ya.mk (show Yra.f k1 h ⟨#[64]⟩ = some ((n1 : Nat) : Int) from by rw [pM]; exact uR k1 (Kw _))
 have HU2 := Ya.mk (show Yra.f k2 h ⟨#[58]⟩ = some ((n2 : Nat) : Int) from by rw [hn2]; exact hk2 k2 (Kw _))
 have hx0 : h.extract 0 n2 = ofL (h.data.toList.takeWhile (Ydb [58])) := by
  rw [Yge, hn2]
  congr 1
  have := List.take_left (l₁ := h.data.toList.takeWhile (Ydb [58])) (l₂ := h.data.toList.dropWhile (Ydb [58]))
  rw [List.takeWhile_append_dropWhile] at this; exact this
 have wE : n2 < h.size → h.extract (n2 + 1) h.size = ofL ((h.data.toList.dropWhile (Ydb [58])).drop 1) := fun _ => by
  rw [Yuc, hn2]
  congr 1
  have := List.drop_left (l₁ := h.data.toList.takeWhile (Ydb [58])) (l₂ := h.data.toList.dropWhile (Ydb [58]))
  rw [List.takeWhile_append_dropWhile] at this
  conv => rhs; rw [← this]
  rw [List.drop_drop, Nat.add_comm]
 have qA : ¬ n2 < h.size → (h.data.toList.dropWhile (Ydb [58])).drop 1 = [] := fun hn => by
  have e := congrArg List.length (List.takeWhile_append_dropWhile (p := Ydb [58]) (l := h.data.toList))
  rw [List.length_append] at e
  rw [List.eq_nil_of_length_eq_zero (show (h.data.toList.dropWhile (Ydb [58])).length = 0 by omega)]; rfl
 obtain ⟨k3, hk3⟩ := rhost_f (h.extract 0 n2) Zpa
 rw [hx0, Ygb] at hk3
 obtain ⟨hb, hhb⟩ : ∃ x, x = ofL (Yif (h.data.toList.takeWhile (Ydb [58]))).1 := ⟨_, rfl⟩
 obtain ⟨sg, hsg⟩ : ∃ x, x = (Yif (h.data.toList.takeWhile (Ydb [58]))).2 := ⟨_, rfl⟩
 have HH := Ya.mk (show Yye.f k3 (h.extract 0 n2) = some (hb, sg) from by rw [hx0, hhb, hsg]; exact hk3 k3 (Kw _))
 have h64 : n1 < h.size ↔ h.data.toList.contains 64 = true := by rw [pM, hsz]; exact take_lt 64 _
 obtain ⟨rest, hrest⟩ : ∃ r, r = (h.data.toList.dropWhile (Ydb [58])).drop 1 := ⟨_, rfl⟩
 have hrl : rest.length ≤ h.size := by
  rw [hrest, hsz]; have := Yte (Ydb [58]) h.data.toList; rw [List.length_drop]; omega
 have cH : (if n1 < h.size then ((⟨#[]⟩ : Y), (⟨#[]⟩ : Y), (0 : Int), (3 : Int)) else if sg = 0 then (if rest = [] then (sch, hb, 0, 0) else if (numL 65535 rest).2 = 0 then (sch, hb, if (numL 65535 rest).1 = ownN sch.data.toList then 0 else (numL 65535 rest).1, 0) else (⟨#[]⟩, ⟨#[]⟩, 0, 3)) else (⟨#[]⟩, ⟨#[]⟩, 0, sg)) = (q1, q2, q3, q9) := by
  rw [← hq, hhb, hsg, hrest]
  unfold Ypi
  by_cases c : n1 < h.size
  ·rw [if_pos c, if_pos (h64.1 c)]
  ·rw [if_neg c, if_neg (fun e => c (h64.2 e))]
 rw [← hrest] at wE qA
 have hsc : ((sch.toList == ([104, 116, 116, 112] : List UInt8)) = true ∧ (sch.toList == ([104, 116, 116, 112, 115] : List UInt8)) = false ∧ Ya (ownN sch.data.toList = 80)) ∨ ((sch.toList == ([104, 116, 116, 112] : List UInt8)) = false ∧ (sch.toList == ([104, 116, 116, 112, 115] : List UInt8)) = true ∧ Ya (ownN sch.data.toList = 443)) := by
  rw [Lib.toList_data]
  rcases hsch with e | e
  ·rw [e]; exact .inl ⟨rfl, rfl, ⟨rfl⟩⟩
  ·rw [e]; exact .inr ⟨rfl, rfl, ⟨rfl⟩⟩
 have HQ := Ya.mk cH
 clear uR hk2 hk3 pM hn2 hx0 hhb hsg h64 hrest hq cH hE hsz hsch
 have HX1 := Ya.mk wE
 have HX2 := Ya.mk qA
 clear wE qA
 have hbkA := heap_alloc_new w (.cells (uc sch ⟨#[]⟩ 0 ⟨#[]⟩ ⟨#[]⟩ ⟨#[]⟩ false false) 25)
 have hbk := Ym hbkA (.cells urlZ 25)
 have HBA := Ya.mk ((Below.refl w.heap.size w).alloc (Kw _) (.cells (uc sch ⟨#[]⟩ 0 ⟨#[]⟩ ⟨#[]⟩ ⟨#[]⟩ false false) 25))
 have iB := Ya.mk (HBA.out.alloc HBA.out.size (.cells urlZ 25))
 have BK1 := Ya.mk hbk
 have zW := Ya.mk (heap_alloc_new (w.alloc (.cells (uc sch ⟨#[]⟩ 0 ⟨#[]⟩ ⟨#[]⟩ ⟨#[]⟩ false false) 25)) (.cells urlZ 25))
 rw [Yof] at zW
 have lM := Ya.mk (HE.out.below iB.out)
 clear hbk hbkA HBA
 by_cases c1 : n1 < h.size
 ·have d1 : decide ((n1 : Int) < (h.size : Int)) = true := Kr Zk
  have d2 : decide (n1 < h.size) = true := Kr c1
  have cH := HQ.out
  rw [if_pos c1] at cH
  simp only [Kea] at cH
  obtain ⟨rfl, rfl, rfl, rfl⟩ := cH
  clear c1 HQ
  go_enter Tryz.func50, Tryz.ntmps50
  go_wp2_with fail
  refine (Yra.calls k1 _ _ _ _ lM.out HU1.out).mono ?_
  rintro e w2' ⟨rfl, ⟨nd, rfl⟩⟩
  have BK2 := Ya.mk (Yi BK1.out nd)
  have tW := Ya.mk (Yi zW.out nd)
  have eL := Ya.mk (Yb iB.out nd)
  obtain ⟨w2, hw⟩ : ∃ W, W = ((w.alloc (.cells (uc sch ⟨#[]⟩ 0 ⟨#[]⟩ ⟨#[]⟩ ⟨#[]⟩ false false) 25)).alloc (.cells urlZ 25)).drewN nd := ⟨_, rfl⟩
  rw [← hw] at BK2 tW eL ⊢
  clear hw BK1 zW iB lM
  go_wp2_with ((with_reducible refine Yxa (t := 25) (p := 4) rfl ?_); refine wpList_store_row rfl 25 (.tmp 4) (.tmp 16) rfl (w.heap.size + 1) (uc ⟨#[]⟩ ⟨#[]⟩ 0 ⟨#[]⟩ ⟨#[]⟩ ⟨#[]⟩ false false) rfl rfl 25 _ tW.out bD rfl (Ypb _ _ _ _ _ _ _ _) ?_)
  refine bodyPost_ret (v := ?v16) ?hr16 ?hd16 ?_
  case hr16 => refine Yba (p := 4) (u := 5) (ty := 25) ?_ _ _ (w.heap.size + 1) 25 (uc ⟨#[]⟩ ⟨#[]⟩ 0 ⟨#[]⟩ ⟨#[]⟩ ⟨#[]⟩ false false) (0, 0) _ ?_ (setRow_heap _ _ _ _ _ _ tW.out) bQ rfl bD <;> rfl
  case hd16 => rfl
  exact ⟨rfl, below_setRow eL.out Zk _⟩
 ·have d1 : decide ((n1 : Int) < (h.size : Int)) = false := Ks Zk
  have d2 : decide (n1 < h.size) = false := Ks c1
  have cH := HQ.out
  rw [if_neg c1] at cH
  have zU := Ya.mk cH
  clear c1 HQ cH
  go_enter Tryz.func50, Tryz.ntmps50
  go_wp2_with fail
  refine (Yra.calls k1 _ _ _ _ lM.out HU1.out).mono ?_
  rintro e w2' ⟨rfl, ⟨nd, rfl⟩⟩
  have BK2 := Ya.mk (Yi BK1.out nd)
  have tW := Ya.mk (Yi zW.out nd)
  have eL := Ya.mk (Yb iB.out nd)
  obtain ⟨w2, hw⟩ : ∃ W, W = ((w.alloc (.cells (uc sch ⟨#[]⟩ 0 ⟨#[]⟩ ⟨#[]⟩ ⟨#[]⟩ false false) 25)).alloc (.cells urlZ 25)).drewN nd := ⟨_, rfl⟩
  rw [← hw] at BK2 tW eL ⊢
  clear hw BK1 zW iB lM
  go_wp2_with fail
  refine (Yra.calls k2 _ _ _ _ (HE.out.below eL.out) HU2.out).mono ?_
  rintro e w3' ⟨rfl, ⟨nd3, rfl⟩⟩
  have BK3 := Ya.mk (Yi BK2.out nd3)
  have yZ := Ya.mk (Yi tW.out nd3)
  have eF := Ya.mk (Yb eL.out nd3)
  obtain ⟨w3, hw⟩ : ∃ W, W = w2.drewN nd3 := ⟨_, rfl⟩
  rw [← hw] at BK3 yZ eF ⊢
  clear hw BK2 tW eL
  go_wp2_with fail
  refine (Yye.calls k3 _ _ _ _ (HE.out.below eF.out) HH.out).mono ?_
  rintro e w4 ⟨rfl, kW⟩
  have uV := Ya.mk (Yla BK3.out kW)
  have zA := Ya.mk (Yla yZ.out kW)
  have dL := Ya.mk (eF.out.trans (kW.mono eF.out.size))
  clear kW BK3 yZ eF
  by_cases c2 : sg = 0
  ·subst c2
   have cH := zU.out
   rw [if_pos rfl] at cH
   have HQ3 := Ya.mk cH
   clear cH zU
   obtain ⟨_, hcz, _⟩ := Yea uV.out
   have hfz := Ye uV.out 1
   have lR := Ya.mk (Yoa (cs' := uc sch hb 0 ⟨#[]⟩ ⟨#[]⟩ ⟨#[]⟩ false false) uV.out 1 (.string hb) rfl)
   have eB := Ya.mk (Yvb zA.out (p := ⟨w.heap.size, 1, none⟩) Zv (.string hb))
   have cM := Ya.mk (Yg (j := 1) (v := .string hb) dL.out (Kw _))
   clear uV zA dL
   have hno : (rest = [] ∧ ((decide ((n2 : Int) < (h.size : Int)) = false ∧ decide (n2 < h.size) = false) ∨ (n2 < h.size ∧ ((h.extract (n2 + 1) h.size).toList != ([] : List UInt8)) = false ∧ ((h.extract (n2 + 1) h.size).toList == ([] : List UInt8)) = true))) ∨ (rest ≠ [] ∧ n2 < h.size ∧ ((h.extract (n2 + 1) h.size).toList != ([] : List UInt8)) = true ∧ ((h.extract (n2 + 1) h.size).toList == ([] : List UInt8)) = false) := by
    by_cases c3 : n2 < h.size
    ·rw [HX1.out c3, Ywc]
     by_cases c4 : rest = []
     ·exact .inl ⟨c4, .inr ⟨c3, by rw [c4]; rfl, by rw [c4]; rfl⟩⟩
     ·exact .inr ⟨c4, c3, bne_iff_ne.2 c4, beq_eq_false_iff_ne.2 c4⟩
    ·exact .inl ⟨HX2.out c3, .inl ⟨Ks Zk, Ks c3⟩⟩
   rcases hno with ⟨hre, hc⟩ | ⟨hre, c3, e1, e2⟩
   ·have cH := HQ3.out
    rw [if_pos hre] at cH
    obtain ⟨p, hp0⟩ : ∃ p : Int, p = 0 := ⟨_, rfl⟩
    have HQF := Ya.mk (show sch = q1 ∧ hb = q2 ∧ (if p = ownN sch.data.toList then 0 else p) = q3 ∧ 0 = q9 from by
     simp only [Kea] at cH
     refine ⟨cH.1, cH.2.1, ?_, cH.2.2.2⟩
     rw [hp0]; split <;> exact cH.2.2.1)
    rw [← hp0] at lR
    clear cH HQ3 hre hp0
    rcases hc with ⟨d3, d4⟩ | ⟨c3, e1, e2⟩
    ·skip
     rcases hsc with ⟨s1, s2, HOwn⟩ | ⟨s1, s2, HOwn⟩
     ·by_cases hp : p = 80
      ·have ep : (p == 80) = true := beq_iff_eq.2 hp
       have jD := HQF.out
       rw [HOwn.out, if_pos hp] at jD
       obtain ⟨rfl, rfl, rfl, rfl⟩ := jD
       obtain ⟨qH, _, lL, _⟩ := Yea lR.out
       have hzf := Ye lR.out 2
       have BKn := Ya.mk (Yoa (cs' := uc sch hb 0 ⟨#[]⟩ ⟨#[]⟩ ⟨#[]⟩ false false) lR.out 2 (.int .i64 0) rfl)
       have BZn := Ya.mk (Yvb eB.out (p := ⟨w.heap.size, 2, none⟩) Zv (.int .i64 0))
       have HBn := Ya.mk (Yg (j := 2) (v := .int .i64 0) cM.out (Kw _))
       obtain ⟨cQ, cB, cN, cX, cU, cT, cY, cR⟩ := Yea BKn.out
       clear hp
       go_wp2_with ((with_reducible refine Yxa (t := 25) (p := 4) rfl ?_); refine wpList_store_row rfl 25 (.tmp 4) (.tmp 75) rfl (w.heap.size + 1) (uc sch hb 0 ⟨#[]⟩ ⟨#[]⟩ ⟨#[]⟩ false false) rfl rfl 25 _ BZn.out bD rfl (Ypb _ _ _ _ _ _ _ _) ?_)
       refine bodyPost_ret (v := ?vz1) ?hrz1 ?hdz1 ?_
       case hrz1 => refine Yba (p := 4) (u := 5) (ty := 25) ?_ _ _ (w.heap.size + 1) 25 (uc sch hb 0 ⟨#[]⟩ ⟨#[]⟩ ⟨#[]⟩ false false) (0, 0) _ ?_ (setRow_heap _ _ _ _ _ _ BZn.out) bQ rfl bD <;> rfl
       case hdz1 => rfl
       exact ⟨rfl, below_setRow HBn.out Zk _⟩
      ·have ep : (p == 80) = false := beq_eq_false_iff_ne.2 hp
       have jD := HQF.out
       rw [HOwn.out, if_neg hp] at jD
       obtain ⟨rfl, rfl, rfl, rfl⟩ := jD
       obtain ⟨cQ, cB, cN, cX, cU, cT, cY, cR⟩ := Yea lR.out
       clear hp
       go_wp2_with ((with_reducible refine Yxa (t := 25) (p := 4) rfl ?_); refine wpList_store_row rfl 25 (.tmp 4) (.tmp 75) rfl (w.heap.size + 1) (uc sch hb p ⟨#[]⟩ ⟨#[]⟩ ⟨#[]⟩ false false) rfl rfl 25 _ eB.out bD rfl (Ypb _ _ _ _ _ _ _ _) ?_)
       refine bodyPost_ret (v := ?vz2) ?hrz2 ?hdz2 ?_
       case hrz2 => refine Yba (p := 4) (u := 5) (ty := 25) ?_ _ _ (w.heap.size + 1) 25 (uc sch hb p ⟨#[]⟩ ⟨#[]⟩ ⟨#[]⟩ false false) (0, 0) _ ?_ (setRow_heap _ _ _ _ _ _ eB.out) bQ rfl bD <;> rfl
       case hdz2 => rfl
       exact ⟨rfl, below_setRow cM.out Zk _⟩
     ·by_cases hp : p = 443
      ·have ep : (p == 443) = true := beq_iff_eq.2 hp
       have jD := HQF.out
       rw [HOwn.out, if_pos hp] at jD
       obtain ⟨rfl, rfl, rfl, rfl⟩ := jD
       obtain ⟨qH, _, lL, _⟩ := Yea lR.out
       have hzf := Ye lR.out 2
       have BKn := Ya.mk (Yoa (cs' := uc sch hb 0 ⟨#[]⟩ ⟨#[]⟩ ⟨#[]⟩ false false) lR.out 2 (.int .i64 0) rfl)
       have BZn := Ya.mk (Yvb eB.out (p := ⟨w.heap.size, 2, none⟩) Zv (.int .i64 0))
       have HBn := Ya.mk (Yg (j := 2) (v := .int .i64 0) cM.out (Kw _))
       obtain ⟨cQ, cB, cN, cX, cU, cT, cY, cR⟩ := Yea BKn.out
       clear hp
       go_wp2_with ((with_reducible refine Yxa (t := 25) (p := 4) rfl ?_); refine wpList_store_row rfl 25 (.tmp 4) (.tmp 75) rfl (w.heap.size + 1) (uc sch hb 0 ⟨#[]⟩ ⟨#[]⟩ ⟨#[]⟩ false false) rfl rfl 25 _ BZn.out bD rfl (Ypb _ _ _ _ _ _ _ _) ?_)
       refine bodyPost_ret (v := ?vz3) ?hrz3 ?hdz3 ?_
       case hrz3 => refine Yba (p := 4) (u := 5) (ty := 25) ?_ _ _ (w.heap.size + 1) 25 (uc sch hb 0 ⟨#[]⟩ ⟨#[]⟩ ⟨#[]⟩ false false) (0, 0) _ ?_ (setRow_heap _ _ _ _ _ _ BZn.out) bQ rfl bD <;> rfl
       case hdz3 => rfl
       exact ⟨rfl, below_setRow HBn.out Zk _⟩
      ·have ep : (p == 443) = false := beq_eq_false_iff_ne.2 hp
       have jD := HQF.out
       rw [HOwn.out, if_neg hp] at jD
       obtain ⟨rfl, rfl, rfl, rfl⟩ := jD
       obtain ⟨cQ, cB, cN, cX, cU, cT, cY, cR⟩ := Yea lR.out
       clear hp
       go_wp2_with ((with_reducible refine Yxa (t := 25) (p := 4) rfl ?_); refine wpList_store_row rfl 25 (.tmp 4) (.tmp 75) rfl (w.heap.size + 1) (uc sch hb p ⟨#[]⟩ ⟨#[]⟩ ⟨#[]⟩ false false) rfl rfl 25 _ eB.out bD rfl (Ypb _ _ _ _ _ _ _ _) ?_)
       refine bodyPost_ret (v := ?vz4) ?hrz4 ?hdz4 ?_
       case hrz4 => refine Yba (p := 4) (u := 5) (ty := 25) ?_ _ _ (w.heap.size + 1) 25 (uc sch hb p ⟨#[]⟩ ⟨#[]⟩ ⟨#[]⟩ false false) (0, 0) _ ?_ (setRow_heap _ _ _ _ _ _ eB.out) bQ rfl bD <;> rfl
       case hdz4 => rfl
       exact ⟨rfl, below_setRow cM.out Zk _⟩
    ·have d3 : decide ((n2 : Int) < (h.size : Int)) = true := Kr Zk
     have d4 : decide (n2 < h.size) = true := Kr c3
     have b3 : ((n2 + 1 : Nat) : Int) ≤ (h.size : Int) := by omega
     have b4 : (n2 : Int) + 1 ≤ (h.size : Int) := by omega
     have hw9 : wrap64 ((n2 : Int) + 1) = ((n2 + 1 : Nat) : Int) := by unfold wrap64; omega
     rcases hsc with ⟨s1, s2, HOwn⟩ | ⟨s1, s2, HOwn⟩
     ·by_cases hp : p = 80
      ·have ep : (p == 80) = true := beq_iff_eq.2 hp
       have jD := HQF.out
       rw [HOwn.out, if_pos hp] at jD
       obtain ⟨rfl, rfl, rfl, rfl⟩ := jD
       obtain ⟨qH, _, lL, _⟩ := Yea lR.out
       have hzf := Ye lR.out 2
       have BKn := Ya.mk (Yoa (cs' := uc sch hb 0 ⟨#[]⟩ ⟨#[]⟩ ⟨#[]⟩ false false) lR.out 2 (.int .i64 0) rfl)
       have BZn := Ya.mk (Yvb eB.out (p := ⟨w.heap.size, 2, none⟩) Zv (.int .i64 0))
       have HBn := Ya.mk (Yg (j := 2) (v := .int .i64 0) cM.out (Kw _))
       obtain ⟨cQ, cB, cN, cX, cU, cT, cY, cR⟩ := Yea BKn.out
       clear hp
       go_wp2_with ((with_reducible refine Yxa (t := 25) (p := 4) rfl ?_); refine wpList_store_row rfl 25 (.tmp 4) (.tmp 75) rfl (w.heap.size + 1) (uc sch hb 0 ⟨#[]⟩ ⟨#[]⟩ ⟨#[]⟩ false false) rfl rfl 25 _ BZn.out bD rfl (Ypb _ _ _ _ _ _ _ _) ?_)
       refine bodyPost_ret (v := ?vz5) ?hrz5 ?hdz5 ?_
       case hrz5 => refine Yba (p := 4) (u := 5) (ty := 25) ?_ _ _ (w.heap.size + 1) 25 (uc sch hb 0 ⟨#[]⟩ ⟨#[]⟩ ⟨#[]⟩ false false) (0, 0) _ ?_ (setRow_heap _ _ _ _ _ _ BZn.out) bQ rfl bD <;> rfl
       case hdz5 => rfl
       exact ⟨rfl, below_setRow HBn.out Zk _⟩
      ·have ep : (p == 80) = false := beq_eq_false_iff_ne.2 hp
       have jD := HQF.out
       rw [HOwn.out, if_neg hp] at jD
       obtain ⟨rfl, rfl, rfl, rfl⟩ := jD
       obtain ⟨cQ, cB, cN, cX, cU, cT, cY, cR⟩ := Yea lR.out
       clear hp
       go_wp2_with ((with_reducible refine Yxa (t := 25) (p := 4) rfl ?_); refine wpList_store_row rfl 25 (.tmp 4) (.tmp 75) rfl (w.heap.size + 1) (uc sch hb p ⟨#[]⟩ ⟨#[]⟩ ⟨#[]⟩ false false) rfl rfl 25 _ eB.out bD rfl (Ypb _ _ _ _ _ _ _ _) ?_)
       refine bodyPost_ret (v := ?vz6) ?hrz6 ?hdz6 ?_
       case hrz6 => refine Yba (p := 4) (u := 5) (ty := 25) ?_ _ _ (w.heap.size + 1) 25 (uc sch hb p ⟨#[]⟩ ⟨#[]⟩ ⟨#[]⟩ false false) (0, 0) _ ?_ (setRow_heap _ _ _ _ _ _ eB.out) bQ rfl bD <;> rfl
       case hdz6 => rfl
       exact ⟨rfl, below_setRow cM.out Zk _⟩
     ·by_cases hp : p = 443
      ·have ep : (p == 443) = true := beq_iff_eq.2 hp
       have jD := HQF.out
       rw [HOwn.out, if_pos hp] at jD
       obtain ⟨rfl, rfl, rfl, rfl⟩ := jD
       obtain ⟨qH, _, lL, _⟩ := Yea lR.out
       have hzf := Ye lR.out 2
       have BKn := Ya.mk (Yoa (cs' := uc sch hb 0 ⟨#[]⟩ ⟨#[]⟩ ⟨#[]⟩ false false) lR.out 2 (.int .i64 0) rfl)
       have BZn := Ya.mk (Yvb eB.out (p := ⟨w.heap.size, 2, none⟩) Zv (.int .i64 0))
       have HBn := Ya.mk (Yg (j := 2) (v := .int .i64 0) cM.out (Kw _))
       obtain ⟨cQ, cB, cN, cX, cU, cT, cY, cR⟩ := Yea BKn.out
       clear hp
       go_wp2_with ((with_reducible refine Yxa (t := 25) (p := 4) rfl ?_); refine wpList_store_row rfl 25 (.tmp 4) (.tmp 75) rfl (w.heap.size + 1) (uc sch hb 0 ⟨#[]⟩ ⟨#[]⟩ ⟨#[]⟩ false false) rfl rfl 25 _ BZn.out bD rfl (Ypb _ _ _ _ _ _ _ _) ?_)
       refine bodyPost_ret (v := ?vz7) ?hrz7 ?hdz7 ?_
       case hrz7 => refine Yba (p := 4) (u := 5) (ty := 25) ?_ _ _ (w.heap.size + 1) 25 (uc sch hb 0 ⟨#[]⟩ ⟨#[]⟩ ⟨#[]⟩ false false) (0, 0) _ ?_ (setRow_heap _ _ _ _ _ _ BZn.out) bQ rfl bD <;> rfl
       case hdz7 => rfl
       exact ⟨rfl, below_setRow HBn.out Zk _⟩
      ·have ep : (p == 443) = false := beq_eq_false_iff_ne.2 hp
       have jD := HQF.out
       rw [HOwn.out, if_neg hp] at jD
       obtain ⟨rfl, rfl, rfl, rfl⟩ := jD
       obtain ⟨cQ, cB, cN, cX, cU, cT, cY, cR⟩ := Yea lR.out
       clear hp
       go_wp2_with ((with_reducible refine Yxa (t := 25) (p := 4) rfl ?_); refine wpList_store_row rfl 25 (.tmp 4) (.tmp 75) rfl (w.heap.size + 1) (uc sch hb p ⟨#[]⟩ ⟨#[]⟩ ⟨#[]⟩ false false) rfl rfl 25 _ eB.out bD rfl (Ypb _ _ _ _ _ _ _ _) ?_)
       refine bodyPost_ret (v := ?vz8) ?hrz8 ?hdz8 ?_
       case hrz8 => refine Yba (p := 4) (u := 5) (ty := 25) ?_ _ _ (w.heap.size + 1) 25 (uc sch hb p ⟨#[]⟩ ⟨#[]⟩ ⟨#[]⟩ false false) (0, 0) _ ?_ (setRow_heap _ _ _ _ _ _ eB.out) bQ rfl bD <;> rfl
       case hdz8 => rfl
       exact ⟨rfl, below_setRow cM.out Zk _⟩
   ·have cH := HQ3.out
    rw [if_neg hre] at cH
    have HQ4 := Ya.mk cH
    have d3 : decide ((n2 : Int) < (h.size : Int)) = true := Kr Zk
    have d4 : decide (n2 < h.size) = true := Kr c3
    have b3 : ((n2 + 1 : Nat) : Int) ≤ (h.size : Int) := by omega
    have b4 : (n2 : Int) + 1 ≤ (h.size : Int) := by omega
    have hw9 : wrap64 ((n2 : Int) + 1) = ((n2 + 1 : Nat) : Int) := by unfold wrap64; omega
    obtain ⟨k4, hk4⟩ := Yan (ofL rest) 65535 Zk Zk Zda
    obtain ⟨pn, hpn⟩ : ∃ x, x = (numL 65535 rest).1 := ⟨_, rfl⟩
    obtain ⟨ps, hps⟩ : ∃ x, x = (numL 65535 rest).2 := ⟨_, rfl⟩
    have HN := Ya.mk (show Yz.f k4 (h.extract (n2 + 1) h.size) 65535 = some (pn, ps) from by
     rw [HX1.out c3, hpn, hps]; have := hk4 k4 (Kw _); rw [Ygb] at this; exact this)
    rw [← hpn, ← hps] at HQ4
    clear hk4 hpn hps cH HQ3 hre c3
    go_wp2_with fail
    refine (Yz.calls k4 _ _ _ _ _ (HE.out.below cM.out) HN.out).mono ?_
    rintro e w6' ⟨rfl, ⟨nd6, rfl⟩⟩
    have BK6 := Ya.mk (Yi lR.out nd6)
    have BZ6 := Ya.mk (Yi eB.out nd6)
    have jH := Ya.mk (Yb cM.out nd6)
    obtain ⟨w6, hw⟩ : ∃ W, W = (w4.setCell ⟨w.heap.size, 1, none⟩ (.string hb)).drewN nd6 := ⟨_, rfl⟩
    rw [← hw] at BK6 BZ6 jH ⊢
    clear hw lR eB cM
    clear hcz hfz
    by_cases c5 : ps = 0
    ·subst c5
     have cH := HQ4.out
     rw [if_pos rfl] at cH
     have HQF := Ya.mk (show sch = q1 ∧ hb = q2 ∧ (if pn = ownN sch.data.toList then 0 else pn) = q3 ∧ 0 = q9 from by
      simp only [Kea] at cH; exact cH)
     obtain ⟨p, hpp⟩ : ∃ p, p = pn := ⟨_, rfl⟩
     rw [← hpp] at HQF ⊢
     clear hpp cH HQ4
     obtain ⟨_, _, hcy, _⟩ := Yea BK6.out
     have hfy := Ye BK6.out 2
     have pD := Ya.mk (Yoa (cs' := uc sch hb p ⟨#[]⟩ ⟨#[]⟩ ⟨#[]⟩ false false) BK6.out 2 (.int .i64 p) rfl)
     have BZ7 := Ya.mk (Yvb BZ6.out (p := ⟨w.heap.size, 2, none⟩) Zv (.int .i64 p))
     have HB7 := Ya.mk (Yg (j := 2) (v := .int .i64 p) jH.out (Kw _))
     rcases hsc with ⟨s1, s2, HOwn⟩ | ⟨s1, s2, HOwn⟩
     ·by_cases hp : p = 80
      ·have ep : (p == 80) = true := beq_iff_eq.2 hp
       have jD := HQF.out
       rw [HOwn.out, if_pos hp] at jD
       obtain ⟨rfl, rfl, rfl, rfl⟩ := jD
       obtain ⟨qH, _, lL, _⟩ := Yea pD.out
       have hzf := Ye pD.out 2
       have BKn := Ya.mk (Yoa (cs' := uc sch hb 0 ⟨#[]⟩ ⟨#[]⟩ ⟨#[]⟩ false false) pD.out 2 (.int .i64 0) rfl)
       have BZn := Ya.mk (Yvb BZ7.out (p := ⟨w.heap.size, 2, none⟩) Zv (.int .i64 0))
       have HBn := Ya.mk (Yg (j := 2) (v := .int .i64 0) HB7.out (Kw _))
       obtain ⟨cQ, cB, cN, cX, cU, cT, cY, cR⟩ := Yea BKn.out
       clear hp
       go_wp2_with ((with_reducible refine Yxa (t := 25) (p := 4) rfl ?_); refine wpList_store_row rfl 25 (.tmp 4) (.tmp 75) rfl (w.heap.size + 1) (uc sch hb 0 ⟨#[]⟩ ⟨#[]⟩ ⟨#[]⟩ false false) rfl rfl 25 _ BZn.out bD rfl (Ypb _ _ _ _ _ _ _ _) ?_)
       refine bodyPost_ret (v := ?vz9) ?hrz9 ?hdz9 ?_
       case hrz9 => refine Yba (p := 4) (u := 5) (ty := 25) ?_ _ _ (w.heap.size + 1) 25 (uc sch hb 0 ⟨#[]⟩ ⟨#[]⟩ ⟨#[]⟩ false false) (0, 0) _ ?_ (setRow_heap _ _ _ _ _ _ BZn.out) bQ rfl bD <;> rfl
       case hdz9 => rfl
       exact ⟨rfl, below_setRow HBn.out Zk _⟩
      ·have ep : (p == 80) = false := beq_eq_false_iff_ne.2 hp
       have jD := HQF.out
       rw [HOwn.out, if_neg hp] at jD
       obtain ⟨rfl, rfl, rfl, rfl⟩ := jD
       obtain ⟨cQ, cB, cN, cX, cU, cT, cY, cR⟩ := Yea pD.out
       clear hp
       go_wp2_with ((with_reducible refine Yxa (t := 25) (p := 4) rfl ?_); refine wpList_store_row rfl 25 (.tmp 4) (.tmp 75) rfl (w.heap.size + 1) (uc sch hb p ⟨#[]⟩ ⟨#[]⟩ ⟨#[]⟩ false false) rfl rfl 25 _ BZ7.out bD rfl (Ypb _ _ _ _ _ _ _ _) ?_)
       refine bodyPost_ret (v := ?vz10) ?hrz10 ?hdz10 ?_
       case hrz10 => refine Yba (p := 4) (u := 5) (ty := 25) ?_ _ _ (w.heap.size + 1) 25 (uc sch hb p ⟨#[]⟩ ⟨#[]⟩ ⟨#[]⟩ false false) (0, 0) _ ?_ (setRow_heap _ _ _ _ _ _ BZ7.out) bQ rfl bD <;> rfl
       case hdz10 => rfl
       exact ⟨rfl, below_setRow HB7.out Zk _⟩
     ·by_cases hp : p = 443
      ·have ep : (p == 443) = true := beq_iff_eq.2 hp
       have jD := HQF.out
       rw [HOwn.out, if_pos hp] at jD
       obtain ⟨rfl, rfl, rfl, rfl⟩ := jD
       obtain ⟨qH, _, lL, _⟩ := Yea pD.out
       have hzf := Ye pD.out 2
       have BKn := Ya.mk (Yoa (cs' := uc sch hb 0 ⟨#[]⟩ ⟨#[]⟩ ⟨#[]⟩ false false) pD.out 2 (.int .i64 0) rfl)
       have BZn := Ya.mk (Yvb BZ7.out (p := ⟨w.heap.size, 2, none⟩) Zv (.int .i64 0))
       have HBn := Ya.mk (Yg (j := 2) (v := .int .i64 0) HB7.out (Kw _))
       obtain ⟨cQ, cB, cN, cX, cU, cT, cY, cR⟩ := Yea BKn.out
       clear hp
       go_wp2_with ((with_reducible refine Yxa (t := 25) (p := 4) rfl ?_); refine wpList_store_row rfl 25 (.tmp 4) (.tmp 75) rfl (w.heap.size + 1) (uc sch hb 0 ⟨#[]⟩ ⟨#[]⟩ ⟨#[]⟩ false false) rfl rfl 25 _ BZn.out bD rfl (Ypb _ _ _ _ _ _ _ _) ?_)
       refine bodyPost_ret (v := ?vz11) ?hrz11 ?hdz11 ?_
       case hrz11 => refine Yba (p := 4) (u := 5) (ty := 25) ?_ _ _ (w.heap.size + 1) 25 (uc sch hb 0 ⟨#[]⟩ ⟨#[]⟩ ⟨#[]⟩ false false) (0, 0) _ ?_ (setRow_heap _ _ _ _ _ _ BZn.out) bQ rfl bD <;> rfl
       case hdz11 => rfl
       exact ⟨rfl, below_setRow HBn.out Zk _⟩
      ·have ep : (p == 443) = false := beq_eq_false_iff_ne.2 hp
       have jD := HQF.out
       rw [HOwn.out, if_neg hp] at jD
       obtain ⟨rfl, rfl, rfl, rfl⟩ := jD
       obtain ⟨cQ, cB, cN, cX, cU, cT, cY, cR⟩ := Yea pD.out
       clear hp
       go_wp2_with ((with_reducible refine Yxa (t := 25) (p := 4) rfl ?_); refine wpList_store_row rfl 25 (.tmp 4) (.tmp 75) rfl (w.heap.size + 1) (uc sch hb p ⟨#[]⟩ ⟨#[]⟩ ⟨#[]⟩ false false) rfl rfl 25 _ BZ7.out bD rfl (Ypb _ _ _ _ _ _ _ _) ?_)
       refine bodyPost_ret (v := ?vz12) ?hrz12 ?hdz12 ?_
       case hrz12 => refine Yba (p := 4) (u := 5) (ty := 25) ?_ _ _ (w.heap.size + 1) 25 (uc sch hb p ⟨#[]⟩ ⟨#[]⟩ ⟨#[]⟩ false false) (0, 0) _ ?_ (setRow_heap _ _ _ _ _ _ BZ7.out) bQ rfl bD <;> rfl
       case hdz12 => rfl
       exact ⟨rfl, below_setRow HB7.out Zk _⟩
    ·have d5 : decide (ps = 0) = false := Ks c5
     have d6 : (ps == 0) = false := beq_eq_false_iff_ne.2 c5
     have cH := HQ4.out
     rw [if_neg c5] at cH
     simp only [Kea] at cH
     obtain ⟨rfl, rfl, rfl, rfl⟩ := cH
     clear c5 HQ4
     go_wp2_with ((with_reducible refine Yxa (t := 25) (p := 4) rfl ?_); refine wpList_store_row rfl 25 (.tmp 4) (.tmp 53) rfl (w.heap.size + 1) (uc ⟨#[]⟩ ⟨#[]⟩ 0 ⟨#[]⟩ ⟨#[]⟩ ⟨#[]⟩ false false) rfl rfl 25 _ BZ6.out bD rfl (Ypb _ _ _ _ _ _ _ _) ?_)
     refine bodyPost_ret (v := ?v53) ?hr53 ?hd53 ?_
     case hr53 => refine Yba (p := 4) (u := 5) (ty := 25) ?_ _ _ (w.heap.size + 1) 25 (uc ⟨#[]⟩ ⟨#[]⟩ 0 ⟨#[]⟩ ⟨#[]⟩ ⟨#[]⟩ false false) (0, 0) _ ?_ (setRow_heap _ _ _ _ _ _ BZ6.out) bQ rfl bD <;> rfl
     case hd53 => rfl
     exact ⟨rfl, below_setRow jH.out Zk _⟩
  ·have d5 : decide (sg = 0) = false := Ks c2
   have d6 : (sg == 0) = false := beq_eq_false_iff_ne.2 c2
   have cH := zU.out
   rw [if_neg c2] at cH
   simp only [Kea] at cH
   obtain ⟨rfl, rfl, rfl, rfl⟩ := cH
   clear c2 zU
   go_wp2_with ((with_reducible refine Yxa (t := 25) (p := 4) rfl ?_); refine wpList_store_row rfl 25 (.tmp 4) (.tmp 28) rfl (w.heap.size + 1) (uc ⟨#[]⟩ ⟨#[]⟩ 0 ⟨#[]⟩ ⟨#[]⟩ ⟨#[]⟩ false false) rfl rfl 25 _ zA.out bD rfl (Ypb _ _ _ _ _ _ _ _) ?_)
   refine bodyPost_ret (v := ?v28) ?hr28 ?hd28 ?_
   case hr28 => refine Yba (p := 4) (u := 5) (ty := 25) ?_ _ _ (w.heap.size + 1) 25 (uc ⟨#[]⟩ ⟨#[]⟩ 0 ⟨#[]⟩ ⟨#[]⟩ ⟨#[]⟩ false false) (0, 0) _ ?_ (setRow_heap _ _ _ _ _ _ zA.out) bQ rfl bD <;> rfl
   case hd28 => rfl
   exact ⟨rfl, below_setRow dL.out Zk _⟩
end Go.Proofs.YtnmglnglbdpjjaaGreatDoor.X
