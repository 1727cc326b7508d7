import Derived.Test.YtihaeeldgimdiaaGreatDoorIUZt
import Derived.Test.YtihaeeldgimdiaaGreatDoorIUZs
import Derived.Test.YtihaeeldgimdiaaGreatDoorIUX15
set_option linter.all false
namespace Go.Proofs.YtihaeeldgimdiaaGreatDoor.X
open Go.RowKit Go.Lib Go.Shelf Go.Yw.PrintWords Go.Yw.PrintLast Go.Yw.PrintMore
theorem rhost_f (s : Y) (hs : s.size ≤ 90000000) : EvR (fun k => Ybe.f k s) (ofL (Ywe s.data.toList).1, (Ywe s.data.toList).2) := by
 have hu := Yuj _ s.data.toList (Ks _)
 rw [← Lib.size_eq] at hu
 have h1 := runmark_f s Zj
 have h2 := Yiq (ofL (Yhb s.data.toList)) Zha
 rw [Ytb] at h2
 have h3 := rname_f (ofL (lowL (Yhb s.data.toList))) (by rw [Yfa, Yqg]; omega)
 rw [Ytb, nameR_low] at h3
 unfold Ybe.f
 refine EvR.bind (g := fun k aYG => (Yda.f k aYG).bind fun wW => if wW.toList = ([] : List UInt8) then some ((⟨#[]⟩ : Y), (4 : Int)) else (Yi.f k wW).bind fun aBZ => if aBZ = true then some (wW, 0) else some ((⟨#[]⟩ : Y), 17)) h1 ?_
 refine EvR.bind (g := fun k wW => if wW.toList = ([] : List UInt8) then some ((⟨#[]⟩ : Y), (4 : Int)) else (Yi.f k wW).bind fun aBZ => if aBZ = true then some (wW, 0) else some ((⟨#[]⟩ : Y), 17)) h2 ?_
 unfold Ywe
 by_cases he : lowL (Yhb s.data.toList) = []
 ·refine EvR.of fun k => ?_
  rw [Yjd, if_pos he, if_pos he]; rfl
 ·simp only [Yjd, if_neg he]
  refine EvR.bind (g := fun k aBZ => if aBZ = true then some (ofL (lowL (Yhb s.data.toList)), (0 : Int)) else some ((⟨#[]⟩ : Y), 17)) h3 (EvR.of fun k => ?_)
  by_cases hn : Ylj (lowL (Yhb s.data.toList)) = true
  ·rw [if_pos hn, if_pos hn]
  ·rw [if_neg hn, if_neg hn]; rfl
def Ybi (sch : Y) (h : List UInt8) : Y × Y × Int × Int :=
 if h.contains 64 = true then (⟨#[]⟩, ⟨#[]⟩, 0, 3) else
  if (Ywe (h.takeWhile (Yza [58]))).2 = 0 then
   if (h.dropWhile (Yza [58])).drop 1 = [] then (sch, ofL (Ywe (h.takeWhile (Yza [58]))).1, 0, 0) else
    if (numL 65535 ((h.dropWhile (Yza [58])).drop 1)).2 = 0 then
     (sch, ofL (Ywe (h.takeWhile (Yza [58]))).1, if (numL 65535 ((h.dropWhile (Yza [58])).drop 1)).1 = ownN sch.data.toList then 0 else (numL 65535 ((h.dropWhile (Yza [58])).drop 1)).1, 0)
    else (⟨#[]⟩, ⟨#[]⟩, 0, 3)
  else (⟨#[]⟩, ⟨#[]⟩, 0, (Ywe (h.takeWhile (Yza [58]))).2)
theorem Yzl (c b : UInt8) : Yza [c] b = (b != c) := by
 unfold Yza
 by_cases h : b = c <;> simp [h]
theorem take_lt (c : UInt8) (h : List UInt8) : (h.takeWhile (Yza [c])).length < h.length ↔ h.contains c = true := by
 induction h with
 | nil => simp
 | cons b t ih =>
  by_cases hb : b = c
  ·subst hb
   rw [List.takeWhile_cons_of_neg (by rw [Yzl]; simp)]; simp
  ·rw [List.takeWhile_cons_of_pos (by rw [Yzl]; simpa using hb), List.length_cons, List.length_cons, List.contains_cons, beq_eq_false_iff_ne.2 (Ne.symm hb), Bool.false_or, ← ih]
   omega
theorem Ylc {W : World} {g : Nat} {t : TypeId} {u1 u2 : Y} {u3 : Int} {u4 u5 u6 : Y} {u7 u8 : Bool} (h : W.heap[g]? = some (.cells (uc u1 u2 u3 u4 u5 u6 u7 u8) t (0, 0))) :
  W.cell? ⟨g, 0, none⟩ = some (.string u1) ∧ W.cell? ⟨g, 1, none⟩ = some (.string u2) ∧ W.cell? ⟨g, 2, none⟩ = some (.int .i64 u3) ∧ W.cell? ⟨g, 3, none⟩ = some (.string u4) ∧ W.cell? ⟨g, 4, none⟩ = some (.string u5) ∧ W.cell? ⟨g, 5, none⟩ = some (.string u6) ∧ W.cell? ⟨g, 6, none⟩ = some (.bool u7) ∧ W.cell? ⟨g, 7, none⟩ = some (.bool u8) :=
 ⟨(Yf h 0).trans rfl, (Yf h 1).trans rfl, (Yf h 2).trans rfl, (Yf h 3).trans rfl, (Yf h 4).trans rfl, (Yf h 5).trans rfl, (Yf h 6).trans rfl, (Yf h 7).trans rfl⟩
set_option maxHeartbeats 8000000 in
set_option maxRecDepth 100000 in
theorem Yzp (sch h q1 q2 : Y) (q3 q9 : Int) (w : World) (hE : EnvOk w) (hs : h.size ≤ 30000000) (hsch : sch.data.toList = Yxg ∨ sch.data.toList = Ybg) (hq : Ybi sch h.data.toList = (q1, q2, q3, q9)) :
  Calls Tryz.prog 36 #[.agg (uc sch ⟨#[]⟩ 0 ⟨#[]⟩ ⟨#[]⟩ ⟨#[]⟩ false false), .string h] w fun e w' => e = .returned (.tuple #[.agg (uc q1 q2 q3 ⟨#[]⟩ ⟨#[]⟩ ⟨#[]⟩ false false), .int .i64 q9]) ∧ Below w.heap.size w w' := by
 have HE := Ya.mk hE
 have cV := Tryz.underlying46
 have bJ : (Tryz.prog.info? 46).map (·.size) = some 8 := by kernel_rfl
 have hsz := Lib.size_eq h
 obtain ⟨n1, pE⟩ : ∃ n, n = (h.data.toList.takeWhile (Yza [64])).length := ⟨_, rfl⟩
 obtain ⟨n2, hn2⟩ : ∃ n, n = (h.data.toList.takeWhile (Yza [58])).length := ⟨_, rfl⟩
 have hn2s : n2 ≤ h.size := by rw [hn2, hsz]; exact Yud _ _
 obtain ⟨k1, mM⟩ := Yvl h ⟨#[64]⟩ Zj Zw
 obtain ⟨k2, zV⟩ := Yvl h ⟨#[58]⟩ Zj Zw
 have HU1 := Ya.mk (show Yia.f k1 h ⟨#[64]⟩ = some ((n1 : Nat) : Int) from by rw [pE]; exact mM k1 (Ks _))
 have HU2 := Ya.mk (show Yia.f k2 h ⟨#[58]⟩ = some ((n2 : Nat) : Int) from by rw [hn2]; exact zV k2 (Ks _))
 have hx0 : h.extract 0 n2 = ofL (h.data.toList.takeWhile (Yza [58])) := by
  rw [Yxe, hn2]
  congr 1
  have := List.take_left (l₁ := h.data.toList.takeWhile (Yza [58])) (l₂ := h.data.toList.dropWhile (Yza [58]))
  rw [List.takeWhile_append_dropWhile] at this; exact this
 have uN : n2 < h.size → h.extract (n2 + 1) h.size = ofL ((h.data.toList.dropWhile (Yza [58])).drop 1) := fun _ => by
  rw [Ytc, hn2]
  congr 1
  have := List.drop_left (l₁ := h.data.toList.takeWhile (Yza [58])) (l₂ := h.data.toList.dropWhile (Yza [58]))
  rw [List.takeWhile_append_dropWhile] at this
  conv => rhs; rw [← this]
  rw [List.drop_drop, Nat.add_comm]
 have wP : ¬ n2 < h.size → (h.data.toList.dropWhile (Yza [58])).drop 1 = [] := fun hn => by
  have e := congrArg List.length (List.takeWhile_append_dropWhile (p := Yza [58]) (l := h.data.toList))
  rw [List.length_append] at e
  rw [List.eq_nil_of_length_eq_zero (show (h.data.toList.dropWhile (Yza [58])).length = 0 by omega)]; rfl
 obtain ⟨k3, hk3⟩ := rhost_f (h.extract 0 n2) Zoa
 rw [hx0, Ytb] at hk3
 obtain ⟨hb, hhb⟩ : ∃ x, x = ofL (Ywe (h.data.toList.takeWhile (Yza [58]))).1 := ⟨_, rfl⟩
 obtain ⟨sg, hsg⟩ : ∃ x, x = (Ywe (h.data.toList.takeWhile (Yza [58]))).2 := ⟨_, rfl⟩
 have HH := Ya.mk (show Ybe.f k3 (h.extract 0 n2) = some (hb, sg) from by rw [hx0, hhb, hsg]; exact hk3 k3 (Ks _))
 have h64 : n1 < h.size ↔ h.data.toList.contains 64 = true := by rw [pE, hsz]; exact take_lt 64 _
 obtain ⟨rest, hrest⟩ : ∃ r, r = (h.data.toList.dropWhile (Yza [58])).drop 1 := ⟨_, rfl⟩
 have hrl : rest.length ≤ h.size := by
  rw [hrest, hsz]; have := Yne (Yza [58]) h.data.toList; rw [List.length_drop]; omega
 have cP : (if n1 < h.size then ((⟨#[]⟩ : Y), (⟨#[]⟩ : Y), (0 : Int), (3 : Int)) else if sg = 0 then (if rest = [] then (sch, hb, 0, 0) else if (numL 65535 rest).2 = 0 then (sch, hb, if (numL 65535 rest).1 = ownN sch.data.toList then 0 else (numL 65535 rest).1, 0) else (⟨#[]⟩, ⟨#[]⟩, 0, 3)) else (⟨#[]⟩, ⟨#[]⟩, 0, sg)) = (q1, q2, q3, q9) := by
  rw [← hq, hhb, hsg, hrest]
  unfold Ybi
  by_cases c : n1 < h.size
  ·rw [if_pos c, if_pos (h64.1 c)]
  ·rw [if_neg c, if_neg (fun e => c (h64.2 e))]
 rw [← hrest] at uN wP
 have hsc : ((sch.toList == ([104, 116, 116, 112] : List UInt8)) = true ∧ (sch.toList == ([104, 116, 116, 112, 115] : List UInt8)) = false ∧ Ya (ownN sch.data.toList = 80)) ∨ ((sch.toList == ([104, 116, 116, 112] : List UInt8)) = false ∧ (sch.toList == ([104, 116, 116, 112, 115] : List UInt8)) = true ∧ Ya (ownN sch.data.toList = 443)) := by
  rw [Lib.toList_data]
  rcases hsch with e | e
  ·rw [e]; exact .inl ⟨rfl, rfl, ⟨rfl⟩⟩
  ·rw [e]; exact .inr ⟨rfl, rfl, ⟨rfl⟩⟩
 have HQ := Ya.mk cP
 clear mM zV hk3 pE hn2 hx0 hhb hsg h64 hrest hq cP hE hsz hsch
 have HX1 := Ya.mk uN
 have HX2 := Ya.mk wP
 clear uN wP
 have hbkA := heap_alloc_new w (.cells (uc sch ⟨#[]⟩ 0 ⟨#[]⟩ ⟨#[]⟩ ⟨#[]⟩ false false) 46)
 have hbk := Yja hbkA (.cells urlZ 46)
 have HBA := Ya.mk ((Below.refl w.heap.size w).alloc (Ks _) (.cells (uc sch ⟨#[]⟩ 0 ⟨#[]⟩ ⟨#[]⟩ ⟨#[]⟩ false false) 46))
 have hY := Ya.mk (HBA.out.alloc HBA.out.size (.cells urlZ 46))
 have BK1 := Ya.mk hbk
 have BZ1 := Ya.mk (heap_alloc_new (w.alloc (.cells (uc sch ⟨#[]⟩ 0 ⟨#[]⟩ ⟨#[]⟩ ⟨#[]⟩ false false) 46)) (.cells urlZ 46))
 rw [Yon] at BZ1
 have mN := Ya.mk (HE.out.below hY.out)
 clear hbk hbkA HBA
 by_cases c1 : n1 < h.size
 ·have d1 : decide ((n1 : Int) < (h.size : Int)) = true := Kn Zj
  have d2 : decide (n1 < h.size) = true := Kn c1
  have cP := HQ.out
  rw [if_pos c1] at cP
  simp only [Kaa] at cP
  obtain ⟨rfl, rfl, rfl, rfl⟩ := cP
  clear c1 HQ
  go_enter Tryz.func36, Tryz.ntmps36
  go_wp2_with fail
  refine (Yia.calls k1 _ _ _ _ mN.out HU1.out).mono ?_
  rintro e w2' ⟨rfl, ⟨nd, rfl⟩⟩
  have BK2 := Ya.mk (Yba BK1.out nd)
  have yZ := Ya.mk (Yba BZ1.out nd)
  have fJ := Ya.mk (Yb hY.out nd)
  obtain ⟨w2, hw⟩ : ∃ W, W = ((w.alloc (.cells (uc sch ⟨#[]⟩ 0 ⟨#[]⟩ ⟨#[]⟩ ⟨#[]⟩ false false) 46)).alloc (.cells urlZ 46)).drewN nd := ⟨_, rfl⟩
  rw [← hw] at BK2 yZ fJ ⊢
  clear hw BK1 BZ1 hY mN
  go_wp2_with ((with_reducible refine Ynb (t := 46) (p := 4) rfl ?_); refine wpList_store_row rfl 46 (.tmp 4) (.tmp 16) rfl (w.heap.size + 1) (uc ⟨#[]⟩ ⟨#[]⟩ 0 ⟨#[]⟩ ⟨#[]⟩ ⟨#[]⟩ false false) rfl rfl 46 _ yZ.out bJ rfl (Yqc _ _ _ _ _ _ _ _) ?_)
  refine bodyPost_ret (v := ?v16) ?hr16 ?hd16 ?_
  case hr16 => refine Yta (p := 4) (u := 5) (ty := 46) ?_ _ _ (w.heap.size + 1) 46 (uc ⟨#[]⟩ ⟨#[]⟩ 0 ⟨#[]⟩ ⟨#[]⟩ ⟨#[]⟩ false false) (0, 0) _ ?_ (setRow_heap _ _ _ _ _ _ yZ.out) cV rfl bJ <;> rfl
  case hd16 => rfl
  exact ⟨rfl, below_setRow fJ.out Zj _⟩
 ·have d1 : decide ((n1 : Int) < (h.size : Int)) = false := Ko Zj
  have d2 : decide (n1 < h.size) = false := Ko c1
  have cP := HQ.out
  rw [if_neg c1] at cP
  have uB := Ya.mk cP
  clear c1 HQ cP
  go_enter Tryz.func36, Tryz.ntmps36
  go_wp2_with fail
  refine (Yia.calls k1 _ _ _ _ mN.out HU1.out).mono ?_
  rintro e w2' ⟨rfl, ⟨nd, rfl⟩⟩
  have BK2 := Ya.mk (Yba BK1.out nd)
  have yZ := Ya.mk (Yba BZ1.out nd)
  have fJ := Ya.mk (Yb hY.out nd)
  obtain ⟨w2, hw⟩ : ∃ W, W = ((w.alloc (.cells (uc sch ⟨#[]⟩ 0 ⟨#[]⟩ ⟨#[]⟩ ⟨#[]⟩ false false) 46)).alloc (.cells urlZ 46)).drewN nd := ⟨_, rfl⟩
  rw [← hw] at BK2 yZ fJ ⊢
  clear hw BK1 BZ1 hY mN
  go_wp2_with fail
  refine (Yia.calls k2 _ _ _ _ (HE.out.below fJ.out) HU2.out).mono ?_
  rintro e w3' ⟨rfl, ⟨nd3, rfl⟩⟩
  have yR := Ya.mk (Yba BK2.out nd3)
  have zA := Ya.mk (Yba yZ.out nd3)
  have cZ := Ya.mk (Yb fJ.out nd3)
  obtain ⟨w3, hw⟩ : ∃ W, W = w2.drewN nd3 := ⟨_, rfl⟩
  rw [← hw] at yR zA cZ ⊢
  clear hw BK2 yZ fJ
  go_wp2_with fail
  refine (Ybe.calls k3 _ _ _ _ (HE.out.below cZ.out) HH.out).mono ?_
  rintro e w4 ⟨rfl, lY⟩
  have oK := Ya.mk (Ycb yR.out lY)
  have zB := Ya.mk (Ycb zA.out lY)
  have cU := Ya.mk (cZ.out.trans (lY.mono cZ.out.size))
  clear lY yR zA cZ
  by_cases c2 : sg = 0
  ·subst c2
   have cP := uB.out
   rw [if_pos rfl] at cP
   have HQ3 := Ya.mk cP
   clear cP uB
   obtain ⟨_, hcz, _⟩ := Ylc oK.out
   have hfz := Ye oK.out 1
   have kW := Ya.mk (Yeb (cs' := uc sch hb 0 ⟨#[]⟩ ⟨#[]⟩ ⟨#[]⟩ false false) oK.out 1 (.string hb) rfl)
   have dV := Ya.mk (Ync zB.out (p := ⟨w.heap.size, 1, none⟩) Zq (.string hb))
   have cH := Ya.mk (Yg (j := 1) (v := .string hb) cU.out (Ks _))
   clear oK zB cU
   have hno : (rest = [] ∧ ((decide ((n2 : Int) < (h.size : Int)) = false ∧ decide (n2 < h.size) = false) ∨ (n2 < h.size ∧ ((h.extract (n2 + 1) h.size).toList != ([] : List UInt8)) = false ∧ ((h.extract (n2 + 1) h.size).toList == ([] : List UInt8)) = true))) ∨ (rest ≠ [] ∧ n2 < h.size ∧ ((h.extract (n2 + 1) h.size).toList != ([] : List UInt8)) = true ∧ ((h.extract (n2 + 1) h.size).toList == ([] : List UInt8)) = false) := by
    by_cases c3 : n2 < h.size
    ·rw [HX1.out c3, Yjd]
     by_cases c4 : rest = []
     ·exact .inl ⟨c4, .inr ⟨c3, by rw [c4]; rfl, by rw [c4]; rfl⟩⟩
     ·exact .inr ⟨c4, c3, bne_iff_ne.2 c4, beq_eq_false_iff_ne.2 c4⟩
    ·exact .inl ⟨HX2.out c3, .inl ⟨Ko Zj, Ko c3⟩⟩
   rcases hno with ⟨hre, hc⟩ | ⟨hre, c3, e1, e2⟩
   ·have cP := HQ3.out
    rw [if_pos hre] at cP
    obtain ⟨p, hp0⟩ : ∃ p : Int, p = 0 := ⟨_, rfl⟩
    have HQF := Ya.mk (show sch = q1 ∧ hb = q2 ∧ (if p = ownN sch.data.toList then 0 else p) = q3 ∧ 0 = q9 from by
     simp only [Kaa] at cP
     refine ⟨cP.1, cP.2.1, ?_, cP.2.2.2⟩
     rw [hp0]; split <;> exact cP.2.2.1)
    rw [← hp0] at kW
    clear cP HQ3 hre hp0
    rcases hc with ⟨d3, d4⟩ | ⟨c3, e1, e2⟩
    ·skip
     rcases hsc with ⟨s1, s2, HOwn⟩ | ⟨s1, s2, HOwn⟩
     ·by_cases hp : p = 80
      ·have ep : (p == 80) = true := beq_iff_eq.2 hp
       have jN := HQF.out
       rw [HOwn.out, if_pos hp] at jN
       obtain ⟨rfl, rfl, rfl, rfl⟩ := jN
       obtain ⟨rH, _, oP, _⟩ := Ylc kW.out
       have hzf := Ye kW.out 2
       have BKn := Ya.mk (Yeb (cs' := uc sch hb 0 ⟨#[]⟩ ⟨#[]⟩ ⟨#[]⟩ false false) kW.out 2 (.int .i64 0) rfl)
       have BZn := Ya.mk (Ync dV.out (p := ⟨w.heap.size, 2, none⟩) Zq (.int .i64 0))
       have HBn := Ya.mk (Yg (j := 2) (v := .int .i64 0) cH.out (Ks _))
       obtain ⟨eE, fL, gU, lS, kT, kS, mZ, lQ⟩ := Ylc BKn.out
       clear hp
       go_wp2_with ((with_reducible refine Ynb (t := 46) (p := 4) rfl ?_); refine wpList_store_row rfl 46 (.tmp 4) (.tmp 75) rfl (w.heap.size + 1) (uc sch hb 0 ⟨#[]⟩ ⟨#[]⟩ ⟨#[]⟩ false false) rfl rfl 46 _ BZn.out bJ rfl (Yqc _ _ _ _ _ _ _ _) ?_)
       refine bodyPost_ret (v := ?vz1) ?hrz1 ?hdz1 ?_
       case hrz1 => refine Yta (p := 4) (u := 5) (ty := 46) ?_ _ _ (w.heap.size + 1) 46 (uc sch hb 0 ⟨#[]⟩ ⟨#[]⟩ ⟨#[]⟩ false false) (0, 0) _ ?_ (setRow_heap _ _ _ _ _ _ BZn.out) cV rfl bJ <;> rfl
       case hdz1 => rfl
       exact ⟨rfl, below_setRow HBn.out Zj _⟩
      ·have ep : (p == 80) = false := beq_eq_false_iff_ne.2 hp
       have jN := HQF.out
       rw [HOwn.out, if_neg hp] at jN
       obtain ⟨rfl, rfl, rfl, rfl⟩ := jN
       obtain ⟨eE, fL, gU, lS, kT, kS, mZ, lQ⟩ := Ylc kW.out
       clear hp
       go_wp2_with ((with_reducible refine Ynb (t := 46) (p := 4) rfl ?_); refine wpList_store_row rfl 46 (.tmp 4) (.tmp 75) rfl (w.heap.size + 1) (uc sch hb p ⟨#[]⟩ ⟨#[]⟩ ⟨#[]⟩ false false) rfl rfl 46 _ dV.out bJ rfl (Yqc _ _ _ _ _ _ _ _) ?_)
       refine bodyPost_ret (v := ?vz2) ?hrz2 ?hdz2 ?_
       case hrz2 => refine Yta (p := 4) (u := 5) (ty := 46) ?_ _ _ (w.heap.size + 1) 46 (uc sch hb p ⟨#[]⟩ ⟨#[]⟩ ⟨#[]⟩ false false) (0, 0) _ ?_ (setRow_heap _ _ _ _ _ _ dV.out) cV rfl bJ <;> rfl
       case hdz2 => rfl
       exact ⟨rfl, below_setRow cH.out Zj _⟩
     ·by_cases hp : p = 443
      ·have ep : (p == 443) = true := beq_iff_eq.2 hp
       have jN := HQF.out
       rw [HOwn.out, if_pos hp] at jN
       obtain ⟨rfl, rfl, rfl, rfl⟩ := jN
       obtain ⟨rH, _, oP, _⟩ := Ylc kW.out
       have hzf := Ye kW.out 2
       have BKn := Ya.mk (Yeb (cs' := uc sch hb 0 ⟨#[]⟩ ⟨#[]⟩ ⟨#[]⟩ false false) kW.out 2 (.int .i64 0) rfl)
       have BZn := Ya.mk (Ync dV.out (p := ⟨w.heap.size, 2, none⟩) Zq (.int .i64 0))
       have HBn := Ya.mk (Yg (j := 2) (v := .int .i64 0) cH.out (Ks _))
       obtain ⟨eE, fL, gU, lS, kT, kS, mZ, lQ⟩ := Ylc BKn.out
       clear hp
       go_wp2_with ((with_reducible refine Ynb (t := 46) (p := 4) rfl ?_); refine wpList_store_row rfl 46 (.tmp 4) (.tmp 75) rfl (w.heap.size + 1) (uc sch hb 0 ⟨#[]⟩ ⟨#[]⟩ ⟨#[]⟩ false false) rfl rfl 46 _ BZn.out bJ rfl (Yqc _ _ _ _ _ _ _ _) ?_)
       refine bodyPost_ret (v := ?vz3) ?hrz3 ?hdz3 ?_
       case hrz3 => refine Yta (p := 4) (u := 5) (ty := 46) ?_ _ _ (w.heap.size + 1) 46 (uc sch hb 0 ⟨#[]⟩ ⟨#[]⟩ ⟨#[]⟩ false false) (0, 0) _ ?_ (setRow_heap _ _ _ _ _ _ BZn.out) cV rfl bJ <;> rfl
       case hdz3 => rfl
       exact ⟨rfl, below_setRow HBn.out Zj _⟩
      ·have ep : (p == 443) = false := beq_eq_false_iff_ne.2 hp
       have jN := HQF.out
       rw [HOwn.out, if_neg hp] at jN
       obtain ⟨rfl, rfl, rfl, rfl⟩ := jN
       obtain ⟨eE, fL, gU, lS, kT, kS, mZ, lQ⟩ := Ylc kW.out
       clear hp
       go_wp2_with ((with_reducible refine Ynb (t := 46) (p := 4) rfl ?_); refine wpList_store_row rfl 46 (.tmp 4) (.tmp 75) rfl (w.heap.size + 1) (uc sch hb p ⟨#[]⟩ ⟨#[]⟩ ⟨#[]⟩ false false) rfl rfl 46 _ dV.out bJ rfl (Yqc _ _ _ _ _ _ _ _) ?_)
       refine bodyPost_ret (v := ?vz4) ?hrz4 ?hdz4 ?_
       case hrz4 => refine Yta (p := 4) (u := 5) (ty := 46) ?_ _ _ (w.heap.size + 1) 46 (uc sch hb p ⟨#[]⟩ ⟨#[]⟩ ⟨#[]⟩ false false) (0, 0) _ ?_ (setRow_heap _ _ _ _ _ _ dV.out) cV rfl bJ <;> rfl
       case hdz4 => rfl
       exact ⟨rfl, below_setRow cH.out Zj _⟩
    ·have d3 : decide ((n2 : Int) < (h.size : Int)) = true := Kn Zj
     have d4 : decide (n2 < h.size) = true := Kn c3
     have b3 : ((n2 + 1 : Nat) : Int) ≤ (h.size : Int) := by omega
     have b4 : (n2 : Int) + 1 ≤ (h.size : Int) := by omega
     have hw9 : wrap64 ((n2 : Int) + 1) = ((n2 + 1 : Nat) : Int) := by unfold wrap64; omega
     rcases hsc with ⟨s1, s2, HOwn⟩ | ⟨s1, s2, HOwn⟩
     ·by_cases hp : p = 80
      ·have ep : (p == 80) = true := beq_iff_eq.2 hp
       have jN := HQF.out
       rw [HOwn.out, if_pos hp] at jN
       obtain ⟨rfl, rfl, rfl, rfl⟩ := jN
       obtain ⟨rH, _, oP, _⟩ := Ylc kW.out
       have hzf := Ye kW.out 2
       have BKn := Ya.mk (Yeb (cs' := uc sch hb 0 ⟨#[]⟩ ⟨#[]⟩ ⟨#[]⟩ false false) kW.out 2 (.int .i64 0) rfl)
       have BZn := Ya.mk (Ync dV.out (p := ⟨w.heap.size, 2, none⟩) Zq (.int .i64 0))
       have HBn := Ya.mk (Yg (j := 2) (v := .int .i64 0) cH.out (Ks _))
       obtain ⟨eE, fL, gU, lS, kT, kS, mZ, lQ⟩ := Ylc BKn.out
       clear hp
       go_wp2_with ((with_reducible refine Ynb (t := 46) (p := 4) rfl ?_); refine wpList_store_row rfl 46 (.tmp 4) (.tmp 75) rfl (w.heap.size + 1) (uc sch hb 0 ⟨#[]⟩ ⟨#[]⟩ ⟨#[]⟩ false false) rfl rfl 46 _ BZn.out bJ rfl (Yqc _ _ _ _ _ _ _ _) ?_)
       refine bodyPost_ret (v := ?vz5) ?hrz5 ?hdz5 ?_
       case hrz5 => refine Yta (p := 4) (u := 5) (ty := 46) ?_ _ _ (w.heap.size + 1) 46 (uc sch hb 0 ⟨#[]⟩ ⟨#[]⟩ ⟨#[]⟩ false false) (0, 0) _ ?_ (setRow_heap _ _ _ _ _ _ BZn.out) cV rfl bJ <;> rfl
       case hdz5 => rfl
       exact ⟨rfl, below_setRow HBn.out Zj _⟩
      ·have ep : (p == 80) = false := beq_eq_false_iff_ne.2 hp
       have jN := HQF.out
       rw [HOwn.out, if_neg hp] at jN
       obtain ⟨rfl, rfl, rfl, rfl⟩ := jN
       obtain ⟨eE, fL, gU, lS, kT, kS, mZ, lQ⟩ := Ylc kW.out
       clear hp
       go_wp2_with ((with_reducible refine Ynb (t := 46) (p := 4) rfl ?_); refine wpList_store_row rfl 46 (.tmp 4) (.tmp 75) rfl (w.heap.size + 1) (uc sch hb p ⟨#[]⟩ ⟨#[]⟩ ⟨#[]⟩ false false) rfl rfl 46 _ dV.out bJ rfl (Yqc _ _ _ _ _ _ _ _) ?_)
       refine bodyPost_ret (v := ?vz6) ?hrz6 ?hdz6 ?_
       case hrz6 => refine Yta (p := 4) (u := 5) (ty := 46) ?_ _ _ (w.heap.size + 1) 46 (uc sch hb p ⟨#[]⟩ ⟨#[]⟩ ⟨#[]⟩ false false) (0, 0) _ ?_ (setRow_heap _ _ _ _ _ _ dV.out) cV rfl bJ <;> rfl
       case hdz6 => rfl
       exact ⟨rfl, below_setRow cH.out Zj _⟩
     ·by_cases hp : p = 443
      ·have ep : (p == 443) = true := beq_iff_eq.2 hp
       have jN := HQF.out
       rw [HOwn.out, if_pos hp] at jN
       obtain ⟨rfl, rfl, rfl, rfl⟩ := jN
       obtain ⟨rH, _, oP, _⟩ := Ylc kW.out
       have hzf := Ye kW.out 2
       have BKn := Ya.mk (Yeb (cs' := uc sch hb 0 ⟨#[]⟩ ⟨#[]⟩ ⟨#[]⟩ false false) kW.out 2 (.int .i64 0) rfl)
       have BZn := Ya.mk (Ync dV.out (p := ⟨w.heap.size, 2, none⟩) Zq (.int .i64 0))
       have HBn := Ya.mk (Yg (j := 2) (v := .int .i64 0) cH.out (Ks _))
       obtain ⟨eE, fL, gU, lS, kT, kS, mZ, lQ⟩ := Ylc BKn.out
       clear hp
       go_wp2_with ((with_reducible refine Ynb (t := 46) (p := 4) rfl ?_); refine wpList_store_row rfl 46 (.tmp 4) (.tmp 75) rfl (w.heap.size + 1) (uc sch hb 0 ⟨#[]⟩ ⟨#[]⟩ ⟨#[]⟩ false false) rfl rfl 46 _ BZn.out bJ rfl (Yqc _ _ _ _ _ _ _ _) ?_)
       refine bodyPost_ret (v := ?vz7) ?hrz7 ?hdz7 ?_
       case hrz7 => refine Yta (p := 4) (u := 5) (ty := 46) ?_ _ _ (w.heap.size + 1) 46 (uc sch hb 0 ⟨#[]⟩ ⟨#[]⟩ ⟨#[]⟩ false false) (0, 0) _ ?_ (setRow_heap _ _ _ _ _ _ BZn.out) cV rfl bJ <;> rfl
       case hdz7 => rfl
       exact ⟨rfl, below_setRow HBn.out Zj _⟩
      ·have ep : (p == 443) = false := beq_eq_false_iff_ne.2 hp
       have jN := HQF.out
       rw [HOwn.out, if_neg hp] at jN
       obtain ⟨rfl, rfl, rfl, rfl⟩ := jN
       obtain ⟨eE, fL, gU, lS, kT, kS, mZ, lQ⟩ := Ylc kW.out
       clear hp
       go_wp2_with ((with_reducible refine Ynb (t := 46) (p := 4) rfl ?_); refine wpList_store_row rfl 46 (.tmp 4) (.tmp 75) rfl (w.heap.size + 1) (uc sch hb p ⟨#[]⟩ ⟨#[]⟩ ⟨#[]⟩ false false) rfl rfl 46 _ dV.out bJ rfl (Yqc _ _ _ _ _ _ _ _) ?_)
       refine bodyPost_ret (v := ?vz8) ?hrz8 ?hdz8 ?_
       case hrz8 => refine Yta (p := 4) (u := 5) (ty := 46) ?_ _ _ (w.heap.size + 1) 46 (uc sch hb p ⟨#[]⟩ ⟨#[]⟩ ⟨#[]⟩ false false) (0, 0) _ ?_ (setRow_heap _ _ _ _ _ _ dV.out) cV rfl bJ <;> rfl
       case hdz8 => rfl
       exact ⟨rfl, below_setRow cH.out Zj _⟩
   ·have cP := HQ3.out
    rw [if_neg hre] at cP
    have HQ4 := Ya.mk cP
    have d3 : decide ((n2 : Int) < (h.size : Int)) = true := Kn Zj
    have d4 : decide (n2 < h.size) = true := Kn c3
    have b3 : ((n2 + 1 : Nat) : Int) ≤ (h.size : Int) := by omega
    have b4 : (n2 : Int) + 1 ≤ (h.size : Int) := by omega
    have hw9 : wrap64 ((n2 : Int) + 1) = ((n2 + 1 : Nat) : Int) := by unfold wrap64; omega
    obtain ⟨k4, hk4⟩ := Ydm (ofL rest) 65535 Zj Zj Zha
    obtain ⟨pn, hpn⟩ : ∃ x, x = (numL 65535 rest).1 := ⟨_, rfl⟩
    obtain ⟨ps, hps⟩ : ∃ x, x = (numL 65535 rest).2 := ⟨_, rfl⟩
    have HN := Ya.mk (show Yv.f k4 (h.extract (n2 + 1) h.size) 65535 = some (pn, ps) from by
     rw [HX1.out c3, hpn, hps]; have := hk4 k4 (Ks _); rw [Ytb] at this; exact this)
    rw [← hpn, ← hps] at HQ4
    clear hk4 hpn hps cP HQ3 hre c3
    go_wp2_with fail
    refine (Yv.calls k4 _ _ _ _ _ (HE.out.below cH.out) HN.out).mono ?_
    rintro e w6' ⟨rfl, ⟨nd6, rfl⟩⟩
    have BK6 := Ya.mk (Yba kW.out nd6)
    have BZ6 := Ya.mk (Yba dV.out nd6)
    have jG := Ya.mk (Yb cH.out nd6)
    obtain ⟨w6, hw⟩ : ∃ W, W = (w4.setCell ⟨w.heap.size, 1, none⟩ (.string hb)).drewN nd6 := ⟨_, rfl⟩
    rw [← hw] at BK6 BZ6 jG ⊢
    clear hw kW dV cH
    clear hcz hfz
    by_cases c5 : ps = 0
    ·subst c5
     have cP := HQ4.out
     rw [if_pos rfl] at cP
     have HQF := Ya.mk (show sch = q1 ∧ hb = q2 ∧ (if pn = ownN sch.data.toList then 0 else pn) = q3 ∧ 0 = q9 from by
      simp only [Kaa] at cP; exact cP)
     obtain ⟨p, hpp⟩ : ∃ p, p = pn := ⟨_, rfl⟩
     rw [← hpp] at HQF ⊢
     clear hpp cP HQ4
     obtain ⟨_, _, hcy, _⟩ := Ylc BK6.out
     have hfy := Ye BK6.out 2
     have pC := Ya.mk (Yeb (cs' := uc sch hb p ⟨#[]⟩ ⟨#[]⟩ ⟨#[]⟩ false false) BK6.out 2 (.int .i64 p) rfl)
     have BZ7 := Ya.mk (Ync BZ6.out (p := ⟨w.heap.size, 2, none⟩) Zq (.int .i64 p))
     have yN := Ya.mk (Yg (j := 2) (v := .int .i64 p) jG.out (Ks _))
     rcases hsc with ⟨s1, s2, HOwn⟩ | ⟨s1, s2, HOwn⟩
     ·by_cases hp : p = 80
      ·have ep : (p == 80) = true := beq_iff_eq.2 hp
       have jN := HQF.out
       rw [HOwn.out, if_pos hp] at jN
       obtain ⟨rfl, rfl, rfl, rfl⟩ := jN
       obtain ⟨rH, _, oP, _⟩ := Ylc pC.out
       have hzf := Ye pC.out 2
       have BKn := Ya.mk (Yeb (cs' := uc sch hb 0 ⟨#[]⟩ ⟨#[]⟩ ⟨#[]⟩ false false) pC.out 2 (.int .i64 0) rfl)
       have BZn := Ya.mk (Ync BZ7.out (p := ⟨w.heap.size, 2, none⟩) Zq (.int .i64 0))
       have HBn := Ya.mk (Yg (j := 2) (v := .int .i64 0) yN.out (Ks _))
       obtain ⟨eE, fL, gU, lS, kT, kS, mZ, lQ⟩ := Ylc BKn.out
       clear hp
       go_wp2_with ((with_reducible refine Ynb (t := 46) (p := 4) rfl ?_); refine wpList_store_row rfl 46 (.tmp 4) (.tmp 75) rfl (w.heap.size + 1) (uc sch hb 0 ⟨#[]⟩ ⟨#[]⟩ ⟨#[]⟩ false false) rfl rfl 46 _ BZn.out bJ rfl (Yqc _ _ _ _ _ _ _ _) ?_)
       refine bodyPost_ret (v := ?vz9) ?hrz9 ?hdz9 ?_
       case hrz9 => refine Yta (p := 4) (u := 5) (ty := 46) ?_ _ _ (w.heap.size + 1) 46 (uc sch hb 0 ⟨#[]⟩ ⟨#[]⟩ ⟨#[]⟩ false false) (0, 0) _ ?_ (setRow_heap _ _ _ _ _ _ BZn.out) cV rfl bJ <;> rfl
       case hdz9 => rfl
       exact ⟨rfl, below_setRow HBn.out Zj _⟩
      ·have ep : (p == 80) = false := beq_eq_false_iff_ne.2 hp
       have jN := HQF.out
       rw [HOwn.out, if_neg hp] at jN
       obtain ⟨rfl, rfl, rfl, rfl⟩ := jN
       obtain ⟨eE, fL, gU, lS, kT, kS, mZ, lQ⟩ := Ylc pC.out
       clear hp
       go_wp2_with ((with_reducible refine Ynb (t := 46) (p := 4) rfl ?_); refine wpList_store_row rfl 46 (.tmp 4) (.tmp 75) rfl (w.heap.size + 1) (uc sch hb p ⟨#[]⟩ ⟨#[]⟩ ⟨#[]⟩ false false) rfl rfl 46 _ BZ7.out bJ rfl (Yqc _ _ _ _ _ _ _ _) ?_)
       refine bodyPost_ret (v := ?vz10) ?hrz10 ?hdz10 ?_
       case hrz10 => refine Yta (p := 4) (u := 5) (ty := 46) ?_ _ _ (w.heap.size + 1) 46 (uc sch hb p ⟨#[]⟩ ⟨#[]⟩ ⟨#[]⟩ false false) (0, 0) _ ?_ (setRow_heap _ _ _ _ _ _ BZ7.out) cV rfl bJ <;> rfl
       case hdz10 => rfl
       exact ⟨rfl, below_setRow yN.out Zj _⟩
     ·by_cases hp : p = 443
      ·have ep : (p == 443) = true := beq_iff_eq.2 hp
       have jN := HQF.out
       rw [HOwn.out, if_pos hp] at jN
       obtain ⟨rfl, rfl, rfl, rfl⟩ := jN
       obtain ⟨rH, _, oP, _⟩ := Ylc pC.out
       have hzf := Ye pC.out 2
       have BKn := Ya.mk (Yeb (cs' := uc sch hb 0 ⟨#[]⟩ ⟨#[]⟩ ⟨#[]⟩ false false) pC.out 2 (.int .i64 0) rfl)
       have BZn := Ya.mk (Ync BZ7.out (p := ⟨w.heap.size, 2, none⟩) Zq (.int .i64 0))
       have HBn := Ya.mk (Yg (j := 2) (v := .int .i64 0) yN.out (Ks _))
       obtain ⟨eE, fL, gU, lS, kT, kS, mZ, lQ⟩ := Ylc BKn.out
       clear hp
       go_wp2_with ((with_reducible refine Ynb (t := 46) (p := 4) rfl ?_); refine wpList_store_row rfl 46 (.tmp 4) (.tmp 75) rfl (w.heap.size + 1) (uc sch hb 0 ⟨#[]⟩ ⟨#[]⟩ ⟨#[]⟩ false false) rfl rfl 46 _ BZn.out bJ rfl (Yqc _ _ _ _ _ _ _ _) ?_)
       refine bodyPost_ret (v := ?vz11) ?hrz11 ?hdz11 ?_
       case hrz11 => refine Yta (p := 4) (u := 5) (ty := 46) ?_ _ _ (w.heap.size + 1) 46 (uc sch hb 0 ⟨#[]⟩ ⟨#[]⟩ ⟨#[]⟩ false false) (0, 0) _ ?_ (setRow_heap _ _ _ _ _ _ BZn.out) cV rfl bJ <;> rfl
       case hdz11 => rfl
       exact ⟨rfl, below_setRow HBn.out Zj _⟩
      ·have ep : (p == 443) = false := beq_eq_false_iff_ne.2 hp
       have jN := HQF.out
       rw [HOwn.out, if_neg hp] at jN
       obtain ⟨rfl, rfl, rfl, rfl⟩ := jN
       obtain ⟨eE, fL, gU, lS, kT, kS, mZ, lQ⟩ := Ylc pC.out
       clear hp
       go_wp2_with ((with_reducible refine Ynb (t := 46) (p := 4) rfl ?_); refine wpList_store_row rfl 46 (.tmp 4) (.tmp 75) rfl (w.heap.size + 1) (uc sch hb p ⟨#[]⟩ ⟨#[]⟩ ⟨#[]⟩ false false) rfl rfl 46 _ BZ7.out bJ rfl (Yqc _ _ _ _ _ _ _ _) ?_)
       refine bodyPost_ret (v := ?vz12) ?hrz12 ?hdz12 ?_
       case hrz12 => refine Yta (p := 4) (u := 5) (ty := 46) ?_ _ _ (w.heap.size + 1) 46 (uc sch hb p ⟨#[]⟩ ⟨#[]⟩ ⟨#[]⟩ false false) (0, 0) _ ?_ (setRow_heap _ _ _ _ _ _ BZ7.out) cV rfl bJ <;> rfl
       case hdz12 => rfl
       exact ⟨rfl, below_setRow yN.out Zj _⟩
    ·have d5 : decide (ps = 0) = false := Ko c5
     have d6 : (ps == 0) = false := beq_eq_false_iff_ne.2 c5
     have cP := HQ4.out
     rw [if_neg c5] at cP
     simp only [Kaa] at cP
     obtain ⟨rfl, rfl, rfl, rfl⟩ := cP
     clear c5 HQ4
     go_wp2_with ((with_reducible refine Ynb (t := 46) (p := 4) rfl ?_); refine wpList_store_row rfl 46 (.tmp 4) (.tmp 53) rfl (w.heap.size + 1) (uc ⟨#[]⟩ ⟨#[]⟩ 0 ⟨#[]⟩ ⟨#[]⟩ ⟨#[]⟩ false false) rfl rfl 46 _ BZ6.out bJ rfl (Yqc _ _ _ _ _ _ _ _) ?_)
     refine bodyPost_ret (v := ?v53) ?hr53 ?hd53 ?_
     case hr53 => refine Yta (p := 4) (u := 5) (ty := 46) ?_ _ _ (w.heap.size + 1) 46 (uc ⟨#[]⟩ ⟨#[]⟩ 0 ⟨#[]⟩ ⟨#[]⟩ ⟨#[]⟩ false false) (0, 0) _ ?_ (setRow_heap _ _ _ _ _ _ BZ6.out) cV rfl bJ <;> rfl
     case hd53 => rfl
     exact ⟨rfl, below_setRow jG.out Zj _⟩
  ·have d5 : decide (sg = 0) = false := Ko c2
   have d6 : (sg == 0) = false := beq_eq_false_iff_ne.2 c2
   have cP := uB.out
   rw [if_neg c2] at cP
   simp only [Kaa] at cP
   obtain ⟨rfl, rfl, rfl, rfl⟩ := cP
   clear c2 uB
   go_wp2_with ((with_reducible refine Ynb (t := 46) (p := 4) rfl ?_); refine wpList_store_row rfl 46 (.tmp 4) (.tmp 28) rfl (w.heap.size + 1) (uc ⟨#[]⟩ ⟨#[]⟩ 0 ⟨#[]⟩ ⟨#[]⟩ ⟨#[]⟩ false false) rfl rfl 46 _ zB.out bJ rfl (Yqc _ _ _ _ _ _ _ _) ?_)
   refine bodyPost_ret (v := ?v28) ?hr28 ?hd28 ?_
   case hr28 => refine Yta (p := 4) (u := 5) (ty := 46) ?_ _ _ (w.heap.size + 1) 46 (uc ⟨#[]⟩ ⟨#[]⟩ 0 ⟨#[]⟩ ⟨#[]⟩ ⟨#[]⟩ false false) (0, 0) _ ?_ (setRow_heap _ _ _ _ _ _ zB.out) cV rfl bJ <;> rfl
   case hd28 => rfl
   exact ⟨rfl, below_setRow cU.out Zj _⟩
end Go.Proofs.YtihaeeldgimdiaaGreatDoor.X
