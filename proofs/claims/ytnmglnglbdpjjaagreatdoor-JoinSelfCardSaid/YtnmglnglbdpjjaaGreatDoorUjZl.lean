/- The document's Place: the host and the port of a text. -/
import Derived.Test.YtnmglnglbdpjjaaGreatDoorUjWords
import Derived.Test.YtnmglnglbdpjjaaGreatDoorUjZt
import Derived.Test.YtnmglnglbdpjjaaGreatDoorUjZs
import Derived.Test.YtnmglnglbdpjjaaGreatDoorUjX11
namespace Go.Proofs.YtnmglnglbdpjjaaGreatDoor.X
open Go.RowKit Go.Lib Go.Shelf Go.Yw.PrintWords Go.Yw.PrintLast Go.Yw.PrintMore
set_option linter.unusedVariables false
set_option linter.unusedSimpArgs false
theorem rhost_f (s : ByteArray) (hs : s.size ≤ 90000000) : EvR (fun k => Yve.f k s) (ofL (Yff s.data.toList).1, (Yff s.data.toList).2) := by
 have hu := Ykk _ s.data.toList (Nat.le_refl _)
 rw [← Lib.size_eq] at hu
 have h1 := runmark_f s Zl
 have h2 := Yoq (ofL (Ylb s.data.toList)) Zga
 rw [Yob] at h2
 have h3 := rname_f (ofL (lowL (Ylb s.data.toList))) (by rw [Yda, Yeh]; omega)
 rw [Yob, nameR_low] at h3
 unfold Yve.f
 refine EvR.bind (g := fun k t234 => (Yka.f k t234).bind fun t235 => if t235.toList = ([] : List UInt8) then some ((⟨#[]⟩ : ByteArray), (4 : Int)) else (Yi.f k t235).bind fun t236 => if t236 = true then some (t235, 0) else some ((⟨#[]⟩ : ByteArray), 17)) h1 ?_
 refine EvR.bind (g := fun k t235 => if t235.toList = ([] : List UInt8) then some ((⟨#[]⟩ : ByteArray), (4 : Int)) else (Yi.f k t235).bind fun t236 => if t236 = true then some (t235, 0) else some ((⟨#[]⟩ : ByteArray), 17)) h2 ?_
 unfold Yff
 by_cases he : lowL (Ylb s.data.toList) = []
 ·refine EvR.of fun k => ?_
  rw [Yid, if_pos he, if_pos he]; rfl
 ·simp only [Yid, if_neg he]
  refine EvR.bind (g := fun k t236 => if t236 = true then some (ofL (lowL (Ylb s.data.toList)), (0 : Int)) else some ((⟨#[]⟩ : ByteArray), 17)) h3 (EvR.of fun k => ?_)
  by_cases hn : Yli (lowL (Ylb s.data.toList)) = true
  ·rw [if_pos hn, if_pos hn]
  ·rw [if_neg hn, if_neg hn]; rfl
def Yoi (sch : ByteArray) (h : List UInt8) : ByteArray × ByteArray × Int × Int :=
 if h.contains 64 = true then (⟨#[]⟩, ⟨#[]⟩, 0, 3) else
  if (Yff (h.takeWhile (Yza [58]))).2 = 0 then
   if (h.dropWhile (Yza [58])).drop 1 = [] then (sch, ofL (Yff (h.takeWhile (Yza [58]))).1, 0, 0) else
    if (numL 65535 ((h.dropWhile (Yza [58])).drop 1)).2 = 0 then
     (sch, ofL (Yff (h.takeWhile (Yza [58]))).1, if (numL 65535 ((h.dropWhile (Yza [58])).drop 1)).1 = ownN sch.data.toList then 0 else (numL 65535 ((h.dropWhile (Yza [58])).drop 1)).1, 0)
    else (⟨#[]⟩, ⟨#[]⟩, 0, 3)
  else (⟨#[]⟩, ⟨#[]⟩, 0, (Yff (h.takeWhile (Yza [58]))).2)
theorem Ynm (c b : UInt8) : Yza [c] b = (b != c) := by
 unfold Yza
 by_cases h : b = c <;> simp [h]
theorem take_lt (c : UInt8) (h : List UInt8) : (h.takeWhile (Yza [c])).length < h.length ↔ h.contains c = true := by
 induction h with
 | nil => simp
 | cons b t ih =>
  by_cases hb : b = c
  ·subst hb
   rw [List.takeWhile_cons_of_neg (by rw [Ynm]; simp)]; simp
  ·rw [List.takeWhile_cons_of_pos (by rw [Ynm]; simpa using hb), List.length_cons, List.length_cons, List.contains_cons, beq_eq_false_iff_ne.2 (Ne.symm hb), Bool.false_or, ← ih]
   omega
theorem Yaa {W : World} {g : Nat} {t : TypeId} {u1 u2 : ByteArray} {u3 : Int} {u4 u5 u6 : ByteArray} {u7 u8 : Bool} (h : W.heap[g]? = some (.cells (uc u1 u2 u3 u4 u5 u6 u7 u8) t (0, 0))) :
  W.cell? ⟨g, 0, none⟩ = some (.string u1) ∧ W.cell? ⟨g, 1, none⟩ = some (.string u2) ∧ W.cell? ⟨g, 2, none⟩ = some (.int .i64 u3) ∧ W.cell? ⟨g, 3, none⟩ = some (.string u4) ∧ W.cell? ⟨g, 4, none⟩ = some (.string u5) ∧ W.cell? ⟨g, 5, none⟩ = some (.string u6) ∧ W.cell? ⟨g, 6, none⟩ = some (.bool u7) ∧ W.cell? ⟨g, 7, none⟩ = some (.bool u8) :=
 ⟨(Yf h 0).trans rfl, (Yf h 1).trans rfl, (Yf h 2).trans rfl, (Yf h 3).trans rfl, (Yf h 4).trans rfl, (Yf h 5).trans rfl, (Yf h 6).trans rfl, (Yf h 7).trans rfl⟩
set_option maxHeartbeats 8000000 in
set_option maxRecDepth 100000 in
theorem Yrq (sch h : ByteArray) (q1 q2 : ByteArray) (q3 q9 : Int) (w : World) (hE : EnvOk w) (hs : h.size ≤ 30000000) (hsch : sch.data.toList = Ydh ∨ sch.data.toList = Yeg) (hq : Yoi sch h.data.toList = (q1, q2, q3, q9)) :
  Calls Tryz.prog 50 #[.agg (uc sch ⟨#[]⟩ 0 ⟨#[]⟩ ⟨#[]⟩ ⟨#[]⟩ false false), .string h] w fun e w' => e = .returned (.tuple #[.agg (uc q1 q2 q3 ⟨#[]⟩ ⟨#[]⟩ ⟨#[]⟩ false false), .int .i64 q9]) ∧ Below w.heap.size w w' := by
 have HE := Ya.mk hE
 have hu25 := Tryz.underlying25
 have hi25 : (Tryz.prog.info? 25).map (·.size) = some 8 := by kernel_rfl
 have hsz := Lib.size_eq h
 obtain ⟨n1, hn1⟩ : ∃ n, n = (h.data.toList.takeWhile (Yza [64])).length := ⟨_, rfl⟩
 obtain ⟨n2, hn2⟩ : ∃ n, n = (h.data.toList.takeWhile (Yza [58])).length := ⟨_, rfl⟩
 have hn2s : n2 ≤ h.size := by rw [hn2, hsz]; exact Yle _ _
 obtain ⟨k1, hk1⟩ := Ygm h ⟨#[64]⟩ Zl Zda
 obtain ⟨k2, hk2⟩ := Ygm h ⟨#[58]⟩ Zl Zda
 have HU1 := Ya.mk (show Ypa.f k1 h ⟨#[64]⟩ = some ((n1 : Nat) : Int) from by rw [hn1]; exact hk1 k1 (Nat.le_refl _))
 have HU2 := Ya.mk (show Ypa.f k2 h ⟨#[58]⟩ = some ((n2 : Nat) : Int) from by rw [hn2]; exact hk2 k2 (Nat.le_refl _))
 have hx0 : h.extract 0 n2 = ofL (h.data.toList.takeWhile (Yza [58])) := by
  rw [Ype, hn2]
  congr 1
  have := List.take_left (l₁ := h.data.toList.takeWhile (Yza [58])) (l₂ := h.data.toList.dropWhile (Yza [58]))
  rw [List.takeWhile_append_dropWhile] at this; exact this
 have hx1 : n2 < h.size → h.extract (n2 + 1) h.size = ofL ((h.data.toList.dropWhile (Yza [58])).drop 1) := fun _ => by
  rw [Yhd, hn2]
  congr 1
  have := List.drop_left (l₁ := h.data.toList.takeWhile (Yza [58])) (l₂ := h.data.toList.dropWhile (Yza [58]))
  rw [List.takeWhile_append_dropWhile] at this
  conv => rhs; rw [← this]
  rw [List.drop_drop, Nat.add_comm]
 have hx2 : ¬ n2 < h.size → (h.data.toList.dropWhile (Yza [58])).drop 1 = [] := fun hn => by
  have e := congrArg List.length (List.takeWhile_append_dropWhile (p := Yza [58]) (l := h.data.toList))
  rw [List.length_append] at e
  rw [List.eq_nil_of_length_eq_zero (show (h.data.toList.dropWhile (Yza [58])).length = 0 by omega)]; rfl
 obtain ⟨k3, hk3⟩ := rhost_f (h.extract 0 n2) Zya
 rw [hx0, Yob] at hk3
 obtain ⟨hb, hhb⟩ : ∃ x, x = ofL (Yff (h.data.toList.takeWhile (Yza [58]))).1 := ⟨_, rfl⟩
 obtain ⟨sg, hsg⟩ : ∃ x, x = (Yff (h.data.toList.takeWhile (Yza [58]))).2 := ⟨_, rfl⟩
 have HH := Ya.mk (show Yve.f k3 (h.extract 0 n2) = some (hb, sg) from by rw [hx0, hhb, hsg]; exact hk3 k3 (Nat.le_refl _))
 have h64 : n1 < h.size ↔ h.data.toList.contains 64 = true := by rw [hn1, hsz]; exact take_lt 64 _
 obtain ⟨rest, hrest⟩ : ∃ r, r = (h.data.toList.dropWhile (Yza [58])).drop 1 := ⟨_, rfl⟩
 have hrl : rest.length ≤ h.size := by
  rw [hrest, hsz]; have := Yne (Yza [58]) h.data.toList; rw [List.length_drop]; omega
 have hq2 : (if n1 < h.size then ((⟨#[]⟩ : ByteArray), (⟨#[]⟩ : ByteArray), (0 : Int), (3 : Int)) else if sg = 0 then (if rest = [] then (sch, hb, 0, 0) else if (numL 65535 rest).2 = 0 then (sch, hb, if (numL 65535 rest).1 = ownN sch.data.toList then 0 else (numL 65535 rest).1, 0) else (⟨#[]⟩, ⟨#[]⟩, 0, 3)) else (⟨#[]⟩, ⟨#[]⟩, 0, sg)) = (q1, q2, q3, q9) := by
  rw [← hq, hhb, hsg, hrest]
  unfold Yoi
  by_cases c : n1 < h.size
  ·rw [if_pos c, if_pos (h64.1 c)]
  ·rw [if_neg c, if_neg (fun e => c (h64.2 e))]
 rw [← hrest] at hx1 hx2
 have hsc : ((sch.toList == ([104, 116, 116, 112] : List UInt8)) = true ∧ (sch.toList == ([104, 116, 116, 112, 115] : List UInt8)) = false ∧ Ya (ownN sch.data.toList = 80)) ∨ ((sch.toList == ([104, 116, 116, 112] : List UInt8)) = false ∧ (sch.toList == ([104, 116, 116, 112, 115] : List UInt8)) = true ∧ Ya (ownN sch.data.toList = 443)) := by
  rw [Lib.toList_data]
  rcases hsch with e | e
  ·rw [e]; exact .inl ⟨rfl, rfl, ⟨rfl⟩⟩
  ·rw [e]; exact .inr ⟨rfl, rfl, ⟨rfl⟩⟩
 have HQ := Ya.mk hq2
 clear hk1 hk2 hk3 hn1 hn2 hx0 hhb hsg h64 hrest hq hq2 hE hsz hsch
 have HX1 := Ya.mk hx1
 have HX2 := Ya.mk hx2
 clear hx1 hx2
 have hbkA := heap_alloc_new w (.cells (uc sch ⟨#[]⟩ 0 ⟨#[]⟩ ⟨#[]⟩ ⟨#[]⟩ false false) 25)
 have hbk := Ym hbkA (.cells urlZ 25)
 have HBA := Ya.mk ((Below.refl w.heap.size w).alloc (Nat.le_refl _) (.cells (uc sch ⟨#[]⟩ 0 ⟨#[]⟩ ⟨#[]⟩ ⟨#[]⟩ false false) 25))
 have HB1 := Ya.mk (HBA.out.alloc HBA.out.size (.cells urlZ 25))
 have BK1 := Ya.mk hbk
 have BZ1 := Ya.mk (heap_alloc_new (w.alloc (.cells (uc sch ⟨#[]⟩ 0 ⟨#[]⟩ ⟨#[]⟩ ⟨#[]⟩ false false) 25)) (.cells urlZ 25))
 rw [Yif] at BZ1
 have HE1 := Ya.mk (HE.out.below HB1.out)
 clear hbk hbkA HBA
 by_cases c1 : n1 < h.size
 ·have d1 : decide ((n1 : Int) < (h.size : Int)) = true := decide_eq_true Zl
  have d2 : decide (n1 < h.size) = true := decide_eq_true c1
  have hq2 := HQ.out
  rw [if_pos c1] at hq2
  simp only [Prod.mk.injEq] at hq2
  obtain ⟨rfl, rfl, rfl, rfl⟩ := hq2
  clear c1 HQ
  go_enter Tryz.func50, Tryz.ntmps50
  go_wp2_with fail
  refine (Ypa.calls k1 _ _ _ _ HE1.out HU1.out).mono ?_
  rintro e w2' ⟨rfl, ⟨nd, rfl⟩⟩
  have BK2 := Ya.mk (Yl BK1.out nd)
  have BZ2 := Ya.mk (Yl BZ1.out nd)
  have HB2 := Ya.mk (Yb HB1.out nd)
  obtain ⟨w2, hw⟩ : ∃ W, W = ((w.alloc (.cells (uc sch ⟨#[]⟩ 0 ⟨#[]⟩ ⟨#[]⟩ ⟨#[]⟩ false false) 25)).alloc (.cells urlZ 25)).drewN nd := ⟨_, rfl⟩
  rw [← hw] at BK2 BZ2 HB2 ⊢
  clear hw BK1 BZ1 HB1 HE1
  go_wp2_with ((with_reducible refine Ywb (t := 25) (p := 4) rfl ?_); refine wpList_store_row rfl 25 (.tmp 4) (.tmp 16) rfl (w.heap.size + 1) (uc ⟨#[]⟩ ⟨#[]⟩ 0 ⟨#[]⟩ ⟨#[]⟩ ⟨#[]⟩ false false) rfl rfl 25 _ BZ2.out hi25 rfl (Ypc _ _ _ _ _ _ _ _) ?_)
  refine bodyPost_ret (v := ?v16) ?hr16 ?hd16 ?_
  case hr16 => refine Yxa (p := 4) (u := 5) (ty := 25) ?_ _ _ (w.heap.size + 1) 25 (uc ⟨#[]⟩ ⟨#[]⟩ 0 ⟨#[]⟩ ⟨#[]⟩ ⟨#[]⟩ false false) (0, 0) _ ?_ (setRow_heap _ _ _ _ _ _ BZ2.out) hu25 rfl hi25 <;> rfl
  case hd16 => rfl
  exact ⟨rfl, below_setRow HB2.out Zl _⟩
 ·have d1 : decide ((n1 : Int) < (h.size : Int)) = false := decide_eq_false Zl
  have d2 : decide (n1 < h.size) = false := decide_eq_false c1
  have hq2 := HQ.out
  rw [if_neg c1] at hq2
  have HQ2 := Ya.mk hq2
  clear c1 HQ hq2
  go_enter Tryz.func50, Tryz.ntmps50
  go_wp2_with fail
  refine (Ypa.calls k1 _ _ _ _ HE1.out HU1.out).mono ?_
  rintro e w2' ⟨rfl, ⟨nd, rfl⟩⟩
  have BK2 := Ya.mk (Yl BK1.out nd)
  have BZ2 := Ya.mk (Yl BZ1.out nd)
  have HB2 := Ya.mk (Yb HB1.out nd)
  obtain ⟨w2, hw⟩ : ∃ W, W = ((w.alloc (.cells (uc sch ⟨#[]⟩ 0 ⟨#[]⟩ ⟨#[]⟩ ⟨#[]⟩ false false) 25)).alloc (.cells urlZ 25)).drewN nd := ⟨_, rfl⟩
  rw [← hw] at BK2 BZ2 HB2 ⊢
  clear hw BK1 BZ1 HB1 HE1
  go_wp2_with fail
  refine (Ypa.calls k2 _ _ _ _ (HE.out.below HB2.out) HU2.out).mono ?_
  rintro e w3' ⟨rfl, ⟨nd3, rfl⟩⟩
  have BK3 := Ya.mk (Yl BK2.out nd3)
  have BZ3 := Ya.mk (Yl BZ2.out nd3)
  have HB3 := Ya.mk (Yb HB2.out nd3)
  obtain ⟨w3, hw⟩ : ∃ W, W = w2.drewN nd3 := ⟨_, rfl⟩
  rw [← hw] at BK3 BZ3 HB3 ⊢
  clear hw BK2 BZ2 HB2
  go_wp2_with fail
  refine (Yve.calls k3 _ _ _ _ (HE.out.below HB3.out) HH.out).mono ?_
  rintro e w4 ⟨rfl, hb4⟩
  have BK4 := Ya.mk (Yx BK3.out hb4)
  have BZ4 := Ya.mk (Yx BZ3.out hb4)
  have HB4 := Ya.mk (HB3.out.trans (hb4.mono HB3.out.size))
  clear hb4 BK3 BZ3 HB3
  by_cases c2 : sg = 0
  ·subst c2
   have hq2 := HQ2.out
   rw [if_pos rfl] at hq2
   have HQ3 := Ya.mk hq2
   clear hq2 HQ2
   obtain ⟨_, hcz, _⟩ := Yaa BK4.out
   have hfz := Ye BK4.out 1
   have BK5 := Ya.mk (Yma (cs' := uc sch hb 0 ⟨#[]⟩ ⟨#[]⟩ ⟨#[]⟩ false false) BK4.out 1 (.string hb) rfl)
   have BZ5 := Ya.mk (Yvb BZ4.out (p := ⟨w.heap.size, 1, none⟩) Zv (.string hb))
   have HB5 := Ya.mk (Yg (j := 1) (v := .string hb) HB4.out (Nat.le_refl _))
   clear BK4 BZ4 HB4
   have hno : (rest = [] ∧ ((decide ((n2 : Int) < (h.size : Int)) = false ∧ decide (n2 < h.size) = false) ∨ (n2 < h.size ∧ ((h.extract (n2 + 1) h.size).toList != ([] : List UInt8)) = false ∧ ((h.extract (n2 + 1) h.size).toList == ([] : List UInt8)) = true))) ∨ (rest ≠ [] ∧ n2 < h.size ∧ ((h.extract (n2 + 1) h.size).toList != ([] : List UInt8)) = true ∧ ((h.extract (n2 + 1) h.size).toList == ([] : List UInt8)) = false) := by
    by_cases c3 : n2 < h.size
    ·rw [HX1.out c3, Yid]
     by_cases c4 : rest = []
     ·exact .inl ⟨c4, .inr ⟨c3, by rw [c4]; rfl, by rw [c4]; rfl⟩⟩
     ·exact .inr ⟨c4, c3, bne_iff_ne.2 c4, beq_eq_false_iff_ne.2 c4⟩
    ·exact .inl ⟨HX2.out c3, .inl ⟨decide_eq_false Zl, decide_eq_false c3⟩⟩
   rcases hno with ⟨hre, hc⟩ | ⟨hre, c3, e1, e2⟩
   ·have hq2 := HQ3.out
    rw [if_pos hre] at hq2
    obtain ⟨p, hp0⟩ : ∃ p : Int, p = 0 := ⟨_, rfl⟩
    have HQF := Ya.mk (show sch = q1 ∧ hb = q2 ∧ (if p = ownN sch.data.toList then 0 else p) = q3 ∧ 0 = q9 from by
     simp only [Prod.mk.injEq] at hq2
     refine ⟨hq2.1, hq2.2.1, ?_, hq2.2.2.2⟩
     rw [hp0]; split <;> exact hq2.2.2.1)
    rw [← hp0] at BK5
    clear hq2 HQ3 hre hp0
    rcases hc with ⟨d3, d4⟩ | ⟨c3, e1, e2⟩
    ·skip
     rcases hsc with ⟨s1, s2, HOwn⟩ | ⟨s1, s2, HOwn⟩
     ·by_cases hp : p = 80
      ·have ep : (p == 80) = true := beq_iff_eq.2 hp
       have hq9 := HQF.out
       rw [HOwn.out, if_pos hp] at hq9
       obtain ⟨rfl, rfl, rfl, rfl⟩ := hq9
       obtain ⟨hz0, _, hz2, _⟩ := Yaa BK5.out
       have hzf := Ye BK5.out 2
       have BKn := Ya.mk (Yma (cs' := uc sch hb 0 ⟨#[]⟩ ⟨#[]⟩ ⟨#[]⟩ false false) BK5.out 2 (.int .i64 0) rfl)
       have BZn := Ya.mk (Yvb BZ5.out (p := ⟨w.heap.size, 2, none⟩) Zv (.int .i64 0))
       have HBn := Ya.mk (Yg (j := 2) (v := .int .i64 0) HB5.out (Nat.le_refl _))
       obtain ⟨hc0, hc1, hc2, hc3, hc4, hc5, hc6, hc7⟩ := Yaa BKn.out
       clear hp
       go_wp2_with ((with_reducible refine Ywb (t := 25) (p := 4) rfl ?_); refine wpList_store_row rfl 25 (.tmp 4) (.tmp 75) rfl (w.heap.size + 1) (uc sch hb 0 ⟨#[]⟩ ⟨#[]⟩ ⟨#[]⟩ false false) rfl rfl 25 _ BZn.out hi25 rfl (Ypc _ _ _ _ _ _ _ _) ?_)
       refine bodyPost_ret (v := ?vz1) ?hrz1 ?hdz1 ?_
       case hrz1 => refine Yxa (p := 4) (u := 5) (ty := 25) ?_ _ _ (w.heap.size + 1) 25 (uc sch hb 0 ⟨#[]⟩ ⟨#[]⟩ ⟨#[]⟩ false false) (0, 0) _ ?_ (setRow_heap _ _ _ _ _ _ BZn.out) hu25 rfl hi25 <;> rfl
       case hdz1 => rfl
       exact ⟨rfl, below_setRow HBn.out Zl _⟩
      ·have ep : (p == 80) = false := beq_eq_false_iff_ne.2 hp
       have hq9 := HQF.out
       rw [HOwn.out, if_neg hp] at hq9
       obtain ⟨rfl, rfl, rfl, rfl⟩ := hq9
       obtain ⟨hc0, hc1, hc2, hc3, hc4, hc5, hc6, hc7⟩ := Yaa BK5.out
       clear hp
       go_wp2_with ((with_reducible refine Ywb (t := 25) (p := 4) rfl ?_); refine wpList_store_row rfl 25 (.tmp 4) (.tmp 75) rfl (w.heap.size + 1) (uc sch hb p ⟨#[]⟩ ⟨#[]⟩ ⟨#[]⟩ false false) rfl rfl 25 _ BZ5.out hi25 rfl (Ypc _ _ _ _ _ _ _ _) ?_)
       refine bodyPost_ret (v := ?vz2) ?hrz2 ?hdz2 ?_
       case hrz2 => refine Yxa (p := 4) (u := 5) (ty := 25) ?_ _ _ (w.heap.size + 1) 25 (uc sch hb p ⟨#[]⟩ ⟨#[]⟩ ⟨#[]⟩ false false) (0, 0) _ ?_ (setRow_heap _ _ _ _ _ _ BZ5.out) hu25 rfl hi25 <;> rfl
       case hdz2 => rfl
       exact ⟨rfl, below_setRow HB5.out Zl _⟩
     ·by_cases hp : p = 443
      ·have ep : (p == 443) = true := beq_iff_eq.2 hp
       have hq9 := HQF.out
       rw [HOwn.out, if_pos hp] at hq9
       obtain ⟨rfl, rfl, rfl, rfl⟩ := hq9
       obtain ⟨hz0, _, hz2, _⟩ := Yaa BK5.out
       have hzf := Ye BK5.out 2
       have BKn := Ya.mk (Yma (cs' := uc sch hb 0 ⟨#[]⟩ ⟨#[]⟩ ⟨#[]⟩ false false) BK5.out 2 (.int .i64 0) rfl)
       have BZn := Ya.mk (Yvb BZ5.out (p := ⟨w.heap.size, 2, none⟩) Zv (.int .i64 0))
       have HBn := Ya.mk (Yg (j := 2) (v := .int .i64 0) HB5.out (Nat.le_refl _))
       obtain ⟨hc0, hc1, hc2, hc3, hc4, hc5, hc6, hc7⟩ := Yaa BKn.out
       clear hp
       go_wp2_with ((with_reducible refine Ywb (t := 25) (p := 4) rfl ?_); refine wpList_store_row rfl 25 (.tmp 4) (.tmp 75) rfl (w.heap.size + 1) (uc sch hb 0 ⟨#[]⟩ ⟨#[]⟩ ⟨#[]⟩ false false) rfl rfl 25 _ BZn.out hi25 rfl (Ypc _ _ _ _ _ _ _ _) ?_)
       refine bodyPost_ret (v := ?vz3) ?hrz3 ?hdz3 ?_
       case hrz3 => refine Yxa (p := 4) (u := 5) (ty := 25) ?_ _ _ (w.heap.size + 1) 25 (uc sch hb 0 ⟨#[]⟩ ⟨#[]⟩ ⟨#[]⟩ false false) (0, 0) _ ?_ (setRow_heap _ _ _ _ _ _ BZn.out) hu25 rfl hi25 <;> rfl
       case hdz3 => rfl
       exact ⟨rfl, below_setRow HBn.out Zl _⟩
      ·have ep : (p == 443) = false := beq_eq_false_iff_ne.2 hp
       have hq9 := HQF.out
       rw [HOwn.out, if_neg hp] at hq9
       obtain ⟨rfl, rfl, rfl, rfl⟩ := hq9
       obtain ⟨hc0, hc1, hc2, hc3, hc4, hc5, hc6, hc7⟩ := Yaa BK5.out
       clear hp
       go_wp2_with ((with_reducible refine Ywb (t := 25) (p := 4) rfl ?_); refine wpList_store_row rfl 25 (.tmp 4) (.tmp 75) rfl (w.heap.size + 1) (uc sch hb p ⟨#[]⟩ ⟨#[]⟩ ⟨#[]⟩ false false) rfl rfl 25 _ BZ5.out hi25 rfl (Ypc _ _ _ _ _ _ _ _) ?_)
       refine bodyPost_ret (v := ?vz4) ?hrz4 ?hdz4 ?_
       case hrz4 => refine Yxa (p := 4) (u := 5) (ty := 25) ?_ _ _ (w.heap.size + 1) 25 (uc sch hb p ⟨#[]⟩ ⟨#[]⟩ ⟨#[]⟩ false false) (0, 0) _ ?_ (setRow_heap _ _ _ _ _ _ BZ5.out) hu25 rfl hi25 <;> rfl
       case hdz4 => rfl
       exact ⟨rfl, below_setRow HB5.out Zl _⟩
    ·have d3 : decide ((n2 : Int) < (h.size : Int)) = true := decide_eq_true Zl
     have d4 : decide (n2 < h.size) = true := decide_eq_true c3
     have b3 : ((n2 + 1 : Nat) : Int) ≤ (h.size : Int) := by omega
     have b4 : (n2 : Int) + 1 ≤ (h.size : Int) := by omega
     have hw9 : wrap64 ((n2 : Int) + 1) = ((n2 + 1 : Nat) : Int) := by unfold wrap64; omega
     rcases hsc with ⟨s1, s2, HOwn⟩ | ⟨s1, s2, HOwn⟩
     ·by_cases hp : p = 80
      ·have ep : (p == 80) = true := beq_iff_eq.2 hp
       have hq9 := HQF.out
       rw [HOwn.out, if_pos hp] at hq9
       obtain ⟨rfl, rfl, rfl, rfl⟩ := hq9
       obtain ⟨hz0, _, hz2, _⟩ := Yaa BK5.out
       have hzf := Ye BK5.out 2
       have BKn := Ya.mk (Yma (cs' := uc sch hb 0 ⟨#[]⟩ ⟨#[]⟩ ⟨#[]⟩ false false) BK5.out 2 (.int .i64 0) rfl)
       have BZn := Ya.mk (Yvb BZ5.out (p := ⟨w.heap.size, 2, none⟩) Zv (.int .i64 0))
       have HBn := Ya.mk (Yg (j := 2) (v := .int .i64 0) HB5.out (Nat.le_refl _))
       obtain ⟨hc0, hc1, hc2, hc3, hc4, hc5, hc6, hc7⟩ := Yaa BKn.out
       clear hp
       go_wp2_with ((with_reducible refine Ywb (t := 25) (p := 4) rfl ?_); refine wpList_store_row rfl 25 (.tmp 4) (.tmp 75) rfl (w.heap.size + 1) (uc sch hb 0 ⟨#[]⟩ ⟨#[]⟩ ⟨#[]⟩ false false) rfl rfl 25 _ BZn.out hi25 rfl (Ypc _ _ _ _ _ _ _ _) ?_)
       refine bodyPost_ret (v := ?vz5) ?hrz5 ?hdz5 ?_
       case hrz5 => refine Yxa (p := 4) (u := 5) (ty := 25) ?_ _ _ (w.heap.size + 1) 25 (uc sch hb 0 ⟨#[]⟩ ⟨#[]⟩ ⟨#[]⟩ false false) (0, 0) _ ?_ (setRow_heap _ _ _ _ _ _ BZn.out) hu25 rfl hi25 <;> rfl
       case hdz5 => rfl
       exact ⟨rfl, below_setRow HBn.out Zl _⟩
      ·have ep : (p == 80) = false := beq_eq_false_iff_ne.2 hp
       have hq9 := HQF.out
       rw [HOwn.out, if_neg hp] at hq9
       obtain ⟨rfl, rfl, rfl, rfl⟩ := hq9
       obtain ⟨hc0, hc1, hc2, hc3, hc4, hc5, hc6, hc7⟩ := Yaa BK5.out
       clear hp
       go_wp2_with ((with_reducible refine Ywb (t := 25) (p := 4) rfl ?_); refine wpList_store_row rfl 25 (.tmp 4) (.tmp 75) rfl (w.heap.size + 1) (uc sch hb p ⟨#[]⟩ ⟨#[]⟩ ⟨#[]⟩ false false) rfl rfl 25 _ BZ5.out hi25 rfl (Ypc _ _ _ _ _ _ _ _) ?_)
       refine bodyPost_ret (v := ?vz6) ?hrz6 ?hdz6 ?_
       case hrz6 => refine Yxa (p := 4) (u := 5) (ty := 25) ?_ _ _ (w.heap.size + 1) 25 (uc sch hb p ⟨#[]⟩ ⟨#[]⟩ ⟨#[]⟩ false false) (0, 0) _ ?_ (setRow_heap _ _ _ _ _ _ BZ5.out) hu25 rfl hi25 <;> rfl
       case hdz6 => rfl
       exact ⟨rfl, below_setRow HB5.out Zl _⟩
     ·by_cases hp : p = 443
      ·have ep : (p == 443) = true := beq_iff_eq.2 hp
       have hq9 := HQF.out
       rw [HOwn.out, if_pos hp] at hq9
       obtain ⟨rfl, rfl, rfl, rfl⟩ := hq9
       obtain ⟨hz0, _, hz2, _⟩ := Yaa BK5.out
       have hzf := Ye BK5.out 2
       have BKn := Ya.mk (Yma (cs' := uc sch hb 0 ⟨#[]⟩ ⟨#[]⟩ ⟨#[]⟩ false false) BK5.out 2 (.int .i64 0) rfl)
       have BZn := Ya.mk (Yvb BZ5.out (p := ⟨w.heap.size, 2, none⟩) Zv (.int .i64 0))
       have HBn := Ya.mk (Yg (j := 2) (v := .int .i64 0) HB5.out (Nat.le_refl _))
       obtain ⟨hc0, hc1, hc2, hc3, hc4, hc5, hc6, hc7⟩ := Yaa BKn.out
       clear hp
       go_wp2_with ((with_reducible refine Ywb (t := 25) (p := 4) rfl ?_); refine wpList_store_row rfl 25 (.tmp 4) (.tmp 75) rfl (w.heap.size + 1) (uc sch hb 0 ⟨#[]⟩ ⟨#[]⟩ ⟨#[]⟩ false false) rfl rfl 25 _ BZn.out hi25 rfl (Ypc _ _ _ _ _ _ _ _) ?_)
       refine bodyPost_ret (v := ?vz7) ?hrz7 ?hdz7 ?_
       case hrz7 => refine Yxa (p := 4) (u := 5) (ty := 25) ?_ _ _ (w.heap.size + 1) 25 (uc sch hb 0 ⟨#[]⟩ ⟨#[]⟩ ⟨#[]⟩ false false) (0, 0) _ ?_ (setRow_heap _ _ _ _ _ _ BZn.out) hu25 rfl hi25 <;> rfl
       case hdz7 => rfl
       exact ⟨rfl, below_setRow HBn.out Zl _⟩
      ·have ep : (p == 443) = false := beq_eq_false_iff_ne.2 hp
       have hq9 := HQF.out
       rw [HOwn.out, if_neg hp] at hq9
       obtain ⟨rfl, rfl, rfl, rfl⟩ := hq9
       obtain ⟨hc0, hc1, hc2, hc3, hc4, hc5, hc6, hc7⟩ := Yaa BK5.out
       clear hp
       go_wp2_with ((with_reducible refine Ywb (t := 25) (p := 4) rfl ?_); refine wpList_store_row rfl 25 (.tmp 4) (.tmp 75) rfl (w.heap.size + 1) (uc sch hb p ⟨#[]⟩ ⟨#[]⟩ ⟨#[]⟩ false false) rfl rfl 25 _ BZ5.out hi25 rfl (Ypc _ _ _ _ _ _ _ _) ?_)
       refine bodyPost_ret (v := ?vz8) ?hrz8 ?hdz8 ?_
       case hrz8 => refine Yxa (p := 4) (u := 5) (ty := 25) ?_ _ _ (w.heap.size + 1) 25 (uc sch hb p ⟨#[]⟩ ⟨#[]⟩ ⟨#[]⟩ false false) (0, 0) _ ?_ (setRow_heap _ _ _ _ _ _ BZ5.out) hu25 rfl hi25 <;> rfl
       case hdz8 => rfl
       exact ⟨rfl, below_setRow HB5.out Zl _⟩
   ·have hq2 := HQ3.out
    rw [if_neg hre] at hq2
    have HQ4 := Ya.mk hq2
    have d3 : decide ((n2 : Int) < (h.size : Int)) = true := decide_eq_true Zl
    have d4 : decide (n2 < h.size) = true := decide_eq_true c3
    have b3 : ((n2 + 1 : Nat) : Int) ≤ (h.size : Int) := by omega
    have b4 : (n2 : Int) + 1 ≤ (h.size : Int) := by omega
    have hw9 : wrap64 ((n2 : Int) + 1) = ((n2 + 1 : Nat) : Int) := by unfold wrap64; omega
    obtain ⟨k4, hk4⟩ := Yum (ofL rest) 65535 Zl Zl Zga
    obtain ⟨pn, hpn⟩ : ∃ x, x = (numL 65535 rest).1 := ⟨_, rfl⟩
    obtain ⟨ps, hps⟩ : ∃ x, x = (numL 65535 rest).2 := ⟨_, rfl⟩
    have HN := Ya.mk (show Yy.f k4 (h.extract (n2 + 1) h.size) 65535 = some (pn, ps) from by
     rw [HX1.out c3, hpn, hps]; have := hk4 k4 (Nat.le_refl _); rw [Yob] at this; exact this)
    rw [← hpn, ← hps] at HQ4
    clear hk4 hpn hps hq2 HQ3 hre c3
    go_wp2_with fail
    refine (Yy.calls k4 _ _ _ _ _ (HE.out.below HB5.out) HN.out).mono ?_
    rintro e w6' ⟨rfl, ⟨nd6, rfl⟩⟩
    have BK6 := Ya.mk (Yl BK5.out nd6)
    have BZ6 := Ya.mk (Yl BZ5.out nd6)
    have HB6 := Ya.mk (Yb HB5.out nd6)
    obtain ⟨w6, hw⟩ : ∃ W, W = (w4.setCell ⟨w.heap.size, 1, none⟩ (.string hb)).drewN nd6 := ⟨_, rfl⟩
    rw [← hw] at BK6 BZ6 HB6 ⊢
    clear hw BK5 BZ5 HB5
    clear hcz hfz
    by_cases c5 : ps = 0
    ·subst c5
     have hq2 := HQ4.out
     rw [if_pos rfl] at hq2
     have HQF := Ya.mk (show sch = q1 ∧ hb = q2 ∧ (if pn = ownN sch.data.toList then 0 else pn) = q3 ∧ 0 = q9 from by
      simp only [Prod.mk.injEq] at hq2; exact hq2)
     obtain ⟨p, hpp⟩ : ∃ p, p = pn := ⟨_, rfl⟩
     rw [← hpp] at HQF ⊢
     clear hpp hq2 HQ4
     obtain ⟨_, _, hcy, _⟩ := Yaa BK6.out
     have hfy := Ye BK6.out 2
     have BK7 := Ya.mk (Yma (cs' := uc sch hb p ⟨#[]⟩ ⟨#[]⟩ ⟨#[]⟩ false false) BK6.out 2 (.int .i64 p) rfl)
     have BZ7 := Ya.mk (Yvb BZ6.out (p := ⟨w.heap.size, 2, none⟩) Zv (.int .i64 p))
     have HB7 := Ya.mk (Yg (j := 2) (v := .int .i64 p) HB6.out (Nat.le_refl _))
     rcases hsc with ⟨s1, s2, HOwn⟩ | ⟨s1, s2, HOwn⟩
     ·by_cases hp : p = 80
      ·have ep : (p == 80) = true := beq_iff_eq.2 hp
       have hq9 := HQF.out
       rw [HOwn.out, if_pos hp] at hq9
       obtain ⟨rfl, rfl, rfl, rfl⟩ := hq9
       obtain ⟨hz0, _, hz2, _⟩ := Yaa BK7.out
       have hzf := Ye BK7.out 2
       have BKn := Ya.mk (Yma (cs' := uc sch hb 0 ⟨#[]⟩ ⟨#[]⟩ ⟨#[]⟩ false false) BK7.out 2 (.int .i64 0) rfl)
       have BZn := Ya.mk (Yvb BZ7.out (p := ⟨w.heap.size, 2, none⟩) Zv (.int .i64 0))
       have HBn := Ya.mk (Yg (j := 2) (v := .int .i64 0) HB7.out (Nat.le_refl _))
       obtain ⟨hc0, hc1, hc2, hc3, hc4, hc5, hc6, hc7⟩ := Yaa BKn.out
       clear hp
       go_wp2_with ((with_reducible refine Ywb (t := 25) (p := 4) rfl ?_); refine wpList_store_row rfl 25 (.tmp 4) (.tmp 75) rfl (w.heap.size + 1) (uc sch hb 0 ⟨#[]⟩ ⟨#[]⟩ ⟨#[]⟩ false false) rfl rfl 25 _ BZn.out hi25 rfl (Ypc _ _ _ _ _ _ _ _) ?_)
       refine bodyPost_ret (v := ?vz9) ?hrz9 ?hdz9 ?_
       case hrz9 => refine Yxa (p := 4) (u := 5) (ty := 25) ?_ _ _ (w.heap.size + 1) 25 (uc sch hb 0 ⟨#[]⟩ ⟨#[]⟩ ⟨#[]⟩ false false) (0, 0) _ ?_ (setRow_heap _ _ _ _ _ _ BZn.out) hu25 rfl hi25 <;> rfl
       case hdz9 => rfl
       exact ⟨rfl, below_setRow HBn.out Zl _⟩
      ·have ep : (p == 80) = false := beq_eq_false_iff_ne.2 hp
       have hq9 := HQF.out
       rw [HOwn.out, if_neg hp] at hq9
       obtain ⟨rfl, rfl, rfl, rfl⟩ := hq9
       obtain ⟨hc0, hc1, hc2, hc3, hc4, hc5, hc6, hc7⟩ := Yaa BK7.out
       clear hp
       go_wp2_with ((with_reducible refine Ywb (t := 25) (p := 4) rfl ?_); refine wpList_store_row rfl 25 (.tmp 4) (.tmp 75) rfl (w.heap.size + 1) (uc sch hb p ⟨#[]⟩ ⟨#[]⟩ ⟨#[]⟩ false false) rfl rfl 25 _ BZ7.out hi25 rfl (Ypc _ _ _ _ _ _ _ _) ?_)
       refine bodyPost_ret (v := ?vz10) ?hrz10 ?hdz10 ?_
       case hrz10 => refine Yxa (p := 4) (u := 5) (ty := 25) ?_ _ _ (w.heap.size + 1) 25 (uc sch hb p ⟨#[]⟩ ⟨#[]⟩ ⟨#[]⟩ false false) (0, 0) _ ?_ (setRow_heap _ _ _ _ _ _ BZ7.out) hu25 rfl hi25 <;> rfl
       case hdz10 => rfl
       exact ⟨rfl, below_setRow HB7.out Zl _⟩
     ·by_cases hp : p = 443
      ·have ep : (p == 443) = true := beq_iff_eq.2 hp
       have hq9 := HQF.out
       rw [HOwn.out, if_pos hp] at hq9
       obtain ⟨rfl, rfl, rfl, rfl⟩ := hq9
       obtain ⟨hz0, _, hz2, _⟩ := Yaa BK7.out
       have hzf := Ye BK7.out 2
       have BKn := Ya.mk (Yma (cs' := uc sch hb 0 ⟨#[]⟩ ⟨#[]⟩ ⟨#[]⟩ false false) BK7.out 2 (.int .i64 0) rfl)
       have BZn := Ya.mk (Yvb BZ7.out (p := ⟨w.heap.size, 2, none⟩) Zv (.int .i64 0))
       have HBn := Ya.mk (Yg (j := 2) (v := .int .i64 0) HB7.out (Nat.le_refl _))
       obtain ⟨hc0, hc1, hc2, hc3, hc4, hc5, hc6, hc7⟩ := Yaa BKn.out
       clear hp
       go_wp2_with ((with_reducible refine Ywb (t := 25) (p := 4) rfl ?_); refine wpList_store_row rfl 25 (.tmp 4) (.tmp 75) rfl (w.heap.size + 1) (uc sch hb 0 ⟨#[]⟩ ⟨#[]⟩ ⟨#[]⟩ false false) rfl rfl 25 _ BZn.out hi25 rfl (Ypc _ _ _ _ _ _ _ _) ?_)
       refine bodyPost_ret (v := ?vz11) ?hrz11 ?hdz11 ?_
       case hrz11 => refine Yxa (p := 4) (u := 5) (ty := 25) ?_ _ _ (w.heap.size + 1) 25 (uc sch hb 0 ⟨#[]⟩ ⟨#[]⟩ ⟨#[]⟩ false false) (0, 0) _ ?_ (setRow_heap _ _ _ _ _ _ BZn.out) hu25 rfl hi25 <;> rfl
       case hdz11 => rfl
       exact ⟨rfl, below_setRow HBn.out Zl _⟩
      ·have ep : (p == 443) = false := beq_eq_false_iff_ne.2 hp
       have hq9 := HQF.out
       rw [HOwn.out, if_neg hp] at hq9
       obtain ⟨rfl, rfl, rfl, rfl⟩ := hq9
       obtain ⟨hc0, hc1, hc2, hc3, hc4, hc5, hc6, hc7⟩ := Yaa BK7.out
       clear hp
       go_wp2_with ((with_reducible refine Ywb (t := 25) (p := 4) rfl ?_); refine wpList_store_row rfl 25 (.tmp 4) (.tmp 75) rfl (w.heap.size + 1) (uc sch hb p ⟨#[]⟩ ⟨#[]⟩ ⟨#[]⟩ false false) rfl rfl 25 _ BZ7.out hi25 rfl (Ypc _ _ _ _ _ _ _ _) ?_)
       refine bodyPost_ret (v := ?vz12) ?hrz12 ?hdz12 ?_
       case hrz12 => refine Yxa (p := 4) (u := 5) (ty := 25) ?_ _ _ (w.heap.size + 1) 25 (uc sch hb p ⟨#[]⟩ ⟨#[]⟩ ⟨#[]⟩ false false) (0, 0) _ ?_ (setRow_heap _ _ _ _ _ _ BZ7.out) hu25 rfl hi25 <;> rfl
       case hdz12 => rfl
       exact ⟨rfl, below_setRow HB7.out Zl _⟩
    ·have d5 : decide (ps = 0) = false := decide_eq_false c5
     have d6 : (ps == 0) = false := beq_eq_false_iff_ne.2 c5
     have hq2 := HQ4.out
     rw [if_neg c5] at hq2
     simp only [Prod.mk.injEq] at hq2
     obtain ⟨rfl, rfl, rfl, rfl⟩ := hq2
     clear c5 HQ4
     go_wp2_with ((with_reducible refine Ywb (t := 25) (p := 4) rfl ?_); refine wpList_store_row rfl 25 (.tmp 4) (.tmp 53) rfl (w.heap.size + 1) (uc ⟨#[]⟩ ⟨#[]⟩ 0 ⟨#[]⟩ ⟨#[]⟩ ⟨#[]⟩ false false) rfl rfl 25 _ BZ6.out hi25 rfl (Ypc _ _ _ _ _ _ _ _) ?_)
     refine bodyPost_ret (v := ?v53) ?hr53 ?hd53 ?_
     case hr53 => refine Yxa (p := 4) (u := 5) (ty := 25) ?_ _ _ (w.heap.size + 1) 25 (uc ⟨#[]⟩ ⟨#[]⟩ 0 ⟨#[]⟩ ⟨#[]⟩ ⟨#[]⟩ false false) (0, 0) _ ?_ (setRow_heap _ _ _ _ _ _ BZ6.out) hu25 rfl hi25 <;> rfl
     case hd53 => rfl
     exact ⟨rfl, below_setRow HB6.out Zl _⟩
  ·have d5 : decide (sg = 0) = false := decide_eq_false c2
   have d6 : (sg == 0) = false := beq_eq_false_iff_ne.2 c2
   have hq2 := HQ2.out
   rw [if_neg c2] at hq2
   simp only [Prod.mk.injEq] at hq2
   obtain ⟨rfl, rfl, rfl, rfl⟩ := hq2
   clear c2 HQ2
   go_wp2_with ((with_reducible refine Ywb (t := 25) (p := 4) rfl ?_); refine wpList_store_row rfl 25 (.tmp 4) (.tmp 28) rfl (w.heap.size + 1) (uc ⟨#[]⟩ ⟨#[]⟩ 0 ⟨#[]⟩ ⟨#[]⟩ ⟨#[]⟩ false false) rfl rfl 25 _ BZ4.out hi25 rfl (Ypc _ _ _ _ _ _ _ _) ?_)
   refine bodyPost_ret (v := ?v28) ?hr28 ?hd28 ?_
   case hr28 => refine Yxa (p := 4) (u := 5) (ty := 25) ?_ _ _ (w.heap.size + 1) 25 (uc ⟨#[]⟩ ⟨#[]⟩ 0 ⟨#[]⟩ ⟨#[]⟩ ⟨#[]⟩ false false) (0, 0) _ ?_ (setRow_heap _ _ _ _ _ _ BZ4.out) hu25 rfl hi25 <;> rfl
   case hd28 => rfl
   exact ⟨rfl, below_setRow HB4.out Zl _⟩
end Go.Proofs.YtnmglnglbdpjjaaGreatDoor.X
