/- The document's Place: the host and the port of a text. -/
import Derived.Test.YtnmglnglbdpjjaaGreatDoorUkWords
import Derived.Test.YtnmglnglbdpjjaaGreatDoorUkH5
import Derived.Test.YtnmglnglbdpjjaaGreatDoorUkZs
import Derived.Test.YtnmglnglbdpjjaaGreatDoorUkX11
namespace Go.Proofs.YtnmglnglbdpjjaaGreatDoor.X
open Go.RowKit Go.Lib Go.Shelf Go.Yw.PrintWords Go.Yw.PrintLast Go.Yw.PrintMore
set_option linter.unusedVariables false
set_option linter.unusedSimpArgs false
theorem rhost_f (s : ByteArray) (hs : s.size ≤ 90000000) : EvR (fun k => Yef.f k s) (ofL (Ykf s.data.toList).1, (Ykf s.data.toList).2) := by
 have hu := Yrk _ s.data.toList (Nat.le_refl _)
 rw [← Lib.size_eq] at hu
 have h1 := runmark_f s Zl
 have h2 := Ytq (ofL (Ymb s.data.toList)) Zha
 rw [Ygb] at h2
 have h3 := rname_f (ofL (lowL (Ymb s.data.toList))) (by rw [Yea, Ylh]; omega)
 rw [Ygb, nameR_low] at h3
 unfold Yef.f
 refine EvR.bind (g := fun k aCl => (Yka.f k aCl).bind fun pD => if pD.toList = ([] : List UInt8) then some ((⟨#[]⟩ : ByteArray), (4 : Int)) else (Yi.f k pD).bind fun rZ => if rZ = true then some (pD, 0) else some ((⟨#[]⟩ : ByteArray), 17)) h1 ?_
 refine EvR.bind (g := fun k pD => if pD.toList = ([] : List UInt8) then some ((⟨#[]⟩ : ByteArray), (4 : Int)) else (Yi.f k pD).bind fun rZ => if rZ = true then some (pD, 0) else some ((⟨#[]⟩ : ByteArray), 17)) h2 ?_
 unfold Ykf
 by_cases he : lowL (Ymb s.data.toList) = []
 ·refine EvR.of fun k => ?_
  rw [Ysc, if_pos he, if_pos he]; rfl
 ·simp only [Ysc, if_neg he]
  refine EvR.bind (g := fun k rZ => if rZ = true then some (ofL (lowL (Ymb s.data.toList)), (0 : Int)) else some ((⟨#[]⟩ : ByteArray), 17)) h3 (EvR.of fun k => ?_)
  by_cases hn : Yqi (lowL (Ymb s.data.toList)) = true
  ·rw [if_pos hn, if_pos hn]
  ·rw [if_neg hn, if_neg hn]; rfl
def Ypi (sch : ByteArray) (h : List UInt8) : ByteArray × ByteArray × Int × Int :=
 if h.contains 64 = true then (⟨#[]⟩, ⟨#[]⟩, 0, 3) else
  if (Ykf (h.takeWhile (Ybb [58]))).2 = 0 then
   if (h.dropWhile (Ybb [58])).drop 1 = [] then (sch, ofL (Ykf (h.takeWhile (Ybb [58]))).1, 0, 0) else
    if (numL 65535 ((h.dropWhile (Ybb [58])).drop 1)).2 = 0 then
     (sch, ofL (Ykf (h.takeWhile (Ybb [58]))).1, if (numL 65535 ((h.dropWhile (Ybb [58])).drop 1)).1 = ownN sch.data.toList then 0 else (numL 65535 ((h.dropWhile (Ybb [58])).drop 1)).1, 0)
    else (⟨#[]⟩, ⟨#[]⟩, 0, 3)
  else (⟨#[]⟩, ⟨#[]⟩, 0, (Ykf (h.takeWhile (Ybb [58]))).2)
theorem Ynm (c b : UInt8) : Ybb [c] b = (b != c) := by
 unfold Ybb
 by_cases h : b = c <;> simp [h]
theorem take_lt (c : UInt8) (h : List UInt8) : (h.takeWhile (Ybb [c])).length < h.length ↔ h.contains c = true := by
 induction h with
 | nil => simp
 | cons b t ih =>
  by_cases hb : b = c
  ·subst hb
   rw [List.takeWhile_cons_of_neg (by rw [Ynm]; simp)]; simp
  ·rw [List.takeWhile_cons_of_pos (by rw [Ynm]; simpa using hb), List.length_cons, List.length_cons, List.contains_cons, beq_eq_false_iff_ne.2 (Ne.symm hb), Bool.false_or, ← ih]
   omega
theorem Yv {W : World} {g : Nat} {t : TypeId} {u1 u2 : ByteArray} {u3 : Int} {u4 u5 u6 : ByteArray} {u7 u8 : Bool} (h : W.heap[g]? = some (.cells (uc u1 u2 u3 u4 u5 u6 u7 u8) t (0, 0))) :
  W.cell? ⟨g, 0, none⟩ = some (.string u1) ∧ W.cell? ⟨g, 1, none⟩ = some (.string u2) ∧ W.cell? ⟨g, 2, none⟩ = some (.int .i64 u3) ∧ W.cell? ⟨g, 3, none⟩ = some (.string u4) ∧ W.cell? ⟨g, 4, none⟩ = some (.string u5) ∧ W.cell? ⟨g, 5, none⟩ = some (.string u6) ∧ W.cell? ⟨g, 6, none⟩ = some (.bool u7) ∧ W.cell? ⟨g, 7, none⟩ = some (.bool u8) :=
 ⟨(Yf h 0).trans rfl, (Yf h 1).trans rfl, (Yf h 2).trans rfl, (Yf h 3).trans rfl, (Yf h 4).trans rfl, (Yf h 5).trans rfl, (Yf h 6).trans rfl, (Yf h 7).trans rfl⟩
set_option maxHeartbeats 8000000 in
set_option maxRecDepth 100000 in
theorem Yqq (sch h q1 q2 : ByteArray) (q3 q9 : Int) (w : World) (hE : EnvOk w) (hs : h.size ≤ 30000000) (hsch : sch.data.toList = Ykh ∨ sch.data.toList = Yfg) (hq : Ypi sch h.data.toList = (q1, q2, q3, q9)) :
  Calls Tryz.prog 50 #[.agg (uc sch ⟨#[]⟩ 0 ⟨#[]⟩ ⟨#[]⟩ ⟨#[]⟩ false false), .string h] w fun e w' => e = .returned (.tuple #[.agg (uc q1 q2 q3 ⟨#[]⟩ ⟨#[]⟩ ⟨#[]⟩ false false), .int .i64 q9]) ∧ Below w.heap.size w w' := by
 have HE := Ya.mk hE
 have cB := Tryz.underlying25
 have bX : (Tryz.prog.info? 25).map (·.size) = some 8 := by kernel_rfl
 have hsz := Lib.size_eq h
 obtain ⟨n1, kF⟩ : ∃ n, n = (h.data.toList.takeWhile (Ybb [64])).length := ⟨_, rfl⟩
 obtain ⟨n2, wU⟩ : ∃ n, n = (h.data.toList.takeWhile (Ybb [58])).length := ⟨_, rfl⟩
 have hn2s : n2 ≤ h.size := by rw [wU, hsz]; exact Yxe _ _
 obtain ⟨k1, vF⟩ := Yjm h ⟨#[64]⟩ Zl Zea
 obtain ⟨k2, hk2⟩ := Yjm h ⟨#[58]⟩ Zl Zea
 have HU1 := Ya.mk (show Ypa.f k1 h ⟨#[64]⟩ = some ((n1 : Nat) : Int) from by rw [kF]; exact vF k1 (Nat.le_refl _))
 have HU2 := Ya.mk (show Ypa.f k2 h ⟨#[58]⟩ = some ((n2 : Nat) : Int) from by rw [wU]; exact hk2 k2 (Nat.le_refl _))
 have hx0 : h.extract 0 n2 = ofL (h.data.toList.takeWhile (Ybb [58])) := by
  rw [Yye, wU]
  congr 1
  have := List.take_left (l₁ := h.data.toList.takeWhile (Ybb [58])) (l₂ := h.data.toList.dropWhile (Ybb [58]))
  rw [List.takeWhile_append_dropWhile] at this; exact this
 have xI : n2 < h.size → h.extract (n2 + 1) h.size = ofL ((h.data.toList.dropWhile (Ybb [58])).drop 1) := fun _ => by
  rw [Yyc, wU]
  congr 1
  have := List.drop_left (l₁ := h.data.toList.takeWhile (Ybb [58])) (l₂ := h.data.toList.dropWhile (Ybb [58]))
  rw [List.takeWhile_append_dropWhile] at this
  conv => rhs; rw [← this]
  rw [List.drop_drop, Nat.add_comm]
 have wM : ¬ n2 < h.size → (h.data.toList.dropWhile (Ybb [58])).drop 1 = [] := fun hn => by
  have e := congrArg List.length (List.takeWhile_append_dropWhile (p := Ybb [58]) (l := h.data.toList))
  rw [List.length_append] at e
  rw [List.eq_nil_of_length_eq_zero (show (h.data.toList.dropWhile (Ybb [58])).length = 0 by omega)]; rfl
 obtain ⟨k3, hk3⟩ := rhost_f (h.extract 0 n2) Zqa
 rw [hx0, Ygb] at hk3
 obtain ⟨hb, hhb⟩ : ∃ x, x = ofL (Ykf (h.data.toList.takeWhile (Ybb [58]))).1 := ⟨_, rfl⟩
 obtain ⟨sg, hsg⟩ : ∃ x, x = (Ykf (h.data.toList.takeWhile (Ybb [58]))).2 := ⟨_, rfl⟩
 have HH := Ya.mk (show Yef.f k3 (h.extract 0 n2) = some (hb, sg) from by rw [hx0, hhb, hsg]; exact hk3 k3 (Nat.le_refl _))
 have h64 : n1 < h.size ↔ h.data.toList.contains 64 = true := by rw [kF, hsz]; exact take_lt 64 _
 obtain ⟨rest, hrest⟩ : ∃ r, r = (h.data.toList.dropWhile (Ybb [58])).drop 1 := ⟨_, rfl⟩
 have hrl : rest.length ≤ h.size := by
  rw [hrest, hsz]; have := Yue (Ybb [58]) h.data.toList; rw [List.length_drop]; omega
 have cV : (if n1 < h.size then ((⟨#[]⟩ : ByteArray), (⟨#[]⟩ : ByteArray), (0 : Int), (3 : Int)) else if sg = 0 then (if rest = [] then (sch, hb, 0, 0) else if (numL 65535 rest).2 = 0 then (sch, hb, if (numL 65535 rest).1 = ownN sch.data.toList then 0 else (numL 65535 rest).1, 0) else (⟨#[]⟩, ⟨#[]⟩, 0, 3)) else (⟨#[]⟩, ⟨#[]⟩, 0, sg)) = (q1, q2, q3, q9) := by
  rw [← hq, hhb, hsg, hrest]
  unfold Ypi
  by_cases c : n1 < h.size
  ·rw [if_pos c, if_pos (h64.1 c)]
  ·rw [if_neg c, if_neg (fun e => c (h64.2 e))]
 rw [← hrest] at xI wM
 have hsc : ((sch.toList == ([104, 116, 116, 112] : List UInt8)) = true ∧ (sch.toList == ([104, 116, 116, 112, 115] : List UInt8)) = false ∧ Ya (ownN sch.data.toList = 80)) ∨ ((sch.toList == ([104, 116, 116, 112] : List UInt8)) = false ∧ (sch.toList == ([104, 116, 116, 112, 115] : List UInt8)) = true ∧ Ya (ownN sch.data.toList = 443)) := by
  rw [Lib.toList_data]
  rcases hsch with e | e
  ·rw [e]; exact .inl ⟨rfl, rfl, ⟨rfl⟩⟩
  ·rw [e]; exact .inr ⟨rfl, rfl, ⟨rfl⟩⟩
 have HQ := Ya.mk cV
 clear vF hk2 hk3 kF wU hx0 hhb hsg h64 hrest hq cV hE hsz hsch
 have HX1 := Ya.mk xI
 have HX2 := Ya.mk wM
 clear xI wM
 have hbkA := heap_alloc_new w (.cells (uc sch ⟨#[]⟩ 0 ⟨#[]⟩ ⟨#[]⟩ ⟨#[]⟩ false false) 25)
 have hbk := Yj hbkA (.cells urlZ 25)
 have HBA := Ya.mk ((Below.refl w.heap.size w).alloc (Nat.le_refl _) (.cells (uc sch ⟨#[]⟩ 0 ⟨#[]⟩ ⟨#[]⟩ ⟨#[]⟩ false false) 25))
 have iE := Ya.mk (HBA.out.alloc HBA.out.size (.cells urlZ 25))
 have BK1 := Ya.mk hbk
 have BZ1 := Ya.mk (heap_alloc_new (w.alloc (.cells (uc sch ⟨#[]⟩ 0 ⟨#[]⟩ ⟨#[]⟩ ⟨#[]⟩ false false) 25)) (.cells urlZ 25))
 rw [Ycc] at BZ1
 have lR := Ya.mk (HE.out.below iE.out)
 clear hbk hbkA HBA
 by_cases c1 : n1 < h.size
 ·have d1 : decide ((n1 : Int) < (h.size : Int)) = true := decide_eq_true Zl
  have d2 : decide (n1 < h.size) = true := decide_eq_true c1
  have cV := HQ.out
  rw [if_pos c1] at cV
  simp only [Prod.mk.injEq] at cV
  obtain ⟨rfl, rfl, rfl, rfl⟩ := cV
  clear c1 HQ
  go_enter Tryz.func50, Tryz.ntmps50
  go_wp2_with fail
  refine (Ypa.calls k1 _ _ _ _ lR.out HU1.out).mono ?_
  rintro e w2' ⟨rfl, ⟨nd, rfl⟩⟩
  have BK2 := Ya.mk (Ym BK1.out nd)
  have uH := Ya.mk (Ym BZ1.out nd)
  have eM := Ya.mk (Yb iE.out nd)
  obtain ⟨w2, hw⟩ : ∃ W, W = ((w.alloc (.cells (uc sch ⟨#[]⟩ 0 ⟨#[]⟩ ⟨#[]⟩ ⟨#[]⟩ false false) 25)).alloc (.cells urlZ 25)).drewN nd := ⟨_, rfl⟩
  rw [← hw] at BK2 uH eM ⊢
  clear hw BK1 BZ1 iE lR
  go_wp2_with ((with_reducible refine Yub (t := 25) (p := 4) rfl ?_); refine wpList_store_row rfl 25 (.tmp 4) (.tmp 16) rfl (w.heap.size + 1) (uc ⟨#[]⟩ ⟨#[]⟩ 0 ⟨#[]⟩ ⟨#[]⟩ ⟨#[]⟩ false false) rfl rfl 25 _ uH.out bX rfl (Yvc _ _ _ _ _ _ _ _) ?_)
  refine bodyPost_ret (v := ?v16) ?hr16 ?hd16 ?_
  case hr16 => refine Yza (p := 4) (u := 5) (ty := 25) ?_ _ _ (w.heap.size + 1) 25 (uc ⟨#[]⟩ ⟨#[]⟩ 0 ⟨#[]⟩ ⟨#[]⟩ ⟨#[]⟩ false false) (0, 0) _ ?_ (setRow_heap _ _ _ _ _ _ uH.out) cB rfl bX <;> rfl
  case hd16 => rfl
  exact ⟨rfl, below_setRow eM.out Zl _⟩
 ·have d1 : decide ((n1 : Int) < (h.size : Int)) = false := decide_eq_false Zl
  have d2 : decide (n1 < h.size) = false := decide_eq_false c1
  have cV := HQ.out
  rw [if_neg c1] at cV
  have HQ2 := Ya.mk cV
  clear c1 HQ cV
  go_enter Tryz.func50, Tryz.ntmps50
  go_wp2_with fail
  refine (Ypa.calls k1 _ _ _ _ lR.out HU1.out).mono ?_
  rintro e w2' ⟨rfl, ⟨nd, rfl⟩⟩
  have BK2 := Ya.mk (Ym BK1.out nd)
  have uH := Ya.mk (Ym BZ1.out nd)
  have eM := Ya.mk (Yb iE.out nd)
  obtain ⟨w2, hw⟩ : ∃ W, W = ((w.alloc (.cells (uc sch ⟨#[]⟩ 0 ⟨#[]⟩ ⟨#[]⟩ ⟨#[]⟩ false false) 25)).alloc (.cells urlZ 25)).drewN nd := ⟨_, rfl⟩
  rw [← hw] at BK2 uH eM ⊢
  clear hw BK1 BZ1 iE lR
  go_wp2_with fail
  refine (Ypa.calls k2 _ _ _ _ (HE.out.below eM.out) HU2.out).mono ?_
  rintro e w3' ⟨rfl, ⟨nd3, rfl⟩⟩
  have BK3 := Ya.mk (Ym BK2.out nd3)
  have BZ3 := Ya.mk (Ym uH.out nd3)
  have eG := Ya.mk (Yb eM.out nd3)
  obtain ⟨w3, hw⟩ : ∃ W, W = w2.drewN nd3 := ⟨_, rfl⟩
  rw [← hw] at BK3 BZ3 eG ⊢
  clear hw BK2 uH eM
  go_wp2_with fail
  refine (Yef.calls k3 _ _ _ _ (HE.out.below eG.out) HH.out).mono ?_
  rintro e w4 ⟨rfl, lC⟩
  have vH := Ya.mk (Yq BK3.out lC)
  have BZ4 := Ya.mk (Yq BZ3.out lC)
  have dO := Ya.mk (eG.out.trans (lC.mono eG.out.size))
  clear lC BK3 BZ3 eG
  by_cases c2 : sg = 0
  ·subst c2
   have cV := HQ2.out
   rw [if_pos rfl] at cV
   have HQ3 := Ya.mk cV
   clear cV HQ2
   obtain ⟨_, hcz, _⟩ := Yv vH.out
   have hfz := Ye vH.out 1
   have lV := Ya.mk (Yoa (cs' := uc sch hb 0 ⟨#[]⟩ ⟨#[]⟩ ⟨#[]⟩ false false) vH.out 1 (.string hb) rfl)
   have eC := Ya.mk (Yzb BZ4.out (p := ⟨w.heap.size, 1, none⟩) Zv (.string hb))
   have cU := Ya.mk (Yg (j := 1) (v := .string hb) dO.out (Nat.le_refl _))
   clear vH BZ4 dO
   have hno : (rest = [] ∧ ((decide ((n2 : Int) < (h.size : Int)) = false ∧ decide (n2 < h.size) = false) ∨ (n2 < h.size ∧ ((h.extract (n2 + 1) h.size).toList != ([] : List UInt8)) = false ∧ ((h.extract (n2 + 1) h.size).toList == ([] : List UInt8)) = true))) ∨ (rest ≠ [] ∧ n2 < h.size ∧ ((h.extract (n2 + 1) h.size).toList != ([] : List UInt8)) = true ∧ ((h.extract (n2 + 1) h.size).toList == ([] : List UInt8)) = false) := by
    by_cases c3 : n2 < h.size
    ·rw [HX1.out c3, Ysc]
     by_cases c4 : rest = []
     ·exact .inl ⟨c4, .inr ⟨c3, by rw [c4]; rfl, by rw [c4]; rfl⟩⟩
     ·exact .inr ⟨c4, c3, bne_iff_ne.2 c4, beq_eq_false_iff_ne.2 c4⟩
    ·exact .inl ⟨HX2.out c3, .inl ⟨decide_eq_false Zl, decide_eq_false c3⟩⟩
   rcases hno with ⟨hre, hc⟩ | ⟨hre, c3, e1, e2⟩
   ·have cV := HQ3.out
    rw [if_pos hre] at cV
    obtain ⟨p, hp0⟩ : ∃ p : Int, p = 0 := ⟨_, rfl⟩
    have HQF := Ya.mk (show sch = q1 ∧ hb = q2 ∧ (if p = ownN sch.data.toList then 0 else p) = q3 ∧ 0 = q9 from by
     simp only [Prod.mk.injEq] at cV
     refine ⟨cV.1, cV.2.1, ?_, cV.2.2.2⟩
     rw [hp0]; split <;> exact cV.2.2.1)
    rw [← hp0] at lV
    clear cV HQ3 hre hp0
    rcases hc with ⟨d3, d4⟩ | ⟨c3, e1, e2⟩
    ·skip
     rcases hsc with ⟨s1, s2, HOwn⟩ | ⟨s1, s2, HOwn⟩
     ·by_cases hp : p = 80
      ·have ep : (p == 80) = true := beq_iff_eq.2 hp
       have jG := HQF.out
       rw [HOwn.out, if_pos hp] at jG
       obtain ⟨rfl, rfl, rfl, rfl⟩ := jG
       obtain ⟨hz0, _, sX, _⟩ := Yv lV.out
       have hzf := Ye lV.out 2
       have BKn := Ya.mk (Yoa (cs' := uc sch hb 0 ⟨#[]⟩ ⟨#[]⟩ ⟨#[]⟩ false false) lV.out 2 (.int .i64 0) rfl)
       have BZn := Ya.mk (Yzb eC.out (p := ⟨w.heap.size, 2, none⟩) Zv (.int .i64 0))
       have HBn := Ya.mk (Yg (j := 2) (v := .int .i64 0) cU.out (Nat.le_refl _))
       obtain ⟨bN, bM, bO, bS, bR, bQ, bT, bP⟩ := Yv BKn.out
       clear hp
       go_wp2_with ((with_reducible refine Yub (t := 25) (p := 4) rfl ?_); refine wpList_store_row rfl 25 (.tmp 4) (.tmp 75) rfl (w.heap.size + 1) (uc sch hb 0 ⟨#[]⟩ ⟨#[]⟩ ⟨#[]⟩ false false) rfl rfl 25 _ BZn.out bX rfl (Yvc _ _ _ _ _ _ _ _) ?_)
       refine bodyPost_ret (v := ?vz1) ?hrz1 ?hdz1 ?_
       case hrz1 => refine Yza (p := 4) (u := 5) (ty := 25) ?_ _ _ (w.heap.size + 1) 25 (uc sch hb 0 ⟨#[]⟩ ⟨#[]⟩ ⟨#[]⟩ false false) (0, 0) _ ?_ (setRow_heap _ _ _ _ _ _ BZn.out) cB rfl bX <;> rfl
       case hdz1 => rfl
       exact ⟨rfl, below_setRow HBn.out Zl _⟩
      ·have ep : (p == 80) = false := beq_eq_false_iff_ne.2 hp
       have jG := HQF.out
       rw [HOwn.out, if_neg hp] at jG
       obtain ⟨rfl, rfl, rfl, rfl⟩ := jG
       obtain ⟨bN, bM, bO, bS, bR, bQ, bT, bP⟩ := Yv lV.out
       clear hp
       go_wp2_with ((with_reducible refine Yub (t := 25) (p := 4) rfl ?_); refine wpList_store_row rfl 25 (.tmp 4) (.tmp 75) rfl (w.heap.size + 1) (uc sch hb p ⟨#[]⟩ ⟨#[]⟩ ⟨#[]⟩ false false) rfl rfl 25 _ eC.out bX rfl (Yvc _ _ _ _ _ _ _ _) ?_)
       refine bodyPost_ret (v := ?vz2) ?hrz2 ?hdz2 ?_
       case hrz2 => refine Yza (p := 4) (u := 5) (ty := 25) ?_ _ _ (w.heap.size + 1) 25 (uc sch hb p ⟨#[]⟩ ⟨#[]⟩ ⟨#[]⟩ false false) (0, 0) _ ?_ (setRow_heap _ _ _ _ _ _ eC.out) cB rfl bX <;> rfl
       case hdz2 => rfl
       exact ⟨rfl, below_setRow cU.out Zl _⟩
     ·by_cases hp : p = 443
      ·have ep : (p == 443) = true := beq_iff_eq.2 hp
       have jG := HQF.out
       rw [HOwn.out, if_pos hp] at jG
       obtain ⟨rfl, rfl, rfl, rfl⟩ := jG
       obtain ⟨hz0, _, sX, _⟩ := Yv lV.out
       have hzf := Ye lV.out 2
       have BKn := Ya.mk (Yoa (cs' := uc sch hb 0 ⟨#[]⟩ ⟨#[]⟩ ⟨#[]⟩ false false) lV.out 2 (.int .i64 0) rfl)
       have BZn := Ya.mk (Yzb eC.out (p := ⟨w.heap.size, 2, none⟩) Zv (.int .i64 0))
       have HBn := Ya.mk (Yg (j := 2) (v := .int .i64 0) cU.out (Nat.le_refl _))
       obtain ⟨bN, bM, bO, bS, bR, bQ, bT, bP⟩ := Yv BKn.out
       clear hp
       go_wp2_with ((with_reducible refine Yub (t := 25) (p := 4) rfl ?_); refine wpList_store_row rfl 25 (.tmp 4) (.tmp 75) rfl (w.heap.size + 1) (uc sch hb 0 ⟨#[]⟩ ⟨#[]⟩ ⟨#[]⟩ false false) rfl rfl 25 _ BZn.out bX rfl (Yvc _ _ _ _ _ _ _ _) ?_)
       refine bodyPost_ret (v := ?vz3) ?hrz3 ?hdz3 ?_
       case hrz3 => refine Yza (p := 4) (u := 5) (ty := 25) ?_ _ _ (w.heap.size + 1) 25 (uc sch hb 0 ⟨#[]⟩ ⟨#[]⟩ ⟨#[]⟩ false false) (0, 0) _ ?_ (setRow_heap _ _ _ _ _ _ BZn.out) cB rfl bX <;> rfl
       case hdz3 => rfl
       exact ⟨rfl, below_setRow HBn.out Zl _⟩
      ·have ep : (p == 443) = false := beq_eq_false_iff_ne.2 hp
       have jG := HQF.out
       rw [HOwn.out, if_neg hp] at jG
       obtain ⟨rfl, rfl, rfl, rfl⟩ := jG
       obtain ⟨bN, bM, bO, bS, bR, bQ, bT, bP⟩ := Yv lV.out
       clear hp
       go_wp2_with ((with_reducible refine Yub (t := 25) (p := 4) rfl ?_); refine wpList_store_row rfl 25 (.tmp 4) (.tmp 75) rfl (w.heap.size + 1) (uc sch hb p ⟨#[]⟩ ⟨#[]⟩ ⟨#[]⟩ false false) rfl rfl 25 _ eC.out bX rfl (Yvc _ _ _ _ _ _ _ _) ?_)
       refine bodyPost_ret (v := ?vz4) ?hrz4 ?hdz4 ?_
       case hrz4 => refine Yza (p := 4) (u := 5) (ty := 25) ?_ _ _ (w.heap.size + 1) 25 (uc sch hb p ⟨#[]⟩ ⟨#[]⟩ ⟨#[]⟩ false false) (0, 0) _ ?_ (setRow_heap _ _ _ _ _ _ eC.out) cB rfl bX <;> rfl
       case hdz4 => rfl
       exact ⟨rfl, below_setRow cU.out Zl _⟩
    ·have d3 : decide ((n2 : Int) < (h.size : Int)) = true := decide_eq_true Zl
     have d4 : decide (n2 < h.size) = true := decide_eq_true c3
     have b3 : ((n2 + 1 : Nat) : Int) ≤ (h.size : Int) := by omega
     have b4 : (n2 : Int) + 1 ≤ (h.size : Int) := by omega
     have hw9 : wrap64 ((n2 : Int) + 1) = ((n2 + 1 : Nat) : Int) := by unfold wrap64; omega
     rcases hsc with ⟨s1, s2, HOwn⟩ | ⟨s1, s2, HOwn⟩
     ·by_cases hp : p = 80
      ·have ep : (p == 80) = true := beq_iff_eq.2 hp
       have jG := HQF.out
       rw [HOwn.out, if_pos hp] at jG
       obtain ⟨rfl, rfl, rfl, rfl⟩ := jG
       obtain ⟨hz0, _, sX, _⟩ := Yv lV.out
       have hzf := Ye lV.out 2
       have BKn := Ya.mk (Yoa (cs' := uc sch hb 0 ⟨#[]⟩ ⟨#[]⟩ ⟨#[]⟩ false false) lV.out 2 (.int .i64 0) rfl)
       have BZn := Ya.mk (Yzb eC.out (p := ⟨w.heap.size, 2, none⟩) Zv (.int .i64 0))
       have HBn := Ya.mk (Yg (j := 2) (v := .int .i64 0) cU.out (Nat.le_refl _))
       obtain ⟨bN, bM, bO, bS, bR, bQ, bT, bP⟩ := Yv BKn.out
       clear hp
       go_wp2_with ((with_reducible refine Yub (t := 25) (p := 4) rfl ?_); refine wpList_store_row rfl 25 (.tmp 4) (.tmp 75) rfl (w.heap.size + 1) (uc sch hb 0 ⟨#[]⟩ ⟨#[]⟩ ⟨#[]⟩ false false) rfl rfl 25 _ BZn.out bX rfl (Yvc _ _ _ _ _ _ _ _) ?_)
       refine bodyPost_ret (v := ?vz5) ?hrz5 ?hdz5 ?_
       case hrz5 => refine Yza (p := 4) (u := 5) (ty := 25) ?_ _ _ (w.heap.size + 1) 25 (uc sch hb 0 ⟨#[]⟩ ⟨#[]⟩ ⟨#[]⟩ false false) (0, 0) _ ?_ (setRow_heap _ _ _ _ _ _ BZn.out) cB rfl bX <;> rfl
       case hdz5 => rfl
       exact ⟨rfl, below_setRow HBn.out Zl _⟩
      ·have ep : (p == 80) = false := beq_eq_false_iff_ne.2 hp
       have jG := HQF.out
       rw [HOwn.out, if_neg hp] at jG
       obtain ⟨rfl, rfl, rfl, rfl⟩ := jG
       obtain ⟨bN, bM, bO, bS, bR, bQ, bT, bP⟩ := Yv lV.out
       clear hp
       go_wp2_with ((with_reducible refine Yub (t := 25) (p := 4) rfl ?_); refine wpList_store_row rfl 25 (.tmp 4) (.tmp 75) rfl (w.heap.size + 1) (uc sch hb p ⟨#[]⟩ ⟨#[]⟩ ⟨#[]⟩ false false) rfl rfl 25 _ eC.out bX rfl (Yvc _ _ _ _ _ _ _ _) ?_)
       refine bodyPost_ret (v := ?vz6) ?hrz6 ?hdz6 ?_
       case hrz6 => refine Yza (p := 4) (u := 5) (ty := 25) ?_ _ _ (w.heap.size + 1) 25 (uc sch hb p ⟨#[]⟩ ⟨#[]⟩ ⟨#[]⟩ false false) (0, 0) _ ?_ (setRow_heap _ _ _ _ _ _ eC.out) cB rfl bX <;> rfl
       case hdz6 => rfl
       exact ⟨rfl, below_setRow cU.out Zl _⟩
     ·by_cases hp : p = 443
      ·have ep : (p == 443) = true := beq_iff_eq.2 hp
       have jG := HQF.out
       rw [HOwn.out, if_pos hp] at jG
       obtain ⟨rfl, rfl, rfl, rfl⟩ := jG
       obtain ⟨hz0, _, sX, _⟩ := Yv lV.out
       have hzf := Ye lV.out 2
       have BKn := Ya.mk (Yoa (cs' := uc sch hb 0 ⟨#[]⟩ ⟨#[]⟩ ⟨#[]⟩ false false) lV.out 2 (.int .i64 0) rfl)
       have BZn := Ya.mk (Yzb eC.out (p := ⟨w.heap.size, 2, none⟩) Zv (.int .i64 0))
       have HBn := Ya.mk (Yg (j := 2) (v := .int .i64 0) cU.out (Nat.le_refl _))
       obtain ⟨bN, bM, bO, bS, bR, bQ, bT, bP⟩ := Yv BKn.out
       clear hp
       go_wp2_with ((with_reducible refine Yub (t := 25) (p := 4) rfl ?_); refine wpList_store_row rfl 25 (.tmp 4) (.tmp 75) rfl (w.heap.size + 1) (uc sch hb 0 ⟨#[]⟩ ⟨#[]⟩ ⟨#[]⟩ false false) rfl rfl 25 _ BZn.out bX rfl (Yvc _ _ _ _ _ _ _ _) ?_)
       refine bodyPost_ret (v := ?vz7) ?hrz7 ?hdz7 ?_
       case hrz7 => refine Yza (p := 4) (u := 5) (ty := 25) ?_ _ _ (w.heap.size + 1) 25 (uc sch hb 0 ⟨#[]⟩ ⟨#[]⟩ ⟨#[]⟩ false false) (0, 0) _ ?_ (setRow_heap _ _ _ _ _ _ BZn.out) cB rfl bX <;> rfl
       case hdz7 => rfl
       exact ⟨rfl, below_setRow HBn.out Zl _⟩
      ·have ep : (p == 443) = false := beq_eq_false_iff_ne.2 hp
       have jG := HQF.out
       rw [HOwn.out, if_neg hp] at jG
       obtain ⟨rfl, rfl, rfl, rfl⟩ := jG
       obtain ⟨bN, bM, bO, bS, bR, bQ, bT, bP⟩ := Yv lV.out
       clear hp
       go_wp2_with ((with_reducible refine Yub (t := 25) (p := 4) rfl ?_); refine wpList_store_row rfl 25 (.tmp 4) (.tmp 75) rfl (w.heap.size + 1) (uc sch hb p ⟨#[]⟩ ⟨#[]⟩ ⟨#[]⟩ false false) rfl rfl 25 _ eC.out bX rfl (Yvc _ _ _ _ _ _ _ _) ?_)
       refine bodyPost_ret (v := ?vz8) ?hrz8 ?hdz8 ?_
       case hrz8 => refine Yza (p := 4) (u := 5) (ty := 25) ?_ _ _ (w.heap.size + 1) 25 (uc sch hb p ⟨#[]⟩ ⟨#[]⟩ ⟨#[]⟩ false false) (0, 0) _ ?_ (setRow_heap _ _ _ _ _ _ eC.out) cB rfl bX <;> rfl
       case hdz8 => rfl
       exact ⟨rfl, below_setRow cU.out Zl _⟩
   ·have cV := HQ3.out
    rw [if_neg hre] at cV
    have HQ4 := Ya.mk cV
    have d3 : decide ((n2 : Int) < (h.size : Int)) = true := decide_eq_true Zl
    have d4 : decide (n2 < h.size) = true := decide_eq_true c3
    have b3 : ((n2 + 1 : Nat) : Int) ≤ (h.size : Int) := by omega
    have b4 : (n2 : Int) + 1 ≤ (h.size : Int) := by omega
    have hw9 : wrap64 ((n2 : Int) + 1) = ((n2 + 1 : Nat) : Int) := by unfold wrap64; omega
    obtain ⟨k4, hk4⟩ := Ysm (ofL rest) 65535 Zl Zl Zha
    obtain ⟨pn, hpn⟩ : ∃ x, x = (numL 65535 rest).1 := ⟨_, rfl⟩
    obtain ⟨ps, hps⟩ : ∃ x, x = (numL 65535 rest).2 := ⟨_, rfl⟩
    have HN := Ya.mk (show Yaa.f k4 (h.extract (n2 + 1) h.size) 65535 = some (pn, ps) from by
     rw [HX1.out c3, hpn, hps]; have := hk4 k4 (Nat.le_refl _); rw [Ygb] at this; exact this)
    rw [← hpn, ← hps] at HQ4
    clear hk4 hpn hps cV HQ3 hre c3
    go_wp2_with fail
    refine (Yaa.calls k4 _ _ _ _ _ (HE.out.below cU.out) HN.out).mono ?_
    rintro e w6' ⟨rfl, ⟨nd6, rfl⟩⟩
    have BK6 := Ya.mk (Ym lV.out nd6)
    have BZ6 := Ya.mk (Ym eC.out nd6)
    have jJ := Ya.mk (Yb cU.out nd6)
    obtain ⟨w6, hw⟩ : ∃ W, W = (w4.setCell ⟨w.heap.size, 1, none⟩ (.string hb)).drewN nd6 := ⟨_, rfl⟩
    rw [← hw] at BK6 BZ6 jJ ⊢
    clear hw lV eC cU
    clear hcz hfz
    by_cases c5 : ps = 0
    ·subst c5
     have cV := HQ4.out
     rw [if_pos rfl] at cV
     have HQF := Ya.mk (show sch = q1 ∧ hb = q2 ∧ (if pn = ownN sch.data.toList then 0 else pn) = q3 ∧ 0 = q9 from by
      simp only [Prod.mk.injEq] at cV; exact cV)
     obtain ⟨p, hpp⟩ : ∃ p, p = pn := ⟨_, rfl⟩
     rw [← hpp] at HQF ⊢
     clear hpp cV HQ4
     obtain ⟨_, _, hcy, _⟩ := Yv BK6.out
     have hfy := Ye BK6.out 2
     have pV := Ya.mk (Yoa (cs' := uc sch hb p ⟨#[]⟩ ⟨#[]⟩ ⟨#[]⟩ false false) BK6.out 2 (.int .i64 p) rfl)
     have BZ7 := Ya.mk (Yzb BZ6.out (p := ⟨w.heap.size, 2, none⟩) Zv (.int .i64 p))
     have HB7 := Ya.mk (Yg (j := 2) (v := .int .i64 p) jJ.out (Nat.le_refl _))
     rcases hsc with ⟨s1, s2, HOwn⟩ | ⟨s1, s2, HOwn⟩
     ·by_cases hp : p = 80
      ·have ep : (p == 80) = true := beq_iff_eq.2 hp
       have jG := HQF.out
       rw [HOwn.out, if_pos hp] at jG
       obtain ⟨rfl, rfl, rfl, rfl⟩ := jG
       obtain ⟨hz0, _, sX, _⟩ := Yv pV.out
       have hzf := Ye pV.out 2
       have BKn := Ya.mk (Yoa (cs' := uc sch hb 0 ⟨#[]⟩ ⟨#[]⟩ ⟨#[]⟩ false false) pV.out 2 (.int .i64 0) rfl)
       have BZn := Ya.mk (Yzb BZ7.out (p := ⟨w.heap.size, 2, none⟩) Zv (.int .i64 0))
       have HBn := Ya.mk (Yg (j := 2) (v := .int .i64 0) HB7.out (Nat.le_refl _))
       obtain ⟨bN, bM, bO, bS, bR, bQ, bT, bP⟩ := Yv BKn.out
       clear hp
       go_wp2_with ((with_reducible refine Yub (t := 25) (p := 4) rfl ?_); refine wpList_store_row rfl 25 (.tmp 4) (.tmp 75) rfl (w.heap.size + 1) (uc sch hb 0 ⟨#[]⟩ ⟨#[]⟩ ⟨#[]⟩ false false) rfl rfl 25 _ BZn.out bX rfl (Yvc _ _ _ _ _ _ _ _) ?_)
       refine bodyPost_ret (v := ?vz9) ?hrz9 ?hdz9 ?_
       case hrz9 => refine Yza (p := 4) (u := 5) (ty := 25) ?_ _ _ (w.heap.size + 1) 25 (uc sch hb 0 ⟨#[]⟩ ⟨#[]⟩ ⟨#[]⟩ false false) (0, 0) _ ?_ (setRow_heap _ _ _ _ _ _ BZn.out) cB rfl bX <;> rfl
       case hdz9 => rfl
       exact ⟨rfl, below_setRow HBn.out Zl _⟩
      ·have ep : (p == 80) = false := beq_eq_false_iff_ne.2 hp
       have jG := HQF.out
       rw [HOwn.out, if_neg hp] at jG
       obtain ⟨rfl, rfl, rfl, rfl⟩ := jG
       obtain ⟨bN, bM, bO, bS, bR, bQ, bT, bP⟩ := Yv pV.out
       clear hp
       go_wp2_with ((with_reducible refine Yub (t := 25) (p := 4) rfl ?_); refine wpList_store_row rfl 25 (.tmp 4) (.tmp 75) rfl (w.heap.size + 1) (uc sch hb p ⟨#[]⟩ ⟨#[]⟩ ⟨#[]⟩ false false) rfl rfl 25 _ BZ7.out bX rfl (Yvc _ _ _ _ _ _ _ _) ?_)
       refine bodyPost_ret (v := ?vz10) ?hrz10 ?hdz10 ?_
       case hrz10 => refine Yza (p := 4) (u := 5) (ty := 25) ?_ _ _ (w.heap.size + 1) 25 (uc sch hb p ⟨#[]⟩ ⟨#[]⟩ ⟨#[]⟩ false false) (0, 0) _ ?_ (setRow_heap _ _ _ _ _ _ BZ7.out) cB rfl bX <;> rfl
       case hdz10 => rfl
       exact ⟨rfl, below_setRow HB7.out Zl _⟩
     ·by_cases hp : p = 443
      ·have ep : (p == 443) = true := beq_iff_eq.2 hp
       have jG := HQF.out
       rw [HOwn.out, if_pos hp] at jG
       obtain ⟨rfl, rfl, rfl, rfl⟩ := jG
       obtain ⟨hz0, _, sX, _⟩ := Yv pV.out
       have hzf := Ye pV.out 2
       have BKn := Ya.mk (Yoa (cs' := uc sch hb 0 ⟨#[]⟩ ⟨#[]⟩ ⟨#[]⟩ false false) pV.out 2 (.int .i64 0) rfl)
       have BZn := Ya.mk (Yzb BZ7.out (p := ⟨w.heap.size, 2, none⟩) Zv (.int .i64 0))
       have HBn := Ya.mk (Yg (j := 2) (v := .int .i64 0) HB7.out (Nat.le_refl _))
       obtain ⟨bN, bM, bO, bS, bR, bQ, bT, bP⟩ := Yv BKn.out
       clear hp
       go_wp2_with ((with_reducible refine Yub (t := 25) (p := 4) rfl ?_); refine wpList_store_row rfl 25 (.tmp 4) (.tmp 75) rfl (w.heap.size + 1) (uc sch hb 0 ⟨#[]⟩ ⟨#[]⟩ ⟨#[]⟩ false false) rfl rfl 25 _ BZn.out bX rfl (Yvc _ _ _ _ _ _ _ _) ?_)
       refine bodyPost_ret (v := ?vz11) ?hrz11 ?hdz11 ?_
       case hrz11 => refine Yza (p := 4) (u := 5) (ty := 25) ?_ _ _ (w.heap.size + 1) 25 (uc sch hb 0 ⟨#[]⟩ ⟨#[]⟩ ⟨#[]⟩ false false) (0, 0) _ ?_ (setRow_heap _ _ _ _ _ _ BZn.out) cB rfl bX <;> rfl
       case hdz11 => rfl
       exact ⟨rfl, below_setRow HBn.out Zl _⟩
      ·have ep : (p == 443) = false := beq_eq_false_iff_ne.2 hp
       have jG := HQF.out
       rw [HOwn.out, if_neg hp] at jG
       obtain ⟨rfl, rfl, rfl, rfl⟩ := jG
       obtain ⟨bN, bM, bO, bS, bR, bQ, bT, bP⟩ := Yv pV.out
       clear hp
       go_wp2_with ((with_reducible refine Yub (t := 25) (p := 4) rfl ?_); refine wpList_store_row rfl 25 (.tmp 4) (.tmp 75) rfl (w.heap.size + 1) (uc sch hb p ⟨#[]⟩ ⟨#[]⟩ ⟨#[]⟩ false false) rfl rfl 25 _ BZ7.out bX rfl (Yvc _ _ _ _ _ _ _ _) ?_)
       refine bodyPost_ret (v := ?vz12) ?hrz12 ?hdz12 ?_
       case hrz12 => refine Yza (p := 4) (u := 5) (ty := 25) ?_ _ _ (w.heap.size + 1) 25 (uc sch hb p ⟨#[]⟩ ⟨#[]⟩ ⟨#[]⟩ false false) (0, 0) _ ?_ (setRow_heap _ _ _ _ _ _ BZ7.out) cB rfl bX <;> rfl
       case hdz12 => rfl
       exact ⟨rfl, below_setRow HB7.out Zl _⟩
    ·have d5 : decide (ps = 0) = false := decide_eq_false c5
     have d6 : (ps == 0) = false := beq_eq_false_iff_ne.2 c5
     have cV := HQ4.out
     rw [if_neg c5] at cV
     simp only [Prod.mk.injEq] at cV
     obtain ⟨rfl, rfl, rfl, rfl⟩ := cV
     clear c5 HQ4
     go_wp2_with ((with_reducible refine Yub (t := 25) (p := 4) rfl ?_); refine wpList_store_row rfl 25 (.tmp 4) (.tmp 53) rfl (w.heap.size + 1) (uc ⟨#[]⟩ ⟨#[]⟩ 0 ⟨#[]⟩ ⟨#[]⟩ ⟨#[]⟩ false false) rfl rfl 25 _ BZ6.out bX rfl (Yvc _ _ _ _ _ _ _ _) ?_)
     refine bodyPost_ret (v := ?v53) ?hr53 ?hd53 ?_
     case hr53 => refine Yza (p := 4) (u := 5) (ty := 25) ?_ _ _ (w.heap.size + 1) 25 (uc ⟨#[]⟩ ⟨#[]⟩ 0 ⟨#[]⟩ ⟨#[]⟩ ⟨#[]⟩ false false) (0, 0) _ ?_ (setRow_heap _ _ _ _ _ _ BZ6.out) cB rfl bX <;> rfl
     case hd53 => rfl
     exact ⟨rfl, below_setRow jJ.out Zl _⟩
  ·have d5 : decide (sg = 0) = false := decide_eq_false c2
   have d6 : (sg == 0) = false := beq_eq_false_iff_ne.2 c2
   have cV := HQ2.out
   rw [if_neg c2] at cV
   simp only [Prod.mk.injEq] at cV
   obtain ⟨rfl, rfl, rfl, rfl⟩ := cV
   clear c2 HQ2
   go_wp2_with ((with_reducible refine Yub (t := 25) (p := 4) rfl ?_); refine wpList_store_row rfl 25 (.tmp 4) (.tmp 28) rfl (w.heap.size + 1) (uc ⟨#[]⟩ ⟨#[]⟩ 0 ⟨#[]⟩ ⟨#[]⟩ ⟨#[]⟩ false false) rfl rfl 25 _ BZ4.out bX rfl (Yvc _ _ _ _ _ _ _ _) ?_)
   refine bodyPost_ret (v := ?v28) ?hr28 ?hd28 ?_
   case hr28 => refine Yza (p := 4) (u := 5) (ty := 25) ?_ _ _ (w.heap.size + 1) 25 (uc ⟨#[]⟩ ⟨#[]⟩ 0 ⟨#[]⟩ ⟨#[]⟩ ⟨#[]⟩ false false) (0, 0) _ ?_ (setRow_heap _ _ _ _ _ _ BZ4.out) cB rfl bX <;> rfl
   case hd28 => rfl
   exact ⟨rfl, below_setRow dO.out Zl _⟩
end Go.Proofs.YtnmglnglbdpjjaaGreatDoor.X
