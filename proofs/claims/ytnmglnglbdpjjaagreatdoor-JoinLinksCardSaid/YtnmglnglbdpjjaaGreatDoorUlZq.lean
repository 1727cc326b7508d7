/- The document's Parse: what a call of it does. -/
import Derived.Test.YtnmglnglbdpjjaaGreatDoorUlWords
import Derived.Test.YtnmglnglbdpjjaaGreatDoorUlZv
namespace Go.Proofs.YtnmglnglbdpjjaaGreatDoor.X
open Go.RowKit Go.Lib Go.Shelf Go.Yw.PrintWords Go.Yw.PrintLast Go.Yw.PrintMore
set_option linter.unusedVariables false
set_option linter.unusedSimpArgs false
def Yao : Bool × List (List Nat × List Nat) := (true, [([], []), ([], []), ([], []), ([1, 2], [1, 2]), ([0, 3], [0, 3]), ([4], [4]), ([5], [5]), ([5], [5]), ([6, 4, 0, 1, 2, 3, 4, 5, 6], [6]), ([7, 8, 0, 1, 2, 3, 4, 5, 6, 7, 8], [7])])
def Ylt : List Nat := [0, 0, 0, 6, 15, 31, 63, 63, 127, 511]
theorem Ypr : rtab .any (opsOf Tryz.f16 16) = Yao := by kernel_rfl
theorem Ydp : Ykg Yao.2 Ylt = true := by kernel_rfl
theorem hostL_le (m : List UInt8) : (Ydf m).1.length ≤ m.length := by
 have := Ypk _ m (Nat.le_refl _)
 unfold Ydf
 split
 ·simp
 ·split
  ·rw [Yfh]; exact this
  ·simp
theorem placeQ_ok (sch : ByteArray) (h : List UInt8) (q1 q2 : ByteArray) (q3 q9 : Int) (hp : Ymi sch h = (q1, q2, q3, q9)) : q9 = 0 → q1 = sch ∧ q2.size ≤ h.length ∧ 0 ≤ q3 ∧ q3 ≤ 65535 := by
 intro h0
 have hh := hostL_le (h.takeWhile (Ycb [58]))
 have ht := Ype (Ycb [58]) h
 have hn := Ynn 65535 Zk ((h.dropWhile (Ycb [58])).drop 1)
 unfold Ymi at hp
 split at hp
 ·simp only [Prod.mk.injEq] at hp; omega
 ·split at hp
  ·split at hp
   ·simp only [Prod.mk.injEq] at hp
    obtain ⟨rfl, rfl, rfl, _⟩ := hp
    exact ⟨rfl, Zba, Zk, Zk⟩
   ·split at hp
    ·simp only [Prod.mk.injEq] at hp
     obtain ⟨rfl, rfl, rfl, _⟩ := hp
     refine ⟨rfl, Zba, ?_, ?_⟩ <;> split <;> omega
    ·simp only [Prod.mk.injEq] at hp; omega
  ·next hne => simp only [Prod.mk.injEq] at hp; exact absurd (hp.2.2.2.trans h0) hne
set_option maxHeartbeats 8000000 in
set_option maxRecDepth 100000 in
theorem Ylr (a0 r1 r2 : ByteArray) (r3 : Int) (r4 r5 r6 : ByteArray) (r7 r8 : Bool) (r9 : Int) (w : World) (hE : EnvOk w) (hs : a0.size ≤ 100000000) (hq : Yjg a0.data.toList = (r1, r2, r3, r4, r5, r6, r7, r8, r9)) :
  Calls Tryz.prog 16 #[.string a0] w fun e w' => e = .returned (.tuple #[.agg (uc r1 r2 r3 r4 r5 r6 r7 r8), .int .i64 r9]) ∧ Below w.heap.size w w' := by
 have HE := Ya.mk hE
 have bQ := Tryz.underlying25
 have bG : (Tryz.prog.info? 25).map (·.size) = some 8 := by kernel_rfl
 rw [Ycu] at hq
 obtain ⟨kc, hkc⟩ := Yks a0 hs
 have hcl := Yri a0.data.toList
 rw [← Lib.size_eq] at hcl
 obtain ⟨c, hc⟩ : ∃ c, c = Ypd a0.data.toList := ⟨_, rfl⟩
 rw [← hc] at hq hcl
 have HC := Ya.mk (show Yq.f kc a0 = some (ofL c) from by rw [hc]; exact hkc kc (Nat.le_refl _))
 obtain ⟨ks, hks⟩ := Yqk (ofL c) Zba
 rw [Yfb] at hks
 obtain ⟨n, hn⟩ : ∃ n, n = Yrd c := ⟨_, rfl⟩
 have HS := Ya.mk (show Yr.f ks (ofL c) = some ((n : Nat) : Int) from by rw [hn]; exact hks ks (Nat.le_refl _))
 have hnl : n ≤ c.length := by
  rw [hn]; unfold Yrd
  split
  ·next h =>
   have e := congrArg List.length (List.takeWhile_append_dropWhile (p := Ywb) (l := c))
   rw [List.length_append] at e
   cases hd : c.dropWhile Ywb with
   | nil => rw [hd] at h; simp at h
   | cons x y => rw [hd] at e; simp only [List.length_cons] at e; omega
  ·omega
 obtain ⟨cb, hcb⟩ : ∃ x, x = ofL c := ⟨_, rfl⟩
 have hcbs : cb.size = c.length := by rw [hcb, Yx]
 have HCB := Ya.mk (show cb.data.toList = c from by rw [hcb]; rfl)
 rw [← hcb] at HC HS
 obtain ⟨ni, hni⟩ : ∃ x : Int, x = ((n : Nat) : Int) := ⟨_, rfl⟩
 rw [← hni] at HS
 have HNI := Ya.mk hni
 clear hni
 have cN : (if cb.size > 2048 then Yac 5 else if n = 0 then Yac 3 else if lowL (c.take (n - 1)) = Yxg ∨ lowL (c.take (n - 1)) = Yuf then refS (ofL (lowL (c.take (n - 1)))) (c.drop n) else Yac 16) = (r1, r2, r3, r4, r5, r6, r7, r8, r9) := by
  rw [← hq, hn, hcbs]; unfold refP
  by_cases c1 : c.length > 2048
  ·rw [if_pos c1, if_pos (show (c.length : Int) > 2048 by omega)]
  ·rw [if_neg c1, if_neg (show ¬ (c.length : Int) > 2048 by omega)]
 have HQ := Ya.mk cN
 have HZ1 := Ya.mk (heap_alloc_new w (.cells urlZ 25))
 have hZ := Ya.mk ((Below.refl w.heap.size w).alloc (Nat.le_refl _) (.cells urlZ 25))
 have HNL := Ya.mk (show n ≤ cb.size by omega)
 clear hE hq hkc hks hc hcl hn hcb hcbs cN hnl hs
 go_enter Tryz.func16, Tryz.ntmps16
 go_wp2_with fail
 refine (Yq.calls kc _ _ _ (HE.out.below hZ.out) HC.out).mono ?_
 rintro e w2 ⟨rfl, hb⟩
 have tS := Ya.mk (Yra HZ1.out hb)
 have eK := Ya.mk (hZ.out.trans (hb.mono hZ.out.size))
 clear hb HZ1 hZ
 go_wp2_with fail
 refine (Yr.calls ks _ _ _ (HE.out.below eK.out) HS.out).mono ?_
 rintro e w3' ⟨rfl, ⟨nd3, rfl⟩⟩
 have yS := Ya.mk (Yh tS.out nd3)
 have eE := Ya.mk (Yb eK.out nd3)
 obtain ⟨w3, hw⟩ : ∃ W, W = w2.drewN nd3 := ⟨_, rfl⟩
 rw [← hw] at yS eE ⊢
 clear hw tS eK
 by_cases c1 : cb.size > 2048
 ·have d1 : decide ((2048 : Int) < (cb.size : Int)) = true := decide_eq_true Zk
  have cN := HQ.out
  rw [if_pos c1] at cN
  simp only [Yac, Prod.mk.injEq] at cN
  obtain ⟨rfl, rfl, rfl, rfl, rfl, rfl, rfl, rfl, rfl⟩ := cN
  clear c1 HQ
  go_wp2_with ((with_reducible refine Ydb (t := 25) (p := 2) rfl ?_); refine wpList_store_row rfl 25 (.tmp 2) (.tmp 15) rfl w.heap.size (uc ⟨#[]⟩ ⟨#[]⟩ 0 ⟨#[]⟩ ⟨#[]⟩ ⟨#[]⟩ false false) rfl rfl 25 _ yS.out bG rfl (Yrb _ _ _ _ _ _ _ _) ?_)
  refine bodyPost_ret (v := ?v15) ?hr15 ?hd15 ?_
  case hr15 => refine Yea (p := 2) (u := 3) (ty := 25) ?_ _ _ w.heap.size 25 (uc ⟨#[]⟩ ⟨#[]⟩ 0 ⟨#[]⟩ ⟨#[]⟩ ⟨#[]⟩ false false) (0, 0) _ ?_ (setRow_heap _ _ _ _ _ _ yS.out) bQ rfl bG <;> rfl
  case hd15 => rfl
  exact ⟨rfl, below_setRow eE.out (Nat.le_refl _) _⟩
 ·have d1 : decide ((2048 : Int) < (cb.size : Int)) = false := decide_eq_false Zk
  have cN := HQ.out
  rw [if_neg c1] at cN
  have zN := Ya.mk cN
  clear cN HQ
  by_cases c2 : n = 0
  ·subst c2
   obtain rfl : ni = 0 := HNI.out
   have cN := zN.out
   rw [if_pos rfl] at cN
   simp only [Yac, Prod.mk.injEq] at cN
   obtain ⟨rfl, rfl, rfl, rfl, rfl, rfl, rfl, rfl, rfl⟩ := cN
   clear c1 zN
   go_wp2_with ((with_reducible refine Ydb (t := 25) (p := 2) rfl ?_); refine wpList_store_row rfl 25 (.tmp 2) (.tmp 19) rfl w.heap.size (uc ⟨#[]⟩ ⟨#[]⟩ 0 ⟨#[]⟩ ⟨#[]⟩ ⟨#[]⟩ false false) rfl rfl 25 _ yS.out bG rfl (Yrb _ _ _ _ _ _ _ _) ?_)
   refine bodyPost_ret (v := ?v19) ?hr19 ?hd19 ?_
   case hr19 => refine Yea (p := 2) (u := 3) (ty := 25) ?_ _ _ w.heap.size 25 (uc ⟨#[]⟩ ⟨#[]⟩ 0 ⟨#[]⟩ ⟨#[]⟩ ⟨#[]⟩ false false) (0, 0) _ ?_ (setRow_heap _ _ _ _ _ _ yS.out) bQ rfl bG <;> rfl
   case hd19 => rfl
   exact ⟨rfl, below_setRow eE.out (Nat.le_refl _) _⟩
  ·obtain ⟨m, rfl⟩ : ∃ m, n = m + 1 := ⟨n - 1, Zk⟩
   have hni := HNI.out
   obtain ⟨mi, hmi⟩ : ∃ x : Int, x = ((m : Nat) : Int) := ⟨_, rfl⟩
   have d2 : (ni == 0) = false := beq_eq_false_iff_ne.2 Zk
   have d3 : decide (ni = 0) = false := decide_eq_false Zk
   have hms : m + 1 ≤ cb.size := HNL.out
   have hw1 : wrap64 (ni - 1) = mi := by unfold wrap64; omega
   have b0 : 0 ≤ mi := by omega
   have b1 : mi ≤ (cb.size : Int) := by omega
   have b2 : 0 ≤ ni := by omega
   have b3 : ni ≤ (cb.size : Int) := by omega
   have hmt : mi.toNat = m := by omega
   have hnt : ni.toNat = m + 1 := by omega
   have cN := zN.out
   rw [if_neg Zk, Nat.add_sub_cancel] at cN
   obtain ⟨sch, hsch⟩ : ∃ x, x = ofL (lowL (c.take m)) := ⟨_, rfl⟩
   obtain ⟨kl, hkl⟩ := Yin (cb.extract 0 mi.toNat) Zpa
   have HL := Ya.mk (show Yba.f kl (cb.extract 0 mi.toNat) = some sch from by
    have h9 : Yba.f kl (cb.extract 0 mi.toNat) = _ := hkl kl (Nat.le_refl _)
    rw [h9, hmt, Yfe, Yfb, HCB.out, hsch])
   have hsd : sch.data.toList = lowL (c.take m) := by rw [hsch]; rfl
   rw [← hsd, Yci] at cN
   obtain ⟨x2, pW⟩ : ∃ x, x = cb.extract ni.toNat cb.size := ⟨_, rfl⟩
   have hx2d : x2.data.toList = c.drop (m + 1) := by rw [pW, hnt, Yuc, HCB.out]; rfl
   have hx2s : x2.size ≤ 2048 := by rw [pW, ByteArray.size_extract]; omega
   have hxe := pW.symm
   rw [← hx2d] at cN
   have HQ3 := Ya.mk cN
   have HX2S := Ya.mk hx2s
   clear cN zN hkl hsch hsd pW hx2d hx2s c2 c1 hmt hnt hni hmi hms
   go_wp2_with fail
   refine (Yba.calls kl _ _ _ (HE.out.below eE.out) HL.out).mono ?_
   rintro e w4 ⟨rfl, hb⟩
   have yT := Ya.mk (Yra yS.out hb)
   have dL := Ya.mk (eE.out.trans (hb.mono eE.out.size))
   clear hb yS eE
   have HZ5 := Ya.mk (heap_alloc_new w4 (.cells urlZ 25))
   have HBZ := Ya.mk (dL.out.alloc dL.out.size (.cells urlZ 25))
   have BZ4a := Ya.mk (Yn yT.out (.cells urlZ 25))
   have HGl := Ya.mk (show w.heap.size < w4.heap.size from (Array.getElem?_eq_some_iff.1 yT.out).1)
   have hkinds : (lowL (c.take m) = lowL (c.take m)) := rfl
   have harm : ∀ (_ : Unit), True := fun _ => trivial
   clear harm hkinds
   have hks : ((sch.toList != ([104, 116, 116, 112] : List UInt8)) = false ∧ (sch.toList == ([104, 116, 116, 112] : List UInt8)) = true ∧ Ya (sch.data.toList = Yxg ∨ sch.data.toList = Yuf)) ∨ ((sch.toList != ([104, 116, 116, 112] : List UInt8)) = true ∧ (sch.toList == ([104, 116, 116, 112] : List UInt8)) = false ∧ (sch.toList != ([104, 116, 116, 112, 115] : List UInt8)) = false ∧ (sch.toList == ([104, 116, 116, 112, 115] : List UInt8)) = true ∧ Ya (sch.data.toList = Yxg ∨ sch.data.toList = Yuf)) ∨ ((sch.toList != ([104, 116, 116, 112] : List UInt8)) = true ∧ (sch.toList == ([104, 116, 116, 112] : List UInt8)) = false ∧ (sch.toList != ([104, 116, 116, 112, 115] : List UInt8)) = true ∧ (sch.toList == ([104, 116, 116, 112, 115] : List UInt8)) = false ∧ Ya (¬ (sch.data.toList = Yxg ∨ sch.data.toList = Yuf))) := by
    rw [Lib.toList_data]
    by_cases e : sch.data.toList = Yxg
    ·rw [e]; exact .inl ⟨rfl, rfl, ⟨.inl rfl⟩⟩
    ·by_cases e2 : sch.data.toList = Yuf
     ·rw [e2]; exact .inr (.inl ⟨rfl, rfl, rfl, rfl, ⟨.inr rfl⟩⟩)
     ·exact .inr (.inr ⟨by rw [bne_iff_ne]; exact e, by rw [beq_eq_false_iff_ne]; exact e, by rw [bne_iff_ne]; exact e2, by rw [beq_eq_false_iff_ne]; exact e2, ⟨fun x => x.elim e e2⟩⟩)
   go_upto_region 9 with (first | ((with_reducible refine Ydb (t := 25) (p := 5) rfl ?_); refine wpList_store_row rfl 25 (.tmp 5) (.tmp 25) rfl w4.heap.size (uc sch ⟨#[]⟩ 0 ⟨#[]⟩ ⟨#[]⟩ ⟨#[]⟩ false false) rfl rfl 25 _ HZ5.out bG rfl (Yrb _ _ _ _ _ _ _ _) ?_; have eP := Ya.mk (setRow_heap _ _ _ (uc sch ⟨#[]⟩ 0 ⟨#[]⟩ ⟨#[]⟩ ⟨#[]⟩ false false) _ _ HZ5.out); have eA := Ya.mk ((setRow_other (w4.alloc (.cells urlZ 25)) w4.heap.size w.heap.size (uc sch ⟨#[]⟩ 0 ⟨#[]⟩ ⟨#[]⟩ ⟨#[]⟩ false false) (Nat.ne_of_lt HGl.out)).trans BZ4a.out); have cK := Ya.mk (below_setRow HBZ.out (Nat.le_of_lt HGl.out) (uc sch ⟨#[]⟩ 0 ⟨#[]⟩ ⟨#[]⟩ ⟨#[]⟩ false false)); generalize (w4.alloc (.cells urlZ 25)).setRow w4.heap.size (uc sch ⟨#[]⟩ 0 ⟨#[]⟩ ⟨#[]⟩ ⟨#[]⟩ false false) = w5 at eP eA cK ⊢; obtain ⟨cW, _⟩ := Yka eP.out))
   (try simp only [Act.put, List.setIfInBounds_toArray, List.set_cons_zero, List.set_cons_succ])
   obtain ⟨g, hg⟩ : ∃ n, n = w4.heap.size := ⟨_, rfl⟩
   rw [← hg] at eP HGl ⊢
   have HGne := Ya.mk (show w.heap.size ≠ g from Nat.ne_of_lt HGl.out)
   have HGle := Ya.mk (show w.heap.size ≤ g from Nat.le_of_lt HGl.out)
   clear hg HZ5 HBZ BZ4a dL yT hxe
   go_cut [29] (fun v29 wx => ∃ (kd : Bool), v29 = .bool kd ∧ w5 = wx ∧ Ya (kd = false → (sch.data.toList = Yxg ∨ sch.data.toList = Yuf)) ∧ Ya (kd = true → ¬ (sch.data.toList = Yxg ∨ sch.data.toList = Yuf)))
   case first =>
    obtain ⟨cW, _⟩ := Yka eP.out
    rcases hks with ⟨s1, s2, HKK⟩ | ⟨s1, s2, s3, s4, HKK⟩ | ⟨s1, s2, s3, s4, HKK⟩
    ·go_wp2_with fail
     go_meet
     case rel => exact ⟨false, rfl, rfl, ⟨fun _ => HKK.out⟩, ⟨fun h => by cases h⟩⟩
    ·go_wp2_with fail
     go_meet
     case rel => exact ⟨false, rfl, rfl, ⟨fun _ => HKK.out⟩, ⟨fun h => by cases h⟩⟩
    ·go_wp2_with fail
     go_meet
     case rel => exact ⟨true, rfl, rfl, ⟨fun h => by cases h⟩, ⟨fun _ => HKK.out⟩⟩
   case rest =>
    obtain ⟨kd, rfl, rfl, HKf, HKt⟩ := hcut
    clear hks
    cases kd with
    | true =>
     have cN := HQ3.out
     rw [if_neg (HKt.out rfl)] at cN
     simp only [Yac, Prod.mk.injEq] at cN
     obtain ⟨rfl, rfl, rfl, rfl, rfl, rfl, rfl, rfl, rfl⟩ := cN
     clear HQ3 HKf HKt
     go_wp2_with ((with_reducible refine Ydb (t := 25) (p := 2) rfl ?_); refine wpList_store_row rfl 25 (.tmp 2) (.tmp 38) rfl w.heap.size (uc ⟨#[]⟩ ⟨#[]⟩ 0 ⟨#[]⟩ ⟨#[]⟩ ⟨#[]⟩ false false) rfl rfl 25 _ eA.out bG rfl (Yrb _ _ _ _ _ _ _ _) ?_)
     refine bodyPost_ret (v := ?v38) ?hr38 ?hd38 ?_
     case hr38 => refine Yea (p := 2) (u := 3) (ty := 25) ?_ _ _ w.heap.size 25 (uc ⟨#[]⟩ ⟨#[]⟩ 0 ⟨#[]⟩ ⟨#[]⟩ ⟨#[]⟩ false false) (0, 0) _ ?_ (setRow_heap _ _ _ _ _ _ eA.out) bQ rfl bG <;> rfl
     case hd38 => rfl
     exact ⟨rfl, below_setRow cK.out (Nat.le_refl _) _⟩
    | false =>
     have HK := Ya.mk (HKf.out rfl)
     have cN := HQ3.out
     rw [if_pos HK.out] at cN
     have HQ4 := Ya.mk cN
     clear cN HQ3 HKf HKt
     have hHS : Yqb (x2.data.toList.headD 0) = true ∨ Yqb (x2.data.toList.headD 0) = false := by cases Yqb (x2.data.toList.headD 0) <;> simp
     cases hxd : x2.data.toList with
     | nil =>
      have cN := HQ4.out
      rw [hxd] at cN
      simp only [refS, List.headD_nil, show Yqb 0 = false from rfl, Bool.false_eq_true, if_false, Yac, Prod.mk.injEq] at cN
      obtain ⟨rfl, rfl, rfl, rfl, rfl, rfl, rfl, rfl, rfl⟩ := cN
      have e1 : (x2.toList == ([] : List UInt8)) = true := by rw [Lib.toList_data, hxd]; rfl
      have e2 : (x2.toList != ([] : List UInt8)) = false := by rw [Lib.toList_data, hxd]; rfl
      clear hxd HQ4 hHS
      go_wp2_with ((with_reducible refine Ydb (t := 25) (p := 2) rfl ?_); refine wpList_store_row rfl 25 (.tmp 2) (.tmp 48) rfl w.heap.size (uc ⟨#[]⟩ ⟨#[]⟩ 0 ⟨#[]⟩ ⟨#[]⟩ ⟨#[]⟩ false false) rfl rfl 25 _ eA.out bG rfl (Yrb _ _ _ _ _ _ _ _) ?_)
      refine bodyPost_ret (v := ?v48n) ?hr48n ?hd48n ?_
      case hr48n => refine Yea (p := 2) (u := 3) (ty := 25) ?_ _ _ w.heap.size 25 (uc ⟨#[]⟩ ⟨#[]⟩ 0 ⟨#[]⟩ ⟨#[]⟩ ⟨#[]⟩ false false) (0, 0) _ ?_ (setRow_heap _ _ _ _ _ _ eA.out) bQ rfl bG <;> rfl
      case hd48n => rfl
      exact ⟨rfl, below_setRow cK.out (Nat.le_refl _) _⟩
     | cons b0 bt0 =>
      have hbt : bt x2 0 = (b0.toNat : Int) := (Yvc x2 0 b0 bt0 hxd).2.1
      have hps : 0 < x2.size := by rw [Lib.size_eq, hxd]; simp
      have e1 : (x2.toList == ([] : List UInt8)) = false := by rw [Lib.toList_data, hxd]; rfl
      have e2 : (x2.toList != ([] : List UInt8)) = true := by rw [Lib.toList_data, hxd]; rfl
      have jB : ∀ h : 0 < x2.size, ((x2[0]'h).toNat : Int) = bt x2 0 := Yza x2 0
      have q4 := eq_true hps
      have tR : (0 < (x2.size : Int)) = True := eq_true Zk
      have HSL := Ya.mk (show Yya.f (bt x2 0) = some (Yqb b0) from by rw [hbt]; exact Yzh b0)
      clear hbt hps
      rw [hxd, List.headD_cons] at hHS
      rcases hHS with hh | hh
      ·rw [hh] at HSL
       have HXD := Ya.mk hxd
       have HQ5 := Ya.mk (show refL sch (x2.data.toList.dropWhile Yqb) = (r1, r2, r3, r4, r5, r6, r7, r8, r9) from by
        have := HQ4.out
        unfold refS at this
        rw [hxd, List.headD_cons, if_pos hh] at this
        rw [hxd]; exact this)
       clear hxd hh HQ4
       go_upto_block 2 with (first | (go_at_call 48; (with_reducible refine (Yya.calls (bt x2 0) _ _ ?side1 HSL.out).mono ?_); (case side1 => first | exact HE.out.below cK.out | exact EnvOk.heap (HE.out.below cK.out) rfl); rintro e w' ⟨rfl, ⟨nd, rfl⟩⟩; replace eP := Ya.mk (Yh eP.out nd); replace eA := Ya.mk (Yh eA.out nd); replace cK := Ya.mk (Yb cK.out nd); generalize w5.drewN nd = wq at eP eA cK ⊢))
       (try simp only [Act.put, List.setIfInBounds_toArray, List.set_cons_zero, List.set_cons_succ])
       clear jB q4 tR e1 e2
       obtain ⟨L0, hL0⟩ : ∃ l, l = x2.data.toList.dropWhile Yqb := ⟨_, rfl⟩
       rw [← hL0] at HQ5
       have HL0 := Ya.mk hL0
       obtain ⟨N0, hN0⟩ : ∃ N0, N0 = x2.data.toList.length := ⟨_, rfl⟩
       have hN0b : N0 ≤ 2048 := by rw [hN0, ← Lib.size_eq]; exact HX2S.out
       have hx2o : x2 = ofL x2.data.toList := (Yci x2).symm
       have HX2O := Ya.mk hx2o
       have HN0 := Ya.mk hN0
       clear hL0 hN0 hx2o
       go_cut [0] (fun v0 wx => ∃ x3 : ByteArray, v0 = .string x3 ∧ Ya (x3.data.toList = L0) ∧ Ya (wx.heap[g]? = some (.cells (uc sch ⟨#[]⟩ 0 ⟨#[]⟩ ⟨#[]⟩ ⟨#[]⟩ false false) 25 (0, 0))) ∧ Ya (wx.heap[w.heap.size]? = some (.cells urlZ 25 (0, 0))) ∧ Ya (Below w.heap.size w wx))
       case first =>
        go_wp2_with fail
        go_loopg [0] N0 (fun gk v0 wx => ∃ l : List UInt8, v0 = .string (ofL l) ∧ l.length ≤ gk ∧ Ya (l.dropWhile Yqb = L0) ∧ Ya (wx.heap[g]? = some (.cells (uc sch ⟨#[]⟩ 0 ⟨#[]⟩ ⟨#[]⟩ ⟨#[]⟩ false false) 25 (0, 0))) ∧ Ya (wx.heap[w.heap.size]? = some (.cells urlZ 25 (0, 0))) ∧ Ya (Below w.heap.size w wx))
        case atStart => exact ⟨x2.data.toList, by rw [← HX2O.out], by have := HN0.out; omega, ⟨HL0.out.symm⟩, eP, eA, cK⟩
        case round =>
         clear eP eA cK
         obtain ⟨l, rfl, hll, HDL, BGx, BZx, HBx⟩ := hrel
         obtain ⟨x3, hx3⟩ : ∃ x, x = ofL l := ⟨_, rfl⟩
         have sI := Ya.mk (show x3.data.toList = l from by rw [hx3]; rfl)
         rw [← hx3]
         clear hx3
         have hstop : l = [] ∨ (∃ b t, l = b :: t ∧ Yqb b = false) ∨ (∃ b t, l = b :: t ∧ Yqb b = true) := by
          cases l with
          | nil => exact .inl rfl
          | cons b t => cases h : Yqb b with
           | true => exact .inr (.inr ⟨b, t, rfl, h⟩)
           | false => exact .inr (.inl ⟨b, t, rfl, h⟩)
         rcases hstop with rfl | ⟨b, t9, rfl, hb9⟩ | ⟨b, t9, rfl, hb9⟩
         ·have f1 : (x3.toList != ([] : List UInt8)) = false := by rw [Lib.toList_data, sI.out]; rfl
          have f2 : (x3.toList == ([] : List UInt8)) = true := by rw [Lib.toList_data, sI.out]; rfl
          go_wp2_with fail
          go_meet
          case rel => exact ⟨x3, rfl, ⟨by rw [sI.out, ← HDL.out]; rfl⟩, BGx, BZx, HBx⟩
         ·have hbt : bt x3 0 = (b.toNat : Int) := (Yvc x3 0 b t9 sI.out).2.1
          have hps : 0 < x3.size := by rw [Lib.size_eq, sI.out]; simp
          have f1 : (x3.toList != ([] : List UInt8)) = true := by rw [Lib.toList_data, sI.out]; rfl
          have f2 : (x3.toList == ([] : List UInt8)) = false := by rw [Lib.toList_data, sI.out]; rfl
          have jB : ∀ h : 0 < x3.size, ((x3[0]'h).toNat : Int) = bt x3 0 := Yza x3 0
          have q4 := eq_true hps
          have tR : (0 < (x3.size : Int)) = True := eq_true Zk
          have aGB := Ya.mk (show Yya.f (bt x3 0) = some false from by rw [hbt, ← hb9]; exact Yzh b)
          have HL9 := Ya.mk (show b :: t9 = L0 from by rw [← HDL.out, List.dropWhile_cons_of_neg (by rw [hb9]; simp)])
          clear hbt hps hb9 HDL
          go_wp2_with (first | (go_at_call 48; (with_reducible refine (Yya.calls (bt x3 0) _ _ ?side1 aGB.out).mono ?_); (case side1 => first | exact HE.out.below HBx.out | exact EnvOk.heap (HE.out.below HBx.out) rfl); rintro e w' ⟨rfl, ⟨nd9, rfl⟩⟩))
          go_meet
          case rel => exact ⟨x3, rfl, ⟨by rw [sI.out, HL9.out]⟩, ⟨Yh BGx.out _⟩, ⟨Yh BZx.out _⟩, ⟨Yb HBx.out _⟩⟩
         ·have hbt : bt x3 0 = (b.toNat : Int) := (Yvc x3 0 b t9 sI.out).2.1
          have hps : 0 < x3.size := by rw [Lib.size_eq, sI.out]; simp
          have f1 : (x3.toList != ([] : List UInt8)) = true := by rw [Lib.toList_data, sI.out]; rfl
          have f2 : (x3.toList == ([] : List UInt8)) = false := by rw [Lib.toList_data, sI.out]; rfl
          have jB : ∀ h : 0 < x3.size, ((x3[0]'h).toNat : Int) = bt x3 0 := Yza x3 0
          have q4 := eq_true hps
          have tR : (0 < (x3.size : Int)) = True := eq_true Zk
          have b9 : (1 : Int) ≤ (x3.size : Int) := by omega
          have aGB := Ya.mk (show Yya.f (bt x3 0) = some true from by rw [hbt, ← hb9]; exact Yzh b)
          have HNX := Ya.mk (show x3.extract 1 x3.size = ofL t9 from by rw [Yuc, sI.out]; rfl)
          have aWm := Ya.mk (show t9.dropWhile Yqb = L0 from by rw [← HDL.out, List.dropWhile_cons_of_pos hb9])
          cases gk with
          | zero => simp only [List.length_cons] at hll; omega
          | succ g2 =>
           simp only [List.length_cons] at hll
           clear hbt hps hb9 HDL
           go_wp2_with (first | (go_at_call 48; (with_reducible refine (Yya.calls (bt x3 0) _ _ ?side1 aGB.out).mono ?_); (case side1 => first | exact HE.out.below HBx.out | exact EnvOk.heap (HE.out.below HBx.out) rfl); rintro e w' ⟨rfl, ⟨nd9, rfl⟩⟩))
           go_roundg g2
           case measure => omega
           case rel => exact ⟨t9, by rw [HNX.out], Zk, aWm, ⟨Yh BGx.out _⟩, ⟨Yh BZx.out _⟩, ⟨Yb HBx.out _⟩⟩
       case rest =>
        clear eP eA cK
        obtain ⟨x3, rfl, HX3L, eP, eA, cK⟩ := hcut
        obtain ⟨wl, hwl⟩ : ∃ W, W = wc := ⟨_, rfl⟩
        rw [← hwl] at eP eA cK ⊢
        clear hwl
        go_wp2_with fail
        have hxl : x3.size ≤ 2048 := by
         rw [Lib.size_eq, HX3L.out, HL0.out]
         have := Yse Yqb x2.data.toList
         have := HX2S.out
         rw [Lib.size_eq] at this; omega
        have hq5 : refL sch x3.data.toList = (r1, r2, r3, r4, r5, r6, r7, r8, r9) := by rw [HX3L.out]; exact HQ5.out
        obtain ⟨t, ht⟩ : ∃ t : Int, t = (((x3.data.toList.takeWhile (Ycb [47, 92, 63, 35])).length : Nat) : Int) := ⟨_, rfl⟩
        obtain ⟨ku, hku⟩ := Yhm x3 ⟨#[47, 92, 63, 35]⟩ Zk Zda
        have HU := Ya.mk (show Yqa.f ku x3 ⟨#[47, 92, 63, 35]⟩ = some t from by rw [ht]; exact hku ku (Nat.le_refl _))
        have htl := Ype (Ycb [47, 92, 63, 35]) x3.data.toList
        rw [← Lib.size_eq] at htl
        have t0 : 0 ≤ t := by omega
        have t1 : t ≤ (x3.size : Int) := by omega
        have tb1 : decide (0 ≤ t) = true := decide_eq_true t0
        have tc1 : decide (t ≤ (x3.size : Int)) = true := decide_eq_true t1
        have tb0 := eq_true t0
        have tc0 := eq_true t1
        have hxh : x3.extract 0 (t : Int).toNat = ofL (x3.data.toList.takeWhile (Ycb [47, 92, 63, 35])) := by
         rw [ht, Int.toNat_natCast, Yfe]
         congr 1
         have := List.take_left (l₁ := x3.data.toList.takeWhile (Ycb [47, 92, 63, 35])) (l₂ := x3.data.toList.dropWhile (Ycb [47, 92, 63, 35]))
         rw [List.takeWhile_append_dropWhile] at this; exact this
        have hxr : x3.extract (t : Int).toNat x3.size = ofL (x3.data.toList.dropWhile (Ycb [47, 92, 63, 35])) := by
         rw [ht, Int.toNat_natCast, Yuc]
         congr 1
         have := List.drop_left (l₁ := x3.data.toList.takeWhile (Ycb [47, 92, 63, 35])) (l₂ := x3.data.toList.dropWhile (Ycb [47, 92, 63, 35]))
         rw [List.takeWhile_append_dropWhile] at this; exact this
        obtain ⟨q1, q2, q3, q9, hpq⟩ : ∃ a b c d, Ymi sch (x3.data.toList.takeWhile (Ycb [47, 92, 63, 35])) = (a, b, c, d) := ⟨_, _, _, _, rfl⟩
        have HPQ := Ya.mk (show Ymi sch (x3.extract 0 (t : Int).toNat).data.toList = (q1, q2, q3, q9) from by rw [hxh, Yfb]; exact hpq)
        have HPS := Ya.mk (show (x3.extract 0 (t : Int).toNat).size ≤ 30000000 from by rw [ByteArray.size_extract]; omega)
        have HPSc := HK
        unfold refL at hq5
        rw [hpq] at hq5
        simp only at hq5
        have HQ6 := Ya.mk hq5
        have HPK := Ya.mk (placeQ_ok sch (x3.data.toList.takeWhile (Ycb [47, 92, 63, 35])) q1 q2 q3 q9 hpq)
        have HXR := Ya.mk hxr
        have HXL := Ya.mk hxl
        have HTLn := Ya.mk htl
        have HKk := Ya.mk (show sch.size ≤ 5 from by
         rw [Lib.size_eq]
         rcases HK.out with e | e <;> (rw [e]; decide))
        obtain ⟨rest, hrest⟩ : ∃ r, r = x3.data.toList.dropWhile (Ycb [47, 92, 63, 35]) := ⟨_, rfl⟩
        have HRL := Ya.mk (show rest.length ≤ 2048 from by rw [hrest]; have := Yse (Ycb [47, 92, 63, 35]) x3.data.toList; rw [← Lib.size_eq] at this; omega)
        rw [← hrest] at HQ6 HXR
        clear hq5 hku hxh hxr hpq hxl htl ht t0 t1 hrest
        refine (Yqa.calls ku _ _ _ _ (HE.out.below cK.out) HU.out).mono ?_
        rintro e wc' ⟨rfl, ⟨ndc, rfl⟩⟩
        replace eP := Ya.mk (Yh eP.out ndc)
        replace eA := Ya.mk (Yh eA.out ndc)
        replace cK := Ya.mk (Yb cK.out ndc)
        generalize wl.drewN ndc = wc at eP eA cK ⊢
        go_wp2_with fail
        refine Yig (n := 10) (S := fun w' => w'.cell? ⟨g, 0, none⟩ = some (.string sch) ∧ w'.cell? ⟨g, 1, none⟩ = some (.string (⟨#[]⟩ : ByteArray)) ∧ w'.cell? ⟨g, 2, none⟩ = some (.int .i64 0) ∧ w'.cell? ⟨g, 3, none⟩ = some (.string (⟨#[]⟩ : ByteArray)) ∧ w'.cell? ⟨g, 4, none⟩ = some (.string (⟨#[]⟩ : ByteArray)) ∧ w'.cell? ⟨g, 5, none⟩ = some (.string (⟨#[]⟩ : ByteArray)) ∧ w'.cell? ⟨g, 6, none⟩ = some (.bool false) ∧ w'.cell? ⟨g, 7, none⟩ = some (.bool false)) (ds := [8]) #[false, false, false, false, false, false, false, false, false, false] Zi rfl rfl (Yka (Yp eP.out)) (fun hHeld => ?_); refine Ymf Ypr Ydp (fun HT_ HW_ => ?_)
        replace eP := Ya.mk (Yp eP.out)
        replace eA := Ya.mk (Yp eA.out)
        replace cK := Ya.mk (Yc cK.out)
        generalize wc.drew = w57 at eP eA cK hHeld ⊢
        refine Ybb (i := 1) (N := some 62) (v := ?_) (a' := ?_) #[false, true, false, false, false, false, false, false, false, false] rfl rfl (Yua HT_.out Zi) (fun _ _ _ h => h) (Or.inl ⟨Zga, ?_⟩) ?_ ?_
        rotate_left
        ·exact Zxb
        rotate_left
        ·exact Zyb
        refine Ybb (i := 2) (N := some 63) (v := ?_) (a' := ?_) #[false, true, true, false, false, false, false, false, false, false] rfl rfl (Yua HT_.out Zi) (fun _ _ _ h => h) (Or.inl ⟨Zga, ?_⟩) ?_ ?_
        rotate_left
        ·exact Zxb
        rotate_left
        ·exact Zyb
        refine Ybb (i := 3) (N := some 64) (v := ?_) (a' := ?_) #[false, true, true, true, false, false, false, false, false, false] rfl rfl (Yua HT_.out Zi) (fun _ _ _ h => h) (Or.inl ⟨Zga, ?_⟩) ?_ ?_
        rotate_left
        ·exact Zxb
        rotate_left
        ·exact Zyb
        refine Ypf (i := 0) (N := some 61) (v := ?_) (a' := ?_) #[true, true, true, true, false, false, false, false, false, false] rfl rfl (Yke HT_.out HW_.out Zi) (fun _ _ _ h => h) (Or.inl ⟨Zga, ?_⟩) hHeld ?_ ?_
        rotate_left
        ·exact Zzb
        rotate_left
        ·exact Zyb
        refine one_ (i := 4) (N := some 65) #[true, true, true, true, true, false, false, false, false, false] rfl rfl (Yze HT_.out Zi) Zda (fun K hK => ?_)
        refine Yyh Tryz.func50 Zi rfl #[.agg #[.string sch, .string (⟨#[]⟩ : ByteArray), .int .i64 0, .string (⟨#[]⟩ : ByteArray), .string (⟨#[]⟩ : ByteArray), .string (⟨#[]⟩ : ByteArray), .bool false, .bool false], .string (x3.extract 0 (t : Int).toNat)] Zga rfl rfl Zb ?_
        refine (Yzq sch (x3.extract 0 (t : Int).toNat) q1 q2 q3 q9 _ (HE.out.below cK.out) HPS.out HPSc.out HPQ.out).mono ?_
        rintro e w58 ⟨rfl, hb⟩
        refine ⟨_, rfl, ?_⟩
        replace eP := Ya.mk (Yra eP.out hb)
        replace eA := Ya.mk (Yra eA.out hb)
        replace cK := Ya.mk (cK.out.trans (hb.mono cK.out.size))
        clear hb
        refine hK.out _ _ (Yka eP.out) (fun hHeld => ?_)
        clear hK K
        refine Ylh (a' := ?_) ?_ ?_
        rotate_left
        ·show Act.put _ (some 65) _ = _
         simp only [Act.put, List.setIfInBounds_toArray, List.set_cons_zero, List.set_cons_succ, Yca, Yga]
         rfl
        refine Ybb (i := 5) (N := some 60) (v := ?_) (a' := ?_) #[true, true, true, true, true, true, false, false, false, false] rfl rfl (Yua HT_.out Zi) (fun _ _ _ h => h) (Or.inl ⟨Zga, ?_⟩) ?_ ?_
        rotate_left
        ·exact Zxb
        rotate_left
        ·exact Zyb
        refine Ybb (i := 6) (N := some 66) (v := ?_) (a' := ?_) #[true, true, true, true, true, true, true, false, false, false] rfl rfl (Yua HT_.out Zi) (fun _ _ _ h => h) (Or.inl ⟨Zga, ?_⟩) ?_ ?_
        rotate_left
        ·exact Zxb
        rotate_left
        ·exact Zyb
        refine Ybb (i := 7) (N := some 67) (v := ?_) (a' := ?_) #[true, true, true, true, true, true, true, true, false, false] rfl rfl (Yua HT_.out Zi) (fun _ _ _ h => h) (Or.inl ⟨Zga, ?_⟩) ?_ ?_
        rotate_left
        ·exact Zxb
        rotate_left
        ·exact Zyb
        refine Yvm (i := 8) (N := none) #[true, true, true, true, true, true, true, true, true, false] rfl rfl (Yze HT_.out Zi) Zda (fun K hK => ?_)
        obtain ⟨zF, jC, rC, hs3, hs4, hs5, hs6, hs7⟩ := Yka eP.out
        have aGC := Ye eP.out 0
        have aGD := Ye eP.out 1
        have aGE := Ye eP.out 2
        have aGF := Ye eP.out 3
        have aGG := Ye eP.out 4
        have aGH := Ye eP.out 5
        have aGI := Ye eP.out 6
        have aGJ := Ye eP.out 7
        refine Yvi (w1 := ?_) Zga rfl ?_ ?_
        rotate_left
        ·go_simp
         rfl
        refine hK.out _ _ ?_
        clear hK K zF jC rC hs3 hs4 hs5 hs6 hs7 aGC aGD aGE aGF aGG aGH aGI aGJ
        refine Ybb (i := 9) (N := some 6) (v := ?_) (a' := ?_) #[true, true, true, true, true, true, true, true, true, true] rfl rfl (Yua HT_.out Zi) (fun _ _ _ h => h) (Or.inl ⟨Zga, ?_⟩) ?_ ?_
        rotate_left
        ·exact Zxb
        rotate_left
        ·exact Zyb
        refine Yrh (Yyg HT_.out Zi) ?_
        replace eP := Ya.mk (Yna (cs' := #[.string q1, .string q2, .int .i64 q3, .string ⟨#[]⟩, .string ⟨#[]⟩, .string ⟨#[]⟩, .bool false, .bool false]) (Yna (cs' := #[.string q1, .string q2, .int .i64 q3, .string ⟨#[]⟩, .string ⟨#[]⟩, .string ⟨#[]⟩, .bool false, .bool false]) (Yna (cs' := #[.string q1, .string q2, .int .i64 q3, .string ⟨#[]⟩, .string ⟨#[]⟩, .string ⟨#[]⟩, .bool false, .bool false]) (Yna (cs' := #[.string q1, .string q2, .int .i64 q3, .string ⟨#[]⟩, .string ⟨#[]⟩, .string ⟨#[]⟩, .bool false, .bool false]) (Yna (cs' := #[.string q1, .string q2, .int .i64 q3, .string ⟨#[]⟩, .string ⟨#[]⟩, .string ⟨#[]⟩, .bool false, .bool false]) (Yna (cs' := #[.string q1, .string q2, .int .i64 q3, .string ⟨#[]⟩, .string ⟨#[]⟩, .string ⟨#[]⟩, .bool false, .bool false]) (Yna (cs' := #[.string q1, .string q2, .int .i64 0, .string ⟨#[]⟩, .string ⟨#[]⟩, .string ⟨#[]⟩, .bool false, .bool false]) (Yna (cs' := #[.string q1, .string ⟨#[]⟩, .int .i64 0, .string ⟨#[]⟩, .string ⟨#[]⟩, .string ⟨#[]⟩, .bool false, .bool false]) eP.out 0 (.string q1) rfl) 1 (.string q2) rfl) 2 (.int .i64 q3) rfl) 3 (.string ⟨#[]⟩) rfl) 4 (.string ⟨#[]⟩) rfl) 5 (.string ⟨#[]⟩) rfl) 6 (.bool false) rfl) 7 (.bool false) rfl)
        replace eA := Ya.mk (Yub (Yub (Yub (Yub (Yub (Yub (Yub (Yub eA.out (p := ⟨g, 0, none⟩) HGne.out (.string q1)) (p := ⟨g, 1, none⟩) HGne.out (.string q2)) (p := ⟨g, 2, none⟩) HGne.out (.int .i64 q3)) (p := ⟨g, 3, none⟩) HGne.out (.string ⟨#[]⟩)) (p := ⟨g, 4, none⟩) HGne.out (.string ⟨#[]⟩)) (p := ⟨g, 5, none⟩) HGne.out (.string ⟨#[]⟩)) (p := ⟨g, 6, none⟩) HGne.out (.bool false)) (p := ⟨g, 7, none⟩) HGne.out (.bool false))
        replace cK := Ya.mk (Yg (j := 7) (v := .bool false) (Yg (j := 6) (v := .bool false) (Yg (j := 5) (v := .string ⟨#[]⟩) (Yg (j := 4) (v := .string ⟨#[]⟩) (Yg (j := 3) (v := .string ⟨#[]⟩) (Yg (j := 2) (v := .int .i64 q3) (Yg (j := 1) (v := .string q2) (Yg (j := 0) (v := .string q1) cK.out HGle.out) HGle.out) HGle.out) HGle.out) HGle.out) HGle.out) HGle.out) HGle.out)
        generalize ((((((((w58.setCell ⟨g, 0, none⟩ (.string q1)).setCell ⟨g, 1, none⟩ (.string q2)).setCell ⟨g, 2, none⟩ (.int .i64 q3)).setCell ⟨g, 3, none⟩ (.string ⟨#[]⟩)).setCell ⟨g, 4, none⟩ (.string ⟨#[]⟩)).setCell ⟨g, 5, none⟩ (.string ⟨#[]⟩)).setCell ⟨g, 6, none⟩ (.bool false)).setCell ⟨g, 7, none⟩ (.bool false)) = w60 at eP eA cK ⊢
        by_cases cq : q9 = 0
        ·subst cq
         obtain ⟨uM, hk2, hk3, hk4⟩ := HPK.out rfl
         have hq6 := HQ6.out
         rw [if_pos rfl] at hq6
         have ts := Yth rest
         have hrl := HRL.out
         have hxl := HXL.out
         have htn := HTLn.out
         obtain ⟨kt, hkt⟩ := rstring_f sch q2 q3 (Ydd rest) (Yzb rest) (Ybc rest) (Ytc rest) (Yqc rest) (by have := HKk.out; omega) Zk Zk Zk Zk hk3 Zk
         have hT0 : Yxb.f q1 q2 q3 ⟨#[]⟩ ⟨#[]⟩ ⟨#[]⟩ false false (x3.extract (t : Int).toNat x3.size) = some (q1, q2, q3, Ydd rest, Yzb rest, Ybc rest, Ytc rest, Yqc rest) := by
          unfold Yxb.f
          rw [if_pos Zpa, HXR.out, Yfb]
         have hS0 : Yy.f kt q1 q2 q3 (Ydd rest) (Yzb rest) (Ybc rest) (Ytc rest) (Yqc rest) = some (Yie q1 q2 q3 (Ydd rest) (Yzb rest) (Ybc rest) (Ytc rest) (Yqc rest)) := by
          rw [uM]; exact hkt kt (Nat.le_refl _)
         unfold Yqp at hq6
         rw [← uM] at hq6
         obtain ⟨z4, hz4⟩ : ∃ z, z = Ydd rest := ⟨_, rfl⟩
         obtain ⟨z5, hz5⟩ : ∃ z, z = Yzb rest := ⟨_, rfl⟩
         obtain ⟨z6, hz6⟩ : ∃ z, z = Ybc rest := ⟨_, rfl⟩
         obtain ⟨z7, hz7⟩ : ∃ z, z = Ytc rest := ⟨_, rfl⟩
         obtain ⟨z8, hz8⟩ : ∃ z, z = Yqc rest := ⟨_, rfl⟩
         rw [← hz4, ← hz5, ← hz6, ← hz7, ← hz8] at hq6 hT0 hS0
         obtain ⟨tb, htb⟩ : ∃ x, x = Yie q1 q2 q3 z4 z5 z6 z7 z8 := ⟨_, rfl⟩
         rw [← htb] at hq6 hS0
         have HTL := Ya.mk hT0
         have HST := Ya.mk hS0
         have HQ7 := Ya.mk hq6
         clear hT0 hS0 hq6 hkt htb hz4 hz5 hz6 hz7 hz8 ts hrl hxl htn uM hk2 hk3 hk4
         try go_wp2_with fail
         refine Yig (n := 6) (S := fun w' => w'.cell? ⟨g, 0, none⟩ = some (.string q1) ∧ w'.cell? ⟨g, 1, none⟩ = some (.string q2) ∧ w'.cell? ⟨g, 2, none⟩ = some (.int .i64 q3) ∧ w'.cell? ⟨g, 3, none⟩ = some (.string (⟨#[]⟩ : ByteArray)) ∧ w'.cell? ⟨g, 4, none⟩ = some (.string (⟨#[]⟩ : ByteArray)) ∧ w'.cell? ⟨g, 5, none⟩ = some (.string (⟨#[]⟩ : ByteArray)) ∧ w'.cell? ⟨g, 6, none⟩ = some (.bool false) ∧ w'.cell? ⟨g, 7, none⟩ = some (.bool false)) (ds := [5]) #[false, false, false, false, false, false] Zi rfl rfl (Yka (Yp eP.out)) (fun hHeld => ?_)
         replace eP := Ya.mk (Yp eP.out)
         replace eA := Ya.mk (Yp eA.out)
         replace cK := Ya.mk (Yc cK.out)
         generalize w60.drew = w68 at eP eA cK hHeld ⊢
         refine Ybb (i := 1) (N := some 73) (v := ?_) (a' := ?_) #[false, true, false, false, false, false] rfl rfl Zi (fun _ _ _ h => h) (Or.inl ⟨Zga, ?_⟩) ?_ ?_
         rotate_left
         ·exact Zxb
         rotate_left
         ·exact Zyb
         refine Ybb (i := 2) (N := some 74) (v := ?_) (a' := ?_) #[false, true, true, false, false, false] rfl rfl Zi (fun _ _ _ h => h) (Or.inl ⟨Zga, ?_⟩) ?_ ?_
         rotate_left
         ·exact Zxb
         rotate_left
         ·exact Zyb
         refine Ybb (i := 3) (N := some 75) (v := ?_) (a' := ?_) #[false, true, true, true, false, false] rfl rfl Zi (fun _ _ _ h => h) (Or.inl ⟨Zga, ?_⟩) ?_ ?_
         rotate_left
         ·exact Zxb
         rotate_left
         ·exact Zyb
         refine Ypf (i := 0) (N := some 72) (v := ?_) (a' := ?_) #[true, true, true, true, false, false] rfl rfl Zi (fun _ _ _ h => h) (Or.inl ⟨Zga, ?_⟩) hHeld ?_ ?_
         rotate_left
         ·exact Zzb
         rotate_left
         ·exact Zyb
         refine one_ (i := 4) (N := some 76) #[true, true, true, true, true, false] rfl rfl Zi Zda (fun K hK => ?_)
         refine Yyh Tryz.func18 Zi rfl #[.agg #[.string q1, .string q2, .int .i64 q3, .string (⟨#[]⟩ : ByteArray), .string (⟨#[]⟩ : ByteArray), .string (⟨#[]⟩ : ByteArray), .bool false, .bool false], .string (x3.extract (t : Int).toNat x3.size)] Zga rfl rfl Zb ?_
         refine (Yxb.calls q1 q2 q3 (⟨#[]⟩ : ByteArray) (⟨#[]⟩ : ByteArray) (⟨#[]⟩ : ByteArray) false false (x3.extract (t : Int).toNat x3.size) q1 q2 q3 z4 z5 z6 z7 z8 _ (HE.out.below cK.out) HTL.out).mono ?_
         rintro e w69 ⟨rfl, hb⟩
         refine ⟨_, rfl, ?_⟩
         replace eP := Ya.mk (Yra eP.out hb)
         replace eA := Ya.mk (Yra eA.out hb)
         replace cK := Ya.mk (cK.out.trans (hb.mono cK.out.size))
         clear hb
         refine hK.out _ _ (Yka eP.out) (fun hHeld => ?_)
         clear hK K
         refine Ylh (a' := ?_) ?_ ?_
         rotate_left
         ·show Act.put _ (some 76) _ = _
          simp only [Act.put, List.setIfInBounds_toArray, List.set_cons_zero, List.set_cons_succ, Yca, Yga]
          rfl
         refine Yvm (i := 5) (N := none) #[true, true, true, true, true, true] rfl rfl Zi Zda (fun K hK => ?_)
         obtain ⟨zF, jC, rC, hs3, hs4, hs5, hs6, hs7⟩ := Yka eP.out
         have aGC := Ye eP.out 0
         have aGD := Ye eP.out 1
         have aGE := Ye eP.out 2
         have aGF := Ye eP.out 3
         have aGG := Ye eP.out 4
         have aGH := Ye eP.out 5
         have aGI := Ye eP.out 6
         have aGJ := Ye eP.out 7
         refine Yvi (w1 := ?_) Zga rfl ?_ ?_
         rotate_left
         ·go_simp
          rfl
         refine hK.out _ _ ?_
         clear hK K zF jC rC hs3 hs4 hs5 hs6 hs7 aGC aGD aGE aGF aGG aGH aGI aGJ
         refine Yrh Zi ?_
         replace eP := Ya.mk (Yna (cs' := #[.string q1, .string q2, .int .i64 q3, .string z4, .string z5, .string z6, .bool z7, .bool z8]) (Yna (cs' := #[.string q1, .string q2, .int .i64 q3, .string z4, .string z5, .string z6, .bool z7, .bool false]) (Yna (cs' := #[.string q1, .string q2, .int .i64 q3, .string z4, .string z5, .string z6, .bool false, .bool false]) (Yna (cs' := #[.string q1, .string q2, .int .i64 q3, .string z4, .string z5, .string ⟨#[]⟩, .bool false, .bool false]) (Yna (cs' := #[.string q1, .string q2, .int .i64 q3, .string z4, .string ⟨#[]⟩, .string ⟨#[]⟩, .bool false, .bool false]) (Yna (cs' := #[.string q1, .string q2, .int .i64 q3, .string ⟨#[]⟩, .string ⟨#[]⟩, .string ⟨#[]⟩, .bool false, .bool false]) (Yna (cs' := #[.string q1, .string q2, .int .i64 q3, .string ⟨#[]⟩, .string ⟨#[]⟩, .string ⟨#[]⟩, .bool false, .bool false]) (Yna (cs' := #[.string q1, .string q2, .int .i64 q3, .string ⟨#[]⟩, .string ⟨#[]⟩, .string ⟨#[]⟩, .bool false, .bool false]) eP.out 0 (.string q1) rfl) 1 (.string q2) rfl) 2 (.int .i64 q3) rfl) 3 (.string z4) rfl) 4 (.string z5) rfl) 5 (.string z6) rfl) 6 (.bool z7) rfl) 7 (.bool z8) rfl)
         replace eA := Ya.mk (Yub (Yub (Yub (Yub (Yub (Yub (Yub (Yub eA.out (p := ⟨g, 0, none⟩) HGne.out (.string q1)) (p := ⟨g, 1, none⟩) HGne.out (.string q2)) (p := ⟨g, 2, none⟩) HGne.out (.int .i64 q3)) (p := ⟨g, 3, none⟩) HGne.out (.string z4)) (p := ⟨g, 4, none⟩) HGne.out (.string z5)) (p := ⟨g, 5, none⟩) HGne.out (.string z6)) (p := ⟨g, 6, none⟩) HGne.out (.bool z7)) (p := ⟨g, 7, none⟩) HGne.out (.bool z8))
         replace cK := Ya.mk (Yg (j := 7) (v := .bool z8) (Yg (j := 6) (v := .bool z7) (Yg (j := 5) (v := .string z6) (Yg (j := 4) (v := .string z5) (Yg (j := 3) (v := .string z4) (Yg (j := 2) (v := .int .i64 q3) (Yg (j := 1) (v := .string q2) (Yg (j := 0) (v := .string q1) cK.out HGle.out) HGle.out) HGle.out) HGle.out) HGle.out) HGle.out) HGle.out) HGle.out)
         generalize ((((((((w69.setCell ⟨g, 0, none⟩ (.string q1)).setCell ⟨g, 1, none⟩ (.string q2)).setCell ⟨g, 2, none⟩ (.int .i64 q3)).setCell ⟨g, 3, none⟩ (.string z4)).setCell ⟨g, 4, none⟩ (.string z5)).setCell ⟨g, 5, none⟩ (.string z6)).setCell ⟨g, 6, none⟩ (.bool z7)).setCell ⟨g, 7, none⟩ (.bool z8)) = w70 at eP eA cK ⊢
         obtain ⟨cW, cR, cV, dA, cZ, cY, dB, cX⟩ := Yka eP.out
         try go_wp2_with fail
         refine (Yy.calls kt _ _ _ _ _ _ _ _ _ _ (HE.out.below cK.out) HST.out).mono ?_
         rintro e w71 ⟨rfl, hb⟩
         replace eP := Ya.mk (Yra eP.out hb)
         replace eA := Ya.mk (Yra eA.out hb)
         replace cK := Ya.mk (cK.out.trans (hb.mono cK.out.size))
         clear hb cW cR cV dA cZ cY dB cX
         by_cases cl : (tb.size : Int) > 2048
         ·have d1 : decide ((2048 : Int) < (tb.size : Int)) = true := decide_eq_true cl
          have hq7 := HQ7.out
          rw [if_pos cl] at hq7
          simp only [Yac, Prod.mk.injEq] at hq7
          obtain ⟨rfl, rfl, rfl, rfl, rfl, rfl, rfl, rfl, rfl⟩ := hq7
          clear cl
          go_wp2_with ((with_reducible refine Ydb (t := 25) (p := 2) rfl ?_); refine wpList_store_row rfl 25 (.tmp 2) (.tmp 81) rfl w.heap.size (uc ⟨#[]⟩ ⟨#[]⟩ 0 ⟨#[]⟩ ⟨#[]⟩ ⟨#[]⟩ false false) rfl rfl 25 _ eA.out bG rfl (Yrb _ _ _ _ _ _ _ _) ?_)
          refine bodyPost_ret (v := ?v81) ?hr81 ?hd81 ?_
          case hr81 => refine Yea (p := 2) (u := 3) (ty := 25) ?_ _ _ w.heap.size 25 (uc ⟨#[]⟩ ⟨#[]⟩ 0 ⟨#[]⟩ ⟨#[]⟩ ⟨#[]⟩ false false) (0, 0) _ ?_ (setRow_heap _ _ _ _ _ _ eA.out) bQ rfl bG <;> rfl
          case hd81 => rfl
          exact ⟨rfl, below_setRow cK.out (Nat.le_refl _) _⟩
         ·have d1 : decide ((2048 : Int) < (tb.size : Int)) = false := decide_eq_false cl
          have hq7 := HQ7.out
          rw [if_neg cl] at hq7
          simp only [Prod.mk.injEq] at hq7
          obtain ⟨rfl, rfl, rfl, rfl, rfl, rfl, rfl, rfl, rfl⟩ := hq7
          obtain ⟨cW, cR, cV, dA, cZ, cY, dB, cX⟩ := Yka eP.out
          clear cl
          go_wp2_with ((with_reducible refine Ydb (t := 25) (p := 2) rfl ?_); refine wpList_store_row rfl 25 (.tmp 2) (.tmp 82) rfl w.heap.size (uc q1 q2 q3 z4 z5 z6 z7 z8) rfl rfl 25 _ eA.out bG rfl (Yrb _ _ _ _ _ _ _ _) ?_)
          refine bodyPost_ret (v := ?v82) ?hr82 ?hd82 ?_
          case hr82 => refine Yea (p := 2) (u := 3) (ty := 25) ?_ _ _ w.heap.size 25 (uc q1 q2 q3 z4 z5 z6 z7 z8) (0, 0) _ ?_ (setRow_heap _ _ _ _ _ _ eA.out) bQ rfl bG <;> rfl
          case hd82 => rfl
          exact ⟨rfl, below_setRow cK.out (Nat.le_refl _) _⟩
        ·have d5 : decide (q9 = 0) = false := decide_eq_false cq
         have d6 : (q9 == 0) = false := beq_eq_false_iff_ne.2 cq
         have hq6 := HQ6.out
         rw [if_neg cq] at hq6
         simp only [Yac, Prod.mk.injEq] at hq6
         obtain ⟨rfl, rfl, rfl, rfl, rfl, rfl, rfl, rfl, rfl⟩ := hq6
         clear cq
         go_wp2_with ((with_reducible refine Ydb (t := 25) (p := 2) rfl ?_); refine wpList_store_row rfl 25 (.tmp 2) (.tmp 70) rfl w.heap.size (uc ⟨#[]⟩ ⟨#[]⟩ 0 ⟨#[]⟩ ⟨#[]⟩ ⟨#[]⟩ false false) rfl rfl 25 _ eA.out bG rfl (Yrb _ _ _ _ _ _ _ _) ?_)
         refine bodyPost_ret (v := ?v70) ?hr70 ?hd70 ?_
         case hr70 => refine Yea (p := 2) (u := 3) (ty := 25) ?_ _ _ w.heap.size 25 (uc ⟨#[]⟩ ⟨#[]⟩ 0 ⟨#[]⟩ ⟨#[]⟩ ⟨#[]⟩ false false) (0, 0) _ ?_ (setRow_heap _ _ _ _ _ _ eA.out) bQ rfl bG <;> rfl
         case hd70 => rfl
         exact ⟨rfl, below_setRow cK.out (Nat.le_refl _) _⟩
      ·rw [hh] at HSL
       have cN := HQ4.out
       unfold refS at cN
       rw [hxd, List.headD_cons, if_neg (by rw [hh]; simp)] at cN
       simp only [Yac, Prod.mk.injEq] at cN
       obtain ⟨rfl, rfl, rfl, rfl, rfl, rfl, rfl, rfl, rfl⟩ := cN
       clear hxd hh HQ4
       go_wp2_with (first | (go_at_call 48; (with_reducible refine (Yya.calls (bt x2 0) _ _ ?side1 HSL.out).mono ?_); (case side1 => first | exact HE.out.below cK.out | exact EnvOk.heap (HE.out.below cK.out) rfl); rintro e w' ⟨rfl, ⟨nd, rfl⟩⟩; replace eP := Ya.mk (Yh eP.out nd); replace eA := Ya.mk (Yh eA.out nd); replace cK := Ya.mk (Yb cK.out nd); generalize w5.drewN nd = wq at eP eA cK ⊢) | ((with_reducible refine Ydb (t := 25) (p := 2) rfl ?_); refine wpList_store_row rfl 25 (.tmp 2) (.tmp 48) rfl w.heap.size (uc ⟨#[]⟩ ⟨#[]⟩ 0 ⟨#[]⟩ ⟨#[]⟩ ⟨#[]⟩ false false) rfl rfl 25 _ eA.out bG rfl (Yrb _ _ _ _ _ _ _ _) ?_))
       refine bodyPost_ret (v := ?vy1) ?hry1 ?hdy1 ?_
       case hry1 => refine Yea (p := 2) (u := 3) (ty := 25) ?_ _ _ w.heap.size 25 (uc ⟨#[]⟩ ⟨#[]⟩ 0 ⟨#[]⟩ ⟨#[]⟩ ⟨#[]⟩ false false) (0, 0) _ ?_ (setRow_heap _ _ _ _ _ _ eA.out) bQ rfl bG <;> rfl
       case hdy1 => rfl
       exact ⟨rfl, below_setRow cK.out (Nat.le_refl _) _⟩
end Go.Proofs.YtnmglnglbdpjjaaGreatDoor.X
