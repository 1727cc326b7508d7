import Derived.Test.YtnmglnglbdpjjaaGreatDoorUfZv
set_option linter.all false
namespace Go.Proofs.YtnmglnglbdpjjaaGreatDoor.X
open Go.RowKit Go.Lib Go.Shelf Go.Yw.PrintWords Go.Yw.PrintLast Go.Yw.PrintMore
def Yto : Bool × List (List Nat × List Nat) := (true, [([], []), ([], []), ([], []), ([1, 2], [1, 2]), ([0, 3], [0, 3]), ([4], [4]), ([5], [5]), ([5], [5]), ([6, 4, 0, 1, 2, 3, 4, 5, 6], [6]), ([7, 8, 0, 1, 2, 3, 4, 5, 6, 7, 8], [7])])
def Yjv : List Nat := [0, 0, 0, 6, 15, 31, 63, 63, 127, 511]
theorem Ymr : rtab .any (opsOf Tryz.f16 16) = Yto := by kernel_rfl
theorem Yqp : Yig Yto.2 Yjv = true := by kernel_rfl
theorem hostL_le (m : List UInt8) : (Yif m).1.length ≤ m.length := by
 have := Yuk _ m (Kw _)
 unfold Yif
 split
 ·simp
 ·split
  ·rw [Ylh]; exact this
  ·simp
theorem placeQ_ok (sch : Y) (h : List UInt8) (q1 q2 : Y) (q3 q9 : Int) (hp : Ypi sch h = (q1, q2, q3, q9)) : q9 = 0 → q1 = sch ∧ q2.size ≤ h.length ∧ 0 ≤ q3 ∧ q3 ≤ 65535 := by
 intro h0
 have hh := hostL_le (h.takeWhile (Ydb [58]))
 have ht := Yse (Ydb [58]) h
 have hn := Ywn 65535 Zk ((h.dropWhile (Ydb [58])).drop 1)
 unfold Ypi at hp
 split at hp
 ·simp only [Kea] at hp; omega
 ·split at hp
  ·split at hp
   ·simp only [Kea] at hp
    obtain ⟨rfl, rfl, rfl, _⟩ := hp
    exact ⟨rfl, Zda, Zk, Zk⟩
   ·split at hp
    ·simp only [Kea] at hp
     obtain ⟨rfl, rfl, rfl, _⟩ := hp
     refine ⟨rfl, Zda, ?_, ?_⟩ <;> split <;> omega
    ·simp only [Kea] at hp; omega
  ·next hne => simp only [Kea] at hp; exact absurd (hp.2.2.2.trans h0) hne
set_option maxHeartbeats 8000000 in
set_option maxRecDepth 100000 in
theorem Ygs (a0 r1 r2 : Y) (r3 : Int) (r4 r5 r6 : Y) (r7 r8 : Bool) (r9 : Int) (w : World) (hE : EnvOk w) (hs : a0.size ≤ 100000000) (hq : Yqf a0.data.toList = (r1, r2, r3, r4, r5, r6, r7, r8, r9)) :
  Calls Tryz.prog 16 #[.string a0] w fun e w' => e = .returned (.tuple #[.agg (uc r1 r2 r3 r4 r5 r6 r7 r8), .int .i64 r9]) ∧ Below w.heap.size w w' := by
 have HE := Ya.mk hE
 have bQ := Tryz.underlying25
 have bD : (Tryz.prog.info? 25).map (·.size) = some 8 := by kernel_rfl
 rw [Ybv] at hq
 obtain ⟨kc, hkc⟩ := Yot a0 hs
 have hcl := Yti a0.data.toList
 rw [← Lib.size_eq] at hcl
 obtain ⟨c, hc⟩ : ∃ c, c = Yqd a0.data.toList := ⟨_, rfl⟩
 rw [← hc] at hq hcl
 have HC := Ya.mk (show Yq.f kc a0 = some (ofL c) from by rw [hc]; exact hkc kc (Kw _))
 obtain ⟨ks, hks⟩ := Yok (ofL c) Zda
 rw [Ygb] at hks
 obtain ⟨n, hn⟩ : ∃ n, n = Yud c := ⟨_, rfl⟩
 have HS := Ya.mk (show Yr.f ks (ofL c) = some ((n : Nat) : Int) from by rw [hn]; exact hks ks (Kw _))
 have hnl : n ≤ c.length := by
  rw [hn]; unfold Yud
  split
  ·next h =>
   have e := congrArg List.length (List.takeWhile_append_dropWhile (p := Ywb) (l := c))
   rw [List.length_append] at e
   cases hd : c.dropWhile Ywb with
   | nil => rw [hd] at h; simp at h
   | cons x y => rw [hd] at e; simp only [List.length_cons] at e; omega
  ·omega
 obtain ⟨cb, hcb⟩ : ∃ x, x = ofL c := ⟨_, rfl⟩
 have hcbs : cb.size = c.length := by rw [hcb, Yy]
 have HCB := Ya.mk (show cb.data.toList = c from by rw [hcb]; rfl)
 rw [← hcb] at HC HS
 obtain ⟨ni, hni⟩ : ∃ x : Int, x = ((n : Nat) : Int) := ⟨_, rfl⟩
 rw [← hni] at HS
 have HNI := Ya.mk hni
 clear hni
 have cH : (if cb.size > 2048 then Ytb 5 else if n = 0 then Ytb 3 else if lowL (c.take (n - 1)) = Yeh ∨ lowL (c.take (n - 1)) = Yzf then refS (ofL (lowL (c.take (n - 1)))) (c.drop n) else Ytb 16) = (r1, r2, r3, r4, r5, r6, r7, r8, r9) := by
  rw [← hq, hn, hcbs]; unfold refP
  by_cases c1 : c.length > 2048
  ·rw [if_pos c1, if_pos (show (c.length : Int) > 2048 by omega)]
  ·rw [if_neg c1, if_neg (show ¬ (c.length : Int) > 2048 by omega)]
 have HQ := Ya.mk cH
 have HZ1 := Ya.mk (heap_alloc_new w (.cells urlZ 25))
 have iB := Ya.mk ((Below.refl w.heap.size w).alloc (Kw _) (.cells urlZ 25))
 have HNL := Ya.mk (show n ≤ cb.size by omega)
 clear hE hq hkc hks hc hcl hn hcb hcbs cH hnl hs
 go_enter Tryz.func16, Tryz.ntmps16
 go_wp2_with fail
 refine (Yq.calls kc _ _ _ (HE.out.below iB.out) HC.out).mono ?_
 rintro e w2 ⟨rfl, hb⟩
 have tW := Ya.mk (Yla HZ1.out hb)
 have eL := Ya.mk (iB.out.trans (hb.mono iB.out.size))
 clear hb HZ1 iB
 go_wp2_with fail
 refine (Yr.calls ks _ _ _ (HE.out.below eL.out) HS.out).mono ?_
 rintro e w3' ⟨rfl, ⟨nd3, rfl⟩⟩
 have yZ := Ya.mk (Yi tW.out nd3)
 have eF := Ya.mk (Yb eL.out nd3)
 obtain ⟨w3, hw⟩ : ∃ W, W = w2.drewN nd3 := ⟨_, rfl⟩
 rw [← hw] at yZ eF ⊢
 clear hw tW eL
 by_cases c1 : cb.size > 2048
 ·have d1 : decide ((2048 : Int) < (cb.size : Int)) = true := Kr Zk
  have cH := HQ.out
  rw [if_pos c1] at cH
  simp only [Ytb, Kea] at cH
  obtain ⟨rfl, rfl, rfl, rfl, rfl, rfl, rfl, rfl, rfl⟩ := cH
  clear c1 HQ
  go_wp2_with ((with_reducible refine Yxa (t := 25) (p := 2) rfl ?_); refine wpList_store_row rfl 25 (.tmp 2) (.tmp 15) rfl w.heap.size (uc ⟨#[]⟩ ⟨#[]⟩ 0 ⟨#[]⟩ ⟨#[]⟩ ⟨#[]⟩ false false) rfl rfl 25 _ yZ.out bD rfl (Ypb _ _ _ _ _ _ _ _) ?_)
  refine bodyPost_ret (v := ?v15) ?hr15 ?hd15 ?_
  case hr15 => refine Yba (p := 2) (u := 3) (ty := 25) ?_ _ _ w.heap.size 25 (uc ⟨#[]⟩ ⟨#[]⟩ 0 ⟨#[]⟩ ⟨#[]⟩ ⟨#[]⟩ false false) (0, 0) _ ?_ (setRow_heap _ _ _ _ _ _ yZ.out) bQ rfl bD <;> rfl
  case hd15 => rfl
  exact ⟨rfl, below_setRow eF.out (Kw _) _⟩
 ·have d1 : decide ((2048 : Int) < (cb.size : Int)) = false := Ks Zk
  have cH := HQ.out
  rw [if_neg c1] at cH
  have zU := Ya.mk cH
  clear cH HQ
  by_cases c2 : n = 0
  ·subst c2
   obtain rfl : ni = 0 := HNI.out
   have cH := zU.out
   rw [if_pos rfl] at cH
   simp only [Ytb, Kea] at cH
   obtain ⟨rfl, rfl, rfl, rfl, rfl, rfl, rfl, rfl, rfl⟩ := cH
   clear c1 zU
   go_wp2_with ((with_reducible refine Yxa (t := 25) (p := 2) rfl ?_); refine wpList_store_row rfl 25 (.tmp 2) (.tmp 19) rfl w.heap.size (uc ⟨#[]⟩ ⟨#[]⟩ 0 ⟨#[]⟩ ⟨#[]⟩ ⟨#[]⟩ false false) rfl rfl 25 _ yZ.out bD rfl (Ypb _ _ _ _ _ _ _ _) ?_)
   refine bodyPost_ret (v := ?v19) ?hr19 ?hd19 ?_
   case hr19 => refine Yba (p := 2) (u := 3) (ty := 25) ?_ _ _ w.heap.size 25 (uc ⟨#[]⟩ ⟨#[]⟩ 0 ⟨#[]⟩ ⟨#[]⟩ ⟨#[]⟩ false false) (0, 0) _ ?_ (setRow_heap _ _ _ _ _ _ yZ.out) bQ rfl bD <;> rfl
   case hd19 => rfl
   exact ⟨rfl, below_setRow eF.out (Kw _) _⟩
  ·obtain ⟨m, rfl⟩ : ∃ m, n = m + 1 := ⟨n - 1, Zk⟩
   have hni := HNI.out
   obtain ⟨mi, hmi⟩ : ∃ x : Int, x = ((m : Nat) : Int) := ⟨_, rfl⟩
   have d2 : (ni == 0) = false := beq_eq_false_iff_ne.2 Zk
   have d3 : decide (ni = 0) = false := Ks Zk
   have hms : m + 1 ≤ cb.size := HNL.out
   have hw1 : wrap64 (ni - 1) = mi := by unfold wrap64; omega
   have b0 : 0 ≤ mi := by omega
   have b1 : mi ≤ (cb.size : Int) := by omega
   have b2 : 0 ≤ ni := by omega
   have b3 : ni ≤ (cb.size : Int) := by omega
   have hmt : mi.toNat = m := by omega
   have hnt : ni.toNat = m + 1 := by omega
   have cH := zU.out
   rw [if_neg Zk, Nat.add_sub_cancel] at cH
   obtain ⟨sch, hsch⟩ : ∃ x, x = ofL (lowL (c.take m)) := ⟨_, rfl⟩
   obtain ⟨kl, hkl⟩ := Yyn (cb.extract 0 mi.toNat) Zpa
   have HL := Ya.mk (show Yfa.f kl (cb.extract 0 mi.toNat) = some sch from by
    have h9 : Yfa.f kl (cb.extract 0 mi.toNat) = _ := hkl kl (Kw _)
    rw [h9, hmt, Yge, Ygb, HCB.out, hsch])
   have hsd : sch.data.toList = lowL (c.take m) := by rw [hsch]; rfl
   rw [← hsd, Yhi] at cH
   obtain ⟨x2, qA⟩ : ∃ x, x = cb.extract ni.toNat cb.size := ⟨_, rfl⟩
   have hx2d : x2.data.toList = c.drop (m + 1) := by rw [qA, hnt, Yuc, HCB.out]; rfl
   have hx2s : x2.size ≤ 2048 := by rw [qA, ByteArray.size_extract]; omega
   have hxe := qA.symm
   rw [← hx2d] at cH
   have HQ3 := Ya.mk cH
   have HX2S := Ya.mk hx2s
   clear cH zU hkl hsch hsd qA hx2d hx2s c2 c1 hmt hnt hni hmi hms
   go_wp2_with fail
   refine (Yfa.calls kl _ _ _ (HE.out.below eF.out) HL.out).mono ?_
   rintro e w4 ⟨rfl, hb⟩
   have zA := Ya.mk (Yla yZ.out hb)
   have dL := Ya.mk (eF.out.trans (hb.mono eF.out.size))
   clear hb yZ eF
   have HZ5 := Ya.mk (heap_alloc_new w4 (.cells urlZ 25))
   have HBZ := Ya.mk (dL.out.alloc dL.out.size (.cells urlZ 25))
   have BZ4a := Ya.mk (Ym zA.out (.cells urlZ 25))
   have HGl := Ya.mk (show w.heap.size < w4.heap.size from (Array.getElem?_eq_some_iff.1 zA.out).1)
   have hkinds : (lowL (c.take m) = lowL (c.take m)) := rfl
   have harm : ∀ (_ : Unit), True := fun _ => trivial
   clear harm hkinds
   have hks : ((sch.toList != ([104, 116, 116, 112] : List UInt8)) = false ∧ (sch.toList == ([104, 116, 116, 112] : List UInt8)) = true ∧ Ya (sch.data.toList = Yeh ∨ sch.data.toList = Yzf)) ∨ ((sch.toList != ([104, 116, 116, 112] : List UInt8)) = true ∧ (sch.toList == ([104, 116, 116, 112] : List UInt8)) = false ∧ (sch.toList != ([104, 116, 116, 112, 115] : List UInt8)) = false ∧ (sch.toList == ([104, 116, 116, 112, 115] : List UInt8)) = true ∧ Ya (sch.data.toList = Yeh ∨ sch.data.toList = Yzf)) ∨ ((sch.toList != ([104, 116, 116, 112] : List UInt8)) = true ∧ (sch.toList == ([104, 116, 116, 112] : List UInt8)) = false ∧ (sch.toList != ([104, 116, 116, 112, 115] : List UInt8)) = true ∧ (sch.toList == ([104, 116, 116, 112, 115] : List UInt8)) = false ∧ Ya (¬ (sch.data.toList = Yeh ∨ sch.data.toList = Yzf))) := by
    rw [Lib.toList_data]
    by_cases e : sch.data.toList = Yeh
    ·rw [e]; exact .inl ⟨rfl, rfl, ⟨.inl rfl⟩⟩
    ·by_cases e2 : sch.data.toList = Yzf
     ·rw [e2]; exact .inr (.inl ⟨rfl, rfl, rfl, rfl, ⟨.inr rfl⟩⟩)
     ·exact .inr (.inr ⟨by rw [bne_iff_ne]; exact e, by rw [beq_eq_false_iff_ne]; exact e, by rw [bne_iff_ne]; exact e2, by rw [beq_eq_false_iff_ne]; exact e2, ⟨fun x => x.elim e e2⟩⟩)
   go_upto_region 9 with (first | ((with_reducible refine Yxa (t := 25) (p := 5) rfl ?_); refine wpList_store_row rfl 25 (.tmp 5) (.tmp 25) rfl w4.heap.size (uc sch ⟨#[]⟩ 0 ⟨#[]⟩ ⟨#[]⟩ ⟨#[]⟩ false false) rfl rfl 25 _ HZ5.out bD rfl (Ypb _ _ _ _ _ _ _ _) ?_; have eQ := Ya.mk (setRow_heap _ _ _ (uc sch ⟨#[]⟩ 0 ⟨#[]⟩ ⟨#[]⟩ ⟨#[]⟩ false false) _ _ HZ5.out); have eB := Ya.mk ((setRow_other (w4.alloc (.cells urlZ 25)) w4.heap.size w.heap.size (uc sch ⟨#[]⟩ 0 ⟨#[]⟩ ⟨#[]⟩ ⟨#[]⟩ false false) (Nat.ne_of_lt HGl.out)).trans BZ4a.out); have cM := Ya.mk (below_setRow HBZ.out (Nat.le_of_lt HGl.out) (uc sch ⟨#[]⟩ 0 ⟨#[]⟩ ⟨#[]⟩ ⟨#[]⟩ false false)); generalize (w4.alloc (.cells urlZ 25)).setRow w4.heap.size (uc sch ⟨#[]⟩ 0 ⟨#[]⟩ ⟨#[]⟩ ⟨#[]⟩ false false) = w5 at eQ eB cM ⊢; obtain ⟨cQ, _⟩ := Yea eQ.out))
   (try simp only [Act.put, Kca])
   obtain ⟨g, hg⟩ : ∃ n, n = w4.heap.size := ⟨_, rfl⟩
   rw [← hg] at eQ HGl ⊢
   have HGne := Ya.mk (show w.heap.size ≠ g from Nat.ne_of_lt HGl.out)
   have HGle := Ya.mk (show w.heap.size ≤ g from Nat.le_of_lt HGl.out)
   clear hg HZ5 HBZ BZ4a dL zA hxe
   go_cut [29] (fun v29 wx => ∃ (kd : Bool), v29 = .bool kd ∧ w5 = wx ∧ Ya (kd = false → (sch.data.toList = Yeh ∨ sch.data.toList = Yzf)) ∧ Ya (kd = true → ¬ (sch.data.toList = Yeh ∨ sch.data.toList = Yzf)))
   case first =>
    obtain ⟨cQ, _⟩ := Yea eQ.out
    rcases hks with ⟨s1, s2, HKK⟩ | ⟨s1, s2, s3, s4, HKK⟩ | ⟨s1, s2, s3, s4, HKK⟩
    ·go_wp2_with fail
     go_meet
     case rel => exact ⟨false, rfl, rfl, ⟨fun _ => HKK.out⟩, ⟨fun h => by cases h⟩⟩
    ·go_wp2_with fail
     go_meet
     case rel => exact ⟨false, rfl, rfl, ⟨fun _ => HKK.out⟩, ⟨fun h => by cases h⟩⟩
    ·go_wp2_with fail
     go_meet
     case rel => exact ⟨true, rfl, rfl, ⟨fun h => by cases h⟩, ⟨fun _ => HKK.out⟩⟩
   case rest =>
    obtain ⟨kd, rfl, rfl, HKf, HKt⟩ := hcut
    clear hks
    cases kd with
    | true =>
     have cH := HQ3.out
     rw [if_neg (HKt.out rfl)] at cH
     simp only [Ytb, Kea] at cH
     obtain ⟨rfl, rfl, rfl, rfl, rfl, rfl, rfl, rfl, rfl⟩ := cH
     clear HQ3 HKf HKt
     go_wp2_with ((with_reducible refine Yxa (t := 25) (p := 2) rfl ?_); refine wpList_store_row rfl 25 (.tmp 2) (.tmp 38) rfl w.heap.size (uc ⟨#[]⟩ ⟨#[]⟩ 0 ⟨#[]⟩ ⟨#[]⟩ ⟨#[]⟩ false false) rfl rfl 25 _ eB.out bD rfl (Ypb _ _ _ _ _ _ _ _) ?_)
     refine bodyPost_ret (v := ?v38) ?hr38 ?hd38 ?_
     case hr38 => refine Yba (p := 2) (u := 3) (ty := 25) ?_ _ _ w.heap.size 25 (uc ⟨#[]⟩ ⟨#[]⟩ 0 ⟨#[]⟩ ⟨#[]⟩ ⟨#[]⟩ false false) (0, 0) _ ?_ (setRow_heap _ _ _ _ _ _ eB.out) bQ rfl bD <;> rfl
     case hd38 => rfl
     exact ⟨rfl, below_setRow cM.out (Kw _) _⟩
    | false =>
     have HK := Ya.mk (HKf.out rfl)
     have cH := HQ3.out
     rw [if_pos HK.out] at cH
     have HQ4 := Ya.mk cH
     clear cH HQ3 HKf HKt
     have hHS : Yrb (x2.data.toList.headD 0) = true ∨ Yrb (x2.data.toList.headD 0) = false := by cases Yrb (x2.data.toList.headD 0) <;> simp
     cases hxd : x2.data.toList with
     | nil =>
      have cH := HQ4.out
      rw [hxd] at cH
      simp only [refS, List.headD_nil, show Yrb 0 = false from rfl, Bool.false_eq_true, if_false, Ytb, Kea] at cH
      obtain ⟨rfl, rfl, rfl, rfl, rfl, rfl, rfl, rfl, rfl⟩ := cH
      have e1 : (x2.toList == ([] : List UInt8)) = true := by rw [Lib.toList_data, hxd]; rfl
      have e2 : (x2.toList != ([] : List UInt8)) = false := by rw [Lib.toList_data, hxd]; rfl
      clear hxd HQ4 hHS
      go_wp2_with ((with_reducible refine Yxa (t := 25) (p := 2) rfl ?_); refine wpList_store_row rfl 25 (.tmp 2) (.tmp 48) rfl w.heap.size (uc ⟨#[]⟩ ⟨#[]⟩ 0 ⟨#[]⟩ ⟨#[]⟩ ⟨#[]⟩ false false) rfl rfl 25 _ eB.out bD rfl (Ypb _ _ _ _ _ _ _ _) ?_)
      refine bodyPost_ret (v := ?v48n) ?hr48n ?hd48n ?_
      case hr48n => refine Yba (p := 2) (u := 3) (ty := 25) ?_ _ _ w.heap.size 25 (uc ⟨#[]⟩ ⟨#[]⟩ 0 ⟨#[]⟩ ⟨#[]⟩ ⟨#[]⟩ false false) (0, 0) _ ?_ (setRow_heap _ _ _ _ _ _ eB.out) bQ rfl bD <;> rfl
      case hd48n => rfl
      exact ⟨rfl, below_setRow cM.out (Kw _) _⟩
     | cons b0 bt0 =>
      have hbt : bt x2 0 = (b0.toNat : Int) := (Yvc x2 0 b0 bt0 hxd).2.1
      have hps : 0 < x2.size := by rw [Lib.size_eq, hxd]; simp
      have e1 : (x2.toList == ([] : List UInt8)) = false := by rw [Lib.toList_data, hxd]; rfl
      have e2 : (x2.toList != ([] : List UInt8)) = true := by rw [Lib.toList_data, hxd]; rfl
      have jF : ∀ h : 0 < x2.size, ((x2[0]'h).toNat : Int) = bt x2 0 := Ybb x2 0
      have q4 := Kt hps
      have tV : (0 < (x2.size : Int)) = True := Kt Zk
      have HSL := Ya.mk (show Yab.f (bt x2 0) = some (Yrb b0) from by rw [hbt]; exact Yci b0)
      clear hbt hps
      rw [hxd, List.headD_cons] at hHS
      rcases hHS with hh | hh
      ·rw [hh] at HSL
       have HXD := Ya.mk hxd
       have HQ5 := Ya.mk (show refL sch (x2.data.toList.dropWhile Yrb) = (r1, r2, r3, r4, r5, r6, r7, r8, r9) from by
        have := HQ4.out
        unfold refS at this
        rw [hxd, List.headD_cons, if_pos hh] at this
        rw [hxd]; exact this)
       clear hxd hh HQ4
       go_upto_block 2 with (first | (go_at_call 48; (with_reducible refine (Yab.calls (bt x2 0) _ _ ?z1 HSL.out).mono ?_); (case z1 => first | exact HE.out.below cM.out | exact EnvOk.heap (HE.out.below cM.out) rfl); rintro e w' ⟨rfl, ⟨nd, rfl⟩⟩; replace eQ := Ya.mk (Yi eQ.out nd); replace eB := Ya.mk (Yi eB.out nd); replace cM := Ya.mk (Yb cM.out nd); generalize w5.drewN nd = wq at eQ eB cM ⊢))
       (try simp only [Act.put, Kca])
       clear jF q4 tV e1 e2
       obtain ⟨L0, hL0⟩ : ∃ l, l = x2.data.toList.dropWhile Yrb := ⟨_, rfl⟩
       rw [← hL0] at HQ5
       have HL0 := Ya.mk hL0
       obtain ⟨N0, hN0⟩ : ∃ N0, N0 = x2.data.toList.length := ⟨_, rfl⟩
       have hN0b : N0 ≤ 2048 := by rw [hN0, ← Lib.size_eq]; exact HX2S.out
       have hx2o : x2 = ofL x2.data.toList := (Yhi x2).symm
       have HX2O := Ya.mk hx2o
       have HN0 := Ya.mk hN0
       clear hL0 hN0 hx2o
       go_cut [0] (fun v0 wx => ∃ x3 : Y, v0 = .string x3 ∧ Ya (x3.data.toList = L0) ∧ Ya (wx.heap[g]? = some (.cells (uc sch ⟨#[]⟩ 0 ⟨#[]⟩ ⟨#[]⟩ ⟨#[]⟩ false false) 25 (0, 0))) ∧ Ya (wx.heap[w.heap.size]? = some (.cells urlZ 25 (0, 0))) ∧ Ya (Below w.heap.size w wx))
       case first =>
        go_wp2_with fail
        go_loopg [0] N0 (fun gk v0 wx => ∃ l : List UInt8, v0 = .string (ofL l) ∧ l.length ≤ gk ∧ Ya (l.dropWhile Yrb = L0) ∧ Ya (wx.heap[g]? = some (.cells (uc sch ⟨#[]⟩ 0 ⟨#[]⟩ ⟨#[]⟩ ⟨#[]⟩ false false) 25 (0, 0))) ∧ Ya (wx.heap[w.heap.size]? = some (.cells urlZ 25 (0, 0))) ∧ Ya (Below w.heap.size w wx))
        case atStart => exact ⟨x2.data.toList, by rw [← HX2O.out], by have := HN0.out; omega, ⟨HL0.out.symm⟩, eQ, eB, cM⟩
        case round =>
         clear eQ eB cM
         obtain ⟨l, rfl, hll, HDL, BGx, BZx, HBx⟩ := hrel
         obtain ⟨x3, hx3⟩ : ∃ x, x = ofL l := ⟨_, rfl⟩
         have sN := Ya.mk (show x3.data.toList = l from by rw [hx3]; rfl)
         rw [← hx3]
         clear hx3
         have hstop : l = [] ∨ (∃ b t, l = b :: t ∧ Yrb b = false) ∨ (∃ b t, l = b :: t ∧ Yrb b = true) := by
          cases l with
          | nil => exact .inl rfl
          | cons b t => cases h : Yrb b with
           | true => exact .inr (.inr ⟨b, t, rfl, h⟩)
           | false => exact .inr (.inl ⟨b, t, rfl, h⟩)
         rcases hstop with rfl | ⟨b, t9, rfl, tX⟩ | ⟨b, t9, rfl, tX⟩
         ·have f1 : (x3.toList != ([] : List UInt8)) = false := by rw [Lib.toList_data, sN.out]; rfl
          have f2 : (x3.toList == ([] : List UInt8)) = true := by rw [Lib.toList_data, sN.out]; rfl
          go_wp2_with fail
          go_meet
          case rel => exact ⟨x3, rfl, ⟨by rw [sN.out, ← HDL.out]; rfl⟩, BGx, BZx, HBx⟩
         ·have hbt : bt x3 0 = (b.toNat : Int) := (Yvc x3 0 b t9 sN.out).2.1
          have hps : 0 < x3.size := by rw [Lib.size_eq, sN.out]; simp
          have f1 : (x3.toList != ([] : List UInt8)) = true := by rw [Lib.toList_data, sN.out]; rfl
          have f2 : (x3.toList == ([] : List UInt8)) = false := by rw [Lib.toList_data, sN.out]; rfl
          have jF : ∀ h : 0 < x3.size, ((x3[0]'h).toNat : Int) = bt x3 0 := Ybb x3 0
          have q4 := Kt hps
          have tV : (0 < (x3.size : Int)) = True := Kt Zk
          have aGH := Ya.mk (show Yab.f (bt x3 0) = some false from by rw [hbt, ← tX]; exact Yci b)
          have HL9 := Ya.mk (show b :: t9 = L0 from by rw [← HDL.out, List.dropWhile_cons_of_neg (by rw [tX]; simp)])
          clear hbt hps tX HDL
          go_wp2_with (first | (go_at_call 48; (with_reducible refine (Yab.calls (bt x3 0) _ _ ?z1 aGH.out).mono ?_); (case z1 => first | exact HE.out.below HBx.out | exact EnvOk.heap (HE.out.below HBx.out) rfl); rintro e w' ⟨rfl, ⟨nd9, rfl⟩⟩))
          go_meet
          case rel => exact ⟨x3, rfl, ⟨by rw [sN.out, HL9.out]⟩, ⟨Yi BGx.out _⟩, ⟨Yi BZx.out _⟩, ⟨Yb HBx.out _⟩⟩
         ·have hbt : bt x3 0 = (b.toNat : Int) := (Yvc x3 0 b t9 sN.out).2.1
          have hps : 0 < x3.size := by rw [Lib.size_eq, sN.out]; simp
          have f1 : (x3.toList != ([] : List UInt8)) = true := by rw [Lib.toList_data, sN.out]; rfl
          have f2 : (x3.toList == ([] : List UInt8)) = false := by rw [Lib.toList_data, sN.out]; rfl
          have jF : ∀ h : 0 < x3.size, ((x3[0]'h).toNat : Int) = bt x3 0 := Ybb x3 0
          have q4 := Kt hps
          have tV : (0 < (x3.size : Int)) = True := Kt Zk
          have b9 : (1 : Int) ≤ (x3.size : Int) := by omega
          have aGH := Ya.mk (show Yab.f (bt x3 0) = some true from by rw [hbt, ← tX]; exact Yci b)
          have HNX := Ya.mk (show x3.extract 1 x3.size = ofL t9 from by rw [Yuc, sN.out]; rfl)
          have aWH := Ya.mk (show t9.dropWhile Yrb = L0 from by rw [← HDL.out, List.dropWhile_cons_of_pos tX])
          cases gk with
          | zero => simp only [List.length_cons] at hll; omega
          | succ g2 =>
           simp only [List.length_cons] at hll
           clear hbt hps tX HDL
           go_wp2_with (first | (go_at_call 48; (with_reducible refine (Yab.calls (bt x3 0) _ _ ?z1 aGH.out).mono ?_); (case z1 => first | exact HE.out.below HBx.out | exact EnvOk.heap (HE.out.below HBx.out) rfl); rintro e w' ⟨rfl, ⟨nd9, rfl⟩⟩))
           go_roundg g2
           case measure => omega
           case rel => exact ⟨t9, by rw [HNX.out], Zk, aWH, ⟨Yi BGx.out _⟩, ⟨Yi BZx.out _⟩, ⟨Yb HBx.out _⟩⟩
       case rest =>
        clear eQ eB cM
        obtain ⟨x3, rfl, HX3L, eQ, eB, cM⟩ := hcut
        obtain ⟨wl, hwl⟩ : ∃ W, W = wc := ⟨_, rfl⟩
        rw [← hwl] at eQ eB cM ⊢
        clear hwl
        go_wp2_with fail
        have hxl : x3.size ≤ 2048 := by
         rw [Lib.size_eq, HX3L.out, HL0.out]
         have := Yte Yrb x2.data.toList
         have := HX2S.out
         rw [Lib.size_eq] at this; omega
        have hq5 : refL sch x3.data.toList = (r1, r2, r3, r4, r5, r6, r7, r8, r9) := by rw [HX3L.out]; exact HQ5.out
        obtain ⟨t, ht⟩ : ∃ t : Int, t = (((x3.data.toList.takeWhile (Ydb [47, 92, 63, 35])).length : Nat) : Int) := ⟨_, rfl⟩
        obtain ⟨ku, hku⟩ := Yem x3 ⟨#[47, 92, 63, 35]⟩ Zk Zca
        have HU := Ya.mk (show Yra.f ku x3 ⟨#[47, 92, 63, 35]⟩ = some t from by rw [ht]; exact hku ku (Kw _))
        have htl := Yse (Ydb [47, 92, 63, 35]) x3.data.toList
        rw [← Lib.size_eq] at htl
        have t0 : 0 ≤ t := by omega
        have t1 : t ≤ (x3.size : Int) := by omega
        have tb1 : decide (0 ≤ t) = true := Kr t0
        have tc1 : decide (t ≤ (x3.size : Int)) = true := Kr t1
        have tb0 := Kt t0
        have tc0 := Kt t1
        have hxh : x3.extract 0 (t : Int).toNat = ofL (x3.data.toList.takeWhile (Ydb [47, 92, 63, 35])) := by
         rw [ht, Int.toNat_natCast, Yge]
         congr 1
         have := List.take_left (l₁ := x3.data.toList.takeWhile (Ydb [47, 92, 63, 35])) (l₂ := x3.data.toList.dropWhile (Ydb [47, 92, 63, 35]))
         rw [List.takeWhile_append_dropWhile] at this; exact this
        have hxr : x3.extract (t : Int).toNat x3.size = ofL (x3.data.toList.dropWhile (Ydb [47, 92, 63, 35])) := by
         rw [ht, Int.toNat_natCast, Yuc]
         congr 1
         have := List.drop_left (l₁ := x3.data.toList.takeWhile (Ydb [47, 92, 63, 35])) (l₂ := x3.data.toList.dropWhile (Ydb [47, 92, 63, 35]))
         rw [List.takeWhile_append_dropWhile] at this; exact this
        obtain ⟨q1, q2, q3, q9, hpq⟩ : ∃ a b c d, Ypi sch (x3.data.toList.takeWhile (Ydb [47, 92, 63, 35])) = (a, b, c, d) := ⟨_, _, _, _, rfl⟩
        have HPQ := Ya.mk (show Ypi sch (x3.extract 0 (t : Int).toNat).data.toList = (q1, q2, q3, q9) from by rw [hxh, Ygb]; exact hpq)
        have HPS := Ya.mk (show (x3.extract 0 (t : Int).toNat).size ≤ 30000000 from by rw [ByteArray.size_extract]; omega)
        have HPSc := HK
        unfold refL at hq5
        rw [hpq] at hq5
        simp only at hq5
        have HQ6 := Ya.mk hq5
        have HPK := Ya.mk (placeQ_ok sch (x3.data.toList.takeWhile (Ydb [47, 92, 63, 35])) q1 q2 q3 q9 hpq)
        have HXR := Ya.mk hxr
        have HXL := Ya.mk hxl
        have HTLn := Ya.mk htl
        have HKk := Ya.mk (show sch.size ≤ 5 from by
         rw [Lib.size_eq]
         rcases HK.out with e | e <;> (rw [e]; decide))
        obtain ⟨rest, hrest⟩ : ∃ r, r = x3.data.toList.dropWhile (Ydb [47, 92, 63, 35]) := ⟨_, rfl⟩
        have HRL := Ya.mk (show rest.length ≤ 2048 from by rw [hrest]; have := Yte (Ydb [47, 92, 63, 35]) x3.data.toList; rw [← Lib.size_eq] at this; omega)
        rw [← hrest] at HQ6 HXR
        clear hq5 hku hxh hxr hpq hxl htl ht t0 t1 hrest
        refine (Yra.calls ku _ _ _ _ (HE.out.below cM.out) HU.out).mono ?_
        rintro e wc' ⟨rfl, ⟨ndc, rfl⟩⟩
        replace eQ := Ya.mk (Yi eQ.out ndc)
        replace eB := Ya.mk (Yi eB.out ndc)
        replace cM := Ya.mk (Yb cM.out ndc)
        generalize wl.drewN ndc = wc at eQ eB cM ⊢
        go_wp2_with fail
        refine Ykg (n := 10) (S := fun w' => w'.cell? ⟨g, 0, none⟩ = some (.string sch) ∧ w'.cell? ⟨g, 1, none⟩ = some (.string (⟨#[]⟩ : Y)) ∧ w'.cell? ⟨g, 2, none⟩ = some (.int .i64 0) ∧ w'.cell? ⟨g, 3, none⟩ = some (.string (⟨#[]⟩ : Y)) ∧ w'.cell? ⟨g, 4, none⟩ = some (.string (⟨#[]⟩ : Y)) ∧ w'.cell? ⟨g, 5, none⟩ = some (.string (⟨#[]⟩ : Y)) ∧ w'.cell? ⟨g, 6, none⟩ = some (.bool false) ∧ w'.cell? ⟨g, 7, none⟩ = some (.bool false)) (ds := [8]) #[false, false, false, false, false, false, false, false, false, false] Zi rfl rfl (Yea (Yp eQ.out)) (fun hHeld => ?_); refine Ylf Ymr Yqp (fun HT_ HW_ => ?_)
        replace eQ := Ya.mk (Yp eQ.out)
        replace eB := Ya.mk (Yp eB.out)
        replace cM := Ya.mk (Yc cM.out)
        generalize wc.drew = w57 at eQ eB cM hHeld ⊢
        refine Yya (i := 1) (N := some 62) (v := ?_) (a' := ?_) #[false, true, false, false, false, false, false, false, false, false] rfl rfl (Ysa HT_.out Zi) (fun _ _ _ h => h) (Or.inl ⟨Zga, ?_⟩) ?_ ?_
        rotate_left
        ·exact Zyb
        rotate_left
        ·exact Zzb
        refine Yya (i := 2) (N := some 63) (v := ?_) (a' := ?_) #[false, true, true, false, false, false, false, false, false, false] rfl rfl (Ysa HT_.out Zi) (fun _ _ _ h => h) (Or.inl ⟨Zga, ?_⟩) ?_ ?_
        rotate_left
        ·exact Zyb
        rotate_left
        ·exact Zzb
        refine Yya (i := 3) (N := some 64) (v := ?_) (a' := ?_) #[false, true, true, true, false, false, false, false, false, false] rfl rfl (Ysa HT_.out Zi) (fun _ _ _ h => h) (Or.inl ⟨Zga, ?_⟩) ?_ ?_
        rotate_left
        ·exact Zyb
        rotate_left
        ·exact Zzb
        refine Ynf (i := 0) (N := some 61) (v := ?_) (a' := ?_) #[true, true, true, true, false, false, false, false, false, false] rfl rfl (Yae HT_.out HW_.out Zi) (fun _ _ _ h => h) (Or.inl ⟨Zga, ?_⟩) hHeld ?_ ?_
        rotate_left
        ·exact Zac
        rotate_left
        ·exact Zzb
        refine one_ (i := 4) (N := some 65) #[true, true, true, true, true, false, false, false, false, false] rfl rfl (Yne HT_.out Zi) Zca (fun K hK => ?_)
        refine Yvh Tryz.func50 Zi rfl #[.agg #[.string sch, .string (⟨#[]⟩ : Y), .int .i64 0, .string (⟨#[]⟩ : Y), .string (⟨#[]⟩ : Y), .string (⟨#[]⟩ : Y), .bool false, .bool false], .string (x3.extract 0 (t : Int).toNat)] Zga rfl rfl Zb ?_
        refine (Ycs sch (x3.extract 0 (t : Int).toNat) q1 q2 q3 q9 _ (HE.out.below cM.out) HPS.out HPSc.out HPQ.out).mono ?_
        rintro e w58 ⟨rfl, hb⟩
        refine ⟨_, rfl, ?_⟩
        replace eQ := Ya.mk (Yla eQ.out hb)
        replace eB := Ya.mk (Yla eB.out hb)
        replace cM := Ya.mk (cM.out.trans (hb.mono cM.out.size))
        clear hb
        refine hK.out _ _ (Yea eQ.out) (fun hHeld => ?_)
        clear hK K
        refine Yeg (a' := ?_) ?_ ?_
        rotate_left
        ·show Act.put _ (some 65) _ = _
         simp only [Act.put, Kca, Yaa, Yda]
         rfl
        refine Yya (i := 5) (N := some 60) (v := ?_) (a' := ?_) #[true, true, true, true, true, true, false, false, false, false] rfl rfl (Ysa HT_.out Zi) (fun _ _ _ h => h) (Or.inl ⟨Zga, ?_⟩) ?_ ?_
        rotate_left
        ·exact Zyb
        rotate_left
        ·exact Zzb
        refine Yya (i := 6) (N := some 66) (v := ?_) (a' := ?_) #[true, true, true, true, true, true, true, false, false, false] rfl rfl (Ysa HT_.out Zi) (fun _ _ _ h => h) (Or.inl ⟨Zga, ?_⟩) ?_ ?_
        rotate_left
        ·exact Zyb
        rotate_left
        ·exact Zzb
        refine Yya (i := 7) (N := some 67) (v := ?_) (a' := ?_) #[true, true, true, true, true, true, true, true, false, false] rfl rfl (Ysa HT_.out Zi) (fun _ _ _ h => h) (Or.inl ⟨Zga, ?_⟩) ?_ ?_
        rotate_left
        ·exact Zyb
        rotate_left
        ·exact Zzb
        refine Ymn (i := 8) (N := none) #[true, true, true, true, true, true, true, true, true, false] rfl rfl (Yne HT_.out Zi) Zca (fun K hK => ?_)
        obtain ⟨zM, jG, rH, hs3, hs4, hs5, hs6, hs7⟩ := Yea eQ.out
        obtain ⟨aGI, aGJ, aGK, aGL, aGM, aGN, aGO, aGP⟩ := Ke eQ.out
        refine Ysi (w1 := ?_) Zga rfl ?_ ?_
        rotate_left
        ·go_simp
         rfl
        refine hK.out _ _ ?_
        clear hK K zM jG rH hs3 hs4 hs5 hs6 hs7 aGI aGJ aGK aGL aGM aGN aGO aGP
        refine Yya (i := 9) (N := some 6) (v := ?_) (a' := ?_) #[true, true, true, true, true, true, true, true, true, true] rfl rfl (Ysa HT_.out Zi) (fun _ _ _ h => h) (Or.inl ⟨Zga, ?_⟩) ?_ ?_
        rotate_left
        ·exact Zyb
        rotate_left
        ·exact Zzb
        refine Yoh (Yvg HT_.out Zi) ?_
        replace eQ := Ya.mk (Yoa (cs' := #[.string q1, .string q2, .int .i64 q3, .string ⟨#[]⟩, .string ⟨#[]⟩, .string ⟨#[]⟩, .bool false, .bool false]) (Yoa (cs' := #[.string q1, .string q2, .int .i64 q3, .string ⟨#[]⟩, .string ⟨#[]⟩, .string ⟨#[]⟩, .bool false, .bool false]) (Yoa (cs' := #[.string q1, .string q2, .int .i64 q3, .string ⟨#[]⟩, .string ⟨#[]⟩, .string ⟨#[]⟩, .bool false, .bool false]) (Yoa (cs' := #[.string q1, .string q2, .int .i64 q3, .string ⟨#[]⟩, .string ⟨#[]⟩, .string ⟨#[]⟩, .bool false, .bool false]) (Yoa (cs' := #[.string q1, .string q2, .int .i64 q3, .string ⟨#[]⟩, .string ⟨#[]⟩, .string ⟨#[]⟩, .bool false, .bool false]) (Yoa (cs' := #[.string q1, .string q2, .int .i64 q3, .string ⟨#[]⟩, .string ⟨#[]⟩, .string ⟨#[]⟩, .bool false, .bool false]) (Yoa (cs' := #[.string q1, .string q2, .int .i64 0, .string ⟨#[]⟩, .string ⟨#[]⟩, .string ⟨#[]⟩, .bool false, .bool false]) (Yoa (cs' := #[.string q1, .string ⟨#[]⟩, .int .i64 0, .string ⟨#[]⟩, .string ⟨#[]⟩, .string ⟨#[]⟩, .bool false, .bool false]) eQ.out 0 (.string q1) rfl) 1 (.string q2) rfl) 2 (.int .i64 q3) rfl) 3 (.string ⟨#[]⟩) rfl) 4 (.string ⟨#[]⟩) rfl) 5 (.string ⟨#[]⟩) rfl) 6 (.bool false) rfl) 7 (.bool false) rfl)
        replace eB := Ya.mk (Yvb (Yvb (Yvb (Yvb (Yvb (Yvb (Yvb (Yvb eB.out (p := ⟨g, 0, none⟩) HGne.out (.string q1)) (p := ⟨g, 1, none⟩) HGne.out (.string q2)) (p := ⟨g, 2, none⟩) HGne.out (.int .i64 q3)) (p := ⟨g, 3, none⟩) HGne.out (.string ⟨#[]⟩)) (p := ⟨g, 4, none⟩) HGne.out (.string ⟨#[]⟩)) (p := ⟨g, 5, none⟩) HGne.out (.string ⟨#[]⟩)) (p := ⟨g, 6, none⟩) HGne.out (.bool false)) (p := ⟨g, 7, none⟩) HGne.out (.bool false))
        replace cM := Ya.mk (Yg (j := 7) (v := .bool false) (Yg (j := 6) (v := .bool false) (Yg (j := 5) (v := .string ⟨#[]⟩) (Yg (j := 4) (v := .string ⟨#[]⟩) (Yg (j := 3) (v := .string ⟨#[]⟩) (Yg (j := 2) (v := .int .i64 q3) (Yg (j := 1) (v := .string q2) (Yg (j := 0) (v := .string q1) cM.out HGle.out) HGle.out) HGle.out) HGle.out) HGle.out) HGle.out) HGle.out) HGle.out)
        generalize ((((((((w58.setCell ⟨g, 0, none⟩ (.string q1)).setCell ⟨g, 1, none⟩ (.string q2)).setCell ⟨g, 2, none⟩ (.int .i64 q3)).setCell ⟨g, 3, none⟩ (.string ⟨#[]⟩)).setCell ⟨g, 4, none⟩ (.string ⟨#[]⟩)).setCell ⟨g, 5, none⟩ (.string ⟨#[]⟩)).setCell ⟨g, 6, none⟩ (.bool false)).setCell ⟨g, 7, none⟩ (.bool false)) = w60 at eQ eB cM ⊢
        by_cases cq : q9 = 0
        ·subst cq
         obtain ⟨uR, hk2, hk3, hk4⟩ := HPK.out rfl
         have hq6 := HQ6.out
         rw [if_pos rfl] at hq6
         have ts := Yyh rest
         have hrl := HRL.out
         have hxl := HXL.out
         have htn := HTLn.out
         obtain ⟨kt, hkt⟩ := rstring_f sch q2 q3 (Ycd rest) (Yyb rest) (Ycc rest) (Yqc rest) (Ydc rest) (by have := HKk.out; omega) Zk Zk Zk Zk hk3 Zk
         have hT0 : Yac.f q1 q2 q3 ⟨#[]⟩ ⟨#[]⟩ ⟨#[]⟩ false false (x3.extract (t : Int).toNat x3.size) = some (q1, q2, q3, Ycd rest, Yyb rest, Ycc rest, Yqc rest, Ydc rest) := by
          unfold Yac.f
          rw [if_pos Zpa, HXR.out, Ygb]
         have hS0 : Yx.f kt q1 q2 q3 (Ycd rest) (Yyb rest) (Ycc rest) (Yqc rest) (Ydc rest) = some (Ytd q1 q2 q3 (Ycd rest) (Yyb rest) (Ycc rest) (Yqc rest) (Ydc rest)) := by
          rw [uR]; exact hkt kt (Kw _)
         unfold Yfo at hq6
         rw [← uR] at hq6
         obtain ⟨z4, hz4⟩ : ∃ z, z = Ycd rest := ⟨_, rfl⟩
         obtain ⟨z5, hz5⟩ : ∃ z, z = Yyb rest := ⟨_, rfl⟩
         obtain ⟨z6, hz6⟩ : ∃ z, z = Ycc rest := ⟨_, rfl⟩
         obtain ⟨z7, hz7⟩ : ∃ z, z = Yqc rest := ⟨_, rfl⟩
         obtain ⟨z8, hz8⟩ : ∃ z, z = Ydc rest := ⟨_, rfl⟩
         rw [← hz4, ← hz5, ← hz6, ← hz7, ← hz8] at hq6 hT0 hS0
         obtain ⟨tb, htb⟩ : ∃ x, x = Ytd q1 q2 q3 z4 z5 z6 z7 z8 := ⟨_, rfl⟩
         rw [← htb] at hq6 hS0
         have HTL := Ya.mk hT0
         have HST := Ya.mk hS0
         have HQ7 := Ya.mk hq6
         clear hT0 hS0 hq6 hkt htb hz4 hz5 hz6 hz7 hz8 ts hrl hxl htn uR hk2 hk3 hk4
         try go_wp2_with fail
         refine Ykg (n := 6) (S := fun w' => w'.cell? ⟨g, 0, none⟩ = some (.string q1) ∧ w'.cell? ⟨g, 1, none⟩ = some (.string q2) ∧ w'.cell? ⟨g, 2, none⟩ = some (.int .i64 q3) ∧ w'.cell? ⟨g, 3, none⟩ = some (.string (⟨#[]⟩ : Y)) ∧ w'.cell? ⟨g, 4, none⟩ = some (.string (⟨#[]⟩ : Y)) ∧ w'.cell? ⟨g, 5, none⟩ = some (.string (⟨#[]⟩ : Y)) ∧ w'.cell? ⟨g, 6, none⟩ = some (.bool false) ∧ w'.cell? ⟨g, 7, none⟩ = some (.bool false)) (ds := [5]) #[false, false, false, false, false, false] Zi rfl rfl (Yea (Yp eQ.out)) (fun hHeld => ?_)
         replace eQ := Ya.mk (Yp eQ.out)
         replace eB := Ya.mk (Yp eB.out)
         replace cM := Ya.mk (Yc cM.out)
         generalize w60.drew = w68 at eQ eB cM hHeld ⊢
         refine Yya (i := 1) (N := some 73) (v := ?_) (a' := ?_) #[false, true, false, false, false, false] rfl rfl Zi (fun _ _ _ h => h) (Or.inl ⟨Zga, ?_⟩) ?_ ?_
         rotate_left
         ·exact Zyb
         rotate_left
         ·exact Zzb
         refine Yya (i := 2) (N := some 74) (v := ?_) (a' := ?_) #[false, true, true, false, false, false] rfl rfl Zi (fun _ _ _ h => h) (Or.inl ⟨Zga, ?_⟩) ?_ ?_
         rotate_left
         ·exact Zyb
         rotate_left
         ·exact Zzb
         refine Yya (i := 3) (N := some 75) (v := ?_) (a' := ?_) #[false, true, true, true, false, false] rfl rfl Zi (fun _ _ _ h => h) (Or.inl ⟨Zga, ?_⟩) ?_ ?_
         rotate_left
         ·exact Zyb
         rotate_left
         ·exact Zzb
         refine Ynf (i := 0) (N := some 72) (v := ?_) (a' := ?_) #[true, true, true, true, false, false] rfl rfl Zi (fun _ _ _ h => h) (Or.inl ⟨Zga, ?_⟩) hHeld ?_ ?_
         rotate_left
         ·exact Zac
         rotate_left
         ·exact Zzb
         refine one_ (i := 4) (N := some 76) #[true, true, true, true, true, false] rfl rfl Zi Zca (fun K hK => ?_)
         refine Yvh Tryz.func18 Zi rfl #[.agg #[.string q1, .string q2, .int .i64 q3, .string (⟨#[]⟩ : Y), .string (⟨#[]⟩ : Y), .string (⟨#[]⟩ : Y), .bool false, .bool false], .string (x3.extract (t : Int).toNat x3.size)] Zga rfl rfl Zb ?_
         refine (Yac.calls q1 q2 q3 (⟨#[]⟩ : Y) (⟨#[]⟩ : Y) (⟨#[]⟩ : Y) false false (x3.extract (t : Int).toNat x3.size) q1 q2 q3 z4 z5 z6 z7 z8 _ (HE.out.below cM.out) HTL.out).mono ?_
         rintro e w69 ⟨rfl, hb⟩
         refine ⟨_, rfl, ?_⟩
         replace eQ := Ya.mk (Yla eQ.out hb)
         replace eB := Ya.mk (Yla eB.out hb)
         replace cM := Ya.mk (cM.out.trans (hb.mono cM.out.size))
         clear hb
         refine hK.out _ _ (Yea eQ.out) (fun hHeld => ?_)
         clear hK K
         refine Yeg (a' := ?_) ?_ ?_
         rotate_left
         ·show Act.put _ (some 76) _ = _
          simp only [Act.put, Kca, Yaa, Yda]
          rfl
         refine Ymn (i := 5) (N := none) #[true, true, true, true, true, true] rfl rfl Zi Zca (fun K hK => ?_)
         obtain ⟨zM, jG, rH, hs3, hs4, hs5, hs6, hs7⟩ := Yea eQ.out
         obtain ⟨aGI, aGJ, aGK, aGL, aGM, aGN, aGO, aGP⟩ := Ke eQ.out
         refine Ysi (w1 := ?_) Zga rfl ?_ ?_
         rotate_left
         ·go_simp
          rfl
         refine hK.out _ _ ?_
         clear hK K zM jG rH hs3 hs4 hs5 hs6 hs7 aGI aGJ aGK aGL aGM aGN aGO aGP
         refine Yoh Zi ?_
         replace eQ := Ya.mk (Yoa (cs' := #[.string q1, .string q2, .int .i64 q3, .string z4, .string z5, .string z6, .bool z7, .bool z8]) (Yoa (cs' := #[.string q1, .string q2, .int .i64 q3, .string z4, .string z5, .string z6, .bool z7, .bool false]) (Yoa (cs' := #[.string q1, .string q2, .int .i64 q3, .string z4, .string z5, .string z6, .bool false, .bool false]) (Yoa (cs' := #[.string q1, .string q2, .int .i64 q3, .string z4, .string z5, .string ⟨#[]⟩, .bool false, .bool false]) (Yoa (cs' := #[.string q1, .string q2, .int .i64 q3, .string z4, .string ⟨#[]⟩, .string ⟨#[]⟩, .bool false, .bool false]) (Yoa (cs' := #[.string q1, .string q2, .int .i64 q3, .string ⟨#[]⟩, .string ⟨#[]⟩, .string ⟨#[]⟩, .bool false, .bool false]) (Yoa (cs' := #[.string q1, .string q2, .int .i64 q3, .string ⟨#[]⟩, .string ⟨#[]⟩, .string ⟨#[]⟩, .bool false, .bool false]) (Yoa (cs' := #[.string q1, .string q2, .int .i64 q3, .string ⟨#[]⟩, .string ⟨#[]⟩, .string ⟨#[]⟩, .bool false, .bool false]) eQ.out 0 (.string q1) rfl) 1 (.string q2) rfl) 2 (.int .i64 q3) rfl) 3 (.string z4) rfl) 4 (.string z5) rfl) 5 (.string z6) rfl) 6 (.bool z7) rfl) 7 (.bool z8) rfl)
         replace eB := Ya.mk (Yvb (Yvb (Yvb (Yvb (Yvb (Yvb (Yvb (Yvb eB.out (p := ⟨g, 0, none⟩) HGne.out (.string q1)) (p := ⟨g, 1, none⟩) HGne.out (.string q2)) (p := ⟨g, 2, none⟩) HGne.out (.int .i64 q3)) (p := ⟨g, 3, none⟩) HGne.out (.string z4)) (p := ⟨g, 4, none⟩) HGne.out (.string z5)) (p := ⟨g, 5, none⟩) HGne.out (.string z6)) (p := ⟨g, 6, none⟩) HGne.out (.bool z7)) (p := ⟨g, 7, none⟩) HGne.out (.bool z8))
         replace cM := Ya.mk (Yg (j := 7) (v := .bool z8) (Yg (j := 6) (v := .bool z7) (Yg (j := 5) (v := .string z6) (Yg (j := 4) (v := .string z5) (Yg (j := 3) (v := .string z4) (Yg (j := 2) (v := .int .i64 q3) (Yg (j := 1) (v := .string q2) (Yg (j := 0) (v := .string q1) cM.out HGle.out) HGle.out) HGle.out) HGle.out) HGle.out) HGle.out) HGle.out) HGle.out)
         generalize ((((((((w69.setCell ⟨g, 0, none⟩ (.string q1)).setCell ⟨g, 1, none⟩ (.string q2)).setCell ⟨g, 2, none⟩ (.int .i64 q3)).setCell ⟨g, 3, none⟩ (.string z4)).setCell ⟨g, 4, none⟩ (.string z5)).setCell ⟨g, 5, none⟩ (.string z6)).setCell ⟨g, 6, none⟩ (.bool z7)).setCell ⟨g, 7, none⟩ (.bool z8)) = w70 at eQ eB cM ⊢
         obtain ⟨cQ, cB, cN, cX, cU, cT, cY, cR⟩ := Yea eQ.out
         try go_wp2_with fail
         refine (Yx.calls kt _ _ _ _ _ _ _ _ _ _ (HE.out.below cM.out) HST.out).mono ?_
         rintro e w71 ⟨rfl, hb⟩
         replace eQ := Ya.mk (Yla eQ.out hb)
         replace eB := Ya.mk (Yla eB.out hb)
         replace cM := Ya.mk (cM.out.trans (hb.mono cM.out.size))
         clear hb cQ cB cN cX cU cT cY cR
         by_cases cl : (tb.size : Int) > 2048
         ·have d1 : decide ((2048 : Int) < (tb.size : Int)) = true := Kr cl
          have hq7 := HQ7.out
          rw [if_pos cl] at hq7
          simp only [Ytb, Kea] at hq7
          obtain ⟨rfl, rfl, rfl, rfl, rfl, rfl, rfl, rfl, rfl⟩ := hq7
          clear cl
          go_wp2_with ((with_reducible refine Yxa (t := 25) (p := 2) rfl ?_); refine wpList_store_row rfl 25 (.tmp 2) (.tmp 81) rfl w.heap.size (uc ⟨#[]⟩ ⟨#[]⟩ 0 ⟨#[]⟩ ⟨#[]⟩ ⟨#[]⟩ false false) rfl rfl 25 _ eB.out bD rfl (Ypb _ _ _ _ _ _ _ _) ?_)
          refine bodyPost_ret (v := ?v81) ?hr81 ?hd81 ?_
          case hr81 => refine Yba (p := 2) (u := 3) (ty := 25) ?_ _ _ w.heap.size 25 (uc ⟨#[]⟩ ⟨#[]⟩ 0 ⟨#[]⟩ ⟨#[]⟩ ⟨#[]⟩ false false) (0, 0) _ ?_ (setRow_heap _ _ _ _ _ _ eB.out) bQ rfl bD <;> rfl
          case hd81 => rfl
          exact ⟨rfl, below_setRow cM.out (Kw _) _⟩
         ·have d1 : decide ((2048 : Int) < (tb.size : Int)) = false := Ks cl
          have hq7 := HQ7.out
          rw [if_neg cl] at hq7
          simp only [Kea] at hq7
          obtain ⟨rfl, rfl, rfl, rfl, rfl, rfl, rfl, rfl, rfl⟩ := hq7
          obtain ⟨cQ, cB, cN, cX, cU, cT, cY, cR⟩ := Yea eQ.out
          clear cl
          go_wp2_with ((with_reducible refine Yxa (t := 25) (p := 2) rfl ?_); refine wpList_store_row rfl 25 (.tmp 2) (.tmp 82) rfl w.heap.size (uc q1 q2 q3 z4 z5 z6 z7 z8) rfl rfl 25 _ eB.out bD rfl (Ypb _ _ _ _ _ _ _ _) ?_)
          refine bodyPost_ret (v := ?v82) ?hr82 ?hd82 ?_
          case hr82 => refine Yba (p := 2) (u := 3) (ty := 25) ?_ _ _ w.heap.size 25 (uc q1 q2 q3 z4 z5 z6 z7 z8) (0, 0) _ ?_ (setRow_heap _ _ _ _ _ _ eB.out) bQ rfl bD <;> rfl
          case hd82 => rfl
          exact ⟨rfl, below_setRow cM.out (Kw _) _⟩
        ·have d5 : decide (q9 = 0) = false := Ks cq
         have d6 : (q9 == 0) = false := beq_eq_false_iff_ne.2 cq
         have hq6 := HQ6.out
         rw [if_neg cq] at hq6
         simp only [Ytb, Kea] at hq6
         obtain ⟨rfl, rfl, rfl, rfl, rfl, rfl, rfl, rfl, rfl⟩ := hq6
         clear cq
         go_wp2_with ((with_reducible refine Yxa (t := 25) (p := 2) rfl ?_); refine wpList_store_row rfl 25 (.tmp 2) (.tmp 70) rfl w.heap.size (uc ⟨#[]⟩ ⟨#[]⟩ 0 ⟨#[]⟩ ⟨#[]⟩ ⟨#[]⟩ false false) rfl rfl 25 _ eB.out bD rfl (Ypb _ _ _ _ _ _ _ _) ?_)
         refine bodyPost_ret (v := ?v70) ?hr70 ?hd70 ?_
         case hr70 => refine Yba (p := 2) (u := 3) (ty := 25) ?_ _ _ w.heap.size 25 (uc ⟨#[]⟩ ⟨#[]⟩ 0 ⟨#[]⟩ ⟨#[]⟩ ⟨#[]⟩ false false) (0, 0) _ ?_ (setRow_heap _ _ _ _ _ _ eB.out) bQ rfl bD <;> rfl
         case hd70 => rfl
         exact ⟨rfl, below_setRow cM.out (Kw _) _⟩
      ·rw [hh] at HSL
       have cH := HQ4.out
       unfold refS at cH
       rw [hxd, List.headD_cons, if_neg (by rw [hh]; simp)] at cH
       simp only [Ytb, Kea] at cH
       obtain ⟨rfl, rfl, rfl, rfl, rfl, rfl, rfl, rfl, rfl⟩ := cH
       clear hxd hh HQ4
       go_wp2_with (first | (go_at_call 48; (with_reducible refine (Yab.calls (bt x2 0) _ _ ?z1 HSL.out).mono ?_); (case z1 => first | exact HE.out.below cM.out | exact EnvOk.heap (HE.out.below cM.out) rfl); rintro e w' ⟨rfl, ⟨nd, rfl⟩⟩; replace eQ := Ya.mk (Yi eQ.out nd); replace eB := Ya.mk (Yi eB.out nd); replace cM := Ya.mk (Yb cM.out nd); generalize w5.drewN nd = wq at eQ eB cM ⊢) | ((with_reducible refine Yxa (t := 25) (p := 2) rfl ?_); refine wpList_store_row rfl 25 (.tmp 2) (.tmp 48) rfl w.heap.size (uc ⟨#[]⟩ ⟨#[]⟩ 0 ⟨#[]⟩ ⟨#[]⟩ ⟨#[]⟩ false false) rfl rfl 25 _ eB.out bD rfl (Ypb _ _ _ _ _ _ _ _) ?_))
       refine bodyPost_ret (v := ?vy1) ?hry1 ?hdy1 ?_
       case hry1 => refine Yba (p := 2) (u := 3) (ty := 25) ?_ _ _ w.heap.size 25 (uc ⟨#[]⟩ ⟨#[]⟩ 0 ⟨#[]⟩ ⟨#[]⟩ ⟨#[]⟩ false false) (0, 0) _ ?_ (setRow_heap _ _ _ _ _ _ eB.out) bQ rfl bD <;> rfl
       case hdy1 => rfl
       exact ⟨rfl, below_setRow cM.out (Kw _) _⟩
end Go.Proofs.YtnmglnglbdpjjaaGreatDoor.X
