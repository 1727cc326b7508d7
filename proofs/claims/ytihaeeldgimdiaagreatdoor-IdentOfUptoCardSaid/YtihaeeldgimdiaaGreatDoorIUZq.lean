import Derived.Test.YtihaeeldgimdiaaGreatDoorIUZv
set_option linter.all false
namespace Go.Proofs.YtihaeeldgimdiaaGreatDoor.X
open Go.RowKit Go.Lib Go.Shelf Go.Yw.PrintWords Go.Yw.PrintLast Go.Yw.PrintMore
def Yeo : Bool × List (List Nat × List Nat) := (true, [([], []), ([], []), ([], []), ([1, 2], [1, 2]), ([0, 3], [0, 3]), ([4], [4]), ([5], [5]), ([5], [5]), ([6, 4, 0, 1, 2, 3, 4, 5, 6], [6]), ([7, 8, 0, 1, 2, 3, 4, 5, 6, 7, 8], [7])])
def Yss : List Nat := [0, 0, 0, 6, 15, 31, 63, 63, 127, 511]
theorem Yhq : rtab .any (opsOf Tryz.f20 16) = Yeo := by kernel_rfl
theorem Yqo : Yvg Yeo.2 Yss = true := by kernel_rfl
theorem hostL_le (m : List UInt8) : (Ywe m).1.length ≤ m.length := by
 have := Yuj _ m (Ks _)
 unfold Ywe
 split
 ·simp
 ·split
  ·rw [Yqg]; exact this
  ·simp
theorem placeQ_ok (sch : Y) (h : List UInt8) (q1 q2 : Y) (q3 q9 : Int) (hp : Ybi sch h = (q1, q2, q3, q9)) : q9 = 0 → q1 = sch ∧ q2.size ≤ h.length ∧ 0 ≤ q3 ∧ q3 ≤ 65535 := by
 intro h0
 have hh := hostL_le (h.takeWhile (Yza [58]))
 have ht := Yud (Yza [58]) h
 have hn := Yym 65535 Zj ((h.dropWhile (Yza [58])).drop 1)
 unfold Ybi at hp
 split at hp
 ·simp only [Kaa] at hp; omega
 ·split at hp
  ·split at hp
   ·simp only [Kaa] at hp
    obtain ⟨rfl, rfl, rfl, _⟩ := hp
    exact ⟨rfl, Zha, Zj, Zj⟩
   ·split at hp
    ·simp only [Kaa] at hp
     obtain ⟨rfl, rfl, rfl, _⟩ := hp
     refine ⟨rfl, Zha, ?_, ?_⟩ <;> split <;> omega
    ·simp only [Kaa] at hp; omega
  ·next hne => simp only [Kaa] at hp; exact absurd (hp.2.2.2.trans h0) hne
set_option maxHeartbeats 8000000 in
set_option maxRecDepth 100000 in
theorem Ycq (a0 r1 r2 : Y) (r3 : Int) (r4 r5 r6 : Y) (r7 r8 : Bool) (r9 : Int) (w : World) (hE : EnvOk w) (hs : a0.size ≤ 100000000) (hq : Ytg a0.data.toList = (r1, r2, r3, r4, r5, r6, r7, r8, r9)) :
  Calls Tryz.prog 20 #[.string a0] w fun e w' => e = .returned (.tuple #[.agg (uc r1 r2 r3 r4 r5 r6 r7 r8), .int .i64 r9]) ∧ Below w.heap.size w w' := by
 have HE := Ya.mk hE
 have cV := Tryz.underlying46
 have bJ : (Tryz.prog.info? 46).map (·.size) = some 8 := by kernel_rfl
 rw [Yds] at hq
 obtain ⟨kc, hkc⟩ := rclean_f a0 hs
 have hcl := Yqs a0.data.toList
 rw [← Lib.size_eq] at hcl
 obtain ⟨c, hc⟩ : ∃ c, c = Ywf a0.data.toList := ⟨_, rfl⟩
 rw [← hc] at hq hcl
 have HC := Ya.mk (show Yp.f kc a0 = some (ofL c) from by rw [hc]; exact hkc kc (Ks _))
 obtain ⟨ks, hks⟩ := rscheme_f (ofL c) Zha
 rw [Ytb] at hks
 obtain ⟨n, hn⟩ : ∃ n, n = Yle c := ⟨_, rfl⟩
 have HS := Ya.mk (show Yu.f ks (ofL c) = some ((n : Nat) : Int) from by rw [hn]; exact hks ks (Ks _))
 have hnl : n ≤ c.length := by
  rw [hn]; unfold Yle
  split
  ·next h =>
   have e := congrArg List.length (List.takeWhile_append_dropWhile (p := Yoc) (l := c))
   rw [List.length_append] at e
   cases hd : c.dropWhile Yoc with
   | nil => rw [hd] at h; simp at h
   | cons x y => rw [hd] at e; simp only [List.length_cons] at e; omega
  ·omega
 obtain ⟨cb, hcb⟩ : ∃ x, x = ofL c := ⟨_, rfl⟩
 have hcbs : cb.size = c.length := by rw [hcb, Yfa]
 have HCB := Ya.mk (show cb.data.toList = c from by rw [hcb]; rfl)
 rw [← hcb] at HC HS
 obtain ⟨ni, hni⟩ : ∃ x : Int, x = ((n : Nat) : Int) := ⟨_, rfl⟩
 rw [← hni] at HS
 have HNI := Ya.mk hni
 clear hni
 have cP : (if cb.size > 2048 then Yjc 5 else if n = 0 then Yjc 3 else if lowL (c.take (n - 1)) = Yxg ∨ lowL (c.take (n - 1)) = Ybg then refS (ofL (lowL (c.take (n - 1)))) (c.drop n) else Yjc 16) = (r1, r2, r3, r4, r5, r6, r7, r8, r9) := by
  rw [← hq, hn, hcbs]; unfold refP
  by_cases c1 : c.length > 2048
  ·rw [if_pos c1, if_pos (show (c.length : Int) > 2048 by omega)]
  ·rw [if_neg c1, if_neg (show ¬ (c.length : Int) > 2048 by omega)]
 have HQ := Ya.mk cP
 have HZ1 := Ya.mk (heap_alloc_new w (.cells urlZ 46))
 have hY := Ya.mk ((Below.refl w.heap.size w).alloc (Ks _) (.cells urlZ 46))
 have HNL := Ya.mk (show n ≤ cb.size by omega)
 clear hE hq hkc hks hc hcl hn hcb hcbs cP hnl hs
 go_enter Tryz.func20, Tryz.ntmps20
 go_wp2_with fail
 refine (Yp.calls kc _ _ _ (HE.out.below hY.out) HC.out).mono ?_
 rintro e w2 ⟨rfl, hb⟩
 have yZ := Ya.mk (Ycb HZ1.out hb)
 have fJ := Ya.mk (hY.out.trans (hb.mono hY.out.size))
 clear hb HZ1 hY
 go_wp2_with fail
 refine (Yu.calls ks _ _ _ (HE.out.below fJ.out) HS.out).mono ?_
 rintro e w3' ⟨rfl, ⟨nd3, rfl⟩⟩
 have zA := Ya.mk (Yba yZ.out nd3)
 have cZ := Ya.mk (Yb fJ.out nd3)
 obtain ⟨w3, hw⟩ : ∃ W, W = w2.drewN nd3 := ⟨_, rfl⟩
 rw [← hw] at zA cZ ⊢
 clear hw yZ fJ
 by_cases c1 : cb.size > 2048
 ·have d1 : decide ((2048 : Int) < (cb.size : Int)) = true := Kn Zj
  have cP := HQ.out
  rw [if_pos c1] at cP
  simp only [Yjc, Kaa] at cP
  obtain ⟨rfl, rfl, rfl, rfl, rfl, rfl, rfl, rfl, rfl⟩ := cP
  clear c1 HQ
  go_wp2_with ((with_reducible refine Ynb (t := 46) (p := 2) rfl ?_); refine wpList_store_row rfl 46 (.tmp 2) (.tmp 15) rfl w.heap.size (uc ⟨#[]⟩ ⟨#[]⟩ 0 ⟨#[]⟩ ⟨#[]⟩ ⟨#[]⟩ false false) rfl rfl 46 _ zA.out bJ rfl (Yqc _ _ _ _ _ _ _ _) ?_)
  refine bodyPost_ret (v := ?v15) ?hr15 ?hd15 ?_
  case hr15 => refine Yta (p := 2) (u := 3) (ty := 46) ?_ _ _ w.heap.size 46 (uc ⟨#[]⟩ ⟨#[]⟩ 0 ⟨#[]⟩ ⟨#[]⟩ ⟨#[]⟩ false false) (0, 0) _ ?_ (setRow_heap _ _ _ _ _ _ zA.out) cV rfl bJ <;> rfl
  case hd15 => rfl
  exact ⟨rfl, below_setRow cZ.out (Ks _) _⟩
 ·have d1 : decide ((2048 : Int) < (cb.size : Int)) = false := Ko Zj
  have cP := HQ.out
  rw [if_neg c1] at cP
  have uB := Ya.mk cP
  clear cP HQ
  by_cases c2 : n = 0
  ·subst c2
   obtain rfl : ni = 0 := HNI.out
   have cP := uB.out
   rw [if_pos rfl] at cP
   simp only [Yjc, Kaa] at cP
   obtain ⟨rfl, rfl, rfl, rfl, rfl, rfl, rfl, rfl, rfl⟩ := cP
   clear c1 uB
   go_wp2_with ((with_reducible refine Ynb (t := 46) (p := 2) rfl ?_); refine wpList_store_row rfl 46 (.tmp 2) (.tmp 19) rfl w.heap.size (uc ⟨#[]⟩ ⟨#[]⟩ 0 ⟨#[]⟩ ⟨#[]⟩ ⟨#[]⟩ false false) rfl rfl 46 _ zA.out bJ rfl (Yqc _ _ _ _ _ _ _ _) ?_)
   refine bodyPost_ret (v := ?v19) ?hr19 ?hd19 ?_
   case hr19 => refine Yta (p := 2) (u := 3) (ty := 46) ?_ _ _ w.heap.size 46 (uc ⟨#[]⟩ ⟨#[]⟩ 0 ⟨#[]⟩ ⟨#[]⟩ ⟨#[]⟩ false false) (0, 0) _ ?_ (setRow_heap _ _ _ _ _ _ zA.out) cV rfl bJ <;> rfl
   case hd19 => rfl
   exact ⟨rfl, below_setRow cZ.out (Ks _) _⟩
  ·obtain ⟨m, rfl⟩ : ∃ m, n = m + 1 := ⟨n - 1, Zj⟩
   have hni := HNI.out
   obtain ⟨mi, hmi⟩ : ∃ x : Int, x = ((m : Nat) : Int) := ⟨_, rfl⟩
   have d2 : (ni == 0) = false := beq_eq_false_iff_ne.2 Zj
   have d3 : decide (ni = 0) = false := Ko Zj
   have hms : m + 1 ≤ cb.size := HNL.out
   have iN : wrap64 (ni - 1) = mi := by unfold wrap64; omega
   have b0 : 0 ≤ mi := by omega
   have b1 : mi ≤ (cb.size : Int) := by omega
   have b2 : 0 ≤ ni := by omega
   have b3 : ni ≤ (cb.size : Int) := by omega
   have hmt : mi.toNat = m := by omega
   have hnt : ni.toNat = m + 1 := by omega
   have cP := uB.out
   rw [if_neg Zj, Nat.add_sub_cancel] at cP
   obtain ⟨sch, hsch⟩ : ∃ x, x = ofL (lowL (c.take m)) := ⟨_, rfl⟩
   obtain ⟨kl, hkl⟩ := Yiq (cb.extract 0 mi.toNat) Zoa
   have HL := Ya.mk (show Yda.f kl (cb.extract 0 mi.toNat) = some sch from by
    have h9 : Yda.f kl (cb.extract 0 mi.toNat) = _ := hkl kl (Ks _)
    rw [h9, hmt, Yxe, Ytb, HCB.out, hsch])
   have hsd : sch.data.toList = lowL (c.take m) := by rw [hsch]; rfl
   rw [← hsd, Ynj] at cP
   obtain ⟨x2, wP⟩ : ∃ x, x = cb.extract ni.toNat cb.size := ⟨_, rfl⟩
   have hx2d : x2.data.toList = c.drop (m + 1) := by rw [wP, hnt, Ytc, HCB.out]; rfl
   have hx2s : x2.size ≤ 2048 := by rw [wP, ByteArray.size_extract]; omega
   have hxe := wP.symm
   rw [← hx2d] at cP
   have HQ3 := Ya.mk cP
   have HX2S := Ya.mk hx2s
   clear cP uB hkl hsch hsd wP hx2d hx2s c2 c1 hmt hnt hni hmi hms
   go_wp2_with fail
   refine (Yda.calls kl _ _ _ (HE.out.below cZ.out) HL.out).mono ?_
   rintro e w4 ⟨rfl, hb⟩
   have zB := Ya.mk (Ycb zA.out hb)
   have cU := Ya.mk (cZ.out.trans (hb.mono cZ.out.size))
   clear hb zA cZ
   have HZ5 := Ya.mk (heap_alloc_new w4 (.cells urlZ 46))
   have HBZ := Ya.mk (cU.out.alloc cU.out.size (.cells urlZ 46))
   have BZ4a := Ya.mk (Yja zB.out (.cells urlZ 46))
   have HGl := Ya.mk (show w.heap.size < w4.heap.size from (Array.getElem?_eq_some_iff.1 zB.out).1)
   have hkinds : (lowL (c.take m) = lowL (c.take m)) := rfl
   have harm : ∀ (_ : Unit), True := fun _ => trivial
   clear harm hkinds
   have hks : ((sch.toList != ([104, 116, 116, 112] : List UInt8)) = false ∧ (sch.toList == ([104, 116, 116, 112] : List UInt8)) = true ∧ Ya (sch.data.toList = Yxg ∨ sch.data.toList = Ybg)) ∨ ((sch.toList != ([104, 116, 116, 112] : List UInt8)) = true ∧ (sch.toList == ([104, 116, 116, 112] : List UInt8)) = false ∧ (sch.toList != ([104, 116, 116, 112, 115] : List UInt8)) = false ∧ (sch.toList == ([104, 116, 116, 112, 115] : List UInt8)) = true ∧ Ya (sch.data.toList = Yxg ∨ sch.data.toList = Ybg)) ∨ ((sch.toList != ([104, 116, 116, 112] : List UInt8)) = true ∧ (sch.toList == ([104, 116, 116, 112] : List UInt8)) = false ∧ (sch.toList != ([104, 116, 116, 112, 115] : List UInt8)) = true ∧ (sch.toList == ([104, 116, 116, 112, 115] : List UInt8)) = false ∧ Ya (¬ (sch.data.toList = Yxg ∨ sch.data.toList = Ybg))) := by
    rw [Lib.toList_data]
    by_cases e : sch.data.toList = Yxg
    ·rw [e]; exact .inl ⟨rfl, rfl, ⟨.inl rfl⟩⟩
    ·by_cases e2 : sch.data.toList = Ybg
     ·rw [e2]; exact .inr (.inl ⟨rfl, rfl, rfl, rfl, ⟨.inr rfl⟩⟩)
     ·exact .inr (.inr ⟨by rw [bne_iff_ne]; exact e, by rw [beq_eq_false_iff_ne]; exact e, by rw [bne_iff_ne]; exact e2, by rw [beq_eq_false_iff_ne]; exact e2, ⟨fun x => x.elim e e2⟩⟩)
   go_upto_region 9 with (first | ((with_reducible refine Ynb (t := 46) (p := 5) rfl ?_); refine wpList_store_row rfl 46 (.tmp 5) (.tmp 25) rfl w4.heap.size (uc sch ⟨#[]⟩ 0 ⟨#[]⟩ ⟨#[]⟩ ⟨#[]⟩ false false) rfl rfl 46 _ HZ5.out bJ rfl (Yqc _ _ _ _ _ _ _ _) ?_; have eC := Ya.mk (setRow_heap _ _ _ (uc sch ⟨#[]⟩ 0 ⟨#[]⟩ ⟨#[]⟩ ⟨#[]⟩ false false) _ _ HZ5.out); have dV := Ya.mk ((setRow_other (w4.alloc (.cells urlZ 46)) w4.heap.size w.heap.size (uc sch ⟨#[]⟩ 0 ⟨#[]⟩ ⟨#[]⟩ ⟨#[]⟩ false false) (Nat.ne_of_lt HGl.out)).trans BZ4a.out); have cH := Ya.mk (below_setRow HBZ.out (Nat.le_of_lt HGl.out) (uc sch ⟨#[]⟩ 0 ⟨#[]⟩ ⟨#[]⟩ ⟨#[]⟩ false false)); generalize (w4.alloc (.cells urlZ 46)).setRow w4.heap.size (uc sch ⟨#[]⟩ 0 ⟨#[]⟩ ⟨#[]⟩ ⟨#[]⟩ false false) = w5 at eC dV cH ⊢; obtain ⟨eE, _⟩ := Ylc eC.out))
   (try simp only [Act.put, Ky])
   obtain ⟨g, hg⟩ : ∃ n, n = w4.heap.size := ⟨_, rfl⟩
   rw [← hg] at eC HGl ⊢
   have HGne := Ya.mk (show w.heap.size ≠ g from Nat.ne_of_lt HGl.out)
   have HGle := Ya.mk (show w.heap.size ≤ g from Nat.le_of_lt HGl.out)
   clear hg HZ5 HBZ BZ4a cU zB hxe
   go_cut [29] (fun v29 wx => ∃ (kd : Bool), v29 = .bool kd ∧ w5 = wx ∧ Ya (kd = false → (sch.data.toList = Yxg ∨ sch.data.toList = Ybg)) ∧ Ya (kd = true → ¬ (sch.data.toList = Yxg ∨ sch.data.toList = Ybg)))
   case first =>
    obtain ⟨eE, _⟩ := Ylc eC.out
    rcases hks with ⟨s1, s2, HKK⟩ | ⟨s1, s2, s3, s4, HKK⟩ | ⟨s1, s2, s3, s4, HKK⟩
    ·go_wp2_with fail
     go_meet
     case rel => exact ⟨false, rfl, rfl, ⟨fun _ => HKK.out⟩, ⟨fun h => by cases h⟩⟩
    ·go_wp2_with fail
     go_meet
     case rel => exact ⟨false, rfl, rfl, ⟨fun _ => HKK.out⟩, ⟨fun h => by cases h⟩⟩
    ·go_wp2_with fail
     go_meet
     case rel => exact ⟨true, rfl, rfl, ⟨fun h => by cases h⟩, ⟨fun _ => HKK.out⟩⟩
   case rest =>
    obtain ⟨kd, rfl, rfl, HKf, HKt⟩ := hcut
    clear hks
    cases kd with
    | true =>
     have cP := HQ3.out
     rw [if_neg (HKt.out rfl)] at cP
     simp only [Yjc, Kaa] at cP
     obtain ⟨rfl, rfl, rfl, rfl, rfl, rfl, rfl, rfl, rfl⟩ := cP
     clear HQ3 HKf HKt
     go_wp2_with ((with_reducible refine Ynb (t := 46) (p := 2) rfl ?_); refine wpList_store_row rfl 46 (.tmp 2) (.tmp 38) rfl w.heap.size (uc ⟨#[]⟩ ⟨#[]⟩ 0 ⟨#[]⟩ ⟨#[]⟩ ⟨#[]⟩ false false) rfl rfl 46 _ dV.out bJ rfl (Yqc _ _ _ _ _ _ _ _) ?_)
     refine bodyPost_ret (v := ?v38) ?hr38 ?hd38 ?_
     case hr38 => refine Yta (p := 2) (u := 3) (ty := 46) ?_ _ _ w.heap.size 46 (uc ⟨#[]⟩ ⟨#[]⟩ 0 ⟨#[]⟩ ⟨#[]⟩ ⟨#[]⟩ false false) (0, 0) _ ?_ (setRow_heap _ _ _ _ _ _ dV.out) cV rfl bJ <;> rfl
     case hd38 => rfl
     exact ⟨rfl, below_setRow cH.out (Ks _) _⟩
    | false =>
     have HK := Ya.mk (HKf.out rfl)
     have cP := HQ3.out
     rw [if_pos HK.out] at cP
     have HQ4 := Ya.mk cP
     clear cP HQ3 HKf HKt
     have hHS : Ypc (x2.data.toList.headD 0) = true ∨ Ypc (x2.data.toList.headD 0) = false := by cases Ypc (x2.data.toList.headD 0) <;> simp
     cases hxd : x2.data.toList with
     | nil =>
      have cP := HQ4.out
      rw [hxd] at cP
      simp only [refS, List.headD_nil, show Ypc 0 = false from rfl, Bool.false_eq_true, if_false, Yjc, Kaa] at cP
      obtain ⟨rfl, rfl, rfl, rfl, rfl, rfl, rfl, rfl, rfl⟩ := cP
      have e1 : (x2.toList == ([] : List UInt8)) = true := by rw [Lib.toList_data, hxd]; rfl
      have e2 : (x2.toList != ([] : List UInt8)) = false := by rw [Lib.toList_data, hxd]; rfl
      clear hxd HQ4 hHS
      go_wp2_with ((with_reducible refine Ynb (t := 46) (p := 2) rfl ?_); refine wpList_store_row rfl 46 (.tmp 2) (.tmp 48) rfl w.heap.size (uc ⟨#[]⟩ ⟨#[]⟩ 0 ⟨#[]⟩ ⟨#[]⟩ ⟨#[]⟩ false false) rfl rfl 46 _ dV.out bJ rfl (Yqc _ _ _ _ _ _ _ _) ?_)
      refine bodyPost_ret (v := ?v48n) ?hr48n ?hd48n ?_
      case hr48n => refine Yta (p := 2) (u := 3) (ty := 46) ?_ _ _ w.heap.size 46 (uc ⟨#[]⟩ ⟨#[]⟩ 0 ⟨#[]⟩ ⟨#[]⟩ ⟨#[]⟩ false false) (0, 0) _ ?_ (setRow_heap _ _ _ _ _ _ dV.out) cV rfl bJ <;> rfl
      case hd48n => rfl
      exact ⟨rfl, below_setRow cH.out (Ks _) _⟩
     | cons b0 bt0 =>
      have hbt : bt x2 0 = (b0.toNat : Int) := (Yyc x2 0 b0 bt0 hxd).2.1
      have hps : 0 < x2.size := by rw [Lib.size_eq, hxd]; simp
      have e1 : (x2.toList == ([] : List UInt8)) = false := by rw [Lib.toList_data, hxd]; rfl
      have e2 : (x2.toList != ([] : List UInt8)) = true := by rw [Lib.toList_data, hxd]; rfl
      have kA : ∀ h : 0 < x2.size, ((x2[0]'h).toNat : Int) = bt x2 0 := Ypa x2 0
      have q4 := Kp hps
      have uF : (0 < (x2.size : Int)) = True := Kp Zj
      have HSL := Ya.mk (show Ywa.f (bt x2 0) = some (Ypc b0) from by rw [hbt]; exact Yai b0)
      clear hbt hps
      rw [hxd, List.headD_cons] at hHS
      rcases hHS with hh | hh
      ·rw [hh] at HSL
       have HXD := Ya.mk hxd
       have HQ5 := Ya.mk (show refL sch (x2.data.toList.dropWhile Ypc) = (r1, r2, r3, r4, r5, r6, r7, r8, r9) from by
        have := HQ4.out
        unfold refS at this
        rw [hxd, List.headD_cons, if_pos hh] at this
        rw [hxd]; exact this)
       clear hxd hh HQ4
       go_upto_block 2 with (first | (go_at_call 34; (with_reducible refine (Ywa.calls (bt x2 0) _ _ ?z1 HSL.out).mono ?_); (case z1 => first | exact HE.out.below cH.out | exact EnvOk.heap (HE.out.below cH.out) rfl); rintro e w' ⟨rfl, ⟨nd, rfl⟩⟩; replace eC := Ya.mk (Yba eC.out nd); replace dV := Ya.mk (Yba dV.out nd); replace cH := Ya.mk (Yb cH.out nd); generalize w5.drewN nd = wq at eC dV cH ⊢))
       (try simp only [Act.put, Ky])
       clear kA q4 uF e1 e2
       obtain ⟨L0, hL0⟩ : ∃ l, l = x2.data.toList.dropWhile Ypc := ⟨_, rfl⟩
       rw [← hL0] at HQ5
       have HL0 := Ya.mk hL0
       obtain ⟨N0, hN0⟩ : ∃ N0, N0 = x2.data.toList.length := ⟨_, rfl⟩
       have hN0b : N0 ≤ 2048 := by rw [hN0, ← Lib.size_eq]; exact HX2S.out
       have hx2o : x2 = ofL x2.data.toList := (Ynj x2).symm
       have HX2O := Ya.mk hx2o
       have HN0 := Ya.mk hN0
       clear hL0 hN0 hx2o
       go_cut [0] (fun v0 wx => ∃ x3 : Y, v0 = .string x3 ∧ Ya (x3.data.toList = L0) ∧ Ya (wx.heap[g]? = some (.cells (uc sch ⟨#[]⟩ 0 ⟨#[]⟩ ⟨#[]⟩ ⟨#[]⟩ false false) 46 (0, 0))) ∧ Ya (wx.heap[w.heap.size]? = some (.cells urlZ 46 (0, 0))) ∧ Ya (Below w.heap.size w wx))
       case first =>
        go_wp2_with fail
        go_loopg [0] N0 (fun gk v0 wx => ∃ l : List UInt8, v0 = .string (ofL l) ∧ l.length ≤ gk ∧ Ya (l.dropWhile Ypc = L0) ∧ Ya (wx.heap[g]? = some (.cells (uc sch ⟨#[]⟩ 0 ⟨#[]⟩ ⟨#[]⟩ ⟨#[]⟩ false false) 46 (0, 0))) ∧ Ya (wx.heap[w.heap.size]? = some (.cells urlZ 46 (0, 0))) ∧ Ya (Below w.heap.size w wx))
        case atStart => exact ⟨x2.data.toList, by rw [← HX2O.out], by have := HN0.out; omega, ⟨HL0.out.symm⟩, eC, dV, cH⟩
        case round =>
         clear eC dV cH
         obtain ⟨l, rfl, hll, HDL, BGx, BZx, HBx⟩ := hrel
         obtain ⟨x3, hx3⟩ : ∃ x, x = ofL l := ⟨_, rfl⟩
         have rA := Ya.mk (show x3.data.toList = l from by rw [hx3]; rfl)
         rw [← hx3]
         clear hx3
         have hstop : l = [] ∨ (∃ b t, l = b :: t ∧ Ypc b = false) ∨ (∃ b t, l = b :: t ∧ Ypc b = true) := by
          cases l with
          | nil => exact .inl rfl
          | cons b t => cases h : Ypc b with
           | true => exact .inr (.inr ⟨b, t, rfl, h⟩)
           | false => exact .inr (.inl ⟨b, t, rfl, h⟩)
         rcases hstop with rfl | ⟨b, t9, rfl, hb9⟩ | ⟨b, t9, rfl, hb9⟩
         ·have f1 : (x3.toList != ([] : List UInt8)) = false := by rw [Lib.toList_data, rA.out]; rfl
          have f2 : (x3.toList == ([] : List UInt8)) = true := by rw [Lib.toList_data, rA.out]; rfl
          go_wp2_with fail
          go_meet
          case rel => exact ⟨x3, rfl, ⟨by rw [rA.out, ← HDL.out]; rfl⟩, BGx, BZx, HBx⟩
         ·have hbt : bt x3 0 = (b.toNat : Int) := (Yyc x3 0 b t9 rA.out).2.1
          have hps : 0 < x3.size := by rw [Lib.size_eq, rA.out]; simp
          have f1 : (x3.toList != ([] : List UInt8)) = true := by rw [Lib.toList_data, rA.out]; rfl
          have f2 : (x3.toList == ([] : List UInt8)) = false := by rw [Lib.toList_data, rA.out]; rfl
          have kA : ∀ h : 0 < x3.size, ((x3[0]'h).toNat : Int) = bt x3 0 := Ypa x3 0
          have q4 := Kp hps
          have uF : (0 < (x3.size : Int)) = True := Kp Zj
          have aHu := Ya.mk (show Ywa.f (bt x3 0) = some false from by rw [hbt, ← hb9]; exact Yai b)
          have HL9 := Ya.mk (show b :: t9 = L0 from by rw [← HDL.out, List.dropWhile_cons_of_neg (by rw [hb9]; simp)])
          clear hbt hps hb9 HDL
          go_wp2_with (first | (go_at_call 34; (with_reducible refine (Ywa.calls (bt x3 0) _ _ ?z1 aHu.out).mono ?_); (case z1 => first | exact HE.out.below HBx.out | exact EnvOk.heap (HE.out.below HBx.out) rfl); rintro e w' ⟨rfl, ⟨nd9, rfl⟩⟩))
          go_meet
          case rel => exact ⟨x3, rfl, ⟨by rw [rA.out, HL9.out]⟩, ⟨Yba BGx.out _⟩, ⟨Yba BZx.out _⟩, ⟨Yb HBx.out _⟩⟩
         ·have hbt : bt x3 0 = (b.toNat : Int) := (Yyc x3 0 b t9 rA.out).2.1
          have hps : 0 < x3.size := by rw [Lib.size_eq, rA.out]; simp
          have f1 : (x3.toList != ([] : List UInt8)) = true := by rw [Lib.toList_data, rA.out]; rfl
          have f2 : (x3.toList == ([] : List UInt8)) = false := by rw [Lib.toList_data, rA.out]; rfl
          have kA : ∀ h : 0 < x3.size, ((x3[0]'h).toNat : Int) = bt x3 0 := Ypa x3 0
          have q4 := Kp hps
          have uF : (0 < (x3.size : Int)) = True := Kp Zj
          have b9 : (1 : Int) ≤ (x3.size : Int) := by omega
          have aHu := Ya.mk (show Ywa.f (bt x3 0) = some true from by rw [hbt, ← hb9]; exact Yai b)
          have HNX := Ya.mk (show x3.extract 1 x3.size = ofL t9 from by rw [Ytc, rA.out]; rfl)
          have aYH := Ya.mk (show t9.dropWhile Ypc = L0 from by rw [← HDL.out, List.dropWhile_cons_of_pos hb9])
          cases gk with
          | zero => simp only [List.length_cons] at hll; omega
          | succ g2 =>
           simp only [List.length_cons] at hll
           clear hbt hps hb9 HDL
           go_wp2_with (first | (go_at_call 34; (with_reducible refine (Ywa.calls (bt x3 0) _ _ ?z1 aHu.out).mono ?_); (case z1 => first | exact HE.out.below HBx.out | exact EnvOk.heap (HE.out.below HBx.out) rfl); rintro e w' ⟨rfl, ⟨nd9, rfl⟩⟩))
           go_roundg g2
           case measure => omega
           case rel => exact ⟨t9, by rw [HNX.out], Zj, aYH, ⟨Yba BGx.out _⟩, ⟨Yba BZx.out _⟩, ⟨Yb HBx.out _⟩⟩
       case rest =>
        clear eC dV cH
        obtain ⟨x3, rfl, HX3L, eC, dV, cH⟩ := hcut
        obtain ⟨wl, hwl⟩ : ∃ W, W = wc := ⟨_, rfl⟩
        rw [← hwl] at eC dV cH ⊢
        clear hwl
        go_wp2_with fail
        have hxl : x3.size ≤ 2048 := by
         rw [Lib.size_eq, HX3L.out, HL0.out]
         have := Yne Ypc x2.data.toList
         have := HX2S.out
         rw [Lib.size_eq] at this; omega
        have hq5 : refL sch x3.data.toList = (r1, r2, r3, r4, r5, r6, r7, r8, r9) := by rw [HX3L.out]; exact HQ5.out
        obtain ⟨t, ht⟩ : ∃ t : Int, t = (((x3.data.toList.takeWhile (Yza [47, 92, 63, 35])).length : Nat) : Int) := ⟨_, rfl⟩
        obtain ⟨ku, hku⟩ := Yvl x3 ⟨#[47, 92, 63, 35]⟩ Zj Zw
        have HU := Ya.mk (show Yia.f ku x3 ⟨#[47, 92, 63, 35]⟩ = some t from by rw [ht]; exact hku ku (Ks _))
        have htl := Yud (Yza [47, 92, 63, 35]) x3.data.toList
        rw [← Lib.size_eq] at htl
        have t0 : 0 ≤ t := by omega
        have t1 : t ≤ (x3.size : Int) := by omega
        have tb1 : decide (0 ≤ t) = true := Kn t0
        have tc1 : decide (t ≤ (x3.size : Int)) = true := Kn t1
        have tb0 := Kp t0
        have tc0 := Kp t1
        have hxh : x3.extract 0 (t : Int).toNat = ofL (x3.data.toList.takeWhile (Yza [47, 92, 63, 35])) := by
         rw [ht, Int.toNat_natCast, Yxe]
         congr 1
         have := List.take_left (l₁ := x3.data.toList.takeWhile (Yza [47, 92, 63, 35])) (l₂ := x3.data.toList.dropWhile (Yza [47, 92, 63, 35]))
         rw [List.takeWhile_append_dropWhile] at this; exact this
        have hxr : x3.extract (t : Int).toNat x3.size = ofL (x3.data.toList.dropWhile (Yza [47, 92, 63, 35])) := by
         rw [ht, Int.toNat_natCast, Ytc]
         congr 1
         have := List.drop_left (l₁ := x3.data.toList.takeWhile (Yza [47, 92, 63, 35])) (l₂ := x3.data.toList.dropWhile (Yza [47, 92, 63, 35]))
         rw [List.takeWhile_append_dropWhile] at this; exact this
        obtain ⟨q1, q2, q3, q9, hpq⟩ : ∃ a b c d, Ybi sch (x3.data.toList.takeWhile (Yza [47, 92, 63, 35])) = (a, b, c, d) := ⟨_, _, _, _, rfl⟩
        have HPQ := Ya.mk (show Ybi sch (x3.extract 0 (t : Int).toNat).data.toList = (q1, q2, q3, q9) from by rw [hxh, Ytb]; exact hpq)
        have HPS := Ya.mk (show (x3.extract 0 (t : Int).toNat).size ≤ 30000000 from by rw [ByteArray.size_extract]; omega)
        have HPSc := HK
        unfold refL at hq5
        rw [hpq] at hq5
        simp only at hq5
        have HQ6 := Ya.mk hq5
        have HPK := Ya.mk (placeQ_ok sch (x3.data.toList.takeWhile (Yza [47, 92, 63, 35])) q1 q2 q3 q9 hpq)
        have HXR := Ya.mk hxr
        have HXL := Ya.mk hxl
        have HTLn := Ya.mk htl
        have HKk := Ya.mk (show sch.size ≤ 5 from by
         rw [Lib.size_eq]
         rcases HK.out with e | e <;> (rw [e]; decide))
        obtain ⟨rest, hrest⟩ : ∃ r, r = x3.data.toList.dropWhile (Yza [47, 92, 63, 35]) := ⟨_, rfl⟩
        have HRL := Ya.mk (show rest.length ≤ 2048 from by rw [hrest]; have := Yne (Yza [47, 92, 63, 35]) x3.data.toList; rw [← Lib.size_eq] at this; omega)
        rw [← hrest] at HQ6 HXR
        clear hq5 hku hxh hxr hpq hxl htl ht t0 t1 hrest
        refine (Yia.calls ku _ _ _ _ (HE.out.below cH.out) HU.out).mono ?_
        rintro e wc' ⟨rfl, ⟨ndc, rfl⟩⟩
        replace eC := Ya.mk (Yba eC.out ndc)
        replace dV := Ya.mk (Yba dV.out ndc)
        replace cH := Ya.mk (Yb cH.out ndc)
        generalize wl.drewN ndc = wc at eC dV cH ⊢
        go_wp2_with fail
        refine Ydh (n := 10) (S := fun w' => w'.cell? ⟨g, 0, none⟩ = some (.string sch) ∧ w'.cell? ⟨g, 1, none⟩ = some (.string (⟨#[]⟩ : Y)) ∧ w'.cell? ⟨g, 2, none⟩ = some (.int .i64 0) ∧ w'.cell? ⟨g, 3, none⟩ = some (.string (⟨#[]⟩ : Y)) ∧ w'.cell? ⟨g, 4, none⟩ = some (.string (⟨#[]⟩ : Y)) ∧ w'.cell? ⟨g, 5, none⟩ = some (.string (⟨#[]⟩ : Y)) ∧ w'.cell? ⟨g, 6, none⟩ = some (.bool false) ∧ w'.cell? ⟨g, 7, none⟩ = some (.bool false)) (ds := [8]) #[false, false, false, false, false, false, false, false, false, false] Zi rfl rfl (Ylc (Yma eC.out)) (fun hHeld => ?_); refine Yzg Yhq Yqo (fun HT_ HW_ => ?_)
        replace eC := Ya.mk (Yma eC.out)
        replace dV := Ya.mk (Yma dV.out)
        replace cH := Ya.mk (Yc cH.out)
        generalize wc.drew = w57 at eC dV cH hHeld ⊢
        refine Yjb (i := 1) (N := some 62) (v := ?_) (a' := ?_) #[false, true, false, false, false, false, false, false, false, false] rfl rfl (Yfb HT_.out Zi) (fun _ _ _ h => h) (Or.inl ⟨Zda, ?_⟩) ?_ ?_
        rotate_left
        ·exact Zsb
        rotate_left
        ·exact Ztb
        refine Yjb (i := 2) (N := some 63) (v := ?_) (a' := ?_) #[false, true, true, false, false, false, false, false, false, false] rfl rfl (Yfb HT_.out Zi) (fun _ _ _ h => h) (Or.inl ⟨Zda, ?_⟩) ?_ ?_
        rotate_left
        ·exact Zsb
        rotate_left
        ·exact Ztb
        refine Yjb (i := 3) (N := some 64) (v := ?_) (a' := ?_) #[false, true, true, true, false, false, false, false, false, false] rfl rfl (Yfb HT_.out Zi) (fun _ _ _ h => h) (Or.inl ⟨Zda, ?_⟩) ?_ ?_
        rotate_left
        ·exact Zsb
        rotate_left
        ·exact Ztb
        refine Yxf (i := 0) (N := some 61) (v := ?_) (a' := ?_) #[true, true, true, true, false, false, false, false, false, false] rfl rfl (Yif HT_.out HW_.out Zi) (fun _ _ _ h => h) (Or.inl ⟨Zda, ?_⟩) hHeld ?_ ?_
        rotate_left
        ·exact Zvb
        rotate_left
        ·exact Ztb
        refine one_ (i := 4) (N := some 65) #[true, true, true, true, true, false, false, false, false, false] rfl rfl (Yhg HT_.out Zi) Zw (fun K hK => ?_)
        refine Ydi Tryz.func36 Zi rfl #[.agg #[.string sch, .string (⟨#[]⟩ : Y), .int .i64 0, .string (⟨#[]⟩ : Y), .string (⟨#[]⟩ : Y), .string (⟨#[]⟩ : Y), .bool false, .bool false], .string (x3.extract 0 (t : Int).toNat)] Zda rfl rfl Zb ?_
        refine (Yzp sch (x3.extract 0 (t : Int).toNat) q1 q2 q3 q9 _ (HE.out.below cH.out) HPS.out HPSc.out HPQ.out).mono ?_
        rintro e w58 ⟨rfl, hb⟩
        refine ⟨_, rfl, ?_⟩
        replace eC := Ya.mk (Ycb eC.out hb)
        replace dV := Ya.mk (Ycb dV.out hb)
        replace cH := Ya.mk (cH.out.trans (hb.mono cH.out.size))
        clear hb
        refine hK.out _ _ (Ylc eC.out) (fun hHeld => ?_)
        clear hK K
        refine Yth (a' := ?_) ?_ ?_
        rotate_left
        ·show Act.put _ (some 65) _ = _
         simp only [Act.put, Ky, Yha, Yka]
         rfl
        refine Yjb (i := 5) (N := some 60) (v := ?_) (a' := ?_) #[true, true, true, true, true, true, false, false, false, false] rfl rfl (Yfb HT_.out Zi) (fun _ _ _ h => h) (Or.inl ⟨Zda, ?_⟩) ?_ ?_
        rotate_left
        ·exact Zsb
        rotate_left
        ·exact Ztb
        refine Yjb (i := 6) (N := some 66) (v := ?_) (a' := ?_) #[true, true, true, true, true, true, true, false, false, false] rfl rfl (Yfb HT_.out Zi) (fun _ _ _ h => h) (Or.inl ⟨Zda, ?_⟩) ?_ ?_
        rotate_left
        ·exact Zsb
        rotate_left
        ·exact Ztb
        refine Yjb (i := 7) (N := some 67) (v := ?_) (a' := ?_) #[true, true, true, true, true, true, true, true, false, false] rfl rfl (Yfb HT_.out Zi) (fun _ _ _ h => h) (Or.inl ⟨Zda, ?_⟩) ?_ ?_
        rotate_left
        ·exact Zsb
        rotate_left
        ·exact Ztb
        refine Ynp (i := 8) (N := none) #[true, true, true, true, true, true, true, true, true, false] rfl rfl (Yhg HT_.out Zi) Zw (fun K hK => ?_)
        obtain ⟨uG, yM, uD, hs3, hs4, hs5, hs6, hs7⟩ := Ylc eC.out
        obtain ⟨aHv, aHw, aHx, aHy, aHz, aHA, aHB, aHC⟩ := Ke eC.out
        refine Ygp (w1 := ?_) Zda rfl ?_ ?_
        rotate_left
        ·go_simp
         rfl
        refine hK.out _ _ ?_
        clear hK K uG yM uD hs3 hs4 hs5 hs6 hs7 aHv aHw aHx aHy aHz aHA aHB aHC
        refine Yjb (i := 9) (N := some 6) (v := ?_) (a' := ?_) #[true, true, true, true, true, true, true, true, true, true] rfl rfl (Yfb HT_.out Zi) (fun _ _ _ h => h) (Or.inl ⟨Zda, ?_⟩) ?_ ?_
        rotate_left
        ·exact Zsb
        rotate_left
        ·exact Ztb
        refine Yoi (Yti HT_.out Zi) ?_
        replace eC := Ya.mk (Yeb (cs' := #[.string q1, .string q2, .int .i64 q3, .string ⟨#[]⟩, .string ⟨#[]⟩, .string ⟨#[]⟩, .bool false, .bool false]) (Yeb (cs' := #[.string q1, .string q2, .int .i64 q3, .string ⟨#[]⟩, .string ⟨#[]⟩, .string ⟨#[]⟩, .bool false, .bool false]) (Yeb (cs' := #[.string q1, .string q2, .int .i64 q3, .string ⟨#[]⟩, .string ⟨#[]⟩, .string ⟨#[]⟩, .bool false, .bool false]) (Yeb (cs' := #[.string q1, .string q2, .int .i64 q3, .string ⟨#[]⟩, .string ⟨#[]⟩, .string ⟨#[]⟩, .bool false, .bool false]) (Yeb (cs' := #[.string q1, .string q2, .int .i64 q3, .string ⟨#[]⟩, .string ⟨#[]⟩, .string ⟨#[]⟩, .bool false, .bool false]) (Yeb (cs' := #[.string q1, .string q2, .int .i64 q3, .string ⟨#[]⟩, .string ⟨#[]⟩, .string ⟨#[]⟩, .bool false, .bool false]) (Yeb (cs' := #[.string q1, .string q2, .int .i64 0, .string ⟨#[]⟩, .string ⟨#[]⟩, .string ⟨#[]⟩, .bool false, .bool false]) (Yeb (cs' := #[.string q1, .string ⟨#[]⟩, .int .i64 0, .string ⟨#[]⟩, .string ⟨#[]⟩, .string ⟨#[]⟩, .bool false, .bool false]) eC.out 0 (.string q1) rfl) 1 (.string q2) rfl) 2 (.int .i64 q3) rfl) 3 (.string ⟨#[]⟩) rfl) 4 (.string ⟨#[]⟩) rfl) 5 (.string ⟨#[]⟩) rfl) 6 (.bool false) rfl) 7 (.bool false) rfl)
        replace dV := Ya.mk (Ync (Ync (Ync (Ync (Ync (Ync (Ync (Ync dV.out (p := ⟨g, 0, none⟩) HGne.out (.string q1)) (p := ⟨g, 1, none⟩) HGne.out (.string q2)) (p := ⟨g, 2, none⟩) HGne.out (.int .i64 q3)) (p := ⟨g, 3, none⟩) HGne.out (.string ⟨#[]⟩)) (p := ⟨g, 4, none⟩) HGne.out (.string ⟨#[]⟩)) (p := ⟨g, 5, none⟩) HGne.out (.string ⟨#[]⟩)) (p := ⟨g, 6, none⟩) HGne.out (.bool false)) (p := ⟨g, 7, none⟩) HGne.out (.bool false))
        replace cH := Ya.mk (Yg (j := 7) (v := .bool false) (Yg (j := 6) (v := .bool false) (Yg (j := 5) (v := .string ⟨#[]⟩) (Yg (j := 4) (v := .string ⟨#[]⟩) (Yg (j := 3) (v := .string ⟨#[]⟩) (Yg (j := 2) (v := .int .i64 q3) (Yg (j := 1) (v := .string q2) (Yg (j := 0) (v := .string q1) cH.out HGle.out) HGle.out) HGle.out) HGle.out) HGle.out) HGle.out) HGle.out) HGle.out)
        generalize ((((((((w58.setCell ⟨g, 0, none⟩ (.string q1)).setCell ⟨g, 1, none⟩ (.string q2)).setCell ⟨g, 2, none⟩ (.int .i64 q3)).setCell ⟨g, 3, none⟩ (.string ⟨#[]⟩)).setCell ⟨g, 4, none⟩ (.string ⟨#[]⟩)).setCell ⟨g, 5, none⟩ (.string ⟨#[]⟩)).setCell ⟨g, 6, none⟩ (.bool false)).setCell ⟨g, 7, none⟩ (.bool false)) = w60 at eC dV cH ⊢
        by_cases cq : q9 = 0
        ·subst cq
         obtain ⟨mM, zV, hk3, hk4⟩ := HPK.out rfl
         have hq6 := HQ6.out
         rw [if_pos rfl] at hq6
         have ts := Yok rest
         have hrl := HRL.out
         have hxl := HXL.out
         have htn := HTLn.out
         obtain ⟨kt, hkt⟩ := Yjp sch q2 q3 (Yie rest) (Ypd rest) (Yje rest) (Ybf rest) (Yve rest) (by have := HKk.out; omega) Zj Zj Zj Zj hk3 Zj
         have hT0 : Yee.f q1 q2 q3 ⟨#[]⟩ ⟨#[]⟩ ⟨#[]⟩ false false (x3.extract (t : Int).toNat x3.size) = some (q1, q2, q3, Yie rest, Ypd rest, Yje rest, Ybf rest, Yve rest) := by
          unfold Yee.f
          rw [if_pos Zoa, HXR.out, Ytb]
         have hS0 : Yva.f kt q1 q2 q3 (Yie rest) (Ypd rest) (Yje rest) (Ybf rest) (Yve rest) = some (Ygg q1 q2 q3 (Yie rest) (Ypd rest) (Yje rest) (Ybf rest) (Yve rest)) := by
          rw [mM]; exact hkt kt (Ks _)
         unfold urlOf at hq6
         rw [← mM] at hq6
         obtain ⟨z4, hz4⟩ : ∃ z, z = Yie rest := ⟨_, rfl⟩
         obtain ⟨z5, hz5⟩ : ∃ z, z = Ypd rest := ⟨_, rfl⟩
         obtain ⟨z6, hz6⟩ : ∃ z, z = Yje rest := ⟨_, rfl⟩
         obtain ⟨z7, hz7⟩ : ∃ z, z = Ybf rest := ⟨_, rfl⟩
         obtain ⟨z8, hz8⟩ : ∃ z, z = Yve rest := ⟨_, rfl⟩
         rw [← hz4, ← hz5, ← hz6, ← hz7, ← hz8] at hq6 hT0 hS0
         obtain ⟨tb, htb⟩ : ∃ x, x = Ygg q1 q2 q3 z4 z5 z6 z7 z8 := ⟨_, rfl⟩
         rw [← htb] at hq6 hS0
         have HTL := Ya.mk hT0
         have HST := Ya.mk hS0
         have HQ7 := Ya.mk hq6
         clear hT0 hS0 hq6 hkt htb hz4 hz5 hz6 hz7 hz8 ts hrl hxl htn mM zV hk3 hk4
         try go_wp2_with fail
         refine Ydh (n := 6) (S := fun w' => w'.cell? ⟨g, 0, none⟩ = some (.string q1) ∧ w'.cell? ⟨g, 1, none⟩ = some (.string q2) ∧ w'.cell? ⟨g, 2, none⟩ = some (.int .i64 q3) ∧ w'.cell? ⟨g, 3, none⟩ = some (.string (⟨#[]⟩ : Y)) ∧ w'.cell? ⟨g, 4, none⟩ = some (.string (⟨#[]⟩ : Y)) ∧ w'.cell? ⟨g, 5, none⟩ = some (.string (⟨#[]⟩ : Y)) ∧ w'.cell? ⟨g, 6, none⟩ = some (.bool false) ∧ w'.cell? ⟨g, 7, none⟩ = some (.bool false)) (ds := [5]) #[false, false, false, false, false, false] Zi rfl rfl (Ylc (Yma eC.out)) (fun hHeld => ?_)
         replace eC := Ya.mk (Yma eC.out)
         replace dV := Ya.mk (Yma dV.out)
         replace cH := Ya.mk (Yc cH.out)
         generalize w60.drew = w68 at eC dV cH hHeld ⊢
         refine Yjb (i := 1) (N := some 73) (v := ?_) (a' := ?_) #[false, true, false, false, false, false] rfl rfl Zi (fun _ _ _ h => h) (Or.inl ⟨Zda, ?_⟩) ?_ ?_
         rotate_left
         ·exact Zsb
         rotate_left
         ·exact Ztb
         refine Yjb (i := 2) (N := some 74) (v := ?_) (a' := ?_) #[false, true, true, false, false, false] rfl rfl Zi (fun _ _ _ h => h) (Or.inl ⟨Zda, ?_⟩) ?_ ?_
         rotate_left
         ·exact Zsb
         rotate_left
         ·exact Ztb
         refine Yjb (i := 3) (N := some 75) (v := ?_) (a' := ?_) #[false, true, true, true, false, false] rfl rfl Zi (fun _ _ _ h => h) (Or.inl ⟨Zda, ?_⟩) ?_ ?_
         rotate_left
         ·exact Zsb
         rotate_left
         ·exact Ztb
         refine Yxf (i := 0) (N := some 72) (v := ?_) (a' := ?_) #[true, true, true, true, false, false] rfl rfl Zi (fun _ _ _ h => h) (Or.inl ⟨Zda, ?_⟩) hHeld ?_ ?_
         rotate_left
         ·exact Zvb
         rotate_left
         ·exact Ztb
         refine one_ (i := 4) (N := some 76) #[true, true, true, true, true, false] rfl rfl Zi Zw (fun K hK => ?_)
         refine Ydi Tryz.func37 Zi rfl #[.agg #[.string q1, .string q2, .int .i64 q3, .string (⟨#[]⟩ : Y), .string (⟨#[]⟩ : Y), .string (⟨#[]⟩ : Y), .bool false, .bool false], .string (x3.extract (t : Int).toNat x3.size)] Zda rfl rfl Zb ?_
         refine (Yee.calls q1 q2 q3 (⟨#[]⟩ : Y) (⟨#[]⟩ : Y) (⟨#[]⟩ : Y) false false (x3.extract (t : Int).toNat x3.size) q1 q2 q3 z4 z5 z6 z7 z8 _ (HE.out.below cH.out) HTL.out).mono ?_
         rintro e w69 ⟨rfl, hb⟩
         refine ⟨_, rfl, ?_⟩
         replace eC := Ya.mk (Ycb eC.out hb)
         replace dV := Ya.mk (Ycb dV.out hb)
         replace cH := Ya.mk (cH.out.trans (hb.mono cH.out.size))
         clear hb
         refine hK.out _ _ (Ylc eC.out) (fun hHeld => ?_)
         clear hK K
         refine Yth (a' := ?_) ?_ ?_
         rotate_left
         ·show Act.put _ (some 76) _ = _
          simp only [Act.put, Ky, Yha, Yka]
          rfl
         refine Ynp (i := 5) (N := none) #[true, true, true, true, true, true] rfl rfl Zi Zw (fun K hK => ?_)
         obtain ⟨uG, yM, uD, hs3, hs4, hs5, hs6, hs7⟩ := Ylc eC.out
         obtain ⟨aHv, aHw, aHx, aHy, aHz, aHA, aHB, aHC⟩ := Ke eC.out
         refine Ygp (w1 := ?_) Zda rfl ?_ ?_
         rotate_left
         ·go_simp
          rfl
         refine hK.out _ _ ?_
         clear hK K uG yM uD hs3 hs4 hs5 hs6 hs7 aHv aHw aHx aHy aHz aHA aHB aHC
         refine Yoi Zi ?_
         replace eC := Ya.mk (Yeb (cs' := #[.string q1, .string q2, .int .i64 q3, .string z4, .string z5, .string z6, .bool z7, .bool z8]) (Yeb (cs' := #[.string q1, .string q2, .int .i64 q3, .string z4, .string z5, .string z6, .bool z7, .bool false]) (Yeb (cs' := #[.string q1, .string q2, .int .i64 q3, .string z4, .string z5, .string z6, .bool false, .bool false]) (Yeb (cs' := #[.string q1, .string q2, .int .i64 q3, .string z4, .string z5, .string ⟨#[]⟩, .bool false, .bool false]) (Yeb (cs' := #[.string q1, .string q2, .int .i64 q3, .string z4, .string ⟨#[]⟩, .string ⟨#[]⟩, .bool false, .bool false]) (Yeb (cs' := #[.string q1, .string q2, .int .i64 q3, .string ⟨#[]⟩, .string ⟨#[]⟩, .string ⟨#[]⟩, .bool false, .bool false]) (Yeb (cs' := #[.string q1, .string q2, .int .i64 q3, .string ⟨#[]⟩, .string ⟨#[]⟩, .string ⟨#[]⟩, .bool false, .bool false]) (Yeb (cs' := #[.string q1, .string q2, .int .i64 q3, .string ⟨#[]⟩, .string ⟨#[]⟩, .string ⟨#[]⟩, .bool false, .bool false]) eC.out 0 (.string q1) rfl) 1 (.string q2) rfl) 2 (.int .i64 q3) rfl) 3 (.string z4) rfl) 4 (.string z5) rfl) 5 (.string z6) rfl) 6 (.bool z7) rfl) 7 (.bool z8) rfl)
         replace dV := Ya.mk (Ync (Ync (Ync (Ync (Ync (Ync (Ync (Ync dV.out (p := ⟨g, 0, none⟩) HGne.out (.string q1)) (p := ⟨g, 1, none⟩) HGne.out (.string q2)) (p := ⟨g, 2, none⟩) HGne.out (.int .i64 q3)) (p := ⟨g, 3, none⟩) HGne.out (.string z4)) (p := ⟨g, 4, none⟩) HGne.out (.string z5)) (p := ⟨g, 5, none⟩) HGne.out (.string z6)) (p := ⟨g, 6, none⟩) HGne.out (.bool z7)) (p := ⟨g, 7, none⟩) HGne.out (.bool z8))
         replace cH := Ya.mk (Yg (j := 7) (v := .bool z8) (Yg (j := 6) (v := .bool z7) (Yg (j := 5) (v := .string z6) (Yg (j := 4) (v := .string z5) (Yg (j := 3) (v := .string z4) (Yg (j := 2) (v := .int .i64 q3) (Yg (j := 1) (v := .string q2) (Yg (j := 0) (v := .string q1) cH.out HGle.out) HGle.out) HGle.out) HGle.out) HGle.out) HGle.out) HGle.out) HGle.out)
         generalize ((((((((w69.setCell ⟨g, 0, none⟩ (.string q1)).setCell ⟨g, 1, none⟩ (.string q2)).setCell ⟨g, 2, none⟩ (.int .i64 q3)).setCell ⟨g, 3, none⟩ (.string z4)).setCell ⟨g, 4, none⟩ (.string z5)).setCell ⟨g, 5, none⟩ (.string z6)).setCell ⟨g, 6, none⟩ (.bool z7)).setCell ⟨g, 7, none⟩ (.bool z8)) = w70 at eC dV cH ⊢
         obtain ⟨eE, fL, gU, lS, kT, kS, mZ, lQ⟩ := Ylc eC.out
         try go_wp2_with fail
         refine (Yva.calls kt _ _ _ _ _ _ _ _ _ _ (HE.out.below cH.out) HST.out).mono ?_
         rintro e w71 ⟨rfl, hb⟩
         replace eC := Ya.mk (Ycb eC.out hb)
         replace dV := Ya.mk (Ycb dV.out hb)
         replace cH := Ya.mk (cH.out.trans (hb.mono cH.out.size))
         clear hb eE fL gU lS kT kS mZ lQ
         by_cases cl : (tb.size : Int) > 2048
         ·have d1 : decide ((2048 : Int) < (tb.size : Int)) = true := Kn cl
          have hq7 := HQ7.out
          rw [if_pos cl] at hq7
          simp only [Yjc, Kaa] at hq7
          obtain ⟨rfl, rfl, rfl, rfl, rfl, rfl, rfl, rfl, rfl⟩ := hq7
          clear cl
          go_wp2_with ((with_reducible refine Ynb (t := 46) (p := 2) rfl ?_); refine wpList_store_row rfl 46 (.tmp 2) (.tmp 81) rfl w.heap.size (uc ⟨#[]⟩ ⟨#[]⟩ 0 ⟨#[]⟩ ⟨#[]⟩ ⟨#[]⟩ false false) rfl rfl 46 _ dV.out bJ rfl (Yqc _ _ _ _ _ _ _ _) ?_)
          refine bodyPost_ret (v := ?v81) ?hr81 ?hd81 ?_
          case hr81 => refine Yta (p := 2) (u := 3) (ty := 46) ?_ _ _ w.heap.size 46 (uc ⟨#[]⟩ ⟨#[]⟩ 0 ⟨#[]⟩ ⟨#[]⟩ ⟨#[]⟩ false false) (0, 0) _ ?_ (setRow_heap _ _ _ _ _ _ dV.out) cV rfl bJ <;> rfl
          case hd81 => rfl
          exact ⟨rfl, below_setRow cH.out (Ks _) _⟩
         ·have d1 : decide ((2048 : Int) < (tb.size : Int)) = false := Ko cl
          have hq7 := HQ7.out
          rw [if_neg cl] at hq7
          simp only [Kaa] at hq7
          obtain ⟨rfl, rfl, rfl, rfl, rfl, rfl, rfl, rfl, rfl⟩ := hq7
          obtain ⟨eE, fL, gU, lS, kT, kS, mZ, lQ⟩ := Ylc eC.out
          clear cl
          go_wp2_with ((with_reducible refine Ynb (t := 46) (p := 2) rfl ?_); refine wpList_store_row rfl 46 (.tmp 2) (.tmp 82) rfl w.heap.size (uc q1 q2 q3 z4 z5 z6 z7 z8) rfl rfl 46 _ dV.out bJ rfl (Yqc _ _ _ _ _ _ _ _) ?_)
          refine bodyPost_ret (v := ?v82) ?hr82 ?hd82 ?_
          case hr82 => refine Yta (p := 2) (u := 3) (ty := 46) ?_ _ _ w.heap.size 46 (uc q1 q2 q3 z4 z5 z6 z7 z8) (0, 0) _ ?_ (setRow_heap _ _ _ _ _ _ dV.out) cV rfl bJ <;> rfl
          case hd82 => rfl
          exact ⟨rfl, below_setRow cH.out (Ks _) _⟩
        ·have d5 : decide (q9 = 0) = false := Ko cq
         have d6 : (q9 == 0) = false := beq_eq_false_iff_ne.2 cq
         have hq6 := HQ6.out
         rw [if_neg cq] at hq6
         simp only [Yjc, Kaa] at hq6
         obtain ⟨rfl, rfl, rfl, rfl, rfl, rfl, rfl, rfl, rfl⟩ := hq6
         clear cq
         go_wp2_with ((with_reducible refine Ynb (t := 46) (p := 2) rfl ?_); refine wpList_store_row rfl 46 (.tmp 2) (.tmp 70) rfl w.heap.size (uc ⟨#[]⟩ ⟨#[]⟩ 0 ⟨#[]⟩ ⟨#[]⟩ ⟨#[]⟩ false false) rfl rfl 46 _ dV.out bJ rfl (Yqc _ _ _ _ _ _ _ _) ?_)
         refine bodyPost_ret (v := ?v70) ?hr70 ?hd70 ?_
         case hr70 => refine Yta (p := 2) (u := 3) (ty := 46) ?_ _ _ w.heap.size 46 (uc ⟨#[]⟩ ⟨#[]⟩ 0 ⟨#[]⟩ ⟨#[]⟩ ⟨#[]⟩ false false) (0, 0) _ ?_ (setRow_heap _ _ _ _ _ _ dV.out) cV rfl bJ <;> rfl
         case hd70 => rfl
         exact ⟨rfl, below_setRow cH.out (Ks _) _⟩
      ·rw [hh] at HSL
       have cP := HQ4.out
       unfold refS at cP
       rw [hxd, List.headD_cons, if_neg (by rw [hh]; simp)] at cP
       simp only [Yjc, Kaa] at cP
       obtain ⟨rfl, rfl, rfl, rfl, rfl, rfl, rfl, rfl, rfl⟩ := cP
       clear hxd hh HQ4
       go_wp2_with (first | (go_at_call 34; (with_reducible refine (Ywa.calls (bt x2 0) _ _ ?z1 HSL.out).mono ?_); (case z1 => first | exact HE.out.below cH.out | exact EnvOk.heap (HE.out.below cH.out) rfl); rintro e w' ⟨rfl, ⟨nd, rfl⟩⟩; replace eC := Ya.mk (Yba eC.out nd); replace dV := Ya.mk (Yba dV.out nd); replace cH := Ya.mk (Yb cH.out nd); generalize w5.drewN nd = wq at eC dV cH ⊢) | ((with_reducible refine Ynb (t := 46) (p := 2) rfl ?_); refine wpList_store_row rfl 46 (.tmp 2) (.tmp 48) rfl w.heap.size (uc ⟨#[]⟩ ⟨#[]⟩ 0 ⟨#[]⟩ ⟨#[]⟩ ⟨#[]⟩ false false) rfl rfl 46 _ dV.out bJ rfl (Yqc _ _ _ _ _ _ _ _) ?_))
       refine bodyPost_ret (v := ?vy1) ?hry1 ?hdy1 ?_
       case hry1 => refine Yta (p := 2) (u := 3) (ty := 46) ?_ _ _ w.heap.size 46 (uc ⟨#[]⟩ ⟨#[]⟩ 0 ⟨#[]⟩ ⟨#[]⟩ ⟨#[]⟩ false false) (0, 0) _ ?_ (setRow_heap _ _ _ _ _ _ dV.out) cV rfl bJ <;> rfl
       case hdy1 => rfl
       exact ⟨rfl, below_setRow cH.out (Ks _) _⟩
end Go.Proofs.YtihaeeldgimdiaaGreatDoor.X
