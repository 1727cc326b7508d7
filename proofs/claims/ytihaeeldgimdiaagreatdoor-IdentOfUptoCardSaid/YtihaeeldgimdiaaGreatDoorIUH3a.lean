import Derived.Test.YtihaeeldgimdiaaGreatDoorIUQb
set_option linter.all false
namespace Go.Proofs.YtihaeeldgimdiaaGreatDoor.X
open Go.RowKit Go.Lib Go.Shelf Go.Yw.PrintWords Go.Yw.PrintLast Go.Yw.PrintMore
attribute [local go_sem] Yxd Yvd Yze Yye Ymd Yld Yyd Ywd
def Yli.f (a0 : Y) : Option Y := if a0.size ≤ 100000000 then some (ofL (Ysj a0.data.toList)) else none
set_option maxHeartbeats 8000000 in
set_option maxRecDepth 100000 in
theorem Yli.calls (a0 r : Y) (w : World) (hE : EnvOk w) (h : Yli.f a0 = some r) :
  Calls Tryz.prog 77 #[.string a0] w fun e w' => e = .returned (.string r) ∧ Below w.heap.size w w' := by
 unfold Yli.f at h
 by_cases hs : a0.size ≤ 100000000
 ·rw [if_pos hs] at h
  obtain rfl := Kr h
  have HE := Ya.mk hE
  have hf1 : strings_ReplaceAll.f a0 ⟨#[92]⟩ ⟨#[47]⟩ = some (ofL (Yed a0.data.toList)) := by
   unfold strings_ReplaceAll.f
   have := countB_le a0 ⟨#[92]⟩
   rw [if_pos ⟨Zj, by show 1 ≤ 1; omega, by show a0.size + _ * 1 ≤ _; omega⟩]
   show some (ofL (Lib.replaceAll a0.data.toList [92] [47])) = _
   rw [Yno]
  have zK : Yab.f ((ofL (Yed a0.data.toList)).size + 1) (ofL (Yed a0.data.toList)) 47 = some ((splitB 47 (Yed a0.data.toList)).map ofL) :=
   split_f (ofL (Yed a0.data.toList)) 47 (by rw [Yfa, Ymk, ← Lib.size_eq]; omega)
  have zL := Ya.mk hf1
  have oR := Ya.mk zK
  have HSn := Ya.mk (Yfg 47 (Yed a0.data.toList))
  have HRoom := Ya.mk (Yzh a0.data.toList)
  have HP := Ya.mk (show Yfe a0.data.toList = if decide (1 < (splitB 47 (Yed a0.data.toList)).length) && ((splitB 47 (Yed a0.data.toList)).headD []).isEmpty then (splitB 47 (Yed a0.data.toList)).tail else splitB 47 (Yed a0.data.toList) from rfl)
  have HPL := Ya.mk (show Ysj a0.data.toList = 47 :: Lib.join (Yuc (Yfe a0.data.toList) []) [47] from rfl)
  obtain ⟨ps, hps⟩ : ∃ ps, ps = Yfe a0.data.toList := ⟨_, rfl⟩
  obtain ⟨sp, hsp⟩ : ∃ sp, sp = splitB 47 (Yed a0.data.toList) := ⟨_, rfl⟩
  obtain ⟨R, hR⟩ : ∃ R, R = Ysj a0.data.toList := ⟨_, rfl⟩
  rw [← hsp] at oR HSn HP
  rw [← hps] at HP HPL HRoom
  rw [← hR] at HPL ⊢
  rw [← Lib.size_eq] at HRoom
  clear hE h hf1 zK hps hsp hR
  go_enter Tryz.func77, Tryz.ntmps77
  go_wp2_with fail
  refine (strings_ReplaceAll.calls a0 ⟨#[92]⟩ ⟨#[47]⟩ _ _ HE.out zL.out).mono ?_
  rintro e w1 ⟨rfl, qY⟩
  have hY := Ya.mk qY
  have mN := Ya.mk (HE.out.below qY)
  clear qY
  go_wp2_with fail
  refine (Yab.calls _ _ _ _ _ mN.out oR.out).mono ?_
  rintro e w2 ⟨v0, rfl, hr2, cJ⟩
  have fJ := Ya.mk (hY.out.trans (cJ.mono hY.out.size))
  have tX := Ya.mk (mN.out.below cJ)
  obtain ⟨g, cap, rfl, yL, sR, hgb, hrow⟩ := Yco hr2 HSn.out
  have HROW := Ya.mk hrow
  have hglt : Ya (g < w2.heap.size) := ⟨by
   have h0 : 0 < sp.length := List.length_pos_iff.2 HSn.out
   exact lt_of_cell (hrow 0 h0)⟩
  clear hr2 cJ hrow hgb
  unfold maxLen at sR
  have key : (∃ x0 : Y, ¬ cap = 1 ∧ decide ((1 : Int) < (sp.length : Int)) = true ∧ w2.cell? ⟨g, 0, none⟩ = some (.string x0) ∧ (x0.toList == []) = true ∧ x0.toList.isEmpty = true ∧ Ya (RowS w2 g 1 ps) ∧ Ya (sp.length - 1 = ps.length)) ∨
    (∃ x0 : Y, decide ((1 : Int) < (sp.length : Int)) = true ∧ w2.cell? ⟨g, 0, none⟩ = some (.string x0) ∧ (x0.toList == []) = false ∧ x0.toList.isEmpty = false ∧ Ya (RowS w2 g 0 ps) ∧ Ya (sp.length = ps.length)) ∨
    (decide ((1 : Int) < (sp.length : Int)) = false ∧ decide (1 < sp.length) = false ∧ Ya (RowS w2 g 0 ps) ∧ Ya (sp.length = ps.length)) := by
   by_cases h1 : 1 < sp.length
   ·have d1 : decide ((1 : Int) < (sp.length : Int)) = true := Kn Zj
    have oH := HROW.out 0 Zj
    rw [Nat.zero_add] at oH
    have hP := HP.out
    rw [decide_eq_true h1, Bool.true_and] at hP
    cases sp with
    | nil => exact absurd h1 Zq
    | cons x sp' =>
     cases x with
     | nil =>
      left
      refine ⟨ofL [], Zj, d1, oH, by rw [Yjd]; rfl, by rw [Yjd]; rfl, ⟨?_⟩, ⟨?_⟩⟩
      ·rw [hP]; exact HROW.out.tail
      ·rw [hP]; rfl
     | cons b x' =>
      right; left
      refine ⟨ofL (b :: x'), d1, oH, by rw [Yjd]; rfl, by rw [Yjd]; rfl, ⟨?_⟩, ⟨?_⟩⟩
      ·rw [hP]; exact HROW.out
      ·rw [hP]; rfl
   ·right; right
    have hP := HP.out
    rw [decide_eq_false h1, Bool.false_and] at hP
    exact ⟨Ko Zj, Ko h1, ⟨by rw [hP]; exact HROW.out⟩, ⟨by rw [hP]; rfl⟩⟩
  have yM : 1 ≤ sp.length := List.length_pos_iff.2 HSn.out
  clear HROW HP
  rcases key with ⟨x0, fL, d1, oH, e1, e2, HRP, HM⟩ | ⟨x0, d1, oH, e1, e2, HRP, HM⟩ | ⟨d1, d2, HRP, HM⟩
  all_goals
   go_wp2
   obtain ⟨m, hm⟩ : ∃ m, m = ps.length := ⟨_, rfl⟩
   rw [← hm] at HM
   simp only [HM.out]
   have HMl := Ya.mk hm
   have hmb : m ≤ 1000000000 := by have := Ytj ps; have := HRoom.out; omega
   clear hm yM
   go_loopg [4, 5, 6, 7, 24, 33, 40] m (fun g2 v4 _ _ _ v24 _ _ wx => ∃ (k : Nat) (out : List (List UInt8)), k + g2 ≤ m ∧ m ≤ k + g2 ∧ v24 = .int .i64 (k : Int) ∧ out.length ≤ 1000000000 ∧ Ya (OwnS wx w2.heap.size v4 out) ∧ Ya (Below w2.heap.size w2 wx) ∧ Ya (Yuc (ps.drop k) out = Yuc ps []) ∧ Ya (tot out + room (ps.drop k) ≤ 3 * a0.size + 3))
   case atStart => exact ⟨0, [], Zj, Zj, rfl, Zq, ⟨World.ownsRow_nil _ _ _ _⟩, ⟨Below.refl _ _⟩, ⟨rfl⟩, ⟨by simpa [tot] using HRoom.out⟩⟩
   case round =>
    obtain ⟨k, out, mM, zV, rfl, hol, HO, HB, HPO, HTo⟩ := hrel
    cases gk with
    | zero =>
     obtain rfl : k = m := by omega
     have hlt : decide ((k : Int) < (k : Int)) = false := Ko Zj
     have hfin := HPO.out
     rw [HMl.out, List.drop_eq_nil_of_le (Nat.le_refl _), Yuc] at hfin
     have hjl := Ywm out
     have htl := HTo.out
     have hj : strings_Join.f (out.map ofL) ⟨#[47]⟩ = some (ofL (Lib.join out [47])) := by
      unfold strings_Join.f
      have e : (out.map ofL).map (·.data.toList) = out := by rw [List.map_map]; exact List.map_id' out
      rw [e, if_pos ⟨Zmb, by show (Lib.join out [47]).length ≤ _; omega⟩]
     have HJ := Ya.mk hj
     have HEx := Ya.mk (tX.out.below HB.out)
     have HFin := Ya.mk hfin
     have hjs : (ofL (Lib.join out [47])).size ≤ 1000000000 := by rw [Yfa]; omega
     clear hj hfin hjl htl
     have aDK : out.length ≤ 1000000000 := hol
     rcases HO.out.2 with ⟨rfl, h0⟩ | ⟨gg, cc, cur, rfl, hgb, hgh, hgn, hgc, hgs, hgt⟩
     ·have oQ : out = [] := List.eq_nil_of_length_eq_zero h0
      subst oQ
      go_wp2_with fail
      refine (strings_Join.calls none 0 [] ⟨#[47]⟩ _ _ HEx.out (Kd.C_nil _ _) (Ks _) HJ.out).mono ?_
      rintro e w5 ⟨rfl, zX⟩
      have cH := Ya.mk (fJ.out.trans ((HB.out.trans (zX.mono HB.out.size)).mono fJ.out.size))
      clear zX
      go_wp2
      go_ret
      refine ⟨?_, cH.out⟩
      rw [HPL.out, ← HFin.out]; rfl
     ·have hC : Kd.C Kd.string wr (some ⟨gg, 0, none⟩) (out.map ofL).length (out.map ofL) := by
       refine Kd.C_of_reads (enc := Value.string) (d := ByteArray.empty) (h1 := fun _ => rfl) ⟨rfl, Zmb, fun hp => ⟨_, rfl, fun j hj => ?_⟩⟩
       rw [List.length_map] at hj
       have h3 : (cur.toList.take (out.length * 1))[j]? = some (.string (ofL out[j])) := by
        rw [hgt, List.getElem?_map, List.getElem?_eq_getElem hj]; rfl
       rw [List.getElem?_take, if_pos Zj] at h3
       rw [show (Addr.add ⟨gg, 0, none⟩ j) = ⟨gg, j, none⟩ from by unfold Addr.add; split <;> simp_all]
       unfold World.cell?
       rw [hgh]
       rw [List.getD_eq_getElem?_getD, List.getElem?_map, List.getElem?_eq_getElem hj]
       simpa using h3
      have HCC := Ya.mk hC
      have HLm := Ya.mk (show (out.map ofL).length = out.length from List.length_map _)
      unfold maxLen at hgc
      clear hC hgh hgt hgs
      go_wp2_with fail
      have hcall := strings_Join.calls (some ⟨gg, 0, none⟩) cc (out.map ofL) ⟨#[47]⟩ _ wr HEx.out HCC.out (by rw [HLm.out]; exact hgn) HJ.out
      rw [HLm.out] at hcall
      refine hcall.mono ?_
      clear hcall
      rintro e w5 ⟨rfl, zX⟩
      have cH := Ya.mk (fJ.out.trans ((HB.out.trans (zX.mono HB.out.size)).mono fJ.out.size))
      clear zX
      go_wp2
      go_ret
      refine ⟨?_, cH.out⟩
      rw [HPL.out, ← HFin.out]; rfl
    | succ g2 =>
     have hk : k < m := by omega
     have hkp : k < ps.length := by have := HMl.out; omega
     have hlt : decide ((k : Int) < (m : Int)) = true := Kn Zj
     have hcell := (HRP.out.below HB.out) k hkp
     try simp only [Nat.zero_add] at hcell
     have HRD := Ya.mk (Ycm ps k hkp)
     have HDr := Ya.mk (List.drop_eq_getElem_cons hkp)
     obtain ⟨p, hp⟩ : ∃ p, p = ps[k] := ⟨_, rfl⟩
     rw [← hp] at hcell HRD HDr
     have hpl : Ya (p.length ≤ 400000000) := ⟨by have := HTo.out; have := HRD.out; omega⟩
     have hf1 : Yid.f (ofL p) ⟨#[34, 60, 62, 35, 63, 96, 123, 125]⟩ = some (ofL (Ydd Ymc p)) := by
      unfold Yid.f
      rw [if_pos (by rw [Yfa]; have := hpl.out; omega)]
      rfl
     have zK : Yji.f (ofL (Ydd Ymc p)) = some (Yjg (Ydd Ymc p) : Int) :=
      dots_f _ Znb
     have zL := Ya.mk hf1
     have oR := Ya.mk zK
     have HQl := Ya.mk (Ylg Ymc p)
     have HE3 := Ya.mk (tX.out.below HB.out)
     have HST := Ya.mk (fun last => (rfl : Yad last out p = _))
     have HSL := Ya.mk (fun last => Yuh last out p)
     obtain ⟨q, hq⟩ : ∃ q, q = Ydd Ymc p := ⟨_, rfl⟩
     obtain ⟨n, hn⟩ : ∃ n, n = Yjg q := ⟨_, rfl⟩
     have hn3 : n = 0 ∨ n = 1 ∨ n = 2 := by
      rw [hn]; unfold Yjg
      split
      ·omega
      ·split <;> omega
     rw [← hq] at zL oR HQl
     rw [← hn] at oR
     have HN := Ya.mk hn
     have HQ := Ya.mk hq
     clear hf1 zK hp hq hn
     go_wp2_with fail
     refine (Yid.calls _ _ _ _ HE3.out zL.out).mono ?_
     rintro e w3 ⟨rfl, gR⟩
     have HE4 := Ya.mk (HE3.out.below gR)
     have cZ := Ya.mk (HB.out.trans (gR.mono HB.out.size))
     have HO3 := Ya.mk (Ydg HO.out gR)
     clear gR
     go_wp2_with fail
     refine (Yji.calls _ _ _ HE4.out oR.out).mono ?_
     rintro e w4 ⟨rfl, lY⟩
     have HE5 := Ya.mk (HE4.out.below lY)
     have cU := Ya.mk (cZ.out.trans (lY.mono cZ.out.size))
     have mY := Ya.mk (Ydg HO3.out lY)
     clear lY hcell hlt
     have bX := Ya.mk (show Yuc (ps.drop (k + 1)) (Yad (ps.drop (k + 1)).isEmpty out p) = Yuc ps [] by
      have := HPO.out
      rw [HDr.out, Yuc] at this; exact this)
     have HLast := Ya.mk (show (ps.drop (k + 1)).isEmpty = decide (k + 1 = m) by
      have := HMl.out
      rw [Bool.eq_iff_iff, List.isEmpty_iff, List.drop_eq_nil_iff, decide_eq_true_iff]
      omega)
     have aBt := HTo.out
     have htl := Yag out
     have hHSL := HSL.out (ps.drop (k + 1)).isEmpty
     have hR3 := HRD.out
     have dT := Ya.mk (show tot (Yad (ps.drop (k + 1)).isEmpty out p) + room (ps.drop (k + 1)) ≤ 3 * a0.size + 3 by omega)
     have eB := Ya.mk (show (Yad (ps.drop (k + 1)).isEmpty out p).length ≤ 1000000000 by
      have := Yag (Yad (ps.drop (k + 1)).isEmpty out p); have := dT.out; omega)
     clear aBt htl hHSL hR3 HSL HST HTo HPO HRD HDr zL oR
     rcases hn3 with rfl | rfl | rfl
     ·have hst := Yyk (last := (ps.drop (k + 1)).isEmpty) (out := out) (p := p) Zjb
      rw [hst, ← HQ.out] at bX dT eB
      clear hst
      go_wp2_with (at_builtin; go_must (refine Ycd (w0 := w2) w2.heap.size rfl _ _ 23 9 (.string ⟨#[]⟩) 16 rfl Tryz.underlying23 Ype rfl Zw u4 (out.map fun x => Value.string (ofL x)) (.string (ofL q)) rfl rfl rfl (by simpa [OwnS] using mY.out) cU.out cU.out.size (by simp only [List.length_map, List.length_take]; omega) ?_); intro v1 w5 cS gK _ _)
      have HO5 := Ya.mk cS
      have cH := Ya.mk gK
      clear cS gK
      go_wp2
      go_roundg g2
      case measure => omega
      case rel => exact ⟨k + 1, out ++ [q], Zj, Zj, by go_num, eB.out, ⟨by simpa [OwnS] using HO5.out⟩, cH, bX, dT⟩
     ·have hst := Ybl (last := (ps.drop (k + 1)).isEmpty) (out := out) (p := p) Zjb
      rw [hst, HLast.out] at bX dT eB
      clear hst
      by_cases hl : k + 1 = m
      ·have jK : ((k : Int) == (m : Int) - 1) = true := beq_iff_eq.2 Zj
       rw [if_pos Zcb] at bX dT eB
       go_wp2_with (at_builtin; go_must (refine Ycd (w0 := w2) w2.heap.size rfl _ _ 23 9 (.string ⟨#[]⟩) 16 rfl Tryz.underlying23 Ype rfl Zw u4 (out.map fun x => Value.string (ofL x)) (.string (ofL [])) rfl rfl rfl (by simpa [OwnS] using mY.out) cU.out cU.out.size (by simp only [List.length_map, List.length_take]; omega) ?_); intro v1 w5 cS gK _ _)
       have HO5 := Ya.mk cS
       have cH := Ya.mk gK
       clear cS gK
       go_wp2
       go_roundg g2
       case measure => omega
       case rel => exact ⟨k + 1, out ++ [[]], Zj, Zj, by go_num, eB.out, ⟨by simpa [OwnS] using HO5.out⟩, cH, bX, dT⟩
      ·have jK : ((k : Int) == (m : Int) - 1) = false := beq_eq_false_iff_ne.2 Zj
       rw [if_neg Zcb] at bX dT eB
       go_wp2
       go_roundg g2
       case measure => omega
       case rel => exact ⟨k + 1, out, Zj, Zj, by go_num, eB.out, mY, cU, bX, dT⟩
     ·have hst := Yzk (last := (ps.drop (k + 1)).isEmpty) (out := out) (p := p) Zjb
      rw [hst, HLast.out] at bX dT eB
      clear hst
      have hshape : (u4 = .slice none 0 0 ∧ out = []) ∨ (∃ gg cc, u4 = .slice (some ⟨gg, 0, none⟩) 0 cc ∧ out = [] ∧ cc ≤ 9223372036854775807) ∨ (∃ gg cc L, u4 = .slice (some ⟨gg, 0, none⟩) (L + 1) cc ∧ out.length = L + 1 ∧ L + 1 ≤ cc ∧ cc ≤ 9223372036854775807) := by
       rcases mY.out.2 with ⟨h1, h0⟩ | ⟨gg, cc, cur, h1, hgb, hgh, hgn, hgc, hgs, hgt⟩
       ·exact .inl ⟨h1, List.eq_nil_of_length_eq_zero h0⟩
       ·by_cases h0 : out.length = 0
        ·exact .inr (.inl ⟨gg, cc, by rw [h1, h0], List.eq_nil_of_length_eq_zero h0, by unfold maxLen at hgc; omega⟩)
        ·exact .inr (.inr ⟨gg, cc, out.length - 1, by rw [h1]; congr 1; omega, Zj, Zj, by unfold maxLen at hgc; omega⟩)
      rcases hshape with ⟨rfl, rfl⟩ | ⟨gg, cc, rfl, rfl, hcc⟩ | ⟨gg, cc, L, rfl, hL, hLc, hcc⟩
      ·have HOt := Ya.mk (show OwnS w4 w2.heap.size (.slice none 0 0) [] from mY.out)
       replace bX := Ya.mk (show Yuc (ps.drop (k + 1)) (if decide (k + 1 = m) = true then [] ++ [[]] else []) = Yuc ps [] from bX.out)
       replace dT := Ya.mk (show tot (if decide (k + 1 = m) = true then [] ++ [[]] else []) + room (ps.drop (k + 1)) ≤ 3 * a0.size + 3 from dT.out)
       replace eB := Ya.mk (show (if decide (k + 1 = m) = true then [] ++ [[]] else [] : List (List UInt8)).length ≤ 1000000000 from eB.out)
       by_cases hl : k + 1 = m
       ·have jK : ((k : Int) == (m : Int) - 1) = true := beq_iff_eq.2 Zj
        rw [if_pos Zcb] at bX dT eB
        go_wp2_with (at_builtin; go_must (refine Ycd (w0 := w2) w2.heap.size rfl _ _ 23 9 (.string ⟨#[]⟩) 16 rfl Tryz.underlying23 Ype rfl Zw (.slice none 0 0) (([] : List (List UInt8)).map fun x => Value.string (ofL x)) (.string ⟨#[]⟩) rfl rfl rfl (by simpa [OwnS] using HOt.out) cU.out cU.out.size Zkb ?_); intro v1 w5 cS gK _ _)
        have HO5 := Ya.mk cS
        have cH := Ya.mk gK
        clear cS gK
        go_wp2
        go_roundg g2
        case measure => omega
        case rel => exact ⟨k + 1, ([] : List (List UInt8)) ++ [[]], Zj, Zj, by go_num, eB.out, ⟨by simpa [OwnS, ofL] using HO5.out⟩, cH, bX, dT⟩
       ·have jK : ((k : Int) == (m : Int) - 1) = false := beq_eq_false_iff_ne.2 Zj
        rw [if_neg Zcb] at bX dT eB
        go_wp2
        go_roundg g2
        case measure => omega
        case rel => exact ⟨k + 1, ([] : List (List UInt8)), Zj, Zj, by go_num, eB.out, HOt, cU, bX, dT⟩
      ·have HOt := Ya.mk (show OwnS w4 w2.heap.size (.slice (some ⟨gg, 0, none⟩) 0 cc) [] from mY.out)
       replace bX := Ya.mk (show Yuc (ps.drop (k + 1)) (if decide (k + 1 = m) = true then [] ++ [[]] else []) = Yuc ps [] from bX.out)
       replace dT := Ya.mk (show tot (if decide (k + 1 = m) = true then [] ++ [[]] else []) + room (ps.drop (k + 1)) ≤ 3 * a0.size + 3 from dT.out)
       replace eB := Ya.mk (show (if decide (k + 1 = m) = true then [] ++ [[]] else [] : List (List UInt8)).length ≤ 1000000000 from eB.out)
       by_cases hl : k + 1 = m
       ·have jK : ((k : Int) == (m : Int) - 1) = true := beq_iff_eq.2 Zj
        rw [if_pos Zcb] at bX dT eB
        go_wp2_with (at_builtin; go_must (refine Ycd (w0 := w2) w2.heap.size rfl _ _ 23 9 (.string ⟨#[]⟩) 16 rfl Tryz.underlying23 Ype rfl Zw (.slice (some ⟨gg, 0, none⟩) 0 cc) (([] : List (List UInt8)).map fun x => Value.string (ofL x)) (.string ⟨#[]⟩) rfl rfl rfl (by simpa [OwnS] using HOt.out) cU.out cU.out.size Zkb ?_); intro v1 w5 cS gK _ _)
        have HO5 := Ya.mk cS
        have cH := Ya.mk gK
        clear cS gK
        go_wp2
        go_roundg g2
        case measure => omega
        case rel => exact ⟨k + 1, ([] : List (List UInt8)) ++ [[]], Zj, Zj, by go_num, eB.out, ⟨by simpa [OwnS, ofL] using HO5.out⟩, cH, bX, dT⟩
       ·have jK : ((k : Int) == (m : Int) - 1) = false := beq_eq_false_iff_ne.2 Zj
        rw [if_neg Zcb] at bX dT eB
        go_wp2
        go_roundg g2
        case measure => omega
        case rel => exact ⟨k + 1, ([] : List (List UInt8)), Zj, Zj, by go_num, eB.out, HOt, cU, bX, dT⟩
      ·have HOt := Ya.mk (show OwnS w4 w2.heap.size (.slice (some ⟨gg, 0, none⟩) L cc) (out.take (out.length - 1)) from by
        have := mY.out
        rw [← hL] at this
        have h3 := OwnS.take this L Zj
        rw [show out.length - 1 = L by omega]; exact h3)
       have hL2 := Ya.mk hL
       clear hL
       by_cases hl : k + 1 = m
       ·have jK : ((k : Int) == (m : Int) - 1) = true := beq_iff_eq.2 Zj
        rw [if_pos Zcb] at bX dT eB
        go_wp2_with (at_builtin; go_must (refine Ycd (w0 := w2) w2.heap.size rfl _ _ 23 9 (.string ⟨#[]⟩) 16 rfl Tryz.underlying23 Ype rfl Zw (.slice (some ⟨gg, 0, none⟩) L cc) ((out.take (out.length - 1)).map fun x => Value.string (ofL x)) (.string ⟨#[]⟩) rfl rfl rfl (by simpa [OwnS] using HOt.out) cU.out cU.out.size Zkb ?_); intro v1 w5 cS gK _ _)
        have HO5 := Ya.mk cS
        have cH := Ya.mk gK
        clear cS gK
        go_wp2
        go_roundg g2
        case measure => omega
        case rel => exact ⟨k + 1, (out.take (out.length - 1)) ++ [[]], Zj, Zj, by go_num, eB.out, ⟨by simpa [OwnS, ofL] using HO5.out⟩, cH, bX, dT⟩
       ·have jK : ((k : Int) == (m : Int) - 1) = false := beq_eq_false_iff_ne.2 Zj
        rw [if_neg Zcb] at bX dT eB
        go_wp2
        go_roundg g2
        case measure => omega
        case rel => exact ⟨k + 1, (out.take (out.length - 1)), Zj, Zj, by go_num, eB.out, HOt, cU, bX, dT⟩
 ·rw [if_neg hs] at h; cases h
end Go.Proofs.YtihaeeldgimdiaaGreatDoor.X
