/- url.Path: the parts of a path, dots gone. -/
import Derived.Test.YtfmjnmglagdcdaaGreatDoorCHWords
import Derived.Test.YtfmjnmglagdcdaaGreatDoorCHQc
import Derived.Outline
namespace Go.Proofs.YtfmjnmglagdcdaaGreatDoor.X
open Go.RowKit Go.Lib Go.Shelf Go.Yw.PrintWords Go.Yw.PrintLast Go.Yw.PrintMore
set_option linter.unusedVariables false
set_option linter.unusedSimpArgs false
attribute [local go_sem] Ygf Ybf Yzf Yag Yme Ype Ydf Yff
def Ytf.f (a0 : ByteArray) : Option ByteArray := if a0.size ≤ 100000000 then some (ofL (Ypc a0.data.toList)) else none
set_option maxHeartbeats 8000000 in
set_option maxRecDepth 100000 in
theorem Ytf.calls (a0 : ByteArray) (r : ByteArray) (w : World) (hE : EnvOk w) (h : Ytf.f a0 = some r) :
  Calls Tryz.prog 80 #[.string a0] w fun e w' => e = .returned (.string r) ∧ Below w.heap.size w w' := by
 unfold Ytf.f at h
 by_cases hs : a0.size ≤ 100000000
 ·rw [if_pos hs] at h
  obtain rfl := Option.some.inj h
  have HE := Ya.mk hE
  have hf1 : strings_ReplaceAll.f a0 ⟨#[92]⟩ ⟨#[47]⟩ = some (ofL (Yfb a0.data.toList)) := by
   unfold strings_ReplaceAll.f
   have := countB_le a0 ⟨#[92]⟩
   rw [if_pos ⟨Zk, by show 1 ≤ 1; omega, by show a0.size + _ * 1 ≤ _; omega⟩]
   show some (ofL (Lib.replaceAll a0.data.toList [92] [47])) = _
   rw [Yal]
  have hf2 : Ys.f ((ofL (Yfb a0.data.toList)).size + 1) (ofL (Yfb a0.data.toList)) 47 = some ((splitB 47 (Yfb a0.data.toList)).map ofL) :=
   split_f (ofL (Yfb a0.data.toList)) 47 (by rw [Yta, Ylh, ← Lib.size_eq]; omega)
  have HF1 := Ya.mk hf1
  have HF2 := Ya.mk hf2
  have HSn := Ya.mk (Yze 47 (Yfb a0.data.toList))
  have HRoom := Ya.mk (Yog a0.data.toList)
  have HP := Ya.mk (show Yqb a0.data.toList = if decide (1 < (splitB 47 (Yfb a0.data.toList)).length) && ((splitB 47 (Yfb a0.data.toList)).headD []).isEmpty then (splitB 47 (Yfb a0.data.toList)).tail else splitB 47 (Yfb a0.data.toList) from rfl)
  have HPL := Ya.mk (show Ypc a0.data.toList = 47 :: Lib.join (Yjb (Yqb a0.data.toList) []) [47] from rfl)
  obtain ⟨ps, hps⟩ : ∃ ps, ps = Yqb a0.data.toList := ⟨_, rfl⟩
  obtain ⟨sp, hsp⟩ : ∃ sp, sp = splitB 47 (Yfb a0.data.toList) := ⟨_, rfl⟩
  obtain ⟨R, hR⟩ : ∃ R, R = Ypc a0.data.toList := ⟨_, rfl⟩
  rw [← hsp] at HF2 HSn HP
  rw [← hps] at HP HPL HRoom
  rw [← hR] at HPL ⊢
  rw [← Lib.size_eq] at HRoom
  clear hE h hf1 hf2 hps hsp hR
  go_enter Tryz.func80, Tryz.ntmps80
  go_wp2_with fail
  refine (strings_ReplaceAll.calls a0 ⟨#[92]⟩ ⟨#[47]⟩ _ _ HE.out HF1.out).mono ?_
  rintro e w1 ⟨rfl, hb1⟩
  have HB1 := Ya.mk hb1
  have HE1 := Ya.mk (HE.out.below hb1)
  clear hb1
  go_wp2_with fail
  refine (Ys.calls _ _ _ _ _ HE1.out HF2.out).mono ?_
  rintro e w2 ⟨v0, rfl, hr2, hb2⟩
  have HB2 := Ya.mk (HB1.out.trans (hb2.mono HB1.out.size))
  have HE2 := Ya.mk (HE1.out.below hb2)
  obtain ⟨g, cap, rfl, hcap1, hcap2, hgb, hrow⟩ := row_of_R hr2 HSn.out
  have HROW := Ya.mk hrow
  have hglt : Ya (g < w2.heap.size) := ⟨by
   have h0 : 0 < sp.length := List.length_pos_iff.2 HSn.out
   exact lt_of_cell (hrow 0 h0)⟩
  clear hr2 hb2 hrow hgb
  unfold maxLen at hcap2
  have key : (∃ x0 : ByteArray, ¬ cap = 1 ∧ decide ((1 : Int) < (sp.length : Int)) = true ∧ w2.cell? ⟨g, 0, none⟩ = some (.string x0) ∧ (x0.toList == []) = true ∧ x0.toList.isEmpty = true ∧ Ya (RowS w2 g 1 ps) ∧ Ya (sp.length - 1 = ps.length)) ∨
    (∃ x0 : ByteArray, decide ((1 : Int) < (sp.length : Int)) = true ∧ w2.cell? ⟨g, 0, none⟩ = some (.string x0) ∧ (x0.toList == []) = false ∧ x0.toList.isEmpty = false ∧ Ya (RowS w2 g 0 ps) ∧ Ya (sp.length = ps.length)) ∨
    (decide ((1 : Int) < (sp.length : Int)) = false ∧ decide (1 < sp.length) = false ∧ Ya (RowS w2 g 0 ps) ∧ Ya (sp.length = ps.length)) := by
   by_cases h1 : 1 < sp.length
   ·have d1 : decide ((1 : Int) < (sp.length : Int)) = true := decide_eq_true Zk
    have hcell0 := HROW.out 0 Zk
    rw [Nat.zero_add] at hcell0
    have hP := HP.out
    rw [decide_eq_true h1, Bool.true_and] at hP
    cases sp with
    | nil => exact absurd h1 Zy
    | cons x sp' =>
     cases x with
     | nil =>
      left
      refine ⟨ofL [], Zk, d1, hcell0, by rw [Yzb]; rfl, by rw [Yzb]; rfl, ⟨?_⟩, ⟨?_⟩⟩
      ·rw [hP]; exact HROW.out.tail
      ·rw [hP]; rfl
     | cons b x' =>
      right; left
      refine ⟨ofL (b :: x'), d1, hcell0, by rw [Yzb]; rfl, by rw [Yzb]; rfl, ⟨?_⟩, ⟨?_⟩⟩
      ·rw [hP]; exact HROW.out
      ·rw [hP]; rfl
   ·right; right
    have hP := HP.out
    rw [decide_eq_false h1, Bool.false_and] at hP
    exact ⟨decide_eq_false Zk, decide_eq_false h1, ⟨by rw [hP]; exact HROW.out⟩, ⟨by rw [hP]; rfl⟩⟩
  have hs1 : 1 ≤ sp.length := List.length_pos_iff.2 HSn.out
  clear HROW HP
  rcases key with ⟨x0, hc1, d1, hcell0, e1, e2, HRP, HM⟩ | ⟨x0, d1, hcell0, e1, e2, HRP, HM⟩ | ⟨d1, d2, HRP, HM⟩
  all_goals
   go_wp2
   obtain ⟨m, hm⟩ : ∃ m, m = ps.length := ⟨_, rfl⟩
   rw [← hm] at HM
   simp only [HM.out]
   have HMl := Ya.mk hm
   have hmb : m ≤ 1000000000 := by have := Yqn ps; have := HRoom.out; omega
   clear hm hs1
   go_loopg [4, 5, 6, 7, 24, 33, 40] m (fun g2 v4 _ _ _ v24 _ _ wx => ∃ (k : Nat) (out : List (List UInt8)), k + g2 ≤ m ∧ m ≤ k + g2 ∧ v24 = .int .i64 (k : Int) ∧ out.length ≤ 1000000000 ∧ Ya (OwnS wx w2.heap.size v4 out) ∧ Ya (Below w2.heap.size w2 wx) ∧ Ya (Yjb (ps.drop k) out = Yjb ps []) ∧ Ya (tot out + room (ps.drop k) ≤ 3 * a0.size + 3))
   case atStart => exact ⟨0, [], Zk, Zk, rfl, Zy, ⟨World.ownsRow_nil _ _ _ _⟩, ⟨Below.refl _ _⟩, ⟨rfl⟩, ⟨by simpa [tot] using HRoom.out⟩⟩
   case round =>
    obtain ⟨k, out, hk1, hk2, rfl, hol, HO, HB, HPO, HTo⟩ := hrel
    cases gk with
    | zero =>
     obtain rfl : k = m := by omega
     have hlt : decide ((k : Int) < (k : Int)) = false := decide_eq_false Zk
     have hfin := HPO.out
     rw [HMl.out, List.drop_eq_nil_of_le (Nat.le_refl _), Yjb] at hfin
     have hjl := join_le out
     have htl := HTo.out
     have hj : strings_Join.f (out.map ofL) ⟨#[47]⟩ = some (ofL (Lib.join out [47])) := by
      unfold strings_Join.f
      have e : (out.map ofL).map (·.data.toList) = out := by rw [List.map_map]; exact List.map_id' out
      rw [e, if_pos ⟨Zra, by show (Lib.join out [47]).length ≤ _; omega⟩]
     have HJ := Ya.mk hj
     have HEx := Ya.mk (HE2.out.below HB.out)
     have HFin := Ya.mk hfin
     have hjs : (ofL (Lib.join out [47])).size ≤ 1000000000 := by rw [Yta]; omega
     clear hj hfin hjl htl
     have hol9 : out.length ≤ 1000000000 := hol
     rcases HO.out.2 with ⟨rfl, h0⟩ | ⟨gg, cc, cur, rfl, hgb, hgh, hgn, hgc, hgs, hgt⟩
     ·have ho0 : out = [] := List.eq_nil_of_length_eq_zero h0
      subst ho0
      go_wp2_with fail
      refine (strings_Join.calls none 0 [] ⟨#[47]⟩ _ _ HEx.out (Kd.C_nil _ _) (Nat.le_refl _) HJ.out).mono ?_
      rintro e w5 ⟨rfl, hb5⟩
      have HB5 := Ya.mk (HB2.out.trans ((HB.out.trans (hb5.mono HB.out.size)).mono HB2.out.size))
      clear hb5
      go_wp2
      go_ret
      refine ⟨?_, HB5.out⟩
      rw [HPL.out, ← HFin.out]; rfl
     ·have hC : Kd.C Kd.string wr (some ⟨gg, 0, none⟩) (out.map ofL).length (out.map ofL) := by
       refine Kd.C_of_reads (enc := Value.string) (d := ByteArray.empty) (h1 := fun _ => rfl) ⟨rfl, Zra, fun hp => ⟨_, rfl, fun j hj => ?_⟩⟩
       rw [List.length_map] at hj
       have h3 : (cur.toList.take (out.length * 1))[j]? = some (.string (ofL out[j])) := by
        rw [hgt, List.getElem?_map, List.getElem?_eq_getElem hj]; rfl
       rw [List.getElem?_take, if_pos Zk] at h3
       rw [show (Addr.add ⟨gg, 0, none⟩ j) = ⟨gg, j, none⟩ from by unfold Addr.add; split <;> simp_all]
       unfold World.cell?
       rw [hgh]
       rw [List.getD_eq_getElem?_getD, List.getElem?_map, List.getElem?_eq_getElem hj]
       simpa using h3
      have HCC := Ya.mk hC
      have HLm := Ya.mk (show (out.map ofL).length = out.length from List.length_map _)
      unfold maxLen at hgc
      clear hC hgh hgt hgs
      go_wp2_with fail
      have hcall := strings_Join.calls (some ⟨gg, 0, none⟩) cc (out.map ofL) ⟨#[47]⟩ _ wr HEx.out HCC.out (by rw [HLm.out]; exact hgn) HJ.out
      rw [HLm.out] at hcall
      refine hcall.mono ?_
      clear hcall
      rintro e w5 ⟨rfl, hb5⟩
      have HB5 := Ya.mk (HB2.out.trans ((HB.out.trans (hb5.mono HB.out.size)).mono HB2.out.size))
      clear hb5
      go_wp2
      go_ret
      refine ⟨?_, HB5.out⟩
      rw [HPL.out, ← HFin.out]; rfl
    | succ g2 =>
     have hk : k < m := by omega
     have hkp : k < ps.length := by have := HMl.out; omega
     have hlt : decide ((k : Int) < (m : Int)) = true := decide_eq_true Zk
     have hcell := (HRP.out.below HB.out) k hkp
     try simp only [Nat.zero_add] at hcell
     have HRD := Ya.mk (room_drop ps k hkp)
     have HDr := Ya.mk (List.drop_eq_getElem_cons hkp)
     obtain ⟨p, hp⟩ : ∃ p, p = ps[k] := ⟨_, rfl⟩
     rw [← hp] at hcell HRD HDr
     have hpl : Ya (p.length ≤ 400000000) := ⟨by have := HTo.out; have := HRD.out; omega⟩
     have hf1 : Ylb.f (ofL p) ⟨#[34, 60, 62, 35, 63, 96, 123, 125]⟩ = some (ofL (Ydb Ynb p)) := by
      unfold Ylb.f
      rw [if_pos (by rw [Yta]; have := hpl.out; omega)]
      rfl
     have hf2 : Ywf.f (ofL (Ydb Ynb p)) = some (Yvf (Ydb Ynb p) : Int) :=
      dots_f _ (by rw [Yta]; have := Yyf Ynb p; have := hpl.out; omega)
     have HF1 := Ya.mk hf1
     have HF2 := Ya.mk hf2
     have HQl := Ya.mk (Yyf Ynb p)
     have HE3 := Ya.mk (HE2.out.below HB.out)
     have HST := Ya.mk (fun last => (rfl : Ymb last out p = _))
     have HSL := Ya.mk (fun last => Yhi last out p)
     obtain ⟨q, hq⟩ : ∃ q, q = Ydb Ynb p := ⟨_, rfl⟩
     obtain ⟨n, hn⟩ : ∃ n, n = Yvf q := ⟨_, rfl⟩
     have hn3 : n = 0 ∨ n = 1 ∨ n = 2 := by
      rw [hn]; unfold Yvf
      split
      ·omega
      ·split <;> omega
     rw [← hq] at HF1 HF2 HQl
     rw [← hn] at HF2
     have HN := Ya.mk hn
     have HQ := Ya.mk hq
     clear hf1 hf2 hp hq hn
     go_wp2_with fail
     refine (Ylb.calls _ _ _ _ HE3.out HF1.out).mono ?_
     rintro e w3 ⟨rfl, hb3⟩
     have HE4 := Ya.mk (HE3.out.below hb3)
     have HB3 := Ya.mk (HB.out.trans (hb3.mono HB.out.size))
     have HO3 := Ya.mk (Yki HO.out hb3)
     clear hb3
     go_wp2_with fail
     refine (Ywf.calls _ _ _ HE4.out HF2.out).mono ?_
     rintro e w4 ⟨rfl, hb4⟩
     have HE5 := Ya.mk (HE4.out.below hb4)
     have HB4 := Ya.mk (HB3.out.trans (hb4.mono HB3.out.size))
     have HO4 := Ya.mk (Yki HO3.out hb4)
     clear hb4 hcell hlt
     have HPO2 := Ya.mk (show Yjb (ps.drop (k + 1)) (Ymb (ps.drop (k + 1)).isEmpty out p) = Yjb ps [] by
      have := HPO.out
      rw [HDr.out, Yjb] at this; exact this)
     have HLast := Ya.mk (show (ps.drop (k + 1)).isEmpty = decide (k + 1 = m) by
      have := HMl.out
      rw [Bool.eq_iff_iff, List.isEmpty_iff, List.drop_eq_nil_iff, decide_eq_true_iff]
      omega)
     have hol2 := HTo.out
     have htl := Yyj out
     have hHSL := HSL.out (ps.drop (k + 1)).isEmpty
     have hR3 := HRD.out
     have HT2 := Ya.mk (show tot (Ymb (ps.drop (k + 1)).isEmpty out p) + room (ps.drop (k + 1)) ≤ 3 * a0.size + 3 by omega)
     have HL2 := Ya.mk (show (Ymb (ps.drop (k + 1)).isEmpty out p).length ≤ 1000000000 by
      have := Yyj (Ymb (ps.drop (k + 1)).isEmpty out p); have := HT2.out; omega)
     clear hol2 htl hHSL hR3 HSL HST HTo HPO HRD HDr HF1 HF2
     rcases hn3 with rfl | rfl | rfl
     ·have hst := Ypk (last := (ps.drop (k + 1)).isEmpty) (out := out) (p := p) (by rw [← HQ.out, ← HN.out])
      rw [hst, ← HQ.out] at HPO2 HT2 HL2
      clear hst
      go_wp2_with (at_builtin; go_must (refine Yxd (w0 := w2) w2.heap.size rfl _ _ 28 9 (.string ⟨#[]⟩) 16 rfl Tryz.underlying28 Ycj rfl Zq u4 (out.map fun x => Value.string (ofL x)) (.string (ofL q)) rfl rfl rfl (by simpa [OwnS] using HO4.out) HB4.out HB4.out.size (by simp only [List.length_map, List.length_take]; omega) ?_); intro v1 w5 hown5 hB5 _ _)
      have HO5 := Ya.mk hown5
      have HB5 := Ya.mk hB5
      clear hown5 hB5
      go_wp2
      go_roundg g2
      case measure => omega
      case rel => exact ⟨k + 1, out ++ [q], Zk, Zk, by go_num, HL2.out, ⟨by simpa [OwnS] using HO5.out⟩, HB5, HPO2, HT2⟩
     ·have hst := Ycp (last := (ps.drop (k + 1)).isEmpty) (out := out) (p := p) (by rw [← HQ.out, ← HN.out])
      rw [hst, HLast.out] at HPO2 HT2 HL2
      clear hst
      by_cases hl : k + 1 = m
      ·have hl1 : ((k : Int) == (m : Int) - 1) = true := beq_iff_eq.2 Zk
       rw [if_pos Zua] at HPO2 HT2 HL2
       go_wp2_with (at_builtin; go_must (refine Yxd (w0 := w2) w2.heap.size rfl _ _ 28 9 (.string ⟨#[]⟩) 16 rfl Tryz.underlying28 Ycj rfl Zq u4 (out.map fun x => Value.string (ofL x)) (.string (ofL [])) rfl rfl rfl (by simpa [OwnS] using HO4.out) HB4.out HB4.out.size (by simp only [List.length_map, List.length_take]; omega) ?_); intro v1 w5 hown5 hB5 _ _)
       have HO5 := Ya.mk hown5
       have HB5 := Ya.mk hB5
       clear hown5 hB5
       go_wp2
       go_roundg g2
       case measure => omega
       case rel => exact ⟨k + 1, out ++ [[]], Zk, Zk, by go_num, HL2.out, ⟨by simpa [OwnS] using HO5.out⟩, HB5, HPO2, HT2⟩
      ·have hl1 : ((k : Int) == (m : Int) - 1) = false := beq_eq_false_iff_ne.2 Zk
       rw [if_neg Zua] at HPO2 HT2 HL2
       go_wp2
       go_roundg g2
       case measure => omega
       case rel => exact ⟨k + 1, out, Zk, Zk, by go_num, HL2.out, HO4, HB4, HPO2, HT2⟩
     ·have hst := Yno (last := (ps.drop (k + 1)).isEmpty) (out := out) (p := p) (by rw [← HQ.out, ← HN.out])
      rw [hst, HLast.out] at HPO2 HT2 HL2
      clear hst
      have hshape : (u4 = .slice none 0 0 ∧ out = []) ∨ (∃ gg cc, u4 = .slice (some ⟨gg, 0, none⟩) 0 cc ∧ out = [] ∧ cc ≤ 9223372036854775807) ∨ (∃ gg cc L, u4 = .slice (some ⟨gg, 0, none⟩) (L + 1) cc ∧ out.length = L + 1 ∧ L + 1 ≤ cc ∧ cc ≤ 9223372036854775807) := by
       rcases HO4.out.2 with ⟨h1, h0⟩ | ⟨gg, cc, cur, h1, hgb, hgh, hgn, hgc, hgs, hgt⟩
       ·exact .inl ⟨h1, List.eq_nil_of_length_eq_zero h0⟩
       ·by_cases h0 : out.length = 0
        ·exact .inr (.inl ⟨gg, cc, by rw [h1, h0], List.eq_nil_of_length_eq_zero h0, by unfold maxLen at hgc; omega⟩)
        ·exact .inr (.inr ⟨gg, cc, out.length - 1, by rw [h1]; congr 1; omega, Zk, Zk, by unfold maxLen at hgc; omega⟩)
      rcases hshape with ⟨rfl, rfl⟩ | ⟨gg, cc, rfl, rfl, hcc⟩ | ⟨gg, cc, L, rfl, hL, hLc, hcc⟩
      ·have HOt := Ya.mk (show OwnS w4 w2.heap.size (.slice none 0 0) [] from HO4.out)
       replace HPO2 := Ya.mk (show Yjb (ps.drop (k + 1)) (if decide (k + 1 = m) = true then [] ++ [[]] else []) = Yjb ps [] from HPO2.out)
       replace HT2 := Ya.mk (show tot (if decide (k + 1 = m) = true then [] ++ [[]] else []) + room (ps.drop (k + 1)) ≤ 3 * a0.size + 3 from HT2.out)
       replace HL2 := Ya.mk (show (if decide (k + 1 = m) = true then [] ++ [[]] else [] : List (List UInt8)).length ≤ 1000000000 from HL2.out)
       by_cases hl : k + 1 = m
       ·have hl1 : ((k : Int) == (m : Int) - 1) = true := beq_iff_eq.2 Zk
        rw [if_pos Zua] at HPO2 HT2 HL2
        go_wp2_with (at_builtin; go_must (refine Yxd (w0 := w2) w2.heap.size rfl _ _ 28 9 (.string ⟨#[]⟩) 16 rfl Tryz.underlying28 Ycj rfl Zq (.slice none 0 0) (([] : List (List UInt8)).map fun x => Value.string (ofL x)) (.string ⟨#[]⟩) rfl rfl rfl (by simpa [OwnS] using HOt.out) HB4.out HB4.out.size Zka ?_); intro v1 w5 hown5 hB5 _ _)
        have HO5 := Ya.mk hown5
        have HB5 := Ya.mk hB5
        clear hown5 hB5
        go_wp2
        go_roundg g2
        case measure => omega
        case rel => exact ⟨k + 1, ([] : List (List UInt8)) ++ [[]], Zk, Zk, by go_num, HL2.out, ⟨by simpa [OwnS, ofL] using HO5.out⟩, HB5, HPO2, HT2⟩
       ·have hl1 : ((k : Int) == (m : Int) - 1) = false := beq_eq_false_iff_ne.2 Zk
        rw [if_neg Zua] at HPO2 HT2 HL2
        go_wp2
        go_roundg g2
        case measure => omega
        case rel => exact ⟨k + 1, ([] : List (List UInt8)), Zk, Zk, by go_num, HL2.out, HOt, HB4, HPO2, HT2⟩
      ·have HOt := Ya.mk (show OwnS w4 w2.heap.size (.slice (some ⟨gg, 0, none⟩) 0 cc) [] from HO4.out)
       replace HPO2 := Ya.mk (show Yjb (ps.drop (k + 1)) (if decide (k + 1 = m) = true then [] ++ [[]] else []) = Yjb ps [] from HPO2.out)
       replace HT2 := Ya.mk (show tot (if decide (k + 1 = m) = true then [] ++ [[]] else []) + room (ps.drop (k + 1)) ≤ 3 * a0.size + 3 from HT2.out)
       replace HL2 := Ya.mk (show (if decide (k + 1 = m) = true then [] ++ [[]] else [] : List (List UInt8)).length ≤ 1000000000 from HL2.out)
       by_cases hl : k + 1 = m
       ·have hl1 : ((k : Int) == (m : Int) - 1) = true := beq_iff_eq.2 Zk
        rw [if_pos Zua] at HPO2 HT2 HL2
        go_wp2_with (at_builtin; go_must (refine Yxd (w0 := w2) w2.heap.size rfl _ _ 28 9 (.string ⟨#[]⟩) 16 rfl Tryz.underlying28 Ycj rfl Zq (.slice (some ⟨gg, 0, none⟩) 0 cc) (([] : List (List UInt8)).map fun x => Value.string (ofL x)) (.string ⟨#[]⟩) rfl rfl rfl (by simpa [OwnS] using HOt.out) HB4.out HB4.out.size Zka ?_); intro v1 w5 hown5 hB5 _ _)
        have HO5 := Ya.mk hown5
        have HB5 := Ya.mk hB5
        clear hown5 hB5
        go_wp2
        go_roundg g2
        case measure => omega
        case rel => exact ⟨k + 1, ([] : List (List UInt8)) ++ [[]], Zk, Zk, by go_num, HL2.out, ⟨by simpa [OwnS, ofL] using HO5.out⟩, HB5, HPO2, HT2⟩
       ·have hl1 : ((k : Int) == (m : Int) - 1) = false := beq_eq_false_iff_ne.2 Zk
        rw [if_neg Zua] at HPO2 HT2 HL2
        go_wp2
        go_roundg g2
        case measure => omega
        case rel => exact ⟨k + 1, ([] : List (List UInt8)), Zk, Zk, by go_num, HL2.out, HOt, HB4, HPO2, HT2⟩
      ·have HOt := Ya.mk (show OwnS w4 w2.heap.size (.slice (some ⟨gg, 0, none⟩) L cc) (out.take (out.length - 1)) from by
        have := HO4.out
        rw [← hL] at this
        have h3 := OwnS.take this L Zk
        rw [show out.length - 1 = L by omega]; exact h3)
       have hL2 := Ya.mk hL
       clear hL
       by_cases hl : k + 1 = m
       ·have hl1 : ((k : Int) == (m : Int) - 1) = true := beq_iff_eq.2 Zk
        rw [if_pos Zua] at HPO2 HT2 HL2
        go_wp2_with (at_builtin; go_must (refine Yxd (w0 := w2) w2.heap.size rfl _ _ 28 9 (.string ⟨#[]⟩) 16 rfl Tryz.underlying28 Ycj rfl Zq (.slice (some ⟨gg, 0, none⟩) L cc) ((out.take (out.length - 1)).map fun x => Value.string (ofL x)) (.string ⟨#[]⟩) rfl rfl rfl (by simpa [OwnS] using HOt.out) HB4.out HB4.out.size Zka ?_); intro v1 w5 hown5 hB5 _ _)
        have HO5 := Ya.mk hown5
        have HB5 := Ya.mk hB5
        clear hown5 hB5
        go_wp2
        go_roundg g2
        case measure => omega
        case rel => exact ⟨k + 1, (out.take (out.length - 1)) ++ [[]], Zk, Zk, by go_num, HL2.out, ⟨by simpa [OwnS, ofL] using HO5.out⟩, HB5, HPO2, HT2⟩
       ·have hl1 : ((k : Int) == (m : Int) - 1) = false := beq_eq_false_iff_ne.2 Zk
        rw [if_neg Zua] at HPO2 HT2 HL2
        go_wp2
        go_roundg g2
        case measure => omega
        case rel => exact ⟨k + 1, (out.take (out.length - 1)), Zk, Zk, by go_num, HL2.out, HOt, HB4, HPO2, HT2⟩
 ·rw [if_neg hs] at h; cases h
end Go.Proofs.YtfmjnmglagdcdaaGreatDoor.X
