import Derived.Test.YtnmglnglbdpjjaaGreatDoorUfQb
set_option linter.all false
namespace Go.Proofs.YtnmglnglbdpjjaaGreatDoor.X
open Go.RowKit Go.Lib Go.Shelf Go.Yw.PrintWords Go.Yw.PrintLast Go.Yw.PrintMore
attribute [local go_sem] Yfe Ybe Yre Yue Yld Ykd Yee Yde
def Ydj.f (a0 : Y) : Option Y := if a0.size ≤ 100000000 then some (ofL (Yxe a0.data.toList)) else none
set_option maxHeartbeats 8000000 in
set_option maxRecDepth 100000 in
theorem Ydj.calls (a0 r : Y) (w : World) (hE : EnvOk w) (h : Ydj.f a0 = some r) :
  Calls Tryz.prog 23 #[.string a0] w fun e w' => e = .returned (.string r) ∧ Below w.heap.size w w' := by
 unfold Ydj.f at h
 by_cases hs : a0.size ≤ 100000000
 ·rw [if_pos hs] at h
  obtain rfl := Kv h
  have HE := Ya.mk hE
  have uT : strings_ReplaceAll.f a0 ⟨#[92]⟩ ⟨#[47]⟩ = some (ofL (Yxc a0.data.toList)) := by
   unfold strings_ReplaceAll.f
   have := countB_le a0 ⟨#[92]⟩
   rw [if_pos ⟨Zk, by show 1 ≤ 1; omega, by show a0.size + _ * 1 ≤ _; omega⟩]
   show some (ofL (Lib.replaceAll a0.data.toList [92] [47])) = _
   rw [Yaq]
  have iZ : Ylb.f ((ofL (Yxc a0.data.toList)).size + 1) (ofL (Yxc a0.data.toList)) 47 = some ((splitB 47 (Yxc a0.data.toList)).map ofL) :=
   split_f (ofL (Yxc a0.data.toList)) 47 (by rw [Yy, Ydl, ← Lib.size_eq]; omega)
  have zT := Ya.mk uT
  have lO := Ya.mk iZ
  have HSn := Ya.mk (Ytf 47 (Yxc a0.data.toList))
  have HRoom := Ya.mk (Yoi a0.data.toList)
  have HP := Ya.mk (show Yhd a0.data.toList = if decide (1 < (splitB 47 (Yxc a0.data.toList)).length) && ((splitB 47 (Yxc a0.data.toList)).headD []).isEmpty then (splitB 47 (Yxc a0.data.toList)).tail else splitB 47 (Yxc a0.data.toList) from rfl)
  have HPL := Ya.mk (show Yxe a0.data.toList = 47 :: Lib.join (Ysc (Yhd a0.data.toList) []) [47] from rfl)
  obtain ⟨ps, hps⟩ : ∃ ps, ps = Yhd a0.data.toList := ⟨_, rfl⟩
  obtain ⟨sp, hsp⟩ : ∃ sp, sp = splitB 47 (Yxc a0.data.toList) := ⟨_, rfl⟩
  obtain ⟨R, hR⟩ : ∃ R, R = Yxe a0.data.toList := ⟨_, rfl⟩
  rw [← hsp] at lO HSn HP
  rw [← hps] at HP HPL HRoom
  rw [← hR] at HPL ⊢
  rw [← Lib.size_eq] at HRoom
  clear hE h uT iZ hps hsp hR
  go_enter Tryz.func23, Tryz.ntmps23
  go_wp2_with fail
  refine (strings_ReplaceAll.calls a0 ⟨#[92]⟩ ⟨#[47]⟩ _ _ HE.out zT.out).mono ?_
  rintro e w1 ⟨rfl, lS⟩
  have iB := Ya.mk lS
  have lM := Ya.mk (HE.out.below lS)
  clear lS
  go_wp2_with fail
  refine (Ylb.calls _ _ _ _ _ lM.out lO.out).mono ?_
  rintro e w2 ⟨v0, rfl, hr2, bU⟩
  have eL := Ya.mk (iB.out.trans (bU.mono iB.out.size))
  have uQ := Ya.mk (lM.out.below bU)
  obtain ⟨g, cap, rfl, yX, tL, hgb, hrow⟩ := Ygo hr2 HSn.out
  have HROW := Ya.mk hrow
  have hglt : Ya (g < w2.heap.size) := ⟨by
   have h0 : 0 < sp.length := List.length_pos_iff.2 HSn.out
   exact lt_of_cell (hrow 0 h0)⟩
  clear hr2 bU hrow hgb
  unfold maxLen at tL
  have key : (∃ x0 : Y, ¬ cap = 1 ∧ decide ((1 : Int) < (sp.length : Int)) = true ∧ w2.cell? ⟨g, 0, none⟩ = some (.string x0) ∧ (x0.toList == []) = true ∧ x0.toList.isEmpty = true ∧ Ya (RowS w2 g 1 ps) ∧ Ya (sp.length - 1 = ps.length)) ∨
    (∃ x0 : Y, decide ((1 : Int) < (sp.length : Int)) = true ∧ w2.cell? ⟨g, 0, none⟩ = some (.string x0) ∧ (x0.toList == []) = false ∧ x0.toList.isEmpty = false ∧ Ya (RowS w2 g 0 ps) ∧ Ya (sp.length = ps.length)) ∨
    (decide ((1 : Int) < (sp.length : Int)) = false ∧ decide (1 < sp.length) = false ∧ Ya (RowS w2 g 0 ps) ∧ Ya (sp.length = ps.length)) := by
   by_cases h1 : 1 < sp.length
   ·have d1 : decide ((1 : Int) < (sp.length : Int)) = true := Kr Zk
    have oT := HROW.out 0 Zk
    rw [Nat.zero_add] at oT
    have hP := HP.out
    rw [decide_eq_true h1, Bool.true_and] at hP
    cases sp with
    | nil => exact absurd h1 Zv
    | cons x sp' =>
     cases x with
     | nil =>
      left
      refine ⟨ofL [], Zk, d1, oT, by rw [Ywc]; rfl, by rw [Ywc]; rfl, ⟨?_⟩, ⟨?_⟩⟩
      ·rw [hP]; exact HROW.out.tail
      ·rw [hP]; rfl
     | cons b x' =>
      right; left
      refine ⟨ofL (b :: x'), d1, oT, by rw [Ywc]; rfl, by rw [Ywc]; rfl, ⟨?_⟩, ⟨?_⟩⟩
      ·rw [hP]; exact HROW.out
      ·rw [hP]; rfl
   ·right; right
    have hP := HP.out
    rw [decide_eq_false h1, Bool.false_and] at hP
    exact ⟨Ks Zk, Ks h1, ⟨by rw [hP]; exact HROW.out⟩, ⟨by rw [hP]; rfl⟩⟩
  have jG : 1 ≤ sp.length := List.length_pos_iff.2 HSn.out
  clear HROW HP
  rcases key with ⟨x0, cB, d1, oT, e1, e2, HRP, HM⟩ | ⟨x0, d1, oT, e1, e2, HRP, HM⟩ | ⟨d1, d2, HRP, HM⟩
  all_goals
   go_wp2
   obtain ⟨m, hm⟩ : ∃ m, m = ps.length := ⟨_, rfl⟩
   rw [← hm] at HM
   simp only [HM.out]
   have HMl := Ya.mk hm
   have hmb : m ≤ 1000000000 := by have := Ygk ps; have := HRoom.out; omega
   clear hm jG
   go_loopg [4, 5, 6, 7, 24, 33, 40] m (fun g2 v4 _ _ _ v24 _ _ wx => ∃ (k : Nat) (out : List (List UInt8)), k + g2 ≤ m ∧ m ≤ k + g2 ∧ v24 = .int .i64 (k : Int) ∧ out.length ≤ 1000000000 ∧ Ya (OwnS wx w2.heap.size v4 out) ∧ Ya (Below w2.heap.size w2 wx) ∧ Ya (Ysc (ps.drop k) out = Ysc ps []) ∧ Ya (tot out + room (ps.drop k) ≤ 3 * a0.size + 3))
   case atStart => exact ⟨0, [], Zk, Zk, rfl, Zv, ⟨World.ownsRow_nil _ _ _ _⟩, ⟨Below.refl _ _⟩, ⟨rfl⟩, ⟨by simpa [tot] using HRoom.out⟩⟩
   case round =>
    obtain ⟨k, out, uR, hk2, rfl, hol, HO, HB, HPO, HTo⟩ := hrel
    cases gk with
    | zero =>
     obtain rfl : k = m := by omega
     have hlt : decide ((k : Int) < (k : Int)) = false := Ks Zk
     have hfin := HPO.out
     rw [HMl.out, List.drop_eq_nil_of_le (Nat.le_refl _), Ysc] at hfin
     have hjl := Ytn out
     have htl := HTo.out
     have hj : strings_Join.f (out.map ofL) ⟨#[47]⟩ = some (ofL (Lib.join out [47])) := by
      unfold strings_Join.f
      have e : (out.map ofL).map (·.data.toList) = out := by rw [List.map_map]; exact List.map_id' out
      rw [e, if_pos ⟨Zsb, by show (Lib.join out [47]).length ≤ _; omega⟩]
     have HJ := Ya.mk hj
     have HEx := Ya.mk (uQ.out.below HB.out)
     have HFin := Ya.mk hfin
     have hjs : (ofL (Lib.join out [47])).size ≤ 1000000000 := by rw [Yy]; omega
     clear hj hfin hjl htl
     have aDK : out.length ≤ 1000000000 := hol
     rcases HO.out.2 with ⟨rfl, h0⟩ | ⟨gg, cc, cur, rfl, hgb, hgh, hgn, hgc, hgs, hgt⟩
     ·have qJ : out = [] := List.eq_nil_of_length_eq_zero h0
      subst qJ
      go_wp2_with fail
      refine (strings_Join.calls none 0 [] ⟨#[47]⟩ _ _ HEx.out (Kd.C_nil _ _) (Kw _) HJ.out).mono ?_
      rintro e w5 ⟨rfl, hb5⟩
      have cM := Ya.mk (eL.out.trans ((HB.out.trans (hb5.mono HB.out.size)).mono eL.out.size))
      clear hb5
      go_wp2
      go_ret
      refine ⟨?_, cM.out⟩
      rw [HPL.out, ← HFin.out]; rfl
     ·have hC : Kd.C Kd.string wr (some ⟨gg, 0, none⟩) (out.map ofL).length (out.map ofL) := by
       refine Kd.C_of_reads (enc := Value.string) (d := ByteArray.empty) (h1 := fun _ => rfl) ⟨rfl, Zsb, fun hp => ⟨_, rfl, fun j hj => ?_⟩⟩
       rw [List.length_map] at hj
       have h3 : (cur.toList.take (out.length * 1))[j]? = some (.string (ofL out[j])) := by
        rw [hgt, List.getElem?_map, List.getElem?_eq_getElem hj]; rfl
       rw [List.getElem?_take, if_pos Zk] at h3
       rw [show (Addr.add ⟨gg, 0, none⟩ j) = ⟨gg, j, none⟩ from by unfold Addr.add; split <;> simp_all]
       unfold World.cell?
       rw [hgh]
       rw [List.getD_eq_getElem?_getD, List.getElem?_map, List.getElem?_eq_getElem hj]
       simpa using h3
      have HCC := Ya.mk hC
      have HLm := Ya.mk (show (out.map ofL).length = out.length from List.length_map _)
      unfold maxLen at hgc
      clear hC hgh hgt hgs
      go_wp2_with fail
      have hcall := strings_Join.calls (some ⟨gg, 0, none⟩) cc (out.map ofL) ⟨#[47]⟩ _ wr HEx.out HCC.out (by rw [HLm.out]; exact hgn) HJ.out
      rw [HLm.out] at hcall
      refine hcall.mono ?_
      clear hcall
      rintro e w5 ⟨rfl, hb5⟩
      have cM := Ya.mk (eL.out.trans ((HB.out.trans (hb5.mono HB.out.size)).mono eL.out.size))
      clear hb5
      go_wp2
      go_ret
      refine ⟨?_, cM.out⟩
      rw [HPL.out, ← HFin.out]; rfl
    | succ g2 =>
     have hk : k < m := by omega
     have hkp : k < ps.length := by have := HMl.out; omega
     have hlt : decide ((k : Int) < (m : Int)) = true := Kr Zk
     have hcell := (HRP.out.below HB.out) k hkp
     try simp only [Nat.zero_add] at hcell
     have HRD := Ya.mk (Ytm ps k hkp)
     have HDr := Ya.mk (List.drop_eq_getElem_cons hkp)
     obtain ⟨p, hp⟩ : ∃ p, p = ps[k] := ⟨_, rfl⟩
     rw [← hp] at hcell HRD HDr
     have hpl : Ya (p.length ≤ 400000000) := ⟨by have := HTo.out; have := HRD.out; omega⟩
     have uT : Yle.f (ofL p) ⟨#[34, 60, 62, 35, 63, 96, 123, 125]⟩ = some (ofL (Yic Yrc p)) := by
      unfold Yle.f
      rw [if_pos (by rw [Yy]; have := hpl.out; omega)]
      rfl
     have iZ : Yjj.f (ofL (Yic Yrc p)) = some (Yqg (Yic Yrc p) : Int) :=
      dots_f _ Zvb
     have zT := Ya.mk uT
     have lO := Ya.mk iZ
     have HQl := Ya.mk (Ych Yrc p)
     have HE3 := Ya.mk (uQ.out.below HB.out)
     have HST := Ya.mk (fun last => (rfl : Ydd last out p = _))
     have HSL := Ya.mk (fun last => Yji last out p)
     obtain ⟨q, hq⟩ : ∃ q, q = Yic Yrc p := ⟨_, rfl⟩
     obtain ⟨n, hn⟩ : ∃ n, n = Yqg q := ⟨_, rfl⟩
     have hn3 : n = 0 ∨ n = 1 ∨ n = 2 := by
      rw [hn]; unfold Yqg
      split
      ·omega
      ·split <;> omega
     rw [← hq] at zT lO HQl
     rw [← hn] at lO
     have HN := Ya.mk hn
     have HQ := Ya.mk hq
     clear uT iZ hp hq hn
     go_wp2_with fail
     refine (Yle.calls _ _ _ _ HE3.out zT.out).mono ?_
     rintro e w3 ⟨rfl, gN⟩
     have HE4 := Ya.mk (HE3.out.below gN)
     have eF := Ya.mk (HB.out.trans (gN.mono HB.out.size))
     have HO3 := Ya.mk (Yyg HO.out gN)
     clear gN
     go_wp2_with fail
     refine (Yjj.calls _ _ _ HE4.out lO.out).mono ?_
     rintro e w4 ⟨rfl, kW⟩
     have HE5 := Ya.mk (HE4.out.below kW)
     have dL := Ya.mk (eF.out.trans (kW.mono eF.out.size))
     have lU := Ya.mk (Yyg HO3.out kW)
     clear kW hcell hlt
     have bY := Ya.mk (show Ysc (ps.drop (k + 1)) (Ydd (ps.drop (k + 1)).isEmpty out p) = Ysc ps [] by
      have := HPO.out
      rw [HDr.out, Ysc] at this; exact this)
     have HLast := Ya.mk (show (ps.drop (k + 1)).isEmpty = decide (k + 1 = m) by
      have := HMl.out
      rw [Bool.eq_iff_iff, List.isEmpty_iff, List.drop_eq_nil_iff, decide_eq_true_iff]
      omega)
     have aBC := HTo.out
     have htl := Ysg out
     have hHSL := HSL.out (ps.drop (k + 1)).isEmpty
     have hR3 := HRD.out
     have eE := Ya.mk (show tot (Ydd (ps.drop (k + 1)).isEmpty out p) + room (ps.drop (k + 1)) ≤ 3 * a0.size + 3 by omega)
     have eN := Ya.mk (show (Ydd (ps.drop (k + 1)).isEmpty out p).length ≤ 1000000000 by
      have := Ysg (Ydd (ps.drop (k + 1)).isEmpty out p); have := eE.out; omega)
     clear aBC htl hHSL hR3 HSL HST HTo HPO HRD HDr zT lO
     rcases hn3 with rfl | rfl | rfl
     ·have hst := Ypj (last := (ps.drop (k + 1)).isEmpty) (out := out) (p := p) Zjb
      rw [hst, ← HQ.out] at bY eE eN
      clear hst
      go_wp2_with (at_builtin; go_must (refine Ywd (w0 := w2) w2.heap.size rfl _ _ 44 9 (.string ⟨#[]⟩) 16 rfl Tryz.underlying44 Yog rfl Zca u4 (out.map fun x => Value.string (ofL x)) (.string (ofL q)) rfl rfl rfl (by simpa [OwnS] using lU.out) dL.out dL.out.size (by simp only [List.length_map, List.length_take]; omega) ?_); intro v1 w5 cV gW _ _)
      have HO5 := Ya.mk cV
      have cM := Ya.mk gW
      clear cV gW
      go_wp2
      go_roundg g2
      case measure => omega
      case rel => exact ⟨k + 1, out ++ [q], Zk, Zk, by go_num, eN.out, ⟨by simpa [OwnS] using HO5.out⟩, cM, bY, eE⟩
     ·have hst := Yyl (last := (ps.drop (k + 1)).isEmpty) (out := out) (p := p) Zjb
      rw [hst, HLast.out] at bY eE eN
      clear hst
      by_cases hl : k + 1 = m
      ·have jY : ((k : Int) == (m : Int) - 1) = true := beq_iff_eq.2 Zk
       rw [if_pos Zbb] at bY eE eN
       go_wp2_with (at_builtin; go_must (refine Ywd (w0 := w2) w2.heap.size rfl _ _ 44 9 (.string ⟨#[]⟩) 16 rfl Tryz.underlying44 Yog rfl Zca u4 (out.map fun x => Value.string (ofL x)) (.string (ofL [])) rfl rfl rfl (by simpa [OwnS] using lU.out) dL.out dL.out.size (by simp only [List.length_map, List.length_take]; omega) ?_); intro v1 w5 cV gW _ _)
       have HO5 := Ya.mk cV
       have cM := Ya.mk gW
       clear cV gW
       go_wp2
       go_roundg g2
       case measure => omega
       case rel => exact ⟨k + 1, out ++ [[]], Zk, Zk, by go_num, eN.out, ⟨by simpa [OwnS] using HO5.out⟩, cM, bY, eE⟩
      ·have jY : ((k : Int) == (m : Int) - 1) = false := beq_eq_false_iff_ne.2 Zk
       rw [if_neg Zbb] at bY eE eN
       go_wp2
       go_roundg g2
       case measure => omega
       case rel => exact ⟨k + 1, out, Zk, Zk, by go_num, eN.out, lU, dL, bY, eE⟩
     ·have hst := Yrl (last := (ps.drop (k + 1)).isEmpty) (out := out) (p := p) Zjb
      rw [hst, HLast.out] at bY eE eN
      clear hst
      have hshape : (u4 = .slice none 0 0 ∧ out = []) ∨ (∃ gg cc, u4 = .slice (some ⟨gg, 0, none⟩) 0 cc ∧ out = [] ∧ cc ≤ 9223372036854775807) ∨ (∃ gg cc L, u4 = .slice (some ⟨gg, 0, none⟩) (L + 1) cc ∧ out.length = L + 1 ∧ L + 1 ≤ cc ∧ cc ≤ 9223372036854775807) := by
       rcases lU.out.2 with ⟨h1, h0⟩ | ⟨gg, cc, cur, h1, hgb, hgh, hgn, hgc, hgs, hgt⟩
       ·exact .inl ⟨h1, List.eq_nil_of_length_eq_zero h0⟩
       ·by_cases h0 : out.length = 0
        ·exact .inr (.inl ⟨gg, cc, by rw [h1, h0], List.eq_nil_of_length_eq_zero h0, by unfold maxLen at hgc; omega⟩)
        ·exact .inr (.inr ⟨gg, cc, out.length - 1, by rw [h1]; congr 1; omega, Zk, Zk, by unfold maxLen at hgc; omega⟩)
      rcases hshape with ⟨rfl, rfl⟩ | ⟨gg, cc, rfl, rfl, hcc⟩ | ⟨gg, cc, L, rfl, hL, hLc, hcc⟩
      ·have HOt := Ya.mk (show OwnS w4 w2.heap.size (.slice none 0 0) [] from lU.out)
       replace bY := Ya.mk (show Ysc (ps.drop (k + 1)) (if decide (k + 1 = m) = true then [] ++ [[]] else []) = Ysc ps [] from bY.out)
       replace eE := Ya.mk (show tot (if decide (k + 1 = m) = true then [] ++ [[]] else []) + room (ps.drop (k + 1)) ≤ 3 * a0.size + 3 from eE.out)
       replace eN := Ya.mk (show (if decide (k + 1 = m) = true then [] ++ [[]] else [] : List (List UInt8)).length ≤ 1000000000 from eN.out)
       by_cases hl : k + 1 = m
       ·have jY : ((k : Int) == (m : Int) - 1) = true := beq_iff_eq.2 Zk
        rw [if_pos Zbb] at bY eE eN
        go_wp2_with (at_builtin; go_must (refine Ywd (w0 := w2) w2.heap.size rfl _ _ 44 9 (.string ⟨#[]⟩) 16 rfl Tryz.underlying44 Yog rfl Zca (.slice none 0 0) (([] : List (List UInt8)).map fun x => Value.string (ofL x)) (.string ⟨#[]⟩) rfl rfl rfl (by simpa [OwnS] using HOt.out) dL.out dL.out.size Zkb ?_); intro v1 w5 cV gW _ _)
        have HO5 := Ya.mk cV
        have cM := Ya.mk gW
        clear cV gW
        go_wp2
        go_roundg g2
        case measure => omega
        case rel => exact ⟨k + 1, ([] : List (List UInt8)) ++ [[]], Zk, Zk, by go_num, eN.out, ⟨by simpa [OwnS, ofL] using HO5.out⟩, cM, bY, eE⟩
       ·have jY : ((k : Int) == (m : Int) - 1) = false := beq_eq_false_iff_ne.2 Zk
        rw [if_neg Zbb] at bY eE eN
        go_wp2
        go_roundg g2
        case measure => omega
        case rel => exact ⟨k + 1, ([] : List (List UInt8)), Zk, Zk, by go_num, eN.out, HOt, dL, bY, eE⟩
      ·have HOt := Ya.mk (show OwnS w4 w2.heap.size (.slice (some ⟨gg, 0, none⟩) 0 cc) [] from lU.out)
       replace bY := Ya.mk (show Ysc (ps.drop (k + 1)) (if decide (k + 1 = m) = true then [] ++ [[]] else []) = Ysc ps [] from bY.out)
       replace eE := Ya.mk (show tot (if decide (k + 1 = m) = true then [] ++ [[]] else []) + room (ps.drop (k + 1)) ≤ 3 * a0.size + 3 from eE.out)
       replace eN := Ya.mk (show (if decide (k + 1 = m) = true then [] ++ [[]] else [] : List (List UInt8)).length ≤ 1000000000 from eN.out)
       by_cases hl : k + 1 = m
       ·have jY : ((k : Int) == (m : Int) - 1) = true := beq_iff_eq.2 Zk
        rw [if_pos Zbb] at bY eE eN
        go_wp2_with (at_builtin; go_must (refine Ywd (w0 := w2) w2.heap.size rfl _ _ 44 9 (.string ⟨#[]⟩) 16 rfl Tryz.underlying44 Yog rfl Zca (.slice (some ⟨gg, 0, none⟩) 0 cc) (([] : List (List UInt8)).map fun x => Value.string (ofL x)) (.string ⟨#[]⟩) rfl rfl rfl (by simpa [OwnS] using HOt.out) dL.out dL.out.size Zkb ?_); intro v1 w5 cV gW _ _)
        have HO5 := Ya.mk cV
        have cM := Ya.mk gW
        clear cV gW
        go_wp2
        go_roundg g2
        case measure => omega
        case rel => exact ⟨k + 1, ([] : List (List UInt8)) ++ [[]], Zk, Zk, by go_num, eN.out, ⟨by simpa [OwnS, ofL] using HO5.out⟩, cM, bY, eE⟩
       ·have jY : ((k : Int) == (m : Int) - 1) = false := beq_eq_false_iff_ne.2 Zk
        rw [if_neg Zbb] at bY eE eN
        go_wp2
        go_roundg g2
        case measure => omega
        case rel => exact ⟨k + 1, ([] : List (List UInt8)), Zk, Zk, by go_num, eN.out, HOt, dL, bY, eE⟩
      ·have HOt := Ya.mk (show OwnS w4 w2.heap.size (.slice (some ⟨gg, 0, none⟩) L cc) (out.take (out.length - 1)) from by
        have := lU.out
        rw [← hL] at this
        have h3 := OwnS.take this L Zk
        rw [show out.length - 1 = L by omega]; exact h3)
       have hL2 := Ya.mk hL
       clear hL
       by_cases hl : k + 1 = m
       ·have jY : ((k : Int) == (m : Int) - 1) = true := beq_iff_eq.2 Zk
        rw [if_pos Zbb] at bY eE eN
        go_wp2_with (at_builtin; go_must (refine Ywd (w0 := w2) w2.heap.size rfl _ _ 44 9 (.string ⟨#[]⟩) 16 rfl Tryz.underlying44 Yog rfl Zca (.slice (some ⟨gg, 0, none⟩) L cc) ((out.take (out.length - 1)).map fun x => Value.string (ofL x)) (.string ⟨#[]⟩) rfl rfl rfl (by simpa [OwnS] using HOt.out) dL.out dL.out.size Zkb ?_); intro v1 w5 cV gW _ _)
        have HO5 := Ya.mk cV
        have cM := Ya.mk gW
        clear cV gW
        go_wp2
        go_roundg g2
        case measure => omega
        case rel => exact ⟨k + 1, (out.take (out.length - 1)) ++ [[]], Zk, Zk, by go_num, eN.out, ⟨by simpa [OwnS, ofL] using HO5.out⟩, cM, bY, eE⟩
       ·have jY : ((k : Int) == (m : Int) - 1) = false := beq_eq_false_iff_ne.2 Zk
        rw [if_neg Zbb] at bY eE eN
        go_wp2
        go_roundg g2
        case measure => omega
        case rel => exact ⟨k + 1, (out.take (out.length - 1)), Zk, Zk, by go_num, eN.out, HOt, dL, bY, eE⟩
 ·rw [if_neg hs] at h; cases h
end Go.Proofs.YtnmglnglbdpjjaaGreatDoor.X
