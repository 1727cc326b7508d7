/- Order: the walk. -/
import Derived.Test.YtfmjnmglagdcdaaGreatDoorCHWords
import Derived.Test.YtfmjnmglagdcdaaGreatDoorCHCo
namespace Go.Proofs.YtfmjnmglagdcdaaGreatDoor.X
open Go.RowKit Go.Lib Go.Shelf Go.Yw.PrintWords Go.Yw.PrintLast Go.Yw.PrintMore
set_option linter.unusedVariables false
set_option linter.unusedSimpArgs false
theorem cb_of {ps : List ChP} {i : Nat} {p : ChP} (h : ps[i]? = some p) : cbI ps i = p.cb := by unfold cbI; rw [List.getD_eq_getElem?_getD, h]; rfl
theorem own_low {w : World} {base e size : Nat} {v : Value} {n : Nat} {xs : List Value} (h : w.ownsRow base e size v n xs) : w.ownsRow 0 e size v n xs := by
 rcases h with ⟨hl, h0 | ⟨g, cap, cur, hv, hg, r⟩⟩
 ·exact ⟨hl, .inl h0⟩
 ·exact ⟨hl, .inr ⟨g, cap, cur, hv, Nat.zero_le _, r⟩⟩
theorem any_at {us : List ByteArray} {f : ByteArray → Bool} {k : Nat} {x : ByteArray} (hx : us[k]? = some x) (h : f x = true) : us.any f = true := List.any_eq_true.2 ⟨x, List.mem_of_getElem? hx, h⟩
theorem none_any {us : List ByteArray} {f : ByteArray → Bool} (h : ∀ (i : Nat) (x : ByteArray), i < us.length → us[i]? = some x → f x = false) : us.any f = false := by
 rw [List.any_eq_false]
 intro x hx
 obtain ⟨i, hi, e⟩ := List.mem_iff_getElem.1 hx
 rw [h i x hi (by rw [List.getElem?_eq_getElem hi, e])]
 decide
theorem hasP_iff {ps : List ChP} (hnd : (ps.map (·.cb)).Nodup) {L : List Nat} (hL : ∀ i ∈ L, i < ps.length) {k : Nat} (hk : k < ps.length) : hasP (L.map (cbI ps)) (cbI ps k) = decide (k ∈ L) := by
 have hat : ∀ i, i < ps.length → (ps.map (·.cb))[i]? = some (cbI ps i) := fun i hi => by
  rw [List.getElem?_map, List.getElem?_eq_getElem hi]
  exact congrArg some (cb_of (List.getElem?_eq_getElem hi)).symm
 rw [Bool.eq_iff_iff, decide_eq_true_eq]
 unfold hasP
 rw [List.any_eq_true]
 constructor
 ·rintro ⟨x, hx, e⟩
  obtain ⟨i, hi, rfl⟩ := List.mem_map.1 hx
  have h1 := hat i (hL i hi)
  rw [beq_iff_eq.1 e] at h1
  have h2 := (List.getElem?_inj (by rw [List.length_map]; exact hL i hi) hnd).1 (h1.trans (hat k hk).symm)
  exact h2 ▸ hi
 ·intro h
  exact ⟨_, List.mem_map.2 ⟨k, h, rfl⟩, beq_self_eq_true _⟩
theorem ownsRow_le {w : World} {base e size : Nat} {A : Option Addr} {n c : Nat} {xs : List Value} (h : w.ownsRow base e size (.slice A n c) n xs) : n ≤ c := by
 obtain ⟨A2, c2, e2, h2, _⟩ := Ytb h
 injection e2 with _ _ e3
 omega
def OrderPost (w : World) (M : Nat → Prop) (bb : Nat) (r : Int × Bk) (e : Ending) (w' : World) : Prop := e = .returned (.int .i64 r.1) ∧ Then w M bb r.2 w'
set_option maxHeartbeats 8000000 in
set_option maxRecDepth 100000 in
theorem Ygo {w : World} {M : Nat → Prop} {bb : Nat} {s : Bk} {sv : Value} {ps : List ChP} {ow : Nat → Nat × Nat} (h : BookO w M bb s sv ps ow) (hsz : s.l.length ≤ 1000) (hn0 : 0 < s.l.length) (A : Option Addr) (cap : Nat) (us : List ByteArray) (hus : TextsAt w A cap us) (hul : us.length ≤ 100000) (hcap : cap ≤ 9223372036854775807) :
  Calls Tryz.prog 19 #[.pointer (some ⟨bb, 0, none⟩), .slice A us.length cap] w fun e w' => OrderPost w M bb (Yqf s us) e w' := by
 have HOK := Ya.mk (Ydi h hn0)
 have H := Ya.mk h
 have HU := Ya.mk hus
 have hucap : us.length ≤ cap := hus.1
 clear h hus
 go_enter Tryz.func19, Tryz.ntmps19
 go_wp2_with fail
 refine HOK.out.mono ?_
 rintro e w0 ⟨rfl, rfl⟩
 go_wp2
 go_loopg [5, 7, 8, 9, 19, 23] us.length (fun gg t5 _ _ _ t19 _ wr => ∃ (k : Nat) (A2 : Option Addr) (c2 : Nat), k ≤ us.length ∧ us.length ≤ k + gg ∧ t5 = .slice A2 k c2 ∧ t19 = .int .i64 (k : Int) ∧ Ya (wr.ownsRow w.heap.size 59 1 (.slice A2 k c2) k ((Ybc s (us.take k)).map (fun i => pV (cbI ps i)))) ∧ Ya (Below w.heap.size w wr) ∧ Ya (∀ (i : Nat) (x : ByteArray), i < k → us[i]? = some x → Yoa s.l x < s.l.length))
 case atStart => exact ⟨0, none, 0, Nat.zero_le _, Zk, rfl, rfl, ⟨⟨rfl, .inl ⟨rfl, rfl⟩⟩⟩, ⟨Below.refl _ _⟩, ⟨fun i x h => absurd h (Nat.not_lt_zero _)⟩⟩
 case round =>
  obtain ⟨k, A2, c2, hk, hkg, rfl, rfl, HO, HB, HF⟩ := hrel
  by_cases hlt : k < us.length
  ·cases gk with
   | zero => omega
   | succ gn =>
    obtain ⟨x, hx⟩ : ∃ x, us[k]? = some x := ⟨_, List.getElem?_eq_getElem hlt⟩
    obtain ⟨b, o, rfl, hcx⟩ := HU.out.2 k x hx
    have hcx2 : wr.cell? ⟨b, o + k, none⟩ = some (.string x) := (HB.out.cell (p := ⟨b, o + k, none⟩) (lt_of_cell hcx)).trans hcx
    have HX := Ya.mk hx
    have h1 := H.out.below HB.out
    have HKZ := Ya.mk (show k ≤ 1000000 by omega)
    clear hx hcx
    by_cases hw : Yoa s.l x < s.l.length
    ·obtain ⟨p, hp⟩ : ∃ p, ps[Yoa s.l x]? = some p := ⟨_, List.getElem?_eq_getElem (by rw [H.out.len]; exact hw)⟩
     have HFS := Ya.mk (Yri h1 Zk x p hp)
     have HP := Ya.mk hp
     have HW := Ya.mk hw
     clear h1 hp hw
     go_wp2_with fail
     refine HFS.out.mono ?_
     rintro e w1 ⟨rfl, rfl⟩
     go_wp2_with (at_builtin; refine Yqm (W := wr) rfl (.tmp 32) (.tmp 34) 52 59 (.pointer none) 1 8 rfl Tryz.underlying52 Zg rfl Zq w.heap.size (.slice A2 k c2) k ((Ybc s (us.take k)).map (fun i => pV (cbI ps i))) [.pointer (some ⟨p.cb, 0, none⟩)] (by intro u hu; rw [List.mem_singleton.1 hu]; rfl) rfl rfl rfl HO.out HKZ.out Zq HB.out.size ?_; intro v1 w1 hown1 hg1 hat1; obtain ⟨A1, cap1, rfl, _, hbase1⟩ := Ytb hown1; have HO1 := Ya.mk hown1; have HB1 := Ya.mk (below_grown HB.out hg1 (Ytb HO.out).choose_spec.choose_spec.2.2 HB.out.size); clear hown1 hg1 hat1)
     go_roundg gn
     case measure => omega
     case rel =>
      refine ⟨k + 1, A1, cap1, Zk, Zk, rfl, by go_num, ⟨?_⟩, HB1, ⟨fun i y h1 h2 => ?_⟩⟩
      ·have e1 : (Ybc s (us.take (k + 1))).map (fun i => pV (cbI ps i)) = (Ybc s (us.take k)).map (fun i => pV (cbI ps i)) ++ [.pointer (some ⟨p.cb, 0, none⟩)] := by
        unfold Ybc
        rw [List.take_add_one, HX.out, List.map_append, List.map_append]
        show _ ++ [pV (cbI ps (Yoa s.l x))] = _
        rw [cb_of HP.out]
        rfl
       rw [e1]
       exact HO1.out
      ·by_cases e : i = k
       ·subst e; rw [HX.out] at h2; cases h2; exact HW.out
       ·exact HF.out i y Zk h2
    ·have HFS := Ya.mk (Ypl h1 hn0 Zk x hw)
     have HW := Ya.mk hw
     clear h1 hw
     go_wp2_with fail
     refine HFS.out.mono ?_
     rintro e w1 ⟨rfl, rfl⟩
     go_wp2
     go_ret
     have e1 : Yqf s us = (6, s) := by unfold Yqf; rw [if_pos (any_at HX.out (by rw [decide_eq_false HW.out]; rfl))]
     rw [e1]
     exact ⟨rfl, Then.of_below ⟨_, _, _, H.out⟩ HB.out⟩
  ·obtain rfl : k = us.length := by omega
   rw [List.take_length] at HO
   have HA1 := Ya.mk (none_any (f := fun u => !decide (Yoa s.l u < s.l.length)) (fun i x hi hx => by show (!decide _) = false; rw [decide_eq_true (HF.out i x hi hx)]; rfl))
   have HFA := Ya.mk (show ∀ u ∈ us, Yoa s.l u < s.l.length from fun u hu => by
    obtain ⟨i, hi, e⟩ := List.mem_iff_getElem.1 hu
    exact HF.out i u hi (by rw [List.getElem?_eq_getElem hi, e]))
   obtain ⟨wo, hwo⟩ : ∃ wo : World, wo = wr := ⟨_, rfl⟩
   subst hwo
   go_wp2
   go_loop [10, 11, 39] (fun _ _ t39 => ∃ k : Nat, k ≤ us.length ∧ t39 = .int .i64 (k : Int) ∧ Ya (∀ i, i < k → Lib.containsS (us.take i) (us.getD i ByteArray.empty) = false)) (fun _ _ t => us.length - (RowKit.intOf t).toNat)
   case atStart => exact ⟨0, Nat.zero_le _, rfl, ⟨fun i h => absurd h (Nat.not_lt_zero _)⟩⟩
   case round =>
    obtain ⟨k, hk2, rfl, HN⟩ := hrel
    by_cases hlt2 : k < us.length
    ·obtain ⟨x, hx⟩ : ∃ x, us[k]? = some x := ⟨_, List.getElem?_eq_getElem hlt2⟩
     obtain ⟨b, o, rfl, hcx⟩ := HU.out.2 k x hx
     have hcx2 : wo.cell? ⟨b, o + k, none⟩ = some (.string x) := (HB.out.cell (p := ⟨b, o + k, none⟩) (lt_of_cell hcx)).trans hcx
     have hxd : us.getD k ByteArray.empty = x := by rw [List.getD_eq_getElem?_getD, hx]; rfl
     have HXD := Ya.mk hxd
     have hcont : Calls Tryz.prog 22 #[.slice (some ⟨b, o, none⟩) k cap, .string x] wo fun e w' => e = .returned (.bool (Lib.containsS (us.take k) x)) ∧ w' = wo := by
      refine (Tryz.slices_Contains_string b o k cap us x wo Zk Zk (fun j hj => ?_))
      obtain ⟨b2, o2, e2, h2⟩ := HU.out.2 j _ (Ygm hj)
      injection e2 with e2
      injection e2 with e3 e4 _
      subst e3 e4
      exact (HB.out.cell (p := ⟨b, o + j, none⟩) (lt_of_cell h2)).trans h2
     have HCT := Ya.mk hcont
     clear hx hcx hxd hcont
     cases hq : Lib.containsS (us.take k) x with
     | true =>
      have HQ := Ya.mk hq
      have hct := HCT.out
      rw [hq] at hct
      clear hq
      go_wp2_with fail
      refine hct.mono ?_
      clear hct
      rintro e w1 ⟨rfl, rfl⟩
      go_wp2
      go_ret
      have e1 : Yqf s us = (7, s) := by
       unfold Yqf
       rw [if_neg (by rw [HA1.out]; decide), if_pos]
       unfold dupB
       exact List.any_eq_true.2 ⟨k, List.mem_range.2 hlt2, by rw [HXD.out]; exact HQ.out⟩
      rw [e1]
      exact ⟨rfl, Then.of_below ⟨_, _, _, H.out⟩ HB.out⟩
     | false =>
      have HQ := Ya.mk hq
      have hct := HCT.out
      rw [hq] at hct
      clear hq
      go_wp2_with fail
      refine hct.mono ?_
      clear hct
      rintro e w1 ⟨rfl, rfl⟩
      go_wp2
      go_round
      case rel =>
       refine ⟨k + 1, Zk, by go_num, ⟨fun i h1 => ?_⟩⟩
       by_cases e : i = k
       ·subst e; rw [HXD.out]; exact HQ.out
       ·exact HN.out i Zk
      case measure => simp [RowKit.intOf]; omega
    ·obtain rfl : k = us.length := by omega
     have HD := Ya.mk (show dupB us = false by
      unfold dupB
      rw [List.any_eq_false]
      intro i hi
      rw [HN.out i (List.mem_range.1 hi)]
      decide)
     have HL0 := Ya.mk (show (∀ i ∈ Ybc s us, i < s.l.length) ∧ (Ybc s us).Nodup from ⟨fun i hi => by
      obtain ⟨u, hu, rfl⟩ := List.mem_map.1 hi
      exact HFA.out u hu, Ybo HFA.out HD.out⟩)
     obtain ⟨g, cap3, hsv, hcap3, hcell, _⟩ := Yvd H.out.row hn0
     have HSV := Ya.mk hsv
     have HCL := Ya.mk hcell
     have hc1 := (HB.out.cell (p := ⟨bb, 1, none⟩) (Yx H.out.blk)).trans (H.out.sv_cell.trans (congrArg some hsv))
     have hlen0 : us.length = (ordI 0 (Ybc s us)).length := by show _ = (Ybc s us).length; unfold Ybc; rw [List.length_map]
     have HL := Ya.mk hlen0
     clear hsv hcell hlen0
     go_wp2
     clear hc1
     go_loopg [5, 13, 55] s.l.length (fun gg t5 _ t55 wr => ∃ (k : Nat) (A3 : Option Addr) (n3 c3 : Nat), k ≤ s.l.length ∧ s.l.length ≤ k + gg ∧ t5 = .slice A3 n3 c3 ∧ t55 = .int .i64 (k : Int) ∧ Ya (n3 = (ordI k (Ybc s us)).length) ∧ Ya (wr.ownsRow w.heap.size 59 1 (.slice A3 n3 c3) n3 ((ordI k (Ybc s us)).map (fun i => pV (cbI ps i)))) ∧ Ya (Below w.heap.size w wr))
     case atStart => exact ⟨0, A2, us.length, c2, Nat.zero_le _, Zk, rfl, rfl, HL, HO, HB⟩
     case round =>
      obtain ⟨k, A3, n3, c3, hk3, hkg3, rfl, rfl, HN3, HO3, HB3⟩ := hrel
      by_cases hlt3 : k < s.l.length
      ·cases gk with
       | zero => omega
       | succ gn =>
        obtain ⟨c, hc⟩ : ∃ c, s.l[k]? = some c := ⟨_, List.getElem?_eq_getElem hlt3⟩
        have hkp : k < ps.length := by rw [H.out.len]; exact hlt3
        obtain ⟨p, hp⟩ : ∃ p, ps[k]? = some p := ⟨_, List.getElem?_eq_getElem hkp⟩
        have hptr0 : w.cell? ⟨g, k, none⟩ = some (.pointer (some ⟨p.cb, 0, none⟩)) := HCL.out k _ (by rw [List.getElem?_map, hp]; rfl)
        have hptr : wr.cell? ⟨g, k, none⟩ = some (.pointer (some ⟨p.cb, 0, none⟩)) := (HB3.out.cell (p := ⟨g, k, none⟩) (lt_of_cell hptr0)).trans hptr0
        have hblkc : ∀ i, i < s.l.length → Blk wr (cbI ps i) := fun i hi => by
         have hip : i < ps.length := by rw [H.out.len]; exact hi
         have h1 := H.out.chs i _ _ (List.getElem?_eq_getElem hip) (List.getElem?_eq_getElem hi)
         rw [cb_of (List.getElem?_eq_getElem hip)]
         exact ⟨_, _, (HB3.out.block _ (Yx h1.blk)).trans h1.blk⟩
        have hlenk := ordI_len HL0.out.1 HL0.out.2 k hk3
        have hokk := Ycm HL0.out.1 HL0.out.2 k hk3
        have hc3 := ownsRow_le HO3.out
        have hct := Ybn ((ordI k (Ybc s us)).map (cbI ps)) (cbI ps k) A3 c3 wr (by rw [List.length_map, ← HN3.out]; omega) Zra (fun i x hx => by
         rw [List.getElem?_map] at hx
         obtain ⟨j, hj, rfl⟩ := Option.map_eq_some_iff.1 hx
         have hn3 : 0 < n3 := by rw [HN3.out]; have := (List.getElem?_eq_some_iff.1 hj).1; omega
         obtain ⟨g3, cc, e1, _, e2, _⟩ := Yvd (own_low HO3.out) hn3
         injection e1 with e1 _ _
         exact ⟨g3, e1, e2 i _ (by rw [List.getElem?_map, hj]; rfl)⟩) (hblkc k hlt3) (fun x hx => by
         obtain ⟨j, hj, rfl⟩ := List.mem_map.1 hx
         exact hblkc j (hokk.1 j hj))
        rw [List.length_map, ← HN3.out, hasP_iff H.out.nodup (fun i hi => by rw [H.out.len]; exact hokk.1 i hi) hkp, cb_of hp] at hct
        have HCT := Ya.mk hct
        have HPC := Ya.mk (cb_of hp)
        have HSU := Ya.mk (Yll k (Ybc s us))
        have HNZ := Ya.mk (show n3 ≤ 1000000 by rw [HN3.out]; omega)
        clear hct hptr0 hblkc hlenk hokk hc3 hp hc hkp
        by_cases hmem : k ∈ ordI k (Ybc s us)
        ·have HMM := Ya.mk hmem
         have hx := HCT.out
         rw [decide_eq_true hmem] at hx
         clear hmem
         go_wp2_with fail
         refine hx.mono ?_
         clear hx
         rintro e w1 ⟨rfl, rfl⟩
         go_wp2
         go_roundg gn
         case measure => omega
         case rel =>
          have e1 : ordI (k + 1) (Ybc s us) = ordI k (Ybc s us) := by rw [HSU.out]; unfold ordS; rw [if_pos HMM.out]
          exact ⟨k + 1, A3, n3, c3, Zk, Zk, rfl, by go_num, ⟨by rw [e1]; exact HN3.out⟩, ⟨by rw [e1]; exact HO3.out⟩, HB3⟩
        ·have HMM := Ya.mk hmem
         have hx := HCT.out
         rw [decide_eq_false hmem] at hx
         clear hmem
         go_wp2_with fail
         refine hx.mono ?_
         clear hx
         rintro e w1 ⟨rfl, rfl⟩
         go_wp2_with (at_builtin; refine Yqm (W := wr) rfl (.tmp 63) (.tmp 65) 52 59 (.pointer none) 1 8 rfl Tryz.underlying52 Zg rfl Zq w.heap.size (.slice A3 n3 c3) n3 ((ordI k (Ybc s us)).map (fun i => pV (cbI ps i))) [.pointer (some ⟨p.cb, 0, none⟩)] (by intro u hu; rw [List.mem_singleton.1 hu]; rfl) rfl rfl rfl HO3.out HNZ.out Zq HB3.out.size ?_; intro v1 w1 hown1 hg1 hat1; obtain ⟨A1, cap1, rfl, _, hbase1⟩ := Ytb hown1; have HO1 := Ya.mk hown1; have HB1 := Ya.mk (below_grown HB3.out hg1 (Ytb HO3.out).choose_spec.choose_spec.2.2 HB3.out.size); clear hown1 hg1 hat1)
         go_roundg gn
         case measure => omega
         case rel =>
          have e1 : ordI (k + 1) (Ybc s us) = ordI k (Ybc s us) ++ [k] := by rw [HSU.out]; unfold ordS; rw [if_neg HMM.out]
          refine ⟨k + 1, A1, n3 + 1, cap1, Zk, Zk, rfl, by go_num, ⟨by rw [e1, List.length_append, ← HN3.out]; rfl⟩, ⟨?_⟩, HB1⟩
          rw [e1, List.map_append]
          show World.ownsRow _ _ _ _ _ _ (_ ++ [pV (cbI ps k)])
          rw [HPC.out]
          exact HO1.out
      ·obtain rfl : k = s.l.length := by omega
       have hblk3 := (HB3.out.block bb (Yx H.out.blk)).trans H.out.blk
       have HB4 := Ya.mk hblk3
       have hcell4 := (Yf hblk3 1).trans (congrArg some HSV.out)
       have hfz4 := Yc hblk3 1
       clear hblk3
       go_wp2
       go_ret
       obtain ⟨ho1, ho2⟩ := Ycm HL0.out.1 HL0.out.2 s.l.length (Nat.le_refl _)
       have hbl := Yx H.out.blk
       have hbase : ∀ q, (Value.slice A3 n3 c3).ownBlock = some q → w.heap.size ≤ q := (Ytb HO3.out).choose_spec.choose_spec.2.2
       have hset : ∀ q, q ≠ bb → (wr.setCell ⟨bb, 1, none⟩ (.slice A3 n3 c3)).heap[q]? = wr.heap[q]? := fun q hq => Below.heap_setCell wr ⟨bb, 1, none⟩ _ q hq
       have hre := BookO.reindex (w6 := wr.setCell ⟨bb, 1, none⟩ (.slice A3 n3 c3)) H.out ho1 ho2 (made := s.made) (sv1 := .slice A3 n3 c3) (Yfd HB4.out 1 _ rfl)
        (Ylc (by rw [← HN3.out]; exact own_low HO3.out) (fun q hq => hset q (by have := hbase q hq; omega))) (fun q hq => .inr (hbase q hq)) (fun q h1 h2 _ => (hset q h2).trans (HB3.out.block q h1))
       have e1 : Yqf s us = (0, { s with l := (ordI s.l.length (Ybc s us)).map (fun i => s.l.getD i dC) }) := by unfold Yqf; rw [if_neg (by rw [HA1.out]; decide), if_neg (by rw [HD.out]; decide)]
       rw [e1]
       refine ⟨rfl, _, fun q hq => hq, ⟨_, _, _, hre⟩, ⟨by rw [Ycd]; exact HB3.out.size, fun q hq hm => ?_⟩, fun B hM hB => (HB3.out.mono hB).setCell (p := ⟨bb, 1, none⟩) (hM bb H.out.mem) _⟩
       rw [hset q (fun e => hm (e ▸ H.out.mem))]
       exact HB3.out.block q hq
end Go.Proofs.YtfmjnmglagdcdaaGreatDoor.X
