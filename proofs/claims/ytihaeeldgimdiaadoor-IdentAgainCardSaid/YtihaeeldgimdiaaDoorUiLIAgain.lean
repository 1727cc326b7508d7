/- IdentAgain: what a call of it does. -/
import Derived.Test.YtihaeeldgimdiaaDoorUiLIh
namespace Go.Proofs.YtihaeeldgimdiaaDoor.X
open Go.RowKit Go.Lib Go.Shelf Go.Proofs.YtihaeeldgimdiaaDoorW.PrintWords Go.Proofs.YtihaeeldgimdiaaDoorW.PrintLast Go.Proofs.YtihaeeldgimdiaaDoorW.PrintMore
set_option linter.unusedVariables false
set_option linter.unusedSimpArgs false
theorem R_row_beside {α β : Type} {d : Kd α} {d' : Kd β} {e e' base base' : Nat} {ok ok' : Nat → Prop} {v v' : Value} {xs : List α} {xs' : List β} {w w1 : World} (h : d.R e w base ok v xs) (hr : d'.R e' w base' ok' v' xs') (hg : w.grownBy w1 v'.ownBlock) (ht : ∀ q, q ∈ e :: d.E → q ≠ e') : d.R e w1 base (fun _ => True) v xs :=
 Kd.R_mono (Kd.R_step (Kd.R_bound h) (fun k hk hlt => hg.block k hlt (fun hb => by
  obtain ⟨_, ho⟩ := Kd.R_own hr
  obtain ⟨cells, hc⟩ := own_typed ho k hb.symm
  obtain ⟨_, _, _, q, hq, cells', hc'⟩ := hk
  rw [hc] at hc'
  injection hc' with hc'
  injection hc' with _ hc'
  exact ht q hq hc'.symm))) (fun _ _ => trivial)
theorem ne_str (w : World) : ∀ q, q ∈ 30 :: (Kd.fixed k30 w).E → q ≠ 9 := fun q hq => by rw [List.mem_singleton.1 hq]; decide
theorem str_ne : ∀ q, q ∈ 9 :: Kd.string.E → q ≠ 30 := fun q hq => by rw [List.mem_singleton.1 hq]; decide
set_option maxHeartbeats 8000000 in
set_option maxRecDepth 100000 in
theorem again_far (k : Nat) (A B : Option Addr) (c b : Nat) (l : List En) (old : List ByteArray) (w : World) (hE : EnvOk w) (r : Kd.C k30 w A l.length l) (hle : l.length ≤ c) (r2 : Kd.C Kd.string w B old.length old) (hle2 : old.length ≤ b)
  (hf : cringlelaw21_far.f k l old = some true) :
  Calls Tryd.prog 3 #[.slice A l.length c, .slice B old.length b] w fun e w' => e = .returned (.bool true) ∧ Below w.heap.size w w' := by
 have HE := Aside0.mk hE
 have R := Aside0.mk r
 have HLE := Aside0.mk hle
 have R2 := Aside0.mk r2
 have HLE2 := Aside0.mk hle2
 have HF := Aside0.mk hf
 clear hE r hle r2 hle2 hf
 have hu30 := Tryd.underlying30
 go_enter Tryd.func3, Tryd.ntmps3
 go_wp2_with fail
 refine (cringlelaw21_far.calls k A c l B b old true _ HE.out R.out HLE.out R2.out HLE2.out HF.out).mono ?_
 rintro e w1 ⟨rfl, hb⟩
 have HB := Aside0.mk hb
 clear hb
 go_wp2_with fail
 refine (alive21 _ (HE.out.below HB.out)).mono ?_
 rintro e wa ⟨rfl, hb⟩
 replace HB := Aside0.mk (HB.out.trans (hb.mono HB.out.size))
 clear hb
 go_wp2_with fail
 go_ret
 exact ⟨rfl, HB.out⟩
set_option maxHeartbeats 8000000 in
set_option maxRecDepth 100000 in
theorem again_main (k : Nat) (A B : Option Addr) (c b : Nat) (l : List En) (old : List ByteArray) (w : World) (hE : EnvOk w) (r : Kd.C k30 w A l.length l) (hle : l.length ≤ c) (r2 : Kd.C Kd.string w B old.length old) (hle2 : old.length ≤ b)
  (hf : cringlelaw21_far.f k l old = some false)
  (ho : ∀ x ∈ l, OfOk x)
  (hs : ∀ s ∈ old, s.size ≤ 140737488355328)
  (hn : l.length ≤ 20 ∧ old.length ≤ 12000) :
  Calls Tryd.prog 3 #[.slice A l.length c, .slice B old.length b] w fun e w' => e = .returned (.bool true) ∧ Below w.heap.size w w' := by
 have HE := Aside0.mk hE
 have R := Aside0.mk r
 have HLE := Aside0.mk hle
 have R2 := Aside0.mk r2
 have HLE2 := Aside0.mk hle2
 have HF := Aside0.mk hf
 have HO := Aside0.mk ho
 have HS := Aside0.mk hs
 have HN := Aside0.mk hn
 clear hE r hle r2 hle2 hf ho hs hn
 have hu30 := Tryd.underlying30
 have hll : l.length ≤ 9223372036854775807 := by have := HN.out; omega
 have hol : old.length ≤ 9223372036854775807 := by have := HN.out; omega
 go_enter Tryd.func3, Tryd.ntmps3
 go_wp2_with fail
 refine (cringlelaw21_far.calls k A c l B b old false _ HE.out R.out HLE.out R2.out HLE2.out HF.out).mono ?_
 rintro e w1 ⟨rfl, hb⟩
 have HB := Aside0.mk hb
 clear hb
 have HR2 := Aside0.mk (Kd.C_below R2.out HB.out)
 go_wp2_with ((with_reducible refine gate_dst (N := 14) rfl ?_); (try (refine gate_guard (by rfl) ?_; dsimp only)); at_builtin; refine Kd.R_append_rows Kd.string (Rr := Kd.string.K w) (w0 := w) w.heap.size rfl (.const (.slice none 0 0)) (.tmp 13) 23 9 (.string ⟨#[]⟩) 16 rfl Tryd.underlying23 info9 rfl (by decide) (by decide) _ [] old _ _ _ (fun _ => True) (fun _ => False) rfl rfl (Kd.R_nil _ _ _ _ _) HR2.out (fun _ _ h => h) (fun _ hk => hk.elim) (fun _ _ => trivial) HB.out HB.out.size (by have := HN.out; simp; omega) ?_; intro v1 w2 hR hB2 hg2 hat2; have HR5 := Aside0.mk hR; have HB3 := Aside0.mk hB2; clear hR hB2 hg2 hat2)
 have RU := Aside0.mk (show Kd.C (Kd.fixed k30 w) w2 A l.length l from ReadsRow.imp_ R.out HB3.out (fun _ _ h => h))
 refine (young_calls B A b c old l w w2 HB3.out (HE.out.below HB3.out) (Kd.C_below R2.out HB3.out) RU.out HS.out HO.out (by have := HN.out; omega) (by have := HN.out; omega)).mono ?_
 rintro e w4 ⟨v, rfl, hr, hb⟩
 obtain ⟨Af, cf, rfl, hlf, _⟩ := Kd.R_reads hr
 have HRF := Aside0.mk (Kd.R_lower hr HB3.out.size)
 have HR4 := Aside0.mk (show Kd.R Kd.string 9 w4 w.heap.size (fun _ => True) v1 (old ++ (([] : List En).map (·.f0))) by have h := Kd.R_below HR5.out hb; rw [List.nil_append] at h; rw [List.map_nil, List.append_nil]; exact h)
 have HB4 := Aside0.mk (HB3.out.trans (hb.mono HB3.out.size))
 have HU := Aside0.mk (young_ok old l)
 have HUL := Aside0.mk (youngS_length old l)
 generalize hu : youngR old l = u at HRF HU hlf ⊢
 have HUL : Aside0 (u.length ≤ l.length) := ⟨by rw [← hu]; exact HUL.out⟩
 have HLF := Aside0.mk hlf
 have hul : u.length ≤ 9223372036854775807 := by have := HUL.out; have := HN.out; omega
 clear hr hb hlf hu HR5 HR2 HB HB3 RU
 go_wp2_with fail
 go_loopg [5, 20] u.length (fun gk v5 v20 wx => ∃ (i : Nat), i + gk = u.length ∧ v20 = .int .i64 (i : Int) ∧ Aside0 (Kd.R Kd.string 9 wx w.heap.size (fun _ => True) v5 (old ++ (u.take i).map (·.f0))) ∧ Aside0 (Kd.R (Kd.fixed k30 w) 30 wx w.heap.size (fun _ => True) (.slice Af u.length cf) u) ∧ Aside0 (Below w.heap.size w wx))
 case atStart => exact ⟨0, by omega, rfl, HR4, HRF, HB4⟩
 case round =>
  clear HR4 HRF HB4
  obtain ⟨i, hi1, rfl, HR, HRF, HB⟩ := hrel
  cases gk with
  | zero =>
   obtain rfl : i = u.length := by omega
   rw [List.take_length] at HR
   as_aux_lemma =>
    obtain ⟨Ai, ci, rfl, hli, hCi⟩ := Kd.R_reads HR.out
    have HCI := Aside0.mk hCi
    have RU := Aside0.mk (show Kd.C (Kd.fixed k30 w) wr A l.length l from ReadsRow.imp_ R.out HB.out (fun _ _ h => h))
    have HIS := Aside0.mk (show ∀ s ∈ old ++ u.map (·.f0), s.size ≤ 140737488355328 by
     intro s hm
     rcases List.mem_append.1 hm with hm | hm
     ·exact HS.out s hm
     ·obtain ⟨z, hz, rfl⟩ := List.mem_map.1 hm
      obtain ⟨y, hy, e⟩ := HU.out.1 z hz
      have h1 := ofR_size (HO.out y hy)
      rw [e]
      exact Nat.le_trans h1 (by decide))
    have HIL := Aside0.mk (show (old ++ u.map (·.f0)).length ≤ 100000 by
     rw [List.length_append, List.length_map]
     have := HN.out
     have := HUL.out
     omega)
    have HIN := Aside0.mk (show ∀ x ∈ l, ofR x ∈ old ++ u.map (·.f0) by
     intro x hm
     exact List.mem_append.2 (HU.out.2.2.2 x hm))
    have HIF := Aside0.mk (show ∀ x ∈ l ++ u, ofR x ∈ old ++ u.map (·.f0) by
     intro x hm
     rcases List.mem_append.1 hm with hm | hm
     ·exact HIN.out x hm
     ·obtain ⟨y, hy, e⟩ := HU.out.1 x hm
      rw [e, ofR_named]
      exact HIN.out y hy)
    have HOF := Aside0.mk (show ∀ x ∈ l ++ u, OfOk x by
     intro x hm
     rcases List.mem_append.1 hm with hm | hm
     ·exact HO.out x hm
     ·obtain ⟨y, hy, e⟩ := HU.out.1 x hm
      rw [e]
      exact named_ok (HO.out y hy))
    clear hCi hli
    generalize old ++ u.map (·.f0) = ids at HR HCI HIS HIL HIN HIF ⊢
    have hil : ids.length ≤ 9223372036854775807 := by have := HIL.out; omega
    go_wp2_with fail
    refine (young_calls Ai A ci c ids l w wr HB.out (HE.out.below HB.out) HCI.out RU.out HIS.out HO.out (by have := HN.out; omega) (by have := HIL.out; omega)).mono ?_
    rintro e w5 ⟨v, rfl, hr, hb⟩
    obtain ⟨A5, c5, rfl⟩ := Kd.R_slice hr
    rw [young_none ids l HIN.out]
    have HR5 := Aside0.mk (Kd.R_below HR.out hb)
    have HRF5 := Aside0.mk (Kd.R_below HRF.out hb)
    have HB5 := Aside0.mk (HB.out.trans (hb.mono HB.out.size))
    have RU5 := Aside0.mk (show Kd.C (Kd.fixed k30 w) w5 A l.length l from ReadsRow.imp_ R.out HB5.out (fun _ _ h => h))
    clear hr hb HR HRF HB RU HCI
    have h0 : ([] : List En).length = 0 := rfl
    rw [h0]
    clear h0
    go_wp2_with (first | ((with_reducible refine gate_dst (N := 38) rfl ?_); (try (refine gate_guard (by rfl) ?_; dsimp only)); at_builtin; refine Kd.R_append_rows (Kd.fixed k30 w) (Rr := k30.K w) (w0 := w) w.heap.size rfl (.const (.slice none 0 0)) (.tmp 37) 22 30 (.agg ez) 280 rfl Tryd.underlying22 info30 rfl (show (0 : Nat) < 16 by decide) (by decide) _ [] l _ _ _ (fun _ => True) (fun _ => False) rfl rfl (Kd.R_nil _ _ _ _ _) RU5.out (fun _ _ h => h) (fun _ hk => hk.elim) (fun _ _ => trivial) HB5.out HB5.out.size (by have := HN.out; simp; omega) ?_; intro v6 w6 hR hB6 hg6 hat6; have HRA := Aside0.mk hR; have HB6 := Aside0.mk hB6; have HR6 := Aside0.mk (Kd.R_grown HR5.out hg6 (fun k_ _ => (show some k_ ≠ (none : Option Nat) from fun h => by cases h))); have HRF6 := Aside0.mk (Kd.R_grown HRF5.out hg6 (fun k_ _ => (show some k_ ≠ (none : Option Nat) from fun h => by cases h))); clear hR hB6 hg6 hat6) | ((with_reducible refine gate_dst (N := 40) rfl ?_); (try (refine gate_guard (by rfl) ?_; dsimp only)); at_builtin; refine Kd.R_append_rows (Kd.fixed k30 w) (Rr := k30.K w) (w0 := w) w.heap.size rfl (.tmp 38) (.tmp 39) 22 30 (.agg ez) 280 rfl Tryd.underlying22 info30 rfl (show (0 : Nat) < 16 by decide) (by decide) _ ([] ++ l) u _ _ _ (fun _ => True) (fun _ => False) rfl rfl HRA.out (Kd.R_reads' HRF6.out).2.2 (fun _ _ h => h) (fun _ hk => hk.elim) (fun _ _ => trivial) HB6.out HB6.out.size (by have := HN.out; have := HUL.out; simp; omega) ?_; intro v7 w7 hR hB7 hg7 hat7; have HRB := Aside0.mk hR; have HB7 := Aside0.mk hB7; have HR7 := Aside0.mk (R_row_beside HR6.out HRA.out hg7 str_ne); clear hR hB7 hg7 hat7))
    obtain ⟨A7, c7, rfl, hl7, hC7⟩ := Kd.R_reads HRB.out
    have HC7 := Aside0.mk hC7
    clear hC7 hl7
    refine (young_calls Ai A7 ci c7 ids ([] ++ l ++ u) w w7 HB7.out (HE.out.below HB7.out) (Kd.R_reads' HR7.out).2.2 HC7.out HIS.out (by rw [List.nil_append]; exact HOF.out) (by have := HN.out; have := HUL.out; simp; omega) (by have := HIL.out; omega)).mono ?_
    rintro e w9 ⟨v, rfl, hr, hb⟩
    obtain ⟨A9, c9, rfl⟩ := Kd.R_slice hr
    rw [young_none ids ([] ++ l ++ u) (by rw [List.nil_append]; exact HIF.out)]
    have HB := Aside0.mk (HB7.out.trans (hb.mono HB7.out.size))
    clear hr hb
    have h0 : ([] : List En).length = 0 := rfl
    rw [h0]
    clear h0
    go_wp2_with fail
    refine (alive21 _ (HE.out.below HB.out)).mono ?_
    rintro e wa ⟨rfl, hb⟩
    replace HB := Aside0.mk (HB.out.trans (hb.mono HB.out.size))
    clear hb
    go_wp2_with fail
    go_ret
    exact ⟨rfl, HB.out⟩
  | succ g1 =>
   have hlt : i < u.length := by omega
   have c0_ : decide ((i : Int) < (u.length : Int)) = true := decide_eq_true (by omega)
   have c1_ : decide (i < u.length) = true := decide_eq_true hlt
   have p5 : 0 ≤ (i : Int) := by omega
   have p6 : (i : Int) < (u.length : Int) := by omega
   have hrd : rd_T30 u (i : Int) = u[i] := by unfold rd_T30; rw [Int.toNat_natCast, List.getD_eq_getElem?_getD, List.getElem?_eq_getElem hlt]; rfl
   obtain ⟨ad, A11, c11, A12, c12, A13, c13, A14, c14, A15, c15, e5, q0, q1, q2, q3, q4, q5, q6, q7, q8, q9, q10, q11, q12, q13, q14, q15, l11, g11, l12, g12, l13, g13, l14, g14, l15, g15⟩ := at_fx (Kd.R_reads' HRF.out).2.2 (i : Int) p5 p6
   have hts : old ++ (u.take (i + 1)).map (·.f0) = (old ++ (u.take i).map (·.f0)) ++ [(rd_T30 u (i : Int)).f0] := by
    rw [hrd, List.take_add_one, List.getElem?_eq_getElem hlt, Option.toList_some, List.map_append, List.append_assoc]; rfl
   have hlen : (old ++ (u.take i).map (·.f0)).length ≤ 100000 := by
    rw [List.length_append, List.length_map, List.length_take]
    have := HN.out
    have := HUL.out
    omega
   subst e5
   rw [Int.toNat_natCast] at q0 q1 q2 q3 q4 q5 q6 q7 q8 q9 q10 q11 q12 q13 q14 q15
   generalize rd_T30 u (i : Int) = x at *
   have HTS := Aside0.mk hts
   have HLEN := Aside0.mk hlen
   have hw1 : wrap64 ((i : Int) + 1) = ((i + 1 : Nat) : Int) := by unfold wrap64; omega
   have HW := Aside0.mk hw1
   clear l11 g11 l12 g12 l13 g13 l14 g14 l15 g15 hts hlen hrd hw1
   have HR1 := Aside0.mk (Kd.R_alloc HR.out (.cells (ec x.f0 x.f1 x.f2 x.f3 x.f4 x.f5 x.f6 x.f7 x.f8.f0 x.f8.f1 x.f8.f2 (.slice A11 x.f9.length c11) (.slice A12 x.f10.length c12) (.slice A13 x.f11.length c13) (.slice A14 x.f12.length c14) (.slice A15 x.f13.length c15)) 30))
   have HRF1 := Aside0.mk (Kd.R_alloc HRF.out (.cells (ec x.f0 x.f1 x.f2 x.f3 x.f4 x.f5 x.f6 x.f7 x.f8.f0 x.f8.f1 x.f8.f2 (.slice A11 x.f9.length c11) (.slice A12 x.f10.length c12) (.slice A13 x.f11.length c13) (.slice A14 x.f12.length c14) (.slice A15 x.f13.length c15)) 30))
   have BE := Aside0.mk (heap_alloc_new wr (.cells (ec x.f0 x.f1 x.f2 x.f3 x.f4 x.f5 x.f6 x.f7 x.f8.f0 x.f8.f1 x.f8.f2 (.slice A11 x.f9.length c11) (.slice A12 x.f10.length c12) (.slice A13 x.f11.length c13) (.slice A14 x.f12.length c14) (.slice A15 x.f13.length c15)) 30))
   have HB1 := Aside0.mk (HB.out.alloc HB.out.size (.cells (ec x.f0 x.f1 x.f2 x.f3 x.f4 x.f5 x.f6 x.f7 x.f8.f0 x.f8.f1 x.f8.f2 (.slice A11 x.f9.length c11) (.slice A12 x.f10.length c12) (.slice A13 x.f11.length c13) (.slice A14 x.f12.length c14) (.slice A15 x.f13.length c15)) 30))
   have hc0 := (blk_cell BE.out 0).trans rfl
   go_wp2_with ((with_reducible refine gate_builtin (b := .append) (xs := #[.tmp 24, .tmp 27]) rfl ?_); at_builtin; refine Kd.R_append Kd.string (w0 := w) w.heap.size rfl (.tmp 24) (.tmp 27) 23 9 (.string ⟨#[]⟩) 16 rfl Tryd.underlying23 info9 rfl (by decide) (by decide) _ (old ++ (u.take i).map (·.f0)) x.f0 [.string x.f0] (fun _ => True) (fun _ => False) rfl (by show Value.slice (some ⟨wr.heap.size + 1, 0, none⟩) 1 1 = _; rw [show (wr.alloc (.cells (ec x.f0 x.f1 x.f2 x.f3 x.f4 x.f5 x.f6 x.f7 x.f8.f0 x.f8.f1 x.f8.f2 (.slice A11 x.f9.length c11) (.slice A12 x.f10.length c12) (.slice A13 x.f11.length c13) (.slice A14 x.f12.length c14) (.slice A15 x.f13.length c15)) 30)).heap.size = wr.heap.size + 1 from Array.size_push _]) rfl (fun _ hk => hk.elim) (fun _ _ => trivial) HR1.out HB1.out HB1.out.size (by have := HLEN.out; omega) ?_; intro v8 w8 hR8 hB8 hg8 hat8; rw [← HTS.out] at hR8; have HR8 := Aside0.mk hR8; have HB8 := Aside0.mk hB8; have HRF8 := Aside0.mk (R_row_beside HRF1.out HR1.out hg8 (ne_str w)); clear hR8 hB8 hg8 hat8 hc0)
   go_roundg g1
   case measure => omega
   case rel => exact ⟨i + 1, by omega, by go_num, HR8, HRF8, HB8⟩
theorem identAgain_walk (A : Option Addr) (c : Nat) (l : List En) {w : World} (hC : Kd.C k30 w A l.length l) (hle : l.length ≤ c) (hr : l.length * Tryd.prog.bytesOf 30 ≤ 140737488351232 ∧ ∀ x ∈ l, EntRead x)
  (B : Option Addr) (b : Nat) (old : List ByteArray) (hC2 : Kd.C Kd.string w B old.length old) (hle2 : old.length ≤ b) (hr2 : old.length * Tryd.prog.bytesOf 9 ≤ 140737488351232 ∧ ∀ x ∈ old, x.size ≤ 140737488351232) (w1 : World) (hE : EnvOk w) :
  Calls Tryd.prog 3 #[.slice A l.length c, .slice B old.length b] w fun e w' => e = .returned (.bool true) ∧ Below w.heap.size w w' := by
 obtain ⟨bb, ⟨k, hk⟩, hb⟩ := far_f l old hr.2 (by have h1 := hr2.1; rw [show Tryd.prog.bytesOf 9 = 16 by kernel_rfl] at h1; omega)
 have hf := hk k (Nat.le_refl _)
 cases bb with
 | true => exact again_far k A B c b l old w hE hC hle hC2 hle2 hf
 | false => exact again_main k A B c b l old w hE hC hle hC2 hle2 hf (hb rfl).2.2 (fun s hs => Nat.le_trans (hr2.2 s hs) (by decide)) ⟨(hb rfl).1, (hb rfl).2.1⟩
end Go.Proofs.YtihaeeldgimdiaaDoor.X
