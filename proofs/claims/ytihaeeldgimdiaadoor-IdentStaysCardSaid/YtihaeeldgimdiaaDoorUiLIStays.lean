/- IdentStays: what a call of it does. -/
import Derived.Test.YtihaeeldgimdiaaDoorUiLIh
namespace Go.Proofs.YtihaeeldgimdiaaDoor.X
open Go.RowKit Go.Lib Go.Shelf Go.Proofs.YtihaeeldgimdiaaDoorW.PrintWords Go.Proofs.YtihaeeldgimdiaaDoorW.PrintLast Go.Proofs.YtihaeeldgimdiaaDoorW.PrintMore
set_option linter.unusedVariables false
set_option linter.unusedSimpArgs false
theorem stays_same (x : En) (s : ByteArray) (h : ¬ ofR x = ofR (turned x s)) : x.f1.toList = ([] : List UInt8) ∧ x.f2.toList = ([] : List UInt8) := by
 unfold ofR ofParts turned at h
 simp only at h
 by_cases e1 : x.f1.toList = ([] : List UInt8)
 ·refine ⟨e1, ?_⟩
  simp only [if_pos e1] at h
  by_cases e2 : (parseR x.f2.data.toList).2.2.2.2.2.2.2.2 = 0
  ·simp only [if_pos e2] at h
   exact absurd trivial h
  ·simp only [if_neg e2] at h
   by_cases e3 : x.f2.toList = ([] : List UInt8)
   ·exact e3
   ·simp only [if_neg e3] at h
    exact absurd trivial h
 ·simp only [if_neg e1] at h
  exact absurd trivial h
set_option maxHeartbeats 8000000 in
set_option maxRecDepth 100000 in
theorem stays_main (k : Nat) (x : En) (s : ByteArray) (A9 A10 A11 A12 A13 : Option Addr) (n9 n10 n11 n12 n13 : Nat) (w : World) (hE : EnvOk w)
  (r9 : x.f9.length ≤ n9 ∧ Kd.C Kd.string w A9 x.f9.length x.f9) (r10 : x.f10.length ≤ n10 ∧ Kd.C Kd.string w A10 x.f10.length x.f10) (r11 : x.f11.length ≤ n11 ∧ Kd.C Kd.string w A11 x.f11.length x.f11) (r12 : x.f12.length ≤ n12 ∧ Kd.C Kd.string w A12 x.f12.length x.f12) (r13 : x.f13.length ≤ n13 ∧ Kd.C Kd.string w A13 x.f13.length x.f13)
  (hf : cringlelaw21_far.f k [x] [] = some false)
  (hl : s.size ≤ 1000)
  (ho : OfOk x) :
  Calls Tryd.prog 4 #[.agg (ec x.f0 x.f1 x.f2 x.f3 x.f4 x.f5 x.f6 x.f7 x.f8.f0 x.f8.f1 x.f8.f2 (.slice A9 x.f9.length n9) (.slice A10 x.f10.length n10) (.slice A11 x.f11.length n11) (.slice A12 x.f12.length n12) (.slice A13 x.f13.length n13)), .string s] w fun e w' => e = .returned (.bool true) ∧ Below w.heap.size w w' := by
 have HE := Aside0.mk hE
 have HK := Aside0.mk (k30_mk w x r9.1 r9.2 r10.1 r10.2 r11.1 r11.2 r12.1 r12.2 r13.1 r13.2)
 have R9 := Aside0.mk r9
 have R10 := Aside0.mk r10
 have R11 := Aside0.mk r11
 have R12 := Aside0.mk r12
 have R13 := Aside0.mk r13
 have HF := Aside0.mk hf
 have HL := Aside0.mk hl
 have HO := Aside0.mk ho
 clear hE r9 r10 r11 r12 r13 hf hl ho
 have hu30 := Tryd.underlying30
 have BK := Aside0.mk (heap_alloc_new w (.cells (ec x.f0 x.f1 x.f2 x.f3 x.f4 x.f5 x.f6 x.f7 x.f8.f0 x.f8.f1 x.f8.f2 (.slice A9 x.f9.length n9) (.slice A10 x.f10.length n10) (.slice A11 x.f11.length n11) (.slice A12 x.f12.length n12) (.slice A13 x.f13.length n13)) 30))
 have HB := Aside0.mk ((Below.refl w.heap.size w).alloc (Nat.le_refl _) (.cells (ec x.f0 x.f1 x.f2 x.f3 x.f4 x.f5 x.f6 x.f7 x.f8.f0 x.f8.f1 x.f8.f2 (.slice A9 x.f9.length n9) (.slice A10 x.f10.length n10) (.slice A11 x.f11.length n11) (.slice A12 x.f12.length n12) (.slice A13 x.f13.length n13)) 30))
 go_enter Tryd.func4, Tryd.ntmps4
 obtain ⟨h0, h1, h2, h3, h4, h5, h6, h7, h8, h9, h10, h11, h12, h13, h14, h15⟩ := ec_cells BK.out
 go_wp2_with fail
 clear h0 h1 h2 h3 h4 h5 h6 h7 h8 h9 h10 h11 h12 h13 h14 h15
 have HC := Aside0.mk (one_C HK.out HB.out)
 have hsz : (w.alloc (.cells (ec x.f0 x.f1 x.f2 x.f3 x.f4 x.f5 x.f6 x.f7 x.f8.f0 x.f8.f1 x.f8.f2 (.slice A9 x.f9.length n9) (.slice A10 x.f10.length n10) (.slice A11 x.f11.length n11) (.slice A12 x.f12.length n12) (.slice A13 x.f13.length n13)) 30)).heap.size = w.heap.size + 1 := Array.size_push _
 rw [hsz] at HC
 clear hsz
 replace HB := Aside0.mk (HB.out.alloc HB.out.size (.cells (ec x.f0 x.f1 x.f2 x.f3 x.f4 x.f5 x.f6 x.f7 x.f8.f0 x.f8.f1 x.f8.f2 (.slice A9 x.f9.length n9) (.slice A10 x.f10.length n10) (.slice A11 x.f11.length n11) (.slice A12 x.f12.length n12) (.slice A13 x.f13.length n13)) 30))
 replace BK := Aside0.mk (blk_alloc BK.out (.cells (ec x.f0 x.f1 x.f2 x.f3 x.f4 x.f5 x.f6 x.f7 x.f8.f0 x.f8.f1 x.f8.f2 (.slice A9 x.f9.length n9) (.slice A10 x.f10.length n10) (.slice A11 x.f11.length n11) (.slice A12 x.f12.length n12) (.slice A13 x.f13.length n13)) 30))
 refine (cringlelaw21_far.calls k _ 1 [x] none 0 [] false _ (HE.out.below HB.out) HC.out (Nat.le_refl _) (Kd.C_nil _ _) (Nat.le_refl _) HF.out).mono ?_
 rintro e w1 ⟨rfl, hb⟩
 replace BK := Aside0.mk (blk_bel BK.out hb)
 replace HB := Aside0.mk (HB.out.trans (hb.mono HB.out.size))
 clear hb
 have d0 : decide (1000 < (s.size : Int)) = false := decide_eq_false (by have := HL.out; omega)
 have d1 : decide (1000 < s.size) = false := decide_eq_false (by have := HL.out; omega)
 obtain ⟨h0, h1, h2, h3, h4, h5, h6, h7, h8, h9, h10, h11, h12, h13, h14, h15⟩ := ec_cells BK.out
 go_wp2_with fail
 clear h0 h1 h2 h3 h4 h5 h6 h7 h8 h9 h10 h11 h12 h13 h14 h15
 clear d0 d1
 have hsz : (w1.alloc (.cells (ec x.f0 x.f1 x.f2 s s s x.f6 x.f7 x.f8.f0 x.f8.f1 x.f8.f2 (.slice A9 x.f9.length n9) (.slice (some ⟨w1.heap.size + 1, 0, none⟩) 1 1) (.slice A11 x.f11.length n11) (.slice A12 x.f12.length n12) (.slice A13 x.f13.length n13)) 30)).heap.size = w1.heap.size + 1 := Array.size_push _
 have HS := Aside0.mk (one_S (w1.alloc (.cells (ec x.f0 x.f1 x.f2 s s s x.f6 x.f7 x.f8.f0 x.f8.f1 x.f8.f2 (.slice A9 x.f9.length n9) (.slice (some ⟨w1.heap.size + 1, 0, none⟩) 1 1) (.slice A11 x.f11.length n11) (.slice A12 x.f12.length n12) (.slice A13 x.f13.length n13)) 30)) s)
 rw [hsz] at HS
 clear hsz
 have BF := Aside0.mk (blk_alloc (heap_alloc_new w1 (.cells (ec x.f0 x.f1 x.f2 s s s x.f6 x.f7 x.f8.f0 x.f8.f1 x.f8.f2 (.slice A9 x.f9.length n9) (.slice (some ⟨w1.heap.size + 1, 0, none⟩) 1 1) (.slice A11 x.f11.length n11) (.slice A12 x.f12.length n12) (.slice A13 x.f13.length n13)) 30)) (.cells #[.string s] 9))
 replace BK := Aside0.mk (blk_alloc (blk_alloc BK.out (.cells (ec x.f0 x.f1 x.f2 s s s x.f6 x.f7 x.f8.f0 x.f8.f1 x.f8.f2 (.slice A9 x.f9.length n9) (.slice (some ⟨w1.heap.size + 1, 0, none⟩) 1 1) (.slice A11 x.f11.length n11) (.slice A12 x.f12.length n12) (.slice A13 x.f13.length n13)) 30)) (.cells #[.string s] 9))
 replace HB := Aside0.mk ((HB.out.alloc HB.out.size (.cells (ec x.f0 x.f1 x.f2 s s s x.f6 x.f7 x.f8.f0 x.f8.f1 x.f8.f2 (.slice A9 x.f9.length n9) (.slice (some ⟨w1.heap.size + 1, 0, none⟩) 1 1) (.slice A11 x.f11.length n11) (.slice A12 x.f12.length n12) (.slice A13 x.f13.length n13)) 30)).alloc (HB.out.alloc HB.out.size (.cells (ec x.f0 x.f1 x.f2 s s s x.f6 x.f7 x.f8.f0 x.f8.f1 x.f8.f2 (.slice A9 x.f9.length n9) (.slice (some ⟨w1.heap.size + 1, 0, none⟩) 1 1) (.slice A11 x.f11.length n11) (.slice A12 x.f12.length n12) (.slice A13 x.f13.length n13)) 30)).size (.cells #[.string s] 9))
 generalize ((w1.alloc (.cells (ec x.f0 x.f1 x.f2 s s s x.f6 x.f7 x.f8.f0 x.f8.f1 x.f8.f2 (.slice A9 x.f9.length n9) (.slice (some ⟨w1.heap.size + 1, 0, none⟩) 1 1) (.slice A11 x.f11.length n11) (.slice A12 x.f12.length n12) (.slice A13 x.f13.length n13)) 30)).alloc (.cells #[.string s] 9)) = w2 at BK BF HB HS ⊢
 generalize w1.heap.size + 1 = gs at BF HS ⊢
 generalize w1.heap.size = gf at BF ⊢
 have HK2 := Aside0.mk (k30_mk w2 (turned x s) (A12 := some ⟨gs, 0, none⟩) (c12 := 1) R9.out.1 (Kd.C_below R9.out.2 HB.out) (Nat.le_refl _) HS.out R11.out.1 (Kd.C_below R11.out.2 HB.out) R12.out.1 (Kd.C_below R12.out.2 HB.out) R13.out.1 (Kd.C_below R13.out.2 HB.out))
 have HK1 := Aside0.mk (k30.K_below HB.out HK.out)
 as_aux_lemma =>
  refine start_ (n := 6) (S := fun w' => w'.heap[w.heap.size]? = some (.cells (ec x.f0 x.f1 x.f2 x.f3 x.f4 x.f5 x.f6 x.f7 x.f8.f0 x.f8.f1 x.f8.f2 (.slice A9 x.f9.length n9) (.slice A10 x.f10.length n10) (.slice A11 x.f11.length n11) (.slice A12 x.f12.length n12) (.slice A13 x.f13.length n13)) 30 (0, 0)) ∧ w'.heap[gf]? = some (.cells (ec x.f0 x.f1 x.f2 s s s x.f6 x.f7 x.f8.f0 x.f8.f1 x.f8.f2 (.slice A9 x.f9.length n9) (.slice (some ⟨gs, 0, none⟩) 1 1) (.slice A11 x.f11.length n11) (.slice A12 x.f12.length n12) (.slice A13 x.f13.length n13)) 30 (0, 0))) (ds := []) #[false, false, false, false, false, false] (by kernel_rfl) rfl rfl ⟨(blk_drew BK.out), (blk_drew BF.out)⟩ (fun hHeld => ?_)
  replace BK := Aside0.mk (blk_drew BK.out)
  replace BF := Aside0.mk (blk_drew BF.out)
  replace HK1 := Aside0.mk (k30.K_below (below_drew1 (Below.refl _ _)) HK1.out)
  replace HK2 := Aside0.mk (k30.K_below (below_drew1 (Below.refl _ _)) HK2.out)
  replace HB := Aside0.mk (below_drew1 HB.out)
  generalize World.drew _ = w3 at BK BF HK1 HK2 HB hHeld ⊢
  refine take_ (i := 0) (N := some 26) (v := ?_) (a' := ?_) #[true, false, false, false, false, false] rfl rfl (by kernel_rfl) (fun _ _ _ h => h) (Or.inl ⟨by rfl, ?_⟩) hHeld ?_ ?_
  rotate_left
  ·rintro w' ⟨s0, s1⟩
   obtain ⟨h0, h1, h2, h3, h4, h5, h6, h7, h8, h9, h10, h11, h12, h13, h14, h15⟩ := ec_cells s0
   go_simp
   with_reducible rfl
  rotate_left
  ·simp only [Act.put, List.setIfInBounds_toArray, List.set_cons_zero, List.set_cons_succ, i64_w, i32_w]
   rfl
  refine take_ (i := 2) (N := some 28) (v := ?_) (a' := ?_) #[true, false, true, false, false, false] rfl rfl (by kernel_rfl) (fun _ _ _ h => h) (Or.inl ⟨by rfl, ?_⟩) hHeld ?_ ?_
  rotate_left
  ·rintro w' ⟨s0, s1⟩
   obtain ⟨h0, h1, h2, h3, h4, h5, h6, h7, h8, h9, h10, h11, h12, h13, h14, h15⟩ := ec_cells s1
   go_simp
   with_reducible rfl
  rotate_left
  ·simp only [Act.put, List.setIfInBounds_toArray, List.set_cons_zero, List.set_cons_succ, i64_w, i32_w]
   rfl
  refine one_ (i := 1) (N := some 27) #[true, true, true, false, false, false] rfl rfl (by kernel_rfl) (by decide) (fun K hK => ?_)
  refine goes_ Tryd.func9 (by kernel_rfl) rfl #[.agg (ec x.f0 x.f1 x.f2 x.f3 x.f4 x.f5 x.f6 x.f7 x.f8.f0 x.f8.f1 x.f8.f2 (.slice A9 x.f9.length n9) (.slice A10 x.f10.length n10) (.slice A11 x.f11.length n11) (.slice A12 x.f12.length n12) (.slice A13 x.f13.length n13))] (by rfl) rfl rfl (by (try simp only [List.map_toArray, List.map_cons, List.map_nil]); first | done | rfl) ?_
  refine (of_calls x _ _ (HE.out.below HB.out) HK1.out HO.out).mono ?_
  rintro e we ⟨rfl, hb⟩
  refine ⟨_, rfl, ?_⟩
  replace BK := Aside0.mk (blk_bel BK.out hb)
  replace BF := Aside0.mk (blk_bel BF.out hb)
  replace HK1 := Aside0.mk (k30.K_below hb HK1.out)
  replace HK2 := Aside0.mk (k30.K_below hb HK2.out)
  replace HB := Aside0.mk (HB.out.trans (hb.mono HB.out.size))
  clear hb
  refine hK.out _ _ ⟨BK.out, BF.out⟩ (fun hHeld => ?_)
  clear hK K
  refine norm_ (a' := ?_) ?_ ?_
  rotate_left
  ·show Act.put _ (some 27) _ = _
   simp only [Act.put, List.setIfInBounds_toArray, List.set_cons_zero, List.set_cons_succ, i64_w, i32_w]
   rfl
  refine one_ (i := 3) (N := some 29) #[true, true, true, true, false, false] rfl rfl (by kernel_rfl) (by decide) (fun K hK => ?_)
  refine goes_ Tryd.func9 (by kernel_rfl) rfl #[.agg (ec x.f0 x.f1 x.f2 s s s x.f6 x.f7 x.f8.f0 x.f8.f1 x.f8.f2 (.slice A9 x.f9.length n9) (.slice (some ⟨gs, 0, none⟩) 1 1) (.slice A11 x.f11.length n11) (.slice A12 x.f12.length n12) (.slice A13 x.f13.length n13))] (by rfl) rfl rfl (by (try simp only [List.map_toArray, List.map_cons, List.map_nil]); first | done | rfl) ?_
  refine (of_calls (turned x s) _ _ (HE.out.below HB.out) HK2.out (turned_ok HO.out HL.out)).mono ?_
  rintro e we ⟨rfl, hb⟩
  refine ⟨_, rfl, ?_⟩
  replace BK := Aside0.mk (blk_bel BK.out hb)
  replace BF := Aside0.mk (blk_bel BF.out hb)
  replace HK1 := Aside0.mk (k30.K_below hb HK1.out)
  replace HK2 := Aside0.mk (k30.K_below hb HK2.out)
  replace HB := Aside0.mk (HB.out.trans (hb.mono HB.out.size))
  clear hb
  refine hK.out _ _ ⟨BK.out, BF.out⟩ (fun hHeld => ?_)
  clear hK K
  refine norm_ (a' := ?_) ?_ ?_
  rotate_left
  ·show Act.put _ (some 29) _ = _
   simp only [Act.put, List.setIfInBounds_toArray, List.set_cons_zero, List.set_cons_succ, i64_w, i32_w]
   rfl
  generalize hi1 : ofR x = i1
  generalize hi2 : ofR (turned x s) = i2
  have HI1 := Aside0.mk hi1
  have HI2 := Aside0.mk hi2
  clear hi1 hi2
  refine pure_ (i := 4) (N := some 30) (v := ?_) (a' := ?_) #[true, true, true, true, true, false] rfl rfl (by kernel_rfl) (fun _ _ _ h => h) (Or.inl ⟨by rfl, ?_⟩) ?_ ?_
  rotate_left
  ·intro w'
   go_simp
   with_reducible rfl
  rotate_left
  ·simp only [Act.put, List.setIfInBounds_toArray, List.set_cons_zero, List.set_cons_succ, i64_w, i32_w]
   rfl
  refine pure_ (i := 5) (N := some 6) (v := ?_) (a' := ?_) #[true, true, true, true, true, true] rfl rfl (by kernel_rfl) (fun _ _ _ h => h) (Or.inl ⟨by rfl, ?_⟩) ?_ ?_
  rotate_left
  ·intro w'
   go_simp
   with_reducible rfl
  rotate_left
  ·simp only [Act.put, List.setIfInBounds_toArray, List.set_cons_zero, List.set_cons_succ, i64_w, i32_w]
   rfl
  refine done_ (by kernel_rfl) ?_
  as_aux_lemma =>
   have HQ := Aside0.mk (stays_same x s)
   by_cases hsame : i1 = i2
   ·have e0 : (i1.toList == i2.toList) = true := by rw [hsame]; exact beq_self_eq_true _
    clear hsame
    go_wp2_with fail
    refine (alive21 _ (HE.out.below HB.out)).mono ?_
    rintro e w2 ⟨rfl, hb⟩
    replace HB := Aside0.mk (HB.out.trans (hb.mono HB.out.size))
    clear hb
    go_wp2_with fail
    go_ret
    exact ⟨rfl, HB.out⟩
   ·have e0 : (i1.toList == i2.toList) = false := beq_eq_false_iff_ne.2 (fun h => hsame (by rw [Lib.toList_data, Lib.toList_data] at h; exact bytes_ext h))
    have hq := HQ.out (by rw [HI1.out, HI2.out]; exact hsame)
    have e1 : x.f1.toList.isEmpty = true := List.isEmpty_iff.2 hq.1
    have e2 : x.f2.toList.isEmpty = true := List.isEmpty_iff.2 hq.2
    have e3 : (x.f1.toList == ([] : List UInt8)) = true := beq_iff_eq.2 hq.1
    have e4 : (x.f2.toList == ([] : List UInt8)) = true := beq_iff_eq.2 hq.2
    clear hsame hq
    have hc1 := (blk_cell BK.out 1).trans rfl
    have hc2 := (blk_cell BK.out 2).trans rfl
    go_wp2_with fail
    refine (alive21 _ (HE.out.below HB.out)).mono ?_
    rintro e w2 ⟨rfl, hb⟩
    replace HB := Aside0.mk (HB.out.trans (hb.mono HB.out.size))
    clear hb
    go_wp2_with fail
    go_ret
    exact ⟨rfl, HB.out⟩
theorem agg_of {cs : Array Value} {l : List Value} (h : cs.toList = l) : cs = l.toArray := by rw [← h]
theorem identStays_walk (x : En) (cs : Array Value) {w : World} (hK : k30.K w x cs.toList) (hr : EntRead x) (s : ByteArray) (hs : s.size ≤ 140737488351232) (w1 : World) (hE : EnvOk w) :
  Calls Tryd.prog 4 #[.agg cs, .string s] w fun e w' => e = .returned (.bool true) ∧ Below w.heap.size w w' := by
 obtain ⟨A9, n9, A10, n10, A11, n11, A12, n12, A13, n13, hcs, l9, g9, l10, g10, l11, g11, l12, g12, l13, g13⟩ := k30_open hK
 obtain rfl := agg_of hcs
 obtain ⟨b, ⟨k, hk⟩, hb⟩ := far_f [x] [] (by intro y hy; rw [List.mem_singleton.1 hy]; exact hr) (by simp)
 have hf := hk k (Nat.le_refl _)
 cases b with
 | true => exact stays_far k x s A9 A10 A11 A12 A13 n9 n10 n11 n12 n13 w hE ⟨l9, g9⟩ ⟨l10, g10⟩ ⟨l11, g11⟩ ⟨l12, g12⟩ ⟨l13, g13⟩ hf
 | false =>
  by_cases hl : 1000 < s.size
  ·exact stays_long k x s A9 A10 A11 A12 A13 n9 n10 n11 n12 n13 w hE ⟨l9, g9⟩ ⟨l10, g10⟩ ⟨l11, g11⟩ ⟨l12, g12⟩ ⟨l13, g13⟩ hf hl
  ·exact stays_main k x s A9 A10 A11 A12 A13 n9 n10 n11 n12 n13 w hE ⟨l9, g9⟩ ⟨l10, g10⟩ ⟨l11, g11⟩ ⟨l12, g12⟩ ⟨l13, g13⟩ hf (by omega) ((hb rfl).2.2 x List.mem_cons_self)
end Go.Proofs.YtihaeeldgimdiaaDoor.X
