/- IdentOnce: what a call of it does. -/
import Derived.Test.YtihaeeldgimdiaaDoorUiLIh
namespace Go.Proofs.YtihaeeldgimdiaaDoor.X
open Go.RowKit Go.Lib Go.Shelf Go.Proofs.YtihaeeldgimdiaaDoorW.PrintWords Go.Proofs.YtihaeeldgimdiaaDoorW.PrintLast Go.Proofs.YtihaeeldgimdiaaDoorW.PrintMore
set_option linter.unusedVariables false
set_option linter.unusedSimpArgs false
theorem keep_below {w wx wy : World} {g : Nat} (h : KeepBut w wx g none) (hb : Below wx.heap.size wx wy) : KeepBut w wy g none :=
 ⟨Nat.le_trans h.1 hb.size, fun i hi hg hr => (hb.block i (Nat.lt_of_lt_of_le hi h.1)).trans (h.2 i hi hg hr)⟩
theorem keep_grown {w wx wy : World} {g : Nat} (h : KeepBut w wx g none) (hgr : wx.grownBy wy (some g)) (hs : wx.heap.size ≤ wy.heap.size) : KeepBut w wy g none :=
 ⟨Nat.le_trans h.1 hs, fun i hi hg hr => (hgr.block i (Nat.lt_of_lt_of_le hi h.1) (by intro e; injection e with e; exact hg e)).trans (h.2 i hi hg hr)⟩
theorem keep_refl (w : World) (g : Nat) : KeepBut w w g none := ⟨Nat.le_refl _, fun _ _ _ _ => rfl⟩
def once.T8 : Bool × List (List Nat × List Nat) := (true, [([], []), ([], []), ([1], [1]), ([0, 2], [0, 2]), ([3], [3]), ([4], [4]), ([5, 4], [4, 5]), ([4, 6], [4, 6]), ([7, 4], [7]), ([8], [8]), ([9, 8, 8], [8, 9]), ([8], [8]), ([11, 8], [8, 11]), ([10, 12, 8], [8, 10, 12]), ([8, 13], [8, 13])])
def once.B8 : List Nat := [0, 0, 2, 7, 15, 31, 63, 127, 255, 511, 1023, 511, 2559, 8191, 16383]
theorem once.tab8 : rtab .any (opsOf Tryd.f5 8) = once.T8 := by kernel_rfl
theorem once.bits8 : waitsOk once.T8.2 once.B8 = true := by kernel_rfl
set_option maxHeartbeats 8000000 in
set_option maxRecDepth 100000 in
theorem once_far (k : Nat) (A : Option Addr) (c : Nat) (l : List En) (w : World) (hE : EnvOk w) (r : Kd.C k30 w A l.length l) (hle : l.length ≤ c)
  (hf : cringlelaw21_far.f k l [] = some true) :
  Calls Tryd.prog 5 #[.slice A l.length c] w fun e w' => e = .returned (.bool true) ∧ Below w.heap.size w w' := by
 have HE := Aside0.mk hE
 have R := Aside0.mk r
 have HLE := Aside0.mk hle
 have HF := Aside0.mk hf
 clear hE r hle hf
 have hu30 := Tryd.underlying30
 go_enter Tryd.func5, Tryd.ntmps5
 go_wp2_with fail
 refine (cringlelaw21_far.calls k A c l none 0 [] true _ HE.out R.out HLE.out (Kd.C_nil _ _) (Nat.le_refl _) HF.out).mono ?_
 rintro e w1 ⟨rfl, hb⟩
 have HB := Aside0.mk hb
 clear hb
 go_wp2_with fail
 refine (alive21 _ (HE.out.below HB.out)).mono ?_
 rintro e wa ⟨rfl, hb⟩
 replace HB := Aside0.mk (HB.out.trans (hb.mono HB.out.size))
 clear hb
 go_wp2_with fail
 go_ret
 exact ⟨rfl, HB.out⟩
set_option maxHeartbeats 8000000 in
set_option maxRecDepth 100000 in
theorem once_main (k : Nat) (A : Option Addr) (c : Nat) (l : List En) (w : World) (hE : EnvOk w) (r : Kd.C k30 w A l.length l) (hle : l.length ≤ c)
  (hf : cringlelaw21_far.f k l [] = some false)
  (ho : ∀ x ∈ l, OfOk x)
  (hn : l.length ≤ 20) :
  Calls Tryd.prog 5 #[.slice A l.length c] w fun e w' => e = .returned (.bool true) ∧ Below w.heap.size w w' := by
 have HE := Aside0.mk hE
 have R := Aside0.mk r
 have HLE := Aside0.mk hle
 have HF := Aside0.mk hf
 have HO := Aside0.mk ho
 have HN := Aside0.mk hn
 clear hE r hle hf ho hn
 have hu30 := Tryd.underlying30
 have hmm := @run_makeMap Tryd.prog
 have hll : l.length ≤ 9223372036854775807 := by have := HN.out; omega
 go_enter Tryd.func5, Tryd.ntmps5
 go_wp2_with fail
 refine (cringlelaw21_far.calls k A c l none 0 [] false _ HE.out R.out HLE.out (Kd.C_nil _ _) (Nat.le_refl _) HF.out).mono ?_
 rintro e w1 ⟨rfl, hb⟩
 have HB := Aside0.mk hb
 clear hb
 have HM := Aside0.mk (SetB.made w1 Tryd.prog 9 4)
 have HG := Aside0.mk HB.out.size
 replace HB := Aside0.mk (HB.out.alloc HB.out.size (.map #[] 0))
 go_wp2_with fail
 clear hmm
 generalize w1.alloc (.map #[] 0) = w2 at HM HB ⊢
 generalize w1.heap.size = bm at HM HG ⊢
 have RU := Aside0.mk (show Kd.C (Kd.fixed k30 w) w2 A l.length l from ReadsRow.imp_ R.out (HB.out) (fun _ _ h => h))
 refine (unique_calls A c l w w2 HB.out (HE.out.below HB.out) RU.out HO.out (by have := HN.out; omega)).mono ?_
 rintro e w4 ⟨v, rfl, hr, hb⟩
 obtain ⟨Au, cu, rfl, hlu, _⟩ := Kd.R_reads hr
 have hmt : bm < w2.heap.size := HM.out.lt
 have HM4 := Aside0.mk (HM.out.below hb)
 have HRU := Aside0.mk (Kd.R_mono (Kd.R_bound hr) (ok' := fun k => k ≠ bm) (fun k hk => by have h1 := hk.2.1; omega))
 replace HB := Aside0.mk (HB.out.trans (hb.mono HB.out.size))
 have HU := Aside0.mk (young_ok [] l)
 have HUL := Aside0.mk (youngS_length [] l)
 generalize hu : youngR [] l = u at HRU HU hlu ⊢
 have HUL : Aside0 (u.length ≤ l.length) := ⟨by rw [← hu]; exact HUL.out⟩
 have HLU := Aside0.mk hlu
 have hul : u.length ≤ 9223372036854775807 := by have := HUL.out; have := HN.out; omega
 clear hr hb hlu hmt hu HM RU
 go_wp2_with fail
 go_loopg [17] u.length (fun gk v17 wx => ∃ (i : Nat), i + gk = u.length ∧ v17 = .int .i64 (i : Int) ∧ Aside0 (SetB Tryd.prog wx 9 4 bm i ((u.take i).map (·.f0)).reverse) ∧ Aside0 (KeepBut w4 wx bm none) ∧ Aside0 (Below w.heap.size w wx))
 case atStart => exact ⟨0, by omega, rfl, HM4, ⟨keep_refl _ _⟩, HB⟩
 case round =>
  clear HM4 HB
  obtain ⟨i, hi1, rfl, HM, HK, HB⟩ := hrel
  cases gk with
  | zero =>
   as_aux_lemma =>
    obtain rfl : i = u.length := by omega
    rw [List.take_length] at HM
    go_wp2_with fail
    go_loopg [48] l.length (fun gk v48 wx => ∃ (j : Nat), j + gk = l.length ∧ v48 = .int .i64 (j : Int) ∧ Aside0 (SetB Tryd.prog wx 9 4 bm u.length (u.map (·.f0)).reverse) ∧ Aside0 (Below w.heap.size w wx))
    case atStart => exact ⟨0, by omega, rfl, HM, HB⟩
    case round =>
     clear HM HB HK
     obtain ⟨j, hj1, rfl, HM, HB⟩ := hrel
     cases gk with
     | zero =>
      obtain rfl : j = l.length := by omega
      go_wp2_with fail
      refine (alive21 _ (HE.out.below HB.out)).mono ?_
      rintro e wa ⟨rfl, hb⟩
      replace HB := Aside0.mk (HB.out.trans (hb.mono HB.out.size))
      clear hb
      go_wp2_with fail
      go_ret
      exact ⟨rfl, HB.out⟩
     | succ g2 =>
      have hlt : j < l.length := by omega
      have c0_ : decide ((j : Int) < (l.length : Int)) = true := decide_eq_true (by omega)
      have c1_ : decide (j < l.length) = true := decide_eq_true hlt
      have p5 : 0 ≤ (j : Int) := by omega
      have p6 : (j : Int) < (l.length : Int) := by omega
      have hrd : rd_T30 l (j : Int) = l[j] := by unfold rd_T30; rw [Int.toNat_natCast, List.getD_eq_getElem?_getD, List.getElem?_eq_getElem hlt]; rfl
      obtain ⟨ad, A11, c11, A12, c12, A13, c13, A14, c14, A15, c15, e5, q0, q1, q2, q3, q4, q5, q6, q7, q8, q9, q10, q11, q12, q13, q14, q15, l11, g11, l12, g12, l13, g13, l14, g14, l15, g15⟩ := at_fx (show Kd.C (Kd.fixed k30 w) w A l.length l from R.out) (j : Int) p5 p6
      have hok : OfOk (rd_T30 l (j : Int)) := by rw [hrd]; exact HO.out _ (List.getElem_mem hlt)
      have hin : memB (u.map (·.f0)).reverse (ofR (rd_T30 l (j : Int))) = true := by
       rw [memB_iff, hrd, List.mem_reverse]
       rcases HU.out.2.2.2 _ (List.getElem_mem hlt) with h | h
       ·cases h
       ·exact h
      replace q0 := (HB.out.cell (World.block_lt_of_cell? w _ q0)).trans q0
      replace q1 := (HB.out.cell (World.block_lt_of_cell? w _ q1)).trans q1
      replace q2 := (HB.out.cell (World.block_lt_of_cell? w _ q2)).trans q2
      replace q3 := (HB.out.cell (World.block_lt_of_cell? w _ q3)).trans q3
      replace q4 := (HB.out.cell (World.block_lt_of_cell? w _ q4)).trans q4
      replace q5 := (HB.out.cell (World.block_lt_of_cell? w _ q5)).trans q5
      replace q6 := (HB.out.cell (World.block_lt_of_cell? w _ q6)).trans q6
      replace q7 := (HB.out.cell (World.block_lt_of_cell? w _ q7)).trans q7
      replace q8 := (HB.out.cell (World.block_lt_of_cell? w _ q8)).trans q8
      replace q9 := (HB.out.cell (World.block_lt_of_cell? w _ q9)).trans q9
      replace q10 := (HB.out.cell (World.block_lt_of_cell? w _ q10)).trans q10
      replace q11 := (HB.out.cell (World.block_lt_of_cell? w _ q11)).trans q11
      replace q12 := (HB.out.cell (World.block_lt_of_cell? w _ q12)).trans q12
      replace q13 := (HB.out.cell (World.block_lt_of_cell? w _ q13)).trans q13
      replace q14 := (HB.out.cell (World.block_lt_of_cell? w _ q14)).trans q14
      replace q15 := (HB.out.cell (World.block_lt_of_cell? w _ q15)).trans q15
      subst e5
      rw [Int.toNat_natCast] at q0 q1 q2 q3 q4 q5 q6 q7 q8 q9 q10 q11 q12 q13 q14 q15
      generalize rd_T30 l (j : Int) = x at *
      have HKX := Aside0.mk (k30_mk w x l11 g11 l12 g12 l13 g13 l14 g14 l15 g15)
      have HOK := Aside0.mk hok
      have HIN := Aside0.mk hin
      have hw1 : wrap64 ((j : Int) + 1) = ((j + 1 : Nat) : Int) := by unfold wrap64; omega
      have HW := Aside0.mk hw1
      clear l11 g11 l12 g12 l13 g13 l14 g14 l15 g15 hok hin hrd hw1
      have BE := Aside0.mk (heap_alloc_new wr (.cells (ec x.f0 x.f1 x.f2 x.f3 x.f4 x.f5 x.f6 x.f7 x.f8.f0 x.f8.f1 x.f8.f2 (.slice A11 x.f9.length c11) (.slice A12 x.f10.length c12) (.slice A13 x.f11.length c13) (.slice A14 x.f12.length c14) (.slice A15 x.f13.length c15)) 30))
      have HM1 := Aside0.mk (HM.out.alloc (.cells (ec x.f0 x.f1 x.f2 x.f3 x.f4 x.f5 x.f6 x.f7 x.f8.f0 x.f8.f1 x.f8.f2 (.slice A11 x.f9.length c11) (.slice A12 x.f10.length c12) (.slice A13 x.f11.length c13) (.slice A14 x.f12.length c14) (.slice A15 x.f13.length c15)) 30))
      have HB1 := Aside0.mk (HB.out.alloc HB.out.size (.cells (ec x.f0 x.f1 x.f2 x.f3 x.f4 x.f5 x.f6 x.f7 x.f8.f0 x.f8.f1 x.f8.f2 (.slice A11 x.f9.length c11) (.slice A12 x.f10.length c12) (.slice A13 x.f11.length c13) (.slice A14 x.f12.length c14) (.slice A15 x.f13.length c15)) 30))
      go_wp2_with fail
      clear q0 q1 q2 q3 q4 q5 q6 q7 q8 q9 q10 q11 q12 q13 q14 q15
      refine (of_calls x _ _ (HE.out.below HB1.out) (k30.K_below HB1.out HKX.out) HOK.out).mono ?_
      rintro e w6 ⟨rfl, hb⟩
      have HM2 := Aside0.mk (HM1.out.below hb)
      have HB2 := Aside0.mk (HB1.out.trans (hb.mono HB1.out.size))
      clear hb HM1 HB1
      have hz := ofR_size HOK.out
      have hlk := HM2.out.lookup (t := 33) Tryd.underlying9 Tryd.underlying33 Tryd.underlying4 (zero_bool w6) (ofR x) (by unfold maxLen; omega)
      rw [HIN.out] at hlk
      clear hz
      go_wp2_with fail
      clear hlk
      go_roundg g2
      case measure => omega
      case rel => exact ⟨j + 1, by omega, by go_num, HM2, HB2⟩
  | succ g1 =>
   have hlt : i < u.length := by omega
   have c0_ : decide ((i : Int) < (u.length : Int)) = true := decide_eq_true (by omega)
   have c1_ : decide (i < u.length) = true := decide_eq_true hlt
   have p5 : 0 ≤ (i : Int) := by omega
   have p6 : (i : Int) < (u.length : Int) := by omega
   have hrd : rd_T30 u (i : Int) = u[i] := by unfold rd_T30; rw [Int.toNat_natCast, List.getD_eq_getElem?_getD, List.getElem?_eq_getElem hlt]; rfl
   have hCu : Kd.C (Kd.fixed k30 w) wr Au u.length u := Kd.F_now (Kd.F_keep (Kd.R_F HRU.out) HK.out (fun k hk => hk))
   obtain ⟨ad, A11, c11, A12, c12, A13, c13, A14, c14, A15, c15, e5, q0, q1, q2, q3, q4, q5, q6, q7, q8, q9, q10, q11, q12, q13, q14, q15, l11, g11, l12, g12, l13, g13, l14, g14, l15, g15⟩ := at_fx hCu (i : Int) p5 p6
   obtain ⟨y, hy, hxy⟩ := HU.out.1 _ (List.getElem_mem hlt)
   have hok : OfOk (rd_T30 u (i : Int)) := by rw [hrd, hxy]; exact named_ok (HO.out y hy)
   have hid : ofR (rd_T30 u (i : Int)) = (rd_T30 u (i : Int)).f0 := by rw [hrd, hxy]; rfl
   have hts : ((u.take (i + 1)).map (·.f0)).reverse = (rd_T30 u (i : Int)).f0 :: ((u.take i).map (·.f0)).reverse := by
    rw [hrd, List.take_add_one, List.getElem?_eq_getElem hlt, Option.toList_some, List.map_append, List.reverse_append]; rfl
   have hout : memB ((u.take i).map (·.f0)).reverse (rd_T30 u (i : Int)).f0 = false := by
    rw [Bool.eq_false_iff]
    intro hm
    rw [memB_iff, hrd, List.mem_reverse] at hm
    have hnd := HU.out.2.1
    rw [← List.take_append_drop i u, List.map_append, List.nodup_append] at hnd
    exact hnd.2.2 _ hm _ (List.mem_map.2 ⟨u[i], by rw [List.drop_eq_getElem_cons hlt]; exact List.mem_cons_self, rfl⟩) rfl
   subst e5
   rw [Int.toNat_natCast] at q0 q1 q2 q3 q4 q5 q6 q7 q8 q9 q10 q11 q12 q13 q14 q15
   generalize rd_T30 u (i : Int) = x at *
   have HKX := Aside0.mk (k30_mk w x l11 g11 l12 g12 l13 g13 l14 g14 l15 g15)
   have HOK := Aside0.mk hok
   have HID := Aside0.mk hid
   have HOUT := Aside0.mk hout
   have HTS := Aside0.mk hts
   obtain ⟨kc, kr, hc1, hc2, hc3⟩ := ofR_form x
   have hsz : x.f0.size ≤ 1000000000 + 2 := by rw [← hid]; exact ofR_size hok
   obtain ⟨kb, hkb⟩ := kind_f x.f0 kc kr hc1 hc2 (by rw [← hid]; exact hc3) (by omega)
   have HKB := Aside0.mk hkb
   have HSZ := Aside0.mk hsz
   have hw1 : wrap64 ((i : Int) + 1) = ((i + 1 : Nat) : Int) := by unfold wrap64; omega
   have HW := Aside0.mk hw1
   clear l11 g11 l12 g12 l13 g13 l14 g14 l15 g15 hok hid hout hts hrd hw1 hkb hsz hc1 hc2 hc3 hCu hxy hy
   as_aux_lemma =>
    have BE := Aside0.mk (heap_alloc_new wr (.cells (ec x.f0 x.f1 x.f2 x.f3 x.f4 x.f5 x.f6 x.f7 x.f8.f0 x.f8.f1 x.f8.f2 (.slice A11 x.f9.length c11) (.slice A12 x.f10.length c12) (.slice A13 x.f11.length c13) (.slice A14 x.f12.length c14) (.slice A15 x.f13.length c15)) 30))
    have HM1 := Aside0.mk (HM.out.alloc (.cells (ec x.f0 x.f1 x.f2 x.f3 x.f4 x.f5 x.f6 x.f7 x.f8.f0 x.f8.f1 x.f8.f2 (.slice A11 x.f9.length c11) (.slice A12 x.f10.length c12) (.slice A13 x.f11.length c13) (.slice A14 x.f12.length c14) (.slice A15 x.f13.length c15)) 30))
    have HK1 := Aside0.mk (keep_below HK.out ((Below.refl wr.heap.size wr).alloc (Nat.le_refl _) (.cells (ec x.f0 x.f1 x.f2 x.f3 x.f4 x.f5 x.f6 x.f7 x.f8.f0 x.f8.f1 x.f8.f2 (.slice A11 x.f9.length c11) (.slice A12 x.f10.length c12) (.slice A13 x.f11.length c13) (.slice A14 x.f12.length c14) (.slice A15 x.f13.length c15)) 30)))
    have HB1 := Aside0.mk (HB.out.alloc HB.out.size (.cells (ec x.f0 x.f1 x.f2 x.f3 x.f4 x.f5 x.f6 x.f7 x.f8.f0 x.f8.f1 x.f8.f2 (.slice A11 x.f9.length c11) (.slice A12 x.f10.length c12) (.slice A13 x.f11.length c13) (.slice A14 x.f12.length c14) (.slice A15 x.f13.length c15)) 30))
    have hc0 := (blk_cell BE.out 0).trans rfl
    go_wp2_with fail
    clear q0 q1 q2 q3 q4 q5 q6 q7 q8 q9 q10 q11 q12 q13 q14 q15 hc0
    refine (ident_Kind.calls x.f0 kb 0 _ (HE.out.below HB1.out) HKB.out).mono ?_
    rintro e w6 ⟨rfl, ⟨nd, rfl⟩⟩
    replace BE := Aside0.mk (blk_drewN BE.out nd)
    have hbd := pw_below_drewN (Below.refl (wr.alloc (.cells (ec x.f0 x.f1 x.f2 x.f3 x.f4 x.f5 x.f6 x.f7 x.f8.f0 x.f8.f1 x.f8.f2 (.slice A11 x.f9.length c11) (.slice A12 x.f10.length c12) (.slice A13 x.f11.length c13) (.slice A14 x.f12.length c14) (.slice A15 x.f13.length c15)) 30)).heap.size (wr.alloc (.cells (ec x.f0 x.f1 x.f2 x.f3 x.f4 x.f5 x.f6 x.f7 x.f8.f0 x.f8.f1 x.f8.f2 (.slice A11 x.f9.length c11) (.slice A12 x.f10.length c12) (.slice A13 x.f11.length c13) (.slice A14 x.f12.length c14) (.slice A15 x.f13.length c15)) 30))) nd
    replace HM1 := Aside0.mk (HM1.out.below hbd)
    replace HK1 := Aside0.mk (keep_below HK1.out hbd)
    replace HB1 := Aside0.mk (HB1.out.trans (hbd.mono HB1.out.size))
    clear hbd
    generalize World.drewN _ nd = w6 at BE HM1 HK1 HB1 ⊢
    generalize wr.heap.size = ge at BE ⊢
    as_aux_lemma =>
     have HKX1 := Aside0.mk (k30.K_below HB1.out HKX.out)
     replace HB := Aside0.mk HB1.out
     clear HB1 HM HK
     have hlkz : x.f0.size ≤ maxLen := by have := HSZ.out; unfold maxLen; omega
     have HLZ := Aside0.mk hlkz
     clear hlkz
     go_wp2_with fail
     refine start_ (n := 15) (S := fun w' => w'.heap[ge]? = some (.cells (ec x.f0 x.f1 x.f2 x.f3 x.f4 x.f5 x.f6 x.f7 x.f8.f0 x.f8.f1 x.f8.f2 (.slice A11 x.f9.length c11) (.slice A12 x.f10.length c12) (.slice A13 x.f11.length c13) (.slice A14 x.f12.length c14) (.slice A15 x.f13.length c15)) 30 (0, 0)) ∧ SetB Tryd.prog w' 9 4 bm i ((u.take i).map (·.f0)).reverse) (ds := []) #[false, false, false, false, false, false, false, false, false, false, false, false, false, false, false] (by kernel_rfl) rfl rfl ⟨(blk_drew BE.out), (SetB.below HM1.out (below_drew1 (Below.refl _ _)))⟩ (fun hHeld => ?_); refine with_tabW once.tab8 once.bits8 (fun HT_ HW_ => ?_)
     replace BE := Aside0.mk (blk_drew BE.out)
     replace HM1 := Aside0.mk (SetB.below HM1.out (below_drew1 (Below.refl _ _)))
     replace HK1 := Aside0.mk (keep_below HK1.out (below_drew1 (Below.refl _ _)))
     replace HKX1 := Aside0.mk (k30.K_below (below_drew1 (Below.refl _ _)) HKX1.out)
     replace HB := Aside0.mk (below_drew1 HB.out)
     generalize World.drew _ = w7 at BE HM1 HK1 HKX1 HB hHeld ⊢
     refine pure_ (i := 0) (N := some 27) (v := ?_) (a' := ?_) #[true, false, false, false, false, false, false, false, false, false, false, false, false, false, false] rfl rfl (any_of HT_.out (by kernel_rfl)) (fun _ _ _ h => h) (Or.inl ⟨by rfl, ?_⟩) ?_ ?_
     rotate_left
     ·intro w'
      go_simp
      with_reducible rfl
     rotate_left
     ·simp only [Act.put, List.setIfInBounds_toArray, List.set_cons_zero, List.set_cons_succ, i64_w, i32_w]
      rfl
     refine pure_ (i := 1) (N := some 28) (v := ?_) (a' := ?_) #[true, true, false, false, false, false, false, false, false, false, false, false, false, false, false] rfl rfl (any_of HT_.out (by kernel_rfl)) (fun _ _ _ h => h) (Or.inl ⟨by rfl, ?_⟩) ?_ ?_
     rotate_left
     ·intro w'
      go_simp
      with_reducible rfl
     rotate_left
     ·simp only [Act.put, List.setIfInBounds_toArray, List.set_cons_zero, List.set_cons_succ, i64_w, i32_w]
      rfl
     refine take_ (i := 2) (N := some 29) (v := ?_) (a' := ?_) #[true, true, true, false, false, false, false, false, false, false, false, false, false, false, false] rfl rfl (take_ofW HT_.out HW_.out (by kernel_rfl)) (fun _ _ _ h => h) (Or.inl ⟨by rfl, ?_⟩) hHeld ?_ ?_
     rotate_left
     ·rintro w' ⟨s0, s1⟩
      have h0 := (blk_cell s0 0).trans rfl
      go_simp
      with_reducible rfl
     rotate_left
     ·simp only [Act.put, List.setIfInBounds_toArray, List.set_cons_zero, List.set_cons_succ, i64_w, i32_w]
      rfl
     refine take_ (i := 3) (N := some 30) (v := ?_) (a' := ?_) #[true, true, true, true, false, false, false, false, false, false, false, false, false, false, false] rfl rfl (take_ofW HT_.out HW_.out (by kernel_rfl)) (fun _ _ _ h => h) (Or.inl ⟨by rfl, ?_⟩) hHeld ?_ ?_
     rotate_left
     ·rintro w' ⟨s0, s1⟩
      have hlk := s1.lookup (t := 33) Tryd.underlying9 Tryd.underlying33 Tryd.underlying4 (zero_bool w') x.f0 HLZ.out
      rw [HOUT.out] at hlk
      go_simp
      with_reducible rfl
     rotate_left
     ·simp only [Act.put, List.setIfInBounds_toArray, List.set_cons_zero, List.set_cons_succ, i64_w, i32_w]
      rfl
     refine pure_ (i := 4) (N := some 31) (v := ?_) (a' := ?_) #[true, true, true, true, true, false, false, false, false, false, false, false, false, false, false] rfl rfl (any_of HT_.out (by kernel_rfl)) (fun _ _ _ h => h) (Or.inl ⟨by rfl, ?_⟩) ?_ ?_
     rotate_left
     ·intro w'
      go_simp
      with_reducible rfl
     rotate_left
     ·simp only [Act.put, List.setIfInBounds_toArray, List.set_cons_zero, List.set_cons_succ, i64_w, i32_w]
      rfl
     refine pure_ (i := 5) (N := some 32) (v := ?_) (a' := ?_) #[true, true, true, true, true, true, false, false, false, false, false, false, false, false, false] rfl rfl (any_of HT_.out (by kernel_rfl)) (fun _ _ _ h => h) (Or.inl ⟨by rfl, ?_⟩) ?_ ?_
     rotate_left
     ·intro w'
      go_simp
      with_reducible rfl
     rotate_left
     ·simp only [Act.put, List.setIfInBounds_toArray, List.set_cons_zero, List.set_cons_succ, i64_w, i32_w]
      rfl
     refine pure_ (i := 6) (N := some 33) (v := ?_) (a' := ?_) #[true, true, true, true, true, true, true, false, false, false, false, false, false, false, false] rfl rfl (any_of HT_.out (by kernel_rfl)) (fun _ _ _ h => h) (Or.inl ⟨by rfl, ?_⟩) ?_ ?_
     rotate_left
     ·intro w'
      go_simp
      with_reducible rfl
     rotate_left
     ·simp only [Act.put, List.setIfInBounds_toArray, List.set_cons_zero, List.set_cons_succ, i64_w, i32_w]
      rfl
     refine pure_ (i := 7) (N := some 34) (v := ?_) (a' := ?_) #[true, true, true, true, true, true, true, true, false, false, false, false, false, false, false] rfl rfl (any_of HT_.out (by kernel_rfl)) (fun _ _ _ h => h) (Or.inl ⟨by rfl, ?_⟩) ?_ ?_
     rotate_left
     ·intro w'
      go_simp
      with_reducible rfl
     rotate_left
     ·simp only [Act.put, List.setIfInBounds_toArray, List.set_cons_zero, List.set_cons_succ, i64_w, i32_w]
      rfl
     refine pure_ (i := 8) (N := some 35) (v := ?_) (a' := ?_) #[true, true, true, true, true, true, true, true, true, false, false, false, false, false, false] rfl rfl (any_of HT_.out (by kernel_rfl)) (fun _ _ _ h => h) (Or.inl ⟨by rfl, ?_⟩) ?_ ?_
     rotate_left
     ·intro w'
      go_simp
      with_reducible rfl
     rotate_left
     ·simp only [Act.put, List.setIfInBounds_toArray, List.set_cons_zero, List.set_cons_succ, i64_w, i32_w]
      rfl
     refine take_ (i := 9) (N := some 36) (v := ?_) (a' := ?_) #[true, true, true, true, true, true, true, true, true, true, false, false, false, false, false] rfl rfl (take_ofW HT_.out HW_.out (by kernel_rfl)) (fun _ _ _ h => h) (Or.inl ⟨by rfl, ?_⟩) hHeld ?_ ?_
     rotate_left
     ·rintro w' ⟨s0, s1⟩
      obtain ⟨h0, h1, h2, h3, h4, h5, h6, h7, h8, h9, h10, h11, h12, h13, h14, h15⟩ := ec_cells s0
      go_simp
      with_reducible rfl
     rotate_left
     ·simp only [Act.put, List.setIfInBounds_toArray, List.set_cons_zero, List.set_cons_succ, i64_w, i32_w]
      rfl
     refine pure_ (i := 11) (N := some 38) (v := ?_) (a' := ?_) #[true, true, true, true, true, true, true, true, true, true, false, true, false, false, false] rfl rfl (any_of HT_.out (by kernel_rfl)) (fun _ _ _ h => h) (Or.inl ⟨by rfl, ?_⟩) ?_ ?_
     rotate_left
     ·intro w'
      go_simp
      with_reducible rfl
     rotate_left
     ·simp only [Act.put, List.setIfInBounds_toArray, List.set_cons_zero, List.set_cons_succ, i64_w, i32_w]
      rfl
     refine take_ (i := 12) (N := some 39) (v := ?_) (a' := ?_) #[true, true, true, true, true, true, true, true, true, true, false, true, true, false, false] rfl rfl (take_ofW HT_.out HW_.out (by kernel_rfl)) (fun _ _ _ h => h) (Or.inl ⟨by rfl, ?_⟩) hHeld ?_ ?_
     rotate_left
     ·rintro w' ⟨s0, s1⟩
      have h0 := (blk_cell s0 0).trans rfl
      go_simp
      with_reducible rfl
     rotate_left
     ·simp only [Act.put, List.setIfInBounds_toArray, List.set_cons_zero, List.set_cons_succ, i64_w, i32_w]
      rfl
     refine one_ (i := 10) (N := some 37) #[true, true, true, true, true, true, true, true, true, true, true, true, true, false, false] rfl rfl (one_of HT_.out (by kernel_rfl)) (by decide) (fun K hK => ?_)
     refine goes_ Tryd.func9 (by kernel_rfl) rfl #[.agg (ec x.f0 x.f1 x.f2 x.f3 x.f4 x.f5 x.f6 x.f7 x.f8.f0 x.f8.f1 x.f8.f2 (.slice A11 x.f9.length c11) (.slice A12 x.f10.length c12) (.slice A13 x.f11.length c13) (.slice A14 x.f12.length c14) (.slice A15 x.f13.length c15))] (by rfl) rfl rfl (by (try simp only [List.map_toArray, List.map_cons, List.map_nil]); first | done | rfl) ?_
     refine (of_calls x _ _ (HE.out.below HB.out) HKX1.out HOK.out).mono ?_
     rintro e we ⟨rfl, hb⟩
     refine ⟨_, rfl, ?_⟩
     replace BE := Aside0.mk (blk_bel BE.out hb)
     replace HM1 := Aside0.mk (SetB.below HM1.out hb)
     replace HK1 := Aside0.mk (keep_below HK1.out hb)
     replace HKX1 := Aside0.mk (k30.K_below hb HKX1.out)
     replace HB := Aside0.mk (HB.out.trans (hb.mono HB.out.size))
     rw [HID.out]
     clear hb
     refine hK.out _ _ ⟨BE.out, HM1.out⟩ (fun hHeld => ?_)
     clear hK K
     refine norm_ (a' := ?_) ?_ ?_
     rotate_left
     ·show Act.put _ (some 37) _ = _
      simp only [Act.put, List.setIfInBounds_toArray, List.set_cons_zero, List.set_cons_succ, i64_w, i32_w]
      rfl
     have hne : (x.f0.toList != x.f0.toList) = false := bne_self_eq_false _
     refine pure_ (i := 13) (N := some 40) (v := ?_) (a' := ?_) #[true, true, true, true, true, true, true, true, true, true, true, true, true, true, false] rfl rfl (any_of HT_.out (by kernel_rfl)) (fun _ _ _ h => h) (Or.inl ⟨by rfl, ?_⟩) ?_ ?_
     rotate_left
     ·intro w'
      go_simp
      with_reducible rfl
     rotate_left
     ·simp only [Act.put, List.setIfInBounds_toArray, List.set_cons_zero, List.set_cons_succ, i64_w, i32_w]
      rfl
     refine pure_ (i := 14) (N := some 41) (v := ?_) (a' := ?_) #[true, true, true, true, true, true, true, true, true, true, true, true, true, true, true] rfl rfl (any_of HT_.out (by kernel_rfl)) (fun _ _ _ h => h) (Or.inl ⟨by rfl, ?_⟩) ?_ ?_
     rotate_left
     ·intro w'
      go_simp
      with_reducible rfl
     rotate_left
     ·simp only [Act.put, List.setIfInBounds_toArray, List.set_cons_zero, List.set_cons_succ, i64_w, i32_w]
      rfl
     refine done_ (done_of HT_.out (by kernel_rfl)) ?_
     clear hne
     as_aux_lemma =>
      have hc0 := (blk_cell BE.out 0).trans rfl
      go_wp2_with (at_mapUpdate; refine wpList_update_set rfl _ _ _ 33 rfl Tryd.underlying9 Tryd.underlying33 Tryd.underlying4 x.f0 HLZ.out rfl rfl rfl HM1.out (by unfold maxLen; omega) ?_; intro w8 hm8 hg8; rw [← HTS.out] at hm8; have HM8 := Aside0.mk hm8; have HB8 := Aside0.mk (HB.out.grown hg8 HB.out.size (by intro k hk; injection hk with hk; have := HG.out; omega)); have HK8 := Aside0.mk (keep_grown HK1.out hg8 (by obtain ⟨_, _, _, h5, _⟩ := hg8; exact h5)); clear hm8 hg8 hc0)
      go_roundg g1
      case measure => omega
      case rel => exact ⟨i + 1, by omega, by go_num, HM8, HK8, HB8⟩
theorem identOnce_walk (A : Option Addr) (c : Nat) (l : List En) {w : World} (hC : Kd.C k30 w A l.length l) (hle : l.length ≤ c) (hr : l.length * Tryd.prog.bytesOf 30 ≤ 140737488351232 ∧ ∀ x ∈ l, EntRead x) (w1 : World) (hE : EnvOk w) :
  Calls Tryd.prog 5 #[.slice A l.length c] w fun e w' => e = .returned (.bool true) ∧ Below w.heap.size w w' := by
 obtain ⟨b, ⟨k, hk⟩, hb⟩ := far_f l [] hr.2 (by simp)
 have hf := hk k (Nat.le_refl _)
 cases b with
 | true => exact once_far k A c l w hE hC hle hf
 | false => exact once_main k A c l w hE hC hle hf (hb rfl).2.2 (hb rfl).1
end Go.Proofs.YtihaeeldgimdiaaDoor.X
