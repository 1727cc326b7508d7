/- ident.Young and ident.Unique: what a call of each gives. -/
import Derived.Test.YtihaeeldgimdiaaDoorUiIy
namespace Go.Proofs.YtihaeeldgimdiaaDoor.X
open Go.RowKit Go.Lib Go.Shelf Go.Proofs.YtihaeeldgimdiaaDoorW.PrintWords Go.Proofs.YtihaeeldgimdiaaDoorW.PrintLast Go.Proofs.YtihaeeldgimdiaaDoorW.PrintMore
set_option linter.unusedVariables false
set_option linter.unusedSimpArgs false
theorem at_fx {w0 w : World} {A : Option Addr} {n : Nat} {xs : List S30} (h : Kd.C (Kd.fixed k30 w0) w A n xs) (i : Int) (h0 : 0 ≤ i) (h1 : i < n) : ∃ ad A11 c11 A12 c12 A13 c13 A14 c14 A15 c15, A = some ad ∧ 
  w.cell? (ad.add (i.toNat * 16)) = some (.string (rd_T30 xs i).f0) ∧ w.cell? ⟨(ad.add (i.toNat * 16)).block, (ad.add (i.toNat * 16)).off + 1, none⟩ = some (.string (rd_T30 xs i).f1) ∧ w.cell? ⟨(ad.add (i.toNat * 16)).block, (ad.add (i.toNat * 16)).off + 2, none⟩ = some (.string (rd_T30 xs i).f2) ∧ w.cell? ⟨(ad.add (i.toNat * 16)).block, (ad.add (i.toNat * 16)).off + 3, none⟩ = some (.string (rd_T30 xs i).f3) ∧ w.cell? ⟨(ad.add (i.toNat * 16)).block, (ad.add (i.toNat * 16)).off + 4, none⟩ = some (.string (rd_T30 xs i).f4) ∧ w.cell? ⟨(ad.add (i.toNat * 16)).block, (ad.add (i.toNat * 16)).off + 5, none⟩ = some (.string (rd_T30 xs i).f5) ∧ w.cell? ⟨(ad.add (i.toNat * 16)).block, (ad.add (i.toNat * 16)).off + 6, none⟩ = some (.int .i64 (rd_T30 xs i).f6) ∧ w.cell? ⟨(ad.add (i.toNat * 16)).block, (ad.add (i.toNat * 16)).off + 7, none⟩ = some (.bool (rd_T30 xs i).f7) ∧ w.cell? ⟨(ad.add (i.toNat * 16)).block, (ad.add (i.toNat * 16)).off + 8, none⟩ = some (.string (rd_T30 xs i).f8.f0) ∧ w.cell? ⟨(ad.add (i.toNat * 16)).block, (ad.add (i.toNat * 16)).off + 9, none⟩ = some (.string (rd_T30 xs i).f8.f1) ∧ w.cell? ⟨(ad.add (i.toNat * 16)).block, (ad.add (i.toNat * 16)).off + 10, none⟩ = some (.string (rd_T30 xs i).f8.f2) ∧ w.cell? ⟨(ad.add (i.toNat * 16)).block, (ad.add (i.toNat * 16)).off + 11, none⟩ = some (.slice A11 (rd_T30 xs i).f9.length c11) ∧ w.cell? ⟨(ad.add (i.toNat * 16)).block, (ad.add (i.toNat * 16)).off + 12, none⟩ = some (.slice A12 (rd_T30 xs i).f10.length c12) ∧ w.cell? ⟨(ad.add (i.toNat * 16)).block, (ad.add (i.toNat * 16)).off + 13, none⟩ = some (.slice A13 (rd_T30 xs i).f11.length c13) ∧ w.cell? ⟨(ad.add (i.toNat * 16)).block, (ad.add (i.toNat * 16)).off + 14, none⟩ = some (.slice A14 (rd_T30 xs i).f12.length c14) ∧ w.cell? ⟨(ad.add (i.toNat * 16)).block, (ad.add (i.toNat * 16)).off + 15, none⟩ = some (.slice A15 (rd_T30 xs i).f13.length c15) ∧ (rd_T30 xs i).f9.length ≤ c11 ∧ Kd.string.C w0 A11 (rd_T30 xs i).f9.length (rd_T30 xs i).f9 ∧ (rd_T30 xs i).f10.length ≤ c12 ∧ Kd.string.C w0 A12 (rd_T30 xs i).f10.length (rd_T30 xs i).f10 ∧ (rd_T30 xs i).f11.length ≤ c13 ∧ Kd.string.C w0 A13 (rd_T30 xs i).f11.length (rd_T30 xs i).f11 ∧ (rd_T30 xs i).f12.length ≤ c14 ∧ Kd.string.C w0 A14 (rd_T30 xs i).f12.length (rd_T30 xs i).f12 ∧ (rd_T30 xs i).f13.length ≤ c15 ∧ Kd.string.C w0 A15 (rd_T30 xs i).f13.length (rd_T30 xs i).f13 := by
 obtain ⟨ad, c, e, _, hK, hc0⟩ := Kd.C_get h z30 i h0 h1
 have hc : ∀ j u, c[j]? = some u → w.cell? (ad.add (i.toNat * 16 + j)) = some u := hc0
 have hK2 : k30.K w0 (rd_T30 xs i) c := hK
 obtain ⟨A11, c11, A12, c12, A13, c13, A14, c14, A15, c15, rfl, l11, g11, l12, g12, l13, g13, l14, g14, l15, g15⟩ := k30_open hK2
 exact ⟨ad, A11, c11, A12, c12, A13, c13, A14, c14, A15, c15, e, hc 0 _ rfl, by rw [← add_field _ _ 1 (by omega)]; exact hc 1 _ rfl, by rw [← add_field _ _ 2 (by omega)]; exact hc 2 _ rfl, by rw [← add_field _ _ 3 (by omega)]; exact hc 3 _ rfl, by rw [← add_field _ _ 4 (by omega)]; exact hc 4 _ rfl, by rw [← add_field _ _ 5 (by omega)]; exact hc 5 _ rfl, by rw [← add_field _ _ 6 (by omega)]; exact hc 6 _ rfl, by rw [← add_field _ _ 7 (by omega)]; exact hc 7 _ rfl, by rw [← add_field _ _ 8 (by omega)]; exact hc 8 _ rfl, by rw [← add_field _ _ 9 (by omega)]; exact hc 9 _ rfl, by rw [← add_field _ _ 10 (by omega)]; exact hc 10 _ rfl, by rw [← add_field _ _ 11 (by omega)]; exact hc 11 _ rfl, by rw [← add_field _ _ 12 (by omega)]; exact hc 12 _ rfl, by rw [← add_field _ _ 13 (by omega)]; exact hc 13 _ rfl, by rw [← add_field _ _ 14 (by omega)]; exact hc 14 _ rfl, by rw [← add_field _ _ 15 (by omega)]; exact hc 15 _ rfl, l11, g11, l12, g12, l13, g13, l14, g14, l15, g15⟩
def youngStep (s : List ByteArray × List S30) (x : S30) : List ByteArray × List S30 := if memB s.1 (ofR x) = true then s else (ofR x :: s.1, s.2 ++ [namedR x])
def youngS (old : List ByteArray) (l : List S30) : List ByteArray × List S30 := l.foldl youngStep (old.reverse, [])
def youngR (old : List ByteArray) (l : List S30) : List S30 := (youngS old l).2
theorem youngS_length (old : List ByteArray) (l : List S30) : (youngS old l).2.length ≤ l.length := by
 have : ∀ (l : List S30) s, (l.foldl youngStep s).2.length ≤ s.2.length + l.length := by
  intro l
  induction l with
  | nil => intro s; simp
  | cons x l ih =>
   intro s
   have := ih (youngStep s x)
   have h2 : (youngStep s x).2.length ≤ s.2.length + 1 := by unfold youngStep; split <;> simp
   rw [List.foldl_cons, List.length_cons]
   omega
 have := this l (old.reverse, [])
 simpa [youngS] using this
theorem SetB.beside {α : Type} {d : Kd α} {e base : Nat} {ok : Nat → Prop} {v : Value} {xs : List α} {P : Program} {w w1 : World} {k0 e0 b n : Nat} {L : List ByteArray} (h : SetB P w k0 e0 b n L) (hr : d.R e w base ok v xs) (hg : w.grownBy w1 v.ownBlock) : SetB P w1 k0 e0 b n L :=
 h.kept hg (fun hb => by
  obtain ⟨_, ho⟩ := Kd.R_own hr
  obtain ⟨cells, hc⟩ := own_typed ho b hb.symm
  exact h.not_cells hc rfl)
theorem R_beside {α : Type} {d : Kd α} {e base : Nat} {ok : Nat → Prop} {v : Value} {xs : List α} {P : Program} {w w1 : World} {k0 e0 b n : Nat} {L : List ByteArray} (h : SetB P w k0 e0 b n L) (hr : d.R e w base ok v xs) (hg : w.grownBy w1 (some b)) : d.R e w1 base (fun _ => True) v xs :=
 Kd.R_mono (Kd.R_step (Kd.R_bound hr) (fun k hk hlt => hg.block k hlt (fun hb => by
  obtain ⟨_, _, _, q, _, cells, hc⟩ := hk
  injection hb with hb
  exact h.not_cells hc hb.symm))) (fun _ _ => trivial)
theorem zero_bool (w : World) : (zeroValue 4).run Tryd.prog w = .ok (.bool false) w := by kernel_rfl
set_option maxHeartbeats 8000000 in
set_option maxRecDepth 100000 in
theorem young_calls (A0 A1 : Option Addr) (c0 c1 : Nat) (old : List ByteArray) (l : List S30) (w0 w : World) (hb0 : Below w0.heap.size w0 w) (hE : EnvOk w) (r0 : Kd.C Kd.string w A0 old.length old) (r1 : Kd.C (Kd.fixed k30 w0) w A1 l.length l)
  (ho : ∀ s ∈ old, s.size ≤ 140737488355328) (hx : ∀ x ∈ l, OfOk x) (hn : l.length ≤ 100000000) (hn0 : old.length ≤ 1000000000000) :
  Calls Tryd.prog 8 #[.slice A0 old.length c0, .slice A1 l.length c1] w fun e w' => ∃ v, e = .returned v ∧ Kd.R (Kd.fixed k30 w0) 30 w' w.heap.size (fun _ => True) v (youngR old l) ∧ Below w.heap.size w w' := by
 have HE := Aside0.mk hE
 have HB0 := Aside0.mk hb0
 clear hb0
 have R0 := Aside0.mk r0
 have R1 := Aside0.mk r1
 have HO := Aside0.mk ho
 have HX := Aside0.mk hx
 clear hE r0 r1 ho hx
 have hu := Tryd.underlying30
 have hi : (Tryd.prog.info? 30).map (·.size) = some 16 := by kernel_rfl
 have hmm := @run_makeMap Tryd.prog
 have hl1 : l.length ≤ 9223372036854775807 := by omega
 have hl0 : old.length ≤ 9223372036854775807 := by omega
 have HM := Aside0.mk (SetB.made w Tryd.prog 9 4)
 have HB := Aside0.mk ((Below.refl w.heap.size w).alloc (Nat.le_refl _) (.map #[] 0))
 go_enter Tryd.func8, Tryd.ntmps8
 go_wp2_with fail
 clear hmm
 generalize w.alloc (.map #[] 0) = w1 at HM HB ⊢
 have HG := Aside0.mk (Nat.le_refl w.heap.size)
 generalize hbm : w.heap.size = bm at HM HG ⊢
 have HBM := Aside0.mk hbm
 clear hbm
 go_loopg [14] old.length (fun gk v14 wx => ∃ (i : Nat), i + gk = old.length ∧ v14 = .int .i64 (i : Int) ∧ Aside0 (SetB Tryd.prog wx 9 4 bm i (old.take i).reverse) ∧ Aside0 (Below w.heap.size w wx))
 case atStart => exact ⟨0, by omega, rfl, HM, HB⟩
 case round =>
  clear HM HB
  obtain ⟨i, hi1, rfl, HM, HB⟩ := hrel
  cases gk with
  | zero =>
   obtain rfl : i = old.length := by omega
   rw [List.take_length] at HM
   go_wp2_with fail
   clear HO
   replace HM := Aside0.mk (HM.out.mono (show old.length ≤ old.length + 0 by omega))
   generalize hst0 : old.reverse = L0 at HM
   have HST0 := Aside0.mk hst0
   clear hst0
   go_loopg [8, 23] l.length (fun gk v8 v23 wx => ∃ (i : Nat) (L : List ByteArray) (out : List S30), i + gk = l.length ∧ v23 = .int .i64 (i : Int) ∧ Aside0 ((l.take i).foldl youngStep (old.reverse, []) = (L, out)) ∧ Aside0 (out.length ≤ i) ∧ Aside0 (SetB Tryd.prog wx 9 4 bm (old.length + i) L) ∧ Aside0 (Kd.R (Kd.fixed k30 w0) 30 wx w.heap.size (fun _ => True) v8 out) ∧ Aside0 (Below w.heap.size w wx))
   case atStart => exact ⟨0, L0, [], by omega, rfl, ⟨by rw [← HST0.out]; rfl⟩, ⟨by simp⟩, HM, ⟨Kd.R_nil _ _ _ _ _⟩, HB⟩
   case round =>
    clear HM HB
    obtain ⟨i, L, out, hi1, rfl, HF, HL, HM, HR, HB⟩ := hrel
    cases gk with
    | zero =>
     obtain rfl : i = l.length := by omega
     rw [List.take_length] at HF
     go_wp2_with fail
     go_ret
     refine ⟨_, rfl, ?_, HB.out⟩
     have e1 : youngR old l = out := by unfold youngR youngS; rw [HF.out]
     rw [e1]
     exact HR.out
    | succ g1 =>
     have hlt : i < l.length := by omega
     have c0_ : decide ((i : Int) < (l.length : Int)) = true := decide_eq_true (by omega)
     have c1_ : decide (i < l.length) = true := decide_eq_true hlt
     have p5 : 0 ≤ (i : Int) := by omega
     have p6 : (i : Int) < (l.length : Int) := by omega
     have hrd : rd_T30 l (i : Int) = l[i] := by unfold rd_T30; rw [Int.toNat_natCast, List.getD_eq_getElem?_getD, List.getElem?_eq_getElem hlt]; rfl
     obtain ⟨ad, A11, c11, A12, c12, A13, c13, A14, c14, A15, c15, e5, q0, q1, q2, q3, q4, q5, q6, q7, q8, q9, q10, q11, q12, q13, q14, q15, l11, g11, l12, g12, l13, g13, l14, g14, l15, g15⟩ := at_fx R1.out (i : Int) p5 p6
     have hok : OfOk (rd_T30 l (i : Int)) := by rw [hrd]; exact HX.out _ (List.getElem_mem hlt)
     have hts : (l.take (i + 1)).foldl youngStep (old.reverse, []) = youngStep (L, out) (rd_T30 l (i : Int)) := by
      rw [hrd, List.take_add_one, List.getElem?_eq_getElem hlt, Option.toList_some, List.foldl_append, HF.out]; rfl
     have HTS := Aside0.mk hts
     have HOK := Aside0.mk hok
     clear hts hrd hok
     replace q0 := (HB.out.cell (World.block_lt_of_cell? w _ q0)).trans q0
     replace q1 := (HB.out.cell (World.block_lt_of_cell? w _ q1)).trans q1
     replace q2 := (HB.out.cell (World.block_lt_of_cell? w _ q2)).trans q2
     replace q3 := (HB.out.cell (World.block_lt_of_cell? w _ q3)).trans q3
     replace q4 := (HB.out.cell (World.block_lt_of_cell? w _ q4)).trans q4
     replace q5 := (HB.out.cell (World.block_lt_of_cell? w _ q5)).trans q5
     replace q6 := (HB.out.cell (World.block_lt_of_cell? w _ q6)).trans q6
     replace q7 := (HB.out.cell (World.block_lt_of_cell? w _ q7)).trans q7
     replace q8 := (HB.out.cell (World.block_lt_of_cell? w _ q8)).trans q8
     replace q9 := (HB.out.cell (World.block_lt_of_cell? w _ q9)).trans q9
     replace q10 := (HB.out.cell (World.block_lt_of_cell? w _ q10)).trans q10
     replace q11 := (HB.out.cell (World.block_lt_of_cell? w _ q11)).trans q11
     replace q12 := (HB.out.cell (World.block_lt_of_cell? w _ q12)).trans q12
     replace q13 := (HB.out.cell (World.block_lt_of_cell? w _ q13)).trans q13
     replace q14 := (HB.out.cell (World.block_lt_of_cell? w _ q14)).trans q14
     replace q15 := (HB.out.cell (World.block_lt_of_cell? w _ q15)).trans q15
     subst e5
     rw [Int.toNat_natCast] at q0 q1 q2 q3 q4 q5 q6 q7 q8 q9 q10 q11 q12 q13 q14 q15
     generalize rd_T30 l (i : Int) = x at *
     have HK := Aside0.mk (k30_mk w0 x l11 g11 l12 g12 l13 g13 l14 g14 l15 g15)
     have HKN := Aside0.mk (k30_mk w0 (namedR x) l11 g11 l12 g12 l13 g13 l14 g14 l15 g15)
     clear l11 g11 l12 g12 l13 g13 l14 g14 l15 g15
     have hidz : (ofR x).size ≤ 1000000000 + 2 := ofR_size HOK.out
     have HIDZ := Aside0.mk hidz
     clear hidz
     have hw1 : wrap64 ((i : Int) + 1) = ((i + 1 : Nat) : Int) := by unfold wrap64; omega
     have HW := Aside0.mk hw1
     clear hw1
     have BE := Aside0.mk (heap_alloc_new wr (.cells (ec x.f0 x.f1 x.f2 x.f3 x.f4 x.f5 x.f6 x.f7 x.f8.f0 x.f8.f1 x.f8.f2 (.slice A11 x.f9.length c11) (.slice A12 x.f10.length c12) (.slice A13 x.f11.length c13) (.slice A14 x.f12.length c14) (.slice A15 x.f13.length c15)) 30))
     have HG2 := Aside0.mk HB.out.size
     have HM1 := Aside0.mk (HM.out.alloc (.cells (ec x.f0 x.f1 x.f2 x.f3 x.f4 x.f5 x.f6 x.f7 x.f8.f0 x.f8.f1 x.f8.f2 (.slice A11 x.f9.length c11) (.slice A12 x.f10.length c12) (.slice A13 x.f11.length c13) (.slice A14 x.f12.length c14) (.slice A15 x.f13.length c15)) 30))
     have HR1 := Aside0.mk (Kd.R_alloc HR.out (.cells (ec x.f0 x.f1 x.f2 x.f3 x.f4 x.f5 x.f6 x.f7 x.f8.f0 x.f8.f1 x.f8.f2 (.slice A11 x.f9.length c11) (.slice A12 x.f10.length c12) (.slice A13 x.f11.length c13) (.slice A14 x.f12.length c14) (.slice A15 x.f13.length c15)) 30))
     have HB1 := Aside0.mk (HB.out.alloc HB.out.size (.cells (ec x.f0 x.f1 x.f2 x.f3 x.f4 x.f5 x.f6 x.f7 x.f8.f0 x.f8.f1 x.f8.f2 (.slice A11 x.f9.length c11) (.slice A12 x.f10.length c12) (.slice A13 x.f11.length c13) (.slice A14 x.f12.length c14) (.slice A15 x.f13.length c15)) 30))
     go_wp2_with fail
     clear q0 q1 q2 q3 q4 q5 q6 q7 q8 q9 q10 q11 q12 q13 q14 q15
     refine (named_walk _ _ _ _ _ _ _ _ _ _ _ _ _ _ _ _ _ _ _ _ _ _ _ _ _ _ (ofR x) _ (fun W hb => of_calls x _ W (HE.out.below (HB1.out.trans (hb.mono HB1.out.size))) (k30.K_below (HB0.out.trans ((HB1.out.trans (hb.mono HB1.out.size)).mono HB0.out.size)) HK.out) HOK.out)).mono ?_
     rintro e w3 ⟨rfl, hb⟩
     replace BE := Aside0.mk (blk_bel BE.out hb)
     have HML := Aside0.mk (Nat.ne_of_lt HM.out.lt)
     have HM3 := Aside0.mk (HM1.out.below hb)
     have HR3 := Aside0.mk (Kd.R_below (Kd.R_alloc (Kd.R_mono (Kd.R_bound HR.out) (ok' := fun k => k < wr.heap.size) (fun k hk => hk.2.2.1)) _) hb)
     have HB3 := Aside0.mk (HB1.out.trans (hb.mono HB1.out.size))
     clear hb HM1 HR1 HB1
     obtain ⟨nid, hnid⟩ : ∃ n, ofR x = n := ⟨_, rfl⟩
     have HN := Aside0.mk hnid
     rw [hnid] at HIDZ
     rw [hnid]
     clear hnid
     have HKC := Aside0.mk (show k30.K w0 (namedR x) [.string nid, .string x.f1, .string x.f2, .string x.f3, .string x.f4, .string x.f5, .int .i64 x.f6, .bool x.f7, .string x.f8.f0, .string x.f8.f1, .string x.f8.f2, .slice A11 x.f9.length c11, .slice A12 x.f10.length c12, .slice A13 x.f11.length c13, .slice A14 x.f12.length c14, .slice A15 x.f13.length c15] by rw [← HN.out]; exact HKN.out)
     go_wp2_with (first | ((with_reducible refine gate_store (t := 30) (p := 10) rfl ?_); refine wpList_store_row rfl 30 (.tmp 10) (.tmp 28) rfl wr.heap.size (ec nid x.f1 x.f2 x.f3 x.f4 x.f5 x.f6 x.f7 x.f8.f0 x.f8.f1 x.f8.f2 (.slice A11 x.f9.length c11) (.slice A12 x.f10.length c12) (.slice A13 x.f11.length c13) (.slice A14 x.f12.length c14) (.slice A15 x.f13.length c15)) rfl rfl 30 _ BE.out hi rfl (ec_one _ _ _ _ _ _ _ _ _ _ _ _ _ _ _ _ _ _ _ _ _ _ _ _ _ _) ?_; have BE4 := Aside0.mk (setRow_heap _ _ _ (ec nid x.f1 x.f2 x.f3 x.f4 x.f5 x.f6 x.f7 x.f8.f0 x.f8.f1 x.f8.f2 (.slice A11 x.f9.length c11) (.slice A12 x.f10.length c12) (.slice A13 x.f11.length c13) (.slice A14 x.f12.length c14) (.slice A15 x.f13.length c15)) _ _ BE.out); have HB4 := Aside0.mk (below_setRow HB3.out HG2.out (ec nid x.f1 x.f2 x.f3 x.f4 x.f5 x.f6 x.f7 x.f8.f0 x.f8.f1 x.f8.f2 (.slice A11 x.f9.length c11) (.slice A12 x.f10.length c12) (.slice A13 x.f11.length c13) (.slice A14 x.f12.length c14) (.slice A15 x.f13.length c15))); have HM4 := Aside0.mk (HM3.out.move (setRow_other w3 wr.heap.size bm (ec nid x.f1 x.f2 x.f3 x.f4 x.f5 x.f6 x.f7 x.f8.f0 x.f8.f1 x.f8.f2 (.slice A11 x.f9.length c11) (.slice A12 x.f10.length c12) (.slice A13 x.f11.length c13) (.slice A14 x.f12.length c14) (.slice A15 x.f13.length c15)) HML.out)); have HR4 := Aside0.mk (Kd.R_move HR3.out (fun k hk => setRow_other w3 wr.heap.size k (ec nid x.f1 x.f2 x.f3 x.f4 x.f5 x.f6 x.f7 x.f8.f0 x.f8.f1 x.f8.f2 (.slice A11 x.f9.length c11) (.slice A12 x.f10.length c12) (.slice A13 x.f11.length c13) (.slice A14 x.f12.length c14) (.slice A15 x.f13.length c15)) (Nat.ne_of_lt hk))); generalize w3.setRow wr.heap.size (ec nid x.f1 x.f2 x.f3 x.f4 x.f5 x.f6 x.f7 x.f8.f0 x.f8.f1 x.f8.f2 (.slice A11 x.f9.length c11) (.slice A12 x.f10.length c12) (.slice A13 x.f11.length c13) (.slice A14 x.f12.length c14) (.slice A15 x.f13.length c15)) = w4 at BE4 HB4 HM4 HR4 ⊢; have hc0 := (blk_cell BE4.out 0).trans rfl; have hlk := HM4.out.lookup (t := 33) Tryd.underlying9 Tryd.underlying33 Tryd.underlying4 (zero_bool w4) nid (by have := HIDZ.out; unfold maxLen; omega); cases hmem : memB L nid; all_goals rw [hmem] at hlk) | (at_mapUpdate; refine wpList_update_set rfl _ _ _ 33 rfl Tryd.underlying9 Tryd.underlying33 Tryd.underlying4 nid (by have := HIDZ.out; unfold maxLen; omega) rfl rfl rfl HM4.out (by unfold maxLen; omega) ?_; intro w5 hm5 hg5; have HM5 := Aside0.mk hm5; have HB5 := Aside0.mk (HB4.out.grown hg5 HB4.out.size (by intro k hk; injection hk with hk; have := HBM.out; omega)); have BE5 := Aside0.mk (blk_grown BE4.out hg5 (by intro hk; injection hk with hk; exact (SetB.not_cells HM4.out BE4.out) hk.symm)); have HR5 := Aside0.mk (R_beside HM4.out HR4.out hg5); clear hm5 hg5 HM4 HB4 BE4 HR4 hlk; obtain ⟨h0, h1, h2, h3, h4, h5, h6, h7, h8, h9, h10, h11, h12, h13, h14, h15⟩ := ec_cells BE5.out) | ((with_reducible refine gate_builtin (b := .append) (xs := #[.tmp 37, .tmp 39]) rfl ?_); at_builtin; clear h0 h1 h2 h3 h4 h5 h6 h7 h8 h9 h10 h11 h12 h13 h14 h15; refine Kd.R_append (Kd.fixed k30 w0) (w0 := w) w.heap.size rfl (.tmp 37) (.tmp 39) 22 30 (.agg ez) 280 rfl Tryd.underlying22 info30 rfl (show (0 : Nat) < 16 by decide) (by decide) _ out (namedR x) [.string nid, .string x.f1, .string x.f2, .string x.f3, .string x.f4, .string x.f5, .int .i64 x.f6, .bool x.f7, .string x.f8.f0, .string x.f8.f1, .string x.f8.f2, .slice A11 x.f9.length c11, .slice A12 x.f10.length c12, .slice A13 x.f11.length c13, .slice A14 x.f12.length c14, .slice A15 x.f13.length c15] (fun _ => True) (fun _ => False) rfl rfl HKC.out (fun _ hk => hk.elim) (fun _ _ => trivial) HR5.out HB5.out HB5.out.size (by have := HL.out; omega) ?_; intro v6 w6 hR6 hB6 hg6 hat6; have HR6 := Aside0.mk hR6; have HB6 := Aside0.mk hB6; have HM6 := Aside0.mk (SetB.beside HM5.out HR5.out hg6); clear hR6 hB6 hg6 hat6))
     ·have HMEM := Aside0.mk hmem
      clear hmem
      have HS := Aside0.mk (show youngStep (L, out) x = (nid :: L, out ++ [namedR x]) by
       unfold youngStep
       simp only
       rw [HN.out, HMEM.out, if_neg (by decide)])
      go_roundg g1
      case measure => omega
      case rel => exact ⟨i + 1, nid :: L, out ++ [namedR x], by omega, by go_num, ⟨by rw [HTS.out, HS.out]⟩, ⟨by have := HL.out; simp; omega⟩, HM6, HR6, HB6⟩
     ·have HMEM := Aside0.mk hmem
      clear hmem
      have HS := Aside0.mk (show youngStep (L, out) x = (L, out) by
       unfold youngStep
       simp only
       rw [HN.out, HMEM.out, if_pos rfl])
      go_roundg g1
      case measure => omega
      case rel => exact ⟨i + 1, L, out, by omega, by go_num, ⟨by rw [HTS.out, HS.out]⟩, ⟨by have := HL.out; omega⟩, ⟨HM4.out.mono (by omega)⟩, ⟨Kd.R_mono HR4.out (fun _ _ => trivial)⟩, HB4⟩
  | succ g1 =>
   have hlt : i < old.length := by omega
   have c0_ : decide ((i : Int) < (old.length : Int)) = true := decide_eq_true (by omega)
   have c1_ : decide (i < old.length) = true := decide_eq_true hlt
   have p5 : 0 ≤ (i : Int) := by omega
   have q5 : (i : Int) < (old.length : Int) := by omega
   obtain ⟨ad, e5, hx5⟩ := Kd.at_string R0.out (i : Int) p5 q5
   subst e5
   rw [Int.toNat_natCast] at hx5
   replace hx5 := (HB.out.cell (World.block_lt_of_cell? w _ hx5)).trans hx5
   have hrd : rdOf ByteArray.empty old (i : Int) = old[i] := by unfold rdOf; rw [Int.toNat_natCast, List.getD_eq_getElem?_getD, List.getElem?_eq_getElem hlt]; rfl
   have hts : (old.take (i + 1)).reverse = rdOf ByteArray.empty old (i : Int) :: (old.take i).reverse := by
    rw [hrd, List.take_add_one, List.getElem?_eq_getElem hlt]; simp
   have HTS := Aside0.mk hts
   have hsz : (rdOf ByteArray.empty old (i : Int)).size ≤ 140737488355328 := by rw [hrd]; exact HO.out _ (List.getElem_mem hlt)
   have hw1 : wrap64 ((i : Int) + 1) = ((i + 1 : Nat) : Int) := by unfold wrap64; omega
   have HW := Aside0.mk hw1
   generalize rdOf ByteArray.empty old (i : Int) = x at hx5 HTS hsz
   have HSZ := Aside0.mk hsz
   clear hts hw1 hrd hsz
   go_wp2_with (at_mapUpdate; refine wpList_update_set rfl _ _ _ 33 rfl Tryd.underlying9 Tryd.underlying33 Tryd.underlying4 x (by have := HSZ.out; unfold maxLen; omega) rfl rfl rfl HM.out (by unfold maxLen; omega) ?_; intro w2 hm2 hg2; rw [← HTS.out] at hm2; have HM2 := Aside0.mk hm2; have HB2 := Aside0.mk (HB.out.grown hg2 HB.out.size (by intro k hk; injection hk with hk; have := HBM.out; omega)); clear hm2 hg2)
   go_roundg g1
   case measure => omega
   case rel => exact ⟨i + 1, by omega, by go_num, HM2, HB2⟩
end Go.Proofs.YtihaeeldgimdiaaDoor.X
