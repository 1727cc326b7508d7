/- Printed by a program of ours (xprint.py) out of the translation: functions as plain Lean, and what a call of each does; nothing is taken on trust: Lean checks it. -/
import Derived.Test.YtihaeeldgimdiaaDoorUiX0
namespace Go.Proofs.YtihaeeldgimdiaaDoor.X
open Go.RowKit Go.Proofs.YtihaeeldgimdiaaDoorW.PrintWords Go.Proofs.YtihaeeldgimdiaaDoorW.PrintLast Go.Proofs.YtihaeeldgimdiaaDoorW.PrintMore
attribute [local go_sem] max2_int min2_int max_two min_two max_three min_three max_four min_four   -- for this text's walks alone
set_option linter.unusedVariables false
set_option linter.unusedSimpArgs false
mutual
def cringlelaw21_size.l0 : Nat → Int → List (List ByteArray) → Int → Int → Option (Int)
 | 0, _, _, _, _ => none
 | k + 1, x3, x37, x38, x39 => if x39 < x38 then (if 0 ≤ x39 then (if x39 < (x37.length : Int) then (if 0 ≤ (mn ((rd_L1 x37 x39).length : Int) 50) then (if (mn ((rd_L1 x37 x39).length : Int) 50) ≤ ((rd_L1 x37 x39).length : Int) then ((some ((rd_L1 x37 x39).take ((mn ((rd_L1 x37 x39).length : Int) 50) : Int).toNat : List ByteArray)).bind fun y106 => (cringlelaw21_size.l1 k x3 (rd_L1 x37 x39) x37 x38 x39 y106 (y106.length : Int) 0)) else (none)) else (none)) else (none)) else (none)) else (some x3)
def cringlelaw21_size.l1 : Nat → Int → List ByteArray → List (List ByteArray) → Int → Int → List ByteArray → Int → Int → Option (Int)
 | 0, _, _, _, _, _, _, _, _ => none
 | k + 1, x3, x5, x37, x38, x39, x47, x48, x49 => if x49 < x48 then (if 0 ≤ x49 then (if x49 < (x47.length : Int) then (cringlelaw21_size.l1 k (wrap64 (x3 + (mn ((rdOf ByteArray.empty x47 x49).size : Int) 5000))) x5 x37 x38 x39 x47 x48 (wrap64 (x49 + 1))) else (none)) else (none)) else (if (x5.length : Int) > 50 then (some 1048576) else (cringlelaw21_size.l0 k x3 x37 x38 (wrap64 (x39 + 1))))
end
def cringlelaw21_size.f (k : Nat) (a0_0 : ByteArray) (a0_1 : ByteArray) (a0_2 : ByteArray) (a0_3 : ByteArray) (a0_4 : ByteArray) (a0_5 : ByteArray) (a0_6 : Int) (a0_7 : Bool) (a0_8 : ByteArray) (a0_9 : ByteArray) (a0_10 : ByteArray) (l0_11 : List ByteArray) (l0_12 : List ByteArray) (l0_13 : List ByteArray) (l0_14 : List ByteArray) (l0_15 : List ByteArray) : Option (Int) := (some (([l0_11, l0_12, l0_13, l0_14, l0_15] : List (List ByteArray)) : List (List ByteArray))).bind fun y102 => (cringlelaw21_size.l0 k (wrap64 ((wrap64 ((wrap64 ((wrap64 ((a0_1.size : Int) + (a0_2.size : Int))) + (a0_3.size : Int))) + (a0_4.size : Int))) + (a0_5.size : Int))) y102 (y102.length : Int) 0)
set_option maxHeartbeats 8000000 in
set_option maxRecDepth 100000 in
theorem cringlelaw21_size.calls (k : Nat) (a0_0 : ByteArray) (a0_1 : ByteArray) (a0_2 : ByteArray) (a0_3 : ByteArray) (a0_4 : ByteArray) (a0_5 : ByteArray) (a0_6 : Int) (a0_7 : Bool) (a0_8 : ByteArray) (a0_9 : ByteArray) (a0_10 : ByteArray) (P0_11_ : Nat → Prop) (A0_11 : Option Addr) (c0_11 : Nat) (l0_11 : List ByteArray) (P0_12_ : Nat → Prop) (A0_12 : Option Addr) (c0_12 : Nat) (l0_12 : List ByteArray) (P0_13_ : Nat → Prop) (A0_13 : Option Addr) (c0_13 : Nat) (l0_13 : List ByteArray) (P0_14_ : Nat → Prop) (A0_14 : Option Addr) (c0_14 : Nat) (l0_14 : List ByteArray) (P0_15_ : Nat → Prop) (A0_15 : Option Addr) (c0_15 : Nat) (l0_15 : List ByteArray) (r : Int) (w : World) (hE : EnvOk w) (hs0_11 : Kd.V Kd.string 9 w w.heap.size (fun k_ => P0_11_ k_) (.slice A0_11 l0_11.length c0_11) l0_11) (hs0_12 : Kd.V Kd.string 9 w w.heap.size (fun k_ => P0_12_ k_) (.slice A0_12 l0_12.length c0_12) l0_12) (hs0_13 : Kd.V Kd.string 9 w w.heap.size (fun k_ => P0_13_ k_) (.slice A0_13 l0_13.length c0_13) l0_13) (hs0_14 : Kd.V Kd.string 9 w w.heap.size (fun k_ => P0_14_ k_) (.slice A0_14 l0_14.length c0_14) l0_14) (hs0_15 : Kd.V Kd.string 9 w w.heap.size (fun k_ => P0_15_ k_) (.slice A0_15 l0_15.length c0_15) l0_15) (h : cringlelaw21_size.f k a0_0 a0_1 a0_2 a0_3 a0_4 a0_5 a0_6 a0_7 a0_8 a0_9 a0_10 l0_11 l0_12 l0_13 l0_14 l0_15 = some r) :
  Calls Tryd.prog 12 #[.agg #[.string a0_0, .string a0_1, .string a0_2, .string a0_3, .string a0_4, .string a0_5, .int .i64 a0_6, .bool a0_7, .string a0_8, .string a0_9, .string a0_10, .slice A0_11 l0_11.length c0_11, .slice A0_12 l0_12.length c0_12, .slice A0_13 l0_13.length c0_13, .slice A0_14 l0_14.length c0_14, .slice A0_15 l0_15.length c0_15]] w fun e w' => e = .returned (.int .i64 r) ∧ Below w.heap.size w w' := by
 have hu30 := Tryd.underlying30
 have HO0_11 := Aside0.mk (show Kd.V Kd.string 9 w w.heap.size (fun k_ => ((P0_11_ k_ ∨ P0_12_ k_ ∨ P0_13_ k_ ∨ P0_14_ k_ ∨ P0_15_ k_) ∨ w.heap.size ≤ k_)) (.slice A0_11 l0_11.length c0_11) l0_11 from Kd.V_mono hs0_11 (fun k_ hk => .inl (.inl hk)))
 have HO0_12 := Aside0.mk (show Kd.V Kd.string 9 w w.heap.size (fun k_ => ((P0_11_ k_ ∨ P0_12_ k_ ∨ P0_13_ k_ ∨ P0_14_ k_ ∨ P0_15_ k_) ∨ w.heap.size ≤ k_)) (.slice A0_12 l0_12.length c0_12) l0_12 from Kd.V_mono hs0_12 (fun k_ hk => .inl (.inr (.inl hk))))
 have HO0_13 := Aside0.mk (show Kd.V Kd.string 9 w w.heap.size (fun k_ => ((P0_11_ k_ ∨ P0_12_ k_ ∨ P0_13_ k_ ∨ P0_14_ k_ ∨ P0_15_ k_) ∨ w.heap.size ≤ k_)) (.slice A0_13 l0_13.length c0_13) l0_13 from Kd.V_mono hs0_13 (fun k_ hk => .inl (.inr (.inr (.inl hk)))))
 have HO0_14 := Aside0.mk (show Kd.V Kd.string 9 w w.heap.size (fun k_ => ((P0_11_ k_ ∨ P0_12_ k_ ∨ P0_13_ k_ ∨ P0_14_ k_ ∨ P0_15_ k_) ∨ w.heap.size ≤ k_)) (.slice A0_14 l0_14.length c0_14) l0_14 from Kd.V_mono hs0_14 (fun k_ hk => .inl (.inr (.inr (.inr (.inl hk))))))
 have HO0_15 := Aside0.mk (show Kd.V Kd.string 9 w w.heap.size (fun k_ => ((P0_11_ k_ ∨ P0_12_ k_ ∨ P0_13_ k_ ∨ P0_14_ k_ ∨ P0_15_ k_) ∨ w.heap.size ≤ k_)) (.slice A0_15 l0_15.length c0_15) l0_15 from Kd.V_mono hs0_15 (fun k_ hk => .inl (.inr (.inr (.inr (.inr hk))))))
 have HE := Aside0.mk hE
 clear hE
 have HB := Aside0.mk (Below.refl w.heap.size w)
 have H : ((some (([l0_11, l0_12, l0_13, l0_14, l0_15] : List (List ByteArray)) : List (List ByteArray))).bind fun y102 => (cringlelaw21_size.l0 k (wrap64 ((wrap64 ((wrap64 ((wrap64 ((a0_1.size : Int) + (a0_2.size : Int))) + (a0_3.size : Int))) + (a0_4.size : Int))) + (a0_5.size : Int))) y102 (y102.length : Int) 0)) = some r := h
 clear h
 obtain ⟨y102, hy102⟩ : ∃ y_ : List (List ByteArray), y_ = (([l0_11, l0_12, l0_13, l0_14, l0_15] : List (List ByteArray))) := ⟨_, rfl⟩
 replace H : (cringlelaw21_size.l0 k (wrap64 ((wrap64 ((wrap64 ((wrap64 ((a0_1.size : Int) + (a0_2.size : Int))) + (a0_3.size : Int))) + (a0_4.size : Int))) + (a0_5.size : Int))) y102 (y102.length : Int) 0) = some r := by first | (rw [hy102]; with_reducible exact H) | (have H2_ := (Option.bind_some _ _).symm.trans H; rw [hy102]; with_reducible exact H2_) | (have H2_ := (Option.bind_some _ _).symm.trans H; with_reducible exact H2_) | with_reducible exact H | (rw [hy102]; exact H) | exact H
 have Ny102 := Aside0.mk hy102
 clear hy102
 have H' := Aside0.mk H
 clear H
 go_enter Tryd.func12, Tryd.ntmps12
 go_wp2_with (first | ((with_reducible refine gate_dst (N := 1) rfl ?_); refine box_event ?hg (N := 1) ?hd (cs := #[.string a0_0, .string a0_1, .string a0_2, .string a0_3, .string a0_4, .string a0_5, .int .i64 a0_6, .bool a0_7, .string a0_8, .string a0_9, .string a0_10, .slice A0_11 l0_11.length c0_11, .slice A0_12 l0_12.length c0_12, .slice A0_13 l0_13.length c0_13, .slice A0_14 l0_14.length c0_14, .slice A0_15 l0_15.length c0_15]) (t := 30) ?hr ?_; (case hd => rfl); (case hg => rfl); (case hr => first | (go_simp; done) | (go_simp; rfl)); intro gb101 hg w2 hbox hb; have n0_ := Aside0.mk (Kd.V_below (Kd.V_elderB (by (with_reducible repeat (first | apply Kd.V_alloc | apply Kd.V_drewN | apply Kd.V_drew)); exact HO0_11.out) gb101 (Nat.le_of_eq hg.symm)) hb); have n1_ := Aside0.mk (Kd.V_below (Kd.V_elderB (by (with_reducible repeat (first | apply Kd.V_alloc | apply Kd.V_drewN | apply Kd.V_drew)); exact HO0_12.out) gb101 (Nat.le_of_eq hg.symm)) hb); have n2_ := Aside0.mk (Kd.V_below (Kd.V_elderB (by (with_reducible repeat (first | apply Kd.V_alloc | apply Kd.V_drewN | apply Kd.V_drew)); exact HO0_13.out) gb101 (Nat.le_of_eq hg.symm)) hb); have n3_ := Aside0.mk (Kd.V_below (Kd.V_elderB (by (with_reducible repeat (first | apply Kd.V_alloc | apply Kd.V_drewN | apply Kd.V_drew)); exact HO0_14.out) gb101 (Nat.le_of_eq hg.symm)) hb); have n4_ := Aside0.mk (Kd.V_below (Kd.V_elderB (by (with_reducible repeat (first | apply Kd.V_alloc | apply Kd.V_drewN | apply Kd.V_drew)); exact HO0_15.out) gb101 (Nat.le_of_eq hg.symm)) hb); have n5_ := Aside0.mk (below_step (by repeat (first | (with_reducible first | exact HB.out | apply below_alloc | apply pw_below_drewN | apply below_drew1) | exact HB.out)) hb); have n6_ := Aside0.mk (hbox); have n7_ := Aside0.mk ((by rw [hg]; exact (below_size (by repeat (first | (with_reducible first | exact HB.out | apply below_alloc | apply pw_below_drewN | apply below_drew1) | exact HB.out))) : w.heap.size ≤ gb101)); have n8_ := Aside0.mk ((by rw [hg]; exact (below_size (by repeat (first | (with_reducible first | exact HB.out | apply below_alloc | apply pw_below_drewN | apply below_drew1) | exact HB.out))) : w.heap.size ≤ gb101)); clear HO0_11; clear HO0_12; clear HO0_13; clear HO0_14; clear HO0_15; clear HB; have HO0_11 := n0_; have HO0_12 := n1_; have HO0_13 := n2_; have HO0_14 := n3_; have HO0_15 := n4_; have HB := n5_; have BK101 := n6_; have GW101 := n7_; have GE101 := n8_; clear n0_ n1_ n2_ n3_ n4_ n5_ n6_ n7_ n8_; clear hb hbox hg; have hcz3_0 : w2.cell? ⟨gb101, 0, none⟩ = some (.string a0_0) := (blk_cell BK101.out 0).trans rfl; have hcz3_1 : w2.cell? ⟨gb101, 1, none⟩ = some (.string a0_1) := (blk_cell BK101.out 1).trans rfl; have hcz3_2 : w2.cell? ⟨gb101, 2, none⟩ = some (.string a0_2) := (blk_cell BK101.out 2).trans rfl; have hcz3_3 : w2.cell? ⟨gb101, 3, none⟩ = some (.string a0_3) := (blk_cell BK101.out 3).trans rfl; have hcz3_4 : w2.cell? ⟨gb101, 4, none⟩ = some (.string a0_4) := (blk_cell BK101.out 4).trans rfl; have hcz3_5 : w2.cell? ⟨gb101, 5, none⟩ = some (.string a0_5) := (blk_cell BK101.out 5).trans rfl; have hcz3_6 : w2.cell? ⟨gb101, 6, none⟩ = some (.int .i64 a0_6) := (blk_cell BK101.out 6).trans rfl; have hcz3_7 : w2.cell? ⟨gb101, 7, none⟩ = some (.bool a0_7) := (blk_cell BK101.out 7).trans rfl; have hcz3_8 : w2.cell? ⟨gb101, 8, none⟩ = some (.string a0_8) := (blk_cell BK101.out 8).trans rfl; have hcz3_9 : w2.cell? ⟨gb101, 9, none⟩ = some (.string a0_9) := (blk_cell BK101.out 9).trans rfl; have hcz3_10 : w2.cell? ⟨gb101, 10, none⟩ = some (.string a0_10) := (blk_cell BK101.out 10).trans rfl; have hcz3_11 : w2.cell? ⟨gb101, 11, none⟩ = some (.slice A0_11 l0_11.length c0_11) := (blk_cell BK101.out 11).trans rfl; have hcz3_12 : w2.cell? ⟨gb101, 12, none⟩ = some (.slice A0_12 l0_12.length c0_12) := (blk_cell BK101.out 12).trans rfl; have hcz3_13 : w2.cell? ⟨gb101, 13, none⟩ = some (.slice A0_13 l0_13.length c0_13) := (blk_cell BK101.out 13).trans rfl; have hcz3_14 : w2.cell? ⟨gb101, 14, none⟩ = some (.slice A0_14 l0_14.length c0_14) := (blk_cell BK101.out 14).trans rfl; have hcz3_15 : w2.cell? ⟨gb101, 15, none⟩ = some (.slice A0_15 l0_15.length c0_15) := (blk_cell BK101.out 15).trans rfl; have hfz3_0 := blk_frozen BK101.out 0; have hfz3_1 := blk_frozen BK101.out 1; have hfz3_2 := blk_frozen BK101.out 2; have hfz3_3 := blk_frozen BK101.out 3; have hfz3_4 := blk_frozen BK101.out 4; have hfz3_5 := blk_frozen BK101.out 5; have hfz3_6 := blk_frozen BK101.out 6; have hfz3_7 := blk_frozen BK101.out 7; have hfz3_8 := blk_frozen BK101.out 8; have hfz3_9 := blk_frozen BK101.out 9; have hfz3_10 := blk_frozen BK101.out 10; have hfz3_11 := blk_frozen BK101.out 11; have hfz3_12 := blk_frozen BK101.out 12; have hfz3_13 := blk_frozen BK101.out 13; have hfz3_14 := blk_frozen BK101.out 14; have hfz3_15 := blk_frozen BK101.out 15) | ((with_reducible refine gate_dst (N := 37) rfl ?_); refine Kd.N_lit (Kd.slice 9 Kd.string) _ 23 ?hg (N' := 37) ?hd (xs := ([l0_11, l0_12, l0_13, l0_14, l0_15] : List (List ByteArray))) (inner := [.slice A0_11 l0_11.length c0_11, .slice A0_12 l0_12.length c0_12, .slice A0_13 l0_13.length c0_13, .slice A0_14 l0_14.length c0_14, .slice A0_15 l0_15.length c0_15]) (ok := (fun k_ => ((P0_11_ k_ ∨ P0_12_ k_ ∨ P0_13_ k_ ∨ P0_14_ k_ ∨ P0_15_ k_) ∨ w.heap.size ≤ k_) ∧ k_ ≠ gb101)) (okp := (fun k_ => ((P0_11_ k_ ∨ P0_12_ k_ ∨ P0_13_ k_ ∨ P0_14_ k_ ∨ P0_15_ k_) ∨ w.heap.size ≤ k_) ∧ k_ ≠ gb101)) ?hr ?hp (fun _ hk => hk) ((show ∀ k_, w2.heap.size ≤ k_ → (fun k_ => ((P0_11_ k_ ∨ P0_12_ k_ ∨ P0_13_ k_ ∨ P0_14_ k_ ∨ P0_15_ k_) ∨ w.heap.size ≤ k_) ∧ k_ ≠ gb101) k_ from fun k_ hk => ⟨(.inr (Nat.le_trans (below_size (by repeat (first | (with_reducible first | exact HB.out | apply below_alloc | apply pw_below_drewN | apply below_drew1 | refine below_set ?_ GE101.out) | exact HB.out))) hk)), Kd.freshB (g := gb101) (o := .cells #[.string a0_0, .string a0_1, .string a0_2, .string a0_3, .string a0_4, .string a0_5, .int .i64 a0_6, .bool a0_7, .string a0_8, .string a0_9, .string a0_10, .slice A0_11 l0_11.length c0_11, .slice A0_12 l0_12.length c0_12, .slice A0_13 l0_13.length c0_13, .slice A0_14 l0_14.length c0_14, .slice A0_15 l0_15.length c0_15] 30 (0, 0)) (by (with_reducible repeat (first | refine blk_drewN ?_ _ | refine blk_drew ?_ | refine blk_alloc ?_ _)); exact BK101.out) k_ hk⟩) _ (Nat.le_refl _)) (Below.refl _ _) (Nat.le_refl _) (by simp) ?_; (case hd => rfl); (case hg => rfl); (case hr => first | (go_simp; done) | (go_simp; rfl)); (case hp => exact (Reps.one (show Kd.FK (Kd.slice 9 Kd.string) _ _ l0_11 [.slice A0_11 l0_11.length c0_11] from (Kd.FK_slice_mk (Kd.V_reads' (Kd.V_mono (ok' := (fun k_ => ((P0_11_ k_ ∨ P0_12_ k_ ∨ P0_13_ k_ ∨ P0_14_ k_ ∨ P0_15_ k_) ∨ w.heap.size ≤ k_) ∧ k_ ≠ gb101)) (HO0_11.out) (fun k_ hk => ⟨hk.1, hk.2⟩))).2.1 (Kd.V_F (Kd.V_mono (ok' := (fun k_ => ((P0_11_ k_ ∨ P0_12_ k_ ∨ P0_13_ k_ ∨ P0_14_ k_ ∨ P0_15_ k_) ∨ w.heap.size ≤ k_) ∧ k_ ≠ gb101)) (HO0_11.out) (fun k_ hk => ⟨hk.1, hk.2⟩))))) (Reps.one (show Kd.FK (Kd.slice 9 Kd.string) _ _ l0_12 [.slice A0_12 l0_12.length c0_12] from (Kd.FK_slice_mk (Kd.V_reads' (Kd.V_mono (ok' := (fun k_ => ((P0_11_ k_ ∨ P0_12_ k_ ∨ P0_13_ k_ ∨ P0_14_ k_ ∨ P0_15_ k_) ∨ w.heap.size ≤ k_) ∧ k_ ≠ gb101)) (HO0_12.out) (fun k_ hk => ⟨hk.1, hk.2⟩))).2.1 (Kd.V_F (Kd.V_mono (ok' := (fun k_ => ((P0_11_ k_ ∨ P0_12_ k_ ∨ P0_13_ k_ ∨ P0_14_ k_ ∨ P0_15_ k_) ∨ w.heap.size ≤ k_) ∧ k_ ≠ gb101)) (HO0_12.out) (fun k_ hk => ⟨hk.1, hk.2⟩))))) (Reps.one (show Kd.FK (Kd.slice 9 Kd.string) _ _ l0_13 [.slice A0_13 l0_13.length c0_13] from (Kd.FK_slice_mk (Kd.V_reads' (Kd.V_mono (ok' := (fun k_ => ((P0_11_ k_ ∨ P0_12_ k_ ∨ P0_13_ k_ ∨ P0_14_ k_ ∨ P0_15_ k_) ∨ w.heap.size ≤ k_) ∧ k_ ≠ gb101)) (HO0_13.out) (fun k_ hk => ⟨hk.1, hk.2⟩))).2.1 (Kd.V_F (Kd.V_mono (ok' := (fun k_ => ((P0_11_ k_ ∨ P0_12_ k_ ∨ P0_13_ k_ ∨ P0_14_ k_ ∨ P0_15_ k_) ∨ w.heap.size ≤ k_) ∧ k_ ≠ gb101)) (HO0_13.out) (fun k_ hk => ⟨hk.1, hk.2⟩))))) (Reps.one (show Kd.FK (Kd.slice 9 Kd.string) _ _ l0_14 [.slice A0_14 l0_14.length c0_14] from (Kd.FK_slice_mk (Kd.V_reads' (Kd.V_mono (ok' := (fun k_ => ((P0_11_ k_ ∨ P0_12_ k_ ∨ P0_13_ k_ ∨ P0_14_ k_ ∨ P0_15_ k_) ∨ w.heap.size ≤ k_) ∧ k_ ≠ gb101)) (HO0_14.out) (fun k_ hk => ⟨hk.1, hk.2⟩))).2.1 (Kd.V_F (Kd.V_mono (ok' := (fun k_ => ((P0_11_ k_ ∨ P0_12_ k_ ∨ P0_13_ k_ ∨ P0_14_ k_ ∨ P0_15_ k_) ∨ w.heap.size ≤ k_) ∧ k_ ≠ gb101)) (HO0_14.out) (fun k_ hk => ⟨hk.1, hk.2⟩))))) (Reps.one (show Kd.FK (Kd.slice 9 Kd.string) _ _ l0_15 [.slice A0_15 l0_15.length c0_15] from (Kd.FK_slice_mk (Kd.V_reads' (Kd.V_mono (ok' := (fun k_ => ((P0_11_ k_ ∨ P0_12_ k_ ∨ P0_13_ k_ ∨ P0_14_ k_ ∨ P0_15_ k_) ∨ w.heap.size ≤ k_) ∧ k_ ≠ gb101)) (HO0_15.out) (fun k_ hk => ⟨hk.1, hk.2⟩))).2.1 (Kd.V_F (Kd.V_mono (ok' := (fun k_ => ((P0_11_ k_ ∨ P0_12_ k_ ∨ P0_13_ k_ ∨ P0_14_ k_ ∨ P0_15_ k_) ∨ w.heap.size ≤ k_) ∧ k_ ≠ gb101)) (HO0_15.out) (fun k_ hk => ⟨hk.1, hk.2⟩))))) (Reps.none _ _))))))); intro v103 w4 ho5 hb hg_ hnew_; clear hg_ hnew_; (first | rw [← Ny102.out] at ho5 | (simp only [Int.reduceToNat] at ho5; rw [← Ny102.out] at ho5)); have n0_ := Aside0.mk (Kd.V_elder' (by (with_reducible repeat (first | apply Kd.V_alloc | apply Kd.V_drewN | apply Kd.V_drew)); exact HO0_11.out) (Kd.N_base ho5) hb); have n1_ := Aside0.mk (Kd.V_elder' (by (with_reducible repeat (first | apply Kd.V_alloc | apply Kd.V_drewN | apply Kd.V_drew)); exact HO0_12.out) (Kd.N_base ho5) hb); have n2_ := Aside0.mk (Kd.V_elder' (by (with_reducible repeat (first | apply Kd.V_alloc | apply Kd.V_drewN | apply Kd.V_drew)); exact HO0_13.out) (Kd.N_base ho5) hb); have n3_ := Aside0.mk (Kd.V_elder' (by (with_reducible repeat (first | apply Kd.V_alloc | apply Kd.V_drewN | apply Kd.V_drew)); exact HO0_14.out) (Kd.N_base ho5) hb); have n4_ := Aside0.mk (Kd.V_elder' (by (with_reducible repeat (first | apply Kd.V_alloc | apply Kd.V_drewN | apply Kd.V_drew)); exact HO0_15.out) (Kd.N_base ho5) hb); have n5_ := Aside0.mk (Kd.N_lower ho5 (below_size (by repeat (first | (with_reducible first | exact HB.out | apply below_alloc | apply pw_below_drewN | apply below_drew1 | refine below_set ?_ GE101.out) | exact HB.out)))); have n6_ := Aside0.mk (blk_below (g := gb101) (o := .cells #[.string a0_0, .string a0_1, .string a0_2, .string a0_3, .string a0_4, .string a0_5, .int .i64 a0_6, .bool a0_7, .string a0_8, .string a0_9, .string a0_10, .slice A0_11 l0_11.length c0_11, .slice A0_12 l0_12.length c0_12, .slice A0_13 l0_13.length c0_13, .slice A0_14 l0_14.length c0_14, .slice A0_15 l0_15.length c0_15] 30 (0, 0)) (by (with_reducible repeat (first | refine blk_drewN ?_ _ | refine blk_drew ?_ | refine blk_alloc ?_ _)); exact BK101.out) hb); have n7_ := Aside0.mk (below_step (by repeat (first | (with_reducible first | exact HB.out | apply below_alloc | apply pw_below_drewN | apply below_drew1 | refine below_set ?_ GE101.out) | exact HB.out)) hb); clear HO0_11; clear HO0_12; clear HO0_13; clear HO0_14; clear HO0_15; clear BK101; clear HB; have HO0_11 := n0_; have HO0_12 := n1_; have HO0_13 := n2_; have HO0_14 := n3_; have HO0_15 := n4_; have HO104 := n5_; have BK101 := n6_; have HB := n7_; clear n0_ n1_ n2_ n3_ n4_ n5_ n6_ n7_; clear hb ho5; obtain ⟨Ao6, co6, eo6⟩ := Kd.N_slice HO104.out; subst eo6))
 go_loopg [3, 39] k (fun kq v3 v39 w' => ∃ (x3_1 : Int) (x39_1 : Int), v3 = .int .i64 x3_1 ∧ v39 = .int .i64 x39_1 ∧ Aside0 (cringlelaw21_size.l0 kq x3_1 y102 (y102.length : Int) x39_1 = some r) ∧ Aside0 (kq ≤ k) ∧ Aside0 (Kd.N (Kd.slice 9 Kd.string) 23 w' w.heap.size (fun k_ => ((P0_11_ k_ ∨ P0_12_ k_ ∨ P0_13_ k_ ∨ P0_14_ k_ ∨ P0_15_ k_) ∨ w.heap.size ≤ k_) ∧ k_ ≠ gb101) (.slice Ao6 y102.length co6) y102) ∧ Aside0 (Kd.V Kd.string 9 w' w.heap.size (fun k_ => ((P0_11_ k_ ∨ P0_12_ k_ ∨ P0_13_ k_ ∨ P0_14_ k_ ∨ P0_15_ k_) ∨ w.heap.size ≤ k_) ∧ some k_ ≠ ((.slice Ao6 y102.length co6) : Value).ownBlock ∧ k_ ≠ gb101) (.slice A0_11 l0_11.length c0_11) l0_11) ∧ Aside0 (Kd.V Kd.string 9 w' w.heap.size (fun k_ => ((P0_11_ k_ ∨ P0_12_ k_ ∨ P0_13_ k_ ∨ P0_14_ k_ ∨ P0_15_ k_) ∨ w.heap.size ≤ k_) ∧ some k_ ≠ ((.slice Ao6 y102.length co6) : Value).ownBlock ∧ k_ ≠ gb101) (.slice A0_12 l0_12.length c0_12) l0_12) ∧ Aside0 (Kd.V Kd.string 9 w' w.heap.size (fun k_ => ((P0_11_ k_ ∨ P0_12_ k_ ∨ P0_13_ k_ ∨ P0_14_ k_ ∨ P0_15_ k_) ∨ w.heap.size ≤ k_) ∧ some k_ ≠ ((.slice Ao6 y102.length co6) : Value).ownBlock ∧ k_ ≠ gb101) (.slice A0_13 l0_13.length c0_13) l0_13) ∧ Aside0 (Kd.V Kd.string 9 w' w.heap.size (fun k_ => ((P0_11_ k_ ∨ P0_12_ k_ ∨ P0_13_ k_ ∨ P0_14_ k_ ∨ P0_15_ k_) ∨ w.heap.size ≤ k_) ∧ some k_ ≠ ((.slice Ao6 y102.length co6) : Value).ownBlock ∧ k_ ≠ gb101) (.slice A0_14 l0_14.length c0_14) l0_14) ∧ Aside0 (Kd.V Kd.string 9 w' w.heap.size (fun k_ => ((P0_11_ k_ ∨ P0_12_ k_ ∨ P0_13_ k_ ∨ P0_14_ k_ ∨ P0_15_ k_) ∨ w.heap.size ≤ k_) ∧ some k_ ≠ ((.slice Ao6 y102.length co6) : Value).ownBlock ∧ k_ ≠ gb101) (.slice A0_15 l0_15.length c0_15) l0_15) ∧ Aside0 (w'.heap[gb101]? = some (.cells #[.string a0_0, .string a0_1, .string a0_2, .string a0_3, .string a0_4, .string a0_5, .int .i64 a0_6, .bool a0_7, .string a0_8, .string a0_9, .string a0_10, (.slice A0_11 l0_11.length c0_11), (.slice A0_12 l0_12.length c0_12), (.slice A0_13 l0_13.length c0_13), (.slice A0_14 l0_14.length c0_14), (.slice A0_15 l0_15.length c0_15)] 30 (0, 0))) ∧ Aside0 (Below w.heap.size w w'))
 case atStart => exact ⟨(wrap64 ((wrap64 ((wrap64 ((wrap64 ((a0_1.size : Int) + (a0_2.size : Int))) + (a0_3.size : Int))) + (a0_4.size : Int))) + (a0_5.size : Int))), (0), (by first | rfl | (simp; done) | (simp [*]; done)), (by first | rfl | (simp; done) | (simp [*]; done)), H', ⟨Nat.le_refl _⟩, ⟨by (with_reducible repeat (first | apply Kd.N_alloc | apply Kd.N_drewN | apply Kd.N_drew)); exact HO104.out⟩, ⟨by (with_reducible repeat (first | apply Kd.V_alloc | apply Kd.V_drewN | apply Kd.V_drew)); exact Kd.V_mono HO0_11.out (fun _ hk => ⟨hk.1.1, ⟨hk.2, hk.1.2⟩⟩)⟩, ⟨by (with_reducible repeat (first | apply Kd.V_alloc | apply Kd.V_drewN | apply Kd.V_drew)); exact Kd.V_mono HO0_12.out (fun _ hk => ⟨hk.1.1, ⟨hk.2, hk.1.2⟩⟩)⟩, ⟨by (with_reducible repeat (first | apply Kd.V_alloc | apply Kd.V_drewN | apply Kd.V_drew)); exact Kd.V_mono HO0_13.out (fun _ hk => ⟨hk.1.1, ⟨hk.2, hk.1.2⟩⟩)⟩, ⟨by (with_reducible repeat (first | apply Kd.V_alloc | apply Kd.V_drewN | apply Kd.V_drew)); exact Kd.V_mono HO0_14.out (fun _ hk => ⟨hk.1.1, ⟨hk.2, hk.1.2⟩⟩)⟩, ⟨by (with_reducible repeat (first | apply Kd.V_alloc | apply Kd.V_drewN | apply Kd.V_drew)); exact Kd.V_mono HO0_15.out (fun _ hk => ⟨hk.1.1, ⟨hk.2, hk.1.2⟩⟩)⟩, ⟨by (with_reducible repeat (first | refine blk_drewN ?_ _ | refine blk_drew ?_ | refine blk_alloc ?_ _)); exact BK101.out⟩, ⟨by repeat (first | (with_reducible first | exact HB.out | apply below_alloc | apply pw_below_drewN | apply below_drew1 | refine below_set ?_ GE101.out) | exact HB.out)⟩⟩
 case round =>
  clear H'
  try clear c1
  try clear p2
  try clear p6
  try clear hcz3_0
  try clear hcz3_1
  try clear hcz3_10
  try clear hcz3_11
  try clear hcz3_12
  try clear hcz3_13
  try clear hcz3_14
  try clear hcz3_15
  try clear hcz3_2
  try clear hcz3_3
  try clear hcz3_4
  try clear hcz3_5
  try clear hcz3_6
  try clear hcz3_7
  try clear hcz3_8
  try clear hcz3_9
  try clear hfz3_0
  try clear hfz3_1
  try clear hfz3_10
  try clear hfz3_11
  try clear hfz3_12
  try clear hfz3_13
  try clear hfz3_14
  try clear hfz3_15
  try clear hfz3_2
  try clear hfz3_3
  try clear hfz3_4
  try clear hfz3_5
  try clear hfz3_6
  try clear hfz3_7
  try clear hfz3_8
  try clear hfz3_9
  obtain ⟨x3_1, x39_1, rfl, rfl, HA, HK1, HO_37, HO_102011, HO_102012, HO_102013, HO_102014, HO_102015, BK101, HB⟩ := hrel
  cases gk with
  | zero => exact absurd HA.out (by simp [cringlelaw21_size.l0])
  | succ k1 =>
   have H := HA.out
   clear HA
   simp only [cringlelaw21_size.l0] at H
   by_cases c7 : x39_1 < (y102.length : Int)
   ·rw [if_pos c7] at H
    have c7b0 : decide (x39_1 < (y102.length : Int)) = true := decide_eq_true c7
    clear c7
    by_cases c8 : 0 ≤ x39_1
    ·rw [if_pos c8] at H
     have c8b0 : decide (0 ≤ x39_1) = true := decide_eq_true c8
     clear c8
     by_cases c9 : x39_1 < (y102.length : Int)
     ·rw [if_pos c9] at H
      have c9b0 : decide (x39_1 < (y102.length : Int)) = true := decide_eq_true c9
      clear c9
      obtain ⟨ji10, hji10⟩ : ∃ j_ : Int, (mn ((rd_L1 y102 x39_1).length : Int) 50) = j_ := ⟨_, rfl⟩
      replace H : (if 0 ≤ (ji10) then (if (ji10) ≤ ((rd_L1 y102 x39_1).length : Int) then ((some ((rd_L1 y102 x39_1).take ((ji10) : Int).toNat : List ByteArray)).bind fun y106 => (cringlelaw21_size.l1 k1 x3_1 (rd_L1 y102 x39_1) y102 (y102.length : Int) x39_1 y106 (y106.length : Int) 0)) else (none)) else (none)) = some r := by first | (rw [hji10] at H; exact H) | (simp only [hji10] at H ⊢; exact H)
      have hji10_ : (if 50 < ((rd_L1 y102 x39_1).length : Int) then 50 else ((rd_L1 y102 x39_1).length : Int)) = ji10 := hji10
      by_cases c11 : 0 ≤ (ji10)
      ·rw [if_pos c11] at H
       have c11b0 := eq_true c11
       have c11b1 : decide (0 ≤ (ji10)) = true := decide_eq_true c11
       clear c11
       by_cases c12 : (ji10) ≤ ((rd_L1 y102 x39_1).length : Int)
       ·rw [if_pos c12] at H
        have c12b0 := eq_true c12
        have c12b1 : decide ((ji10) ≤ ((rd_L1 y102 x39_1).length : Int)) = true := decide_eq_true c12
        clear c12
        obtain ⟨y106, hy106⟩ : ∃ y_ : List ByteArray, y_ = ((rd_L1 y102 x39_1).take ((ji10) : Int).toNat) := ⟨_, rfl⟩
        replace H : (cringlelaw21_size.l1 k1 x3_1 (rd_L1 y102 x39_1) y102 (y102.length : Int) x39_1 y106 (y106.length : Int) 0) = some r := by first | (rw [hy106]; with_reducible exact H) | (have H2_ := (Option.bind_some _ _).symm.trans H; rw [hy106]; with_reducible exact H2_) | (have H2_ := (Option.bind_some _ _).symm.trans H; with_reducible exact H2_) | with_reducible exact H | (rw [hy106]; exact H) | exact H
        have Ny106 := Aside0.mk hy106
        clear hy106
        have H' := Aside0.mk H
        clear H
        have p105 : 0 ≤ (x39_1 : Int) := of_decide_eq_true (by first | (with_reducible assumption) | assumption)
        have q105 : x39_1 < (y102.length : Int) := of_decide_eq_true (by first | (with_reducible assumption) | assumption)
        obtain ⟨ad105, A105_0, c105_0, e105, hx105_0, hl105_0, hi105_0⟩ := at_L1 (Kd.N_reads' HO_37.out).2.2 x39_1 p105 q105
        cases e105
        obtain ⟨ce105, hce105, hMe105, hcc105⟩ := Kd.N_get HO_37.out [] x39_1 p105 (by first | exact q105 | exact of_decide_eq_true (by first | (with_reducible assumption) | assumption) | (have e_ := (Kd.N_reads' HO_37.out).1; omega))
        obtain ⟨ua105_0, uc105_0, rfl, ul105_0, ge105_0⟩ := Kd.FK_slice_open hMe105
        have hv105_0 := hcc105 0 _ rfl
        rw [Nat.add_zero, show ((Kd.slice 9 Kd.string)).sz = 1 from rfl, Nat.mul_one] at hv105_0
        replace hv105_0 := Option.some.inj (hv105_0.symm.trans hx105_0)
        injection hv105_0 with hva_ hvn_ hvc_
        rw [hva_] at ge105_0
        rw [hvc_] at ul105_0
        have HL105_0 := Aside0.mk (show Kd.V Kd.string 9 _ w.heap.size _ _ (rd_L1 y102 x39_1) from Kd.V_mk ul105_0 ge105_0)
        clear hva_ hvn_ hvc_ ge105_0 ul105_0
        clear hcc105 hce105
        have HR105_0 := Aside0.mk hi105_0
        have HC105_0 := Aside0.mk hl105_0
        clear hi105_0 hl105_0
        replace p105 := eq_true p105
        replace q105 := eq_true q105
        have q13 : ((ji10) : Int) ≤ (((rd_L1 y102 x39_1).length : Int) : Int) := of_decide_eq_true (by first | (with_reducible assumption) | assumption)
        obtain ⟨i013, hi013, _, hsz13, _⟩ := info_parts info9
        have hroom13 : (rd_L1 y102 x39_1).length ≤ c105_0 := HC105_0.out
        have hC13 : Kd.F Kd.string _ _ A105_0 (rd_L1 y102 x39_1).length (rd_L1 y102 x39_1) := (Kd.V_at (base := w.heap.size) HL105_0.out).2.2
        have hcut13 := cut_to (P := Tryd.prog) 23 9 .i64 Tryd.underlying23 hi013 A105_0 (rd_L1 y102 x39_1).length c105_0 (ji10) (of_decide_eq_true (by first | (with_reducible assumption) | assumption)) q13 hroom13
        have hr13 := Kd.F_take (m := ((ji10) : Int).toNat) hC13 (by omega)
        have hy13 : y106.length = ((ji10) : Int).toNat := (by rw [Ny106.out, List.length_take]; omega)
        rw [← Ny106.out] at hr13
        rw [← hy13] at hcut13
        have HO110 := Aside0.mk (show Kd.V Kd.string 9 _ w.heap.size _ (.slice A105_0 y106.length c105_0) y106 from Kd.V_mk (by omega) hr13)
        have HC110 := Aside0.mk (show y106.length ≤ c105_0 from by omega)
        clear hr13 hC13 hroom13 hi013 hsz13
        have KY13 := Aside0.mk hy13
        clear hy13
        replace q13 := eq_true q13
        go_wp2
        go_loopg [3, 49] k1 (fun kq v3 v49 w' => ∃ (x3_2 : Int) (x49_2 : Int), v3 = .int .i64 x3_2 ∧ v49 = .int .i64 x49_2 ∧ Aside0 (cringlelaw21_size.l1 kq x3_2 (rd_L1 y102 x39_1) y102 (y102.length : Int) x39_1 y106 (y106.length : Int) x49_2 = some r) ∧ Aside0 (kq ≤ k1) ∧ Aside0 (Kd.N (Kd.slice 9 Kd.string) 23 w' w.heap.size (fun k_ => ((P0_11_ k_ ∨ P0_12_ k_ ∨ P0_13_ k_ ∨ P0_14_ k_ ∨ P0_15_ k_) ∨ w.heap.size ≤ k_) ∧ k_ ≠ gb101) (.slice (some ad105) y102.length co6) y102) ∧ Aside0 (Kd.V Kd.string 9 w' w.heap.size (fun k_ => ((P0_11_ k_ ∨ P0_12_ k_ ∨ P0_13_ k_ ∨ P0_14_ k_ ∨ P0_15_ k_) ∨ w.heap.size ≤ k_) ∧ some k_ ≠ ((.slice (some ad105) y102.length co6) : Value).ownBlock ∧ k_ ≠ gb101) (.slice A105_0 y106.length c105_0) y106) ∧ Aside0 (Kd.V Kd.string 9 w' w.heap.size (fun k_ => ((P0_11_ k_ ∨ P0_12_ k_ ∨ P0_13_ k_ ∨ P0_14_ k_ ∨ P0_15_ k_) ∨ w.heap.size ≤ k_) ∧ some k_ ≠ ((.slice (some ad105) y102.length co6) : Value).ownBlock ∧ k_ ≠ gb101) (.slice A0_11 l0_11.length c0_11) l0_11) ∧ Aside0 (Kd.V Kd.string 9 w' w.heap.size (fun k_ => ((P0_11_ k_ ∨ P0_12_ k_ ∨ P0_13_ k_ ∨ P0_14_ k_ ∨ P0_15_ k_) ∨ w.heap.size ≤ k_) ∧ some k_ ≠ ((.slice (some ad105) y102.length co6) : Value).ownBlock ∧ k_ ≠ gb101) (.slice A0_12 l0_12.length c0_12) l0_12) ∧ Aside0 (Kd.V Kd.string 9 w' w.heap.size (fun k_ => ((P0_11_ k_ ∨ P0_12_ k_ ∨ P0_13_ k_ ∨ P0_14_ k_ ∨ P0_15_ k_) ∨ w.heap.size ≤ k_) ∧ some k_ ≠ ((.slice (some ad105) y102.length co6) : Value).ownBlock ∧ k_ ≠ gb101) (.slice A0_13 l0_13.length c0_13) l0_13) ∧ Aside0 (Kd.V Kd.string 9 w' w.heap.size (fun k_ => ((P0_11_ k_ ∨ P0_12_ k_ ∨ P0_13_ k_ ∨ P0_14_ k_ ∨ P0_15_ k_) ∨ w.heap.size ≤ k_) ∧ some k_ ≠ ((.slice (some ad105) y102.length co6) : Value).ownBlock ∧ k_ ≠ gb101) (.slice A0_14 l0_14.length c0_14) l0_14) ∧ Aside0 (Kd.V Kd.string 9 w' w.heap.size (fun k_ => ((P0_11_ k_ ∨ P0_12_ k_ ∨ P0_13_ k_ ∨ P0_14_ k_ ∨ P0_15_ k_) ∨ w.heap.size ≤ k_) ∧ some k_ ≠ ((.slice (some ad105) y102.length co6) : Value).ownBlock ∧ k_ ≠ gb101) (.slice A0_15 l0_15.length c0_15) l0_15) ∧ Aside0 (w'.heap[gb101]? = some (.cells #[.string a0_0, .string a0_1, .string a0_2, .string a0_3, .string a0_4, .string a0_5, .int .i64 a0_6, .bool a0_7, .string a0_8, .string a0_9, .string a0_10, (.slice A0_11 l0_11.length c0_11), (.slice A0_12 l0_12.length c0_12), (.slice A0_13 l0_13.length c0_13), (.slice A0_14 l0_14.length c0_14), (.slice A0_15 l0_15.length c0_15)] 30 (0, 0))) ∧ Aside0 (Kd.C Kd.string w' A105_0 (rd_L1 y102 x39_1).length (rd_L1 y102 x39_1)) ∧ Aside0 (Below w.heap.size w w'))
        case atStart => exact ⟨(x3_1), (0), (by first | rfl | (simp; done) | (simp [*]; done)), (by first | rfl | (simp; done) | (simp [*]; done)), H', ⟨Nat.le_refl _⟩, ⟨by (with_reducible repeat (first | apply Kd.N_alloc | apply Kd.N_drewN | apply Kd.N_drew)); exact HO_37.out⟩, ⟨by (with_reducible repeat (first | apply Kd.V_alloc | apply Kd.V_drewN | apply Kd.V_drew)); exact Kd.V_mono HO110.out (fun _ hk => ⟨hk.1.1, ⟨hk.2, hk.1.2⟩⟩)⟩, ⟨by (with_reducible repeat (first | apply Kd.V_alloc | apply Kd.V_drewN | apply Kd.V_drew)); exact HO_102011.out⟩, ⟨by (with_reducible repeat (first | apply Kd.V_alloc | apply Kd.V_drewN | apply Kd.V_drew)); exact HO_102012.out⟩, ⟨by (with_reducible repeat (first | apply Kd.V_alloc | apply Kd.V_drewN | apply Kd.V_drew)); exact HO_102013.out⟩, ⟨by (with_reducible repeat (first | apply Kd.V_alloc | apply Kd.V_drewN | apply Kd.V_drew)); exact HO_102014.out⟩, ⟨by (with_reducible repeat (first | apply Kd.V_alloc | apply Kd.V_drewN | apply Kd.V_drew)); exact HO_102015.out⟩, ⟨by (with_reducible repeat (first | refine blk_drewN ?_ _ | refine blk_drew ?_ | refine blk_alloc ?_ _)); exact BK101.out⟩, ⟨by repeat (first | (with_reducible exact HR105_0.out) | (with_reducible refine Kd.C_alloc ?_ _) | (with_reducible refine Kd.C_drewN ?_ _) | (with_reducible refine Kd.C_drew ?_) | exact HR105_0.out)⟩, ⟨by repeat (first | (with_reducible first | exact HB.out | apply below_alloc | apply pw_below_drewN | apply below_drew1 | refine below_set ?_ GE101.out) | exact HB.out)⟩⟩
        case round =>
         clear H'
         try clear c1
         try clear p1
         try clear q1
         try clear hx1
         try clear p2
         try clear p6
         try clear c7
         try clear c7b0
         try clear c8
         try clear c8b0
         try clear c9
         try clear c9b0
         try clear c10
         try clear p10
         try clear q10
         try clear hx10
         try clear c11
         try clear c11b0
         try clear c11b1
         try clear c12
         try clear c12b0
         try clear c12b1
         try clear q13
         try clear hcz3_0
         try clear hcz3_1
         try clear hcz3_10
         try clear hcz3_11
         try clear hcz3_12
         try clear hcz3_13
         try clear hcz3_14
         try clear hcz3_15
         try clear hcz3_2
         try clear hcz3_3
         try clear hcz3_4
         try clear hcz3_5
         try clear hcz3_6
         try clear hcz3_7
         try clear hcz3_8
         try clear hcz3_9
         try clear hfz3_0
         try clear hfz3_1
         try clear hfz3_10
         try clear hfz3_11
         try clear hfz3_12
         try clear hfz3_13
         try clear hfz3_14
         try clear hfz3_15
         try clear hfz3_2
         try clear hfz3_3
         try clear hfz3_4
         try clear hfz3_5
         try clear hfz3_6
         try clear hfz3_7
         try clear hfz3_8
         try clear hfz3_9
         try clear hx105_0
         try clear p105
         try clear p2
         try clear p6
         try clear q105
         try clear q13
         obtain ⟨x3_2, x49_2, rfl, rfl, HA, HK2, HO_37, HO_47, HO_102011, HO_102012, HO_102013, HO_102014, HO_102015, BK101, HR105_0, HB⟩ := hrel
         cases gk with
         | zero => exact absurd HA.out (by simp [cringlelaw21_size.l1])
         | succ k2 =>
          have H := HA.out
          clear HA
          simp only [cringlelaw21_size.l1] at H
          by_cases c14 : x49_2 < (y106.length : Int)
          ·rw [if_pos c14] at H
           have c14b0 : decide (x49_2 < (y106.length : Int)) = true := decide_eq_true c14
           clear c14
           by_cases c15 : 0 ≤ x49_2
           ·rw [if_pos c15] at H
            have c15b0 : decide (0 ≤ x49_2) = true := decide_eq_true c15
            clear c15
            by_cases c16 : x49_2 < (y106.length : Int)
            ·rw [if_pos c16] at H
             have c16b0 : decide (x49_2 < (y106.length : Int)) = true := decide_eq_true c16
             clear c16
             obtain ⟨ji17, hji17⟩ : ∃ j_ : Int, (mn ((rdOf ByteArray.empty y106 x49_2).size : Int) 5000) = j_ := ⟨_, rfl⟩
             replace H : (cringlelaw21_size.l1 k2 (wrap64 (x3_2 + (ji17))) (rd_L1 y102 x39_1) y102 (y102.length : Int) x39_1 y106 (y106.length : Int) (wrap64 (x49_2 + 1))) = some r := by first | (rw [hji17] at H; exact H) | (simp only [hji17] at H ⊢; exact H)
             have hji17_ : (if 5000 < ((rdOf ByteArray.empty y106 x49_2).size : Int) then 5000 else ((rdOf ByteArray.empty y106 x49_2).size : Int)) = ji17 := hji17
             have H' := Aside0.mk H
             clear H
             have p111 : 0 ≤ (x49_2 : Int) := of_decide_eq_true (by first | (with_reducible assumption) | assumption)
             have q111 : x49_2 < (y106.length : Int) := of_decide_eq_true (by first | (with_reducible assumption) | assumption)
             obtain ⟨ad111, e111, hx111_0⟩ := Kd.at_string (Kd.V_reads' HO_47.out).2.2 x49_2 p111 q111
             cases e111
             replace p111 := eq_true p111
             replace q111 := eq_true q111
             go_wp2
             go_roundg k2
             case measure => have := HK1.out; have := HK2.out; omega
             case rel => exact ⟨(wrap64 (x3_2 + (ji17))), (wrap64 (x49_2 + 1)), (by first | rfl | (simp; done) | (simp only [← hji17] <;> (first | rfl | simp)) | (simp [*]; done)), (by first | rfl | (simp; done) | (simp [*]; done)), H', ⟨by have := HK1.out; have := HK2.out; omega⟩, ⟨by (with_reducible repeat (first | apply Kd.N_alloc | apply Kd.N_drewN | apply Kd.N_drew)); exact HO_37.out⟩, ⟨by (with_reducible repeat (first | apply Kd.V_alloc | apply Kd.V_drewN | apply Kd.V_drew)); exact HO_47.out⟩, ⟨by (with_reducible repeat (first | apply Kd.V_alloc | apply Kd.V_drewN | apply Kd.V_drew)); exact HO_102011.out⟩, ⟨by (with_reducible repeat (first | apply Kd.V_alloc | apply Kd.V_drewN | apply Kd.V_drew)); exact HO_102012.out⟩, ⟨by (with_reducible repeat (first | apply Kd.V_alloc | apply Kd.V_drewN | apply Kd.V_drew)); exact HO_102013.out⟩, ⟨by (with_reducible repeat (first | apply Kd.V_alloc | apply Kd.V_drewN | apply Kd.V_drew)); exact HO_102014.out⟩, ⟨by (with_reducible repeat (first | apply Kd.V_alloc | apply Kd.V_drewN | apply Kd.V_drew)); exact HO_102015.out⟩, ⟨by (with_reducible repeat (first | refine blk_drewN ?_ _ | refine blk_drew ?_ | refine blk_alloc ?_ _)); exact BK101.out⟩, ⟨by repeat (first | (with_reducible exact HR105_0.out) | (with_reducible refine Kd.C_alloc ?_ _) | (with_reducible refine Kd.C_drewN ?_ _) | (with_reducible refine Kd.C_drew ?_) | exact HR105_0.out)⟩, ⟨by repeat (first | (with_reducible first | exact HB.out | apply below_alloc | apply pw_below_drewN | apply below_drew1 | refine below_set ?_ GE101.out) | exact HB.out)⟩⟩
            ·rw [if_neg c16] at H
             exact absurd H (by simp)
           ·rw [if_neg c15] at H
            exact absurd H (by simp)
          ·rw [if_neg c14] at H
           have c14b0 : decide (x49_2 < (y106.length : Int)) = false := decide_eq_false c14
           clear c14
           by_cases c18 : ((rd_L1 y102 x39_1).length : Int) > 50
           ·rw [if_pos c18] at H
            have c18b0 : decide (50 < ((rd_L1 y102 x39_1).length : Int)) = true := decide_eq_true c18
            have c18b1 : decide (50 < (rd_L1 y102 x39_1).length) = true := decide_eq_true (by omega)
            clear c18
            obtain rfl := Option.some.inj H
            go_wp2
            go_ret
            exact ⟨by first | rfl | (simp [errW_none, errW_some] <;> rfl) | (simp only [← hji10]; first | rfl | (simp [errW_none, errW_some] <;> rfl)) | (simp [*, errW_none, errW_some] <;> rfl), by repeat (first | (with_reducible first | exact HB.out | apply below_alloc | apply pw_below_drewN | apply below_drew1 | refine below_set ?_ GE101.out) | exact HB.out)⟩
           ·rw [if_neg c18] at H
            have c18b0 : decide (50 < ((rd_L1 y102 x39_1).length : Int)) = false := decide_eq_false c18
            have c18b1 : decide (50 < (rd_L1 y102 x39_1).length) = false := decide_eq_false (by omega)
            clear c18
            have H' := Aside0.mk H
            clear H
            go_wp2
            go_roundg k2
            case measure => have := HK1.out; have := HK2.out; omega
            case rel => exact ⟨(x3_2), (wrap64 (x39_1 + 1)), (by first | rfl | (simp; done) | (simp [*]; done)), (by first | rfl | (simp; done) | (simp [*]; done)), H', ⟨by have := HK1.out; have := HK2.out; omega⟩, ⟨by (with_reducible repeat (first | apply Kd.N_alloc | apply Kd.N_drewN | apply Kd.N_drew)); exact HO_37.out⟩, ⟨by (with_reducible repeat (first | apply Kd.V_alloc | apply Kd.V_drewN | apply Kd.V_drew)); exact HO_102011.out⟩, ⟨by (with_reducible repeat (first | apply Kd.V_alloc | apply Kd.V_drewN | apply Kd.V_drew)); exact HO_102012.out⟩, ⟨by (with_reducible repeat (first | apply Kd.V_alloc | apply Kd.V_drewN | apply Kd.V_drew)); exact HO_102013.out⟩, ⟨by (with_reducible repeat (first | apply Kd.V_alloc | apply Kd.V_drewN | apply Kd.V_drew)); exact HO_102014.out⟩, ⟨by (with_reducible repeat (first | apply Kd.V_alloc | apply Kd.V_drewN | apply Kd.V_drew)); exact HO_102015.out⟩, ⟨by (with_reducible repeat (first | refine blk_drewN ?_ _ | refine blk_drew ?_ | refine blk_alloc ?_ _)); exact BK101.out⟩, ⟨by repeat (first | (with_reducible first | exact HB.out | apply below_alloc | apply pw_below_drewN | apply below_drew1 | refine below_set ?_ GE101.out) | exact HB.out)⟩⟩
       ·rw [if_neg c12] at H
        exact absurd H (by simp)
      ·rw [if_neg c11] at H
       exact absurd H (by simp)
     ·rw [if_neg c9] at H
      exact absurd H (by simp)
    ·rw [if_neg c8] at H
     exact absurd H (by simp)
   ·rw [if_neg c7] at H
    have c7b0 : decide (x39_1 < (y102.length : Int)) = false := decide_eq_false c7
    clear c7
    obtain rfl := Option.some.inj H
    go_wp2
    go_ret
    exact ⟨by first | rfl | (simp [errW_none, errW_some] <;> rfl) | (simp [*, errW_none, errW_some] <;> rfl), by repeat (first | (with_reducible first | exact HB.out | apply below_alloc | apply pw_below_drewN | apply below_drew1 | refine below_set ?_ GE101.out) | exact HB.out)⟩
def cringlelaw21_far.l0 : Nat → List (S30) → Int → List (S30) → Int → Int → Option (Bool)
 | 0, _, _, _, _, _ => none
 | k + 1, x0, x5, x14, x15, x16 => if x16 < x15 then (if 0 ≤ x16 then (if x16 < (x14.length : Int) then ((cringlelaw21_size.f k ((rd_T30 x14 x16).f0) ((rd_T30 x14 x16).f1) ((rd_T30 x14 x16).f2) ((rd_T30 x14 x16).f3) ((rd_T30 x14 x16).f4) ((rd_T30 x14 x16).f5) ((rd_T30 x14 x16).f6) ((rd_T30 x14 x16).f7) ((rd_T30 x14 x16).f8.f0) ((rd_T30 x14 x16).f8.f1) ((rd_T30 x14 x16).f8.f2) ((rd_T30 x14 x16).f9) ((rd_T30 x14 x16).f10) ((rd_T30 x14 x16).f11) ((rd_T30 x14 x16).f12) ((rd_T30 x14 x16).f13)).bind fun t118 => (cringlelaw21_far.l0 k x0 (wrap64 (x5 + t118)) x14 x15 (wrap64 (x16 + 1)))) else (none)) else (none)) else (if x5 > 12000 then (some true) else (some (decide ((x0.length : Int) > 20))))
def cringlelaw21_far.f (k : Nat) (l0 : List (S30)) (l1 : List ByteArray) : Option (Bool) := if 0 ≤ (mn (l0.length : Int) 20) then (if (mn (l0.length : Int) 20) ≤ (l0.length : Int) then ((some (l0.take ((mn (l0.length : Int) 20) : Int).toNat : List (S30))).bind fun y112 => (cringlelaw21_far.l0 k l0 (l1.length : Int) y112 (y112.length : Int) 0)) else (none)) else (none)
set_option maxHeartbeats 8000000 in
set_option maxRecDepth 100000 in
theorem cringlelaw21_far.calls (k : Nat) (A0 : Option Addr) (c0 : Nat) (l0 : List (S30)) (A1 : Option Addr) (c1 : Nat) (l1 : List ByteArray) (r : Bool) (w : World) (hE : EnvOk w) (hr0 : Kd.C k30 w A0 l0.length l0) (hc0 : l0.length ≤ c0) (hr1 : Kd.C Kd.string w A1 l1.length l1) (hc1 : l1.length ≤ c1) (h : cringlelaw21_far.f k l0 l1 = some r) :
  Calls Tryd.prog 6 #[.slice A0 l0.length c0, .slice A1 l1.length c1] w fun e w' => e = .returned (.bool r) ∧ Below w.heap.size w w' := by
 have hu30 := Tryd.underlying30
 have HR0 := Aside0.mk hr0
 have HC0 := Aside0.mk hc0
 clear hr0 hc0
 have HR1 := Aside0.mk hr1
 have HC1 := Aside0.mk hc1
 clear hr1 hc1
 have HE := Aside0.mk hE
 clear hE
 have HB := Aside0.mk (Below.refl w.heap.size w)
 have H : (if 0 ≤ (mn (l0.length : Int) 20) then (if (mn (l0.length : Int) 20) ≤ (l0.length : Int) then ((some (l0.take ((mn (l0.length : Int) 20) : Int).toNat : List (S30))).bind fun y112 => (cringlelaw21_far.l0 k l0 (l1.length : Int) y112 (y112.length : Int) 0)) else (none)) else (none)) = some r := h
 clear h
 obtain ⟨ji3, hji3⟩ : ∃ j_ : Int, (mn (l0.length : Int) 20) = j_ := ⟨_, rfl⟩
 replace H : (if 0 ≤ (ji3) then (if (ji3) ≤ (l0.length : Int) then ((some (l0.take ((ji3) : Int).toNat : List (S30))).bind fun y112 => (cringlelaw21_far.l0 k l0 (l1.length : Int) y112 (y112.length : Int) 0)) else (none)) else (none)) = some r := by first | (rw [hji3] at H; exact H) | (simp only [hji3] at H ⊢; exact H)
 (try (have hji3h : ji3 ≤ 20 := by (rw [← hji3]; unfold mn; (repeat' split) <;> omega)))
 (try (have hji3g : ji3 ≤ 64 := by omega))
 (try (have hji3l : 0 ≤ ji3 := by (rw [← hji3]; unfold mn; (repeat' split) <;> omega)))
 (try (have hji3m : 0 ≤ ji3 := by omega))
 have hji3_ : (if 20 < (l0.length : Int) then 20 else (l0.length : Int)) = ji3 := hji3
 by_cases c4 : 0 ≤ (ji3)
 ·rw [if_pos c4] at H
  have c4b0 := eq_true c4
  have c4b1 : decide (0 ≤ (ji3)) = true := decide_eq_true c4
  clear c4
  by_cases c5 : (ji3) ≤ (l0.length : Int)
  ·rw [if_pos c5] at H
   have c5b0 := eq_true c5
   have c5b1 : decide ((ji3) ≤ (l0.length : Int)) = true := decide_eq_true c5
   clear c5
   obtain ⟨y112, hy112⟩ : ∃ y_ : List (S30), y_ = (l0.take ((ji3) : Int).toNat) := ⟨_, rfl⟩
   replace H : (cringlelaw21_far.l0 k l0 (l1.length : Int) y112 (y112.length : Int) 0) = some r := by first | (rw [hy112]; with_reducible exact H) | (have H2_ := (Option.bind_some _ _).symm.trans H; rw [hy112]; with_reducible exact H2_) | (have H2_ := (Option.bind_some _ _).symm.trans H; with_reducible exact H2_) | with_reducible exact H | (rw [hy112]; exact H) | exact H
   have Ny112 := Aside0.mk hy112
   clear hy112
   have H' := Aside0.mk H
   clear H
   have q6 : ((ji3) : Int) ≤ ((l0.length : Int) : Int) := of_decide_eq_true (by first | (with_reducible assumption) | assumption)
   obtain ⟨i06, hi06, _, hsz6, _⟩ := info_parts info30
   have hroom6 : l0.length ≤ c0 := HC0.out
   have hC6 : Kd.C k30 _ A0 l0.length l0 := HR0.out
   have hcut6 := cut_to (P := Tryd.prog) 22 30 .i64 Tryd.underlying22 hi06 A0 l0.length c0 (ji3) (of_decide_eq_true (by first | (with_reducible assumption) | assumption)) q6 hroom6
   have hr6 := Kd.C_take (m := ((ji3) : Int).toNat) hC6 (by omega)
   have hy6 : y112.length = ((ji3) : Int).toNat := (by rw [Ny112.out, List.length_take]; omega)
   rw [← Ny112.out] at hr6
   rw [← hy6] at hcut6
   have HR115 := Aside0.mk hr6
   have HC115 := Aside0.mk (show y112.length ≤ c0 from by omega)
   clear hr6 hC6 hroom6 hi06 hsz6
   have KY6 := Aside0.mk hy6
   clear hy6
   replace q6 := eq_true q6
   go_enter Tryd.func6, Tryd.ntmps6
   go_wp2
   go_loopg [5, 16] k (fun kq v5 v16 w' => ∃ (x5_1 : Int) (x16_1 : Int), v5 = .int .i64 x5_1 ∧ v16 = .int .i64 x16_1 ∧ Aside0 (cringlelaw21_far.l0 kq l0 x5_1 y112 (y112.length : Int) x16_1 = some r) ∧ Aside0 (kq ≤ k) ∧ Aside0 (Below w.heap.size w w'))
   case atStart => exact ⟨((l1.length : Int)), (0), (by first | rfl | (simp; done) | (simp [*]; done)), (by first | rfl | (simp; done) | (simp [*]; done)), H', ⟨Nat.le_refl _⟩, ⟨by repeat (first | (with_reducible first | exact HB.out | apply below_alloc | apply pw_below_drewN | apply below_drew1) | exact HB.out)⟩⟩
   case round =>
    clear H'
    try clear c1
    try clear p2
    try clear c4
    try clear c4b0
    try clear c4b1
    try clear c5
    try clear c5b0
    try clear c5b1
    try clear c6
    try clear q6
    try clear q6
    obtain ⟨x5_1, x16_1, rfl, rfl, HA, HK1, HB⟩ := hrel
    cases gk with
    | zero => exact absurd HA.out (by simp [cringlelaw21_far.l0])
    | succ k1 =>
     have H := HA.out
     clear HA
     simp only [cringlelaw21_far.l0] at H
     by_cases c7 : x16_1 < (y112.length : Int)
     ·rw [if_pos c7] at H
      have c7b0 : decide (x16_1 < (y112.length : Int)) = true := decide_eq_true c7
      clear c7
      by_cases c8 : 0 ≤ x16_1
      ·rw [if_pos c8] at H
       have c8b0 : decide (0 ≤ x16_1) = true := decide_eq_true c8
       clear c8
       by_cases c9 : x16_1 < (y112.length : Int)
       ·rw [if_pos c9] at H
        have c9b0 : decide (x16_1 < (y112.length : Int)) = true := decide_eq_true c9
        clear c9
        replace H := Option.bind_eq_some_iff.mp H
        obtain ⟨t118, A100, H⟩ := H
        replace H : (cringlelaw21_far.l0 k1 l0 (wrap64 (x5_1 + t118)) y112 (y112.length : Int) (wrap64 (x16_1 + 1))) = some r := H
        have A10 := Aside0.mk A100
        clear A100
        have H' := Aside0.mk H
        clear H
        have p116 : 0 ≤ (x16_1 : Int) := of_decide_eq_true (by first | (with_reducible assumption) | assumption)
        have q116 : x16_1 < (y112.length : Int) := of_decide_eq_true (by first | (with_reducible assumption) | assumption)
        obtain ⟨ad116, A116_11, c116_11, A116_12, c116_12, A116_13, c116_13, A116_14, c116_14, A116_15, c116_15, e116, hx116_0, hx116_1, hx116_2, hx116_3, hx116_4, hx116_5, hx116_6, hx116_7, hx116_8, hx116_9, hx116_10, hx116_11, hx116_12, hx116_13, hx116_14, hx116_15, hl116_11, hi116_11, hl116_12, hi116_12, hl116_13, hi116_13, hl116_14, hi116_14, hl116_15, hi116_15⟩ := at_T30 HR115.out x16_1 p116 q116
        cases e116
        replace hx116_0 := (HB.out.cell (World.block_lt_of_cell? w _ hx116_0)).trans hx116_0
        replace hx116_1 := (HB.out.cell (World.block_lt_of_cell? w _ hx116_1)).trans hx116_1
        replace hx116_2 := (HB.out.cell (World.block_lt_of_cell? w _ hx116_2)).trans hx116_2
        replace hx116_3 := (HB.out.cell (World.block_lt_of_cell? w _ hx116_3)).trans hx116_3
        replace hx116_4 := (HB.out.cell (World.block_lt_of_cell? w _ hx116_4)).trans hx116_4
        replace hx116_5 := (HB.out.cell (World.block_lt_of_cell? w _ hx116_5)).trans hx116_5
        replace hx116_6 := (HB.out.cell (World.block_lt_of_cell? w _ hx116_6)).trans hx116_6
        replace hx116_7 := (HB.out.cell (World.block_lt_of_cell? w _ hx116_7)).trans hx116_7
        replace hx116_8 := (HB.out.cell (World.block_lt_of_cell? w _ hx116_8)).trans hx116_8
        replace hx116_9 := (HB.out.cell (World.block_lt_of_cell? w _ hx116_9)).trans hx116_9
        replace hx116_10 := (HB.out.cell (World.block_lt_of_cell? w _ hx116_10)).trans hx116_10
        replace hx116_11 := (HB.out.cell (World.block_lt_of_cell? w _ hx116_11)).trans hx116_11
        replace hx116_12 := (HB.out.cell (World.block_lt_of_cell? w _ hx116_12)).trans hx116_12
        replace hx116_13 := (HB.out.cell (World.block_lt_of_cell? w _ hx116_13)).trans hx116_13
        replace hx116_14 := (HB.out.cell (World.block_lt_of_cell? w _ hx116_14)).trans hx116_14
        replace hx116_15 := (HB.out.cell (World.block_lt_of_cell? w _ hx116_15)).trans hx116_15
        have HR116_11 := Aside0.mk hi116_11
        have HC116_11 := Aside0.mk hl116_11
        clear hi116_11 hl116_11
        have HR116_12 := Aside0.mk hi116_12
        have HC116_12 := Aside0.mk hl116_12
        clear hi116_12 hl116_12
        have HR116_13 := Aside0.mk hi116_13
        have HC116_13 := Aside0.mk hl116_13
        clear hi116_13 hl116_13
        have HR116_14 := Aside0.mk hi116_14
        have HC116_14 := Aside0.mk hl116_14
        clear hi116_14 hl116_14
        have HR116_15 := Aside0.mk hi116_15
        have HC116_15 := Aside0.mk hl116_15
        clear hi116_15 hl116_15
        replace p116 := eq_true p116
        replace q116 := eq_true q116
        go_wp2_with (first | ((with_reducible refine gate_dst (N := 7) rfl ?_); (try (refine gate_guard (by rfl) ?_; dsimp only)); refine box_event ?hg (N := 7) ?hd (cs := #[.string (⟨#[]⟩ : ByteArray), .string (⟨#[]⟩ : ByteArray), .string (⟨#[]⟩ : ByteArray), .string (⟨#[]⟩ : ByteArray), .string (⟨#[]⟩ : ByteArray), .string (⟨#[]⟩ : ByteArray), .int .i64 0, .bool false, .string (⟨#[]⟩ : ByteArray), .string (⟨#[]⟩ : ByteArray), .string (⟨#[]⟩ : ByteArray), .slice none 0 0, .slice none 0 0, .slice none 0 0, .slice none 0 0, .slice none 0 0]) (t := 30) ?hr ?_; (case hd => rfl); (case hg => rfl); (case hr => first | (go_simp; done) | (go_simp; rfl)); intro gb117 hg w11 hbox hb; have n0_ := Aside0.mk (below_step (by repeat (first | (with_reducible first | exact HB.out | apply below_alloc | apply pw_below_drewN | apply below_drew1) | exact HB.out)) hb); have n1_ := Aside0.mk (hbox); have n2_ := Aside0.mk ((by rw [hg]; exact (below_size (by repeat (first | (with_reducible first | exact HB.out | apply below_alloc | apply pw_below_drewN | apply below_drew1) | exact HB.out))) : w.heap.size ≤ gb117)); have n3_ := Aside0.mk ((by rw [hg]; exact (below_size (by repeat (first | (with_reducible first | exact HB.out | apply below_alloc | apply pw_below_drewN | apply below_drew1) | exact HB.out))) : w.heap.size ≤ gb117)); clear HB; have HB := n0_; have BK117 := n1_; have GW117 := n2_; have GE117 := n3_; clear n0_ n1_ n2_ n3_; clear hb hbox hg; have hcz12_0 : w11.cell? ⟨gb117, 0, none⟩ = some (.string (⟨#[]⟩ : ByteArray)) := (blk_cell BK117.out 0).trans rfl; have hcz12_1 : w11.cell? ⟨gb117, 1, none⟩ = some (.string (⟨#[]⟩ : ByteArray)) := (blk_cell BK117.out 1).trans rfl; have hcz12_2 : w11.cell? ⟨gb117, 2, none⟩ = some (.string (⟨#[]⟩ : ByteArray)) := (blk_cell BK117.out 2).trans rfl; have hcz12_3 : w11.cell? ⟨gb117, 3, none⟩ = some (.string (⟨#[]⟩ : ByteArray)) := (blk_cell BK117.out 3).trans rfl; have hcz12_4 : w11.cell? ⟨gb117, 4, none⟩ = some (.string (⟨#[]⟩ : ByteArray)) := (blk_cell BK117.out 4).trans rfl; have hcz12_5 : w11.cell? ⟨gb117, 5, none⟩ = some (.string (⟨#[]⟩ : ByteArray)) := (blk_cell BK117.out 5).trans rfl; have hcz12_6 : w11.cell? ⟨gb117, 6, none⟩ = some (.int .i64 0) := (blk_cell BK117.out 6).trans rfl; have hcz12_7 : w11.cell? ⟨gb117, 7, none⟩ = some (.bool false) := (blk_cell BK117.out 7).trans rfl; have hcz12_8 : w11.cell? ⟨gb117, 8, none⟩ = some (.string (⟨#[]⟩ : ByteArray)) := (blk_cell BK117.out 8).trans rfl; have hcz12_9 : w11.cell? ⟨gb117, 9, none⟩ = some (.string (⟨#[]⟩ : ByteArray)) := (blk_cell BK117.out 9).trans rfl; have hcz12_10 : w11.cell? ⟨gb117, 10, none⟩ = some (.string (⟨#[]⟩ : ByteArray)) := (blk_cell BK117.out 10).trans rfl; have hcz12_11 : w11.cell? ⟨gb117, 11, none⟩ = some (.slice none 0 0) := (blk_cell BK117.out 11).trans rfl; have hcz12_12 : w11.cell? ⟨gb117, 12, none⟩ = some (.slice none 0 0) := (blk_cell BK117.out 12).trans rfl; have hcz12_13 : w11.cell? ⟨gb117, 13, none⟩ = some (.slice none 0 0) := (blk_cell BK117.out 13).trans rfl; have hcz12_14 : w11.cell? ⟨gb117, 14, none⟩ = some (.slice none 0 0) := (blk_cell BK117.out 14).trans rfl; have hcz12_15 : w11.cell? ⟨gb117, 15, none⟩ = some (.slice none 0 0) := (blk_cell BK117.out 15).trans rfl; have hfz12_0 := blk_frozen BK117.out 0; have hfz12_1 := blk_frozen BK117.out 1; have hfz12_2 := blk_frozen BK117.out 2; have hfz12_3 := blk_frozen BK117.out 3; have hfz12_4 := blk_frozen BK117.out 4; have hfz12_5 := blk_frozen BK117.out 5; have hfz12_6 := blk_frozen BK117.out 6; have hfz12_7 := blk_frozen BK117.out 7; have hfz12_8 := blk_frozen BK117.out 8; have hfz12_9 := blk_frozen BK117.out 9; have hfz12_10 := blk_frozen BK117.out 10; have hfz12_11 := blk_frozen BK117.out 11; have hfz12_12 := blk_frozen BK117.out 12; have hfz12_13 := blk_frozen BK117.out 13; have hfz12_14 := blk_frozen BK117.out 14; have hfz12_15 := blk_frozen BK117.out 15) | ((with_reducible refine gate_store (t := 30) (p := 7) rfl ?_); refine store_event (t := 30) (p := 7) (v := ?vo_w13) (w1 := ((((((((((((((((w11.setCell ⟨gb117, 0, none⟩ (.string ((rd_T30 y112 x16_1).f0))).setCell ⟨gb117, 1, none⟩ (.string ((rd_T30 y112 x16_1).f1))).setCell ⟨gb117, 2, none⟩ (.string ((rd_T30 y112 x16_1).f2))).setCell ⟨gb117, 3, none⟩ (.string ((rd_T30 y112 x16_1).f3))).setCell ⟨gb117, 4, none⟩ (.string ((rd_T30 y112 x16_1).f4))).setCell ⟨gb117, 5, none⟩ (.string ((rd_T30 y112 x16_1).f5))).setCell ⟨gb117, 6, none⟩ (.int .i64 ((rd_T30 y112 x16_1).f6))).setCell ⟨gb117, 7, none⟩ (.bool ((rd_T30 y112 x16_1).f7))).setCell ⟨gb117, 8, none⟩ (.string ((rd_T30 y112 x16_1).f8.f0))).setCell ⟨gb117, 9, none⟩ (.string ((rd_T30 y112 x16_1).f8.f1))).setCell ⟨gb117, 10, none⟩ (.string ((rd_T30 y112 x16_1).f8.f2))).setCell ⟨gb117, 11, none⟩ (.slice A116_11 ((rd_T30 y112 x16_1).f9).length c116_11)).setCell ⟨gb117, 12, none⟩ (.slice A116_12 ((rd_T30 y112 x16_1).f10).length c116_12)).setCell ⟨gb117, 13, none⟩ (.slice A116_13 ((rd_T30 y112 x16_1).f11).length c116_13)).setCell ⟨gb117, 14, none⟩ (.slice A116_14 ((rd_T30 y112 x16_1).f12).length c116_14)).setCell ⟨gb117, 15, none⟩ (.slice A116_15 ((rd_T30 y112 x16_1).f13).length c116_15))) ?hg ?ho ?hn ?hr ?_; (case ho => rfl); (case hg => rfl); (case hn => rfl); (case hr => first | (go_simp; done) | (go_simp; rfl)); intro w13 hw; have n0_ : Aside0 (w13.heap[gb117]? = some (.cells #[.string ((rd_T30 y112 x16_1).f0), .string ((rd_T30 y112 x16_1).f1), .string ((rd_T30 y112 x16_1).f2), .string ((rd_T30 y112 x16_1).f3), .string ((rd_T30 y112 x16_1).f4), .string ((rd_T30 y112 x16_1).f5), .int .i64 ((rd_T30 y112 x16_1).f6), .bool ((rd_T30 y112 x16_1).f7), .string ((rd_T30 y112 x16_1).f8.f0), .string ((rd_T30 y112 x16_1).f8.f1), .string ((rd_T30 y112 x16_1).f8.f2), .slice A116_11 ((rd_T30 y112 x16_1).f9).length c116_11, .slice A116_12 ((rd_T30 y112 x16_1).f10).length c116_12, .slice A116_13 ((rd_T30 y112 x16_1).f11).length c116_13, .slice A116_14 ((rd_T30 y112 x16_1).f12).length c116_14, .slice A116_15 ((rd_T30 y112 x16_1).f13).length c116_15] 30 (0, 0))) := ⟨(by rw [hw]; exact (by (with_reducible repeat (first | refine blk_drewN ?_ _ | refine blk_drew ?_ | refine blk_alloc ?_ _)); refine blk_put (cs := #[.string ((rd_T30 y112 x16_1).f0), .string ((rd_T30 y112 x16_1).f1), .string ((rd_T30 y112 x16_1).f2), .string ((rd_T30 y112 x16_1).f3), .string ((rd_T30 y112 x16_1).f4), .string ((rd_T30 y112 x16_1).f5), .int .i64 ((rd_T30 y112 x16_1).f6), .bool ((rd_T30 y112 x16_1).f7), .string ((rd_T30 y112 x16_1).f8.f0), .string ((rd_T30 y112 x16_1).f8.f1), .string ((rd_T30 y112 x16_1).f8.f2), .slice A116_11 ((rd_T30 y112 x16_1).f9).length c116_11, .slice A116_12 ((rd_T30 y112 x16_1).f10).length c116_12, .slice A116_13 ((rd_T30 y112 x16_1).f11).length c116_13, .slice A116_14 ((rd_T30 y112 x16_1).f12).length c116_14, .slice none 0 0]) ?_ 15 _ rfl; (with_reducible repeat (first | refine blk_drewN ?_ _ | refine blk_drew ?_ | refine blk_alloc ?_ _)); refine blk_put (cs := #[.string ((rd_T30 y112 x16_1).f0), .string ((rd_T30 y112 x16_1).f1), .string ((rd_T30 y112 x16_1).f2), .string ((rd_T30 y112 x16_1).f3), .string ((rd_T30 y112 x16_1).f4), .string ((rd_T30 y112 x16_1).f5), .int .i64 ((rd_T30 y112 x16_1).f6), .bool ((rd_T30 y112 x16_1).f7), .string ((rd_T30 y112 x16_1).f8.f0), .string ((rd_T30 y112 x16_1).f8.f1), .string ((rd_T30 y112 x16_1).f8.f2), .slice A116_11 ((rd_T30 y112 x16_1).f9).length c116_11, .slice A116_12 ((rd_T30 y112 x16_1).f10).length c116_12, .slice A116_13 ((rd_T30 y112 x16_1).f11).length c116_13, .slice none 0 0, .slice none 0 0]) ?_ 14 _ rfl; (with_reducible repeat (first | refine blk_drewN ?_ _ | refine blk_drew ?_ | refine blk_alloc ?_ _)); refine blk_put (cs := #[.string ((rd_T30 y112 x16_1).f0), .string ((rd_T30 y112 x16_1).f1), .string ((rd_T30 y112 x16_1).f2), .string ((rd_T30 y112 x16_1).f3), .string ((rd_T30 y112 x16_1).f4), .string ((rd_T30 y112 x16_1).f5), .int .i64 ((rd_T30 y112 x16_1).f6), .bool ((rd_T30 y112 x16_1).f7), .string ((rd_T30 y112 x16_1).f8.f0), .string ((rd_T30 y112 x16_1).f8.f1), .string ((rd_T30 y112 x16_1).f8.f2), .slice A116_11 ((rd_T30 y112 x16_1).f9).length c116_11, .slice A116_12 ((rd_T30 y112 x16_1).f10).length c116_12, .slice none 0 0, .slice none 0 0, .slice none 0 0]) ?_ 13 _ rfl; (with_reducible repeat (first | refine blk_drewN ?_ _ | refine blk_drew ?_ | refine blk_alloc ?_ _)); refine blk_put (cs := #[.string ((rd_T30 y112 x16_1).f0), .string ((rd_T30 y112 x16_1).f1), .string ((rd_T30 y112 x16_1).f2), .string ((rd_T30 y112 x16_1).f3), .string ((rd_T30 y112 x16_1).f4), .string ((rd_T30 y112 x16_1).f5), .int .i64 ((rd_T30 y112 x16_1).f6), .bool ((rd_T30 y112 x16_1).f7), .string ((rd_T30 y112 x16_1).f8.f0), .string ((rd_T30 y112 x16_1).f8.f1), .string ((rd_T30 y112 x16_1).f8.f2), .slice A116_11 ((rd_T30 y112 x16_1).f9).length c116_11, .slice none 0 0, .slice none 0 0, .slice none 0 0, .slice none 0 0]) ?_ 12 _ rfl; (with_reducible repeat (first | refine blk_drewN ?_ _ | refine blk_drew ?_ | refine blk_alloc ?_ _)); refine blk_put (cs := #[.string ((rd_T30 y112 x16_1).f0), .string ((rd_T30 y112 x16_1).f1), .string ((rd_T30 y112 x16_1).f2), .string ((rd_T30 y112 x16_1).f3), .string ((rd_T30 y112 x16_1).f4), .string ((rd_T30 y112 x16_1).f5), .int .i64 ((rd_T30 y112 x16_1).f6), .bool ((rd_T30 y112 x16_1).f7), .string ((rd_T30 y112 x16_1).f8.f0), .string ((rd_T30 y112 x16_1).f8.f1), .string ((rd_T30 y112 x16_1).f8.f2), .slice none 0 0, .slice none 0 0, .slice none 0 0, .slice none 0 0, .slice none 0 0]) ?_ 11 _ rfl; (with_reducible repeat (first | refine blk_drewN ?_ _ | refine blk_drew ?_ | refine blk_alloc ?_ _)); refine blk_put (cs := #[.string ((rd_T30 y112 x16_1).f0), .string ((rd_T30 y112 x16_1).f1), .string ((rd_T30 y112 x16_1).f2), .string ((rd_T30 y112 x16_1).f3), .string ((rd_T30 y112 x16_1).f4), .string ((rd_T30 y112 x16_1).f5), .int .i64 ((rd_T30 y112 x16_1).f6), .bool ((rd_T30 y112 x16_1).f7), .string ((rd_T30 y112 x16_1).f8.f0), .string ((rd_T30 y112 x16_1).f8.f1), .string (⟨#[]⟩ : ByteArray), .slice none 0 0, .slice none 0 0, .slice none 0 0, .slice none 0 0, .slice none 0 0]) ?_ 10 _ rfl; (with_reducible repeat (first | refine blk_drewN ?_ _ | refine blk_drew ?_ | refine blk_alloc ?_ _)); refine blk_put (cs := #[.string ((rd_T30 y112 x16_1).f0), .string ((rd_T30 y112 x16_1).f1), .string ((rd_T30 y112 x16_1).f2), .string ((rd_T30 y112 x16_1).f3), .string ((rd_T30 y112 x16_1).f4), .string ((rd_T30 y112 x16_1).f5), .int .i64 ((rd_T30 y112 x16_1).f6), .bool ((rd_T30 y112 x16_1).f7), .string ((rd_T30 y112 x16_1).f8.f0), .string (⟨#[]⟩ : ByteArray), .string (⟨#[]⟩ : ByteArray), .slice none 0 0, .slice none 0 0, .slice none 0 0, .slice none 0 0, .slice none 0 0]) ?_ 9 _ rfl; (with_reducible repeat (first | refine blk_drewN ?_ _ | refine blk_drew ?_ | refine blk_alloc ?_ _)); refine blk_put (cs := #[.string ((rd_T30 y112 x16_1).f0), .string ((rd_T30 y112 x16_1).f1), .string ((rd_T30 y112 x16_1).f2), .string ((rd_T30 y112 x16_1).f3), .string ((rd_T30 y112 x16_1).f4), .string ((rd_T30 y112 x16_1).f5), .int .i64 ((rd_T30 y112 x16_1).f6), .bool ((rd_T30 y112 x16_1).f7), .string (⟨#[]⟩ : ByteArray), .string (⟨#[]⟩ : ByteArray), .string (⟨#[]⟩ : ByteArray), .slice none 0 0, .slice none 0 0, .slice none 0 0, .slice none 0 0, .slice none 0 0]) ?_ 8 _ rfl; (with_reducible repeat (first | refine blk_drewN ?_ _ | refine blk_drew ?_ | refine blk_alloc ?_ _)); refine blk_put (cs := #[.string ((rd_T30 y112 x16_1).f0), .string ((rd_T30 y112 x16_1).f1), .string ((rd_T30 y112 x16_1).f2), .string ((rd_T30 y112 x16_1).f3), .string ((rd_T30 y112 x16_1).f4), .string ((rd_T30 y112 x16_1).f5), .int .i64 ((rd_T30 y112 x16_1).f6), .bool false, .string (⟨#[]⟩ : ByteArray), .string (⟨#[]⟩ : ByteArray), .string (⟨#[]⟩ : ByteArray), .slice none 0 0, .slice none 0 0, .slice none 0 0, .slice none 0 0, .slice none 0 0]) ?_ 7 _ rfl; (with_reducible repeat (first | refine blk_drewN ?_ _ | refine blk_drew ?_ | refine blk_alloc ?_ _)); refine blk_put (cs := #[.string ((rd_T30 y112 x16_1).f0), .string ((rd_T30 y112 x16_1).f1), .string ((rd_T30 y112 x16_1).f2), .string ((rd_T30 y112 x16_1).f3), .string ((rd_T30 y112 x16_1).f4), .string ((rd_T30 y112 x16_1).f5), .int .i64 0, .bool false, .string (⟨#[]⟩ : ByteArray), .string (⟨#[]⟩ : ByteArray), .string (⟨#[]⟩ : ByteArray), .slice none 0 0, .slice none 0 0, .slice none 0 0, .slice none 0 0, .slice none 0 0]) ?_ 6 _ rfl; (with_reducible repeat (first | refine blk_drewN ?_ _ | refine blk_drew ?_ | refine blk_alloc ?_ _)); refine blk_put (cs := #[.string ((rd_T30 y112 x16_1).f0), .string ((rd_T30 y112 x16_1).f1), .string ((rd_T30 y112 x16_1).f2), .string ((rd_T30 y112 x16_1).f3), .string ((rd_T30 y112 x16_1).f4), .string (⟨#[]⟩ : ByteArray), .int .i64 0, .bool false, .string (⟨#[]⟩ : ByteArray), .string (⟨#[]⟩ : ByteArray), .string (⟨#[]⟩ : ByteArray), .slice none 0 0, .slice none 0 0, .slice none 0 0, .slice none 0 0, .slice none 0 0]) ?_ 5 _ rfl; (with_reducible repeat (first | refine blk_drewN ?_ _ | refine blk_drew ?_ | refine blk_alloc ?_ _)); refine blk_put (cs := #[.string ((rd_T30 y112 x16_1).f0), .string ((rd_T30 y112 x16_1).f1), .string ((rd_T30 y112 x16_1).f2), .string ((rd_T30 y112 x16_1).f3), .string (⟨#[]⟩ : ByteArray), .string (⟨#[]⟩ : ByteArray), .int .i64 0, .bool false, .string (⟨#[]⟩ : ByteArray), .string (⟨#[]⟩ : ByteArray), .string (⟨#[]⟩ : ByteArray), .slice none 0 0, .slice none 0 0, .slice none 0 0, .slice none 0 0, .slice none 0 0]) ?_ 4 _ rfl; (with_reducible repeat (first | refine blk_drewN ?_ _ | refine blk_drew ?_ | refine blk_alloc ?_ _)); refine blk_put (cs := #[.string ((rd_T30 y112 x16_1).f0), .string ((rd_T30 y112 x16_1).f1), .string ((rd_T30 y112 x16_1).f2), .string (⟨#[]⟩ : ByteArray), .string (⟨#[]⟩ : ByteArray), .string (⟨#[]⟩ : ByteArray), .int .i64 0, .bool false, .string (⟨#[]⟩ : ByteArray), .string (⟨#[]⟩ : ByteArray), .string (⟨#[]⟩ : ByteArray), .slice none 0 0, .slice none 0 0, .slice none 0 0, .slice none 0 0, .slice none 0 0]) ?_ 3 _ rfl; (with_reducible repeat (first | refine blk_drewN ?_ _ | refine blk_drew ?_ | refine blk_alloc ?_ _)); refine blk_put (cs := #[.string ((rd_T30 y112 x16_1).f0), .string ((rd_T30 y112 x16_1).f1), .string (⟨#[]⟩ : ByteArray), .string (⟨#[]⟩ : ByteArray), .string (⟨#[]⟩ : ByteArray), .string (⟨#[]⟩ : ByteArray), .int .i64 0, .bool false, .string (⟨#[]⟩ : ByteArray), .string (⟨#[]⟩ : ByteArray), .string (⟨#[]⟩ : ByteArray), .slice none 0 0, .slice none 0 0, .slice none 0 0, .slice none 0 0, .slice none 0 0]) ?_ 2 _ rfl; (with_reducible repeat (first | refine blk_drewN ?_ _ | refine blk_drew ?_ | refine blk_alloc ?_ _)); refine blk_put (cs := #[.string ((rd_T30 y112 x16_1).f0), .string (⟨#[]⟩ : ByteArray), .string (⟨#[]⟩ : ByteArray), .string (⟨#[]⟩ : ByteArray), .string (⟨#[]⟩ : ByteArray), .string (⟨#[]⟩ : ByteArray), .int .i64 0, .bool false, .string (⟨#[]⟩ : ByteArray), .string (⟨#[]⟩ : ByteArray), .string (⟨#[]⟩ : ByteArray), .slice none 0 0, .slice none 0 0, .slice none 0 0, .slice none 0 0, .slice none 0 0]) ?_ 1 _ rfl; (with_reducible repeat (first | refine blk_drewN ?_ _ | refine blk_drew ?_ | refine blk_alloc ?_ _)); refine blk_put (cs := #[.string (⟨#[]⟩ : ByteArray), .string (⟨#[]⟩ : ByteArray), .string (⟨#[]⟩ : ByteArray), .string (⟨#[]⟩ : ByteArray), .string (⟨#[]⟩ : ByteArray), .string (⟨#[]⟩ : ByteArray), .int .i64 0, .bool false, .string (⟨#[]⟩ : ByteArray), .string (⟨#[]⟩ : ByteArray), .string (⟨#[]⟩ : ByteArray), .slice none 0 0, .slice none 0 0, .slice none 0 0, .slice none 0 0, .slice none 0 0]) ?_ 0 _ rfl; (with_reducible repeat (first | refine blk_drewN ?_ _ | refine blk_drew ?_ | refine blk_alloc ?_ _)); exact BK117.out))⟩; have n1_ : Aside0 (Below w.heap.size w w13) := ⟨(by rw [hw]; exact (by repeat (first | (with_reducible first | exact HB.out | apply below_alloc | apply pw_below_drewN | apply below_drew1 | refine below_set ?_ GE117.out) | exact HB.out)))⟩; clear hw; clear BK117; clear HB; have BK117 := n0_; have HB := n1_; clear n0_ n1_; have hcz14_0 : w13.cell? ⟨gb117, 0, none⟩ = some (.string ((rd_T30 y112 x16_1).f0)) := (blk_cell BK117.out 0).trans rfl; have hcz14_1 : w13.cell? ⟨gb117, 1, none⟩ = some (.string ((rd_T30 y112 x16_1).f1)) := (blk_cell BK117.out 1).trans rfl; have hcz14_2 : w13.cell? ⟨gb117, 2, none⟩ = some (.string ((rd_T30 y112 x16_1).f2)) := (blk_cell BK117.out 2).trans rfl; have hcz14_3 : w13.cell? ⟨gb117, 3, none⟩ = some (.string ((rd_T30 y112 x16_1).f3)) := (blk_cell BK117.out 3).trans rfl; have hcz14_4 : w13.cell? ⟨gb117, 4, none⟩ = some (.string ((rd_T30 y112 x16_1).f4)) := (blk_cell BK117.out 4).trans rfl; have hcz14_5 : w13.cell? ⟨gb117, 5, none⟩ = some (.string ((rd_T30 y112 x16_1).f5)) := (blk_cell BK117.out 5).trans rfl; have hcz14_6 : w13.cell? ⟨gb117, 6, none⟩ = some (.int .i64 ((rd_T30 y112 x16_1).f6)) := (blk_cell BK117.out 6).trans rfl; have hcz14_7 : w13.cell? ⟨gb117, 7, none⟩ = some (.bool ((rd_T30 y112 x16_1).f7)) := (blk_cell BK117.out 7).trans rfl; have hcz14_8 : w13.cell? ⟨gb117, 8, none⟩ = some (.string ((rd_T30 y112 x16_1).f8.f0)) := (blk_cell BK117.out 8).trans rfl; have hcz14_9 : w13.cell? ⟨gb117, 9, none⟩ = some (.string ((rd_T30 y112 x16_1).f8.f1)) := (blk_cell BK117.out 9).trans rfl; have hcz14_10 : w13.cell? ⟨gb117, 10, none⟩ = some (.string ((rd_T30 y112 x16_1).f8.f2)) := (blk_cell BK117.out 10).trans rfl; have hcz14_11 : w13.cell? ⟨gb117, 11, none⟩ = some (.slice A116_11 ((rd_T30 y112 x16_1).f9).length c116_11) := (blk_cell BK117.out 11).trans rfl; have hcz14_12 : w13.cell? ⟨gb117, 12, none⟩ = some (.slice A116_12 ((rd_T30 y112 x16_1).f10).length c116_12) := (blk_cell BK117.out 12).trans rfl; have hcz14_13 : w13.cell? ⟨gb117, 13, none⟩ = some (.slice A116_13 ((rd_T30 y112 x16_1).f11).length c116_13) := (blk_cell BK117.out 13).trans rfl; have hcz14_14 : w13.cell? ⟨gb117, 14, none⟩ = some (.slice A116_14 ((rd_T30 y112 x16_1).f12).length c116_14) := (blk_cell BK117.out 14).trans rfl; have hcz14_15 : w13.cell? ⟨gb117, 15, none⟩ = some (.slice A116_15 ((rd_T30 y112 x16_1).f13).length c116_15) := (blk_cell BK117.out 15).trans rfl; have hfz14_0 := blk_frozen BK117.out 0; have hfz14_1 := blk_frozen BK117.out 1; have hfz14_2 := blk_frozen BK117.out 2; have hfz14_3 := blk_frozen BK117.out 3; have hfz14_4 := blk_frozen BK117.out 4; have hfz14_5 := blk_frozen BK117.out 5; have hfz14_6 := blk_frozen BK117.out 6; have hfz14_7 := blk_frozen BK117.out 7; have hfz14_8 := blk_frozen BK117.out 8; have hfz14_9 := blk_frozen BK117.out 9; have hfz14_10 := blk_frozen BK117.out 10; have hfz14_11 := blk_frozen BK117.out 11; have hfz14_12 := blk_frozen BK117.out 12; have hfz14_13 := blk_frozen BK117.out 13; have hfz14_14 := blk_frozen BK117.out 14; have hfz14_15 := blk_frozen BK117.out 15) | ((with_reducible refine gate_callee (f := 12) rfl ?_); refine goesL_ (some 22) rfl rfl Tryd.func12 (by kernel_rfl) rfl #[.agg #[.string ((rd_T30 y112 x16_1).f0), .string ((rd_T30 y112 x16_1).f1), .string ((rd_T30 y112 x16_1).f2), .string ((rd_T30 y112 x16_1).f3), .string ((rd_T30 y112 x16_1).f4), .string ((rd_T30 y112 x16_1).f5), .int .i64 ((rd_T30 y112 x16_1).f6), .bool ((rd_T30 y112 x16_1).f7), .string ((rd_T30 y112 x16_1).f8.f0), .string ((rd_T30 y112 x16_1).f8.f1), .string ((rd_T30 y112 x16_1).f8.f2), .slice A116_11 ((rd_T30 y112 x16_1).f9).length c116_11, .slice A116_12 ((rd_T30 y112 x16_1).f10).length c116_12, .slice A116_13 ((rd_T30 y112 x16_1).f11).length c116_13, .slice A116_14 ((rd_T30 y112 x16_1).f12).length c116_14, .slice A116_15 ((rd_T30 y112 x16_1).f13).length c116_15]] rfl (by (try simp only [List.map_toArray, List.map_cons, List.map_nil]); first | done | rfl | (simp only [List.length_drop, List.length_take]; rfl)) ?_; (with_reducible refine (cringlelaw21_size.calls k1 ((rd_T30 y112 x16_1).f0) ((rd_T30 y112 x16_1).f1) ((rd_T30 y112 x16_1).f2) ((rd_T30 y112 x16_1).f3) ((rd_T30 y112 x16_1).f4) ((rd_T30 y112 x16_1).f5) ((rd_T30 y112 x16_1).f6) ((rd_T30 y112 x16_1).f7) ((rd_T30 y112 x16_1).f8.f0) ((rd_T30 y112 x16_1).f8.f1) ((rd_T30 y112 x16_1).f8.f2) (fun k_ => k_ < w.heap.size) _ _ ((rd_T30 y112 x16_1).f9) (fun k_ => k_ < w.heap.size) _ _ ((rd_T30 y112 x16_1).f10) (fun k_ => k_ < w.heap.size) _ _ ((rd_T30 y112 x16_1).f11) (fun k_ => k_ < w.heap.size) _ _ ((rd_T30 y112 x16_1).f12) (fun k_ => k_ < w.heap.size) _ _ ((rd_T30 y112 x16_1).f13) t118 _ ?side1 ?side2 ?side3 ?side4 ?side5 ?side6 A10.out).mono ?_); (case side1 => first | exact HE.out | exact EnvOk.below HE.out (by repeat (first | (with_reducible first | exact HB.out | apply below_alloc | apply pw_below_drewN | apply below_drew1 | refine below_set ?_ GE117.out) | exact HB.out))); (case side2 => exact Kd.V_mk HC116_11.out (Kd.F_below (Kd.C_F Kd.heap_string HR116_11.out) (by repeat (first | (with_reducible first | exact HB.out | apply below_alloc | apply pw_below_drewN | apply below_drew1 | refine below_set ?_ GE117.out) | exact HB.out)))); (case side3 => exact Kd.V_mk HC116_12.out (Kd.F_below (Kd.C_F Kd.heap_string HR116_12.out) (by repeat (first | (with_reducible first | exact HB.out | apply below_alloc | apply pw_below_drewN | apply below_drew1 | refine below_set ?_ GE117.out) | exact HB.out)))); (case side4 => exact Kd.V_mk HC116_13.out (Kd.F_below (Kd.C_F Kd.heap_string HR116_13.out) (by repeat (first | (with_reducible first | exact HB.out | apply below_alloc | apply pw_below_drewN | apply below_drew1 | refine below_set ?_ GE117.out) | exact HB.out)))); (case side5 => exact Kd.V_mk HC116_14.out (Kd.F_below (Kd.C_F Kd.heap_string HR116_14.out) (by repeat (first | (with_reducible first | exact HB.out | apply below_alloc | apply pw_below_drewN | apply below_drew1 | refine below_set ?_ GE117.out) | exact HB.out)))); (case side6 => exact Kd.V_mk HC116_15.out (Kd.F_below (Kd.C_F Kd.heap_string HR116_15.out) (by repeat (first | (with_reducible first | exact HB.out | apply below_alloc | apply pw_below_drewN | apply below_drew1 | refine below_set ?_ GE117.out) | exact HB.out)))); rintro e w15 ⟨rfl, hb⟩; refine ⟨_, rfl, ?_⟩; have n0_ := Aside0.mk (blk_below (g := gb117) (o := .cells #[.string ((rd_T30 y112 x16_1).f0), .string ((rd_T30 y112 x16_1).f1), .string ((rd_T30 y112 x16_1).f2), .string ((rd_T30 y112 x16_1).f3), .string ((rd_T30 y112 x16_1).f4), .string ((rd_T30 y112 x16_1).f5), .int .i64 ((rd_T30 y112 x16_1).f6), .bool ((rd_T30 y112 x16_1).f7), .string ((rd_T30 y112 x16_1).f8.f0), .string ((rd_T30 y112 x16_1).f8.f1), .string ((rd_T30 y112 x16_1).f8.f2), .slice A116_11 ((rd_T30 y112 x16_1).f9).length c116_11, .slice A116_12 ((rd_T30 y112 x16_1).f10).length c116_12, .slice A116_13 ((rd_T30 y112 x16_1).f11).length c116_13, .slice A116_14 ((rd_T30 y112 x16_1).f12).length c116_14, .slice A116_15 ((rd_T30 y112 x16_1).f13).length c116_15] 30 (0, 0)) (by (with_reducible repeat (first | refine blk_drewN ?_ _ | refine blk_drew ?_ | refine blk_alloc ?_ _)); exact BK117.out) hb); have n1_ := Aside0.mk (below_step (by repeat (first | (with_reducible first | exact HB.out | apply below_alloc | apply pw_below_drewN | apply below_drew1 | refine below_set ?_ GE117.out) | exact HB.out)) hb); clear BK117; clear HB; have BK117 := n0_; have HB := n1_; clear n0_ n1_; (try clear hb); (try clear hb2); (try clear hk); (try clear hi)))
        go_roundg k1
        case measure => have := HK1.out; omega
        case rel => exact ⟨(wrap64 (x5_1 + t118)), (wrap64 (x16_1 + 1)), (by first | rfl | (simp; done) | (simp [*]; done)), (by first | rfl | (simp; done) | (simp [*]; done)), H', ⟨by have := HK1.out; omega⟩, ⟨by repeat (first | (with_reducible first | exact HB.out | apply below_alloc | apply pw_below_drewN | apply below_drew1 | refine below_set ?_ GE117.out) | exact HB.out)⟩⟩
       ·rw [if_neg c9] at H
        exact absurd H (by simp)
      ·rw [if_neg c8] at H
       exact absurd H (by simp)
     ·rw [if_neg c7] at H
      have c7b0 : decide (x16_1 < (y112.length : Int)) = false := decide_eq_false c7
      clear c7
      by_cases c16 : x5_1 > 12000
      ·rw [if_pos c16] at H
       have c16b0 : decide (12000 < x5_1) = true := decide_eq_true c16
       clear c16
       obtain rfl := Option.some.inj H
       go_wp2
       go_ret
       exact ⟨by first | rfl | (simp [errW_none, errW_some] <;> rfl) | (simp only [← hji3]; first | rfl | (simp [errW_none, errW_some] <;> rfl)) | (simp [*, errW_none, errW_some] <;> rfl), by repeat (first | (with_reducible first | exact HB.out | apply below_alloc | apply pw_below_drewN | apply below_drew1) | exact HB.out)⟩
      ·rw [if_neg c16] at H
       have c16b0 : decide (12000 < x5_1) = false := decide_eq_false c16
       clear c16
       obtain rfl := Option.some.inj H
       go_wp2
       go_ret
       exact ⟨by first | rfl | (simp [errW_none, errW_some] <;> rfl) | (simp only [← hji3]; first | rfl | (simp [errW_none, errW_some] <;> rfl)) | (simp [*, errW_none, errW_some] <;> rfl), by repeat (first | (with_reducible first | exact HB.out | apply below_alloc | apply pw_below_drewN | apply below_drew1) | exact HB.out)⟩
  ·rw [if_neg c5] at H
   exact absurd H (by simp)
 ·rw [if_neg c4] at H
  exact absurd H (by simp)
-- EXTERN: function 20 (url_Clean)
-- EXTERN: function 18 (strings_Cut)
-- EXTERN: function 19 (strings_IndexByte)
def ascii_IsLetter.f (a0 : Int) : Option (Bool) := some (decide ((((Go.bits .or .u8 a0 32) - 97) % 256) < 26))
set_option maxHeartbeats 8000000 in
set_option maxRecDepth 100000 in
theorem ascii_IsLetter.calls (a0 : Int) (r : Bool) (w : World) (hE : EnvOk w) (h : ascii_IsLetter.f a0 = some r) :
  Calls Tryd.prog 36 #[.int .u8 a0] w fun e w' => e = .returned (.bool r) ∧ Drawn0 w w' := by
 have HE := Aside0.mk hE
 clear hE
 have H : (some (decide ((((Go.bits .or .u8 a0 32) - 97) % 256) < 26))) = some r := h
 clear h
 obtain rfl := Option.some.inj H
 go_enter Tryd.func36, Tryd.ntmps36
 go_wp2
 go_ret
 exact ⟨by first | rfl | (simp; done) | (simp [*]; done), by repeat (first | exact Drawn0.refl _ | apply Drawn0.step)⟩
def ascii_IsDigit.f (a0 : Int) : Option (Bool) := some (decide (((a0 - 48) % 256) < 10))
set_option maxHeartbeats 8000000 in
set_option maxRecDepth 100000 in
theorem ascii_IsDigit.calls (a0 : Int) (r : Bool) (w : World) (hE : EnvOk w) (h : ascii_IsDigit.f a0 = some r) :
  Calls Tryd.prog 37 #[.int .u8 a0] w fun e w' => e = .returned (.bool r) ∧ Drawn0 w w' := by
 have HE := Aside0.mk hE
 clear hE
 have H : (some (decide (((a0 - 48) % 256) < 10))) = some r := h
 clear h
 obtain rfl := Option.some.inj H
 go_enter Tryd.func37, Tryd.ntmps37
 go_wp2
 go_ret
 exact ⟨by first | rfl | (simp; done) | (simp [*]; done), by repeat (first | exact Drawn0.refl _ | apply Drawn0.step)⟩
def ascii_low.f (a0 : Int) : Option (Int) := if ((a0 - 65) % 256) < 26 then (some (Go.bits .or .u8 a0 32)) else (some a0)
set_option maxHeartbeats 8000000 in
set_option maxRecDepth 100000 in
theorem ascii_low.calls (a0 : Int) (r : Int) (w : World) (hE : EnvOk w) (h : ascii_low.f a0 = some r) :
  Calls Tryd.prog 56 #[.int .u8 a0] w fun e w' => e = .returned (.int .u8 r) ∧ Drawn0 w w' := by
 have HE := Aside0.mk hE
 clear hE
 have H : (if ((a0 - 65) % 256) < 26 then (some (Go.bits .or .u8 a0 32)) else (some a0)) = some r := h
 clear h
 by_cases c2 : ((a0 - 65) % 256) < 26
 ·rw [if_pos c2] at H
  have c2b0 : decide (((a0 - 65) % 256) < 26) = true := decide_eq_true c2
  clear c2
  obtain rfl := Option.some.inj H
  go_enter Tryd.func56, Tryd.ntmps56
  go_wp2
  go_ret
  exact ⟨by first | rfl | (simp; done) | (simp [*]; done), by repeat (first | exact Drawn0.refl _ | apply Drawn0.step)⟩
 ·rw [if_neg c2] at H
  have c2b0 : decide (((a0 - 65) % 256) < 26) = false := decide_eq_false c2
  clear c2
  obtain rfl := Option.some.inj H
  go_enter Tryd.func56, Tryd.ntmps56
  go_wp2
  go_ret
  exact ⟨by first | rfl | (simp; done) | (simp [*]; done), by repeat (first | exact Drawn0.refl _ | apply Drawn0.step)⟩
-- EXTERN: function 39 (strings_IndexAny)
-- EXTERN: function 40 (strings_TrimLeft)
-- EXTERN: function 41 (url_rest_take)
def ascii_nibble.f (a0 : Int) : Option (Int × Bool) := (ascii_low.f a0).bind fun t119 => ((ascii_IsDigit.f t119).bind fun t120 => (if t120 = true then (some ((t119 - 48) % 256, true)) else (if ((t119 - 97) % 256) < 6 then (some (((t119 - 97) % 256) + 10, true)) else (some (0, false)))))
set_option maxHeartbeats 8000000 in
set_option maxRecDepth 100000 in
theorem ascii_nibble.calls (a0 : Int) (r1 : Int) (r2 : Bool) (w : World) (hE : EnvOk w) (h : ascii_nibble.f a0 = some (r1, r2)) :
  Calls Tryd.prog 96 #[.int .u8 a0] w fun e w' => e = .returned (.tuple #[.int .u32 r1, .bool r2]) ∧ Drawn0 w w' := by
 have HE := Aside0.mk hE
 clear hE
 have H : ((ascii_low.f a0).bind fun t119 => ((ascii_IsDigit.f t119).bind fun t120 => (if t120 = true then (some ((t119 - 48) % 256, true)) else (if ((t119 - 97) % 256) < 6 then (some (((t119 - 97) % 256) + 10, true)) else (some (0, false)))))) = some (r1, r2) := h
 clear h
 replace H := Option.bind_eq_some_iff.mp H
 obtain ⟨t119, A20, H⟩ := H
 replace H : ((ascii_IsDigit.f t119).bind fun t120 => (if t120 = true then (some ((t119 - 48) % 256, true)) else (if ((t119 - 97) % 256) < 6 then (some (((t119 - 97) % 256) + 10, true)) else (some (0, false))))) = some (r1, r2) := H
 have A2 := Aside0.mk A20
 clear A20
 replace H := Option.bind_eq_some_iff.mp H
 obtain ⟨t120, A30, H⟩ := H
 replace H : (if t120 = true then (some ((t119 - 48) % 256, true)) else (if ((t119 - 97) % 256) < 6 then (some (((t119 - 97) % 256) + 10, true)) else (some (0, false)))) = some (r1, r2) := H
 have A3 := Aside0.mk A30
 clear A30
 by_cases c4 : t120 = true
 ·subst c4
  have H1 : (some ((t119 - 48) % 256, true)) = some (r1, r2) := by rw [if_pos rfl] at H; exact H
  clear H
  have H := H1
  clear H1
  simp only [Option.some.injEq, Prod.mk.injEq] at H
  obtain ⟨rfl, rfl⟩ := H
  go_enter Tryd.func96, Tryd.ntmps96
  go_wp2_with (first | ((with_reducible refine gate_callee (f := 56) rfl ?_); refine goesL_ (some 5) rfl rfl Tryd.func56 (by kernel_rfl) rfl #[.int .u8 a0] rfl (by (try simp only [List.map_toArray, List.map_cons, List.map_nil]); first | done | rfl | (simp only [List.length_drop, List.length_take]; rfl)) ?_; (with_reducible refine (ascii_low.calls a0 t119 _ ?side1 A2.out).mono ?_); (case side1 => first | exact HE.out | exact EnvOk.heap HE.out rfl); rintro e w' ⟨rfl, ⟨nd, rfl⟩⟩; refine ⟨_, rfl, ?_⟩) | ((with_reducible refine gate_callee (f := 37) rfl ?_); refine goesL_ (some 8) rfl rfl Tryd.func37 (by kernel_rfl) rfl #[.int .u8 t119] rfl (by (try simp only [List.map_toArray, List.map_cons, List.map_nil]); first | done | rfl | (simp only [List.length_drop, List.length_take]; rfl)) ?_; (with_reducible refine (ascii_IsDigit.calls t119 true _ ?side1 A3.out).mono ?_); (case side1 => first | exact HE.out | exact EnvOk.heap HE.out rfl); rintro e w' ⟨rfl, ⟨nd, rfl⟩⟩; refine ⟨_, rfl, ?_⟩))
  go_ret2
  exact ⟨by first | rfl | (simp; done) | (simp [*]; done), by repeat (first | exact Drawn0.refl _ | apply Drawn0.step)⟩
 ·replace c4 := Bool.eq_false_iff.mpr c4
  subst c4
  have H1 : (if ((t119 - 97) % 256) < 6 then (some (((t119 - 97) % 256) + 10, true)) else (some (0, false))) = some (r1, r2) := by rw [if_neg (show ¬ (false = true) by decide)] at H; exact H
  clear H
  have H := H1
  clear H1
  by_cases c5 : ((t119 - 97) % 256) < 6
  ·rw [if_pos c5] at H
   have c5b0 : decide (((t119 - 97) % 256) < 6) = true := decide_eq_true c5
   clear c5
   simp only [Option.some.injEq, Prod.mk.injEq] at H
   obtain ⟨rfl, rfl⟩ := H
   go_enter Tryd.func96, Tryd.ntmps96
   go_wp2_with (first | ((with_reducible refine gate_callee (f := 56) rfl ?_); refine goesL_ (some 5) rfl rfl Tryd.func56 (by kernel_rfl) rfl #[.int .u8 a0] rfl (by (try simp only [List.map_toArray, List.map_cons, List.map_nil]); first | done | rfl | (simp only [List.length_drop, List.length_take]; rfl)) ?_; (with_reducible refine (ascii_low.calls a0 t119 _ ?side1 A2.out).mono ?_); (case side1 => first | exact HE.out | exact EnvOk.heap HE.out rfl); rintro e w' ⟨rfl, ⟨nd, rfl⟩⟩; refine ⟨_, rfl, ?_⟩) | ((with_reducible refine gate_callee (f := 37) rfl ?_); refine goesL_ (some 8) rfl rfl Tryd.func37 (by kernel_rfl) rfl #[.int .u8 t119] rfl (by (try simp only [List.map_toArray, List.map_cons, List.map_nil]); first | done | rfl | (simp only [List.length_drop, List.length_take]; rfl)) ?_; (with_reducible refine (ascii_IsDigit.calls t119 false _ ?side1 A3.out).mono ?_); (case side1 => first | exact HE.out | exact EnvOk.heap HE.out rfl); rintro e w' ⟨rfl, ⟨nd, rfl⟩⟩; refine ⟨_, rfl, ?_⟩))
   go_ret2
   exact ⟨by first | rfl | (simp; done) | (simp [*]; done), by repeat (first | exact Drawn0.refl _ | apply Drawn0.step)⟩
  ·rw [if_neg c5] at H
   have c5b0 : decide (((t119 - 97) % 256) < 6) = false := decide_eq_false c5
   clear c5
   simp only [Option.some.injEq, Prod.mk.injEq] at H
   obtain ⟨rfl, rfl⟩ := H
   go_enter Tryd.func96, Tryd.ntmps96
   go_wp2_with (first | ((with_reducible refine gate_callee (f := 56) rfl ?_); refine goesL_ (some 5) rfl rfl Tryd.func56 (by kernel_rfl) rfl #[.int .u8 a0] rfl (by (try simp only [List.map_toArray, List.map_cons, List.map_nil]); first | done | rfl | (simp only [List.length_drop, List.length_take]; rfl)) ?_; (with_reducible refine (ascii_low.calls a0 t119 _ ?side1 A2.out).mono ?_); (case side1 => first | exact HE.out | exact EnvOk.heap HE.out rfl); rintro e w' ⟨rfl, ⟨nd, rfl⟩⟩; refine ⟨_, rfl, ?_⟩) | ((with_reducible refine gate_callee (f := 37) rfl ?_); refine goesL_ (some 8) rfl rfl Tryd.func37 (by kernel_rfl) rfl #[.int .u8 t119] rfl (by (try simp only [List.map_toArray, List.map_cons, List.map_nil]); first | done | rfl | (simp only [List.length_drop, List.length_take]; rfl)) ?_; (with_reducible refine (ascii_IsDigit.calls t119 false _ ?side1 A3.out).mono ?_); (case side1 => first | exact HE.out | exact EnvOk.heap HE.out rfl); rintro e w' ⟨rfl, ⟨nd, rfl⟩⟩; refine ⟨_, rfl, ?_⟩))
   go_ret2
   exact ⟨by first | rfl | (simp; done) | (simp [*]; done), by repeat (first | exact Drawn0.refl _ | apply Drawn0.step)⟩
def ascii_Hex.l0 : Nat → ByteArray → Int → Bool → Int → Int → Option (Int × Int)
 | 0, _, _, _, _, _ => none
 | k + 1, x0, x4, x5, x12, x13 => if x13 < x12 then (if 0 ≤ x13 then (if x13 < (x0.size : Int) then ((ascii_nibble.f (bt x0 x13)).bind fun bt121 => (if bt121.2 = true then (if x5 = true then (ascii_Hex.l0 k x0 (Go.bits .or .u32 ((x4 * 16) % 4294967296) bt121.1) true x12 (wrap64 (x13 + 1))) else (ascii_Hex.l0 k x0 (Go.bits .or .u32 ((x4 * 16) % 4294967296) bt121.1) ((x4 / 268435456) != 0) x12 (wrap64 (x13 + 1)))) else (some (0, 3)))) else (none)) else (none)) else (if x5 = true then (some (0, 5)) else (some (x4, 0)))
def ascii_Hex.f (k : Nat) (a0 : ByteArray) : Option (Int × Int) := if a0.toList = ([] : List UInt8) then (some (0, 3)) else (ascii_Hex.l0 k a0 0 false (a0.size : Int) 0)
set_option maxHeartbeats 8000000 in
set_option maxRecDepth 100000 in
theorem ascii_Hex.calls (k : Nat) (a0 : ByteArray) (r1 : Int) (r2 : Int) (w : World) (hE : EnvOk w) (h : ascii_Hex.f k a0 = some (r1, r2)) :
  Calls Tryd.prog 85 #[.string a0] w fun e w' => e = .returned (.tuple #[.int .u32 r1, .int .i64 r2]) ∧ Drawn0 w w' := by
 have HE := Aside0.mk hE
 clear hE
 have H : (if a0.toList = ([] : List UInt8) then (some (0, 3)) else (ascii_Hex.l0 k a0 0 false (a0.size : Int) 0)) = some (r1, r2) := h
 clear h
 by_cases c2 : a0.toList = ([] : List UInt8)
 ·rw [if_pos c2] at H
  have c2b0 : (a0.toList == ([] : List UInt8)) = true := beq_iff_eq.mpr c2
  have c2b1 : (a0.toList != ([] : List UInt8)) = false := bne_eq_false_iff_eq.mpr c2
  clear c2
  simp only [Option.some.injEq, Prod.mk.injEq] at H
  obtain ⟨rfl, rfl⟩ := H
  go_enter Tryd.func85, Tryd.ntmps85
  go_wp2
  go_ret2
  exact ⟨by first | rfl | (simp; done) | (simp [*]; done), by repeat (first | exact Drawn0.refl _ | apply Drawn0.step)⟩
 ·rw [if_neg c2] at H
  have c2b0 : (a0.toList == ([] : List UInt8)) = false := beq_eq_false_iff_ne.mpr c2
  have c2b1 : (a0.toList != ([] : List UInt8)) = true := bne_iff_ne.mpr c2
  have H' := Aside0.mk H
  clear H
  go_enter Tryd.func85, Tryd.ntmps85
  go_wp2
  go_loopg [4, 5, 13] k (fun kq v4 v5 v13 w' => ∃ (x4_1 : Int) (x5_1 : Bool) (x13_1 : Int), v4 = .int .u32 x4_1 ∧ v5 = .bool x5_1 ∧ v13 = .int .i64 x13_1 ∧ Aside0 (ascii_Hex.l0 kq a0 x4_1 x5_1 (a0.size : Int) x13_1 = some (r1, r2)) ∧ Aside0 (kq ≤ k) ∧ Drawn0 w w')
  case atStart => exact ⟨(0), (false), (0), (by first | rfl | (simp; done) | (simp [*]; done)), (by first | rfl | (simp; done) | (simp [*]; done)), (by first | rfl | (simp; done) | (simp [*]; done)), H', ⟨Nat.le_refl _⟩, by repeat (first | exact Drawn0.refl _ | apply Drawn0.step)⟩
  case round =>
   clear H'
   try clear c2
   try clear c2b0
   try clear c2b1
   try clear p2
   obtain ⟨x4_1, x5_1, x13_1, rfl, rfl, rfl, HA, HK1, ⟨m1, rfl⟩⟩ := hrel
   cases gk with
   | zero => exact absurd HA.out (by simp [ascii_Hex.l0])
   | succ k1 =>
    have H := HA.out
    clear HA
    simp only [ascii_Hex.l0] at H
    by_cases c3 : x13_1 < (a0.size : Int)
    ·rw [if_pos c3] at H
     have c3b0 : decide (x13_1 < (a0.size : Int)) = true := decide_eq_true c3
     clear c3
     by_cases c4 : 0 ≤ x13_1
     ·rw [if_pos c4] at H
      have c4b0 : decide (0 ≤ x13_1) = true := decide_eq_true c4
      clear c4
      by_cases c5 : x13_1 < (a0.size : Int)
      ·rw [if_pos c5] at H
       have c5b0 : decide (x13_1 < (a0.size : Int)) = true := decide_eq_true c5
       clear c5
       replace H := Option.bind_eq_some_iff.mp H
       obtain ⟨⟨t121, t122⟩, A70, H⟩ := H
       replace H : (if t122 = true then (if x5_1 = true then (ascii_Hex.l0 k1 a0 (Go.bits .or .u32 ((x4_1 * 16) % 4294967296) t121) true (a0.size : Int) (wrap64 (x13_1 + 1))) else (ascii_Hex.l0 k1 a0 (Go.bits .or .u32 ((x4_1 * 16) % 4294967296) t121) ((x4_1 / 268435456) != 0) (a0.size : Int) (wrap64 (x13_1 + 1)))) else (some (0, 3))) = some (r1, r2) := H
       have A7 := Aside0.mk A70
       clear A70
       by_cases c8 : t122 = true
       ·subst c8
        have H1 : (if x5_1 = true then (ascii_Hex.l0 k1 a0 (Go.bits .or .u32 ((x4_1 * 16) % 4294967296) t121) true (a0.size : Int) (wrap64 (x13_1 + 1))) else (ascii_Hex.l0 k1 a0 (Go.bits .or .u32 ((x4_1 * 16) % 4294967296) t121) ((x4_1 / 268435456) != 0) (a0.size : Int) (wrap64 (x13_1 + 1)))) = some (r1, r2) := by rw [if_pos rfl] at H; exact H
        clear H
        have H := H1
        clear H1
        by_cases c9 : x5_1 = true
        ·subst c9
         have H1 : (ascii_Hex.l0 k1 a0 (Go.bits .or .u32 ((x4_1 * 16) % 4294967296) t121) true (a0.size : Int) (wrap64 (x13_1 + 1))) = some (r1, r2) := by rw [if_pos rfl] at H; exact H
         clear H
         have H := H1
         clear H1
         have H' := Aside0.mk H
         clear H
         have p6 : 0 ≤ (x13_1 : Int) := of_decide_eq_true (by first | (with_reducible assumption) | assumption)
         have q6 : x13_1 < (a0.size : Int) := of_decide_eq_true (by first | (with_reducible assumption) | assumption)
         have hx6 := bt_at a0 x13_1
         replace p6 := eq_true p6
         replace q6 := eq_true q6
         go_wp2_with (first | ((with_reducible refine gate_callee (f := 96) rfl ?_); refine goesL_ (some 20) rfl rfl Tryd.func96 (by kernel_rfl) rfl #[.int .u8 (bt a0 x13_1)] rfl (by (try simp only [List.map_toArray, List.map_cons, List.map_nil]); first | done | rfl | (simp only [List.length_drop, List.length_take]; rfl)) ?_; (with_reducible refine (ascii_nibble.calls (bt a0 x13_1) t121 true _ ?side1 A7.out).mono ?_); (case side1 => first | exact HE.out | exact EnvOk.heap HE.out rfl); rintro e w' ⟨rfl, ⟨nd, rfl⟩⟩; refine ⟨_, rfl, ?_⟩))
         go_roundg k1
         case measure => have := HK1.out; omega
         case rel => exact ⟨(Go.bits .or .u32 ((x4_1 * 16) % 4294967296) t121), (true), (wrap64 (x13_1 + 1)), (by first | rfl | (simp; done) | (simp [*]; done)), (by first | rfl | (simp; done) | (simp [*]; done)), (by first | rfl | (simp; done) | (simp [*]; done)), H', ⟨by have := HK1.out; omega⟩, by repeat (first | exact Drawn0.refl _ | apply Drawn0.step)⟩
        ·replace c9 := Bool.eq_false_iff.mpr c9
         subst c9
         have H1 : (ascii_Hex.l0 k1 a0 (Go.bits .or .u32 ((x4_1 * 16) % 4294967296) t121) ((x4_1 / 268435456) != 0) (a0.size : Int) (wrap64 (x13_1 + 1))) = some (r1, r2) := by rw [if_neg (show ¬ (false = true) by decide)] at H; exact H
         clear H
         have H := H1
         clear H1
         have H' := Aside0.mk H
         clear H
         have p6 : 0 ≤ (x13_1 : Int) := of_decide_eq_true (by first | (with_reducible assumption) | assumption)
         have q6 : x13_1 < (a0.size : Int) := of_decide_eq_true (by first | (with_reducible assumption) | assumption)
         have hx6 := bt_at a0 x13_1
         replace p6 := eq_true p6
         replace q6 := eq_true q6
         go_wp2_with (first | ((with_reducible refine gate_callee (f := 96) rfl ?_); refine goesL_ (some 20) rfl rfl Tryd.func96 (by kernel_rfl) rfl #[.int .u8 (bt a0 x13_1)] rfl (by (try simp only [List.map_toArray, List.map_cons, List.map_nil]); first | done | rfl | (simp only [List.length_drop, List.length_take]; rfl)) ?_; (with_reducible refine (ascii_nibble.calls (bt a0 x13_1) t121 true _ ?side1 A7.out).mono ?_); (case side1 => first | exact HE.out | exact EnvOk.heap HE.out rfl); rintro e w' ⟨rfl, ⟨nd, rfl⟩⟩; refine ⟨_, rfl, ?_⟩))
         go_roundg k1
         case measure => have := HK1.out; omega
         case rel => exact ⟨(Go.bits .or .u32 ((x4_1 * 16) % 4294967296) t121), (((x4_1 / 268435456) != 0)), (wrap64 (x13_1 + 1)), (by first | rfl | (simp; done) | (simp [*]; done)), (by first | rfl | (simp; done) | (simp [*]; done)), (by first | rfl | (simp; done) | (simp [*]; done)), H', ⟨by have := HK1.out; omega⟩, by repeat (first | exact Drawn0.refl _ | apply Drawn0.step)⟩
       ·replace c8 := Bool.eq_false_iff.mpr c8
        subst c8
        have H1 : (some (0, 3)) = some (r1, r2) := by rw [if_neg (show ¬ (false = true) by decide)] at H; exact H
        clear H
        have H := H1
        clear H1
        simp only [Option.some.injEq, Prod.mk.injEq] at H
        obtain ⟨rfl, rfl⟩ := H
        have p6 : 0 ≤ (x13_1 : Int) := of_decide_eq_true (by first | (with_reducible assumption) | assumption)
        have q6 : x13_1 < (a0.size : Int) := of_decide_eq_true (by first | (with_reducible assumption) | assumption)
        have hx6 := bt_at a0 x13_1
        replace p6 := eq_true p6
        replace q6 := eq_true q6
        go_wp2_with (first | ((with_reducible refine gate_callee (f := 96) rfl ?_); refine goesL_ (some 20) rfl rfl Tryd.func96 (by kernel_rfl) rfl #[.int .u8 (bt a0 x13_1)] rfl (by (try simp only [List.map_toArray, List.map_cons, List.map_nil]); first | done | rfl | (simp only [List.length_drop, List.length_take]; rfl)) ?_; (with_reducible refine (ascii_nibble.calls (bt a0 x13_1) t121 false _ ?side1 A7.out).mono ?_); (case side1 => first | exact HE.out | exact EnvOk.heap HE.out rfl); rintro e w' ⟨rfl, ⟨nd, rfl⟩⟩; refine ⟨_, rfl, ?_⟩))
        go_ret2
        exact ⟨by first | rfl | (simp; done) | (simp [*]; done), by repeat (first | exact Drawn0.refl _ | apply Drawn0.step)⟩
      ·rw [if_neg c5] at H
       exact absurd H (by simp)
     ·rw [if_neg c4] at H
      exact absurd H (by simp)
    ·rw [if_neg c3] at H
     have c3b0 : decide (x13_1 < (a0.size : Int)) = false := decide_eq_false c3
     clear c3
     by_cases c10 : x5_1 = true
     ·subst c10
      have H1 : (some (0, 5)) = some (r1, r2) := by rw [if_pos rfl] at H; exact H
      clear H
      have H := H1
      clear H1
      simp only [Option.some.injEq, Prod.mk.injEq] at H
      obtain ⟨rfl, rfl⟩ := H
      go_wp2
      go_ret2
      exact ⟨by first | rfl | (simp; done) | (simp [*]; done), by repeat (first | exact Drawn0.refl _ | apply Drawn0.step)⟩
     ·replace c10 := Bool.eq_false_iff.mpr c10
      subst c10
      have H1 : (some (x4_1, 0)) = some (r1, r2) := by rw [if_neg (show ¬ (false = true) by decide)] at H; exact H
      clear H
      have H := H1
      clear H1
      simp only [Option.some.injEq, Prod.mk.injEq] at H
      obtain ⟨rfl, rfl⟩ := H
      go_wp2
      go_ret2
      exact ⟨by first | rfl | (simp; done) | (simp [*]; done), by repeat (first | exact Drawn0.refl _ | apply Drawn0.step)⟩
end Go.Proofs.YtihaeeldgimdiaaDoor.X
