/- ident.Named: what a call of each gives. -/
import Derived.Test.YtihaeeldgimdiaaDoorUiIo
import Derived.Test.YtihaeeldgimdiaaDoorUiMs
namespace Go.Proofs.YtihaeeldgimdiaaDoor.X
open Go.RowKit Go.Lib Go.Shelf Go.Proofs.YtihaeeldgimdiaaDoorW.PrintWords Go.Proofs.YtihaeeldgimdiaaDoorW.PrintLast Go.Proofs.YtihaeeldgimdiaaDoorW.PrintMore
set_option linter.unusedVariables false
set_option linter.unusedSimpArgs false
theorem ec_one (f0 f1 f2 f3 f4 f5 : ByteArray) (f6 : Int) (f7 : Bool) (c0 c1 c2 : ByteArray) (A9 A10 A11 A12 A13 : Option Addr) (l9 n9 l10 n10 l11 n11 l12 n12 l13 n13 : Nat) :
  ((ec f0 f1 f2 f3 f4 f5 f6 f7 c0 c1 c2 (.slice A9 l9 n9) (.slice A10 l10 n10) (.slice A11 l11 n11) (.slice A12 l12 n12) (.slice A13 l13 n13)).all (·.oneCell')) = true := by simp [Value.oneCell']
abbrev ez : Array Value := ec ⟨#[]⟩ ⟨#[]⟩ ⟨#[]⟩ ⟨#[]⟩ ⟨#[]⟩ ⟨#[]⟩ 0 false ⟨#[]⟩ ⟨#[]⟩ ⟨#[]⟩ (.slice none 0 0) (.slice none 0 0) (.slice none 0 0) (.slice none 0 0) (.slice none 0 0)
theorem ec_cells {w : World} {g t : Nat} {f0 f1 f2 f3 f4 f5 : ByteArray} {f6 : Int} {f7 : Bool} {c0 c1 c2 : ByteArray} {v9 v10 v11 v12 v13 : Value} (h : w.heap[g]? = some (.cells (ec f0 f1 f2 f3 f4 f5 f6 f7 c0 c1 c2 v9 v10 v11 v12 v13) t (0, 0))) :
  w.cell? ⟨g, 0, none⟩ = some (.string f0) ∧ w.cell? ⟨g, 1, none⟩ = some (.string f1) ∧ w.cell? ⟨g, 2, none⟩ = some (.string f2) ∧ w.cell? ⟨g, 3, none⟩ = some (.string f3) ∧ w.cell? ⟨g, 4, none⟩ = some (.string f4) ∧ w.cell? ⟨g, 5, none⟩ = some (.string f5) ∧
  w.cell? ⟨g, 6, none⟩ = some (.int .i64 f6) ∧ w.cell? ⟨g, 7, none⟩ = some (.bool f7) ∧ w.cell? ⟨g, 8, none⟩ = some (.string c0) ∧ w.cell? ⟨g, 9, none⟩ = some (.string c1) ∧ w.cell? ⟨g, 10, none⟩ = some (.string c2) ∧
  w.cell? ⟨g, 11, none⟩ = some v9 ∧ w.cell? ⟨g, 12, none⟩ = some v10 ∧ w.cell? ⟨g, 13, none⟩ = some v11 ∧ w.cell? ⟨g, 14, none⟩ = some v12 ∧ w.cell? ⟨g, 15, none⟩ = some v13 :=
 ⟨(blk_cell h 0).trans rfl, (blk_cell h 1).trans rfl, (blk_cell h 2).trans rfl, (blk_cell h 3).trans rfl, (blk_cell h 4).trans rfl, (blk_cell h 5).trans rfl, (blk_cell h 6).trans rfl, (blk_cell h 7).trans rfl, (blk_cell h 8).trans rfl, (blk_cell h 9).trans rfl, (blk_cell h 10).trans rfl, (blk_cell h 11).trans rfl, (blk_cell h 12).trans rfl, (blk_cell h 13).trans rfl, (blk_cell h 14).trans rfl, (blk_cell h 15).trans rfl⟩
set_option maxHeartbeats 4000000 in
set_option maxRecDepth 100000 in
theorem named_walk (f0 f1 f2 f3 f4 f5 : ByteArray) (f6 : Int) (f7 : Bool) (c0 c1 c2 : ByteArray) (A9 A10 A11 A12 A13 : Option Addr) (l9 n9 l10 n10 l11 n11 l12 n12 l13 n13 : Nat) (r : ByteArray) (w : World)
  (hof : ∀ W : World, Below w.heap.size w W → Calls Tryd.prog 9 #[.agg (ec f0 f1 f2 f3 f4 f5 f6 f7 c0 c1 c2 (.slice A9 l9 n9) (.slice A10 l10 n10) (.slice A11 l11 n11) (.slice A12 l12 n12) (.slice A13 l13 n13))] W fun e w' => e = .returned (.string r) ∧ Below W.heap.size W w') :
  Calls Tryd.prog 13 #[.agg (ec f0 f1 f2 f3 f4 f5 f6 f7 c0 c1 c2 (.slice A9 l9 n9) (.slice A10 l10 n10) (.slice A11 l11 n11) (.slice A12 l12 n12) (.slice A13 l13 n13))] w fun e w' =>
   e = .returned (.agg (ec r f1 f2 f3 f4 f5 f6 f7 c0 c1 c2 (.slice A9 l9 n9) (.slice A10 l10 n10) (.slice A11 l11 n11) (.slice A12 l12 n12) (.slice A13 l13 n13))) ∧ Below w.heap.size w w' := by
 have HO := Aside0.mk hof
 clear hof
 have hu := Tryd.underlying30
 have hi : (Tryd.prog.info? 30).map (·.size) = some 16 := by kernel_rfl
 obtain ⟨BK, BZ, HB⟩ := boxes2 w (ec f0 f1 f2 f3 f4 f5 f6 f7 c0 c1 c2 (.slice A9 l9 n9) (.slice A10 l10 n10) (.slice A11 l11 n11) (.slice A12 l12 n12) (.slice A13 l13 n13)) ez 30
 go_enter Tryd.func13, Tryd.ntmps13
 obtain ⟨h0, h1, h2, h3, h4, h5, h6, h7, h8, h9, h10, h11, h12, h13, h14, h15⟩ := ec_cells BK.out
 go_wp2_with fail
 clear h0 h1 h2 h3 h4 h5 h6 h7 h8 h9 h10 h11 h12 h13 h14 h15
 refine (HO.out _ HB.out).mono ?_
 rintro e w1 ⟨rfl, hb⟩
 replace BK := Aside0.mk (blk_bel BK.out hb)
 have hq0 := (blk_cell BK.out 0).trans rfl
 have hfz := blk_frozen BK.out 0
 replace BK := Aside0.mk (blk_put BK.out 0 (.string r) rfl)
 replace BZ := Aside0.mk (blk_far (blk_bel BZ.out hb) (p := ⟨w.heap.size, 0, none⟩) (by simp) (.string r))
 replace HB := Aside0.mk ((HB.out.trans (hb.mono HB.out.size)).setCell (p := ⟨w.heap.size, 0, none⟩) (Nat.le_refl _) (.string r))
 clear hb
 obtain ⟨h0, h1, h2, h3, h4, h5, h6, h7, h8, h9, h10, h11, h12, h13, h14, h15⟩ := ec_cells BK.out
 go_wp2_with ((with_reducible refine gate_store (t := 30) (p := 2) rfl ?_); refine wpList_store_row rfl 30 (.tmp 2) (.tmp 6) rfl (w.heap.size + 1) (ec r f1 f2 f3 f4 f5 f6 f7 c0 c1 c2 (.slice A9 l9 n9) (.slice A10 l10 n10) (.slice A11 l11 n11) (.slice A12 l12 n12) (.slice A13 l13 n13)) rfl rfl 30 _ BZ.out hi rfl (ec_one _ _ _ _ _ _ _ _ _ _ _ _ _ _ _ _ _ _ _ _ _ _ _ _ _ _) ?_)
 have BR := Aside0.mk (setRow_heap _ _ _ (ec r f1 f2 f3 f4 f5 f6 f7 c0 c1 c2 (.slice A9 l9 n9) (.slice A10 l10 n10) (.slice A11 l11 n11) (.slice A12 l12 n12) (.slice A13 l13 n13)) _ _ BZ.out)
 have HBR := Aside0.mk (below_setRow HB.out (show w.heap.size ≤ w.heap.size + 1 by omega) (ec r f1 f2 f3 f4 f5 f6 f7 c0 c1 c2 (.slice A9 l9 n9) (.slice A10 l10 n10) (.slice A11 l11 n11) (.slice A12 l12 n12) (.slice A13 l13 n13)))
 clear h0 h1 h2 h3 h4 h5 h6 h7 h8 h9 h10 h11 h12 h13 h14 h15
 refine bodyPost_ret (v := ?v1x) ?hv1x ?dv1x ?_
 case hv1x => refine results_cell_row (p := 2) (ty := 30) ?_ _ _ (w.heap.size + 1) 30 (ec r f1 f2 f3 f4 f5 f6 f7 c0 c1 c2 (.slice A9 l9 n9) (.slice A10 l10 n10) (.slice A11 l11 n11) (.slice A12 l12 n12) (.slice A13 l13 n13)) (0, 0) _ ?_ BR.out hu rfl hi <;> rfl
 case dv1x => rfl
 exact ⟨rfl, HBR.out⟩
def namedR (x : S30) : S30 := { x with f0 := ofR x }
end Go.Proofs.YtihaeeldgimdiaaDoor.X
