/- url.Bare (printed by a program of ours, xprint.py), url.May and UrlBack: what a call of each does. -/
import Derived.Test.YtenikjnnpbgaoaaDoorX0
import Derived.Test.YtenikjnnpbgaoaaDoorH0
import Derived.Test.YtenikjnnpbgaoaaDoorH5
import Derived.Test.YtenikjnnpbgaoaaDoorPq
namespace Go.Proofs.YtenikjnnpbgaoaaDoor.X
open Go.RowKit Go.Proofs.YtenikjnnpbgaoaaDoorW.PrintWords Go.Proofs.YtenikjnnpbgaoaaDoorW.PrintLast Go.Proofs.YtenikjnnpbgaoaaDoorW.PrintMore
attribute [local go_sem] max2_int min2_int max_two min_two max_three min_three max_four min_four   -- for this text's walks alone
set_option linter.unusedVariables false
set_option linter.unusedSimpArgs false

/-! ### url_Bare: function 14 -/
def url_Bare.f (a0_0 : ByteArray) (a0_1 : ByteArray) (a0_2 : Int) (a0_3 : ByteArray) (a0_4 : ByteArray) (a0_5 : ByteArray) (a0_6 : Bool) (a0_7 : Bool) : Option (ByteArray × ByteArray × Int × ByteArray × ByteArray × ByteArray × Bool × Bool) := some (a0_0, a0_1, a0_2, a0_3, a0_4, (⟨#[]⟩ : ByteArray), a0_6, false)
set_option maxHeartbeats 8000000 in
set_option maxRecDepth 100000 in
theorem url_Bare.calls (a0_0 : ByteArray) (a0_1 : ByteArray) (a0_2 : Int) (a0_3 : ByteArray) (a0_4 : ByteArray) (a0_5 : ByteArray) (a0_6 : Bool) (a0_7 : Bool) (r1 : ByteArray) (r2 : ByteArray) (r3 : Int) (r4 : ByteArray) (r5 : ByteArray) (r6 : ByteArray) (r7 : Bool) (r8 : Bool) (w : World) (hE : EnvOk w) (h : url_Bare.f a0_0 a0_1 a0_2 a0_3 a0_4 a0_5 a0_6 a0_7 = some (r1, r2, r3, r4, r5, r6, r7, r8)) :
    Calls Tryd.prog 14 #[.agg #[.string a0_0, .string a0_1, .int .i64 a0_2, .string a0_3, .string a0_4, .string a0_5, .bool a0_6, .bool a0_7]] w fun e w' => e = .returned (.agg #[.string r1, .string r2, .int .i64 r3, .string r4, .string r5, .string r6, .bool r7, .bool r8]) ∧ Below w.heap.size w w' := by
  have hu26 := Tryd.underlying26
  have HE := Aside0.mk hE
  clear hE
  have HB := Aside0.mk (Below.refl w.heap.size w)
  have H : (some (a0_0, a0_1, a0_2, a0_3, a0_4, (⟨#[]⟩ : ByteArray), a0_6, false)) = some (r1, r2, r3, r4, r5, r6, r7, r8) := h
  clear h
  simp only [Option.some.injEq, Prod.mk.injEq] at H
  obtain ⟨rfl, rfl, rfl, rfl, rfl, rfl, rfl, rfl⟩ := H
  go_enter Tryd.func14, Tryd.ntmps14
  go_wp2_with (first | ((with_reducible refine gate_dst (N := 1) rfl ?_); refine box_event ?hg (N := 1) ?hd (cs := #[.string a0_0, .string a0_1, .int .i64 a0_2, .string a0_3, .string a0_4, .string a0_5, .bool a0_6, .bool a0_7]) (t := 26) ?hr ?_; (case hd => rfl); (case hg => rfl); (case hr => first | (go_simp; done) | (go_simp; rfl)); intro gb150 hg w2 hbox hb; have n0_ := Aside0.mk (below_step (by repeat (first | (with_reducible first | exact HB.out | apply below_alloc | apply pw_below_drewN | apply below_drew1) | exact HB.out)) hb); have n1_ := Aside0.mk (hbox); have n2_ := Aside0.mk ((by rw [hg]; exact (below_size (by repeat (first | (with_reducible first | exact HB.out | apply below_alloc | apply pw_below_drewN | apply below_drew1) | exact HB.out))) : w.heap.size ≤ gb150)); have n3_ := Aside0.mk ((by rw [hg]; exact (below_size (by repeat (first | (with_reducible first | exact HB.out | apply below_alloc | apply pw_below_drewN | apply below_drew1) | exact HB.out))) : w.heap.size ≤ gb150)); clear HB; have HB := n0_; have BK150 := n1_; have GW150 := n2_; have GE150 := n3_; clear n0_ n1_ n2_ n3_; clear hb hbox hg) | ((with_reducible refine gate_dst (N := 2) rfl ?_); refine box_event ?hg (N := 2) ?hd (cs := #[.string (⟨#[]⟩ : ByteArray), .string (⟨#[]⟩ : ByteArray), .int .i64 0, .string (⟨#[]⟩ : ByteArray), .string (⟨#[]⟩ : ByteArray), .string (⟨#[]⟩ : ByteArray), .bool false, .bool false]) (t := 26) ?hr ?_; (case hd => rfl); (case hg => rfl); (case hr => first | (go_simp; done) | (go_simp; rfl)); intro gb151 hg w3 hbox hb; have n0_ := Aside0.mk (blk_below (g := gb150) (o := .cells #[.string a0_0, .string a0_1, .int .i64 a0_2, .string a0_3, .string a0_4, .string a0_5, .bool a0_6, .bool a0_7] 26 (0, 0)) (by (with_reducible repeat (first | refine blk_drewN ?_ _ | refine blk_drew ?_ | refine blk_alloc ?_ _)); exact BK150.out) hb); have n1_ := Aside0.mk (below_step (by repeat (first | (with_reducible first | exact HB.out | apply below_alloc | apply pw_below_drewN | apply below_drew1 | refine below_set ?_ GE150.out) | exact HB.out)) hb); have n2_ := Aside0.mk (hbox); have n3_ := Aside0.mk ((by rw [hg]; exact (below_size (by repeat (first | (with_reducible first | exact HB.out | apply below_alloc | apply pw_below_drewN | apply below_drew1 | refine below_set ?_ GE150.out) | exact HB.out))) : w.heap.size ≤ gb151)); have n4_ := Aside0.mk ((by rw [hg]; exact (below_size (by repeat (first | (with_reducible first | exact HB.out | apply below_alloc | apply pw_below_drewN | apply below_drew1 | refine below_set ?_ GE150.out) | exact HB.out))) : w.heap.size ≤ gb151)); have n5_ := Aside0.mk ((by rw [hg]; exact Nat.ne_of_lt (blk_lt (g := gb150) (o := .cells #[.string a0_0, .string a0_1, .int .i64 a0_2, .string a0_3, .string a0_4, .string a0_5, .bool a0_6, .bool a0_7] 26 (0, 0)) (by (with_reducible repeat (first | refine blk_drewN ?_ _ | refine blk_drew ?_ | refine blk_alloc ?_ _)); exact BK150.out)) : gb150 ≠ gb151)); have n6_ := Aside0.mk ((by rw [hg]; exact Nat.ne_of_gt (blk_lt (g := gb150) (o := .cells #[.string a0_0, .string a0_1, .int .i64 a0_2, .string a0_3, .string a0_4, .string a0_5, .bool a0_6, .bool a0_7] 26 (0, 0)) (by (with_reducible repeat (first | refine blk_drewN ?_ _ | refine blk_drew ?_ | refine blk_alloc ?_ _)); exact BK150.out)) : gb151 ≠ gb150)); clear BK150; clear HB; have BK150 := n0_; have HB := n1_; have BK151 := n2_; have GW151 := n3_; have GE151 := n4_; have NB150_151 := n5_; have NB151_150 := n6_; clear n0_ n1_ n2_ n3_ n4_ n5_ n6_; clear hb hbox hg; have hnb4 := NB150_151.out; have hnc4 := NB151_150.out; have hcz5_0 : w3.cell? ⟨gb150, 0, none⟩ = some (.string a0_0) := (blk_cell BK150.out 0).trans rfl; have hcz5_1 : w3.cell? ⟨gb150, 1, none⟩ = some (.string a0_1) := (blk_cell BK150.out 1).trans rfl; have hcz5_2 : w3.cell? ⟨gb150, 2, none⟩ = some (.int .i64 a0_2) := (blk_cell BK150.out 2).trans rfl; have hcz5_3 : w3.cell? ⟨gb150, 3, none⟩ = some (.string a0_3) := (blk_cell BK150.out 3).trans rfl; have hcz5_4 : w3.cell? ⟨gb150, 4, none⟩ = some (.string a0_4) := (blk_cell BK150.out 4).trans rfl; have hcz5_5 : w3.cell? ⟨gb150, 5, none⟩ = some (.string a0_5) := (blk_cell BK150.out 5).trans rfl; have hcz5_6 : w3.cell? ⟨gb150, 6, none⟩ = some (.bool a0_6) := (blk_cell BK150.out 6).trans rfl; have hcz5_7 : w3.cell? ⟨gb150, 7, none⟩ = some (.bool a0_7) := (blk_cell BK150.out 7).trans rfl; have hfz5_0 := blk_frozen BK150.out 0; have hfz5_1 := blk_frozen BK150.out 1; have hfz5_2 := blk_frozen BK150.out 2; have hfz5_3 := blk_frozen BK150.out 3; have hfz5_4 := blk_frozen BK150.out 4; have hfz5_5 := blk_frozen BK150.out 5; have hfz5_6 := blk_frozen BK150.out 6; have hfz5_7 := blk_frozen BK150.out 7; have hcz6_0 : w3.cell? ⟨gb151, 0, none⟩ = some (.string (⟨#[]⟩ : ByteArray)) := (blk_cell BK151.out 0).trans rfl; have hcz6_1 : w3.cell? ⟨gb151, 1, none⟩ = some (.string (⟨#[]⟩ : ByteArray)) := (blk_cell BK151.out 1).trans rfl; have hcz6_2 : w3.cell? ⟨gb151, 2, none⟩ = some (.int .i64 0) := (blk_cell BK151.out 2).trans rfl; have hcz6_3 : w3.cell? ⟨gb151, 3, none⟩ = some (.string (⟨#[]⟩ : ByteArray)) := (blk_cell BK151.out 3).trans rfl; have hcz6_4 : w3.cell? ⟨gb151, 4, none⟩ = some (.string (⟨#[]⟩ : ByteArray)) := (blk_cell BK151.out 4).trans rfl; have hcz6_5 : w3.cell? ⟨gb151, 5, none⟩ = some (.string (⟨#[]⟩ : ByteArray)) := (blk_cell BK151.out 5).trans rfl; have hcz6_6 : w3.cell? ⟨gb151, 6, none⟩ = some (.bool false) := (blk_cell BK151.out 6).trans rfl; have hcz6_7 : w3.cell? ⟨gb151, 7, none⟩ = some (.bool false) := (blk_cell BK151.out 7).trans rfl; have hfz6_0 := blk_frozen BK151.out 0; have hfz6_1 := blk_frozen BK151.out 1; have hfz6_2 := blk_frozen BK151.out 2; have hfz6_3 := blk_frozen BK151.out 3; have hfz6_4 := blk_frozen BK151.out 4; have hfz6_5 := blk_frozen BK151.out 5; have hfz6_6 := blk_frozen BK151.out 6; have hfz6_7 := blk_frozen BK151.out 7))
  refine bodyPost_ret (results_cell_row rfl _ _ gb151 26 #[.string a0_0, .string a0_1, .int .i64 a0_2, .string a0_3, .string a0_4, .string (⟨#[]⟩ : ByteArray), .bool a0_6, .bool false] (0, 0) _ rfl (by (with_reducible repeat (first | refine blk_drewN ?_ _ | refine blk_drew ?_ | refine blk_alloc ?_ _)); refine blk_put (cs := #[.string a0_0, .string a0_1, .int .i64 a0_2, .string a0_3, .string a0_4, .string (⟨#[]⟩ : ByteArray), .bool a0_6, .bool false]) ?_ 7 _ rfl; (with_reducible repeat (first | refine blk_drewN ?_ _ | refine blk_drew ?_ | refine blk_alloc ?_ _)); refine blk_put (cs := #[.string a0_0, .string a0_1, .int .i64 a0_2, .string a0_3, .string a0_4, .string (⟨#[]⟩ : ByteArray), .bool false, .bool false]) ?_ 6 _ rfl; (with_reducible repeat (first | refine blk_drewN ?_ _ | refine blk_drew ?_ | refine blk_alloc ?_ _)); refine blk_put (cs := #[.string a0_0, .string a0_1, .int .i64 a0_2, .string a0_3, .string a0_4, .string (⟨#[]⟩ : ByteArray), .bool false, .bool false]) ?_ 5 _ rfl; (with_reducible repeat (first | refine blk_drewN ?_ _ | refine blk_drew ?_ | refine blk_alloc ?_ _)); refine blk_put (cs := #[.string a0_0, .string a0_1, .int .i64 a0_2, .string a0_3, .string (⟨#[]⟩ : ByteArray), .string (⟨#[]⟩ : ByteArray), .bool false, .bool false]) ?_ 4 _ rfl; (with_reducible repeat (first | refine blk_drewN ?_ _ | refine blk_drew ?_ | refine blk_alloc ?_ _)); refine blk_put (cs := #[.string a0_0, .string a0_1, .int .i64 a0_2, .string (⟨#[]⟩ : ByteArray), .string (⟨#[]⟩ : ByteArray), .string (⟨#[]⟩ : ByteArray), .bool false, .bool false]) ?_ 3 _ rfl; (with_reducible repeat (first | refine blk_drewN ?_ _ | refine blk_drew ?_ | refine blk_alloc ?_ _)); refine blk_put (cs := #[.string a0_0, .string a0_1, .int .i64 0, .string (⟨#[]⟩ : ByteArray), .string (⟨#[]⟩ : ByteArray), .string (⟨#[]⟩ : ByteArray), .bool false, .bool false]) ?_ 2 _ rfl; (with_reducible repeat (first | refine blk_drewN ?_ _ | refine blk_drew ?_ | refine blk_alloc ?_ _)); refine blk_put (cs := #[.string a0_0, .string (⟨#[]⟩ : ByteArray), .int .i64 0, .string (⟨#[]⟩ : ByteArray), .string (⟨#[]⟩ : ByteArray), .string (⟨#[]⟩ : ByteArray), .bool false, .bool false]) ?_ 1 _ rfl; (with_reducible repeat (first | refine blk_drewN ?_ _ | refine blk_drew ?_ | refine blk_alloc ?_ _)); refine blk_put (cs := #[.string (⟨#[]⟩ : ByteArray), .string (⟨#[]⟩ : ByteArray), .int .i64 0, .string (⟨#[]⟩ : ByteArray), .string (⟨#[]⟩ : ByteArray), .string (⟨#[]⟩ : ByteArray), .bool false, .bool false]) ?_ 0 _ rfl; (with_reducible repeat (first | refine blk_drewN ?_ _ | refine blk_drew ?_ | refine blk_alloc ?_ _)); refine blk_far ?_ NB151_150.out _; (with_reducible repeat (first | refine blk_drewN ?_ _ | refine blk_drew ?_ | refine blk_alloc ?_ _)); refine blk_far ?_ NB151_150.out _; (with_reducible repeat (first | refine blk_drewN ?_ _ | refine blk_drew ?_ | refine blk_alloc ?_ _)); exact BK151.out) Tryd.underlying26 rfl (by kernel_rfl)) rfl ?_
  exact ⟨by first | rfl | (simp [errW_none, errW_some] <;> rfl) | (simp [*, errW_none, errW_some] <;> rfl), by repeat (first | (with_reducible first | exact HB.out | apply below_alloc | apply pw_below_drewN | apply below_drew1 | refine below_set ?_ GE150.out | refine below_set ?_ GE151.out) | exact HB.out)⟩


end Go.Proofs.YtenikjnnpbgaoaaDoor.X

namespace Go.Proofs.YtenikjnnpbgaoaaDoor.X
open Go.RowKit Go.Lib Go.Shelf Go.Proofs.YtenikjnnpbgaoaaDoorW.PrintWords Go.Proofs.YtenikjnnpbgaoaaDoorW.PrintLast Go.Proofs.YtenikjnnpbgaoaaDoorW.PrintMore
set_option linter.unusedVariables false
set_option linter.unusedSimpArgs false

abbrev urlCells (u1 u2 : ByteArray) (u3 : Int) (u4 u5 u6 : ByteArray) (u7 u8 : Bool) : Array Value := #[.string u1, .string u2, .int .i64 u3, .string u4, .string u5, .string u6, .bool u7, .bool u8]
theorem eqSame (d : Nat) (w : World) (u1 u2 : ByteArray) (u3 : Int) (u4 u5 u6 : ByteArray) (u7 u8 : Bool) : (Op.equalIn (d + 2) 26 (.agg #[.string u1, .string u2, .int .i64 u3, .string u4, .string u5, .string u6, .bool u7, .bool u8]) (.agg #[.string u1, .string u2, .int .i64 u3, .string u4, .string u5, .string u6, .bool u7, .bool u8])).run Tryd.prog w = .ok true w := by
  rw [eqA26]
  simp only [beq_self_eq_true, Bool.and_self]
attribute [local go_sem high] eqSame

set_option maxHeartbeats 8000000 in
set_option maxRecDepth 100000 in
theorem may_true (k : Nat) (t : ByteArray) (u1 u2 : ByteArray) (u3 : Int) (u4 u5 u6 : ByteArray) (u7 u8 : Bool) (w : World) (hE : EnvOk w)
    (hs : url_String.f k u1 u2 u3 u4 u5 u6 u7 u8 = some t) (hp : url_Parse.f k t = some (u1, u2, u3, u4, u5, u6, u7, u8, 0)) :
    Calls Tryd.prog 13 #[.agg #[.string u1, .string u2, .int .i64 u3, .string u4, .string u5, .string u6, .bool u7, .bool u8]] w fun e w' => e = .returned (.bool true) ∧ Below w.heap.size w w' := by
  have HE := Aside0.mk hE
  have HS := Aside0.mk hs
  have HP := Aside0.mk hp
  have hu26 := Tryd.underlying26
  have hi26 : (Tryd.prog.info? 26).map (·.size) = some 8 := by kernel_rfl
  have hbk := heap_alloc_new w (.cells (urlCells u1 u2 u3 u4 u5 u6 u7 u8) 26)
  have HB0 := Aside0.mk ((Below.refl w.heap.size w).alloc (Nat.le_refl _) (.cells (urlCells u1 u2 u3 u4 u5 u6 u7 u8) 26))
  have BK0 := Aside0.mk hbk
  have hc0 := (blk_cell hbk 0).trans rfl
  have hc1 := (blk_cell hbk 1).trans rfl
  have hc2 := (blk_cell hbk 2).trans rfl
  have hc3 := (blk_cell hbk 3).trans rfl
  have hc4 := (blk_cell hbk 4).trans rfl
  have hc5 := (blk_cell hbk 5).trans rfl
  have hc6 := (blk_cell hbk 6).trans rfl
  have hc7 := (blk_cell hbk 7).trans rfl
  clear hE hs hp hbk
  go_enter Tryd.func13, Tryd.ntmps13
  go_wp2_with fail
  clear hc0 hc1 hc2 hc3 hc4 hc5 hc6 hc7
  refine (url_String.calls k _ _ _ _ _ _ _ _ _ _ (HE.out.below HB0.out) HS.out).mono ?_
  rintro e w2 ⟨rfl, hb⟩
  have HB2 := Aside0.mk (HB0.out.trans (hb.mono HB0.out.size))
  have BK2 := Aside0.mk (blk_bel BK0.out hb)
  clear hb
  go_wp2_with fail
  refine (url_Parse.calls k _ _ _ _ _ _ _ _ _ _ _ (HE.out.below HB2.out) HP.out).mono ?_
  rintro e w3 ⟨rfl, hb⟩
  have HB3 := Aside0.mk (HB2.out.trans (hb.mono HB2.out.size))
  have BK3 := Aside0.mk (blk_bel BK2.out hb)
  have HLT := Aside0.mk (show w.heap.size < w3.heap.size from (Array.getElem?_eq_some_iff.1 BK3.out).1)
  have HZ := Aside0.mk (heap_alloc_new w3 (.cells urlZ 26))
  have HBZ := Aside0.mk (HB3.out.alloc HB3.out.size (.cells urlZ 26))
  have HG := Aside0.mk HB3.out.size
  have BK3a := Aside0.mk (blk_alloc BK3.out (.cells urlZ 26))
  clear hb
  go_wp2_with (refine wpList_store_row rfl 26 (.tmp 3) (.tmp 9) rfl w3.heap.size (urlCells u1 u2 u3 u4 u5 u6 u7 u8) rfl rfl 26 _ HZ.out hi26 rfl (url_one _ _ _ _ _ _ _ _) ?_
               have hbk := setRow_heap _ _ _ (urlCells u1 u2 u3 u4 u5 u6 u7 u8) _ _ HZ.out
               have hbk4 := (setRow_other (w3.alloc (.cells urlZ 26)) w3.heap.size w.heap.size (urlCells u1 u2 u3 u4 u5 u6 u7 u8) (Nat.ne_of_lt HLT.out)).trans BK3a.out
               have HBX := Aside0.mk (below_setRow HBZ.out HG.out (urlCells u1 u2 u3 u4 u5 u6 u7 u8))
               generalize (w3.alloc (.cells urlZ 26)).setRow w3.heap.size (urlCells u1 u2 u3 u4 u5 u6 u7 u8) = w6 at hbk hbk4 HBX ⊢
               have HB6 := Aside0.mk HBX.out
               clear HBX
               have hc0 := (blk_cell hbk 0).trans rfl
               have hc1 := (blk_cell hbk 1).trans rfl
               have hc2 := (blk_cell hbk 2).trans rfl
               have hc3 := (blk_cell hbk 3).trans rfl
               have hc4 := (blk_cell hbk 4).trans rfl
               have hc5 := (blk_cell hbk 5).trans rfl
               have hc6 := (blk_cell hbk 6).trans rfl
               have hc7 := (blk_cell hbk 7).trans rfl
               have hd0 := (blk_cell hbk4 0).trans rfl
               have hd1 := (blk_cell hbk4 1).trans rfl
               have hd2 := (blk_cell hbk4 2).trans rfl
               have hd3 := (blk_cell hbk4 3).trans rfl
               have hd4 := (blk_cell hbk4 4).trans rfl
               have hd5 := (blk_cell hbk4 5).trans rfl
               have hd6 := (blk_cell hbk4 6).trans rfl
               have hd7 := (blk_cell hbk4 7).trans rfl
               clear hbk hbk4)
  go_ret
  exact ⟨rfl, HB6.out⟩

theorem cells8 {W : World} {b : Nat} {u1 u2 : ByteArray} {u3 : Int} {u4 u5 u6 : ByteArray} {u7 u8 : Bool} (h : W.heap[b]? = some (.cells (urlCells u1 u2 u3 u4 u5 u6 u7 u8) 26 (0, 0))) :
    W.cell? ⟨b, 0, none⟩ = some (.string u1) ∧ W.cell? ⟨b, 1, none⟩ = some (.string u2) ∧ W.cell? ⟨b, 2, none⟩ = some (.int .i64 u3) ∧ W.cell? ⟨b, 3, none⟩ = some (.string u4) ∧ W.cell? ⟨b, 4, none⟩ = some (.string u5) ∧ W.cell? ⟨b, 5, none⟩ = some (.string u6) ∧ W.cell? ⟨b, 6, none⟩ = some (.bool u7) ∧ W.cell? ⟨b, 7, none⟩ = some (.bool u8) :=
  ⟨(blk_cell h 0).trans rfl, (blk_cell h 1).trans rfl, (blk_cell h 2).trans rfl, (blk_cell h 3).trans rfl, (blk_cell h 4).trans rfl, (blk_cell h 5).trans rfl, (blk_cell h 6).trans rfl, (blk_cell h 7).trans rfl⟩

set_option maxHeartbeats 8000000 in
set_option maxRecDepth 100000 in
theorem urlBack_long (k : Nat) (a0 : ByteArray) (w : World) (hE : EnvOk w) (hl : cringlelaw04_long.f a0 = some true) (ha : aliveAt k) :
    Calls Tryd.prog 6 #[.string a0] w fun e w' => e = .returned (.bool true) ∧ Below w.heap.size w w' := by
  have HE := Aside0.mk hE
  have HL := Aside0.mk hl
  have HA := Aside0.mk ha
  clear hE hl ha
  go_enter Tryd.func6, Tryd.ntmps6
  go_wp2_with fail
  refine (cringlelaw04_long.calls a0 true _ HE.out HL.out).mono ?_
  rintro e w1 ⟨rfl, hd1⟩
  have HB1 := Aside0.mk hd1.below
  clear hd1
  go_wp2_with fail
  refine (alive_calls k _ (HE.out.below HB1.out) HA.out).mono ?_
  rintro e w2 ⟨rfl, hb⟩
  have HB2 := Aside0.mk (HB1.out.trans (hb.mono HB1.out.size))
  clear hb
  go_wp2_with fail
  go_ret
  exact ⟨rfl, HB2.out⟩

set_option maxHeartbeats 8000000 in
set_option maxRecDepth 100000 in
theorem urlBack_err (k : Nat) (a0 : ByteArray) (u9 : Int) (w : World) (hE : EnvOk w) (hl : cringlelaw04_long.f a0 = some false) (ha : aliveAt k)
    (hp : url_Parse.f k a0 = some (⟨#[]⟩, ⟨#[]⟩, 0, ⟨#[]⟩, ⟨#[]⟩, ⟨#[]⟩, false, false, u9)) (hne : ¬ u9 = 0) :
    Calls Tryd.prog 6 #[.string a0] w fun e w' => e = .returned (.bool true) ∧ Below w.heap.size w w' := by
  have HE := Aside0.mk hE
  have HL := Aside0.mk hl
  have HA := Aside0.mk ha
  have HP := Aside0.mk hp
  have hd : decide (u9 = 0) = false := decide_eq_false hne
  have hu26 := Tryd.underlying26
  have hi26 : (Tryd.prog.info? 26).map (·.size) = some 8 := by kernel_rfl
  clear hE hl ha hp
  go_enter Tryd.func6, Tryd.ntmps6
  go_wp2_with fail
  refine (cringlelaw04_long.calls a0 false _ HE.out HL.out).mono ?_
  rintro e w1 ⟨rfl, hd1⟩
  have HB1 := Aside0.mk hd1.below
  clear hd1
  go_wp2_with fail
  refine (url_Parse.calls k a0 _ _ _ _ _ _ _ _ _ _ (HE.out.below HB1.out) HP.out).mono ?_
  rintro e w3 ⟨rfl, hb⟩
  have HB3 := Aside0.mk (HB1.out.trans (hb.mono HB1.out.size))
  have HZ := Aside0.mk (heap_alloc_new w3 (.cells urlZ 26))
  have HBZ := Aside0.mk (HB3.out.alloc HB3.out.size (.cells urlZ 26))
  have HG := Aside0.mk HB3.out.size
  clear hb
  go_wp2_with (refine wpList_store_row rfl 26 (.tmp 3) (.tmp 14) rfl w3.heap.size (urlCells ⟨#[]⟩ ⟨#[]⟩ 0 ⟨#[]⟩ ⟨#[]⟩ ⟨#[]⟩ false false) rfl rfl 26 _ HZ.out hi26 rfl (url_one _ _ _ _ _ _ _ _) ?_
               have hbk := setRow_heap _ _ _ (urlCells ⟨#[]⟩ ⟨#[]⟩ 0 ⟨#[]⟩ ⟨#[]⟩ ⟨#[]⟩ false false) _ _ HZ.out
               have HBX := Aside0.mk (below_setRow HBZ.out HG.out (urlCells ⟨#[]⟩ ⟨#[]⟩ 0 ⟨#[]⟩ ⟨#[]⟩ ⟨#[]⟩ false false))
               generalize (w3.alloc (.cells urlZ 26)).setRow w3.heap.size (urlCells ⟨#[]⟩ ⟨#[]⟩ 0 ⟨#[]⟩ ⟨#[]⟩ ⟨#[]⟩ false false) = w4 at hbk HBX ⊢
               have HB4 := Aside0.mk HBX.out
               obtain ⟨hc0, hc1, hc2, hc3, hc4, hc5, hc6, hc7⟩ := cells8 hbk
               clear HBX hbk)
  refine (alive_calls k _ (HE.out.below HB4.out) HA.out).mono ?_
  rintro e w8 ⟨rfl, hb⟩
  have HB8 := Aside0.mk (HB4.out.trans (hb.mono HB4.out.size))
  clear hb
  go_wp2_with fail
  go_ret
  exact ⟨rfl, HB8.out⟩

set_option maxHeartbeats 8000000 in
set_option maxRecDepth 100000 in
theorem urlBack_ok (k : Nat) (a0 t tb : ByteArray) (u1 u2 : ByteArray) (u3 : Int) (u4 u5 u6 : ByteArray) (u7 u8 : Bool) (w : World) (hE : EnvOk w) (hl : cringlelaw04_long.f a0 = some false) (ha : aliveAt k)
    (hp : url_Parse.f k a0 = some (u1, u2, u3, u4, u5, u6, u7, u8, 0)) (hst : url_String.f k u1 u2 u3 u4 u5 u6 u7 u8 = some t) (hpt : url_Parse.f k t = some (u1, u2, u3, u4, u5, u6, u7, u8, 0)) (hz : t.size ≤ 2048)
    (hsb : url_String.f k u1 u2 u3 u4 u5 ⟨#[]⟩ u7 false = some tb) (hpb : url_Parse.f k tb = some (u1, u2, u3, u4, u5, ⟨#[]⟩, u7, false, 0)) :
    Calls Tryd.prog 6 #[.string a0] w fun e w' => e = .returned (.bool true) ∧ Below w.heap.size w w' := by
  have HE := Aside0.mk hE
  have HL := Aside0.mk hl
  have HA := Aside0.mk ha
  have HP := Aside0.mk hp
  have HST := Aside0.mk hst
  have HPT := Aside0.mk hpt
  have HSB := Aside0.mk hsb
  have HPB := Aside0.mk hpb
  have hzd : decide ((t.size : Int) ≤ 2048) = true := decide_eq_true (by omega)
  have hu26 := Tryd.underlying26
  have hi26 : (Tryd.prog.info? 26).map (·.size) = some 8 := by kernel_rfl
  clear hE hl ha hp hst hpt hsb hpb
  go_enter Tryd.func6, Tryd.ntmps6
  go_wp2_with fail
  refine (cringlelaw04_long.calls a0 false _ HE.out HL.out).mono ?_
  rintro e w1 ⟨rfl, hd1⟩
  have HB1 := Aside0.mk hd1.below
  clear hd1
  go_wp2_with fail
  refine (url_Parse.calls k a0 _ _ _ _ _ _ _ _ _ _ (HE.out.below HB1.out) HP.out).mono ?_
  rintro e w3 ⟨rfl, hb⟩
  have HB3 := Aside0.mk (HB1.out.trans (hb.mono HB1.out.size))
  have HZ := Aside0.mk (heap_alloc_new w3 (.cells urlZ 26))
  have HBZ := Aside0.mk (HB3.out.alloc HB3.out.size (.cells urlZ 26))
  have HG := Aside0.mk HB3.out.size
  clear hb
  go_wp2_with (refine wpList_store_row rfl 26 (.tmp 3) (.tmp 14) rfl w3.heap.size (urlCells u1 u2 u3 u4 u5 u6 u7 u8) rfl rfl 26 _ HZ.out hi26 rfl (url_one _ _ _ _ _ _ _ _) ?_
               have hbk := setRow_heap _ _ _ (urlCells u1 u2 u3 u4 u5 u6 u7 u8) _ _ HZ.out
               have HBX := Aside0.mk (below_setRow HBZ.out HG.out (urlCells u1 u2 u3 u4 u5 u6 u7 u8))
               generalize (w3.alloc (.cells urlZ 26)).setRow w3.heap.size (urlCells u1 u2 u3 u4 u5 u6 u7 u8) = w4 at hbk HBX ⊢
               have HB4 := Aside0.mk HBX.out
               have BK4 := Aside0.mk hbk
               obtain ⟨hc0, hc1, hc2, hc3, hc4, hc5, hc6, hc7⟩ := cells8 hbk
               clear HBX hbk)
  clear hc0 hc1 hc2 hc3 hc4 hc5 hc6 hc7
  refine (url_String.calls k _ _ _ _ _ _ _ _ _ _ (HE.out.below HB4.out) HST.out).mono ?_
  rintro e w5 ⟨rfl, hb⟩
  have HB5 := Aside0.mk (HB4.out.trans (hb.mono HB4.out.size))
  have BK5 := Aside0.mk (blk_bel BK4.out hb)
  clear hb
  go_wp2_with fail
  refine (url_Parse.calls k t _ _ _ _ _ _ _ _ _ _ (HE.out.below HB5.out) HPT.out).mono ?_
  rintro e w6 ⟨rfl, hb⟩
  have HB6 := Aside0.mk (HB5.out.trans (hb.mono HB5.out.size))
  have BK6 := Aside0.mk (blk_bel BK5.out hb)
  have HLT := Aside0.mk (show w3.heap.size < w6.heap.size from (Array.getElem?_eq_some_iff.1 BK6.out).1)
  have HZ6 := Aside0.mk (heap_alloc_new w6 (.cells urlZ 26))
  have HBZ6 := Aside0.mk (HB6.out.alloc HB6.out.size (.cells urlZ 26))
  have HG6 := Aside0.mk HB6.out.size
  have BK6a := Aside0.mk (blk_alloc BK6.out (.cells urlZ 26))
  clear hb
  go_wp2_with (refine wpList_store_row rfl 26 (.tmp 6) (.tmp 29) rfl w6.heap.size (urlCells u1 u2 u3 u4 u5 u6 u7 u8) rfl rfl 26 _ HZ6.out hi26 rfl (url_one _ _ _ _ _ _ _ _) ?_
               have hbk := setRow_heap _ _ _ (urlCells u1 u2 u3 u4 u5 u6 u7 u8) _ _ HZ6.out
               have hbk4 := (setRow_other (w6.alloc (.cells urlZ 26)) w6.heap.size w3.heap.size (urlCells u1 u2 u3 u4 u5 u6 u7 u8) (Nat.ne_of_lt HLT.out)).trans BK6a.out
               have HBX := Aside0.mk (below_setRow HBZ6.out HG6.out (urlCells u1 u2 u3 u4 u5 u6 u7 u8))
               generalize (w6.alloc (.cells urlZ 26)).setRow w6.heap.size (urlCells u1 u2 u3 u4 u5 u6 u7 u8) = w7 at hbk hbk4 HBX ⊢
               have HB7 := Aside0.mk HBX.out
               have BK7 := Aside0.mk hbk
               have BJ7 := Aside0.mk hbk4
               obtain ⟨hc0, hc1, hc2, hc3, hc4, hc5, hc6, hc7⟩ := cells8 hbk4
               clear HBX hbk hbk4)
  clear hc0 hc1 hc2 hc3 hc4 hc5 hc6 hc7
  refine (may_true k t _ _ _ _ _ _ _ _ _ (HE.out.below HB7.out) HST.out HPT.out).mono ?_
  rintro e w8 ⟨rfl, hb⟩
  have HB8 := Aside0.mk (HB7.out.trans (hb.mono HB7.out.size))
  have BK8 := Aside0.mk (blk_bel BK7.out hb)
  have BJ8 := Aside0.mk (blk_bel BJ7.out hb)
  clear hb
  obtain ⟨hc0, hc1, hc2, hc3, hc4, hc5, hc6, hc7⟩ := cells8 BK8.out
  obtain ⟨hj0, hj1, hj2, hj3, hj4, hj5, hj6, hj7⟩ := cells8 BJ8.out
  go_wp2_with fail
  clear hc0 hc1 hc2 hc3 hc4 hc5 hc6 hc7 hj0 hj1 hj2 hj3 hj4 hj5 hj6 hj7
  refine (url_String.calls k _ _ _ _ _ _ _ _ _ _ (HE.out.below HB8.out) HST.out).mono ?_
  rintro e w9 ⟨rfl, hb⟩
  have HB9 := Aside0.mk (HB8.out.trans (hb.mono HB8.out.size))
  have BJ9 := Aside0.mk (blk_bel BJ8.out hb)
  clear hb
  obtain ⟨hc0, hc1, hc2, hc3, hc4, hc5, hc6, hc7⟩ := cells8 BJ9.out
  go_wp2_with fail
  clear hc0 hc1 hc2 hc3 hc4 hc5 hc6 hc7
  refine (url_Bare.calls u1 u2 u3 u4 u5 u6 u7 u8 u1 u2 u3 u4 u5 ⟨#[]⟩ u7 false _ (HE.out.below HB9.out) rfl).mono ?_
  rintro e w10 ⟨rfl, hb⟩
  have HB10 := Aside0.mk (HB9.out.trans (hb.mono HB9.out.size))
  clear hb
  go_wp2_with fail
  refine (may_true k tb _ _ _ _ _ _ _ _ _ (HE.out.below HB10.out) HSB.out HPB.out).mono ?_
  rintro e w11 ⟨rfl, hb⟩
  have HB11 := Aside0.mk (HB10.out.trans (hb.mono HB10.out.size))
  clear hb
  go_wp2_with fail
  refine (alive_calls k _ (HE.out.below HB11.out) HA.out).mono ?_
  rintro e w12 ⟨rfl, hb⟩
  have HB12 := Aside0.mk (HB11.out.trans (hb.mono HB11.out.size))
  clear hb
  go_wp2_with fail
  go_ret
  exact ⟨rfl, HB12.out⟩
end Go.Proofs.YtenikjnnpbgaoaaDoor.X
