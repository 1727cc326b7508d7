/- ChannelHides: what a call of it does. -/
import Derived.Test.YtfmjnmglagdcdaaGreatDoorCHWords
import Derived.Test.YtfmjnmglagdcdaaGreatDoorCHCx
import Derived.Deep.QuietTactic
import Derived.BigQuiet
namespace Go.Proofs.YtfmjnmglagdcdaaGreatDoor.X
open Go.RowKit Go.Lib Go.Shelf Go.Yw.PrintWords Go.Yw.PrintLast Go.Yw.PrintMore
set_option linter.unusedVariables false
set_option linter.unusedSimpArgs false
theorem Ygb {P : Program} {ops : Array Oper} {rest : List Oper} {o : Oper} {a : Act} {Q : Exit → Act → World → Prop} {W : World} {t : TypeId} {x : Operand} (_ho : o.op = .load t x) (h : wpList P ops Q (o :: rest) a W) : wpList P ops Q (o :: rest) a W := h
def entU (u : ByteArray) : Array Value := #[.string ⟨#[]⟩, .string ⟨#[]⟩, .string ⟨#[]⟩, .string ⟨#[]⟩, .string ⟨#[]⟩, .string ⟨#[]⟩, .int .i64 0, .bool false, .string ⟨#[]⟩, .string u, .string ⟨#[]⟩, .slice none 0 0, .slice none 0 0, .slice none 0 0, .slice none 0 0, .slice none 0 0]
theorem Ybg {w : World} {g : Nat} {u : ByteArray} (h : w.heap[g]? = some (.cells (entU u) 30 (0, 0))) : w.cell? ⟨g, 0, none⟩ = some (.string ⟨#[]⟩) ∧ w.cell? ⟨g, 1, none⟩ = some (.string ⟨#[]⟩) ∧ w.cell? ⟨g, 2, none⟩ = some (.string ⟨#[]⟩) ∧ w.cell? ⟨g, 3, none⟩ = some (.string ⟨#[]⟩) ∧ w.cell? ⟨g, 4, none⟩ = some (.string ⟨#[]⟩) ∧ w.cell? ⟨g, 5, none⟩ = some (.string ⟨#[]⟩) ∧ w.cell? ⟨g, 6, none⟩ = some (.int .i64 0) ∧ w.cell? ⟨g, 7, none⟩ = some (.bool false) ∧ w.cell? ⟨g, 8, none⟩ = some (.string ⟨#[]⟩) ∧ w.cell? ⟨g, 9, none⟩ = some (.string u) ∧ w.cell? ⟨g, 10, none⟩ = some (.string ⟨#[]⟩) ∧ w.cell? ⟨g, 11, none⟩ = some (.slice none 0 0) ∧ w.cell? ⟨g, 12, none⟩ = some (.slice none 0 0) ∧ w.cell? ⟨g, 13, none⟩ = some (.slice none 0 0) ∧ w.cell? ⟨g, 14, none⟩ = some (.slice none 0 0) ∧ w.cell? ⟨g, 15, none⟩ = some (.slice none 0 0) := ⟨(Yf h 0).trans rfl, (Yf h 1).trans rfl, (Yf h 2).trans rfl, (Yf h 3).trans rfl, (Yf h 4).trans rfl, (Yf h 5).trans rfl, (Yf h 6).trans rfl, (Yf h 7).trans rfl, (Yf h 8).trans rfl, (Yf h 9).trans rfl, (Yf h 10).trans rfl, (Yf h 11).trans rfl, (Yf h 12).trans rfl, (Yf h 13).trans rfl, (Yf h 14).trans rfl, (Yf h 15).trans rfl⟩
set_option maxHeartbeats 8000000 in
set_option maxRecDepth 100000 in
theorem Yul (u v : ByteArray) (m b : Bool) (w : World) (hE : EnvOk w) (h : 2200 < u.size ∨ 2200 < v.size) :
  Calls Tryz.prog 3 #[.string u, .string v, .agg #[.bool m, .bool b]] w fun e w' => e = .returned (.bool true) ∧ Below w.heap.size w w' := by
 have hbx := (Below.refl w.heap.size w).alloc (Nat.le_refl _) (.cells #[.bool m, .bool b] 22)
 have HB := Ya.mk hbx
 have HE := Ya.mk hE
 clear hbx hE
 by_cases h1 : 2200 < u.size
 ·have d1 : decide ((u.size : Int) > 2200) = true := decide_eq_true Zk
  have d1b : decide (2200 < u.size) = true := decide_eq_true h1
  clear h h1
  go_enter Tryz.func3, Tryz.ntmps3
  go_wp2
  go_quiet (fail)
  go_wp2_with fail
  generalize hW : World.drewN _ _ = W0
  replace HB := Ya.mk (show Below w.heap.size w W0 by rw [← hW]; exact below_drewN' HB.out _)
  clear hW
  refine (Ykf _ (HE.out.below HB.out)).mono ?_
  rintro e wz ⟨rfl, hb⟩
  replace HB := Ya.mk (HB.out.trans (hb.mono HB.out.size))
  clear hb
  go_wp2
  go_ret
  exact ⟨rfl, HB.out⟩
 ·have h2 : 2200 < v.size := by omega
  have d1 : decide ((u.size : Int) > 2200) = false := decide_eq_false Zk
  have d2 : decide ((v.size : Int) > 2200) = true := decide_eq_true Zk
  clear h h1 h2
  go_enter Tryz.func3, Tryz.ntmps3
  go_wp2
  go_quiet (fail)
  go_wp2_with fail
  generalize hW : World.drewN _ _ = W0
  replace HB := Ya.mk (show Below w.heap.size w W0 by rw [← hW]; exact below_drewN' HB.out _)
  clear hW
  refine (Ykf _ (HE.out.below HB.out)).mono ?_
  rintro e wz ⟨rfl, hb⟩
  replace HB := Ya.mk (HB.out.trans (hb.mono HB.out.size))
  clear hb
  go_wp2
  go_ret
  exact ⟨rfl, HB.out⟩
set_option maxHeartbeats 8000000 in
set_option maxRecDepth 100000 in
theorem Ygp (u v : ByteArray) (b : Bool) (w : World) (hE : EnvOk w) (hus : u.size ≤ 2200) (hvs : v.size ≤ 2200) (hk : ¬ (keyP u).2 = 0) :
  Calls Tryz.prog 3 #[.string u, .string v, .agg #[.bool true, .bool b]] w fun e w' => e = .returned (.bool true) ∧ Below w.heap.size w w' := by
 have hbx := (Below.refl w.heap.size w).alloc (Nat.le_refl _) (.cells #[.bool true, .bool b] 22)
 have HB := Ya.mk hbx
 have HE := Ya.mk hE
 clear hbx hE
 have d1 : decide ((u.size : Int) > 2200) = false := decide_eq_false Zk
 have d2 : decide ((v.size : Int) > 2200) = false := decide_eq_false Zk
 have HU := Ya.mk (show u.size ≤ 1000000000 by omega)
 have HV := Ya.mk (show v.size ≤ 1000000000 by omega)
 clear hus hvs
 have HK := Ya.mk hk
 have hkb : ((keyP u).2 != 0) = true := bne_iff_ne.2 hk
 clear hk
 go_enter Tryz.func3, Tryz.ntmps3
 go_wp2
 go_quiet (fail)
 go_wp2_with fail
 generalize hW : World.drewN _ _ = W0
 replace HB := Ya.mk (show Below w.heap.size w W0 by rw [← hW]; exact below_drewN' HB.out _)
 have HE0 := Ya.mk (HE.out.below HB.out)
 clear hW
 refine (St.new (wb := W0) (T := fun _ => False) (Below.refl _ _) (fun k h => h.elim)).mono ?_
 rintro e w1 ⟨bb, rfl, hst, _⟩
 have HS := Ya.mk ((hst.alloc (.cells #[.string ⟨#[]⟩, .string ⟨#[]⟩, .string ⟨#[]⟩, .string ⟨#[]⟩, .string ⟨#[]⟩, .string ⟨#[]⟩, .int .i64 0, .bool false, .string ⟨#[]⟩, .string u, .string ⟨#[]⟩, .slice none 0 0, .slice none 0 0, .slice none 0 0, .slice none 0 0, .slice none 0 0] 30)).weak (T' := fun k => k = w1.heap.size) (fun k h => .inr h))
 have HT := Ya.mk (show w1.heap.size < (w1.alloc (.cells #[.string ⟨#[]⟩, .string ⟨#[]⟩, .string ⟨#[]⟩, .string ⟨#[]⟩, .string ⟨#[]⟩, .string ⟨#[]⟩, .int .i64 0, .bool false, .string ⟨#[]⟩, .string u, .string ⟨#[]⟩, .slice none 0 0, .slice none 0 0, .slice none 0 0, .slice none 0 0, .slice none 0 0] 30)).heap.size by rw [Yz]; omega)
 have HBE := Ya.mk (heap_alloc_new w1 (.cells #[.string ⟨#[]⟩, .string ⟨#[]⟩, .string ⟨#[]⟩, .string ⟨#[]⟩, .string ⟨#[]⟩, .string ⟨#[]⟩, .int .i64 0, .bool false, .string ⟨#[]⟩, .string u, .string ⟨#[]⟩, .slice none 0 0, .slice none 0 0, .slice none 0 0, .slice none 0 0, .slice none 0 0] 30))
 have HO := Ya.mk Yvg
 clear hst
 go_wp2_with fail
 generalize w1.alloc _ = w2 at HS HT HBE ⊢
 refine (St.add1 HS.out HO.out HE0.out (fun k h => by rw [show k = w1.heap.size from h]; exact HT.out) Zq u HU.out).mono ?_
 rw [Ynn HK.out]
 rintro e w3 ⟨s3, rfl, ho, hst⟩
 replace HBE := Ya.mk ((hst.2.1 _ rfl HT.out).trans HBE.out)
 replace HT := Ya.mk (Nat.lt_of_lt_of_le HT.out hst.2.2)
 replace HS := Ya.mk hst.1
 replace HO := Ya.mk ho
 clear hst ho
 go_wp2_with ((with_reducible refine Ygb (t := 30) (x := .tmp 11) rfl ?_); refine wpList_load_row rfl 30 (.tmp 11) rfl w1.heap.size rfl 30 #[.string ⟨#[]⟩, .string ⟨#[]⟩, .string ⟨#[]⟩, .string ⟨#[]⟩, .string ⟨#[]⟩, .string ⟨#[]⟩, .int .i64 0, .bool false, .string ⟨#[]⟩, .string u, .string ⟨#[]⟩, .slice none 0 0, .slice none 0 0, .slice none 0 0, .slice none 0 0, .slice none 0 0] (0, 0) _ HBE.out Tryz.underlying30 rfl Zg ?_)
 refine (St.hid HS.out HO.out HE0.out u HU.out (Ybb u) (Ybb u) _ Zja).mono ?_
 rw [show (decide (0 < (([] : List ByteArray).length : Int)) || decide (0 < (([] : List ByteArray).length : Int))) = false from rfl]
 rintro e wh ⟨rfl, hb⟩
 replace HBE := Ya.mk (Yua HBE.out hb)
 replace HT := Ya.mk (Nat.lt_of_lt_of_le HT.out hb.size)
 replace HS := Ya.mk (HS.out.below hb)
 clear hb
 go_wp2_with fail
 refine (Ykf _ (HE0.out.below HS.out.bel)).mono ?_
 rintro e wz ⟨rfl, hb⟩
 have HZ := Ya.mk (HB.out.trans ((HS.out.bel.trans (hb.mono HS.out.bel.size)).mono HB.out.size))
 clear hb
 go_wp2
 go_ret
 exact ⟨rfl, HZ.out⟩
set_option maxHeartbeats 8000000 in
set_option maxRecDepth 100000 in
theorem Ymo (u v : ByteArray) (w : World) (hE : EnvOk w) (hus : u.size ≤ 2200) (hvs : v.size ≤ 2200) (hk : ¬ (keyP u).2 = 0) :
  Calls Tryz.prog 3 #[.string u, .string v, .agg #[.bool false, .bool true]] w fun e w' => e = .returned (.bool true) ∧ Below w.heap.size w w' := by
 have hbx := (Below.refl w.heap.size w).alloc (Nat.le_refl _) (.cells #[.bool false, .bool true] 22)
 have HB := Ya.mk hbx
 have HE := Ya.mk hE
 clear hbx hE
 have d1 : decide ((u.size : Int) > 2200) = false := decide_eq_false Zk
 have d2 : decide ((v.size : Int) > 2200) = false := decide_eq_false Zk
 have HU := Ya.mk (show u.size ≤ 1000000000 by omega)
 have HV := Ya.mk (show v.size ≤ 1000000000 by omega)
 clear hus hvs
 have HK := Ya.mk hk
 have hkb : ((keyP u).2 != 0) = true := bne_iff_ne.2 hk
 clear hk
 go_enter Tryz.func3, Tryz.ntmps3
 go_wp2
 go_quiet (fail)
 go_wp2_with fail
 generalize hW : World.drewN _ _ = W0
 replace HB := Ya.mk (show Below w.heap.size w W0 by rw [← hW]; exact below_drewN' HB.out _)
 have HE0 := Ya.mk (HE.out.below HB.out)
 clear hW
 refine (St.new (wb := W0) (T := fun _ => False) (Below.refl _ _) (fun k h => h.elim)).mono ?_
 rintro e w1 ⟨bb, rfl, hst, _⟩
 have HS := Ya.mk ((hst.alloc (.cells #[.string ⟨#[]⟩, .string ⟨#[]⟩, .string ⟨#[]⟩, .string ⟨#[]⟩, .string ⟨#[]⟩, .string ⟨#[]⟩, .int .i64 0, .bool false, .string ⟨#[]⟩, .string u, .string ⟨#[]⟩, .slice none 0 0, .slice none 0 0, .slice none 0 0, .slice none 0 0, .slice none 0 0] 30)).weak (T' := fun k => k = w1.heap.size) (fun k h => .inr h))
 have HT := Ya.mk (show w1.heap.size < (w1.alloc (.cells #[.string ⟨#[]⟩, .string ⟨#[]⟩, .string ⟨#[]⟩, .string ⟨#[]⟩, .string ⟨#[]⟩, .string ⟨#[]⟩, .int .i64 0, .bool false, .string ⟨#[]⟩, .string u, .string ⟨#[]⟩, .slice none 0 0, .slice none 0 0, .slice none 0 0, .slice none 0 0, .slice none 0 0] 30)).heap.size by rw [Yz]; omega)
 have HBE := Ya.mk (heap_alloc_new w1 (.cells #[.string ⟨#[]⟩, .string ⟨#[]⟩, .string ⟨#[]⟩, .string ⟨#[]⟩, .string ⟨#[]⟩, .string ⟨#[]⟩, .int .i64 0, .bool false, .string ⟨#[]⟩, .string u, .string ⟨#[]⟩, .slice none 0 0, .slice none 0 0, .slice none 0 0, .slice none 0 0, .slice none 0 0] 30))
 have HO := Ya.mk Yvg
 clear hst
 go_wp2_with fail
 generalize w1.alloc _ = w2 at HS HT HBE ⊢
 refine (St.add2 HS.out HO.out HE0.out (fun k h => by rw [show k = w1.heap.size from h]; exact HT.out) Zq u HU.out).mono ?_
 rw [Ynn HK.out]
 rintro e w3 ⟨s3, rfl, ho, hst⟩
 replace HBE := Ya.mk ((hst.2.1 _ rfl HT.out).trans HBE.out)
 replace HT := Ya.mk (Nat.lt_of_lt_of_le HT.out hst.2.2)
 replace HS := Ya.mk hst.1
 replace HO := Ya.mk ho
 clear hst ho
 go_wp2_with ((with_reducible refine Ygb (t := 30) (x := .tmp 11) rfl ?_); refine wpList_load_row rfl 30 (.tmp 11) rfl w1.heap.size rfl 30 #[.string ⟨#[]⟩, .string ⟨#[]⟩, .string ⟨#[]⟩, .string ⟨#[]⟩, .string ⟨#[]⟩, .string ⟨#[]⟩, .int .i64 0, .bool false, .string ⟨#[]⟩, .string u, .string ⟨#[]⟩, .slice none 0 0, .slice none 0 0, .slice none 0 0, .slice none 0 0, .slice none 0 0] (0, 0) _ HBE.out Tryz.underlying30 rfl Zg ?_)
 refine (St.hid HS.out HO.out HE0.out u HU.out (Ybb u) (Ybb u) _ Zja).mono ?_
 rw [show (decide (0 < (([] : List ByteArray).length : Int)) || decide (0 < (([] : List ByteArray).length : Int))) = false from rfl]
 rintro e wh ⟨rfl, hb⟩
 replace HBE := Ya.mk (Yua HBE.out hb)
 replace HT := Ya.mk (Nat.lt_of_lt_of_le HT.out hb.size)
 replace HS := Ya.mk (HS.out.below hb)
 clear hb
 go_wp2_with fail
 refine (Ykf _ (HE0.out.below HS.out.bel)).mono ?_
 rintro e wz ⟨rfl, hb⟩
 have HZ := Ya.mk (HB.out.trans ((HS.out.bel.trans (hb.mono HS.out.bel.size)).mono HB.out.size))
 clear hb
 go_wp2
 go_ret
 exact ⟨rfl, HZ.out⟩
end Go.Proofs.YtfmjnmglagdcdaaGreatDoor.X
