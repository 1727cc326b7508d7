/- Printed by a program of ours: functions as plain Lean, and what a call of each does. -/
import Derived.Test.YtnmglnglbdpjjaaGreatDoorUjWords
import Derived.Test.YtnmglnglbdpjjaaGreatDoorUjX0
import Derived.Test.YtnmglnglbdpjjaaGreatDoorUjX1
import Derived.Test.YtnmglnglbdpjjaaGreatDoorUjX13
import Derived.Test.YtnmglnglbdpjjaaGreatDoorUjX14
import Derived.Test.YtnmglnglbdpjjaaGreatDoorUjH0e
import Derived.Test.YtnmglnglbdpjjaaGreatDoorUjH4
import Derived.Test.YtnmglnglbdpjjaaGreatDoorUjZw
namespace Go.Proofs.YtnmglnglbdpjjaaGreatDoor.X
open Go.RowKit Go.Yw.PrintWords Go.Yw.PrintLast Go.Yw.PrintMore
attribute [local go_sem] Yvd Yyd Yke Yme Yld Ykd Yud Ywd
set_option linter.unusedVariables false
set_option linter.unusedSimpArgs false
attribute [local go_sem high] eqA25
mutual
def Yoa.l0 : Nat → ByteArray → ByteArray → ByteArray → Int → ByteArray → ByteArray → ByteArray → Bool → Bool → Option (ByteArray × ByteArray × Int × ByteArray × ByteArray × ByteArray × Bool × Bool × Int)
 | 0, _, _, _, _, _, _, _, _, _ => none
 | k + 1, x6, x439000, x439001, x439002, x439003, x439004, x439005, x439006, x439007 => if (x6.size : Int) > 2048 then (some ((⟨#[]⟩ : ByteArray), (⟨#[]⟩ : ByteArray), 0, (⟨#[]⟩ : ByteArray), (⟨#[]⟩ : ByteArray), (⟨#[]⟩ : ByteArray), false, false, 5)) else ((Yja.f k x6).bind fun bt442 => (if bt442.2.2 = true then (Yoa.j1 k x6 bt442.1 bt442.2.1 bt442.2.2 false x439000 x439001 x439002 x439003 x439004 x439005 x439006 x439007) else ((Yqb.f k x6).bind fun t445 => (Yoa.j1 k x6 bt442.1 bt442.2.1 bt442.2.2 (t445 == 2) x439000 x439001 x439002 x439003 x439004 x439005 x439006 x439007))))
def Yoa.j1 : Nat → ByteArray → ByteArray → ByteArray → Bool → Bool → ByteArray → ByteArray → Int → ByteArray → ByteArray → ByteArray → Bool → Bool → Option (ByteArray × ByteArray × Int × ByteArray × ByteArray × ByteArray × Bool × Bool × Int)
 | 0, _, _, _, _, _, _, _, _, _, _, _, _, _ => none
 | k + 1, x6, x7, x8, x9, x26, x439000, x439001, x439002, x439003, x439004, x439005, x439006, x439007 => if x26 = true then (if x439000.size + 1 ≤ 9223372036854775807 then (if (x439000 ++ (⟨#[58]⟩ : ByteArray)).size + x6.size ≤ 9223372036854775807 then ((Ypd.f k ((x439000 ++ (⟨#[58]⟩ : ByteArray)) ++ x6)).bind fun bt446 => (some (bt446.1, bt446.2.1, bt446.2.2.1, bt446.2.2.2.1, bt446.2.2.2.2.1, bt446.2.2.2.2.2.1, bt446.2.2.2.2.2.2.1, bt446.2.2.2.2.2.2.2.1, bt446.2.2.2.2.2.2.2.2))) else (none)) else (none)) else (if x9 = true then ((Ybg.f x7 x439000).bind fun t455 => (if t455 = true then ((Yqb.f k x8).bind fun t456 => (Yoa.j2 k x6 x8 (decide (t456 > 0)) x439000 x439001 x439002 x439003 x439004 x439005 x439006 x439007)) else (Yoa.j2 k x6 x8 true x439000 x439001 x439002 x439003 x439004 x439005 x439006 x439007))) else ((Ypf.f x439000 x439001 x439002 x439003 x439004 x439005 x439006 x439007 x6).bind fun bt467 => (some (bt467.1, bt467.2.1, bt467.2.2.1, bt467.2.2.2.1, bt467.2.2.2.2.1, bt467.2.2.2.2.2.1, bt467.2.2.2.2.2.2.1, bt467.2.2.2.2.2.2.2.1, bt467.2.2.2.2.2.2.2.2))))
def Yoa.j2 : Nat → ByteArray → ByteArray → Bool → ByteArray → ByteArray → Int → ByteArray → ByteArray → ByteArray → Bool → Bool → Option (ByteArray × ByteArray × Int × ByteArray × ByteArray × ByteArray × Bool × Bool × Int)
 | 0, _, _, _, _, _, _, _, _, _, _, _ => none
 | k + 1, x6, x8, x50, x439000, x439001, x439002, x439003, x439004, x439005, x439006, x439007 => if x50 = true then ((Ypd.f k x6).bind fun bt457 => (some (bt457.1, bt457.2.1, bt457.2.2.1, bt457.2.2.2.1, bt457.2.2.2.2.1, bt457.2.2.2.2.2.1, bt457.2.2.2.2.2.2.1, bt457.2.2.2.2.2.2.2.1, bt457.2.2.2.2.2.2.2.2))) else ((Ysd.f x8).bind fun t466 => (Yoa.l0 k t466 x439000 x439001 x439002 x439003 x439004 x439005 x439006 x439007))
end
def Yoa.f (k : Nat) (a0_0 : ByteArray) (a0_1 : ByteArray) (a0_2 : Int) (a0_3 : ByteArray) (a0_4 : ByteArray) (a0_5 : ByteArray) (a0_6 : Bool) (a0_7 : Bool) (a1 : ByteArray) : Option (ByteArray × ByteArray × Int × ByteArray × ByteArray × ByteArray × Bool × Bool × Int) := (Yti.f k a0_0 a0_1 a0_2 a0_3 a0_4 a0_5 a0_6 a0_7).bind fun t440 => (if t440 = true then ((Ysd.f a1).bind fun t441 => (Yoa.l0 k t441 a0_0 a0_1 a0_2 a0_3 a0_4 a0_5 a0_6 a0_7)) else (some ((⟨#[]⟩ : ByteArray), (⟨#[]⟩ : ByteArray), 0, (⟨#[]⟩ : ByteArray), (⟨#[]⟩ : ByteArray), (⟨#[]⟩ : ByteArray), false, false, 1)))
set_option maxHeartbeats 8000000 in
set_option maxRecDepth 100000 in
theorem Yoa.calls (k : Nat) (a0_0 : ByteArray) (a0_1 : ByteArray) (a0_2 : Int) (a0_3 : ByteArray) (a0_4 : ByteArray) (a0_5 : ByteArray) (a0_6 : Bool) (a0_7 : Bool) (a1 : ByteArray) (r1 : ByteArray) (r2 : ByteArray) (r3 : Int) (r4 : ByteArray) (r5 : ByteArray) (r6 : ByteArray) (r7 : Bool) (r8 : Bool) (r9 : Int) (w : World) (hE : EnvOk w) (h : Yoa.f k a0_0 a0_1 a0_2 a0_3 a0_4 a0_5 a0_6 a0_7 a1 = some (r1, r2, r3, r4, r5, r6, r7, r8, r9)) :
  Calls Tryz.prog 33 #[.agg #[.string a0_0, .string a0_1, .int .i64 a0_2, .string a0_3, .string a0_4, .string a0_5, .bool a0_6, .bool a0_7], .string a1] w fun e w' => e = .returned (.tuple #[.agg #[.string r1, .string r2, .int .i64 r3, .string r4, .string r5, .string r6, .bool r7, .bool r8], .int .i64 r9]) ∧ Below w.heap.size w w' := by
 have hu25 := Tryz.underlying25
 have HE := Ya.mk hE
 clear hE
 have HB := Ya.mk (Below.refl w.heap.size w)
 have H : ((Yti.f k a0_0 a0_1 a0_2 a0_3 a0_4 a0_5 a0_6 a0_7).bind fun t440 => (if t440 = true then ((Ysd.f a1).bind fun t441 => (Yoa.l0 k t441 a0_0 a0_1 a0_2 a0_3 a0_4 a0_5 a0_6 a0_7)) else (some ((⟨#[]⟩ : ByteArray), (⟨#[]⟩ : ByteArray), 0, (⟨#[]⟩ : ByteArray), (⟨#[]⟩ : ByteArray), (⟨#[]⟩ : ByteArray), false, false, 1)))) = some (r1, r2, r3, r4, r5, r6, r7, r8, r9) := h
 clear h
 replace H := Option.bind_eq_some_iff.mp H
 obtain ⟨t440, A30, H⟩ := H
 try dsimp -simprocs only at H
 have A3 := Ya.mk A30
 clear A30
 by_cases c4 : t440 = true
 rotate_left
 ·replace c4 := Bool.eq_false_iff.mpr c4
  subst c4
  rw [if_neg (show ¬ (false = true) by decide)] at H
  simp only [Option.some.injEq, Prod.mk.injEq] at H
  obtain ⟨rfl, rfl, rfl, rfl, rfl, rfl, rfl, rfl, rfl⟩ := H
  go_enter Tryz.func33, Tryz.ntmps33
  go_wp2_with (first | ((with_reducible refine Yuc (N := 2) rfl ?_); refine Yrc ?hg (N := 2) ?hd (cs := #[.string a0_0, .string a0_1, .int .i64 a0_2, .string a0_3, .string a0_4, .string a0_5, .bool a0_6, .bool a0_7]) (t := 25) ?hr ?_; (case hd => rfl); (case hg => rfl); (case hr => first | (go_simp; done) | (go_simp; rfl)); intro gb438 hg w52 hbox hb; have n0_ := Ya.mk (Yq Za hb); have n1_ := Ya.mk (hbox); have n2_ := Ya.mk ((by rw [hg]; exact (Yea Za) : w.heap.size ≤ gb438)); have n3_ := Ya.mk ((by rw [hg]; exact (Yea Za) : w.heap.size ≤ gb438)); clear HB; have HB := n0_; have BK438 := n1_; have GW438 := n2_; have GE438 := n3_; clear n0_ n1_ n2_ n3_; clear hb hbox hg) | ((with_reducible refine Yuc (N := 4) rfl ?_); refine Yrc ?hg (N := 4) ?hd (cs := #[.string (⟨#[]⟩ : ByteArray), .string (⟨#[]⟩ : ByteArray), .int .i64 0, .string (⟨#[]⟩ : ByteArray), .string (⟨#[]⟩ : ByteArray), .string (⟨#[]⟩ : ByteArray), .bool false, .bool false]) (t := 25) ?hr ?_; (case hd => rfl); (case hg => rfl); (case hr => first | (go_simp; done) | (go_simp; rfl)); intro gb439 hg w53 hbox hb; have n0_ := Ya.mk (Ydb (g := gb438) (o := .cells #[.string a0_0, .string a0_1, .int .i64 a0_2, .string a0_3, .string a0_4, .string a0_5, .bool a0_6, .bool a0_7] 25 (0, 0)) Zo hb); have n1_ := Ya.mk (Yq Zba hb); have n2_ := Ya.mk (hbox); have n3_ := Ya.mk ((by rw [hg]; exact (Yea Zba) : w.heap.size ≤ gb439)); have n4_ := Ya.mk ((by rw [hg]; exact (Yea Zba) : w.heap.size ≤ gb439)); have n5_ := Ya.mk ((by rw [hg]; exact Nat.ne_of_lt (Yje (g := gb438) (o := .cells #[.string a0_0, .string a0_1, .int .i64 a0_2, .string a0_3, .string a0_4, .string a0_5, .bool a0_6, .bool a0_7] 25 (0, 0)) Zo) : gb438 ≠ gb439)); have n6_ := Ya.mk ((by rw [hg]; exact Nat.ne_of_gt (Yje (g := gb438) (o := .cells #[.string a0_0, .string a0_1, .int .i64 a0_2, .string a0_3, .string a0_4, .string a0_5, .bool a0_6, .bool a0_7] 25 (0, 0)) Zo) : gb439 ≠ gb438)); clear BK438; clear HB; have BK438 := n0_; have HB := n1_; have BK439 := n2_; have GW439 := n3_; have GE439 := n4_; have NB438_439 := n5_; have NB439_438 := n6_; clear n0_ n1_ n2_ n3_ n4_ n5_ n6_; clear hb hbox hg; have hnb54 := NB438_439.out; have hnc54 := NB439_438.out; have hcz55_0 : w53.cell? ⟨gb438, 0, none⟩ = some (.string a0_0) := (Yf BK438.out 0).trans rfl; have hcz55_1 : w53.cell? ⟨gb438, 1, none⟩ = some (.string a0_1) := (Yf BK438.out 1).trans rfl; have hcz55_2 : w53.cell? ⟨gb438, 2, none⟩ = some (.int .i64 a0_2) := (Yf BK438.out 2).trans rfl; have hcz55_3 : w53.cell? ⟨gb438, 3, none⟩ = some (.string a0_3) := (Yf BK438.out 3).trans rfl; have hcz55_4 : w53.cell? ⟨gb438, 4, none⟩ = some (.string a0_4) := (Yf BK438.out 4).trans rfl; have hcz55_5 : w53.cell? ⟨gb438, 5, none⟩ = some (.string a0_5) := (Yf BK438.out 5).trans rfl; have hcz55_6 : w53.cell? ⟨gb438, 6, none⟩ = some (.bool a0_6) := (Yf BK438.out 6).trans rfl; have hcz55_7 : w53.cell? ⟨gb438, 7, none⟩ = some (.bool a0_7) := (Yf BK438.out 7).trans rfl; have hfz55_0 := Ye BK438.out 0; have hfz55_1 := Ye BK438.out 1; have hfz55_2 := Ye BK438.out 2; have hfz55_3 := Ye BK438.out 3; have hfz55_4 := Ye BK438.out 4; have hfz55_5 := Ye BK438.out 5; have hfz55_6 := Ye BK438.out 6; have hfz55_7 := Ye BK438.out 7) | ((with_reducible refine Yh (f := 27) rfl ?_); refine Yz (some 11) rfl rfl Tryz.func27 Zi rfl #[.agg #[.string a0_0, .string a0_1, .int .i64 a0_2, .string a0_3, .string a0_4, .string a0_5, .bool a0_6, .bool a0_7]] rfl Zb ?_; (with_reducible refine (Yti.calls k a0_0 a0_1 a0_2 a0_3 a0_4 a0_5 a0_6 a0_7 false _ ?side1 A3.out).mono ?_); (case side1 => first | exact HE.out | exact EnvOk.below HE.out Zj); rintro e w56 ⟨rfl, hb⟩; refine ⟨_, rfl, ?_⟩; have n0_ := Ya.mk (Ydb (g := gb438) (o := .cells #[.string a0_0, .string a0_1, .int .i64 a0_2, .string a0_3, .string a0_4, .string a0_5, .bool a0_6, .bool a0_7] 25 (0, 0)) Zo hb); have n1_ := Ya.mk (Ydb (g := gb439) (o := .cells #[.string (⟨#[]⟩ : ByteArray), .string (⟨#[]⟩ : ByteArray), .int .i64 0, .string (⟨#[]⟩ : ByteArray), .string (⟨#[]⟩ : ByteArray), .string (⟨#[]⟩ : ByteArray), .bool false, .bool false] 25 (0, 0)) Zr hb); have n2_ := Ya.mk (Yq Zj hb); clear BK438; clear BK439; clear HB; have BK438 := n0_; have BK439 := n1_; have HB := n2_; clear n0_ n1_ n2_; (try clear hb); (try clear hb2); (try clear hk); (try clear hi); have hcz57_0 : w56.cell? ⟨gb439, 0, none⟩ = some (.string (⟨#[]⟩ : ByteArray)) := (Yf BK439.out 0).trans rfl; have hcz57_1 : w56.cell? ⟨gb439, 1, none⟩ = some (.string (⟨#[]⟩ : ByteArray)) := (Yf BK439.out 1).trans rfl; have hcz57_2 : w56.cell? ⟨gb439, 2, none⟩ = some (.int .i64 0) := (Yf BK439.out 2).trans rfl; have hcz57_3 : w56.cell? ⟨gb439, 3, none⟩ = some (.string (⟨#[]⟩ : ByteArray)) := (Yf BK439.out 3).trans rfl; have hcz57_4 : w56.cell? ⟨gb439, 4, none⟩ = some (.string (⟨#[]⟩ : ByteArray)) := (Yf BK439.out 4).trans rfl; have hcz57_5 : w56.cell? ⟨gb439, 5, none⟩ = some (.string (⟨#[]⟩ : ByteArray)) := (Yf BK439.out 5).trans rfl; have hcz57_6 : w56.cell? ⟨gb439, 6, none⟩ = some (.bool false) := (Yf BK439.out 6).trans rfl; have hcz57_7 : w56.cell? ⟨gb439, 7, none⟩ = some (.bool false) := (Yf BK439.out 7).trans rfl; have hfz57_0 := Ye BK439.out 0; have hfz57_1 := Ye BK439.out 1; have hfz57_2 := Ye BK439.out 2; have hfz57_3 := Ye BK439.out 3; have hfz57_4 := Ye BK439.out 4; have hfz57_5 := Ye BK439.out 5; have hfz57_6 := Ye BK439.out 6; have hfz57_7 := Ye BK439.out 7))
  refine bodyPost_ret (Yii rfl _ _ gb439 25 #[.string (⟨#[]⟩ : ByteArray), .string (⟨#[]⟩ : ByteArray), .int .i64 0, .string (⟨#[]⟩ : ByteArray), .string (⟨#[]⟩ : ByteArray), .string (⟨#[]⟩ : ByteArray), .bool false, .bool false] (0, 0) _ rfl (by (with_reducible repeat (first | refine Yl ?_ _ | refine Yp ?_ | refine Ym ?_ _)); refine Yma (cs := #[.string (⟨#[]⟩ : ByteArray), .string (⟨#[]⟩ : ByteArray), .int .i64 0, .string (⟨#[]⟩ : ByteArray), .string (⟨#[]⟩ : ByteArray), .string (⟨#[]⟩ : ByteArray), .bool false, .bool false]) ?_ 7 _ rfl; (with_reducible repeat (first | refine Yl ?_ _ | refine Yp ?_ | refine Ym ?_ _)); refine Yma (cs := #[.string (⟨#[]⟩ : ByteArray), .string (⟨#[]⟩ : ByteArray), .int .i64 0, .string (⟨#[]⟩ : ByteArray), .string (⟨#[]⟩ : ByteArray), .string (⟨#[]⟩ : ByteArray), .bool false, .bool false]) ?_ 6 _ rfl; (with_reducible repeat (first | refine Yl ?_ _ | refine Yp ?_ | refine Ym ?_ _)); refine Yma (cs := #[.string (⟨#[]⟩ : ByteArray), .string (⟨#[]⟩ : ByteArray), .int .i64 0, .string (⟨#[]⟩ : ByteArray), .string (⟨#[]⟩ : ByteArray), .string (⟨#[]⟩ : ByteArray), .bool false, .bool false]) ?_ 5 _ rfl; (with_reducible repeat (first | refine Yl ?_ _ | refine Yp ?_ | refine Ym ?_ _)); refine Yma (cs := #[.string (⟨#[]⟩ : ByteArray), .string (⟨#[]⟩ : ByteArray), .int .i64 0, .string (⟨#[]⟩ : ByteArray), .string (⟨#[]⟩ : ByteArray), .string (⟨#[]⟩ : ByteArray), .bool false, .bool false]) ?_ 4 _ rfl; (with_reducible repeat (first | refine Yl ?_ _ | refine Yp ?_ | refine Ym ?_ _)); refine Yma (cs := #[.string (⟨#[]⟩ : ByteArray), .string (⟨#[]⟩ : ByteArray), .int .i64 0, .string (⟨#[]⟩ : ByteArray), .string (⟨#[]⟩ : ByteArray), .string (⟨#[]⟩ : ByteArray), .bool false, .bool false]) ?_ 3 _ rfl; (with_reducible repeat (first | refine Yl ?_ _ | refine Yp ?_ | refine Ym ?_ _)); refine Yma (cs := #[.string (⟨#[]⟩ : ByteArray), .string (⟨#[]⟩ : ByteArray), .int .i64 0, .string (⟨#[]⟩ : ByteArray), .string (⟨#[]⟩ : ByteArray), .string (⟨#[]⟩ : ByteArray), .bool false, .bool false]) ?_ 2 _ rfl; (with_reducible repeat (first | refine Yl ?_ _ | refine Yp ?_ | refine Ym ?_ _)); refine Yma (cs := #[.string (⟨#[]⟩ : ByteArray), .string (⟨#[]⟩ : ByteArray), .int .i64 0, .string (⟨#[]⟩ : ByteArray), .string (⟨#[]⟩ : ByteArray), .string (⟨#[]⟩ : ByteArray), .bool false, .bool false]) ?_ 1 _ rfl; (with_reducible repeat (first | refine Yl ?_ _ | refine Yp ?_ | refine Ym ?_ _)); refine Yma (cs := #[.string (⟨#[]⟩ : ByteArray), .string (⟨#[]⟩ : ByteArray), .int .i64 0, .string (⟨#[]⟩ : ByteArray), .string (⟨#[]⟩ : ByteArray), .string (⟨#[]⟩ : ByteArray), .bool false, .bool false]) ?_ 0 _ rfl; (with_reducible repeat (first | refine Yl ?_ _ | refine Yp ?_ | refine Ym ?_ _)); exact BK439.out) Tryz.underlying25 rfl Zi) rfl ?_
  exact ⟨Zk, Zj⟩
 subst c4
 rw [if_pos rfl] at H
 replace H := Option.bind_eq_some_iff.mp H
 obtain ⟨t441, A50, H⟩ := H
 try dsimp -simprocs only at H
 have A5 := Ya.mk A50
 clear A50
 have H' := Ya.mk H
 clear H
 go_enter Tryz.func33, Tryz.ntmps33
 go_wp2_with (first | ((with_reducible refine Yuc (N := 2) rfl ?_); refine Yrc ?hg (N := 2) ?hd (cs := #[.string a0_0, .string a0_1, .int .i64 a0_2, .string a0_3, .string a0_4, .string a0_5, .bool a0_6, .bool a0_7]) (t := 25) ?hr ?_; (case hd => rfl); (case hg => rfl); (case hr => first | (go_simp; done) | (go_simp; rfl)); intro gb438 hg w6 hbox hb; have n0_ := Ya.mk (Yq Za hb); have n1_ := Ya.mk (hbox); have n2_ := Ya.mk ((by rw [hg]; exact (Yea Za) : w.heap.size ≤ gb438)); have n3_ := Ya.mk ((by rw [hg]; exact (Yea Za) : w.heap.size ≤ gb438)); clear HB; have HB := n0_; have BK438 := n1_; have GW438 := n2_; have GE438 := n3_; clear n0_ n1_ n2_ n3_; clear hb hbox hg) | ((with_reducible refine Yuc (N := 4) rfl ?_); refine Yrc ?hg (N := 4) ?hd (cs := #[.string (⟨#[]⟩ : ByteArray), .string (⟨#[]⟩ : ByteArray), .int .i64 0, .string (⟨#[]⟩ : ByteArray), .string (⟨#[]⟩ : ByteArray), .string (⟨#[]⟩ : ByteArray), .bool false, .bool false]) (t := 25) ?hr ?_; (case hd => rfl); (case hg => rfl); (case hr => first | (go_simp; done) | (go_simp; rfl)); intro gb439 hg w7 hbox hb; have n0_ := Ya.mk (Ydb (g := gb438) (o := .cells #[.string a0_0, .string a0_1, .int .i64 a0_2, .string a0_3, .string a0_4, .string a0_5, .bool a0_6, .bool a0_7] 25 (0, 0)) Zo hb); have n1_ := Ya.mk (Yq Zba hb); have n2_ := Ya.mk (hbox); have n3_ := Ya.mk ((by rw [hg]; exact (Yea Zba) : w.heap.size ≤ gb439)); have n4_ := Ya.mk ((by rw [hg]; exact (Yea Zba) : w.heap.size ≤ gb439)); have n5_ := Ya.mk ((by rw [hg]; exact Nat.ne_of_lt (Yje (g := gb438) (o := .cells #[.string a0_0, .string a0_1, .int .i64 a0_2, .string a0_3, .string a0_4, .string a0_5, .bool a0_6, .bool a0_7] 25 (0, 0)) Zo) : gb438 ≠ gb439)); have n6_ := Ya.mk ((by rw [hg]; exact Nat.ne_of_gt (Yje (g := gb438) (o := .cells #[.string a0_0, .string a0_1, .int .i64 a0_2, .string a0_3, .string a0_4, .string a0_5, .bool a0_6, .bool a0_7] 25 (0, 0)) Zo) : gb439 ≠ gb438)); clear BK438; clear HB; have BK438 := n0_; have HB := n1_; have BK439 := n2_; have GW439 := n3_; have GE439 := n4_; have NB438_439 := n5_; have NB439_438 := n6_; clear n0_ n1_ n2_ n3_ n4_ n5_ n6_; clear hb hbox hg; have hnb8 := NB438_439.out; have hnc8 := NB439_438.out; have hcz9_0 : w7.cell? ⟨gb438, 0, none⟩ = some (.string a0_0) := (Yf BK438.out 0).trans rfl; have hcz9_1 : w7.cell? ⟨gb438, 1, none⟩ = some (.string a0_1) := (Yf BK438.out 1).trans rfl; have hcz9_2 : w7.cell? ⟨gb438, 2, none⟩ = some (.int .i64 a0_2) := (Yf BK438.out 2).trans rfl; have hcz9_3 : w7.cell? ⟨gb438, 3, none⟩ = some (.string a0_3) := (Yf BK438.out 3).trans rfl; have hcz9_4 : w7.cell? ⟨gb438, 4, none⟩ = some (.string a0_4) := (Yf BK438.out 4).trans rfl; have hcz9_5 : w7.cell? ⟨gb438, 5, none⟩ = some (.string a0_5) := (Yf BK438.out 5).trans rfl; have hcz9_6 : w7.cell? ⟨gb438, 6, none⟩ = some (.bool a0_6) := (Yf BK438.out 6).trans rfl; have hcz9_7 : w7.cell? ⟨gb438, 7, none⟩ = some (.bool a0_7) := (Yf BK438.out 7).trans rfl; have hfz9_0 := Ye BK438.out 0; have hfz9_1 := Ye BK438.out 1; have hfz9_2 := Ye BK438.out 2; have hfz9_3 := Ye BK438.out 3; have hfz9_4 := Ye BK438.out 4; have hfz9_5 := Ye BK438.out 5; have hfz9_6 := Ye BK438.out 6; have hfz9_7 := Ye BK438.out 7) | ((with_reducible refine Yh (f := 27) rfl ?_); refine Yz (some 11) rfl rfl Tryz.func27 Zi rfl #[.agg #[.string a0_0, .string a0_1, .int .i64 a0_2, .string a0_3, .string a0_4, .string a0_5, .bool a0_6, .bool a0_7]] rfl Zb ?_; (with_reducible refine (Yti.calls k a0_0 a0_1 a0_2 a0_3 a0_4 a0_5 a0_6 a0_7 true _ ?side1 A3.out).mono ?_); (case side1 => first | exact HE.out | exact EnvOk.below HE.out Zj); rintro e w10 ⟨rfl, hb⟩; refine ⟨_, rfl, ?_⟩; have n0_ := Ya.mk (Ydb (g := gb438) (o := .cells #[.string a0_0, .string a0_1, .int .i64 a0_2, .string a0_3, .string a0_4, .string a0_5, .bool a0_6, .bool a0_7] 25 (0, 0)) Zo hb); have n1_ := Ya.mk (Ydb (g := gb439) (o := .cells #[.string (⟨#[]⟩ : ByteArray), .string (⟨#[]⟩ : ByteArray), .int .i64 0, .string (⟨#[]⟩ : ByteArray), .string (⟨#[]⟩ : ByteArray), .string (⟨#[]⟩ : ByteArray), .bool false, .bool false] 25 (0, 0)) Zr hb); have n2_ := Ya.mk (Yq Zj hb); clear BK438; clear BK439; clear HB; have BK438 := n0_; have BK439 := n1_; have HB := n2_; clear n0_ n1_ n2_; (try clear hb); (try clear hb2); (try clear hk); (try clear hi)) | ((with_reducible refine Yh (f := 21) rfl ?_); refine Yz (some 15) rfl rfl Tryz.func21 Zi rfl #[.string a1] rfl Zb ?_; (with_reducible refine (Ysd.calls a1 t441 _ ?side1 A5.out).mono ?_); (case side1 => first | exact HE.out | exact EnvOk.below HE.out Zj); rintro e w11 ⟨rfl, hb⟩; refine ⟨_, rfl, ?_⟩; have n0_ := Ya.mk (Ydb (g := gb438) (o := .cells #[.string a0_0, .string a0_1, .int .i64 a0_2, .string a0_3, .string a0_4, .string a0_5, .bool a0_6, .bool a0_7] 25 (0, 0)) Zo hb); have n1_ := Ya.mk (Ydb (g := gb439) (o := .cells #[.string (⟨#[]⟩ : ByteArray), .string (⟨#[]⟩ : ByteArray), .int .i64 0, .string (⟨#[]⟩ : ByteArray), .string (⟨#[]⟩ : ByteArray), .string (⟨#[]⟩ : ByteArray), .bool false, .bool false] 25 (0, 0)) Zr hb); have n2_ := Ya.mk (Yq Zj hb); clear BK438; clear BK439; clear HB; have BK438 := n0_; have BK439 := n1_; have HB := n2_; clear n0_ n1_ n2_; (try clear hb); (try clear hb2); (try clear hk); (try clear hi)))
 go_loopg [6] k (fun kq v6 w' => ∃ (x6_1 : ByteArray) (x440000_1 : ByteArray) (x440001_1 : ByteArray) (x440002_1 : Int) (x440003_1 : ByteArray) (x440004_1 : ByteArray) (x440005_1 : ByteArray) (x440006_1 : Bool) (x440007_1 : Bool), v6 = .string x6_1 ∧ Ya (Yoa.l0 kq x6_1 a0_0 a0_1 a0_2 a0_3 a0_4 a0_5 a0_6 a0_7 = some (r1, r2, r3, r4, r5, r6, r7, r8, r9)) ∧ Ya (kq ≤ k) ∧ Ya (w'.heap[gb438]? = some (.cells #[.string a0_0, .string a0_1, .int .i64 a0_2, .string a0_3, .string a0_4, .string a0_5, .bool a0_6, .bool a0_7] 25 (0, 0))) ∧ Ya (w'.heap[gb439]? = some (.cells #[.string x440000_1, .string x440001_1, .int .i64 x440002_1, .string x440003_1, .string x440004_1, .string x440005_1, .bool x440006_1, .bool x440007_1] 25 (0, 0))) ∧ Ya (Below w.heap.size w w'))
 case atStart => exact ⟨(t441), ((⟨#[]⟩ : ByteArray)), ((⟨#[]⟩ : ByteArray)), (0), ((⟨#[]⟩ : ByteArray)), ((⟨#[]⟩ : ByteArray)), ((⟨#[]⟩ : ByteArray)), (false), (false), Zf, H', ⟨Nat.le_refl _⟩, ⟨Zo⟩, ⟨Zr⟩, ⟨Zj⟩⟩
 case round =>
  clear H'
  try clear c2
  try clear p2
  try clear c3
  try clear c4
  try clear c8
  try clear hcz9_0
  try clear hcz9_1
  try clear hcz9_2
  try clear hcz9_3
  try clear hcz9_4
  try clear hcz9_5
  try clear hcz9_6
  try clear hcz9_7
  try clear hfz9_0
  try clear hfz9_1
  try clear hfz9_2
  try clear hfz9_3
  try clear hfz9_4
  try clear hfz9_5
  try clear hfz9_6
  try clear hfz9_7
  obtain ⟨x6_1, x440000_1, x440001_1, x440002_1, x440003_1, x440004_1, x440005_1, x440006_1, x440007_1, rfl, HA, HK1, BK438, BK439, HB⟩ := hrel
  cases gk with
  | zero => exact absurd HA.out (by simp [Yoa.l0])
  | succ k1 =>
   have H := HA.out
   clear HA
   simp only [Yoa.l0] at H
   by_cases c12 : (x6_1.size : Int) > 2048
   ·rw [if_pos c12] at H
    have c12b0 : decide (2048 < (x6_1.size : Int)) = true := decide_eq_true c12
    have c12b1 : decide (2048 < x6_1.size) = true := decide_eq_true Zl
    clear c12
    simp only [Option.some.injEq, Prod.mk.injEq] at H
    obtain ⟨rfl, rfl, rfl, rfl, rfl, rfl, rfl, rfl, rfl⟩ := H
    have hnb13 := NB439_438.out
    have hnc13 := NB438_439.out
    have hcz14_0 : wr.cell? ⟨gb439, 0, none⟩ = some (.string x440000_1) := (Yf BK439.out 0).trans rfl
    have hcz14_1 : wr.cell? ⟨gb439, 1, none⟩ = some (.string x440001_1) := (Yf BK439.out 1).trans rfl
    have hcz14_2 : wr.cell? ⟨gb439, 2, none⟩ = some (.int .i64 x440002_1) := (Yf BK439.out 2).trans rfl
    have hcz14_3 : wr.cell? ⟨gb439, 3, none⟩ = some (.string x440003_1) := (Yf BK439.out 3).trans rfl
    have hcz14_4 : wr.cell? ⟨gb439, 4, none⟩ = some (.string x440004_1) := (Yf BK439.out 4).trans rfl
    have hcz14_5 : wr.cell? ⟨gb439, 5, none⟩ = some (.string x440005_1) := (Yf BK439.out 5).trans rfl
    have hcz14_6 : wr.cell? ⟨gb439, 6, none⟩ = some (.bool x440006_1) := (Yf BK439.out 6).trans rfl
    have hcz14_7 : wr.cell? ⟨gb439, 7, none⟩ = some (.bool x440007_1) := (Yf BK439.out 7).trans rfl
    have hfz14_0 := Ye BK439.out 0
    have hfz14_1 := Ye BK439.out 1
    have hfz14_2 := Ye BK439.out 2
    have hfz14_3 := Ye BK439.out 3
    have hfz14_4 := Ye BK439.out 4
    have hfz14_5 := Ye BK439.out 5
    have hfz14_6 := Ye BK439.out 6
    have hfz14_7 := Ye BK439.out 7
    go_wp2
    refine bodyPost_ret (Yii rfl _ _ gb439 25 #[.string (⟨#[]⟩ : ByteArray), .string (⟨#[]⟩ : ByteArray), .int .i64 0, .string (⟨#[]⟩ : ByteArray), .string (⟨#[]⟩ : ByteArray), .string (⟨#[]⟩ : ByteArray), .bool false, .bool false] (0, 0) _ rfl (by (with_reducible repeat (first | refine Yl ?_ _ | refine Yp ?_ | refine Ym ?_ _)); refine Yma (cs := #[.string (⟨#[]⟩ : ByteArray), .string (⟨#[]⟩ : ByteArray), .int .i64 0, .string (⟨#[]⟩ : ByteArray), .string (⟨#[]⟩ : ByteArray), .string (⟨#[]⟩ : ByteArray), .bool false, .bool x440007_1]) ?_ 7 _ rfl; (with_reducible repeat (first | refine Yl ?_ _ | refine Yp ?_ | refine Ym ?_ _)); refine Yma (cs := #[.string (⟨#[]⟩ : ByteArray), .string (⟨#[]⟩ : ByteArray), .int .i64 0, .string (⟨#[]⟩ : ByteArray), .string (⟨#[]⟩ : ByteArray), .string (⟨#[]⟩ : ByteArray), .bool x440006_1, .bool x440007_1]) ?_ 6 _ rfl; (with_reducible repeat (first | refine Yl ?_ _ | refine Yp ?_ | refine Ym ?_ _)); refine Yma (cs := #[.string (⟨#[]⟩ : ByteArray), .string (⟨#[]⟩ : ByteArray), .int .i64 0, .string (⟨#[]⟩ : ByteArray), .string (⟨#[]⟩ : ByteArray), .string x440005_1, .bool x440006_1, .bool x440007_1]) ?_ 5 _ rfl; (with_reducible repeat (first | refine Yl ?_ _ | refine Yp ?_ | refine Ym ?_ _)); refine Yma (cs := #[.string (⟨#[]⟩ : ByteArray), .string (⟨#[]⟩ : ByteArray), .int .i64 0, .string (⟨#[]⟩ : ByteArray), .string x440004_1, .string x440005_1, .bool x440006_1, .bool x440007_1]) ?_ 4 _ rfl; (with_reducible repeat (first | refine Yl ?_ _ | refine Yp ?_ | refine Ym ?_ _)); refine Yma (cs := #[.string (⟨#[]⟩ : ByteArray), .string (⟨#[]⟩ : ByteArray), .int .i64 0, .string x440003_1, .string x440004_1, .string x440005_1, .bool x440006_1, .bool x440007_1]) ?_ 3 _ rfl; (with_reducible repeat (first | refine Yl ?_ _ | refine Yp ?_ | refine Ym ?_ _)); refine Yma (cs := #[.string (⟨#[]⟩ : ByteArray), .string (⟨#[]⟩ : ByteArray), .int .i64 x440002_1, .string x440003_1, .string x440004_1, .string x440005_1, .bool x440006_1, .bool x440007_1]) ?_ 2 _ rfl; (with_reducible repeat (first | refine Yl ?_ _ | refine Yp ?_ | refine Ym ?_ _)); refine Yma (cs := #[.string (⟨#[]⟩ : ByteArray), .string x440001_1, .int .i64 x440002_1, .string x440003_1, .string x440004_1, .string x440005_1, .bool x440006_1, .bool x440007_1]) ?_ 1 _ rfl; (with_reducible repeat (first | refine Yl ?_ _ | refine Yp ?_ | refine Ym ?_ _)); refine Yma (cs := #[.string x440000_1, .string x440001_1, .int .i64 x440002_1, .string x440003_1, .string x440004_1, .string x440005_1, .bool x440006_1, .bool x440007_1]) ?_ 0 _ rfl; (with_reducible repeat (first | refine Yl ?_ _ | refine Yp ?_ | refine Ym ?_ _)); exact BK439.out) Tryz.underlying25 rfl Zi) rfl ?_
    exact ⟨Zk, Zj⟩
   rw [if_neg c12] at H
   have c12b0 : decide (2048 < (x6_1.size : Int)) = false := decide_eq_false c12
   have c12b1 : decide (2048 < x6_1.size) = false := decide_eq_false Zl
   clear c12
   replace H := Option.bind_eq_some_iff.mp H
   obtain ⟨⟨t442, t443, t444⟩, A150, H⟩ := H
   try dsimp -simprocs only at H
   have A15 := Ya.mk A150
   clear A150
   have HC16 := Ya.mk H
   clear H
   go_upto_region 7 with (first | ((with_reducible refine Yh (f := 70) rfl ?_); refine Yz (some 22) rfl rfl Tryz.func70 Zi rfl #[.string x6_1] rfl Zb ?_; (with_reducible refine (Yja.calls k1 x6_1 t442 t443 t444 _ ?side1 A15.out).mono ?_); (case side1 => first | exact HE.out | exact EnvOk.below HE.out Zj); rintro e w' ⟨rfl, ⟨nd, rfl⟩⟩; refine ⟨_, rfl, ?_⟩))
   (try simp only [Act.put, List.setIfInBounds_toArray, List.set_cons_zero, List.set_cons_succ])
   go_cut [26] (fun v26 wc => ∃ (kq : Nat) (x26_15 : Bool), v26 = .bool x26_15 ∧ Ya (Yoa.j1 kq x6_1 t442 t443 t444 x26_15 a0_0 a0_1 a0_2 a0_3 a0_4 a0_5 a0_6 a0_7 = some (r1, r2, r3, r4, r5, r6, r7, r8, r9)) ∧ Ya (kq ≤ k1) ∧ Ya (wc.heap[gb438]? = some (.cells #[.string a0_0, .string a0_1, .int .i64 a0_2, .string a0_3, .string a0_4, .string a0_5, .bool a0_6, .bool a0_7] 25 (0, 0))) ∧ Ya (wc.heap[gb439]? = some (.cells #[.string x440000_1, .string x440001_1, .int .i64 x440002_1, .string x440003_1, .string x440004_1, .string x440005_1, .bool x440006_1, .bool x440007_1] 25 (0, 0))) ∧ Ya (Below w.heap.size w wc))
   case first =>
    have H := HC16.out
    clear HC16
    by_cases c17 : t444 = true
    ·subst c17
     rw [if_pos rfl] at H
     have H' := Ya.mk H
     clear H
     go_wp2
     go_meet
     case rel => exact ⟨_, (false), Zf, H', ⟨Zja⟩, ⟨Zo⟩, ⟨Zr⟩, ⟨Zj⟩⟩
    replace c17 := Bool.eq_false_iff.mpr c17
    subst c17
    rw [if_neg (show ¬ (false = true) by decide)] at H
    replace H := Option.bind_eq_some_iff.mp H
    obtain ⟨t445, A180, H⟩ := H
    try dsimp -simprocs only at H
    have A18 := Ya.mk A180
    clear A180
    have H' := Ya.mk H
    clear H
    go_wp2_with (first | (go_at_call 71; (with_reducible refine (Yqb.calls k1 x6_1 t445 _ ?side1 A18.out).mono ?_); (case side1 => first | exact HE.out | exact EnvOk.below HE.out Zj); rintro e w19 ⟨rfl, hb⟩; have n0_ := Ya.mk (Ydb (g := gb438) (o := .cells #[.string a0_0, .string a0_1, .int .i64 a0_2, .string a0_3, .string a0_4, .string a0_5, .bool a0_6, .bool a0_7] 25 (0, 0)) Zo hb); have n1_ := Ya.mk (Ydb (g := gb439) (o := .cells #[.string x440000_1, .string x440001_1, .int .i64 x440002_1, .string x440003_1, .string x440004_1, .string x440005_1, .bool x440006_1, .bool x440007_1] 25 (0, 0)) Zr hb); have n2_ := Ya.mk (Yq Zj hb); clear BK438; clear BK439; clear HB; have BK438 := n0_; have BK439 := n1_; have HB := n2_; clear n0_ n1_ n2_; (try clear hb); (try clear hb2); (try clear hk); (try clear hi)))
    go_meet
    case rel => exact ⟨_, ((t445 == 2)), Zf, H', ⟨Zja⟩, ⟨Zo⟩, ⟨Zr⟩, ⟨Zj⟩⟩
   case rest =>
    clear HC16
    try clear c1
    try clear c2
    try clear p2
    try clear c3
    try clear c4
    try clear c7
    try clear c8
    try clear c12
    try clear c12b0
    try clear c12b1
    try clear c13
    try clear c17
    try clear hcz14_0
    try clear hcz14_1
    try clear hcz14_2
    try clear hcz14_3
    try clear hcz14_4
    try clear hcz14_5
    try clear hcz14_6
    try clear hcz14_7
    try clear hcz9_0
    try clear hcz9_1
    try clear hcz9_2
    try clear hcz9_3
    try clear hcz9_4
    try clear hcz9_5
    try clear hcz9_6
    try clear hcz9_7
    try clear hfz14_0
    try clear hfz14_1
    try clear hfz14_2
    try clear hfz14_3
    try clear hfz14_4
    try clear hfz14_5
    try clear hfz14_6
    try clear hfz14_7
    try clear hfz9_0
    try clear hfz9_1
    try clear hfz9_2
    try clear hfz9_3
    try clear hfz9_4
    try clear hfz9_5
    try clear hfz9_6
    try clear hfz9_7
    try clear p2
    obtain ⟨kq, x26_15, rfl, HA, HJ15, BK438, BK439, HB⟩ := hcut
    cases kq with
    | zero => exact absurd HA.out (by simp [Yoa.j1])
    | succ kj15 =>
     have H := HA.out
     clear HA
     simp only [Yoa.j1] at H
     by_cases c20 : x26_15 = true
     ·subst c20
      rw [if_pos rfl] at H
      by_cases c21 : a0_0.size + 1 ≤ 9223372036854775807
      rotate_left
      ·rw [if_neg c21] at H
       exact absurd H Zv
      rw [if_pos c21] at H
      have c21b0 := eq_true c21
      have c21b1 : decide (a0_0.size + 1 ≤ 9223372036854775807) = true := decide_eq_true c21
      try have c21b2 : (9223372036854775807 < a0_0.size + 1) = False := eq_false (Nat.not_lt.2 c21)
      by_cases c22 : (a0_0 ++ (⟨#[58]⟩ : ByteArray)).size + x6_1.size ≤ 9223372036854775807
      rotate_left
      ·rw [if_neg c22] at H
       exact absurd H Zv
      rw [if_pos c22] at H
      have c22b0 := eq_true c22
      have c22b1 : decide ((a0_0 ++ (⟨#[58]⟩ : ByteArray)).size + x6_1.size ≤ 9223372036854775807) = true := decide_eq_true c22
      try have c22b2 : (9223372036854775807 < (a0_0 ++ (⟨#[58]⟩ : ByteArray)).size + x6_1.size) = False := eq_false (Nat.not_lt.2 c22)
      replace H := Option.bind_eq_some_iff.mp H
      obtain ⟨⟨t446, t447, t448, t449, t450, t451, t452, t453, t454⟩, A230, H⟩ := H
      try dsimp -simprocs only at H
      have A23 := Ya.mk A230
      clear A230
      simp only [Option.some.injEq, Prod.mk.injEq] at H
      obtain ⟨rfl, rfl, rfl, rfl, rfl, rfl, rfl, rfl, rfl⟩ := H
      have hnb24 := NB438_439.out
      have hnc24 := NB439_438.out
      have hcz25_0 : wc.cell? ⟨gb438, 0, none⟩ = some (.string a0_0) := (Yf BK438.out 0).trans rfl
      have hcz25_1 : wc.cell? ⟨gb438, 1, none⟩ = some (.string a0_1) := (Yf BK438.out 1).trans rfl
      have hcz25_2 : wc.cell? ⟨gb438, 2, none⟩ = some (.int .i64 a0_2) := (Yf BK438.out 2).trans rfl
      have hcz25_3 : wc.cell? ⟨gb438, 3, none⟩ = some (.string a0_3) := (Yf BK438.out 3).trans rfl
      have hcz25_4 : wc.cell? ⟨gb438, 4, none⟩ = some (.string a0_4) := (Yf BK438.out 4).trans rfl
      have hcz25_5 : wc.cell? ⟨gb438, 5, none⟩ = some (.string a0_5) := (Yf BK438.out 5).trans rfl
      have hcz25_6 : wc.cell? ⟨gb438, 6, none⟩ = some (.bool a0_6) := (Yf BK438.out 6).trans rfl
      have hcz25_7 : wc.cell? ⟨gb438, 7, none⟩ = some (.bool a0_7) := (Yf BK438.out 7).trans rfl
      have hfz25_0 := Ye BK438.out 0
      have hfz25_1 := Ye BK438.out 1
      have hfz25_2 := Ye BK438.out 2
      have hfz25_3 := Ye BK438.out 3
      have hfz25_4 := Ye BK438.out 4
      have hfz25_5 := Ye BK438.out 5
      have hfz25_6 := Ye BK438.out 6
      have hfz25_7 := Ye BK438.out 7
      go_wp2_with (first | ((with_reducible refine Yh (f := 15) rfl ?_); refine Yz (some 39) rfl rfl Tryz.func15 Zi rfl #[.string ((a0_0 ++ (⟨#[58]⟩ : ByteArray)) ++ x6_1)] rfl Zb ?_; (with_reducible refine (Ypd.calls kj15 ((a0_0 ++ (⟨#[58]⟩ : ByteArray)) ++ x6_1) t446 t447 t448 t449 t450 t451 t452 t453 t454 _ ?side1 A23.out).mono ?_); (case side1 => first | exact HE.out | exact EnvOk.below HE.out Zj); rintro e w26 ⟨rfl, hb⟩; refine ⟨_, rfl, ?_⟩; have n0_ := Ya.mk (Ydb (g := gb438) (o := .cells #[.string a0_0, .string a0_1, .int .i64 a0_2, .string a0_3, .string a0_4, .string a0_5, .bool a0_6, .bool a0_7] 25 (0, 0)) Zo hb); have n1_ := Ya.mk (Ydb (g := gb439) (o := .cells #[.string x440000_1, .string x440001_1, .int .i64 x440002_1, .string x440003_1, .string x440004_1, .string x440005_1, .bool x440006_1, .bool x440007_1] 25 (0, 0)) Zr hb); have n2_ := Ya.mk (Yq Zj hb); clear BK438; clear BK439; clear HB; have BK438 := n0_; have BK439 := n1_; have HB := n2_; clear n0_ n1_ n2_; (try clear hb); (try clear hb2); (try clear hk); (try clear hi); have hcz27_0 : w26.cell? ⟨gb439, 0, none⟩ = some (.string x440000_1) := (Yf BK439.out 0).trans rfl; have hcz27_1 : w26.cell? ⟨gb439, 1, none⟩ = some (.string x440001_1) := (Yf BK439.out 1).trans rfl; have hcz27_2 : w26.cell? ⟨gb439, 2, none⟩ = some (.int .i64 x440002_1) := (Yf BK439.out 2).trans rfl; have hcz27_3 : w26.cell? ⟨gb439, 3, none⟩ = some (.string x440003_1) := (Yf BK439.out 3).trans rfl; have hcz27_4 : w26.cell? ⟨gb439, 4, none⟩ = some (.string x440004_1) := (Yf BK439.out 4).trans rfl; have hcz27_5 : w26.cell? ⟨gb439, 5, none⟩ = some (.string x440005_1) := (Yf BK439.out 5).trans rfl; have hcz27_6 : w26.cell? ⟨gb439, 6, none⟩ = some (.bool x440006_1) := (Yf BK439.out 6).trans rfl; have hcz27_7 : w26.cell? ⟨gb439, 7, none⟩ = some (.bool x440007_1) := (Yf BK439.out 7).trans rfl; have hfz27_0 := Ye BK439.out 0; have hfz27_1 := Ye BK439.out 1; have hfz27_2 := Ye BK439.out 2; have hfz27_3 := Ye BK439.out 3; have hfz27_4 := Ye BK439.out 4; have hfz27_5 := Ye BK439.out 5; have hfz27_6 := Ye BK439.out 6; have hfz27_7 := Ye BK439.out 7))
      refine bodyPost_ret (Yii rfl _ _ gb439 25 #[.string t446, .string t447, .int .i64 t448, .string t449, .string t450, .string t451, .bool t452, .bool t453] (0, 0) _ rfl (by (with_reducible repeat (first | refine Yl ?_ _ | refine Yp ?_ | refine Ym ?_ _)); refine Yma (cs := #[.string t446, .string t447, .int .i64 t448, .string t449, .string t450, .string t451, .bool t452, .bool x440007_1]) ?_ 7 _ rfl; (with_reducible repeat (first | refine Yl ?_ _ | refine Yp ?_ | refine Ym ?_ _)); refine Yma (cs := #[.string t446, .string t447, .int .i64 t448, .string t449, .string t450, .string t451, .bool x440006_1, .bool x440007_1]) ?_ 6 _ rfl; (with_reducible repeat (first | refine Yl ?_ _ | refine Yp ?_ | refine Ym ?_ _)); refine Yma (cs := #[.string t446, .string t447, .int .i64 t448, .string t449, .string t450, .string x440005_1, .bool x440006_1, .bool x440007_1]) ?_ 5 _ rfl; (with_reducible repeat (first | refine Yl ?_ _ | refine Yp ?_ | refine Ym ?_ _)); refine Yma (cs := #[.string t446, .string t447, .int .i64 t448, .string t449, .string x440004_1, .string x440005_1, .bool x440006_1, .bool x440007_1]) ?_ 4 _ rfl; (with_reducible repeat (first | refine Yl ?_ _ | refine Yp ?_ | refine Ym ?_ _)); refine Yma (cs := #[.string t446, .string t447, .int .i64 t448, .string x440003_1, .string x440004_1, .string x440005_1, .bool x440006_1, .bool x440007_1]) ?_ 3 _ rfl; (with_reducible repeat (first | refine Yl ?_ _ | refine Yp ?_ | refine Ym ?_ _)); refine Yma (cs := #[.string t446, .string t447, .int .i64 x440002_1, .string x440003_1, .string x440004_1, .string x440005_1, .bool x440006_1, .bool x440007_1]) ?_ 2 _ rfl; (with_reducible repeat (first | refine Yl ?_ _ | refine Yp ?_ | refine Ym ?_ _)); refine Yma (cs := #[.string t446, .string x440001_1, .int .i64 x440002_1, .string x440003_1, .string x440004_1, .string x440005_1, .bool x440006_1, .bool x440007_1]) ?_ 1 _ rfl; (with_reducible repeat (first | refine Yl ?_ _ | refine Yp ?_ | refine Ym ?_ _)); refine Yma (cs := #[.string x440000_1, .string x440001_1, .int .i64 x440002_1, .string x440003_1, .string x440004_1, .string x440005_1, .bool x440006_1, .bool x440007_1]) ?_ 0 _ rfl; (with_reducible repeat (first | refine Yl ?_ _ | refine Yp ?_ | refine Ym ?_ _)); exact BK439.out) Tryz.underlying25 rfl Zi) rfl ?_
      exact ⟨Zk, Zj⟩
     replace c20 := Bool.eq_false_iff.mpr c20
     subst c20
     rw [if_neg (show ¬ (false = true) by decide)] at H
     by_cases c28 : t444 = true
     rotate_left
     ·replace c28 := Bool.eq_false_iff.mpr c28
      subst c28
      rw [if_neg (show ¬ (false = true) by decide)] at H
      replace H := Option.bind_eq_some_iff.mp H
      obtain ⟨⟨t467, t468, t469, t470, t471, t472, t473, t474, t475⟩, A470, H⟩ := H
      try dsimp -simprocs only at H
      have A47 := Ya.mk A470
      clear A470
      simp only [Option.some.injEq, Prod.mk.injEq] at H
      obtain ⟨rfl, rfl, rfl, rfl, rfl, rfl, rfl, rfl, rfl⟩ := H
      have hnb48 := NB438_439.out
      have hnc48 := NB439_438.out
      have hcz49_0 : wc.cell? ⟨gb438, 0, none⟩ = some (.string a0_0) := (Yf BK438.out 0).trans rfl
      have hcz49_1 : wc.cell? ⟨gb438, 1, none⟩ = some (.string a0_1) := (Yf BK438.out 1).trans rfl
      have hcz49_2 : wc.cell? ⟨gb438, 2, none⟩ = some (.int .i64 a0_2) := (Yf BK438.out 2).trans rfl
      have hcz49_3 : wc.cell? ⟨gb438, 3, none⟩ = some (.string a0_3) := (Yf BK438.out 3).trans rfl
      have hcz49_4 : wc.cell? ⟨gb438, 4, none⟩ = some (.string a0_4) := (Yf BK438.out 4).trans rfl
      have hcz49_5 : wc.cell? ⟨gb438, 5, none⟩ = some (.string a0_5) := (Yf BK438.out 5).trans rfl
      have hcz49_6 : wc.cell? ⟨gb438, 6, none⟩ = some (.bool a0_6) := (Yf BK438.out 6).trans rfl
      have hcz49_7 : wc.cell? ⟨gb438, 7, none⟩ = some (.bool a0_7) := (Yf BK438.out 7).trans rfl
      have hfz49_0 := Ye BK438.out 0
      have hfz49_1 := Ye BK438.out 1
      have hfz49_2 := Ye BK438.out 2
      have hfz49_3 := Ye BK438.out 3
      have hfz49_4 := Ye BK438.out 4
      have hfz49_5 := Ye BK438.out 5
      have hfz49_6 := Ye BK438.out 6
      have hfz49_7 := Ye BK438.out 7
      go_wp2_with (first | ((with_reducible refine Yh (f := 72) rfl ?_); refine Yz (some 47) rfl rfl Tryz.func72 Zi rfl #[.agg #[.string a0_0, .string a0_1, .int .i64 a0_2, .string a0_3, .string a0_4, .string a0_5, .bool a0_6, .bool a0_7], .string x6_1] rfl Zb ?_; (with_reducible refine (Ypf.calls a0_0 a0_1 a0_2 a0_3 a0_4 a0_5 a0_6 a0_7 x6_1 t467 t468 t469 t470 t471 t472 t473 t474 t475 _ ?side1 A47.out).mono ?_); (case side1 => first | exact HE.out | exact EnvOk.below HE.out Zj); rintro e w50 ⟨rfl, hb⟩; refine ⟨_, rfl, ?_⟩; have n0_ := Ya.mk (Ydb (g := gb438) (o := .cells #[.string a0_0, .string a0_1, .int .i64 a0_2, .string a0_3, .string a0_4, .string a0_5, .bool a0_6, .bool a0_7] 25 (0, 0)) Zo hb); have n1_ := Ya.mk (Ydb (g := gb439) (o := .cells #[.string x440000_1, .string x440001_1, .int .i64 x440002_1, .string x440003_1, .string x440004_1, .string x440005_1, .bool x440006_1, .bool x440007_1] 25 (0, 0)) Zr hb); have n2_ := Ya.mk (Yq Zj hb); clear BK438; clear BK439; clear HB; have BK438 := n0_; have BK439 := n1_; have HB := n2_; clear n0_ n1_ n2_; (try clear hb); (try clear hb2); (try clear hk); (try clear hi); have hcz51_0 : w50.cell? ⟨gb439, 0, none⟩ = some (.string x440000_1) := (Yf BK439.out 0).trans rfl; have hcz51_1 : w50.cell? ⟨gb439, 1, none⟩ = some (.string x440001_1) := (Yf BK439.out 1).trans rfl; have hcz51_2 : w50.cell? ⟨gb439, 2, none⟩ = some (.int .i64 x440002_1) := (Yf BK439.out 2).trans rfl; have hcz51_3 : w50.cell? ⟨gb439, 3, none⟩ = some (.string x440003_1) := (Yf BK439.out 3).trans rfl; have hcz51_4 : w50.cell? ⟨gb439, 4, none⟩ = some (.string x440004_1) := (Yf BK439.out 4).trans rfl; have hcz51_5 : w50.cell? ⟨gb439, 5, none⟩ = some (.string x440005_1) := (Yf BK439.out 5).trans rfl; have hcz51_6 : w50.cell? ⟨gb439, 6, none⟩ = some (.bool x440006_1) := (Yf BK439.out 6).trans rfl; have hcz51_7 : w50.cell? ⟨gb439, 7, none⟩ = some (.bool x440007_1) := (Yf BK439.out 7).trans rfl; have hfz51_0 := Ye BK439.out 0; have hfz51_1 := Ye BK439.out 1; have hfz51_2 := Ye BK439.out 2; have hfz51_3 := Ye BK439.out 3; have hfz51_4 := Ye BK439.out 4; have hfz51_5 := Ye BK439.out 5; have hfz51_6 := Ye BK439.out 6; have hfz51_7 := Ye BK439.out 7))
      refine bodyPost_ret (Yii rfl _ _ gb439 25 #[.string t467, .string t468, .int .i64 t469, .string t470, .string t471, .string t472, .bool t473, .bool t474] (0, 0) _ rfl (by (with_reducible repeat (first | refine Yl ?_ _ | refine Yp ?_ | refine Ym ?_ _)); refine Yma (cs := #[.string t467, .string t468, .int .i64 t469, .string t470, .string t471, .string t472, .bool t473, .bool x440007_1]) ?_ 7 _ rfl; (with_reducible repeat (first | refine Yl ?_ _ | refine Yp ?_ | refine Ym ?_ _)); refine Yma (cs := #[.string t467, .string t468, .int .i64 t469, .string t470, .string t471, .string t472, .bool x440006_1, .bool x440007_1]) ?_ 6 _ rfl; (with_reducible repeat (first | refine Yl ?_ _ | refine Yp ?_ | refine Ym ?_ _)); refine Yma (cs := #[.string t467, .string t468, .int .i64 t469, .string t470, .string t471, .string x440005_1, .bool x440006_1, .bool x440007_1]) ?_ 5 _ rfl; (with_reducible repeat (first | refine Yl ?_ _ | refine Yp ?_ | refine Ym ?_ _)); refine Yma (cs := #[.string t467, .string t468, .int .i64 t469, .string t470, .string x440004_1, .string x440005_1, .bool x440006_1, .bool x440007_1]) ?_ 4 _ rfl; (with_reducible repeat (first | refine Yl ?_ _ | refine Yp ?_ | refine Ym ?_ _)); refine Yma (cs := #[.string t467, .string t468, .int .i64 t469, .string x440003_1, .string x440004_1, .string x440005_1, .bool x440006_1, .bool x440007_1]) ?_ 3 _ rfl; (with_reducible repeat (first | refine Yl ?_ _ | refine Yp ?_ | refine Ym ?_ _)); refine Yma (cs := #[.string t467, .string t468, .int .i64 x440002_1, .string x440003_1, .string x440004_1, .string x440005_1, .bool x440006_1, .bool x440007_1]) ?_ 2 _ rfl; (with_reducible repeat (first | refine Yl ?_ _ | refine Yp ?_ | refine Ym ?_ _)); refine Yma (cs := #[.string t467, .string x440001_1, .int .i64 x440002_1, .string x440003_1, .string x440004_1, .string x440005_1, .bool x440006_1, .bool x440007_1]) ?_ 1 _ rfl; (with_reducible repeat (first | refine Yl ?_ _ | refine Yp ?_ | refine Ym ?_ _)); refine Yma (cs := #[.string x440000_1, .string x440001_1, .int .i64 x440002_1, .string x440003_1, .string x440004_1, .string x440005_1, .bool x440006_1, .bool x440007_1]) ?_ 0 _ rfl; (with_reducible repeat (first | refine Yl ?_ _ | refine Yp ?_ | refine Ym ?_ _)); exact BK439.out) Tryz.underlying25 rfl Zi) rfl ?_
      exact ⟨Zk, Zj⟩
     subst c28
     rw [if_pos rfl] at H
     have HC29 := Ya.mk H
     clear H
     go_upto_region 11 with (fail)
     go_cut [50] (fun v50 wc => ∃ (kq : Nat) (x50_28 : Bool), v50 = .bool x50_28 ∧ Ya (Yoa.j2 kq x6_1 t443 x50_28 a0_0 a0_1 a0_2 a0_3 a0_4 a0_5 a0_6 a0_7 = some (r1, r2, r3, r4, r5, r6, r7, r8, r9)) ∧ Ya (kq ≤ kj15) ∧ Ya (wc.heap[gb438]? = some (.cells #[.string a0_0, .string a0_1, .int .i64 a0_2, .string a0_3, .string a0_4, .string a0_5, .bool a0_6, .bool a0_7] 25 (0, 0))) ∧ Ya (wc.heap[gb439]? = some (.cells #[.string x440000_1, .string x440001_1, .int .i64 x440002_1, .string x440003_1, .string x440004_1, .string x440005_1, .bool x440006_1, .bool x440007_1] 25 (0, 0))) ∧ Ya (Below w.heap.size w wc))
     case first =>
      have H := HC29.out
      clear HC29
      replace H := Option.bind_eq_some_iff.mp H
      obtain ⟨t455, A300, H⟩ := H
      try dsimp -simprocs only at H
      have A30 := Ya.mk A300
      clear A300
      by_cases c31 : t455 = true
      rotate_left
      ·replace c31 := Bool.eq_false_iff.mpr c31
       subst c31
       rw [if_neg (show ¬ (false = true) by decide)] at H
       have H' := Ya.mk H
       clear H
       have hnb37 := NB438_439.out
       have hnc37 := NB439_438.out
       have hcz38_0 : wc.cell? ⟨gb438, 0, none⟩ = some (.string a0_0) := (Yf BK438.out 0).trans rfl
       have hcz38_1 : wc.cell? ⟨gb438, 1, none⟩ = some (.string a0_1) := (Yf BK438.out 1).trans rfl
       have hcz38_2 : wc.cell? ⟨gb438, 2, none⟩ = some (.int .i64 a0_2) := (Yf BK438.out 2).trans rfl
       have hcz38_3 : wc.cell? ⟨gb438, 3, none⟩ = some (.string a0_3) := (Yf BK438.out 3).trans rfl
       have hcz38_4 : wc.cell? ⟨gb438, 4, none⟩ = some (.string a0_4) := (Yf BK438.out 4).trans rfl
       have hcz38_5 : wc.cell? ⟨gb438, 5, none⟩ = some (.string a0_5) := (Yf BK438.out 5).trans rfl
       have hcz38_6 : wc.cell? ⟨gb438, 6, none⟩ = some (.bool a0_6) := (Yf BK438.out 6).trans rfl
       have hcz38_7 : wc.cell? ⟨gb438, 7, none⟩ = some (.bool a0_7) := (Yf BK438.out 7).trans rfl
       have hfz38_0 := Ye BK438.out 0
       have hfz38_1 := Ye BK438.out 1
       have hfz38_2 := Ye BK438.out 2
       have hfz38_3 := Ye BK438.out 3
       have hfz38_4 := Ye BK438.out 4
       have hfz38_5 := Ye BK438.out 5
       have hfz38_6 := Ye BK438.out 6
       have hfz38_7 := Ye BK438.out 7
       go_wp2_with (first | ((with_reducible refine Yh (f := 73) rfl ?_); refine Yz (some 54) rfl rfl Tryz.func73 Zi rfl #[.string t442, .string a0_0] rfl Zb ?_; (with_reducible refine (Ybg.calls t442 a0_0 false _ ?side1 A30.out).mono ?_); (case side1 => first | exact HE.out | exact EnvOk.below HE.out Zj); rintro e w39 ⟨rfl, hb⟩; refine ⟨_, rfl, ?_⟩; have n0_ := Ya.mk (Ydb (g := gb438) (o := .cells #[.string a0_0, .string a0_1, .int .i64 a0_2, .string a0_3, .string a0_4, .string a0_5, .bool a0_6, .bool a0_7] 25 (0, 0)) Zo hb); have n1_ := Ya.mk (Ydb (g := gb439) (o := .cells #[.string x440000_1, .string x440001_1, .int .i64 x440002_1, .string x440003_1, .string x440004_1, .string x440005_1, .bool x440006_1, .bool x440007_1] 25 (0, 0)) Zr hb); have n2_ := Ya.mk (Yq Zj hb); clear BK438; clear BK439; clear HB; have BK438 := n0_; have BK439 := n1_; have HB := n2_; clear n0_ n1_ n2_; (try clear hb); (try clear hb2); (try clear hk); (try clear hi)))
       go_meet
       case rel => exact ⟨_, (true), Zf, H', ⟨by have := HK1.out; have := HJ15.out; first | omega | exact Nat.le_refl _⟩, ⟨Zo⟩, ⟨Zr⟩, ⟨Zj⟩⟩
      subst c31
      rw [if_pos rfl] at H
      replace H := Option.bind_eq_some_iff.mp H
      obtain ⟨t456, A320, H⟩ := H
      try dsimp -simprocs only at H
      have A32 := Ya.mk A320
      clear A320
      have H' := Ya.mk H
      clear H
      have hnb33 := NB438_439.out
      have hnc33 := NB439_438.out
      have hcz34_0 : wc.cell? ⟨gb438, 0, none⟩ = some (.string a0_0) := (Yf BK438.out 0).trans rfl
      have hcz34_1 : wc.cell? ⟨gb438, 1, none⟩ = some (.string a0_1) := (Yf BK438.out 1).trans rfl
      have hcz34_2 : wc.cell? ⟨gb438, 2, none⟩ = some (.int .i64 a0_2) := (Yf BK438.out 2).trans rfl
      have hcz34_3 : wc.cell? ⟨gb438, 3, none⟩ = some (.string a0_3) := (Yf BK438.out 3).trans rfl
      have hcz34_4 : wc.cell? ⟨gb438, 4, none⟩ = some (.string a0_4) := (Yf BK438.out 4).trans rfl
      have hcz34_5 : wc.cell? ⟨gb438, 5, none⟩ = some (.string a0_5) := (Yf BK438.out 5).trans rfl
      have hcz34_6 : wc.cell? ⟨gb438, 6, none⟩ = some (.bool a0_6) := (Yf BK438.out 6).trans rfl
      have hcz34_7 : wc.cell? ⟨gb438, 7, none⟩ = some (.bool a0_7) := (Yf BK438.out 7).trans rfl
      have hfz34_0 := Ye BK438.out 0
      have hfz34_1 := Ye BK438.out 1
      have hfz34_2 := Ye BK438.out 2
      have hfz34_3 := Ye BK438.out 3
      have hfz34_4 := Ye BK438.out 4
      have hfz34_5 := Ye BK438.out 5
      have hfz34_6 := Ye BK438.out 6
      have hfz34_7 := Ye BK438.out 7
      go_wp2_with (first | ((with_reducible refine Yh (f := 73) rfl ?_); refine Yz (some 54) rfl rfl Tryz.func73 Zi rfl #[.string t442, .string a0_0] rfl Zb ?_; (with_reducible refine (Ybg.calls t442 a0_0 true _ ?side1 A30.out).mono ?_); (case side1 => first | exact HE.out | exact EnvOk.below HE.out Zj); rintro e w35 ⟨rfl, hb⟩; refine ⟨_, rfl, ?_⟩; have n0_ := Ya.mk (Ydb (g := gb438) (o := .cells #[.string a0_0, .string a0_1, .int .i64 a0_2, .string a0_3, .string a0_4, .string a0_5, .bool a0_6, .bool a0_7] 25 (0, 0)) Zo hb); have n1_ := Ya.mk (Ydb (g := gb439) (o := .cells #[.string x440000_1, .string x440001_1, .int .i64 x440002_1, .string x440003_1, .string x440004_1, .string x440005_1, .bool x440006_1, .bool x440007_1] 25 (0, 0)) Zr hb); have n2_ := Ya.mk (Yq Zj hb); clear BK438; clear BK439; clear HB; have BK438 := n0_; have BK439 := n1_; have HB := n2_; clear n0_ n1_ n2_; (try clear hb); (try clear hb2); (try clear hk); (try clear hi)) | (go_at_call 71; (with_reducible refine (Yqb.calls kj15 t443 t456 _ ?side1 A32.out).mono ?_); (case side1 => first | exact HE.out | exact EnvOk.below HE.out Zj); rintro e w36 ⟨rfl, hb⟩; have n0_ := Ya.mk (Ydb (g := gb438) (o := .cells #[.string a0_0, .string a0_1, .int .i64 a0_2, .string a0_3, .string a0_4, .string a0_5, .bool a0_6, .bool a0_7] 25 (0, 0)) Zo hb); have n1_ := Ya.mk (Ydb (g := gb439) (o := .cells #[.string x440000_1, .string x440001_1, .int .i64 x440002_1, .string x440003_1, .string x440004_1, .string x440005_1, .bool x440006_1, .bool x440007_1] 25 (0, 0)) Zr hb); have n2_ := Ya.mk (Yq Zj hb); clear BK438; clear BK439; clear HB; have BK438 := n0_; have BK439 := n1_; have HB := n2_; clear n0_ n1_ n2_; (try clear hb); (try clear hb2); (try clear hk); (try clear hi)))
      go_meet
      case rel => exact ⟨_, (decide (t456 > 0)), Zf, H', ⟨by have := HK1.out; have := HJ15.out; first | omega | exact Nat.le_refl _⟩, ⟨Zo⟩, ⟨Zr⟩, ⟨Zj⟩⟩
     case rest =>
      clear HC29
      try clear c1
      try clear c2
      try clear p2
      try clear c3
      try clear c4
      try clear c7
      try clear c8
      try clear c12
      try clear c12b0
      try clear c12b1
      try clear c13
      try clear c15
      try clear c17
      try clear c20
      try clear c21
      try clear c21b0
      try clear c21b1
      try clear c21b2
      try clear c22
      try clear c22b0
      try clear c22b1
      try clear c22b2
      try clear c24
      try clear c27
      try clear c28
      try clear c31
      try clear c33
      try clear c37
      try clear hcz14_0
      try clear hcz14_1
      try clear hcz14_2
      try clear hcz14_3
      try clear hcz14_4
      try clear hcz14_5
      try clear hcz14_6
      try clear hcz14_7
      try clear hcz25_0
      try clear hcz25_1
      try clear hcz25_2
      try clear hcz25_3
      try clear hcz25_4
      try clear hcz25_5
      try clear hcz25_6
      try clear hcz25_7
      try clear hcz27_0
      try clear hcz27_1
      try clear hcz27_2
      try clear hcz27_3
      try clear hcz27_4
      try clear hcz27_5
      try clear hcz27_6
      try clear hcz27_7
      try clear hcz34_0
      try clear hcz34_1
      try clear hcz34_2
      try clear hcz34_3
      try clear hcz34_4
      try clear hcz34_5
      try clear hcz34_6
      try clear hcz34_7
      try clear hcz38_0
      try clear hcz38_1
      try clear hcz38_2
      try clear hcz38_3
      try clear hcz38_4
      try clear hcz38_5
      try clear hcz38_6
      try clear hcz38_7
      try clear hcz9_0
      try clear hcz9_1
      try clear hcz9_2
      try clear hcz9_3
      try clear hcz9_4
      try clear hcz9_5
      try clear hcz9_6
      try clear hcz9_7
      try clear hfz14_0
      try clear hfz14_1
      try clear hfz14_2
      try clear hfz14_3
      try clear hfz14_4
      try clear hfz14_5
      try clear hfz14_6
      try clear hfz14_7
      try clear hfz25_0
      try clear hfz25_1
      try clear hfz25_2
      try clear hfz25_3
      try clear hfz25_4
      try clear hfz25_5
      try clear hfz25_6
      try clear hfz25_7
      try clear hfz27_0
      try clear hfz27_1
      try clear hfz27_2
      try clear hfz27_3
      try clear hfz27_4
      try clear hfz27_5
      try clear hfz27_6
      try clear hfz27_7
      try clear hfz34_0
      try clear hfz34_1
      try clear hfz34_2
      try clear hfz34_3
      try clear hfz34_4
      try clear hfz34_5
      try clear hfz34_6
      try clear hfz34_7
      try clear hfz38_0
      try clear hfz38_1
      try clear hfz38_2
      try clear hfz38_3
      try clear hfz38_4
      try clear hfz38_5
      try clear hfz38_6
      try clear hfz38_7
      try clear hfz9_0
      try clear hfz9_1
      try clear hfz9_2
      try clear hfz9_3
      try clear hfz9_4
      try clear hfz9_5
      try clear hfz9_6
      try clear hfz9_7
      try clear p2
      obtain ⟨kq, x50_28, rfl, HA, HJ28, BK438, BK439, HB⟩ := hcut
      cases kq with
      | zero => exact absurd HA.out (by simp [Yoa.j2])
      | succ kj28 =>
       have H := HA.out
       clear HA
       simp only [Yoa.j2] at H
       by_cases c40 : x50_28 = true
       rotate_left
       ·replace c40 := Bool.eq_false_iff.mpr c40
        subst c40
        rw [if_neg (show ¬ (false = true) by decide)] at H
        replace H := Option.bind_eq_some_iff.mp H
        obtain ⟨t466, A450, H⟩ := H
        try dsimp -simprocs only at H
        have A45 := Ya.mk A450
        clear A450
        have H' := Ya.mk H
        clear H
        go_wp2_with (first | ((with_reducible refine Yh (f := 21) rfl ?_); refine Yz (some 66) rfl rfl Tryz.func21 Zi rfl #[.string t443] rfl Zb ?_; (with_reducible refine (Ysd.calls t443 t466 _ ?side1 A45.out).mono ?_); (case side1 => first | exact HE.out | exact EnvOk.below HE.out Zj); rintro e w46 ⟨rfl, hb⟩; refine ⟨_, rfl, ?_⟩; have n0_ := Ya.mk (Ydb (g := gb438) (o := .cells #[.string a0_0, .string a0_1, .int .i64 a0_2, .string a0_3, .string a0_4, .string a0_5, .bool a0_6, .bool a0_7] 25 (0, 0)) Zo hb); have n1_ := Ya.mk (Ydb (g := gb439) (o := .cells #[.string x440000_1, .string x440001_1, .int .i64 x440002_1, .string x440003_1, .string x440004_1, .string x440005_1, .bool x440006_1, .bool x440007_1] 25 (0, 0)) Zr hb); have n2_ := Ya.mk (Yq Zj hb); clear BK438; clear BK439; clear HB; have BK438 := n0_; have BK439 := n1_; have HB := n2_; clear n0_ n1_ n2_; (try clear hb); (try clear hb2); (try clear hk); (try clear hi)))
        go_roundg kj28
        case measure => have := HK1.out; have := HJ15.out; have := HJ28.out; omega
        case rel => exact ⟨(t466), (x440000_1), (x440001_1), (x440002_1), (x440003_1), (x440004_1), (x440005_1), (x440006_1), (x440007_1), Zf, H', ⟨by have := HK1.out; have := HJ15.out; have := HJ28.out; omega⟩, ⟨Zo⟩, ⟨Zr⟩, ⟨Zj⟩⟩
       subst c40
       rw [if_pos rfl] at H
       replace H := Option.bind_eq_some_iff.mp H
       obtain ⟨⟨t457, t458, t459, t460, t461, t462, t463, t464, t465⟩, A410, H⟩ := H
       try dsimp -simprocs only at H
       have A41 := Ya.mk A410
       clear A410
       simp only [Option.some.injEq, Prod.mk.injEq] at H
       obtain ⟨rfl, rfl, rfl, rfl, rfl, rfl, rfl, rfl, rfl⟩ := H
       go_wp2_with (first | ((with_reducible refine Yh (f := 15) rfl ?_); refine Yz (some 62) rfl rfl Tryz.func15 Zi rfl #[.string x6_1] rfl Zb ?_; (with_reducible refine (Ypd.calls kj28 x6_1 t457 t458 t459 t460 t461 t462 t463 t464 t465 _ ?side1 A41.out).mono ?_); (case side1 => first | exact HE.out | exact EnvOk.below HE.out Zj); rintro e w42 ⟨rfl, hb⟩; refine ⟨_, rfl, ?_⟩; have n0_ := Ya.mk (Ydb (g := gb438) (o := .cells #[.string a0_0, .string a0_1, .int .i64 a0_2, .string a0_3, .string a0_4, .string a0_5, .bool a0_6, .bool a0_7] 25 (0, 0)) Zo hb); have n1_ := Ya.mk (Ydb (g := gb439) (o := .cells #[.string x440000_1, .string x440001_1, .int .i64 x440002_1, .string x440003_1, .string x440004_1, .string x440005_1, .bool x440006_1, .bool x440007_1] 25 (0, 0)) Zr hb); have n2_ := Ya.mk (Yq Zj hb); clear BK438; clear BK439; clear HB; have BK438 := n0_; have BK439 := n1_; have HB := n2_; clear n0_ n1_ n2_; (try clear hb); (try clear hb2); (try clear hk); (try clear hi); have hnb43 := NB439_438.out; have hnc43 := NB438_439.out; have hcz44_0 : w42.cell? ⟨gb439, 0, none⟩ = some (.string x440000_1) := (Yf BK439.out 0).trans rfl; have hcz44_1 : w42.cell? ⟨gb439, 1, none⟩ = some (.string x440001_1) := (Yf BK439.out 1).trans rfl; have hcz44_2 : w42.cell? ⟨gb439, 2, none⟩ = some (.int .i64 x440002_1) := (Yf BK439.out 2).trans rfl; have hcz44_3 : w42.cell? ⟨gb439, 3, none⟩ = some (.string x440003_1) := (Yf BK439.out 3).trans rfl; have hcz44_4 : w42.cell? ⟨gb439, 4, none⟩ = some (.string x440004_1) := (Yf BK439.out 4).trans rfl; have hcz44_5 : w42.cell? ⟨gb439, 5, none⟩ = some (.string x440005_1) := (Yf BK439.out 5).trans rfl; have hcz44_6 : w42.cell? ⟨gb439, 6, none⟩ = some (.bool x440006_1) := (Yf BK439.out 6).trans rfl; have hcz44_7 : w42.cell? ⟨gb439, 7, none⟩ = some (.bool x440007_1) := (Yf BK439.out 7).trans rfl; have hfz44_0 := Ye BK439.out 0; have hfz44_1 := Ye BK439.out 1; have hfz44_2 := Ye BK439.out 2; have hfz44_3 := Ye BK439.out 3; have hfz44_4 := Ye BK439.out 4; have hfz44_5 := Ye BK439.out 5; have hfz44_6 := Ye BK439.out 6; have hfz44_7 := Ye BK439.out 7))
       refine bodyPost_ret (Yii rfl _ _ gb439 25 #[.string t457, .string t458, .int .i64 t459, .string t460, .string t461, .string t462, .bool t463, .bool t464] (0, 0) _ rfl (by (with_reducible repeat (first | refine Yl ?_ _ | refine Yp ?_ | refine Ym ?_ _)); refine Yma (cs := #[.string t457, .string t458, .int .i64 t459, .string t460, .string t461, .string t462, .bool t463, .bool x440007_1]) ?_ 7 _ rfl; (with_reducible repeat (first | refine Yl ?_ _ | refine Yp ?_ | refine Ym ?_ _)); refine Yma (cs := #[.string t457, .string t458, .int .i64 t459, .string t460, .string t461, .string t462, .bool x440006_1, .bool x440007_1]) ?_ 6 _ rfl; (with_reducible repeat (first | refine Yl ?_ _ | refine Yp ?_ | refine Ym ?_ _)); refine Yma (cs := #[.string t457, .string t458, .int .i64 t459, .string t460, .string t461, .string x440005_1, .bool x440006_1, .bool x440007_1]) ?_ 5 _ rfl; (with_reducible repeat (first | refine Yl ?_ _ | refine Yp ?_ | refine Ym ?_ _)); refine Yma (cs := #[.string t457, .string t458, .int .i64 t459, .string t460, .string x440004_1, .string x440005_1, .bool x440006_1, .bool x440007_1]) ?_ 4 _ rfl; (with_reducible repeat (first | refine Yl ?_ _ | refine Yp ?_ | refine Ym ?_ _)); refine Yma (cs := #[.string t457, .string t458, .int .i64 t459, .string x440003_1, .string x440004_1, .string x440005_1, .bool x440006_1, .bool x440007_1]) ?_ 3 _ rfl; (with_reducible repeat (first | refine Yl ?_ _ | refine Yp ?_ | refine Ym ?_ _)); refine Yma (cs := #[.string t457, .string t458, .int .i64 x440002_1, .string x440003_1, .string x440004_1, .string x440005_1, .bool x440006_1, .bool x440007_1]) ?_ 2 _ rfl; (with_reducible repeat (first | refine Yl ?_ _ | refine Yp ?_ | refine Ym ?_ _)); refine Yma (cs := #[.string t457, .string x440001_1, .int .i64 x440002_1, .string x440003_1, .string x440004_1, .string x440005_1, .bool x440006_1, .bool x440007_1]) ?_ 1 _ rfl; (with_reducible repeat (first | refine Yl ?_ _ | refine Yp ?_ | refine Ym ?_ _)); refine Yma (cs := #[.string x440000_1, .string x440001_1, .int .i64 x440002_1, .string x440003_1, .string x440004_1, .string x440005_1, .bool x440006_1, .bool x440007_1]) ?_ 0 _ rfl; (with_reducible repeat (first | refine Yl ?_ _ | refine Yp ?_ | refine Ym ?_ _)); exact BK439.out) Tryz.underlying25 rfl Zi) rfl ?_
       exact ⟨Zk, Zj⟩
end Go.Proofs.YtnmglnglbdpjjaaGreatDoor.X
