/- Printed by a program of ours: functions as plain Lean, and what a call of each does. -/
import Derived.Test.YtnmglnglbdpjjaaGreatDoorUcX0
namespace Go.Proofs.YtnmglnglbdpjjaaGreatDoor.X
open Go.RowKit Go.Yw.PrintWords Go.Yw.PrintLast Go.Yw.PrintMore
attribute [local go_sem] Yld Yjd Yje Yie Yuc Yvc Yid Yhd
set_option linter.unusedVariables false
set_option linter.unusedSimpArgs false
theorem eqA25 (d : Nat) (w : World) (x0 y0 : ByteArray) (x1 y1 : ByteArray) (x2 y2 : Int) (x3 y3 : ByteArray) (x4 y4 : ByteArray) (x5 y5 : ByteArray) (x6 y6 : Bool) (x7 y7 : Bool) :
  (Op.equalIn (d + 2) 25 (.agg #[.string x0, .string x1, .int .i64 x2, .string x3, .string x4, .string x5, .bool x6, .bool x7]) (.agg #[.string y0, .string y1, .int .i64 y2, .string y3, .string y4, .string y5, .bool y6, .bool y7])).run Tryz.prog w = .ok (x0.toList == y0.toList && (x1.toList == y1.toList && (x2 == y2 && (x3.toList == y3.toList && (x4.toList == y4.toList && (x5.toList == y5.toList && (x6 == y6 && (x7 == y7)))))))) w := by
 refine eqA_of Tryz.underlying25 (by kernel_rfl) ?_
 refine Yle (by rfl) (by go_simp; rfl) (by go_simp; rfl) (by go_simp) ?_
 refine Yle (by rfl) (by go_simp; rfl) (by go_simp; rfl) (by go_simp) ?_
 refine Yle (by rfl) (by go_simp; rfl) (by go_simp; rfl) (by go_simp) ?_
 refine Yle (by rfl) (by go_simp; rfl) (by go_simp; rfl) (by go_simp) ?_
 refine Yle (by rfl) (by go_simp; rfl) (by go_simp; rfl) (by go_simp) ?_
 refine Yle (by rfl) (by go_simp; rfl) (by go_simp; rfl) (by go_simp) ?_
 refine Yle (by rfl) (by go_simp; rfl) (by go_simp; rfl) (by go_simp) ?_
 exact Yuo (by rfl) (by go_simp; rfl) (by go_simp; rfl) (by go_simp)
end Go.Proofs.YtnmglnglbdpjjaaGreatDoor.X
