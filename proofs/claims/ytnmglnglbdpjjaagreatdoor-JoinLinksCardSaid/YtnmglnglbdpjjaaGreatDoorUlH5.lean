/- alive: what a call of it does where the one URL is parsed as it must be. -/
import Derived.Test.YtnmglnglbdpjjaaGreatDoorUlH4
import Derived.Test.YtnmglnglbdpjjaaGreatDoorUlWords
namespace Go.Proofs.YtnmglnglbdpjjaaGreatDoor.X
open Go.RowKit Go.Lib Go.Shelf Go.Yw.PrintWords Go.Yw.PrintLast Go.Yw.PrintMore
set_option linter.unusedVariables false
set_option linter.unusedSimpArgs false
abbrev aliveIn : ByteArray := ⟨#[72, 84, 84, 80, 58, 47, 47, 69, 120, 46, 111, 114, 103, 58, 56, 48, 47, 97, 47, 46, 47, 98, 47, 46, 46, 47, 99, 63, 120, 35, 121]⟩
abbrev aliveOut : ByteArray := ⟨#[104, 116, 116, 112, 58, 47, 47, 101, 120, 46, 111, 114, 103, 47, 97, 47, 99, 63, 120, 35, 121]⟩
def aliveAt (k : Nat) : Prop :=
 Yqd.f k aliveIn = some (⟨#[104, 116, 116, 112]⟩, ⟨#[101, 120, 46, 111, 114, 103]⟩, 0, ⟨#[47, 97, 47, 99]⟩, ⟨#[120]⟩, ⟨#[121]⟩, true, true, 0) ∧
 Yid.f k ⟨#[104, 116, 116, 112]⟩ ⟨#[101, 120, 46, 111, 114, 103]⟩ 0 ⟨#[47, 97, 47, 99]⟩ ⟨#[120]⟩ ⟨#[121]⟩ true true = some aliveOut
theorem eqH25 (d : Nat) (w : World) (x0 y0 x1 y1 : ByteArray) (x2 y2 : Int) (x3 y3 x4 y4 x5 y5 : ByteArray) (x6 y6 x7 y7 : Bool) :
  (Op.equalIn (d + 2) 25 (.agg #[.string x0, .string x1, .int .i64 x2, .string x3, .string x4, .string x5, .bool x6, .bool x7]) (.agg #[.string y0, .string y1, .int .i64 y2, .string y3, .string y4, .string y5, .bool y6, .bool y7])).run Tryz.prog w = .ok (x0.toList == y0.toList && (x1.toList == y1.toList && (x2 == y2 && (x3.toList == y3.toList && (x4.toList == y4.toList && (x5.toList == y5.toList && (x6 == y6 && (x7 == y7)))))))) w := by
 refine eqA_of Tryz.underlying25 Zi ?_
 refine Yrf Zga (by go_simp; rfl) (by go_simp; rfl) (by go_simp) ?_
 refine Yrf Zga (by go_simp; rfl) (by go_simp; rfl) (by go_simp) ?_
 refine Yrf Zga (by go_simp; rfl) (by go_simp; rfl) (by go_simp) ?_
 refine Yrf Zga (by go_simp; rfl) (by go_simp; rfl) (by go_simp) ?_
 refine Yrf Zga (by go_simp; rfl) (by go_simp; rfl) (by go_simp) ?_
 refine Yrf Zga (by go_simp; rfl) (by go_simp; rfl) (by go_simp) ?_
 refine Yrf Zga (by go_simp; rfl) (by go_simp; rfl) (by go_simp) ?_
 exact Yvs Zga (by go_simp; rfl) (by go_simp; rfl) (by go_simp)
theorem eqAlive (d : Nat) (w : World) : (Op.equalIn (d + 2) 25 (.agg #[.string ⟨#[104, 116, 116, 112]⟩, .string ⟨#[101, 120, 46, 111, 114, 103]⟩, .int .i64 0, .string ⟨#[47, 97, 47, 99]⟩, .string ⟨#[120]⟩, .string ⟨#[121]⟩, .bool true, .bool true]) (.agg #[.string ⟨#[104, 116, 116, 112]⟩, .string ⟨#[101, 120, 46, 111, 114, 103]⟩, .int .i64 0, .string ⟨#[47, 97, 47, 99]⟩, .string ⟨#[120]⟩, .string ⟨#[121]⟩, .bool true, .bool true])).run Tryz.prog w = .ok true w := by
 rw [eqH25]
 simp only [beq_self_eq_true, Bool.and_self]
attribute [local go_sem high] eqAlive
instance eqUrl5 : DecidableEq (ByteArray × ByteArray × Bool × Bool × Int) := inferInstance
instance eqUrl3 : DecidableEq (Int × ByteArray × ByteArray × ByteArray × Bool × Bool × Int) := inferInstance
instance eqUrl1 : DecidableEq (ByteArray × ByteArray × Int × ByteArray × ByteArray × ByteArray × Bool × Bool × Int) := inferInstance
instance (k : Nat) : Decidable (aliveAt k) := by unfold aliveAt; infer_instance
end Go.Proofs.YtnmglnglbdpjjaaGreatDoor.X
