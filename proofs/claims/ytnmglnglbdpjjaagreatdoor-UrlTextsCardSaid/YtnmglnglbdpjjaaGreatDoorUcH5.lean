/- alive: what a call of it does where the one URL is parsed as it must be. -/
import Derived.Test.YtnmglnglbdpjjaaGreatDoorUcH4
import Derived.Test.YtnmglnglbdpjjaaGreatDoorUcWords
namespace Go.Proofs.YtnmglnglbdpjjaaGreatDoor.X
open Go.RowKit Go.Lib Go.Shelf Go.Yw.PrintWords Go.Yw.PrintLast Go.Yw.PrintMore
set_option linter.unusedVariables false
set_option linter.unusedSimpArgs false
abbrev aliveIn : ByteArray := ⟨#[72, 84, 84, 80, 58, 47, 47, 69, 120, 46, 111, 114, 103, 58, 56, 48, 47, 97, 47, 46, 47, 98, 47, 46, 46, 47, 99, 63, 120, 35, 121]⟩
abbrev aliveOut : ByteArray := ⟨#[104, 116, 116, 112, 58, 47, 47, 101, 120, 46, 111, 114, 103, 47, 97, 47, 99, 63, 120, 35, 121]⟩
def Yyi (k : Nat) : Prop :=
  Yfe.f k aliveIn = some (⟨#[104, 116, 116, 112]⟩, ⟨#[101, 120, 46, 111, 114, 103]⟩, 0, ⟨#[47, 97, 47, 99]⟩, ⟨#[120]⟩, ⟨#[121]⟩, true, true, 0) ∧
  Ync.f k ⟨#[104, 116, 116, 112]⟩ ⟨#[101, 120, 46, 111, 114, 103]⟩ 0 ⟨#[47, 97, 47, 99]⟩ ⟨#[120]⟩ ⟨#[121]⟩ true true = some aliveOut
theorem eqH25 (d : Nat) (w : World) (x0 y0 x1 y1 : ByteArray) (x2 y2 : Int) (x3 y3 x4 y4 x5 y5 : ByteArray) (x6 y6 x7 y7 : Bool) :
    (Op.equalIn (d + 2) 25 (.agg #[.string x0, .string x1, .int .i64 x2, .string x3, .string x4, .string x5, .bool x6, .bool x7]) (.agg #[.string y0, .string y1, .int .i64 y2, .string y3, .string y4, .string y5, .bool y6, .bool y7])).run Tryz.prog w = .ok (x0.toList == y0.toList && (x1.toList == y1.toList && (x2 == y2 && (x3.toList == y3.toList && (x4.toList == y4.toList && (x5.toList == y5.toList && (x6 == y6 && (x7 == y7)))))))) w := by
  refine eqA_of Tryz.underlying25 (by kernel_rfl) ?_
  refine Yle (by rfl) (by go_simp; rfl) (by go_simp; rfl) (by go_simp) ?_
  refine Yle (by rfl) (by go_simp; rfl) (by go_simp; rfl) (by go_simp) ?_
  refine Yle (by rfl) (by go_simp; rfl) (by go_simp; rfl) (by go_simp) ?_
  refine Yle (by rfl) (by go_simp; rfl) (by go_simp; rfl) (by go_simp) ?_
  refine Yle (by rfl) (by go_simp; rfl) (by go_simp; rfl) (by go_simp) ?_
  refine Yle (by rfl) (by go_simp; rfl) (by go_simp; rfl) (by go_simp) ?_
  refine Yle (by rfl) (by go_simp; rfl) (by go_simp; rfl) (by go_simp) ?_
  exact Yuo (by rfl) (by go_simp; rfl) (by go_simp; rfl) (by go_simp)
theorem eqAlive (d : Nat) (w : World) : (Op.equalIn (d + 2) 25 (.agg #[.string ⟨#[104, 116, 116, 112]⟩, .string ⟨#[101, 120, 46, 111, 114, 103]⟩, .int .i64 0, .string ⟨#[47, 97, 47, 99]⟩, .string ⟨#[120]⟩, .string ⟨#[121]⟩, .bool true, .bool true]) (.agg #[.string ⟨#[104, 116, 116, 112]⟩, .string ⟨#[101, 120, 46, 111, 114, 103]⟩, .int .i64 0, .string ⟨#[47, 97, 47, 99]⟩, .string ⟨#[120]⟩, .string ⟨#[121]⟩, .bool true, .bool true])).run Tryz.prog w = .ok true w := by
  rw [eqH25]
  simp only [beq_self_eq_true, Bool.and_self]
attribute [local go_sem high] eqAlive
set_option maxHeartbeats 8000000 in
set_option maxRecDepth 100000 in
theorem Yff (k : Nat) (w : World) (hE : EnvOk w) (h : Yyi k) :
    Calls Tryz.prog 14 #[] w fun e w' => e = .returned (.bool true) ∧ Below w.heap.size w w' := by
  have HE := Ya.mk hE
  have HP := Ya.mk h.1
  have HS := Ya.mk h.2
  have hu25 := Tryz.underlying25
  have hi25 : (Tryz.prog.info? 25).map (·.size) = some 8 := by kernel_rfl
  clear hE h
  go_enter Tryz.func14, Tryz.ntmps14
  go_wp2_with fail
  refine (Yfe.calls k _ _ _ _ _ _ _ _ _ _ _ HE.out HP.out).mono ?_
  rintro e w1 ⟨rfl, hb1⟩
  have HZ := Ya.mk (heap_alloc_new w1 (.cells urlZ 25))
  have HB1 := Ya.mk (hb1.alloc hb1.size (.cells urlZ 25))
  have HG := Ya.mk hb1.size
  clear hb1
  go_wp2_with (refine wpList_store_row rfl 25 (.tmp 1) (.tmp 5) rfl w1.heap.size #[.string ⟨#[104, 116, 116, 112]⟩, .string ⟨#[101, 120, 46, 111, 114, 103]⟩, .int .i64 0, .string ⟨#[47, 97, 47, 99]⟩, .string ⟨#[120]⟩, .string ⟨#[121]⟩, .bool true, .bool true] rfl rfl 25 _ HZ.out hi25 rfl (Ycc _ _ _ _ _ _ _ _) ?_
               have hbk := setRow_heap _ _ _ #[.string ⟨#[104, 116, 116, 112]⟩, .string ⟨#[101, 120, 46, 111, 114, 103]⟩, .int .i64 0, .string ⟨#[47, 97, 47, 99]⟩, .string ⟨#[120]⟩, .string ⟨#[121]⟩, .bool true, .bool true] _ _ HZ.out
               have HB2 := Ya.mk (below_setRow HB1.out HG.out #[.string ⟨#[104, 116, 116, 112]⟩, .string ⟨#[101, 120, 46, 111, 114, 103]⟩, .int .i64 0, .string ⟨#[47, 97, 47, 99]⟩, .string ⟨#[120]⟩, .string ⟨#[121]⟩, .bool true, .bool true])
               generalize (w1.alloc (.cells urlZ 25)).setRow w1.heap.size #[.string ⟨#[104, 116, 116, 112]⟩, .string ⟨#[101, 120, 46, 111, 114, 103]⟩, .int .i64 0, .string ⟨#[47, 97, 47, 99]⟩, .string ⟨#[120]⟩, .string ⟨#[121]⟩, .bool true, .bool true] = w2 at hbk HB2 ⊢
               have hc0 := (Yf hbk 0).trans rfl
               have hc1 := (Yf hbk 1).trans rfl
               have hc2 := (Yf hbk 2).trans rfl
               have hc3 := (Yf hbk 3).trans rfl
               have hc4 := (Yf hbk 4).trans rfl
               have hc5 := (Yf hbk 5).trans rfl
               have hc6 := (Yf hbk 6).trans rfl
               have hc7 := (Yf hbk 7).trans rfl
               clear hbk)
  refine (Ync.calls k _ _ _ _ _ _ _ _ _ _ (HE.out.below HB2.out) HS.out).mono ?_
  rintro e w3 ⟨rfl, hbx⟩
  have HB3 := Ya.mk (HB2.out.trans (hbx.mono HB2.out.size))
  go_wp2_with fail
  go_ret
  exact ⟨rfl, HB3.out⟩
instance eqUrl5 : DecidableEq (ByteArray × ByteArray × Bool × Bool × Int) := inferInstance
instance eqUrl3 : DecidableEq (Int × ByteArray × ByteArray × ByteArray × Bool × Bool × Int) := inferInstance
instance eqUrl1 : DecidableEq (ByteArray × ByteArray × Int × ByteArray × ByteArray × ByteArray × Bool × Bool × Int) := inferInstance
instance (k : Nat) : Decidable (Yyi k) := by unfold Yyi; infer_instance
end Go.Proofs.YtnmglnglbdpjjaaGreatDoor.X
