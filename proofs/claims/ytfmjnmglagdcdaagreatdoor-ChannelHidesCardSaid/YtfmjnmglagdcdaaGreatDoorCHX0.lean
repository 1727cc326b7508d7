/- Printed by a program of ours: functions as plain Lean, and what a call of each does. -/
import Derived.Test.YtfmjnmglagdcdaaGreatDoorProg
import Derived.Below
import Derived.Deep.Draws
import Derived.Deep.AppendLies
import Derived.Maps.AppendAt
import Derived.OwnWalk
import Derived.Laws.BytesArg
import Derived.Laws.MakeOwn
import Derived.Laws.OwnMore
import Derived.Deep.OwnRows
import Derived.Tactics
import Derived.Lib.ConvBytes
import Derived.Laws.Slices
import Derived.WalkKit
import Derived.KernelRfl
import Derived.RowKit3
import Derived.Deep.LoopGhost
import Derived.Deep.QuietTactic
import Derived.BigQuiet
import Derived.WideLaws
import Derived.Deep.DeepCutAuto
import Derived.Deep.CutBlock
import Derived.Deep.RegionHeld3
import Derived.Laws.Rows
import Derived.Lib.AppendStr
import Derived.ArgAppend
import Derived.Laws.IdiomCopy
import Derived.OrdersHeld
import Derived.Laws.BitsLemmas
import Derived.RowKit
import Derived.Test.YtfmjnmglagdcdaaGreatDoorCHWords
import Derived.Test.YtfmjnmglagdcdaaGreatDoorCHEnv
namespace Go.Proofs.YtfmjnmglagdcdaaGreatDoor.X
open Go.RowKit Go.Yw.PrintWords Go.Yw.PrintLast Go.Yw.PrintMore
attribute [local go_sem] Ygf Ybf Yzf Yag Yme Ype Ydf Yff
set_option linter.unusedVariables false
set_option linter.unusedSimpArgs false
def errW : Option Int → Value
 | none => .nilIface
 | some c => .iface 0 (.int .i64 c)
theorem Yk : errW none = .nilIface := rfl
theorem Yl (c : Int) : errW (some c) = .iface 0 (.int .i64 c) := rfl
theorem info5 : (Tryz.prog.info? 5).map (fun i => (i.zero, i.size, i.bytes)) = some (some (.int .u8 0), 1, 1) := by kernel_rfl
theorem Ycj : (Tryz.prog.info? 9).map (fun i => (i.zero, i.size, i.bytes)) = some (some (.string ⟨#[]⟩), 1, 16) := by kernel_rfl
-- the values' own types
def IsS101 (w0 W : World) (g : Nat) (f0 : ByteArray) (f1 : ByteArray) (f2 : ByteArray) (f3 : Int) (f4 : ByteArray) (f5 : ByteArray) (f6 : ByteArray) (f7 : Bool) (f8 : Bool) : Prop := W.heap[g]? = some (.cells #[.string f0, .string f1, .string f2, .int .i64 f3, .string f4, .string f5, .string f6, .bool f7, .bool f8] 101 (0, 0)) ∧ w0.heap.size ≤ g
theorem IsS101.grown {w0 W : World} {g : Nat} {f0 : ByteArray} {f1 : ByteArray} {f2 : ByteArray} {f3 : Int} {f4 : ByteArray} {f5 : ByteArray} {f6 : ByteArray} {f7 : Bool} {f8 : Bool} {W1 : World} {row : Option Nat} (h : IsS101 w0 W g f0 f1 f2 f3 f4 f5 f6 f7 f8) (hw : W.grownBy W1 row) (hne : some g ≠ row) : IsS101 w0 W1 g f0 f1 f2 f3 f4 f5 f6 f7 f8 := by
 obtain ⟨hb, hg⟩ := h
 exact ⟨blk_grown hb hw hne, hg⟩
theorem IsS101.below {w0 W : World} {g : Nat} {f0 : ByteArray} {f1 : ByteArray} {f2 : ByteArray} {f3 : Int} {f4 : ByteArray} {f5 : ByteArray} {f6 : ByteArray} {f7 : Bool} {f8 : Bool} {W1 : World} (h : IsS101 w0 W g f0 f1 f2 f3 f4 f5 f6 f7 f8) (hw : Below W.heap.size W W1) : IsS101 w0 W1 g f0 f1 f2 f3 f4 f5 f6 f7 f8 := h.grown (Ytg hw none) Zy
theorem IsS101.drewN {w0 W : World} {g : Nat} {f0 : ByteArray} {f1 : ByteArray} {f2 : ByteArray} {f3 : Int} {f4 : ByteArray} {f5 : ByteArray} {f6 : ByteArray} {f7 : Bool} {f8 : Bool} (h : IsS101 w0 W g f0 f1 f2 f3 f4 f5 f6 f7 f8) (m : Nat) : IsS101 w0 (W.drewN m) g f0 f1 f2 f3 f4 f5 f6 f7 f8 := h
theorem IsS101.apart {w0 W : World} {g : Nat} {f0 : ByteArray} {f1 : ByteArray} {f2 : ByteArray} {f3 : Int} {f4 : ByteArray} {f5 : ByteArray} {f6 : ByteArray} {f7 : Bool} {f8 : Bool} {α : Type} {d : Kd α} {e : Nat} {base : Nat} {ok : Nat → Prop} {v : Value} {xs : List α} (h : IsS101 w0 W g f0 f1 f2 f3 f4 f5 f6 f7 f8) (ho : d.R e W base ok v xs) (ht : ∀ q, q ∈ e :: d.E → q ≠ 101) : d.R e W base (fun k => ok k ∧ k ≠ g) v xs := by
 obtain ⟨hb, hg⟩ := h
 exact Kd.R_types ho hb ht
theorem IsS101.ge {w0 W : World} {g : Nat} {f0 : ByteArray} {f1 : ByteArray} {f2 : ByteArray} {f3 : Int} {f4 : ByteArray} {f5 : ByteArray} {f6 : ByteArray} {f7 : Bool} {f8 : Bool} (h : IsS101 w0 W g f0 f1 f2 f3 f4 f5 f6 f7 f8) : w0.heap.size ≤ g := by
 obtain ⟨hb, hg⟩ := h
 exact hg
theorem Yy {W : World} {g : Nat} {f0 : ByteArray} {f1 : ByteArray} {f2 : ByteArray} {f3 : Int} {f4 : ByteArray} {f5 : ByteArray} {f6 : ByteArray} {f7 : Bool} {f8 : Bool} (h : W.heap[g]? = some (.cells #[.string f0, .string f1, .string f2, .int .i64 f3, .string f4, .string f5, .string f6, .bool f7, .bool f8] 101 (0, 0))) : W.cell? ⟨g, 0, none⟩ = some (.string f0) := (Yf h 0).trans rfl
theorem IsS101.set_0 {w0 W : World} {g : Nat} {f0 : ByteArray} {f1 : ByteArray} {f2 : ByteArray} {f3 : Int} {f4 : ByteArray} {f5 : ByteArray} {f6 : ByteArray} {f7 : Bool} {f8 : Bool} (h : IsS101 w0 W g f0 f1 f2 f3 f4 f5 f6 f7 f8) (x : ByteArray) : IsS101 w0 (W.setCell ⟨g, 0, none⟩ (.string x)) g x f1 f2 f3 f4 f5 f6 f7 f8 := by
 obtain ⟨hb, hg⟩ := h
 exact ⟨by simpa using Yce hb 0 (.string x), hg⟩
theorem Yia {W : World} {g : Nat} {f0 : ByteArray} {f1 : ByteArray} {f2 : ByteArray} {f3 : Int} {f4 : ByteArray} {f5 : ByteArray} {f6 : ByteArray} {f7 : Bool} {f8 : Bool} (h : W.heap[g]? = some (.cells #[.string f0, .string f1, .string f2, .int .i64 f3, .string f4, .string f5, .string f6, .bool f7, .bool f8] 101 (0, 0))) : W.cell? ⟨g, 1, none⟩ = some (.string f1) := (Yf h 1).trans rfl
theorem IsS101.set_1 {w0 W : World} {g : Nat} {f0 : ByteArray} {f1 : ByteArray} {f2 : ByteArray} {f3 : Int} {f4 : ByteArray} {f5 : ByteArray} {f6 : ByteArray} {f7 : Bool} {f8 : Bool} (h : IsS101 w0 W g f0 f1 f2 f3 f4 f5 f6 f7 f8) (x : ByteArray) : IsS101 w0 (W.setCell ⟨g, 1, none⟩ (.string x)) g f0 x f2 f3 f4 f5 f6 f7 f8 := by
 obtain ⟨hb, hg⟩ := h
 exact ⟨by simpa using Yce hb 1 (.string x), hg⟩
theorem Yja {W : World} {g : Nat} {f0 : ByteArray} {f1 : ByteArray} {f2 : ByteArray} {f3 : Int} {f4 : ByteArray} {f5 : ByteArray} {f6 : ByteArray} {f7 : Bool} {f8 : Bool} (h : W.heap[g]? = some (.cells #[.string f0, .string f1, .string f2, .int .i64 f3, .string f4, .string f5, .string f6, .bool f7, .bool f8] 101 (0, 0))) : W.cell? ⟨g, 2, none⟩ = some (.string f2) := (Yf h 2).trans rfl
theorem IsS101.set_2 {w0 W : World} {g : Nat} {f0 : ByteArray} {f1 : ByteArray} {f2 : ByteArray} {f3 : Int} {f4 : ByteArray} {f5 : ByteArray} {f6 : ByteArray} {f7 : Bool} {f8 : Bool} (h : IsS101 w0 W g f0 f1 f2 f3 f4 f5 f6 f7 f8) (x : ByteArray) : IsS101 w0 (W.setCell ⟨g, 2, none⟩ (.string x)) g f0 f1 x f3 f4 f5 f6 f7 f8 := by
 obtain ⟨hb, hg⟩ := h
 exact ⟨by simpa using Yce hb 2 (.string x), hg⟩
theorem Yka {W : World} {g : Nat} {f0 : ByteArray} {f1 : ByteArray} {f2 : ByteArray} {f3 : Int} {f4 : ByteArray} {f5 : ByteArray} {f6 : ByteArray} {f7 : Bool} {f8 : Bool} (h : W.heap[g]? = some (.cells #[.string f0, .string f1, .string f2, .int .i64 f3, .string f4, .string f5, .string f6, .bool f7, .bool f8] 101 (0, 0))) : W.cell? ⟨g, 3, none⟩ = some (.int .i64 f3) := (Yf h 3).trans rfl
theorem IsS101.set_3 {w0 W : World} {g : Nat} {f0 : ByteArray} {f1 : ByteArray} {f2 : ByteArray} {f3 : Int} {f4 : ByteArray} {f5 : ByteArray} {f6 : ByteArray} {f7 : Bool} {f8 : Bool} (h : IsS101 w0 W g f0 f1 f2 f3 f4 f5 f6 f7 f8) (x : Int) : IsS101 w0 (W.setCell ⟨g, 3, none⟩ (.int .i64 x)) g f0 f1 f2 x f4 f5 f6 f7 f8 := by
 obtain ⟨hb, hg⟩ := h
 exact ⟨by simpa using Yce hb 3 (.int .i64 x), hg⟩
theorem Yga {W : World} {g : Nat} {f0 : ByteArray} {f1 : ByteArray} {f2 : ByteArray} {f3 : Int} {f4 : ByteArray} {f5 : ByteArray} {f6 : ByteArray} {f7 : Bool} {f8 : Bool} (h : W.heap[g]? = some (.cells #[.string f0, .string f1, .string f2, .int .i64 f3, .string f4, .string f5, .string f6, .bool f7, .bool f8] 101 (0, 0))) : W.cell? ⟨g, 4, none⟩ = some (.string f4) := (Yf h 4).trans rfl
theorem IsS101.set_4 {w0 W : World} {g : Nat} {f0 : ByteArray} {f1 : ByteArray} {f2 : ByteArray} {f3 : Int} {f4 : ByteArray} {f5 : ByteArray} {f6 : ByteArray} {f7 : Bool} {f8 : Bool} (h : IsS101 w0 W g f0 f1 f2 f3 f4 f5 f6 f7 f8) (x : ByteArray) : IsS101 w0 (W.setCell ⟨g, 4, none⟩ (.string x)) g f0 f1 f2 f3 x f5 f6 f7 f8 := by
 obtain ⟨hb, hg⟩ := h
 exact ⟨by simpa using Yce hb 4 (.string x), hg⟩
theorem Yea {W : World} {g : Nat} {f0 : ByteArray} {f1 : ByteArray} {f2 : ByteArray} {f3 : Int} {f4 : ByteArray} {f5 : ByteArray} {f6 : ByteArray} {f7 : Bool} {f8 : Bool} (h : W.heap[g]? = some (.cells #[.string f0, .string f1, .string f2, .int .i64 f3, .string f4, .string f5, .string f6, .bool f7, .bool f8] 101 (0, 0))) : W.cell? ⟨g, 5, none⟩ = some (.string f5) := (Yf h 5).trans rfl
theorem IsS101.set_5 {w0 W : World} {g : Nat} {f0 : ByteArray} {f1 : ByteArray} {f2 : ByteArray} {f3 : Int} {f4 : ByteArray} {f5 : ByteArray} {f6 : ByteArray} {f7 : Bool} {f8 : Bool} (h : IsS101 w0 W g f0 f1 f2 f3 f4 f5 f6 f7 f8) (x : ByteArray) : IsS101 w0 (W.setCell ⟨g, 5, none⟩ (.string x)) g f0 f1 f2 f3 f4 x f6 f7 f8 := by
 obtain ⟨hb, hg⟩ := h
 exact ⟨by simpa using Yce hb 5 (.string x), hg⟩
theorem Yaa {W : World} {g : Nat} {f0 : ByteArray} {f1 : ByteArray} {f2 : ByteArray} {f3 : Int} {f4 : ByteArray} {f5 : ByteArray} {f6 : ByteArray} {f7 : Bool} {f8 : Bool} (h : W.heap[g]? = some (.cells #[.string f0, .string f1, .string f2, .int .i64 f3, .string f4, .string f5, .string f6, .bool f7, .bool f8] 101 (0, 0))) : W.cell? ⟨g, 6, none⟩ = some (.string f6) := (Yf h 6).trans rfl
theorem IsS101.set_6 {w0 W : World} {g : Nat} {f0 : ByteArray} {f1 : ByteArray} {f2 : ByteArray} {f3 : Int} {f4 : ByteArray} {f5 : ByteArray} {f6 : ByteArray} {f7 : Bool} {f8 : Bool} (h : IsS101 w0 W g f0 f1 f2 f3 f4 f5 f6 f7 f8) (x : ByteArray) : IsS101 w0 (W.setCell ⟨g, 6, none⟩ (.string x)) g f0 f1 f2 f3 f4 f5 x f7 f8 := by
 obtain ⟨hb, hg⟩ := h
 exact ⟨by simpa using Yce hb 6 (.string x), hg⟩
theorem Yda {W : World} {g : Nat} {f0 : ByteArray} {f1 : ByteArray} {f2 : ByteArray} {f3 : Int} {f4 : ByteArray} {f5 : ByteArray} {f6 : ByteArray} {f7 : Bool} {f8 : Bool} (h : W.heap[g]? = some (.cells #[.string f0, .string f1, .string f2, .int .i64 f3, .string f4, .string f5, .string f6, .bool f7, .bool f8] 101 (0, 0))) : W.cell? ⟨g, 7, none⟩ = some (.bool f7) := (Yf h 7).trans rfl
theorem IsS101.set_7 {w0 W : World} {g : Nat} {f0 : ByteArray} {f1 : ByteArray} {f2 : ByteArray} {f3 : Int} {f4 : ByteArray} {f5 : ByteArray} {f6 : ByteArray} {f7 : Bool} {f8 : Bool} (h : IsS101 w0 W g f0 f1 f2 f3 f4 f5 f6 f7 f8) (x : Bool) : IsS101 w0 (W.setCell ⟨g, 7, none⟩ (.bool x)) g f0 f1 f2 f3 f4 f5 f6 x f8 := by
 obtain ⟨hb, hg⟩ := h
 exact ⟨by simpa using Yce hb 7 (.bool x), hg⟩
theorem Yba {W : World} {g : Nat} {f0 : ByteArray} {f1 : ByteArray} {f2 : ByteArray} {f3 : Int} {f4 : ByteArray} {f5 : ByteArray} {f6 : ByteArray} {f7 : Bool} {f8 : Bool} (h : W.heap[g]? = some (.cells #[.string f0, .string f1, .string f2, .int .i64 f3, .string f4, .string f5, .string f6, .bool f7, .bool f8] 101 (0, 0))) : W.cell? ⟨g, 8, none⟩ = some (.bool f8) := (Yf h 8).trans rfl
theorem IsS101.set_8 {w0 W : World} {g : Nat} {f0 : ByteArray} {f1 : ByteArray} {f2 : ByteArray} {f3 : Int} {f4 : ByteArray} {f5 : ByteArray} {f6 : ByteArray} {f7 : Bool} {f8 : Bool} (h : IsS101 w0 W g f0 f1 f2 f3 f4 f5 f6 f7 f8) (x : Bool) : IsS101 w0 (W.setCell ⟨g, 8, none⟩ (.bool x)) g f0 f1 f2 f3 f4 f5 f6 f7 x := by
 obtain ⟨hb, hg⟩ := h
 exact ⟨by simpa using Yce hb 8 (.bool x), hg⟩
theorem IsS101.new (w0 W : World) (f0 : ByteArray) (f1 : ByteArray) (f2 : ByteArray) (f3 : Int) (f4 : ByteArray) (f5 : ByteArray) (f6 : ByteArray) (f7 : Bool) (f8 : Bool) (hB : Below w0.heap.size w0 W) : IsS101 w0 (W.alloc (.cells #[.string f0, .string f1, .string f2, .int .i64 f3, .string f4, .string f5, .string f6, .bool f7, .bool f8] 101)) W.heap.size f0 f1 f2 f3 f4 f5 f6 f7 f8 := ⟨by simpa using heap_alloc_new W _, hB.size⟩
end Go.Proofs.YtfmjnmglagdcdaaGreatDoor.X
