import Derived.Test.YtnmglnglbdpjjaaGreatDoorUfWords
import Derived.Test.YtnmglnglbdpjjaaGreatDoorUfEnv
set_option linter.all false
namespace Go.Proofs.YtnmglnglbdpjjaaGreatDoor.X
open Go.RowKit Go.Yw.PrintWords Go.Yw.PrintLast Go.Yw.PrintMore
attribute [local go_sem] Yfe Ybe Yre Yue Yld Ykd Yee Yde
def errW : Option Int → Value
 | none => .nilIface
 | some c => .iface 0 (.int .i64 c)
theorem Yk : errW none = .nilIface := rfl
theorem Yl (c : Int) : errW (some c) = .iface 0 (.int .i64 c) := rfl
theorem Yqm : (Tryz.prog.info? 5).map (fun i => (i.zero, i.size, i.bytes)) = some (some (.int .u8 0), 1, 1) := by kernel_rfl
theorem Yog : (Tryz.prog.info? 9).map (fun i => (i.zero, i.size, i.bytes)) = some (some (.string ⟨#[]⟩), 1, 16) := by kernel_rfl
-- the values' own types
def IsS53 (w0 W : World) (g : Nat) (f0 f1 f2 : Y) (f3 : Int) (f4 f5 f6 : Y) (f7 f8 : Bool) : Prop := W.heap[g]? = some (.cells #[.string f0, .string f1, .string f2, .int .i64 f3, .string f4, .string f5, .string f6, .bool f7, .bool f8] 53 (0, 0)) ∧ w0.heap.size ≤ g
theorem IsS53.grown {w0 W : World} {g : Nat} {f0 : Y} {f1 : Y} {f2 : Y} {f3 : Int} {f4 : Y} {f5 : Y} {f6 : Y} {f7 : Bool} {f8 : Bool} {W1 : World} {row : Option Nat} (h : IsS53 w0 W g f0 f1 f2 f3 f4 f5 f6 f7 f8) (hw : W.grownBy W1 row) (hne : some g ≠ row) : IsS53 w0 W1 g f0 f1 f2 f3 f4 f5 f6 f7 f8 := by
 obtain ⟨hb, hg⟩ := h
 exact ⟨blk_grown hb hw hne, hg⟩
theorem IsS53.below {w0 W : World} {g : Nat} {f0 : Y} {f1 : Y} {f2 : Y} {f3 : Int} {f4 : Y} {f5 : Y} {f6 : Y} {f7 : Bool} {f8 : Bool} {W1 : World} (h : IsS53 w0 W g f0 f1 f2 f3 f4 f5 f6 f7 f8) (hw : Below W.heap.size W W1) : IsS53 w0 W1 g f0 f1 f2 f3 f4 f5 f6 f7 f8 := h.grown (Yfk hw none) Zv
theorem IsS53.drewN {w0 W : World} {g : Nat} {f0 : Y} {f1 : Y} {f2 : Y} {f3 : Int} {f4 : Y} {f5 : Y} {f6 : Y} {f7 : Bool} {f8 : Bool} (h : IsS53 w0 W g f0 f1 f2 f3 f4 f5 f6 f7 f8) (m : Nat) : IsS53 w0 (W.drewN m) g f0 f1 f2 f3 f4 f5 f6 f7 f8 := h
theorem IsS53.apart {w0 W : World} {g : Nat} {f0 : Y} {f1 : Y} {f2 : Y} {f3 : Int} {f4 : Y} {f5 : Y} {f6 : Y} {f7 : Bool} {f8 : Bool} {α : Type} {d : Kd α} {e : Nat} {base : Nat} {ok : Nat → Prop} {v : Value} {xs : List α} (h : IsS53 w0 W g f0 f1 f2 f3 f4 f5 f6 f7 f8) (ho : d.R e W base ok v xs) (ht : ∀ q, q ∈ e :: d.E → q ≠ 53) : d.R e W base (fun k => ok k ∧ k ≠ g) v xs := by
 obtain ⟨hb, hg⟩ := h
 exact Kd.R_types ho hb ht
theorem IsS53.ge {w0 W : World} {g : Nat} {f0 : Y} {f1 : Y} {f2 : Y} {f3 : Int} {f4 : Y} {f5 : Y} {f6 : Y} {f7 : Bool} {f8 : Bool} (h : IsS53 w0 W g f0 f1 f2 f3 f4 f5 f6 f7 f8) : w0.heap.size ≤ g := by
 obtain ⟨hb, hg⟩ := h
 exact hg
theorem Yfc {W : World} {g : Nat} {f0 : Y} {f1 : Y} {f2 : Y} {f3 : Int} {f4 : Y} {f5 : Y} {f6 : Y} {f7 : Bool} {f8 : Bool} (h : W.heap[g]? = some (.cells #[.string f0, .string f1, .string f2, .int .i64 f3, .string f4, .string f5, .string f6, .bool f7, .bool f8] 53 (0, 0))) : W.cell? ⟨g, 0, none⟩ = some (.string f0) := (Yf h 0).trans rfl
theorem IsS53.set_0 {w0 W : World} {g : Nat} {f0 : Y} {f1 : Y} {f2 : Y} {f3 : Int} {f4 : Y} {f5 : Y} {f6 : Y} {f7 : Bool} {f8 : Bool} (h : IsS53 w0 W g f0 f1 f2 f3 f4 f5 f6 f7 f8) (x : Y) : IsS53 w0 (W.setCell ⟨g, 0, none⟩ (.string x)) g x f1 f2 f3 f4 f5 f6 f7 f8 := by
 obtain ⟨hb, hg⟩ := h
 exact ⟨by simpa using Yzh hb 0 (.string x), hg⟩
theorem Ymc {W : World} {g : Nat} {f0 : Y} {f1 : Y} {f2 : Y} {f3 : Int} {f4 : Y} {f5 : Y} {f6 : Y} {f7 : Bool} {f8 : Bool} (h : W.heap[g]? = some (.cells #[.string f0, .string f1, .string f2, .int .i64 f3, .string f4, .string f5, .string f6, .bool f7, .bool f8] 53 (0, 0))) : W.cell? ⟨g, 1, none⟩ = some (.string f1) := (Yf h 1).trans rfl
theorem IsS53.set_1 {w0 W : World} {g : Nat} {f0 : Y} {f1 : Y} {f2 : Y} {f3 : Int} {f4 : Y} {f5 : Y} {f6 : Y} {f7 : Bool} {f8 : Bool} (h : IsS53 w0 W g f0 f1 f2 f3 f4 f5 f6 f7 f8) (x : Y) : IsS53 w0 (W.setCell ⟨g, 1, none⟩ (.string x)) g f0 x f2 f3 f4 f5 f6 f7 f8 := by
 obtain ⟨hb, hg⟩ := h
 exact ⟨by simpa using Yzh hb 1 (.string x), hg⟩
theorem Ync {W : World} {g : Nat} {f0 : Y} {f1 : Y} {f2 : Y} {f3 : Int} {f4 : Y} {f5 : Y} {f6 : Y} {f7 : Bool} {f8 : Bool} (h : W.heap[g]? = some (.cells #[.string f0, .string f1, .string f2, .int .i64 f3, .string f4, .string f5, .string f6, .bool f7, .bool f8] 53 (0, 0))) : W.cell? ⟨g, 2, none⟩ = some (.string f2) := (Yf h 2).trans rfl
theorem IsS53.set_2 {w0 W : World} {g : Nat} {f0 : Y} {f1 : Y} {f2 : Y} {f3 : Int} {f4 : Y} {f5 : Y} {f6 : Y} {f7 : Bool} {f8 : Bool} (h : IsS53 w0 W g f0 f1 f2 f3 f4 f5 f6 f7 f8) (x : Y) : IsS53 w0 (W.setCell ⟨g, 2, none⟩ (.string x)) g f0 f1 x f3 f4 f5 f6 f7 f8 := by
 obtain ⟨hb, hg⟩ := h
 exact ⟨by simpa using Yzh hb 2 (.string x), hg⟩
theorem Yoc {W : World} {g : Nat} {f0 : Y} {f1 : Y} {f2 : Y} {f3 : Int} {f4 : Y} {f5 : Y} {f6 : Y} {f7 : Bool} {f8 : Bool} (h : W.heap[g]? = some (.cells #[.string f0, .string f1, .string f2, .int .i64 f3, .string f4, .string f5, .string f6, .bool f7, .bool f8] 53 (0, 0))) : W.cell? ⟨g, 3, none⟩ = some (.int .i64 f3) := (Yf h 3).trans rfl
theorem IsS53.set_3 {w0 W : World} {g : Nat} {f0 : Y} {f1 : Y} {f2 : Y} {f3 : Int} {f4 : Y} {f5 : Y} {f6 : Y} {f7 : Bool} {f8 : Bool} (h : IsS53 w0 W g f0 f1 f2 f3 f4 f5 f6 f7 f8) (x : Int) : IsS53 w0 (W.setCell ⟨g, 3, none⟩ (.int .i64 x)) g f0 f1 f2 x f4 f5 f6 f7 f8 := by
 obtain ⟨hb, hg⟩ := h
 exact ⟨by simpa using Yzh hb 3 (.int .i64 x), hg⟩
theorem Ykc {W : World} {g : Nat} {f0 : Y} {f1 : Y} {f2 : Y} {f3 : Int} {f4 : Y} {f5 : Y} {f6 : Y} {f7 : Bool} {f8 : Bool} (h : W.heap[g]? = some (.cells #[.string f0, .string f1, .string f2, .int .i64 f3, .string f4, .string f5, .string f6, .bool f7, .bool f8] 53 (0, 0))) : W.cell? ⟨g, 4, none⟩ = some (.string f4) := (Yf h 4).trans rfl
theorem IsS53.set_4 {w0 W : World} {g : Nat} {f0 : Y} {f1 : Y} {f2 : Y} {f3 : Int} {f4 : Y} {f5 : Y} {f6 : Y} {f7 : Bool} {f8 : Bool} (h : IsS53 w0 W g f0 f1 f2 f3 f4 f5 f6 f7 f8) (x : Y) : IsS53 w0 (W.setCell ⟨g, 4, none⟩ (.string x)) g f0 f1 f2 f3 x f5 f6 f7 f8 := by
 obtain ⟨hb, hg⟩ := h
 exact ⟨by simpa using Yzh hb 4 (.string x), hg⟩
theorem Yjc {W : World} {g : Nat} {f0 : Y} {f1 : Y} {f2 : Y} {f3 : Int} {f4 : Y} {f5 : Y} {f6 : Y} {f7 : Bool} {f8 : Bool} (h : W.heap[g]? = some (.cells #[.string f0, .string f1, .string f2, .int .i64 f3, .string f4, .string f5, .string f6, .bool f7, .bool f8] 53 (0, 0))) : W.cell? ⟨g, 5, none⟩ = some (.string f5) := (Yf h 5).trans rfl
theorem IsS53.set_5 {w0 W : World} {g : Nat} {f0 : Y} {f1 : Y} {f2 : Y} {f3 : Int} {f4 : Y} {f5 : Y} {f6 : Y} {f7 : Bool} {f8 : Bool} (h : IsS53 w0 W g f0 f1 f2 f3 f4 f5 f6 f7 f8) (x : Y) : IsS53 w0 (W.setCell ⟨g, 5, none⟩ (.string x)) g f0 f1 f2 f3 f4 x f6 f7 f8 := by
 obtain ⟨hb, hg⟩ := h
 exact ⟨by simpa using Yzh hb 5 (.string x), hg⟩
theorem Ygc {W : World} {g : Nat} {f0 : Y} {f1 : Y} {f2 : Y} {f3 : Int} {f4 : Y} {f5 : Y} {f6 : Y} {f7 : Bool} {f8 : Bool} (h : W.heap[g]? = some (.cells #[.string f0, .string f1, .string f2, .int .i64 f3, .string f4, .string f5, .string f6, .bool f7, .bool f8] 53 (0, 0))) : W.cell? ⟨g, 6, none⟩ = some (.string f6) := (Yf h 6).trans rfl
theorem IsS53.set_6 {w0 W : World} {g : Nat} {f0 : Y} {f1 : Y} {f2 : Y} {f3 : Int} {f4 : Y} {f5 : Y} {f6 : Y} {f7 : Bool} {f8 : Bool} (h : IsS53 w0 W g f0 f1 f2 f3 f4 f5 f6 f7 f8) (x : Y) : IsS53 w0 (W.setCell ⟨g, 6, none⟩ (.string x)) g f0 f1 f2 f3 f4 f5 x f7 f8 := by
 obtain ⟨hb, hg⟩ := h
 exact ⟨by simpa using Yzh hb 6 (.string x), hg⟩
theorem Ylc {W : World} {g : Nat} {f0 : Y} {f1 : Y} {f2 : Y} {f3 : Int} {f4 : Y} {f5 : Y} {f6 : Y} {f7 : Bool} {f8 : Bool} (h : W.heap[g]? = some (.cells #[.string f0, .string f1, .string f2, .int .i64 f3, .string f4, .string f5, .string f6, .bool f7, .bool f8] 53 (0, 0))) : W.cell? ⟨g, 7, none⟩ = some (.bool f7) := (Yf h 7).trans rfl
theorem IsS53.set_7 {w0 W : World} {g : Nat} {f0 : Y} {f1 : Y} {f2 : Y} {f3 : Int} {f4 : Y} {f5 : Y} {f6 : Y} {f7 : Bool} {f8 : Bool} (h : IsS53 w0 W g f0 f1 f2 f3 f4 f5 f6 f7 f8) (x : Bool) : IsS53 w0 (W.setCell ⟨g, 7, none⟩ (.bool x)) g f0 f1 f2 f3 f4 f5 f6 x f8 := by
 obtain ⟨hb, hg⟩ := h
 exact ⟨by simpa using Yzh hb 7 (.bool x), hg⟩
theorem Yhc {W : World} {g : Nat} {f0 : Y} {f1 : Y} {f2 : Y} {f3 : Int} {f4 : Y} {f5 : Y} {f6 : Y} {f7 : Bool} {f8 : Bool} (h : W.heap[g]? = some (.cells #[.string f0, .string f1, .string f2, .int .i64 f3, .string f4, .string f5, .string f6, .bool f7, .bool f8] 53 (0, 0))) : W.cell? ⟨g, 8, none⟩ = some (.bool f8) := (Yf h 8).trans rfl
theorem IsS53.set_8 {w0 W : World} {g : Nat} {f0 : Y} {f1 : Y} {f2 : Y} {f3 : Int} {f4 : Y} {f5 : Y} {f6 : Y} {f7 : Bool} {f8 : Bool} (h : IsS53 w0 W g f0 f1 f2 f3 f4 f5 f6 f7 f8) (x : Bool) : IsS53 w0 (W.setCell ⟨g, 8, none⟩ (.bool x)) g f0 f1 f2 f3 f4 f5 f6 f7 x := by
 obtain ⟨hb, hg⟩ := h
 exact ⟨by simpa using Yzh hb 8 (.bool x), hg⟩
theorem IsS53.new (w0 W : World) (f0 f1 f2 : Y) (f3 : Int) (f4 f5 f6 : Y) (f7 f8 : Bool) (hB : Below w0.heap.size w0 W) : IsS53 w0 (W.alloc (.cells #[.string f0, .string f1, .string f2, .int .i64 f3, .string f4, .string f5, .string f6, .bool f7, .bool f8] 53)) W.heap.size f0 f1 f2 f3 f4 f5 f6 f7 f8 := ⟨by simpa using heap_alloc_new W _, hB.size⟩
end Go.Proofs.YtnmglnglbdpjjaaGreatDoor.X
