/- What every contract of this seat may lean on: the variables and tables of Go's library that the code reads hold what they should, and keep it through all that the code does. -/
import Derived.Test.YtfmjnmglagdcdaaGreatDoorProg
import Derived.Below
import Derived.RowKit
import Derived.Shelf.Unicode.DecodeSlow
namespace Go.Proofs.YtfmjnmglagdcdaaGreatDoor.X
open Go.RowKit
structure EnvOk (w : World) : Prop where
 maxlen : ∃ m : Int, w.cell? ⟨0, 0, none⟩ = some (.int .i64 m)
 tabs : Lib.Utf8Tabs 1 2 w
theorem lt_of_cell {w : World} {a : Addr} {v : Value} (h : w.cell? a = some v) : a.block < w.heap.size := by
 unfold World.cell? at h
 rcases Nat.lt_or_ge a.block w.heap.size with h' | h'
 ·exact h'
 ·rw [Array.getElem?_eq_none h'] at h; simp at h
theorem cell_kept {w w' : World} (hb : Below w.heap.size w w') {a : Addr} {v : Value} (h : w.cell? a = some v) : w'.cell? a = some v :=
 (hb.cell (p := a) (lt_of_cell h)).trans h
theorem EnvOk.below {w w' : World} (h : EnvOk w) (hb : Below w.heap.size w w') : EnvOk w' := by
 obtain ⟨⟨m, hm⟩, t1, t2⟩ := h
 exact ⟨⟨m, cell_kept hb hm⟩, fun c hc => cell_kept hb (t1 c hc), fun i hi => ⟨cell_kept hb (t2 i hi).1, cell_kept hb (t2 i hi).2⟩⟩
theorem EnvOk.heap {w w' : World} (h : EnvOk w) (e : w'.heap = w.heap) : EnvOk w' := by
 have hc : ∀ a, w'.cell? a = w.cell? a := fun a => by unfold World.cell?; rw [e]
 obtain ⟨⟨m, hm⟩, t1, t2⟩ := h
 exact ⟨⟨m, (hc _).trans hm⟩, fun c hc' => (hc _).trans (t1 c hc'), fun i hi => ⟨(hc _).trans (t2 i hi).1, (hc _).trans (t2 i hi).2⟩⟩
end Go.Proofs.YtfmjnmglagdcdaaGreatDoor.X
