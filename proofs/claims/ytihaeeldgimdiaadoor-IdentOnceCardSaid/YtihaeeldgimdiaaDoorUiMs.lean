/- A map from texts to bools that a call itself makes, as the list of what was put in as true. -/
import Derived.Test.YtihaeeldgimdiaaDoorUiEnv
import Derived.Maps.OwnSet
import Derived.StringKeys
namespace Go.Proofs.YtihaeeldgimdiaaDoor.X
open Go.RowKit Go.ChangeMaps Go.MapKept Go.Maps Go.WideMaps
set_option linter.unusedVariables false
set_option linter.unusedSimpArgs false
def memB (L : List ByteArray) (s : ByteArray) : Bool := L.any (fun x => x.data.toList == s.data.toList)
theorem bytes_ext {a b : ByteArray} (h : a.data.toList = b.data.toList) : a = b := ByteArray.ext (Array.toList_inj.1 h)
theorem memB_iff {L : List ByteArray} {s : ByteArray} : memB L s = true ↔ s ∈ L := by
 unfold memB
 rw [List.any_eq_true]
 constructor
 ·rintro ⟨x, hx, he⟩
  rw [← bytes_ext (beq_iff_eq.1 he)]
  exact hx
 ·intro h
  exact ⟨s, h, beq_self_eq_true _⟩
theorem memB_cons (x : ByteArray) (L : List ByteArray) (s : ByteArray) : memB (x :: L) s = (x.data.toList == s.data.toList || memB L s) := rfl
def SetB (P : Program) (w : World) (k e b n : Nat) (L : List ByteArray) : Prop :=
 ∃ D : DataW Unit, w.ownsMap P k (plainElem P e) b n D ∧ ∀ s : ByteArray, D.atKey (.string s.data.toList) (.lit (.bool false)) = .lit (.bool (memB L s))
variable {P : Program} {w w' : World} {k e b n : Nat} {L : List ByteArray}
theorem SetB.made (w : World) (P : Program) (k e : Nat) : SetB P (w.alloc (.map #[] 0)) k e w.heap.size 0 [] :=
 ⟨.map [], World.ownsMap_made w P k _, fun s => by simp [DataW.atKey, memB]⟩
theorem SetB.kept {row : Option Nat} (h : SetB P w k e b n L) (hg : w.grownBy w' row) (hne : some b ≠ row) : SetB P w' k e b n L := by
 obtain ⟨D, h1, h2⟩ := h
 exact ⟨D, h1.kept hg hne, h2⟩
theorem SetB.alloc (h : SetB P w k e b n L) (o : Obj) : SetB P (w.alloc o) k e b n L := by
 obtain ⟨D, h1, h2⟩ := h
 exact ⟨D, h1.alloc o, h2⟩
theorem SetB.lt (h : SetB P w k e b n L) : b < w.heap.size := by
 obtain ⟨D, h1, h2⟩ := h
 exact h1.lt
theorem SetB.below (h : SetB P w k e b n L) (hb : Below w.heap.size w w') : SetB P w' k e b n L := by
 have hlt := h.lt
 obtain ⟨D, ⟨es, clock, h0, F, hs, hD⟩, h2⟩ := h
 exact ⟨D, ⟨es, clock, (hb.block b hlt).trans h0, F, hs, hD⟩, h2⟩
theorem SetB.move (h : SetB P w k e b n L) (hm : w'.heap[b]? = w.heap[b]?) : SetB P w' k e b n L := by
 obtain ⟨D, ⟨es, clock, h0, F, hs, hD⟩, h2⟩ := h
 exact ⟨D, ⟨es, clock, hm.trans h0, F, hs, hD⟩, h2⟩
theorem SetB.mono (h : SetB P w k e b n L) {n' : Nat} (hn : n ≤ n') : SetB P w k e b n' L := by
 obtain ⟨D, h1, h2⟩ := h
 exact ⟨D, h1.mono hn, h2⟩
theorem SetB.not_cells (h : SetB P w k e b n L) {g : Nat} {cs : Array Value} {t : TypeId} (hg : w.heap[g]? = some (.cells cs t (0, 0))) : b ≠ g := by
 obtain ⟨D, ⟨es, clock, h0, F, hs, hD⟩, h2⟩ := h
 rintro rfl
 rw [h0] at hg
 cases hg
theorem plainElem_bool_inv {H : Type} (he : P.underlying e = some .bool) {v : Value} {z : DataW H × List MemPlace} (h : plainElem P e v = some z) : ∃ x, v = .bool x ∧ z = (.lit (.bool x), []) := by
 unfold plainElem at h
 rw [he] at h
 cases v <;> simp at h
 obtain rfl := h
 exact ⟨_, rfl, rfl⟩
theorem SetB.lookup {t : TypeId} (h : SetB P w k e b n L) (hk : P.underlying k = some .string) (ht : P.underlying t = some (.map k e)) (he : P.underlying e = some .bool) (hz : (zeroValue e).run P w = .ok (.bool false) w)
  (s : ByteArray) (hs : s.size ≤ maxLen) : (Instr.lookup t (.map (some b)) (.string s) false).run P w = .ok (.bool (memB L s)) w := by
 obtain ⟨D, h1, h2⟩ := h
 obtain ⟨v, ps, hrun, hv⟩ := h1.lookup (string_keyed hk) ht hz (plainElem_bool he false) (keyOf_string_mk hk hs)
 obtain ⟨x, rfl, hx⟩ := plainElem_bool_inv he hv
 have h3 := congrArg Prod.fst hx
 rw [h2 s] at h3
 simp only [DataW.lit.injEq, Lit.bool.injEq] at h3
 rw [hrun, h3]
theorem isKey_string (l : List UInt8) : WideAt.IsKeyLit (.string l) := by first | trivial | exact ⟨_, rfl⟩ | (unfold WideAt.IsKeyLit; simp)
theorem wpList_update_set {ops : Array Oper} {rest : List Oper} {o : Oper} {a : Act} {Q : Exit → Act → World → Prop}
  (hg : o.guard = none) (m x v : Operand) (t : TypeId) (hop : o.op = Op.mapUpdate t m x v) (hk : P.underlying k = some .string) (ht : P.underlying t = some (.map k e)) (he : P.underlying e = some .bool)
  (s : ByteArray) (hs : s.size ≤ maxLen) (hm : a.eval m = .map (some b)) (hx : a.eval x = .string s) (hv : a.eval v = .bool true) (h : SetB P w k e b n L) (hn : n < maxLen)
  (hK : ∀ w', SetB P w' k e b (n + 1) (s :: L) → w.grownBy w' (some b) → wpList P ops Q rest (a.put o.dst undef) w') :
  wpList P ops Q (o :: rest) a w := by
 obtain ⟨D, h1, h2⟩ := h
 refine wpList_mapUpdate_own w hg m x v t hop k e (string_keyed hk) ht (plainElem P e) b n D hm h1 hn (.string s) (.bool true) (.string s.data.toList) hx hv (keyOf_string_mk hk hs) (.lit (.bool true)) [] (plainElem_bool he true) ?_
 intro w1 ho hgr
 refine hK w1 ⟨_, ho, fun s' => ?_⟩ hgr
 by_cases e1 : s' = s
 ·subst e1
  rw [Maps.atKey_put_same (h1.isMap) (isKey_string _), memB_cons, beq_self_eq_true, Bool.true_or]
 ·have hne : (Lit.string s'.data.toList) ≠ (Lit.string s.data.toList) := fun h3 => e1 (by
   injection h3 with h3
   exact bytes_ext h3)
  rw [Maps.atKey_put_other hne, h2 s', memB_cons, beq_eq_false_iff_ne.2 (fun h3 => e1 (bytes_ext h3.symm)), Bool.false_or]
end Go.Proofs.YtihaeeldgimdiaaDoor.X
