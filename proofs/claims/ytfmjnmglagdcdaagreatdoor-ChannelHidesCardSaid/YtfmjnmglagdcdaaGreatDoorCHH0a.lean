/- What calls of Go's library give, as plain functions of bytes, in the form that the printed walks ask for. -/
import Derived.Test.YtfmjnmglagdcdaaGreatDoorCHWords
import Derived.Test.YtfmjnmglagdcdaaGreatDoorCHX0
import Derived.Test.YtfmjnmglagdcdaaGreatDoorCHShelf
import Derived.Shelf.Strings.SlTrimAscii
import Derived.Lib.IndexAny
namespace Go.Proofs.YtfmjnmglagdcdaaGreatDoor.X
open Go.RowKit Go.Lib Go.Shelf Go.Yw.PrintWords Go.Yw.PrintLast Go.Yw.PrintMore
set_option linter.unusedVariables false
set_option linter.unusedSimpArgs false
def ofL (l : List UInt8) : ByteArray := ⟨l.toArray⟩
def strings_IndexByte.f (a0 : ByteArray) (a1 : Int) : Option Int := some (Lib.indexByte a0.data.toList a1.toNat.toUInt8)
theorem strings_IndexByte.calls (a0 : ByteArray) (a1 : Int) (r : Int) (w : World) (hE : EnvOk w) (h : strings_IndexByte.f a0 a1 = some r) :
  Calls Tryz.prog 73 #[.string a0, .int .u8 a1] w fun e w' => e = .returned (.int .i64 r) ∧ Drawn0 w w' := by
 obtain rfl := Option.some.inj h
 exact (Tryz.strings_IndexByte a0 a1 w).mono fun e w' ⟨h1, h2⟩ => ⟨h1, h2 ▸ Drawn0.refl _⟩
def strings_Cut.f (a0 a1 : ByteArray) : Option (ByteArray × ByteArray × Bool) :=
 if a0.size < 4294967281 then some (ofL (Lib.cut a0.data.toList a1.data.toList).1, ofL (Lib.cut a0.data.toList a1.data.toList).2.1, (Lib.cut a0.data.toList a1.data.toList).2.2) else none
theorem strings_Cut.calls (a0 a1 : ByteArray) (r1 r2 : ByteArray) (r3 : Bool) (w : World) (hE : EnvOk w) (h : strings_Cut.f a0 a1 = some (r1, r2, r3)) :
  Calls Tryz.prog 70 #[.string a0, .string a1] w fun e w' => e = .returned (.tuple #[.string r1, .string r2, .bool r3]) ∧ Drawn0 w w' := by
 unfold strings_Cut.f at h
 by_cases hs : a0.size < 4294967281
 ·rw [if_pos hs] at h
  simp only [Option.some.injEq, Prod.mk.injEq] at h
  obtain ⟨rfl, rfl, rfl⟩ := h
  obtain ⟨m, hm⟩ := hE.maxlen
  exact (Tryz.strings_Cut a0 a1 m w hs hm).mono fun e w' ⟨h1, n, h2⟩ => ⟨h1, ⟨n, h2⟩⟩
 ·rw [if_neg hs] at h; cases h
def Ysa.f (a0 a1 : ByteArray) : Option ByteArray :=
 if a1.size < 4294967281 ∧ a1.data.toList.all (fun b => decide (b.toNat < 128)) = true then some (ofL (Lib.trimLeftS a0.data.toList a1.data.toList)) else none
theorem Ysa.calls (a0 a1 : ByteArray) (r : ByteArray) (w : World) (hE : EnvOk w) (h : Ysa.f a0 a1 = some r) :
  Calls Tryz.prog 76 #[.string a0, .string a1] w fun e w' => e = .returned (.string r) ∧ Below w.heap.size w w' := by
 unfold Ysa.f at h
 by_cases hs : a1.size < 4294967281 ∧ a1.data.toList.all (fun b => decide (b.toNat < 128)) = true
 ·rw [if_pos hs] at h
  obtain rfl := Option.some.inj h
  exact Any.strings_TrimLeft_laid Tryz.lays161 Zg a0 a1 w hs.1 (ascii_of_all hs.2)
 ·rw [if_neg hs] at h; cases h
def strings_ReplaceAll.f (a0 a1 a2 : ByteArray) : Option ByteArray :=
 if a0.size < 4294967281 ∧ 1 ≤ a1.size ∧ a0.size + Lib.countB a0 a1 * a2.size ≤ 140737488355328 then some (ofL (Lib.replaceAll a0.data.toList a1.data.toList a2.data.toList)) else none
theorem strings_ReplaceAll.calls (a0 a1 a2 : ByteArray) (r : ByteArray) (w : World) (hE : EnvOk w) (h : strings_ReplaceAll.f a0 a1 a2 = some r) :
  Calls Tryz.prog 69 #[.string a0, .string a1, .string a2] w fun e w' => e = .returned (.string r) ∧ Below w.heap.size w w' := by
 unfold strings_ReplaceAll.f at h
 by_cases hs : a0.size < 4294967281 ∧ 1 ≤ a1.size ∧ a0.size + Lib.countB a0 a1 * a2.size ≤ 140737488355328
 ·rw [if_pos hs] at h
  obtain rfl := Option.some.inj h
  obtain ⟨m, hm⟩ := hE.maxlen
  exact Tryz.strings_ReplaceAll a0 a1 a2 m w hs.1 hm hs.2.1 hs.2.2
 ·rw [if_neg hs] at h; cases h
def strings_Join.f (l0 : List ByteArray) (a1 : ByteArray) : Option ByteArray :=
 if l0.length ≤ 140737488355328 ∧ (Lib.join (l0.map (·.data.toList)) a1.data.toList).length ≤ 140737488355328 then some (ofL (Lib.join (l0.map (·.data.toList)) a1.data.toList)) else none
theorem strings_Join.calls (A0 : Option Addr) (c0 : Nat) (l0 : List ByteArray) (a1 : ByteArray) (r : ByteArray) (w : World) (hE : EnvOk w) (hr0 : Kd.C Kd.string w A0 l0.length l0) (hc0 : l0.length ≤ c0) (h : strings_Join.f l0 a1 = some r) :
  Calls Tryz.prog 106 #[.slice A0 l0.length c0, .string a1] w fun e w' => e = .returned (.string r) ∧ Below w.heap.size w w' := by
 unfold strings_Join.f at h
 by_cases hs : l0.length ≤ 140737488355328 ∧ (Lib.join (l0.map (·.data.toList)) a1.data.toList).length ≤ 140737488355328
 ·rw [if_pos hs] at h
  obtain rfl := Option.some.inj h
  have hR := Kd.reads_of_C (enc := Value.string) (d := ByteArray.empty) (h1 := fun _ => rfl) hr0
  by_cases h0 : 0 < l0.length
  ·obtain ⟨ad, rfl, hc⟩ := hR.2.2 h0
   obtain ⟨bk, o, sp⟩ := ad
   have hc0' := hc 0 h0
   have hlt := lt_of_cell hc0'
   have hsp : sp = none := by
    cases sp with
    | none => rfl
    | some x => simp [World.cell?, Addr.add] at hc0'; split at hc0' <;> simp at hc0'
   subst hsp
   refine Tryz.strings_Join bk o c0 l0 a1 w ?_ (by simpa [Addr.add] using hlt) hs.1 hc0 hs.2
   intro j x hx
   have hj : j < l0.length := by
    rcases Nat.lt_or_ge j l0.length with h' | h'
    ·exact h'
    ·rw [List.getElem?_eq_none h'] at hx; cases hx
   have := hc j hj
   rw [show (Addr.add ⟨bk, o, none⟩ j) = ⟨bk, o + j, none⟩ from by unfold Addr.add; split <;> simp_all] at this
   rw [this, List.getD_eq_getElem?_getD, hx]; rfl
  ·have : l0 = [] := List.eq_nil_of_length_eq_zero Zk
   subst this
   exact (Tryz.strings_Join_none A0 c0 a1 w).mono fun e w' ⟨h1, h2⟩ => ⟨h1, h2 ▸ Below.refl _ _⟩
 ·rw [if_neg hs] at h; cases h
end Go.Proofs.YtfmjnmglagdcdaaGreatDoor.X
