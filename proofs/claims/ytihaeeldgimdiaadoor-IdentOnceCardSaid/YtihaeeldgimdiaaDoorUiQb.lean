/- What Split and dots compute, as plain functions of bytes. -/
import Derived.Test.YtihaeeldgimdiaaDoorUiH1
import Derived.Test.YtihaeeldgimdiaaDoorUiQa
import Derived.Test.YtihaeeldgimdiaaDoorUiX2
import Derived.Test.YtihaeeldgimdiaaDoorUiX5
namespace Go.Proofs.YtihaeeldgimdiaaDoor.X
open Go.RowKit Go.Lib Go.Shelf Go.Proofs.YtihaeeldgimdiaaDoorW.PrintWords Go.Proofs.YtihaeeldgimdiaaDoorW.PrintLast Go.Proofs.YtihaeeldgimdiaaDoorW.PrintMore
set_option linter.unusedVariables false
set_option linter.unusedSimpArgs false
theorem ofL_data (l : List UInt8) : (ofL l).data.toList = l := rfl
theorem ofL_size (l : List UInt8) : (ofL l).size = l.length := by rw [Lib.size_eq]; rfl
theorem ofL_of (s : ByteArray) : ofL s.data.toList = s := rfl
theorem ofL_toList (l : List UInt8) : (ofL l).toList = l := by rw [Lib.toList_data]; rfl
theorem data_inj {a b : ByteArray} (h : a.data.toList = b.data.toList) : a = b := by rw [← ofL_of a, h, ofL_of]
theorem extract_ofL (s : ByteArray) (a b : Nat) : s.extract a b = ofL ((s.data.toList.drop a).take (b - a)) := data_inj (by rw [Lib.extract_data]; rfl)
theorem extract_tail (s : ByteArray) (a : Nat) : s.extract a s.size = ofL (s.data.toList.drop a) := data_inj (by rw [Lib.extract_to_end]; rfl)
theorem extract_head (s : ByteArray) (a : Nat) : s.extract 0 a = ofL (s.data.toList.take a) := by rw [extract_ofL, List.drop_zero, Nat.sub_zero]
def consHead (b : UInt8) : List (List UInt8) → List (List UInt8)
 | [] => [[b]]
 | h :: t => (b :: h) :: t
def splitB (c : UInt8) : List UInt8 → List (List UInt8)
 | [] => [[]]
 | b :: l => if b = c then [] :: splitB c l else consHead b (splitB c l)
theorem splitB_ne (c : UInt8) (l : List UInt8) : splitB c l ≠ [] := by
 cases l with
 | nil => simp [splitB]
 | cons b l =>
  unfold splitB
  split
  ·simp
  ·cases splitB c l <;> simp [consHead]
theorem index_cases (c : UInt8) (l : List UInt8) : (Lib.indexByte l c = -1 ∧ splitB c l = [l]) ∨ ∃ i : Nat, i < l.length ∧ Lib.indexByte l c = i ∧ splitB c l = l.take i :: splitB c (l.drop (i + 1)) := by
 induction l with
 | nil => left; exact ⟨rfl, rfl⟩
 | cons b l ih =>
  by_cases hb : b = c
  ·right
   refine ⟨0, by simp, ?_, ?_⟩
   ·unfold Lib.indexByte; rw [if_pos (by simpa using hb)]; rfl
   ·rw [splitB, if_pos hb]; rfl
  ·have hi : Lib.indexByte (b :: l) c = if (Lib.indexByte l c == -1) = true then -1 else Lib.indexByte l c + 1 := by
    rw [Lib.indexByte, if_neg (by simpa using hb)]
   rcases ih with ⟨h1, h2⟩ | ⟨i, h1, h2, h3⟩
   ·left
    refine ⟨by rw [hi, h1]; rfl, ?_⟩
    rw [splitB, if_neg hb, h2]; rfl
   ·right
    refine ⟨i + 1, by simp; omega, ?_, ?_⟩
    ·rw [hi, h2, if_neg (fun e => by have := beq_iff_eq.1 e; omega)]; omega
    ·rw [splitB, if_neg hb, h3]; rfl
theorem splitB_length (c : UInt8) (l : List UInt8) : (splitB c l).length ≤ l.length + 1 := by
 induction l with
 | nil => simp [splitB]
 | cons b l ih =>
  rw [splitB]
  split
  ·simp only [List.length_cons]; omega
  ·cases h : splitB c l with
   | nil => simp [consHead]
   | cons x y => rw [h] at ih; simp only [consHead, List.length_cons] at ih ⊢; omega
theorem split_l0 (c : UInt8) : ∀ (n : Nat) (s : ByteArray) (acc : List ByteArray), s.size ≤ n → acc.length + s.size ≤ 4294967281 → ascii_Split.l0 (n + 1) s (c.toNat : Int) acc = some (acc ++ (splitB c s.data.toList).map ofL) := by
 intro n
 induction n with
 | zero =>
  intro s acc hs ha
  have h0 : s.data.toList = [] := List.eq_nil_of_length_eq_zero (by rw [← Lib.size_eq]; omega)
  have he : strings_IndexByte.f s (c.toNat : Int) = some (-1) := by unfold strings_IndexByte.f; rw [h0]; rfl
  unfold ascii_Split.l0
  rw [he]
  simp only [Option.bind_some]
  rw [if_pos (by omega), if_pos (by omega), h0]
  have : s = ofL [] := data_inj h0
  rw [this]; rfl
 | succ n ih =>
  intro s acc hs ha
  have hb : ((c.toNat : Int)).toNat.toUInt8 = c := by simp
  have he : strings_IndexByte.f s (c.toNat : Int) = some (Lib.indexByte s.data.toList c) := by unfold strings_IndexByte.f; rw [hb]
  unfold ascii_Split.l0
  rw [he]
  simp only [Option.bind_some]
  rcases index_cases c s.data.toList with ⟨h1, h2⟩ | ⟨i, h1, h2, h3⟩
  ·rw [h1, if_pos (by omega), if_pos (by omega), h2]; rfl
  ·rw [← Lib.size_eq] at h1
   have hw : wrap64 ((i : Int) + 1) = (i : Int) + 1 := by unfold wrap64; omega
   rw [h2, if_neg (by omega), if_pos (by omega), if_pos (by omega), if_pos (by omega), hw, if_pos (by omega), if_pos (by omega)]
   have e1 : ((i : Int) + 1).toNat = i + 1 := by omega
   rw [e1, Int.toNat_natCast, ih _ _ (by rw [ByteArray.size_extract]; omega) (by rw [ByteArray.size_extract, List.length_append]; simp only [List.length_cons, List.length_nil]; omega), h3, extract_tail, extract_head, ofL_data]
   simp
theorem split_f (s : ByteArray) (c : UInt8) (hs : s.size ≤ 4294967281) : ascii_Split.f (s.size + 1) s (c.toNat : Int) = some ((splitB c s.data.toList).map ofL) := by
 unfold ascii_Split.f
 rw [split_l0 c s.size s [] (Nat.le_refl _) (by simpa using hs)]; rfl
def dotsN (l : List UInt8) : Nat := if Lib.replaceAll (lowL l) [37, 50, 101] [46] = [46] then 1 else if Lib.replaceAll (lowL l) [37, 50, 101] [46] = [46, 46] then 2 else 0
theorem lowL_length (l : List UInt8) : (lowL l).length = l.length := by unfold lowL; rw [List.length_map]
theorem countB_le (s sub : ByteArray) : Lib.countB s sub ≤ s.size + 1 := by
 unfold Lib.countB
 have := Lib.count_le s.data.toList sub.data.toList
 rw [← Lib.size_eq] at this
 omega
theorem dots_f (s : ByteArray) (hs : s.size ≤ 4294967200) : url_dots.f s = some (dotsN s.data.toList : Int) := by
 unfold url_dots.f ascii_Lower.f
 rw [if_pos (by omega)]
 simp only [Option.bind_some]
 unfold strings_ReplaceAll.f
 have hc := countB_le (ofL (lowL s.data.toList)) ⟨#[37, 50, 101]⟩
 have hz : (ofL (lowL s.data.toList)).size = s.size := by rw [ofL_size, lowL_length, ← Lib.size_eq]
 rw [if_pos ⟨by rw [hz]; omega, by show 1 ≤ 3; omega, by rw [hz]; show s.size + _ * 1 ≤ _; rw [hz] at hc; omega⟩]
 simp only [Option.bind_some, ofL_toList]
 unfold dotsN
 show (if Lib.replaceAll (lowL s.data.toList) [37, 50, 101] [46] = [46] then some 1 else if Lib.replaceAll (lowL s.data.toList) [37, 50, 101] [46] = [46, 46] then some 2 else some 0) = _
 split
 ·rfl
 ·split <;> rfl
end Go.Proofs.YtihaeeldgimdiaaDoor.X
