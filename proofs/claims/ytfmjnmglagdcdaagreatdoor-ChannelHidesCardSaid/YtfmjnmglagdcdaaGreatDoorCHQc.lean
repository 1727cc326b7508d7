/- What Path computes, as a plain function of bytes. -/
import Derived.Test.YtfmjnmglagdcdaaGreatDoorCHWords
import Derived.Test.YtfmjnmglagdcdaaGreatDoorCHQb
namespace Go.Proofs.YtfmjnmglagdcdaaGreatDoor.X
open Go.RowKit Go.Lib Go.Shelf Go.Yw.PrintWords Go.Yw.PrintLast Go.Yw.PrintMore
set_option linter.unusedVariables false
set_option linter.unusedSimpArgs false
def Yfm (b : UInt8) : UInt8 := if b = 92 then 47 else b
def Yfb (l : List UInt8) : List UInt8 := l.map Yfm
def Ynb : List UInt8 := [34, 60, 62, 35, 63, 96, 123, 125]
def Ymb (last : Bool) (out : List (List UInt8)) (p : List UInt8) : List (List UInt8) :=
 if Yvf (Ydb Ynb p) = 0 then out ++ [Ydb Ynb p] else
  if last = true then (if Yvf (Ydb Ynb p) = 2 then out.take (out.length - 1) else out) ++ [[]] else (if Yvf (Ydb Ynb p) = 2 then out.take (out.length - 1) else out)
theorem Ypk {last : Bool} {out : List (List UInt8)} {p : List UInt8} (h : Yvf (Ydb Ynb p) = 0) : Ymb last out p = out ++ [Ydb Ynb p] := by unfold Ymb; rw [if_pos h]
theorem Ycp {last : Bool} {out : List (List UInt8)} {p : List UInt8} (h : Yvf (Ydb Ynb p) = 1) : Ymb last out p = if last = true then out ++ [[]] else out := by
 unfold Ymb; rw [h]; rfl
theorem Yno {last : Bool} {out : List (List UInt8)} {p : List UInt8} (h : Yvf (Ydb Ynb p) = 2) : Ymb last out p = if last = true then out.take (out.length - 1) ++ [[]] else out.take (out.length - 1) := by
 unfold Ymb; rw [h]; rfl
def Yjb : List (List UInt8) → List (List UInt8) → List (List UInt8)
 | [], out => out
 | p :: t, out => Yjb t (Ymb t.isEmpty out p)
def Yqb (l : List UInt8) : List (List UInt8) :=
 if decide (1 < (splitB 47 (Yfb l)).length) && ((splitB 47 (Yfb l)).headD []).isEmpty then (splitB 47 (Yfb l)).tail else splitB 47 (Yfb l)
def Ypc (l : List UInt8) : List UInt8 := 47 :: Lib.join (Yjb (Yqb l) []) [47]
theorem Yal (l : List UInt8) : Lib.replaceAll l [92] [47] = Yfb l := by
 rw [Yng]
 induction l with
 | nil => rfl
 | cons b l ih => rw [List.flatMap_cons, ih]; by_cases h : b = 92 <;> simp [Yfb, Yfm, h]
def tot (l : List (List UInt8)) : Nat := (l.map fun p => p.length + 1).sum
theorem Yoh (a b : List (List UInt8)) : tot (a ++ b) = tot a + tot b := by simp [tot]
theorem tot_take (a : List (List UInt8)) (n : Nat) : tot (a.take n) ≤ tot a := by
 have := Yoh (a.take n) (a.drop n)
 rw [List.take_append_drop] at this; omega
theorem Yyj (a : List (List UInt8)) : a.length ≤ tot a := by
 induction a with
 | nil => simp [tot]
 | cons p a ih => simp only [tot, List.map_cons, List.sum_cons, List.length_cons] at ih ⊢; omega
theorem join_le (a : List (List UInt8)) : (Lib.join a [47]).length ≤ tot a := by
 cases a with
 | nil => simp [Lib.join, List.intercalate]
 | cons x r =>
  rw [Lib.join_cons]
  simp only [List.length_append, tot, List.map_cons, List.sum_cons]
  have : (Lib.joinTail [47] r).length = (r.map fun p => p.length + 1).sum := by
   induction r with
   | nil => simp [Lib.joinTail]
   | cons y r ih => simp only [Lib.joinTail, List.map_cons, List.flatten_cons, List.length_append, List.sum_cons, List.length_cons, List.length_nil] at ih ⊢; omega
  omega
def room (l : List (List UInt8)) : Nat := (l.map fun p => 3 * p.length + 2).sum
theorem Yhi (last : Bool) (out : List (List UInt8)) (p : List UInt8) : tot (Ymb last out p) ≤ tot out + (3 * p.length + 2) := by
 have h1 := Yyf Ynb p
 have h2 := tot_take out (out.length - 1)
 have e1 : ∀ x : List UInt8, tot [x] = x.length + 1 := fun x => by simp [tot]
 unfold Ymb
 split
 ·rw [Yoh, e1]; omega
 ·split <;> split <;> (first | (rw [Yoh, e1]; simp only [List.length_nil]; omega) | omega)
theorem Yuk (c : UInt8) (l : List UInt8) : tot (splitB c l) = l.length + 1 := by
 induction l with
 | nil => simp [splitB, tot]
 | cons b l ih =>
  rw [splitB]
  split
  ·simp only [tot, List.map_cons, List.sum_cons, List.length_nil] at ih ⊢; simp only [List.length_cons]; omega
  ·cases h : splitB c l with
   | nil => exact absurd h (Yze c l)
   | cons x y => rw [h] at ih; simp only [Yge, tot, List.map_cons, List.sum_cons, List.length_cons] at ih ⊢; omega
theorem room_tot (l : List (List UInt8)) : room l ≤ 3 * tot l := by
 induction l with
 | nil => simp [room]
 | cons p l ih => simp only [room, tot, List.map_cons, List.sum_cons] at ih ⊢; omega
theorem Ylh (l : List UInt8) : (Yfb l).length = l.length := by unfold Yfb; rw [List.length_map]
theorem Yog (l : List UInt8) : room (Yqb l) ≤ 3 * l.length + 3 := by
 have h := room_tot (splitB 47 (Yfb l))
 rw [Yuk, Ylh] at h
 unfold Yqb
 split
 ·cases hs : splitB 47 (Yfb l) with
  | nil => simp [room]
  | cons x y => rw [hs] at h; simp only [room, List.map_cons, List.sum_cons, List.tail_cons] at h ⊢; omega
 ·omega
theorem room_drop (l : List (List UInt8)) (k : Nat) (h : k < l.length) : room (l.drop k) = 3 * (l[k]).length + 2 + room (l.drop (k + 1)) := by
 rw [List.drop_eq_getElem_cons h]
 simp only [room, List.map_cons, List.sum_cons]
theorem Yqn (l : List (List UInt8)) : l.length ≤ room l := by
 induction l with
 | nil => simp
 | cons p l ih => simp only [room, List.map_cons, List.sum_cons, List.length_cons] at ih ⊢; omega
def RowS (W : World) (g off : Nat) (xs : List (List UInt8)) : Prop := ∀ (j : Nat) (h : j < xs.length), W.cell? ⟨g, off + j, none⟩ = some (.string (ofL xs[j]))
theorem RowS.below {W W' : World} {g off : Nat} {xs : List (List UInt8)} (h : RowS W g off xs) (hb : Below W.heap.size W W') : RowS W' g off xs := fun j hj => cell_kept hb (h j hj)
theorem RowS.tail {W : World} {g off : Nat} {x : List UInt8} {xs : List (List UInt8)} (h : RowS W g off (x :: xs)) : RowS W g (off + 1) xs := fun j hj => by
 have := h (j + 1) Zta
 rw [show off + 1 + j = off + (j + 1) by omega, this]; rfl
theorem row_of_R {W : World} {base : Nat} {ok : Nat → Prop} {v : Value} {xs : List (List UInt8)} (h : Kd.R Kd.string 9 W base ok v (xs.map ofL)) (hne : xs ≠ []) :
  ∃ g cap, v = .slice (some ⟨g, 0, none⟩) xs.length cap ∧ xs.length ≤ cap ∧ cap ≤ maxLen ∧ base ≤ g ∧ RowS W g 0 xs := by
 have hr := Kd.own_of_R (enc := Value.string) (h1 := fun _ => rfl) h
 obtain ⟨h1, h2⟩ := hr
 rw [List.length_map] at h2
 rcases h2 with ⟨rfl, h0⟩ | ⟨g, cap, cur, rfl, hb, hh, hn, hc, hs, ht⟩
 ·exact absurd (List.eq_nil_of_length_eq_zero h0) hne
 ·refine ⟨g, cap, rfl, hn, hc, hb, fun j hj => ?_⟩
  unfold World.cell?
  rw [hh]
  have h3 : (cur.toList.take (xs.length * 1))[j]? = some (.string (ofL xs[j])) := by
   rw [ht]
   unfold encs
   rw [List.getElem?_map, List.getElem?_map, List.getElem?_eq_getElem hj]
   rfl
  rw [List.getElem?_take, if_pos Zk] at h3
  simpa using h3
abbrev OwnS (W : World) (base : Nat) (v : Value) (xs : List (List UInt8)) : Prop := W.ownsRow base 9 1 v xs.length (xs.map fun x => Value.string (ofL x))
theorem OwnS.take {W : World} {base g cap : Nat} {xs : List (List UInt8)} (h : OwnS W base (.slice (some ⟨g, 0, none⟩) xs.length cap) xs) (n : Nat) (hn : n ≤ xs.length) : OwnS W base (.slice (some ⟨g, 0, none⟩) n cap) (xs.take n) := by
 obtain ⟨h1, h2⟩ := h
 rcases h2 with ⟨h2, _⟩ | ⟨g', cap', cur, hv, hb, hh, hl, hc, hs, ht⟩
 ·cases h2
 ·cases hv
  have hln : (xs.take n).length = n := by rw [List.length_take]; omega
  refine ⟨Zy, .inr ⟨g, cap, cur, by rw [hln], hb, hh, Zk, hc, hs, ?_⟩⟩
  rw [hln, List.map_take, ← ht, List.take_take]
  congr 1; omega
end Go.Proofs.YtfmjnmglagdcdaaGreatDoor.X
