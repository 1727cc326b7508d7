/- Plain facts that hold the document's answers for URLs against the program's: lists of bytes alone, no program in sight. -/
import Derived.Test.YtnmglnglbdpjjaaGreatDoorUbPq
namespace Go.Proofs.YtnmglnglbdpjjaaGreatDoor.X
open Go.RowKit Go.Lib Go.Shelf Go.Proofs.YtnmglnglbdpjjaaGreatDoorW.PrintWords Go.Proofs.YtnmglnglbdpjjaaGreatDoorW.PrintLast Go.Proofs.YtnmglnglbdpjjaaGreatDoorW.PrintMore
set_option linter.unusedVariables false
set_option linter.unusedSimpArgs false
def splitP (p : UInt8 → Bool) : List UInt8 → List (List UInt8)
 | [] => [[]]
 | b :: l => if p b = true then [] :: splitP p l else consHead b (splitP p l)
theorem splitP_one (c : UInt8) (l : List UInt8) : splitP (· == c) l = splitB c l := by
 induction l with
 | nil => rfl
 | cons b l ih =>
  rw [splitP, splitB, ih]
  by_cases h : b = c <;> simp [h]
def slashP (b : UInt8) : Bool := b == 47 || b == 92
theorem splitP_slash (l : List UInt8) : splitP slashP l = splitB 47 (slashL l) := by
 induction l with
 | nil => rfl
 | cons b l ih =>
  rw [splitP, ih]
  show _ = splitB 47 (slashB b :: slashL l)
  rw [splitB]
  unfold slashP slashB
  by_cases h1 : b = 92
  ·subst h1; simp
  ·by_cases h2 : b = 47 <;> simp [h1, h2]
def glue (x : List UInt8) : List (List UInt8) → List (List UInt8)
 | [] => [x]
 | h :: t => (x ++ h) :: t
theorem glue_cons (x : List UInt8) (b : UInt8) (ps : List (List UInt8)) : glue x (consHead b ps) = glue (x ++ [b]) ps := by
 cases ps <;> simp [glue, consHead]
theorem glue_nil (p : UInt8 → Bool) (l : List UInt8) : glue [] (splitP p l) = splitP p l := by
 cases l with
 | nil => rfl
 | cons b l =>
  rw [splitP]
  split
  ·rfl
  ·cases splitP p l <;> rfl
abbrev pctE : List UInt8 := [37, 50, 101]
theorem rep_eq (s : List UInt8) : Lib.replaceAll s pctE [46] = Lib.replaceK pctE [46] (Lib.count s pctE) s := by
 unfold Lib.replaceAll Lib.replace
 rw [if_neg (by decide), Lib.replaceNum, if_pos (.inl (by omega))]
theorem rep_hit (t : List UInt8) : Lib.replaceAll (37 :: 50 :: 101 :: t) pctE [46] = 46 :: Lib.replaceAll t pctE [46] := by
 have hi : Lib.index (37 :: 50 :: 101 :: t) pctE = ((0 : Nat) : Int) := by
  unfold Lib.index; rw [if_pos (by simp [List.isPrefixOf])]; rfl
 rw [rep_eq, rep_eq, Lib.count_hit (by decide) hi, Nat.add_comm, Lib.replaceK_hit (h := hi)]
 simp
theorem rep_miss (b : UInt8) (t : List UInt8) (h : pctE.isPrefixOf (b :: t) = false) : Lib.replaceAll (b :: t) pctE [46] = b :: Lib.replaceAll t pctE [46] := by
 rw [rep_eq, rep_eq]
 have hge := Lib.index_ge t pctE
 by_cases hm : Lib.index t pctE = -1
 ·have hm2 : Lib.index (b :: t) pctE = -1 := by unfold Lib.index; rw [if_neg (by rw [h]; simp), if_pos (by rw [hm]; rfl)]
  rw [Lib.count_miss hm, Lib.count_miss hm2]; rfl
 ·obtain ⟨i, hi⟩ : ∃ i : Nat, Lib.index t pctE = i := ⟨(Lib.index t pctE).toNat, by omega⟩
  have hi2 : Lib.index (b :: t) pctE = ((i + 1 : Nat) : Int) := by
   unfold Lib.index; rw [if_neg (by rw [h]; simp), if_neg (by rw [hi]; intro e; have := beq_iff_eq.1 e; omega), hi]; omega
  rw [Lib.count_hit (by decide) hi2, Lib.count_hit (by decide) hi]
  have e : (b :: t).drop (i + 1 + pctE.length) = t.drop (i + pctE.length) := by
   rw [show i + 1 + pctE.length = (i + pctE.length) + 1 by omega, List.drop_succ_cons]
  rw [e, Nat.add_comm 1, Lib.replaceK_hit (h := hi2), Lib.replaceK_hit (h := hi), e]
  simp [List.take_succ_cons]
def rdots : List UInt8 → Option Nat
 | [] => some 0
 | [b] => if b = 46 then some 1 else none
 | [b, c] => if b = 46 then (if c = 46 then some 2 else none) else none
 | b :: c :: d :: t => if b = 46 then (rdots (c :: d :: t)).map (· + 1) else if b = 37 ∧ c = 50 ∧ lowB d = 101 then (rdots t).map (· + 1) else none
theorem low46 (b : UInt8) : lowB b = 46 ↔ b = 46 := by
 revert b; exact byte_all (p := fun b => lowB b = 46 ↔ b = 46) (by decide +kernel)
theorem low37 (b : UInt8) : lowB b = 37 ↔ b = 37 := by
 revert b; exact byte_all (p := fun b => lowB b = 37 ↔ b = 37) (by decide +kernel)
theorem low50 (b : UInt8) : lowB b = 50 ↔ b = 50 := by
 revert b; exact byte_all (p := fun b => lowB b = 50 ↔ b = 50) (by decide +kernel)
theorem rep_one (m : Nat) (r : List UInt8) : 46 :: r = List.replicate m 46 ↔ ∃ k, m = k + 1 ∧ r = List.replicate k 46 := by
 cases m with
 | zero => simp
 | succ m => simp [List.replicate_succ]
theorem rep_not (m : Nat) (b : UInt8) (r : List UInt8) (h : b ≠ 46) : ¬ b :: r = List.replicate m 46 := by
 cases m with
 | zero => simp
 | succ m => rw [List.replicate_succ]; intro e; exact h (List.cons.inj e).1
theorem map_one (o : Option Nat) (m : Nat) : o.map (· + 1) = some m ↔ ∃ k, m = k + 1 ∧ o = some k := by
 cases o with
 | none => simp
 | some k =>
  constructor
  ·intro h; exact ⟨k, (Option.some.inj h).symm, rfl⟩
  ·rintro ⟨j, rfl, h⟩; cases h; rfl
theorem dots_rep : ∀ (n : Nat) (l : List UInt8), l.length ≤ n → ∀ m, Lib.replaceAll (lowL l) pctE [46] = List.replicate m 46 ↔ rdots l = some m := by
 have h0 : Lib.replaceAll [] pctE [46] = [] := rfl
 intro n
 induction n with
 | zero =>
  intro l hl m
  obtain rfl : l = [] := List.eq_nil_of_length_eq_zero (by omega)
  show Lib.replaceAll [] pctE [46] = _ ↔ _
  rw [h0]
  cases m <;> simp [rdots, List.replicate_succ]
 | succ n ih =>
  intro l hl m
  match l, hl with
  | [], _ =>
   show Lib.replaceAll [] pctE [46] = _ ↔ _
   rw [h0]
   cases m <;> simp [rdots, List.replicate_succ]
  | [b], _ =>
   show Lib.replaceAll [lowB b] pctE [46] = _ ↔ _
   rw [rep_miss _ _ (by simp [List.isPrefixOf]), h0, rdots]
   by_cases hb : b = 46
   ·subst hb
    rw [if_pos rfl, show lowB 46 = 46 from rfl, rep_one]
    constructor
    ·rintro ⟨k, rfl, hk⟩
     cases k with
     | zero => rfl
     | succ k => simp [List.replicate_succ] at hk
    ·intro e; cases e; exact ⟨0, rfl, rfl⟩
   ·rw [if_neg hb]
    exact ⟨fun e => absurd e (rep_not m _ _ (fun e => hb ((low46 b).1 e))), fun e => by cases e⟩
  | [b, c], _ =>
   show Lib.replaceAll [lowB b, lowB c] pctE [46] = _ ↔ _
   rw [rep_miss _ _ (by simp [List.isPrefixOf]), rep_miss _ _ (by simp [List.isPrefixOf]), h0, rdots]
   by_cases hb : b = 46
   ·subst hb
    rw [if_pos rfl, show lowB 46 = 46 from rfl, rep_one]
    by_cases hc : c = 46
    ·subst hc
     rw [if_pos rfl, show lowB 46 = 46 from rfl]
     constructor
     ·rintro ⟨k, rfl, hk⟩
      obtain ⟨j, rfl, hj⟩ := (rep_one _ _).1 hk
      cases j with
      | zero => rfl
      | succ j => simp [List.replicate_succ] at hj
     ·intro e; cases e; exact ⟨1, rfl, rfl⟩
    ·rw [if_neg hc]
     exact ⟨fun ⟨k, _, e⟩ => absurd e (rep_not k _ _ (fun e => hc ((low46 c).1 e))), fun e => by cases e⟩
   ·rw [if_neg hb]
    exact ⟨fun e => absurd e (rep_not m _ _ (fun e => hb ((low46 b).1 e))), fun e => by cases e⟩
  | b :: c :: d :: t, hl =>
   simp only [List.length_cons] at hl
   show Lib.replaceAll (lowB b :: lowB c :: lowB d :: lowL t) pctE [46] = _ ↔ _
   rw [rdots]
   by_cases hb : b = 46
   ·subst hb
    rw [if_pos rfl, show lowB 46 = 46 from rfl, rep_miss _ _ (by simp [List.isPrefixOf]), rep_one, map_one]
    refine exists_congr fun k => and_congr_right fun _ => ?_
    exact ih (c :: d :: t) (by simp only [List.length_cons]; omega) k
   ·rw [if_neg hb]
    by_cases hp : b = 37 ∧ c = 50 ∧ lowB d = 101
    ·rw [if_pos hp]
     obtain ⟨rfl, rfl, hd⟩ := hp
     rw [hd, show lowB 37 = 37 from rfl, show lowB 50 = 50 from rfl, rep_hit, rep_one, map_one]
     exact exists_congr fun k => and_congr_right fun _ => ih t (by omega) k
    ·rw [if_neg hp, rep_miss]
     ·exact ⟨fun e => absurd e (rep_not m _ _ (fun e => hb ((low46 b).1 e))), fun e => by cases e⟩
     ·rw [← Bool.not_eq_true]
      intro e
      apply hp
      simp only [List.isPrefixOf, Bool.and_true, Bool.and_eq_true, beq_iff_eq] at e
      exact ⟨(low37 b).1 e.1.symm, (low50 c).1 e.2.1.symm, e.2.2.symm⟩
theorem dotsN_rdots (l : List UInt8) : dotsN l = match rdots l with | none => 0 | some m => if m > 2 then 0 else m := by
 have h := dots_rep l.length l (Nat.le_refl _)
 have h1 := h 1
 have h2 := h 2
 have h0 := h 0
 unfold dotsN
 by_cases e1 : Lib.replaceAll (lowL l) pctE [46] = [46]
 ·rw [if_pos e1, h1.1 e1]; rfl
 ·rw [if_neg e1]
  by_cases e2 : Lib.replaceAll (lowL l) pctE [46] = [46, 46]
  ·rw [if_pos e2, h2.1 e2]; rfl
  ·rw [if_neg e2]
   cases hr : rdots l with
   | none => rfl
   | some m =>
    have n1 : m ≠ 1 := fun e => e1 (h1.2 (by rw [hr, e]))
    have n2 : m ≠ 2 := fun e => e2 (h2.2 (by rw [hr, e]))
    show 0 = if m > 2 then 0 else m
    split <;> omega
def nameC (b : UInt8) : Bool := (decide (97 ≤ b.toNat) && decide (b.toNat ≤ 122)) || (isDigitB b || (b == 45 || b == 95))
theorem nameC_low (b : UInt8) : nameB (lowB b) = nameC (lowB b) := by
 revert b; exact byte_all (p := fun b => nameB (lowB b) = nameC (lowB b)) (by decide +kernel)
theorem split_mem (c : UInt8) (l : List UInt8) : ∀ y ∈ splitB c l, ∀ b ∈ y, b ∈ l := by
 induction l with
 | nil => intro y hy b hb; rw [splitB] at hy; simp at hy; subst hy; cases hb
 | cons x l ih =>
  intro y hy b hb
  rw [splitB] at hy
  split at hy
  ·rcases List.mem_cons.1 hy with rfl | hy
   ·cases hb
   ·exact List.mem_cons_of_mem _ (ih y hy b hb)
  ·cases hs : splitB c l with
   | nil => exact absurd hs (splitB_ne c l)
   | cons h t =>
    rw [hs, consHead] at hy
    rcases List.mem_cons.1 hy with rfl | hy
    ·rcases List.mem_cons.1 hb with rfl | hb
     ·exact List.mem_cons_self
     ·exact List.mem_cons_of_mem _ (ih h (by rw [hs]; exact List.mem_cons_self) b hb)
    ·exact List.mem_cons_of_mem _ (ih y (by rw [hs]; exact List.mem_cons_of_mem _ hy) b hb)
def nameQ (l : List UInt8) : Bool := l.all nameC && (!l.isEmpty && decide (l.length ≤ 63))
theorem all_congr' {α : Type} {p q : α → Bool} {l : List α} (h : ∀ a ∈ l, p a = q a) : l.all p = l.all q := by
 induction l with
 | nil => rfl
 | cons a l ih => rw [List.all_cons, List.all_cons, h a List.mem_cons_self, ih fun b hb => h b (List.mem_cons_of_mem _ hb)]
theorem nameQ_low (m : List UInt8) : (splitB 46 (lowL m)).all nameQ = (splitB 46 (lowL m)).all nameP := by
 refine all_congr' fun y hy => ?_
 unfold nameQ nameP
 rw [all_congr' (p := nameC) (q := nameB) fun b hb => ?_]
 have hm := split_mem 46 (lowL m) y hy b hb
 unfold lowL at hm
 obtain ⟨x, _, rfl⟩ := List.mem_map.1 hm
 exact (nameC_low x).symm
def nameR (l : List UInt8) : Bool := (splitB 46 l).all nameQ && (decide (l.length ≤ 253) && ((numL 0 ((splitB 46 l).getD ((splitB 46 l).length - 1) [])).2 == 3 || ((splitB 46 l).length == 4 && (splitB 46 l).all byteL)))
theorem nameR_low (m : List UInt8) : nameR (lowL m) = nameL (lowL m) := by
 unfold nameR nameL; rw [nameQ_low]
def allDig (l : List UInt8) : Bool := l.all isDigitB
theorem numFold_form (most : Int) : ∀ (l : List UInt8) (many : Bool) (n : Int), allDig l = false → numFold most many n l = (0, 3) := by
 intro l
 induction l with
 | nil => intro many n h; cases h
 | cons b t ih =>
  intro many n h
  unfold numFold
  by_cases hb : isDigitB b = true
  ·have h2 : allDig t = false := by unfold allDig at h ⊢; rw [List.all_cons, hb, Bool.true_and] at h; exact h
   rw [if_pos hb]
   split
   ·exact ih _ _ h2
   ·exact ih _ _ h2
  ·rw [if_neg hb]
theorem numFold_many (most : Int) : ∀ (l : List UInt8) (n : Int), allDig l = true → numFold most true n l = (0, 5) := by
 intro l
 induction l with
 | nil => intro n h; rfl
 | cons b t ih =>
  intro n h
  unfold allDig at h
  rw [List.all_cons, Bool.and_eq_true] at h
  unfold numFold
  rw [if_pos h.1, if_pos (Or.inl rfl)]
  exact ih n h.2
theorem numL_sign (most : Int) (l : List UInt8) : (numL most l).2 = 3 ↔ (l = [] ∨ allDig l = false) := by
 unfold numL
 by_cases h : l = []
 ·rw [if_pos h]; simp [h]
 ·rw [if_neg h]
  cases ha : allDig l with
  | false => rw [numFold_form most l false 0 ha]; simp
  | true =>
   have : ∀ (l : List UInt8) (many : Bool) (n : Int), allDig l = true → (numFold most many n l).2 ≠ 3 := by
    intro l
    induction l with
    | nil => intro many n h; unfold numFold; split <;> simp
    | cons b t ih =>
     intro many n h
     unfold allDig at h
     rw [List.all_cons, Bool.and_eq_true] at h
     unfold numFold
     rw [if_pos h.1]
     split <;> exact ih _ _ h.2
   simp [this l false 0 ha, h]
end Go.Proofs.YtnmglnglbdpjjaaGreatDoor.X
