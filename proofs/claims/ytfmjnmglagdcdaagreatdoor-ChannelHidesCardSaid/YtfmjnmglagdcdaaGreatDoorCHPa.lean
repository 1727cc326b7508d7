/- A path's plain function done twice is it done once; and no part of what it gives is dots. -/
import Derived.Test.YtfmjnmglagdcdaaGreatDoorCHWords
import Derived.Test.YtfmjnmglagdcdaaGreatDoorCHQc
namespace Go.Proofs.YtfmjnmglagdcdaaGreatDoor.X
open Go.RowKit Go.Lib Go.Shelf Go.Yw.PrintWords Go.Yw.PrintLast Go.Yw.PrintMore
set_option linter.unusedVariables false
set_option linter.unusedSimpArgs false
def okB (b : UInt8) : Bool := decide (32 < b.toNat) && (decide (b.toNat < 127) && (!Ynb.contains b && (b != 47 && b != 92)))
def okL (l : List UInt8) : Prop := ∀ b ∈ l, okB b = true
theorem okB_part (b : UInt8) : b ≠ 47 → b ≠ 92 → ∀ c ∈ Yrd Ynb b, okB c = true := by
 revert b; exact Yub Zca
theorem Ygk (b : UInt8) : okB b = true → Yrd Ynb b = [b] ∧ Yfm b = b ∧ b ≠ 47 := by
 revert b; exact Yub Zca
theorem okL_part {l : List UInt8} (h1 : 47 ∉ l) (h2 : 92 ∉ l) : okL (Ydb Ynb l) := by
 intro c hc
 unfold Ydb at hc
 obtain ⟨b, hb, hc⟩ := List.mem_flatMap.1 hc
 exact okB_part b (fun e => h1 (e ▸ hb)) (fun e => h2 (e ▸ hb)) c hc
theorem Yjn {l : List UInt8} (h : okL l) : Ydb Ynb l = l := by
 induction l with
 | nil => rfl
 | cons b l ih =>
  unfold Ydb at ih ⊢
  rw [List.flatMap_cons, (Ygk b (h b Zy)).1, ih (fun c hc => h c (by simp [hc]))]; rfl
theorem Yql {l : List UInt8} (h : okL l) : Yfb l = l := by
 induction l with
 | nil => rfl
 | cons b l ih =>
  unfold Yfb at ih ⊢
  rw [List.map_cons, (Ygk b (h b Zy)).2.1, ih (fun c hc => h c (by simp [hc]))]
theorem okL_47 {l : List UInt8} (h : okL l) : 47 ∉ l := fun hm => (Ygk 47 (h 47 hm)).2.2 rfl
theorem slashL_92 (l : List UInt8) : 92 ∉ Yfb l := by
 unfold Yfb
 intro h
 obtain ⟨b, _, hb⟩ := List.mem_map.1 h
 revert hb
 unfold Yfm
 split
 ·decide
 ·assumption
theorem Yrk (c : UInt8) (l : List UInt8) : ∀ y ∈ splitB c l, c ∉ y ∧ ∀ b ∈ y, b ∈ l := by
 induction l with
 | nil => intro y hy; simp [splitB] at hy; subst hy; simp
 | cons a l ih =>
  intro y hy
  rw [splitB] at hy
  split at hy
  ·rcases List.mem_cons.1 hy with rfl | hy
   ·simp
   ·exact ⟨(ih y hy).1, fun b hb => List.mem_cons_of_mem _ ((ih y hy).2 b hb)⟩
  ·next hne =>
   cases hs : splitB c l with
   | nil => exact absurd hs (Yze c l)
   | cons x r =>
    rw [hs] at hy ih
    simp only [Yge] at hy
    rcases List.mem_cons.1 hy with rfl | hy
    ·have := ih x Zy
     refine ⟨fun hm => ?_, fun b hb => ?_⟩
     ·rcases List.mem_cons.1 hm with e | hm
      ·exact hne e.symm
      ·exact this.1 hm
     ·rcases List.mem_cons.1 hb with rfl | hb
      ·simp
      ·exact List.mem_cons_of_mem _ (this.2 b hb)
    ·have := ih y (by simp [hy])
     exact ⟨this.1, fun b hb => List.mem_cons_of_mem _ (this.2 b hb)⟩
theorem Yxj (c : UInt8) (x l : List UInt8) (h : c ∉ x) : ∀ y r, splitB c l = y :: r → splitB c (x ++ l) = (x ++ y) :: r := by
 induction x with
 | nil => intro y r e; exact e
 | cons a x ih =>
  intro y r e
  rw [List.cons_append, splitB, if_neg (fun e => h (by simp [e])), ih (fun hm => h (by simp [hm])) y r e]
  rfl
theorem Ywn : ∀ (r : List (List UInt8)) (x : List UInt8), (∀ y ∈ x :: r, 47 ∉ y) → splitB 47 (x ++ Lib.joinTail [47] r) = x :: r := by
 intro r
 induction r with
 | nil =>
  intro x h
  rw [Yxj 47 x _ (h x Zy) [] [] rfl, List.append_nil]
 | cons y r ih =>
  intro x h
  have e : Lib.joinTail [47] (y :: r) = 47 :: (y ++ Lib.joinTail [47] r) := by simp [Lib.joinTail]
  rw [Yxj 47 x _ (h x Zy) [] (y :: r) (by rw [e, splitB, if_pos rfl, ih y (fun z hz => h z (List.mem_cons_of_mem _ hz))]), List.append_nil]
def Yjg (out : List (List UInt8)) : Prop := ∀ x ∈ out, okL x ∧ Yvf x = 0
theorem dotsN_nil : Yvf [] = 0 := by decide +kernel
theorem Yco {last : Bool} {out : List (List UInt8)} {p : List UInt8} (ho : Yjg out) (h1 : 47 ∉ p) (h2 : 92 ∉ p) : Yjg (Ymb last out p) := by
 have hp := okL_part h1 h2
 have ht : Yjg (out.take (out.length - 1)) := fun x hx => ho x (List.mem_of_mem_take hx)
 have hn : ∀ o : List (List UInt8), Yjg o → Yjg (o ++ [[]]) := fun o hk x hx => by
  rcases List.mem_append.1 hx with hx | hx
  ·exact hk x hx
  ·obtain rfl := List.mem_singleton.1 hx
   exact ⟨(fun b hb => by cases hb), dotsN_nil⟩
 unfold Ymb
 split
 ·next h0 =>
  intro x hx
  rcases List.mem_append.1 hx with hx | hx
  ·exact ho x hx
  ·obtain rfl := List.mem_singleton.1 hx
   exact ⟨hp, h0⟩
 ·split <;> split <;> (first | exact hn _ ht | exact hn _ ho | exact ht | exact ho)
theorem Yxk {out : List (List UInt8)} {p : List UInt8} : Ymb true out p ≠ [] := by
 unfold Ymb
 split
 ·simp
 ·rw [if_pos rfl]; simp
theorem Ylp : ∀ (ps : List (List UInt8)) (out : List (List UInt8)), Yjg out → (∀ p ∈ ps, 47 ∉ p ∧ 92 ∉ p) → Yjg (Yjb ps out) ∧ (ps ≠ [] → Yjb ps out ≠ []) := by
 intro ps
 induction ps with
 | nil => intro out ho _; exact ⟨ho, fun h => absurd rfl h⟩
 | cons p ps ih =>
  intro out ho hp
  rw [Yjb]
  have h := ih (Ymb ps.isEmpty out p) (Yco ho (hp p Zy).1 (hp p Zy).2) (fun q hq => hp q (List.mem_cons_of_mem _ hq))
  refine ⟨h.1, fun _ => ?_⟩
  cases ps with
  | nil => exact Yxk
  | cons q qs => exact h.2 Zy
theorem Yum : ∀ (ps out : List (List UInt8)), Yjg ps → Yjb ps out = out ++ ps := by
 intro ps
 induction ps with
 | nil => intro out _; simp [Yjb]
 | cons p ps ih =>
  intro out hp
  have h1 := hp p Zy
  rw [Yjb, Ypk (by rw [Yjn h1.1]; exact h1.2), Yjn h1.1, ih _ (fun x hx => hp x (List.mem_cons_of_mem _ hx))]
  simp
theorem Yfh (l : List UInt8) : (∀ p ∈ Yqb l, 47 ∉ p ∧ 92 ∉ p) ∧ Yqb l ≠ [] := by
 have hm : ∀ p ∈ splitB 47 (Yfb l), 47 ∉ p ∧ 92 ∉ p := fun p hp => ⟨(Yrk 47 _ p hp).1, fun h => slashL_92 l ((Yrk 47 _ p hp).2 92 h)⟩
 unfold Yqb
 split
 ·next h =>
  refine ⟨fun p hp => hm p (List.mem_of_mem_tail hp), fun e => ?_⟩
  have h1 : 1 < (splitB 47 (Yfb l)).length := by
   simp only [Bool.and_eq_true, decide_eq_true_eq] at h
   exact h.1
  have : (splitB 47 (Yfb l)).tail.length = 0 := by rw [e]; rfl
  rw [List.length_tail] at this; omega
 ·exact ⟨hm, Yze _ _⟩
theorem Yqg (l : List UInt8) : ∃ x r, Ypc l = 47 :: (x ++ Lib.joinTail [47] r) ∧ Yjg (x :: r) := by
 have h := Ylp (Yqb l) [] (fun _ h => by cases h) (Yfh l).1
 have h2 := h.2 (Yfh l).2
 unfold Ypc
 cases ho : Yjb (Yqb l) [] with
 | nil => exact absurd ho h2
 | cons x r => exact ⟨x, r, by rw [Lib.join_cons], by rw [← ho]; exact h.1⟩
theorem Yxn {x : List UInt8} {r : List (List UInt8)} (h : Yjg (x :: r)) : splitB 47 (x ++ Lib.joinTail [47] r) = x :: r := Ywn r x (fun y hy => okL_47 (h y hy).1)
theorem Yko {x : List UInt8} {r : List (List UInt8)} (h : Yjg (x :: r)) : Yfb (x ++ Lib.joinTail [47] r) = x ++ Lib.joinTail [47] r := by
 induction r generalizing x with
 | nil =>
  have : Lib.joinTail [47] [] = [] := rfl
  rw [this, List.append_nil]; exact Yql (h x Zy).1
 | cons y r ih =>
  have e : Lib.joinTail [47] (y :: r) = 47 :: (y ++ Lib.joinTail [47] r) := by simp [Lib.joinTail]
  have e1 := ih (x := y) (fun z hz => h z (List.mem_cons_of_mem _ hz))
  have e2 := Yql (h x Zy).1
  rw [e]
  unfold Yfb at e1 e2 ⊢
  rw [List.map_append, e2, List.map_cons, e1]; rfl
theorem Yvm (l : List UInt8) : Ypc (Ypc l) = Ypc l := by
 obtain ⟨x, r, e, h⟩ := Yqg l
 have e1 : Yqb (Ypc l) = x :: r := by
  have e2 : splitB 47 (Yfb (Ypc l)) = [] :: x :: r := by
   have e3 : Yfb (Ypc l) = 47 :: (x ++ Lib.joinTail [47] r) := by
    rw [e]
    have := Yko h
    unfold Yfb at this ⊢
    rw [List.map_cons, this]; rfl
   rw [e3, splitB, if_pos rfl, Yxn h]
  unfold Yqb
  rw [e2]
  simp
 have e2 : Ypc (Ypc l) = 47 :: Lib.join (Yjb (Yqb (Ypc l)) []) [47] := rfl
 rw [e2, e1, Yum _ _ h, List.nil_append, Lib.join_cons, e]
theorem pathL_le (l : List UInt8) : (Ypc l).length ≤ 3 * l.length + 4 := by
 have h : ∀ (ps out : List (List UInt8)), tot (Yjb ps out) ≤ tot out + room ps := by
  intro ps
  induction ps with
  | nil => intro out; simp [Yjb, room]
  | cons p ps ih =>
   intro out
   rw [Yjb]
   have h1 := ih (Ymb ps.isEmpty out p)
   have h2 := Yhi ps.isEmpty out p
   simp only [room, List.map_cons, List.sum_cons] at h1 ⊢
   omega
 have h1 := h (Yqb l) []
 have h2 := Yog l
 have h3 := join_le (Yjb (Yqb l) [])
 have h4 : tot [] = 0 := rfl
 unfold Ypc
 rw [List.length_cons]
 omega
end Go.Proofs.YtfmjnmglagdcdaaGreatDoor.X
