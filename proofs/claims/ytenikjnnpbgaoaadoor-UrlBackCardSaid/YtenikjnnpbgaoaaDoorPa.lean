/- A path's plain function done twice is it done once; and no part of what it gives is dots. -/
import Derived.Test.YtenikjnnpbgaoaaDoorQc
namespace Go.Proofs.YtenikjnnpbgaoaaDoor.X
open Go.RowKit Go.Lib Go.Shelf Go.Proofs.YtenikjnnpbgaoaaDoorW.PrintWords Go.Proofs.YtenikjnnpbgaoaaDoorW.PrintLast Go.Proofs.YtenikjnnpbgaoaaDoorW.PrintMore
set_option linter.unusedVariables false
set_option linter.unusedSimpArgs false

/-- A byte that stands in a part of a path. -/
def okB (b : UInt8) : Bool := decide (32 < b.toNat) && (decide (b.toNat < 127) && (!forPathB.contains b && (b != 47 && b != 92)))
def okL (l : List UInt8) : Prop := ∀ b ∈ l, okB b = true
theorem okB_part (b : UInt8) : b ≠ 47 → b ≠ 92 → ∀ c ∈ partB forPathB b, okB c = true := by
  revert b; exact byte_all (by decide +kernel)
theorem part_okB (b : UInt8) : okB b = true → partB forPathB b = [b] ∧ slashB b = b ∧ b ≠ 47 := by
  revert b; exact byte_all (by decide +kernel)
theorem okL_part {l : List UInt8} (h1 : 47 ∉ l) (h2 : 92 ∉ l) : okL (partL forPathB l) := by
  intro c hc
  unfold partL at hc
  obtain ⟨b, hb, hc⟩ := List.mem_flatMap.1 hc
  exact okB_part b (fun e => h1 (e ▸ hb)) (fun e => h2 (e ▸ hb)) c hc
theorem part_okL {l : List UInt8} (h : okL l) : partL forPathB l = l := by
  induction l with
  | nil => rfl
  | cons b l ih =>
    unfold partL at ih ⊢
    rw [List.flatMap_cons, (part_okB b (h b (by simp))).1, ih (fun c hc => h c (by simp [hc]))]; rfl
theorem slash_okL {l : List UInt8} (h : okL l) : slashL l = l := by
  induction l with
  | nil => rfl
  | cons b l ih =>
    unfold slashL at ih ⊢
    rw [List.map_cons, (part_okB b (h b (by simp))).2.1, ih (fun c hc => h c (by simp [hc]))]
theorem okL_47 {l : List UInt8} (h : okL l) : 47 ∉ l := fun hm => (part_okB 47 (h 47 hm)).2.2 rfl
theorem slashL_92 (l : List UInt8) : 92 ∉ slashL l := by
  unfold slashL
  intro h
  obtain ⟨b, _, hb⟩ := List.mem_map.1 h
  revert hb
  unfold slashB
  split
  · decide
  · assumption

theorem splitB_mem (c : UInt8) (l : List UInt8) : ∀ y ∈ splitB c l, c ∉ y ∧ ∀ b ∈ y, b ∈ l := by
  induction l with
  | nil => intro y hy; simp [splitB] at hy; subst hy; simp
  | cons a l ih =>
    intro y hy
    rw [splitB] at hy
    split at hy
    · rcases List.mem_cons.1 hy with rfl | hy
      · simp
      · exact ⟨(ih y hy).1, fun b hb => List.mem_cons_of_mem _ ((ih y hy).2 b hb)⟩
    · next hne =>
      cases hs : splitB c l with
      | nil => exact absurd hs (splitB_ne c l)
      | cons x r =>
        rw [hs] at hy ih
        simp only [consHead] at hy
        rcases List.mem_cons.1 hy with rfl | hy
        · have := ih x (by simp)
          refine ⟨fun hm => ?_, fun b hb => ?_⟩
          · rcases List.mem_cons.1 hm with e | hm
            · exact hne e.symm
            · exact this.1 hm
          · rcases List.mem_cons.1 hb with rfl | hb
            · simp
            · exact List.mem_cons_of_mem _ (this.2 b hb)
        · have := ih y (by simp [hy])
          exact ⟨this.1, fun b hb => List.mem_cons_of_mem _ (this.2 b hb)⟩
theorem splitB_app (c : UInt8) (x l : List UInt8) (h : c ∉ x) : ∀ y r, splitB c l = y :: r → splitB c (x ++ l) = (x ++ y) :: r := by
  induction x with
  | nil => intro y r e; exact e
  | cons a x ih =>
    intro y r e
    rw [List.cons_append, splitB, if_neg (fun e => h (by simp [e])), ih (fun hm => h (by simp [hm])) y r e]
    rfl
theorem splitB_join : ∀ (r : List (List UInt8)) (x : List UInt8), (∀ y ∈ x :: r, 47 ∉ y) → splitB 47 (x ++ Lib.joinTail [47] r) = x :: r := by
  intro r
  induction r with
  | nil =>
    intro x h
    rw [splitB_app 47 x _ (h x (by simp)) [] [] rfl, List.append_nil]
  | cons y r ih =>
    intro x h
    have e : Lib.joinTail [47] (y :: r) = 47 :: (y ++ Lib.joinTail [47] r) := by simp [Lib.joinTail]
    rw [splitB_app 47 x _ (h x (by simp)) [] (y :: r) (by rw [e, splitB, if_pos rfl, ih y (fun z hz => h z (List.mem_cons_of_mem _ hz))]), List.append_nil]

/-- The parts that are kept. -/
def okOut (out : List (List UInt8)) : Prop := ∀ x ∈ out, okL x ∧ dotsN x = 0
theorem dotsN_nil : dotsN [] = 0 := by decide +kernel
theorem pathStep_ok {last : Bool} {out : List (List UInt8)} {p : List UInt8} (ho : okOut out) (h1 : 47 ∉ p) (h2 : 92 ∉ p) : okOut (pathStep last out p) := by
  have hp := okL_part h1 h2
  have ht : okOut (out.take (out.length - 1)) := fun x hx => ho x (List.mem_of_mem_take hx)
  have hn : ∀ o : List (List UInt8), okOut o → okOut (o ++ [[]]) := fun o hk x hx => by
    rcases List.mem_append.1 hx with hx | hx
    · exact hk x hx
    · obtain rfl := List.mem_singleton.1 hx
      exact ⟨(fun b hb => by cases hb), dotsN_nil⟩
  unfold pathStep
  split
  · next h0 =>
    intro x hx
    rcases List.mem_append.1 hx with hx | hx
    · exact ho x hx
    · obtain rfl := List.mem_singleton.1 hx
      exact ⟨hp, h0⟩
  · split <;> split <;> (first | exact hn _ ht | exact hn _ ho | exact ht | exact ho)
theorem pathStep_last {out : List (List UInt8)} {p : List UInt8} : pathStep true out p ≠ [] := by
  unfold pathStep
  split
  · simp
  · rw [if_pos rfl]; simp
theorem pathOut_ok : ∀ (ps : List (List UInt8)) (out : List (List UInt8)), okOut out → (∀ p ∈ ps, 47 ∉ p ∧ 92 ∉ p) → okOut (pathOut ps out) ∧ (ps ≠ [] → pathOut ps out ≠ []) := by
  intro ps
  induction ps with
  | nil => intro out ho _; exact ⟨ho, fun h => absurd rfl h⟩
  | cons p ps ih =>
    intro out ho hp
    rw [pathOut]
    have h := ih (pathStep ps.isEmpty out p) (pathStep_ok ho (hp p (by simp)).1 (hp p (by simp)).2) (fun q hq => hp q (List.mem_cons_of_mem _ hq))
    refine ⟨h.1, fun _ => ?_⟩
    cases ps with
    | nil => exact pathStep_last
    | cons q qs => exact h.2 (by simp)
theorem pathOut_same : ∀ (ps out : List (List UInt8)), okOut ps → pathOut ps out = out ++ ps := by
  intro ps
  induction ps with
  | nil => intro out _; simp [pathOut]
  | cons p ps ih =>
    intro out hp
    have h1 := hp p (by simp)
    rw [pathOut, pathStep_0 (by rw [part_okL h1.1]; exact h1.2), part_okL h1.1, ih _ (fun x hx => hp x (List.mem_cons_of_mem _ hx))]
    simp
theorem pathParts_mem (l : List UInt8) : (∀ p ∈ pathParts l, 47 ∉ p ∧ 92 ∉ p) ∧ pathParts l ≠ [] := by
  have hm : ∀ p ∈ splitB 47 (slashL l), 47 ∉ p ∧ 92 ∉ p := fun p hp => ⟨(splitB_mem 47 _ p hp).1, fun h => slashL_92 l ((splitB_mem 47 _ p hp).2 92 h)⟩
  unfold pathParts
  split
  · next h =>
    refine ⟨fun p hp => hm p (List.mem_of_mem_tail hp), fun e => ?_⟩
    have h1 : 1 < (splitB 47 (slashL l)).length := by
      simp only [Bool.and_eq_true, decide_eq_true_eq] at h
      exact h.1
    have : (splitB 47 (slashL l)).tail.length = 0 := by rw [e]; rfl
    rw [List.length_tail] at this; omega
  · exact ⟨hm, splitB_ne _ _⟩
/-- The parts that are left. -/
theorem pathL_parts (l : List UInt8) : ∃ x r, pathL l = 47 :: (x ++ Lib.joinTail [47] r) ∧ okOut (x :: r) := by
  have h := pathOut_ok (pathParts l) [] (fun _ h => by cases h) (pathParts_mem l).1
  have h2 := h.2 (pathParts_mem l).2
  unfold pathL
  cases ho : pathOut (pathParts l) [] with
  | nil => exact absurd ho h2
  | cons x r => exact ⟨x, r, by rw [Lib.join_cons], by rw [← ho]; exact h.1⟩
theorem splitB_path {x : List UInt8} {r : List (List UInt8)} (h : okOut (x :: r)) : splitB 47 (x ++ Lib.joinTail [47] r) = x :: r := splitB_join r x (fun y hy => okL_47 (h y hy).1)
theorem slash_join {x : List UInt8} {r : List (List UInt8)} (h : okOut (x :: r)) : slashL (x ++ Lib.joinTail [47] r) = x ++ Lib.joinTail [47] r := by
  induction r generalizing x with
  | nil =>
    have : Lib.joinTail [47] [] = [] := rfl
    rw [this, List.append_nil]; exact slash_okL (h x (by simp)).1
  | cons y r ih =>
    have e : Lib.joinTail [47] (y :: r) = 47 :: (y ++ Lib.joinTail [47] r) := by simp [Lib.joinTail]
    have e1 := ih (x := y) (fun z hz => h z (List.mem_cons_of_mem _ hz))
    have e2 := slash_okL (h x (by simp)).1
    rw [e]
    unfold slashL at e1 e2 ⊢
    rw [List.map_append, e2, List.map_cons, e1]; rfl
/-- Twice is once. -/
theorem pathL_twice (l : List UInt8) : pathL (pathL l) = pathL l := by
  obtain ⟨x, r, e, h⟩ := pathL_parts l
  have e1 : pathParts (pathL l) = x :: r := by
    have e2 : splitB 47 (slashL (pathL l)) = [] :: x :: r := by
      have e3 : slashL (pathL l) = 47 :: (x ++ Lib.joinTail [47] r) := by
        rw [e]
        have := slash_join h
        unfold slashL at this ⊢
        rw [List.map_cons, this]; rfl
      rw [e3, splitB, if_pos rfl, splitB_path h]
    unfold pathParts
    rw [e2]
    simp
  have e2 : pathL (pathL l) = 47 :: Lib.join (pathOut (pathParts (pathL l)) []) [47] := rfl
  rw [e2, e1, pathOut_same _ _ h, List.nil_append, Lib.join_cons, e]
theorem dots_no {x : List UInt8} (h : dotsN x = 0) : x ≠ [46] ∧ x ≠ [46, 46] := by
  constructor <;> (rintro rfl; revert h; decide +kernel)
theorem pathL_le (l : List UInt8) : (pathL l).length ≤ 3 * l.length + 4 := by
  have h : ∀ (ps out : List (List UInt8)), tot (pathOut ps out) ≤ tot out + room ps := by
    intro ps
    induction ps with
    | nil => intro out; simp [pathOut, room]
    | cons p ps ih =>
      intro out
      rw [pathOut]
      have h1 := ih (pathStep ps.isEmpty out p)
      have h2 := pathStep_tot ps.isEmpty out p
      simp only [room, List.map_cons, List.sum_cons] at h1 ⊢
      omega
  have h1 := h (pathParts l) []
  have h2 := pathParts_room l
  have h3 := join_le (pathOut (pathParts l) [])
  have h4 : tot [] = 0 := rfl
  unfold pathL
  rw [List.length_cons]
  omega
end Go.Proofs.YtenikjnnpbgaoaaDoor.X
