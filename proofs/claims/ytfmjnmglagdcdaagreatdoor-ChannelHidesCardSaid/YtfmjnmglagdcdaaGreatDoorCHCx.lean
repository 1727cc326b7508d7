/- ChannelHides: what a call of it does. -/
import Derived.Test.YtfmjnmglagdcdaaGreatDoorCHWords
import Derived.Test.YtfmjnmglagdcdaaGreatDoorCHCv
namespace Go.Proofs.YtfmjnmglagdcdaaGreatDoor.X
open Go.RowKit Go.Lib Go.Shelf Go.Yw.PrintWords Go.Yw.PrintLast Go.Yw.PrintMore
set_option linter.unusedVariables false
set_option linter.unusedSimpArgs false
def One (s : Bk) (l1 l2 : List ByteArray) : Prop := ∃ c, s.l = [c] ∧ c.uid = Yhb ∧ c.l 0 = [] ∧ c.l 1 = l1 ∧ c.l 2 = l2
def addL (l : List ByteArray) (u : ByteArray) : Int × List ByteArray :=
 if (keyP u).2 ≠ 0 then ((keyP u).2, l) else if Lib.containsS l (keyP u).1 = true then (0, l) else if l.length = 64 then (5, l) else (0, l ++ [(keyP u).1])
def Yhe (l : List ByteArray) (u : ByteArray) : Int × List ByteArray := if (keyP u).2 ≠ 0 then ((keyP u).2, l) else (0, left (fun x => x.toList == (keyP u).1.toList) l)
theorem One.where_ {s : Bk} {l1 l2 : List ByteArray} {c : Ch} (hs : s.l = [c]) (hu : c.uid = Yhb) : Yoa s.l Yhb = 0 := by
 unfold Yoa
 rw [hs, List.findIdx_cons, hu, beq_self_eq_true]
 rfl
def Good (u : ByteArray) (l : List ByteArray) : Prop := l.length ≤ 1 ∧ ∀ x ∈ l, x = (keyP u).1 ∧ (keyP u).2 = 0
theorem Ybb (u : ByteArray) : Good u [] := ⟨Zq, fun x hx => by cases hx⟩
theorem Yop {u : ByteArray} (h : (keyP u).2 = 0) : errE (Yya u.data.toList) = 0 := by
 unfold keyP at h
 by_cases e : errE (Yya u.data.toList) = 0
 ·exact e
 ·rw [if_neg e] at h; cases h
theorem Good.any {u : ByteArray} {l : List ByteArray} (h : Good u l) : l.any (fun x => Yef x u) = decide (0 < (l.length : Int)) := by
 cases l with
 | nil => rfl
 | cons a r =>
  obtain ⟨e, hk⟩ := h.2 a List.mem_cons_self
  rw [List.any_cons, e, place_key (Yop hk), Bool.true_or]
  exact (decide_eq_true (by rw [List.length_cons]; omega)).symm
theorem Good.drop {u : ByteArray} {l : List ByteArray} (h : Good u l) (v : ByteArray) : Good u (Yhe l v).2 := by
 unfold Yhe
 split
 ·exact h
 ·exact ⟨Nat.le_trans (List.length_filter_le _ _) h.1, fun x hx => h.2 x (List.mem_filter.1 hx).1⟩
theorem Good.self {u : ByteArray} {l : List ByteArray} (h : Good u l) : (Yhe l u).2 = [] := by
 unfold Yhe
 by_cases hk : (keyP u).2 = 0
 ·rw [if_neg (fun e => e hk)]
  show left _ l = []
  unfold left
  rw [List.filter_eq_nil_iff]
  intro x hx
  rw [(h.2 x hx).1]
  simp
 ·rw [if_pos hk]
  cases l with
  | nil => rfl
  | cons a r => exact absurd (h.2 a List.mem_cons_self).2 hk
theorem Good.few {u : ByteArray} {l : List ByteArray} (h : Good u l) : l.length ≤ 64 ∧ ∀ x ∈ l, x.size ≤ 1000000000 :=
 ⟨Nat.le_trans h.1 Zq, fun x hx => by rw [(h.2 x hx).1]; exact Nat.le_trans (keyP_size u) Zq⟩
theorem Yhj {u : ByteArray} (h : (keyP u).2 = 0) : addL [] u = (0, [(keyP u).1]) := by
 unfold addL
 rw [if_neg (fun e => e h), if_neg (fun e => by rw [Lib.containsS_iff] at e; cases e), if_neg Zq]
 rfl
theorem Ynn {u : ByteArray} (h : ¬ (keyP u).2 = 0) : addL [] u = ((keyP u).2, []) := by unfold addL; rw [if_pos h]
theorem Yte {u : ByteArray} (h : (keyP u).2 = 0) : Good u [(keyP u).1] := ⟨Nat.le_refl 1, fun x hx => by rw [List.mem_singleton.1 hx]; exact ⟨rfl, h⟩⟩
section
variable {wb w : World} {bb : Nat} {s : Bk} {T : Nat → Prop} {l1 l2 : List ByteArray}
theorem Yvg : One newBk [] [] := ⟨_, rfl, rfl, rfl, rfl, rfl⟩
theorem Ypg {s : Bk} {c : Ch} (hs : s.l = [c]) (n : Nat) (l : List ByteArray) : (s.setL 0 n l).l = [c.setL n l] := by
 show s.l.modify 0 _ = _
 rw [hs]
 rfl
theorem St.add1 (h : St wb w bb s T) (ho : One s l1 l2) (hE : EnvOk wb) (hT : ∀ k, T k → k < w.heap.size) (hl : (l1 : List ByteArray).length ≤ 64) (u : ByteArray) (hu : u.size ≤ 1000000000) :
  Calls Tryz.prog 8 #[.pointer (some ⟨bb, 0, none⟩), .string Yhb, .int .i64 (1 : Int), .string u] w fun e w' => ∃ s', e = .returned (.int .i64 (addL l1 u).1) ∧ One s' (addL l1 u).2 l2 ∧ Step wb w w' bb s' T := by
 obtain ⟨c, hs, hu1, h0, h1, h2⟩ := ho
 have hw := One.where_ (l1 := l1) (l2 := l2) hs hu1
 have hq := St.add h hE hT (by rw [hs]; show 1 ≤ _; decide) Yhb c Zsa 1 Zq (by rw [h1]; exact hl) u hu
 refine hq.mono ?_
 rw [hw]
 rintro e w' ⟨he, hst⟩
 unfold addR at he hst
 unfold addL
 rw [h1] at he hst
 by_cases a1 : (keyP u).2 ≠ 0
 ·rw [if_pos a1] at he hst ⊢
  exact ⟨_, he, ⟨c, hs, hu1, h0, h1, h2⟩, hst⟩
 ·rw [if_neg a1] at he hst ⊢
  by_cases a2 : Lib.containsS l1 (keyP u).1 = true
  ·rw [if_pos a2] at he hst ⊢
   exact ⟨_, he, ⟨c, hs, hu1, h0, h1, h2⟩, hst⟩
  ·rw [if_neg a2] at he hst ⊢
   by_cases a3 : (l1 : List ByteArray).length = 64
   ·rw [if_pos a3] at he hst ⊢
    exact ⟨_, he, ⟨c, hs, hu1, h0, h1, h2⟩, hst⟩
   ·rw [if_neg a3] at he hst ⊢
    exact ⟨_, he, ⟨_, Ypg hs 1 _, hu1, h0, rfl, h2⟩, hst⟩
theorem St.add2 (h : St wb w bb s T) (ho : One s l1 l2) (hE : EnvOk wb) (hT : ∀ k, T k → k < w.heap.size) (hl : (l2 : List ByteArray).length ≤ 64) (u : ByteArray) (hu : u.size ≤ 1000000000) :
  Calls Tryz.prog 8 #[.pointer (some ⟨bb, 0, none⟩), .string Yhb, .int .i64 (2 : Int), .string u] w fun e w' => ∃ s', e = .returned (.int .i64 (addL l2 u).1) ∧ One s' l1 (addL l2 u).2 ∧ Step wb w w' bb s' T := by
 obtain ⟨c, hs, hu1, h0, h1, h2⟩ := ho
 have hw := One.where_ (l1 := l1) (l2 := l2) hs hu1
 have hq := St.add h hE hT (by rw [hs]; show 1 ≤ _; decide) Yhb c Zsa 2 Zq (by rw [h2]; exact hl) u hu
 refine hq.mono ?_
 rw [hw]
 rintro e w' ⟨he, hst⟩
 unfold addR at he hst
 unfold addL
 rw [h2] at he hst
 by_cases a1 : (keyP u).2 ≠ 0
 ·rw [if_pos a1] at he hst ⊢
  exact ⟨_, he, ⟨c, hs, hu1, h0, h1, h2⟩, hst⟩
 ·rw [if_neg a1] at he hst ⊢
  by_cases a2 : Lib.containsS l2 (keyP u).1 = true
  ·rw [if_pos a2] at he hst ⊢
   exact ⟨_, he, ⟨c, hs, hu1, h0, h1, h2⟩, hst⟩
  ·rw [if_neg a2] at he hst ⊢
   by_cases a3 : (l2 : List ByteArray).length = 64
   ·rw [if_pos a3] at he hst ⊢
    exact ⟨_, he, ⟨c, hs, hu1, h0, h1, h2⟩, hst⟩
   ·rw [if_neg a3] at he hst ⊢
    exact ⟨_, he, ⟨_, Ypg hs 2 _, hu1, h0, h1, rfl⟩, hst⟩
theorem St.drop1 (h : St wb w bb s T) (ho : One s l1 l2) (hE : EnvOk wb) (hT : ∀ k, T k → k < w.heap.size) (hl : (l1 : List ByteArray).length ≤ 64) (u : ByteArray) (hu : u.size ≤ 1000000000) :
  Calls Tryz.prog 10 #[.pointer (some ⟨bb, 0, none⟩), .string Yhb, .int .i64 (1 : Int), .string u] w fun e w' => ∃ s', e = .returned (.int .i64 (Yhe l1 u).1) ∧ One s' (Yhe l1 u).2 l2 ∧ Step wb w w' bb s' T := by
 obtain ⟨c, hs, hu1, h0, h1, h2⟩ := ho
 have hw := One.where_ (l1 := l1) (l2 := l2) hs hu1
 have hq := St.drop h hE hT (by rw [hs]; show 1 ≤ _; decide) Yhb c Zsa 1 Zq (by rw [h1]; exact hl) u hu
 refine hq.mono ?_
 rw [hw]
 rintro e w' ⟨he, hst⟩
 unfold Yeh at he hst
 unfold Yhe
 rw [h1] at he hst
 by_cases a1 : (keyP u).2 ≠ 0
 ·rw [if_pos a1] at he hst ⊢
  exact ⟨_, he, ⟨c, hs, hu1, h0, h1, h2⟩, hst⟩
 ·rw [if_neg a1] at he hst ⊢
  exact ⟨_, he, ⟨_, Ypg hs 1 _, hu1, h0, rfl, h2⟩, hst⟩
theorem St.drop2 (h : St wb w bb s T) (ho : One s l1 l2) (hE : EnvOk wb) (hT : ∀ k, T k → k < w.heap.size) (hl : (l2 : List ByteArray).length ≤ 64) (u : ByteArray) (hu : u.size ≤ 1000000000) :
  Calls Tryz.prog 10 #[.pointer (some ⟨bb, 0, none⟩), .string Yhb, .int .i64 (2 : Int), .string u] w fun e w' => ∃ s', e = .returned (.int .i64 (Yhe l2 u).1) ∧ One s' l1 (Yhe l2 u).2 ∧ Step wb w w' bb s' T := by
 obtain ⟨c, hs, hu1, h0, h1, h2⟩ := ho
 have hw := One.where_ (l1 := l1) (l2 := l2) hs hu1
 have hq := St.drop h hE hT (by rw [hs]; show 1 ≤ _; decide) Yhb c Zsa 2 Zq (by rw [h2]; exact hl) u hu
 refine hq.mono ?_
 rw [hw]
 rintro e w' ⟨he, hst⟩
 unfold Yeh at he hst
 unfold Yhe
 rw [h2] at he hst
 by_cases a1 : (keyP u).2 ≠ 0
 ·rw [if_pos a1] at he hst ⊢
  exact ⟨_, he, ⟨c, hs, hu1, h0, h1, h2⟩, hst⟩
 ·rw [if_neg a1] at he hst ⊢
  exact ⟨_, he, ⟨_, Ypg hs 2 _, hu1, h0, h1, rfl⟩, hst⟩
theorem St.drop0 (h : St wb w bb s T) (ho : One s l1 l2) (hE : EnvOk wb) (hT : ∀ k, T k → k < w.heap.size) (hl : ([] : List ByteArray).length ≤ 64) (u : ByteArray) (hu : u.size ≤ 1000000000) :
  Calls Tryz.prog 10 #[.pointer (some ⟨bb, 0, none⟩), .string Yhb, .int .i64 (0 : Int), .string u] w fun e w' => ∃ s', e = .returned (.int .i64 (Yhe [] u).1) ∧ One s' l1 l2 ∧ Step wb w w' bb s' T := by
 obtain ⟨c, hs, hu1, h0, h1, h2⟩ := ho
 have hw := One.where_ (l1 := l1) (l2 := l2) hs hu1
 have hq := St.drop h hE hT (by rw [hs]; show 1 ≤ _; decide) Yhb c Zsa 0 Zq (by rw [h0]; exact hl) u hu
 refine hq.mono ?_
 rw [hw]
 rintro e w' ⟨he, hst⟩
 unfold Yeh at he hst
 unfold Yhe
 rw [h0] at he hst
 by_cases a1 : (keyP u).2 ≠ 0
 ·rw [if_pos a1] at he hst ⊢
  exact ⟨_, he, ⟨c, hs, hu1, h0, h1, h2⟩, hst⟩
 ·rw [if_neg a1] at he hst ⊢
  exact ⟨_, he, ⟨_, Ypg hs 0 _, hu1, rfl, h1, h2⟩, hst⟩
theorem St.list1 (h : St wb w bb s T) (ho : One s l1 l2) (hl : l1.length ≤ 64) :
  Calls Tryz.prog 11 #[.pointer (some ⟨bb, 0, none⟩), .string Yhb, .int .i64 (1 : Int)] w fun e w' => Yxh w l1 e w' := by
 obtain ⟨c, hs, hu1, h0, h1, h2⟩ := ho
 have hw := One.where_ (l1 := l1) (l2 := l2) hs hu1
 have hq := St.list h (by rw [hs]; show 1 ≤ _; decide) Yhb c Zsa 1 Zq (by rw [h1]; exact hl)
 rw [h1] at hq
 exact hq
theorem St.list2 (h : St wb w bb s T) (ho : One s l1 l2) (hl : l2.length ≤ 64) :
  Calls Tryz.prog 11 #[.pointer (some ⟨bb, 0, none⟩), .string Yhb, .int .i64 (2 : Int)] w fun e w' => Yxh w l2 e w' := by
 obtain ⟨c, hs, hu1, h0, h1, h2⟩ := ho
 have hw := One.where_ (l1 := l1) (l2 := l2) hs hu1
 have hq := St.list h (by rw [hs]; show 1 ≤ _; decide) Yhb c Zsa 2 Zq (by rw [h2]; exact hl)
 rw [h2] at hq
 exact hq
theorem St.hid (h : St wb w bb s T) (ho : One s l1 l2) (hE : EnvOk wb) (u : ByteArray) (hu : u.size ≤ 1000000000) (g1 : Good u l1) (g2 : Good u l2) (es : Array Value) (he : es[9]? = some (.string u)) :
  Calls Tryz.prog 9 #[.pointer (some ⟨bb, 0, none⟩), .string Yhb, .agg es] w fun e w' => e = .returned (.bool (decide (0 < (l1.length : Int)) || decide (0 < (l2.length : Int)))) ∧ Below w.heap.size w w' := by
 obtain ⟨c, hs, hu1, h0, h1, h2⟩ := ho
 have hw := One.where_ (l1 := l1) (l2 := l2) hs hu1
 have hq := St.hides h hE (by rw [hs]; show 1 ≤ _; decide) Yhb c Zsa (fun n hn => by
  rcases (show n = 0 ∨ n = 1 ∨ n = 2 by omega) with rfl | rfl | rfl
  ·rw [h0]; exact ⟨Zq, fun x hx => by cases hx⟩
  ·rw [h1]; exact g1.few
  ·rw [h2]; exact g2.few) es u hu he
 have e1 : hidB c u = (decide (0 < (l1.length : Int)) || decide (0 < (l2.length : Int))) := by unfold hidB; rw [h1, h2, g1.any, g2.any]
 rw [e1] at hq
 exact hq
theorem St.hid_no (h : St wb w bb s T) (ho : One s l1 l2) (es : Array Value) :
  Calls Tryz.prog 9 #[.pointer (some ⟨bb, 0, none⟩), .string bc1, .agg es] w fun e w' => e = .returned (.bool false) ∧ Below w.heap.size w w' := by
 obtain ⟨c, hs, hu1, _⟩ := ho
 refine St.hides_no h (by rw [hs]; show 0 < 1; decide) (by rw [hs]; show 1 ≤ _; decide) bc1 ?_ es
 rw [hs]
 unfold Yoa
 rw [List.findIdx_cons, hu1, show (Yhb.toList == bc1.toList) = false from by kernel_rfl]
 exact Nat.lt_irrefl 1
end
end Go.Proofs.YtfmjnmglagdcdaaGreatDoor.X
