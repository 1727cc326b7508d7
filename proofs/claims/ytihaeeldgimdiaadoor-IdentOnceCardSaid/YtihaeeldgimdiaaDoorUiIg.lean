/- What Young gives, as lists; what kind an identity is of. -/
import Derived.Test.YtihaeeldgimdiaaDoorUiIz
import Derived.Test.YtihaeeldgimdiaaDoorUiX4
namespace Go.Proofs.YtihaeeldgimdiaaDoor.X
open Go.RowKit Go.Lib Go.Proofs.YtihaeeldgimdiaaDoorW.PrintWords Go.Proofs.YtihaeeldgimdiaaDoorW.PrintLast Go.Proofs.YtihaeeldgimdiaaDoorW.PrintMore
set_option linter.unusedVariables false
set_option linter.unusedSimpArgs false
abbrev En := S30
theorem step_new (s : List ByteArray × List En) (x : En) (h : ¬ ofR x ∈ s.1) : youngStep s x = (ofR x :: s.1, s.2 ++ [namedR x]) := by
 unfold youngStep
 rw [if_neg (fun h2 => h (memB_iff.1 h2))]
theorem step_old (s : List ByteArray × List En) (x : En) (h : ofR x ∈ s.1) : youngStep s x = s := by
 unfold youngStep
 rw [if_pos (memB_iff.2 h)]
structure FoldOk (s0 s : List ByteArray × List En) (l : List En) : Prop where
 old : ∀ y ∈ s0.1, y ∈ s.1
 met : ∀ x ∈ l, ofR x ∈ s.1
 back : ∀ y ∈ s.1, y ∈ s0.1 ∨ y ∈ s.2.map (·.f0)
 new : ∃ r, s.2 = s0.2 ++ r ∧ (∀ z ∈ r, ∃ x ∈ l, z = namedR x) ∧ (r.map (·.f0)).Nodup ∧ ∀ z ∈ r, ¬ z.f0 ∈ s0.1
theorem young_fold : ∀ (l : List En) (s0 : List ByteArray × List En), FoldOk s0 (l.foldl youngStep s0) l
 | [], s0 => ⟨fun _ h => h, (fun _ h => by cases h), fun y h => .inl h, [], by simp, by simp, by simp, by simp⟩
 | x :: l, s0 => by
  rw [List.foldl_cons]
  by_cases hx : ofR x ∈ s0.1
  ·rw [step_old s0 x hx]
   obtain ⟨h1, h2, h3, r, h4, h5, h6, h7⟩ := young_fold l s0
   refine ⟨h1, fun y hy => ?_, h3, r, h4, fun z hz => ?_, h6, h7⟩
   ·rcases List.mem_cons.1 hy with rfl | hy
    ·exact h1 _ hx
    ·exact h2 y hy
   ·obtain ⟨y, hy, e⟩ := h5 z hz
    exact ⟨y, List.mem_cons_of_mem _ hy, e⟩
  ·rw [step_new s0 x hx]
   obtain ⟨h1, h2, h3, r, h4, h5, h6, h7⟩ := young_fold l (ofR x :: s0.1, s0.2 ++ [namedR x])
   refine ⟨fun y hy => h1 y (List.mem_cons_of_mem _ hy), fun y hy => ?_, fun y hy => ?_, namedR x :: r, by rw [h4]; simp, fun z hz => ?_, ?_, fun z hz => ?_⟩
   ·rcases List.mem_cons.1 hy with rfl | hy
    ·exact h1 _ List.mem_cons_self
    ·exact h2 y hy
   ·rcases h3 y hy with hy | hy
    ·rcases List.mem_cons.1 hy with rfl | hy
     ·right
      rw [h4]
      simp [namedR]
     ·exact .inl hy
    ·exact .inr hy
   ·rcases List.mem_cons.1 hz with rfl | hz
    ·exact ⟨x, List.mem_cons_self, rfl⟩
    ·obtain ⟨y, hy, e⟩ := h5 z hz
     exact ⟨y, List.mem_cons_of_mem _ hy, e⟩
   ·rw [List.map_cons, List.nodup_cons]
    refine ⟨fun hm => ?_, h6⟩
    obtain ⟨z, hz, e⟩ := List.mem_map.1 hm
    exact h7 z hz (by rw [e]; exact List.mem_cons_self)
   ·rcases List.mem_cons.1 hz with rfl | hz
    ·exact hx
    ·exact fun h => h7 z hz (List.mem_cons_of_mem _ h)
theorem ofR_named (x : En) : ofR (namedR x) = ofR x := rfl
theorem young_ok (old : List ByteArray) (l : List En) : (∀ z ∈ youngR old l, ∃ x ∈ l, z = namedR x) ∧ ((youngR old l).map (·.f0)).Nodup ∧ (∀ z ∈ youngR old l, ¬ z.f0 ∈ old) ∧ ∀ x ∈ l, ofR x ∈ old ∨ ofR x ∈ (youngR old l).map (·.f0) := by
 obtain ⟨h1, h2, h3, r, h4, h5, h6, h7⟩ := young_fold l (old.reverse, [])
 have e : youngR old l = r := by unfold youngR youngS; rw [h4]; rfl
 rw [e]
 refine ⟨h5, h6, fun z hz h => h7 z hz (by simpa using h), fun x hx => ?_⟩
 rcases h3 _ (h2 x hx) with h | h
 ·left
  simpa using h
 ·right
  rw [h4] at h
  simpa using h
theorem young_none (old : List ByteArray) (l : List En) (h : ∀ x ∈ l, ofR x ∈ old) : youngR old l = [] := by
 obtain ⟨h1, h2, h3, h4⟩ := young_ok old l
 rcases hr : youngR old l with _ | ⟨z, r⟩
 ·rfl
 ·obtain ⟨x, hx, e⟩ := h1 z (by rw [hr]; exact List.mem_cons_self)
  exact absurd (show z.f0 ∈ old by rw [e]; exact h x hx) (h3 z (by rw [hr]; exact List.mem_cons_self))
theorem named_ok {x : En} (h : OfOk x) : OfOk (namedR x) := ⟨h.s1, h.s2, h.s3, h.s4, h.s5, h.hn, h.hs⟩
theorem ofR_form (x : En) : ∃ (c : UInt8) (r : ByteArray), (c = 117 ∨ c = 108 ∨ c = 104) ∧ r.data.toList ≠ [] ∧ (ofR x).data.toList = c :: 58 :: r.data.toList := by
 have ap : ∀ (c : UInt8) (r : ByteArray), ((⟨#[c, 58]⟩ : ByteArray) ++ r).data.toList = c :: 58 :: r.data.toList := fun c r => by
  rw [ByteArray.data_append]; simp
 have tl : ∀ (s : ByteArray), ¬ s.toList = ([] : List UInt8) → s.data.toList ≠ [] := fun s h h2 => h (by rw [Lib.toList_data]; exact h2)
 unfold ofR ofParts
 by_cases e1 : x.f1.toList = ([] : List UInt8)
 ·rw [if_pos e1]
  by_cases e2 : (parseR x.f2.data.toList).2.2.2.2.2.2.2.2 = 0
  ·rw [if_pos e2]
   refine ⟨108, _, .inr (.inl rfl), ?_, ap _ _⟩
   intro h
   have h2 := congrArg List.length h
   unfold keyE stringB stringF stringQ originB at h2
   rw [if_neg (by decide)] at h2
   split at h2 <;> split at h2 <;> simp [ByteArray.data_append] at h2
  ·rw [if_neg e2]
   by_cases e3 : x.f2.toList = ([] : List UInt8)
   ·rw [if_pos e3]
    refine ⟨104, _, .inr (.inr rfl), ?_, ap _ _⟩
    intro h
    have h2 := markZ_size (partsL [x.f3, x.f4, x.f5] [x.f11, x.f12, x.f13, x.f9])
    rw [Lib.size_eq, h] at h2
    exact absurd h2 (by decide)
   ·rw [if_neg e3]
    exact ⟨108, _, .inr (.inl rfl), tl _ e3, ap _ _⟩
 ·rw [if_neg e1]
  exact ⟨117, _, .inl rfl, tl _ e1, ap _ _⟩
theorem index_at (c : UInt8) : ∀ (a b : List UInt8), c ∉ a → Lib.indexByte (a ++ c :: b) c = (a.length : Int) := by
 intro a
 induction a with
 | nil => intro b _; rw [List.nil_append, Lib.indexByte, if_pos (by simp)]; rfl
 | cons x a ih =>
  intro b h
  rw [List.cons_append, Lib.indexByte, if_neg (by rw [beq_iff_eq]; exact fun e => h (by simp [e])), ih b (fun hm => h (by simp [hm])), if_neg (by rw [beq_iff_eq]; omega)]
  simp
theorem kind_f (s : ByteArray) (c : UInt8) (r : ByteArray) (hc : c = 117 ∨ c = 108 ∨ c = 104) (hr : r.data.toList ≠ []) (hs : s.data.toList = c :: 58 :: r.data.toList) (hz : s.size < 4294967281) : ∃ b, ident_Kind.f s = some (b, 0) := by
 have hne : (58 : UInt8) ∉ [c] := by rcases hc with rfl | rfl | rfl <;> decide
 have hcut : Lib.cut s.data.toList [58] = ([c], r.data.toList, true) := by
  rw [hs, show c :: 58 :: r.data.toList = [c] ++ 58 :: r.data.toList from rfl]
  unfold Lib.cut
  rw [Lib.index_one, index_at 58 [c] _ hne, if_pos (by omega), Int.toNat_natCast]
  simp
 unfold ident_Kind.f strings_Cut.f
 rw [if_pos hz]
 have e58 : (⟨#[58]⟩ : ByteArray).data.toList = [58] := rfl
 rw [e58, hcut]
 simp only [Option.bind_some]
 have e1 : (ofL [c]).size = 1 := by rw [ofL_size]; rfl
 have e2 : ¬ (ofL r.data.toList).toList = ([] : List UInt8) := by rw [Lib.toList_data, ofL_data]; exact hr
 have hb : bt (ofL [c]) 0 = (c.toNat : Int) := by
  unfold bt
  rw [dif_pos (by rw [e1]; decide)]
  rfl
 rw [if_pos (by rw [e1]; rfl), if_neg e2, if_pos (by rw [e1]; decide), hb]
 unfold strings_IndexByte.f
 simp only [Option.bind_some]
 rcases hc with rfl | rfl | rfl
 ·exact ⟨_, by rw [if_neg (by decide)]⟩
 ·exact ⟨_, by rw [if_neg (by decide)]⟩
 ·exact ⟨_, by rw [if_neg (by decide)]⟩
end Go.Proofs.YtihaeeldgimdiaaDoor.X
