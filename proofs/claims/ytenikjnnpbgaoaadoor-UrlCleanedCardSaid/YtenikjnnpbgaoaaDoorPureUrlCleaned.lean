/- UrlCleaned: what is cleaned twice is cleaned once, so it is parsed as what it was cleaned of. -/
import Derived.Test.YtenikjnnpbgaoaaDoorLc
import Derived.KernelRfl
namespace Go.Proofs.YtenikjnnpbgaoaaDoor.X
open Go.RowKit Go.Lib Go.Proofs.YtenikjnnpbgaoaaDoorW.PrintWords Go.Proofs.YtenikjnnpbgaoaaDoorW.PrintLast
set_option linter.unusedVariables false
set_option linter.unusedSimpArgs false

theorem aliveAt_60 : aliveAt 60 := ⟨by kernel_rfl, by kernel_rfl⟩
theorem drop_id (p : UInt8 → Bool) (l : List UInt8) (h : ∀ a t, l = a :: t → p a = false) : l.dropWhile p = l := by
  cases l with
  | nil => rfl
  | cons a t => rw [List.dropWhile_cons, h a t rfl]; rfl
theorem drop_head (p : UInt8 → Bool) : ∀ (l : List UInt8) (a : UInt8) (t : List UInt8), l.dropWhile p = a :: t → p a = false := by
  intro l
  induction l with
  | nil => intro a t h; cases h
  | cons b l ih =>
    intro a t h
    rw [List.dropWhile_cons] at h
    split at h
    · exact ih a t h
    · next hb => cases h; cases hq : p b <;> simp_all
/-- No byte below 33 stands at an end. -/
def ends (l : List UInt8) : Prop := (∀ a t, l = a :: t → low33 a = false) ∧ (∀ a t, l.reverse = a :: t → low33 a = false)
theorem trim_ends (l : List UInt8) : ends (trim33 l) := by
  refine ⟨fun a t h => ?_, fun a t h => ?_⟩
  · unfold trim33 at h
    have hs : ((l.dropWhile low33).reverse.dropWhile low33).reverse <+: l.dropWhile low33 := by
      have := List.reverse_prefix.2 (List.dropWhile_suffix low33 (l := (l.dropWhile low33).reverse))
      rw [List.reverse_reverse] at this; exact this
    obtain ⟨r, hr⟩ := hs
    rw [h] at hr
    exact drop_head low33 l a (t ++ r) hr.symm
  · unfold trim33 at h
    rw [List.reverse_reverse] at h
    exact drop_head low33 _ a t h
theorem trim_id (l : List UInt8) (h : ends l) : trim33 l = l := by
  unfold trim33
  rw [drop_id low33 l h.1, drop_id low33 l.reverse h.2, List.reverse_reverse]
theorem ends_filter (q : UInt8 → Bool) (hq : ∀ a, low33 a = false → q a = true) (l : List UInt8) (h : ends l) : ends (l.filter q) := by
  have hf : ∀ l : List UInt8, (∀ a t, l = a :: t → low33 a = false) → ∀ a t, l.filter q = a :: t → low33 a = false := by
    intro l h a t e
    cases l with
    | nil => cases e
    | cons b l =>
      have hb := h b l rfl
      rw [List.filter_cons, if_pos (hq b hb)] at e
      cases e; exact hb
  refine ⟨hf l h.1, ?_⟩
  intro a t e
  rw [← List.filter_reverse] at e
  exact hf l.reverse h.2 a t e
theorem low_ne (c : UInt8) (hc : c.toNat ≤ 32) : ∀ a, low33 a = false → (a != c) = true := by
  intro a ha
  rw [bne_iff_ne]
  rintro rfl
  have : low33 a = true := by revert hc; revert a; exact byte_all (by decide +kernel)
  rw [this] at ha; cases ha
theorem clean_twice (l : List UInt8) : clean33 (clean33 l) = clean33 l := by
  have h : ends (clean33 l) := ends_filter _ (low_ne 13 (by decide)) _ (ends_filter _ (low_ne 10 (by decide)) _ (ends_filter _ (low_ne 9 (by decide)) _ (trim_ends l)))
  have e : clean33 (clean33 l) = (((clean33 l).filter (· != 9)).filter (· != 10)).filter (· != 13) := by
    show (((trim33 (clean33 l)).filter (· != 9)).filter (· != 10)).filter (· != 13) = _
    rw [trim_id _ h]
  rw [e]
  unfold clean33
  simp only [List.filter_filter]
  refine List.filter_congr fun a _ => ?_
  cases (a != 9) <;> cases (a != 10) <;> cases (a != 13) <;> rfl

theorem urlCleaned_walk (a0 : ByteArray) (w : World) (hE : EnvOk w) (w0 : a0.size ≤ 140737488351232) :
    Calls Tryd.prog 4 #[.string a0] w fun e w' => e = .returned (.bool true) ∧ Below w.heap.size w w' := by
  by_cases hl : (a0.size : Int) > 2200
  · exact urlCleaned_long 60 a0 w hE (by unfold cringlelaw04_long.f; rw [decide_eq_true hl]) aliveAt_60
  · have hcl : url_Clean.f a0 = some (ofL (clean33 a0.data.toList)) := by unfold url_Clean.f; rw [if_pos (by omega)]
    have hle := clean33_le a0.data.toList
    rw [← Lib.size_eq] at hle
    have hcc : url_Clean.f (ofL (clean33 a0.data.toList)) = some (ofL (clean33 a0.data.toList)) := by
      unfold url_Clean.f; rw [if_pos (by rw [ofL_size]; omega), ofL_data, clean_twice]
    obtain ⟨k1, h1⟩ := parse_f a0 (by omega)
    obtain ⟨k2, h2⟩ := parse_f (ofL (clean33 a0.data.toList)) (by rw [ofL_size]; omega)
    have e : parseR (clean33 a0.data.toList) = parseR a0.data.toList := by unfold parseR; rw [clean_twice]
    rw [ofL_data, e] at h2
    exact urlCleaned_short (k1 + k2 + 60) a0 (ofL (clean33 a0.data.toList)) _ _ _ _ _ _ _ _ _ w hE (by unfold cringlelaw04_long.f; rw [decide_eq_false hl]) (aliveAt_60.more (by omega)) hcl hcc (h1 _ (by omega)) (h2 _ (by omega)) (by rw [ofL_size]; omega)
end Go.Proofs.YtenikjnnpbgaoaaDoor.X
