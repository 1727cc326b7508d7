/- UrlSigns: what is parsed has signs from 33 to 126 alone, a scheme, a host and a port. -/
import Derived.Test.YtenikjnnpbgaoaaDoorLs
import Derived.KernelRfl
namespace Go.Proofs.YtenikjnnpbgaoaaDoor.X
open Go.RowKit Go.Lib Go.Proofs.YtenikjnnpbgaoaaDoorW.PrintWords Go.Proofs.YtenikjnnpbgaoaaDoorW.PrintLast
set_option linter.unusedVariables false
set_option linter.unusedSimpArgs false

theorem aliveAt_60 : aliveAt 60 := ⟨by kernel_rfl, by kernel_rfl⟩
/-- A URL that is parsed, by its parts. -/
structure ParsedAs (u1 u2 : ByteArray) (u3 : Int) (u4 u5 u6 : ByteArray) (u7 u8 : Bool) (host r : List UInt8) : Prop where
  sch : u1 = ofL httpB ∨ u1 = ofL httpsB
  hostEq : u2 = ofL host
  ne : host ≠ []
  name : nameL host = true
  low : ∃ m, host = lowL (unmarkL m)
  p0 : 0 ≤ u3
  p1 : u3 ≤ 65535
  path : u4 = tailPath r
  query : u5 = tailQuery r
  frag : u6 = tailFrag r
  hasQ : u7 = tailHasQ r
  hasF : u8 = tailHasF r
  size : (stringB u1 u2 u3 u4 u5 u6 u7 u8).size ≤ 2048
  rest : r.length ≤ 2048
theorem parsed_of {l : List UInt8} {u1 u2 : ByteArray} {u3 : Int} {u4 u5 u6 : ByteArray} {u7 u8 : Bool} (h : parseR l = (u1, u2, u3, u4, u5, u6, u7, u8, 0)) : ∃ host r, ParsedAs u1 u2 u3 u4 u5 u6 u7 u8 host r := by
  unfold parseR parseC at h
  generalize clean33 l = c at h
  by_cases h1 : (c.length : Int) > 2048
  · rw [if_pos h1] at h
    simp only [url_none, Prod.mk.injEq] at h
    exact absurd h.2.2.2.2.2.2.2.2 (by decide)
  · rw [if_neg h1] at h
    unfold parseS at h
    have hrl := (cut_le c [58]).2
    by_cases h2 : (schemeR c ⟨#[]⟩).1 = 0
    · rw [if_neg (by simpa using h2)] at h
      have hs : (lowL (Lib.cut c [58]).1 = httpB ∨ lowL (Lib.cut c [58]).1 = httpsB) ∧ schemeR c ⟨#[]⟩ = (0, ofL (Lib.cut c [58]).2.1, ofL (lowL (Lib.cut c [58]).1)) := by
        unfold schemeR at h2 ⊢
        split at h2
        · next hc =>
          rw [if_pos hc]
          by_cases hl : lowL (Lib.cut c [58]).1 = httpB ∨ lowL (Lib.cut c [58]).1 = httpsB
          · exact ⟨hl, by rw [if_pos hl]⟩
          · simp only [if_neg hl] at h2
            exact absurd h2 (by decide)
        · exact absurd (show (3 : Int) = 0 from h2) (by decide)
      rw [hs.2] at h
      simp only [ofL_data] at h
      unfold parseP at h
      have hps := placeR_sizes (Lib.cut c [58]).2.1 (lowL (Lib.cut c [58]).1)
      by_cases h3 : (placeR (Lib.cut c [58]).2.1 (lowL (Lib.cut c [58]).1) ⟨#[]⟩ 0).1 = 0
      · rw [if_neg (by simpa using h3)] at h
        have hh : ∃ m, (hostL m).2 = 0 ∧ (placeR (Lib.cut c [58]).2.1 (lowL (Lib.cut c [58]).1) ⟨#[]⟩ 0).2.2.1 = ofL (hostL m).1 := by
          refine ⟨(Lib.cut (placeHost (Lib.cut c [58]).2.1) [58]).1, ?_⟩
          revert h3
          unfold placeR
          split
          · split
            · intro h3; exact absurd (show (3 : Int) = 0 from h3) (by decide)
            · split
              · next h5 =>
                split
                · intro _; exact ⟨h5, rfl⟩
                · split
                  · split
                    · intro _; exact ⟨h5, rfl⟩
                    · intro _; exact ⟨h5, rfl⟩
                  · intro h3; exact absurd (show (3 : Int) = 0 from h3) (by decide)
              · next h5 => intro h3; exact absurd h3 h5
          · intro h3; exact absurd (show (3 : Int) = 0 from h3) (by decide)
        obtain ⟨m, hm1, hm2⟩ := hh
        have hm3 : (hostL m).1 = lowL (unmarkL m) ∧ lowL (unmarkL m) ≠ [] ∧ nameL (lowL (unmarkL m)) = true := by
          unfold hostL at hm1 ⊢
          by_cases e1 : lowL (unmarkL m) = []
          · rw [if_pos e1] at hm1; exact absurd hm1 (by decide)
          · rw [if_neg e1] at hm1 ⊢
            by_cases e2 : nameL (lowL (unmarkL m)) = true
            · rw [if_pos e2]; exact ⟨rfl, e1, e2⟩
            · rw [if_neg e2] at hm1; exact absurd hm1 (by decide)
        generalize placeR (Lib.cut c [58]).2.1 (lowL (Lib.cut c [58]).1) ⟨#[]⟩ 0 = y at h hps hm2 h3
        unfold urlOf at h
        split at h
        · simp only [url_none, Prod.mk.injEq] at h
          exact absurd h.2.2.2.2.2.2.2.2 (by decide)
        · next hsz =>
          simp only [Prod.mk.injEq] at h
          obtain ⟨rfl, rfl, rfl, rfl, rfl, rfl, rfl, rfl, _⟩ := h
          refine ⟨(hostL m).1, y.2.1.data.toList, ?_⟩
          refine ⟨?_, hm2, by rw [hm3.1]; exact hm3.2.1, by rw [hm3.1]; exact hm3.2.2, ⟨m, hm3.1⟩, hps.2.2.1, hps.2.2.2, rfl, rfl, rfl, rfl, rfl, by omega, ?_⟩
          · rcases hs.1 with e | e <;> rw [e]
            · exact .inl rfl
            · exact .inr rfl
          · have := hps.1
            rw [Lib.size_eq] at this
            omega
      · rw [if_pos (by simpa using h3)] at h
        simp only [url_none, Prod.mk.injEq] at h
        exact absurd h.2.2.2.2.2.2.2.2 h3
    · rw [if_pos (by simpa using h2)] at h
      simp only [url_none, Prod.mk.injEq] at h
      exact absurd h.2.2.2.2.2.2.2.2 h2

/-! Signs -/
def safeB (b : UInt8) : Prop := 33 ≤ b.toNat ∧ b.toNat ≤ 126
def safeS (s : ByteArray) : Prop := ∀ b ∈ s.data.toList, safeB b
theorem safeS_append {a b : ByteArray} (ha : safeS a) (hb : safeS b) : safeS (a ++ b) := by
  intro c hc
  rw [ByteArray.data_append, Array.toList_append] at hc
  rcases List.mem_append.1 hc with h | h
  · exact ha c h
  · exact hb c h
theorem safe_mark (b : UInt8) : ∀ c ∈ markB [] b, safeB c := by
  unfold safeB; revert b; exact byte_all (by decide +kernel)
theorem safe_part (part l : List UInt8) : ∀ c ∈ partL part l, safeB c := by
  intro c hc
  unfold partL at hc
  obtain ⟨b, _, hc⟩ := List.mem_flatMap.1 hc
  unfold partB at hc
  split at hc
  · next h =>
    simp only [Bool.and_eq_true, decide_eq_true_eq] at h
    obtain rfl := List.mem_singleton.1 hc
    exact ⟨by omega, by omega⟩
  · exact safe_mark b c hc
theorem safe_ok (b : UInt8) (h : okB b = true) : safeB b := by
  unfold okB at h
  simp only [Bool.and_eq_true, decide_eq_true_eq] at h
  exact ⟨by omega, by omega⟩
theorem mem_joinTail (r : List (List UInt8)) (c : UInt8) (h : c ∈ Lib.joinTail [47] r) : c = 47 ∨ ∃ y ∈ r, c ∈ y := by
  induction r with
  | nil => simp [Lib.joinTail] at h
  | cons y r ih =>
    have e : Lib.joinTail [47] (y :: r) = 47 :: (y ++ Lib.joinTail [47] r) := by simp [Lib.joinTail]
    rw [e] at h
    rcases List.mem_cons.1 h with h | h
    · exact .inl h
    · rcases List.mem_append.1 h with h | h
      · exact .inr ⟨y, by simp, h⟩
      · rcases ih h with h | ⟨z, hz, h⟩
        · exact .inl h
        · exact .inr ⟨z, by simp [hz], h⟩
theorem safe_path (l : List UInt8) : ∀ c ∈ pathL l, safeB c := by
  obtain ⟨x, r, e, h⟩ := pathL_parts l
  intro c hc
  rw [e] at hc
  rcases List.mem_cons.1 hc with rfl | hc
  · exact ⟨by decide, by decide⟩
  · rcases List.mem_append.1 hc with hc | hc
    · exact safe_ok c ((h x (by simp)).1 c hc)
    · rcases mem_joinTail r c hc with rfl | ⟨y, hy, hc⟩
      · exact ⟨by decide, by decide⟩
      · exact safe_ok c ((h y (by simp [hy])).1 c hc)
theorem mem_splitB (c : UInt8) (l : List UInt8) : ∀ b ∈ l, b = c ∨ ∃ y ∈ splitB c l, b ∈ y := by
  induction l with
  | nil => intro b hb; cases hb
  | cons a l ih =>
    intro b hb
    rw [splitB]
    by_cases hac : a = c
    · rw [if_pos hac]
      rcases List.mem_cons.1 hb with rfl | hb
      · exact .inl hac
      · rcases ih b hb with h | ⟨y, hy, h⟩
        · exact .inl h
        · exact .inr ⟨y, by simp [hy], h⟩
    · rw [if_neg hac]
      cases hs : splitB c l with
      | nil => exact absurd hs (splitB_ne c l)
      | cons x r =>
        rw [hs] at ih
        rcases List.mem_cons.1 hb with rfl | hb
        · exact .inr ⟨b :: x, by simp [consHead], by simp⟩
        · rcases ih b hb with h | ⟨y, hy, h⟩
          · exact .inl h
          · rcases List.mem_cons.1 hy with rfl | hy
            · exact .inr ⟨a :: y, by simp [consHead], by simp [h]⟩
            · exact .inr ⟨y, by simp [consHead, hy], h⟩
theorem safe_nameB (b : UInt8) : nameB b = true → safeB b := by
  unfold safeB; revert b; exact byte_all (by decide +kernel)
theorem safe_name (l : List UInt8) (h : nameL l = true) : ∀ c ∈ l, safeB c := by
  intro c hc
  unfold nameL at h
  rw [Bool.and_eq_true] at h
  rcases mem_splitB 46 l c hc with rfl | ⟨y, hy, hc⟩
  · exact ⟨by decide, by decide⟩
  · have := List.all_eq_true.1 h.1 y hy
    unfold nameP at this
    rw [Bool.and_eq_true] at this
    exact safe_nameB c (List.all_eq_true.1 this.1 c hc)
theorem digs_mem : ∀ (f v : Nat) (n : Int), n ∈ digs f v → 48 ≤ n ∧ n ≤ 57 := by
  intro f
  induction f with
  | zero => intro v n h; cases h
  | succ f ih =>
    intro v n h
    unfold digs at h
    split at h
    · cases h
    · rcases List.mem_cons.1 h with rfl | h
      · omega
      · exact ih _ n h
theorem safe_text (v : Nat) : safeS (strOfNums (textN v)) := by
  intro b hb
  have hm : ∀ n ∈ textN v, (48 : Int) ≤ n ∧ n ≤ 57 := by
    intro n hn
    unfold textN at hn
    split at hn
    · obtain rfl := List.mem_singleton.1 hn; omega
    · exact digs_mem 20 v n (List.mem_reverse.1 hn)
  unfold strOfNums at hb
  simp only [] at hb
  obtain ⟨n, hn, rfl⟩ := List.mem_map.1 hb
  have := hm n hn
  unfold safeB
  rw [UInt8.toNat_ofNat']
  omega
theorem safe_string {u1 u2 : ByteArray} {u3 : Int} {u4 u5 u6 : ByteArray} {u7 u8 : Bool} {host r : List UInt8} (h : ParsedAs u1 u2 u3 u4 u5 u6 u7 u8 host r) : safeS (stringB u1 u2 u3 u4 u5 u6 u7 u8) := by
  have s1 : safeS u1 := by
    rcases h.sch with e | e <;> (subst e; unfold safeS safeB; decide)
  have s2 : safeS u2 := by
    have := h.hostEq; subst this
    exact safe_name host h.name
  have s4 : safeS u4 := by
    have := h.path; subst this
    exact safe_path _
  have hz : safeS ⟨#[]⟩ := fun b hb => by cases hb
  have s5 : safeS u5 := by
    have := h.query; subst this
    unfold tailQuery
    split
    · exact safe_part _ _
    · exact hz
  have s6 : safeS u6 := by
    have := h.frag; subst this
    unfold tailFrag
    split
    · exact safe_part _ _
    · exact hz
  have c1 : safeS ⟨#[58, 47, 47]⟩ := by unfold safeS safeB; decide
  have c2 : safeS ⟨#[58]⟩ := by unfold safeS safeB; decide
  have c3 : safeS ⟨#[63]⟩ := by unfold safeS safeB; decide
  have c4 : safeS ⟨#[35]⟩ := by unfold safeS safeB; decide
  have so : safeS (originB u1 u2 u3) := by
    unfold originB
    split
    · exact safeS_append (safeS_append s1 c1) s2
    · exact safeS_append (safeS_append (safeS_append s1 c1) s2) (safeS_append c2 (safe_text _))
  have sq : safeS (stringQ (originB u1 u2 u3 ++ u4) u5 u7) := by
    unfold stringQ
    split
    · exact safeS_append (safeS_append so s4) (safeS_append c3 s5)
    · exact safeS_append so s4
  unfold stringB stringF
  split
  · exact safeS_append sq (safeS_append c4 s6)
  · exact sq

theorem urlSigns_walk (a0 : ByteArray) (w : World) (hE : EnvOk w) (w0 : a0.size ≤ 140737488351232) :
    Calls Tryd.prog 5 #[.string a0] w fun e w' => e = .returned (.bool true) ∧ Below w.heap.size w w' := by
  by_cases hl : (a0.size : Int) > 2200
  · exact urlSigns_long 60 a0 w hE (by unfold cringlelaw04_long.f; rw [decide_eq_true hl]) aliveAt_60
  · have hlf : cringlelaw04_long.f a0 = some false := by unfold cringlelaw04_long.f; rw [decide_eq_false hl]
    obtain ⟨k1, h1⟩ := parse_f a0 (by omega)
    cases hr : parseR a0.data.toList with
    | mk u1 x1 =>
    obtain ⟨u2, u3, u4, u5, u6, u7, u8, u9⟩ := x1
    rw [hr] at h1
    by_cases he : u9 = 0
    · subst he
      obtain ⟨host, r, hp⟩ := parsed_of hr
      have hsz := hp.size
      have hrl := hp.rest
      have ht := tail_sizes r
      have hhost : u2.size ≤ 100000 := by
        have e1 := hp.hostEq
        have : (splitB 46 host).length ≤ host.length + 1 := splitB_length 46 host
        have hn := hp.name
        unfold nameL at hn
        simp only [Bool.and_eq_true, decide_eq_true_eq] at hn
        rw [e1, ofL_size]; omega
      have hsch : u1.size ≤ 10 := by rcases hp.sch with e | e <;> rw [e, ofL_size] <;> decide
      obtain ⟨k2, h2⟩ := string_f u1 u2 u3 u4 u5 u6 u7 u8 (by omega) (by omega) (by rw [hp.path]; omega) (by rw [hp.query]; omega) (by rw [hp.frag]; omega) hp.p0 (by have := hp.p1; omega)
      exact urlSigns_ok (k1 + k2 + 60) a0 (stringB u1 u2 u3 u4 u5 u6 u7 u8) u1 u2 u3 u4 u5 u6 u7 u8 w hE hlf (aliveAt_60.more (by omega)) (h1 _ (by omega)) (h2 _ (by omega)) hp.sch
        (by rw [hp.hostEq, ofL_toList]; exact hp.ne) hp.p0 hp.p1 (safe_string hp) (by omega)
    · exact urlSigns_err (k1 + 60) a0 u1 u2 u3 u4 u5 u6 u7 u8 u9 w hE hlf (aliveAt_60.more (by omega)) (h1 _ (by omega)) he
end Go.Proofs.YtenikjnnpbgaoaaDoor.X
