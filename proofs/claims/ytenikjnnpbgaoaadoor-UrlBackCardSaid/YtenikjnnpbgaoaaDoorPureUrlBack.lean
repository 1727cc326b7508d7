/- UrlBack: what is parsed is, as a text, parsed as it, with its fragment and without. -/
import Derived.Test.YtenikjnnpbgaoaaDoorPq
import Derived.Lib.IndexBytes
import Derived.Test.YtenikjnnpbgaoaaDoorLb
import Derived.KernelRfl
namespace Go.Proofs.YtenikjnnpbgaoaaDoor.X
open Go.RowKit Go.Lib Go.Proofs.YtenikjnnpbgaoaaDoorW.PrintWords Go.Proofs.YtenikjnnpbgaoaaDoorW.PrintLast
set_option linter.unusedVariables false
set_option linter.unusedSimpArgs false

/-- A URL that is parsed, by its parts. -/
structure ParsedAs (u1 u2 : ByteArray) (u3 : Int) (u4 u5 u6 : ByteArray) (u7 u8 : Bool) (host r : List UInt8) : Prop where
  sch : u1 = ofL httpB ∨ u1 = ofL httpsB
  hostEq : u2 = ofL host
  ne : host ≠ []
  name : nameL host = true
  low : ∃ m, host = lowL (unmarkL m)
  p0 : 0 ≤ u3
  p1 : u3 ≤ 65535
  path : u4 = tailPath r
  query : u5 = tailQuery r
  frag : u6 = tailFrag r
  hasQ : u7 = tailHasQ r
  hasF : u8 = tailHasF r
  size : (stringB u1 u2 u3 u4 u5 u6 u7 u8).size ≤ 2048
  rest : r.length ≤ 2048
  own : u3 ≠ ownN u1.data.toList
theorem parsed_of {l : List UInt8} {u1 u2 : ByteArray} {u3 : Int} {u4 u5 u6 : ByteArray} {u7 u8 : Bool} (h : parseR l = (u1, u2, u3, u4, u5, u6, u7, u8, 0)) : ∃ host r, ParsedAs u1 u2 u3 u4 u5 u6 u7 u8 host r := by
  unfold parseR parseC at h
  generalize clean33 l = c at h
  by_cases h1 : (c.length : Int) > 2048
  · rw [if_pos h1] at h
    simp only [url_none, Prod.mk.injEq] at h
    exact absurd h.2.2.2.2.2.2.2.2 (by decide)
  · rw [if_neg h1] at h
    unfold parseS at h
    have hrl := (cut_le c [58]).2
    by_cases h2 : (schemeR c ⟨#[]⟩).1 = 0
    · rw [if_neg (by simpa using h2)] at h
      have hs : (lowL (Lib.cut c [58]).1 = httpB ∨ lowL (Lib.cut c [58]).1 = httpsB) ∧ schemeR c ⟨#[]⟩ = (0, ofL (Lib.cut c [58]).2.1, ofL (lowL (Lib.cut c [58]).1)) := by
        unfold schemeR at h2 ⊢
        split at h2
        · next hc =>
          rw [if_pos hc]
          by_cases hl : lowL (Lib.cut c [58]).1 = httpB ∨ lowL (Lib.cut c [58]).1 = httpsB
          · exact ⟨hl, by rw [if_pos hl]⟩
          · simp only [if_neg hl] at h2
            exact absurd h2 (by decide)
        · exact absurd (show (3 : Int) = 0 from h2) (by decide)
      rw [hs.2] at h
      simp only [ofL_data] at h
      unfold parseP at h
      have hps := placeR_sizes (Lib.cut c [58]).2.1 (lowL (Lib.cut c [58]).1)
      by_cases h3 : (placeR (Lib.cut c [58]).2.1 (lowL (Lib.cut c [58]).1) ⟨#[]⟩ 0).1 = 0
      · rw [if_neg (by simpa using h3)] at h
        have hown0 : (0 : Int) ≠ ownN (lowL (Lib.cut c [58]).1) := by unfold ownN; split <;> decide
        have hh : ∃ m, (hostL m).2 = 0 ∧ (placeR (Lib.cut c [58]).2.1 (lowL (Lib.cut c [58]).1) ⟨#[]⟩ 0).2.2.1 = ofL (hostL m).1 ∧ (placeR (Lib.cut c [58]).2.1 (lowL (Lib.cut c [58]).1) ⟨#[]⟩ 0).2.2.2 ≠ ownN (lowL (Lib.cut c [58]).1) := by
          refine ⟨(Lib.cut (placeHost (Lib.cut c [58]).2.1) [58]).1, ?_⟩
          revert h3
          unfold placeR
          split
          · split
            · intro h3; exact absurd (show (3 : Int) = 0 from h3) (by decide)
            · split
              · next h5 =>
                split
                · intro _; exact ⟨h5, rfl, hown0⟩
                · split
                  · split
                    · intro _; exact ⟨h5, rfl, hown0⟩
                    · next h7 => intro _; exact ⟨h5, rfl, h7⟩
                  · intro h3; exact absurd (show (3 : Int) = 0 from h3) (by decide)
              · next h5 => intro h3; exact absurd h3 h5
          · intro h3; exact absurd (show (3 : Int) = 0 from h3) (by decide)
        obtain ⟨m, hm1, hm2, hm4⟩ := hh
        have hm3 : (hostL m).1 = lowL (unmarkL m) ∧ lowL (unmarkL m) ≠ [] ∧ nameL (lowL (unmarkL m)) = true := by
          unfold hostL at hm1 ⊢
          by_cases e1 : lowL (unmarkL m) = []
          · rw [if_pos e1] at hm1; exact absurd hm1 (by decide)
          · rw [if_neg e1] at hm1 ⊢
            by_cases e2 : nameL (lowL (unmarkL m)) = true
            · rw [if_pos e2]; exact ⟨rfl, e1, e2⟩
            · rw [if_neg e2] at hm1; exact absurd hm1 (by decide)
        generalize placeR (Lib.cut c [58]).2.1 (lowL (Lib.cut c [58]).1) ⟨#[]⟩ 0 = y at h hps hm2 hm4 h3
        unfold urlOf at h
        split at h
        · simp only [url_none, Prod.mk.injEq] at h
          exact absurd h.2.2.2.2.2.2.2.2 (by decide)
        · next hsz =>
          simp only [Prod.mk.injEq] at h
          obtain ⟨rfl, rfl, rfl, rfl, rfl, rfl, rfl, rfl, _⟩ := h
          refine ⟨(hostL m).1, y.2.1.data.toList, ?_⟩
          refine ⟨?_, hm2, by rw [hm3.1]; exact hm3.2.1, by rw [hm3.1]; exact hm3.2.2, ⟨m, hm3.1⟩, hps.2.2.1, hps.2.2.2, rfl, rfl, rfl, rfl, rfl, by omega, ?_, ?_⟩
          · rcases hs.1 with e | e <;> rw [e]
            · exact .inl rfl
            · exact .inr rfl
          · have := hps.1
            rw [Lib.size_eq] at this
            omega
          · rw [ofL_data]; exact hm4
      · rw [if_pos (by simpa using h3)] at h
        simp only [url_none, Prod.mk.injEq] at h
        exact absurd h.2.2.2.2.2.2.2.2 h3
    · rw [if_pos (by simpa using h2)] at h
      simp only [url_none, Prod.mk.injEq] at h
      exact absurd h.2.2.2.2.2.2.2.2 h2

/-! Signs -/
def safeB (b : UInt8) : Prop := 33 ≤ b.toNat ∧ b.toNat ≤ 126
def safeS (s : ByteArray) : Prop := ∀ b ∈ s.data.toList, safeB b
theorem safeS_append {a b : ByteArray} (ha : safeS a) (hb : safeS b) : safeS (a ++ b) := by
  intro c hc
  rw [ByteArray.data_append, Array.toList_append] at hc
  rcases List.mem_append.1 hc with h | h
  · exact ha c h
  · exact hb c h
theorem safe_mark (b : UInt8) : ∀ c ∈ markB [] b, safeB c := by
  unfold safeB; revert b; exact byte_all (by decide +kernel)
theorem safe_part (part l : List UInt8) : ∀ c ∈ partL part l, safeB c := by
  intro c hc
  unfold partL at hc
  obtain ⟨b, _, hc⟩ := List.mem_flatMap.1 hc
  unfold partB at hc
  split at hc
  · next h =>
    simp only [Bool.and_eq_true, decide_eq_true_eq] at h
    obtain rfl := List.mem_singleton.1 hc
    exact ⟨by omega, by omega⟩
  · exact safe_mark b c hc
theorem safe_ok (b : UInt8) (h : okB b = true) : safeB b := by
  unfold okB at h
  simp only [Bool.and_eq_true, decide_eq_true_eq] at h
  exact ⟨by omega, by omega⟩
theorem mem_joinTail (r : List (List UInt8)) (c : UInt8) (h : c ∈ Lib.joinTail [47] r) : c = 47 ∨ ∃ y ∈ r, c ∈ y := by
  induction r with
  | nil => simp [Lib.joinTail] at h
  | cons y r ih =>
    have e : Lib.joinTail [47] (y :: r) = 47 :: (y ++ Lib.joinTail [47] r) := by simp [Lib.joinTail]
    rw [e] at h
    rcases List.mem_cons.1 h with h | h
    · exact .inl h
    · rcases List.mem_append.1 h with h | h
      · exact .inr ⟨y, by simp, h⟩
      · rcases ih h with h | ⟨z, hz, h⟩
        · exact .inl h
        · exact .inr ⟨z, by simp [hz], h⟩
theorem safe_path (l : List UInt8) : ∀ c ∈ pathL l, safeB c := by
  obtain ⟨x, r, e, h⟩ := pathL_parts l
  intro c hc
  rw [e] at hc
  rcases List.mem_cons.1 hc with rfl | hc
  · exact ⟨by decide, by decide⟩
  · rcases List.mem_append.1 hc with hc | hc
    · exact safe_ok c ((h x (by simp)).1 c hc)
    · rcases mem_joinTail r c hc with rfl | ⟨y, hy, hc⟩
      · exact ⟨by decide, by decide⟩
      · exact safe_ok c ((h y (by simp [hy])).1 c hc)
theorem mem_splitB (c : UInt8) (l : List UInt8) : ∀ b ∈ l, b = c ∨ ∃ y ∈ splitB c l, b ∈ y := by
  induction l with
  | nil => intro b hb; cases hb
  | cons a l ih =>
    intro b hb
    rw [splitB]
    by_cases hac : a = c
    · rw [if_pos hac]
      rcases List.mem_cons.1 hb with rfl | hb
      · exact .inl hac
      · rcases ih b hb with h | ⟨y, hy, h⟩
        · exact .inl h
        · exact .inr ⟨y, by simp [hy], h⟩
    · rw [if_neg hac]
      cases hs : splitB c l with
      | nil => exact absurd hs (splitB_ne c l)
      | cons x r =>
        rw [hs] at ih
        rcases List.mem_cons.1 hb with rfl | hb
        · exact .inr ⟨b :: x, by simp [consHead], by simp⟩
        · rcases ih b hb with h | ⟨y, hy, h⟩
          · exact .inl h
          · rcases List.mem_cons.1 hy with rfl | hy
            · exact .inr ⟨a :: y, by simp [consHead], by simp [h]⟩
            · exact .inr ⟨y, by simp [consHead, hy], h⟩
theorem safe_nameB (b : UInt8) : nameB b = true → safeB b := by
  unfold safeB; revert b; exact byte_all (by decide +kernel)
theorem safe_name (l : List UInt8) (h : nameL l = true) : ∀ c ∈ l, safeB c := by
  intro c hc
  unfold nameL at h
  rw [Bool.and_eq_true] at h
  rcases mem_splitB 46 l c hc with rfl | ⟨y, hy, hc⟩
  · exact ⟨by decide, by decide⟩
  · have := List.all_eq_true.1 h.1 y hy
    unfold nameP at this
    rw [Bool.and_eq_true] at this
    exact safe_nameB c (List.all_eq_true.1 this.1 c hc)
theorem digs_mem : ∀ (f v : Nat) (n : Int), n ∈ digs f v → 48 ≤ n ∧ n ≤ 57 := by
  intro f
  induction f with
  | zero => intro v n h; cases h
  | succ f ih =>
    intro v n h
    unfold digs at h
    split at h
    · cases h
    · rcases List.mem_cons.1 h with rfl | h
      · omega
      · exact ih _ n h
theorem safe_text (v : Nat) : safeS (strOfNums (textN v)) := by
  intro b hb
  have hm : ∀ n ∈ textN v, (48 : Int) ≤ n ∧ n ≤ 57 := by
    intro n hn
    unfold textN at hn
    split at hn
    · obtain rfl := List.mem_singleton.1 hn; omega
    · exact digs_mem 20 v n (List.mem_reverse.1 hn)
  unfold strOfNums at hb
  simp only [] at hb
  obtain ⟨n, hn, rfl⟩ := List.mem_map.1 hb
  have := hm n hn
  unfold safeB
  rw [UInt8.toNat_ofNat']
  omega
theorem safe_string {u1 u2 : ByteArray} {u3 : Int} {u4 u5 u6 : ByteArray} {u7 u8 : Bool} {host r : List UInt8} (h : ParsedAs u1 u2 u3 u4 u5 u6 u7 u8 host r) : safeS (stringB u1 u2 u3 u4 u5 u6 u7 u8) := by
  have s1 : safeS u1 := by
    rcases h.sch with e | e <;> (subst e; unfold safeS safeB; decide)
  have s2 : safeS u2 := by
    have := h.hostEq; subst this
    exact safe_name host h.name
  have s4 : safeS u4 := by
    have := h.path; subst this
    exact safe_path _
  have hz : safeS ⟨#[]⟩ := fun b hb => by cases hb
  have s5 : safeS u5 := by
    have := h.query; subst this
    unfold tailQuery
    split
    · exact safe_part _ _
    · exact hz
  have s6 : safeS u6 := by
    have := h.frag; subst this
    unfold tailFrag
    split
    · exact safe_part _ _
    · exact hz
  have c1 : safeS ⟨#[58, 47, 47]⟩ := by unfold safeS safeB; decide
  have c2 : safeS ⟨#[58]⟩ := by unfold safeS safeB; decide
  have c3 : safeS ⟨#[63]⟩ := by unfold safeS safeB; decide
  have c4 : safeS ⟨#[35]⟩ := by unfold safeS safeB; decide
  have so : safeS (originB u1 u2 u3) := by
    unfold originB
    split
    · exact safeS_append (safeS_append s1 c1) s2
    · exact safeS_append (safeS_append (safeS_append s1 c1) s2) (safeS_append c2 (safe_text _))
  have sq : safeS (stringQ (originB u1 u2 u3 ++ u4) u5 u7) := by
    unfold stringQ
    split
    · exact safeS_append (safeS_append so s4) (safeS_append c3 s5)
    · exact safeS_append so s4
  unfold stringB stringF
  split
  · exact safeS_append sq (safeS_append c4 s6)
  · exact sq

end Go.Proofs.YtenikjnnpbgaoaaDoor.X

namespace Go.Proofs.YtenikjnnpbgaoaaDoor.X
open Go.RowKit Go.Lib Go.Proofs.YtenikjnnpbgaoaaDoorW.PrintWords Go.Proofs.YtenikjnnpbgaoaaDoorW.PrintLast
set_option linter.unusedVariables false
set_option linter.unusedSimpArgs false

theorem indexByte_not (c : UInt8) : ∀ l : List UInt8, c ∉ l → Lib.indexByte l c = -1 := by
  intro l
  induction l with
  | nil => intro _; rfl
  | cons b l ih =>
    intro h
    rw [Lib.indexByte, if_neg (by rw [beq_iff_eq]; exact fun e => h (by simp [e])), ih (fun hm => h (by simp [hm]))]; rfl
theorem indexByte_at (c : UInt8) : ∀ (a b : List UInt8), c ∉ a → Lib.indexByte (a ++ c :: b) c = (a.length : Int) := by
  intro a
  induction a with
  | nil => intro b _; rw [List.nil_append, Lib.indexByte, if_pos (by simp)]; rfl
  | cons x a ih =>
    intro b h
    rw [List.cons_append, Lib.indexByte, if_neg (by rw [beq_iff_eq]; exact fun e => h (by simp [e])), ih b (fun hm => h (by simp [hm])), if_neg (by rw [beq_iff_eq]; omega)]
    simp
theorem cut_hit (c : UInt8) (a b : List UInt8) (h : c ∉ a) : Lib.cut (a ++ c :: b) [c] = (a, b, true) := by
  unfold Lib.cut
  rw [Lib.index_one, indexByte_at c a b h, if_pos (by omega), Int.toNat_natCast]
  simp
theorem cut_miss (c : UInt8) (a : List UInt8) (h : c ∉ a) : Lib.cut a [c] = (a, [], false) := by
  unfold Lib.cut
  rw [Lib.index_one, indexByte_not c a h, if_neg (by omega)]
theorem take_app (p : UInt8 → Bool) (a b : List UInt8) (h : ∀ x ∈ a, p x = true) : (a ++ b).takeWhile p = a ++ b.takeWhile p ∧ (a ++ b).dropWhile p = b.dropWhile p := by
  induction a with
  | nil => exact ⟨rfl, rfl⟩
  | cons x a ih =>
    have hx := h x (by simp)
    have := ih (fun y hy => h y (by simp [hy]))
    rw [List.cons_append, List.takeWhile_cons, List.dropWhile_cons, if_pos hx, if_pos hx, this.1, this.2]
    exact ⟨rfl, rfl⟩

/-! Numbers -/
def textL (v : Nat) : List UInt8 := (textN v).map fun n => UInt8.ofNat n.toNat
theorem text_data (v : Nat) : (strOfNums (textN v)).data.toList = textL v := by unfold strOfNums textL; rfl
theorem digit_byte (d : Nat) (h : d < 10) : isDigitB (UInt8.ofNat ((48 + (d : Int)).toNat)) = true ∧ (((UInt8.ofNat ((48 + (d : Int)).toNat)).toNat : Nat) : Int) - 48 = (d : Int) := by
  have e : (48 + (d : Int)).toNat = 48 + d := by omega
  rw [e]
  have e2 : (UInt8.ofNat (48 + d)).toNat = 48 + d := by rw [UInt8.toNat_ofNat']; omega
  refine ⟨?_, by rw [e2]; omega⟩
  unfold isDigitB
  rw [e2]
  simp; omega
theorem fold_text (most : Int) : ∀ (f v : Nat), v < 10 ^ f → (v : Int) ≤ most → ∀ B : List UInt8, numFold most false 0 (((digs f v).reverse.map fun n => UInt8.ofNat n.toNat) ++ B) = numFold most false (v : Int) B := by
  intro f
  induction f with
  | zero =>
    intro v hv _ B
    have : v = 0 := by simpa using hv
    subst this; rfl
  | succ f ih =>
    intro v hv hm B
    by_cases h0 : v = 0
    · subst h0; rfl
    · rw [digs, if_neg h0, List.reverse_cons, List.map_append, List.append_assoc, ih (v / 10) (by rw [Nat.pow_succ] at hv; omega) (by omega)]
      have hd := digit_byte (v % 10) (by omega)
      rw [List.map_cons, List.map_nil, List.cons_append, List.nil_append, numFold, if_pos hd.1, hd.2, if_neg (by simp; omega)]
      congr 1; omega
theorem num_text (v : Nat) (h0 : v ≠ 0) (h : v ≤ 65535) : numL 65535 (textL v) = ((v : Int), 0) := by
  have hne : textL v ≠ [] := by
    unfold textL textN
    rw [if_neg h0]
    intro e
    have := congrArg List.length e
    rw [List.length_map, List.length_reverse, digs, if_neg h0] at this
    simp at this
  unfold numL
  rw [if_neg hne]
  have := fold_text 65535 20 v (by omega) (by omega) []
  rw [List.append_nil] at this
  unfold textL textN
  rw [if_neg h0, this]; rfl
theorem text_digits (v : Nat) : ∀ b ∈ textL v, isDigitB b = true := by
  intro b hb
  unfold textL at hb
  obtain ⟨n, hn, rfl⟩ := List.mem_map.1 hb
  have hm : (48 : Int) ≤ n ∧ n ≤ 57 := by
    unfold textN at hn
    split at hn
    · obtain rfl := List.mem_singleton.1 hn; omega
    · exact digs_mem 20 v n (List.mem_reverse.1 hn)
  have := digit_byte (n - 48).toNat (by omega)
  rw [show (48 : Int) + ((n - 48).toNat : Int) = n by omega] at this
  exact this.1

/-! A host's name, again -/
theorem unmark_id : ∀ l : List UInt8, (37 : UInt8) ∉ l → unmarkL l = l := by
  intro l
  induction l with
  | nil => intro _; rfl
  | cons b l ih =>
    intro h
    rw [unmark_plain b l (.inl (fun e => h (by simp [e]))), ih (fun hm => h (by simp [hm]))]
theorem low_twice (l : List UInt8) : lowL (lowL l) = lowL l := by
  have hb : ∀ b : UInt8, lowB (lowB b) = lowB b := by exact byte_all (by decide +kernel)
  unfold lowL
  rw [List.map_map]
  exact List.map_congr_left fun b _ => hb b
theorem name_byte (b : UInt8) : (nameB b = true ∨ b = 46) → b ≠ 37 ∧ b ≠ 47 ∧ b ≠ 92 ∧ b ≠ 63 ∧ b ≠ 35 ∧ b ≠ 58 ∧ b ≠ 64 := by
  revert b; exact byte_all (by decide +kernel)
theorem name_bytes {l : List UInt8} (h : nameL l = true) : ∀ b ∈ l, b ≠ 37 ∧ b ≠ 47 ∧ b ≠ 92 ∧ b ≠ 63 ∧ b ≠ 35 ∧ b ≠ 58 ∧ b ≠ 64 := by
  intro b hb
  unfold nameL at h
  rw [Bool.and_eq_true] at h
  rcases mem_splitB 46 l b hb with e | ⟨y, hy, hc⟩
  · exact name_byte b (.inr e)
  · have := List.all_eq_true.1 h.1 y hy
    unfold nameP at this
    rw [Bool.and_eq_true] at this
    exact name_byte b (.inl (List.all_eq_true.1 this.1 b hc))
theorem host_again {host : List UInt8} (hne : host ≠ []) (hn : nameL host = true) (hl : ∃ m, host = lowL (unmarkL m)) : hostL host = (host, 0) := by
  have hu : unmarkL host = host := unmark_id host (fun h => (name_bytes hn 37 h).1 rfl)
  have hlo : lowL host = host := by obtain ⟨m, rfl⟩ := hl; exact low_twice _
  unfold hostL
  rw [hu, hlo, if_neg hne, if_pos hn]

/-! Marked twice -/
theorem part_twice (part : List UInt8) (h37 : part.contains 37 = false) (hx : ∀ n : Fin 16, part.contains (hexB n.val) = false) (l : List UInt8) : partL part (partL part l) = partL part l := by
  have h1 : ∀ b : UInt8, ∀ c ∈ partB part b, partB part c = [c] := by
    intro b c hc
    have keep : ∀ d : UInt8, (32 < d.toNat ∧ d.toNat < 127) → part.contains d = false → partB part d = [d] := by
      intro d hd hp
      unfold partB
      rw [hp, decide_eq_true hd.1, decide_eq_true hd.2]; rfl
    have hs := safe_part part [b] c (by unfold partL; simpa using hc)
    have hs2 : 32 < c.toNat ∧ c.toNat < 127 := ⟨by have := hs.1; omega, by have := hs.2; omega⟩
    unfold partB at hc
    split at hc
    · next h =>
      obtain rfl := List.mem_singleton.1 hc
      simp only [Bool.and_eq_true, decide_eq_true_eq, Bool.not_eq_true'] at h
      exact keep c hs2 h.2.2
    · next h =>
      unfold markB at hc
      split at hc
      · next hp =>
        obtain rfl := List.mem_singleton.1 hc
        by_cases hpc : part.contains c = true
        · unfold partB
          rw [if_neg h]
          unfold markB
          rw [if_pos hp]
        · exact keep c hs2 (by cases hq : part.contains c <;> simp_all)
      · simp only [List.mem_cons, List.mem_nil_iff, or_false] at hc
        rcases hc with rfl | rfl | rfl
        · exact keep _ hs2 h37
        · exact keep _ hs2 (hx ⟨b.toNat / 16, by have := b.toNat_lt; omega⟩)
        · exact keep _ hs2 (hx ⟨b.toNat % 16, by omega⟩)
  have h2 : ∀ l : List UInt8, (∀ c ∈ l, partB part c = [c]) → partL part l = l := by
    intro l
    induction l with
    | nil => intro _; rfl
    | cons c l ih =>
      intro h
      unfold partL at ih ⊢
      rw [List.flatMap_cons, h c (by simp), ih (fun d hd => h d (by simp [hd]))]; rfl
  refine h2 _ fun c hc => ?_
  unfold partL at hc
  obtain ⟨b, _, hc⟩ := List.mem_flatMap.1 hc
  exact h1 b c hc
theorem part_no (part : List UInt8) (x : UInt8) (hp : part.contains x = true) (hx : x ≠ 37 ∧ (∀ n : Fin 16, hexB n.val ≠ x) ∧ plainB x = false) (l : List UInt8) : x ∉ partL part l := by
  intro hc
  unfold partL at hc
  obtain ⟨b, _, hc⟩ := List.mem_flatMap.1 hc
  unfold partB at hc
  split at hc
  · next h =>
    obtain rfl := List.mem_singleton.1 hc
    rw [hp] at h
    simp at h
  · unfold markB at hc
    split at hc
    · next h =>
      obtain rfl := List.mem_singleton.1 hc
      rw [hx.2.2] at h
      simp at h
    · simp only [List.mem_cons, List.mem_nil_iff, or_false] at hc
      rcases hc with h | h | h
      · exact hx.1 h
      · exact hx.2.1 ⟨b.toNat / 16, by have := b.toNat_lt; omega⟩ h.symm
      · exact hx.2.1 ⟨b.toNat % 16, by omega⟩ h.symm
end Go.Proofs.YtenikjnnpbgaoaaDoor.X

namespace Go.Proofs.YtenikjnnpbgaoaaDoor.X
open Go.RowKit Go.Lib Go.Proofs.YtenikjnnpbgaoaaDoorW.PrintWords Go.Proofs.YtenikjnnpbgaoaaDoorW.PrintLast
set_option linter.unusedVariables false
set_option linter.unusedSimpArgs false

def portL (p : Int) : List UInt8 := if p = 0 then [] else 58 :: textL p.toNat
def queryT (q : List UInt8) (h : Bool) : List UInt8 := if h = true then 63 :: q else []
def fragT (f : List UInt8) (h : Bool) : List UInt8 := if h = true then 35 :: f else []
theorem app_data (a b : ByteArray) : (a ++ b).data.toList = a.data.toList ++ b.data.toList := by rw [ByteArray.data_append, Array.toList_append]
theorem string_data (sch host : List UInt8) (p : Int) (path query frag : List UInt8) (hq hf : Bool) :
    (stringB (ofL sch) (ofL host) p (ofL path) (ofL query) (ofL frag) hq hf).data.toList = sch ++ 58 :: 47 :: 47 :: (host ++ (portL p ++ (path ++ (queryT query hq ++ fragT frag hf)))) := by
  have h1 : (⟨#[58, 47, 47]⟩ : ByteArray).data.toList = [58, 47, 47] := rfl
  have h2 : (⟨#[58]⟩ : ByteArray).data.toList = [58] := rfl
  have h3 : (⟨#[63]⟩ : ByteArray).data.toList = [63] := rfl
  have h4 : (⟨#[35]⟩ : ByteArray).data.toList = [35] := rfl
  have ho : (originB (ofL sch) (ofL host) p).data.toList = sch ++ 58 :: 47 :: 47 :: (host ++ portL p) := by
    unfold originB portL
    split
    · simp only [app_data, ofL_data, h1]; simp
    · simp only [app_data, ofL_data, h1, h2, text_data]; simp
  unfold stringB stringF stringQ queryT fragT
  cases hq <;> cases hf <;> simp [app_data, ofL_data, h3, h4, ho]

theorem drop_none (p : UInt8 → Bool) (l : List UInt8) (h : ∀ b ∈ l, p b = false) : l.dropWhile p = l := by
  cases l with
  | nil => rfl
  | cons b t => rw [List.dropWhile_cons, h b (by simp)]; rfl
theorem clean_safe (l : List UInt8) (h : ∀ b ∈ l, safeB b) : clean33 l = l := by
  have hl : ∀ b : UInt8, safeB b → low33 b = false ∧ (b != 9) = true ∧ (b != 10) = true ∧ (b != 13) = true := by
    unfold safeB; exact byte_all (by decide +kernel)
  have ht : trim33 l = l := by
    unfold trim33
    rw [drop_none low33 l (fun b hb => (hl b (h b hb)).1), drop_none low33 l.reverse (fun b hb => (hl b (h b (List.mem_reverse.1 hb))).1), List.reverse_reverse]
  unfold clean33
  rw [ht, List.filter_eq_self.2 (fun b hb => (hl b (h b hb)).2.1), List.filter_eq_self.2 (fun b hb => (hl b (h b hb)).2.2.1), List.filter_eq_self.2 (fun b hb => (hl b (h b hb)).2.2.2)]

/-- Good parts. -/
structure Canon (sch host : List UInt8) (p : Int) (path query frag : List UInt8) (hq hf : Bool) : Prop where
  schIs : sch = httpB ∨ sch = httpsB
  hostNe : host ≠ []
  hostIs : hostL host = (host, 0)
  hostB : ∀ b ∈ host, b ≠ 37 ∧ b ≠ 47 ∧ b ≠ 92 ∧ b ≠ 63 ∧ b ≠ 35 ∧ b ≠ 58 ∧ b ≠ 64
  p0 : 0 ≤ p
  p1 : p ≤ 65535
  pOwn : p ≠ ownN sch
  pathIs : ∃ l, path = pathL l
  queryIs : (hq = true ∧ ∃ q, query = partL forQueryB q) ∨ (hq = false ∧ query = [])
  fragIs : (hf = true ∧ ∃ q, frag = partL forFragB q) ∨ (hf = false ∧ frag = [])
  safe : safeS (stringB (ofL sch) (ofL host) p (ofL path) (ofL query) (ofL frag) hq hf)
  size : (stringB (ofL sch) (ofL host) p (ofL path) (ofL query) (ofL frag) hq hf).size ≤ 2048

theorem path_bytes (l : List UInt8) : ∀ b ∈ pathL l, b ≠ 63 ∧ b ≠ 35 := by
  obtain ⟨x, r, e, h⟩ := pathL_parts l
  have hk : ∀ b : UInt8, okB b = true → b ≠ 63 ∧ b ≠ 35 := by exact byte_all (by decide +kernel)
  intro c hc
  rw [e] at hc
  rcases List.mem_cons.1 hc with rfl | hc
  · decide
  · rcases List.mem_append.1 hc with hc | hc
    · exact hk c ((h x (by simp)).1 c hc)
    · rcases mem_joinTail r c hc with rfl | ⟨y, hy, hc⟩
      · decide
      · exact hk c ((h y (by simp [hy])).1 c hc)
theorem tail_again {path query frag : List UInt8} {hq hf : Bool} (h1 : ∃ l, path = pathL l) (h2 : (hq = true ∧ ∃ q, query = partL forQueryB q) ∨ (hq = false ∧ query = [])) (h3 : (hf = true ∧ ∃ q, frag = partL forFragB q) ∨ (hf = false ∧ frag = [])) :
    tailPath (path ++ (queryT query hq ++ fragT frag hf)) = ofL path ∧ tailQuery (path ++ (queryT query hq ++ fragT frag hf)) = ofL query ∧ tailFrag (path ++ (queryT query hq ++ fragT frag hf)) = ofL frag ∧
      tailHasQ (path ++ (queryT query hq ++ fragT frag hf)) = hq ∧ tailHasF (path ++ (queryT query hq ++ fragT frag hf)) = hf := by
  obtain ⟨l, rfl⟩ := h1
  have hp : ∀ x ∈ pathL l, notIn [63, 35] x = true := by
    intro x hx
    have := path_bytes l x hx
    unfold notIn
    simp [this.1, this.2]
  have hta := take_app (notIn [63, 35]) (pathL l) (queryT query hq ++ fragT frag hf) hp
  have hqn : hq = true → ∀ x ∈ query, notIn [35] x = true := by
    intro hh x hx
    rcases h2 with ⟨_, q, rfl⟩ | ⟨e, _⟩
    · have := part_no forQueryB 35 (by decide) (by decide) q
      unfold notIn
      have hne : x ≠ 35 := fun e => this (e ▸ hx)
      simp [hne]
    · rw [hh] at e; cases e
  have hhead : headL (pathL l ++ (queryT query hq ++ fragT frag hf)) = pathL l := by
    unfold headL
    rw [hta.1]
    unfold queryT fragT
    cases hq <;> cases hf <;> simp [List.takeWhile_cons, notIn]
  have hbehind : behindL (pathL l ++ (queryT query hq ++ fragT frag hf)) = queryT query hq ++ fragT frag hf := by
    unfold behindL
    rw [hta.2]
    unfold queryT fragT
    cases hq <;> cases hf <;> simp [List.dropWhile_cons, notIn]
  have hquery : queryOf (queryT query hq ++ fragT frag hf) = if hq = true then some query else none := by
    cases hq with
    | true =>
      have := (take_app (notIn [35]) query (fragT frag hf) (hqn rfl)).1
      show (if (63 : UInt8) = 63 then some ((query ++ fragT frag hf).takeWhile (notIn [35])) else none) = _
      rw [if_pos rfl, if_pos rfl, this]
      unfold fragT
      cases hf <;> simp [List.takeWhile_cons, notIn]
    | false =>
      unfold queryT fragT
      cases hf <;> simp [queryOf]
  have hafter : afterQuery (queryT query hq ++ fragT frag hf) = fragT frag hf := by
    cases hq with
    | true =>
      have := (take_app (notIn [35]) query (fragT frag hf) (hqn rfl)).2
      show (if (63 : UInt8) = 63 then (query ++ fragT frag hf).dropWhile (notIn [35]) else (63 :: (query ++ fragT frag hf))) = _
      rw [if_pos rfl, this]
      unfold fragT
      cases hf <;> simp [List.dropWhile_cons, notIn]
    | false =>
      unfold queryT fragT
      cases hf <;> simp [afterQuery]
  have hfrag : fragOf (fragT frag hf) = if hf = true then some frag else none := by
    unfold fragT
    cases hf <;> simp [fragOf]
  refine ⟨?_, ?_, ?_, ?_, ?_⟩
  · unfold tailPath; rw [hhead, pathL_twice]
  · unfold tailQuery; rw [hbehind, hquery]
    rcases h2 with ⟨rfl, q, rfl⟩ | ⟨rfl, rfl⟩
    · simp only [if_true]; rw [part_twice forQueryB (by decide) (by decide)]
    · rfl
  · unfold tailFrag; rw [hbehind, hafter, hfrag]
    rcases h3 with ⟨rfl, q, rfl⟩ | ⟨rfl, rfl⟩
    · simp only [if_true]; rw [part_twice forFragB (by decide) (by decide)]
    · rfl
  · unfold tailHasQ; rw [hbehind, hquery]; cases hq <;> rfl
  · unfold tailHasF; rw [hbehind, hafter, hfrag]; cases hf <;> rfl

theorem round {sch host : List UInt8} {p : Int} {path query frag : List UInt8} {hq hf : Bool} (h : Canon sch host p path query frag hq hf) :
    parseR (stringB (ofL sch) (ofL host) p (ofL path) (ofL query) (ofL frag) hq hf).data.toList = (ofL sch, ofL host, p, ofL path, ofL query, ofL frag, hq, hf, 0) := by
  have hcl := clean_safe _ h.safe
  unfold parseR
  rw [hcl]
  unfold parseC
  rw [← Lib.size_eq, if_neg (by have := h.size; omega), string_data]
  have hT := tail_again h.pathIs h.queryIs h.fragIs
  have hpath : ∃ t, path = 47 :: t := by obtain ⟨l, rfl⟩ := h.pathIs; exact ⟨_, rfl⟩
  have hsize := h.size
  generalize hTT : path ++ (queryT query hq ++ fragT frag hf) = T at hT
  have hs : schemeR (sch ++ 58 :: 47 :: 47 :: (host ++ (portL p ++ T))) ⟨#[]⟩ = (0, ofL (47 :: 47 :: (host ++ (portL p ++ T))), ofL sch) := by
    unfold schemeR
    rw [cut_hit 58 sch _ (by rcases h.schIs with e | e <;> rw [e] <;> decide)]
    simp only []
    rcases h.schIs with e | e <;> subst e
    · rw [if_pos (by decide +kernel), if_pos (by decide +kernel)]; rfl
    · rw [if_pos (by decide +kernel), if_pos (by decide +kernel)]; rfl
  rw [hs]
  unfold parseS
  simp only [not_true_eq_false, if_false, ofL_data]
  obtain ⟨b0, ht, hb0⟩ : ∃ b0 ht, host = b0 :: ht := by
    cases hh : host with
    | nil => exact absurd hh h.hostNe
    | cons b t => exact ⟨b, t, rfl⟩
  have hset : ∀ x ∈ host ++ portL p, notIn [47, 92, 63, 35] x = true := by
    intro x hx
    have key : ∀ y : UInt8, y ≠ 47 → y ≠ 92 → y ≠ 63 → y ≠ 35 → notIn [47, 92, 63, 35] y = true := by
      intro y h1 h2 h3 h4; unfold notIn; simp [h1, h2, h3, h4]
    rcases List.mem_append.1 hx with hx | hx
    · have := h.hostB x hx; exact key x this.2.1 this.2.2.1 this.2.2.2.1 this.2.2.2.2.1
    · unfold portL at hx
      split at hx
      · cases hx
      · rcases List.mem_cons.1 hx with rfl | hx
        · decide
        · have hd := text_digits p.toNat x hx
          have hdig : ∀ y : UInt8, isDigitB y = true → notIn [47, 92, 63, 35] y = true := by exact byte_all (by decide +kernel)
          exact hdig x hd
  have htrim : Lib.trimLeftS (47 :: 47 :: (host ++ (portL p ++ T))) [47, 92] = host ++ (portL p ++ T) := by
    have hb := h.hostB b0 (by rw [hb0]; simp)
    unfold Lib.trimLeftS
    rw [hb0, List.cons_append, List.dropWhile_cons, if_pos (by decide), List.dropWhile_cons, if_pos (by decide), List.dropWhile_cons, if_neg (by simp [hb.2.1, hb.2.2.1])]
  have hTstop : T.takeWhile (notIn [47, 92, 63, 35]) = [] ∧ T.dropWhile (notIn [47, 92, 63, 35]) = T := by
    obtain ⟨t, e⟩ := hpath
    rw [← hTT, e]
    constructor
    · rw [List.cons_append, List.takeWhile_cons, if_neg (by decide)]
    · rw [List.cons_append, List.dropWhile_cons, if_neg (by decide)]
  have hph : placeHost (47 :: 47 :: (host ++ (portL p ++ T))) = host ++ portL p ∧ placeRest (47 :: 47 :: (host ++ (portL p ++ T))) = T := by
    unfold placeHost placeRest
    rw [htrim, ← List.append_assoc]
    have := take_app (notIn [47, 92, 63, 35]) (host ++ portL p) T hset
    rw [this.1, this.2, hTstop.1, hTstop.2, List.append_nil]
    exact ⟨rfl, rfl⟩
  have h58 : (58 : UInt8) ∉ host := fun hm => (h.hostB 58 hm).2.2.2.2.2.1 rfl
  have h64 : (64 : UInt8) ∉ host ++ portL p := by
    intro hm
    rcases List.mem_append.1 hm with hm | hm
    · exact (h.hostB 64 hm).2.2.2.2.2.2 rfl
    · unfold portL at hm
      split at hm
      · cases hm
      · rcases List.mem_cons.1 hm with e | hm
        · exact absurd e (by decide)
        · exact absurd (text_digits p.toNat 64 hm) (by decide)
  have hcut : Lib.cut (host ++ portL p) [58] = if p = 0 then (host, [], false) else (host, textL p.toNat, true) := by
    unfold portL
    split
    · rw [List.append_nil, cut_miss 58 host h58]
    · rw [cut_hit 58 host _ h58]
  have hplace : placeR (47 :: 47 :: (host ++ (portL p ++ T))) sch ⟨#[]⟩ 0 = (0, ofL T, ofL host, p) := by
    unfold placeR
    have hia : Lib.indexAny (47 :: 47 :: (host ++ (portL p ++ T))) [47, 92] = 0 := by
      rw [Lib.indexAny, if_pos (by decide)]
    rw [if_pos hia, hph.1, hph.2, indexByte_not 64 _ h64, if_neg (by decide), hcut]
    by_cases hp0 : p = 0
    · subst hp0
      simp only [if_true, h.hostIs]
    · simp only [if_neg hp0, h.hostIs, if_true]
      have hp2 := h.p0
      have hp3 := h.p1
      have hnt := num_text p.toNat (by omega) (by omega)
      have hne : textL p.toNat ≠ [] := by
        intro e
        unfold numL at hnt
        rw [if_pos e] at hnt
        exact absurd (show (3 : Int) = 0 from congrArg Prod.snd hnt) (by decide)
      rw [if_neg hne, hnt]
      simp only [if_true]
      rw [Int.toNat_of_nonneg h.p0, if_neg h.pOwn]
  rw [hplace]
  unfold parseP
  simp only [not_true_eq_false, if_false, ofL_data]
  unfold urlOf
  rw [hT.1, hT.2.1, hT.2.2.1, hT.2.2.2.1, hT.2.2.2.2, if_neg (by omega)]
end Go.Proofs.YtenikjnnpbgaoaaDoor.X

namespace Go.Proofs.YtenikjnnpbgaoaaDoor.X
open Go.RowKit Go.Lib Go.Proofs.YtenikjnnpbgaoaaDoorW.PrintWords Go.Proofs.YtenikjnnpbgaoaaDoorW.PrintLast
set_option linter.unusedVariables false
set_option linter.unusedSimpArgs false

theorem aliveAt_60 : aliveAt 60 := ⟨by kernel_rfl, by kernel_rfl⟩
/-- What is parsed has good parts. -/
theorem canon_of {u1 u2 : ByteArray} {u3 : Int} {u4 u5 u6 : ByteArray} {u7 u8 : Bool} {host r : List UInt8} (h : ParsedAs u1 u2 u3 u4 u5 u6 u7 u8 host r) :
    ∃ sch path query frag, u1 = ofL sch ∧ u2 = ofL host ∧ u4 = ofL path ∧ u5 = ofL query ∧ u6 = ofL frag ∧ Canon sch host u3 path query frag u7 u8 := by
  have hq : (u7 = true ∧ ∃ q, u5 = ofL (partL forQueryB q)) ∨ (u7 = false ∧ u5 = ofL []) := by
    have h1 := h.query
    have h2 := h.hasQ
    unfold tailQuery at h1
    unfold tailHasQ at h2
    cases hx : queryOf (behindL r) with
    | none => rw [hx] at h1 h2; exact .inr ⟨h2, h1⟩
    | some q => rw [hx] at h1 h2; exact .inl ⟨h2, q, h1⟩
  have hf : (u8 = true ∧ ∃ q, u6 = ofL (partL forFragB q)) ∨ (u8 = false ∧ u6 = ofL []) := by
    have h1 := h.frag
    have h2 := h.hasF
    unfold tailFrag at h1
    unfold tailHasF at h2
    cases hx : fragOf (afterQuery (behindL r)) with
    | none => rw [hx] at h1 h2; exact .inr ⟨h2, h1⟩
    | some q => rw [hx] at h1 h2; exact .inl ⟨h2, q, h1⟩
  have hs : ∃ sch, u1 = ofL sch ∧ (sch = httpB ∨ sch = httpsB) := by
    rcases h.sch with e | e
    · exact ⟨_, e, .inl rfl⟩
    · exact ⟨_, e, .inr rfl⟩
  have hq2 : ∃ query, u5 = ofL query ∧ ((u7 = true ∧ ∃ q, query = partL forQueryB q) ∨ (u7 = false ∧ query = [])) := by
    rcases hq with ⟨e1, q, e2⟩ | ⟨e1, e2⟩
    · exact ⟨_, e2, .inl ⟨e1, q, rfl⟩⟩
    · exact ⟨_, e2, .inr ⟨e1, rfl⟩⟩
  have hf2 : ∃ frag, u6 = ofL frag ∧ ((u8 = true ∧ ∃ q, frag = partL forFragB q) ∨ (u8 = false ∧ frag = [])) := by
    rcases hf with ⟨e1, q, e2⟩ | ⟨e1, e2⟩
    · exact ⟨_, e2, .inl ⟨e1, q, rfl⟩⟩
    · exact ⟨_, e2, .inr ⟨e1, rfl⟩⟩
  have hsafe := safe_string h
  have hsize := h.size
  have hown := h.own
  obtain ⟨sch, rfl, hs⟩ := hs
  obtain ⟨query, rfl, hq3⟩ := hq2
  obtain ⟨frag, rfl, hf3⟩ := hf2
  have hp := h.path
  have hho := h.hostEq
  subst hp hho
  rw [ofL_data] at hown
  exact ⟨sch, pathL (headL r), query, frag, rfl, rfl, rfl, rfl, rfl, hs, h.ne, host_again h.ne h.name h.low, name_bytes h.name, h.p0, h.p1, hown, ⟨_, rfl⟩, hq3, hf3, hsafe, hsize⟩
/-- Without its fragment too. -/
theorem canon_bare {sch host : List UInt8} {p : Int} {path query frag : List UInt8} {hq hf : Bool} (h : Canon sch host p path query frag hq hf) : Canon sch host p path query [] hq false := by
  have hsub : ∀ b ∈ (stringB (ofL sch) (ofL host) p (ofL path) (ofL query) (ofL []) hq false).data.toList, b ∈ (stringB (ofL sch) (ofL host) p (ofL path) (ofL query) (ofL frag) hq hf).data.toList := by
    intro b hb
    rw [string_data] at hb ⊢
    simp only [fragT, List.append_nil, if_neg (show ¬ (false = true) by decide)] at hb
    simp only [List.mem_append, List.mem_cons] at hb ⊢
    rcases hb with h1 | h1 | h1 | h1 | h1 | h1 | h1 | h1 <;> simp [h1]
  have hsz : (stringB (ofL sch) (ofL host) p (ofL path) (ofL query) (ofL []) hq false).size ≤ (stringB (ofL sch) (ofL host) p (ofL path) (ofL query) (ofL frag) hq hf).size := by
    rw [Lib.size_eq, Lib.size_eq, string_data, string_data]
    simp only [fragT, List.append_nil, if_neg (show ¬ (false = true) by decide), List.length_append, List.length_cons]
    omega
  exact ⟨h.schIs, h.hostNe, h.hostIs, h.hostB, h.p0, h.p1, h.pOwn, h.pathIs, h.queryIs, .inr ⟨rfl, rfl⟩, fun b hb => h.safe b (hsub b hb), Nat.le_trans hsz h.size⟩
theorem canon_string {sch host : List UInt8} {p : Int} {path query frag : List UInt8} {hq hf : Bool} (h : Canon sch host p path query frag hq hf) (hsz : host.length ≤ 100000 ∧ path.length ≤ 100000 ∧ query.length ≤ 100000 ∧ frag.length ≤ 100000) :
    EvR (fun k => url_String.f k (ofL sch) (ofL host) p (ofL path) (ofL query) (ofL frag) hq hf) (stringB (ofL sch) (ofL host) p (ofL path) (ofL query) (ofL frag) hq hf) ∧
      EvR (fun k => url_Parse.f k (stringB (ofL sch) (ofL host) p (ofL path) (ofL query) (ofL frag) hq hf)) (ofL sch, ofL host, p, ofL path, ofL query, ofL frag, hq, hf, 0) := by
  have hs : sch.length ≤ 10 := by rcases h.schIs with e | e <;> rw [e] <;> decide
  have hz := h.size
  constructor
  · exact string_f _ _ _ _ _ _ _ _ (by rw [ofL_size]; omega) (by rw [ofL_size]; omega) (by rw [ofL_size]; omega) (by rw [ofL_size]; omega) (by rw [ofL_size]; omega) h.p0 (by have := h.p1; omega)
  · have := parse_f (stringB (ofL sch) (ofL host) p (ofL path) (ofL query) (ofL frag) hq hf) (by omega)
    rw [round h] at this
    exact this
theorem parse_none {l : List UInt8} {u1 u2 : ByteArray} {u3 : Int} {u4 u5 u6 : ByteArray} {u7 u8 : Bool} {u9 : Int} (h : parseR l = (u1, u2, u3, u4, u5, u6, u7, u8, u9)) (hne : ¬ u9 = 0) : (u1, u2, u3, u4, u5, u6, u7, u8, u9) = url_none u9 := by
  have key : ∀ (e : Int), (u1, u2, u3, u4, u5, u6, u7, u8, u9) = url_none e → (u1, u2, u3, u4, u5, u6, u7, u8, u9) = url_none u9 := by
    intro e he
    have : u9 = e := by
      unfold url_none at he
      simp only [Prod.mk.injEq] at he
      exact he.2.2.2.2.2.2.2.2
    rw [this] at he ⊢; exact he
  unfold parseR parseC at h
  split at h
  · exact key _ h.symm
  · unfold parseS at h
    split at h
    · exact key _ h.symm
    · unfold parseP at h
      split at h
      · exact key _ h.symm
      · unfold urlOf at h
        split at h
        · exact key _ h.symm
        · exfalso
          apply hne
          simp only [Prod.mk.injEq] at h
          exact h.2.2.2.2.2.2.2.2.symm

theorem urlBack_walk (a0 : ByteArray) (w : World) (hE : EnvOk w) (w0 : a0.size ≤ 140737488351232) :
    Calls Tryd.prog 6 #[.string a0] w fun e w' => e = .returned (.bool true) ∧ Below w.heap.size w w' := by
  by_cases hl : (a0.size : Int) > 2200
  · exact urlBack_long 60 a0 w hE (by unfold cringlelaw04_long.f; rw [decide_eq_true hl]) aliveAt_60
  · have hlf : cringlelaw04_long.f a0 = some false := by unfold cringlelaw04_long.f; rw [decide_eq_false hl]
    obtain ⟨k1, h1⟩ := parse_f a0 (by omega)
    cases hr : parseR a0.data.toList with
    | mk u1 x1 =>
    obtain ⟨u2, u3, u4, u5, u6, u7, u8, u9⟩ := x1
    rw [hr] at h1
    by_cases he : u9 = 0
    · subst he
      obtain ⟨host, r, hp⟩ := parsed_of hr
      obtain ⟨sch, path, query, frag, rfl, rfl, rfl, rfl, rfl, hc⟩ := canon_of hp
      have hrl := hp.rest
      have ht := tail_sizes r
      have e4 : path.length ≤ 100000 := by have := hp.path; rw [← ofL_size, this]; omega
      have e5 : query.length ≤ 100000 := by have := hp.query; rw [← ofL_size, this]; omega
      have e6 : frag.length ≤ 100000 := by have := hp.frag; rw [← ofL_size, this]; omega
      have e2 : host.length ≤ 100000 := by
        have hn := hp.name
        unfold nameL at hn
        simp only [Bool.and_eq_true, decide_eq_true_eq] at hn
        omega
      obtain ⟨⟨k2, h2⟩, ⟨k3, h3⟩⟩ := canon_string hc ⟨e2, e4, e5, e6⟩
      obtain ⟨⟨k4, h4⟩, ⟨k5, h5⟩⟩ := canon_string (canon_bare hc) ⟨e2, e4, e5, by simp⟩
      exact urlBack_ok (k1 + k2 + k3 + k4 + k5 + 60) a0 _ _ _ _ _ _ _ _ _ _ w hE hlf (aliveAt_60.more (by omega)) (h1 _ (by omega)) (h2 _ (by omega)) (h3 _ (by omega)) hc.size (h4 _ (by omega)) (h5 _ (by omega))
    · have hn := parse_none hr he
      rw [hn] at h1
      exact urlBack_err (k1 + 60) a0 u9 w hE hlf (aliveAt_60.more (by omega)) (h1 _ (by omega)) he
end Go.Proofs.YtenikjnnpbgaoaaDoor.X
