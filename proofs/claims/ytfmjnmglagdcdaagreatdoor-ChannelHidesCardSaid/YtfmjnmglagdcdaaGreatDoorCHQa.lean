/- Plain facts on bytes: trimming at both ends rune by rune is trimming byte by byte, where what is trimmed is below 33; replacing one byte. -/
import Derived.Test.YtfmjnmglagdcdaaGreatDoorCHWords
import Derived.Test.YtfmjnmglagdcdaaGreatDoorCHH0b
import Derived.Shelf.GgClosure.StringsTrimFunc
import Derived.Lib.Replace
import Derived.Lib.RuneCountTail
namespace Go.Proofs.YtfmjnmglagdcdaaGreatDoor.X
open Go.RowKit Go.Lib Go.Shelf
set_option linter.unusedVariables false
set_option linter.unusedSimpArgs false
theorem Yai (c : UInt8) (new : List UInt8) : ∀ s : List UInt8, Lib.replaceK [c] new (Lib.count s [c]) s = s.flatMap fun b => if b = c then new else [b]
 | [] => by simp [Lib.count_one, Lib.replaceK]
 | b :: l => by
  have ih := Yai c new l
  by_cases hb : b = c
  ·subst hb
   rw [Lib.count_cons_eq, Nat.add_comm, Lib.replaceK_hit (i := 0) (h := by rw [Lib.index_one]; simp [Lib.indexByte])]
   simp only [List.take_zero, List.nil_append, List.length_cons, List.length_nil, Nat.zero_add, List.drop_succ_cons, List.drop_zero, List.flatMap_cons, if_true]
   rw [ih]
  ·rw [Lib.count_cons_ne b c l hb, List.flatMap_cons, if_neg hb, ← ih]
   cases hk : Lib.count l [c] with
   | zero => rfl
   | succ k =>
    obtain ⟨i, hi⟩ := Lib.index_of_count (s := l) (old := [c]) (by rw [hk]; omega)
    have hi' : Lib.index (b :: l) [c] = ((i + 1 : Nat) : Int) := by
     rw [Lib.index_one] at hi ⊢
     unfold Lib.indexByte
     rw [if_neg (by simpa using hb), hi, if_neg (fun e => by have := beq_iff_eq.1 e; omega)]
     omega
    rw [Lib.replaceK_hit (h := hi'), Lib.replaceK_hit (h := hi)]
    simp [List.take_succ_cons, List.drop_succ_cons]
theorem Yng (c : UInt8) (new s : List UInt8) : Lib.replaceAll s [c] new = s.flatMap fun b => if b = c then new else [b] := by
 unfold Lib.replaceAll Lib.replace
 by_cases h : [c] = new
 ·subst h
  simp only [beq_self_eq_true, if_true]
  induction s with
  | nil => rfl
  | cons b l ih =>
   rw [List.flatMap_cons, ← ih]
   by_cases hb : b = c
   ·rw [if_pos hb, hb]; rfl
   ·rw [if_neg hb]; rfl
 ·rw [if_neg (by simpa using h), Lib.replaceNum, if_pos (.inl Zk), Yai]
theorem Yfj (c : UInt8) (s : List UInt8) : Lib.replaceAll s [c] [] = s.filter (· != c) := by
 rw [Yng]
 induction s with
 | nil => rfl
 | cons b l ih =>
  rw [List.flatMap_cons, ih, List.filter_cons]
  by_cases h : b = c <;> simp [h]
def Ygh (b : UInt8) : Bool := decide (b.toNat ≤ 32)
def Yfe (c : Nat) : Bool := decide (c ≤ 32)
def Yof (l : List UInt8) : List UInt8 := ((l.dropWhile Ygh).reverse.dropWhile Ygh).reverse
theorem Yzm (s : ByteArray) (k : Nat) (hk : k ≤ s.size) (h1 : ∀ j, j < k → (s.get! j).toNat ≤ 32) (h2 : k < s.size → 32 < (s.get! k).toNat) :
  ∀ (f pos : Nat), pos ≤ k → s.size - pos ≤ f → Lib.idxFuncFrom Yfe false s f pos = if k = s.size then -1 else (k : Int)
 | 0, pos, hp, hf => by
  have : k = s.size := by omega
  rw [if_pos this]; rfl
 | f + 1, pos, hp, hf => by
  unfold Lib.idxFuncFrom
  by_cases hps : pos < s.size
  ·rw [if_pos hps]
   by_cases hpk : pos < k
   ·have hb := h1 pos hpk
    rw [decode_ascii s pos hps (by rw [← get!_at s pos hps]; omega), ← get!_at s pos hps]
    rw [if_neg (by simp [Yfe, hb])]
    exact Yzm s k hk h1 h2 f (pos + 1) Zk Zk
   ·obtain rfl : pos = k := by omega
    have hb := h2 hps
    rw [if_neg (Nat.ne_of_lt hps)]
    by_cases ha : (s.get! pos).toNat < 128
    ·rw [decode_ascii s pos hps (by rw [← get!_at s pos hps]; omega), ← get!_at s pos hps, if_pos (by simp [Yfe]; omega)]
    ·have := (decode_high s pos hps (by rw [← get!_at s pos hps]; omega)).1
     rw [if_pos (by simp [Yfe]; omega)]
  ·rw [if_neg hps]
   have : k = s.size := by omega
   rw [if_pos this]
theorem Yzj (l : List UInt8) : ∃ k, k ≤ l.length ∧ (∀ (j : Nat) b, j < k → l[j]? = some b → b.toNat ≤ 32) ∧ (∀ b, l[k]? = some b → 32 < b.toNat) ∧ l.dropWhile Ygh = l.drop k := by
 induction l with
 | nil => exact ⟨0, Nat.le_refl _, fun _ _ h => absurd h (Nat.not_lt_zero _), fun _ h => by simp at h, rfl⟩
 | cons b l ih =>
  by_cases hb : b.toNat ≤ 32
  ·obtain ⟨k, hk, h1, h2, h3⟩ := ih
   refine ⟨k + 1, Zta, fun j c hj hc => ?_, fun c hc => h2 c (by simpa using hc), ?_⟩
   ·cases j with
    | zero => simp at hc; subst hc; exact hb
    | succ j => exact h1 j c Zk (by simpa using hc)
   ·rw [List.dropWhile_cons_of_pos (by simpa [Ygh] using hb), h3]; rfl
  ·exact ⟨0, Nat.zero_le _, fun _ _ h => absurd h (Nat.not_lt_zero _), fun c hc => by simp at hc; subst hc; omega, by rw [List.dropWhile_cons_of_neg (by simpa [Ygh] using hb)]; rfl⟩
theorem Ybp (s : ByteArray) : (Lib.trimLeftF Yfe s).data.toList = s.data.toList.dropWhile Ygh := by
 obtain ⟨k, hk, h1, h2, h3⟩ := Yzj s.data.toList
 rw [← Lib.size_eq] at hk
 have hi : Lib.idxFunc Yfe false s = if k = s.size then -1 else (k : Int) :=
  Yzm s k hk (fun j hj => h1 j _ hj (get!_data s j Zk)) (fun h => h2 _ (get!_data s k h)) s.size 0 (Nat.zero_le _) (Nat.sub_le _ _)
 rw [h3]
 unfold Lib.trimLeftF
 rw [hi]
 by_cases he : k = s.size
 ·rw [if_pos he, if_pos rfl, he, List.drop_eq_nil_of_le (by rw [← Lib.size_eq]; exact Nat.le_refl _)]
 ·rw [if_neg he, if_neg Zk, Int.toNat_natCast]
  exact Lib.extract_to_end s k
theorem Yel (s : ByteArray) (i j : Nat) (hi : i ≤ s.size) (hj : j < i) (hlow : ∀ q, i ≤ q → q < s.size → (s.get! q).toNat < 128) : Utf8.decode (s.extract 0 i) j = Utf8.decode s j := by
 have hsz : (s.extract 0 i).size = i := by rw [ByteArray.size_extract]; omega
 have hg : ∀ q, q < i → (s.extract 0 i).get! q = s.get! q := fun q hq => by
  rw [get!_at _ q Zk, get!_at s q Zk, ByteArray.getElem_extract]
  congr 1; omega
 have hc : ∀ k, (decide (j + k < (s.extract 0 i).size) && ((s.extract 0 i).get! (j + k)).toNat / 64 == 2) = (decide (j + k < s.size) && (s.get! (j + k)).toNat / 64 == 2) := fun k => by
  rw [hsz]
  by_cases h1 : j + k < i
  ·rw [hg _ h1]; simp [h1, show j + k < s.size by omega]
  ·by_cases h2 : j + k < s.size
   ·have := hlow (j + k) Zk h2
    simp [h1, h2]; omega
   ·simp [h1, h2]
 have ha : ∀ k, (decide (j + k < s.size) && (s.get! (j + k)).toNat / 64 == 2) = true → (s.extract 0 i).get! (j + k) = s.get! (j + k) := fun k hk => by
  have := hc k
  rw [hk, hsz] at this
  simp only [Bool.and_eq_true, decide_eq_true_eq] at this
  exact hg _ this.1
 have h0 := hg (j + 0) Zk
 unfold Utf8.decode
 simp only [hc, h0]
 by_cases c1 : (decide (j + 1 < s.size) && (s.get! (j + 1)).toNat / 64 == 2) = true
 ·simp only [ha 1 c1]
  by_cases c2 : (decide (j + 2 < s.size) && (s.get! (j + 2)).toNat / 64 == 2) = true
  ·simp only [ha 2 c2]
   by_cases c3 : (decide (j + 3 < s.size) && (s.get! (j + 3)).toNat / 64 == 2) = true
   ·simp only [ha 3 c3]
   ·simp only [c3]; simp
  ·simp only [c2]; simp
 ·simp only [c1]; simp
theorem Yho (s : ByteArray) (j : Nat) (hj : j < s.size) (h : 128 ≤ (s.get! j).toNat) (hn : j + 1 < s.size → (s.get! (j + 1)).toNat < 128) : Utf8.decode s j = (65533, 1) := by
 have h0 : ¬ (s.get! (j + 0)).toNat < 128 := by simpa using h
 have c1 : (decide (j + 1 < s.size) && (s.get! (j + 1)).toNat / 64 == 2) = false := by
  by_cases h1 : j + 1 < s.size
  ·have := hn h1; simp [h1]; omega
  ·simp [h1]
 unfold Utf8.decode
 simp only [h0, c1, if_false]
 simp [Utf8.runeError]
theorem lastStart_lt (l : List UInt8) (h : l ≠ []) : Lib.lastStart l < l.length := by
 have : 0 < l.length := List.length_pos_iff.2 h
 unfold Lib.lastStart
 simp only
 repeat' split
 all_goals omega
theorem decodeL_drop (s : ByteArray) (i k : Nat) (hi : i ≤ s.size) : Lib.decodeL ((s.data.toList.take i).drop k) = Utf8.decode (s.extract 0 i) k := by
 unfold Lib.decodeL
 have hsz : (s.extract 0 i).size = i := by rw [ByteArray.size_extract]; omega
 have : (⟨((s.data.toList.take i).drop k).toArray⟩ : ByteArray) = (s.extract 0 i).extract k (s.extract 0 i).size := by
  apply ByteArray.ext
  apply Array.ext'
  rw [Lib.extract_to_end, Lib.extract_data]
  simp
 rw [this, Lib.tail_decode, Nat.add_zero]
theorem Ytl (s : ByteArray) (i : Nat) (h0 : 0 < i) (hi : i ≤ s.size) (hlow : ∀ q, i ≤ q → q < s.size → (s.get! q).toNat < 128) :
  ((s.get! (i - 1)).toNat < 128 → Lib.decodeLastL (s.data.toList.take i) = ((s.get! (i - 1)).toNat, 1)) ∧
  (128 ≤ (s.get! (i - 1)).toNat → 128 ≤ (Lib.decodeLastL (s.data.toList.take i)).1 ∧ 1 ≤ (Lib.decodeLastL (s.data.toList.take i)).2 ∧ (Lib.decodeLastL (s.data.toList.take i)).2 ≤ i ∧ (Utf8.decode s (i - (Lib.decodeLastL (s.data.toList.take i)).2)).2 = (Lib.decodeLastL (s.data.toList.take i)).2) := by
 have hl : (s.data.toList.take i).length = i := by rw [List.length_take, ← Lib.size_eq]; omega
 have hne : s.data.toList.take i ≠ [] := fun e => by rw [e] at hl; simp at hl; omega
 have hlast : (s.data.toList.take i).getD ((s.data.toList.take i).length - 1) 0 = s.get! (i - 1) := by
  rw [hl, List.getD_eq_getElem?_getD, List.getElem?_take, if_pos Zk, get!_data s (i - 1) Zk]; rfl
 have hk := lastStart_lt _ hne
 rw [hl] at hk
 refine ⟨fun h => ?_, fun h => ?_⟩
 ·unfold Lib.decodeLastL
  rw [if_neg hne, hlast, if_pos h]
 ·unfold Lib.decodeLastL
  rw [if_neg hne, hlast, if_neg Zk]
  simp only
  rw [decodeL_drop s i _ hi, Yel s i _ hi hk hlow, hl]
  obtain ⟨k, hke⟩ : ∃ k, k = Lib.lastStart (s.data.toList.take i) := ⟨_, rfl⟩
  rw [← hke] at hk ⊢
  by_cases he : k + (Utf8.decode s k).2 = i
  ·rw [if_pos he]
   have hw : 1 ≤ (Utf8.decode s k).2 := Lib.decode_width_pos s k Zk
   have hik : i - (Utf8.decode s k).2 = k := by omega
   refine ⟨?_, hw, Zk, by rw [hik]⟩
   by_cases hb : (s.get! k).toNat < 128
   ·rw [decode_ascii s k Zk (by rw [← get!_at s k Zk]; exact hb)] at he
    have : k = i - 1 := by have : k + 1 = i := he; omega
    rw [this] at hb; omega
   ·exact (decode_high s k Zk (by rw [← get!_at s k Zk]; omega)).1
  ·rw [if_neg he]
   refine ⟨Zq, Nat.le_refl _, h0, ?_⟩
   rw [Yho s (i - 1) Zk h (fun hq => hlow _ Zk hq)]
theorem Yvh (s : ByteArray) (e : Nat) (he : e ≤ s.size) (h1 : ∀ q, e ≤ q → q < s.size → (s.get! q).toNat ≤ 32) (h2 : 0 < e → 32 < (s.get! (e - 1)).toNat) :
  ∀ (f i : Nat), e ≤ i → i ≤ s.size → i ≤ f → Lib.lastIdxFuncFrom Yfe false s f i = if e = 0 then -1 else ((e - (Lib.decodeLastL (s.data.toList.take e)).2 : Nat) : Int)
 | 0, i, h3, h4, h5 => by
  have : e = 0 := by omega
  rw [if_pos this]; rfl
 | f + 1, i, h3, h4, h5 => by
  unfold Lib.lastIdxFuncFrom
  by_cases hi0 : 0 < i
  ·rw [if_pos hi0]
   obtain ⟨r1, r2⟩ := Ytl s i hi0 h4 (fun q hq1 hq2 => by have := h1 q Zk hq2; omega)
   by_cases hei : e = i
   ·subst hei
    have hb := h2 hi0
    rw [if_neg (by omega : ¬ e = 0)]
    by_cases ha : (s.get! (e - 1)).toNat < 128
    ·rw [r1 ha, if_pos (by simp [Yfe]; omega)]
    ·have := (r2 Zk).1
     rw [if_pos (by simp [Yfe]; omega)]
   ·have hb := h1 (i - 1) Zk Zk
    rw [r1 Zk, if_neg (by simp [Yfe, hb])]
    exact Yvh s e he h1 h2 f (i - 1) Zk Zk Zk
  ·rw [if_neg hi0]
   have : e = 0 := by omega
   rw [if_pos this]
theorem Ysp (s : ByteArray) (e : Nat) (he : e ≤ s.size) (h1 : ∀ q, e ≤ q → q < s.size → (s.get! q).toNat ≤ 32) (h2 : 0 < e → 32 < (s.get! (e - 1)).toNat) : Lib.rightEndF Yfe s = e := by
 have hi : Lib.lastIdxFunc Yfe false s = if e = 0 then -1 else ((e - (Lib.decodeLastL (s.data.toList.take e)).2 : Nat) : Int) := Yvh s e he h1 h2 s.size s.size he (Nat.le_refl _) (Nat.le_refl _)
 unfold Lib.rightEndF
 rw [hi]
 by_cases h0 : e = 0
 ·rw [if_pos h0, if_neg Zk, h0]
 ·rw [if_neg h0, if_pos Zk, Int.toNat_natCast]
  obtain ⟨r1, r2⟩ := Ytl s e Zk he (fun q hq1 hq2 => by have := h1 q Zk hq2; omega)
  obtain ⟨n, hn⟩ : ∃ n, n = (Lib.decodeLastL (s.data.toList.take e)).2 := ⟨_, rfl⟩
  have hw : 1 ≤ n ∧ n ≤ e ∧ (Utf8.decode s (e - n)).2 = n := by
   by_cases ha : (s.get! (e - 1)).toNat < 128
   ·have : n = 1 := by rw [hn, r1 ha]
    subst this
    rw [decode_ascii s (e - 1) Zk (by rw [← get!_at s (e - 1) Zk]; exact ha)]
    exact ⟨Nat.le_refl _, Zk, rfl⟩
   ·have := r2 Zk
    rw [← hn] at this
    exact ⟨this.2.1, this.2.2.1, this.2.2.2⟩
  rw [← hn]
  unfold Lib.decodeGoB
  rw [if_neg Zla, Lib.tail_decode, Nat.add_zero, hw.2.2]
  omega
theorem last_high (l : List UInt8) : ∃ e, e ≤ l.length ∧ (∀ (q : Nat) b, e ≤ q → l[q]? = some b → b.toNat ≤ 32) ∧ (∀ b, 0 < e → l[e - 1]? = some b → 32 < b.toNat) ∧ (l.reverse.dropWhile Ygh).reverse = l.take e := by
 obtain ⟨k, hk, h1, h2, h3⟩ := Yzj l.reverse
 rw [List.length_reverse] at hk
 refine ⟨l.length - k, Zk, fun q b hq hb => ?_, fun b h0 hb => ?_, ?_⟩
 ·have hql : q < l.length := by
   rcases Nat.lt_or_ge q l.length with h' | h'
   ·exact h'
   ·rw [List.getElem?_eq_none h'] at hb; cases hb
  refine h1 (l.length - 1 - q) b Zk ?_
  rw [List.getElem?_reverse Zk]
  rw [show l.length - 1 - (l.length - 1 - q) = q by omega]; exact hb
 ·refine h2 b ?_
  rw [List.getElem?_reverse Zk]
  rw [show l.length - 1 - k = l.length - k - 1 by omega]; exact hb
 ·rw [h3, List.drop_reverse, List.reverse_reverse]
theorem trimF33 (s : ByteArray) : (Lib.trimF Yfe s).data.toList = Yof s.data.toList := by
 unfold Lib.trimF Yof
 rw [← Ybp]
 obtain ⟨t, ht⟩ : ∃ t, t = Lib.trimLeftF Yfe s := ⟨_, rfl⟩
 rw [← ht]
 obtain ⟨e, he, h1, h2, h3⟩ := last_high t.data.toList
 rw [← Lib.size_eq] at he
 unfold Lib.trimRightF
 rw [h3, Ysp t e he (fun q hq hq2 => h1 q _ hq (get!_data t q hq2)) (fun h0 => h2 _ h0 (get!_data t (e - 1) Zk)), Lib.extract_data]
 simp
end Go.Proofs.YtfmjnmglagdcdaaGreatDoor.X
