import Derived.Lib.RuneCountTail
import Derived.Shelf.Strings.MapGrows
import Derived.Test.YtnmglnglbdpjjaaGreatDoorUfH0c
set_option linter.all false
section
namespace Go.Proofs.YtnmglnglbdpjjaaGreatDoor.X
open Go.RowKit Go.Lib Go.Shelf
theorem Ynm (c : UInt8) (new : List UInt8) : ∀ s : List UInt8, Lib.replaceK [c] new (Lib.count s [c]) s = s.flatMap fun b => if b = c then new else [b]
 | [] => by simp [Lib.count_one, Lib.replaceK]
 | b :: l => by
  have ih := Ynm c new l
  by_cases hb : b = c
  ·subst hb
   rw [Lib.count_cons_eq, Nat.add_comm, Lib.replaceK_hit (i := 0) (h := by rw [Lib.index_one]; simp [Lib.indexByte])]
   simp only [List.take_zero, List.nil_append, List.length_cons, List.length_nil, Nat.zero_add, List.drop_succ_cons, List.drop_zero, List.flatMap_cons, if_true]
   rw [ih]
  ·rw [Lib.count_cons_ne b c l hb, List.flatMap_cons, if_neg hb, ← ih]
   cases hk : Lib.count l [c] with
   | zero => rfl
   | succ k =>
    obtain ⟨i, hi⟩ := Lib.index_of_count (s := l) (old := [c]) (by rw [hk]; omega)
    have hi' : Lib.index (b :: l) [c] = ((i + 1 : Nat) : Int) := by
     rw [Lib.index_one] at hi ⊢
     unfold Lib.indexByte
     rw [if_neg (by simpa using hb), hi, if_neg (fun e => by have := beq_iff_eq.1 e; omega)]
     omega
    rw [Lib.replaceK_hit (h := hi'), Lib.replaceK_hit (h := hi)]
    simp [List.take_succ_cons, List.drop_succ_cons]
theorem Ykk (c : UInt8) (new s : List UInt8) : Lib.replaceAll s [c] new = s.flatMap fun b => if b = c then new else [b] := by
 unfold Lib.replaceAll Lib.replace
 by_cases h : [c] = new
 ·subst h
  simp only [beq_self_eq_true, if_true]
  induction s with
  | nil => rfl
  | cons b l ih =>
   rw [List.flatMap_cons, ← ih]
   by_cases hb : b = c
   ·rw [if_pos hb, hb]; rfl
   ·rw [if_neg hb]; rfl
 ·rw [if_neg (by simpa using h), Lib.replaceNum, if_pos (.inl Zk), Ynm]
theorem Yrn (c : UInt8) (s : List UInt8) : Lib.replaceAll s [c] [] = s.filter (· != c) := by
 rw [Ykk]
 induction s with
 | nil => rfl
 | cons b l ih =>
  rw [List.flatMap_cons, ih, List.filter_cons]
  by_cases h : b = c <;> simp [h]
def Ymh (b : UInt8) : Bool := decide (b.toNat ≤ 32)
def Yph (c : Nat) : Bool := decide (c ≤ 32)
def Ysh (l : List UInt8) : List UInt8 := ((l.dropWhile Ymh).reverse.dropWhile Ymh).reverse
theorem Yst (s : Y) (k : Nat) (hk : k ≤ s.size) (h1 : ∀ j, j < k → (s.get! j).toNat ≤ 32) (h2 : k < s.size → 32 < (s.get! k).toNat) :
  ∀ (f pos : Nat), pos ≤ k → s.size - pos ≤ f → Lib.idxFuncFrom Yph false s f pos = if k = s.size then -1 else (k : Int)
 | 0, pos, hp, hf => by
  have : k = s.size := by omega
  rw [if_pos this]; rfl
 | f + 1, pos, hp, hf => by
  unfold Lib.idxFuncFrom
  by_cases hps : pos < s.size
  ·rw [if_pos hps]
   by_cases hpk : pos < k
   ·have hb := h1 pos hpk
    rw [decode_ascii s pos hps (by rw [← get!_at s pos hps]; omega), ← get!_at s pos hps]
    rw [if_neg (by simp [Yph, hb])]
    exact Yst s k hk h1 h2 f (pos + 1) Zk Zk
   ·obtain rfl : pos = k := by omega
    have hb := h2 hps
    rw [if_neg (Nat.ne_of_lt hps)]
    by_cases ha : (s.get! pos).toNat < 128
    ·rw [decode_ascii s pos hps (by rw [← get!_at s pos hps]; omega), ← get!_at s pos hps, if_pos (by simp [Yph]; omega)]
    ·have := (decode_high s pos hps (by rw [← get!_at s pos hps]; omega)).1
     rw [if_pos (by simp [Yph]; omega)]
  ·rw [if_neg hps]
   have : k = s.size := by omega
   rw [if_pos this]
theorem Ynp (l : List UInt8) : ∃ k, k ≤ l.length ∧ (∀ (j : Nat) b, j < k → l[j]? = some b → b.toNat ≤ 32) ∧ (∀ b, l[k]? = some b → 32 < b.toNat) ∧ l.dropWhile Ymh = l.drop k := by
 induction l with
 | nil => exact ⟨0, Kw _, fun _ _ h => absurd h (Nat.not_lt_zero _), fun _ h => by simp at h, rfl⟩
 | cons b l ih =>
  by_cases hb : b.toNat ≤ 32
  ·obtain ⟨k, hk, h1, h2, h3⟩ := ih
   refine ⟨k + 1, Zib, fun j c hj hc => ?_, fun c hc => h2 c (by simpa using hc), ?_⟩
   ·cases j with
    | zero => simp at hc; subst hc; exact hb
    | succ j => exact h1 j c Zk (by simpa using hc)
   ·rw [List.dropWhile_cons_of_pos (by simpa [Ymh] using hb), h3]; rfl
  ·exact ⟨0, Nat.zero_le _, fun _ _ h => absurd h (Nat.not_lt_zero _), fun c hc => by simp at hc; subst hc; omega, by rw [List.dropWhile_cons_of_neg (by simpa [Ymh] using hb)]; rfl⟩
theorem Ypv (s : Y) : (Lib.trimLeftF Yph s).data.toList = s.data.toList.dropWhile Ymh := by
 obtain ⟨k, hk, h1, h2, h3⟩ := Ynp s.data.toList
 rw [← Lib.size_eq] at hk
 have hi : Lib.idxFunc Yph false s = if k = s.size then -1 else (k : Int) :=
  Yst s k hk (fun j hj => h1 j _ hj (get!_data s j Zk)) (fun h => h2 _ (get!_data s k h)) s.size 0 (Nat.zero_le _) (Nat.sub_le _ _)
 rw [h3]
 unfold Lib.trimLeftF
 rw [hi]
 by_cases he : k = s.size
 ·rw [if_pos he, if_pos rfl, he, List.drop_eq_nil_of_le Zmb]
 ·rw [if_neg he, if_neg Zk, Int.toNat_natCast]
  exact Lib.extract_to_end s k
theorem Ytp (s : Y) (i j : Nat) (hi : i ≤ s.size) (hj : j < i) (hlow : ∀ q, i ≤ q → q < s.size → (s.get! q).toNat < 128) : Utf8.decode (s.extract 0 i) j = Utf8.decode s j := by
 have hsz : (s.extract 0 i).size = i := by rw [ByteArray.size_extract]; omega
 have hg : ∀ q, q < i → (s.extract 0 i).get! q = s.get! q := fun q hq => by
  rw [get!_at _ q Zk, get!_at s q Zk, ByteArray.getElem_extract]
  congr 1; omega
 have hc : ∀ k, (decide (j + k < (s.extract 0 i).size) && ((s.extract 0 i).get! (j + k)).toNat / 64 == 2) = (decide (j + k < s.size) && (s.get! (j + k)).toNat / 64 == 2) := fun k => by
  rw [hsz]
  by_cases h1 : j + k < i
  ·rw [hg _ h1]; simp [h1, show j + k < s.size by omega]
  ·by_cases h2 : j + k < s.size
   ·have := hlow (j + k) Zk h2
    simp [h1, h2]; omega
   ·simp [h1, h2]
 have ha : ∀ k, (decide (j + k < s.size) && (s.get! (j + k)).toNat / 64 == 2) = true → (s.extract 0 i).get! (j + k) = s.get! (j + k) := fun k hk => by
  have := hc k
  rw [hk, hsz] at this
  simp only [Bool.and_eq_true, decide_eq_true_eq] at this
  exact hg _ this.1
 have h0 := hg (j + 0) Zk
 unfold Utf8.decode
 simp only [hc, h0]
 by_cases c1 : (decide (j + 1 < s.size) && (s.get! (j + 1)).toNat / 64 == 2) = true
 ·simp only [ha 1 c1]
  by_cases c2 : (decide (j + 2 < s.size) && (s.get! (j + 2)).toNat / 64 == 2) = true
  ·simp only [ha 2 c2]
   by_cases c3 : (decide (j + 3 < s.size) && (s.get! (j + 3)).toNat / 64 == 2) = true
   ·simp only [ha 3 c3]
   ·simp only [c3]; simp
  ·simp only [c2]; simp
 ·simp only [c1]; simp
theorem Ybu (s : Y) (j : Nat) (hj : j < s.size) (h : 128 ≤ (s.get! j).toNat) (hn : j + 1 < s.size → (s.get! (j + 1)).toNat < 128) : Utf8.decode s j = (65533, 1) := by
 have h0 : ¬ (s.get! (j + 0)).toNat < 128 := by simpa using h
 have c1 : (decide (j + 1 < s.size) && (s.get! (j + 1)).toNat / 64 == 2) = false := by
  by_cases h1 : j + 1 < s.size
  ·have := hn h1; simp [h1]; omega
  ·simp [h1]
 unfold Utf8.decode
 simp only [h0, c1, if_false]
 simp [Utf8.runeError]
theorem lastStart_lt (l : List UInt8) (h : l ≠ []) : Lib.lastStart l < l.length := by
 have : 0 < l.length := List.length_pos_iff.2 h
 unfold Lib.lastStart
 simp only
 repeat' split
 all_goals omega
theorem decodeL_drop (s : Y) (i k : Nat) (hi : i ≤ s.size) : Lib.decodeL ((s.data.toList.take i).drop k) = Utf8.decode (s.extract 0 i) k := by
 unfold Lib.decodeL
 have hsz : (s.extract 0 i).size = i := by rw [ByteArray.size_extract]; omega
 have : (⟨((s.data.toList.take i).drop k).toArray⟩ : Y) = (s.extract 0 i).extract k (s.extract 0 i).size := by
  apply ByteArray.ext
  apply Array.ext'
  rw [Lib.extract_to_end, Lib.extract_data]
  simp
 rw [this, Lib.tail_decode, Nat.add_zero]
theorem Ytq (s : Y) (i : Nat) (h0 : 0 < i) (hi : i ≤ s.size) (hlow : ∀ q, i ≤ q → q < s.size → (s.get! q).toNat < 128) :
  ((s.get! (i - 1)).toNat < 128 → Lib.decodeLastL (s.data.toList.take i) = ((s.get! (i - 1)).toNat, 1)) ∧
  (128 ≤ (s.get! (i - 1)).toNat → 128 ≤ (Lib.decodeLastL (s.data.toList.take i)).1 ∧ 1 ≤ (Lib.decodeLastL (s.data.toList.take i)).2 ∧ (Lib.decodeLastL (s.data.toList.take i)).2 ≤ i ∧ (Utf8.decode s (i - (Lib.decodeLastL (s.data.toList.take i)).2)).2 = (Lib.decodeLastL (s.data.toList.take i)).2) := by
 have hl : (s.data.toList.take i).length = i := by rw [List.length_take, ← Lib.size_eq]; omega
 have hne : s.data.toList.take i ≠ [] := fun e => by rw [e] at hl; simp at hl; omega
 have hlast : (s.data.toList.take i).getD ((s.data.toList.take i).length - 1) 0 = s.get! (i - 1) := by
  rw [hl, List.getD_eq_getElem?_getD, List.getElem?_take, if_pos Zk, get!_data s (i - 1) Zk]; rfl
 have hk := lastStart_lt _ hne
 rw [hl] at hk
 refine ⟨fun h => ?_, fun h => ?_⟩
 ·unfold Lib.decodeLastL
  rw [if_neg hne, hlast, if_pos h]
 ·unfold Lib.decodeLastL
  rw [if_neg hne, hlast, if_neg Zk]
  simp only
  rw [decodeL_drop s i _ hi, Ytp s i _ hi hk hlow, hl]
  obtain ⟨k, hke⟩ : ∃ k, k = Lib.lastStart (s.data.toList.take i) := ⟨_, rfl⟩
  rw [← hke] at hk ⊢
  by_cases he : k + (Utf8.decode s k).2 = i
  ·rw [if_pos he]
   have hw : 1 ≤ (Utf8.decode s k).2 := Lib.decode_width_pos s k Zk
   have hik : i - (Utf8.decode s k).2 = k := by omega
   refine ⟨?_, hw, Zk, by rw [hik]⟩
   by_cases hb : (s.get! k).toNat < 128
   ·rw [decode_ascii s k Zk (by rw [← get!_at s k Zk]; exact hb)] at he
    have : k = i - 1 := by have : k + 1 = i := he; omega
    rw [this] at hb; omega
   ·exact (decode_high s k Zk (by rw [← get!_at s k Zk]; omega)).1
  ·rw [if_neg he]
   refine ⟨Zca, Kw _, h0, ?_⟩
   rw [Ybu s (i - 1) Zk h (fun hq => hlow _ Zk hq)]
theorem Ycm (s : Y) (e : Nat) (he : e ≤ s.size) (h1 : ∀ q, e ≤ q → q < s.size → (s.get! q).toNat ≤ 32) (h2 : 0 < e → 32 < (s.get! (e - 1)).toNat) :
  ∀ (f i : Nat), e ≤ i → i ≤ s.size → i ≤ f → Lib.lastIdxFuncFrom Yph false s f i = if e = 0 then -1 else ((e - (Lib.decodeLastL (s.data.toList.take e)).2 : Nat) : Int)
 | 0, i, h3, h4, h5 => by
  have : e = 0 := by omega
  rw [if_pos this]; rfl
 | f + 1, i, h3, h4, h5 => by
  unfold Lib.lastIdxFuncFrom
  by_cases hi0 : 0 < i
  ·rw [if_pos hi0]
   obtain ⟨r1, r2⟩ := Ytq s i hi0 h4 (fun q hq1 cH => by have := h1 q Zk cH; omega)
   by_cases hei : e = i
   ·subst hei
    have hb := h2 hi0
    rw [if_neg (by omega : ¬ e = 0)]
    by_cases ha : (s.get! (e - 1)).toNat < 128
    ·rw [r1 ha, if_pos (by simp [Yph]; omega)]
    ·have := (r2 Zk).1
     rw [if_pos (by simp [Yph]; omega)]
   ·have hb := h1 (i - 1) Zk Zk
    rw [r1 Zk, if_neg (by simp [Yph, hb])]
    exact Ycm s e he h1 h2 f (i - 1) Zk Zk Zk
  ·rw [if_neg hi0]
   have : e = 0 := by omega
   rw [if_pos this]
theorem Ygu (s : Y) (e : Nat) (he : e ≤ s.size) (h1 : ∀ q, e ≤ q → q < s.size → (s.get! q).toNat ≤ 32) (h2 : 0 < e → 32 < (s.get! (e - 1)).toNat) : Lib.rightEndF Yph s = e := by
 have hi : Lib.lastIdxFunc Yph false s = if e = 0 then -1 else ((e - (Lib.decodeLastL (s.data.toList.take e)).2 : Nat) : Int) := Ycm s e he h1 h2 s.size s.size he (Kw _) (Kw _)
 unfold Lib.rightEndF
 rw [hi]
 by_cases h0 : e = 0
 ·rw [if_pos h0, if_neg Zk, h0]
 ·rw [if_neg h0, if_pos Zk, Int.toNat_natCast]
  obtain ⟨r1, r2⟩ := Ytq s e Zk he (fun q hq1 cH => by have := h1 q Zk cH; omega)
  obtain ⟨n, hn⟩ : ∃ n, n = (Lib.decodeLastL (s.data.toList.take e)).2 := ⟨_, rfl⟩
  have hw : 1 ≤ n ∧ n ≤ e ∧ (Utf8.decode s (e - n)).2 = n := by
   by_cases ha : (s.get! (e - 1)).toNat < 128
   ·have : n = 1 := by rw [hn, r1 ha]
    subst this
    rw [decode_ascii s (e - 1) Zk (by rw [← get!_at s (e - 1) Zk]; exact ha)]
    exact ⟨Kw _, Zk, rfl⟩
   ·have := r2 Zk
    rw [← hn] at this
    exact ⟨this.2.1, this.2.2.1, this.2.2.2⟩
  rw [← hn]
  unfold Lib.decodeGoB
  rw [if_neg Zpa, Lib.tail_decode, Nat.add_zero, hw.2.2]
  omega
theorem last_high (l : List UInt8) : ∃ e, e ≤ l.length ∧ (∀ (q : Nat) b, e ≤ q → l[q]? = some b → b.toNat ≤ 32) ∧ (∀ b, 0 < e → l[e - 1]? = some b → 32 < b.toNat) ∧ (l.reverse.dropWhile Ymh).reverse = l.take e := by
 obtain ⟨k, hk, h1, h2, h3⟩ := Ynp l.reverse
 rw [List.length_reverse] at hk
 refine ⟨l.length - k, Zk, fun q b hq hb => ?_, fun b h0 hb => ?_, ?_⟩
 ·have hql : q < l.length := by
   rcases Nat.lt_or_ge q l.length with h' | h'
   ·exact h'
   ·rw [List.getElem?_eq_none h'] at hb; cases hb
  refine h1 (l.length - 1 - q) b Zk ?_
  rw [List.getElem?_reverse Zk]
  rw [show l.length - 1 - (l.length - 1 - q) = q by omega]; exact hb
 ·refine h2 b ?_
  rw [List.getElem?_reverse Zk]
  rw [show l.length - 1 - k = l.length - k - 1 by omega]; exact hb
 ·rw [h3, List.drop_reverse, List.reverse_reverse]
theorem trimF33 (s : Y) : (Lib.trimF Yph s).data.toList = Ysh s.data.toList := by
 unfold Lib.trimF Ysh
 rw [← Ypv]
 obtain ⟨t, ht⟩ : ∃ t, t = Lib.trimLeftF Yph s := ⟨_, rfl⟩
 rw [← ht]
 obtain ⟨e, he, h1, h2, h3⟩ := last_high t.data.toList
 rw [← Lib.size_eq] at he
 unfold Lib.trimRightF
 rw [h3, Ygu t e he (fun q hq cH => h1 q _ hq (get!_data t q cH)) (fun h0 => h2 _ h0 (get!_data t (e - 1) Zk)), Lib.extract_data]
 simp
end Go.Proofs.YtnmglnglbdpjjaaGreatDoor.X
end
section
section
namespace Go.Proofs.YtnmglnglbdpjjaaGreatDoor.X
open Go.RowKit Go.Lib Go.Shelf Go.Yw.PrintWords Go.Yw.PrintLast Go.Yw.PrintMore
def Yqd (l : List UInt8) : List UInt8 := (((Ysh l).filter (· != 9)).filter (· != 10)).filter (· != 13)
theorem Yjq (l : List UInt8) : (Ysh l).length ≤ l.length := by
 unfold Ysh
 rw [List.length_reverse]
 refine Nat.le_trans (List.dropWhile_sublist _).length_le ?_
 rw [List.length_reverse]
 exact (List.dropWhile_sublist _).length_le
theorem Ynu (w : World) : PredGrows Tryz.prog 57 #[] Yph w := by
 intro W x hx hb
 show Calls Tryz.prog 57 #[.int .i32 (x : Int)] W _
 have hd : decide ((x : Int) ≤ 32) = Yph x := by simp [Yph, decide_eq_decide]; omega
 go_enter Tryz.func57, Tryz.ntmps57
 go_wp2
 go_ret
 exact ⟨by first | rfl | (rw [hd]; rfl) | simp [hd], Below.refl _ _⟩
def Ywh : Nat → UInt8
 | 0 => 9
 | 1 => 10
 | _ => 13
def Yov (l : List UInt8) : Nat → List UInt8
 | 0 => Ysh l
 | 1 => (Ysh l).filter (· != 9)
 | 2 => ((Ysh l).filter (· != 9)).filter (· != 10)
 | _ => Yqd l
def Yxd.f (a0 : Y) : Option Y := if a0.size < 4294967281 then some (ofL (Yqd a0.data.toList)) else none
set_option maxHeartbeats 4000000 in
set_option maxRecDepth 100000 in
theorem Yxd.calls (a0 r : Y) (w : World) (hE : EnvOk w) (h : Yxd.f a0 = some r) :
  Calls Tryz.prog 21 #[.string a0] w fun e w' => e = .returned (.string r) ∧ Below w.heap.size w w' := by
 unfold Yxd.f at h
 by_cases hs : a0.size < 4294967281
 ·rw [if_pos hs] at h
  obtain rfl := Kv h
  have HE := Ya.mk hE
  clear hE h
  go_enter Tryz.func21, Tryz.ntmps21
  go_wp2_with fail
  refine (Tryz.strings_TrimFunc_grows 57 #[] (enters_of Tryz.func57 Zi rfl) Yph a0 _ Zk HE.out.tabs (Ynu _)).mono ?_
  rintro e w1 ⟨rfl, lS⟩
  have iB := Ya.mk lS
  obtain ⟨t, ht⟩ : ∃ t, t = Lib.trimF Yph a0 := ⟨_, rfl⟩
  rw [← ht]
  have HT := Ya.mk ht
  clear ht lS
  have hsz : t.size ≤ a0.size := by
   have h1 := Yjq a0.data.toList
   rw [Lib.size_eq, HT.out, trimF33, Lib.size_eq a0]; exact h1
  go_wp2
  go_loopg [0, 5, 11] 3 (fun g v0 _ v11 wx => ∃ (k : Nat) (x : Y), k + g ≤ 3 ∧ 3 ≤ k + g ∧ v0 = .string x ∧ v11 = .int .i64 (k : Int) ∧ x.size ≤ a0.size ∧ Ya (x.data.toList = Yov a0.data.toList k) ∧ Ya (wx.heap[w1.heap.size]? = some (.cells #[.string ⟨#[9]⟩, .string ⟨#[10]⟩, .string ⟨#[13]⟩] 9 (0, 0))) ∧ Ya (Below w.heap.size w wx))
  case atStart => exact ⟨0, t, Zk, Zk, rfl, rfl, hsz, ⟨by rw [HT.out, trimF33]; rfl⟩, ⟨by simpa using heap_alloc_new w1 _⟩, ⟨iB.out.alloc iB.out.size _⟩⟩
  case round =>
   obtain ⟨k, x, uR, hk2, rfl, rfl, hx, HX, HC, HB⟩ := hrel
   cases gk with
   | zero =>
    obtain rfl : k = 3 := by omega
    go_wp2
    go_ret
    refine ⟨?_, HB.out⟩
    have e : x = ofL (Yqd a0.data.toList) := by
     apply ByteArray.ext; apply Array.ext'
     rw [HX.out]; rfl
    rw [e]; rfl
   | succ g =>
    have hk3 : k < 3 := by omega
    have hcell : wr.cell? ⟨w1.heap.size, k, none⟩ = some (.string ⟨#[Ywh k]⟩) := by
     rw [Lib.cell_of_heap HC.out]
     rcases (show k = 0 ∨ k = 1 ∨ k = 2 by omega) with rfl | rfl | rfl <;> rfl
    have hf : strings_ReplaceAll.f x ⟨#[Ywh k]⟩ ⟨#[]⟩ = some (ofL (x.data.toList.filter (· != Ywh k))) := by
     unfold strings_ReplaceAll.f
     rw [if_pos ⟨Zk, by show 1 ≤ 1; omega, by show x.size + Lib.countB x _ * 0 ≤ _; omega⟩]
     show some (ofL (Lib.replaceAll x.data.toList [Ywh k] [])) = _
     rw [Yrn]
    have HF := Ya.mk hf
    have lM := Ya.mk (HE.out.below HB.out)
    clear hf
    go_wp2_with fail
    refine (strings_ReplaceAll.calls x ⟨#[Ywh k]⟩ ⟨#[]⟩ _ _ lM.out HF.out).mono ?_
    rintro e w2 ⟨rfl, bU⟩
    have eL := Ya.mk bU
    clear bU hcell
    go_wp2
    go_roundg g
    case measure => omega
    case rel =>
     refine ⟨k + 1, ofL (x.data.toList.filter (· != Ywh k)), Zk, Zk, rfl, by go_num, ?_, ⟨?_⟩, ⟨?_⟩, ⟨HB.out.trans (eL.out.mono HB.out.size)⟩⟩
     ·refine Nat.le_trans ?_ hx
      rw [Lib.size_eq, Lib.size_eq x]
      exact List.length_filter_le _ _
     ·show x.data.toList.filter (· != Ywh k) = _
      rw [HX.out]
      rcases (show k = 0 ∨ k = 1 ∨ k = 2 by omega) with rfl | rfl | rfl <;> rfl
     ·rw [eL.out.block _ (Array.getElem?_eq_some_iff.1 HC.out).1]; exact HC.out
 ·rw [if_neg hs] at h; cases h
end Go.Proofs.YtnmglnglbdpjjaaGreatDoor.X
end
section
section
namespace Go.Proofs.YtnmglnglbdpjjaaGreatDoor.X
open Go.RowKit Go.Lib Go.Shelf
def Ymp : Go.Shelf.Ren := ⟨fun | 166 => 103 | 240 => 122 | 276 => 140 | n => n, fun | 0 => 0 | 3 => 3 | 4 => 4 | 5 => 5 | 9 => 9 | 20 => 20 | 37 => 62 | 70 => 80 | 72 => 82 | 75 => 87 | 80 => 89 | 164 => 119 | n => n, fun | n => n⟩
theorem bld166 : Go.Proofs.Lays.n166 Tryz.prog Ymp := {
 mixed := by kernel_rfl
 f166 := Tryz.func103.trans (congrArg some Zi)
 f240 := Tryz.func122.trans (congrArg some Zi)
 f276 := Tryz.func140.trans (congrArg some Zi)
 t0 := Tryz.underlying0
 a0 := Tryz.isAgg0
 z0 := Tryz.sizeOf0
 v0 := Tryz.zeroValue0
 t3 := Tryz.underlying3
 a3 := Tryz.isAgg3
 z3 := Tryz.sizeOf3
 v3 := Tryz.zeroValue3
 t4 := Tryz.underlying4
 a4 := Tryz.isAgg4
 z4 := Tryz.sizeOf4
 v4 := Tryz.zeroValue4
 t9 := Tryz.underlying9
 a9 := Tryz.isAgg9
 z9 := Tryz.sizeOf9
 v9 := Tryz.zeroValue9
 t20 := Tryz.underlying20
 a20 := Tryz.isAgg20
 z20 := Tryz.sizeOf20
 v20 := Tryz.zeroValue20
 t37 := Tryz.underlying62
 a37 := Tryz.isAgg62
 z37 := Tryz.sizeOf62
 v37 := Tryz.zeroValue62
 t70 := Tryz.underlying80
 a70 := Tryz.isAgg80
 z70 := Tryz.sizeOf80
 v70 := Tryz.zeroValue80
 t72 := Tryz.underlying82
 a72 := Tryz.isAgg82
 z72 := Tryz.sizeOf82
 v72 := Tryz.zeroValue82
 t75 := Tryz.underlying87
 a75 := Tryz.isAgg87
 z75 := Tryz.sizeOf87
 v75 := Tryz.zeroValue87
 t164 := Tryz.underlying119
 a164 := Tryz.isAgg119
 z164 := Tryz.sizeOf119
 v164 := Tryz.zeroValue119 }
theorem bldX166 : Builder.Extra Tryz.prog Ymp := {
 sizeBuilder := by kernel_rfl
 liesBuilder := by kernel_rfl
 t5 := Tryz.underlying5
 a5 := Tryz.isAgg5
 z5 := Tryz.sizeOf5
 v5 := Tryz.zeroValue5
 infoByte := by kernel_rfl
 cellsByte := by kernel_rfl
 sizeByte := by kernel_rfl
 neB5 := by decide }
def Yao : Go.Shelf.Ren := ⟨fun | 167 => 93 | 240 => 122 | 276 => 140 | n => n, fun | 0 => 0 | 4 => 4 | 5 => 5 | 9 => 9 | 20 => 20 | 37 => 62 | 70 => 80 | 72 => 82 | 75 => 87 | 80 => 89 | 164 => 119 | n => n, fun | n => n⟩
theorem bld167 : Go.Proofs.Lays.n167 Tryz.prog Yao := {
 mixed := by kernel_rfl
 f167 := Tryz.func93.trans (congrArg some Zi)
 f240 := Tryz.func122.trans (congrArg some Zi)
 f276 := Tryz.func140.trans (congrArg some Zi)
 t0 := Tryz.underlying0
 a0 := Tryz.isAgg0
 z0 := Tryz.sizeOf0
 v0 := Tryz.zeroValue0
 t4 := Tryz.underlying4
 a4 := Tryz.isAgg4
 z4 := Tryz.sizeOf4
 v4 := Tryz.zeroValue4
 t5 := Tryz.underlying5
 a5 := Tryz.isAgg5
 z5 := Tryz.sizeOf5
 v5 := Tryz.zeroValue5
 t9 := Tryz.underlying9
 a9 := Tryz.isAgg9
 z9 := Tryz.sizeOf9
 v9 := Tryz.zeroValue9
 t20 := Tryz.underlying20
 a20 := Tryz.isAgg20
 z20 := Tryz.sizeOf20
 v20 := Tryz.zeroValue20
 t37 := Tryz.underlying62
 a37 := Tryz.isAgg62
 z37 := Tryz.sizeOf62
 v37 := Tryz.zeroValue62
 t70 := Tryz.underlying80
 a70 := Tryz.isAgg80
 z70 := Tryz.sizeOf80
 v70 := Tryz.zeroValue80
 t72 := Tryz.underlying82
 a72 := Tryz.isAgg82
 z72 := Tryz.sizeOf82
 v72 := Tryz.zeroValue82
 t75 := Tryz.underlying87
 a75 := Tryz.isAgg87
 z75 := Tryz.sizeOf87
 v75 := Tryz.zeroValue87
 t164 := Tryz.underlying119
 a164 := Tryz.isAgg119
 z164 := Tryz.sizeOf119
 v164 := Tryz.zeroValue119 }
theorem bldX167 : Builder.Extra Tryz.prog Yao := {
 sizeBuilder := by kernel_rfl
 liesBuilder := by kernel_rfl
 t5 := Tryz.underlying5
 a5 := Tryz.isAgg5
 z5 := Tryz.sizeOf5
 v5 := Tryz.zeroValue5
 infoByte := by kernel_rfl
 cellsByte := by kernel_rfl
 sizeByte := by kernel_rfl
 neB5 := by decide }
abbrev Yrj (B b : Nat) (l : List UInt8) (w : World) : Prop := Lib.IsBuilderF 82 5 B b (Lib.byteCells l) w
theorem Ybs (w : World) : Yrj w.heap.size w.heap.size [] (w.alloc (.cells #[.pointer none, .slice none 0 0] 82)) := Lib.IsBuilderF.of (Lib.fresh_isBuilder _ _ w)
theorem Yrh (B b : Nat) (l : List UInt8) (u : UInt8) (w : World) (h : Yrj B b l w) (hl : l.length + 1 ≤ 140737488355328) (hB : B ≤ w.heap.size) :
  Calls Tryz.prog 93 #[.pointer (some ⟨b, 0, none⟩), .int .u8 (u.toNat : Int)] w fun e w' => e = .returned .nilIface ∧ Yrj B b (l ++ [u]) w' ∧ Below B w w' :=
 (Any.Builder_WriteByte_k bld167 bldX167 B b _ (u.toNat : Int) w h (by rw [Lib.byteCells_length]; exact hl) hB).mono fun e w' ⟨h1, h2, h3, _⟩ => ⟨h1, Or.inr (by rw [Lib.byteCells_append]; exact h2), h3⟩
theorem bld_str (B b : Nat) (l : List UInt8) (s : Y) (w : World) (h : Yrj B b l w) (hl : l.length + s.size ≤ 140737488355328) (hB : B ≤ w.heap.size) :
  Calls Tryz.prog 103 #[.pointer (some ⟨b, 0, none⟩), .string s] w fun e w' => e = .returned (.tuple #[.int .i64 s.size, .nilIface]) ∧ Yrj B b (l ++ s.data.toList) w' ∧ Below B w w' :=
 (Any.Builder_WriteString_k bld166 bldX166 B b _ s w h (by rw [Lib.byteCells_length]; exact hl) hB).mono fun e w' ⟨h1, h2, h3, _⟩ => ⟨h1, Or.inr (by rw [Lib.byteCells_append]; exact h2), h3⟩
theorem Ynl (B b : Nat) (l : List UInt8) (w : World) (h : Yrj B b l w) (hB : B ≤ w.heap.size) :
  Calls Tryz.prog 94 #[.pointer (some ⟨b, 0, none⟩)] w fun e w' => e = .returned (.string (ofL l)) ∧ Below B w w' :=
 (Tryz.Builder_String_any_f B b l w h hB).mono fun e w' ⟨h1, _, h3⟩ => ⟨h1, h3⟩
end Go.Proofs.YtnmglnglbdpjjaaGreatDoor.X
end
section
end
end
end
