import Derived.Lib.RuneCountTail
import Derived.Shelf.Strings.MapGrows
import Derived.Test.YtihaeeldgimdiaaGreatDoorIUH0c
set_option linter.all false
section
namespace Go.Proofs.YtihaeeldgimdiaaGreatDoor.X
open Go.RowKit Go.Lib Go.Shelf
theorem Yjl (c : UInt8) (new : List UInt8) : ∀ s : List UInt8, Lib.replaceK [c] new (Lib.count s [c]) s = s.flatMap fun b => if b = c then new else [b]
 | [] => by simp [Lib.count_one, Lib.replaceK]
 | b :: l => by
  have ih := Yjl c new l
  by_cases hb : b = c
  ·subst hb
   rw [Lib.count_cons_eq, Nat.add_comm, Lib.replaceK_hit (i := 0) (h := by rw [Lib.index_one]; simp [Lib.indexByte])]
   simp only [List.take_zero, List.nil_append, List.length_cons, List.length_nil, Nat.zero_add, List.drop_succ_cons, List.drop_zero, List.flatMap_cons, if_true]
   rw [ih]
  ·rw [Lib.count_cons_ne b c l hb, List.flatMap_cons, if_neg hb, ← ih]
   cases hk : Lib.count l [c] with
   | zero => rfl
   | succ k =>
    obtain ⟨i, hi⟩ := Lib.index_of_count (s := l) (old := [c]) (by rw [hk]; omega)
    have hi' : Lib.index (b :: l) [c] = ((i + 1 : Nat) : Int) := by
     rw [Lib.index_one] at hi ⊢
     unfold Lib.indexByte
     rw [if_neg (by simpa using hb), hi, if_neg (fun e => by have := beq_iff_eq.1 e; omega)]
     omega
    rw [Lib.replaceK_hit (h := hi'), Lib.replaceK_hit (h := hi)]
    simp [List.take_succ_cons, List.drop_succ_cons]
theorem Yqj (c : UInt8) (new s : List UInt8) : Lib.replaceAll s [c] new = s.flatMap fun b => if b = c then new else [b] := by
 unfold Lib.replaceAll Lib.replace
 by_cases h : [c] = new
 ·subst h
  simp only [beq_self_eq_true, if_true]
  induction s with
  | nil => rfl
  | cons b l ih =>
   rw [List.flatMap_cons, ← ih]
   by_cases hb : b = c
   ·rw [if_pos hb, hb]; rfl
   ·rw [if_neg hb]; rfl
 ·rw [if_neg (by simpa using h), Lib.replaceNum, if_pos (.inl Zj), Yjl]
theorem Yum (c : UInt8) (s : List UInt8) : Lib.replaceAll s [c] [] = s.filter (· != c) := by
 rw [Yqj]
 induction s with
 | nil => rfl
 | cons b l ih =>
  rw [List.flatMap_cons, ih, List.filter_cons]
  by_cases h : b = c <;> simp [h]
def Ylh (b : UInt8) : Bool := decide (b.toNat ≤ 32)
def Ywg (c : Nat) : Bool := decide (c ≤ 32)
def Yqh (l : List UInt8) : List UInt8 := ((l.dropWhile Ylh).reverse.dropWhile Ylh).reverse
theorem Ygr (s : Y) (k : Nat) (hk : k ≤ s.size) (h1 : ∀ j, j < k → (s.get! j).toNat ≤ 32) (h2 : k < s.size → 32 < (s.get! k).toNat) :
  ∀ (f pos : Nat), pos ≤ k → s.size - pos ≤ f → Lib.idxFuncFrom Ywg false s f pos = if k = s.size then -1 else (k : Int)
 | 0, pos, hp, hf => by
  have : k = s.size := by omega
  rw [if_pos this]; rfl
 | f + 1, pos, hp, hf => by
  unfold Lib.idxFuncFrom
  by_cases hps : pos < s.size
  ·rw [if_pos hps]
   by_cases hpk : pos < k
   ·have hb := h1 pos hpk
    rw [decode_ascii s pos hps (by rw [← get!_at s pos hps]; omega), ← get!_at s pos hps]
    rw [if_neg (by simp [Ywg, hb])]
    exact Ygr s k hk h1 h2 f (pos + 1) Zj Zj
   ·obtain rfl : pos = k := by omega
    have hb := h2 hps
    rw [if_neg (Nat.ne_of_lt hps)]
    by_cases ha : (s.get! pos).toNat < 128
    ·rw [decode_ascii s pos hps (by rw [← get!_at s pos hps]; omega), ← get!_at s pos hps, if_pos (by simp [Ywg]; omega)]
    ·have := (decode_high s pos hps (by rw [← get!_at s pos hps]; omega)).1
     rw [if_pos (by simp [Ywg]; omega)]
  ·rw [if_neg hps]
   have : k = s.size := by omega
   rw [if_pos this]
theorem Ydo (l : List UInt8) : ∃ k, k ≤ l.length ∧ (∀ (j : Nat) b, j < k → l[j]? = some b → b.toNat ≤ 32) ∧ (∀ b, l[k]? = some b → 32 < b.toNat) ∧ l.dropWhile Ylh = l.drop k := by
 induction l with
 | nil => exact ⟨0, Ks _, fun _ _ h => absurd h (Nat.not_lt_zero _), fun _ h => by simp at h, rfl⟩
 | cons b l ih =>
  by_cases hb : b.toNat ≤ 32
  ·obtain ⟨k, hk, h1, h2, h3⟩ := ih
   refine ⟨k + 1, Zfb, fun j c hj hc => ?_, fun c hc => h2 c (by simpa using hc), ?_⟩
   ·cases j with
    | zero => simp at hc; subst hc; exact hb
    | succ j => exact h1 j c Zj (by simpa using hc)
   ·rw [List.dropWhile_cons_of_pos (by simpa [Ylh] using hb), h3]; rfl
  ·exact ⟨0, Nat.zero_le _, fun _ _ h => absurd h (Nat.not_lt_zero _), fun c hc => by simp at hc; subst hc; omega, by rw [List.dropWhile_cons_of_neg (by simpa [Ylh] using hb)]; rfl⟩
theorem Yvs (s : Y) : (Lib.trimLeftF Ywg s).data.toList = s.data.toList.dropWhile Ylh := by
 obtain ⟨k, hk, h1, h2, h3⟩ := Ydo s.data.toList
 rw [← Lib.size_eq] at hk
 have hi : Lib.idxFunc Ywg false s = if k = s.size then -1 else (k : Int) :=
  Ygr s k hk (fun j hj => h1 j _ hj (get!_data s j Zj)) (fun h => h2 _ (get!_data s k h)) s.size 0 (Nat.zero_le _) (Nat.sub_le _ _)
 rw [h3]
 unfold Lib.trimLeftF
 rw [hi]
 by_cases he : k = s.size
 ·rw [if_pos he, if_pos rfl, he, List.drop_eq_nil_of_le (by rw [← Lib.size_eq]; exact Ks _)]
 ·rw [if_neg he, if_neg Zj, Int.toNat_natCast]
  exact Lib.extract_to_end s k
theorem Yoo (s : Y) (i j : Nat) (hi : i ≤ s.size) (hj : j < i) (hlow : ∀ q, i ≤ q → q < s.size → (s.get! q).toNat < 128) : Utf8.decode (s.extract 0 i) j = Utf8.decode s j := by
 have hsz : (s.extract 0 i).size = i := by rw [ByteArray.size_extract]; omega
 have hg : ∀ q, q < i → (s.extract 0 i).get! q = s.get! q := fun q hq => by
  rw [get!_at _ q Zj, get!_at s q Zj, ByteArray.getElem_extract]
  congr 1; omega
 have hc : ∀ k, (decide (j + k < (s.extract 0 i).size) && ((s.extract 0 i).get! (j + k)).toNat / 64 == 2) = (decide (j + k < s.size) && (s.get! (j + k)).toNat / 64 == 2) := fun k => by
  rw [hsz]
  by_cases h1 : j + k < i
  ·rw [hg _ h1]; simp [h1, show j + k < s.size by omega]
  ·by_cases h2 : j + k < s.size
   ·have := hlow (j + k) Zj h2
    simp [h1, h2]; omega
   ·simp [h1, h2]
 have ha : ∀ k, (decide (j + k < s.size) && (s.get! (j + k)).toNat / 64 == 2) = true → (s.extract 0 i).get! (j + k) = s.get! (j + k) := fun k hk => by
  have := hc k
  rw [hk, hsz] at this
  simp only [Bool.and_eq_true, decide_eq_true_eq] at this
  exact hg _ this.1
 have h0 := hg (j + 0) Zj
 unfold Utf8.decode
 simp only [hc, h0]
 by_cases c1 : (decide (j + 1 < s.size) && (s.get! (j + 1)).toNat / 64 == 2) = true
 ·simp only [ha 1 c1]
  by_cases c2 : (decide (j + 2 < s.size) && (s.get! (j + 2)).toNat / 64 == 2) = true
  ·simp only [ha 2 c2]
   by_cases c3 : (decide (j + 3 < s.size) && (s.get! (j + 3)).toNat / 64 == 2) = true
   ·simp only [ha 3 c3]
   ·simp only [c3]; simp
  ·simp only [c2]; simp
 ·simp only [c1]; simp
theorem Ynr (s : Y) (j : Nat) (hj : j < s.size) (h : 128 ≤ (s.get! j).toNat) (hn : j + 1 < s.size → (s.get! (j + 1)).toNat < 128) : Utf8.decode s j = (65533, 1) := by
 have h0 : ¬ (s.get! (j + 0)).toNat < 128 := by simpa using h
 have c1 : (decide (j + 1 < s.size) && (s.get! (j + 1)).toNat / 64 == 2) = false := by
  by_cases h1 : j + 1 < s.size
  ·have := hn h1; simp [h1]; omega
  ·simp [h1]
 unfold Utf8.decode
 simp only [h0, c1, if_false]
 simp [Utf8.runeError]
theorem lastStart_lt (l : List UInt8) (h : l ≠ []) : Lib.lastStart l < l.length := by
 have : 0 < l.length := List.length_pos_iff.2 h
 unfold Lib.lastStart
 simp only
 repeat' split
 all_goals omega
theorem decodeL_drop (s : Y) (i k : Nat) (hi : i ≤ s.size) : Lib.decodeL ((s.data.toList.take i).drop k) = Utf8.decode (s.extract 0 i) k := by
 unfold Lib.decodeL
 have hsz : (s.extract 0 i).size = i := by rw [ByteArray.size_extract]; omega
 have : (⟨((s.data.toList.take i).drop k).toArray⟩ : Y) = (s.extract 0 i).extract k (s.extract 0 i).size := by
  apply ByteArray.ext
  apply Array.ext'
  rw [Lib.extract_to_end, Lib.extract_data]
  simp
 rw [this, Lib.tail_decode, Nat.add_zero]
theorem Ydp (s : Y) (i : Nat) (h0 : 0 < i) (hi : i ≤ s.size) (hlow : ∀ q, i ≤ q → q < s.size → (s.get! q).toNat < 128) :
  ((s.get! (i - 1)).toNat < 128 → Lib.decodeLastL (s.data.toList.take i) = ((s.get! (i - 1)).toNat, 1)) ∧
  (128 ≤ (s.get! (i - 1)).toNat → 128 ≤ (Lib.decodeLastL (s.data.toList.take i)).1 ∧ 1 ≤ (Lib.decodeLastL (s.data.toList.take i)).2 ∧ (Lib.decodeLastL (s.data.toList.take i)).2 ≤ i ∧ (Utf8.decode s (i - (Lib.decodeLastL (s.data.toList.take i)).2)).2 = (Lib.decodeLastL (s.data.toList.take i)).2) := by
 have hl : (s.data.toList.take i).length = i := by rw [List.length_take, ← Lib.size_eq]; omega
 have hne : s.data.toList.take i ≠ [] := fun e => by rw [e] at hl; simp at hl; omega
 have hlast : (s.data.toList.take i).getD ((s.data.toList.take i).length - 1) 0 = s.get! (i - 1) := by
  rw [hl, List.getD_eq_getElem?_getD, List.getElem?_take, if_pos Zj, get!_data s (i - 1) Zj]; rfl
 have hk := lastStart_lt _ hne
 rw [hl] at hk
 refine ⟨fun h => ?_, fun h => ?_⟩
 ·unfold Lib.decodeLastL
  rw [if_neg hne, hlast, if_pos h]
 ·unfold Lib.decodeLastL
  rw [if_neg hne, hlast, if_neg Zj]
  simp only
  rw [decodeL_drop s i _ hi, Yoo s i _ hi hk hlow, hl]
  obtain ⟨k, hke⟩ : ∃ k, k = Lib.lastStart (s.data.toList.take i) := ⟨_, rfl⟩
  rw [← hke] at hk ⊢
  by_cases he : k + (Utf8.decode s k).2 = i
  ·rw [if_pos he]
   have hw : 1 ≤ (Utf8.decode s k).2 := Lib.decode_width_pos s k Zj
   have hik : i - (Utf8.decode s k).2 = k := by omega
   refine ⟨?_, hw, Zj, by rw [hik]⟩
   by_cases hb : (s.get! k).toNat < 128
   ·rw [decode_ascii s k Zj (by rw [← get!_at s k Zj]; exact hb)] at he
    have : k = i - 1 := by have : k + 1 = i := he; omega
    rw [this] at hb; omega
   ·exact (decode_high s k Zj (by rw [← get!_at s k Zj]; omega)).1
  ·rw [if_neg he]
   refine ⟨Zw, Ks _, h0, ?_⟩
   rw [Ynr s (i - 1) Zj h (fun hq => hlow _ Zj hq)]
theorem Ygl (s : Y) (e : Nat) (he : e ≤ s.size) (h1 : ∀ q, e ≤ q → q < s.size → (s.get! q).toNat ≤ 32) (h2 : 0 < e → 32 < (s.get! (e - 1)).toNat) :
  ∀ (f i : Nat), e ≤ i → i ≤ s.size → i ≤ f → Lib.lastIdxFuncFrom Ywg false s f i = if e = 0 then -1 else ((e - (Lib.decodeLastL (s.data.toList.take e)).2 : Nat) : Int)
 | 0, i, h3, h4, h5 => by
  have : e = 0 := by omega
  rw [if_pos this]; rfl
 | f + 1, i, h3, h4, h5 => by
  unfold Lib.lastIdxFuncFrom
  by_cases hi0 : 0 < i
  ·rw [if_pos hi0]
   obtain ⟨r1, r2⟩ := Ydp s i hi0 h4 (fun q hq1 cP => by have := h1 q Zj cP; omega)
   by_cases hei : e = i
   ·subst hei
    have hb := h2 hi0
    rw [if_neg (by omega : ¬ e = 0)]
    by_cases ha : (s.get! (e - 1)).toNat < 128
    ·rw [r1 ha, if_pos (by simp [Ywg]; omega)]
    ·have := (r2 Zj).1
     rw [if_pos (by simp [Ywg]; omega)]
   ·have hb := h1 (i - 1) Zj Zj
    rw [r1 Zj, if_neg (by simp [Ywg, hb])]
    exact Ygl s e he h1 h2 f (i - 1) Zj Zj Zj
  ·rw [if_neg hi0]
   have : e = 0 := by omega
   rw [if_pos this]
theorem Ybs (s : Y) (e : Nat) (he : e ≤ s.size) (h1 : ∀ q, e ≤ q → q < s.size → (s.get! q).toNat ≤ 32) (h2 : 0 < e → 32 < (s.get! (e - 1)).toNat) : Lib.rightEndF Ywg s = e := by
 have hi : Lib.lastIdxFunc Ywg false s = if e = 0 then -1 else ((e - (Lib.decodeLastL (s.data.toList.take e)).2 : Nat) : Int) := Ygl s e he h1 h2 s.size s.size he (Ks _) (Ks _)
 unfold Lib.rightEndF
 rw [hi]
 by_cases h0 : e = 0
 ·rw [if_pos h0, if_neg Zj, h0]
 ·rw [if_neg h0, if_pos Zj, Int.toNat_natCast]
  obtain ⟨r1, r2⟩ := Ydp s e Zj he (fun q hq1 cP => by have := h1 q Zj cP; omega)
  obtain ⟨n, hn⟩ : ∃ n, n = (Lib.decodeLastL (s.data.toList.take e)).2 := ⟨_, rfl⟩
  have hw : 1 ≤ n ∧ n ≤ e ∧ (Utf8.decode s (e - n)).2 = n := by
   by_cases ha : (s.get! (e - 1)).toNat < 128
   ·have : n = 1 := by rw [hn, r1 ha]
    subst this
    rw [decode_ascii s (e - 1) Zj (by rw [← get!_at s (e - 1) Zj]; exact ha)]
    exact ⟨Ks _, Zj, rfl⟩
   ·have := r2 Zj
    rw [← hn] at this
    exact ⟨this.2.1, this.2.2.1, this.2.2.2⟩
  rw [← hn]
  unfold Lib.decodeGoB
  rw [if_neg Zoa, Lib.tail_decode, Nat.add_zero, hw.2.2]
  omega
theorem last_high (l : List UInt8) : ∃ e, e ≤ l.length ∧ (∀ (q : Nat) b, e ≤ q → l[q]? = some b → b.toNat ≤ 32) ∧ (∀ b, 0 < e → l[e - 1]? = some b → 32 < b.toNat) ∧ (l.reverse.dropWhile Ylh).reverse = l.take e := by
 obtain ⟨k, hk, h1, h2, h3⟩ := Ydo l.reverse
 rw [List.length_reverse] at hk
 refine ⟨l.length - k, Zj, fun q b hq hb => ?_, fun b h0 hb => ?_, ?_⟩
 ·have hql : q < l.length := by
   rcases Nat.lt_or_ge q l.length with h' | h'
   ·exact h'
   ·rw [List.getElem?_eq_none h'] at hb; cases hb
  refine h1 (l.length - 1 - q) b Zj ?_
  rw [List.getElem?_reverse Zj]
  rw [show l.length - 1 - (l.length - 1 - q) = q by omega]; exact hb
 ·refine h2 b ?_
  rw [List.getElem?_reverse Zj]
  rw [show l.length - 1 - k = l.length - k - 1 by omega]; exact hb
 ·rw [h3, List.drop_reverse, List.reverse_reverse]
theorem trimF33 (s : Y) : (Lib.trimF Ywg s).data.toList = Yqh s.data.toList := by
 unfold Lib.trimF Yqh
 rw [← Yvs]
 obtain ⟨t, ht⟩ : ∃ t, t = Lib.trimLeftF Ywg s := ⟨_, rfl⟩
 rw [← ht]
 obtain ⟨e, he, h1, h2, h3⟩ := last_high t.data.toList
 rw [← Lib.size_eq] at he
 unfold Lib.trimRightF
 rw [h3, Ybs t e he (fun q hq cP => h1 q _ hq (get!_data t q cP)) (fun h0 => h2 _ h0 (get!_data t (e - 1) Zj)), Lib.extract_data]
 simp
end Go.Proofs.YtihaeeldgimdiaaGreatDoor.X
end
section
section
namespace Go.Proofs.YtihaeeldgimdiaaGreatDoor.X
open Go.RowKit Go.Lib Go.Shelf Go.Yw.PrintWords Go.Yw.PrintLast Go.Yw.PrintMore
def Ywf (l : List UInt8) : List UInt8 := (((Yqh l).filter (· != 9)).filter (· != 10)).filter (· != 13)
theorem Yhp (l : List UInt8) : (Yqh l).length ≤ l.length := by
 unfold Yqh
 rw [List.length_reverse]
 refine Nat.le_trans (List.dropWhile_sublist _).length_le ?_
 rw [List.length_reverse]
 exact (List.dropWhile_sublist _).length_le
theorem Yus (w : World) : PredGrows Tryz.prog 65 #[] Ywg w := by
 intro W x hx hb
 show Calls Tryz.prog 65 #[.int .i32 (x : Int)] W _
 have hd : decide ((x : Int) ≤ 32) = Ywg x := by simp [Ywg, decide_eq_decide]; omega
 go_enter Tryz.func65, Tryz.ntmps65
 go_wp2
 go_ret
 exact ⟨by first | rfl | (rw [hd]; rfl) | simp [hd], Below.refl _ _⟩
def Yhh : Nat → UInt8
 | 0 => 9
 | 1 => 10
 | _ => 13
def Yis (l : List UInt8) : Nat → List UInt8
 | 0 => Yqh l
 | 1 => (Yqh l).filter (· != 9)
 | 2 => ((Yqh l).filter (· != 9)).filter (· != 10)
 | _ => Ywf l
def Ygh.f (a0 : Y) : Option Y := if a0.size < 4294967281 then some (ofL (Ywf a0.data.toList)) else none
set_option maxHeartbeats 4000000 in
set_option maxRecDepth 100000 in
theorem Ygh.calls (a0 r : Y) (w : World) (hE : EnvOk w) (h : Ygh.f a0 = some r) :
  Calls Tryz.prog 44 #[.string a0] w fun e w' => e = .returned (.string r) ∧ Below w.heap.size w w' := by
 unfold Ygh.f at h
 by_cases hs : a0.size < 4294967281
 ·rw [if_pos hs] at h
  obtain rfl := Kr h
  have HE := Ya.mk hE
  clear hE h
  go_enter Tryz.func44, Tryz.ntmps44
  go_wp2_with fail
  refine (Tryz.strings_TrimFunc_grows 65 #[] (enters_of Tryz.func65 Zi rfl) Ywg a0 _ Zj HE.out.tabs (Yus _)).mono ?_
  rintro e w1 ⟨rfl, qY⟩
  have hY := Ya.mk qY
  obtain ⟨t, ht⟩ : ∃ t, t = Lib.trimF Ywg a0 := ⟨_, rfl⟩
  rw [← ht]
  have HT := Ya.mk ht
  clear ht qY
  have hsz : t.size ≤ a0.size := by
   have h1 := Yhp a0.data.toList
   rw [Lib.size_eq, HT.out, trimF33, Lib.size_eq a0]; exact h1
  go_wp2
  go_loopg [0, 5, 11] 3 (fun g v0 _ kV wx => ∃ (k : Nat) (x : Y), k + g ≤ 3 ∧ 3 ≤ k + g ∧ v0 = .string x ∧ kV = .int .i64 (k : Int) ∧ x.size ≤ a0.size ∧ Ya (x.data.toList = Yis a0.data.toList k) ∧ Ya (wx.heap[w1.heap.size]? = some (.cells #[.string ⟨#[9]⟩, .string ⟨#[10]⟩, .string ⟨#[13]⟩] 9 (0, 0))) ∧ Ya (Below w.heap.size w wx))
  case atStart => exact ⟨0, t, Zj, Zj, rfl, rfl, hsz, ⟨by rw [HT.out, trimF33]; rfl⟩, ⟨by simpa using heap_alloc_new w1 _⟩, ⟨hY.out.alloc hY.out.size _⟩⟩
  case round =>
   obtain ⟨k, x, mM, zV, rfl, rfl, hx, HX, HC, HB⟩ := hrel
   cases gk with
   | zero =>
    obtain rfl : k = 3 := by omega
    go_wp2
    go_ret
    refine ⟨?_, HB.out⟩
    have e : x = ofL (Ywf a0.data.toList) := by
     apply ByteArray.ext; apply Array.ext'
     rw [HX.out]; rfl
    rw [e]; rfl
   | succ g =>
    have hk3 : k < 3 := by omega
    have hcell : wr.cell? ⟨w1.heap.size, k, none⟩ = some (.string ⟨#[Yhh k]⟩) := by
     rw [Lib.cell_of_heap HC.out]
     rcases (show k = 0 ∨ k = 1 ∨ k = 2 by omega) with rfl | rfl | rfl <;> rfl
    have hf : strings_ReplaceAll.f x ⟨#[Yhh k]⟩ ⟨#[]⟩ = some (ofL (x.data.toList.filter (· != Yhh k))) := by
     unfold strings_ReplaceAll.f
     rw [if_pos ⟨Zj, by show 1 ≤ 1; omega, by show x.size + Lib.countB x _ * 0 ≤ _; omega⟩]
     show some (ofL (Lib.replaceAll x.data.toList [Yhh k] [])) = _
     rw [Yum]
    have HF := Ya.mk hf
    have mN := Ya.mk (HE.out.below HB.out)
    clear hf
    go_wp2_with fail
    refine (strings_ReplaceAll.calls x ⟨#[Yhh k]⟩ ⟨#[]⟩ _ _ mN.out HF.out).mono ?_
    rintro e w2 ⟨rfl, cJ⟩
    have fJ := Ya.mk cJ
    clear cJ hcell
    go_wp2
    go_roundg g
    case measure => omega
    case rel =>
     refine ⟨k + 1, ofL (x.data.toList.filter (· != Yhh k)), Zj, Zj, rfl, by go_num, ?_, ⟨?_⟩, ⟨?_⟩, ⟨HB.out.trans (fJ.out.mono HB.out.size)⟩⟩
     ·refine Nat.le_trans ?_ hx
      rw [Lib.size_eq, Lib.size_eq x]
      exact List.length_filter_le _ _
     ·show x.data.toList.filter (· != Yhh k) = _
      rw [HX.out]
      rcases (show k = 0 ∨ k = 1 ∨ k = 2 by omega) with rfl | rfl | rfl <;> rfl
     ·rw [fJ.out.block _ (Array.getElem?_eq_some_iff.1 HC.out).1]; exact HC.out
 ·rw [if_neg hs] at h; cases h
end Go.Proofs.YtihaeeldgimdiaaGreatDoor.X
end
section
section
namespace Go.Proofs.YtihaeeldgimdiaaGreatDoor.X
open Go.RowKit Go.Lib Go.Shelf
def Yrn : Go.Shelf.Ren := ⟨fun | 166 => 110 | 240 => 130 | 276 => 139 | n => n, fun | 0 => 0 | 3 => 3 | 4 => 4 | 5 => 5 | 9 => 9 | 20 => 20 | 37 => 67 | 70 => 119 | 72 => 121 | 75 => 123 | 80 => 127 | 164 => 143 | n => n, fun | n => n⟩
theorem bld166 : Go.Proofs.Lays.n166 Tryz.prog Yrn := {
 mixed := by kernel_rfl
 f166 := Tryz.func110.trans (congrArg some Zi)
 f240 := Tryz.func130.trans (congrArg some Zi)
 f276 := Tryz.func139.trans (congrArg some Zi)
 t0 := Tryz.underlying0
 a0 := Tryz.isAgg0
 z0 := Tryz.sizeOf0
 v0 := Tryz.zeroValue0
 t3 := Tryz.underlying3
 a3 := Tryz.isAgg3
 z3 := Tryz.sizeOf3
 v3 := Tryz.zeroValue3
 t4 := Tryz.underlying4
 a4 := Tryz.isAgg4
 z4 := Tryz.sizeOf4
 v4 := Tryz.zeroValue4
 t9 := Tryz.underlying9
 a9 := Tryz.isAgg9
 z9 := Tryz.sizeOf9
 v9 := Tryz.zeroValue9
 t20 := Tryz.underlying20
 a20 := Tryz.isAgg20
 z20 := Tryz.sizeOf20
 v20 := Tryz.zeroValue20
 t37 := Tryz.underlying67
 a37 := Tryz.isAgg67
 z37 := Tryz.sizeOf67
 v37 := Tryz.zeroValue67
 t70 := Tryz.underlying119
 a70 := Tryz.isAgg119
 z70 := Tryz.sizeOf119
 v70 := Tryz.zeroValue119
 t72 := Tryz.underlying121
 a72 := Tryz.isAgg121
 z72 := Tryz.sizeOf121
 v72 := Tryz.zeroValue121
 t75 := Tryz.underlying123
 a75 := Tryz.isAgg123
 z75 := Tryz.sizeOf123
 v75 := Tryz.zeroValue123
 t164 := Tryz.underlying143
 a164 := Tryz.isAgg143
 z164 := Tryz.sizeOf143
 v164 := Tryz.zeroValue143 }
theorem bldX166 : Builder.Extra Tryz.prog Yrn := {
 sizeBuilder := by kernel_rfl
 liesBuilder := by kernel_rfl
 t5 := Tryz.underlying5
 a5 := Tryz.isAgg5
 z5 := Tryz.sizeOf5
 v5 := Tryz.zeroValue5
 infoByte := by kernel_rfl
 cellsByte := by kernel_rfl
 sizeByte := by kernel_rfl
 neB5 := by decide }
def Yin : Go.Shelf.Ren := ⟨fun | 167 => 109 | 240 => 130 | 276 => 139 | n => n, fun | 0 => 0 | 4 => 4 | 5 => 5 | 9 => 9 | 20 => 20 | 37 => 67 | 70 => 119 | 72 => 121 | 75 => 123 | 80 => 127 | 164 => 143 | n => n, fun | n => n⟩
theorem bld167 : Go.Proofs.Lays.n167 Tryz.prog Yin := {
 mixed := by kernel_rfl
 f167 := Tryz.func109.trans (congrArg some Zi)
 f240 := Tryz.func130.trans (congrArg some Zi)
 f276 := Tryz.func139.trans (congrArg some Zi)
 t0 := Tryz.underlying0
 a0 := Tryz.isAgg0
 z0 := Tryz.sizeOf0
 v0 := Tryz.zeroValue0
 t4 := Tryz.underlying4
 a4 := Tryz.isAgg4
 z4 := Tryz.sizeOf4
 v4 := Tryz.zeroValue4
 t5 := Tryz.underlying5
 a5 := Tryz.isAgg5
 z5 := Tryz.sizeOf5
 v5 := Tryz.zeroValue5
 t9 := Tryz.underlying9
 a9 := Tryz.isAgg9
 z9 := Tryz.sizeOf9
 v9 := Tryz.zeroValue9
 t20 := Tryz.underlying20
 a20 := Tryz.isAgg20
 z20 := Tryz.sizeOf20
 v20 := Tryz.zeroValue20
 t37 := Tryz.underlying67
 a37 := Tryz.isAgg67
 z37 := Tryz.sizeOf67
 v37 := Tryz.zeroValue67
 t70 := Tryz.underlying119
 a70 := Tryz.isAgg119
 z70 := Tryz.sizeOf119
 v70 := Tryz.zeroValue119
 t72 := Tryz.underlying121
 a72 := Tryz.isAgg121
 z72 := Tryz.sizeOf121
 v72 := Tryz.zeroValue121
 t75 := Tryz.underlying123
 a75 := Tryz.isAgg123
 z75 := Tryz.sizeOf123
 v75 := Tryz.zeroValue123
 t164 := Tryz.underlying143
 a164 := Tryz.isAgg143
 z164 := Tryz.sizeOf143
 v164 := Tryz.zeroValue143 }
theorem bldX167 : Builder.Extra Tryz.prog Yin := {
 sizeBuilder := by kernel_rfl
 liesBuilder := by kernel_rfl
 t5 := Tryz.underlying5
 a5 := Tryz.isAgg5
 z5 := Tryz.sizeOf5
 v5 := Tryz.zeroValue5
 infoByte := by kernel_rfl
 cellsByte := by kernel_rfl
 sizeByte := by kernel_rfl
 neB5 := by decide }
abbrev Yxi (B b : Nat) (l : List UInt8) (w : World) : Prop := Lib.IsBuilderF 121 5 B b (Lib.byteCells l) w
theorem Yjq (w : World) : Yxi w.heap.size w.heap.size [] (w.alloc (.cells #[.pointer none, .slice none 0 0] 121)) := Lib.IsBuilderF.of (Lib.fresh_isBuilder _ _ w)
theorem Yrg (B b : Nat) (l : List UInt8) (u : UInt8) (w : World) (h : Yxi B b l w) (hl : l.length + 1 ≤ 140737488355328) (hB : B ≤ w.heap.size) :
  Calls Tryz.prog 109 #[.pointer (some ⟨b, 0, none⟩), .int .u8 (u.toNat : Int)] w fun e w' => e = .returned .nilIface ∧ Yxi B b (l ++ [u]) w' ∧ Below B w w' :=
 (Any.Builder_WriteByte_k bld167 bldX167 B b _ (u.toNat : Int) w h (by rw [Lib.byteCells_length]; exact hl) hB).mono fun e w' ⟨h1, h2, h3, _⟩ => ⟨h1, Or.inr (by rw [Lib.byteCells_append]; exact h2), h3⟩
theorem bld_str (B b : Nat) (l : List UInt8) (s : Y) (w : World) (h : Yxi B b l w) (hl : l.length + s.size ≤ 140737488355328) (hB : B ≤ w.heap.size) :
  Calls Tryz.prog 110 #[.pointer (some ⟨b, 0, none⟩), .string s] w fun e w' => e = .returned (.tuple #[.int .i64 s.size, .nilIface]) ∧ Yxi B b (l ++ s.data.toList) w' ∧ Below B w w' :=
 (Any.Builder_WriteString_k bld166 bldX166 B b _ s w h (by rw [Lib.byteCells_length]; exact hl) hB).mono fun e w' ⟨h1, h2, h3, _⟩ => ⟨h1, Or.inr (by rw [Lib.byteCells_append]; exact h2), h3⟩
theorem Ywk (B b : Nat) (l : List UInt8) (w : World) (h : Yxi B b l w) (hB : B ≤ w.heap.size) :
  Calls Tryz.prog 112 #[.pointer (some ⟨b, 0, none⟩)] w fun e w' => e = .returned (.string (ofL l)) ∧ Below B w w' :=
 (Tryz.Builder_String_any_f B b l w h hB).mono fun e w' ⟨h1, _, h3⟩ => ⟨h1, h3⟩
end Go.Proofs.YtihaeeldgimdiaaGreatDoor.X
end
section
end
end
end
