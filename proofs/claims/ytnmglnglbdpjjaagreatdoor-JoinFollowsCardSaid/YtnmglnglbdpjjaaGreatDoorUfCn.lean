import Derived.Test.YtnmglnglbdpjjaaGreatDoorUfPq
set_option linter.all false
namespace Go.Proofs.YtnmglnglbdpjjaaGreatDoor.X
open Go.RowKit Go.Lib Go.Yw.PrintWords Go.Yw.PrintLast
structure Yqo (u1 u2 : Y) (u3 : Int) (u4 u5 u6 : Y) (u7 u8 : Bool) (host r : List UInt8) : Prop where
 sch : u1 = ofL Yeh ∨ u1 = ofL Yzf
 hostEq : u2 = ofL host
 ne : host ≠ []
 name : Yri host = true
 low : ∃ m, host = lowL (Ynb m)
 p0 : 0 ≤ u3
 p1 : u3 ≤ 65535
 path : u4 = Ycd r
 query : u5 = Yyb r
 frag : u6 = Ycc r
 hasQ : u7 = Yqc r
 hasF : u8 = Ydc r
 size : (Ytd u1 u2 u3 u4 u5 u6 u7 u8).size ≤ 2048
 rest : r.length ≤ 2048
 own : u3 ≠ ownN u1.data.toList
theorem Ybr {l : List UInt8} {u1 u2 : Y} {u3 : Int} {u4 u5 u6 : Y} {u7 u8 : Bool} (h : Yqf l = (u1, u2, u3, u4, u5, u6, u7, u8, 0)) : ∃ host r, Yqo u1 u2 u3 u4 u5 u6 u7 u8 host r := by
 unfold Yqf Yzl at h
 generalize Yqd l = c at h
 by_cases h1 : (c.length : Int) > 2048
 ·rw [if_pos h1] at h
  simp only [Ytb, Kea] at h
  exact absurd h.2.2.2.2.2.2.2.2 Zca
 ·rw [if_neg h1] at h
  unfold Yvm at h
  have hrl := (Ywl c [58]).2
  by_cases h2 : (Yff c ⟨#[]⟩).1 = 0
  ·rw [if_neg (by simpa using h2)] at h
   have hs : (lowL (Lib.cut c [58]).1 = Yeh ∨ lowL (Lib.cut c [58]).1 = Yzf) ∧ Yff c ⟨#[]⟩ = (0, ofL (Lib.cut c [58]).2.1, ofL (lowL (Lib.cut c [58]).1)) := by
    unfold Yff at h2 ⊢
    split at h2
    ·next hc =>
     rw [if_pos hc]
     by_cases hl : lowL (Lib.cut c [58]).1 = Yeh ∨ lowL (Lib.cut c [58]).1 = Yzf
     ·exact ⟨hl, by rw [if_pos hl]⟩
     ·simp only [if_neg hl] at h2
      exact absurd h2 Zca
    ·exact absurd (show (3 : Int) = 0 from h2) Zca
   rw [hs.2] at h
   simp only [Ygb] at h
   unfold Yul at h
   have hps := Ykm (Lib.cut c [58]).2.1 (lowL (Lib.cut c [58]).1)
   by_cases h3 : (Yrf (Lib.cut c [58]).2.1 (lowL (Lib.cut c [58]).1) ⟨#[]⟩ 0).1 = 0
   ·rw [if_neg (by simpa using h3)] at h
    have aFb : (0 : Int) ≠ ownN (lowL (Lib.cut c [58]).1) := by unfold ownN; split <;> decide
    have hh : ∃ m, (Yif m).2 = 0 ∧ (Yrf (Lib.cut c [58]).2.1 (lowL (Lib.cut c [58]).1) ⟨#[]⟩ 0).2.2.1 = ofL (Yif m).1 ∧ (Yrf (Lib.cut c [58]).2.1 (lowL (Lib.cut c [58]).1) ⟨#[]⟩ 0).2.2.2 ≠ ownN (lowL (Lib.cut c [58]).1) := by
     refine ⟨(Lib.cut (Ybc (Lib.cut c [58]).2.1) [58]).1, ?_⟩
     revert h3
     unfold Yrf
     split
     ·split
      ·intro h3; exact absurd (show (3 : Int) = 0 from h3) Zca
      ·split
       ·next h5 =>
        split
        ·intro _; exact ⟨h5, rfl, aFb⟩
        ·split
         ·split
          ·intro _; exact ⟨h5, rfl, aFb⟩
          ·next h7 => intro _; exact ⟨h5, rfl, h7⟩
         ·intro h3; exact absurd (show (3 : Int) = 0 from h3) Zca
       ·next h5 => intro h3; exact absurd h3 h5
     ·intro h3; exact absurd (show (3 : Int) = 0 from h3) Zca
    obtain ⟨m, hm1, zP, hm4⟩ := hh
    have hm3 : (Yif m).1 = lowL (Ynb m) ∧ lowL (Ynb m) ≠ [] ∧ Yri (lowL (Ynb m)) = true := by
     unfold Yif at hm1 ⊢
     by_cases e1 : lowL (Ynb m) = []
     ·rw [if_pos e1] at hm1; exact absurd hm1 Zca
     ·rw [if_neg e1] at hm1 ⊢
      by_cases e2 : Yri (lowL (Ynb m)) = true
      ·rw [if_pos e2]; exact ⟨rfl, e1, e2⟩
      ·rw [if_neg e2] at hm1; exact absurd hm1 Zca
    generalize Yrf (Lib.cut c [58]).2.1 (lowL (Lib.cut c [58]).1) ⟨#[]⟩ 0 = y at h hps zP hm4 h3
    unfold Yfo at h
    split at h
    ·simp only [Ytb, Kea] at h
     exact absurd h.2.2.2.2.2.2.2.2 Zca
    ·next hsz =>
     simp only [Kea] at h
     obtain ⟨rfl, rfl, rfl, rfl, rfl, rfl, rfl, rfl, _⟩ := h
     refine ⟨(Yif m).1, y.2.1.data.toList, ?_⟩
     refine ⟨?_, zP, by rw [hm3.1]; exact hm3.2.1, by rw [hm3.1]; exact hm3.2.2, ⟨m, hm3.1⟩, hps.2.2.1, hps.2.2.2, rfl, rfl, rfl, rfl, rfl, Zk, ?_, ?_⟩
     ·rcases hs.1 with e | e <;> rw [e]
      ·exact .inl rfl
      ·exact .inr rfl
     ·have := hps.1
      rw [Lib.size_eq] at this
      omega
     ·rw [Ygb]; exact hm4
   ·rw [if_pos (by simpa using h3)] at h
    simp only [Ytb, Kea] at h
    exact absurd h.2.2.2.2.2.2.2.2 h3
  ·rw [if_pos (by simpa using h2)] at h
   simp only [Ytb, Kea] at h
   exact absurd h.2.2.2.2.2.2.2.2 h2
def Yag (b : UInt8) : Prop := 33 ≤ b.toNat ∧ b.toNat ≤ 126
def Ymg (s : Y) : Prop := ∀ b ∈ s.data.toList, Yag b
theorem Yie {a b : Y} (ha : Ymg a) (hb : Ymg b) : Ymg (a ++ b) := by
 intro c hc
 rw [ByteArray.data_append, Array.toList_append] at hc
 rcases List.mem_append.1 hc with h | h
 ·exact ha c h
 ·exact hb c h
theorem safe_mark (b : UInt8) : ∀ c ∈ Ypf [] b, Yag c := by
 unfold Yag; revert b; exact Yad Zma
theorem Yfj (part l : List UInt8) : ∀ c ∈ Yic part l, Yag c := by
 intro c hc
 unfold Yic at hc
 obtain ⟨b, _, hc⟩ := List.mem_flatMap.1 hc
 unfold Yug at hc
 split at hc
 ·next h =>
  simp only [Bool.and_eq_true, decide_eq_true_eq] at h
  obtain rfl := List.mem_singleton.1 hc
  exact ⟨Zk, Zk⟩
 ·exact safe_mark b c hc
theorem safe_ok (b : UInt8) (h : okB b = true) : Yag b := by
 unfold okB at h
 simp only [Bool.and_eq_true, decide_eq_true_eq] at h
 exact ⟨Zk, Zk⟩
theorem Yfm (r : List (List UInt8)) (c : UInt8) (h : c ∈ Lib.joinTail [47] r) : c = 47 ∨ ∃ y ∈ r, c ∈ y := by
 induction r with
 | nil => simp [Lib.joinTail] at h
 | cons y r ih =>
  have e : Lib.joinTail [47] (y :: r) = 47 :: (y ++ Lib.joinTail [47] r) := by simp [Lib.joinTail]
  rw [e] at h
  rcases List.mem_cons.1 h with h | h
  ·exact .inl h
  ·rcases List.mem_append.1 h with h | h
   ·exact .inr ⟨y, Zv, h⟩
   ·rcases ih h with h | ⟨z, hz, h⟩
    ·exact .inl h
    ·exact .inr ⟨z, by simp [hz], h⟩
theorem Ywq (l : List UInt8) : ∀ c ∈ Yxe l, Yag c := by
 obtain ⟨x, r, e, h⟩ := Yjk l
 intro c hc
 rw [e] at hc
 rcases List.mem_cons.1 hc with rfl | hc
 ·exact ⟨Zca, Zca⟩
 ·rcases List.mem_append.1 hc with hc | hc
  ·exact safe_ok c ((h x Zv).1 c hc)
  ·rcases Yfm r c hc with rfl | ⟨y, hy, hc⟩
   ·exact ⟨Zca, Zca⟩
   ·exact safe_ok c ((h y (by simp [hy])).1 c hc)
theorem Yzo (c : UInt8) (l : List UInt8) : ∀ b ∈ l, b = c ∨ ∃ y ∈ splitB c l, b ∈ y := by
 induction l with
 | nil => intro b hb; cases hb
 | cons a l ih =>
  intro b hb
  rw [splitB]
  by_cases hac : a = c
  ·rw [if_pos hac]
   rcases List.mem_cons.1 hb with rfl | hb
   ·exact .inl hac
   ·rcases ih b hb with h | ⟨y, hy, h⟩
    ·exact .inl h
    ·exact .inr ⟨y, by simp [hy], h⟩
  ·rw [if_neg hac]
   cases hs : splitB c l with
   | nil => exact absurd hs (Ytf c l)
   | cons x r =>
    rw [hs] at ih
    rcases List.mem_cons.1 hb with rfl | hb
    ·exact .inr ⟨b :: x, by simp [Ymf], Zv⟩
    ·rcases ih b hb with h | ⟨y, hy, h⟩
     ·exact .inl h
     ·rcases List.mem_cons.1 hy with rfl | hy
      ·exact .inr ⟨a :: y, by simp [Ymf], by simp [h]⟩
      ·exact .inr ⟨y, by simp [Ymf, hy], h⟩
theorem Ynv (b : UInt8) : Yml b = true → Yag b := by
 unfold Yag; revert b; exact Yad Zma
theorem safe_name (l : List UInt8) (h : Yri l = true) : ∀ c ∈ l, Yag c := by
 intro c hc
 unfold Yri at h
 rw [Bool.and_eq_true] at h
 rcases Yzo 46 l c hc with rfl | ⟨y, hy, hc⟩
 ·exact ⟨Zca, Zca⟩
 ·have := List.all_eq_true.1 h.1 y hy
  unfold Ygl at this
  rw [Bool.and_eq_true] at this
  exact Ynv c (List.all_eq_true.1 this.1 c hc)
theorem Yus : ∀ (f v : Nat) (n : Int), n ∈ digs f v → 48 ≤ n ∧ n ≤ 57 := by
 intro f
 induction f with
 | zero => intro v n h; cases h
 | succ f ih =>
  intro v n h
  unfold digs at h
  split at h
  ·cases h
  ·rcases List.mem_cons.1 h with rfl | h
   ·omega
   ·exact ih _ n h
theorem safe_text (v : Nat) : Ymg (strOfNums (Yuf v)) := by
 intro b hb
 have hm : ∀ n ∈ Yuf v, (48 : Int) ≤ n ∧ n ≤ 57 := by
  intro n hn
  unfold Yuf at hn
  split at hn
  ·obtain rfl := List.mem_singleton.1 hn; omega
  ·exact Yus 20 v n (List.mem_reverse.1 hn)
 unfold strOfNums at hb
 simp only [] at hb
 obtain ⟨n, hn, rfl⟩ := List.mem_map.1 hb
 have := hm n hn
 unfold Yag
 rw [UInt8.toNat_ofNat']
 omega
theorem Yws {u1 u2 : Y} {u3 : Int} {u4 u5 u6 : Y} {u7 u8 : Bool} {host r : List UInt8} (h : Yqo u1 u2 u3 u4 u5 u6 u7 u8 host r) : Ymg (Ytd u1 u2 u3 u4 u5 u6 u7 u8) := by
 have s1 : Ymg u1 := by
  rcases h.sch with e | e <;> (subst e; unfold Ymg Yag; decide)
 have s2 : Ymg u2 := by
  have := h.hostEq; subst this
  exact safe_name host h.name
 have s4 : Ymg u4 := by
  have := h.path; subst this
  exact Ywq _
 have hz : Ymg ⟨#[]⟩ := fun b hb => by cases hb
 have s5 : Ymg u5 := by
  have := h.query; subst this
  unfold Yyb
  split
  ·exact Yfj _ _
  ·exact hz
 have s6 : Ymg u6 := by
  have := h.frag; subst this
  unfold Ycc
  split
  ·exact Yfj _ _
  ·exact hz
 have c1 : Ymg ⟨#[58, 47, 47]⟩ := by unfold Ymg Yag; decide
 have c2 : Ymg ⟨#[58]⟩ := by unfold Ymg Yag; decide
 have c3 : Ymg ⟨#[63]⟩ := by unfold Ymg Yag; decide
 have c4 : Ymg ⟨#[35]⟩ := by unfold Ymg Yag; decide
 have so : Ymg (Yxf u1 u2 u3) := by
  unfold Yxf
  split
  ·exact Yie (Yie s1 c1) s2
  ·exact Yie (Yie (Yie s1 c1) s2) (Yie c2 (safe_text _))
 have sq : Ymg (Yqj (Yxf u1 u2 u3 ++ u4) u5 u7) := by
  unfold Yqj
  split
  ·exact Yie (Yie so s4) (Yie c3 s5)
  ·exact Yie so s4
 unfold Ytd Yxk
 split
 ·exact Yie sq (Yie c4 s6)
 ·exact sq
theorem Ykl (c : UInt8) : ∀ l : List UInt8, c ∉ l → Lib.indexByte l c = -1 := by
 intro l
 induction l with
 | nil => intro _; rfl
 | cons b l ih =>
  intro h
  rw [Lib.indexByte, if_neg (by rw [beq_iff_eq]; exact fun e => h (by simp [e])), ih (fun hm => h (by simp [hm]))]; rfl
theorem Yqr (c : UInt8) : ∀ (a b : List UInt8), c ∉ a → Lib.indexByte (a ++ c :: b) c = (a.length : Int) := by
 intro a
 induction a with
 | nil => intro b _; rw [List.nil_append, Lib.indexByte, if_pos Zv]; rfl
 | cons x a ih =>
  intro b h
  rw [List.cons_append, Lib.indexByte, if_neg (by rw [beq_iff_eq]; exact fun e => h (by simp [e])), ih b (fun hm => h (by simp [hm])), if_neg (by rw [beq_iff_eq]; omega)]
  simp
theorem Yun (c : UInt8) (a b : List UInt8) (h : c ∉ a) : Lib.cut (a ++ c :: b) [c] = (a, b, true) := by
 unfold Lib.cut
 rw [Lib.index_one, Yqr c a b h, if_pos Zk, Int.toNat_natCast]
 simp
theorem cut_miss (c : UInt8) (a : List UInt8) (h : c ∉ a) : Lib.cut a [c] = (a, [], false) := by
 unfold Lib.cut
 rw [Lib.index_one, Ykl c a h, if_neg Zk]
theorem Ydm (p : UInt8 → Bool) (a b : List UInt8) (h : ∀ x ∈ a, p x = true) : (a ++ b).takeWhile p = a ++ b.takeWhile p ∧ (a ++ b).dropWhile p = b.dropWhile p := by
 induction a with
 | nil => exact ⟨rfl, rfl⟩
 | cons x a ih =>
  have hx := h x Zv
  have := ih (fun y hy => h y (by simp [hy]))
  rw [List.cons_append, List.takeWhile_cons, List.dropWhile_cons, if_pos hx, if_pos hx, this.1, this.2]
  exact ⟨rfl, rfl⟩
def Yuj (v : Nat) : List UInt8 := (Yuf v).map fun n => UInt8.ofNat n.toNat
theorem text_data (v : Nat) : (strOfNums (Yuf v)).data.toList = Yuj v := by unfold strOfNums Yuj; rfl
theorem Yro (d : Nat) (h : d < 10) : Ygd (UInt8.ofNat ((48 + (d : Int)).toNat)) = true ∧ (((UInt8.ofNat ((48 + (d : Int)).toNat)).toNat : Nat) : Int) - 48 = (d : Int) := by
 have e : (48 + (d : Int)).toNat = 48 + d := by omega
 rw [e]
 have e2 : (UInt8.ofNat (48 + d)).toNat = 48 + d := by rw [UInt8.toNat_ofNat']; omega
 refine ⟨?_, by rw [e2]; omega⟩
 unfold Ygd
 rw [e2]
 simp; omega
theorem fold_text (most : Int) : ∀ (f v : Nat), v < 10 ^ f → (v : Int) ≤ most → ∀ B : List UInt8, Yhe most false 0 (((digs f v).reverse.map fun n => UInt8.ofNat n.toNat) ++ B) = Yhe most false (v : Int) B := by
 intro f
 induction f with
 | zero =>
  intro v hv _ B
  have : v = 0 := by simpa using hv
  subst this; rfl
 | succ f ih =>
  intro v hv hm B
  by_cases h0 : v = 0
  ·subst h0; rfl
  ·rw [digs, if_neg h0, List.reverse_cons, List.map_append, List.append_assoc, ih (v / 10) (by rw [Nat.pow_succ] at hv; omega) Zk]
   have hd := Yro (v % 10) Zk
   rw [List.map_cons, List.map_nil, List.cons_append, List.nil_append, Yhe, if_pos hd.1, hd.2, if_neg Zib]
   congr 1; omega
theorem num_text (v : Nat) (h0 : v ≠ 0) (h : v ≤ 65535) : numL 65535 (Yuj v) = ((v : Int), 0) := by
 have hne : Yuj v ≠ [] := by
  unfold Yuj Yuf
  rw [if_neg h0]
  intro e
  have := congrArg List.length e
  rw [List.length_map, List.length_reverse, digs, if_neg h0] at this
  simp at this
 unfold numL
 rw [if_neg hne]
 have := fold_text 65535 20 v Zk Zk []
 rw [List.append_nil] at this
 unfold Yuj Yuf
 rw [if_neg h0, this]; rfl
theorem Ygn (v : Nat) : ∀ b ∈ Yuj v, Ygd b = true := by
 intro b hb
 unfold Yuj at hb
 obtain ⟨n, hn, rfl⟩ := List.mem_map.1 hb
 have hm : (48 : Int) ≤ n ∧ n ≤ 57 := by
  unfold Yuf at hn
  split at hn
  ·obtain rfl := List.mem_singleton.1 hn; omega
  ·exact Yus 20 v n (List.mem_reverse.1 hn)
 have := Yro (n - 48).toNat Zk
 rw [show (48 : Int) + ((n - 48).toNat : Int) = n by omega] at this
 exact this.1
theorem unmark_id : ∀ l : List UInt8, (37 : UInt8) ∉ l → Ynb l = l := by
 intro l
 induction l with
 | nil => intro _; rfl
 | cons b l ih =>
  intro h
  rw [Yrm b l (.inl (fun e => h (by simp [e]))), ih (fun hm => h (by simp [hm]))]
theorem low_twice (l : List UInt8) : lowL (lowL l) = lowL l := by
 have hb : ∀ b : UInt8, lowB (lowB b) = lowB b := by exact Yad Zma
 unfold lowL
 rw [List.map_map]
 exact List.map_congr_left fun b _ => hb b
theorem Ygq (b : UInt8) : (Yml b = true ∨ b = 46) → b ≠ 37 ∧ b ≠ 47 ∧ b ≠ 92 ∧ b ≠ 63 ∧ b ≠ 35 ∧ b ≠ 58 ∧ b ≠ 64 := by
 revert b; exact Yad Zma
theorem Yno {l : List UInt8} (h : Yri l = true) : ∀ b ∈ l, b ≠ 37 ∧ b ≠ 47 ∧ b ≠ 92 ∧ b ≠ 63 ∧ b ≠ 35 ∧ b ≠ 58 ∧ b ≠ 64 := by
 intro b hb
 unfold Yri at h
 rw [Bool.and_eq_true] at h
 rcases Yzo 46 l b hb with e | ⟨y, hy, hc⟩
 ·exact Ygq b (.inr e)
 ·have := List.all_eq_true.1 h.1 y hy
  unfold Ygl at this
  rw [Bool.and_eq_true] at this
  exact Ygq b (.inl (List.all_eq_true.1 this.1 b hc))
theorem Ytu {host : List UInt8} (hne : host ≠ []) (hn : Yri host = true) (hl : ∃ m, host = lowL (Ynb m)) : Yif host = (host, 0) := by
 have hu : Ynb host = host := unmark_id host (fun h => (Yno hn 37 h).1 rfl)
 have hlo : lowL host = host := by obtain ⟨m, rfl⟩ := hl; exact low_twice _
 unfold Yif
 rw [hu, hlo, if_neg hne, if_pos hn]
theorem Ywo (part : List UInt8) (h37 : part.contains 37 = false) (hx : ∀ n : Fin 16, part.contains (hexB n.val) = false) (l : List UInt8) : Yic part (Yic part l) = Yic part l := by
 have h1 : ∀ b : UInt8, ∀ c ∈ Yug part b, Yug part c = [c] := by
  intro b c hc
  have keep : ∀ d : UInt8, (32 < d.toNat ∧ d.toNat < 127) → part.contains d = false → Yug part d = [d] := by
   intro d hd hp
   unfold Yug
   rw [hp, decide_eq_true hd.1, decide_eq_true hd.2]; rfl
  have hs := Yfj part [b] c (by unfold Yic; simpa using hc)
  have rH : 32 < c.toNat ∧ c.toNat < 127 := ⟨by have := hs.1; omega, by have := hs.2; omega⟩
  unfold Yug at hc
  split at hc
  ·next h =>
   obtain rfl := List.mem_singleton.1 hc
   simp only [Bool.and_eq_true, decide_eq_true_eq, Bool.not_eq_true'] at h
   exact keep c rH h.2.2
  ·next h =>
   unfold Ypf at hc
   split at hc
   ·next hp =>
    obtain rfl := List.mem_singleton.1 hc
    by_cases hpc : part.contains c = true
    ·unfold Yug
     rw [if_neg h]
     unfold Ypf
     rw [if_pos hp]
    ·exact keep c rH (by cases hq : part.contains c <;> simp_all)
   ·simp only [List.mem_cons, List.mem_nil_iff, or_false] at hc
    rcases hc with rfl | rfl | rfl
    ·exact keep _ rH h37
    ·exact keep _ rH (hx ⟨b.toNat / 16, by have := b.toNat_lt; omega⟩)
    ·exact keep _ rH (hx ⟨b.toNat % 16, Zk⟩)
 have h2 : ∀ l : List UInt8, (∀ c ∈ l, Yug part c = [c]) → Yic part l = l := by
  intro l
  induction l with
  | nil => intro _; rfl
  | cons c l ih =>
   intro h
   unfold Yic at ih ⊢
   rw [List.flatMap_cons, h c Zv, ih (fun d hd => h d (by simp [hd]))]; rfl
 refine h2 _ fun c hc => ?_
 unfold Yic at hc
 obtain ⟨b, _, hc⟩ := List.mem_flatMap.1 hc
 exact h1 b c hc
theorem part_no (part : List UInt8) (x : UInt8) (hp : part.contains x = true) (hx : x ≠ 37 ∧ (∀ n : Fin 16, hexB n.val ≠ x) ∧ Ybk x = false) (l : List UInt8) : x ∉ Yic part l := by
 intro hc
 unfold Yic at hc
 obtain ⟨b, _, hc⟩ := List.mem_flatMap.1 hc
 unfold Yug at hc
 split at hc
 ·next h =>
  obtain rfl := List.mem_singleton.1 hc
  rw [hp] at h
  simp at h
 ·unfold Ypf at hc
  split at hc
  ·next h =>
   obtain rfl := List.mem_singleton.1 hc
   rw [hx.2.2] at h
   simp at h
  ·simp only [List.mem_cons, List.mem_nil_iff, or_false] at hc
   rcases hc with h | h | h
   ·exact hx.1 h
   ·exact hx.2.1 ⟨b.toNat / 16, by have := b.toNat_lt; omega⟩ h.symm
   ·exact hx.2.1 ⟨b.toNat % 16, Zk⟩ h.symm
def Ytg (p : Int) : List UInt8 := if p = 0 then [] else 58 :: Yuj p.toNat
def Ydf (q : List UInt8) (h : Bool) : List UInt8 := if h = true then 63 :: q else []
def Ype (f : List UInt8) (h : Bool) : List UInt8 := if h = true then 35 :: f else []
theorem Yqi (a b : Y) : (a ++ b).data.toList = a.data.toList ++ b.data.toList := by rw [ByteArray.data_append, Array.toList_append]
theorem Ykh (sch host : List UInt8) (p : Int) (path query frag : List UInt8) (hq hf : Bool) :
  (Ytd (ofL sch) (ofL host) p (ofL path) (ofL query) (ofL frag) hq hf).data.toList = sch ++ 58 :: 47 :: 47 :: (host ++ (Ytg p ++ (path ++ (Ydf query hq ++ Ype frag hf)))) := by
 have h1 : (⟨#[58, 47, 47]⟩ : Y).data.toList = [58, 47, 47] := rfl
 have h2 : (⟨#[58]⟩ : Y).data.toList = [58] := rfl
 have h3 : (⟨#[63]⟩ : Y).data.toList = [63] := rfl
 have h4 : (⟨#[35]⟩ : Y).data.toList = [35] := rfl
 have ho : (Yxf (ofL sch) (ofL host) p).data.toList = sch ++ 58 :: 47 :: 47 :: (host ++ Ytg p) := by
  unfold Yxf Ytg
  split
  ·simp only [Yqi, Ygb, h1]; simp
  ·simp only [Yqi, Ygb, h1, h2, text_data]; simp
 unfold Ytd Yxk Yqj Ydf Ype
 cases hq <;> cases hf <;> simp [Yqi, Ygb, h3, h4, ho]
theorem Yrq (p : UInt8 → Bool) (l : List UInt8) (h : ∀ b ∈ l, p b = false) : l.dropWhile p = l := by
 cases l with
 | nil => rfl
 | cons b t => rw [List.dropWhile_cons, h b Zv]; rfl
theorem Yev (l : List UInt8) (h : ∀ b ∈ l, Yag b) : Yqd l = l := by
 have hl : ∀ b : UInt8, Yag b → Ymh b = false ∧ (b != 9) = true ∧ (b != 10) = true ∧ (b != 13) = true := by
  unfold Yag; exact Yad Zma
 have ht : Ysh l = l := by
  unfold Ysh
  rw [Yrq Ymh l (fun b hb => (hl b (h b hb)).1), Yrq Ymh l.reverse (fun b hb => (hl b (h b (List.mem_reverse.1 hb))).1), List.reverse_reverse]
 unfold Yqd
 rw [ht, List.filter_eq_self.2 (fun b hb => (hl b (h b hb)).2.1), List.filter_eq_self.2 (fun b hb => (hl b (h b hb)).2.2.1), List.filter_eq_self.2 (fun b hb => (hl b (h b hb)).2.2.2)]
structure Canon (sch host : List UInt8) (p : Int) (path query frag : List UInt8) (hq hf : Bool) : Prop where
 schIs : sch = Yeh ∨ sch = Yzf
 hostNe : host ≠ []
 hostIs : Yif host = (host, 0)
 hostB : ∀ b ∈ host, b ≠ 37 ∧ b ≠ 47 ∧ b ≠ 92 ∧ b ≠ 63 ∧ b ≠ 35 ∧ b ≠ 58 ∧ b ≠ 64
 p0 : 0 ≤ p
 p1 : p ≤ 65535
 pOwn : p ≠ ownN sch
 pathIs : ∃ l, path = Yxe l
 queryIs : (hq = true ∧ ∃ q, query = Yic Ykf q) ∨ (hq = false ∧ query = [])
 fragIs : (hf = true ∧ ∃ q, frag = Yic Yyf q) ∨ (hf = false ∧ frag = [])
 safe : Ymg (Ytd (ofL sch) (ofL host) p (ofL path) (ofL query) (ofL frag) hq hf)
 size : (Ytd (ofL sch) (ofL host) p (ofL path) (ofL query) (ofL frag) hq hf).size ≤ 2048
theorem Ymv (l : List UInt8) : ∀ b ∈ Yxe l, b ≠ 63 ∧ b ≠ 35 := by
 obtain ⟨x, r, e, h⟩ := Yjk l
 have hk : ∀ b : UInt8, okB b = true → b ≠ 63 ∧ b ≠ 35 := by exact Yad Zma
 intro c hc
 rw [e] at hc
 rcases List.mem_cons.1 hc with rfl | hc
 ·decide
 ·rcases List.mem_append.1 hc with hc | hc
  ·exact hk c ((h x Zv).1 c hc)
  ·rcases Yfm r c hc with rfl | ⟨y, hy, hc⟩
   ·decide
   ·exact hk c ((h y (by simp [hy])).1 c hc)
theorem Yqv {path query frag : List UInt8} {hq hf : Bool} (h1 : ∃ l, path = Yxe l) (h2 : (hq = true ∧ ∃ q, query = Yic Ykf q) ∨ (hq = false ∧ query = [])) (h3 : (hf = true ∧ ∃ q, frag = Yic Yyf q) ∨ (hf = false ∧ frag = [])) :
  Ycd (path ++ (Ydf query hq ++ Ype frag hf)) = ofL path ∧ Yyb (path ++ (Ydf query hq ++ Ype frag hf)) = ofL query ∧ Ycc (path ++ (Ydf query hq ++ Ype frag hf)) = ofL frag ∧
   Yqc (path ++ (Ydf query hq ++ Ype frag hf)) = hq ∧ Ydc (path ++ (Ydf query hq ++ Ype frag hf)) = hf := by
 obtain ⟨l, rfl⟩ := h1
 have hp : ∀ x ∈ Yxe l, Ydb [63, 35] x = true := by
  intro x hx
  have := Ymv l x hx
  unfold Ydb
  simp [this.1, this.2]
 have hta := Ydm (Ydb [63, 35]) (Yxe l) (Ydf query hq ++ Ype frag hf) hp
 have hqn : hq = true → ∀ x ∈ query, Ydb [35] x = true := by
  intro hh x hx
  rcases h2 with ⟨_, q, rfl⟩ | ⟨e, _⟩
  ·have := part_no Ykf 35 Zca Zca q
   unfold Ydb
   have hne : x ≠ 35 := fun e => this (e ▸ hx)
   simp [hne]
  ·rw [hh] at e; cases e
 have hhead : Yxi (Yxe l ++ (Ydf query hq ++ Ype frag hf)) = Yxe l := by
  unfold Yxi
  rw [hta.1]
  unfold Ydf Ype
  cases hq <;> cases hf <;> simp [List.takeWhile_cons, Ydb]
 have hbehind : Yjd (Yxe l ++ (Ydf query hq ++ Ype frag hf)) = Ydf query hq ++ Ype frag hf := by
  unfold Yjd
  rw [hta.2]
  unfold Ydf Ype
  cases hq <;> cases hf <;> simp [List.dropWhile_cons, Ydb]
 have hquery : Yve (Ydf query hq ++ Ype frag hf) = if hq = true then some query else none := by
  cases hq with
  | true =>
   have := (Ydm (Ydb [35]) query (Ype frag hf) (hqn rfl)).1
   show (if (63 : UInt8) = 63 then some ((query ++ Ype frag hf).takeWhile (Ydb [35])) else none) = _
   rw [if_pos rfl, if_pos rfl, this]
   unfold Ype
   cases hf <;> simp [List.takeWhile_cons, Ydb]
  | false =>
   unfold Ydf Ype
   cases hf <;> simp [Yve]
 have hafter : Yeb (Ydf query hq ++ Ype frag hf) = Ype frag hf := by
  cases hq with
  | true =>
   have := (Ydm (Ydb [35]) query (Ype frag hf) (hqn rfl)).2
   show (if (63 : UInt8) = 63 then (query ++ Ype frag hf).dropWhile (Ydb [35]) else (63 :: (query ++ Ype frag hf))) = _
   rw [if_pos rfl, this]
   unfold Ype
   cases hf <;> simp [List.dropWhile_cons, Ydb]
  | false =>
   unfold Ydf Ype
   cases hf <;> simp [Yeb]
 have hfrag : Ycf (Ype frag hf) = if hf = true then some frag else none := by
  unfold Ype
  cases hf <;> simp [Ycf]
 refine ⟨?_, ?_, ?_, ?_, ?_⟩
 ·unfold Ycd; rw [hhead, Yvs]
 ·unfold Yyb; rw [hbehind, hquery]
  rcases h2 with ⟨rfl, q, rfl⟩ | ⟨rfl, rfl⟩
  ·simp only [if_true]; rw [Ywo Ykf Zca Zca]
  ·rfl
 ·unfold Ycc; rw [hbehind, hafter, hfrag]
  rcases h3 with ⟨rfl, q, rfl⟩ | ⟨rfl, rfl⟩
  ·simp only [if_true]; rw [Ywo Yyf Zca Zca]
  ·rfl
 ·unfold Yqc; rw [hbehind, hquery]; cases hq <;> rfl
 ·unfold Ydc; rw [hbehind, hafter, hfrag]; cases hf <;> rfl
theorem round {sch host : List UInt8} {p : Int} {path query frag : List UInt8} {hq hf : Bool} (h : Canon sch host p path query frag hq hf) :
  Yqf (Ytd (ofL sch) (ofL host) p (ofL path) (ofL query) (ofL frag) hq hf).data.toList = (ofL sch, ofL host, p, ofL path, ofL query, ofL frag, hq, hf, 0) := by
 have hcl := Yev _ h.safe
 unfold Yqf
 rw [hcl]
 unfold Yzl
 rw [← Lib.size_eq, if_neg (by have := h.size; omega), Ykh]
 have hT := Yqv h.pathIs h.queryIs h.fragIs
 have hpath : ∃ t, path = 47 :: t := by obtain ⟨l, rfl⟩ := h.pathIs; exact ⟨_, rfl⟩
 have hsize := h.size
 generalize hTT : path ++ (Ydf query hq ++ Ype frag hf) = T at hT
 have hs : Yff (sch ++ 58 :: 47 :: 47 :: (host ++ (Ytg p ++ T))) ⟨#[]⟩ = (0, ofL (47 :: 47 :: (host ++ (Ytg p ++ T))), ofL sch) := by
  unfold Yff
  rw [Yun 58 sch _ (by rcases h.schIs with e | e <;> rw [e] <;> decide)]
  simp only []
  rcases h.schIs with e | e <;> subst e
  ·rw [if_pos Zma, if_pos Zma]; rfl
  ·rw [if_pos Zma, if_pos Zma]; rfl
 rw [hs]
 unfold Yvm
 simp only [not_true_eq_false, if_false, Ygb]
 obtain ⟨b0, ht, wB⟩ : ∃ b0 ht, host = b0 :: ht := by
  cases hh : host with
  | nil => exact absurd hh h.hostNe
  | cons b t => exact ⟨b, t, rfl⟩
 have hset : ∀ x ∈ host ++ Ytg p, Ydb [47, 92, 63, 35] x = true := by
  intro x hx
  have key : ∀ y : UInt8, y ≠ 47 → y ≠ 92 → y ≠ 63 → y ≠ 35 → Ydb [47, 92, 63, 35] y = true := by
   intro y h1 h2 h3 h4; unfold Ydb; simp [h1, h2, h3, h4]
  rcases List.mem_append.1 hx with hx | hx
  ·have := h.hostB x hx; exact key x this.2.1 this.2.2.1 this.2.2.2.1 this.2.2.2.2.1
  ·unfold Ytg at hx
   split at hx
   ·cases hx
   ·rcases List.mem_cons.1 hx with rfl | hx
    ·decide
    ·have hd := Ygn p.toNat x hx
     have hdig : ∀ y : UInt8, Ygd y = true → Ydb [47, 92, 63, 35] y = true := by exact Yad Zma
     exact hdig x hd
 have htrim : Lib.trimLeftS (47 :: 47 :: (host ++ (Ytg p ++ T))) [47, 92] = host ++ (Ytg p ++ T) := by
  have hb := h.hostB b0 (by rw [wB]; simp)
  unfold Lib.trimLeftS
  rw [wB, List.cons_append, List.dropWhile_cons, if_pos Zca, List.dropWhile_cons, if_pos Zca, List.dropWhile_cons, if_neg (by simp [hb.2.1, hb.2.2.1])]
 have hTstop : T.takeWhile (Ydb [47, 92, 63, 35]) = [] ∧ T.dropWhile (Ydb [47, 92, 63, 35]) = T := by
  obtain ⟨t, e⟩ := hpath
  rw [← hTT, e]
  constructor
  ·rw [List.cons_append, List.takeWhile_cons, if_neg Zca]
  ·rw [List.cons_append, List.dropWhile_cons, if_neg Zca]
 have hph : Ybc (47 :: 47 :: (host ++ (Ytg p ++ T))) = host ++ Ytg p ∧ Ybg (47 :: 47 :: (host ++ (Ytg p ++ T))) = T := by
  unfold Ybc Ybg
  rw [htrim, ← List.append_assoc]
  have := Ydm (Ydb [47, 92, 63, 35]) (host ++ Ytg p) T hset
  rw [this.1, this.2, hTstop.1, hTstop.2, List.append_nil]
  exact ⟨rfl, rfl⟩
 have pC : (58 : UInt8) ∉ host := fun hm => (h.hostB 58 hm).2.2.2.2.2.1 rfl
 have h64 : (64 : UInt8) ∉ host ++ Ytg p := by
  intro hm
  rcases List.mem_append.1 hm with hm | hm
  ·exact (h.hostB 64 hm).2.2.2.2.2.2 rfl
  ·unfold Ytg at hm
   split at hm
   ·cases hm
   ·rcases List.mem_cons.1 hm with e | hm
    ·exact absurd e Zca
    ·exact absurd (Ygn p.toNat 64 hm) Zca
 have hcut : Lib.cut (host ++ Ytg p) [58] = if p = 0 then (host, [], false) else (host, Yuj p.toNat, true) := by
  unfold Ytg
  split
  ·rw [List.append_nil, cut_miss 58 host pC]
  ·rw [Yun 58 host _ pC]
 have hplace : Yrf (47 :: 47 :: (host ++ (Ytg p ++ T))) sch ⟨#[]⟩ 0 = (0, ofL T, ofL host, p) := by
  unfold Yrf
  have hia : Lib.indexAny (47 :: 47 :: (host ++ (Ytg p ++ T))) [47, 92] = 0 := by
   rw [Lib.indexAny, if_pos Zca]
  rw [if_pos hia, hph.1, hph.2, Ykl 64 _ h64, if_neg Zca, hcut]
  by_cases hp0 : p = 0
  ·subst hp0
   simp only [if_true, h.hostIs]
  ·simp only [if_neg hp0, h.hostIs, if_true]
   have hp2 := h.p0
   have hp3 := h.p1
   have hnt := num_text p.toNat Zk Zk
   have hne : Yuj p.toNat ≠ [] := by
    intro e
    unfold numL at hnt
    rw [if_pos e] at hnt
    exact absurd (show (3 : Int) = 0 from congrArg Prod.snd hnt) Zca
   rw [if_neg hne, hnt]
   simp only [if_true]
   rw [Int.toNat_of_nonneg h.p0, if_neg h.pOwn]
 rw [hplace]
 unfold Yul
 simp only [not_true_eq_false, if_false, Ygb]
 unfold Yfo
 rw [hT.1, hT.2.1, hT.2.2.1, hT.2.2.2.1, hT.2.2.2.2, if_neg Zk]
theorem Yeu {u1 u2 : Y} {u3 : Int} {u4 u5 u6 : Y} {u7 u8 : Bool} {host r : List UInt8} (h : Yqo u1 u2 u3 u4 u5 u6 u7 u8 host r) :
  ∃ sch path query frag, u1 = ofL sch ∧ u2 = ofL host ∧ u4 = ofL path ∧ u5 = ofL query ∧ u6 = ofL frag ∧ Canon sch host u3 path query frag u7 u8 := by
 have hq : (u7 = true ∧ ∃ q, u5 = ofL (Yic Ykf q)) ∨ (u7 = false ∧ u5 = ofL []) := by
  have h1 := h.query
  have h2 := h.hasQ
  unfold Yyb at h1
  unfold Yqc at h2
  cases hx : Yve (Yjd r) with
  | none => rw [hx] at h1 h2; exact .inr ⟨h2, h1⟩
  | some q => rw [hx] at h1 h2; exact .inl ⟨h2, q, h1⟩
 have hf : (u8 = true ∧ ∃ q, u6 = ofL (Yic Yyf q)) ∨ (u8 = false ∧ u6 = ofL []) := by
  have h1 := h.frag
  have h2 := h.hasF
  unfold Ycc at h1
  unfold Ydc at h2
  cases hx : Ycf (Yeb (Yjd r)) with
  | none => rw [hx] at h1 h2; exact .inr ⟨h2, h1⟩
  | some q => rw [hx] at h1 h2; exact .inl ⟨h2, q, h1⟩
 have hs : ∃ sch, u1 = ofL sch ∧ (sch = Yeh ∨ sch = Yzf) := by
  rcases h.sch with e | e
  ·exact ⟨_, e, .inl rfl⟩
  ·exact ⟨_, e, .inr rfl⟩
 have cH : ∃ query, u5 = ofL query ∧ ((u7 = true ∧ ∃ q, query = Yic Ykf q) ∨ (u7 = false ∧ query = [])) := by
  rcases hq with ⟨e1, q, e2⟩ | ⟨e1, e2⟩
  ·exact ⟨_, e2, .inl ⟨e1, q, rfl⟩⟩
  ·exact ⟨_, e2, .inr ⟨e1, rfl⟩⟩
 have iZ : ∃ frag, u6 = ofL frag ∧ ((u8 = true ∧ ∃ q, frag = Yic Yyf q) ∨ (u8 = false ∧ frag = [])) := by
  rcases hf with ⟨e1, q, e2⟩ | ⟨e1, e2⟩
  ·exact ⟨_, e2, .inl ⟨e1, q, rfl⟩⟩
  ·exact ⟨_, e2, .inr ⟨e1, rfl⟩⟩
 have hsafe := Yws h
 have hsize := h.size
 have hown := h.own
 obtain ⟨sch, rfl, hs⟩ := hs
 obtain ⟨query, rfl, hq3⟩ := cH
 obtain ⟨frag, rfl, hf3⟩ := iZ
 have hp := h.path
 have hho := h.hostEq
 subst hp hho
 rw [Ygb] at hown
 exact ⟨sch, Yxe (Yxi r), query, frag, rfl, rfl, rfl, rfl, rfl, hs, h.ne, Ytu h.ne h.name h.low, Yno h.name, h.p0, h.p1, hown, ⟨_, rfl⟩, hq3, hf3, hsafe, hsize⟩
theorem Ywu {sch host : List UInt8} {p : Int} {path query frag : List UInt8} {hq hf : Bool} (h : Canon sch host p path query frag hq hf) : Canon sch host p path query [] hq false := by
 have hsub : ∀ b ∈ (Ytd (ofL sch) (ofL host) p (ofL path) (ofL query) (ofL []) hq false).data.toList, b ∈ (Ytd (ofL sch) (ofL host) p (ofL path) (ofL query) (ofL frag) hq hf).data.toList := by
  intro b hb
  rw [Ykh] at hb ⊢
  simp only [Ype, List.append_nil, if_neg (show ¬ (false = true) by decide)] at hb
  simp only [List.mem_append, List.mem_cons] at hb ⊢
  rcases hb with h1 | h1 | h1 | h1 | h1 | h1 | h1 | h1 <;> simp [h1]
 have hsz : (Ytd (ofL sch) (ofL host) p (ofL path) (ofL query) (ofL []) hq false).size ≤ (Ytd (ofL sch) (ofL host) p (ofL path) (ofL query) (ofL frag) hq hf).size := by
  rw [Lib.size_eq, Lib.size_eq, Ykh, Ykh]
  simp only [Ype, List.append_nil, if_neg (show ¬ (false = true) by decide), List.length_append, List.length_cons]
  omega
 exact ⟨h.schIs, h.hostNe, h.hostIs, h.hostB, h.p0, h.p1, h.pOwn, h.pathIs, h.queryIs, .inr ⟨rfl, rfl⟩, fun b hb => h.safe b (hsub b hb), Nat.le_trans hsz h.size⟩
theorem You {l : List UInt8} {u1 u2 : Y} {u3 : Int} {u4 u5 u6 : Y} {u7 u8 : Bool} {u9 : Int} (h : Yqf l = (u1, u2, u3, u4, u5, u6, u7, u8, u9)) (hne : ¬ u9 = 0) : (u1, u2, u3, u4, u5, u6, u7, u8, u9) = Ytb u9 := by
 have key : ∀ (e : Int), (u1, u2, u3, u4, u5, u6, u7, u8, u9) = Ytb e → (u1, u2, u3, u4, u5, u6, u7, u8, u9) = Ytb u9 := by
  intro e he
  have : u9 = e := by
   unfold Ytb at he
   simp only [Kea] at he
   exact he.2.2.2.2.2.2.2.2
  rw [this] at he ⊢; exact he
 unfold Yqf Yzl at h
 split at h
 ·exact key _ h.symm
 ·unfold Yvm at h
  split at h
  ·exact key _ h.symm
  ·unfold Yul at h
   split at h
   ·exact key _ h.symm
   ·unfold Yfo at h
    split at h
    ·exact key _ h.symm
    ·exfalso
     apply hne
     simp only [Kea] at h
     exact h.2.2.2.2.2.2.2.2.symm
end Go.Proofs.YtnmglnglbdpjjaaGreatDoor.X
