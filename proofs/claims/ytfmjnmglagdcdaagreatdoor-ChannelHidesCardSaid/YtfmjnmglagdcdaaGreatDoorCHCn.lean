/- Good URLs: what is parsed has good parts; good parts' text is parsed as they are. -/
import Derived.Test.YtfmjnmglagdcdaaGreatDoorCHWords
import Derived.Test.YtfmjnmglagdcdaaGreatDoorCHPq
import Derived.Lib.IndexBytes
import Derived.KernelRfl
namespace Go.Proofs.YtfmjnmglagdcdaaGreatDoor.X
open Go.RowKit Go.Lib Go.Yw.PrintWords Go.Yw.PrintLast
set_option linter.unusedVariables false
set_option linter.unusedSimpArgs false
structure Ycf (u1 u2 : ByteArray) (u3 : Int) (u4 u5 u6 : ByteArray) (u7 u8 : Bool) (host r : List UInt8) : Prop where
 sch : u1 = ofL Ybi ∨ u1 = ofL Ykg
 hostEq : u2 = ofL host
 ne : host ≠ []
 name : Yuf host = true
 low : ∃ m, host = lowL (Yna m)
 p0 : 0 ≤ u3
 p1 : u3 ≤ 65535
 path : u4 = Yde r
 query : u5 = Ysc r
 frag : u6 = Yhd r
 hasQ : u7 = Yve r
 hasF : u8 = Yue r
 size : (Yvb u1 u2 u3 u4 u5 u6 u7 u8).size ≤ 2048
 rest : r.length ≤ 2048
 own : u3 ≠ ownN u1.data.toList
theorem parsed_of {l : List UInt8} {u1 u2 : ByteArray} {u3 : Int} {u4 u5 u6 : ByteArray} {u7 u8 : Bool} (h : Yya l = (u1, u2, u3, u4, u5, u6, u7, u8, 0)) : ∃ host r, Ycf u1 u2 u3 u4 u5 u6 u7 u8 host r := by
 unfold Yya Yom at h
 generalize Yye l = c at h
 by_cases h1 : (c.length : Int) > 2048
 ·rw [if_pos h1] at h
  simp only [Yac, Prod.mk.injEq] at h
  exact absurd h.2.2.2.2.2.2.2.2 Zq
 ·rw [if_neg h1] at h
  unfold Ysm at h
  have hrl := (Ymj c [58]).2
  by_cases h2 : (Yqc c ⟨#[]⟩).1 = 0
  ·rw [if_neg (by simpa using h2)] at h
   have hs : (lowL (Lib.cut c [58]).1 = Ybi ∨ lowL (Lib.cut c [58]).1 = Ykg) ∧ Yqc c ⟨#[]⟩ = (0, ofL (Lib.cut c [58]).2.1, ofL (lowL (Lib.cut c [58]).1)) := by
    unfold Yqc at h2 ⊢
    split at h2
    ·next hc =>
     rw [if_pos hc]
     by_cases hl : lowL (Lib.cut c [58]).1 = Ybi ∨ lowL (Lib.cut c [58]).1 = Ykg
     ·exact ⟨hl, by rw [if_pos hl]⟩
     ·simp only [if_neg hl] at h2
      exact absurd h2 Zq
    ·exact absurd (show (3 : Int) = 0 from h2) Zq
   rw [hs.2] at h
   simp only [Yob] at h
   unfold Ykm at h
   have hps := Yzh (Lib.cut c [58]).2.1 (lowL (Lib.cut c [58]).1)
   by_cases h3 : (Ywc (Lib.cut c [58]).2.1 (lowL (Lib.cut c [58]).1) ⟨#[]⟩ 0).1 = 0
   ·rw [if_neg (by simpa using h3)] at h
    have hown0 : (0 : Int) ≠ ownN (lowL (Lib.cut c [58]).1) := by unfold ownN; split <;> decide
    have hh : ∃ m, (Ywd m).2 = 0 ∧ (Ywc (Lib.cut c [58]).2.1 (lowL (Lib.cut c [58]).1) ⟨#[]⟩ 0).2.2.1 = ofL (Ywd m).1 ∧ (Ywc (Lib.cut c [58]).2.1 (lowL (Lib.cut c [58]).1) ⟨#[]⟩ 0).2.2.2 ≠ ownN (lowL (Lib.cut c [58]).1) := by
     refine ⟨(Lib.cut (Yha (Lib.cut c [58]).2.1) [58]).1, ?_⟩
     revert h3
     unfold Ywc
     split
     ·split
      ·intro h3; exact absurd (show (3 : Int) = 0 from h3) Zq
      ·split
       ·next h5 =>
        split
        ·intro _; exact ⟨h5, rfl, hown0⟩
        ·split
         ·split
          ·intro _; exact ⟨h5, rfl, hown0⟩
          ·next h7 => intro _; exact ⟨h5, rfl, h7⟩
         ·intro h3; exact absurd (show (3 : Int) = 0 from h3) Zq
       ·next h5 => intro h3; exact absurd h3 h5
     ·intro h3; exact absurd (show (3 : Int) = 0 from h3) Zq
    obtain ⟨m, hm1, hm2, hm4⟩ := hh
    have hm3 : (Ywd m).1 = lowL (Yna m) ∧ lowL (Yna m) ≠ [] ∧ Yuf (lowL (Yna m)) = true := by
     unfold Ywd at hm1 ⊢
     by_cases e1 : lowL (Yna m) = []
     ·rw [if_pos e1] at hm1; exact absurd hm1 Zq
     ·rw [if_neg e1] at hm1 ⊢
      by_cases e2 : Yuf (lowL (Yna m)) = true
      ·rw [if_pos e2]; exact ⟨rfl, e1, e2⟩
      ·rw [if_neg e2] at hm1; exact absurd hm1 Zq
    generalize Ywc (Lib.cut c [58]).2.1 (lowL (Lib.cut c [58]).1) ⟨#[]⟩ 0 = y at h hps hm2 hm4 h3
    unfold urlOf at h
    split at h
    ·simp only [Yac, Prod.mk.injEq] at h
     exact absurd h.2.2.2.2.2.2.2.2 Zq
    ·next hsz =>
     simp only [Prod.mk.injEq] at h
     obtain ⟨rfl, rfl, rfl, rfl, rfl, rfl, rfl, rfl, _⟩ := h
     refine ⟨(Ywd m).1, y.2.1.data.toList, ?_⟩
     refine ⟨?_, hm2, by rw [hm3.1]; exact hm3.2.1, by rw [hm3.1]; exact hm3.2.2, ⟨m, hm3.1⟩, hps.2.2.1, hps.2.2.2, rfl, rfl, rfl, rfl, rfl, Zk, ?_, ?_⟩
     ·rcases hs.1 with e | e <;> rw [e]
      ·exact .inl rfl
      ·exact .inr rfl
     ·have := hps.1
      rw [Lib.size_eq] at this
      omega
     ·rw [Yob]; exact hm4
   ·rw [if_pos (by simpa using h3)] at h
    simp only [Yac, Prod.mk.injEq] at h
    exact absurd h.2.2.2.2.2.2.2.2 h3
  ·rw [if_pos (by simpa using h2)] at h
   simp only [Yac, Prod.mk.injEq] at h
   exact absurd h.2.2.2.2.2.2.2.2 h2
def Yje (b : UInt8) : Prop := 33 ≤ b.toNat ∧ b.toNat ≤ 126
def Ykd (s : ByteArray) : Prop := ∀ b ∈ s.data.toList, Yje b
theorem Ykb {a b : ByteArray} (ha : Ykd a) (hb : Ykd b) : Ykd (a ++ b) := by
 intro c hc
 rw [ByteArray.data_append, Array.toList_append] at hc
 rcases List.mem_append.1 hc with h | h
 ·exact ha c h
 ·exact hb c h
theorem safe_mark (b : UInt8) : ∀ c ∈ Yqd [] b, Yje c := by
 unfold Yje; revert b; exact Yub Zca
theorem Yvi (part l : List UInt8) : ∀ c ∈ Ydb part l, Yje c := by
 intro c hc
 unfold Ydb at hc
 obtain ⟨b, _, hc⟩ := List.mem_flatMap.1 hc
 unfold Yrd at hc
 split at hc
 ·next h =>
  simp only [Bool.and_eq_true, decide_eq_true_eq] at h
  obtain rfl := List.mem_singleton.1 hc
  exact ⟨Zk, Zk⟩
 ·exact safe_mark b c hc
theorem safe_ok (b : UInt8) (h : okB b = true) : Yje b := by
 unfold okB at h
 simp only [Bool.and_eq_true, decide_eq_true_eq] at h
 exact ⟨Zk, Zk⟩
theorem Yoi (r : List (List UInt8)) (c : UInt8) (h : c ∈ Lib.joinTail [47] r) : c = 47 ∨ ∃ y ∈ r, c ∈ y := by
 induction r with
 | nil => simp [Lib.joinTail] at h
 | cons y r ih =>
  have e : Lib.joinTail [47] (y :: r) = 47 :: (y ++ Lib.joinTail [47] r) := by simp [Lib.joinTail]
  rw [e] at h
  rcases List.mem_cons.1 h with h | h
  ·exact .inl h
  ·rcases List.mem_append.1 h with h | h
   ·exact .inr ⟨y, Zy, h⟩
   ·rcases ih h with h | ⟨z, hz, h⟩
    ·exact .inl h
    ·exact .inr ⟨z, by simp [hz], h⟩
theorem safe_path (l : List UInt8) : ∀ c ∈ Ypc l, Yje c := by
 obtain ⟨x, r, e, h⟩ := Yqg l
 intro c hc
 rw [e] at hc
 rcases List.mem_cons.1 hc with rfl | hc
 ·exact ⟨Zq, Zq⟩
 ·rcases List.mem_append.1 hc with hc | hc
  ·exact safe_ok c ((h x Zy).1 c hc)
  ·rcases Yoi r c hc with rfl | ⟨y, hy, hc⟩
   ·exact ⟨Zq, Zq⟩
   ·exact safe_ok c ((h y (by simp [hy])).1 c hc)
theorem Ytk (c : UInt8) (l : List UInt8) : ∀ b ∈ l, b = c ∨ ∃ y ∈ splitB c l, b ∈ y := by
 induction l with
 | nil => intro b hb; cases hb
 | cons a l ih =>
  intro b hb
  rw [splitB]
  by_cases hac : a = c
  ·rw [if_pos hac]
   rcases List.mem_cons.1 hb with rfl | hb
   ·exact .inl hac
   ·rcases ih b hb with h | ⟨y, hy, h⟩
    ·exact .inl h
    ·exact .inr ⟨y, by simp [hy], h⟩
  ·rw [if_neg hac]
   cases hs : splitB c l with
   | nil => exact absurd hs (Yze c l)
   | cons x r =>
    rw [hs] at ih
    rcases List.mem_cons.1 hb with rfl | hb
    ·exact .inr ⟨b :: x, by simp [Yge], Zy⟩
    ·rcases ih b hb with h | ⟨y, hy, h⟩
     ·exact .inl h
     ·rcases List.mem_cons.1 hy with rfl | hy
      ·exact .inr ⟨a :: y, by simp [Yge], by simp [h]⟩
      ·exact .inr ⟨y, by simp [Yge, hy], h⟩
theorem Yxo (b : UInt8) : Yek b = true → Yje b := by
 unfold Yje; revert b; exact Yub Zca
theorem safe_name (l : List UInt8) (h : Yuf l = true) : ∀ c ∈ l, Yje c := by
 intro c hc
 unfold Yuf at h
 rw [Bool.and_eq_true] at h
 rcases Ytk 46 l c hc with rfl | ⟨y, hy, hc⟩
 ·exact ⟨Zq, Zq⟩
 ·have := List.all_eq_true.1 h.1 y hy
  unfold Yxi at this
  rw [Bool.and_eq_true] at this
  exact Yxo c (List.all_eq_true.1 this.1 c hc)
theorem Yln : ∀ (f v : Nat) (n : Int), n ∈ digs f v → 48 ≤ n ∧ n ≤ 57 := by
 intro f
 induction f with
 | zero => intro v n h; cases h
 | succ f ih =>
  intro v n h
  unfold digs at h
  split at h
  ·cases h
  ·rcases List.mem_cons.1 h with rfl | h
   ·omega
   ·exact ih _ n h
theorem safe_text (v : Nat) : Ykd (strOfNums (Yie v)) := by
 intro b hb
 have hm : ∀ n ∈ Yie v, (48 : Int) ≤ n ∧ n ≤ 57 := by
  intro n hn
  unfold Yie at hn
  split at hn
  ·obtain rfl := List.mem_singleton.1 hn; omega
  ·exact Yln 20 v n (List.mem_reverse.1 hn)
 unfold strOfNums at hb
 simp only [] at hb
 obtain ⟨n, hn, rfl⟩ := List.mem_map.1 hb
 have := hm n hn
 unfold Yje
 rw [UInt8.toNat_ofNat']
 omega
theorem Ydn {u1 u2 : ByteArray} {u3 : Int} {u4 u5 u6 : ByteArray} {u7 u8 : Bool} {host r : List UInt8} (h : Ycf u1 u2 u3 u4 u5 u6 u7 u8 host r) : Ykd (Yvb u1 u2 u3 u4 u5 u6 u7 u8) := by
 have s1 : Ykd u1 := by
  rcases h.sch with e | e <;> (subst e; unfold Ykd Yje; decide)
 have s2 : Ykd u2 := by
  have := h.hostEq; subst this
  exact safe_name host h.name
 have s4 : Ykd u4 := by
  have := h.path; subst this
  exact safe_path _
 have hz : Ykd ⟨#[]⟩ := fun b hb => by cases hb
 have s5 : Ykd u5 := by
  have := h.query; subst this
  unfold Ysc
  split
  ·exact Yvi _ _
  ·exact hz
 have s6 : Ykd u6 := by
  have := h.frag; subst this
  unfold Yhd
  split
  ·exact Yvi _ _
  ·exact hz
 have c1 : Ykd ⟨#[58, 47, 47]⟩ := by unfold Ykd Yje; decide
 have c2 : Ykd ⟨#[58]⟩ := by unfold Ykd Yje; decide
 have c3 : Ykd ⟨#[63]⟩ := by unfold Ykd Yje; decide
 have c4 : Ykd ⟨#[35]⟩ := by unfold Ykd Yje; decide
 have so : Ykd (Ybe u1 u2 u3) := by
  unfold Ybe
  split
  ·exact Ykb (Ykb s1 c1) s2
  ·exact Ykb (Ykb (Ykb s1 c1) s2) (Ykb c2 (safe_text _))
 have sq : Ykd (Yci (Ybe u1 u2 u3 ++ u4) u5 u7) := by
  unfold Yci
  split
  ·exact Ykb (Ykb so s4) (Ykb c3 s5)
  ·exact Ykb so s4
 unfold Yvb Ygj
 split
 ·exact Ykb sq (Ykb c4 s6)
 ·exact sq
end Go.Proofs.YtfmjnmglagdcdaaGreatDoor.X
namespace Go.Proofs.YtfmjnmglagdcdaaGreatDoor.X
open Go.RowKit Go.Lib Go.Yw.PrintWords Go.Yw.PrintLast
set_option linter.unusedVariables false
set_option linter.unusedSimpArgs false
theorem Ykh (c : UInt8) : ∀ l : List UInt8, c ∉ l → Lib.indexByte l c = -1 := by
 intro l
 induction l with
 | nil => intro _; rfl
 | cons b l ih =>
  intro h
  rw [Lib.indexByte, if_neg (by rw [beq_iff_eq]; exact fun e => h (by simp [e])), ih (fun hm => h (by simp [hm]))]; rfl
theorem Ypm (c : UInt8) : ∀ (a b : List UInt8), c ∉ a → Lib.indexByte (a ++ c :: b) c = (a.length : Int) := by
 intro a
 induction a with
 | nil => intro b _; rw [List.nil_append, Lib.indexByte, if_pos Zy]; rfl
 | cons x a ih =>
  intro b h
  rw [List.cons_append, Lib.indexByte, if_neg (by rw [beq_iff_eq]; exact fun e => h (by simp [e])), ih b (fun hm => h (by simp [hm])), if_neg (by rw [beq_iff_eq]; omega)]
  simp
theorem cut_hit (c : UInt8) (a b : List UInt8) (h : c ∉ a) : Lib.cut (a ++ c :: b) [c] = (a, b, true) := by
 unfold Lib.cut
 rw [Lib.index_one, Ypm c a b h, if_pos Zk, Int.toNat_natCast]
 simp
theorem cut_miss (c : UInt8) (a : List UInt8) (h : c ∉ a) : Lib.cut a [c] = (a, [], false) := by
 unfold Lib.cut
 rw [Lib.index_one, Ykh c a h, if_neg Zk]
theorem Yli (p : UInt8 → Bool) (a b : List UInt8) (h : ∀ x ∈ a, p x = true) : (a ++ b).takeWhile p = a ++ b.takeWhile p ∧ (a ++ b).dropWhile p = b.dropWhile p := by
 induction a with
 | nil => exact ⟨rfl, rfl⟩
 | cons x a ih =>
  have hx := h x Zy
  have := ih (fun y hy => h y (by simp [hy]))
  rw [List.cons_append, List.takeWhile_cons, List.dropWhile_cons, if_pos hx, if_pos hx, this.1, this.2]
  exact ⟨rfl, rfl⟩
def Yig (v : Nat) : List UInt8 := (Yie v).map fun n => UInt8.ofNat n.toNat
theorem text_data (v : Nat) : (strOfNums (Yie v)).data.toList = Yig v := by unfold strOfNums Yig; rfl
theorem Ysj (d : Nat) (h : d < 10) : Yic (UInt8.ofNat ((48 + (d : Int)).toNat)) = true ∧ (((UInt8.ofNat ((48 + (d : Int)).toNat)).toNat : Nat) : Int) - 48 = (d : Int) := by
 have e : (48 + (d : Int)).toNat = 48 + d := by omega
 rw [e]
 have e2 : (UInt8.ofNat (48 + d)).toNat = 48 + d := by rw [UInt8.toNat_ofNat']; omega
 refine ⟨?_, by rw [e2]; omega⟩
 unfold Yic
 rw [e2]
 simp; omega
theorem fold_text (most : Int) : ∀ (f v : Nat), v < 10 ^ f → (v : Int) ≤ most → ∀ B : List UInt8, Yrc most false 0 (((digs f v).reverse.map fun n => UInt8.ofNat n.toNat) ++ B) = Yrc most false (v : Int) B := by
 intro f
 induction f with
 | zero =>
  intro v hv _ B
  have : v = 0 := by simpa using hv
  subst this; rfl
 | succ f ih =>
  intro v hv hm B
  by_cases h0 : v = 0
  ·subst h0; rfl
  ·rw [digs, if_neg h0, List.reverse_cons, List.map_append, List.append_assoc, ih (v / 10) (by rw [Nat.pow_succ] at hv; omega) Zk]
   have hd := Ysj (v % 10) Zk
   rw [List.map_cons, List.map_nil, List.cons_append, List.nil_append, Yrc, if_pos hd.1, hd.2, if_neg Zta]
   congr 1; omega
theorem num_text (v : Nat) (h0 : v ≠ 0) (h : v ≤ 65535) : numL 65535 (Yig v) = ((v : Int), 0) := by
 have hne : Yig v ≠ [] := by
  unfold Yig Yie
  rw [if_neg h0]
  intro e
  have := congrArg List.length e
  rw [List.length_map, List.length_reverse, digs, if_neg h0] at this
  simp at this
 unfold numL
 rw [if_neg hne]
 have := fold_text 65535 20 v Zk Zk []
 rw [List.append_nil] at this
 unfold Yig Yie
 rw [if_neg h0, this]; rfl
theorem Ybj (v : Nat) : ∀ b ∈ Yig v, Yic b = true := by
 intro b hb
 unfold Yig at hb
 obtain ⟨n, hn, rfl⟩ := List.mem_map.1 hb
 have hm : (48 : Int) ≤ n ∧ n ≤ 57 := by
  unfold Yie at hn
  split at hn
  ·obtain rfl := List.mem_singleton.1 hn; omega
  ·exact Yln 20 v n (List.mem_reverse.1 hn)
 have := Ysj (n - 48).toNat Zk
 rw [show (48 : Int) + ((n - 48).toNat : Int) = n by omega] at this
 exact this.1
theorem unmark_id : ∀ l : List UInt8, (37 : UInt8) ∉ l → Yna l = l := by
 intro l
 induction l with
 | nil => intro _; rfl
 | cons b l ih =>
  intro h
  rw [Ywh b l (.inl (fun e => h (by simp [e]))), ih (fun hm => h (by simp [hm]))]
theorem low_twice (l : List UInt8) : lowL (lowL l) = lowL l := by
 have hb : ∀ b : UInt8, lowB (lowB b) = lowB b := by exact Yub Zca
 unfold lowL
 rw [List.map_map]
 exact List.map_congr_left fun b _ => hb b
theorem Yrl (b : UInt8) : (Yek b = true ∨ b = 46) → b ≠ 37 ∧ b ≠ 47 ∧ b ≠ 92 ∧ b ≠ 63 ∧ b ≠ 35 ∧ b ≠ 58 ∧ b ≠ 64 := by
 revert b; exact Yub Zca
theorem Ypj {l : List UInt8} (h : Yuf l = true) : ∀ b ∈ l, b ≠ 37 ∧ b ≠ 47 ∧ b ≠ 92 ∧ b ≠ 63 ∧ b ≠ 35 ∧ b ≠ 58 ∧ b ≠ 64 := by
 intro b hb
 unfold Yuf at h
 rw [Bool.and_eq_true] at h
 rcases Ytk 46 l b hb with e | ⟨y, hy, hc⟩
 ·exact Yrl b (.inr e)
 ·have := List.all_eq_true.1 h.1 y hy
  unfold Yxi at this
  rw [Bool.and_eq_true] at this
  exact Yrl b (.inl (List.all_eq_true.1 this.1 b hc))
theorem Ydp {host : List UInt8} (hne : host ≠ []) (hn : Yuf host = true) (hl : ∃ m, host = lowL (Yna m)) : Ywd host = (host, 0) := by
 have hu : Yna host = host := unmark_id host (fun h => (Ypj hn 37 h).1 rfl)
 have hlo : lowL host = host := by obtain ⟨m, rfl⟩ := hl; exact low_twice _
 unfold Ywd
 rw [hu, hlo, if_neg hne, if_pos hn]
theorem Yqk (part : List UInt8) (h37 : part.contains 37 = false) (hx : ∀ n : Fin 16, part.contains (hexB n.val) = false) (l : List UInt8) : Ydb part (Ydb part l) = Ydb part l := by
 have h1 : ∀ b : UInt8, ∀ c ∈ Yrd part b, Yrd part c = [c] := by
  intro b c hc
  have keep : ∀ d : UInt8, (32 < d.toNat ∧ d.toNat < 127) → part.contains d = false → Yrd part d = [d] := by
   intro d hd hp
   unfold Yrd
   rw [hp, decide_eq_true hd.1, decide_eq_true hd.2]; rfl
  have hs := Yvi part [b] c (by unfold Ydb; simpa using hc)
  have hs2 : 32 < c.toNat ∧ c.toNat < 127 := ⟨by have := hs.1; omega, by have := hs.2; omega⟩
  unfold Yrd at hc
  split at hc
  ·next h =>
   obtain rfl := List.mem_singleton.1 hc
   simp only [Bool.and_eq_true, decide_eq_true_eq, Bool.not_eq_true'] at h
   exact keep c hs2 h.2.2
  ·next h =>
   unfold Yqd at hc
   split at hc
   ·next hp =>
    obtain rfl := List.mem_singleton.1 hc
    by_cases hpc : part.contains c = true
    ·unfold Yrd
     rw [if_neg h]
     unfold Yqd
     rw [if_pos hp]
    ·exact keep c hs2 (by cases hq : part.contains c <;> simp_all)
   ·simp only [List.mem_cons, List.mem_nil_iff, or_false] at hc
    rcases hc with rfl | rfl | rfl
    ·exact keep _ hs2 h37
    ·exact keep _ hs2 (hx ⟨b.toNat / 16, by have := b.toNat_lt; omega⟩)
    ·exact keep _ hs2 (hx ⟨b.toNat % 16, Zk⟩)
 have h2 : ∀ l : List UInt8, (∀ c ∈ l, Yrd part c = [c]) → Ydb part l = l := by
  intro l
  induction l with
  | nil => intro _; rfl
  | cons c l ih =>
   intro h
   unfold Ydb at ih ⊢
   rw [List.flatMap_cons, h c Zy, ih (fun d hd => h d (by simp [hd]))]; rfl
 refine h2 _ fun c hc => ?_
 unfold Ydb at hc
 obtain ⟨b, _, hc⟩ := List.mem_flatMap.1 hc
 exact h1 b c hc
theorem part_no (part : List UInt8) (x : UInt8) (hp : part.contains x = true) (hx : x ≠ 37 ∧ (∀ n : Fin 16, hexB n.val ≠ x) ∧ Ybm x = false) (l : List UInt8) : x ∉ Ydb part l := by
 intro hc
 unfold Ydb at hc
 obtain ⟨b, _, hc⟩ := List.mem_flatMap.1 hc
 unfold Yrd at hc
 split at hc
 ·next h =>
  obtain rfl := List.mem_singleton.1 hc
  rw [hp] at h
  simp at h
 ·unfold Yqd at hc
  split at hc
  ·next h =>
   obtain rfl := List.mem_singleton.1 hc
   rw [hx.2.2] at h
   simp at h
  ·simp only [List.mem_cons, List.mem_nil_iff, or_false] at hc
   rcases hc with h | h | h
   ·exact hx.1 h
   ·exact hx.2.1 ⟨b.toNat / 16, by have := b.toNat_lt; omega⟩ h.symm
   ·exact hx.2.1 ⟨b.toNat % 16, Zk⟩ h.symm
end Go.Proofs.YtfmjnmglagdcdaaGreatDoor.X
namespace Go.Proofs.YtfmjnmglagdcdaaGreatDoor.X
open Go.RowKit Go.Lib Go.Yw.PrintWords Go.Yw.PrintLast
set_option linter.unusedVariables false
set_option linter.unusedSimpArgs false
def Yyd (p : Int) : List UInt8 := if p = 0 then [] else 58 :: Yig p.toNat
def Yed (q : List UInt8) (h : Bool) : List UInt8 := if h = true then 63 :: q else []
def Yjc (f : List UInt8) (h : Bool) : List UInt8 := if h = true then 35 :: f else []
theorem Ylj (a b : ByteArray) : (a ++ b).data.toList = a.data.toList ++ b.data.toList := by rw [ByteArray.data_append, Array.toList_append]
theorem Yhf (sch host : List UInt8) (p : Int) (path query frag : List UInt8) (hq hf : Bool) :
  (Yvb (ofL sch) (ofL host) p (ofL path) (ofL query) (ofL frag) hq hf).data.toList = sch ++ 58 :: 47 :: 47 :: (host ++ (Yyd p ++ (path ++ (Yed query hq ++ Yjc frag hf)))) := by
 have h1 : (⟨#[58, 47, 47]⟩ : ByteArray).data.toList = [58, 47, 47] := rfl
 have h2 : (⟨#[58]⟩ : ByteArray).data.toList = [58] := rfl
 have h3 : (⟨#[63]⟩ : ByteArray).data.toList = [63] := rfl
 have h4 : (⟨#[35]⟩ : ByteArray).data.toList = [35] := rfl
 have ho : (Ybe (ofL sch) (ofL host) p).data.toList = sch ++ 58 :: 47 :: 47 :: (host ++ Yyd p) := by
  unfold Ybe Yyd
  split
  ·simp only [Ylj, Yob, h1]; simp
  ·simp only [Ylj, Yob, h1, h2, text_data]; simp
 unfold Yvb Ygj Yci Yed Yjc
 cases hq <;> cases hf <;> simp [Ylj, Yob, h3, h4, ho]
theorem Yml (p : UInt8 → Bool) (l : List UInt8) (h : ∀ b ∈ l, p b = false) : l.dropWhile p = l := by
 cases l with
 | nil => rfl
 | cons b t => rw [List.dropWhile_cons, h b Zy]; rfl
theorem Yap (l : List UInt8) (h : ∀ b ∈ l, Yje b) : Yye l = l := by
 have hl : ∀ b : UInt8, Yje b → Ygh b = false ∧ (b != 9) = true ∧ (b != 10) = true ∧ (b != 13) = true := by
  unfold Yje; exact Yub Zca
 have ht : Yof l = l := by
  unfold Yof
  rw [Yml Ygh l (fun b hb => (hl b (h b hb)).1), Yml Ygh l.reverse (fun b hb => (hl b (h b (List.mem_reverse.1 hb))).1), List.reverse_reverse]
 unfold Yye
 rw [ht, List.filter_eq_self.2 (fun b hb => (hl b (h b hb)).2.1), List.filter_eq_self.2 (fun b hb => (hl b (h b hb)).2.2.1), List.filter_eq_self.2 (fun b hb => (hl b (h b hb)).2.2.2)]
structure Canon (sch host : List UInt8) (p : Int) (path query frag : List UInt8) (hq hf : Bool) : Prop where
 schIs : sch = Ybi ∨ sch = Ykg
 hostNe : host ≠ []
 hostIs : Ywd host = (host, 0)
 hostB : ∀ b ∈ host, b ≠ 37 ∧ b ≠ 47 ∧ b ≠ 92 ∧ b ≠ 63 ∧ b ≠ 35 ∧ b ≠ 58 ∧ b ≠ 64
 p0 : 0 ≤ p
 p1 : p ≤ 65535
 pOwn : p ≠ ownN sch
 pathIs : ∃ l, path = Ypc l
 queryIs : (hq = true ∧ ∃ q, query = Ydb Ypd q) ∨ (hq = false ∧ query = [])
 fragIs : (hf = true ∧ ∃ q, frag = Ydb Yre q) ∨ (hf = false ∧ frag = [])
 safe : Ykd (Yvb (ofL sch) (ofL host) p (ofL path) (ofL query) (ofL frag) hq hf)
 size : (Yvb (ofL sch) (ofL host) p (ofL path) (ofL query) (ofL frag) hq hf).size ≤ 2048
theorem Yfp (l : List UInt8) : ∀ b ∈ Ypc l, b ≠ 63 ∧ b ≠ 35 := by
 obtain ⟨x, r, e, h⟩ := Yqg l
 have hk : ∀ b : UInt8, okB b = true → b ≠ 63 ∧ b ≠ 35 := by exact Yub Zca
 intro c hc
 rw [e] at hc
 rcases List.mem_cons.1 hc with rfl | hc
 ·decide
 ·rcases List.mem_append.1 hc with hc | hc
  ·exact hk c ((h x Zy).1 c hc)
  ·rcases Yoi r c hc with rfl | ⟨y, hy, hc⟩
   ·decide
   ·exact hk c ((h y (by simp [hy])).1 c hc)
theorem Yrp {path query frag : List UInt8} {hq hf : Bool} (h1 : ∃ l, path = Ypc l) (h2 : (hq = true ∧ ∃ q, query = Ydb Ypd q) ∨ (hq = false ∧ query = [])) (h3 : (hf = true ∧ ∃ q, frag = Ydb Yre q) ∨ (hf = false ∧ frag = [])) :
  Yde (path ++ (Yed query hq ++ Yjc frag hf)) = ofL path ∧ Ysc (path ++ (Yed query hq ++ Yjc frag hf)) = ofL query ∧ Yhd (path ++ (Yed query hq ++ Yjc frag hf)) = ofL frag ∧
   Yve (path ++ (Yed query hq ++ Yjc frag hf)) = hq ∧ Yue (path ++ (Yed query hq ++ Yjc frag hf)) = hf := by
 obtain ⟨l, rfl⟩ := h1
 have hp : ∀ x ∈ Ypc l, Ycb [63, 35] x = true := by
  intro x hx
  have := Yfp l x hx
  unfold Ycb
  simp [this.1, this.2]
 have hta := Yli (Ycb [63, 35]) (Ypc l) (Yed query hq ++ Yjc frag hf) hp
 have hqn : hq = true → ∀ x ∈ query, Ycb [35] x = true := by
  intro hh x hx
  rcases h2 with ⟨_, q, rfl⟩ | ⟨e, _⟩
  ·have := part_no Ypd 35 Zq Zq q
   unfold Ycb
   have hne : x ≠ 35 := fun e => this (e ▸ hx)
   simp [hne]
  ·rw [hh] at e; cases e
 have hhead : Yjh (Ypc l ++ (Yed query hq ++ Yjc frag hf)) = Ypc l := by
  unfold Yjh
  rw [hta.1]
  unfold Yed Yjc
  cases hq <;> cases hf <;> simp [List.takeWhile_cons, Ycb]
 have hbehind : Ywb (Ypc l ++ (Yed query hq ++ Yjc frag hf)) = Yed query hq ++ Yjc frag hf := by
  unfold Ywb
  rw [hta.2]
  unfold Yed Yjc
  cases hq <;> cases hf <;> simp [List.dropWhile_cons, Ycb]
 have hquery : Yyc (Yed query hq ++ Yjc frag hf) = if hq = true then some query else none := by
  cases hq with
  | true =>
   have := (Yli (Ycb [35]) query (Yjc frag hf) (hqn rfl)).1
   show (if (63 : UInt8) = 63 then some ((query ++ Yjc frag hf).takeWhile (Ycb [35])) else none) = _
   rw [if_pos rfl, if_pos rfl, this]
   unfold Yjc
   cases hf <;> simp [List.takeWhile_cons, Ycb]
  | false =>
   unfold Yed Yjc
   cases hf <;> simp [Yyc]
 have hafter : Yv (Yed query hq ++ Yjc frag hf) = Yjc frag hf := by
  cases hq with
  | true =>
   have := (Yli (Ycb [35]) query (Yjc frag hf) (hqn rfl)).2
   show (if (63 : UInt8) = 63 then (query ++ Yjc frag hf).dropWhile (Ycb [35]) else (63 :: (query ++ Yjc frag hf))) = _
   rw [if_pos rfl, this]
   unfold Yjc
   cases hf <;> simp [List.dropWhile_cons, Ycb]
  | false =>
   unfold Yed Yjc
   cases hf <;> simp [Yv]
 have hfrag : Yjd (Yjc frag hf) = if hf = true then some frag else none := by
  unfold Yjc
  cases hf <;> simp [Yjd]
 refine ⟨?_, ?_, ?_, ?_, ?_⟩
 ·unfold Yde; rw [hhead, Yvm]
 ·unfold Ysc; rw [hbehind, hquery]
  rcases h2 with ⟨rfl, q, rfl⟩ | ⟨rfl, rfl⟩
  ·simp only [if_true]; rw [Yqk Ypd Zq Zq]
  ·rfl
 ·unfold Yhd; rw [hbehind, hafter, hfrag]
  rcases h3 with ⟨rfl, q, rfl⟩ | ⟨rfl, rfl⟩
  ·simp only [if_true]; rw [Yqk Yre Zq Zq]
  ·rfl
 ·unfold Yve; rw [hbehind, hquery]; cases hq <;> rfl
 ·unfold Yue; rw [hbehind, hafter, hfrag]; cases hf <;> rfl
theorem round {sch host : List UInt8} {p : Int} {path query frag : List UInt8} {hq hf : Bool} (h : Canon sch host p path query frag hq hf) :
  Yya (Yvb (ofL sch) (ofL host) p (ofL path) (ofL query) (ofL frag) hq hf).data.toList = (ofL sch, ofL host, p, ofL path, ofL query, ofL frag, hq, hf, 0) := by
 have hcl := Yap _ h.safe
 unfold Yya
 rw [hcl]
 unfold Yom
 rw [← Lib.size_eq, if_neg (by have := h.size; omega), Yhf]
 have hT := Yrp h.pathIs h.queryIs h.fragIs
 have hpath : ∃ t, path = 47 :: t := by obtain ⟨l, rfl⟩ := h.pathIs; exact ⟨_, rfl⟩
 have hsize := h.size
 generalize hTT : path ++ (Yed query hq ++ Yjc frag hf) = T at hT
 have hs : Yqc (sch ++ 58 :: 47 :: 47 :: (host ++ (Yyd p ++ T))) ⟨#[]⟩ = (0, ofL (47 :: 47 :: (host ++ (Yyd p ++ T))), ofL sch) := by
  unfold Yqc
  rw [cut_hit 58 sch _ (by rcases h.schIs with e | e <;> rw [e] <;> decide)]
  simp only []
  rcases h.schIs with e | e <;> subst e
  ·rw [if_pos Zca, if_pos Zca]; rfl
  ·rw [if_pos Zca, if_pos Zca]; rfl
 rw [hs]
 unfold Ysm
 simp only [not_true_eq_false, if_false, Yob]
 obtain ⟨b0, ht, hb0⟩ : ∃ b0 ht, host = b0 :: ht := by
  cases hh : host with
  | nil => exact absurd hh h.hostNe
  | cons b t => exact ⟨b, t, rfl⟩
 have hset : ∀ x ∈ host ++ Yyd p, Ycb [47, 92, 63, 35] x = true := by
  intro x hx
  have key : ∀ y : UInt8, y ≠ 47 → y ≠ 92 → y ≠ 63 → y ≠ 35 → Ycb [47, 92, 63, 35] y = true := by
   intro y h1 h2 h3 h4; unfold Ycb; simp [h1, h2, h3, h4]
  rcases List.mem_append.1 hx with hx | hx
  ·have := h.hostB x hx; exact key x this.2.1 this.2.2.1 this.2.2.2.1 this.2.2.2.2.1
  ·unfold Yyd at hx
   split at hx
   ·cases hx
   ·rcases List.mem_cons.1 hx with rfl | hx
    ·decide
    ·have hd := Ybj p.toNat x hx
     have hdig : ∀ y : UInt8, Yic y = true → Ycb [47, 92, 63, 35] y = true := by exact Yub Zca
     exact hdig x hd
 have htrim : Lib.trimLeftS (47 :: 47 :: (host ++ (Yyd p ++ T))) [47, 92] = host ++ (Yyd p ++ T) := by
  have hb := h.hostB b0 (by rw [hb0]; simp)
  unfold Lib.trimLeftS
  rw [hb0, List.cons_append, List.dropWhile_cons, if_pos Zq, List.dropWhile_cons, if_pos Zq, List.dropWhile_cons, if_neg (by simp [hb.2.1, hb.2.2.1])]
 have hTstop : T.takeWhile (Ycb [47, 92, 63, 35]) = [] ∧ T.dropWhile (Ycb [47, 92, 63, 35]) = T := by
  obtain ⟨t, e⟩ := hpath
  rw [← hTT, e]
  constructor
  ·rw [List.cons_append, List.takeWhile_cons, if_neg Zq]
  ·rw [List.cons_append, List.dropWhile_cons, if_neg Zq]
 have hph : Yha (47 :: 47 :: (host ++ (Yyd p ++ T))) = host ++ Yyd p ∧ Ybd (47 :: 47 :: (host ++ (Yyd p ++ T))) = T := by
  unfold Yha Ybd
  rw [htrim, ← List.append_assoc]
  have := Yli (Ycb [47, 92, 63, 35]) (host ++ Yyd p) T hset
  rw [this.1, this.2, hTstop.1, hTstop.2, List.append_nil]
  exact ⟨rfl, rfl⟩
 have h58 : (58 : UInt8) ∉ host := fun hm => (h.hostB 58 hm).2.2.2.2.2.1 rfl
 have h64 : (64 : UInt8) ∉ host ++ Yyd p := by
  intro hm
  rcases List.mem_append.1 hm with hm | hm
  ·exact (h.hostB 64 hm).2.2.2.2.2.2 rfl
  ·unfold Yyd at hm
   split at hm
   ·cases hm
   ·rcases List.mem_cons.1 hm with e | hm
    ·exact absurd e Zq
    ·exact absurd (Ybj p.toNat 64 hm) Zq
 have hcut : Lib.cut (host ++ Yyd p) [58] = if p = 0 then (host, [], false) else (host, Yig p.toNat, true) := by
  unfold Yyd
  split
  ·rw [List.append_nil, cut_miss 58 host h58]
  ·rw [cut_hit 58 host _ h58]
 have hplace : Ywc (47 :: 47 :: (host ++ (Yyd p ++ T))) sch ⟨#[]⟩ 0 = (0, ofL T, ofL host, p) := by
  unfold Ywc
  have hia : Lib.indexAny (47 :: 47 :: (host ++ (Yyd p ++ T))) [47, 92] = 0 := by
   rw [Lib.indexAny, if_pos Zq]
  rw [if_pos hia, hph.1, hph.2, Ykh 64 _ h64, if_neg Zq, hcut]
  by_cases hp0 : p = 0
  ·subst hp0
   simp only [if_true, h.hostIs]
  ·simp only [if_neg hp0, h.hostIs, if_true]
   have hp2 := h.p0
   have hp3 := h.p1
   have hnt := num_text p.toNat Zk Zk
   have hne : Yig p.toNat ≠ [] := by
    intro e
    unfold numL at hnt
    rw [if_pos e] at hnt
    exact absurd (show (3 : Int) = 0 from congrArg Prod.snd hnt) Zq
   rw [if_neg hne, hnt]
   simp only [if_true]
   rw [Int.toNat_of_nonneg h.p0, if_neg h.pOwn]
 rw [hplace]
 unfold Ykm
 simp only [not_true_eq_false, if_false, Yob]
 unfold urlOf
 rw [hT.1, hT.2.1, hT.2.2.1, hT.2.2.2.1, hT.2.2.2.2, if_neg Zk]
end Go.Proofs.YtfmjnmglagdcdaaGreatDoor.X
namespace Go.Proofs.YtfmjnmglagdcdaaGreatDoor.X
open Go.RowKit Go.Lib Go.Yw.PrintWords Go.Yw.PrintLast
set_option linter.unusedVariables false
set_option linter.unusedSimpArgs false
theorem canon_of {u1 u2 : ByteArray} {u3 : Int} {u4 u5 u6 : ByteArray} {u7 u8 : Bool} {host r : List UInt8} (h : Ycf u1 u2 u3 u4 u5 u6 u7 u8 host r) :
  ∃ sch path query frag, u1 = ofL sch ∧ u2 = ofL host ∧ u4 = ofL path ∧ u5 = ofL query ∧ u6 = ofL frag ∧ Canon sch host u3 path query frag u7 u8 := by
 have hq : (u7 = true ∧ ∃ q, u5 = ofL (Ydb Ypd q)) ∨ (u7 = false ∧ u5 = ofL []) := by
  have h1 := h.query
  have h2 := h.hasQ
  unfold Ysc at h1
  unfold Yve at h2
  cases hx : Yyc (Ywb r) with
  | none => rw [hx] at h1 h2; exact .inr ⟨h2, h1⟩
  | some q => rw [hx] at h1 h2; exact .inl ⟨h2, q, h1⟩
 have hf : (u8 = true ∧ ∃ q, u6 = ofL (Ydb Yre q)) ∨ (u8 = false ∧ u6 = ofL []) := by
  have h1 := h.frag
  have h2 := h.hasF
  unfold Yhd at h1
  unfold Yue at h2
  cases hx : Yjd (Yv (Ywb r)) with
  | none => rw [hx] at h1 h2; exact .inr ⟨h2, h1⟩
  | some q => rw [hx] at h1 h2; exact .inl ⟨h2, q, h1⟩
 have hs : ∃ sch, u1 = ofL sch ∧ (sch = Ybi ∨ sch = Ykg) := by
  rcases h.sch with e | e
  ·exact ⟨_, e, .inl rfl⟩
  ·exact ⟨_, e, .inr rfl⟩
 have hq2 : ∃ query, u5 = ofL query ∧ ((u7 = true ∧ ∃ q, query = Ydb Ypd q) ∨ (u7 = false ∧ query = [])) := by
  rcases hq with ⟨e1, q, e2⟩ | ⟨e1, e2⟩
  ·exact ⟨_, e2, .inl ⟨e1, q, rfl⟩⟩
  ·exact ⟨_, e2, .inr ⟨e1, rfl⟩⟩
 have hf2 : ∃ frag, u6 = ofL frag ∧ ((u8 = true ∧ ∃ q, frag = Ydb Yre q) ∨ (u8 = false ∧ frag = [])) := by
  rcases hf with ⟨e1, q, e2⟩ | ⟨e1, e2⟩
  ·exact ⟨_, e2, .inl ⟨e1, q, rfl⟩⟩
  ·exact ⟨_, e2, .inr ⟨e1, rfl⟩⟩
 have hsafe := Ydn h
 have hsize := h.size
 have hown := h.own
 obtain ⟨sch, rfl, hs⟩ := hs
 obtain ⟨query, rfl, hq3⟩ := hq2
 obtain ⟨frag, rfl, hf3⟩ := hf2
 have hp := h.path
 have hho := h.hostEq
 subst hp hho
 rw [Yob] at hown
 exact ⟨sch, Ypc (Yjh r), query, frag, rfl, rfl, rfl, rfl, rfl, hs, h.ne, Ydp h.ne h.name h.low, Ypj h.name, h.p0, h.p1, hown, ⟨_, rfl⟩, hq3, hf3, hsafe, hsize⟩
theorem Yqp {sch host : List UInt8} {p : Int} {path query frag : List UInt8} {hq hf : Bool} (h : Canon sch host p path query frag hq hf) : Canon sch host p path query [] hq false := by
 have hsub : ∀ b ∈ (Yvb (ofL sch) (ofL host) p (ofL path) (ofL query) (ofL []) hq false).data.toList, b ∈ (Yvb (ofL sch) (ofL host) p (ofL path) (ofL query) (ofL frag) hq hf).data.toList := by
  intro b hb
  rw [Yhf] at hb ⊢
  simp only [Yjc, List.append_nil, if_neg (show ¬ (false = true) by decide)] at hb
  simp only [List.mem_append, List.mem_cons] at hb ⊢
  rcases hb with h1 | h1 | h1 | h1 | h1 | h1 | h1 | h1 <;> simp [h1]
 have hsz : (Yvb (ofL sch) (ofL host) p (ofL path) (ofL query) (ofL []) hq false).size ≤ (Yvb (ofL sch) (ofL host) p (ofL path) (ofL query) (ofL frag) hq hf).size := by
  rw [Lib.size_eq, Lib.size_eq, Yhf, Yhf]
  simp only [Yjc, List.append_nil, if_neg (show ¬ (false = true) by decide), List.length_append, List.length_cons]
  omega
 exact ⟨h.schIs, h.hostNe, h.hostIs, h.hostB, h.p0, h.p1, h.pOwn, h.pathIs, h.queryIs, .inr ⟨rfl, rfl⟩, fun b hb => h.safe b (hsub b hb), Nat.le_trans hsz h.size⟩
end Go.Proofs.YtfmjnmglagdcdaaGreatDoor.X
