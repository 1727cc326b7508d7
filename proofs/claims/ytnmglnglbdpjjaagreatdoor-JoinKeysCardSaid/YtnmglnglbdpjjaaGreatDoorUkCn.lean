/- Good URLs: what is parsed has good parts; good parts' text is parsed as they are. -/
import Derived.Test.YtnmglnglbdpjjaaGreatDoorUkWords
import Derived.Test.YtnmglnglbdpjjaaGreatDoorUkPq
import Derived.Lib.IndexBytes
import Derived.KernelRfl
namespace Go.Proofs.YtnmglnglbdpjjaaGreatDoor.X
open Go.RowKit Go.Lib Go.Yw.PrintWords Go.Yw.PrintLast
set_option linter.unusedVariables false
set_option linter.unusedSimpArgs false
structure Yqo (u1 u2 : ByteArray) (u3 : Int) (u4 u5 u6 : ByteArray) (u7 u8 : Bool) (host r : List UInt8) : Prop where
 sch : u1 = ofL Ykh ∨ u1 = ofL Yfg
 hostEq : u2 = ofL host
 ne : host ≠ []
 name : Yqi host = true
 low : ∃ m, host = lowL (Ymb m)
 p0 : 0 ≤ u3
 p1 : u3 ≤ 65535
 path : u4 = Ymd r
 query : u5 = Yhc r
 frag : u6 = Ypc r
 hasQ : u7 = Yid r
 hasF : u8 = Yfd r
 size : (Ype u1 u2 u3 u4 u5 u6 u7 u8).size ≤ 2048
 rest : r.length ≤ 2048
 own : u3 ≠ ownN u1.data.toList
theorem parsed_of {l : List UInt8} {u1 u2 : ByteArray} {u3 : Int} {u4 u5 u6 : ByteArray} {u7 u8 : Bool} (h : Ypg l = (u1, u2, u3, u4, u5, u6, u7, u8, 0)) : ∃ host r, Yqo u1 u2 u3 u4 u5 u6 u7 u8 host r := by
 unfold Ypg Ytm at h
 generalize Yre l = c at h
 by_cases h1 : (c.length : Int) > 2048
 ·rw [if_pos h1] at h
  simp only [Yec, Prod.mk.injEq] at h
  exact absurd h.2.2.2.2.2.2.2.2 Zea
 ·rw [if_neg h1] at h
  unfold Yap at h
  have hrl := (Ynl c [58]).2
  by_cases h2 : (Yhf c ⟨#[]⟩).1 = 0
  ·rw [if_neg (by simpa using h2)] at h
   have hs : (lowL (Lib.cut c [58]).1 = Ykh ∨ lowL (Lib.cut c [58]).1 = Yfg) ∧ Yhf c ⟨#[]⟩ = (0, ofL (Lib.cut c [58]).2.1, ofL (lowL (Lib.cut c [58]).1)) := by
    unfold Yhf at h2 ⊢
    split at h2
    ·next hc =>
     rw [if_pos hc]
     by_cases hl : lowL (Lib.cut c [58]).1 = Ykh ∨ lowL (Lib.cut c [58]).1 = Yfg
     ·exact ⟨hl, by rw [if_pos hl]⟩
     ·simp only [if_neg hl] at h2
      exact absurd h2 Zea
    ·exact absurd (show (3 : Int) = 0 from h2) Zea
   rw [hs.2] at h
   simp only [Ygb] at h
   unfold Yrm at h
   have hps := Ywl (Lib.cut c [58]).2.1 (lowL (Lib.cut c [58]).1)
   by_cases h3 : (Ysf (Lib.cut c [58]).2.1 (lowL (Lib.cut c [58]).1) ⟨#[]⟩ 0).1 = 0
   ·rw [if_neg (by simpa using h3)] at h
    have aFs : (0 : Int) ≠ ownN (lowL (Lib.cut c [58]).1) := by unfold ownN; split <;> decide
    have hh : ∃ m, (Ykf m).2 = 0 ∧ (Ysf (Lib.cut c [58]).2.1 (lowL (Lib.cut c [58]).1) ⟨#[]⟩ 0).2.2.1 = ofL (Ykf m).1 ∧ (Ysf (Lib.cut c [58]).2.1 (lowL (Lib.cut c [58]).1) ⟨#[]⟩ 0).2.2.2 ≠ ownN (lowL (Lib.cut c [58]).1) := by
     refine ⟨(Lib.cut (Ytb (Lib.cut c [58]).2.1) [58]).1, ?_⟩
     revert h3
     unfold Ysf
     split
     ·split
      ·intro h3; exact absurd (show (3 : Int) = 0 from h3) Zea
      ·split
       ·next h5 =>
        split
        ·intro _; exact ⟨h5, rfl, aFs⟩
        ·split
         ·split
          ·intro _; exact ⟨h5, rfl, aFs⟩
          ·next h7 => intro _; exact ⟨h5, rfl, h7⟩
         ·intro h3; exact absurd (show (3 : Int) = 0 from h3) Zea
       ·next h5 => intro h3; exact absurd h3 h5
     ·intro h3; exact absurd (show (3 : Int) = 0 from h3) Zea
    obtain ⟨m, hm1, hm2, hm4⟩ := hh
    have hm3 : (Ykf m).1 = lowL (Ymb m) ∧ lowL (Ymb m) ≠ [] ∧ Yqi (lowL (Ymb m)) = true := by
     unfold Ykf at hm1 ⊢
     by_cases e1 : lowL (Ymb m) = []
     ·rw [if_pos e1] at hm1; exact absurd hm1 Zea
     ·rw [if_neg e1] at hm1 ⊢
      by_cases e2 : Yqi (lowL (Ymb m)) = true
      ·rw [if_pos e2]; exact ⟨rfl, e1, e2⟩
      ·rw [if_neg e2] at hm1; exact absurd hm1 Zea
    generalize Ysf (Lib.cut c [58]).2.1 (lowL (Lib.cut c [58]).1) ⟨#[]⟩ 0 = y at h hps hm2 hm4 h3
    unfold Yjq at h
    split at h
    ·simp only [Yec, Prod.mk.injEq] at h
     exact absurd h.2.2.2.2.2.2.2.2 Zea
    ·next hsz =>
     simp only [Prod.mk.injEq] at h
     obtain ⟨rfl, rfl, rfl, rfl, rfl, rfl, rfl, rfl, _⟩ := h
     refine ⟨(Ykf m).1, y.2.1.data.toList, ?_⟩
     refine ⟨?_, hm2, by rw [hm3.1]; exact hm3.2.1, by rw [hm3.1]; exact hm3.2.2, ⟨m, hm3.1⟩, hps.2.2.1, hps.2.2.2, rfl, rfl, rfl, rfl, rfl, Zl, ?_, ?_⟩
     ·rcases hs.1 with e | e <;> rw [e]
      ·exact .inl rfl
      ·exact .inr rfl
     ·have := hps.1
      rw [Lib.size_eq] at this
      omega
     ·rw [Ygb]; exact hm4
   ·rw [if_pos (by simpa using h3)] at h
    simp only [Yec, Prod.mk.injEq] at h
    exact absurd h.2.2.2.2.2.2.2.2 h3
  ·rw [if_pos (by simpa using h2)] at h
   simp only [Yec, Prod.mk.injEq] at h
   exact absurd h.2.2.2.2.2.2.2.2 h2
def Ydh (b : UInt8) : Prop := 33 ≤ b.toNat ∧ b.toNat ≤ 126
def Ymg (s : ByteArray) : Prop := ∀ b ∈ s.data.toList, Ydh b
theorem Yhe {a b : ByteArray} (ha : Ymg a) (hb : Ymg b) : Ymg (a ++ b) := by
 intro c hc
 rw [ByteArray.data_append, Array.toList_append] at hc
 rcases List.mem_append.1 hc with h | h
 ·exact ha c h
 ·exact hb c h
theorem safe_mark (b : UInt8) : ∀ c ∈ Ypf [] b, Ydh c := by
 unfold Ydh; revert b; exact Yad Zia
theorem Ylm (part l : List UInt8) : ∀ c ∈ Yoc part l, Ydh c := by
 intro c hc
 unfold Yoc at hc
 obtain ⟨b, _, hc⟩ := List.mem_flatMap.1 hc
 unfold Yug at hc
 split at hc
 ·next h =>
  simp only [Bool.and_eq_true, decide_eq_true_eq] at h
  obtain rfl := List.mem_singleton.1 hc
  exact ⟨Zl, Zl⟩
 ·exact safe_mark b c hc
theorem safe_ok (b : UInt8) (h : okB b = true) : Ydh b := by
 unfold okB at h
 simp only [Bool.and_eq_true, decide_eq_true_eq] at h
 exact ⟨Zl, Zl⟩
theorem Yxl (r : List (List UInt8)) (c : UInt8) (h : c ∈ Lib.joinTail [47] r) : c = 47 ∨ ∃ y ∈ r, c ∈ y := by
 induction r with
 | nil => simp [Lib.joinTail] at h
 | cons y r ih =>
  have e : Lib.joinTail [47] (y :: r) = 47 :: (y ++ Lib.joinTail [47] r) := by simp [Lib.joinTail]
  rw [e] at h
  rcases List.mem_cons.1 h with h | h
  ·exact .inl h
  ·rcases List.mem_append.1 h with h | h
   ·exact .inr ⟨y, Zv, h⟩
   ·rcases ih h with h | ⟨z, hz, h⟩
    ·exact .inl h
    ·exact .inr ⟨z, by simp [hz], h⟩
theorem safe_path (l : List UInt8) : ∀ c ∈ Ydf l, Ydh c := by
 obtain ⟨x, r, e, h⟩ := Yek l
 intro c hc
 rw [e] at hc
 rcases List.mem_cons.1 hc with rfl | hc
 ·exact ⟨Zea, Zea⟩
 ·rcases List.mem_append.1 hc with hc | hc
  ·exact safe_ok c ((h x Zv).1 c hc)
  ·rcases Yxl r c hc with rfl | ⟨y, hy, hc⟩
   ·exact ⟨Zea, Zea⟩
   ·exact safe_ok c ((h y (by simp [hy])).1 c hc)
theorem Ycp (c : UInt8) (l : List UInt8) : ∀ b ∈ l, b = c ∨ ∃ y ∈ splitB c l, b ∈ y := by
 induction l with
 | nil => intro b hb; cases hb
 | cons a l ih =>
  intro b hb
  rw [splitB]
  by_cases hac : a = c
  ·rw [if_pos hac]
   rcases List.mem_cons.1 hb with rfl | hb
   ·exact .inl hac
   ·rcases ih b hb with h | ⟨y, hy, h⟩
    ·exact .inl h
    ·exact .inr ⟨y, by simp [hy], h⟩
  ·rw [if_neg hac]
   cases hs : splitB c l with
   | nil => exact absurd hs (Ytf c l)
   | cons x r =>
    rw [hs] at ih
    rcases List.mem_cons.1 hb with rfl | hb
    ·exact .inr ⟨b :: x, by simp [Yof], Zv⟩
    ·rcases ih b hb with h | ⟨y, hy, h⟩
     ·exact .inl h
     ·rcases List.mem_cons.1 hy with rfl | hy
      ·exact .inr ⟨a :: y, by simp [Yof], by simp [h]⟩
      ·exact .inr ⟨y, by simp [Yof, hy], h⟩
theorem Yiu (b : UInt8) : Yvk b = true → Ydh b := by
 unfold Ydh; revert b; exact Yad Zia
theorem safe_name (l : List UInt8) (h : Yqi l = true) : ∀ c ∈ l, Ydh c := by
 intro c hc
 unfold Yqi at h
 rw [Bool.and_eq_true] at h
 rcases Ycp 46 l c hc with rfl | ⟨y, hy, hc⟩
 ·exact ⟨Zea, Zea⟩
 ·have := List.all_eq_true.1 h.1 y hy
  unfold Yuk at this
  rw [Bool.and_eq_true] at this
  exact Yiu c (List.all_eq_true.1 this.1 c hc)
theorem Yxs : ∀ (f v : Nat) (n : Int), n ∈ digs f v → 48 ≤ n ∧ n ≤ 57 := by
 intro f
 induction f with
 | zero => intro v n h; cases h
 | succ f ih =>
  intro v n h
  unfold digs at h
  split at h
  ·cases h
  ·rcases List.mem_cons.1 h with rfl | h
   ·omega
   ·exact ih _ n h
theorem safe_text (v : Nat) : Ymg (strOfNums (Yxf v)) := by
 intro b hb
 have hm : ∀ n ∈ Yxf v, (48 : Int) ≤ n ∧ n ≤ 57 := by
  intro n hn
  unfold Yxf at hn
  split at hn
  ·obtain rfl := List.mem_singleton.1 hn; omega
  ·exact Yxs 20 v n (List.mem_reverse.1 hn)
 unfold strOfNums at hb
 simp only [] at hb
 obtain ⟨n, hn, rfl⟩ := List.mem_map.1 hb
 have := hm n hn
 unfold Ydh
 rw [UInt8.toNat_ofNat']
 omega
theorem Yus {u1 u2 : ByteArray} {u3 : Int} {u4 u5 u6 : ByteArray} {u7 u8 : Bool} {host r : List UInt8} (h : Yqo u1 u2 u3 u4 u5 u6 u7 u8 host r) : Ymg (Ype u1 u2 u3 u4 u5 u6 u7 u8) := by
 have s1 : Ymg u1 := by
  rcases h.sch with e | e <;> (subst e; unfold Ymg Ydh; decide)
 have s2 : Ymg u2 := by
  have := h.hostEq; subst this
  exact safe_name host h.name
 have s4 : Ymg u4 := by
  have := h.path; subst this
  exact safe_path _
 have hz : Ymg ⟨#[]⟩ := fun b hb => by cases hb
 have s5 : Ymg u5 := by
  have := h.query; subst this
  unfold Yhc
  split
  ·exact Ylm _ _
  ·exact hz
 have s6 : Ymg u6 := by
  have := h.frag; subst this
  unfold Ypc
  split
  ·exact Ylm _ _
  ·exact hz
 have c1 : Ymg ⟨#[58, 47, 47]⟩ := by unfold Ymg Ydh; decide
 have c2 : Ymg ⟨#[58]⟩ := by unfold Ymg Ydh; decide
 have c3 : Ymg ⟨#[63]⟩ := by unfold Ymg Ydh; decide
 have c4 : Ymg ⟨#[35]⟩ := by unfold Ymg Ydh; decide
 have so : Ymg (Yie u1 u2 u3) := by
  unfold Yie
  split
  ·exact Yhe (Yhe s1 c1) s2
  ·exact Yhe (Yhe (Yhe s1 c1) s2) (Yhe c2 (safe_text _))
 have sq : Ymg (Yei (Yie u1 u2 u3 ++ u4) u5 u7) := by
  unfold Yei
  split
  ·exact Yhe (Yhe so s4) (Yhe c3 s5)
  ·exact Yhe so s4
 unfold Ype Yvi
 split
 ·exact Yhe sq (Yhe c4 s6)
 ·exact sq
end Go.Proofs.YtnmglnglbdpjjaaGreatDoor.X
namespace Go.Proofs.YtnmglnglbdpjjaaGreatDoor.X
open Go.RowKit Go.Lib Go.Yw.PrintWords Go.Yw.PrintLast
set_option linter.unusedVariables false
set_option linter.unusedSimpArgs false
theorem Ytk (c : UInt8) : ∀ l : List UInt8, c ∉ l → Lib.indexByte l c = -1 := by
 intro l
 induction l with
 | nil => intro _; rfl
 | cons b l ih =>
  intro h
  rw [Lib.indexByte, if_neg (by rw [beq_iff_eq]; exact fun e => h (by simp [e])), ih (fun hm => h (by simp [hm]))]; rfl
theorem Ygr (c : UInt8) : ∀ (a b : List UInt8), c ∉ a → Lib.indexByte (a ++ c :: b) c = (a.length : Int) := by
 intro a
 induction a with
 | nil => intro b _; rw [List.nil_append, Lib.indexByte, if_pos Zv]; rfl
 | cons x a ih =>
  intro b h
  rw [List.cons_append, Lib.indexByte, if_neg (by rw [beq_iff_eq]; exact fun e => h (by simp [e])), ih b (fun hm => h (by simp [hm])), if_neg (by rw [beq_iff_eq]; omega)]
  simp
theorem Ycr (c : UInt8) (a b : List UInt8) (h : c ∉ a) : Lib.cut (a ++ c :: b) [c] = (a, b, true) := by
 unfold Lib.cut
 rw [Lib.index_one, Ygr c a b h, if_pos Zl, Int.toNat_natCast]
 simp
theorem cut_miss (c : UInt8) (a : List UInt8) (h : c ∉ a) : Lib.cut a [c] = (a, [], false) := by
 unfold Lib.cut
 rw [Lib.index_one, Ytk c a h, if_neg Zl]
theorem Yzj (p : UInt8 → Bool) (a b : List UInt8) (h : ∀ x ∈ a, p x = true) : (a ++ b).takeWhile p = a ++ b.takeWhile p ∧ (a ++ b).dropWhile p = b.dropWhile p := by
 induction a with
 | nil => exact ⟨rfl, rfl⟩
 | cons x a ih =>
  have hx := h x Zv
  have := ih (fun y hy => h y (by simp [hy]))
  rw [List.cons_append, List.takeWhile_cons, List.dropWhile_cons, if_pos hx, if_pos hx, this.1, this.2]
  exact ⟨rfl, rfl⟩
def Yaj (v : Nat) : List UInt8 := (Yxf v).map fun n => UInt8.ofNat n.toNat
theorem Yfq (v : Nat) : (strOfNums (Yxf v)).data.toList = Yaj v := by unfold strOfNums Yaj; rfl
theorem Yzo (d : Nat) (h : d < 10) : Ykd (UInt8.ofNat ((48 + (d : Int)).toNat)) = true ∧ (((UInt8.ofNat ((48 + (d : Int)).toNat)).toNat : Nat) : Int) - 48 = (d : Int) := by
 have e : (48 + (d : Int)).toNat = 48 + d := by omega
 rw [e]
 have e2 : (UInt8.ofNat (48 + d)).toNat = 48 + d := by rw [UInt8.toNat_ofNat']; omega
 refine ⟨?_, by rw [e2]; omega⟩
 unfold Ykd
 rw [e2]
 simp; omega
theorem fold_text (most : Int) : ∀ (f v : Nat), v < 10 ^ f → (v : Int) ≤ most → ∀ B : List UInt8, Yje most false 0 (((digs f v).reverse.map fun n => UInt8.ofNat n.toNat) ++ B) = Yje most false (v : Int) B := by
 intro f
 induction f with
 | zero =>
  intro v hv _ B
  have : v = 0 := by simpa using hv
  subst this; rfl
 | succ f ih =>
  intro v hv hm B
  by_cases h0 : v = 0
  ·subst h0; rfl
  ·rw [digs, if_neg h0, List.reverse_cons, List.map_append, List.append_assoc, ih (v / 10) (by rw [Nat.pow_succ] at hv; omega) Zl]
   have hd := Yzo (v % 10) Zl
   rw [List.map_cons, List.map_nil, List.cons_append, List.nil_append, Yje, if_pos hd.1, hd.2, if_neg Zmb]
   congr 1; omega
theorem Yto (v : Nat) (h0 : v ≠ 0) (h : v ≤ 65535) : numL 65535 (Yaj v) = ((v : Int), 0) := by
 have hne : Yaj v ≠ [] := by
  unfold Yaj Yxf
  rw [if_neg h0]
  intro e
  have := congrArg List.length e
  rw [List.length_map, List.length_reverse, digs, if_neg h0] at this
  simp at this
 unfold numL
 rw [if_neg hne]
 have := fold_text 65535 20 v Zl Zl []
 rw [List.append_nil] at this
 unfold Yaj Yxf
 rw [if_neg h0, this]; rfl
theorem Ycn (v : Nat) : ∀ b ∈ Yaj v, Ykd b = true := by
 intro b hb
 unfold Yaj at hb
 obtain ⟨n, hn, rfl⟩ := List.mem_map.1 hb
 have hm : (48 : Int) ≤ n ∧ n ≤ 57 := by
  unfold Yxf at hn
  split at hn
  ·obtain rfl := List.mem_singleton.1 hn; omega
  ·exact Yxs 20 v n (List.mem_reverse.1 hn)
 have := Yzo (n - 48).toNat Zl
 rw [show (48 : Int) + ((n - 48).toNat : Int) = n by omega] at this
 exact this.1
theorem unmark_id : ∀ l : List UInt8, (37 : UInt8) ∉ l → Ymb l = l := by
 intro l
 induction l with
 | nil => intro _; rfl
 | cons b l ih =>
  intro h
  rw [Yem b l (.inl (fun e => h (by simp [e]))), ih (fun hm => h (by simp [hm]))]
theorem low_twice (l : List UInt8) : lowL (lowL l) = lowL l := by
 have hb : ∀ b : UInt8, lowB (lowB b) = lowB b := by exact Yad Zia
 unfold lowL
 rw [List.map_map]
 exact List.map_congr_left fun b _ => hb b
theorem Ygq (b : UInt8) : (Yvk b = true ∨ b = 46) → b ≠ 37 ∧ b ≠ 47 ∧ b ≠ 92 ∧ b ≠ 63 ∧ b ≠ 35 ∧ b ≠ 58 ∧ b ≠ 64 := by
 revert b; exact Yad Zia
theorem Yio {l : List UInt8} (h : Yqi l = true) : ∀ b ∈ l, b ≠ 37 ∧ b ≠ 47 ∧ b ≠ 92 ∧ b ≠ 63 ∧ b ≠ 35 ∧ b ≠ 58 ∧ b ≠ 64 := by
 intro b hb
 unfold Yqi at h
 rw [Bool.and_eq_true] at h
 rcases Ycp 46 l b hb with e | ⟨y, hy, hc⟩
 ·exact Ygq b (.inr e)
 ·have := List.all_eq_true.1 h.1 y hy
  unfold Yuk at this
  rw [Bool.and_eq_true] at this
  exact Ygq b (.inl (List.all_eq_true.1 this.1 b hc))
theorem Yht {host : List UInt8} (hne : host ≠ []) (hn : Yqi host = true) (hl : ∃ m, host = lowL (Ymb m)) : Ykf host = (host, 0) := by
 have hu : Ymb host = host := unmark_id host (fun h => (Yio hn 37 h).1 rfl)
 have hlo : lowL host = host := by obtain ⟨m, rfl⟩ := hl; exact low_twice _
 unfold Ykf
 rw [hu, hlo, if_neg hne, if_pos hn]
theorem Ymo (part : List UInt8) (h37 : part.contains 37 = false) (hx : ∀ n : Fin 16, part.contains (hexB n.val) = false) (l : List UInt8) : Yoc part (Yoc part l) = Yoc part l := by
 have h1 : ∀ b : UInt8, ∀ c ∈ Yug part b, Yug part c = [c] := by
  intro b c hc
  have keep : ∀ d : UInt8, (32 < d.toNat ∧ d.toNat < 127) → part.contains d = false → Yug part d = [d] := by
   intro d hd hp
   unfold Yug
   rw [hp, decide_eq_true hd.1, decide_eq_true hd.2]; rfl
  have hs := Ylm part [b] c (by unfold Yoc; simpa using hc)
  have tA : 32 < c.toNat ∧ c.toNat < 127 := ⟨by have := hs.1; omega, by have := hs.2; omega⟩
  unfold Yug at hc
  split at hc
  ·next h =>
   obtain rfl := List.mem_singleton.1 hc
   simp only [Bool.and_eq_true, decide_eq_true_eq, Bool.not_eq_true'] at h
   exact keep c tA h.2.2
  ·next h =>
   unfold Ypf at hc
   split at hc
   ·next hp =>
    obtain rfl := List.mem_singleton.1 hc
    by_cases hpc : part.contains c = true
    ·unfold Yug
     rw [if_neg h]
     unfold Ypf
     rw [if_pos hp]
    ·exact keep c tA (by cases hq : part.contains c <;> simp_all)
   ·simp only [List.mem_cons, List.mem_nil_iff, or_false] at hc
    rcases hc with rfl | rfl | rfl
    ·exact keep _ tA h37
    ·exact keep _ tA (hx ⟨b.toNat / 16, by have := b.toNat_lt; omega⟩)
    ·exact keep _ tA (hx ⟨b.toNat % 16, Zl⟩)
 have h2 : ∀ l : List UInt8, (∀ c ∈ l, Yug part c = [c]) → Yoc part l = l := by
  intro l
  induction l with
  | nil => intro _; rfl
  | cons c l ih =>
   intro h
   unfold Yoc at ih ⊢
   rw [List.flatMap_cons, h c Zv, ih (fun d hd => h d (by simp [hd]))]; rfl
 refine h2 _ fun c hc => ?_
 unfold Yoc at hc
 obtain ⟨b, _, hc⟩ := List.mem_flatMap.1 hc
 exact h1 b c hc
theorem part_no (part : List UInt8) (x : UInt8) (hp : part.contains x = true) (hx : x ≠ 37 ∧ (∀ n : Fin 16, hexB n.val ≠ x) ∧ Yhk x = false) (l : List UInt8) : x ∉ Yoc part l := by
 intro hc
 unfold Yoc at hc
 obtain ⟨b, _, hc⟩ := List.mem_flatMap.1 hc
 unfold Yug at hc
 split at hc
 ·next h =>
  obtain rfl := List.mem_singleton.1 hc
  rw [hp] at h
  simp at h
 ·unfold Ypf at hc
  split at hc
  ·next h =>
   obtain rfl := List.mem_singleton.1 hc
   rw [hx.2.2] at h
   simp at h
  ·simp only [List.mem_cons, List.mem_nil_iff, or_false] at hc
   rcases hc with h | h | h
   ·exact hx.1 h
   ·exact hx.2.1 ⟨b.toNat / 16, by have := b.toNat_lt; omega⟩ h.symm
   ·exact hx.2.1 ⟨b.toNat % 16, Zl⟩ h.symm
end Go.Proofs.YtnmglnglbdpjjaaGreatDoor.X
namespace Go.Proofs.YtnmglnglbdpjjaaGreatDoor.X
open Go.RowKit Go.Lib Go.Yw.PrintWords Go.Yw.PrintLast
set_option linter.unusedVariables false
set_option linter.unusedSimpArgs false
def Yme (p : Int) : List UInt8 := if p = 0 then [] else 58 :: Yaj p.toNat
def Ywd (q : List UInt8) (h : Bool) : List UInt8 := if h = true then 63 :: q else []
def Yyd (f : List UInt8) (h : Bool) : List UInt8 := if h = true then 35 :: f else []
theorem Ymi (a b : ByteArray) : (a ++ b).data.toList = a.data.toList ++ b.data.toList := by rw [ByteArray.data_append, Array.toList_append]
theorem Ybg (sch host : List UInt8) (p : Int) (path query frag : List UInt8) (hq hf : Bool) :
  (Ype (ofL sch) (ofL host) p (ofL path) (ofL query) (ofL frag) hq hf).data.toList = sch ++ 58 :: 47 :: 47 :: (host ++ (Yme p ++ (path ++ (Ywd query hq ++ Yyd frag hf)))) := by
 have h1 : (⟨#[58, 47, 47]⟩ : ByteArray).data.toList = [58, 47, 47] := rfl
 have h2 : (⟨#[58]⟩ : ByteArray).data.toList = [58] := rfl
 have h3 : (⟨#[63]⟩ : ByteArray).data.toList = [63] := rfl
 have h4 : (⟨#[35]⟩ : ByteArray).data.toList = [35] := rfl
 have ho : (Yie (ofL sch) (ofL host) p).data.toList = sch ++ 58 :: 47 :: 47 :: (host ++ Yme p) := by
  unfold Yie Yme
  split
  ·simp only [Ymi, Ygb, h1]; simp
  ·simp only [Ymi, Ygb, h1, h2, Yfq]; simp
 unfold Ype Yvi Yei Ywd Yyd
 cases hq <;> cases hf <;> simp [Ymi, Ygb, h3, h4, ho]
theorem Ydq (p : UInt8 → Bool) (l : List UInt8) (h : ∀ b ∈ l, p b = false) : l.dropWhile p = l := by
 cases l with
 | nil => rfl
 | cons b t => rw [List.dropWhile_cons, h b Zv]; rfl
theorem Ykj (l : List UInt8) (h : ∀ b ∈ l, Ydh b) : Yre l = l := by
 have hl : ∀ b : UInt8, Ydh b → Yjh b = false ∧ (b != 9) = true ∧ (b != 10) = true ∧ (b != 13) = true := by
  unfold Ydh; exact Yad Zia
 have ht : Yph l = l := by
  unfold Yph
  rw [Ydq Yjh l (fun b hb => (hl b (h b hb)).1), Ydq Yjh l.reverse (fun b hb => (hl b (h b (List.mem_reverse.1 hb))).1), List.reverse_reverse]
 unfold Yre
 rw [ht, List.filter_eq_self.2 (fun b hb => (hl b (h b hb)).2.1), List.filter_eq_self.2 (fun b hb => (hl b (h b hb)).2.2.1), List.filter_eq_self.2 (fun b hb => (hl b (h b hb)).2.2.2)]
structure Canon (sch host : List UInt8) (p : Int) (path query frag : List UInt8) (hq hf : Bool) : Prop where
 schIs : sch = Ykh ∨ sch = Yfg
 hostNe : host ≠ []
 hostIs : Ykf host = (host, 0)
 hostB : ∀ b ∈ host, b ≠ 37 ∧ b ≠ 47 ∧ b ≠ 92 ∧ b ≠ 63 ∧ b ≠ 35 ∧ b ≠ 58 ∧ b ≠ 64
 p0 : 0 ≤ p
 p1 : p ≤ 65535
 pOwn : p ≠ ownN sch
 pathIs : ∃ l, path = Ydf l
 queryIs : (hq = true ∧ ∃ q, query = Yoc Yog q) ∨ (hq = false ∧ query = [])
 fragIs : (hf = true ∧ ∃ q, frag = Yoc Yzg q) ∨ (hf = false ∧ frag = [])
 safe : Ymg (Ype (ofL sch) (ofL host) p (ofL path) (ofL query) (ofL frag) hq hf)
 size : (Ype (ofL sch) (ofL host) p (ofL path) (ofL query) (ofL frag) hq hf).size ≤ 2048
theorem Ylu (l : List UInt8) : ∀ b ∈ Ydf l, b ≠ 63 ∧ b ≠ 35 := by
 obtain ⟨x, r, e, h⟩ := Yek l
 have hk : ∀ b : UInt8, okB b = true → b ≠ 63 ∧ b ≠ 35 := by exact Yad Zia
 intro c hc
 rw [e] at hc
 rcases List.mem_cons.1 hc with rfl | hc
 ·decide
 ·rcases List.mem_append.1 hc with hc | hc
  ·exact hk c ((h x Zv).1 c hc)
  ·rcases Yxl r c hc with rfl | ⟨y, hy, hc⟩
   ·decide
   ·exact hk c ((h y (by simp [hy])).1 c hc)
theorem Yxo {path query frag : List UInt8} {hq hf : Bool} (h1 : ∃ l, path = Ydf l) (h2 : (hq = true ∧ ∃ q, query = Yoc Yog q) ∨ (hq = false ∧ query = [])) (h3 : (hf = true ∧ ∃ q, frag = Yoc Yzg q) ∨ (hf = false ∧ frag = [])) :
  Ymd (path ++ (Ywd query hq ++ Yyd frag hf)) = ofL path ∧ Yhc (path ++ (Ywd query hq ++ Yyd frag hf)) = ofL query ∧ Ypc (path ++ (Ywd query hq ++ Yyd frag hf)) = ofL frag ∧
   Yid (path ++ (Ywd query hq ++ Yyd frag hf)) = hq ∧ Yfd (path ++ (Ywd query hq ++ Yyd frag hf)) = hf := by
 obtain ⟨l, rfl⟩ := h1
 have hp : ∀ x ∈ Ydf l, Ybb [63, 35] x = true := by
  intro x hx
  have := Ylu l x hx
  unfold Ybb
  simp [this.1, this.2]
 have hta := Yzj (Ybb [63, 35]) (Ydf l) (Ywd query hq ++ Yyd frag hf) hp
 have hqn : hq = true → ∀ x ∈ query, Ybb [35] x = true := by
  intro hh x hx
  rcases h2 with ⟨_, q, rfl⟩ | ⟨e, _⟩
  ·have := part_no Yog 35 Zea Zea q
   unfold Ybb
   have hne : x ≠ 35 := fun e => this (e ▸ hx)
   simp [hne]
  ·rw [hh] at e; cases e
 have hhead : Ywi (Ydf l ++ (Ywd query hq ++ Yyd frag hf)) = Ydf l := by
  unfold Ywi
  rw [hta.1]
  unfold Ywd Yyd
  cases hq <;> cases hf <;> simp [List.takeWhile_cons, Ybb]
 have hbehind : Yfe (Ydf l ++ (Ywd query hq ++ Yyd frag hf)) = Ywd query hq ++ Yyd frag hf := by
  unfold Yfe
  rw [hta.2]
  unfold Ywd Yyd
  cases hq <;> cases hf <;> simp [List.dropWhile_cons, Ybb]
 have hquery : Ybf (Ywd query hq ++ Yyd frag hf) = if hq = true then some query else none := by
  cases hq with
  | true =>
   have := (Yzj (Ybb [35]) query (Yyd frag hf) (hqn rfl)).1
   show (if (63 : UInt8) = 63 then some ((query ++ Yyd frag hf).takeWhile (Ybb [35])) else none) = _
   rw [if_pos rfl, if_pos rfl, this]
   unfold Yyd
   cases hf <;> simp [List.takeWhile_cons, Ybb]
  | false =>
   unfold Ywd Yyd
   cases hf <;> simp [Ybf]
 have hafter : Yfb (Ywd query hq ++ Yyd frag hf) = Yyd frag hf := by
  cases hq with
  | true =>
   have := (Yzj (Ybb [35]) query (Yyd frag hf) (hqn rfl)).2
   show (if (63 : UInt8) = 63 then (query ++ Yyd frag hf).dropWhile (Ybb [35]) else (63 :: (query ++ Yyd frag hf))) = _
   rw [if_pos rfl, this]
   unfold Yyd
   cases hf <;> simp [List.dropWhile_cons, Ybb]
  | false =>
   unfold Ywd Yyd
   cases hf <;> simp [Yfb]
 have hfrag : Yrf (Yyd frag hf) = if hf = true then some frag else none := by
  unfold Yyd
  cases hf <;> simp [Yrf]
 refine ⟨?_, ?_, ?_, ?_, ?_⟩
 ·unfold Ymd; rw [hhead, Yqs]
 ·unfold Yhc; rw [hbehind, hquery]
  rcases h2 with ⟨rfl, q, rfl⟩ | ⟨rfl, rfl⟩
  ·simp only [if_true]; rw [Ymo Yog Zea Zea]
  ·rfl
 ·unfold Ypc; rw [hbehind, hafter, hfrag]
  rcases h3 with ⟨rfl, q, rfl⟩ | ⟨rfl, rfl⟩
  ·simp only [if_true]; rw [Ymo Yzg Zea Zea]
  ·rfl
 ·unfold Yid; rw [hbehind, hquery]; cases hq <;> rfl
 ·unfold Yfd; rw [hbehind, hafter, hfrag]; cases hf <;> rfl
theorem round {sch host : List UInt8} {p : Int} {path query frag : List UInt8} {hq hf : Bool} (h : Canon sch host p path query frag hq hf) :
  Ypg (Ype (ofL sch) (ofL host) p (ofL path) (ofL query) (ofL frag) hq hf).data.toList = (ofL sch, ofL host, p, ofL path, ofL query, ofL frag, hq, hf, 0) := by
 have hcl := Ykj _ h.safe
 unfold Ypg
 rw [hcl]
 unfold Ytm
 rw [← Lib.size_eq, if_neg (by have := h.size; omega), Ybg]
 have hT := Yxo h.pathIs h.queryIs h.fragIs
 have hpath : ∃ t, path = 47 :: t := by obtain ⟨l, rfl⟩ := h.pathIs; exact ⟨_, rfl⟩
 have hsize := h.size
 generalize hTT : path ++ (Ywd query hq ++ Yyd frag hf) = T at hT
 have hs : Yhf (sch ++ 58 :: 47 :: 47 :: (host ++ (Yme p ++ T))) ⟨#[]⟩ = (0, ofL (47 :: 47 :: (host ++ (Yme p ++ T))), ofL sch) := by
  unfold Yhf
  rw [Ycr 58 sch _ (by rcases h.schIs with e | e <;> rw [e] <;> decide)]
  simp only []
  rcases h.schIs with e | e <;> subst e
  ·rw [if_pos Zia, if_pos Zia]; rfl
  ·rw [if_pos Zia, if_pos Zia]; rfl
 rw [hs]
 unfold Yap
 simp only [not_true_eq_false, if_false, Ygb]
 obtain ⟨b0, ht, xF⟩ : ∃ b0 ht, host = b0 :: ht := by
  cases hh : host with
  | nil => exact absurd hh h.hostNe
  | cons b t => exact ⟨b, t, rfl⟩
 have hset : ∀ x ∈ host ++ Yme p, Ybb [47, 92, 63, 35] x = true := by
  intro x hx
  have key : ∀ y : UInt8, y ≠ 47 → y ≠ 92 → y ≠ 63 → y ≠ 35 → Ybb [47, 92, 63, 35] y = true := by
   intro y h1 h2 h3 h4; unfold Ybb; simp [h1, h2, h3, h4]
  rcases List.mem_append.1 hx with hx | hx
  ·have := h.hostB x hx; exact key x this.2.1 this.2.2.1 this.2.2.2.1 this.2.2.2.2.1
  ·unfold Yme at hx
   split at hx
   ·cases hx
   ·rcases List.mem_cons.1 hx with rfl | hx
    ·decide
    ·have hd := Ycn p.toNat x hx
     have hdig : ∀ y : UInt8, Ykd y = true → Ybb [47, 92, 63, 35] y = true := by exact Yad Zia
     exact hdig x hd
 have htrim : Lib.trimLeftS (47 :: 47 :: (host ++ (Yme p ++ T))) [47, 92] = host ++ (Yme p ++ T) := by
  have hb := h.hostB b0 (by rw [xF]; simp)
  unfold Lib.trimLeftS
  rw [xF, List.cons_append, List.dropWhile_cons, if_pos Zea, List.dropWhile_cons, if_pos Zea, List.dropWhile_cons, if_neg (by simp [hb.2.1, hb.2.2.1])]
 have hTstop : T.takeWhile (Ybb [47, 92, 63, 35]) = [] ∧ T.dropWhile (Ybb [47, 92, 63, 35]) = T := by
  obtain ⟨t, e⟩ := hpath
  rw [← hTT, e]
  constructor
  ·rw [List.cons_append, List.takeWhile_cons, if_neg Zea]
  ·rw [List.cons_append, List.dropWhile_cons, if_neg Zea]
 have hph : Ytb (47 :: 47 :: (host ++ (Yme p ++ T))) = host ++ Yme p ∧ Yzf (47 :: 47 :: (host ++ (Yme p ++ T))) = T := by
  unfold Ytb Yzf
  rw [htrim, ← List.append_assoc]
  have := Yzj (Ybb [47, 92, 63, 35]) (host ++ Yme p) T hset
  rw [this.1, this.2, hTstop.1, hTstop.2, List.append_nil]
  exact ⟨rfl, rfl⟩
 have h58 : (58 : UInt8) ∉ host := fun hm => (h.hostB 58 hm).2.2.2.2.2.1 rfl
 have h64 : (64 : UInt8) ∉ host ++ Yme p := by
  intro hm
  rcases List.mem_append.1 hm with hm | hm
  ·exact (h.hostB 64 hm).2.2.2.2.2.2 rfl
  ·unfold Yme at hm
   split at hm
   ·cases hm
   ·rcases List.mem_cons.1 hm with e | hm
    ·exact absurd e Zea
    ·exact absurd (Ycn p.toNat 64 hm) Zea
 have hcut : Lib.cut (host ++ Yme p) [58] = if p = 0 then (host, [], false) else (host, Yaj p.toNat, true) := by
  unfold Yme
  split
  ·rw [List.append_nil, cut_miss 58 host h58]
  ·rw [Ycr 58 host _ h58]
 have hplace : Ysf (47 :: 47 :: (host ++ (Yme p ++ T))) sch ⟨#[]⟩ 0 = (0, ofL T, ofL host, p) := by
  unfold Ysf
  have hia : Lib.indexAny (47 :: 47 :: (host ++ (Yme p ++ T))) [47, 92] = 0 := by
   rw [Lib.indexAny, if_pos Zea]
  rw [if_pos hia, hph.1, hph.2, Ytk 64 _ h64, if_neg Zea, hcut]
  by_cases hp0 : p = 0
  ·subst hp0
   simp only [if_true, h.hostIs]
  ·simp only [if_neg hp0, h.hostIs, if_true]
   have hp2 := h.p0
   have hp3 := h.p1
   have hnt := Yto p.toNat Zl Zl
   have hne : Yaj p.toNat ≠ [] := by
    intro e
    unfold numL at hnt
    rw [if_pos e] at hnt
    exact absurd (show (3 : Int) = 0 from congrArg Prod.snd hnt) Zea
   rw [if_neg hne, hnt]
   simp only [if_true]
   rw [Int.toNat_of_nonneg h.p0, if_neg h.pOwn]
 rw [hplace]
 unfold Yrm
 simp only [not_true_eq_false, if_false, Ygb]
 unfold Yjq
 rw [hT.1, hT.2.1, hT.2.2.1, hT.2.2.2.1, hT.2.2.2.2, if_neg Zl]
end Go.Proofs.YtnmglnglbdpjjaaGreatDoor.X
namespace Go.Proofs.YtnmglnglbdpjjaaGreatDoor.X
open Go.RowKit Go.Lib Go.Yw.PrintWords Go.Yw.PrintLast
set_option linter.unusedVariables false
set_option linter.unusedSimpArgs false
theorem canon_of {u1 u2 : ByteArray} {u3 : Int} {u4 u5 u6 : ByteArray} {u7 u8 : Bool} {host r : List UInt8} (h : Yqo u1 u2 u3 u4 u5 u6 u7 u8 host r) :
  ∃ sch path query frag, u1 = ofL sch ∧ u2 = ofL host ∧ u4 = ofL path ∧ u5 = ofL query ∧ u6 = ofL frag ∧ Canon sch host u3 path query frag u7 u8 := by
 have hq : (u7 = true ∧ ∃ q, u5 = ofL (Yoc Yog q)) ∨ (u7 = false ∧ u5 = ofL []) := by
  have h1 := h.query
  have h2 := h.hasQ
  unfold Yhc at h1
  unfold Yid at h2
  cases hx : Ybf (Yfe r) with
  | none => rw [hx] at h1 h2; exact .inr ⟨h2, h1⟩
  | some q => rw [hx] at h1 h2; exact .inl ⟨h2, q, h1⟩
 have hf : (u8 = true ∧ ∃ q, u6 = ofL (Yoc Yzg q)) ∨ (u8 = false ∧ u6 = ofL []) := by
  have h1 := h.frag
  have h2 := h.hasF
  unfold Ypc at h1
  unfold Yfd at h2
  cases hx : Yrf (Yfb (Yfe r)) with
  | none => rw [hx] at h1 h2; exact .inr ⟨h2, h1⟩
  | some q => rw [hx] at h1 h2; exact .inl ⟨h2, q, h1⟩
 have hs : ∃ sch, u1 = ofL sch ∧ (sch = Ykh ∨ sch = Yfg) := by
  rcases h.sch with e | e
  ·exact ⟨_, e, .inl rfl⟩
  ·exact ⟨_, e, .inr rfl⟩
 have cV : ∃ query, u5 = ofL query ∧ ((u7 = true ∧ ∃ q, query = Yoc Yog q) ∨ (u7 = false ∧ query = [])) := by
  rcases hq with ⟨e1, q, e2⟩ | ⟨e1, e2⟩
  ·exact ⟨_, e2, .inl ⟨e1, q, rfl⟩⟩
  ·exact ⟨_, e2, .inr ⟨e1, rfl⟩⟩
 have sZ : ∃ frag, u6 = ofL frag ∧ ((u8 = true ∧ ∃ q, frag = Yoc Yzg q) ∨ (u8 = false ∧ frag = [])) := by
  rcases hf with ⟨e1, q, e2⟩ | ⟨e1, e2⟩
  ·exact ⟨_, e2, .inl ⟨e1, q, rfl⟩⟩
  ·exact ⟨_, e2, .inr ⟨e1, rfl⟩⟩
 have hsafe := Yus h
 have hsize := h.size
 have hown := h.own
 obtain ⟨sch, rfl, hs⟩ := hs
 obtain ⟨query, rfl, hq3⟩ := cV
 obtain ⟨frag, rfl, hf3⟩ := sZ
 have hp := h.path
 have hho := h.hostEq
 subst hp hho
 rw [Ygb] at hown
 exact ⟨sch, Ydf (Ywi r), query, frag, rfl, rfl, rfl, rfl, rfl, hs, h.ne, Yht h.ne h.name h.low, Yio h.name, h.p0, h.p1, hown, ⟨_, rfl⟩, hq3, hf3, hsafe, hsize⟩
end Go.Proofs.YtnmglnglbdpjjaaGreatDoor.X
