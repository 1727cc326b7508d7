/- Good URLs: what is parsed has good parts; good parts' text is parsed as they are. -/
import Derived.Test.YtnmglnglbdpjjaaGreatDoorUjWords
import Derived.Test.YtnmglnglbdpjjaaGreatDoorUjPq
import Derived.Lib.IndexBytes
import Derived.KernelRfl
namespace Go.Proofs.YtnmglnglbdpjjaaGreatDoor.X
open Go.RowKit Go.Lib Go.Yw.PrintWords Go.Yw.PrintLast
set_option linter.unusedVariables false
set_option linter.unusedSimpArgs false
structure Yyn (u1 u2 : ByteArray) (u3 : Int) (u4 u5 u6 : ByteArray) (u7 u8 : Bool) (host r : List UInt8) : Prop where
 sch : u1 = ofL Ydh ∨ u1 = ofL Yeg
 hostEq : u2 = ofL host
 ne : host ≠ []
 name : Yli host = true
 low : ∃ m, host = lowL (Ylb m)
 p0 : 0 ≤ u3
 p1 : u3 ≤ 65535
 path : u4 = Ydd r
 query : u5 = Yac r
 frag : u6 = Ylc r
 hasQ : u7 = Yvc r
 hasF : u8 = Yqc r
 size : (Yjd u1 u2 u3 u4 u5 u6 u7 u8).size ≤ 2048
 rest : r.length ≤ 2048
 own : u3 ≠ ownN u1.data.toList
theorem Ydq {l : List UInt8} {u1 u2 : ByteArray} {u3 : Int} {u4 u5 u6 : ByteArray} {u7 u8 : Bool} (h : Yrf l = (u1, u2, u3, u4, u5, u6, u7, u8, 0)) : ∃ host r, Yyn u1 u2 u3 u4 u5 u6 u7 u8 host r := by
 unfold Yrf Yjl at h
 generalize Yhe l = c at h
 by_cases h1 : (c.length : Int) > 2048
 ·rw [if_pos h1] at h
  simp only [Ytb, Prod.mk.injEq] at h
  exact absurd h.2.2.2.2.2.2.2.2 Zda
 ·rw [if_neg h1] at h
  unfold Ymm at h
  have hrl := (Ykl c [58]).2
  by_cases h2 : (Yaf c ⟨#[]⟩).1 = 0
  ·rw [if_neg (by simpa using h2)] at h
   have hs : (lowL (Lib.cut c [58]).1 = Ydh ∨ lowL (Lib.cut c [58]).1 = Yeg) ∧ Yaf c ⟨#[]⟩ = (0, ofL (Lib.cut c [58]).2.1, ofL (lowL (Lib.cut c [58]).1)) := by
    unfold Yaf at h2 ⊢
    split at h2
    ·next hc =>
     rw [if_pos hc]
     by_cases hl : lowL (Lib.cut c [58]).1 = Ydh ∨ lowL (Lib.cut c [58]).1 = Yeg
     ·exact ⟨hl, by rw [if_pos hl]⟩
     ·simp only [if_neg hl] at h2
      exact absurd h2 Zda
    ·exact absurd (show (3 : Int) = 0 from h2) Zda
   rw [hs.2] at h
   simp only [Yob] at h
   unfold Yol at h
   have hps := Yem (Lib.cut c [58]).2.1 (lowL (Lib.cut c [58]).1)
   by_cases h3 : (Ylf (Lib.cut c [58]).2.1 (lowL (Lib.cut c [58]).1) ⟨#[]⟩ 0).1 = 0
   ·rw [if_neg (by simpa using h3)] at h
    have hown0 : (0 : Int) ≠ ownN (lowL (Lib.cut c [58]).1) := by unfold ownN; split <;> decide
    have hh : ∃ m, (Yff m).2 = 0 ∧ (Ylf (Lib.cut c [58]).2.1 (lowL (Lib.cut c [58]).1) ⟨#[]⟩ 0).2.2.1 = ofL (Yff m).1 ∧ (Ylf (Lib.cut c [58]).2.1 (lowL (Lib.cut c [58]).1) ⟨#[]⟩ 0).2.2.2 ≠ ownN (lowL (Lib.cut c [58]).1) := by
     refine ⟨(Lib.cut (Yub (Lib.cut c [58]).2.1) [58]).1, ?_⟩
     revert h3
     unfold Ylf
     split
     ·split
      ·intro h3; exact absurd (show (3 : Int) = 0 from h3) Zda
      ·split
       ·next h5 =>
        split
        ·intro _; exact ⟨h5, rfl, hown0⟩
        ·split
         ·split
          ·intro _; exact ⟨h5, rfl, hown0⟩
          ·next h7 => intro _; exact ⟨h5, rfl, h7⟩
         ·intro h3; exact absurd (show (3 : Int) = 0 from h3) Zda
       ·next h5 => intro h3; exact absurd h3 h5
     ·intro h3; exact absurd (show (3 : Int) = 0 from h3) Zda
    obtain ⟨m, hm1, hm2, hm4⟩ := hh
    have hm3 : (Yff m).1 = lowL (Ylb m) ∧ lowL (Ylb m) ≠ [] ∧ Yli (lowL (Ylb m)) = true := by
     unfold Yff at hm1 ⊢
     by_cases e1 : lowL (Ylb m) = []
     ·rw [if_pos e1] at hm1; exact absurd hm1 Zda
     ·rw [if_neg e1] at hm1 ⊢
      by_cases e2 : Yli (lowL (Ylb m)) = true
      ·rw [if_pos e2]; exact ⟨rfl, e1, e2⟩
      ·rw [if_neg e2] at hm1; exact absurd hm1 Zda
    generalize Ylf (Lib.cut c [58]).2.1 (lowL (Lib.cut c [58]).1) ⟨#[]⟩ 0 = y at h hps hm2 hm4 h3
    unfold Yzn at h
    split at h
    ·simp only [Ytb, Prod.mk.injEq] at h
     exact absurd h.2.2.2.2.2.2.2.2 Zda
    ·next hsz =>
     simp only [Prod.mk.injEq] at h
     obtain ⟨rfl, rfl, rfl, rfl, rfl, rfl, rfl, rfl, _⟩ := h
     refine ⟨(Yff m).1, y.2.1.data.toList, ?_⟩
     refine ⟨?_, hm2, by rw [hm3.1]; exact hm3.2.1, by rw [hm3.1]; exact hm3.2.2, ⟨m, hm3.1⟩, hps.2.2.1, hps.2.2.2, rfl, rfl, rfl, rfl, rfl, Zl, ?_, ?_⟩
     ·rcases hs.1 with e | e <;> rw [e]
      ·exact .inl rfl
      ·exact .inr rfl
     ·have := hps.1
      rw [Lib.size_eq] at this
      omega
     ·rw [Yob]; exact hm4
   ·rw [if_pos (by simpa using h3)] at h
    simp only [Ytb, Prod.mk.injEq] at h
    exact absurd h.2.2.2.2.2.2.2.2 h3
  ·rw [if_pos (by simpa using h2)] at h
   simp only [Ytb, Prod.mk.injEq] at h
   exact absurd h.2.2.2.2.2.2.2.2 h2
def Yvf (b : UInt8) : Prop := 33 ≤ b.toNat ∧ b.toNat ≤ 126
def Yig (s : ByteArray) : Prop := ∀ b ∈ s.data.toList, Yvf b
theorem Ybe {a b : ByteArray} (ha : Yig a) (hb : Yig b) : Yig (a ++ b) := by
 intro c hc
 rw [ByteArray.data_append, Array.toList_append] at hc
 rcases List.mem_append.1 hc with h | h
 ·exact ha c h
 ·exact hb c h
theorem safe_mark (b : UInt8) : ∀ c ∈ Ykf [] b, Yvf c := by
 unfold Yvf; revert b; exact Yxc Zia
theorem Yej (part l : List UInt8) : ∀ c ∈ Ydc part l, Yvf c := by
 intro c hc
 unfold Ydc at hc
 obtain ⟨b, _, hc⟩ := List.mem_flatMap.1 hc
 unfold Yqg at hc
 split at hc
 ·next h =>
  simp only [Bool.and_eq_true, decide_eq_true_eq] at h
  obtain rfl := List.mem_singleton.1 hc
  exact ⟨Zl, Zl⟩
 ·exact safe_mark b c hc
theorem safe_ok (b : UInt8) (h : okB b = true) : Yvf b := by
 unfold okB at h
 simp only [Bool.and_eq_true, decide_eq_true_eq] at h
 exact ⟨Zl, Zl⟩
theorem Yjm (r : List (List UInt8)) (c : UInt8) (h : c ∈ Lib.joinTail [47] r) : c = 47 ∨ ∃ y ∈ r, c ∈ y := by
 induction r with
 | nil => simp [Lib.joinTail] at h
 | cons y r ih =>
  have e : Lib.joinTail [47] (y :: r) = 47 :: (y ++ Lib.joinTail [47] r) := by simp [Lib.joinTail]
  rw [e] at h
  rcases List.mem_cons.1 h with h | h
  ·exact .inl h
  ·rcases List.mem_append.1 h with h | h
   ·exact .inr ⟨y, Zv, h⟩
   ·rcases ih h with h | ⟨z, hz, h⟩
    ·exact .inl h
    ·exact .inr ⟨z, by simp [hz], h⟩
theorem Ywp (l : List UInt8) : ∀ c ∈ Yre l, Yvf c := by
 obtain ⟨x, r, e, h⟩ := Ydk l
 intro c hc
 rw [e] at hc
 rcases List.mem_cons.1 hc with rfl | hc
 ·exact ⟨Zda, Zda⟩
 ·rcases List.mem_append.1 hc with hc | hc
  ·exact safe_ok c ((h x Zv).1 c hc)
  ·rcases Yjm r c hc with rfl | ⟨y, hy, hc⟩
   ·exact ⟨Zda, Zda⟩
   ·exact safe_ok c ((h y (by simp [hy])).1 c hc)
theorem Yuo (c : UInt8) (l : List UInt8) : ∀ b ∈ l, b = c ∨ ∃ y ∈ splitB c l, b ∈ y := by
 induction l with
 | nil => intro b hb; cases hb
 | cons a l ih =>
  intro b hb
  rw [splitB]
  by_cases hac : a = c
  ·rw [if_pos hac]
   rcases List.mem_cons.1 hb with rfl | hb
   ·exact .inl hac
   ·rcases ih b hb with h | ⟨y, hy, h⟩
    ·exact .inl h
    ·exact .inr ⟨y, by simp [hy], h⟩
  ·rw [if_neg hac]
   cases hs : splitB c l with
   | nil => exact absurd hs (Ymf c l)
   | cons x r =>
    rw [hs] at ih
    rcases List.mem_cons.1 hb with rfl | hb
    ·exact .inr ⟨b :: x, by simp [Yjf], Zv⟩
    ·rcases ih b hb with h | ⟨y, hy, h⟩
     ·exact .inl h
     ·rcases List.mem_cons.1 hy with rfl | hy
      ·exact .inr ⟨a :: y, by simp [Yjf], by simp [h]⟩
      ·exact .inr ⟨y, by simp [Yjf, hy], h⟩
theorem Yyt (b : UInt8) : Yxk b = true → Yvf b := by
 unfold Yvf; revert b; exact Yxc Zia
theorem safe_name (l : List UInt8) (h : Yli l = true) : ∀ c ∈ l, Yvf c := by
 intro c hc
 unfold Yli at h
 rw [Bool.and_eq_true] at h
 rcases Yuo 46 l c hc with rfl | ⟨y, hy, hc⟩
 ·exact ⟨Zda, Zda⟩
 ·have := List.all_eq_true.1 h.1 y hy
  unfold Ytk at this
  rw [Bool.and_eq_true] at this
  exact Yyt c (List.all_eq_true.1 this.1 c hc)
theorem Yrr : ∀ (f v : Nat) (n : Int), n ∈ digs f v → 48 ≤ n ∧ n ≤ 57 := by
 intro f
 induction f with
 | zero => intro v n h; cases h
 | succ f ih =>
  intro v n h
  unfold digs at h
  split at h
  ·cases h
  ·rcases List.mem_cons.1 h with rfl | h
   ·omega
   ·exact ih _ n h
theorem safe_text (v : Nat) : Yig (strOfNums (Yqf v)) := by
 intro b hb
 have hm : ∀ n ∈ Yqf v, (48 : Int) ≤ n ∧ n ≤ 57 := by
  intro n hn
  unfold Yqf at hn
  split at hn
  ·obtain rfl := List.mem_singleton.1 hn; omega
  ·exact Yrr 20 v n (List.mem_reverse.1 hn)
 unfold strOfNums at hb
 simp only [] at hb
 obtain ⟨n, hn, rfl⟩ := List.mem_map.1 hb
 have := hm n hn
 unfold Yvf
 rw [UInt8.toNat_ofNat']
 omega
theorem Yns {u1 u2 : ByteArray} {u3 : Int} {u4 u5 u6 : ByteArray} {u7 u8 : Bool} {host r : List UInt8} (h : Yyn u1 u2 u3 u4 u5 u6 u7 u8 host r) : Yig (Yjd u1 u2 u3 u4 u5 u6 u7 u8) := by
 have s1 : Yig u1 := by
  rcases h.sch with e | e <;> (subst e; unfold Yig Yvf; decide)
 have s2 : Yig u2 := by
  have := h.hostEq; subst this
  exact safe_name host h.name
 have s4 : Yig u4 := by
  have := h.path; subst this
  exact Ywp _
 have hz : Yig ⟨#[]⟩ := fun b hb => by cases hb
 have s5 : Yig u5 := by
  have := h.query; subst this
  unfold Yac
  split
  ·exact Yej _ _
  ·exact hz
 have s6 : Yig u6 := by
  have := h.frag; subst this
  unfold Ylc
  split
  ·exact Yej _ _
  ·exact hz
 have c1 : Yig ⟨#[58, 47, 47]⟩ := by unfold Yig Yvf; decide
 have c2 : Yig ⟨#[58]⟩ := by unfold Yig Yvf; decide
 have c3 : Yig ⟨#[63]⟩ := by unfold Yig Yvf; decide
 have c4 : Yig ⟨#[35]⟩ := by unfold Yig Yvf; decide
 have so : Yig (Ysf u1 u2 u3) := by
  unfold Ysf
  split
  ·exact Ybe (Ybe s1 c1) s2
  ·exact Ybe (Ybe (Ybe s1 c1) s2) (Ybe c2 (safe_text _))
 have sq : Yig (Yij (Ysf u1 u2 u3 ++ u4) u5 u7) := by
  unfold Yij
  split
  ·exact Ybe (Ybe so s4) (Ybe c3 s5)
  ·exact Ybe so s4
 unfold Yjd Yjk
 split
 ·exact Ybe sq (Ybe c4 s6)
 ·exact sq
end Go.Proofs.YtnmglnglbdpjjaaGreatDoor.X
namespace Go.Proofs.YtnmglnglbdpjjaaGreatDoor.X
open Go.RowKit Go.Lib Go.Yw.PrintWords Go.Yw.PrintLast
set_option linter.unusedVariables false
set_option linter.unusedSimpArgs false
theorem Ybl (c : UInt8) : ∀ l : List UInt8, c ∉ l → Lib.indexByte l c = -1 := by
 intro l
 induction l with
 | nil => intro _; rfl
 | cons b l ih =>
  intro h
  rw [Lib.indexByte, if_neg (by rw [beq_iff_eq]; exact fun e => h (by simp [e])), ih (fun hm => h (by simp [hm]))]; rfl
theorem Yqq (c : UInt8) : ∀ (a b : List UInt8), c ∉ a → Lib.indexByte (a ++ c :: b) c = (a.length : Int) := by
 intro a
 induction a with
 | nil => intro b _; rw [List.nil_append, Lib.indexByte, if_pos Zv]; rfl
 | cons x a ih =>
  intro b h
  rw [List.cons_append, Lib.indexByte, if_neg (by rw [beq_iff_eq]; exact fun e => h (by simp [e])), ih b (fun hm => h (by simp [hm])), if_neg (by rw [beq_iff_eq]; omega)]
  simp
theorem Yer (c : UInt8) (a b : List UInt8) (h : c ∉ a) : Lib.cut (a ++ c :: b) [c] = (a, b, true) := by
 unfold Lib.cut
 rw [Lib.index_one, Yqq c a b h, if_pos Zl, Int.toNat_natCast]
 simp
theorem cut_miss (c : UInt8) (a : List UInt8) (h : c ∉ a) : Lib.cut a [c] = (a, [], false) := by
 unfold Lib.cut
 rw [Lib.index_one, Ybl c a h, if_neg Zl]
theorem Yul (p : UInt8 → Bool) (a b : List UInt8) (h : ∀ x ∈ a, p x = true) : (a ++ b).takeWhile p = a ++ b.takeWhile p ∧ (a ++ b).dropWhile p = b.dropWhile p := by
 induction a with
 | nil => exact ⟨rfl, rfl⟩
 | cons x a ih =>
  have hx := h x Zv
  have := ih (fun y hy => h y (by simp [hy]))
  rw [List.cons_append, List.takeWhile_cons, List.dropWhile_cons, if_pos hx, if_pos hx, this.1, this.2]
  exact ⟨rfl, rfl⟩
def Yoj (v : Nat) : List UInt8 := (Yqf v).map fun n => UInt8.ofNat n.toNat
theorem text_data (v : Nat) : (strOfNums (Yqf v)).data.toList = Yoj v := by unfold strOfNums Yoj; rfl
theorem Yrn (d : Nat) (h : d < 10) : Yed (UInt8.ofNat ((48 + (d : Int)).toNat)) = true ∧ (((UInt8.ofNat ((48 + (d : Int)).toNat)).toNat : Nat) : Int) - 48 = (d : Int) := by
 have e : (48 + (d : Int)).toNat = 48 + d := by omega
 rw [e]
 have e2 : (UInt8.ofNat (48 + d)).toNat = 48 + d := by rw [UInt8.toNat_ofNat']; omega
 refine ⟨?_, by rw [e2]; omega⟩
 unfold Yed
 rw [e2]
 simp; omega
theorem fold_text (most : Int) : ∀ (f v : Nat), v < 10 ^ f → (v : Int) ≤ most → ∀ B : List UInt8, Yae most false 0 (((digs f v).reverse.map fun n => UInt8.ofNat n.toNat) ++ B) = Yae most false (v : Int) B := by
 intro f
 induction f with
 | zero =>
  intro v hv _ B
  have : v = 0 := by simpa using hv
  subst this; rfl
 | succ f ih =>
  intro v hv hm B
  by_cases h0 : v = 0
  ·subst h0; rfl
  ·rw [digs, if_neg h0, List.reverse_cons, List.map_append, List.append_assoc, ih (v / 10) (by rw [Nat.pow_succ] at hv; omega) Zl]
   have hd := Yrn (v % 10) Zl
   rw [List.map_cons, List.map_nil, List.cons_append, List.nil_append, Yae, if_pos hd.1, hd.2, if_neg Zob]
   congr 1; omega
theorem num_text (v : Nat) (h0 : v ≠ 0) (h : v ≤ 65535) : numL 65535 (Yoj v) = ((v : Int), 0) := by
 have hne : Yoj v ≠ [] := by
  unfold Yoj Yqf
  rw [if_neg h0]
  intro e
  have := congrArg List.length e
  rw [List.length_map, List.length_reverse, digs, if_neg h0] at this
  simp at this
 unfold numL
 rw [if_neg hne]
 have := fold_text 65535 20 v Zl Zl []
 rw [List.append_nil] at this
 unfold Yoj Yqf
 rw [if_neg h0, this]; rfl
theorem Yvm (v : Nat) : ∀ b ∈ Yoj v, Yed b = true := by
 intro b hb
 unfold Yoj at hb
 obtain ⟨n, hn, rfl⟩ := List.mem_map.1 hb
 have hm : (48 : Int) ≤ n ∧ n ≤ 57 := by
  unfold Yqf at hn
  split at hn
  ·obtain rfl := List.mem_singleton.1 hn; omega
  ·exact Yrr 20 v n (List.mem_reverse.1 hn)
 have := Yrn (n - 48).toNat Zl
 rw [show (48 : Int) + ((n - 48).toNat : Int) = n by omega] at this
 exact this.1
theorem unmark_id : ∀ l : List UInt8, (37 : UInt8) ∉ l → Ylb l = l := by
 intro l
 induction l with
 | nil => intro _; rfl
 | cons b l ih =>
  intro h
  rw [Yzl b l (.inl (fun e => h (by simp [e]))), ih (fun hm => h (by simp [hm]))]
theorem low_twice (l : List UInt8) : lowL (lowL l) = lowL l := by
 have hb : ∀ b : UInt8, lowB (lowB b) = lowB b := by exact Yxc Zia
 unfold lowL
 rw [List.map_map]
 exact List.map_congr_left fun b _ => hb b
theorem Yvp (b : UInt8) : (Yxk b = true ∨ b = 46) → b ≠ 37 ∧ b ≠ 47 ∧ b ≠ 92 ∧ b ≠ 63 ∧ b ≠ 35 ∧ b ≠ 58 ∧ b ≠ 64 := by
 revert b; exact Yxc Zia
theorem Yxn {l : List UInt8} (h : Yli l = true) : ∀ b ∈ l, b ≠ 37 ∧ b ≠ 47 ∧ b ≠ 92 ∧ b ≠ 63 ∧ b ≠ 35 ∧ b ≠ 58 ∧ b ≠ 64 := by
 intro b hb
 unfold Yli at h
 rw [Bool.and_eq_true] at h
 rcases Yuo 46 l b hb with e | ⟨y, hy, hc⟩
 ·exact Yvp b (.inr e)
 ·have := List.all_eq_true.1 h.1 y hy
  unfold Ytk at this
  rw [Bool.and_eq_true] at this
  exact Yvp b (.inl (List.all_eq_true.1 this.1 b hc))
theorem Yut {host : List UInt8} (hne : host ≠ []) (hn : Yli host = true) (hl : ∃ m, host = lowL (Ylb m)) : Yff host = (host, 0) := by
 have hu : Ylb host = host := unmark_id host (fun h => (Yxn hn 37 h).1 rfl)
 have hlo : lowL host = host := by obtain ⟨m, rfl⟩ := hl; exact low_twice _
 unfold Yff
 rw [hu, hlo, if_neg hne, if_pos hn]
theorem Yho (part : List UInt8) (h37 : part.contains 37 = false) (hx : ∀ n : Fin 16, part.contains (hexB n.val) = false) (l : List UInt8) : Ydc part (Ydc part l) = Ydc part l := by
 have h1 : ∀ b : UInt8, ∀ c ∈ Yqg part b, Yqg part c = [c] := by
  intro b c hc
  have keep : ∀ d : UInt8, (32 < d.toNat ∧ d.toNat < 127) → part.contains d = false → Yqg part d = [d] := by
   intro d hd hp
   unfold Yqg
   rw [hp, decide_eq_true hd.1, decide_eq_true hd.2]; rfl
  have hs := Yej part [b] c (by unfold Ydc; simpa using hc)
  have hs2 : 32 < c.toNat ∧ c.toNat < 127 := ⟨by have := hs.1; omega, by have := hs.2; omega⟩
  unfold Yqg at hc
  split at hc
  ·next h =>
   obtain rfl := List.mem_singleton.1 hc
   simp only [Bool.and_eq_true, decide_eq_true_eq, Bool.not_eq_true'] at h
   exact keep c hs2 h.2.2
  ·next h =>
   unfold Ykf at hc
   split at hc
   ·next hp =>
    obtain rfl := List.mem_singleton.1 hc
    by_cases hpc : part.contains c = true
    ·unfold Yqg
     rw [if_neg h]
     unfold Ykf
     rw [if_pos hp]
    ·exact keep c hs2 (by cases hq : part.contains c <;> simp_all)
   ·simp only [List.mem_cons, List.mem_nil_iff, or_false] at hc
    rcases hc with rfl | rfl | rfl
    ·exact keep _ hs2 h37
    ·exact keep _ hs2 (hx ⟨b.toNat / 16, by have := b.toNat_lt; omega⟩)
    ·exact keep _ hs2 (hx ⟨b.toNat % 16, Zl⟩)
 have h2 : ∀ l : List UInt8, (∀ c ∈ l, Yqg part c = [c]) → Ydc part l = l := by
  intro l
  induction l with
  | nil => intro _; rfl
  | cons c l ih =>
   intro h
   unfold Ydc at ih ⊢
   rw [List.flatMap_cons, h c Zv, ih (fun d hd => h d (by simp [hd]))]; rfl
 refine h2 _ fun c hc => ?_
 unfold Ydc at hc
 obtain ⟨b, _, hc⟩ := List.mem_flatMap.1 hc
 exact h1 b c hc
theorem part_no (part : List UInt8) (x : UInt8) (hp : part.contains x = true) (hx : x ≠ 37 ∧ (∀ n : Fin 16, hexB n.val ≠ x) ∧ Ysj x = false) (l : List UInt8) : x ∉ Ydc part l := by
 intro hc
 unfold Ydc at hc
 obtain ⟨b, _, hc⟩ := List.mem_flatMap.1 hc
 unfold Yqg at hc
 split at hc
 ·next h =>
  obtain rfl := List.mem_singleton.1 hc
  rw [hp] at h
  simp at h
 ·unfold Ykf at hc
  split at hc
  ·next h =>
   obtain rfl := List.mem_singleton.1 hc
   rw [hx.2.2] at h
   simp at h
  ·simp only [List.mem_cons, List.mem_nil_iff, or_false] at hc
   rcases hc with h | h | h
   ·exact hx.1 h
   ·exact hx.2.1 ⟨b.toNat / 16, by have := b.toNat_lt; omega⟩ h.symm
   ·exact hx.2.1 ⟨b.toNat % 16, Zl⟩ h.symm
end Go.Proofs.YtnmglnglbdpjjaaGreatDoor.X
namespace Go.Proofs.YtnmglnglbdpjjaaGreatDoor.X
open Go.RowKit Go.Lib Go.Yw.PrintWords Go.Yw.PrintLast
set_option linter.unusedVariables false
set_option linter.unusedSimpArgs false
def Ylg (p : Int) : List UInt8 := if p = 0 then [] else 58 :: Yoj p.toNat
def Yqe (q : List UInt8) (h : Bool) : List UInt8 := if h = true then 63 :: q else []
def Yge (f : List UInt8) (h : Bool) : List UInt8 := if h = true then 35 :: f else []
theorem Yrj (a b : ByteArray) : (a ++ b).data.toList = a.data.toList ++ b.data.toList := by rw [ByteArray.data_append, Array.toList_append]
theorem Yng (sch host : List UInt8) (p : Int) (path query frag : List UInt8) (hq hf : Bool) :
  (Yjd (ofL sch) (ofL host) p (ofL path) (ofL query) (ofL frag) hq hf).data.toList = sch ++ 58 :: 47 :: 47 :: (host ++ (Ylg p ++ (path ++ (Yqe query hq ++ Yge frag hf)))) := by
 have h1 : (⟨#[58, 47, 47]⟩ : ByteArray).data.toList = [58, 47, 47] := rfl
 have h2 : (⟨#[58]⟩ : ByteArray).data.toList = [58] := rfl
 have h3 : (⟨#[63]⟩ : ByteArray).data.toList = [63] := rfl
 have h4 : (⟨#[35]⟩ : ByteArray).data.toList = [35] := rfl
 have ho : (Ysf (ofL sch) (ofL host) p).data.toList = sch ++ 58 :: 47 :: 47 :: (host ++ Ylg p) := by
  unfold Ysf Ylg
  split
  ·simp only [Yrj, Yob, h1]; simp
  ·simp only [Yrj, Yob, h1, h2, text_data]; simp
 unfold Yjd Yjk Yij Yqe Yge
 cases hq <;> cases hf <;> simp [Yrj, Yob, h3, h4, ho]
theorem Yeq (p : UInt8 → Bool) (l : List UInt8) (h : ∀ b ∈ l, p b = false) : l.dropWhile p = l := by
 cases l with
 | nil => rfl
 | cons b t => rw [List.dropWhile_cons, h b Zv]; rfl
theorem Ypn (l : List UInt8) (h : ∀ b ∈ l, Yvf b) : Yhe l = l := by
 have hl : ∀ b : UInt8, Yvf b → Ych b = false ∧ (b != 9) = true ∧ (b != 10) = true ∧ (b != 13) = true := by
  unfold Yvf; exact Yxc Zia
 have ht : Ymh l = l := by
  unfold Ymh
  rw [Yeq Ych l (fun b hb => (hl b (h b hb)).1), Yeq Ych l.reverse (fun b hb => (hl b (h b (List.mem_reverse.1 hb))).1), List.reverse_reverse]
 unfold Yhe
 rw [ht, List.filter_eq_self.2 (fun b hb => (hl b (h b hb)).2.1), List.filter_eq_self.2 (fun b hb => (hl b (h b hb)).2.2.1), List.filter_eq_self.2 (fun b hb => (hl b (h b hb)).2.2.2)]
structure Canon (sch host : List UInt8) (p : Int) (path query frag : List UInt8) (hq hf : Bool) : Prop where
 schIs : sch = Ydh ∨ sch = Yeg
 hostNe : host ≠ []
 hostIs : Yff host = (host, 0)
 hostB : ∀ b ∈ host, b ≠ 37 ∧ b ≠ 47 ∧ b ≠ 92 ∧ b ≠ 63 ∧ b ≠ 35 ∧ b ≠ 58 ∧ b ≠ 64
 p0 : 0 ≤ p
 p1 : p ≤ 65535
 pOwn : p ≠ ownN sch
 pathIs : ∃ l, path = Yre l
 queryIs : (hq = true ∧ ∃ q, query = Ydc Ygf q) ∨ (hq = false ∧ query = [])
 fragIs : (hf = true ∧ ∃ q, frag = Ydc Ytf q) ∨ (hf = false ∧ frag = [])
 safe : Yig (Yjd (ofL sch) (ofL host) p (ofL path) (ofL query) (ofL frag) hq hf)
 size : (Yjd (ofL sch) (ofL host) p (ofL path) (ofL query) (ofL frag) hq hf).size ≤ 2048
theorem Yju (l : List UInt8) : ∀ b ∈ Yre l, b ≠ 63 ∧ b ≠ 35 := by
 obtain ⟨x, r, e, h⟩ := Ydk l
 have hk : ∀ b : UInt8, okB b = true → b ≠ 63 ∧ b ≠ 35 := by exact Yxc Zia
 intro c hc
 rw [e] at hc
 rcases List.mem_cons.1 hc with rfl | hc
 ·decide
 ·rcases List.mem_append.1 hc with hc | hc
  ·exact hk c ((h x Zv).1 c hc)
  ·rcases Yjm r c hc with rfl | ⟨y, hy, hc⟩
   ·decide
   ·exact hk c ((h y (by simp [hy])).1 c hc)
theorem Yht {path query frag : List UInt8} {hq hf : Bool} (h1 : ∃ l, path = Yre l) (h2 : (hq = true ∧ ∃ q, query = Ydc Ygf q) ∨ (hq = false ∧ query = [])) (h3 : (hf = true ∧ ∃ q, frag = Ydc Ytf q) ∨ (hf = false ∧ frag = [])) :
  Ydd (path ++ (Yqe query hq ++ Yge frag hf)) = ofL path ∧ Yac (path ++ (Yqe query hq ++ Yge frag hf)) = ofL query ∧ Ylc (path ++ (Yqe query hq ++ Yge frag hf)) = ofL frag ∧
   Yvc (path ++ (Yqe query hq ++ Yge frag hf)) = hq ∧ Yqc (path ++ (Yqe query hq ++ Yge frag hf)) = hf := by
 obtain ⟨l, rfl⟩ := h1
 have hp : ∀ x ∈ Yre l, Yza [63, 35] x = true := by
  intro x hx
  have := Yju l x hx
  unfold Yza
  simp [this.1, this.2]
 have hta := Yul (Yza [63, 35]) (Yre l) (Yqe query hq ++ Yge frag hf) hp
 have hqn : hq = true → ∀ x ∈ query, Yza [35] x = true := by
  intro hh x hx
  rcases h2 with ⟨_, q, rfl⟩ | ⟨e, _⟩
  ·have := part_no Ygf 35 Zda Zda q
   unfold Yza
   have hne : x ≠ 35 := fun e => this (e ▸ hx)
   simp [hne]
  ·rw [hh] at e; cases e
 have hhead : Ypi (Yre l ++ (Yqe query hq ++ Yge frag hf)) = Yre l := by
  unfold Ypi
  rw [hta.1]
  unfold Yqe Yge
  cases hq <;> cases hf <;> simp [List.takeWhile_cons, Yza]
 have hbehind : Yod (Yre l ++ (Yqe query hq ++ Yge frag hf)) = Yqe query hq ++ Yge frag hf := by
  unfold Yod
  rw [hta.2]
  unfold Yqe Yge
  cases hq <;> cases hf <;> simp [List.dropWhile_cons, Yza]
 have hquery : Yoe (Yqe query hq ++ Yge frag hf) = if hq = true then some query else none := by
  cases hq with
  | true =>
   have := (Yul (Yza [35]) query (Yge frag hf) (hqn rfl)).1
   show (if (63 : UInt8) = 63 then some ((query ++ Yge frag hf).takeWhile (Yza [35])) else none) = _
   rw [if_pos rfl, if_pos rfl, this]
   unfold Yge
   cases hf <;> simp [List.takeWhile_cons, Yza]
  | false =>
   unfold Yqe Yge
   cases hf <;> simp [Yoe]
 have hafter : Ycb (Yqe query hq ++ Yge frag hf) = Yge frag hf := by
  cases hq with
  | true =>
   have := (Yul (Yza [35]) query (Yge frag hf) (hqn rfl)).2
   show (if (63 : UInt8) = 63 then (query ++ Yge frag hf).dropWhile (Yza [35]) else (63 :: (query ++ Yge frag hf))) = _
   rw [if_pos rfl, this]
   unfold Yge
   cases hf <;> simp [List.dropWhile_cons, Yza]
  | false =>
   unfold Yqe Yge
   cases hf <;> simp [Ycb]
 have hfrag : Ycf (Yge frag hf) = if hf = true then some frag else none := by
  unfold Yge
  cases hf <;> simp [Ycf]
 refine ⟨?_, ?_, ?_, ?_, ?_⟩
 ·unfold Ydd; rw [hhead, Ygs]
 ·unfold Yac; rw [hbehind, hquery]
  rcases h2 with ⟨rfl, q, rfl⟩ | ⟨rfl, rfl⟩
  ·simp only [if_true]; rw [Yho Ygf Zda Zda]
  ·rfl
 ·unfold Ylc; rw [hbehind, hafter, hfrag]
  rcases h3 with ⟨rfl, q, rfl⟩ | ⟨rfl, rfl⟩
  ·simp only [if_true]; rw [Yho Ytf Zda Zda]
  ·rfl
 ·unfold Yvc; rw [hbehind, hquery]; cases hq <;> rfl
 ·unfold Yqc; rw [hbehind, hafter, hfrag]; cases hf <;> rfl
theorem round {sch host : List UInt8} {p : Int} {path query frag : List UInt8} {hq hf : Bool} (h : Canon sch host p path query frag hq hf) :
  Yrf (Yjd (ofL sch) (ofL host) p (ofL path) (ofL query) (ofL frag) hq hf).data.toList = (ofL sch, ofL host, p, ofL path, ofL query, ofL frag, hq, hf, 0) := by
 have hcl := Ypn _ h.safe
 unfold Yrf
 rw [hcl]
 unfold Yjl
 rw [← Lib.size_eq, if_neg (by have := h.size; omega), Yng]
 have hT := Yht h.pathIs h.queryIs h.fragIs
 have hpath : ∃ t, path = 47 :: t := by obtain ⟨l, rfl⟩ := h.pathIs; exact ⟨_, rfl⟩
 have hsize := h.size
 generalize hTT : path ++ (Yqe query hq ++ Yge frag hf) = T at hT
 have hs : Yaf (sch ++ 58 :: 47 :: 47 :: (host ++ (Ylg p ++ T))) ⟨#[]⟩ = (0, ofL (47 :: 47 :: (host ++ (Ylg p ++ T))), ofL sch) := by
  unfold Yaf
  rw [Yer 58 sch _ (by rcases h.schIs with e | e <;> rw [e] <;> decide)]
  simp only []
  rcases h.schIs with e | e <;> subst e
  ·rw [if_pos Zia, if_pos Zia]; rfl
  ·rw [if_pos Zia, if_pos Zia]; rfl
 rw [hs]
 unfold Ymm
 simp only [not_true_eq_false, if_false, Yob]
 obtain ⟨b0, ht, hb0⟩ : ∃ b0 ht, host = b0 :: ht := by
  cases hh : host with
  | nil => exact absurd hh h.hostNe
  | cons b t => exact ⟨b, t, rfl⟩
 have hset : ∀ x ∈ host ++ Ylg p, Yza [47, 92, 63, 35] x = true := by
  intro x hx
  have key : ∀ y : UInt8, y ≠ 47 → y ≠ 92 → y ≠ 63 → y ≠ 35 → Yza [47, 92, 63, 35] y = true := by
   intro y h1 h2 h3 h4; unfold Yza; simp [h1, h2, h3, h4]
  rcases List.mem_append.1 hx with hx | hx
  ·have := h.hostB x hx; exact key x this.2.1 this.2.2.1 this.2.2.2.1 this.2.2.2.2.1
  ·unfold Ylg at hx
   split at hx
   ·cases hx
   ·rcases List.mem_cons.1 hx with rfl | hx
    ·decide
    ·have hd := Yvm p.toNat x hx
     have hdig : ∀ y : UInt8, Yed y = true → Yza [47, 92, 63, 35] y = true := by exact Yxc Zia
     exact hdig x hd
 have htrim : Lib.trimLeftS (47 :: 47 :: (host ++ (Ylg p ++ T))) [47, 92] = host ++ (Ylg p ++ T) := by
  have hb := h.hostB b0 (by rw [hb0]; simp)
  unfold Lib.trimLeftS
  rw [hb0, List.cons_append, List.dropWhile_cons, if_pos Zda, List.dropWhile_cons, if_pos Zda, List.dropWhile_cons, if_neg (by simp [hb.2.1, hb.2.2.1])]
 have hTstop : T.takeWhile (Yza [47, 92, 63, 35]) = [] ∧ T.dropWhile (Yza [47, 92, 63, 35]) = T := by
  obtain ⟨t, e⟩ := hpath
  rw [← hTT, e]
  constructor
  ·rw [List.cons_append, List.takeWhile_cons, if_neg Zda]
  ·rw [List.cons_append, List.dropWhile_cons, if_neg Zda]
 have hph : Yub (47 :: 47 :: (host ++ (Ylg p ++ T))) = host ++ Ylg p ∧ Yuf (47 :: 47 :: (host ++ (Ylg p ++ T))) = T := by
  unfold Yub Yuf
  rw [htrim, ← List.append_assoc]
  have := Yul (Yza [47, 92, 63, 35]) (host ++ Ylg p) T hset
  rw [this.1, this.2, hTstop.1, hTstop.2, List.append_nil]
  exact ⟨rfl, rfl⟩
 have h58 : (58 : UInt8) ∉ host := fun hm => (h.hostB 58 hm).2.2.2.2.2.1 rfl
 have h64 : (64 : UInt8) ∉ host ++ Ylg p := by
  intro hm
  rcases List.mem_append.1 hm with hm | hm
  ·exact (h.hostB 64 hm).2.2.2.2.2.2 rfl
  ·unfold Ylg at hm
   split at hm
   ·cases hm
   ·rcases List.mem_cons.1 hm with e | hm
    ·exact absurd e Zda
    ·exact absurd (Yvm p.toNat 64 hm) Zda
 have hcut : Lib.cut (host ++ Ylg p) [58] = if p = 0 then (host, [], false) else (host, Yoj p.toNat, true) := by
  unfold Ylg
  split
  ·rw [List.append_nil, cut_miss 58 host h58]
  ·rw [Yer 58 host _ h58]
 have hplace : Ylf (47 :: 47 :: (host ++ (Ylg p ++ T))) sch ⟨#[]⟩ 0 = (0, ofL T, ofL host, p) := by
  unfold Ylf
  have hia : Lib.indexAny (47 :: 47 :: (host ++ (Ylg p ++ T))) [47, 92] = 0 := by
   rw [Lib.indexAny, if_pos Zda]
  rw [if_pos hia, hph.1, hph.2, Ybl 64 _ h64, if_neg Zda, hcut]
  by_cases hp0 : p = 0
  ·subst hp0
   simp only [if_true, h.hostIs]
  ·simp only [if_neg hp0, h.hostIs, if_true]
   have hp2 := h.p0
   have hp3 := h.p1
   have hnt := num_text p.toNat Zl Zl
   have hne : Yoj p.toNat ≠ [] := by
    intro e
    unfold numL at hnt
    rw [if_pos e] at hnt
    exact absurd (show (3 : Int) = 0 from congrArg Prod.snd hnt) Zda
   rw [if_neg hne, hnt]
   simp only [if_true]
   rw [Int.toNat_of_nonneg h.p0, if_neg h.pOwn]
 rw [hplace]
 unfold Yol
 simp only [not_true_eq_false, if_false, Yob]
 unfold Yzn
 rw [hT.1, hT.2.1, hT.2.2.1, hT.2.2.2.1, hT.2.2.2.2, if_neg Zl]
end Go.Proofs.YtnmglnglbdpjjaaGreatDoor.X
namespace Go.Proofs.YtnmglnglbdpjjaaGreatDoor.X
open Go.RowKit Go.Lib Go.Yw.PrintWords Go.Yw.PrintLast
set_option linter.unusedVariables false
set_option linter.unusedSimpArgs false
theorem Yat {u1 u2 : ByteArray} {u3 : Int} {u4 u5 u6 : ByteArray} {u7 u8 : Bool} {host r : List UInt8} (h : Yyn u1 u2 u3 u4 u5 u6 u7 u8 host r) :
  ∃ sch path query frag, u1 = ofL sch ∧ u2 = ofL host ∧ u4 = ofL path ∧ u5 = ofL query ∧ u6 = ofL frag ∧ Canon sch host u3 path query frag u7 u8 := by
 have hq : (u7 = true ∧ ∃ q, u5 = ofL (Ydc Ygf q)) ∨ (u7 = false ∧ u5 = ofL []) := by
  have h1 := h.query
  have h2 := h.hasQ
  unfold Yac at h1
  unfold Yvc at h2
  cases hx : Yoe (Yod r) with
  | none => rw [hx] at h1 h2; exact .inr ⟨h2, h1⟩
  | some q => rw [hx] at h1 h2; exact .inl ⟨h2, q, h1⟩
 have hf : (u8 = true ∧ ∃ q, u6 = ofL (Ydc Ytf q)) ∨ (u8 = false ∧ u6 = ofL []) := by
  have h1 := h.frag
  have h2 := h.hasF
  unfold Ylc at h1
  unfold Yqc at h2
  cases hx : Ycf (Ycb (Yod r)) with
  | none => rw [hx] at h1 h2; exact .inr ⟨h2, h1⟩
  | some q => rw [hx] at h1 h2; exact .inl ⟨h2, q, h1⟩
 have hs : ∃ sch, u1 = ofL sch ∧ (sch = Ydh ∨ sch = Yeg) := by
  rcases h.sch with e | e
  ·exact ⟨_, e, .inl rfl⟩
  ·exact ⟨_, e, .inr rfl⟩
 have hq2 : ∃ query, u5 = ofL query ∧ ((u7 = true ∧ ∃ q, query = Ydc Ygf q) ∨ (u7 = false ∧ query = [])) := by
  rcases hq with ⟨e1, q, e2⟩ | ⟨e1, e2⟩
  ·exact ⟨_, e2, .inl ⟨e1, q, rfl⟩⟩
  ·exact ⟨_, e2, .inr ⟨e1, rfl⟩⟩
 have hf2 : ∃ frag, u6 = ofL frag ∧ ((u8 = true ∧ ∃ q, frag = Ydc Ytf q) ∨ (u8 = false ∧ frag = [])) := by
  rcases hf with ⟨e1, q, e2⟩ | ⟨e1, e2⟩
  ·exact ⟨_, e2, .inl ⟨e1, q, rfl⟩⟩
  ·exact ⟨_, e2, .inr ⟨e1, rfl⟩⟩
 have hsafe := Yns h
 have hsize := h.size
 have hown := h.own
 obtain ⟨sch, rfl, hs⟩ := hs
 obtain ⟨query, rfl, hq3⟩ := hq2
 obtain ⟨frag, rfl, hf3⟩ := hf2
 have hp := h.path
 have hho := h.hostEq
 subst hp hho
 rw [Yob] at hown
 exact ⟨sch, Yre (Ypi r), query, frag, rfl, rfl, rfl, rfl, rfl, hs, h.ne, Yut h.ne h.name h.low, Yxn h.name, h.p0, h.p1, hown, ⟨_, rfl⟩, hq3, hf3, hsafe, hsize⟩
theorem Ymj {sch host : List UInt8} {p : Int} {path query frag : List UInt8} {hq hf : Bool} (h : Canon sch host p path query frag hq hf) : Canon sch host p path query [] hq false := by
 have hsub : ∀ b ∈ (Yjd (ofL sch) (ofL host) p (ofL path) (ofL query) (ofL []) hq false).data.toList, b ∈ (Yjd (ofL sch) (ofL host) p (ofL path) (ofL query) (ofL frag) hq hf).data.toList := by
  intro b hb
  rw [Yng] at hb ⊢
  simp only [Yge, List.append_nil, if_neg (show ¬ (false = true) by decide)] at hb
  simp only [List.mem_append, List.mem_cons] at hb ⊢
  rcases hb with h1 | h1 | h1 | h1 | h1 | h1 | h1 | h1 <;> simp [h1]
 have hsz : (Yjd (ofL sch) (ofL host) p (ofL path) (ofL query) (ofL []) hq false).size ≤ (Yjd (ofL sch) (ofL host) p (ofL path) (ofL query) (ofL frag) hq hf).size := by
  rw [Lib.size_eq, Lib.size_eq, Yng, Yng]
  simp only [Yge, List.append_nil, if_neg (show ¬ (false = true) by decide), List.length_append, List.length_cons]
  omega
 exact ⟨h.schIs, h.hostNe, h.hostIs, h.hostB, h.p0, h.p1, h.pOwn, h.pathIs, h.queryIs, .inr ⟨rfl, rfl⟩, fun b hb => h.safe b (hsub b hb), Nat.le_trans hsz h.size⟩
theorem Yxt {l : List UInt8} {u1 u2 : ByteArray} {u3 : Int} {u4 u5 u6 : ByteArray} {u7 u8 : Bool} {u9 : Int} (h : Yrf l = (u1, u2, u3, u4, u5, u6, u7, u8, u9)) (hne : ¬ u9 = 0) : (u1, u2, u3, u4, u5, u6, u7, u8, u9) = Ytb u9 := by
 have key : ∀ (e : Int), (u1, u2, u3, u4, u5, u6, u7, u8, u9) = Ytb e → (u1, u2, u3, u4, u5, u6, u7, u8, u9) = Ytb u9 := by
  intro e he
  have : u9 = e := by
   unfold Ytb at he
   simp only [Prod.mk.injEq] at he
   exact he.2.2.2.2.2.2.2.2
  rw [this] at he ⊢; exact he
 unfold Yrf Yjl at h
 split at h
 ·exact key _ h.symm
 ·unfold Ymm at h
  split at h
  ·exact key _ h.symm
  ·unfold Yol at h
   split at h
   ·exact key _ h.symm
   ·unfold Yzn at h
    split at h
    ·exact key _ h.symm
    ·exfalso
     apply hne
     simp only [Prod.mk.injEq] at h
     exact h.2.2.2.2.2.2.2.2.symm
end Go.Proofs.YtnmglnglbdpjjaaGreatDoor.X
