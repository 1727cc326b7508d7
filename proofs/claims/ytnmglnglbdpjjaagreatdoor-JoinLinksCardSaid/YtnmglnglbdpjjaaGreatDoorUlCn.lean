/- Good URLs: what is parsed has good parts; good parts' text is parsed as they are. -/
import Derived.Test.YtnmglnglbdpjjaaGreatDoorUlWords
import Derived.Test.YtnmglnglbdpjjaaGreatDoorUlPq
import Derived.Lib.IndexBytes
import Derived.KernelRfl
namespace Go.Proofs.YtnmglnglbdpjjaaGreatDoor.X
open Go.RowKit Go.Lib Go.Yw.PrintWords Go.Yw.PrintLast
set_option linter.unusedVariables false
set_option linter.unusedSimpArgs false
structure Yqo (u1 u2 : ByteArray) (u3 : Int) (u4 u5 u6 : ByteArray) (u7 u8 : Bool) (host r : List UInt8) : Prop where
 sch : u1 = ofL Yxg ∨ u1 = ofL Yuf
 hostEq : u2 = ofL host
 ne : host ≠ []
 name : Yji host = true
 low : ∃ m, host = lowL (Yob m)
 p0 : 0 ≤ u3
 p1 : u3 ≤ 65535
 path : u4 = Ydd r
 query : u5 = Yzb r
 frag : u6 = Ybc r
 hasQ : u7 = Ytc r
 hasF : u8 = Yqc r
 size : (Yie u1 u2 u3 u4 u5 u6 u7 u8).size ≤ 2048
 rest : r.length ≤ 2048
 own : u3 ≠ ownN u1.data.toList
theorem parsed_of {l : List UInt8} {u1 u2 : ByteArray} {u3 : Int} {u4 u5 u6 : ByteArray} {u7 u8 : Bool} (h : Yjg l = (u1, u2, u3, u4, u5, u6, u7, u8, 0)) : ∃ host r, Yqo u1 u2 u3 u4 u5 u6 u7 u8 host r := by
 unfold Yjg Ymm at h
 generalize Ypd l = c at h
 by_cases h1 : (c.length : Int) > 2048
 ·rw [if_pos h1] at h
  simp only [Yac, Prod.mk.injEq] at h
  exact absurd h.2.2.2.2.2.2.2.2 Zda
 ·rw [if_neg h1] at h
  unfold Yho at h
  have hrl := (Yql c [58]).2
  by_cases h2 : (Ybf c ⟨#[]⟩).1 = 0
  ·rw [if_neg (by simpa using h2)] at h
   have hs : (lowL (Lib.cut c [58]).1 = Yxg ∨ lowL (Lib.cut c [58]).1 = Yuf) ∧ Ybf c ⟨#[]⟩ = (0, ofL (Lib.cut c [58]).2.1, ofL (lowL (Lib.cut c [58]).1)) := by
    unfold Ybf at h2 ⊢
    split at h2
    ·next hc =>
     rw [if_pos hc]
     by_cases hl : lowL (Lib.cut c [58]).1 = Yxg ∨ lowL (Lib.cut c [58]).1 = Yuf
     ·exact ⟨hl, by rw [if_pos hl]⟩
     ·simp only [if_neg hl] at h2
      exact absurd h2 Zda
    ·exact absurd (show (3 : Int) = 0 from h2) Zda
   rw [hs.2] at h
   simp only [Yfb] at h
   unfold Ypm at h
   have hps := Ygm (Lib.cut c [58]).2.1 (lowL (Lib.cut c [58]).1)
   by_cases h3 : (Ykf (Lib.cut c [58]).2.1 (lowL (Lib.cut c [58]).1) ⟨#[]⟩ 0).1 = 0
   ·rw [if_neg (by simpa using h3)] at h
    have aEX : (0 : Int) ≠ ownN (lowL (Lib.cut c [58]).1) := by unfold ownN; split <;> decide
    have hh : ∃ m, (Ydf m).2 = 0 ∧ (Ykf (Lib.cut c [58]).2.1 (lowL (Lib.cut c [58]).1) ⟨#[]⟩ 0).2.2.1 = ofL (Ydf m).1 ∧ (Ykf (Lib.cut c [58]).2.1 (lowL (Lib.cut c [58]).1) ⟨#[]⟩ 0).2.2.2 ≠ ownN (lowL (Lib.cut c [58]).1) := by
     refine ⟨(Lib.cut (Yyb (Lib.cut c [58]).2.1) [58]).1, ?_⟩
     revert h3
     unfold Ykf
     split
     ·split
      ·intro h3; exact absurd (show (3 : Int) = 0 from h3) Zda
      ·split
       ·next h5 =>
        split
        ·intro _; exact ⟨h5, rfl, aEX⟩
        ·split
         ·split
          ·intro _; exact ⟨h5, rfl, aEX⟩
          ·next h7 => intro _; exact ⟨h5, rfl, h7⟩
         ·intro h3; exact absurd (show (3 : Int) = 0 from h3) Zda
       ·next h5 => intro h3; exact absurd h3 h5
     ·intro h3; exact absurd (show (3 : Int) = 0 from h3) Zda
    obtain ⟨m, hm1, zI, hm4⟩ := hh
    have hm3 : (Ydf m).1 = lowL (Yob m) ∧ lowL (Yob m) ≠ [] ∧ Yji (lowL (Yob m)) = true := by
     unfold Ydf at hm1 ⊢
     by_cases e1 : lowL (Yob m) = []
     ·rw [if_pos e1] at hm1; exact absurd hm1 Zda
     ·rw [if_neg e1] at hm1 ⊢
      by_cases e2 : Yji (lowL (Yob m)) = true
      ·rw [if_pos e2]; exact ⟨rfl, e1, e2⟩
      ·rw [if_neg e2] at hm1; exact absurd hm1 Zda
    generalize Ykf (Lib.cut c [58]).2.1 (lowL (Lib.cut c [58]).1) ⟨#[]⟩ 0 = y at h hps zI hm4 h3
    unfold Yqp at h
    split at h
    ·simp only [Yac, Prod.mk.injEq] at h
     exact absurd h.2.2.2.2.2.2.2.2 Zda
    ·next hsz =>
     simp only [Prod.mk.injEq] at h
     obtain ⟨rfl, rfl, rfl, rfl, rfl, rfl, rfl, rfl, _⟩ := h
     refine ⟨(Ydf m).1, y.2.1.data.toList, ?_⟩
     refine ⟨?_, zI, by rw [hm3.1]; exact hm3.2.1, by rw [hm3.1]; exact hm3.2.2, ⟨m, hm3.1⟩, hps.2.2.1, hps.2.2.2, rfl, rfl, rfl, rfl, rfl, Zk, ?_, ?_⟩
     ·rcases hs.1 with e | e <;> rw [e]
      ·exact .inl rfl
      ·exact .inr rfl
     ·have := hps.1
      rw [Lib.size_eq] at this
      omega
     ·rw [Yfb]; exact hm4
   ·rw [if_pos (by simpa using h3)] at h
    simp only [Yac, Prod.mk.injEq] at h
    exact absurd h.2.2.2.2.2.2.2.2 h3
  ·rw [if_pos (by simpa using h2)] at h
   simp only [Yac, Prod.mk.injEq] at h
   exact absurd h.2.2.2.2.2.2.2.2 h2
def Yqh (b : UInt8) : Prop := 33 ≤ b.toNat ∧ b.toNat ≤ 126
def Ymg (s : ByteArray) : Prop := ∀ b ∈ s.data.toList, Yqh b
theorem Yce {a b : ByteArray} (ha : Ymg a) (hb : Ymg b) : Ymg (a ++ b) := by
 intro c hc
 rw [ByteArray.data_append, Array.toList_append] at hc
 rcases List.mem_append.1 hc with h | h
 ·exact ha c h
 ·exact hb c h
theorem safe_mark (b : UInt8) : ∀ c ∈ Yjf [] b, Yqh c := by
 unfold Yqh; revert b; exact Ybd Zma
theorem Yrm (part l : List UInt8) : ∀ c ∈ Yoc part l, Yqh c := by
 intro c hc
 unfold Yoc at hc
 obtain ⟨b, _, hc⟩ := List.mem_flatMap.1 hc
 unfold Yog at hc
 split at hc
 ·next h =>
  simp only [Bool.and_eq_true, decide_eq_true_eq] at h
  obtain rfl := List.mem_singleton.1 hc
  exact ⟨Zk, Zk⟩
 ·exact safe_mark b c hc
theorem safe_ok (b : UInt8) (h : okB b = true) : Yqh b := by
 unfold okB at h
 simp only [Bool.and_eq_true, decide_eq_true_eq] at h
 exact ⟨Zk, Zk⟩
theorem Ywl (r : List (List UInt8)) (c : UInt8) (h : c ∈ Lib.joinTail [47] r) : c = 47 ∨ ∃ y ∈ r, c ∈ y := by
 induction r with
 | nil => simp [Lib.joinTail] at h
 | cons y r ih =>
  have e : Lib.joinTail [47] (y :: r) = 47 :: (y ++ Lib.joinTail [47] r) := by simp [Lib.joinTail]
  rw [e] at h
  rcases List.mem_cons.1 h with h | h
  ·exact .inl h
  ·rcases List.mem_append.1 h with h | h
   ·exact .inr ⟨y, Zv, h⟩
   ·rcases ih h with h | ⟨z, hz, h⟩
    ·exact .inl h
    ·exact .inr ⟨z, by simp [hz], h⟩
theorem safe_path (l : List UInt8) : ∀ c ∈ Yef l, Yqh c := by
 obtain ⟨x, r, e, h⟩ := Yyj l
 intro c hc
 rw [e] at hc
 rcases List.mem_cons.1 hc with rfl | hc
 ·exact ⟨Zda, Zda⟩
 ·rcases List.mem_append.1 hc with hc | hc
  ·exact safe_ok c ((h x Zv).1 c hc)
  ·rcases Ywl r c hc with rfl | ⟨y, hy, hc⟩
   ·exact ⟨Zda, Zda⟩
   ·exact safe_ok c ((h y (by simp [hy])).1 c hc)
theorem Yqn (c : UInt8) (l : List UInt8) : ∀ b ∈ l, b = c ∨ ∃ y ∈ splitB c l, b ∈ y := by
 induction l with
 | nil => intro b hb; cases hb
 | cons a l ih =>
  intro b hb
  rw [splitB]
  by_cases hac : a = c
  ·rw [if_pos hac]
   rcases List.mem_cons.1 hb with rfl | hb
   ·exact .inl hac
   ·rcases ih b hb with h | ⟨y, hy, h⟩
    ·exact .inl h
    ·exact .inr ⟨y, by simp [hy], h⟩
  ·rw [if_neg hac]
   cases hs : splitB c l with
   | nil => exact absurd hs (Ylf c l)
   | cons x r =>
    rw [hs] at ih
    rcases List.mem_cons.1 hb with rfl | hb
    ·exact .inr ⟨b :: x, by simp [Yhf], Zv⟩
    ·rcases ih b hb with h | ⟨y, hy, h⟩
     ·exact .inl h
     ·rcases List.mem_cons.1 hy with rfl | hy
      ·exact .inr ⟨a :: y, by simp [Yhf], by simp [h]⟩
      ·exact .inr ⟨y, by simp [Yhf, hy], h⟩
theorem Yyt (b : UInt8) : Yyk b = true → Yqh b := by
 unfold Yqh; revert b; exact Ybd Zma
theorem safe_name (l : List UInt8) (h : Yji l = true) : ∀ c ∈ l, Yqh c := by
 intro c hc
 unfold Yji at h
 rw [Bool.and_eq_true] at h
 rcases Yqn 46 l c hc with rfl | ⟨y, hy, hc⟩
 ·exact ⟨Zda, Zda⟩
 ·have := List.all_eq_true.1 h.1 y hy
  unfold Ygl at this
  rw [Bool.and_eq_true] at this
  exact Yyt c (List.all_eq_true.1 this.1 c hc)
theorem Yxr : ∀ (f v : Nat) (n : Int), n ∈ digs f v → 48 ≤ n ∧ n ≤ 57 := by
 intro f
 induction f with
 | zero => intro v n h; cases h
 | succ f ih =>
  intro v n h
  unfold digs at h
  split at h
  ·cases h
  ·rcases List.mem_cons.1 h with rfl | h
   ·omega
   ·exact ih _ n h
theorem safe_text (v : Nat) : Ymg (strOfNums (Yqf v)) := by
 intro b hb
 have hm : ∀ n ∈ Yqf v, (48 : Int) ≤ n ∧ n ≤ 57 := by
  intro n hn
  unfold Yqf at hn
  split at hn
  ·obtain rfl := List.mem_singleton.1 hn; omega
  ·exact Yxr 20 v n (List.mem_reverse.1 hn)
 unfold strOfNums at hb
 simp only [] at hb
 obtain ⟨n, hn, rfl⟩ := List.mem_map.1 hb
 have := hm n hn
 unfold Yqh
 rw [UInt8.toNat_ofNat']
 omega
theorem Ygt {u1 u2 : ByteArray} {u3 : Int} {u4 u5 u6 : ByteArray} {u7 u8 : Bool} {host r : List UInt8} (h : Yqo u1 u2 u3 u4 u5 u6 u7 u8 host r) : Ymg (Yie u1 u2 u3 u4 u5 u6 u7 u8) := by
 have s1 : Ymg u1 := by
  rcases h.sch with e | e <;> (subst e; unfold Ymg Yqh; decide)
 have s2 : Ymg u2 := by
  have := h.hostEq; subst this
  exact safe_name host h.name
 have s4 : Ymg u4 := by
  have := h.path; subst this
  exact safe_path _
 have hz : Ymg ⟨#[]⟩ := fun b hb => by cases hb
 have s5 : Ymg u5 := by
  have := h.query; subst this
  unfold Yzb
  split
  ·exact Yrm _ _
  ·exact hz
 have s6 : Ymg u6 := by
  have := h.frag; subst this
  unfold Ybc
  split
  ·exact Yrm _ _
  ·exact hz
 have c1 : Ymg ⟨#[58, 47, 47]⟩ := by unfold Ymg Yqh; decide
 have c2 : Ymg ⟨#[58]⟩ := by unfold Ymg Yqh; decide
 have c3 : Ymg ⟨#[63]⟩ := by unfold Ymg Yqh; decide
 have c4 : Ymg ⟨#[35]⟩ := by unfold Ymg Yqh; decide
 have so : Ymg (Ytf u1 u2 u3) := by
  unfold Ytf
  split
  ·exact Yce (Yce s1 c1) s2
  ·exact Yce (Yce (Yce s1 c1) s2) (Yce c2 (safe_text _))
 have sq : Ymg (Yjj (Ytf u1 u2 u3 ++ u4) u5 u7) := by
  unfold Yjj
  split
  ·exact Yce (Yce so s4) (Yce c3 s5)
  ·exact Yce so s4
 unfold Yie Ysk
 split
 ·exact Yce sq (Yce c4 s6)
 ·exact sq
end Go.Proofs.YtnmglnglbdpjjaaGreatDoor.X
namespace Go.Proofs.YtnmglnglbdpjjaaGreatDoor.X
open Go.RowKit Go.Lib Go.Yw.PrintWords Go.Yw.PrintLast
set_option linter.unusedVariables false
set_option linter.unusedSimpArgs false
theorem Yal (c : UInt8) : ∀ l : List UInt8, c ∉ l → Lib.indexByte l c = -1 := by
 intro l
 induction l with
 | nil => intro _; rfl
 | cons b l ih =>
  intro h
  rw [Lib.indexByte, if_neg (by rw [beq_iff_eq]; exact fun e => h (by simp [e])), ih (fun hm => h (by simp [hm]))]; rfl
theorem Yrq (c : UInt8) : ∀ (a b : List UInt8), c ∉ a → Lib.indexByte (a ++ c :: b) c = (a.length : Int) := by
 intro a
 induction a with
 | nil => intro b _; rw [List.nil_append, Lib.indexByte, if_pos Zv]; rfl
 | cons x a ih =>
  intro b h
  rw [List.cons_append, Lib.indexByte, if_neg (by rw [beq_iff_eq]; exact fun e => h (by simp [e])), ih b (fun hm => h (by simp [hm])), if_neg (by rw [beq_iff_eq]; omega)]
  simp
theorem Ykn (c : UInt8) (a b : List UInt8) (h : c ∉ a) : Lib.cut (a ++ c :: b) [c] = (a, b, true) := by
 unfold Lib.cut
 rw [Lib.index_one, Yrq c a b h, if_pos Zk, Int.toNat_natCast]
 simp
theorem cut_miss (c : UInt8) (a : List UInt8) (h : c ∉ a) : Lib.cut a [c] = (a, [], false) := by
 unfold Lib.cut
 rw [Lib.index_one, Yal c a h, if_neg Zk]
theorem Ylm (p : UInt8 → Bool) (a b : List UInt8) (h : ∀ x ∈ a, p x = true) : (a ++ b).takeWhile p = a ++ b.takeWhile p ∧ (a ++ b).dropWhile p = b.dropWhile p := by
 induction a with
 | nil => exact ⟨rfl, rfl⟩
 | cons x a ih =>
  have hx := h x Zv
  have := ih (fun y hy => h y (by simp [hy]))
  rw [List.cons_append, List.takeWhile_cons, List.dropWhile_cons, if_pos hx, if_pos hx, this.1, this.2]
  exact ⟨rfl, rfl⟩
def Ywj (v : Nat) : List UInt8 := (Yqf v).map fun n => UInt8.ofNat n.toNat
theorem text_data (v : Nat) : (strOfNums (Yqf v)).data.toList = Ywj v := by unfold strOfNums Ywj; rfl
theorem Yvn (d : Nat) (h : d < 10) : Ygd (UInt8.ofNat ((48 + (d : Int)).toNat)) = true ∧ (((UInt8.ofNat ((48 + (d : Int)).toNat)).toNat : Nat) : Int) - 48 = (d : Int) := by
 have e : (48 + (d : Int)).toNat = 48 + d := by omega
 rw [e]
 have e2 : (UInt8.ofNat (48 + d)).toNat = 48 + d := by rw [UInt8.toNat_ofNat']; omega
 refine ⟨?_, by rw [e2]; omega⟩
 unfold Ygd
 rw [e2]
 simp; omega
theorem fold_text (most : Int) : ∀ (f v : Nat), v < 10 ^ f → (v : Int) ≤ most → ∀ B : List UInt8, Yee most false 0 (((digs f v).reverse.map fun n => UInt8.ofNat n.toNat) ++ B) = Yee most false (v : Int) B := by
 intro f
 induction f with
 | zero =>
  intro v hv _ B
  have : v = 0 := by simpa using hv
  subst this; rfl
 | succ f ih =>
  intro v hv hm B
  by_cases h0 : v = 0
  ·subst h0; rfl
  ·rw [digs, if_neg h0, List.reverse_cons, List.map_append, List.append_assoc, ih (v / 10) (by rw [Nat.pow_succ] at hv; omega) Zk]
   have hd := Yvn (v % 10) Zk
   rw [List.map_cons, List.map_nil, List.cons_append, List.nil_append, Yee, if_pos hd.1, hd.2, if_neg Zib]
   congr 1; omega
theorem num_text (v : Nat) (h0 : v ≠ 0) (h : v ≤ 65535) : numL 65535 (Ywj v) = ((v : Int), 0) := by
 have hne : Ywj v ≠ [] := by
  unfold Ywj Yqf
  rw [if_neg h0]
  intro e
  have := congrArg List.length e
  rw [List.length_map, List.length_reverse, digs, if_neg h0] at this
  simp at this
 unfold numL
 rw [if_neg hne]
 have := fold_text 65535 20 v Zk Zk []
 rw [List.append_nil] at this
 unfold Ywj Yqf
 rw [if_neg h0, this]; rfl
theorem Yen (v : Nat) : ∀ b ∈ Ywj v, Ygd b = true := by
 intro b hb
 unfold Ywj at hb
 obtain ⟨n, hn, rfl⟩ := List.mem_map.1 hb
 have hm : (48 : Int) ≤ n ∧ n ≤ 57 := by
  unfold Yqf at hn
  split at hn
  ·obtain rfl := List.mem_singleton.1 hn; omega
  ·exact Yxr 20 v n (List.mem_reverse.1 hn)
 have := Yvn (n - 48).toNat Zk
 rw [show (48 : Int) + ((n - 48).toNat : Int) = n by omega] at this
 exact this.1
theorem unmark_id : ∀ l : List UInt8, (37 : UInt8) ∉ l → Yob l = l := by
 intro l
 induction l with
 | nil => intro _; rfl
 | cons b l ih =>
  intro h
  rw [Yim b l (.inl (fun e => h (by simp [e]))), ih (fun hm => h (by simp [hm]))]
theorem low_twice (l : List UInt8) : lowL (lowL l) = lowL l := by
 have hb : ∀ b : UInt8, lowB (lowB b) = lowB b := by exact Ybd Zma
 unfold lowL
 rw [List.map_map]
 exact List.map_congr_left fun b _ => hb b
theorem Yvp (b : UInt8) : (Yyk b = true ∨ b = 46) → b ≠ 37 ∧ b ≠ 47 ∧ b ≠ 92 ∧ b ≠ 63 ∧ b ≠ 35 ∧ b ≠ 58 ∧ b ≠ 64 := by
 revert b; exact Ybd Zma
theorem Ytn {l : List UInt8} (h : Yji l = true) : ∀ b ∈ l, b ≠ 37 ∧ b ≠ 47 ∧ b ≠ 92 ∧ b ≠ 63 ∧ b ≠ 35 ∧ b ≠ 58 ∧ b ≠ 64 := by
 intro b hb
 unfold Yji at h
 rw [Bool.and_eq_true] at h
 rcases Yqn 46 l b hb with e | ⟨y, hy, hc⟩
 ·exact Yvp b (.inr e)
 ·have := List.all_eq_true.1 h.1 y hy
  unfold Ygl at this
  rw [Bool.and_eq_true] at this
  exact Yvp b (.inl (List.all_eq_true.1 this.1 b hc))
theorem Ymt {host : List UInt8} (hne : host ≠ []) (hn : Yji host = true) (hl : ∃ m, host = lowL (Yob m)) : Ydf host = (host, 0) := by
 have hu : Yob host = host := unmark_id host (fun h => (Ytn hn 37 h).1 rfl)
 have hlo : lowL host = host := by obtain ⟨m, rfl⟩ := hl; exact low_twice _
 unfold Ydf
 rw [hu, hlo, if_neg hne, if_pos hn]
theorem Ymo (part : List UInt8) (h37 : part.contains 37 = false) (hx : ∀ n : Fin 16, part.contains (hexB n.val) = false) (l : List UInt8) : Yoc part (Yoc part l) = Yoc part l := by
 have h1 : ∀ b : UInt8, ∀ c ∈ Yog part b, Yog part c = [c] := by
  intro b c hc
  have keep : ∀ d : UInt8, (32 < d.toNat ∧ d.toNat < 127) → part.contains d = false → Yog part d = [d] := by
   intro d hd hp
   unfold Yog
   rw [hp, decide_eq_true hd.1, decide_eq_true hd.2]; rfl
  have hs := Yrm part [b] c (by unfold Yoc; simpa using hc)
  have rC : 32 < c.toNat ∧ c.toNat < 127 := ⟨by have := hs.1; omega, by have := hs.2; omega⟩
  unfold Yog at hc
  split at hc
  ·next h =>
   obtain rfl := List.mem_singleton.1 hc
   simp only [Bool.and_eq_true, decide_eq_true_eq, Bool.not_eq_true'] at h
   exact keep c rC h.2.2
  ·next h =>
   unfold Yjf at hc
   split at hc
   ·next hp =>
    obtain rfl := List.mem_singleton.1 hc
    by_cases hpc : part.contains c = true
    ·unfold Yog
     rw [if_neg h]
     unfold Yjf
     rw [if_pos hp]
    ·exact keep c rC (by cases hq : part.contains c <;> simp_all)
   ·simp only [List.mem_cons, List.mem_nil_iff, or_false] at hc
    rcases hc with rfl | rfl | rfl
    ·exact keep _ rC h37
    ·exact keep _ rC (hx ⟨b.toNat / 16, by have := b.toNat_lt; omega⟩)
    ·exact keep _ rC (hx ⟨b.toNat % 16, Zk⟩)
 have h2 : ∀ l : List UInt8, (∀ c ∈ l, Yog part c = [c]) → Yoc part l = l := by
  intro l
  induction l with
  | nil => intro _; rfl
  | cons c l ih =>
   intro h
   unfold Yoc at ih ⊢
   rw [List.flatMap_cons, h c Zv, ih (fun d hd => h d (by simp [hd]))]; rfl
 refine h2 _ fun c hc => ?_
 unfold Yoc at hc
 obtain ⟨b, _, hc⟩ := List.mem_flatMap.1 hc
 exact h1 b c hc
theorem part_no (part : List UInt8) (x : UInt8) (hp : part.contains x = true) (hx : x ≠ 37 ∧ (∀ n : Fin 16, hexB n.val ≠ x) ∧ Ygk x = false) (l : List UInt8) : x ∉ Yoc part l := by
 intro hc
 unfold Yoc at hc
 obtain ⟨b, _, hc⟩ := List.mem_flatMap.1 hc
 unfold Yog at hc
 split at hc
 ·next h =>
  obtain rfl := List.mem_singleton.1 hc
  rw [hp] at h
  simp at h
 ·unfold Yjf at hc
  split at hc
  ·next h =>
   obtain rfl := List.mem_singleton.1 hc
   rw [hx.2.2] at h
   simp at h
  ·simp only [List.mem_cons, List.mem_nil_iff, or_false] at hc
   rcases hc with h | h | h
   ·exact hx.1 h
   ·exact hx.2.1 ⟨b.toNat / 16, by have := b.toNat_lt; omega⟩ h.symm
   ·exact hx.2.1 ⟨b.toNat % 16, Zk⟩ h.symm
end Go.Proofs.YtnmglnglbdpjjaaGreatDoor.X
namespace Go.Proofs.YtnmglnglbdpjjaaGreatDoor.X
open Go.RowKit Go.Lib Go.Yw.PrintWords Go.Yw.PrintLast
set_option linter.unusedVariables false
set_option linter.unusedSimpArgs false
def Yjh (p : Int) : List UInt8 := if p = 0 then [] else 58 :: Ywj p.toNat
def Yvf (q : List UInt8) (h : Bool) : List UInt8 := if h = true then 63 :: q else []
def Yff (f : List UInt8) (h : Bool) : List UInt8 := if h = true then 35 :: f else []
theorem Ypi (a b : ByteArray) : (a ++ b).data.toList = a.data.toList ++ b.data.toList := by rw [ByteArray.data_append, Array.toList_append]
theorem Yxh (sch host : List UInt8) (p : Int) (path query frag : List UInt8) (hq hf : Bool) :
  (Yie (ofL sch) (ofL host) p (ofL path) (ofL query) (ofL frag) hq hf).data.toList = sch ++ 58 :: 47 :: 47 :: (host ++ (Yjh p ++ (path ++ (Yvf query hq ++ Yff frag hf)))) := by
 have h1 : (⟨#[58, 47, 47]⟩ : ByteArray).data.toList = [58, 47, 47] := rfl
 have h2 : (⟨#[58]⟩ : ByteArray).data.toList = [58] := rfl
 have h3 : (⟨#[63]⟩ : ByteArray).data.toList = [63] := rfl
 have h4 : (⟨#[35]⟩ : ByteArray).data.toList = [35] := rfl
 have ho : (Ytf (ofL sch) (ofL host) p).data.toList = sch ++ 58 :: 47 :: 47 :: (host ++ Yjh p) := by
  unfold Ytf Yjh
  split
  ·simp only [Ypi, Yfb, h1]; simp
  ·simp only [Ypi, Yfb, h1, h2, text_data]; simp
 unfold Yie Ysk Yjj Yvf Yff
 cases hq <;> cases hf <;> simp [Ypi, Yfb, h3, h4, ho]
theorem Ymp (p : UInt8 → Bool) (l : List UInt8) (h : ∀ b ∈ l, p b = false) : l.dropWhile p = l := by
 cases l with
 | nil => rfl
 | cons b t => rw [List.dropWhile_cons, h b Zv]; rfl
theorem Ygu (l : List UInt8) (h : ∀ b ∈ l, Yqh b) : Ypd l = l := by
 have hl : ∀ b : UInt8, Yqh b → Yeh b = false ∧ (b != 9) = true ∧ (b != 10) = true ∧ (b != 13) = true := by
  unfold Yqh; exact Ybd Zma
 have ht : Ymh l = l := by
  unfold Ymh
  rw [Ymp Yeh l (fun b hb => (hl b (h b hb)).1), Ymp Yeh l.reverse (fun b hb => (hl b (h b (List.mem_reverse.1 hb))).1), List.reverse_reverse]
 unfold Ypd
 rw [ht, List.filter_eq_self.2 (fun b hb => (hl b (h b hb)).2.1), List.filter_eq_self.2 (fun b hb => (hl b (h b hb)).2.2.1), List.filter_eq_self.2 (fun b hb => (hl b (h b hb)).2.2.2)]
structure Canon (sch host : List UInt8) (p : Int) (path query frag : List UInt8) (hq hf : Bool) : Prop where
 schIs : sch = Yxg ∨ sch = Yuf
 hostNe : host ≠ []
 hostIs : Ydf host = (host, 0)
 hostB : ∀ b ∈ host, b ≠ 37 ∧ b ≠ 47 ∧ b ≠ 92 ∧ b ≠ 63 ∧ b ≠ 35 ∧ b ≠ 58 ∧ b ≠ 64
 p0 : 0 ≤ p
 p1 : p ≤ 65535
 pOwn : p ≠ ownN sch
 pathIs : ∃ l, path = Yef l
 queryIs : (hq = true ∧ ∃ q, query = Yoc Yhg q) ∨ (hq = false ∧ query = [])
 fragIs : (hf = true ∧ ∃ q, frag = Yoc Yug q) ∨ (hf = false ∧ frag = [])
 safe : Ymg (Yie (ofL sch) (ofL host) p (ofL path) (ofL query) (ofL frag) hq hf)
 size : (Yie (ofL sch) (ofL host) p (ofL path) (ofL query) (ofL frag) hq hf).size ≤ 2048
theorem Yhu (l : List UInt8) : ∀ b ∈ Yef l, b ≠ 63 ∧ b ≠ 35 := by
 obtain ⟨x, r, e, h⟩ := Yyj l
 have hk : ∀ b : UInt8, okB b = true → b ≠ 63 ∧ b ≠ 35 := by exact Ybd Zma
 intro c hc
 rw [e] at hc
 rcases List.mem_cons.1 hc with rfl | hc
 ·decide
 ·rcases List.mem_append.1 hc with hc | hc
  ·exact hk c ((h x Zv).1 c hc)
  ·rcases Ywl r c hc with rfl | ⟨y, hy, hc⟩
   ·decide
   ·exact hk c ((h y (by simp [hy])).1 c hc)
theorem Ylu {path query frag : List UInt8} {hq hf : Bool} (h1 : ∃ l, path = Yef l) (h2 : (hq = true ∧ ∃ q, query = Yoc Yhg q) ∨ (hq = false ∧ query = [])) (h3 : (hf = true ∧ ∃ q, frag = Yoc Yug q) ∨ (hf = false ∧ frag = [])) :
  Ydd (path ++ (Yvf query hq ++ Yff frag hf)) = ofL path ∧ Yzb (path ++ (Yvf query hq ++ Yff frag hf)) = ofL query ∧ Ybc (path ++ (Yvf query hq ++ Yff frag hf)) = ofL frag ∧
   Ytc (path ++ (Yvf query hq ++ Yff frag hf)) = hq ∧ Yqc (path ++ (Yvf query hq ++ Yff frag hf)) = hf := by
 obtain ⟨l, rfl⟩ := h1
 have hp : ∀ x ∈ Yef l, Ycb [63, 35] x = true := by
  intro x hx
  have := Yhu l x hx
  unfold Ycb
  simp [this.1, this.2]
 have hta := Ylm (Ycb [63, 35]) (Yef l) (Yvf query hq ++ Yff frag hf) hp
 have hqn : hq = true → ∀ x ∈ query, Ycb [35] x = true := by
  intro hh x hx
  rcases h2 with ⟨_, q, rfl⟩ | ⟨e, _⟩
  ·have := part_no Yhg 35 Zda Zda q
   unfold Ycb
   have hne : x ≠ 35 := fun e => this (e ▸ hx)
   simp [hne]
  ·rw [hh] at e; cases e
 have hhead : Yui (Yef l ++ (Yvf query hq ++ Yff frag hf)) = Yef l := by
  unfold Yui
  rw [hta.1]
  unfold Yvf Yff
  cases hq <;> cases hf <;> simp [List.takeWhile_cons, Ycb]
 have hbehind : Yud (Yef l ++ (Yvf query hq ++ Yff frag hf)) = Yvf query hq ++ Yff frag hf := by
  unfold Yud
  rw [hta.2]
  unfold Yvf Yff
  cases hq <;> cases hf <;> simp [List.dropWhile_cons, Ycb]
 have hquery : Ywe (Yvf query hq ++ Yff frag hf) = if hq = true then some query else none := by
  cases hq with
  | true =>
   have := (Ylm (Ycb [35]) query (Yff frag hf) (hqn rfl)).1
   show (if (63 : UInt8) = 63 then some ((query ++ Yff frag hf).takeWhile (Ycb [35])) else none) = _
   rw [if_pos rfl, if_pos rfl, this]
   unfold Yff
   cases hf <;> simp [List.takeWhile_cons, Ycb]
  | false =>
   unfold Yvf Yff
   cases hf <;> simp [Ywe]
 have hafter : Ygb (Yvf query hq ++ Yff frag hf) = Yff frag hf := by
  cases hq with
  | true =>
   have := (Ylm (Ycb [35]) query (Yff frag hf) (hqn rfl)).2
   show (if (63 : UInt8) = 63 then (query ++ Yff frag hf).dropWhile (Ycb [35]) else (63 :: (query ++ Yff frag hf))) = _
   rw [if_pos rfl, this]
   unfold Yff
   cases hf <;> simp [List.dropWhile_cons, Ycb]
  | false =>
   unfold Yvf Yff
   cases hf <;> simp [Ygb]
 have hfrag : Yif (Yff frag hf) = if hf = true then some frag else none := by
  unfold Yff
  cases hf <;> simp [Yif]
 refine ⟨?_, ?_, ?_, ?_, ?_⟩
 ·unfold Ydd; rw [hhead, Ygs]
 ·unfold Yzb; rw [hbehind, hquery]
  rcases h2 with ⟨rfl, q, rfl⟩ | ⟨rfl, rfl⟩
  ·simp only [if_true]; rw [Ymo Yhg Zda Zda]
  ·rfl
 ·unfold Ybc; rw [hbehind, hafter, hfrag]
  rcases h3 with ⟨rfl, q, rfl⟩ | ⟨rfl, rfl⟩
  ·simp only [if_true]; rw [Ymo Yug Zda Zda]
  ·rfl
 ·unfold Ytc; rw [hbehind, hquery]; cases hq <;> rfl
 ·unfold Yqc; rw [hbehind, hafter, hfrag]; cases hf <;> rfl
theorem round {sch host : List UInt8} {p : Int} {path query frag : List UInt8} {hq hf : Bool} (h : Canon sch host p path query frag hq hf) :
  Yjg (Yie (ofL sch) (ofL host) p (ofL path) (ofL query) (ofL frag) hq hf).data.toList = (ofL sch, ofL host, p, ofL path, ofL query, ofL frag, hq, hf, 0) := by
 have hcl := Ygu _ h.safe
 unfold Yjg
 rw [hcl]
 unfold Ymm
 rw [← Lib.size_eq, if_neg (by have := h.size; omega), Yxh]
 have hT := Ylu h.pathIs h.queryIs h.fragIs
 have hpath : ∃ t, path = 47 :: t := by obtain ⟨l, rfl⟩ := h.pathIs; exact ⟨_, rfl⟩
 have hsize := h.size
 generalize hTT : path ++ (Yvf query hq ++ Yff frag hf) = T at hT
 have hs : Ybf (sch ++ 58 :: 47 :: 47 :: (host ++ (Yjh p ++ T))) ⟨#[]⟩ = (0, ofL (47 :: 47 :: (host ++ (Yjh p ++ T))), ofL sch) := by
  unfold Ybf
  rw [Ykn 58 sch _ (by rcases h.schIs with e | e <;> rw [e] <;> decide)]
  simp only []
  rcases h.schIs with e | e <;> subst e
  ·rw [if_pos Zma, if_pos Zma]; rfl
  ·rw [if_pos Zma, if_pos Zma]; rfl
 rw [hs]
 unfold Yho
 simp only [not_true_eq_false, if_false, Yfb]
 obtain ⟨b0, ht, vU⟩ : ∃ b0 ht, host = b0 :: ht := by
  cases hh : host with
  | nil => exact absurd hh h.hostNe
  | cons b t => exact ⟨b, t, rfl⟩
 have hset : ∀ x ∈ host ++ Yjh p, Ycb [47, 92, 63, 35] x = true := by
  intro x hx
  have key : ∀ y : UInt8, y ≠ 47 → y ≠ 92 → y ≠ 63 → y ≠ 35 → Ycb [47, 92, 63, 35] y = true := by
   intro y h1 h2 h3 h4; unfold Ycb; simp [h1, h2, h3, h4]
  rcases List.mem_append.1 hx with hx | hx
  ·have := h.hostB x hx; exact key x this.2.1 this.2.2.1 this.2.2.2.1 this.2.2.2.2.1
  ·unfold Yjh at hx
   split at hx
   ·cases hx
   ·rcases List.mem_cons.1 hx with rfl | hx
    ·decide
    ·have hd := Yen p.toNat x hx
     have hdig : ∀ y : UInt8, Ygd y = true → Ycb [47, 92, 63, 35] y = true := by exact Ybd Zma
     exact hdig x hd
 have htrim : Lib.trimLeftS (47 :: 47 :: (host ++ (Yjh p ++ T))) [47, 92] = host ++ (Yjh p ++ T) := by
  have hb := h.hostB b0 (by rw [vU]; simp)
  unfold Lib.trimLeftS
  rw [vU, List.cons_append, List.dropWhile_cons, if_pos Zda, List.dropWhile_cons, if_pos Zda, List.dropWhile_cons, if_neg (by simp [hb.2.1, hb.2.2.1])]
 have hTstop : T.takeWhile (Ycb [47, 92, 63, 35]) = [] ∧ T.dropWhile (Ycb [47, 92, 63, 35]) = T := by
  obtain ⟨t, e⟩ := hpath
  rw [← hTT, e]
  constructor
  ·rw [List.cons_append, List.takeWhile_cons, if_neg Zda]
  ·rw [List.cons_append, List.dropWhile_cons, if_neg Zda]
 have hph : Yyb (47 :: 47 :: (host ++ (Yjh p ++ T))) = host ++ Yjh p ∧ Ywf (47 :: 47 :: (host ++ (Yjh p ++ T))) = T := by
  unfold Yyb Ywf
  rw [htrim, ← List.append_assoc]
  have := Ylm (Ycb [47, 92, 63, 35]) (host ++ Yjh p) T hset
  rw [this.1, this.2, hTstop.1, hTstop.2, List.append_nil]
  exact ⟨rfl, rfl⟩
 have oY : (58 : UInt8) ∉ host := fun hm => (h.hostB 58 hm).2.2.2.2.2.1 rfl
 have h64 : (64 : UInt8) ∉ host ++ Yjh p := by
  intro hm
  rcases List.mem_append.1 hm with hm | hm
  ·exact (h.hostB 64 hm).2.2.2.2.2.2 rfl
  ·unfold Yjh at hm
   split at hm
   ·cases hm
   ·rcases List.mem_cons.1 hm with e | hm
    ·exact absurd e Zda
    ·exact absurd (Yen p.toNat 64 hm) Zda
 have hcut : Lib.cut (host ++ Yjh p) [58] = if p = 0 then (host, [], false) else (host, Ywj p.toNat, true) := by
  unfold Yjh
  split
  ·rw [List.append_nil, cut_miss 58 host oY]
  ·rw [Ykn 58 host _ oY]
 have hplace : Ykf (47 :: 47 :: (host ++ (Yjh p ++ T))) sch ⟨#[]⟩ 0 = (0, ofL T, ofL host, p) := by
  unfold Ykf
  have hia : Lib.indexAny (47 :: 47 :: (host ++ (Yjh p ++ T))) [47, 92] = 0 := by
   rw [Lib.indexAny, if_pos Zda]
  rw [if_pos hia, hph.1, hph.2, Yal 64 _ h64, if_neg Zda, hcut]
  by_cases hp0 : p = 0
  ·subst hp0
   simp only [if_true, h.hostIs]
  ·simp only [if_neg hp0, h.hostIs, if_true]
   have hp2 := h.p0
   have hp3 := h.p1
   have hnt := num_text p.toNat Zk Zk
   have hne : Ywj p.toNat ≠ [] := by
    intro e
    unfold numL at hnt
    rw [if_pos e] at hnt
    exact absurd (show (3 : Int) = 0 from congrArg Prod.snd hnt) Zda
   rw [if_neg hne, hnt]
   simp only [if_true]
   rw [Int.toNat_of_nonneg h.p0, if_neg h.pOwn]
 rw [hplace]
 unfold Ypm
 simp only [not_true_eq_false, if_false, Yfb]
 unfold Yqp
 rw [hT.1, hT.2.1, hT.2.2.1, hT.2.2.2.1, hT.2.2.2.2, if_neg Zk]
end Go.Proofs.YtnmglnglbdpjjaaGreatDoor.X
namespace Go.Proofs.YtnmglnglbdpjjaaGreatDoor.X
open Go.RowKit Go.Lib Go.Yw.PrintWords Go.Yw.PrintLast
set_option linter.unusedVariables false
set_option linter.unusedSimpArgs false
theorem canon_of {u1 u2 : ByteArray} {u3 : Int} {u4 u5 u6 : ByteArray} {u7 u8 : Bool} {host r : List UInt8} (h : Yqo u1 u2 u3 u4 u5 u6 u7 u8 host r) :
  ∃ sch path query frag, u1 = ofL sch ∧ u2 = ofL host ∧ u4 = ofL path ∧ u5 = ofL query ∧ u6 = ofL frag ∧ Canon sch host u3 path query frag u7 u8 := by
 have hq : (u7 = true ∧ ∃ q, u5 = ofL (Yoc Yhg q)) ∨ (u7 = false ∧ u5 = ofL []) := by
  have h1 := h.query
  have h2 := h.hasQ
  unfold Yzb at h1
  unfold Ytc at h2
  cases hx : Ywe (Yud r) with
  | none => rw [hx] at h1 h2; exact .inr ⟨h2, h1⟩
  | some q => rw [hx] at h1 h2; exact .inl ⟨h2, q, h1⟩
 have hf : (u8 = true ∧ ∃ q, u6 = ofL (Yoc Yug q)) ∨ (u8 = false ∧ u6 = ofL []) := by
  have h1 := h.frag
  have h2 := h.hasF
  unfold Ybc at h1
  unfold Yqc at h2
  cases hx : Yif (Ygb (Yud r)) with
  | none => rw [hx] at h1 h2; exact .inr ⟨h2, h1⟩
  | some q => rw [hx] at h1 h2; exact .inl ⟨h2, q, h1⟩
 have hs : ∃ sch, u1 = ofL sch ∧ (sch = Yxg ∨ sch = Yuf) := by
  rcases h.sch with e | e
  ·exact ⟨_, e, .inl rfl⟩
  ·exact ⟨_, e, .inr rfl⟩
 have cN : ∃ query, u5 = ofL query ∧ ((u7 = true ∧ ∃ q, query = Yoc Yhg q) ∨ (u7 = false ∧ query = [])) := by
  rcases hq with ⟨e1, q, e2⟩ | ⟨e1, e2⟩
  ·exact ⟨_, e2, .inl ⟨e1, q, rfl⟩⟩
  ·exact ⟨_, e2, .inr ⟨e1, rfl⟩⟩
 have uO : ∃ frag, u6 = ofL frag ∧ ((u8 = true ∧ ∃ q, frag = Yoc Yug q) ∨ (u8 = false ∧ frag = [])) := by
  rcases hf with ⟨e1, q, e2⟩ | ⟨e1, e2⟩
  ·exact ⟨_, e2, .inl ⟨e1, q, rfl⟩⟩
  ·exact ⟨_, e2, .inr ⟨e1, rfl⟩⟩
 have hsafe := Ygt h
 have hsize := h.size
 have hown := h.own
 obtain ⟨sch, rfl, hs⟩ := hs
 obtain ⟨query, rfl, hq3⟩ := cN
 obtain ⟨frag, rfl, hf3⟩ := uO
 have hp := h.path
 have hho := h.hostEq
 subst hp hho
 rw [Yfb] at hown
 exact ⟨sch, Yef (Yui r), query, frag, rfl, rfl, rfl, rfl, rfl, hs, h.ne, Ymt h.ne h.name h.low, Ytn h.name, h.p0, h.p1, hown, ⟨_, rfl⟩, hq3, hf3, hsafe, hsize⟩
theorem Ynu {sch host : List UInt8} {p : Int} {path query frag : List UInt8} {hq hf : Bool} (h : Canon sch host p path query frag hq hf) : Canon sch host p path query [] hq false := by
 have hsub : ∀ b ∈ (Yie (ofL sch) (ofL host) p (ofL path) (ofL query) (ofL []) hq false).data.toList, b ∈ (Yie (ofL sch) (ofL host) p (ofL path) (ofL query) (ofL frag) hq hf).data.toList := by
  intro b hb
  rw [Yxh] at hb ⊢
  simp only [Yff, List.append_nil, if_neg (show ¬ (false = true) by decide)] at hb
  simp only [List.mem_append, List.mem_cons] at hb ⊢
  rcases hb with h1 | h1 | h1 | h1 | h1 | h1 | h1 | h1 <;> simp [h1]
 have hsz : (Yie (ofL sch) (ofL host) p (ofL path) (ofL query) (ofL []) hq false).size ≤ (Yie (ofL sch) (ofL host) p (ofL path) (ofL query) (ofL frag) hq hf).size := by
  rw [Lib.size_eq, Lib.size_eq, Yxh, Yxh]
  simp only [Yff, List.append_nil, if_neg (show ¬ (false = true) by decide), List.length_append, List.length_cons]
  omega
 exact ⟨h.schIs, h.hostNe, h.hostIs, h.hostB, h.p0, h.p1, h.pOwn, h.pathIs, h.queryIs, .inr ⟨rfl, rfl⟩, fun b hb => h.safe b (hsub b hb), Nat.le_trans hsz h.size⟩
end Go.Proofs.YtnmglnglbdpjjaaGreatDoor.X
