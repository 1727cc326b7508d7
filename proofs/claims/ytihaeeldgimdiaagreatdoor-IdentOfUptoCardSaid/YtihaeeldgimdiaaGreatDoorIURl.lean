import Derived.Test.YtihaeeldgimdiaaGreatDoorIUPq
set_option linter.all false
section
namespace Go.Proofs.YtihaeeldgimdiaaGreatDoor.X
open Go.RowKit Go.Lib Go.Shelf Go.Yw.PrintWords Go.Yw.PrintLast Go.Yw.PrintMore
def Yme (p : UInt8 → Bool) : List UInt8 → List (List UInt8)
 | [] => [[]]
 | b :: l => if p b = true then [] :: Yme p l else Yyf b (Yme p l)
theorem Yns (c : UInt8) (l : List UInt8) : Yme (· == c) l = splitB c l := by
 induction l with
 | nil => rfl
 | cons b l ih =>
  rw [Yme, splitB, ih]
  by_cases h : b = c <;> simp [h]
def Ypc (b : UInt8) : Bool := b == 47 || b == 92
theorem Yfq (l : List UInt8) : Yme Ypc l = splitB 47 (Yed l) := by
 induction l with
 | nil => rfl
 | cons b l ih =>
  rw [Yme, ih]
  show _ = splitB 47 (Yfh b :: Yed l)
  rw [splitB]
  unfold Ypc Yfh
  by_cases h1 : b = 92
  ·subst h1; simp
  ·by_cases h2 : b = 47 <;> simp [h1, h2]
def glue (x : List UInt8) : List (List UInt8) → List (List UInt8)
 | [] => [x]
 | h :: t => (x ++ h) :: t
theorem Ymp (x : List UInt8) (b : UInt8) (ps : List (List UInt8)) : glue x (Yyf b ps) = glue (x ++ [b]) ps := by
 cases ps <;> simp [glue, Yyf]
theorem Yll (p : UInt8 → Bool) (l : List UInt8) : glue [] (Yme p l) = Yme p l := by
 cases l with
 | nil => rfl
 | cons b l =>
  rw [Yme]
  split
  ·rfl
  ·cases Yme p l <;> rfl
abbrev pctE : List UInt8 := [37, 50, 101]
theorem Ylq (s : List UInt8) : Lib.replaceAll s pctE [46] = Lib.replaceK pctE [46] (Lib.count s pctE) s := by
 unfold Lib.replaceAll Lib.replace
 rw [if_neg Zw, Lib.replaceNum, if_pos (.inl Zj)]
theorem rep_hit (t : List UInt8) : Lib.replaceAll (37 :: 50 :: 101 :: t) pctE [46] = 46 :: Lib.replaceAll t pctE [46] := by
 have hi : Lib.index (37 :: 50 :: 101 :: t) pctE = ((0 : Nat) : Int) := by
  unfold Lib.index; rw [if_pos (by simp [List.isPrefixOf])]; rfl
 rw [Ylq, Ylq, Lib.count_hit Zw hi, Nat.add_comm, Lib.replaceK_hit (h := hi)]
 simp
theorem Ybj (b : UInt8) (t : List UInt8) (h : pctE.isPrefixOf (b :: t) = false) : Lib.replaceAll (b :: t) pctE [46] = b :: Lib.replaceAll t pctE [46] := by
 rw [Ylq, Ylq]
 have hge := Lib.index_ge t pctE
 by_cases hm : Lib.index t pctE = -1
 ·have pK : Lib.index (b :: t) pctE = -1 := by unfold Lib.index; rw [if_neg (by rw [h]; simp), if_pos (by rw [hm]; rfl)]
  rw [Lib.count_miss hm, Lib.count_miss pK]; rfl
 ·obtain ⟨i, hi⟩ : ∃ i : Nat, Lib.index t pctE = i := ⟨(Lib.index t pctE).toNat, Zj⟩
  have mX : Lib.index (b :: t) pctE = ((i + 1 : Nat) : Int) := by
   unfold Lib.index; rw [if_neg (by rw [h]; simp), if_neg (by rw [hi]; intro e; have := beq_iff_eq.1 e; omega), hi]; omega
  rw [Lib.count_hit Zw mX, Lib.count_hit Zw hi]
  have e : (b :: t).drop (i + 1 + pctE.length) = t.drop (i + pctE.length) := by
   rw [show i + 1 + pctE.length = (i + pctE.length) + 1 by omega, List.drop_succ_cons]
  rw [e, Nat.add_comm 1, Lib.replaceK_hit (h := mX), Lib.replaceK_hit (h := hi), e]
  simp [List.take_succ_cons]
def Yjf : List UInt8 → Option Nat
 | [] => some 0
 | [b] => if b = 46 then some 1 else none
 | [b, c] => if b = 46 then (if c = 46 then some 2 else none) else none
 | b :: c :: d :: t => if b = 46 then (Yjf (c :: d :: t)).map (· + 1) else if b = 37 ∧ c = 50 ∧ lowB d = 101 then (Yjf t).map (· + 1) else none
theorem low46 (b : UInt8) : lowB b = 46 ↔ b = 46 := by
 revert b; exact Yrd (p := fun b => lowB b = 46 ↔ b = 46) Zza
theorem low37 (b : UInt8) : lowB b = 37 ↔ b = 37 := by
 revert b; exact Yrd (p := fun b => lowB b = 37 ↔ b = 37) Zza
theorem low50 (b : UInt8) : lowB b = 50 ↔ b = 50 := by
 revert b; exact Yrd (p := fun b => lowB b = 50 ↔ b = 50) Zza
theorem Ytl (m : Nat) (r : List UInt8) : 46 :: r = List.replicate m 46 ↔ ∃ k, m = k + 1 ∧ r = List.replicate k 46 := by
 cases m with
 | zero => simp
 | succ m => simp [List.replicate_succ]
theorem Yxm (m : Nat) (b : UInt8) (r : List UInt8) (h : b ≠ 46) : ¬ b :: r = List.replicate m 46 := by
 cases m with
 | zero => simp
 | succ m => rw [List.replicate_succ]; intro e; exact h (List.cons.inj e).1
theorem map_one (o : Option Nat) (m : Nat) : o.map (· + 1) = some m ↔ ∃ k, m = k + 1 ∧ o = some k := by
 cases o with
 | none => simp
 | some k =>
  constructor
  ·intro h; exact ⟨k, (Kr h).symm, rfl⟩
  ·rintro ⟨j, rfl, h⟩; cases h; rfl
theorem dots_rep : ∀ (n : Nat) (l : List UInt8), l.length ≤ n → ∀ m, Lib.replaceAll (lowL l) pctE [46] = List.replicate m 46 ↔ Yjf l = some m := by
 have h0 : Lib.replaceAll [] pctE [46] = [] := rfl
 intro n
 induction n with
 | zero =>
  intro l hl m
  obtain rfl : l = [] := List.eq_nil_of_length_eq_zero Zj
  show Lib.replaceAll [] pctE [46] = _ ↔ _
  rw [h0]
  cases m <;> simp [Yjf, List.replicate_succ]
 | succ n ih =>
  intro l hl m
  match l, hl with
  | [], _ =>
   show Lib.replaceAll [] pctE [46] = _ ↔ _
   rw [h0]
   cases m <;> simp [Yjf, List.replicate_succ]
  | [b], _ =>
   show Lib.replaceAll [lowB b] pctE [46] = _ ↔ _
   rw [Ybj _ _ (by simp [List.isPrefixOf]), h0, Yjf]
   by_cases hb : b = 46
   ·subst hb
    rw [if_pos rfl, show lowB 46 = 46 from rfl, Ytl]
    constructor
    ·rintro ⟨k, rfl, hk⟩
     cases k with
     | zero => rfl
     | succ k => simp [List.replicate_succ] at hk
    ·intro e; cases e; exact ⟨0, rfl, rfl⟩
   ·rw [if_neg hb]
    exact ⟨fun e => absurd e (Yxm m _ _ (fun e => hb ((low46 b).1 e))), fun e => by cases e⟩
  | [b, c], _ =>
   show Lib.replaceAll [lowB b, lowB c] pctE [46] = _ ↔ _
   rw [Ybj _ _ (by simp [List.isPrefixOf]), Ybj _ _ (by simp [List.isPrefixOf]), h0, Yjf]
   by_cases hb : b = 46
   ·subst hb
    rw [if_pos rfl, show lowB 46 = 46 from rfl, Ytl]
    by_cases hc : c = 46
    ·subst hc
     rw [if_pos rfl, show lowB 46 = 46 from rfl]
     constructor
     ·rintro ⟨k, rfl, hk⟩
      obtain ⟨j, rfl, hj⟩ := (Ytl _ _).1 hk
      cases j with
      | zero => rfl
      | succ j => simp [List.replicate_succ] at hj
     ·intro e; cases e; exact ⟨1, rfl, rfl⟩
    ·rw [if_neg hc]
     exact ⟨fun ⟨k, _, e⟩ => absurd e (Yxm k _ _ (fun e => hc ((low46 c).1 e))), fun e => by cases e⟩
   ·rw [if_neg hb]
    exact ⟨fun e => absurd e (Yxm m _ _ (fun e => hb ((low46 b).1 e))), fun e => by cases e⟩
  | b :: c :: d :: t, hl =>
   simp only [List.length_cons] at hl
   show Lib.replaceAll (lowB b :: lowB c :: lowB d :: lowL t) pctE [46] = _ ↔ _
   rw [Yjf]
   by_cases hb : b = 46
   ·subst hb
    rw [if_pos rfl, show lowB 46 = 46 from rfl, Ybj _ _ (by simp [List.isPrefixOf]), Ytl, map_one]
    refine exists_congr fun k => and_congr_right fun _ => ?_
    exact ih (c :: d :: t) (by simp only [List.length_cons]; omega) k
   ·rw [if_neg hb]
    by_cases hp : b = 37 ∧ c = 50 ∧ lowB d = 101
    ·rw [if_pos hp]
     obtain ⟨rfl, rfl, hd⟩ := hp
     rw [hd, show lowB 37 = 37 from rfl, show lowB 50 = 50 from rfl, rep_hit, Ytl, map_one]
     exact exists_congr fun k => and_congr_right fun _ => ih t Zj k
    ·rw [if_neg hp, Ybj]
     ·exact ⟨fun e => absurd e (Yxm m _ _ (fun e => hb ((low46 b).1 e))), fun e => by cases e⟩
     ·rw [← Bool.not_eq_true]
      intro e
      apply hp
      simp only [List.isPrefixOf, Bool.and_true, Bool.and_eq_true, beq_iff_eq] at e
      exact ⟨(low37 b).1 e.1.symm, (low50 c).1 e.2.1.symm, e.2.2.symm⟩
theorem Yqq (l : List UInt8) : Yjg l = match Yjf l with | none => 0 | some m => if m > 2 then 0 else m := by
 have h := dots_rep l.length l (Ks _)
 have h1 := h 1
 have h2 := h 2
 have h0 := h 0
 unfold Yjg
 by_cases e1 : Lib.replaceAll (lowL l) pctE [46] = [46]
 ·rw [if_pos e1, h1.1 e1]; rfl
 ·rw [if_neg e1]
  by_cases e2 : Lib.replaceAll (lowL l) pctE [46] = [46, 46]
  ·rw [if_pos e2, h2.1 e2]; rfl
  ·rw [if_neg e2]
   cases hr : Yjf l with
   | none => rfl
   | some m =>
    have n1 : m ≠ 1 := fun e => e1 (h1.2 (by rw [hr, e]))
    have n2 : m ≠ 2 := fun e => e2 (h2.2 (by rw [hr, e]))
    show 0 = if m > 2 then 0 else m
    split <;> omega
def Yqi (b : UInt8) : Bool := (decide (97 ≤ b.toNat) && decide (b.toNat ≤ 122)) || (Ygd b || (b == 45 || b == 95))
theorem nameC_low (b : UInt8) : Ynm (lowB b) = Yqi (lowB b) := by
 revert b; exact Yrd (p := fun b => Ynm (lowB b) = Yqi (lowB b)) Zza
theorem split_mem (c : UInt8) (l : List UInt8) : ∀ y ∈ splitB c l, ∀ b ∈ y, b ∈ l := by
 induction l with
 | nil => intro y hy b hb; rw [splitB] at hy; simp at hy; subst hy; cases hb
 | cons x l ih =>
  intro y hy b hb
  rw [splitB] at hy
  split at hy
  ·rcases List.mem_cons.1 hy with rfl | hy
   ·cases hb
   ·exact List.mem_cons_of_mem _ (ih y hy b hb)
  ·cases hs : splitB c l with
   | nil => exact absurd hs (Yfg c l)
   | cons h t =>
    rw [hs, Yyf] at hy
    rcases List.mem_cons.1 hy with rfl | hy
    ·rcases List.mem_cons.1 hb with rfl | hb
     ·exact List.mem_cons_self
     ·exact List.mem_cons_of_mem _ (ih h (by rw [hs]; exact List.mem_cons_self) b hb)
    ·exact List.mem_cons_of_mem _ (ih y (by rw [hs]; exact List.mem_cons_of_mem _ hy) b hb)
def Yvo (l : List UInt8) : Bool := l.all Yqi && (!l.isEmpty && decide (l.length ≤ 63))
theorem Ytn {α : Type} {p q : α → Bool} {l : List α} (h : ∀ a ∈ l, p a = q a) : l.all p = l.all q := by
 induction l with
 | nil => rfl
 | cons a l ih => rw [List.all_cons, List.all_cons, h a List.mem_cons_self, ih fun b hb => h b (List.mem_cons_of_mem _ hb)]
theorem nameQ_low (m : List UInt8) : (splitB 46 (lowL m)).all Yvo = (splitB 46 (lowL m)).all Ysm := by
 refine Ytn fun y hy => ?_
 unfold Yvo Ysm
 rw [Ytn (p := Yqi) (q := Ynm) fun b hb => ?_]
 have hm := split_mem 46 (lowL m) y hy b hb
 unfold lowL at hm
 obtain ⟨x, _, rfl⟩ := List.mem_map.1 hm
 exact (nameC_low x).symm
def nameR (l : List UInt8) : Bool := (splitB 46 l).all Yvo && (decide (l.length ≤ 253) && ((numL 0 ((splitB 46 l).getD ((splitB 46 l).length - 1) [])).2 == 3 || ((splitB 46 l).length == 4 && (splitB 46 l).all Yoj)))
theorem nameR_low (m : List UInt8) : nameR (lowL m) = Ylj (lowL m) := by
 unfold nameR Ylj; rw [nameQ_low]
def Yig (l : List UInt8) : Bool := l.all Ygd
theorem Ysl (most : Int) : ∀ (l : List UInt8) (many : Bool) (n : Int), Yig l = false → Yqd most many n l = (0, 3) := by
 intro l
 induction l with
 | nil => intro many n h; cases h
 | cons b t ih =>
  intro many n h
  unfold Yqd
  by_cases hb : Ygd b = true
  ·have h2 : Yig t = false := by unfold Yig at h ⊢; rw [List.all_cons, hb, Bool.true_and] at h; exact h
   rw [if_pos hb]
   split
   ·exact ih _ _ h2
   ·exact ih _ _ h2
  ·rw [if_neg hb]
theorem Ytp (most : Int) : ∀ (l : List UInt8) (n : Int), Yig l = true → Yqd most true n l = (0, 5) := by
 intro l
 induction l with
 | nil => intro n h; rfl
 | cons b t ih =>
  intro n h
  unfold Yig at h
  rw [List.all_cons, Bool.and_eq_true] at h
  unfold Yqd
  rw [if_pos h.1, if_pos (Or.inl rfl)]
  exact ih n h.2
theorem Yfk (most : Int) (l : List UInt8) : (numL most l).2 = 3 ↔ (l = [] ∨ Yig l = false) := by
 unfold numL
 by_cases h : l = []
 ·rw [if_pos h]; simp [h]
 ·rw [if_neg h]
  cases ha : Yig l with
  | false => rw [Ysl most l false 0 ha]; simp
  | true =>
   have : ∀ (l : List UInt8) (many : Bool) (n : Int), Yig l = true → (Yqd most many n l).2 ≠ 3 := by
    intro l
    induction l with
    | nil => intro many n h; unfold Yqd; split <;> simp
    | cons b t ih =>
     intro many n h
     unfold Yig at h
     rw [List.all_cons, Bool.and_eq_true] at h
     unfold Yqd
     rw [if_pos h.1]
     split <;> exact ih _ _ h.2
   simp [this l false 0 ha, h]
theorem Yam (c : UInt8) (l : List UInt8) (h : c ∈ l) : ∃ a b, l = a ++ c :: b ∧ c ∉ a := by
 induction l with
 | nil => cases h
 | cons x l ih =>
  by_cases hx : c = x
  ·exact ⟨[], l, by rw [hx]; rfl, Zq⟩
  ·obtain ⟨a, b, e, hn⟩ := ih ((List.mem_cons.1 h).resolve_left hx)
   exact ⟨x :: a, b, by rw [e]; rfl, fun hm => (List.mem_cons.1 hm).elim hx hn⟩
theorem byteNot (c : UInt8) : ∀ l : List UInt8, c ∉ l → Lib.indexByte l c = -1 := by
 intro l
 induction l with
 | nil => intro _; rfl
 | cons b l ih =>
  intro h
  rw [Lib.indexByte, if_neg (by rw [beq_iff_eq]; exact fun e => h (by simp [e])), ih (fun hm => h (by simp [hm]))]; rfl
theorem byteAt (c : UInt8) : ∀ (a b : List UInt8), c ∉ a → Lib.indexByte (a ++ c :: b) c = (a.length : Int) := by
 intro a
 induction a with
 | nil => intro b _; rw [List.nil_append, Lib.indexByte, if_pos Zq]; rfl
 | cons x a ih =>
  intro b h
  rw [List.cons_append, Lib.indexByte, if_neg (by rw [beq_iff_eq]; exact fun e => h (by simp [e])), ih b (fun hm => h (by simp [hm])), if_neg (by rw [beq_iff_eq]; omega)]
  simp
theorem cutHit (c : UInt8) (a b : List UInt8) (h : c ∉ a) : Lib.cut (a ++ c :: b) [c] = (a, b, true) := by
 unfold Lib.cut
 rw [Lib.index_one, byteAt c a b h, if_pos Zj, Int.toNat_natCast]
 simp
theorem cutMiss (c : UInt8) (a : List UInt8) (h : c ∉ a) : Lib.cut a [c] = (a, [], false) := by
 unfold Lib.cut
 rw [Lib.index_one, byteNot c a h, if_neg Zj]
theorem Ycn (p : UInt8 → Bool) (a b : List UInt8) (h : ∀ x ∈ a, p x = true) : (a ++ b).takeWhile p = a ++ b.takeWhile p ∧ (a ++ b).dropWhile p = b.dropWhile p := by
 induction a with
 | nil => exact ⟨rfl, rfl⟩
 | cons x a ih =>
  have hx := h x Zq
  have := ih (fun y hy => h y (by simp [hy]))
  rw [List.cons_append, List.takeWhile_cons, List.dropWhile_cons, if_pos hx, if_pos hx, this.1, this.2]
  exact ⟨rfl, rfl⟩
theorem Ymq (c : UInt8) (l : List UInt8) : Lib.cut l [c] = (l.takeWhile (· != c), (l.dropWhile (· != c)).drop 1, l.contains c) := by
 by_cases h : c ∈ l
 ·obtain ⟨a, b, rfl, hn⟩ := Yam c l h
  have ha : ∀ x ∈ a, (x != c) = true := fun x hx => by rw [bne_iff_ne]; rintro rfl; exact hn hx
  have := Ycn (· != c) a (c :: b) ha
  rw [cutHit c a b hn, this.1, this.2, List.takeWhile_cons_of_neg Zq, List.dropWhile_cons_of_neg Zq, List.append_nil]
  simp
 ·have ha : ∀ x ∈ l, (x != c) = true := fun x hx => by rw [bne_iff_ne]; rintro rfl; exact h hx
  have := Ycn (· != c) l [] ha
  rw [List.append_nil] at this
  rw [cutMiss c l h, this.1, this.2]
  simp [h]
def Yle (l : List UInt8) : Nat := if Yzc (l.headD 0) = true ∧ (l.dropWhile Yoc).head? = some 58 then (l.takeWhile Yoc).length + 1 else 0
theorem Ytq (c : List UInt8) : Yaf c ⟨#[]⟩ = if Yle c = 0 then (3, ofL c, ⟨#[]⟩) else (if lowL (c.take (Yle c - 1)) = Yxg ∨ lowL (c.take (Yle c - 1)) = Ybg then 0 else 16, ofL (c.drop (Yle c)), ofL (lowL (c.take (Yle c - 1)))) := by
 have h58 : Yoc 58 = false := by decide
 unfold Yle
 by_cases H : Yzc (c.headD 0) = true ∧ (c.dropWhile Yoc).head? = some 58
 ·rw [if_pos H]
  obtain ⟨h1, h2⟩ := H
  obtain ⟨b, hb⟩ : ∃ b, c.dropWhile Yoc = 58 :: b := by
   cases hd : c.dropWhile Yoc with
   | nil => rw [hd] at h2; cases h2
   | cons x y => rw [hd] at h2; simp at h2; exact ⟨y, by rw [h2]⟩
  have hc : c = c.takeWhile Yoc ++ 58 :: b := by rw [← hb, List.takeWhile_append_dropWhile]
  have hall : ∀ x ∈ c.takeWhile Yoc, Yoc x = true := fun x hx => List.all_eq_true.1 (List.all_takeWhile) x hx
  generalize ha : c.takeWhile Yoc = a at hc hall
  have hn : (58 : UInt8) ∉ a := fun hm => by have := hall 58 hm; rw [h58] at this; cases this
  subst hc
  have hne : a ≠ [] := by
   rintro rfl
   simp at h1
   revert h1; decide
  have hhd : (a ++ 58 :: b).headD 0 = a.headD 0 := by cases a with | nil => exact absurd rfl hne | cons x y => rfl
  unfold Yaf
  rw [cutHit 58 a b hn, if_pos ⟨rfl, hne, by rw [← hhd]; exact h1, List.all_eq_true.2 hall⟩, if_neg (show ¬ a.length + 1 = 0 by omega)]
  have e1 : (a ++ 58 :: b).take (a.length + 1 - 1) = a := by rw [Nat.add_sub_cancel]; exact List.take_left
  have e2 : (a ++ 58 :: b).drop (a.length + 1) = b := by
   rw [show a ++ 58 :: b = (a ++ [58]) ++ b by simp, show a.length + 1 = (a ++ [58]).length by simp]; exact List.drop_left
  rw [e1, e2]
 ·rw [if_neg H, if_pos rfl]
  unfold Yaf
  rw [if_neg]
  rintro ⟨k1, k2, k3, k4⟩
  apply H
  rw [Ymq] at k1 k2 k3 k4
  simp only at k1 k2 k3 k4
  have hm : (58 : UInt8) ∈ c := by simpa using k1
  obtain ⟨a, b, rfl, hn⟩ := Yam 58 c hm
  have ha : ∀ x ∈ a, (x != 58) = true := fun x hx => by rw [bne_iff_ne]; rintro rfl; exact hn hx
  have ht := Ycn (· != 58) a (58 :: b) ha
  rw [ht.1, List.takeWhile_cons_of_neg Zq, List.append_nil] at k2 k3 k4
  have hs := Ycn Yoc a (58 :: b) (List.all_eq_true.1 k4)
  refine ⟨?_, ?_⟩
  ·cases a with
   | nil => exact absurd rfl k2
   | cons x y => exact k3
  ·rw [hs.2, List.dropWhile_cons_of_neg (by rw [h58]; simp)]; rfl
end Go.Proofs.YtihaeeldgimdiaaGreatDoor.X
end
section
namespace Go.Proofs.YtihaeeldgimdiaaGreatDoor.X
open Go.RowKit Go.Lib Go.Shelf Go.Yw.PrintWords Go.Yw.PrintLast Go.Yw.PrintMore
def hexR (n : Nat) : UInt8 := if n < 10 then UInt8.ofNat (48 + n) else UInt8.ofNat (55 + n)
def Ysc.f (a0 : Int) : Option Y := if 0 ≤ a0 ∧ a0 < 256 then some (ofL [37, hexR (a0.toNat / 16), hexR (a0.toNat % 16)]) else none
abbrev hexS : Y := ⟨#[48, 49, 50, 51, 52, 53, 54, 55, 56, 57, 65, 66, 67, 68, 69, 70]⟩
theorem Ycr (n : Nat) (h : n < 16) : hexS[n]'h = hexR n := by
 have : ∀ n : Fin 16, hexS[n.val]'n.isLt = hexR n.val := by decide +kernel
 exact this ⟨n, h⟩
set_option maxHeartbeats 8000000 in
set_option maxRecDepth 100000 in
theorem Ysc.calls (a0 : Int) (r : Y) (w : World) (hE : EnvOk w) (h : Ysc.f a0 = some r) :
  Calls Tryz.prog 117 #[.int .u8 a0] w fun e w' => e = .returned (.string r) ∧ Below w.heap.size w w' := by
 unfold Ysc.f at h
 by_cases hs : 0 ≤ a0 ∧ a0 < 256
 ·rw [if_pos hs] at h
  obtain rfl := Kr h
  obtain ⟨n, rfl⟩ : ∃ n : Nat, a0 = (n : Int) := ⟨a0.toNat, Zj⟩
  rw [Int.toNat_natCast]
  have hn : n < 256 := by omega
  obtain ⟨q, hq⟩ : ∃ q, q = n / 16 := ⟨_, rfl⟩
  obtain ⟨m, hm⟩ : ∃ m, m = n % 16 := ⟨_, rfl⟩
  have e1 : Int.tdiv (n : Int) 16 = (q : Int) := by rw [Int.tdiv_eq_ediv_of_nonneg Zj]; omega
  have e2 : Int.tmod (n : Int) 16 = (m : Int) := by rw [Int.tmod_eq_emod_of_nonneg Zj]; omega
  have cP : q < 16 := by omega
  have pK : m < 16 := by omega
  have w1 : IntKind.u8.wrap (q : Int) = (q : Int) := by unfold IntKind.wrap; simp [IntKind.bits, IntKind.signed]; omega
  have w2 : IntKind.u8.wrap (m : Int) = (m : Int) := by unfold IntKind.wrap; simp [IntKind.bits, IntKind.signed]; omega
  have k1 : (0 : Int) ≤ (q : Int) := by omega
  have k2 : (q : Int) < 16 := by omega
  have k3 : (0 : Int) ≤ (m : Int) := by omega
  have k4 : (m : Int) < 16 := by omega
  rw [← hq, ← hm]
  clear hq hm hs hn h
  have hcv := run_convert_bytes_back (P := Tryz.prog) (w.alloc (.cells #[.int .u8 (((hexS[q]'cP).toNat : Nat) : Int), .int .u8 (((hexS[m]'pK).toNat : Nat) : Int)] 5)).drew 67 9 5 ⟨w.heap.size, 0, none⟩ 2 [hexS[q]'cP, hexS[m]'pK] Tryz.underlying67 Tryz.underlying5 Tryz.underlying9
   (fun j hj => by
    have hb := heap_alloc_new w (.cells #[.int .u8 (((hexS[q]'cP).toNat : Nat) : Int), .int .u8 (((hexS[m]'pK).toNat : Nat) : Int)] 5)
    match j, hj with
    | 0, _ => exact (Yf (Yma hb) 0).trans rfl
    | 1, _ => exact (Yf (Yma hb) 1).trans rfl)
  have aXV := hcv
  simp only [List.length_cons, List.length_nil] at hcv
  have HX := Ya.mk (And.intro (Ycr q cP) (Ycr m pK))
  clear aXV
  go_enter Tryz.func117, Tryz.ntmps117
  go_wp2_with fail
  go_region
  go_wp2
  go_ret
  exact ⟨by rw [HX.out.1, HX.out.2]; rfl, Yc ((Below.refl w.heap.size w).alloc (Ks _) _)⟩
 ·rw [if_neg hs] at h; cases h
end Go.Proofs.YtihaeeldgimdiaaGreatDoor.X
end
