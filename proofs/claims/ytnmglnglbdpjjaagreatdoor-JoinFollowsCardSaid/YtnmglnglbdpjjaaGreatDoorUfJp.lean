import Derived.Test.YtnmglnglbdpjjaaGreatDoorUfRl
import Derived.Test.YtnmglnglbdpjjaaGreatDoorUfX13
set_option linter.all false
namespace Go.Proofs.YtnmglnglbdpjjaaGreatDoor.X
open Go.RowKit Go.Lib Go.Shelf Go.Yw.PrintWords Go.Yw.PrintLast Go.Yw.PrintMore
def Yjh (l : List UInt8) : Nat := ((l.take 2).takeWhile Yrb).length
theorem slashI_f (b : UInt8) : strings_IndexByte.f (⟨#[47, 92]⟩ : Y) (b.toNat : Int) = some (if b = 47 then 0 else if b = 92 then 1 else -1) := by
 revert b; exact Yad Zma
theorem mn_two (n : Nat) : mn (n : Int) 2 = ((min n 2 : Nat) : Int) := by
 unfold mn; split <;> omega
theorem slash_l0 (s : Y) (hs : s.size ≤ 100000000) : ∀ (L : List UInt8) (i : Nat), s.data.toList.drop i = L → i ≤ 2 → i ≤ s.size →
  EvR (fun k => Yub.l0 k s (i : Int)) ((i + ((L.take (2 - i)).takeWhile Yrb).length : Nat) : Int) := by
 intro L
 induction L with
 | nil =>
  intro i hL h2 hi
  have he := bt_end s i hL hi
  refine EvR.succ (EvR.of fun k => ?_)
  rw [Yub.l0, mn_two, if_neg Zk]
  simp
 | cons b t ih =>
  intro i hL h2 hi
  obtain ⟨kY, hb, ht⟩ := Yvc s i b t hL
  have hw := Yzd i s.size hi hs
  refine EvR.succ ?_
  by_cases h3 : i = 2
  ·refine EvR.of fun k => ?_
   rw [Yub.l0, mn_two, if_neg Zk, h3]; simp
  ·obtain ⟨m, hm⟩ : ∃ m, 2 - i = m + 1 := ⟨1 - i, Zk⟩
   have hstep : ∀ k, Yub.l0 (k + 1) s (i : Int) = if Yrb b = true then Yub.l0 k s ((i + 1 : Nat) : Int) else some (i : Int) := by
    intro k
    rw [Yub.l0, mn_two, if_pos Zk, if_pos Zk, if_pos Zk, hb, slashI_f]
    simp only [Kfa]
    rw [hw]
    unfold Yrb
    by_cases e1 : b = 47
    ·simp [e1]
    ·by_cases e2 : b = 92
     ·simp [e2]
     ·simp [e1, e2]
   rw [hm, List.take_succ_cons]
   by_cases hn : Yrb b = true
   ·have := ih (i + 1) ht Zk Zk
    rw [show 2 - (i + 1) = m by omega] at this
    rw [List.takeWhile_cons_of_pos hn]
    refine EvR.congr (f := fun k => Yub.l0 k s ((i + 1 : Nat) : Int)) ?_ (fun k => by rw [hstep, if_pos hn])
    rw [List.length_cons, show i + ((t.take m).takeWhile Yrb).length.succ = i + 1 + ((t.take m).takeWhile Yrb).length by omega]
    exact this
   ·refine EvR.of fun k => ?_
    rw [hstep, if_neg hn, List.takeWhile_cons_of_neg hn]; simp
theorem Yhs (s : Y) (hs : s.size ≤ 100000000) : EvR (fun k => Yub.f k s) ((Yjh s.data.toList : Nat) : Int) := by
 have := slash_l0 s hs s.data.toList 0 Zv Zk Zk
 simp only [Nat.sub_zero, Nat.zero_add] at this
 exact this
def upTo (l : List UInt8) : List UInt8 := (l.reverse.dropWhile (· != 47)).reverse
theorem Yor (l : List UInt8) : (upTo l).length ≤ l.length := by
 unfold upTo; rw [List.length_reverse]; exact Nat.le_trans (Yte _ _) Zv
theorem Yxq (l : List UInt8) : upTo l = l.take (upTo l).length := by
 have h := List.takeWhile_append_dropWhile (p := (· != 47)) (l := l.reverse)
 have h2 := congrArg List.reverse h
 rw [List.reverse_append, List.reverse_reverse] at h2
 unfold upTo
 generalize (l.reverse.dropWhile (· != 47)).reverse = a at h2 ⊢
 rw [← h2, List.take_left]
theorem Yqq (n m : Nat) (h : n ≤ m) (hm : m ≤ 100000000) : wrap64 ((n : Int) - 1) = (n : Int) - 1 := by unfold wrap64; omega
theorem last_l0 (s : Y) (hs : s.size ≤ 100000000) : ∀ n : Nat, n ≤ s.size →
  EvR (fun k => bytealg_LastIndexByteString.l0 k s 47 ((n : Int) - 1)) (((upTo (s.data.toList.take n)).length : Int) - 1) := by
 intro n
 induction n with
 | zero =>
  intro _
  refine EvR.succ (EvR.of fun k => ?_)
  rw [bytealg_LastIndexByteString.l0, if_neg Zk]; rfl
 | succ n ih =>
  intro hn
  have hlen : n < s.data.toList.length := by rw [← Lib.size_eq]; omega
  obtain ⟨b, hb⟩ : ∃ b, b = s.data.toList[n] := ⟨_, rfl⟩
  have hd : s.data.toList.drop n = b :: s.data.toList.drop (n + 1) := by rw [hb]; exact List.drop_eq_getElem_cons hlen
  obtain ⟨h1, h2, _⟩ := Yvc s n b _ hd
  have ht : s.data.toList.take (n + 1) = s.data.toList.take n ++ [b] := by rw [hb, List.take_append_getElem hlen]
  have hl : (s.data.toList.take n).length = n := by rw [List.length_take]; omega
  refine EvR.succ ?_
  have e : (((n + 1 : Nat) : Int) - 1) = (n : Int) := by omega
  have hstep : ∀ k, bytealg_LastIndexByteString.l0 (k + 1) s 47 (((n + 1 : Nat) : Int) - 1) = if b = 47 then some (n : Int) else bytealg_LastIndexByteString.l0 k s 47 ((n : Int) - 1) := by
   intro k
   rw [e, bytealg_LastIndexByteString.l0, if_pos Zk, if_pos Zk, if_pos Zk, h2, Yqq n s.size Zk hs]
   by_cases hh : b = 47
   ·rw [if_pos hh, if_pos (by rw [hh]; rfl)]
   ·rw [if_neg hh, if_neg (fun hx => hh (by have := (Yzk b 47 Zk).1 hx; simpa using this))]
  by_cases hh : b = 47
  ·refine EvR.of fun k => ?_
   rw [hstep, if_pos hh]
   have : upTo (s.data.toList.take (n + 1)) = s.data.toList.take (n + 1) := by
    rw [ht, hh]; unfold upTo; rw [List.reverse_append]; simp
   rw [this, ht, List.length_append, hl]; simp
  ·refine EvR.congr (f := fun k => bytealg_LastIndexByteString.l0 k s 47 ((n : Int) - 1)) ?_ (fun k => by rw [hstep, if_neg hh])
   have : upTo (s.data.toList.take (n + 1)) = upTo (s.data.toList.take n) := by
    rw [ht]; unfold upTo; rw [List.reverse_append]
    simp [List.dropWhile_cons, hh]
   rw [this]; exact ih Zk
theorem last_f (s : Y) (hs : s.size ≤ 100000000) : EvR (fun k => strings_LastIndexByte.f k s 47) (((upTo s.data.toList).length : Int) - 1) := by
 have h := last_l0 s hs s.size (Kw _)
 rw [List.take_of_length_le Zmb] at h
 refine EvR.congr (f := fun k => (bytealg_LastIndexByteString.l0 k s 47 ((s.size : Int) - 1)).bind fun t => some t) ?_ (fun k => ?_)
 ·exact EvR.bind (g := fun _ t => some t) h (EvR.of fun _ => rfl)
 ·unfold strings_LastIndexByte.f bytealg_LastIndexByteString.f
  rw [Yqq s.size s.size (Nat.le_refl _) hs]
def Yoe (l : List UInt8) : List UInt8 × List UInt8 × Bool :=
 if (Lib.cut l [58]).2.2 = true ∧ (Lib.cut l [58]).1 ≠ [] ∧ Yyc ((Lib.cut l [58]).1.headD 0) = true ∧ (Lib.cut l [58]).1.all Ywb = true then
  ((Lib.cut l [58]).1, (Lib.cut l [58]).2.1, true)
 else ([], [], false)
theorem Ykv (x3 x4 : Y) (hs : x3.size ≤ 100000000) : ∀ (L : List UInt8) (i : Nat), x3.data.toList.drop i = L → i ≤ x3.size →
  EvR (fun k => Yma.l0 k x3 x4 (x3.size : Int) (i : Int)) (if L.all Ywb = true then (x3, x4, true) else (⟨#[]⟩, ⟨#[]⟩, false)) := by
 intro L
 induction L with
 | nil =>
  intro i hL hi
  have he := bt_end x3 i hL hi
  refine EvR.succ (EvR.of fun k => ?_)
  rw [Yma.l0, if_neg Zk]; rfl
 | cons b t ih =>
  intro i hL hi
  obtain ⟨kY, hb, ht⟩ := Yvc x3 i b t hL
  have hw := Yzd i x3.size hi hs
  refine EvR.succ ?_
  have hstep : ∀ k, Yma.l0 (k + 1) x3 x4 (x3.size : Int) (i : Int) = if Ywb b = true then Yma.l0 k x3 x4 (x3.size : Int) ((i + 1 : Nat) : Int) else some (⟨#[]⟩, ⟨#[]⟩, false) := by
   intro k
   rw [Yma.l0, if_pos Zk, if_pos Zk, if_pos Zk, hb, Ydk]
   simp only [Kfa]
   rw [Ynj, hw, sign_f]
   simp only [Kfa]
   unfold Ywb
   cases h1 : Yyc b
   ·cases h2 : Ygd b
    ·rw [if_neg Zv, if_neg Zv]
     by_cases h3 : b = 43
     ·simp [h3]
     ·by_cases h4 : b = 45
      ·simp [h4]
      ·by_cases h5 : b = 46
       ·simp [h5]
       ·simp [h3, h4, h5]
    ·simp
   ·simp
  by_cases hn : Ywb b = true
  ·refine EvR.congr (f := fun k => Yma.l0 k x3 x4 (x3.size : Int) ((i + 1 : Nat) : Int)) ?_ (fun k => by rw [hstep, if_pos hn])
   have := ih (i + 1) ht Zk
   rw [List.all_cons, hn, Bool.true_and]; exact this
  ·refine EvR.of fun k => ?_
   rw [hstep, if_neg hn, List.all_cons]
   simp [hn]
theorem schemeJ_f (s : Y) (hs : s.size ≤ 100000000) : EvR (fun k => Yma.f k s) (ofL (Yoe s.data.toList).1, ofL (Yoe s.data.toList).2.1, (Yoe s.data.toList).2.2) := by
 have hc : strings_Cut.f s ⟨#[58]⟩ = some (ofL (Lib.cut s.data.toList [58]).1, ofL (Lib.cut s.data.toList [58]).2.1, (Lib.cut s.data.toList [58]).2.2) := by
  unfold strings_Cut.f; rw [if_pos Zk]
 have hl := (Ywl s.data.toList [58]).1
 rw [← Lib.size_eq] at hl
 have hj : ∀ (x3 x4 : Y), EvR (fun k => Yma.j0 k x3 x4 true) (⟨#[]⟩, ⟨#[]⟩, false) := by
  intro x3 x4
  exact EvR.succ (EvR.of fun k => by rw [Yma.j0, if_pos rfl])
 unfold Yoe
 refine EvR.congr (f := fun k => if (Lib.cut s.data.toList [58]).2.2 = true then (if (ofL (Lib.cut s.data.toList [58]).1).toList = ([] : List UInt8) then (Yma.j0 k (ofL (Lib.cut s.data.toList [58]).1) (ofL (Lib.cut s.data.toList [58]).2.1) true) else (if 0 < ((ofL (Lib.cut s.data.toList [58]).1).size : Int) then ((Ywa.f (bt (ofL (Lib.cut s.data.toList [58]).1) 0)).bind fun uK => (Yma.j0 k (ofL (Lib.cut s.data.toList [58]).1) (ofL (Lib.cut s.data.toList [58]).2.1) (!uK))) else (none))) else (Yma.j0 k (ofL (Lib.cut s.data.toList [58]).1) (ofL (Lib.cut s.data.toList [58]).2.1) true)) ?_ (fun k => by unfold Yma.f; rw [hc]; rfl)
 by_cases h1 : (Lib.cut s.data.toList [58]).2.2 = true
 ·simp only [if_pos h1]
  cases h2 : (Lib.cut s.data.toList [58]).1 with
  | nil =>
   rw [if_neg (by rintro ⟨_, h, _⟩; exact h rfl)]
   simp only [Ywc, if_true]
   exact hj _ _
  | cons b t =>
   have hb : bt (ofL (b :: t)) 0 = (b.toNat : Int) := (Yvc (ofL (b :: t)) 0 b t rfl).2.1
   have hz : (ofL (b :: t)).size = t.length + 1 := by rw [Yy, List.length_cons]
   simp only [Ywc, hz, hb]
   simp only [if_neg (show ¬ (b :: t = ([] : List UInt8)) by simp), if_pos (show 0 < ((t.length + 1 : Nat) : Int) by omega), Ydk, Kfa]
   cases h3 : Yyc b with
   | false =>
    rw [if_neg (by rintro ⟨_, _, h, _⟩; simp [h3] at h)]
    exact hj _ _
   | true =>
    refine EvR.succ ?_
    refine EvR.congr (f := fun k => Yma.l0 k (ofL (b :: t)) (ofL (Lib.cut s.data.toList [58]).2.1) ((ofL (b :: t)).size : Int) ((0 : Nat) : Int)) ?_ (fun k => by rw [Yma.j0]; simp)
    have := Ykv (ofL (b :: t)) (ofL (Lib.cut s.data.toList [58]).2.1) (by rw [Yy, ← h2]; omega) (b :: t) 0 (by simp [Ygb]) Zk
    by_cases h4 : (b :: t).all Ywb = true
    ·rw [if_pos ⟨h1, Zv, h3, h4⟩]; rw [if_pos h4] at this; exact this
    ·rw [if_neg (by rintro ⟨_, _, _, h⟩; exact h4 h)]; rw [if_neg h4] at this; exact this
 ·simp only [if_neg h1]
  rw [if_neg (by rintro ⟨h, _⟩; exact h1 h)]
  exact hj _ _
theorem same_f (a b : Y) (ha : a.size ≤ 100000000) (hb : b.size ≤ 100000000) : Ylg.f a b = some (decide (lowL a.data.toList = lowL b.data.toList)) := by
 have e1 : Yib.f a = some (ofL (lowL a.data.toList)) := by unfold Yib.f; rw [if_pos Zk]
 have e2 : Yib.f b = some (ofL (lowL b.data.toList)) := by unfold Yib.f; rw [if_pos Zk]
 unfold Ylg.f
 rw [e1, e2]
 simp only [Kfa, Ywc]
 by_cases h : (a.size : Int) = (b.size : Int)
 ·rw [if_pos h]
  by_cases hh : lowL a.data.toList = lowL b.data.toList
  ·rw [hh, beq_self_eq_true, decide_eq_true rfl]
  ·rw [beq_eq_false_iff_ne.2 hh, decide_eq_false hh]
 ·rw [if_neg h]
  congr 1; symm
  refine Ks fun hh => h ?_
  have := congrArg List.length hh
  unfold lowL at this
  rw [List.length_map, List.length_map] at this
  rw [Lib.size_eq, Lib.size_eq, this]
end Go.Proofs.YtnmglnglbdpjjaaGreatDoor.X
