/- What the parts of Parse, and Parse as a whole, compute, as plain functions of bytes. -/
import Derived.Test.YtfmjnmglagdcdaaGreatDoorCHWords
import Derived.Test.YtfmjnmglagdcdaaGreatDoorCHH4
import Derived.Test.YtfmjnmglagdcdaaGreatDoorCHPa
namespace Go.Proofs.YtfmjnmglagdcdaaGreatDoor.X
open Go.RowKit Go.Lib Go.Shelf Go.Yw.PrintWords Go.Yw.PrintLast Go.Yw.PrintMore
set_option linter.unusedVariables false
set_option linter.unusedSimpArgs false
def EvR {α : Type} (f : Nat → Option α) (r : α) : Prop := ∃ k0, ∀ k, k0 ≤ k → f k = some r
theorem EvR.of {α : Type} {f : Nat → Option α} {r : α} (h : ∀ k, f k = some r) : EvR f r := ⟨0, fun k _ => h k⟩
theorem EvR.succ {α : Type} {f : Nat → Option α} {r : α} (h : EvR (fun k => f (k + 1)) r) : EvR f r := by
 obtain ⟨k0, h⟩ := h
 refine ⟨k0 + 1, fun k hk => ?_⟩
 cases k with
 | zero => omega
 | succ k => exact h k Zk
theorem EvR.congr {α : Type} {f g : Nat → Option α} {r : α} (h : EvR f r) (e : ∀ k, g k = f k) : EvR g r := by
 obtain ⟨k0, h⟩ := h
 exact ⟨k0, fun k hk => (e k).trans (h k hk)⟩
theorem EvR.bind {α β : Type} {f : Nat → Option α} {g : Nat → α → Option β} {x : α} {y : β} (hf : EvR f x) (hg : EvR (fun k => g k x) y) : EvR (fun k => (f k).bind (g k)) y := by
 obtain ⟨k1, h1⟩ := hf
 obtain ⟨k2, h2⟩ := hg
 exact ⟨max k1 k2, fun k hk => by show (f k).bind (g k) = some y; rw [h1 k Zk]; exact h2 k Zk⟩
theorem EvR.mono {α : Type} {f : Nat → Option α} {r : α} (hm : ∀ k, LeO (f k) (f (k + 1))) {k0 : Nat} (h : f k0 = some r) : EvR f r := by
 refine ⟨k0, fun k hk => ?_⟩
 induction hk with
 | refl => exact h
 | step _ ih => exact hm _ _ ih
theorem Ymm (s : ByteArray) (i : Nat) (b : UInt8) (t : List UInt8) (h : s.data.toList.drop i = b :: t) : i < s.size ∧ bt s (i : Int) = (b.toNat : Int) ∧ s.data.toList.drop (i + 1) = t := by
 have hi : i < s.size := by
  have := congrArg List.length h
  rw [List.length_drop, ← Lib.size_eq] at this
  simp only [List.length_cons] at this; omega
 refine ⟨hi, ?_, ?_⟩
 ·have h1 : s.data.toList[i]? = some b := by have h9 := List.getElem?_drop (xs := s.data.toList) (i := i) (j := 0); rw [h, Nat.add_zero] at h9; rw [← h9]; rfl
  have h2 : i < s.data.toList.length := by rw [← Lib.size_eq]; exact hi
  have h3 : s.data.toList[i] = b := by rw [List.getElem?_eq_getElem h2] at h1; exact Option.some.inj h1
  rw [← Yzc s (i : Int) (by rw [Int.toNat_natCast]; exact hi)]
  simp only [Int.toNat_natCast]
  rw [← h3]; rfl
 ·have h9 := List.drop_drop (i := 1) (j := i) (l := s.data.toList); rw [h] at h9; rw [← h9]; rfl
theorem bt_end (s : ByteArray) (i : Nat) (h : s.data.toList.drop i = []) (hi : i ≤ s.size) : i = s.size := by
 have := congrArg List.length h
 rw [List.length_drop, ← Lib.size_eq] at this
 simp only [List.length_nil] at this; omega
theorem Yxg (i n : Nat) (h : i ≤ n) (hn : n ≤ 100000000) : wrap64 ((i : Int) + 1) = ((i + 1 : Nat) : Int) := by unfold wrap64; omega
def Yrc (most : Int) : Bool → Int → List UInt8 → Int × Int
 | many, n, [] => if many = true then (0, 5) else (n, 0)
 | many, n, b :: t => if Yic b = true then (if many = true ∨ most < n * 10 + ((b.toNat : Int) - 48) then Yrc most true n t else Yrc most false (n * 10 + ((b.toNat : Int) - 48)) t) else (0, 3)
def numL (most : Int) (l : List UInt8) : Int × Int := if l = [] then (0, 3) else Yrc most false 0 l
theorem number_l0 (s : ByteArray) (most : Int) (h0 : 0 ≤ most) (h1 : most ≤ 1000000000) (hs : s.size ≤ 100000000) : ∀ (L : List UInt8) (i : Nat) (n : Int) (many : Bool), s.data.toList.drop i = L → i ≤ s.size → 0 ≤ n → n ≤ most →
  EvR (fun k => Ym.l0 k s most n many (s.size : Int) (i : Int)) (Yrc most many n L) := by
 intro L
 induction L with
 | nil =>
  intro i n many hL hi hn0 hn1
  have he := bt_end s i hL hi
  refine EvR.succ (EvR.of fun k => ?_)
  rw [Ym.l0, if_neg Zk]
  unfold Yrc
  cases many <;> rfl
 | cons b t ih =>
  intro i n many hL hi hn0 hn1
  obtain ⟨hi2, hb, ht⟩ := Ymm s i b t hL
  have hw := Yxg i s.size hi hs
  refine EvR.succ ?_
  by_cases hd : Yic b = true
  ·have hr : 48 ≤ b.toNat ∧ b.toNat ≤ 57 := by unfold Yic at hd; simpa using hd
   have e1 : ((b.toNat : Int) - 48) % 256 = (b.toNat : Int) - 48 := by omega
   by_cases hm : many = true
   ·subst hm
    refine (ih (i + 1) n true ht Zk hn0 hn1).congr (fun k => ?_) |> fun h => by unfold Yrc; rw [if_pos hd, if_pos (Or.inl rfl)]; exact h
    rw [Ym.l0, if_pos Zk, if_pos Zk, if_pos Zk, hb, Yyg]
    simp only [Option.bind_some]
    rw [if_pos hd, if_pos trivial, hw]
   ·have hm2 : many = false := by cases many <;> simp_all
    subst hm2
    have e2 : wrap64 (most - ((b.toNat : Int) - 48)) = most - ((b.toNat : Int) - 48) := by unfold wrap64; omega
    by_cases hbig : most < n * 10 + ((b.toNat : Int) - 48)
    ·refine (ih (i + 1) n true ht Zk hn0 hn1).congr (fun k => ?_) |> fun h => by unfold Yrc; rw [if_pos hd, if_pos (Or.inr hbig)]; exact h
     rw [Ym.l0, if_pos Zk, if_pos Zk, if_pos Zk, hb, Yyg]
     simp only [Option.bind_some]
     rw [if_pos hd, if_neg Zy, e1, e2, hw]
     split
     ·rfl
     ·next h1 =>
      rw [if_pos]
      by_cases h2 : most < (b.toNat : Int) - 48
      ·exact h2
      ·exfalso
       apply h1
       rw [Int.tdiv_eq_ediv_of_nonneg Zk]
       unfold wrap64; omega
    ·refine (ih (i + 1) (n * 10 + ((b.toNat : Int) - 48)) false ht Zk Zk Zk).congr (fun k => ?_) |> fun h => by unfold Yrc; rw [if_pos hd, if_neg (by simp [hbig])]; exact h
     rw [Ym.l0, if_pos Zk, if_pos Zk, if_pos Zk, hb, Yyg]
     simp only [Option.bind_some]
     rw [if_pos hd, if_neg Zy, e1, e2, hw, if_neg, if_neg Zk]
     ·have e5 : wrap64 (n * 10) = n * 10 := by unfold wrap64; omega
      rw [e5]
      have e6 : wrap64 (n * 10 + ((b.toNat : Int) - 48)) = n * 10 + ((b.toNat : Int) - 48) := by unfold wrap64; omega
      rw [e6]
     ·rw [Int.tdiv_eq_ediv_of_nonneg Zk]
      unfold wrap64; omega
  ·refine EvR.of fun k => ?_
   rw [Ym.l0, if_pos Zk, if_pos Zk, if_pos Zk, hb, Yyg]
   simp only [Option.bind_some]
   rw [if_neg hd]
   unfold Yrc
   rw [if_neg hd]
theorem Ykk (s : ByteArray) (most : Int) (h0 : 0 ≤ most) (h1 : most ≤ 1000000000) (hs : s.size ≤ 100000000) : EvR (fun k => Ym.f k s most) (numL most s.data.toList) := by
 by_cases he : s.data.toList = []
 ·refine EvR.of fun k => ?_
  unfold Ym.f numL
  rw [Lib.toList_data, if_pos he, if_pos he]
 ·refine EvR.congr (f := fun k => Ym.l0 k s most 0 false (s.size : Int) ((0 : Nat) : Int)) ?_ (fun k => ?_)
  ·unfold numL
   rw [if_neg he]
   exact number_l0 s most h0 h1 hs _ 0 0 false rfl Zk Zk h0
  ·unfold Ym.f
   rw [Lib.toList_data, if_neg he, decide_eq_false Zk]; rfl
theorem Ylo (most : Int) (h0 : 0 ≤ most) : ∀ (l : List UInt8) (many : Bool) (n : Int), 0 ≤ n → n ≤ most → 0 ≤ (Yrc most many n l).1 ∧ (Yrc most many n l).1 ≤ most := by
 intro l
 induction l with
 | nil => intro many n hn0 hn1; unfold Yrc; split <;> (constructor <;> simp <;> omega)
 | cons b t ih =>
  intro many n hn0 hn1
  unfold Yrc
  split
  ·next hd =>
   have hr : 48 ≤ b.toNat ∧ b.toNat ≤ 57 := by unfold Yic at hd; simpa using hd
   split
   ·exact ih true n hn0 hn1
   ·next h => exact ih false _ Zk Zk
  ·constructor <;> simp <;> omega
theorem numL_le (most : Int) (h0 : 0 ≤ most) (l : List UInt8) : 0 ≤ (numL most l).1 ∧ (numL most l).1 ≤ most := by
 unfold numL
 split
 ·constructor <;> simp <;> omega
 ·exact Ylo most h0 l false 0 Zk h0
def Yek (b : UInt8) : Bool := Ydc b || (Yic b || (b == 45 || b == 95))
def Yxi (l : List UInt8) : Bool := l.all Yek && (!l.isEmpty && decide (l.length ≤ 63))
theorem byte_eq (b : UInt8) (n : Nat) (h : n < 256) : ((b.toNat : Int) = (n : Int)) ↔ b = UInt8.ofNat n := by
 constructor
 ·intro e
  apply UInt8.toNat_inj.1
  rw [UInt8.toNat_ofNat', Nat.mod_eq_of_lt h]; omega
 ·rintro rfl
  rw [UInt8.toNat_ofNat', Nat.mod_eq_of_lt h]
theorem isPart_l0 (s : ByteArray) (hs : s.size ≤ 100000000) : ∀ (L : List UInt8) (i : Nat), s.data.toList.drop i = L → i ≤ s.size →
  EvR (fun k => Yu.l0 k s (s.size : Int) (i : Int)) (L.all Yek && (!s.data.toList.isEmpty && decide (s.data.toList.length ≤ 63))) := by
 intro L
 induction L with
 | nil =>
  intro i hL hi
  have he := bt_end s i hL hi
  refine EvR.succ (EvR.of fun k => ?_)
  rw [Yu.l0, if_neg Zk, Lib.toList_data]
  by_cases h : s.data.toList = []
  ·rw [if_pos h, h]; rfl
  ·rw [if_neg h]
   have h2 : s.data.toList.isEmpty = false := by cases hq : s.data.toList <;> simp_all
   have h3 : (decide ((s.size : Int) ≤ 63)) = decide (s.data.toList.length ≤ 63) := by rw [← Lib.size_eq]; exact decide_eq_decide.2 Zk
   rw [h2, h3]; simp
 | cons b t ih =>
  intro i hL hi
  obtain ⟨hi2, hb, ht⟩ := Ymm s i b t hL
  have hw := Yxg i s.size hi hs
  refine EvR.succ ?_
  have hstep : ∀ k, Yu.l0 (k + 1) s (s.size : Int) (i : Int) = if Yek b = true then Yu.l0 k s (s.size : Int) ((i + 1 : Nat) : Int) else some false := by
   intro k
   rw [Yu.l0, if_pos Zk, if_pos Zk, if_pos Zk, hb, Yjj]
   simp only [Option.bind_some]
   rw [Yyg, hw]
   simp only [Option.bind_some]
   have h45 : ((b.toNat : Int) = 45) ↔ b = 45 := byte_eq b 45 Zk
   have h95 : ((b.toNat : Int) = 95) ↔ b = 95 := byte_eq b 95 Zk
   unfold Yek
   cases h1 : Ydc b
   ·cases h2 : Yic b
    ·by_cases h3 : b = 45
     ·rw [if_neg Zy, if_neg Zy, if_pos (h45.2 h3)]; simp [h3]
     ·by_cases h4 : b = 95
      ·rw [if_neg Zy, if_neg Zy, if_neg (fun e => h3 (h45.1 e)), if_pos (h95.2 h4)]; simp [h4]
      ·rw [if_neg Zy, if_neg Zy, if_neg (fun e => h3 (h45.1 e)), if_neg (fun e => h4 (h95.1 e))]; simp [h3, h4]
    ·simp
   ·simp
  by_cases hn : Yek b = true
  ·refine EvR.congr (f := fun k => Yu.l0 k s (s.size : Int) ((i + 1 : Nat) : Int)) ?_ (fun k => by rw [hstep, if_pos hn])
   have := ih (i + 1) ht Zk
   rw [List.all_cons, hn, Bool.true_and]; exact this
  ·refine EvR.of fun k => ?_
   rw [hstep, if_neg hn, List.all_cons]
   simp [hn]
theorem isPart_f (s : ByteArray) (hs : s.size ≤ 100000000) : EvR (fun k => Yu.f k s) (Yxi s.data.toList) := by
 have := isPart_l0 s hs _ 0 rfl Zk
 exact this
end Go.Proofs.YtfmjnmglagdcdaaGreatDoor.X
namespace Go.Proofs.YtfmjnmglagdcdaaGreatDoor.X
open Go.RowKit Go.Lib Go.Shelf Go.Yw.PrintWords Go.Yw.PrintLast Go.Yw.PrintMore
set_option linter.unusedVariables false
set_option linter.unusedSimpArgs false
theorem set_mid (a r : List Int) (x y : Int) : (a ++ x :: r).set a.length y = a ++ y :: r := by
 rw [List.set_append_right _ _ (Nat.le_refl _), Nat.sub_self]; rfl
theorem rd_mid (a r : List Int) (x : Int) : rd (a ++ x :: r) (a.length : Int) = x := by
 unfold rd
 rw [Int.toNat_natCast, List.getD_eq_getElem?_getD, List.getElem?_append_right (Nat.le_refl _), Nat.sub_self]; rfl
theorem Ynp : ∀ (m : Nat) (a mid c : List Int), mid.length < 2 * m + 2 → a.length + mid.length + c.length ≤ 1000000 →
  Yg.l0 (m + 1) (a ++ (mid ++ c)) (a.length : Int) ((a.length : Int) + mid.length - 1) = some (a ++ (mid.reverse ++ c)) := by
 intro m
 induction m with
 | zero =>
  intro a mid c hm hl
  rw [Yg.l0, if_neg Zk]
  match mid, hm with
  | [], _ => rfl
  | [x], _ => rfl
 | succ m ih =>
  intro a mid c hm hl
  rcases Nat.lt_or_ge mid.length 2 with h2 | h2
  ·rw [Yg.l0, if_neg Zk]
   match mid, h2 with
   | [], _ => rfl
   | [x], _ => rfl
  ·obtain ⟨x, m1, rfl⟩ : ∃ x m1, mid = x :: m1 := by cases mid with
    | nil => simp at h2
    | cons x m1 => exact ⟨x, m1, rfl⟩
   obtain ⟨m2, y, rfl⟩ : ∃ m2 y, m1 = m2 ++ [y] := by
    refine ⟨m1.dropLast, m1.getLast (by intro e; subst e; simp at h2), (List.dropLast_concat_getLast _).symm⟩
   simp only [List.length_cons, List.length_append, List.length_nil] at hm hl h2
   have hj : ((a.length : Int) + ((x :: (m2 ++ [y])).length : Nat) - 1) = (((a ++ x :: m2).length : Nat) : Int) := by simp; omega
   have hs : a ++ (x :: (m2 ++ [y]) ++ c) = (a ++ x :: m2) ++ y :: c := by simp
   have hs2 : a ++ (x :: (m2 ++ [y]) ++ c) = a ++ x :: (m2 ++ y :: c) := by simp
   rw [Yg.l0, hj]
   have hlen : (a ++ (x :: (m2 ++ [y]) ++ c)).length = a.length + m2.length + c.length + 2 := by simp; omega
   have hla : (a ++ x :: m2).length = a.length + m2.length + 1 := by simp; omega
   rw [if_pos Zk, if_pos Zk, if_pos (by rw [hlen]; omega), if_pos Zk, if_pos (by rw [hlen]; omega)]
   have r1 : rd (a ++ (x :: (m2 ++ [y]) ++ c)) (((a ++ x :: m2).length : Nat) : Int) = y := by rw [hs, rd_mid]
   have r2 : rd (a ++ (x :: (m2 ++ [y]) ++ c)) (a.length : Int) = x := by rw [hs2, rd_mid]
   rw [r1, r2, Int.toNat_natCast, Int.toNat_natCast, hs2, set_mid]
   have hs3 : a ++ y :: (m2 ++ y :: c) = (a ++ y :: m2) ++ y :: c := by simp
   have hla2 : (a ++ x :: m2).length = (a ++ y :: m2).length := by simp
   rw [hs3, hla2, set_mid]
   have w1 : wrap64 ((a.length : Int) + 1) = (((a ++ [y]).length : Nat) : Int) := by simp; unfold wrap64; omega
   have w2 : wrap64 ((((a ++ y :: m2).length : Nat) : Int) - 1) = (((a ++ [y]).length : Nat) : Int) + (m2.length : Nat) - 1 := by simp; unfold wrap64; omega
   have hs4 : (a ++ y :: m2) ++ x :: c = (a ++ [y]) ++ (m2 ++ (x :: c)) := by simp
   rw [w1, w2, hs4, ih (a ++ [y]) m2 (x :: c) Zk Zta]
   simp
theorem reverse_f (xs : List Int) (h : xs.length ≤ 1000000) : EvR (fun k => Yg.f k xs) xs.reverse := by
 refine EvR.mono (Yg.mono xs) (k0 := xs.length + 1) ?_
 unfold Yg.f
 have hw : wrap64 ((xs.length : Int) - 1) = (([] : List Int).length : Int) + (xs.length : Nat) - 1 := by simp; unfold wrap64; omega
 have := Ynp xs.length [] xs [] Zk (by simp; exact h)
 simp only [List.nil_append, List.append_nil] at this
 rw [hw]; exact this
def digs : Nat → Nat → List Int
 | 0, _ => []
 | f + 1, v => if v = 0 then [] else (48 + ((v % 10 : Nat) : Int)) :: digs f (v / 10)
def Yie (v : Nat) : List Int := if v = 0 then [48] else (digs 20 v).reverse
theorem Ybk (n : Int) (h0 : 0 ≤ n) (h1 : n < 18446744073709551616) : IntKind.u64.wrap n = n := by
 unfold IntKind.wrap
 simp [IntKind.bits, IntKind.signed]
 omega
theorem Yyn : ∀ (f v : Nat), (digs f v).length ≤ f := by
 intro f
 induction f with
 | zero => intro v; simp [digs]
 | succ f ih => intro v; unfold digs; split; simp; have := ih (v / 10); simp; omega
theorem pad_l0 (x0 : Int) (hx : 0 ≤ x0) : ∀ (f v : Nat) (acc : List Int), v < 10 ^ f → v < 18446744073709551616 → acc.length + f ≤ 1000 → (acc ≠ [] ∨ v ≠ 0) →
  EvR (fun k => Yla.l0 k x0 1 (v : Int) acc) (strOfNums (acc ++ digs f v).reverse) := by
 have hz : ∀ acc : List Int, acc.length ≤ 1000 → acc ≠ [] → EvR (fun k => Yla.l0 k x0 1 (((0 : Nat) : Int)) acc) (strOfNums acc.reverse) := by
  intro acc hl hne
  have h1 : 0 < acc.length := List.length_pos_iff.2 hne
  have hm : mx (mn 1 20) 1 = 1 := rfl
  refine EvR.succ ?_
  refine EvR.congr (f := fun k => (Yg.f k acc).bind fun t => some (strOfNums t)) ?_ (fun k => ?_)
  ·exact EvR.bind (g := fun _ t => some (strOfNums t)) (reverse_f acc Zk) (EvR.of fun _ => rfl)
  ·rw [Yla.l0, if_neg Zk, hm, if_neg Zk, if_neg Zk]
 intro f
 induction f with
 | zero =>
  intro v acc hv hv2 hl hn
  have : v = 0 := by simpa using hv
  subst this
  rw [show digs 0 0 = [] from rfl, List.append_nil]
  exact hz acc Zk (by rcases hn with h | h; exact h; exact absurd rfl h)
 | succ f ih =>
  intro v acc hv hv2 hl hn
  by_cases h0 : v = 0
  ·subst h0
   rw [show digs (f + 1) 0 = [] from rfl, List.append_nil]
   exact hz acc Zk (by rcases hn with h | h; exact h; exact absurd rfl h)
  ·refine EvR.succ ?_
   have hd : digs (f + 1) v = (48 + ((v % 10 : Nat) : Int)) :: digs f (v / 10) := by rw [digs, if_neg h0]
   rw [hd, show acc ++ (48 + ((v % 10 : Nat) : Int)) :: digs f (v / 10) = (acc ++ [48 + ((v % 10 : Nat) : Int)]) ++ digs f (v / 10) by simp]
   refine (ih (v / 10) (acc ++ [48 + ((v % 10 : Nat) : Int)]) (by rw [Nat.pow_succ] at hv; omega) Zk Zta (.inl Zy)).congr (fun k => ?_)
   rw [Yla.l0, if_pos Zk, if_pos Zk, Int.tdiv_eq_ediv_of_nonneg Zk, Int.tmod_eq_emod_of_nonneg Zk, Ybk _ Zk Zk, Ybk _ Zk Zk]
   have e1 : (v : Int) / 10 = ((v / 10 : Nat) : Int) := by omega
   have e2 : (48 + (v : Int) % 10) % 256 = 48 + ((v % 10 : Nat) : Int) := by omega
   rw [e1, e2]
theorem text_f (v : Nat) (hv : v < 10 ^ 18) : EvR (fun k => Yrb.f k (v : Int)) (strOfNums (Yie v)) := by
 have h2 : v < 18446744073709551616 := by omega
 have hl : EvR (fun k => Yla.l0 k (v : Int) 1 (v : Int) []) (strOfNums (Yie v)) := by
  unfold Yie
  by_cases h0 : v = 0
  ·subst h0
   rw [if_pos rfl]
   refine EvR.succ ?_
   refine (pad_l0 0 Zk 0 0 [48] Zk Zk Zy (.inl Zy)).congr (fun k => ?_)
   rfl
  ·rw [if_neg h0]
   exact pad_l0 (v : Int) Zk 20 v [] Zk h2 Zy (.inr h0)
 refine EvR.congr (f := fun k => (Yla.f k (v : Int) 1).bind fun t => some t) ?_ (fun k => rfl)
 refine EvR.bind (g := fun _ t => some t) (x := strOfNums (Yie v)) ?_ (EvR.of fun _ => rfl)
 refine EvR.congr (f := fun k => Yla.j0 k (v : Int) 1 (v : Int)) ?_ (fun k => by unfold Yla.f; rw [if_neg Zk, Ybk _ Zk Zk])
 refine EvR.succ (hl.congr fun k => ?_)
 rw [Yla.j0]
def byteL (l : List UInt8) : Bool := (numL 255 l).2 == 0 && (strOfNums (Yie (numL 255 l).1.toNat)).data.toList == l
theorem isByte_f (s : ByteArray) (hs : s.size ≤ 100000000) : EvR (fun k => Yxb.f k s) (byteL s.data.toList) := by
 have hn := Ykk s 255 Zk Zk hs
 have hb := numL_le 255 Zk s.data.toList
 unfold byteL
 unfold Yxb.f
 refine EvR.bind (g := fun k x => if x.2 = 0 then (Yrb.f k x.1).bind fun t => some (t.toList == s.toList) else some false) hn ?_
 by_cases he : (numL 255 s.data.toList).2 = 0
 ·refine EvR.congr (f := fun k => (Yrb.f k (((numL 255 s.data.toList).1.toNat : Nat) : Int)).bind fun t => some (t.toList == s.toList)) ?_ (fun k => by rw [if_pos he, Int.toNat_of_nonneg hb.1])
  refine EvR.bind (g := fun _ t => some (t.toList == s.toList)) (text_f (numL 255 s.data.toList).1.toNat Zk) (EvR.of fun _ => ?_)
  rw [he, Lib.toList_data, Lib.toList_data]; rfl
 ·refine EvR.of fun k => ?_
  rw [if_neg he]
  have : ((numL 255 s.data.toList).2 == 0) = false := beq_eq_false_iff_ne.2 he
  rw [this]; rfl
def Yuf (l : List UInt8) : Bool := (splitB 46 l).all Yxi && (decide (l.length ≤ 253) && ((numL 0 ((splitB 46 l).getD ((splitB 46 l).length - 1) [])).2 == 3 || ((splitB 46 l).length == 4 && (splitB 46 l).all byteL)))
theorem Yxm (xs : List (List UInt8)) (i : Nat) (h : i < xs.length) : rdOf ByteArray.empty (xs.map ofL) (i : Int) = ofL (xs.getD i []) := by
 unfold rdOf
 rw [Int.toNat_natCast, List.getD_eq_getElem?_getD, List.getD_eq_getElem?_getD, List.getElem?_map, List.getElem?_eq_getElem h]; rfl
theorem isName_l0 (s : ByteArray) (xs : List (List UInt8)) (hne : 0 < xs.length) (hl : xs.length ≤ 100000000) (hx : ∀ x ∈ xs, x.length ≤ 100000000) : ∀ (L : List (List UInt8)) (i : Nat) (four : Bool), xs.drop i = L → i ≤ xs.length →
  EvR (fun k => Yt.l0 k s (xs.map ofL) four (xs.map ofL) (xs.length : Int) (i : Int)) (L.all Yxi && (decide (s.size ≤ 253) && ((numL 0 (xs.getD (xs.length - 1) [])).2 == 3 || (four && L.all byteL)))) := by
 intro L
 induction L with
 | nil =>
  intro i four hL hi
  have he : i = xs.length := by
   have := congrArg List.length hL
   rw [List.length_drop] at this
   simp only [List.length_nil] at this; omega
  refine EvR.succ ?_
  have hw : wrap64 ((((xs.map ofL).length : Nat) : Int) - 1) = ((xs.length - 1 : Nat) : Int) := by rw [List.length_map]; unfold wrap64; omega
  have hlast : (xs.getD (xs.length - 1) []).length ≤ 100000000 := by
   have h1 : xs.length - 1 < xs.length := by omega
   rw [List.getD_eq_getElem?_getD, List.getElem?_eq_getElem h1]
   exact hx _ (List.getElem_mem h1)
  have hn := Ykk (ofL (xs.getD (xs.length - 1) [])) 0 Zk Zk (by rw [Yta]; exact hlast)
  rw [Yob] at hn
  refine EvR.congr (f := fun k => (Ym.f k (ofL (xs.getD (xs.length - 1) [])) 0).bind fun bt => if (s.size : Int) ≤ 253 then (if bt.2 = 3 then some true else some four) else some false) ?_ (fun k => ?_)
  ·refine EvR.bind (g := fun _ bt => if (s.size : Int) ≤ 253 then (if bt.2 = 3 then some true else some four) else some false) hn (EvR.of fun _ => ?_)
   by_cases h1 : s.size ≤ 253
   ·rw [if_pos Zk, decide_eq_true h1]
    by_cases h2 : (numL 0 (xs.getD (xs.length - 1) [])).2 = 3
    ·rw [if_pos h2, h2]; simp
    ·rw [if_neg h2, beq_eq_false_iff_ne.2 h2]; simp
   ·rw [if_neg Zk, decide_eq_false h1]; simp
  ·rw [Yt.l0, if_neg Zk, hw, if_pos Zk, if_pos Zra, Yxm xs _ Zk]
 | cons p t ih =>
  intro i four hL hi
  have hi2 : i < xs.length := by
   have := congrArg List.length hL
   rw [List.length_drop] at this
   simp only [List.length_cons] at this; omega
  have ht : xs.drop (i + 1) = t := by have h9 := List.drop_drop (i := 1) (j := i) (l := xs); rw [hL] at h9; rw [← h9]; rfl
  have hp : xs.getD i [] = p := by
   have h9 := List.getElem?_drop (xs := xs) (i := i) (j := 0)
   rw [hL, Nat.add_zero] at h9
   rw [List.getD_eq_getElem?_getD, ← h9]; rfl
  have hpl : p.length ≤ 100000000 := hx p (by rw [← hp, List.getD_eq_getElem?_getD, List.getElem?_eq_getElem hi2]; exact List.getElem_mem hi2)
  have hw := Yxg i xs.length hi Zk
  refine EvR.succ ?_
  have h1 := isPart_f (ofL p) (by rw [Yta]; exact hpl)
  have h2 := isByte_f (ofL p) (by rw [Yta]; exact hpl)
  rw [Yob] at h1 h2
  refine EvR.congr (f := fun k => (Yu.f k (ofL p)).bind fun c => if c = true then (if four = true then ((Yxb.f k (ofL p)).bind fun d => Yt.l0 k s (xs.map ofL) d (xs.map ofL) (xs.length : Int) ((i + 1 : Nat) : Int)) else Yt.l0 k s (xs.map ofL) false (xs.map ofL) (xs.length : Int) ((i + 1 : Nat) : Int)) else some false) ?_ (fun k => ?_)
  ·refine EvR.bind (g := fun k c => if c = true then (if four = true then ((Yxb.f k (ofL p)).bind fun d => Yt.l0 k s (xs.map ofL) d (xs.map ofL) (xs.length : Int) ((i + 1 : Nat) : Int)) else Yt.l0 k s (xs.map ofL) false (xs.map ofL) (xs.length : Int) ((i + 1 : Nat) : Int)) else some false) h1 ?_
   by_cases hn : Yxi p = true
   ·rw [List.all_cons, List.all_cons, hn, Bool.true_and]
    cases four with
    | true =>
     refine EvR.congr (f := fun k => (Yxb.f k (ofL p)).bind fun d => Yt.l0 k s (xs.map ofL) d (xs.map ofL) (xs.length : Int) ((i + 1 : Nat) : Int)) ?_ (fun k => by rw [if_pos rfl, if_pos rfl])
     refine EvR.bind (g := fun k d => Yt.l0 k s (xs.map ofL) d (xs.map ofL) (xs.length : Int) ((i + 1 : Nat) : Int)) h2 ?_
     have := ih (i + 1) (byteL p) ht Zk
     simpa using this
    | false =>
     refine EvR.congr (f := fun k => Yt.l0 k s (xs.map ofL) false (xs.map ofL) (xs.length : Int) ((i + 1 : Nat) : Int)) ?_ (fun k => by rw [if_pos rfl, if_neg Zy])
     have := ih (i + 1) false ht Zk
     simpa using this
   ·refine EvR.of fun k => ?_
    rw [if_neg hn, List.all_cons]
    have : Yxi p = false := by cases h : Yxi p <;> simp_all
    rw [this]; rfl
  ·rw [Yt.l0, if_pos Zk, if_pos Zk, if_pos Zra, Yxm xs i hi2, hp, hw]
theorem isName_f (s : ByteArray) (hs : s.size ≤ 90000000) : EvR (fun k => Yt.f k s) (Yuf s.data.toList) := by
 have hlen := Ygl 46 s.data.toList
 rw [← Lib.size_eq] at hlen
 have hpos : 0 < (splitB 46 s.data.toList).length := List.length_pos_iff.2 (Yze _ _)
 have hxs : ∀ x ∈ splitB 46 s.data.toList, x.length ≤ 100000000 := by
  intro x hx
  have h1 := Yuk 46 s.data.toList
  have h2 : ∀ (l : List (List UInt8)), x ∈ l → x.length + 1 ≤ tot l := by
   intro l
   induction l with
   | nil => intro h; cases h
   | cons y l ih =>
    intro h
    simp only [tot, List.map_cons, List.sum_cons] at ih ⊢
    rcases List.mem_cons.1 h with rfl | h
    ·omega
    ·have := ih h; omega
  have := h2 _ hx
  rw [← Lib.size_eq] at h1; omega
 have hsp : EvR (fun k => Ys.f k s 46) ((splitB 46 s.data.toList).map ofL) :=
  EvR.mono (Ys.mono s 46) (split_f s 46 Zk)
 unfold Yt.f
 refine EvR.bind (g := fun k t => Yt.l0 k s t ((t.length : Int) == 4) t (t.length : Int) 0) hsp ?_
 have h := isName_l0 s (splitB 46 s.data.toList) hpos Zk hxs _ 0 ((splitB 46 s.data.toList).length == 4) rfl Zk
 have e4 : ((((((splitB 46 s.data.toList).map ofL).length : Nat) : Int)) == 4) = ((splitB 46 s.data.toList).length == 4) := by
  rw [List.length_map]
  by_cases h : (splitB 46 s.data.toList).length = 4
  ·rw [h]; rfl
  ·rw [beq_eq_false_iff_ne.2 h, beq_eq_false_iff_ne.2 Zk]
 rw [e4, List.length_map]
 unfold Yuf
 rw [Lib.size_eq] at h
 exact h
end Go.Proofs.YtfmjnmglagdcdaaGreatDoor.X
namespace Go.Proofs.YtfmjnmglagdcdaaGreatDoor.X
open Go.RowKit Go.Lib Go.Shelf Go.Yw.PrintWords Go.Yw.PrintLast Go.Yw.PrintMore
set_option linter.unusedVariables false
set_option linter.unusedSimpArgs false
def Ych (b : UInt8) : Bool := Ydc b || (Yic b || (b == 43 || (b == 45 || b == 46)))
abbrev Ybi : List UInt8 := [104, 116, 116, 112]
abbrev Ykg : List UInt8 := [104, 116, 116, 112, 115]
theorem sign_f (b : UInt8) : strings_IndexByte.f (⟨#[43, 45, 46]⟩ : ByteArray) (b.toNat : Int) = some (if b = 43 then 0 else if b = 45 then 1 else if b = 46 then 2 else -1) := by
 revert b; exact Yub Zca
theorem Ymj (l sep : List UInt8) : (Lib.cut l sep).1.length ≤ l.length ∧ (Lib.cut l sep).2.1.length ≤ l.length := by
 unfold Lib.cut
 split
 ·constructor
  ·simp only [List.length_take]; omega
  ·simp only [List.length_drop]; omega
 ·constructor <;> simp
def Yqc (l : List UInt8) (sch : ByteArray) : Int × ByteArray × ByteArray :=
 if (Lib.cut l [58]).2.2 = true ∧ (Lib.cut l [58]).1 ≠ [] ∧ Ydc ((Lib.cut l [58]).1.headD 0) = true ∧ (Lib.cut l [58]).1.all Ych = true then
  (if lowL (Lib.cut l [58]).1 = Ybi ∨ lowL (Lib.cut l [58]).1 = Ykg then 0 else 16, ofL (Lib.cut l [58]).2.1, ofL (lowL (Lib.cut l [58]).1))
 else (3, ofL l, sch)
theorem scheme_l0 (x3 x4 : ByteArray) (s0 s1 s2 : ByteArray) (s3 : Int) (s4 s5 s6 : ByteArray) (s7 s8 : Bool) (hs : x3.size ≤ 100000000) : ∀ (L : List UInt8) (i : Nat), x3.data.toList.drop i = L → i ≤ x3.size →
  EvR (fun k => Yj.l0 k x3 x4 (x3.size : Int) (i : Int) s0 s1 s2 s3 s4 s5 s6 s7 s8)
   (if L.all Ych = true then (if lowL x3.data.toList = Ybi ∨ lowL x3.data.toList = Ykg then (0 : Int) else 16, x4, ofL (lowL x3.data.toList), s2, s3, s4, s5, s6, s7, s8) else (3, s0, s1, s2, s3, s4, s5, s6, s7, s8)) := by
 intro L
 induction L with
 | nil =>
  intro i hL hi
  have he := bt_end x3 i hL hi
  refine EvR.succ (EvR.of fun k => ?_)
  have hlo : Yqa.f x3 = some (ofL (lowL x3.data.toList)) := by unfold Yqa.f; rw [if_pos Zk]
  rw [Yj.l0, if_neg Zk, hlo]
  simp only [Option.bind_some, Yzb, List.all_nil, if_true]
  by_cases h1 : lowL x3.data.toList = Ybi
  ·rw [if_pos h1, if_pos (Or.inl h1)]
  ·rw [if_neg h1]
   by_cases h2 : lowL x3.data.toList = Ykg
   ·rw [if_pos h2, if_pos (Or.inr h2)]
   ·rw [if_neg h2, if_neg (by rintro (h | h); exact h1 h; exact h2 h)]
 | cons b t ih =>
  intro i hL hi
  obtain ⟨hi2, hb, ht⟩ := Ymm x3 i b t hL
  have hw := Yxg i x3.size hi hs
  refine EvR.succ ?_
  have hstep : ∀ k, Yj.l0 (k + 1) x3 x4 (x3.size : Int) (i : Int) s0 s1 s2 s3 s4 s5 s6 s7 s8 = if Ych b = true then Yj.l0 k x3 x4 (x3.size : Int) ((i + 1 : Nat) : Int) s0 s1 s2 s3 s4 s5 s6 s7 s8 else some (3, s0, s1, s2, s3, s4, s5, s6, s7, s8) := by
   intro k
   rw [Yj.l0, if_pos Zk, if_pos Zk, if_pos Zk, hb, Yjj]
   simp only [Option.bind_some]
   rw [Yyg, hw, sign_f]
   simp only [Option.bind_some]
   unfold Ych
   cases h1 : Ydc b
   ·cases h2 : Yic b
    ·rw [if_neg Zy, if_neg Zy]
     by_cases h3 : b = 43
     ·simp [h3]
     ·by_cases h4 : b = 45
      ·simp [h4]
      ·by_cases h5 : b = 46
       ·simp [h5]
       ·simp [h3, h4, h5]
    ·simp
   ·simp
  by_cases hn : Ych b = true
  ·refine EvR.congr (f := fun k => Yj.l0 k x3 x4 (x3.size : Int) ((i + 1 : Nat) : Int) s0 s1 s2 s3 s4 s5 s6 s7 s8) ?_ (fun k => by rw [hstep, if_pos hn])
   have := ih (i + 1) ht Zk
   rw [List.all_cons, hn, Bool.true_and]; exact this
  ·refine EvR.of fun k => ?_
   rw [hstep, if_neg hn, List.all_cons]
   simp [hn]
theorem scheme_f (s0 s1 s2 : ByteArray) (s3 : Int) (s4 s5 s6 : ByteArray) (s7 s8 : Bool) (hs : s0.size ≤ 100000000) :
  EvR (fun k => Yj.f k s0 s1 s2 s3 s4 s5 s6 s7 s8) ((Yqc s0.data.toList s1).1, (Yqc s0.data.toList s1).2.1, (Yqc s0.data.toList s1).2.2, s2, s3, s4, s5, s6, s7, s8) := by
 have hc : strings_Cut.f s0 ⟨#[58]⟩ = some (ofL (Lib.cut s0.data.toList [58]).1, ofL (Lib.cut s0.data.toList [58]).2.1, (Lib.cut s0.data.toList [58]).2.2) := by
  unfold strings_Cut.f; rw [if_pos Zk]
 have hl := (Ymj s0.data.toList [58]).1
 rw [← Lib.size_eq] at hl
 have hno : Yqc s0.data.toList s1 = (3, s0, s1) ∨ ((Lib.cut s0.data.toList [58]).2.2 = true ∧ (Lib.cut s0.data.toList [58]).1 ≠ [] ∧ Ydc ((Lib.cut s0.data.toList [58]).1.headD 0) = true) := by
  unfold Yqc
  by_cases h : (Lib.cut s0.data.toList [58]).2.2 = true ∧ (Lib.cut s0.data.toList [58]).1 ≠ [] ∧ Ydc ((Lib.cut s0.data.toList [58]).1.headD 0) = true
  ·exact .inr h
  ·left
   rw [if_neg (fun h2 => h ⟨h2.1, h2.2.1, h2.2.2.1⟩), Yik]
 have hj : ∀ (x3 x4 : ByteArray) k, Yj.j0 (k + 1) x3 x4 true s0 s1 s2 s3 s4 s5 s6 s7 s8 = some (3, s0, s1, s2, s3, s4, s5, s6, s7, s8) := by
  intro x3 x4 k; rw [Yj.j0, if_pos rfl]
 by_cases h1 : (Lib.cut s0.data.toList [58]).2.2 = true
 ·by_cases h2 : (Lib.cut s0.data.toList [58]).1 = []
  ·rcases hno with hno | hno
   ·rw [hno]
    refine EvR.succ (EvR.of fun k => ?_)
    unfold Yj.f
    rw [hc]
    simp only [Option.bind_some]
    rw [if_pos h1, if_pos (by rw [Yzb]; exact h2), hj]
   ·exact absurd h2 hno.2.1
  ·have hpos : 0 < (ofL (Lib.cut s0.data.toList [58]).1).size := by rw [Yta]; exact List.length_pos_iff.2 h2
   have hbt : bt (ofL (Lib.cut s0.data.toList [58]).1) 0 = (((Lib.cut s0.data.toList [58]).1.headD 0).toNat : Int) := by
    cases hq : (Lib.cut s0.data.toList [58]).1 with
    | nil => exact absurd hq h2
    | cons b t => rfl
   have hf : ∀ k, Yj.f k s0 s1 s2 s3 s4 s5 s6 s7 s8 = Yj.j0 k (ofL (Lib.cut s0.data.toList [58]).1) (ofL (Lib.cut s0.data.toList [58]).2.1) (!(Ydc ((Lib.cut s0.data.toList [58]).1.headD 0))) s0 s1 s2 s3 s4 s5 s6 s7 s8 := by
    intro k
    unfold Yj.f
    rw [hc]
    simp only [Option.bind_some]
    rw [if_pos h1, if_neg (by rw [Yzb]; exact h2), if_pos Zk, hbt, Yjj]
    rfl
   by_cases h3 : Ydc ((Lib.cut s0.data.toList [58]).1.headD 0) = true
   ·refine EvR.congr (f := fun k => Yj.j0 k (ofL (Lib.cut s0.data.toList [58]).1) (ofL (Lib.cut s0.data.toList [58]).2.1) false s0 s1 s2 s3 s4 s5 s6 s7 s8) ?_ (fun k => by rw [hf, h3]; rfl)
    refine EvR.succ ?_
    refine EvR.congr (f := fun k => Yj.l0 k (ofL (Lib.cut s0.data.toList [58]).1) (ofL (Lib.cut s0.data.toList [58]).2.1) ((ofL (Lib.cut s0.data.toList [58]).1).size : Int) ((0 : Nat) : Int) s0 s1 s2 s3 s4 s5 s6 s7 s8) ?_ (fun k => by rw [Yj.j0, if_neg Zy]; rfl)
    have h := scheme_l0 (ofL (Lib.cut s0.data.toList [58]).1) (ofL (Lib.cut s0.data.toList [58]).2.1) s0 s1 s2 s3 s4 s5 s6 s7 s8 Zqa _ 0 rfl Zk
    rw [List.drop_zero, Yob] at h
    unfold Yqc
    by_cases h4 : (Lib.cut s0.data.toList [58]).1.all Ych = true
    ·rw [if_pos h4] at h
     rw [if_pos ⟨h1, h2, h3, h4⟩]
     exact h
    ·rw [if_neg h4] at h
     rw [if_neg (fun h5 => h4 h5.2.2.2), Yik]
     exact h
   ·have h4 : Ydc ((Lib.cut s0.data.toList [58]).1.headD 0) = false := by cases hq : Ydc ((Lib.cut s0.data.toList [58]).1.headD 0) <;> simp_all
    rcases hno with hno | hno
    ·rw [hno]
     refine EvR.succ (EvR.of fun k => ?_)
     rw [hf, h4]
     exact hj _ _ k
    ·exact absurd hno.2.2 h3
 ·rcases hno with hno | hno
  ·rw [hno]
   refine EvR.succ (EvR.of fun k => ?_)
   unfold Yj.f
   rw [hc]
   simp only [Option.bind_some]
   rw [if_neg h1, hj]
  ·exact absurd hno.1 h1
def Ywd (l : List UInt8) : List UInt8 × Int := if lowL (Yna l) = [] then ([], 4) else if Yuf (lowL (Yna l)) = true then (lowL (Yna l), 0) else ([], 17)
theorem Yvl : ∀ (n : Nat) (l : List UInt8), l.length ≤ n → (Yna l).length ≤ l.length := by
 intro n
 induction n with
 | zero => intro l h; cases l with | nil => simp [Yna] | cons b l => simp at h
 | succ n ih =>
  intro l h
  match l, h with
  | [], _ => simp [Yna]
  | [c], _ => simp [Yna]
  | [c, d], _ => simp [Yna]
  | c :: a :: b :: t, h =>
   rw [Yna]
   simp only [List.length_cons] at h
   split
   ·have := ih t Zk; simp only [List.length_cons]; omega
   ·have := ih (a :: b :: t) (by simp only [List.length_cons]; omega); simp only [List.length_cons] at this ⊢; omega
theorem host_f (s : ByteArray) (hs : s.size ≤ 90000000) : EvR (fun k => Ysb.f k s) (ofL (Ywd s.data.toList).1, (Ywd s.data.toList).2) := by
 have hu : Yib.f s = some (ofL (Yna s.data.toList)) := by unfold Yib.f; rw [if_pos Zk]
 have hul := Yvl _ s.data.toList (Nat.le_refl _)
 rw [← Lib.size_eq] at hul
 have hl : Yqa.f (ofL (Yna s.data.toList)) = some (ofL (lowL (Yna s.data.toList))) := by
  unfold Yqa.f; rw [if_pos Zqa, Yob]
 have hf : ∀ k, Ysb.f k s = if lowL (Yna s.data.toList) = [] then some ((⟨#[]⟩ : ByteArray), 4) else ((Yt.f k (ofL (lowL (Yna s.data.toList)))).bind fun c => if c = true then some (ofL (lowL (Yna s.data.toList)), 0) else some ((⟨#[]⟩ : ByteArray), 17)) := by
  intro k
  unfold Ysb.f
  rw [hu]
  simp only [Option.bind_some]
  rw [hl]
  simp only [Option.bind_some, Yzb]
 unfold Ywd
 by_cases h0 : lowL (Yna s.data.toList) = []
 ·refine EvR.of fun k => ?_
  rw [hf, if_pos h0, if_pos h0]; rfl
 ·refine EvR.congr (f := fun k => (Yt.f k (ofL (lowL (Yna s.data.toList)))).bind fun c => if c = true then some (ofL (lowL (Yna s.data.toList)), 0) else some ((⟨#[]⟩ : ByteArray), 17)) ?_ (fun k => by rw [hf, if_neg h0])
  have hn := isName_f (ofL (lowL (Yna s.data.toList))) (by rw [Yta, Yif]; omega)
  rw [Yob] at hn
  refine EvR.bind (g := fun _ c => if c = true then some (ofL (lowL (Yna s.data.toList)), 0) else some ((⟨#[]⟩ : ByteArray), 17)) hn (EvR.of fun _ => ?_)
  rw [if_neg h0]
  by_cases h1 : Yuf (lowL (Yna s.data.toList)) = true
  ·rw [if_pos h1, if_pos h1]
  ·rw [if_neg h1, if_neg h1]; rfl
def Yha (l : List UInt8) : List UInt8 := (Lib.trimLeftS l [47, 92]).takeWhile (Ycb [47, 92, 63, 35])
def Ybd (l : List UInt8) : List UInt8 := (Lib.trimLeftS l [47, 92]).dropWhile (Ycb [47, 92, 63, 35])
def ownN (sch : List UInt8) : Int := if sch = Ybi then 80 else 443
def Ywc (l sch : List UInt8) (host : ByteArray) (port : Int) : Int × ByteArray × ByteArray × Int :=
 if Lib.indexAny l [47, 92] = 0 then
  if Lib.indexByte (Yha l) 64 ≥ 0 then (3, ofL (Ybd l), host, port) else
   if (Ywd (Lib.cut (Yha l) [58]).1).2 = 0 then
    if (Lib.cut (Yha l) [58]).2.1 = [] then (0, ofL (Ybd l), ofL (Ywd (Lib.cut (Yha l) [58]).1).1, port) else
     if (numL 65535 (Lib.cut (Yha l) [58]).2.1).2 = 0 then
      if (numL 65535 (Lib.cut (Yha l) [58]).2.1).1 = ownN sch then (0, ofL (Ybd l), ofL (Ywd (Lib.cut (Yha l) [58]).1).1, port)
      else (0, ofL (Ybd l), ofL (Ywd (Lib.cut (Yha l) [58]).1).1, (numL 65535 (Lib.cut (Yha l) [58]).2.1).1)
     else (3, ofL (Ybd l), ofL (Ywd (Lib.cut (Yha l) [58]).1).1, port)
   else ((Ywd (Lib.cut (Yha l) [58]).1).2, ofL (Ybd l), host, port)
 else (3, ofL l, host, port)
theorem place_f (s0 s1 s2 : ByteArray) (s3 : Int) (s4 s5 s6 : ByteArray) (s7 s8 : Bool) (hs : s0.size ≤ 90000000) :
  EvR (fun k => Yfc.f k s0 s1 s2 s3 s4 s5 s6 s7 s8) ((Ywc s0.data.toList s1.data.toList s2 s3).1, (Ywc s0.data.toList s1.data.toList s2 s3).2.1, s1, (Ywc s0.data.toList s1.data.toList s2 s3).2.2.1, (Ywc s0.data.toList s1.data.toList s2 s3).2.2.2, s4, s5, s6, s7, s8) := by
 have hi : strings_IndexAny.f s0 ⟨#[47, 92]⟩ = some (Lib.indexAny s0.data.toList [47, 92]) := by
  unfold strings_IndexAny.f; rw [if_pos ⟨rfl, Zq, Zq, Zk⟩]
 unfold Ywc
 unfold Yfc.f
 rw [hi]
 simp only [Option.bind_some]
 by_cases h1 : Lib.indexAny s0.data.toList [47, 92] = 0
 ·rw [if_pos h1]
  have ht : Ysa.f s0 ⟨#[47, 92]⟩ = some (ofL (Lib.trimLeftS s0.data.toList [47, 92])) := by
   unfold Ysa.f; rw [if_pos ⟨Zq, Zq⟩]
  have htl : (Lib.trimLeftS s0.data.toList [47, 92]).length ≤ s0.size := by rw [Lib.size_eq]; exact (List.dropWhile_sublist _).length_le
  have hph : (Yha s0.data.toList).length ≤ s0.size := Nat.le_trans (Ymd _ _) htl
  have hk : Yma.f (ofL (Lib.trimLeftS s0.data.toList [47, 92])) s1 s2 s3 s4 s5 s6 s7 s8 ⟨#[47, 92, 63, 35]⟩ = some (ofL (Yha s0.data.toList), ofL (Ybd s0.data.toList), s1, s2, s3, s4, s5, s6, s7, s8) := by
   rw [take_f _ _ _ _ _ _ _ _ _ _ rfl Zqa]; rfl
  have hcl := Ymj (Yha s0.data.toList) [58]
  have hc : strings_Cut.f (ofL (Yha s0.data.toList)) ⟨#[58]⟩ = some (ofL (Lib.cut (Yha s0.data.toList) [58]).1, ofL (Lib.cut (Yha s0.data.toList) [58]).2.1, (Lib.cut (Yha s0.data.toList) [58]).2.2) := by
   unfold strings_Cut.f; rw [if_pos Zqa]; rfl
  have hat : strings_IndexByte.f (ofL (Yha s0.data.toList)) 64 = some (Lib.indexByte (Yha s0.data.toList) 64) := rfl
  rw [ht]
  simp only [Option.bind_some]
  rw [hk]
  simp only [Option.bind_some]
  rw [hat]
  simp only [Option.bind_some]
  by_cases h2 : Lib.indexByte (Yha s0.data.toList) 64 ≥ 0
  ·refine EvR.of fun k => ?_
   rw [if_pos h1, if_pos h2, if_pos h2]
  ·rw [if_neg h2, hc]
   simp only [Option.bind_some]
   have hh := host_f (ofL (Lib.cut (Yha s0.data.toList) [58]).1) Zqa
   rw [Yob] at hh
   simp only [if_pos h1, if_neg h2]
   refine EvR.bind hh ?_
   by_cases h3 : (Ywd (Lib.cut (Yha s0.data.toList) [58]).1).2 = 0
   ·simp only [if_pos h3, Yzb]
    by_cases h4 : (Lib.cut (Yha s0.data.toList) [58]).2.1 = []
    ·refine EvR.of fun k => ?_
     simp only [if_pos h4]
    ·simp only [if_neg h4]
     have hn := Ykk (ofL (Lib.cut (Yha s0.data.toList) [58]).2.1) 65535 Zk Zk Zqa
     rw [Yob] at hn
     refine EvR.bind hn (EvR.of fun k => ?_)
     by_cases h5 : (numL 65535 (Lib.cut (Yha s0.data.toList) [58]).2.1).2 = 0
     ·simp only [if_pos h5]
      have ho : Yxc.f s1 = some (ownN s1.data.toList) := by
       unfold Yxc.f ownN
       rw [Lib.toList_data]
       split <;> rfl
      rw [ho]
      simp only [Option.bind_some]
      by_cases h6 : (numL 65535 (Lib.cut (Yha s0.data.toList) [58]).2.1).1 = ownN s1.data.toList
      ·simp only [if_pos h6]
      ·simp only [if_neg h6]
     ·simp only [if_neg h5]
   ·refine EvR.of fun k => ?_
    simp only [if_neg h3]
 ·refine EvR.of fun k => ?_
  simp only [if_neg h1, Yik]
end Go.Proofs.YtfmjnmglagdcdaaGreatDoor.X
namespace Go.Proofs.YtfmjnmglagdcdaaGreatDoor.X
open Go.RowKit Go.Lib Go.Shelf Go.Yw.PrintWords Go.Yw.PrintLast Go.Yw.PrintMore
set_option linter.unusedVariables false
set_option linter.unusedSimpArgs false
def Ybe (a0 a1 : ByteArray) (p : Int) : ByteArray := if p = 0 then (a0 ++ (⟨#[58, 47, 47]⟩ : ByteArray)) ++ a1 else ((a0 ++ (⟨#[58, 47, 47]⟩ : ByteArray)) ++ a1) ++ ((⟨#[58]⟩ : ByteArray) ++ strOfNums (Yie p.toNat))
def Yci (o a4 : ByteArray) (q : Bool) : ByteArray := if q = true then o ++ ((⟨#[63]⟩ : ByteArray) ++ a4) else o
def Ygj (o a5 : ByteArray) (f : Bool) : ByteArray := if f = true then o ++ ((⟨#[35]⟩ : ByteArray) ++ a5) else o
def Yvb (a0 a1 : ByteArray) (p : Int) (a3 a4 a5 : ByteArray) (q f : Bool) : ByteArray := Ygj (Yci (Ybe a0 a1 p ++ a3) a4 q) a5 f
theorem strOfNums_size (xs : List Int) : (strOfNums xs).size = xs.length := by
 rw [Lib.size_eq]; unfold strOfNums; simp
theorem Ycg (v : Nat) : (Yie v).length ≤ 20 := by
 unfold Yie
 split
 ·simp
 ·rw [List.length_reverse]; exact Yyn 20 v
theorem size3 : (⟨#[58, 47, 47]⟩ : ByteArray).size = 3 := rfl
theorem size58 : (⟨#[58]⟩ : ByteArray).size = 1 := rfl
theorem size63 : (⟨#[63]⟩ : ByteArray).size = 1 := rfl
theorem size35 : (⟨#[35]⟩ : ByteArray).size = 1 := rfl
theorem Ygi (a0 a1 : ByteArray) (p : Int) : (Ybe a0 a1 p).size ≤ a0.size + a1.size + 24 := by
 have := Ycg p.toNat
 unfold Ybe
 split
 ·simp only [ByteArray.size_append, size3]; omega
 ·simp only [ByteArray.size_append, size3, size58, strOfNums_size]; omega
theorem origin_f (a0 a1 : ByteArray) (p : Int) (a3 a4 a5 : ByteArray) (q f : Bool) (h0 : a0.size ≤ 1000000000000) (h1 : a1.size ≤ 1000000000000) (hp : 0 ≤ p) (hp2 : p < 1000000000000000000) :
  EvR (fun k => Yoc.f k a0 a1 p a3 a4 a5 q f) (Ybe a0 a1 p) := by
 unfold Ybe
 unfold Yoc.f
 by_cases hz : p = 0
 ·refine EvR.of fun k => ?_
  simp only [if_pos hz]
  rw [if_pos Zk, if_pos (by simp only [ByteArray.size_append, size3]; omega)]
 ·simp only [if_neg hz]
  have ht := text_f p.toNat Zk
  have htl := Ycg p.toNat
  rw [Int.toNat_of_nonneg hp] at ht
  have c1 : a0.size + 3 ≤ 9223372036854775807 := by omega
  have c2 : (a0 ++ (⟨#[58, 47, 47]⟩ : ByteArray)).size + a1.size ≤ 9223372036854775807 := by simp only [ByteArray.size_append, size3]; omega
  simp only [if_pos c1, if_pos c2]
  refine EvR.bind ht (EvR.of fun k => ?_)
  rw [if_pos (by rw [strOfNums_size]; omega), if_pos (by simp only [ByteArray.size_append, size3, size58, strOfNums_size]; omega)]
theorem Yun (a0 a1 : ByteArray) (p : Int) (a3 a4 a5 : ByteArray) (q f : Bool) (h0 : a0.size ≤ 1000000000000) (h1 : a1.size ≤ 1000000000000) (h3 : a3.size ≤ 1000000000000) (h4 : a4.size ≤ 1000000000000) (h5 : a5.size ≤ 1000000000000) (hp : 0 ≤ p) (hp2 : p < 1000000000000000000) :
  EvR (fun k => Ymc.f k a0 a1 p a3 a4 a5 q f) (Yvb a0 a1 p a3 a4 a5 q f) := by
 have ho := origin_f a0 a1 p a3 a4 a5 q f h0 h1 hp hp2
 have hs := Ygi a0 a1 p
 unfold Ymc.f
 refine EvR.bind ho (EvR.of fun k => ?_)
 unfold Yvb
 generalize Ybe a0 a1 p = o at hs
 rw [if_pos Zk]
 cases q with
 | true =>
  rw [if_pos rfl, if_pos Zk, if_pos (by simp only [ByteArray.size_append, size63]; omega)]
  cases f with
  | true =>
   rw [if_pos rfl, if_pos Zk, if_pos (by simp only [ByteArray.size_append, size63, size35]; omega)]; rfl
  | false => rw [if_neg Zy]; rfl
 | false =>
  rw [if_neg Zy]
  cases f with
  | true =>
   rw [if_pos rfl, if_pos Zk, if_pos (by simp only [ByteArray.size_append, size35]; omega)]; rfl
  | false => rw [if_neg Zy]; rfl
abbrev UrlE := ByteArray × ByteArray × Int × ByteArray × ByteArray × ByteArray × Bool × Bool × Int
def Yde (r : List UInt8) : ByteArray := ofL (Ypc (Yjh r))
def Ysc (r : List UInt8) : ByteArray := match Yyc (Ywb r) with | some q => ofL (Ydb Ypd q) | none => ⟨#[]⟩
def Yhd (r : List UInt8) : ByteArray := match Yjd (Yv (Ywb r)) with | some q => ofL (Ydb Yre q) | none => ⟨#[]⟩
def Yve (r : List UInt8) : Bool := match Yyc (Ywb r) with | some _ => true | none => false
def Yue (r : List UInt8) : Bool := match Yjd (Yv (Ywb r)) with | some _ => true | none => false
def urlOf (sch host : ByteArray) (port : Int) (r : List UInt8) : UrlE :=
 if ((Yvb sch host port (Yde r) (Ysc r) (Yhd r) (Yve r) (Yue r)).size : Int) > 2048 then Yac 5 else (sch, host, port, Yde r, Ysc r, Yhd r, Yve r, Yue r, 0)
def Ykm (sch : ByteArray) (y : Int × ByteArray × ByteArray × Int) : UrlE :=
 if ¬ y.1 = 0 then Yac y.1 else urlOf sch y.2.2.1 y.2.2.2 y.2.1.data.toList
def Ysm (x : Int × ByteArray × ByteArray) : UrlE :=
 if ¬ x.1 = 0 then Yac x.1 else Ykm x.2.2 (Ywc x.2.1.data.toList x.2.2.data.toList ⟨#[]⟩ 0)
def Yom (c : List UInt8) : UrlE := if (c.length : Int) > 2048 then Yac 5 else Ysm (Yqc c ⟨#[]⟩)
def Yya (l : List UInt8) : UrlE := Yom (Yye l)
theorem headL_le (l : List UInt8) : (Yjh l).length ≤ l.length := Ymd _ _
theorem Yjk (l : List UInt8) : (Ywb l).length ≤ l.length := Yae _ _
theorem query_le (l q : List UInt8) (h : Yyc l = some q) : q.length ≤ l.length := by
 cases l with
 | nil => cases h
 | cons b t =>
  simp only [Yyc] at h
  split at h
  ·cases h; have := Ymd (Ycb [35]) t; simp only [List.length_cons]; omega
  ·cases h
theorem Ydl (l : List UInt8) : (Yv l).length ≤ l.length := by
 cases l with
 | nil => simp [Yv]
 | cons b t =>
  simp only [Yv]
  split
  ·have := Yae (Ycb [35]) t; simp only [List.length_cons]; omega
  ·exact Nat.le_refl _
theorem frag_le (l q : List UInt8) (h : Yjd l = some q) : q.length ≤ l.length := by
 cases l with
 | nil => cases h
 | cons b t =>
  simp only [Yjd] at h
  split at h
  ·cases h; simp
  ·cases h
theorem Ytj (r : List UInt8) : (Yde r).size ≤ 3 * r.length + 4 ∧ (Ysc r).size ≤ 3 * r.length ∧ (Yhd r).size ≤ 3 * r.length := by
 refine ⟨?_, ?_, ?_⟩
 ·unfold Yde
  rw [Yta]
  have := pathL_le (Yjh r)
  have := headL_le r
  omega
 ·unfold Ysc
  split
  ·next q h =>
   rw [Yta]
   have := Yyf Ypd q
   have := query_le _ _ h
   have := Yjk r
   omega
  ·show 0 ≤ _; omega
 ·unfold Yhd
  split
  ·next q h =>
   rw [Yta]
   have := Yyf Yre q
   have := frag_le _ _ h
   have := Ydl (Ywb r)
   have := Yjk r
   omega
  ·show 0 ≤ _; omega
theorem Yzh (l sch : List UInt8) : (Ywc l sch ⟨#[]⟩ 0).2.1.size ≤ l.length ∧ (Ywc l sch ⟨#[]⟩ 0).2.2.1.size ≤ l.length ∧ 0 ≤ (Ywc l sch ⟨#[]⟩ 0).2.2.2 ∧ (Ywc l sch ⟨#[]⟩ 0).2.2.2 ≤ 65535 := by
 have htl : (Lib.trimLeftS l [47, 92]).length ≤ l.length := (List.dropWhile_sublist _).length_le
 have hr : (Ybd l).length ≤ l.length := Nat.le_trans (Yae _ _) htl
 have hh : (Yha l).length ≤ l.length := Nat.le_trans (Ymd _ _) htl
 have hc := Ymj (Yha l) [58]
 have hhost : ∀ m : List UInt8, (Ywd m).1.length ≤ m.length := by
  intro m
  have := Yvl _ m (Nat.le_refl _)
  unfold Ywd
  split
  ·simp
  ·split
   ·rw [Yif]; exact this
   ·simp
 have hh2 := hhost (Lib.cut (Yha l) [58]).1
 have hn := numL_le 65535 Zk (Lib.cut (Yha l) [58]).2.1
 have hz : (⟨#[]⟩ : ByteArray).size = 0 := rfl
 unfold Ywc
 repeat' split
 all_goals simp only [Yta, hz]
 all_goals refine ⟨?_, ?_, ?_, ?_⟩
 all_goals omega
theorem parse_f (s : ByteArray) (hs : s.size ≤ 1000000000) : EvR (fun k => Yxa.f k s) (Yya s.data.toList) := by
 have hc : Yle.f s = some (ofL (Yye s.data.toList)) := by unfold Yle.f; rw [if_pos Zk]
 unfold Yya
 generalize hcl : Yye s.data.toList = c at hc
 unfold Yxa.f
 rw [hc]
 simp only [Option.bind_some, Yta]
 unfold Yom
 by_cases h1 : (c.length : Int) > 2048
 ·refine EvR.of fun k => ?_
  rw [if_pos h1, if_pos h1]
 ·simp only [if_neg h1]
  have hsc := scheme_f (ofL c) ⟨#[]⟩ ⟨#[]⟩ 0 ⟨#[]⟩ ⟨#[]⟩ ⟨#[]⟩ false false Zqa
  rw [Yob] at hsc
  have hxs : (Yqc c ⟨#[]⟩).2.1.size ≤ 2048 ∧ (Yqc c ⟨#[]⟩).2.2.size ≤ 2048 := by
   have := Ymj c [58]
   unfold Yqc
   split
   ·simp only [Yta, Yif]; omega
   ·have hz : (⟨#[]⟩ : ByteArray).size = 0 := rfl
    simp only [Yta, hz]; omega
  generalize Yqc c ⟨#[]⟩ = x at hsc hxs
  refine EvR.bind hsc ?_
  unfold Ysm
  by_cases h2 : ¬ x.1 = 0
  ·refine EvR.of fun k => ?_
   rw [if_pos h2, if_pos h2]
  ·simp only [if_neg h2]
   have hpl := place_f x.2.1 x.2.2 ⟨#[]⟩ 0 ⟨#[]⟩ ⟨#[]⟩ ⟨#[]⟩ false false Zk
   have hps := Yzh x.2.1.data.toList x.2.2.data.toList
   rw [← Lib.size_eq] at hps
   generalize Ywc x.2.1.data.toList x.2.2.data.toList ⟨#[]⟩ 0 = y at hpl hps
   refine EvR.bind hpl ?_
   unfold Ykm
   by_cases h3 : ¬ y.1 = 0
   ·refine EvR.of fun k => ?_
    rw [if_pos h3, if_pos h3]
   ·simp only [if_neg h3]
    have ht : Yyb.f y.2.1 x.2.2 y.2.2.1 y.2.2.2 ⟨#[]⟩ ⟨#[]⟩ ⟨#[]⟩ false false = some (ofL (Ypf (Yv (Ywb y.2.1.data.toList))), x.2.2, y.2.2.1, y.2.2.2, Yde y.2.1.data.toList, Ysc y.2.1.data.toList, Yhd y.2.1.data.toList, Yve y.2.1.data.toList, Yue y.2.1.data.toList) := by
     unfold Yyb.f
     rw [if_pos Zk]; rfl
    rw [ht]
    simp only [Option.bind_some]
    have hts := Ytj y.2.1.data.toList
    rw [← Lib.size_eq] at hts
    have hst := Yun x.2.2 y.2.2.1 y.2.2.2 (Yde y.2.1.data.toList) (Ysc y.2.1.data.toList) (Yhd y.2.1.data.toList) (Yve y.2.1.data.toList) (Yue y.2.1.data.toList) Zk Zk Zk Zk Zk Zk Zk
    refine EvR.bind hst (EvR.of fun k => ?_)
    unfold urlOf
    split <;> rfl
end Go.Proofs.YtfmjnmglagdcdaaGreatDoor.X
