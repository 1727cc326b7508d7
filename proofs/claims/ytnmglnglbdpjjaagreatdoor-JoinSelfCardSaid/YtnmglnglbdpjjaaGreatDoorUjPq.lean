/- What the parts of Parse, and Parse as a whole, compute, as plain functions of bytes. -/
import Derived.Test.YtnmglnglbdpjjaaGreatDoorUjWords
import Derived.Test.YtnmglnglbdpjjaaGreatDoorUjH4
namespace Go.Proofs.YtnmglnglbdpjjaaGreatDoor.X
open Go.RowKit Go.Lib Go.Shelf Go.Yw.PrintWords Go.Yw.PrintLast Go.Yw.PrintMore
set_option linter.unusedVariables false
set_option linter.unusedSimpArgs false
def EvR {α : Type} (f : Nat → Option α) (r : α) : Prop := ∃ k0, ∀ k, k0 ≤ k → f k = some r
theorem EvR.of {α : Type} {f : Nat → Option α} {r : α} (h : ∀ k, f k = some r) : EvR f r := ⟨0, fun k _ => h k⟩
theorem EvR.succ {α : Type} {f : Nat → Option α} {r : α} (h : EvR (fun k => f (k + 1)) r) : EvR f r := by
 obtain ⟨k0, h⟩ := h
 refine ⟨k0 + 1, fun k hk => ?_⟩
 cases k with
 | zero => omega
 | succ k => exact h k Zl
theorem EvR.congr {α : Type} {f g : Nat → Option α} {r : α} (h : EvR f r) (e : ∀ k, g k = f k) : EvR g r := by
 obtain ⟨k0, h⟩ := h
 exact ⟨k0, fun k hk => (e k).trans (h k hk)⟩
theorem EvR.bind {α β : Type} {f : Nat → Option α} {g : Nat → α → Option β} {x : α} {y : β} (hf : EvR f x) (hg : EvR (fun k => g k x) y) : EvR (fun k => (f k).bind (g k)) y := by
 obtain ⟨k1, h1⟩ := hf
 obtain ⟨k2, h2⟩ := hg
 exact ⟨max k1 k2, fun k hk => by show (f k).bind (g k) = some y; rw [h1 k Zl]; exact h2 k Zl⟩
theorem EvR.mono {α : Type} {f : Nat → Option α} {r : α} (hm : ∀ k, LeO (f k) (f (k + 1))) {k0 : Nat} (h : f k0 = some r) : EvR f r := by
 refine ⟨k0, fun k hk => ?_⟩
 induction hk with
 | refl => exact h
 | step _ ih => exact hm _ _ ih
theorem Yzc (s : ByteArray) (i : Nat) (b : UInt8) (t : List UInt8) (h : s.data.toList.drop i = b :: t) : i < s.size ∧ bt s (i : Int) = (b.toNat : Int) ∧ s.data.toList.drop (i + 1) = t := by
 have hi : i < s.size := by
  have := congrArg List.length h
  rw [List.length_drop, ← Lib.size_eq] at this
  simp only [List.length_cons] at this; omega
 refine ⟨hi, ?_, ?_⟩
 ·have h1 : s.data.toList[i]? = some b := by have h9 := List.getElem?_drop (xs := s.data.toList) (i := i) (j := 0); rw [h, Nat.add_zero] at h9; rw [← h9]; rfl
  have h2 : i < s.data.toList.length := by rw [← Lib.size_eq]; exact hi
  have h3 : s.data.toList[i] = b := by rw [List.getElem?_eq_getElem h2] at h1; exact Option.some.inj h1
  rw [← Yya s (i : Int) (by rw [Int.toNat_natCast]; exact hi)]
  simp only [Int.toNat_natCast]
  rw [← h3]; rfl
 ·have h9 := List.drop_drop (i := 1) (j := i) (l := s.data.toList); rw [h] at h9; rw [← h9]; rfl
theorem bt_end (s : ByteArray) (i : Nat) (h : s.data.toList.drop i = []) (hi : i ≤ s.size) : i = s.size := by
 have := congrArg List.length h
 rw [List.length_drop, ← Lib.size_eq] at this
 simp only [List.length_nil] at this; omega
theorem Ytd (i n : Nat) (h : i ≤ n) (hn : n ≤ 100000000) : wrap64 ((i : Int) + 1) = ((i + 1 : Nat) : Int) := by unfold wrap64; omega
def Yae (most : Int) : Bool → Int → List UInt8 → Int × Int
 | many, n, [] => if many = true then (0, 5) else (n, 0)
 | many, n, b :: t => if Yed b = true then (if many = true ∨ most < n * 10 + ((b.toNat : Int) - 48) then Yae most true n t else Yae most false (n * 10 + ((b.toNat : Int) - 48)) t) else (0, 3)
def numL (most : Int) (l : List UInt8) : Int × Int := if l = [] then (0, 3) else Yae most false 0 l
theorem number_l0 (s : ByteArray) (most : Int) (h0 : 0 ≤ most) (h1 : most ≤ 1000000000) (hs : s.size ≤ 100000000) : ∀ (L : List UInt8) (i : Nat) (n : Int) (many : Bool), s.data.toList.drop i = L → i ≤ s.size → 0 ≤ n → n ≤ most →
  EvR (fun k => Yha.l0 k s most n many (s.size : Int) (i : Int)) (Yae most many n L) := by
 intro L
 induction L with
 | nil =>
  intro i n many hL hi hn0 hn1
  have he := bt_end s i hL hi
  refine EvR.succ (EvR.of fun k => ?_)
  rw [Yha.l0, if_neg Zl]
  unfold Yae
  cases many <;> rfl
 | cons b t ih =>
  intro i n many hL hi hn0 hn1
  obtain ⟨hi2, hb, ht⟩ := Yzc s i b t hL
  have hw := Ytd i s.size hi hs
  refine EvR.succ ?_
  by_cases hd : Yed b = true
  ·have hr : 48 ≤ b.toNat ∧ b.toNat ≤ 57 := by unfold Yed at hd; simpa using hd
   have e1 : ((b.toNat : Int) - 48) % 256 = (b.toNat : Int) - 48 := by omega
   by_cases hm : many = true
   ·subst hm
    refine (ih (i + 1) n true ht Zl hn0 hn1).congr (fun k => ?_) |> fun h => by unfold Yae; rw [if_pos hd, if_pos (Or.inl rfl)]; exact h
    rw [Yha.l0, if_pos Zl, if_pos Zl, if_pos Zl, hb, Ylj]
    simp only [Option.bind_some]
    rw [if_pos hd, if_pos trivial, hw]
   ·have hm2 : many = false := by cases many <;> simp_all
    subst hm2
    have e2 : wrap64 (most - ((b.toNat : Int) - 48)) = most - ((b.toNat : Int) - 48) := by unfold wrap64; omega
    by_cases hbig : most < n * 10 + ((b.toNat : Int) - 48)
    ·refine (ih (i + 1) n true ht Zl hn0 hn1).congr (fun k => ?_) |> fun h => by unfold Yae; rw [if_pos hd, if_pos (Or.inr hbig)]; exact h
     rw [Yha.l0, if_pos Zl, if_pos Zl, if_pos Zl, hb, Ylj]
     simp only [Option.bind_some]
     rw [if_pos hd, if_neg Zv, e1, e2, hw]
     split
     ·rfl
     ·next h1 =>
      rw [if_pos]
      by_cases h2 : most < (b.toNat : Int) - 48
      ·exact h2
      ·exfalso
       apply h1
       rw [Int.tdiv_eq_ediv_of_nonneg Zl]
       unfold wrap64; omega
    ·refine (ih (i + 1) (n * 10 + ((b.toNat : Int) - 48)) false ht Zl Zl Zl).congr (fun k => ?_) |> fun h => by unfold Yae; rw [if_pos hd, if_neg (by simp [hbig])]; exact h
     rw [Yha.l0, if_pos Zl, if_pos Zl, if_pos Zl, hb, Ylj]
     simp only [Option.bind_some]
     rw [if_pos hd, if_neg Zv, e1, e2, hw, if_neg, if_neg Zl]
     ·have e5 : wrap64 (n * 10) = n * 10 := by unfold wrap64; omega
      rw [e5]
      have e6 : wrap64 (n * 10 + ((b.toNat : Int) - 48)) = n * 10 + ((b.toNat : Int) - 48) := by unfold wrap64; omega
      rw [e6]
     ·rw [Int.tdiv_eq_ediv_of_nonneg Zl]
      unfold wrap64; omega
  ·refine EvR.of fun k => ?_
   rw [Yha.l0, if_pos Zl, if_pos Zl, if_pos Zl, hb, Ylj]
   simp only [Option.bind_some]
   rw [if_neg hd]
   unfold Yae
   rw [if_neg hd]
theorem Yvn (s : ByteArray) (most : Int) (h0 : 0 ≤ most) (h1 : most ≤ 1000000000) (hs : s.size ≤ 100000000) : EvR (fun k => Yha.f k s most) (numL most s.data.toList) := by
 by_cases he : s.data.toList = []
 ·refine EvR.of fun k => ?_
  unfold Yha.f numL
  rw [Lib.toList_data, if_pos he, if_pos he]
 ·refine EvR.congr (f := fun k => Yha.l0 k s most 0 false (s.size : Int) ((0 : Nat) : Int)) ?_ (fun k => ?_)
  ·unfold numL
   rw [if_neg he]
   exact number_l0 s most h0 h1 hs _ 0 0 false rfl Zl Zl h0
  ·unfold Yha.f
   rw [Lib.toList_data, if_neg he, decide_eq_false Zl]; rfl
theorem Yot (most : Int) (h0 : 0 ≤ most) : ∀ (l : List UInt8) (many : Bool) (n : Int), 0 ≤ n → n ≤ most → 0 ≤ (Yae most many n l).1 ∧ (Yae most many n l).1 ≤ most := by
 intro l
 induction l with
 | nil => intro many n hn0 hn1; unfold Yae; split <;> (constructor <;> simp <;> omega)
 | cons b t ih =>
  intro many n hn0 hn1
  unfold Yae
  split
  ·next hd =>
   have hr : 48 ≤ b.toNat ∧ b.toNat ≤ 57 := by unfold Yed at hd; simpa using hd
   split
   ·exact ih true n hn0 hn1
   ·next h => exact ih false _ Zl Zl
  ·constructor <;> simp <;> omega
theorem Yfn (most : Int) (h0 : 0 ≤ most) (l : List UInt8) : 0 ≤ (numL most l).1 ∧ (numL most l).1 ≤ most := by
 unfold numL
 split
 ·constructor <;> simp <;> omega
 ·exact Yot most h0 l false 0 Zl h0
def Yxk (b : UInt8) : Bool := Ybd b || (Yed b || (b == 45 || b == 95))
def Ytk (l : List UInt8) : Bool := l.all Yxk && (!l.isEmpty && decide (l.length ≤ 63))
theorem Ytq (b : UInt8) (n : Nat) (h : n < 256) : ((b.toNat : Int) = (n : Int)) ↔ b = UInt8.ofNat n := by
 constructor
 ·intro e
  apply UInt8.toNat_inj.1
  rw [UInt8.toNat_ofNat', Nat.mod_eq_of_lt h]; omega
 ·rintro rfl
  rw [UInt8.toNat_ofNat', Nat.mod_eq_of_lt h]
theorem isPart_l0 (s : ByteArray) (hs : s.size ≤ 100000000) : ∀ (L : List UInt8) (i : Nat), s.data.toList.drop i = L → i ≤ s.size →
  EvR (fun k => Ynb.l0 k s (s.size : Int) (i : Int)) (L.all Yxk && (!s.data.toList.isEmpty && decide (s.data.toList.length ≤ 63))) := by
 intro L
 induction L with
 | nil =>
  intro i hL hi
  have he := bt_end s i hL hi
  refine EvR.succ (EvR.of fun k => ?_)
  rw [Ynb.l0, if_neg Zl, Lib.toList_data]
  by_cases h : s.data.toList = []
  ·rw [if_pos h, h]; rfl
  ·rw [if_neg h]
   have h2 : s.data.toList.isEmpty = false := by cases hq : s.data.toList <;> simp_all
   have h3 : (decide ((s.size : Int) ≤ 63)) = decide (s.data.toList.length ≤ 63) := by rw [← Lib.size_eq]; exact decide_eq_decide.2 Zl
   rw [h2, h3]; simp
 | cons b t ih =>
  intro i hL hi
  obtain ⟨hi2, hb, ht⟩ := Yzc s i b t hL
  have hw := Ytd i s.size hi hs
  refine EvR.succ ?_
  have hstep : ∀ k, Ynb.l0 (k + 1) s (s.size : Int) (i : Int) = if Yxk b = true then Ynb.l0 k s (s.size : Int) ((i + 1 : Nat) : Int) else some false := by
   intro k
   rw [Ynb.l0, if_pos Zl, if_pos Zl, if_pos Zl, hb, Ywj]
   simp only [Option.bind_some]
   rw [Ylj, hw]
   simp only [Option.bind_some]
   have h45 : ((b.toNat : Int) = 45) ↔ b = 45 := Ytq b 45 Zl
   have h95 : ((b.toNat : Int) = 95) ↔ b = 95 := Ytq b 95 Zl
   unfold Yxk
   cases h1 : Ybd b
   ·cases h2 : Yed b
    ·by_cases h3 : b = 45
     ·rw [if_neg Zv, if_neg Zv, if_pos (h45.2 h3)]; simp [h3]
     ·by_cases h4 : b = 95
      ·rw [if_neg Zv, if_neg Zv, if_neg (fun e => h3 (h45.1 e)), if_pos (h95.2 h4)]; simp [h4]
      ·rw [if_neg Zv, if_neg Zv, if_neg (fun e => h3 (h45.1 e)), if_neg (fun e => h4 (h95.1 e))]; simp [h3, h4]
    ·simp
   ·simp
  by_cases hn : Yxk b = true
  ·refine EvR.congr (f := fun k => Ynb.l0 k s (s.size : Int) ((i + 1 : Nat) : Int)) ?_ (fun k => by rw [hstep, if_pos hn])
   have := ih (i + 1) ht Zl
   rw [List.all_cons, hn, Bool.true_and]; exact this
  ·refine EvR.of fun k => ?_
   rw [hstep, if_neg hn, List.all_cons]
   simp [hn]
theorem isPart_f (s : ByteArray) (hs : s.size ≤ 100000000) : EvR (fun k => Ynb.f k s) (Ytk s.data.toList) := by
 have := isPart_l0 s hs _ 0 rfl Zl
 exact this
end Go.Proofs.YtnmglnglbdpjjaaGreatDoor.X
namespace Go.Proofs.YtnmglnglbdpjjaaGreatDoor.X
open Go.RowKit Go.Lib Go.Shelf Go.Yw.PrintWords Go.Yw.PrintLast Go.Yw.PrintMore
set_option linter.unusedVariables false
set_option linter.unusedSimpArgs false
theorem set_mid (a r : List Int) (x y : Int) : (a ++ x :: r).set a.length y = a ++ y :: r := by
 rw [List.set_append_right _ _ (Nat.le_refl _), Nat.sub_self]; rfl
theorem rd_mid (a r : List Int) (x : Int) : rd (a ++ x :: r) (a.length : Int) = x := by
 unfold rd
 rw [Int.toNat_natCast, List.getD_eq_getElem?_getD, List.getElem?_append_right (Nat.le_refl _), Nat.sub_self]; rfl
theorem Ykt : ∀ (m : Nat) (a mid c : List Int), mid.length < 2 * m + 2 → a.length + mid.length + c.length ≤ 1000000 →
  Yo.l0 (m + 1) (a ++ (mid ++ c)) (a.length : Int) ((a.length : Int) + mid.length - 1) = some (a ++ (mid.reverse ++ c)) := by
 intro m
 induction m with
 | zero =>
  intro a mid c hm hl
  rw [Yo.l0, if_neg Zl]
  match mid, hm with
  | [], _ => rfl
  | [x], _ => rfl
 | succ m ih =>
  intro a mid c hm hl
  rcases Nat.lt_or_ge mid.length 2 with h2 | h2
  ·rw [Yo.l0, if_neg Zl]
   match mid, h2 with
   | [], _ => rfl
   | [x], _ => rfl
  ·obtain ⟨x, m1, rfl⟩ : ∃ x m1, mid = x :: m1 := by cases mid with
    | nil => simp at h2
    | cons x m1 => exact ⟨x, m1, rfl⟩
   obtain ⟨m2, y, rfl⟩ : ∃ m2 y, m1 = m2 ++ [y] := by
    refine ⟨m1.dropLast, m1.getLast (by intro e; subst e; simp at h2), (List.dropLast_concat_getLast _).symm⟩
   simp only [List.length_cons, List.length_append, List.length_nil] at hm hl h2
   have hj : ((a.length : Int) + ((x :: (m2 ++ [y])).length : Nat) - 1) = (((a ++ x :: m2).length : Nat) : Int) := by simp; omega
   have hs : a ++ (x :: (m2 ++ [y]) ++ c) = (a ++ x :: m2) ++ y :: c := by simp
   have hs2 : a ++ (x :: (m2 ++ [y]) ++ c) = a ++ x :: (m2 ++ y :: c) := by simp
   rw [Yo.l0, hj]
   have hlen : (a ++ (x :: (m2 ++ [y]) ++ c)).length = a.length + m2.length + c.length + 2 := by simp; omega
   have hla : (a ++ x :: m2).length = a.length + m2.length + 1 := by simp; omega
   rw [if_pos Zl, if_pos Zl, if_pos (by rw [hlen]; omega), if_pos Zl, if_pos (by rw [hlen]; omega)]
   have r1 : rd (a ++ (x :: (m2 ++ [y]) ++ c)) (((a ++ x :: m2).length : Nat) : Int) = y := by rw [hs, rd_mid]
   have r2 : rd (a ++ (x :: (m2 ++ [y]) ++ c)) (a.length : Int) = x := by rw [hs2, rd_mid]
   rw [r1, r2, Int.toNat_natCast, Int.toNat_natCast, hs2, set_mid]
   have hs3 : a ++ y :: (m2 ++ y :: c) = (a ++ y :: m2) ++ y :: c := by simp
   have hla2 : (a ++ x :: m2).length = (a ++ y :: m2).length := by simp
   rw [hs3, hla2, set_mid]
   have w1 : wrap64 ((a.length : Int) + 1) = (((a ++ [y]).length : Nat) : Int) := by simp; unfold wrap64; omega
   have w2 : wrap64 ((((a ++ y :: m2).length : Nat) : Int) - 1) = (((a ++ [y]).length : Nat) : Int) + (m2.length : Nat) - 1 := by simp; unfold wrap64; omega
   have hs4 : (a ++ y :: m2) ++ x :: c = (a ++ [y]) ++ (m2 ++ (x :: c)) := by simp
   rw [w1, w2, hs4, ih (a ++ [y]) m2 (x :: c) Zl Zob]
   simp
theorem Yzp (xs : List Int) (h : xs.length ≤ 1000000) : EvR (fun k => Yo.f k xs) xs.reverse := by
 refine EvR.mono (Yo.mono xs) (k0 := xs.length + 1) ?_
 unfold Yo.f
 have hw : wrap64 ((xs.length : Int) - 1) = (([] : List Int).length : Int) + (xs.length : Nat) - 1 := by simp; unfold wrap64; omega
 have := Ykt xs.length [] xs [] Zl (by simp; exact h)
 simp only [List.nil_append, List.append_nil] at this
 rw [hw]; exact this
def digs : Nat → Nat → List Int
 | 0, _ => []
 | f + 1, v => if v = 0 then [] else (48 + ((v % 10 : Nat) : Int)) :: digs f (v / 10)
def Yqf (v : Nat) : List Int := if v = 0 then [48] else (digs 20 v).reverse
theorem Yog (n : Int) (h0 : 0 ≤ n) (h1 : n < 18446744073709551616) : IntKind.u64.wrap n = n := by
 unfold IntKind.wrap
 simp [IntKind.bits, IntKind.signed]
 omega
theorem Yxs : ∀ (f v : Nat), (digs f v).length ≤ f := by
 intro f
 induction f with
 | zero => intro v; simp [digs]
 | succ f ih => intro v; unfold digs; split; simp; have := ih (v / 10); simp; omega
theorem Ymr (x0 : Int) (hx : 0 ≤ x0) : ∀ (f v : Nat) (acc : List Int), v < 10 ^ f → v < 18446744073709551616 → acc.length + f ≤ 1000 → (acc ≠ [] ∨ v ≠ 0) →
  EvR (fun k => Ykb.l0 k x0 1 (v : Int) acc) (strOfNums (acc ++ digs f v).reverse) := by
 have hz : ∀ acc : List Int, acc.length ≤ 1000 → acc ≠ [] → EvR (fun k => Ykb.l0 k x0 1 (((0 : Nat) : Int)) acc) (strOfNums acc.reverse) := by
  intro acc hl hne
  have h1 : 0 < acc.length := List.length_pos_iff.2 hne
  have hm : mx (mn 1 20) 1 = 1 := rfl
  refine EvR.succ ?_
  refine EvR.congr (f := fun k => (Yo.f k acc).bind fun t => some (strOfNums t)) ?_ (fun k => ?_)
  ·exact EvR.bind (g := fun _ t => some (strOfNums t)) (Yzp acc Zl) (EvR.of fun _ => rfl)
  ·rw [Ykb.l0, if_neg Zl, hm, if_neg Zl, if_neg Zl]
 intro f
 induction f with
 | zero =>
  intro v acc hv hv2 hl hn
  have : v = 0 := by simpa using hv
  subst this
  rw [show digs 0 0 = [] from rfl, List.append_nil]
  exact hz acc Zl (by rcases hn with h | h; exact h; exact absurd rfl h)
 | succ f ih =>
  intro v acc hv hv2 hl hn
  by_cases h0 : v = 0
  ·subst h0
   rw [show digs (f + 1) 0 = [] from rfl, List.append_nil]
   exact hz acc Zl (by rcases hn with h | h; exact h; exact absurd rfl h)
  ·refine EvR.succ ?_
   have hd : digs (f + 1) v = (48 + ((v % 10 : Nat) : Int)) :: digs f (v / 10) := by rw [digs, if_neg h0]
   rw [hd, show acc ++ (48 + ((v % 10 : Nat) : Int)) :: digs f (v / 10) = (acc ++ [48 + ((v % 10 : Nat) : Int)]) ++ digs f (v / 10) by simp]
   refine (ih (v / 10) (acc ++ [48 + ((v % 10 : Nat) : Int)]) (by rw [Nat.pow_succ] at hv; omega) Zl Zob (.inl Zv)).congr (fun k => ?_)
   rw [Ykb.l0, if_pos Zl, if_pos Zl, Int.tdiv_eq_ediv_of_nonneg Zl, Int.tmod_eq_emod_of_nonneg Zl, Yog _ Zl Zl, Yog _ Zl Zl]
   have e1 : (v : Int) / 10 = ((v / 10 : Nat) : Int) := by omega
   have e2 : (48 + (v : Int) % 10) % 256 = 48 + ((v % 10 : Nat) : Int) := by omega
   rw [e1, e2]
theorem text_f (v : Nat) (hv : v < 10 ^ 18) : EvR (fun k => Yie.f k (v : Int)) (strOfNums (Yqf v)) := by
 have h2 : v < 18446744073709551616 := by omega
 have hl : EvR (fun k => Ykb.l0 k (v : Int) 1 (v : Int) []) (strOfNums (Yqf v)) := by
  unfold Yqf
  by_cases h0 : v = 0
  ·subst h0
   rw [if_pos rfl]
   refine EvR.succ ?_
   refine (Ymr 0 Zl 0 0 [48] Zl Zl Zv (.inl Zv)).congr (fun k => ?_)
   rfl
  ·rw [if_neg h0]
   exact Ymr (v : Int) Zl 20 v [] Zl h2 Zv (.inr h0)
 refine EvR.congr (f := fun k => (Ykb.f k (v : Int) 1).bind fun t => some t) ?_ (fun k => rfl)
 refine EvR.bind (g := fun _ t => some t) (x := strOfNums (Yqf v)) ?_ (EvR.of fun _ => rfl)
 refine EvR.congr (f := fun k => Ykb.j0 k (v : Int) 1 (v : Int)) ?_ (fun k => by unfold Ykb.f; rw [if_neg Zl, Yog _ Zl Zl])
 refine EvR.succ (hl.congr fun k => ?_)
 rw [Ykb.j0]
def Yck (l : List UInt8) : Bool := (numL 255 l).2 == 0 && (strOfNums (Yqf (numL 255 l).1.toNat)).data.toList == l
theorem isByte_f (s : ByteArray) (hs : s.size ≤ 100000000) : EvR (fun k => Yye.f k s) (Yck s.data.toList) := by
 have hn := Yvn s 255 Zl Zl hs
 have hb := Yfn 255 Zl s.data.toList
 unfold Yck
 unfold Yye.f
 refine EvR.bind (g := fun k x => if x.2 = 0 then (Yie.f k x.1).bind fun t => some (t.toList == s.toList) else some false) hn ?_
 by_cases he : (numL 255 s.data.toList).2 = 0
 ·refine EvR.congr (f := fun k => (Yie.f k (((numL 255 s.data.toList).1.toNat : Nat) : Int)).bind fun t => some (t.toList == s.toList)) ?_ (fun k => by rw [if_pos he, Int.toNat_of_nonneg hb.1])
  refine EvR.bind (g := fun _ t => some (t.toList == s.toList)) (text_f (numL 255 s.data.toList).1.toNat Zl) (EvR.of fun _ => ?_)
  rw [he, Lib.toList_data, Lib.toList_data]; rfl
 ·refine EvR.of fun k => ?_
  rw [if_neg he]
  have : ((numL 255 s.data.toList).2 == 0) = false := beq_eq_false_iff_ne.2 he
  rw [this]; rfl
def Yli (l : List UInt8) : Bool := (splitB 46 l).all Ytk && (decide (l.length ≤ 253) && ((numL 0 ((splitB 46 l).getD ((splitB 46 l).length - 1) [])).2 == 3 || ((splitB 46 l).length == 4 && (splitB 46 l).all Yck)))
theorem Yxg (xs : List (List UInt8)) (i : Nat) (h : i < xs.length) : rdOf ByteArray.empty (xs.map ofL) (i : Int) = ofL (xs.getD i []) := by
 unfold rdOf
 rw [Int.toNat_natCast, List.getD_eq_getElem?_getD, List.getD_eq_getElem?_getD, List.getElem?_map, List.getElem?_eq_getElem h]; rfl
theorem isName_l0 (s : ByteArray) (xs : List (List UInt8)) (hne : 0 < xs.length) (hl : xs.length ≤ 100000000) (hx : ∀ x ∈ xs, x.length ≤ 100000000) : ∀ (L : List (List UInt8)) (i : Nat) (four : Bool), xs.drop i = L → i ≤ xs.length →
  EvR (fun k => Ymb.l0 k s (xs.map ofL) four (xs.map ofL) (xs.length : Int) (i : Int)) (L.all Ytk && (decide (s.size ≤ 253) && ((numL 0 (xs.getD (xs.length - 1) [])).2 == 3 || (four && L.all Yck)))) := by
 intro L
 induction L with
 | nil =>
  intro i four hL hi
  have he : i = xs.length := by
   have := congrArg List.length hL
   rw [List.length_drop] at this
   simp only [List.length_nil] at this; omega
  refine EvR.succ ?_
  have hw : wrap64 ((((xs.map ofL).length : Nat) : Int) - 1) = ((xs.length - 1 : Nat) : Int) := by rw [List.length_map]; unfold wrap64; omega
  have hlast : (xs.getD (xs.length - 1) []).length ≤ 100000000 := by
   have h1 : xs.length - 1 < xs.length := by omega
   rw [List.getD_eq_getElem?_getD, List.getElem?_eq_getElem h1]
   exact hx _ (List.getElem_mem h1)
  have hn := Yvn (ofL (xs.getD (xs.length - 1) [])) 0 Zl Zl (by rw [Yda]; exact hlast)
  rw [Yob] at hn
  refine EvR.congr (f := fun k => (Yha.f k (ofL (xs.getD (xs.length - 1) [])) 0).bind fun bt => if (s.size : Int) ≤ 253 then (if bt.2 = 3 then some true else some four) else some false) ?_ (fun k => ?_)
  ·refine EvR.bind (g := fun _ bt => if (s.size : Int) ≤ 253 then (if bt.2 = 3 then some true else some four) else some false) hn (EvR.of fun _ => ?_)
   by_cases h1 : s.size ≤ 253
   ·rw [if_pos Zl, decide_eq_true h1]
    by_cases h2 : (numL 0 (xs.getD (xs.length - 1) [])).2 = 3
    ·rw [if_pos h2, h2]; simp
    ·rw [if_neg h2, beq_eq_false_iff_ne.2 h2]; simp
   ·rw [if_neg Zl, decide_eq_false h1]; simp
  ·rw [Ymb.l0, if_neg Zl, hw, if_pos Zl, if_pos Zvb, Yxg xs _ Zl]
 | cons p t ih =>
  intro i four hL hi
  have hi2 : i < xs.length := by
   have := congrArg List.length hL
   rw [List.length_drop] at this
   simp only [List.length_cons] at this; omega
  have ht : xs.drop (i + 1) = t := by have h9 := List.drop_drop (i := 1) (j := i) (l := xs); rw [hL] at h9; rw [← h9]; rfl
  have hp : xs.getD i [] = p := by
   have h9 := List.getElem?_drop (xs := xs) (i := i) (j := 0)
   rw [hL, Nat.add_zero] at h9
   rw [List.getD_eq_getElem?_getD, ← h9]; rfl
  have hpl : p.length ≤ 100000000 := hx p (by rw [← hp, List.getD_eq_getElem?_getD, List.getElem?_eq_getElem hi2]; exact List.getElem_mem hi2)
  have hw := Ytd i xs.length hi Zl
  refine EvR.succ ?_
  have h1 := isPart_f (ofL p) (by rw [Yda]; exact hpl)
  have h2 := isByte_f (ofL p) (by rw [Yda]; exact hpl)
  rw [Yob] at h1 h2
  refine EvR.congr (f := fun k => (Ynb.f k (ofL p)).bind fun c => if c = true then (if four = true then ((Yye.f k (ofL p)).bind fun d => Ymb.l0 k s (xs.map ofL) d (xs.map ofL) (xs.length : Int) ((i + 1 : Nat) : Int)) else Ymb.l0 k s (xs.map ofL) false (xs.map ofL) (xs.length : Int) ((i + 1 : Nat) : Int)) else some false) ?_ (fun k => ?_)
  ·refine EvR.bind (g := fun k c => if c = true then (if four = true then ((Yye.f k (ofL p)).bind fun d => Ymb.l0 k s (xs.map ofL) d (xs.map ofL) (xs.length : Int) ((i + 1 : Nat) : Int)) else Ymb.l0 k s (xs.map ofL) false (xs.map ofL) (xs.length : Int) ((i + 1 : Nat) : Int)) else some false) h1 ?_
   by_cases hn : Ytk p = true
   ·rw [List.all_cons, List.all_cons, hn, Bool.true_and]
    cases four with
    | true =>
     refine EvR.congr (f := fun k => (Yye.f k (ofL p)).bind fun d => Ymb.l0 k s (xs.map ofL) d (xs.map ofL) (xs.length : Int) ((i + 1 : Nat) : Int)) ?_ (fun k => by rw [if_pos rfl, if_pos rfl])
     refine EvR.bind (g := fun k d => Ymb.l0 k s (xs.map ofL) d (xs.map ofL) (xs.length : Int) ((i + 1 : Nat) : Int)) h2 ?_
     have := ih (i + 1) (Yck p) ht Zl
     simpa using this
    | false =>
     refine EvR.congr (f := fun k => Ymb.l0 k s (xs.map ofL) false (xs.map ofL) (xs.length : Int) ((i + 1 : Nat) : Int)) ?_ (fun k => by rw [if_pos rfl, if_neg Zv])
     have := ih (i + 1) false ht Zl
     simpa using this
   ·refine EvR.of fun k => ?_
    rw [if_neg hn, List.all_cons]
    have : Ytk p = false := by cases h : Ytk p <;> simp_all
    rw [this]; rfl
  ·rw [Ymb.l0, if_pos Zl, if_pos Zl, if_pos Zvb, Yxg xs i hi2, hp, hw]
theorem isName_f (s : ByteArray) (hs : s.size ≤ 90000000) : EvR (fun k => Ymb.f k s) (Yli s.data.toList) := by
 have hlen := Ysk 46 s.data.toList
 rw [← Lib.size_eq] at hlen
 have hpos : 0 < (splitB 46 s.data.toList).length := List.length_pos_iff.2 (Ymf _ _)
 have hxs : ∀ x ∈ splitB 46 s.data.toList, x.length ≤ 100000000 := by
  intro x hx
  have h1 := Yro 46 s.data.toList
  have h2 : ∀ (l : List (List UInt8)), x ∈ l → x.length + 1 ≤ tot l := by
   intro l
   induction l with
   | nil => intro h; cases h
   | cons y l ih =>
    intro h
    simp only [tot, List.map_cons, List.sum_cons] at ih ⊢
    rcases List.mem_cons.1 h with rfl | h
    ·omega
    ·have := ih h; omega
  have := h2 _ hx
  rw [← Lib.size_eq] at h1; omega
 have hsp : EvR (fun k => Yjb.f k s 46) ((splitB 46 s.data.toList).map ofL) :=
  EvR.mono (Yjb.mono s 46) (split_f s 46 Zl)
 unfold Ymb.f
 refine EvR.bind (g := fun k t => Ymb.l0 k s t ((t.length : Int) == 4) t (t.length : Int) 0) hsp ?_
 have h := isName_l0 s (splitB 46 s.data.toList) hpos Zl hxs _ 0 ((splitB 46 s.data.toList).length == 4) rfl Zl
 have e4 : ((((((splitB 46 s.data.toList).map ofL).length : Nat) : Int)) == 4) = ((splitB 46 s.data.toList).length == 4) := by
  rw [List.length_map]
  by_cases h : (splitB 46 s.data.toList).length = 4
  ·rw [h]; rfl
  ·rw [beq_eq_false_iff_ne.2 h, beq_eq_false_iff_ne.2 Zl]
 rw [e4, List.length_map]
 unfold Yli
 rw [Lib.size_eq] at h
 exact h
end Go.Proofs.YtnmglnglbdpjjaaGreatDoor.X
namespace Go.Proofs.YtnmglnglbdpjjaaGreatDoor.X
open Go.RowKit Go.Lib Go.Shelf Go.Yw.PrintWords Go.Yw.PrintLast Go.Yw.PrintMore
set_option linter.unusedVariables false
set_option linter.unusedSimpArgs false
def Ync (b : UInt8) : Bool := Ybd b || (Yed b || (b == 43 || (b == 45 || b == 46)))
abbrev Ydh : List UInt8 := [104, 116, 116, 112]
abbrev Yeg : List UInt8 := [104, 116, 116, 112, 115]
theorem sign_f (b : UInt8) : strings_IndexByte.f (⟨#[43, 45, 46]⟩ : ByteArray) (b.toNat : Int) = some (if b = 43 then 0 else if b = 45 then 1 else if b = 46 then 2 else -1) := by
 revert b; exact Yxc Zia
theorem Ykl (l sep : List UInt8) : (Lib.cut l sep).1.length ≤ l.length ∧ (Lib.cut l sep).2.1.length ≤ l.length := by
 unfold Lib.cut
 split
 ·constructor
  ·simp only [List.length_take]; omega
  ·simp only [List.length_drop]; omega
 ·constructor <;> simp
def Yaf (l : List UInt8) (sch : ByteArray) : Int × ByteArray × ByteArray :=
 if (Lib.cut l [58]).2.2 = true ∧ (Lib.cut l [58]).1 ≠ [] ∧ Ybd ((Lib.cut l [58]).1.headD 0) = true ∧ (Lib.cut l [58]).1.all Ync = true then
  (if lowL (Lib.cut l [58]).1 = Ydh ∨ lowL (Lib.cut l [58]).1 = Yeg then 0 else 16, ofL (Lib.cut l [58]).2.1, ofL (lowL (Lib.cut l [58]).1))
 else (3, ofL l, sch)
theorem scheme_l0 (x3 x4 : ByteArray) (s0 s1 s2 : ByteArray) (s3 : Int) (s4 s5 s6 : ByteArray) (s7 s8 : Bool) (hs : x3.size ≤ 100000000) : ∀ (L : List UInt8) (i : Nat), x3.data.toList.drop i = L → i ≤ x3.size →
  EvR (fun k => Yt.l0 k x3 x4 (x3.size : Int) (i : Int) s0 s1 s2 s3 s4 s5 s6 s7 s8)
   (if L.all Ync = true then (if lowL x3.data.toList = Ydh ∨ lowL x3.data.toList = Yeg then (0 : Int) else 16, x4, ofL (lowL x3.data.toList), s2, s3, s4, s5, s6, s7, s8) else (3, s0, s1, s2, s3, s4, s5, s6, s7, s8)) := by
 intro L
 induction L with
 | nil =>
  intro i hL hi
  have he := bt_end x3 i hL hi
  refine EvR.succ (EvR.of fun k => ?_)
  have hlo : Yhb.f x3 = some (ofL (lowL x3.data.toList)) := by unfold Yhb.f; rw [if_pos Zl]
  rw [Yt.l0, if_neg Zl, hlo]
  simp only [Option.bind_some, Yid, List.all_nil, if_true]
  by_cases h1 : lowL x3.data.toList = Ydh
  ·rw [if_pos h1, if_pos (Or.inl h1)]
  ·rw [if_neg h1]
   by_cases h2 : lowL x3.data.toList = Yeg
   ·rw [if_pos h2, if_pos (Or.inr h2)]
   ·rw [if_neg h2, if_neg (by rintro (h | h); exact h1 h; exact h2 h)]
 | cons b t ih =>
  intro i hL hi
  obtain ⟨hi2, hb, ht⟩ := Yzc x3 i b t hL
  have hw := Ytd i x3.size hi hs
  refine EvR.succ ?_
  have hstep : ∀ k, Yt.l0 (k + 1) x3 x4 (x3.size : Int) (i : Int) s0 s1 s2 s3 s4 s5 s6 s7 s8 = if Ync b = true then Yt.l0 k x3 x4 (x3.size : Int) ((i + 1 : Nat) : Int) s0 s1 s2 s3 s4 s5 s6 s7 s8 else some (3, s0, s1, s2, s3, s4, s5, s6, s7, s8) := by
   intro k
   rw [Yt.l0, if_pos Zl, if_pos Zl, if_pos Zl, hb, Ywj]
   simp only [Option.bind_some]
   rw [Ylj, hw, sign_f]
   simp only [Option.bind_some]
   unfold Ync
   cases h1 : Ybd b
   ·cases h2 : Yed b
    ·rw [if_neg Zv, if_neg Zv]
     by_cases h3 : b = 43
     ·simp [h3]
     ·by_cases h4 : b = 45
      ·simp [h4]
      ·by_cases h5 : b = 46
       ·simp [h5]
       ·simp [h3, h4, h5]
    ·simp
   ·simp
  by_cases hn : Ync b = true
  ·refine EvR.congr (f := fun k => Yt.l0 k x3 x4 (x3.size : Int) ((i + 1 : Nat) : Int) s0 s1 s2 s3 s4 s5 s6 s7 s8) ?_ (fun k => by rw [hstep, if_pos hn])
   have := ih (i + 1) ht Zl
   rw [List.all_cons, hn, Bool.true_and]; exact this
  ·refine EvR.of fun k => ?_
   rw [hstep, if_neg hn, List.all_cons]
   simp [hn]
theorem scheme_f (s0 s1 s2 : ByteArray) (s3 : Int) (s4 s5 s6 : ByteArray) (s7 s8 : Bool) (hs : s0.size ≤ 100000000) :
  EvR (fun k => Yt.f k s0 s1 s2 s3 s4 s5 s6 s7 s8) ((Yaf s0.data.toList s1).1, (Yaf s0.data.toList s1).2.1, (Yaf s0.data.toList s1).2.2, s2, s3, s4, s5, s6, s7, s8) := by
 have hc : strings_Cut.f s0 ⟨#[58]⟩ = some (ofL (Lib.cut s0.data.toList [58]).1, ofL (Lib.cut s0.data.toList [58]).2.1, (Lib.cut s0.data.toList [58]).2.2) := by
  unfold strings_Cut.f; rw [if_pos Zl]
 have hl := (Ykl s0.data.toList [58]).1
 rw [← Lib.size_eq] at hl
 have hno : Yaf s0.data.toList s1 = (3, s0, s1) ∨ ((Lib.cut s0.data.toList [58]).2.2 = true ∧ (Lib.cut s0.data.toList [58]).1 ≠ [] ∧ Ybd ((Lib.cut s0.data.toList [58]).1.headD 0) = true) := by
  unfold Yaf
  by_cases h : (Lib.cut s0.data.toList [58]).2.2 = true ∧ (Lib.cut s0.data.toList [58]).1 ≠ [] ∧ Ybd ((Lib.cut s0.data.toList [58]).1.headD 0) = true
  ·exact .inr h
  ·left
   rw [if_neg (fun h2 => h ⟨h2.1, h2.2.1, h2.2.2.1⟩), Yyi]
 have hj : ∀ (x3 x4 : ByteArray) k, Yt.j0 (k + 1) x3 x4 true s0 s1 s2 s3 s4 s5 s6 s7 s8 = some (3, s0, s1, s2, s3, s4, s5, s6, s7, s8) := by
  intro x3 x4 k; rw [Yt.j0, if_pos rfl]
 by_cases h1 : (Lib.cut s0.data.toList [58]).2.2 = true
 ·by_cases h2 : (Lib.cut s0.data.toList [58]).1 = []
  ·rcases hno with hno | hno
   ·rw [hno]
    refine EvR.succ (EvR.of fun k => ?_)
    unfold Yt.f
    rw [hc]
    simp only [Option.bind_some]
    rw [if_pos h1, if_pos (by rw [Yid]; exact h2), hj]
   ·exact absurd h2 hno.2.1
  ·have hpos : 0 < (ofL (Lib.cut s0.data.toList [58]).1).size := by rw [Yda]; exact List.length_pos_iff.2 h2
   have hbt : bt (ofL (Lib.cut s0.data.toList [58]).1) 0 = (((Lib.cut s0.data.toList [58]).1.headD 0).toNat : Int) := by
    cases hq : (Lib.cut s0.data.toList [58]).1 with
    | nil => exact absurd hq h2
    | cons b t => rfl
   have hf : ∀ k, Yt.f k s0 s1 s2 s3 s4 s5 s6 s7 s8 = Yt.j0 k (ofL (Lib.cut s0.data.toList [58]).1) (ofL (Lib.cut s0.data.toList [58]).2.1) (!(Ybd ((Lib.cut s0.data.toList [58]).1.headD 0))) s0 s1 s2 s3 s4 s5 s6 s7 s8 := by
    intro k
    unfold Yt.f
    rw [hc]
    simp only [Option.bind_some]
    rw [if_pos h1, if_neg (by rw [Yid]; exact h2), if_pos Zl, hbt, Ywj]
    rfl
   by_cases h3 : Ybd ((Lib.cut s0.data.toList [58]).1.headD 0) = true
   ·refine EvR.congr (f := fun k => Yt.j0 k (ofL (Lib.cut s0.data.toList [58]).1) (ofL (Lib.cut s0.data.toList [58]).2.1) false s0 s1 s2 s3 s4 s5 s6 s7 s8) ?_ (fun k => by rw [hf, h3]; rfl)
    refine EvR.succ ?_
    refine EvR.congr (f := fun k => Yt.l0 k (ofL (Lib.cut s0.data.toList [58]).1) (ofL (Lib.cut s0.data.toList [58]).2.1) ((ofL (Lib.cut s0.data.toList [58]).1).size : Int) ((0 : Nat) : Int) s0 s1 s2 s3 s4 s5 s6 s7 s8) ?_ (fun k => by rw [Yt.j0, if_neg Zv]; rfl)
    have h := scheme_l0 (ofL (Lib.cut s0.data.toList [58]).1) (ofL (Lib.cut s0.data.toList [58]).2.1) s0 s1 s2 s3 s4 s5 s6 s7 s8 Zga _ 0 rfl Zl
    rw [List.drop_zero, Yob] at h
    unfold Yaf
    by_cases h4 : (Lib.cut s0.data.toList [58]).1.all Ync = true
    ·rw [if_pos h4] at h
     rw [if_pos ⟨h1, h2, h3, h4⟩]
     exact h
    ·rw [if_neg h4] at h
     rw [if_neg (fun h5 => h4 h5.2.2.2), Yyi]
     exact h
   ·have h4 : Ybd ((Lib.cut s0.data.toList [58]).1.headD 0) = false := by cases hq : Ybd ((Lib.cut s0.data.toList [58]).1.headD 0) <;> simp_all
    rcases hno with hno | hno
    ·rw [hno]
     refine EvR.succ (EvR.of fun k => ?_)
     rw [hf, h4]
     exact hj _ _ k
    ·exact absurd hno.2.2 h3
 ·rcases hno with hno | hno
  ·rw [hno]
   refine EvR.succ (EvR.of fun k => ?_)
   unfold Yt.f
   rw [hc]
   simp only [Option.bind_some]
   rw [if_neg h1, hj]
  ·exact absurd hno.1 h1
def Yff (l : List UInt8) : List UInt8 × Int := if lowL (Ylb l) = [] then ([], 4) else if Yli (lowL (Ylb l)) = true then (lowL (Ylb l), 0) else ([], 17)
theorem Ykk : ∀ (n : Nat) (l : List UInt8), l.length ≤ n → (Ylb l).length ≤ l.length := by
 intro n
 induction n with
 | zero => intro l h; cases l with | nil => simp [Ylb] | cons b l => simp at h
 | succ n ih =>
  intro l h
  match l, h with
  | [], _ => simp [Ylb]
  | [c], _ => simp [Ylb]
  | [c, d], _ => simp [Ylb]
  | c :: a :: b :: t, h =>
   rw [Ylb]
   simp only [List.length_cons] at h
   split
   ·have := ih t Zl; simp only [List.length_cons]; omega
   ·have := ih (a :: b :: t) (by simp only [List.length_cons]; omega); simp only [List.length_cons] at this ⊢; omega
theorem host_f (s : ByteArray) (hs : s.size ≤ 90000000) : EvR (fun k => Yse.f k s) (ofL (Yff s.data.toList).1, (Yff s.data.toList).2) := by
 have hu : Yxd.f s = some (ofL (Ylb s.data.toList)) := by unfold Yxd.f; rw [if_pos Zl]
 have hul := Ykk _ s.data.toList (Nat.le_refl _)
 rw [← Lib.size_eq] at hul
 have hl : Yhb.f (ofL (Ylb s.data.toList)) = some (ofL (lowL (Ylb s.data.toList))) := by
  unfold Yhb.f; rw [if_pos Zga, Yob]
 have hf : ∀ k, Yse.f k s = if lowL (Ylb s.data.toList) = [] then some ((⟨#[]⟩ : ByteArray), 4) else ((Ymb.f k (ofL (lowL (Ylb s.data.toList)))).bind fun c => if c = true then some (ofL (lowL (Ylb s.data.toList)), 0) else some ((⟨#[]⟩ : ByteArray), 17)) := by
  intro k
  unfold Yse.f
  rw [hu]
  simp only [Option.bind_some]
  rw [hl]
  simp only [Option.bind_some, Yid]
 unfold Yff
 by_cases h0 : lowL (Ylb s.data.toList) = []
 ·refine EvR.of fun k => ?_
  rw [hf, if_pos h0, if_pos h0]; rfl
 ·refine EvR.congr (f := fun k => (Ymb.f k (ofL (lowL (Ylb s.data.toList)))).bind fun c => if c = true then some (ofL (lowL (Ylb s.data.toList)), 0) else some ((⟨#[]⟩ : ByteArray), 17)) ?_ (fun k => by rw [hf, if_neg h0])
  have hn := isName_f (ofL (lowL (Ylb s.data.toList))) (by rw [Yda, Yeh]; omega)
  rw [Yob] at hn
  refine EvR.bind (g := fun _ c => if c = true then some (ofL (lowL (Ylb s.data.toList)), 0) else some ((⟨#[]⟩ : ByteArray), 17)) hn (EvR.of fun _ => ?_)
  rw [if_neg h0]
  by_cases h1 : Yli (lowL (Ylb s.data.toList)) = true
  ·rw [if_pos h1, if_pos h1]
  ·rw [if_neg h1, if_neg h1]; rfl
def Yub (l : List UInt8) : List UInt8 := (Lib.trimLeftS l [47, 92]).takeWhile (Yza [47, 92, 63, 35])
def Yuf (l : List UInt8) : List UInt8 := (Lib.trimLeftS l [47, 92]).dropWhile (Yza [47, 92, 63, 35])
def ownN (sch : List UInt8) : Int := if sch = Ydh then 80 else 443
def Ylf (l sch : List UInt8) (host : ByteArray) (port : Int) : Int × ByteArray × ByteArray × Int :=
 if Lib.indexAny l [47, 92] = 0 then
  if Lib.indexByte (Yub l) 64 ≥ 0 then (3, ofL (Yuf l), host, port) else
   if (Yff (Lib.cut (Yub l) [58]).1).2 = 0 then
    if (Lib.cut (Yub l) [58]).2.1 = [] then (0, ofL (Yuf l), ofL (Yff (Lib.cut (Yub l) [58]).1).1, port) else
     if (numL 65535 (Lib.cut (Yub l) [58]).2.1).2 = 0 then
      if (numL 65535 (Lib.cut (Yub l) [58]).2.1).1 = ownN sch then (0, ofL (Yuf l), ofL (Yff (Lib.cut (Yub l) [58]).1).1, port)
      else (0, ofL (Yuf l), ofL (Yff (Lib.cut (Yub l) [58]).1).1, (numL 65535 (Lib.cut (Yub l) [58]).2.1).1)
     else (3, ofL (Yuf l), ofL (Yff (Lib.cut (Yub l) [58]).1).1, port)
   else ((Yff (Lib.cut (Yub l) [58]).1).2, ofL (Yuf l), host, port)
 else (3, ofL l, host, port)
theorem place_f (s0 s1 s2 : ByteArray) (s3 : Int) (s4 s5 s6 : ByteArray) (s7 s8 : Bool) (hs : s0.size ≤ 90000000) :
  EvR (fun k => Yhf.f k s0 s1 s2 s3 s4 s5 s6 s7 s8) ((Ylf s0.data.toList s1.data.toList s2 s3).1, (Ylf s0.data.toList s1.data.toList s2 s3).2.1, s1, (Ylf s0.data.toList s1.data.toList s2 s3).2.2.1, (Ylf s0.data.toList s1.data.toList s2 s3).2.2.2, s4, s5, s6, s7, s8) := by
 have hi : strings_IndexAny.f s0 ⟨#[47, 92]⟩ = some (Lib.indexAny s0.data.toList [47, 92]) := by
  unfold strings_IndexAny.f; rw [if_pos ⟨rfl, Zda, Zda, Zl⟩]
 unfold Ylf
 unfold Yhf.f
 rw [hi]
 simp only [Option.bind_some]
 by_cases h1 : Lib.indexAny s0.data.toList [47, 92] = 0
 ·rw [if_pos h1]
  have ht : Ymc.f s0 ⟨#[47, 92]⟩ = some (ofL (Lib.trimLeftS s0.data.toList [47, 92])) := by
   unfold Ymc.f; rw [if_pos ⟨Zda, Zda⟩]
  have htl : (Lib.trimLeftS s0.data.toList [47, 92]).length ≤ s0.size := by rw [Lib.size_eq]; exact (List.dropWhile_sublist _).length_le
  have hph : (Yub s0.data.toList).length ≤ s0.size := Nat.le_trans (Yle _ _) htl
  have hk : Ybc.f (ofL (Lib.trimLeftS s0.data.toList [47, 92])) s1 s2 s3 s4 s5 s6 s7 s8 ⟨#[47, 92, 63, 35]⟩ = some (ofL (Yub s0.data.toList), ofL (Yuf s0.data.toList), s1, s2, s3, s4, s5, s6, s7, s8) := by
   rw [take_f _ _ _ _ _ _ _ _ _ _ rfl Zga]; rfl
  have hcl := Ykl (Yub s0.data.toList) [58]
  have hc : strings_Cut.f (ofL (Yub s0.data.toList)) ⟨#[58]⟩ = some (ofL (Lib.cut (Yub s0.data.toList) [58]).1, ofL (Lib.cut (Yub s0.data.toList) [58]).2.1, (Lib.cut (Yub s0.data.toList) [58]).2.2) := by
   unfold strings_Cut.f; rw [if_pos Zga]; rfl
  have hat : strings_IndexByte.f (ofL (Yub s0.data.toList)) 64 = some (Lib.indexByte (Yub s0.data.toList) 64) := rfl
  rw [ht]
  simp only [Option.bind_some]
  rw [hk]
  simp only [Option.bind_some]
  rw [hat]
  simp only [Option.bind_some]
  by_cases h2 : Lib.indexByte (Yub s0.data.toList) 64 ≥ 0
  ·refine EvR.of fun k => ?_
   rw [if_pos h1, if_pos h2, if_pos h2]
  ·rw [if_neg h2, hc]
   simp only [Option.bind_some]
   have hh := host_f (ofL (Lib.cut (Yub s0.data.toList) [58]).1) Zga
   rw [Yob] at hh
   simp only [if_pos h1, if_neg h2]
   refine EvR.bind hh ?_
   by_cases h3 : (Yff (Lib.cut (Yub s0.data.toList) [58]).1).2 = 0
   ·simp only [if_pos h3, Yid]
    by_cases h4 : (Lib.cut (Yub s0.data.toList) [58]).2.1 = []
    ·refine EvR.of fun k => ?_
     simp only [if_pos h4]
    ·simp only [if_neg h4]
     have hn := Yvn (ofL (Lib.cut (Yub s0.data.toList) [58]).2.1) 65535 Zl Zl Zga
     rw [Yob] at hn
     refine EvR.bind hn (EvR.of fun k => ?_)
     by_cases h5 : (numL 65535 (Lib.cut (Yub s0.data.toList) [58]).2.1).2 = 0
     ·simp only [if_pos h5]
      have ho : Yag.f s1 = some (ownN s1.data.toList) := by
       unfold Yag.f ownN
       rw [Lib.toList_data]
       split <;> rfl
      rw [ho]
      simp only [Option.bind_some]
      by_cases h6 : (numL 65535 (Lib.cut (Yub s0.data.toList) [58]).2.1).1 = ownN s1.data.toList
      ·simp only [if_pos h6]
      ·simp only [if_neg h6]
     ·simp only [if_neg h5]
   ·refine EvR.of fun k => ?_
    simp only [if_neg h3]
 ·refine EvR.of fun k => ?_
  simp only [if_neg h1, Yyi]
end Go.Proofs.YtnmglnglbdpjjaaGreatDoor.X
namespace Go.Proofs.YtnmglnglbdpjjaaGreatDoor.X
open Go.RowKit Go.Lib Go.Shelf Go.Yw.PrintWords Go.Yw.PrintLast Go.Yw.PrintMore
set_option linter.unusedVariables false
set_option linter.unusedSimpArgs false
def Ysf (a0 a1 : ByteArray) (p : Int) : ByteArray := if p = 0 then (a0 ++ (⟨#[58, 47, 47]⟩ : ByteArray)) ++ a1 else ((a0 ++ (⟨#[58, 47, 47]⟩ : ByteArray)) ++ a1) ++ ((⟨#[58]⟩ : ByteArray) ++ strOfNums (Yqf p.toNat))
def Yij (o a4 : ByteArray) (q : Bool) : ByteArray := if q = true then o ++ ((⟨#[63]⟩ : ByteArray) ++ a4) else o
def Yjk (o a5 : ByteArray) (f : Bool) : ByteArray := if f = true then o ++ ((⟨#[35]⟩ : ByteArray) ++ a5) else o
def Yjd (a0 a1 : ByteArray) (p : Int) (a3 a4 a5 : ByteArray) (q f : Bool) : ByteArray := Yjk (Yij (Ysf a0 a1 p ++ a3) a4 q) a5 f
theorem strOfNums_size (xs : List Int) : (strOfNums xs).size = xs.length := by
 rw [Lib.size_eq]; unfold strOfNums; simp
theorem Ycg (v : Nat) : (Yqf v).length ≤ 20 := by
 unfold Yqf
 split
 ·simp
 ·rw [List.length_reverse]; exact Yxs 20 v
theorem Yui : (⟨#[58, 47, 47]⟩ : ByteArray).size = 3 := rfl
theorem Ytm : (⟨#[58]⟩ : ByteArray).size = 1 := rfl
theorem Yvj : (⟨#[63]⟩ : ByteArray).size = 1 := rfl
theorem Yfk : (⟨#[35]⟩ : ByteArray).size = 1 := rfl
theorem Yxl (a0 a1 : ByteArray) (p : Int) : (Ysf a0 a1 p).size ≤ a0.size + a1.size + 24 := by
 have := Ycg p.toNat
 unfold Ysf
 split
 ·simp only [ByteArray.size_append, Yui]; omega
 ·simp only [ByteArray.size_append, Yui, Ytm, strOfNums_size]; omega
theorem origin_f (a0 a1 : ByteArray) (p : Int) (a3 a4 a5 : ByteArray) (q f : Bool) (h0 : a0.size ≤ 1000000000000) (h1 : a1.size ≤ 1000000000000) (hp : 0 ≤ p) (hp2 : p < 1000000000000000000) :
  EvR (fun k => Yze.f k a0 a1 p a3 a4 a5 q f) (Ysf a0 a1 p) := by
 unfold Ysf
 unfold Yze.f
 by_cases hz : p = 0
 ·refine EvR.of fun k => ?_
  simp only [if_pos hz]
  rw [if_pos Zl, if_pos (by simp only [ByteArray.size_append, Yui]; omega)]
 ·simp only [if_neg hz]
  have ht := text_f p.toNat Zl
  have htl := Ycg p.toNat
  rw [Int.toNat_of_nonneg hp] at ht
  have c1 : a0.size + 3 ≤ 9223372036854775807 := by omega
  have c2 : (a0 ++ (⟨#[58, 47, 47]⟩ : ByteArray)).size + a1.size ≤ 9223372036854775807 := by simp only [ByteArray.size_append, Yui]; omega
  simp only [if_pos c1, if_pos c2]
  refine EvR.bind ht (EvR.of fun k => ?_)
  rw [if_pos Zzb, if_pos Zlb]
theorem Yor (a0 a1 : ByteArray) (p : Int) (a3 a4 a5 : ByteArray) (q f : Bool) (h0 : a0.size ≤ 1000000000000) (h1 : a1.size ≤ 1000000000000) (h3 : a3.size ≤ 1000000000000) (h4 : a4.size ≤ 1000000000000) (h5 : a5.size ≤ 1000000000000) (hp : 0 ≤ p) (hp2 : p < 1000000000000000000) :
  EvR (fun k => Ygd.f k a0 a1 p a3 a4 a5 q f) (Yjd a0 a1 p a3 a4 a5 q f) := by
 have ho := origin_f a0 a1 p a3 a4 a5 q f h0 h1 hp hp2
 have hs := Yxl a0 a1 p
 unfold Ygd.f
 refine EvR.bind ho (EvR.of fun k => ?_)
 unfold Yjd
 generalize Ysf a0 a1 p = o at hs
 rw [if_pos Zl]
 cases q with
 | true =>
  rw [if_pos rfl, if_pos Zl, if_pos Ztb]
  cases f with
  | true =>
   rw [if_pos rfl, if_pos Zl, if_pos Zrb]; rfl
  | false => rw [if_neg Zv]; rfl
 | false =>
  rw [if_neg Zv]
  cases f with
  | true =>
   rw [if_pos rfl, if_pos Zl, if_pos Zub]; rfl
  | false => rw [if_neg Zv]; rfl
abbrev UrlE := ByteArray × ByteArray × Int × ByteArray × ByteArray × ByteArray × Bool × Bool × Int
def Ydd (r : List UInt8) : ByteArray := ofL (Yre (Ypi r))
def Yac (r : List UInt8) : ByteArray := match Yoe (Yod r) with | some q => ofL (Ydc Ygf q) | none => ⟨#[]⟩
def Ylc (r : List UInt8) : ByteArray := match Ycf (Ycb (Yod r)) with | some q => ofL (Ydc Ytf q) | none => ⟨#[]⟩
def Yvc (r : List UInt8) : Bool := match Yoe (Yod r) with | some _ => true | none => false
def Yqc (r : List UInt8) : Bool := match Ycf (Ycb (Yod r)) with | some _ => true | none => false
def Yzn (sch host : ByteArray) (port : Int) (r : List UInt8) : UrlE :=
 if ((Yjd sch host port (Ydd r) (Yac r) (Ylc r) (Yvc r) (Yqc r)).size : Int) > 2048 then Ytb 5 else (sch, host, port, Ydd r, Yac r, Ylc r, Yvc r, Yqc r, 0)
def Yol (sch : ByteArray) (y : Int × ByteArray × ByteArray × Int) : UrlE :=
 if ¬ y.1 = 0 then Ytb y.1 else Yzn sch y.2.2.1 y.2.2.2 y.2.1.data.toList
def Ymm (x : Int × ByteArray × ByteArray) : UrlE :=
 if ¬ x.1 = 0 then Ytb x.1 else Yol x.2.2 (Ylf x.2.1.data.toList x.2.2.data.toList ⟨#[]⟩ 0)
def Yjl (c : List UInt8) : UrlE := if (c.length : Int) > 2048 then Ytb 5 else Ymm (Yaf c ⟨#[]⟩)
def Yrf (l : List UInt8) : UrlE := Yjl (Yhe l)
theorem Yls (l : List UInt8) : (Ypi l).length ≤ l.length := Yle _ _
theorem Yrl (l : List UInt8) : (Yod l).length ≤ l.length := Yne _ _
theorem query_le (l q : List UInt8) (h : Yoe l = some q) : q.length ≤ l.length := by
 cases l with
 | nil => cases h
 | cons b t =>
  simp only [Yoe] at h
  split at h
  ·cases h; have := Yle (Yza [35]) t; simp only [List.length_cons]; omega
  ·cases h
theorem Ybp (l : List UInt8) : (Ycb l).length ≤ l.length := by
 cases l with
 | nil => simp [Ycb]
 | cons b t =>
  simp only [Ycb]
  split
  ·have := Yne (Yza [35]) t; simp only [List.length_cons]; omega
  ·exact Nat.le_refl _
theorem frag_le (l q : List UInt8) (h : Ycf l = some q) : q.length ≤ l.length := by
 cases l with
 | nil => cases h
 | cons b t =>
  simp only [Ycf] at h
  split at h
  ·cases h; simp
  ·cases h
theorem Yjj (r : List UInt8) : (Ydd r).size ≤ 3 * r.length + 4 ∧ (Yac r).size ≤ 3 * r.length ∧ (Ylc r).size ≤ 3 * r.length := by
 refine ⟨?_, ?_, ?_⟩
 ·unfold Ydd
  rw [Yda]
  have := pathL_le (Ypi r)
  have := Yls r
  omega
 ·unfold Yac
  split
  ·next q h =>
   rw [Yda]
   have := Ywg Ygf q
   have := query_le _ _ h
   have := Yrl r
   omega
  ·show 0 ≤ _; omega
 ·unfold Ylc
  split
  ·next q h =>
   rw [Yda]
   have := Ywg Ytf q
   have := frag_le _ _ h
   have := Ybp (Yod r)
   have := Yrl r
   omega
  ·show 0 ≤ _; omega
theorem Yem (l sch : List UInt8) : (Ylf l sch ⟨#[]⟩ 0).2.1.size ≤ l.length ∧ (Ylf l sch ⟨#[]⟩ 0).2.2.1.size ≤ l.length ∧ 0 ≤ (Ylf l sch ⟨#[]⟩ 0).2.2.2 ∧ (Ylf l sch ⟨#[]⟩ 0).2.2.2 ≤ 65535 := by
 have htl : (Lib.trimLeftS l [47, 92]).length ≤ l.length := (List.dropWhile_sublist _).length_le
 have hr : (Yuf l).length ≤ l.length := Nat.le_trans (Yne _ _) htl
 have hh : (Yub l).length ≤ l.length := Nat.le_trans (Yle _ _) htl
 have hc := Ykl (Yub l) [58]
 have hhost : ∀ m : List UInt8, (Yff m).1.length ≤ m.length := by
  intro m
  have := Ykk _ m (Nat.le_refl _)
  unfold Yff
  split
  ·simp
  ·split
   ·rw [Yeh]; exact this
   ·simp
 have hh2 := hhost (Lib.cut (Yub l) [58]).1
 have hn := Yfn 65535 Zl (Lib.cut (Yub l) [58]).2.1
 have hz : (⟨#[]⟩ : ByteArray).size = 0 := rfl
 unfold Ylf
 repeat' split
 all_goals simp only [Yda, hz]
 all_goals refine ⟨?_, ?_, ?_, ?_⟩
 all_goals omega
theorem Ygl (l : List UInt8) : (Yhe l).length ≤ l.length := by
 unfold Yhe
 have h1 := Yup l
 have h2 := List.length_filter_le (· != 9) (Ymh l)
 have h3 := List.length_filter_le (· != 10) ((Ymh l).filter (· != 9))
 have h4 := List.length_filter_le (· != 13) (((Ymh l).filter (· != 9)).filter (· != 10))
 omega
theorem Yin (s : ByteArray) (hs : s.size ≤ 1000000000) : EvR (fun k => Ypd.f k s) (Yrf s.data.toList) := by
 have hc : Ysd.f s = some (ofL (Yhe s.data.toList)) := by unfold Ysd.f; rw [if_pos Zl]
 unfold Yrf
 generalize hcl : Yhe s.data.toList = c at hc
 unfold Ypd.f
 rw [hc]
 simp only [Option.bind_some, Yda]
 unfold Yjl
 by_cases h1 : (c.length : Int) > 2048
 ·refine EvR.of fun k => ?_
  rw [if_pos h1, if_pos h1]
 ·simp only [if_neg h1]
  have hsc := scheme_f (ofL c) ⟨#[]⟩ ⟨#[]⟩ 0 ⟨#[]⟩ ⟨#[]⟩ ⟨#[]⟩ false false Zga
  rw [Yob] at hsc
  have hxs : (Yaf c ⟨#[]⟩).2.1.size ≤ 2048 ∧ (Yaf c ⟨#[]⟩).2.2.size ≤ 2048 := by
   have := Ykl c [58]
   unfold Yaf
   split
   ·simp only [Yda, Yeh]; omega
   ·have hz : (⟨#[]⟩ : ByteArray).size = 0 := rfl
    simp only [Yda, hz]; omega
  generalize Yaf c ⟨#[]⟩ = x at hsc hxs
  refine EvR.bind hsc ?_
  unfold Ymm
  by_cases h2 : ¬ x.1 = 0
  ·refine EvR.of fun k => ?_
   rw [if_pos h2, if_pos h2]
  ·simp only [if_neg h2]
   have hpl := place_f x.2.1 x.2.2 ⟨#[]⟩ 0 ⟨#[]⟩ ⟨#[]⟩ ⟨#[]⟩ false false Zl
   have hps := Yem x.2.1.data.toList x.2.2.data.toList
   rw [← Lib.size_eq] at hps
   generalize Ylf x.2.1.data.toList x.2.2.data.toList ⟨#[]⟩ 0 = y at hpl hps
   refine EvR.bind hpl ?_
   unfold Yol
   by_cases h3 : ¬ y.1 = 0
   ·refine EvR.of fun k => ?_
    rw [if_pos h3, if_pos h3]
   ·simp only [if_neg h3]
    have ht : Yqd.f y.2.1 x.2.2 y.2.2.1 y.2.2.2 ⟨#[]⟩ ⟨#[]⟩ ⟨#[]⟩ false false = some (ofL (Ymi (Ycb (Yod y.2.1.data.toList))), x.2.2, y.2.2.1, y.2.2.2, Ydd y.2.1.data.toList, Yac y.2.1.data.toList, Ylc y.2.1.data.toList, Yvc y.2.1.data.toList, Yqc y.2.1.data.toList) := by
     unfold Yqd.f
     rw [if_pos Zl]; rfl
    rw [ht]
    simp only [Option.bind_some]
    have hts := Yjj y.2.1.data.toList
    rw [← Lib.size_eq] at hts
    have hst := Yor x.2.2 y.2.2.1 y.2.2.2 (Ydd y.2.1.data.toList) (Yac y.2.1.data.toList) (Ylc y.2.1.data.toList) (Yvc y.2.1.data.toList) (Yqc y.2.1.data.toList) Zl Zl Zl Zl Zl Zl Zl
    refine EvR.bind hst (EvR.of fun k => ?_)
    unfold Yzn
    split <;> rfl
end Go.Proofs.YtnmglnglbdpjjaaGreatDoor.X
