import Derived.Test.YtihaeeldgimdiaaGreatDoorIUH4
set_option linter.all false
namespace Go.Proofs.YtihaeeldgimdiaaGreatDoor.X
open Go.RowKit Go.Lib Go.Shelf Go.Yw.PrintWords Go.Yw.PrintLast Go.Yw.PrintMore
def EvR {α : Type} (f : Nat → Option α) (r : α) : Prop := ∃ k0, ∀ k, k0 ≤ k → f k = some r
theorem EvR.of {α : Type} {f : Nat → Option α} {r : α} (h : ∀ k, f k = some r) : EvR f r := ⟨0, fun k _ => h k⟩
theorem EvR.succ {α : Type} {f : Nat → Option α} {r : α} (h : EvR (fun k => f (k + 1)) r) : EvR f r := by
 obtain ⟨k0, h⟩ := h
 refine ⟨k0 + 1, fun k hk => ?_⟩
 cases k with
 | zero => omega
 | succ k => exact h k Zj
theorem EvR.congr {α : Type} {f g : Nat → Option α} {r : α} (h : EvR f r) (e : ∀ k, g k = f k) : EvR g r := by
 obtain ⟨k0, h⟩ := h
 exact ⟨k0, fun k hk => (e k).trans (h k hk)⟩
theorem EvR.bind {α β : Type} {f : Nat → Option α} {g : Nat → α → Option β} {x : α} {y : β} (hf : EvR f x) (hg : EvR (fun k => g k x) y) : EvR (fun k => (f k).bind (g k)) y := by
 obtain ⟨k1, h1⟩ := hf
 obtain ⟨k2, h2⟩ := hg
 exact ⟨max k1 k2, fun k hk => by show (f k).bind (g k) = some y; rw [h1 k Zj]; exact h2 k Zj⟩
theorem EvR.mono {α : Type} {f : Nat → Option α} {r : α} (hm : ∀ k, LeO (f k) (f (k + 1))) {k0 : Nat} (h : f k0 = some r) : EvR f r := by
 refine ⟨k0, fun k hk => ?_⟩
 induction hk with
 | refl => exact h
 | step _ ih => exact hm _ _ ih
theorem Yyc (s : Y) (i : Nat) (b : UInt8) (t : List UInt8) (h : s.data.toList.drop i = b :: t) : i < s.size ∧ bt s (i : Int) = (b.toNat : Int) ∧ s.data.toList.drop (i + 1) = t := by
 have hi : i < s.size := by
  have := congrArg List.length h
  rw [List.length_drop, ← Lib.size_eq] at this
  simp only [List.length_cons] at this; omega
 refine ⟨hi, ?_, ?_⟩
 ·have h1 : s.data.toList[i]? = some b := by have h9 := List.getElem?_drop (xs := s.data.toList) (i := i) (j := 0); rw [h, Nat.add_zero] at h9; rw [← h9]; rfl
  have h2 : i < s.data.toList.length := by rw [← Lib.size_eq]; exact hi
  have h3 : s.data.toList[i] = b := by rw [List.getElem?_eq_getElem h2] at h1; exact Kr h1
  rw [← Ypa s (i : Int) (by rw [Int.toNat_natCast]; exact hi)]
  simp only [Int.toNat_natCast]
  rw [← h3]; rfl
 ·have h9 := List.drop_drop (i := 1) (j := i) (l := s.data.toList); rw [h] at h9; rw [← h9]; rfl
theorem bt_end (s : Y) (i : Nat) (h : s.data.toList.drop i = []) (hi : i ≤ s.size) : i = s.size := by
 have := congrArg List.length h
 rw [List.length_drop, ← Lib.size_eq] at this
 simp only [List.length_nil] at this; omega
theorem Yod (i n : Nat) (h : i ≤ n) (hn : n ≤ 100000000) : wrap64 ((i : Int) + 1) = ((i + 1 : Nat) : Int) := by unfold wrap64; omega
def Yqd (most : Int) : Bool → Int → List UInt8 → Int × Int
 | many, n, [] => if many = true then (0, 5) else (n, 0)
 | many, n, b :: t => if Ygd b = true then (if many = true ∨ most < n * 10 + ((b.toNat : Int) - 48) then Yqd most true n t else Yqd most false (n * 10 + ((b.toNat : Int) - 48)) t) else (0, 3)
def numL (most : Int) (l : List UInt8) : Int × Int := if l = [] then (0, 3) else Yqd most false 0 l
theorem number_l0 (s : Y) (most : Int) (h0 : 0 ≤ most) (h1 : most ≤ 1000000000) (hs : s.size ≤ 100000000) : ∀ (L : List UInt8) (i : Nat) (n : Int) (many : Bool), s.data.toList.drop i = L → i ≤ s.size → 0 ≤ n → n ≤ most →
  EvR (fun k => Yaa.l0 k s most n many (s.size : Int) (i : Int)) (Yqd most many n L) := by
 intro L
 induction L with
 | nil =>
  intro i n many hL hi uC pE
  have he := bt_end s i hL hi
  refine EvR.succ (EvR.of fun k => ?_)
  rw [Yaa.l0, if_neg Zj]
  unfold Yqd
  cases many <;> rfl
 | cons b t ih =>
  intro i n many hL hi uC pE
  obtain ⟨mX, hb, ht⟩ := Yyc s i b t hL
  have hw := Yod i s.size hi hs
  refine EvR.succ ?_
  by_cases hd : Ygd b = true
  ·have hr : 48 ≤ b.toNat ∧ b.toNat ≤ 57 := by unfold Ygd at hd; simpa using hd
   have e1 : ((b.toNat : Int) - 48) % 256 = (b.toNat : Int) - 48 := by omega
   by_cases hm : many = true
   ·subst hm
    refine (ih (i + 1) n true ht Zj uC pE).congr (fun k => ?_) |> fun h => by unfold Yqd; rw [if_pos hd, if_pos (Or.inl rfl)]; exact h
    rw [Yaa.l0, if_pos Zj, if_pos Zj, if_pos Zj, hb, Ybk]
    simp only [Kba]
    rw [if_pos hd, if_pos trivial, hw]
   ·have pK : many = false := by cases many <;> simp_all
    subst pK
    have e2 : wrap64 (most - ((b.toNat : Int) - 48)) = most - ((b.toNat : Int) - 48) := by unfold wrap64; omega
    by_cases hbig : most < n * 10 + ((b.toNat : Int) - 48)
    ·refine (ih (i + 1) n true ht Zj uC pE).congr (fun k => ?_) |> fun h => by unfold Yqd; rw [if_pos hd, if_pos (Or.inr hbig)]; exact h
     rw [Yaa.l0, if_pos Zj, if_pos Zj, if_pos Zj, hb, Ybk]
     simp only [Kba]
     rw [if_pos hd, if_neg Zq, e1, e2, hw]
     split
     ·rfl
     ·next h1 =>
      rw [if_pos]
      by_cases h2 : most < (b.toNat : Int) - 48
      ·exact h2
      ·exfalso
       apply h1
       rw [Int.tdiv_eq_ediv_of_nonneg Zj]
       unfold wrap64; omega
    ·refine (ih (i + 1) (n * 10 + ((b.toNat : Int) - 48)) false ht Zj Zj Zj).congr (fun k => ?_) |> fun h => by unfold Yqd; rw [if_pos hd, if_neg (by simp [hbig])]; exact h
     rw [Yaa.l0, if_pos Zj, if_pos Zj, if_pos Zj, hb, Ybk]
     simp only [Kba]
     rw [if_pos hd, if_neg Zq, e1, e2, hw, if_neg, if_neg Zj]
     ·have e5 : wrap64 (n * 10) = n * 10 := by unfold wrap64; omega
      rw [e5]
      have e6 : wrap64 (n * 10 + ((b.toNat : Int) - 48)) = n * 10 + ((b.toNat : Int) - 48) := by unfold wrap64; omega
      rw [e6]
     ·rw [Int.tdiv_eq_ediv_of_nonneg Zj]
      unfold wrap64; omega
  ·refine EvR.of fun k => ?_
   rw [Yaa.l0, if_pos Zj, if_pos Zj, if_pos Zj, hb, Ybk]
   simp only [Kba]
   rw [if_neg hd]
   unfold Yqd
   rw [if_neg hd]
theorem Ymn (s : Y) (most : Int) (h0 : 0 ≤ most) (h1 : most ≤ 1000000000) (hs : s.size ≤ 100000000) : EvR (fun k => Yaa.f k s most) (numL most s.data.toList) := by
 by_cases he : s.data.toList = []
 ·refine EvR.of fun k => ?_
  unfold Yaa.f numL
  rw [Lib.toList_data, if_pos he, if_pos he]
 ·refine EvR.congr (f := fun k => Yaa.l0 k s most 0 false (s.size : Int) ((0 : Nat) : Int)) ?_ (fun k => ?_)
  ·unfold numL
   rw [if_neg he]
   exact number_l0 s most h0 h1 hs _ 0 0 false rfl Zj Zj h0
  ·unfold Yaa.f
   rw [Lib.toList_data, if_neg he, decide_eq_false Zj]; rfl
theorem Yhs (most : Int) (h0 : 0 ≤ most) : ∀ (l : List UInt8) (many : Bool) (n : Int), 0 ≤ n → n ≤ most → 0 ≤ (Yqd most many n l).1 ∧ (Yqd most many n l).1 ≤ most := by
 intro l
 induction l with
 | nil => intro many n uC pE; unfold Yqd; split <;> (constructor <;> simp <;> omega)
 | cons b t ih =>
  intro many n uC pE
  unfold Yqd
  split
  ·next hd =>
   have hr : 48 ≤ b.toNat ∧ b.toNat ≤ 57 := by unfold Ygd at hd; simpa using hd
   split
   ·exact ih true n uC pE
   ·next h => exact ih false _ Zj Zj
  ·constructor <;> simp <;> omega
theorem Yym (most : Int) (h0 : 0 ≤ most) (l : List UInt8) : 0 ≤ (numL most l).1 ∧ (numL most l).1 ≤ most := by
 unfold numL
 split
 ·constructor <;> simp <;> omega
 ·exact Yhs most h0 l false 0 Zj h0
def Ynm (b : UInt8) : Bool := Yzc b || (Ygd b || (b == 45 || b == 95))
def Ysm (l : List UInt8) : Bool := l.all Ynm && (!l.isEmpty && decide (l.length ≤ 63))
theorem byte_eq (b : UInt8) (n : Nat) (h : n < 256) : ((b.toNat : Int) = (n : Int)) ↔ b = UInt8.ofNat n := by
 constructor
 ·intro e
  apply UInt8.toNat_inj.1
  rw [UInt8.toNat_ofNat', Nat.mod_eq_of_lt h]; omega
 ·rintro rfl
  rw [UInt8.toNat_ofNat', Nat.mod_eq_of_lt h]
theorem isPart_l0 (s : Y) (hs : s.size ≤ 100000000) : ∀ (L : List UInt8) (i : Nat), s.data.toList.drop i = L → i ≤ s.size →
  EvR (fun k => Ygb.l0 k s (s.size : Int) (i : Int)) (L.all Ynm && (!s.data.toList.isEmpty && decide (s.data.toList.length ≤ 63))) := by
 intro L
 induction L with
 | nil =>
  intro i hL hi
  have he := bt_end s i hL hi
  refine EvR.succ (EvR.of fun k => ?_)
  rw [Ygb.l0, if_neg Zj, Lib.toList_data]
  by_cases h : s.data.toList = []
  ·rw [if_pos h, h]; rfl
  ·rw [if_neg h]
   have h2 : s.data.toList.isEmpty = false := by cases hq : s.data.toList <;> simp_all
   have h3 : (decide ((s.size : Int) ≤ 63)) = decide (s.data.toList.length ≤ 63) := by rw [← Lib.size_eq]; exact decide_eq_decide.2 Zj
   rw [h2, h3]; simp
 | cons b t ih =>
  intro i hL hi
  obtain ⟨mX, hb, ht⟩ := Yyc s i b t hL
  have hw := Yod i s.size hi hs
  refine EvR.succ ?_
  have hstep : ∀ k, Ygb.l0 (k + 1) s (s.size : Int) (i : Int) = if Ynm b = true then Ygb.l0 k s (s.size : Int) ((i + 1 : Nat) : Int) else some false := by
   intro k
   rw [Ygb.l0, if_pos Zj, if_pos Zj, if_pos Zj, hb, Yfo]
   simp only [Kba]
   rw [Ybk, hw]
   simp only [Kba]
   have h45 : ((b.toNat : Int) = 45) ↔ b = 45 := byte_eq b 45 Zj
   have h95 : ((b.toNat : Int) = 95) ↔ b = 95 := byte_eq b 95 Zj
   unfold Ynm
   cases h1 : Yzc b
   ·cases h2 : Ygd b
    ·by_cases h3 : b = 45
     ·rw [if_neg Zq, if_neg Zq, if_pos (h45.2 h3)]; simp [h3]
     ·by_cases h4 : b = 95
      ·rw [if_neg Zq, if_neg Zq, if_neg (fun e => h3 (h45.1 e)), if_pos (h95.2 h4)]; simp [h4]
      ·rw [if_neg Zq, if_neg Zq, if_neg (fun e => h3 (h45.1 e)), if_neg (fun e => h4 (h95.1 e))]; simp [h3, h4]
    ·simp
   ·simp
  by_cases hn : Ynm b = true
  ·refine EvR.congr (f := fun k => Ygb.l0 k s (s.size : Int) ((i + 1 : Nat) : Int)) ?_ (fun k => by rw [hstep, if_pos hn])
   have := ih (i + 1) ht Zj
   rw [List.all_cons, hn, Bool.true_and]; exact this
  ·refine EvR.of fun k => ?_
   rw [hstep, if_neg hn, List.all_cons]
   simp [hn]
theorem isPart_f (s : Y) (hs : s.size ≤ 100000000) : EvR (fun k => Ygb.f k s) (Ysm s.data.toList) := by
 have := isPart_l0 s hs _ 0 rfl Zj
 exact this
theorem set_mid (a r : List Int) (x y : Int) : (a ++ x :: r).set a.length y = a ++ y :: r := by
 rw [List.set_append_right _ _ (Nat.le_refl _), Nat.sub_self]; rfl
theorem rd_mid (a r : List Int) (x : Int) : rd (a ++ x :: r) (a.length : Int) = x := by
 unfold rd
 rw [Int.toNat_natCast, List.getD_eq_getElem?_getD, List.getElem?_append_right (Nat.le_refl _), Nat.sub_self]; rfl
theorem Yzs : ∀ (m : Nat) (a mid c : List Int), mid.length < 2 * m + 2 → a.length + mid.length + c.length ≤ 1000000 →
  Yn.l0 (m + 1) (a ++ (mid ++ c)) (a.length : Int) ((a.length : Int) + mid.length - 1) = some (a ++ (mid.reverse ++ c)) := by
 intro m
 induction m with
 | zero =>
  intro a mid c hm hl
  rw [Yn.l0, if_neg Zj]
  match mid, hm with
  | [], _ => rfl
  | [x], _ => rfl
 | succ m ih =>
  intro a mid c hm hl
  rcases Nat.lt_or_ge mid.length 2 with h2 | h2
  ·rw [Yn.l0, if_neg Zj]
   match mid, h2 with
   | [], _ => rfl
   | [x], _ => rfl
  ·obtain ⟨x, m1, rfl⟩ : ∃ x m1, mid = x :: m1 := by cases mid with
    | nil => simp at h2
    | cons x m1 => exact ⟨x, m1, rfl⟩
   obtain ⟨m2, y, rfl⟩ : ∃ m2 y, m1 = m2 ++ [y] := by
    refine ⟨m1.dropLast, m1.getLast (by intro e; subst e; simp at h2), (List.dropLast_concat_getLast _).symm⟩
   simp only [List.length_cons, List.length_append, List.length_nil] at hm hl h2
   have hj : ((a.length : Int) + ((x :: (m2 ++ [y])).length : Nat) - 1) = (((a ++ x :: m2).length : Nat) : Int) := by simp; omega
   have hs : a ++ (x :: (m2 ++ [y]) ++ c) = (a ++ x :: m2) ++ y :: c := by simp
   have uD : a ++ (x :: (m2 ++ [y]) ++ c) = a ++ x :: (m2 ++ y :: c) := by simp
   rw [Yn.l0, hj]
   have hlen : (a ++ (x :: (m2 ++ [y]) ++ c)).length = a.length + m2.length + c.length + 2 := by simp; omega
   have hla : (a ++ x :: m2).length = a.length + m2.length + 1 := by simp; omega
   rw [if_pos Zj, if_pos Zj, if_pos (by rw [hlen]; omega), if_pos Zj, if_pos (by rw [hlen]; omega)]
   have r1 : rd (a ++ (x :: (m2 ++ [y]) ++ c)) (((a ++ x :: m2).length : Nat) : Int) = y := by rw [hs, rd_mid]
   have r2 : rd (a ++ (x :: (m2 ++ [y]) ++ c)) (a.length : Int) = x := by rw [uD, rd_mid]
   rw [r1, r2, Int.toNat_natCast, Int.toNat_natCast, uD, set_mid]
   have hs3 : a ++ y :: (m2 ++ y :: c) = (a ++ y :: m2) ++ y :: c := by simp
   have aXv : (a ++ x :: m2).length = (a ++ y :: m2).length := by simp
   rw [hs3, aXv, set_mid]
   have w1 : wrap64 ((a.length : Int) + 1) = (((a ++ [y]).length : Nat) : Int) := by simp; unfold wrap64; omega
   have w2 : wrap64 ((((a ++ y :: m2).length : Nat) : Int) - 1) = (((a ++ [y]).length : Nat) : Int) + (m2.length : Nat) - 1 := by simp; unfold wrap64; omega
   have hs4 : (a ++ y :: m2) ++ x :: c = (a ++ [y]) ++ (m2 ++ (x :: c)) := by simp
   rw [w1, w2, hs4, ih (a ++ [y]) m2 (x :: c) Zj Zfb]
   simp
theorem reverse_f (xs : List Int) (h : xs.length ≤ 1000000) : EvR (fun k => Yn.f k xs) xs.reverse := by
 refine EvR.mono (Yn.mono xs) (k0 := xs.length + 1) ?_
 unfold Yn.f
 have hw : wrap64 ((xs.length : Int) - 1) = (([] : List Int).length : Int) + (xs.length : Nat) - 1 := by simp; unfold wrap64; omega
 have := Yzs xs.length [] xs [] Zj (by simp; exact h)
 simp only [List.nil_append, List.append_nil] at this
 rw [hw]; exact this
def digs : Nat → Nat → List Int
 | 0, _ => []
 | f + 1, v => if v = 0 then [] else (48 + ((v % 10 : Nat) : Int)) :: digs f (v / 10)
def Yvf (v : Nat) : List Int := if v = 0 then [48] else (digs 20 v).reverse
theorem Ymh (n : Int) (h0 : 0 ≤ n) (h1 : n < 18446744073709551616) : IntKind.u64.wrap n = n := by
 unfold IntKind.wrap
 simp [IntKind.bits, IntKind.signed]
 omega
theorem Yjr : ∀ (f v : Nat), (digs f v).length ≤ f := by
 intro f
 induction f with
 | zero => intro v; simp [digs]
 | succ f ih => intro v; unfold digs; split; simp; have := ih (v / 10); simp; omega
theorem pad_l0 (x0 : Int) (hx : 0 ≤ x0) : ∀ (f v : Nat) (acc : List Int), v < 10 ^ f → v < 18446744073709551616 → acc.length + f ≤ 1000 → (acc ≠ [] ∨ v ≠ 0) →
  EvR (fun k => Ypb.l0 k x0 1 (v : Int) acc) (strOfNums (acc ++ digs f v).reverse) := by
 have hz : ∀ acc : List Int, acc.length ≤ 1000 → acc ≠ [] → EvR (fun k => Ypb.l0 k x0 1 (((0 : Nat) : Int)) acc) (strOfNums acc.reverse) := by
  intro acc hl hne
  have h1 : 0 < acc.length := List.length_pos_iff.2 hne
  have hm : mx (mn 1 20) 1 = 1 := rfl
  refine EvR.succ ?_
  refine EvR.congr (f := fun k => (Yn.f k acc).bind fun t => some (strOfNums t)) ?_ (fun k => ?_)
  ·exact EvR.bind (g := fun _ t => some (strOfNums t)) (reverse_f acc Zj) (EvR.of fun _ => rfl)
  ·rw [Ypb.l0, if_neg Zj, hm, if_neg Zj, if_neg Zj]
 intro f
 induction f with
 | zero =>
  intro v acc hv hv2 hl hn
  have : v = 0 := by simpa using hv
  subst this
  rw [show digs 0 0 = [] from rfl, List.append_nil]
  exact hz acc Zj (by rcases hn with h | h; exact h; exact absurd rfl h)
 | succ f ih =>
  intro v acc hv hv2 hl hn
  by_cases h0 : v = 0
  ·subst h0
   rw [show digs (f + 1) 0 = [] from rfl, List.append_nil]
   exact hz acc Zj (by rcases hn with h | h; exact h; exact absurd rfl h)
  ·refine EvR.succ ?_
   have hd : digs (f + 1) v = (48 + ((v % 10 : Nat) : Int)) :: digs f (v / 10) := by rw [digs, if_neg h0]
   rw [hd, show acc ++ (48 + ((v % 10 : Nat) : Int)) :: digs f (v / 10) = (acc ++ [48 + ((v % 10 : Nat) : Int)]) ++ digs f (v / 10) by simp]
   refine (ih (v / 10) (acc ++ [48 + ((v % 10 : Nat) : Int)]) (by rw [Nat.pow_succ] at hv; omega) Zj Zfb (.inl Zq)).congr (fun k => ?_)
   rw [Ypb.l0, if_pos Zj, if_pos Zj, Int.tdiv_eq_ediv_of_nonneg Zj, Int.tmod_eq_emod_of_nonneg Zj, Ymh _ Zj Zj, Ymh _ Zj Zj]
   have e1 : (v : Int) / 10 = ((v / 10 : Nat) : Int) := by omega
   have e2 : (48 + (v : Int) % 10) % 256 = 48 + ((v % 10 : Nat) : Int) := by omega
   rw [e1, e2]
theorem text_f (v : Nat) (hv : v < 10 ^ 18) : EvR (fun k => Ysd.f k (v : Int)) (strOfNums (Yvf v)) := by
 have h2 : v < 18446744073709551616 := by omega
 have hl : EvR (fun k => Ypb.l0 k (v : Int) 1 (v : Int) []) (strOfNums (Yvf v)) := by
  unfold Yvf
  by_cases h0 : v = 0
  ·subst h0
   rw [if_pos rfl]
   refine EvR.succ ?_
   refine (pad_l0 0 Zj 0 0 [48] Zj Zj Zq (.inl Zq)).congr (fun k => ?_)
   rfl
  ·rw [if_neg h0]
   exact pad_l0 (v : Int) Zj 20 v [] Zj h2 Zq (.inr h0)
 refine EvR.congr (f := fun k => (Ypb.f k (v : Int) 1).bind fun t => some t) ?_ (fun k => rfl)
 refine EvR.bind (g := fun _ t => some t) (x := strOfNums (Yvf v)) ?_ (EvR.of fun _ => rfl)
 refine EvR.congr (f := fun k => Ypb.j0 k (v : Int) 1 (v : Int)) ?_ (fun k => by unfold Ypb.f; rw [if_neg Zj, Ymh _ Zj Zj])
 refine EvR.succ (hl.congr fun k => ?_)
 rw [Ypb.j0]
def Yoj (l : List UInt8) : Bool := (numL 255 l).2 == 0 && (strOfNums (Yvf (numL 255 l).1.toNat)).data.toList == l
theorem isByte_f (s : Y) (hs : s.size ≤ 100000000) : EvR (fun k => Yhe.f k s) (Yoj s.data.toList) := by
 have hn := Ymn s 255 Zj Zj hs
 have hb := Yym 255 Zj s.data.toList
 unfold Yoj
 unfold Yhe.f
 refine EvR.bind (g := fun k x => if x.2 = 0 then (Ysd.f k x.1).bind fun t => some (t.toList == s.toList) else some false) hn ?_
 by_cases he : (numL 255 s.data.toList).2 = 0
 ·refine EvR.congr (f := fun k => (Ysd.f k (((numL 255 s.data.toList).1.toNat : Nat) : Int)).bind fun t => some (t.toList == s.toList)) ?_ (fun k => by rw [if_pos he, Int.toNat_of_nonneg hb.1])
  refine EvR.bind (g := fun _ t => some (t.toList == s.toList)) (text_f (numL 255 s.data.toList).1.toNat Zj) (EvR.of fun _ => ?_)
  rw [he, Lib.toList_data, Lib.toList_data]; rfl
 ·refine EvR.of fun k => ?_
  rw [if_neg he]
  have : ((numL 255 s.data.toList).2 == 0) = false := beq_eq_false_iff_ne.2 he
  rw [this]; rfl
def Ylj (l : List UInt8) : Bool := (splitB 46 l).all Ysm && (decide (l.length ≤ 253) && ((numL 0 ((splitB 46 l).getD ((splitB 46 l).length - 1) [])).2 == 3 || ((splitB 46 l).length == 4 && (splitB 46 l).all Yoj)))
theorem Ykg (xs : List (List UInt8)) (i : Nat) (h : i < xs.length) : rdOf ByteArray.empty (xs.map ofL) (i : Int) = ofL (xs.getD i []) := by
 unfold rdOf
 rw [Int.toNat_natCast, List.getD_eq_getElem?_getD, List.getD_eq_getElem?_getD, List.getElem?_map, List.getElem?_eq_getElem h]; rfl
theorem isName_l0 (s : Y) (xs : List (List UInt8)) (hne : 0 < xs.length) (hl : xs.length ≤ 100000000) (hx : ∀ x ∈ xs, x.length ≤ 100000000) : ∀ (L : List (List UInt8)) (i : Nat) (four : Bool), xs.drop i = L → i ≤ xs.length →
  EvR (fun k => Ydb.l0 k s (xs.map ofL) four (xs.map ofL) (xs.length : Int) (i : Int)) (L.all Ysm && (decide (s.size ≤ 253) && ((numL 0 (xs.getD (xs.length - 1) [])).2 == 3 || (four && L.all Yoj)))) := by
 intro L
 induction L with
 | nil =>
  intro i four hL hi
  have he : i = xs.length := by
   have := congrArg List.length hL
   rw [List.length_drop] at this
   simp only [List.length_nil] at this; omega
  refine EvR.succ ?_
  have hw : wrap64 ((((xs.map ofL).length : Nat) : Int) - 1) = ((xs.length - 1 : Nat) : Int) := by rw [List.length_map]; unfold wrap64; omega
  have hlast : (xs.getD (xs.length - 1) []).length ≤ 100000000 := by
   have h1 : xs.length - 1 < xs.length := by omega
   rw [List.getD_eq_getElem?_getD, List.getElem?_eq_getElem h1]
   exact hx _ (List.getElem_mem h1)
  have hn := Ymn (ofL (xs.getD (xs.length - 1) [])) 0 Zj Zj (by rw [Yfa]; exact hlast)
  rw [Ytb] at hn
  refine EvR.congr (f := fun k => (Yaa.f k (ofL (xs.getD (xs.length - 1) [])) 0).bind fun bt => if (s.size : Int) ≤ 253 then (if bt.2 = 3 then some true else some four) else some false) ?_ (fun k => ?_)
  ·refine EvR.bind (g := fun _ bt => if (s.size : Int) ≤ 253 then (if bt.2 = 3 then some true else some four) else some false) hn (EvR.of fun _ => ?_)
   by_cases h1 : s.size ≤ 253
   ·rw [if_pos Zj, decide_eq_true h1]
    by_cases h2 : (numL 0 (xs.getD (xs.length - 1) [])).2 = 3
    ·rw [if_pos h2, h2]; simp
    ·rw [if_neg h2, beq_eq_false_iff_ne.2 h2]; simp
   ·rw [if_neg Zj, decide_eq_false h1]; simp
  ·rw [Ydb.l0, if_neg Zj, hw, if_pos Zj, if_pos Zmb, Ykg xs _ Zj]
 | cons p t ih =>
  intro i four hL hi
  have mX : i < xs.length := by
   have := congrArg List.length hL
   rw [List.length_drop] at this
   simp only [List.length_cons] at this; omega
  have ht : xs.drop (i + 1) = t := by have h9 := List.drop_drop (i := 1) (j := i) (l := xs); rw [hL] at h9; rw [← h9]; rfl
  have hp : xs.getD i [] = p := by
   have h9 := List.getElem?_drop (xs := xs) (i := i) (j := 0)
   rw [hL, Nat.add_zero] at h9
   rw [List.getD_eq_getElem?_getD, ← h9]; rfl
  have hpl : p.length ≤ 100000000 := hx p (by rw [← hp, List.getD_eq_getElem?_getD, List.getElem?_eq_getElem mX]; exact List.getElem_mem mX)
  have hw := Yod i xs.length hi Zj
  refine EvR.succ ?_
  have h1 := isPart_f (ofL p) (by rw [Yfa]; exact hpl)
  have h2 := isByte_f (ofL p) (by rw [Yfa]; exact hpl)
  rw [Ytb] at h1 h2
  refine EvR.congr (f := fun k => (Ygb.f k (ofL p)).bind fun c => if c = true then (if four = true then ((Yhe.f k (ofL p)).bind fun d => Ydb.l0 k s (xs.map ofL) d (xs.map ofL) (xs.length : Int) ((i + 1 : Nat) : Int)) else Ydb.l0 k s (xs.map ofL) false (xs.map ofL) (xs.length : Int) ((i + 1 : Nat) : Int)) else some false) ?_ (fun k => ?_)
  ·refine EvR.bind (g := fun k c => if c = true then (if four = true then ((Yhe.f k (ofL p)).bind fun d => Ydb.l0 k s (xs.map ofL) d (xs.map ofL) (xs.length : Int) ((i + 1 : Nat) : Int)) else Ydb.l0 k s (xs.map ofL) false (xs.map ofL) (xs.length : Int) ((i + 1 : Nat) : Int)) else some false) h1 ?_
   by_cases hn : Ysm p = true
   ·rw [List.all_cons, List.all_cons, hn, Bool.true_and]
    cases four with
    | true =>
     refine EvR.congr (f := fun k => (Yhe.f k (ofL p)).bind fun d => Ydb.l0 k s (xs.map ofL) d (xs.map ofL) (xs.length : Int) ((i + 1 : Nat) : Int)) ?_ (fun k => by rw [if_pos rfl, if_pos rfl])
     refine EvR.bind (g := fun k d => Ydb.l0 k s (xs.map ofL) d (xs.map ofL) (xs.length : Int) ((i + 1 : Nat) : Int)) h2 ?_
     have := ih (i + 1) (Yoj p) ht Zj
     simpa using this
    | false =>
     refine EvR.congr (f := fun k => Ydb.l0 k s (xs.map ofL) false (xs.map ofL) (xs.length : Int) ((i + 1 : Nat) : Int)) ?_ (fun k => by rw [if_pos rfl, if_neg Zq])
     have := ih (i + 1) false ht Zj
     simpa using this
   ·refine EvR.of fun k => ?_
    rw [if_neg hn, List.all_cons]
    have : Ysm p = false := by cases h : Ysm p <;> simp_all
    rw [this]; rfl
  ·rw [Ydb.l0, if_pos Zj, if_pos Zj, if_pos Zmb, Ykg xs i mX, hp, hw]
theorem isName_f (s : Y) (hs : s.size ≤ 90000000) : EvR (fun k => Ydb.f k s) (Ylj s.data.toList) := by
 have hlen := Yik 46 s.data.toList
 rw [← Lib.size_eq] at hlen
 have hpos : 0 < (splitB 46 s.data.toList).length := List.length_pos_iff.2 (Yfg _ _)
 have hxs : ∀ x ∈ splitB 46 s.data.toList, x.length ≤ 100000000 := by
  intro x hx
  have h1 := Ywn 46 s.data.toList
  have h2 : ∀ (l : List (List UInt8)), x ∈ l → x.length + 1 ≤ tot l := by
   intro l
   induction l with
   | nil => intro h; cases h
   | cons y l ih =>
    intro h
    simp only [tot, List.map_cons, List.sum_cons] at ih ⊢
    rcases List.mem_cons.1 h with rfl | h
    ·omega
    ·have := ih h; omega
  have := h2 _ hx
  rw [← Lib.size_eq] at h1; omega
 have hsp : EvR (fun k => Yab.f k s 46) ((splitB 46 s.data.toList).map ofL) :=
  EvR.mono (Yab.mono s 46) (split_f s 46 Zj)
 unfold Ydb.f
 refine EvR.bind (g := fun k t => Ydb.l0 k s t ((t.length : Int) == 4) t (t.length : Int) 0) hsp ?_
 have h := isName_l0 s (splitB 46 s.data.toList) hpos Zj hxs _ 0 ((splitB 46 s.data.toList).length == 4) rfl Zj
 have e4 : ((((((splitB 46 s.data.toList).map ofL).length : Nat) : Int)) == 4) = ((splitB 46 s.data.toList).length == 4) := by
  rw [List.length_map]
  by_cases h : (splitB 46 s.data.toList).length = 4
  ·rw [h]; rfl
  ·rw [beq_eq_false_iff_ne.2 h, beq_eq_false_iff_ne.2 Zj]
 rw [e4, List.length_map]
 unfold Ylj
 rw [Lib.size_eq] at h
 exact h
def Yoc (b : UInt8) : Bool := Yzc b || (Ygd b || (b == 43 || (b == 45 || b == 46)))
abbrev Yxg : List UInt8 := [104, 116, 116, 112]
abbrev Ybg : List UInt8 := [104, 116, 116, 112, 115]
theorem sign_f (b : UInt8) : strings_IndexByte.f (⟨#[43, 45, 46]⟩ : Y) (b.toNat : Int) = some (if b = 43 then 0 else if b = 45 then 1 else if b = 46 then 2 else -1) := by
 revert b; exact Yrd Zza
theorem Ynn (l sep : List UInt8) : (Lib.cut l sep).1.length ≤ l.length ∧ (Lib.cut l sep).2.1.length ≤ l.length := by
 unfold Lib.cut
 split
 ·constructor
  ·simp only [List.length_take]; omega
  ·simp only [List.length_drop]; omega
 ·constructor <;> simp
def Yaf (l : List UInt8) (sch : Y) : Int × Y × Y :=
 if (Lib.cut l [58]).2.2 = true ∧ (Lib.cut l [58]).1 ≠ [] ∧ Yzc ((Lib.cut l [58]).1.headD 0) = true ∧ (Lib.cut l [58]).1.all Yoc = true then
  (if lowL (Lib.cut l [58]).1 = Yxg ∨ lowL (Lib.cut l [58]).1 = Ybg then 0 else 16, ofL (Lib.cut l [58]).2.1, ofL (lowL (Lib.cut l [58]).1))
 else (3, ofL l, sch)
theorem scheme_l0 (x3 x4 s0 s1 s2 : Y) (s3 : Int) (s4 s5 s6 : Y) (s7 s8 : Bool) (hs : x3.size ≤ 100000000) : ∀ (L : List UInt8) (i : Nat), x3.data.toList.drop i = L → i ≤ x3.size →
  EvR (fun k => Yq.l0 k x3 x4 (x3.size : Int) (i : Int) s0 s1 s2 s3 s4 s5 s6 s7 s8)
   (if L.all Yoc = true then (if lowL x3.data.toList = Yxg ∨ lowL x3.data.toList = Ybg then (0 : Int) else 16, x4, ofL (lowL x3.data.toList), s2, s3, s4, s5, s6, s7, s8) else (3, s0, s1, s2, s3, s4, s5, s6, s7, s8)) := by
 intro L
 induction L with
 | nil =>
  intro i hL hi
  have he := bt_end x3 i hL hi
  refine EvR.succ (EvR.of fun k => ?_)
  have hlo : Ycc.f x3 = some (ofL (lowL x3.data.toList)) := by unfold Ycc.f; rw [if_pos Zj]
  rw [Yq.l0, if_neg Zj, hlo]
  simp only [Kba, Yjd, List.all_nil, if_true]
  by_cases h1 : lowL x3.data.toList = Yxg
  ·rw [if_pos h1, if_pos (Or.inl h1)]
  ·rw [if_neg h1]
   by_cases h2 : lowL x3.data.toList = Ybg
   ·rw [if_pos h2, if_pos (Or.inr h2)]
   ·rw [if_neg h2, if_neg (by rintro (h | h); exact h1 h; exact h2 h)]
 | cons b t ih =>
  intro i hL hi
  obtain ⟨mX, hb, ht⟩ := Yyc x3 i b t hL
  have hw := Yod i x3.size hi hs
  refine EvR.succ ?_
  have hstep : ∀ k, Yq.l0 (k + 1) x3 x4 (x3.size : Int) (i : Int) s0 s1 s2 s3 s4 s5 s6 s7 s8 = if Yoc b = true then Yq.l0 k x3 x4 (x3.size : Int) ((i + 1 : Nat) : Int) s0 s1 s2 s3 s4 s5 s6 s7 s8 else some (3, s0, s1, s2, s3, s4, s5, s6, s7, s8) := by
   intro k
   rw [Yq.l0, if_pos Zj, if_pos Zj, if_pos Zj, hb, Yfo]
   simp only [Kba]
   rw [Ybk, hw, sign_f]
   simp only [Kba]
   unfold Yoc
   cases h1 : Yzc b
   ·cases h2 : Ygd b
    ·rw [if_neg Zq, if_neg Zq]
     by_cases h3 : b = 43
     ·simp [h3]
     ·by_cases h4 : b = 45
      ·simp [h4]
      ·by_cases h5 : b = 46
       ·simp [h5]
       ·simp [h3, h4, h5]
    ·simp
   ·simp
  by_cases hn : Yoc b = true
  ·refine EvR.congr (f := fun k => Yq.l0 k x3 x4 (x3.size : Int) ((i + 1 : Nat) : Int) s0 s1 s2 s3 s4 s5 s6 s7 s8) ?_ (fun k => by rw [hstep, if_pos hn])
   have := ih (i + 1) ht Zj
   rw [List.all_cons, hn, Bool.true_and]; exact this
  ·refine EvR.of fun k => ?_
   rw [hstep, if_neg hn, List.all_cons]
   simp [hn]
theorem scheme_f (s0 s1 s2 : Y) (s3 : Int) (s4 s5 s6 : Y) (s7 s8 : Bool) (hs : s0.size ≤ 100000000) :
  EvR (fun k => Yq.f k s0 s1 s2 s3 s4 s5 s6 s7 s8) ((Yaf s0.data.toList s1).1, (Yaf s0.data.toList s1).2.1, (Yaf s0.data.toList s1).2.2, s2, s3, s4, s5, s6, s7, s8) := by
 have hc : strings_Cut.f s0 ⟨#[58]⟩ = some (ofL (Lib.cut s0.data.toList [58]).1, ofL (Lib.cut s0.data.toList [58]).2.1, (Lib.cut s0.data.toList [58]).2.2) := by
  unfold strings_Cut.f; rw [if_pos Zj]
 have hl := (Ynn s0.data.toList [58]).1
 rw [← Lib.size_eq] at hl
 have hno : Yaf s0.data.toList s1 = (3, s0, s1) ∨ ((Lib.cut s0.data.toList [58]).2.2 = true ∧ (Lib.cut s0.data.toList [58]).1 ≠ [] ∧ Yzc ((Lib.cut s0.data.toList [58]).1.headD 0) = true) := by
  unfold Yaf
  by_cases h : (Lib.cut s0.data.toList [58]).2.2 = true ∧ (Lib.cut s0.data.toList [58]).1 ≠ [] ∧ Yzc ((Lib.cut s0.data.toList [58]).1.headD 0) = true
  ·exact .inr h
  ·left
   rw [if_neg (fun h2 => h ⟨h2.1, h2.2.1, h2.2.2.1⟩), Ynj]
 have hj : ∀ (x3 x4 : Y) k, Yq.j0 (k + 1) x3 x4 true s0 s1 s2 s3 s4 s5 s6 s7 s8 = some (3, s0, s1, s2, s3, s4, s5, s6, s7, s8) := by
  intro x3 x4 k; rw [Yq.j0, if_pos rfl]
 by_cases h1 : (Lib.cut s0.data.toList [58]).2.2 = true
 ·by_cases h2 : (Lib.cut s0.data.toList [58]).1 = []
  ·rcases hno with hno | hno
   ·rw [hno]
    refine EvR.succ (EvR.of fun k => ?_)
    unfold Yq.f
    rw [hc]
    simp only [Kba]
    rw [if_pos h1, if_pos (by rw [Yjd]; exact h2), hj]
   ·exact absurd h2 hno.2.1
  ·have hpos : 0 < (ofL (Lib.cut s0.data.toList [58]).1).size := by rw [Yfa]; exact List.length_pos_iff.2 h2
   have hbt : bt (ofL (Lib.cut s0.data.toList [58]).1) 0 = (((Lib.cut s0.data.toList [58]).1.headD 0).toNat : Int) := by
    cases hq : (Lib.cut s0.data.toList [58]).1 with
    | nil => exact absurd hq h2
    | cons b t => rfl
   have hf : ∀ k, Yq.f k s0 s1 s2 s3 s4 s5 s6 s7 s8 = Yq.j0 k (ofL (Lib.cut s0.data.toList [58]).1) (ofL (Lib.cut s0.data.toList [58]).2.1) (!(Yzc ((Lib.cut s0.data.toList [58]).1.headD 0))) s0 s1 s2 s3 s4 s5 s6 s7 s8 := by
    intro k
    unfold Yq.f
    rw [hc]
    simp only [Kba]
    rw [if_pos h1, if_neg (by rw [Yjd]; exact h2), if_pos Zj, hbt, Yfo]
    rfl
   by_cases h3 : Yzc ((Lib.cut s0.data.toList [58]).1.headD 0) = true
   ·refine EvR.congr (f := fun k => Yq.j0 k (ofL (Lib.cut s0.data.toList [58]).1) (ofL (Lib.cut s0.data.toList [58]).2.1) false s0 s1 s2 s3 s4 s5 s6 s7 s8) ?_ (fun k => by rw [hf, h3]; rfl)
    refine EvR.succ ?_
    refine EvR.congr (f := fun k => Yq.l0 k (ofL (Lib.cut s0.data.toList [58]).1) (ofL (Lib.cut s0.data.toList [58]).2.1) ((ofL (Lib.cut s0.data.toList [58]).1).size : Int) ((0 : Nat) : Int) s0 s1 s2 s3 s4 s5 s6 s7 s8) ?_ (fun k => by rw [Yq.j0, if_neg Zq]; rfl)
    have h := scheme_l0 (ofL (Lib.cut s0.data.toList [58]).1) (ofL (Lib.cut s0.data.toList [58]).2.1) s0 s1 s2 s3 s4 s5 s6 s7 s8 Zha _ 0 rfl Zj
    rw [List.drop_zero, Ytb] at h
    unfold Yaf
    by_cases h4 : (Lib.cut s0.data.toList [58]).1.all Yoc = true
    ·rw [if_pos h4] at h
     rw [if_pos ⟨h1, h2, h3, h4⟩]
     exact h
    ·rw [if_neg h4] at h
     rw [if_neg (fun h5 => h4 h5.2.2.2), Ynj]
     exact h
   ·have h4 : Yzc ((Lib.cut s0.data.toList [58]).1.headD 0) = false := by cases hq : Yzc ((Lib.cut s0.data.toList [58]).1.headD 0) <;> simp_all
    rcases hno with hno | hno
    ·rw [hno]
     refine EvR.succ (EvR.of fun k => ?_)
     rw [hf, h4]
     exact hj _ _ k
    ·exact absurd hno.2.2 h3
 ·rcases hno with hno | hno
  ·rw [hno]
   refine EvR.succ (EvR.of fun k => ?_)
   unfold Yq.f
   rw [hc]
   simp only [Kba]
   rw [if_neg h1, hj]
  ·exact absurd hno.1 h1
def Ywe (l : List UInt8) : List UInt8 × Int := if lowL (Yhb l) = [] then ([], 4) else if Ylj (lowL (Yhb l)) = true then (lowL (Yhb l), 0) else ([], 17)
theorem Yuj : ∀ (n : Nat) (l : List UInt8), l.length ≤ n → (Yhb l).length ≤ l.length := by
 intro n
 induction n with
 | zero => intro l h; cases l with | nil => simp [Yhb] | cons b l => simp at h
 | succ n ih =>
  intro l h
  match l, h with
  | [], _ => simp [Yhb]
  | [c], _ => simp [Yhb]
  | [c, d], _ => simp [Yhb]
  | c :: a :: b :: t, h =>
   rw [Yhb]
   simp only [List.length_cons] at h
   split
   ·have := ih t Zj; simp only [List.length_cons]; omega
   ·have := ih (a :: b :: t) (by simp only [List.length_cons]; omega); simp only [List.length_cons] at this ⊢; omega
theorem host_f (s : Y) (hs : s.size ≤ 90000000) : EvR (fun k => Yzd.f k s) (ofL (Ywe s.data.toList).1, (Ywe s.data.toList).2) := by
 have hu : Yhd.f s = some (ofL (Yhb s.data.toList)) := by unfold Yhd.f; rw [if_pos Zj]
 have hul := Yuj _ s.data.toList (Ks _)
 rw [← Lib.size_eq] at hul
 have hl : Ycc.f (ofL (Yhb s.data.toList)) = some (ofL (lowL (Yhb s.data.toList))) := by
  unfold Ycc.f; rw [if_pos Zha, Ytb]
 have hf : ∀ k, Yzd.f k s = if lowL (Yhb s.data.toList) = [] then some ((⟨#[]⟩ : Y), 4) else ((Ydb.f k (ofL (lowL (Yhb s.data.toList)))).bind fun c => if c = true then some (ofL (lowL (Yhb s.data.toList)), 0) else some ((⟨#[]⟩ : Y), 17)) := by
  intro k
  unfold Yzd.f
  rw [hu]
  simp only [Kba]
  rw [hl]
  simp only [Kba, Yjd]
 unfold Ywe
 by_cases h0 : lowL (Yhb s.data.toList) = []
 ·refine EvR.of fun k => ?_
  rw [hf, if_pos h0, if_pos h0]; rfl
 ·refine EvR.congr (f := fun k => (Ydb.f k (ofL (lowL (Yhb s.data.toList)))).bind fun c => if c = true then some (ofL (lowL (Yhb s.data.toList)), 0) else some ((⟨#[]⟩ : Y), 17)) ?_ (fun k => by rw [hf, if_neg h0])
  have hn := isName_f (ofL (lowL (Yhb s.data.toList))) (by rw [Yfa, Yqg]; omega)
  rw [Ytb] at hn
  refine EvR.bind (g := fun _ c => if c = true then some (ofL (lowL (Yhb s.data.toList)), 0) else some ((⟨#[]⟩ : Y), 17)) hn (EvR.of fun _ => ?_)
  rw [if_neg h0]
  by_cases h1 : Ylj (lowL (Yhb s.data.toList)) = true
  ·rw [if_pos h1, if_pos h1]
  ·rw [if_neg h1, if_neg h1]; rfl
def Yqb (l : List UInt8) : List UInt8 := (Lib.trimLeftS l [47, 92]).takeWhile (Yza [47, 92, 63, 35])
def Yeg (l : List UInt8) : List UInt8 := (Lib.trimLeftS l [47, 92]).dropWhile (Yza [47, 92, 63, 35])
def ownN (sch : List UInt8) : Int := if sch = Yxg then 80 else 443
def Yof (l sch : List UInt8) (host : Y) (port : Int) : Int × Y × Y × Int :=
 if Lib.indexAny l [47, 92] = 0 then
  if Lib.indexByte (Yqb l) 64 ≥ 0 then (3, ofL (Yeg l), host, port) else
   if (Ywe (Lib.cut (Yqb l) [58]).1).2 = 0 then
    if (Lib.cut (Yqb l) [58]).2.1 = [] then (0, ofL (Yeg l), ofL (Ywe (Lib.cut (Yqb l) [58]).1).1, port) else
     if (numL 65535 (Lib.cut (Yqb l) [58]).2.1).2 = 0 then
      if (numL 65535 (Lib.cut (Yqb l) [58]).2.1).1 = ownN sch then (0, ofL (Yeg l), ofL (Ywe (Lib.cut (Yqb l) [58]).1).1, port)
      else (0, ofL (Yeg l), ofL (Ywe (Lib.cut (Yqb l) [58]).1).1, (numL 65535 (Lib.cut (Yqb l) [58]).2.1).1)
     else (3, ofL (Yeg l), ofL (Ywe (Lib.cut (Yqb l) [58]).1).1, port)
   else ((Ywe (Lib.cut (Yqb l) [58]).1).2, ofL (Yeg l), host, port)
 else (3, ofL l, host, port)
theorem place_f (s0 s1 s2 : Y) (s3 : Int) (s4 s5 s6 : Y) (s7 s8 : Bool) (hs : s0.size ≤ 90000000) :
  EvR (fun k => Yre.f k s0 s1 s2 s3 s4 s5 s6 s7 s8) ((Yof s0.data.toList s1.data.toList s2 s3).1, (Yof s0.data.toList s1.data.toList s2 s3).2.1, s1, (Yof s0.data.toList s1.data.toList s2 s3).2.2.1, (Yof s0.data.toList s1.data.toList s2 s3).2.2.2, s4, s5, s6, s7, s8) := by
 have hi : strings_IndexAny.f s0 ⟨#[47, 92]⟩ = some (Lib.indexAny s0.data.toList [47, 92]) := by
  unfold strings_IndexAny.f; rw [if_pos ⟨rfl, Zw, Zw, Zj⟩]
 unfold Yof
 unfold Yre.f
 rw [hi]
 simp only [Kba]
 by_cases h1 : Lib.indexAny s0.data.toList [47, 92] = 0
 ·rw [if_pos h1]
  have ht : Yfc.f s0 ⟨#[47, 92]⟩ = some (ofL (Lib.trimLeftS s0.data.toList [47, 92])) := by
   unfold Yfc.f; rw [if_pos ⟨Zw, Zw⟩]
  have htl : (Lib.trimLeftS s0.data.toList [47, 92]).length ≤ s0.size := by rw [Lib.size_eq]; exact (List.dropWhile_sublist _).length_le
  have hph : (Yqb s0.data.toList).length ≤ s0.size := Nat.le_trans (Yud _ _) htl
  have hk : Yrb.f (ofL (Lib.trimLeftS s0.data.toList [47, 92])) s1 s2 s3 s4 s5 s6 s7 s8 ⟨#[47, 92, 63, 35]⟩ = some (ofL (Yqb s0.data.toList), ofL (Yeg s0.data.toList), s1, s2, s3, s4, s5, s6, s7, s8) := by
   rw [take_f _ _ _ _ _ _ _ _ _ _ rfl Zha]; rfl
  have hcl := Ynn (Yqb s0.data.toList) [58]
  have hc : strings_Cut.f (ofL (Yqb s0.data.toList)) ⟨#[58]⟩ = some (ofL (Lib.cut (Yqb s0.data.toList) [58]).1, ofL (Lib.cut (Yqb s0.data.toList) [58]).2.1, (Lib.cut (Yqb s0.data.toList) [58]).2.2) := by
   unfold strings_Cut.f; rw [if_pos Zha]; rfl
  have hat : strings_IndexByte.f (ofL (Yqb s0.data.toList)) 64 = some (Lib.indexByte (Yqb s0.data.toList) 64) := rfl
  rw [ht]
  simp only [Kba]
  rw [hk]
  simp only [Kba]
  rw [hat]
  simp only [Kba]
  by_cases h2 : Lib.indexByte (Yqb s0.data.toList) 64 ≥ 0
  ·refine EvR.of fun k => ?_
   rw [if_pos h1, if_pos h2, if_pos h2]
  ·rw [if_neg h2, hc]
   simp only [Kba]
   have hh := host_f (ofL (Lib.cut (Yqb s0.data.toList) [58]).1) Zha
   rw [Ytb] at hh
   simp only [if_pos h1, if_neg h2]
   refine EvR.bind hh ?_
   by_cases h3 : (Ywe (Lib.cut (Yqb s0.data.toList) [58]).1).2 = 0
   ·simp only [if_pos h3, Yjd]
    by_cases h4 : (Lib.cut (Yqb s0.data.toList) [58]).2.1 = []
    ·refine EvR.of fun k => ?_
     simp only [if_pos h4]
    ·simp only [if_neg h4]
     have hn := Ymn (ofL (Lib.cut (Yqb s0.data.toList) [58]).2.1) 65535 Zj Zj Zha
     rw [Ytb] at hn
     refine EvR.bind hn (EvR.of fun k => ?_)
     by_cases h5 : (numL 65535 (Lib.cut (Yqb s0.data.toList) [58]).2.1).2 = 0
     ·simp only [if_pos h5]
      have ho : Ymf.f s1 = some (ownN s1.data.toList) := by
       unfold Ymf.f ownN
       rw [Lib.toList_data]
       split <;> rfl
      rw [ho]
      simp only [Kba]
      by_cases h6 : (numL 65535 (Lib.cut (Yqb s0.data.toList) [58]).2.1).1 = ownN s1.data.toList
      ·simp only [if_pos h6]
      ·simp only [if_neg h6]
     ·simp only [if_neg h5]
   ·refine EvR.of fun k => ?_
    simp only [if_neg h3]
 ·refine EvR.of fun k => ?_
  simp only [if_neg h1, Ynj]
def Ykh (a0 a1 : Y) (p : Int) : Y := if p = 0 then (a0 ++ (⟨#[58, 47, 47]⟩ : Y)) ++ a1 else ((a0 ++ (⟨#[58, 47, 47]⟩ : Y)) ++ a1) ++ ((⟨#[58]⟩ : Y) ++ strOfNums (Yvf p.toNat))
def Ypp (o a4 : Y) (q : Bool) : Y := if q = true then o ++ ((⟨#[63]⟩ : Y) ++ a4) else o
def Yyp (o a5 : Y) (f : Bool) : Y := if f = true then o ++ ((⟨#[35]⟩ : Y) ++ a5) else o
def Ygg (a0 a1 : Y) (p : Int) (a3 a4 a5 : Y) (q f : Bool) : Y := Yyp (Ypp (Ykh a0 a1 p ++ a3) a4 q) a5 f
theorem strOfNums_size (xs : List Int) : (strOfNums xs).size = xs.length := by
 rw [Lib.size_eq]; unfold strOfNums; simp
theorem Ycf (v : Nat) : (Yvf v).length ≤ 20 := by
 unfold Yvf
 split
 ·simp
 ·rw [List.length_reverse]; exact Yjr 20 v
theorem Yqn : (⟨#[58, 47, 47]⟩ : Y).size = 3 := rfl
theorem size58 : (⟨#[58]⟩ : Y).size = 1 := rfl
theorem Ydn : (⟨#[63]⟩ : Y).size = 1 := rfl
theorem Yvp : (⟨#[35]⟩ : Y).size = 1 := rfl
theorem Yri (a0 a1 : Y) (p : Int) : (Ykh a0 a1 p).size ≤ a0.size + a1.size + 24 := by
 have := Ycf p.toNat
 unfold Ykh
 split
 ·simp only [ByteArray.size_append, Yqn]; omega
 ·simp only [ByteArray.size_append, Yqn, size58, strOfNums_size]; omega
theorem origin_f (a0 a1 : Y) (p : Int) (a3 a4 a5 : Y) (q f : Bool) (h0 : a0.size ≤ 1000000000000) (h1 : a1.size ≤ 1000000000000) (hp : 0 ≤ p) (hp2 : p < 1000000000000000000) :
  EvR (fun k => Yef.f k a0 a1 p a3 a4 a5 q f) (Ykh a0 a1 p) := by
 unfold Ykh
 unfold Yef.f
 by_cases hz : p = 0
 ·refine EvR.of fun k => ?_
  simp only [if_pos hz]
  rw [if_pos Zj, if_pos (by simp only [ByteArray.size_append, Yqn]; omega)]
 ·simp only [if_neg hz]
  have ht := text_f p.toNat Zj
  have htl := Ycf p.toNat
  rw [Int.toNat_of_nonneg hp] at ht
  have c1 : a0.size + 3 ≤ 9223372036854775807 := by omega
  have c2 : (a0 ++ (⟨#[58, 47, 47]⟩ : Y)).size + a1.size ≤ 9223372036854775807 := by simp only [ByteArray.size_append, Yqn]; omega
  simp only [if_pos c1, if_pos c2]
  refine EvR.bind ht (EvR.of fun k => ?_)
  rw [if_pos (by rw [strOfNums_size]; omega), if_pos (by simp only [ByteArray.size_append, Yqn, size58, strOfNums_size]; omega)]
theorem Ysr (a0 a1 : Y) (p : Int) (a3 a4 a5 : Y) (q f : Bool) (h0 : a0.size ≤ 1000000000000) (h1 : a1.size ≤ 1000000000000) (h3 : a3.size ≤ 1000000000000) (h4 : a4.size ≤ 1000000000000) (h5 : a5.size ≤ 1000000000000) (hp : 0 ≤ p) (hp2 : p < 1000000000000000000) :
  EvR (fun k => Yff.f k a0 a1 p a3 a4 a5 q f) (Ygg a0 a1 p a3 a4 a5 q f) := by
 have ho := origin_f a0 a1 p a3 a4 a5 q f h0 h1 hp hp2
 have hs := Yri a0 a1 p
 unfold Yff.f
 refine EvR.bind ho (EvR.of fun k => ?_)
 unfold Ygg
 generalize Ykh a0 a1 p = o at hs
 rw [if_pos Zj]
 cases q with
 | true =>
  rw [if_pos rfl, if_pos Zj, if_pos (by simp only [ByteArray.size_append, Ydn]; omega)]
  cases f with
  | true =>
   rw [if_pos rfl, if_pos Zj, if_pos (by simp only [ByteArray.size_append, Ydn, Yvp]; omega)]; rfl
  | false => rw [if_neg Zq]; rfl
 | false =>
  rw [if_neg Zq]
  cases f with
  | true =>
   rw [if_pos rfl, if_pos Zj, if_pos (by simp only [ByteArray.size_append, Yvp]; omega)]; rfl
  | false => rw [if_neg Zq]; rfl
abbrev UrlE := Y × Y × Int × Y × Y × Y × Bool × Bool × Int
def Yie (r : List UInt8) : Y := ofL (Ysj (Ykj r))
def Ypd (r : List UInt8) : Y := match Ydf (Yce r) with | some q => ofL (Ydd Yvj q) | none => ⟨#[]⟩
def Yje (r : List UInt8) : Y := match Ypf (Ybb (Yce r)) with | some q => ofL (Ydd Yhj q) | none => ⟨#[]⟩
def Ybf (r : List UInt8) : Bool := match Ydf (Yce r) with | some _ => true | none => false
def Yve (r : List UInt8) : Bool := match Ypf (Ybb (Yce r)) with | some _ => true | none => false
def urlOf (sch host : Y) (port : Int) (r : List UInt8) : UrlE :=
 if ((Ygg sch host port (Yie r) (Ypd r) (Yje r) (Ybf r) (Yve r)).size : Int) > 2048 then Yjc 5 else (sch, host, port, Yie r, Ypd r, Yje r, Ybf r, Yve r, 0)
def Yzn (sch : Y) (y : Int × Y × Y × Int) : UrlE :=
 if ¬ y.1 = 0 then Yjc y.1 else urlOf sch y.2.2.1 y.2.2.2 y.2.1.data.toList
def Yup (x : Int × Y × Y) : UrlE :=
 if ¬ x.1 = 0 then Yjc x.1 else Yzn x.2.2 (Yof x.2.1.data.toList x.2.2.data.toList ⟨#[]⟩ 0)
def Ypn (c : List UInt8) : UrlE := if (c.length : Int) > 2048 then Yjc 5 else Yup (Yaf c ⟨#[]⟩)
def Ytg (l : List UInt8) : UrlE := Ypn (Ywf l)
theorem Ywr (l : List UInt8) : (Ykj l).length ≤ l.length := Yud _ _
theorem Ydl (l : List UInt8) : (Yce l).length ≤ l.length := Yne _ _
theorem query_le (l q : List UInt8) (h : Ydf l = some q) : q.length ≤ l.length := by
 cases l with
 | nil => cases h
 | cons b t =>
  simp only [Ydf] at h
  split at h
  ·cases h; have := Yud (Yza [35]) t; simp only [List.length_cons]; omega
  ·cases h
theorem Ylo (l : List UInt8) : (Ybb l).length ≤ l.length := by
 cases l with
 | nil => simp [Ybb]
 | cons b t =>
  simp only [Ybb]
  split
  ·have := Yne (Yza [35]) t; simp only [List.length_cons]; omega
  ·exact Ks _
theorem frag_le (l q : List UInt8) (h : Ypf l = some q) : q.length ≤ l.length := by
 cases l with
 | nil => cases h
 | cons b t =>
  simp only [Ypf] at h
  split at h
  ·cases h; simp
  ·cases h
theorem Yok (r : List UInt8) : (Yie r).size ≤ 3 * r.length + 4 ∧ (Ypd r).size ≤ 3 * r.length ∧ (Yje r).size ≤ 3 * r.length := by
 refine ⟨?_, ?_, ?_⟩
 ·unfold Yie
  rw [Yfa]
  have := pathL_le (Ykj r)
  have := Ywr r
  omega
 ·unfold Ypd
  split
  ·next q h =>
   rw [Yfa]
   have := Ylg Yvj q
   have := query_le _ _ h
   have := Ydl r
   omega
  ·show 0 ≤ _; omega
 ·unfold Yje
  split
  ·next q h =>
   rw [Yfa]
   have := Ylg Yhj q
   have := frag_le _ _ h
   have := Ylo (Yce r)
   have := Ydl r
   omega
  ·show 0 ≤ _; omega
theorem Yhl (l sch : List UInt8) : (Yof l sch ⟨#[]⟩ 0).2.1.size ≤ l.length ∧ (Yof l sch ⟨#[]⟩ 0).2.2.1.size ≤ l.length ∧ 0 ≤ (Yof l sch ⟨#[]⟩ 0).2.2.2 ∧ (Yof l sch ⟨#[]⟩ 0).2.2.2 ≤ 65535 := by
 have htl : (Lib.trimLeftS l [47, 92]).length ≤ l.length := (List.dropWhile_sublist _).length_le
 have hr : (Yeg l).length ≤ l.length := Nat.le_trans (Yne _ _) htl
 have hh : (Yqb l).length ≤ l.length := Nat.le_trans (Yud _ _) htl
 have hc := Ynn (Yqb l) [58]
 have hhost : ∀ m : List UInt8, (Ywe m).1.length ≤ m.length := by
  intro m
  have := Yuj _ m (Ks _)
  unfold Ywe
  split
  ·simp
  ·split
   ·rw [Yqg]; exact this
   ·simp
 have hh2 := hhost (Lib.cut (Yqb l) [58]).1
 have hn := Yym 65535 Zj (Lib.cut (Yqb l) [58]).2.1
 have hz : (⟨#[]⟩ : Y).size = 0 := rfl
 unfold Yof
 repeat' split
 all_goals simp only [Yfa, hz]
 all_goals refine ⟨?_, ?_, ?_, ?_⟩
 all_goals omega
theorem Yqs (l : List UInt8) : (Ywf l).length ≤ l.length := by
 unfold Ywf
 have h1 := Yhp l
 have h2 := List.length_filter_le (· != 9) (Yqh l)
 have h3 := List.length_filter_le (· != 10) ((Yqh l).filter (· != 9))
 have h4 := List.length_filter_le (· != 13) (((Yqh l).filter (· != 9)).filter (· != 10))
 omega
theorem parse_f (s : Y) (hs : s.size ≤ 1000000000) : EvR (fun k => Ygf.f k s) (Ytg s.data.toList) := by
 have hc : Ygh.f s = some (ofL (Ywf s.data.toList)) := by unfold Ygh.f; rw [if_pos Zj]
 unfold Ytg
 generalize hcl : Ywf s.data.toList = c at hc
 unfold Ygf.f
 rw [hc]
 simp only [Kba, Yfa]
 unfold Ypn
 by_cases h1 : (c.length : Int) > 2048
 ·refine EvR.of fun k => ?_
  rw [if_pos h1, if_pos h1]
 ·simp only [if_neg h1]
  have hsc := scheme_f (ofL c) ⟨#[]⟩ ⟨#[]⟩ 0 ⟨#[]⟩ ⟨#[]⟩ ⟨#[]⟩ false false Zha
  rw [Ytb] at hsc
  have hxs : (Yaf c ⟨#[]⟩).2.1.size ≤ 2048 ∧ (Yaf c ⟨#[]⟩).2.2.size ≤ 2048 := by
   have := Ynn c [58]
   unfold Yaf
   split
   ·simp only [Yfa, Yqg]; omega
   ·have hz : (⟨#[]⟩ : Y).size = 0 := rfl
    simp only [Yfa, hz]; omega
  generalize Yaf c ⟨#[]⟩ = x at hsc hxs
  refine EvR.bind hsc ?_
  unfold Yup
  by_cases h2 : ¬ x.1 = 0
  ·refine EvR.of fun k => ?_
   rw [if_pos h2, if_pos h2]
  ·simp only [if_neg h2]
   have hpl := place_f x.2.1 x.2.2 ⟨#[]⟩ 0 ⟨#[]⟩ ⟨#[]⟩ ⟨#[]⟩ false false Zj
   have hps := Yhl x.2.1.data.toList x.2.2.data.toList
   rw [← Lib.size_eq] at hps
   generalize Yof x.2.1.data.toList x.2.2.data.toList ⟨#[]⟩ 0 = y at hpl hps
   refine EvR.bind hpl ?_
   unfold Yzn
   by_cases h3 : ¬ y.1 = 0
   ·refine EvR.of fun k => ?_
    rw [if_pos h3, if_pos h3]
   ·simp only [if_neg h3]
    have ht : Yge.f y.2.1 x.2.2 y.2.2.1 y.2.2.2 ⟨#[]⟩ ⟨#[]⟩ ⟨#[]⟩ false false = some (ofL (Ygi (Ybb (Yce y.2.1.data.toList))), x.2.2, y.2.2.1, y.2.2.2, Yie y.2.1.data.toList, Ypd y.2.1.data.toList, Yje y.2.1.data.toList, Ybf y.2.1.data.toList, Yve y.2.1.data.toList) := by
     unfold Yge.f
     rw [if_pos Zj]; rfl
    rw [ht]
    simp only [Kba]
    have hts := Yok y.2.1.data.toList
    rw [← Lib.size_eq] at hts
    have hst := Ysr x.2.2 y.2.2.1 y.2.2.2 (Yie y.2.1.data.toList) (Ypd y.2.1.data.toList) (Yje y.2.1.data.toList) (Ybf y.2.1.data.toList) (Yve y.2.1.data.toList) Zj Zj Zj Zj Zj Zj Zj
    refine EvR.bind hst (EvR.of fun k => ?_)
    unfold urlOf
    split <;> rfl
end Go.Proofs.YtihaeeldgimdiaaGreatDoor.X
