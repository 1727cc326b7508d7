/- What the parts of Parse, and Parse as a whole, compute, as plain functions of bytes. -/
import Derived.Test.YtihaeeldgimdiaaDoorUiH4
import Derived.Test.YtihaeeldgimdiaaDoorUiPa
namespace Go.Proofs.YtihaeeldgimdiaaDoor.X
open Go.RowKit Go.Lib Go.Shelf Go.Proofs.YtihaeeldgimdiaaDoorW.PrintWords Go.Proofs.YtihaeeldgimdiaaDoorW.PrintLast Go.Proofs.YtihaeeldgimdiaaDoorW.PrintMore
set_option linter.unusedVariables false
set_option linter.unusedSimpArgs false
def EvR {α : Type} (f : Nat → Option α) (r : α) : Prop := ∃ k0, ∀ k, k0 ≤ k → f k = some r
theorem EvR.of {α : Type} {f : Nat → Option α} {r : α} (h : ∀ k, f k = some r) : EvR f r := ⟨0, fun k _ => h k⟩
theorem EvR.succ {α : Type} {f : Nat → Option α} {r : α} (h : EvR (fun k => f (k + 1)) r) : EvR f r := by
 obtain ⟨k0, h⟩ := h
 refine ⟨k0 + 1, fun k hk => ?_⟩
 cases k with
 | zero => omega
 | succ k => exact h k (by omega)
theorem EvR.congr {α : Type} {f g : Nat → Option α} {r : α} (h : EvR f r) (e : ∀ k, g k = f k) : EvR g r := by
 obtain ⟨k0, h⟩ := h
 exact ⟨k0, fun k hk => (e k).trans (h k hk)⟩
theorem EvR.bind {α β : Type} {f : Nat → Option α} {g : Nat → α → Option β} {x : α} {y : β} (hf : EvR f x) (hg : EvR (fun k => g k x) y) : EvR (fun k => (f k).bind (g k)) y := by
 obtain ⟨k1, h1⟩ := hf
 obtain ⟨k2, h2⟩ := hg
 exact ⟨max k1 k2, fun k hk => by show (f k).bind (g k) = some y; rw [h1 k (by omega)]; exact h2 k (by omega)⟩
theorem EvR.mono {α : Type} {f : Nat → Option α} {r : α} (hm : ∀ k, LeO (f k) (f (k + 1))) {k0 : Nat} (h : f k0 = some r) : EvR f r := by
 refine ⟨k0, fun k hk => ?_⟩
 induction hk with
 | refl => exact h
 | step _ ih => exact hm _ _ ih
theorem bt_data (s : ByteArray) (i : Nat) (b : UInt8) (t : List UInt8) (h : s.data.toList.drop i = b :: t) : i < s.size ∧ bt s (i : Int) = (b.toNat : Int) ∧ s.data.toList.drop (i + 1) = t := by
 have hi : i < s.size := by
  have := congrArg List.length h
  rw [List.length_drop, ← Lib.size_eq] at this
  simp only [List.length_cons] at this; omega
 refine ⟨hi, ?_, ?_⟩
 ·have h1 : s.data.toList[i]? = some b := by have h9 := List.getElem?_drop (xs := s.data.toList) (i := i) (j := 0); rw [h, Nat.add_zero] at h9; rw [← h9]; rfl
  have h2 : i < s.data.toList.length := by rw [← Lib.size_eq]; exact hi
  have h3 : s.data.toList[i] = b := by rw [List.getElem?_eq_getElem h2] at h1; exact Option.some.inj h1
  rw [← bt_at s (i : Int) (by rw [Int.toNat_natCast]; exact hi)]
  simp only [Int.toNat_natCast]
  rw [← h3]; rfl
 ·have h9 := List.drop_drop (i := 1) (j := i) (l := s.data.toList); rw [h] at h9; rw [← h9]; rfl
theorem bt_end (s : ByteArray) (i : Nat) (h : s.data.toList.drop i = []) (hi : i ≤ s.size) : i = s.size := by
 have := congrArg List.length h
 rw [List.length_drop, ← Lib.size_eq] at this
 simp only [List.length_nil] at this; omega
theorem wrap_succ (i n : Nat) (h : i ≤ n) (hn : n ≤ 100000000) : wrap64 ((i : Int) + 1) = ((i + 1 : Nat) : Int) := by unfold wrap64; omega
def numFold (most : Int) : Bool → Int → List UInt8 → Int × Int
 | many, n, [] => if many = true then (0, 5) else (n, 0)
 | many, n, b :: t => if isDigitB b = true then (if many = true ∨ most < n * 10 + ((b.toNat : Int) - 48) then numFold most true n t else numFold most false (n * 10 + ((b.toNat : Int) - 48)) t) else (0, 3)
def numL (most : Int) (l : List UInt8) : Int × Int := if l = [] then (0, 3) else numFold most false 0 l
theorem number_l0 (s : ByteArray) (most : Int) (h0 : 0 ≤ most) (h1 : most ≤ 1000000000) (hs : s.size ≤ 100000000) : ∀ (L : List UInt8) (i : Nat) (n : Int) (many : Bool), s.data.toList.drop i = L → i ≤ s.size → 0 ≤ n → n ≤ most →
  EvR (fun k => ascii_Number.l0 k s most n many (s.size : Int) (i : Int)) (numFold most many n L) := by
 intro L
 induction L with
 | nil =>
  intro i n many hL hi hn0 hn1
  have he := bt_end s i hL hi
  refine EvR.succ (EvR.of fun k => ?_)
  rw [ascii_Number.l0, if_neg (by omega)]
  unfold numFold
  cases many <;> rfl
 | cons b t ih =>
  intro i n many hL hi hn0 hn1
  obtain ⟨hi2, hb, ht⟩ := bt_data s i b t hL
  have hw := wrap_succ i s.size hi hs
  refine EvR.succ ?_
  by_cases hd : isDigitB b = true
  ·have hr : 48 ≤ b.toNat ∧ b.toNat ≤ 57 := by unfold isDigitB at hd; simpa using hd
   have e1 : ((b.toNat : Int) - 48) % 256 = (b.toNat : Int) - 48 := by omega
   by_cases hm : many = true
   ·subst hm
    refine (ih (i + 1) n true ht (by omega) hn0 hn1).congr (fun k => ?_) |> fun h => by unfold numFold; rw [if_pos hd, if_pos (Or.inl rfl)]; exact h
    rw [ascii_Number.l0, if_pos (by omega), if_pos (by omega), if_pos (by omega), hb, digit_f]
    simp only [Option.bind_some]
    rw [if_pos hd, if_pos trivial, hw]
   ·have hm2 : many = false := by cases many <;> simp_all
    subst hm2
    have e2 : wrap64 (most - ((b.toNat : Int) - 48)) = most - ((b.toNat : Int) - 48) := by unfold wrap64; omega
    by_cases hbig : most < n * 10 + ((b.toNat : Int) - 48)
    ·refine (ih (i + 1) n true ht (by omega) hn0 hn1).congr (fun k => ?_) |> fun h => by unfold numFold; rw [if_pos hd, if_pos (Or.inr hbig)]; exact h
     rw [ascii_Number.l0, if_pos (by omega), if_pos (by omega), if_pos (by omega), hb, digit_f]
     simp only [Option.bind_some]
     rw [if_pos hd, if_neg (by simp), e1, e2, hw]
     split
     ·rfl
     ·next h1 =>
      rw [if_pos]
      by_cases h2 : most < (b.toNat : Int) - 48
      ·exact h2
      ·exfalso
       apply h1
       rw [Int.tdiv_eq_ediv_of_nonneg (by omega)]
       unfold wrap64; omega
    ·refine (ih (i + 1) (n * 10 + ((b.toNat : Int) - 48)) false ht (by omega) (by omega) (by omega)).congr (fun k => ?_) |> fun h => by unfold numFold; rw [if_pos hd, if_neg (by simp [hbig])]; exact h
     rw [ascii_Number.l0, if_pos (by omega), if_pos (by omega), if_pos (by omega), hb, digit_f]
     simp only [Option.bind_some]
     rw [if_pos hd, if_neg (by simp), e1, e2, hw, if_neg, if_neg (by omega)]
     ·have e5 : wrap64 (n * 10) = n * 10 := by unfold wrap64; omega
      rw [e5]
      have e6 : wrap64 (n * 10 + ((b.toNat : Int) - 48)) = n * 10 + ((b.toNat : Int) - 48) := by unfold wrap64; omega
      rw [e6]
     ·rw [Int.tdiv_eq_ediv_of_nonneg (by omega)]
      unfold wrap64; omega
  ·refine EvR.of fun k => ?_
   rw [ascii_Number.l0, if_pos (by omega), if_pos (by omega), if_pos (by omega), hb, digit_f]
   simp only [Option.bind_some]
   rw [if_neg hd]
   unfold numFold
   rw [if_neg hd]
theorem number_f (s : ByteArray) (most : Int) (h0 : 0 ≤ most) (h1 : most ≤ 1000000000) (hs : s.size ≤ 100000000) : EvR (fun k => ascii_Number.f k s most) (numL most s.data.toList) := by
 by_cases he : s.data.toList = []
 ·refine EvR.of fun k => ?_
  unfold ascii_Number.f numL
  rw [Lib.toList_data, if_pos he, if_pos he]
 ·refine EvR.congr (f := fun k => ascii_Number.l0 k s most 0 false (s.size : Int) ((0 : Nat) : Int)) ?_ (fun k => ?_)
  ·unfold numL
   rw [if_neg he]
   exact number_l0 s most h0 h1 hs _ 0 0 false rfl (by omega) (by omega) h0
  ·unfold ascii_Number.f
   rw [Lib.toList_data, if_neg he, decide_eq_false (by omega)]; rfl
theorem numFold_le (most : Int) (h0 : 0 ≤ most) : ∀ (l : List UInt8) (many : Bool) (n : Int), 0 ≤ n → n ≤ most → 0 ≤ (numFold most many n l).1 ∧ (numFold most many n l).1 ≤ most := by
 intro l
 induction l with
 | nil => intro many n hn0 hn1; unfold numFold; split <;> (constructor <;> simp <;> omega)
 | cons b t ih =>
  intro many n hn0 hn1
  unfold numFold
  split
  ·next hd =>
   have hr : 48 ≤ b.toNat ∧ b.toNat ≤ 57 := by unfold isDigitB at hd; simpa using hd
   split
   ·exact ih true n hn0 hn1
   ·next h => exact ih false _ (by omega) (by omega)
  ·constructor <;> simp <;> omega
theorem numL_le (most : Int) (h0 : 0 ≤ most) (l : List UInt8) : 0 ≤ (numL most l).1 ∧ (numL most l).1 ≤ most := by
 unfold numL
 split
 ·constructor <;> simp <;> omega
 ·exact numFold_le most h0 l false 0 (by omega) h0
def nameB (b : UInt8) : Bool := isLetterB b || (isDigitB b || (b == 45 || b == 95))
def nameP (l : List UInt8) : Bool := l.all nameB && (!l.isEmpty && decide (l.length ≤ 63))
theorem byte_eq (b : UInt8) (n : Nat) (h : n < 256) : ((b.toNat : Int) = (n : Int)) ↔ b = UInt8.ofNat n := by
 constructor
 ·intro e
  apply UInt8.toNat_inj.1
  rw [UInt8.toNat_ofNat', Nat.mod_eq_of_lt h]; omega
 ·rintro rfl
  rw [UInt8.toNat_ofNat', Nat.mod_eq_of_lt h]
theorem isPart_l0 (s : ByteArray) (hs : s.size ≤ 100000000) : ∀ (L : List UInt8) (i : Nat), s.data.toList.drop i = L → i ≤ s.size →
  EvR (fun k => url_isPart.l0 k s (s.size : Int) (i : Int)) (L.all nameB && (!s.data.toList.isEmpty && decide (s.data.toList.length ≤ 63))) := by
 intro L
 induction L with
 | nil =>
  intro i hL hi
  have he := bt_end s i hL hi
  refine EvR.succ (EvR.of fun k => ?_)
  rw [url_isPart.l0, if_neg (by omega), Lib.toList_data]
  by_cases h : s.data.toList = []
  ·rw [if_pos h, h]; rfl
  ·rw [if_neg h]
   have h2 : s.data.toList.isEmpty = false := by cases hq : s.data.toList <;> simp_all
   have h3 : (decide ((s.size : Int) ≤ 63)) = decide (s.data.toList.length ≤ 63) := by rw [← Lib.size_eq]; exact decide_eq_decide.2 (by omega)
   rw [h2, h3]; simp
 | cons b t ih =>
  intro i hL hi
  obtain ⟨hi2, hb, ht⟩ := bt_data s i b t hL
  have hw := wrap_succ i s.size hi hs
  refine EvR.succ ?_
  have hstep : ∀ k, url_isPart.l0 (k + 1) s (s.size : Int) (i : Int) = if nameB b = true then url_isPart.l0 k s (s.size : Int) ((i + 1 : Nat) : Int) else some false := by
   intro k
   rw [url_isPart.l0, if_pos (by omega), if_pos (by omega), if_pos (by omega), hb, letter_f]
   simp only [Option.bind_some]
   rw [digit_f, hw]
   simp only [Option.bind_some]
   have h45 : ((b.toNat : Int) = 45) ↔ b = 45 := byte_eq b 45 (by omega)
   have h95 : ((b.toNat : Int) = 95) ↔ b = 95 := byte_eq b 95 (by omega)
   unfold nameB
   cases h1 : isLetterB b
   ·cases h2 : isDigitB b
    ·by_cases h3 : b = 45
     ·rw [if_neg (by simp), if_neg (by simp), if_pos (h45.2 h3)]; simp [h3]
     ·by_cases h4 : b = 95
      ·rw [if_neg (by simp), if_neg (by simp), if_neg (fun e => h3 (h45.1 e)), if_pos (h95.2 h4)]; simp [h4]
      ·rw [if_neg (by simp), if_neg (by simp), if_neg (fun e => h3 (h45.1 e)), if_neg (fun e => h4 (h95.1 e))]; simp [h3, h4]
    ·simp
   ·simp
  by_cases hn : nameB b = true
  ·refine EvR.congr (f := fun k => url_isPart.l0 k s (s.size : Int) ((i + 1 : Nat) : Int)) ?_ (fun k => by rw [hstep, if_pos hn])
   have := ih (i + 1) ht (by omega)
   rw [List.all_cons, hn, Bool.true_and]; exact this
  ·refine EvR.of fun k => ?_
   rw [hstep, if_neg hn, List.all_cons]
   simp [hn]
theorem isPart_f (s : ByteArray) (hs : s.size ≤ 100000000) : EvR (fun k => url_isPart.f k s) (nameP s.data.toList) := by
 have := isPart_l0 s hs _ 0 rfl (by omega)
 exact this
end Go.Proofs.YtihaeeldgimdiaaDoor.X
namespace Go.Proofs.YtihaeeldgimdiaaDoor.X
open Go.RowKit Go.Lib Go.Shelf Go.Proofs.YtihaeeldgimdiaaDoorW.PrintWords Go.Proofs.YtihaeeldgimdiaaDoorW.PrintLast Go.Proofs.YtihaeeldgimdiaaDoorW.PrintMore
set_option linter.unusedVariables false
set_option linter.unusedSimpArgs false
theorem set_mid (a r : List Int) (x y : Int) : (a ++ x :: r).set a.length y = a ++ y :: r := by
 rw [List.set_append_right _ _ (Nat.le_refl _), Nat.sub_self]; rfl
theorem rd_mid (a r : List Int) (x : Int) : rd (a ++ x :: r) (a.length : Int) = x := by
 unfold rd
 rw [Int.toNat_natCast, List.getD_eq_getElem?_getD, List.getElem?_append_right (Nat.le_refl _), Nat.sub_self]; rfl
theorem reverse_l0 : ∀ (m : Nat) (a mid c : List Int), mid.length < 2 * m + 2 → a.length + mid.length + c.length ≤ 1000000 →
  slices_Reverse_byte_byte.l0 (m + 1) (a ++ (mid ++ c)) (a.length : Int) ((a.length : Int) + mid.length - 1) = some (a ++ (mid.reverse ++ c)) := by
 intro m
 induction m with
 | zero =>
  intro a mid c hm hl
  rw [slices_Reverse_byte_byte.l0, if_neg (by omega)]
  match mid, hm with
  | [], _ => rfl
  | [x], _ => rfl
 | succ m ih =>
  intro a mid c hm hl
  rcases Nat.lt_or_ge mid.length 2 with h2 | h2
  ·rw [slices_Reverse_byte_byte.l0, if_neg (by omega)]
   match mid, h2 with
   | [], _ => rfl
   | [x], _ => rfl
  ·obtain ⟨x, m1, rfl⟩ : ∃ x m1, mid = x :: m1 := by cases mid with
    | nil => simp at h2
    | cons x m1 => exact ⟨x, m1, rfl⟩
   obtain ⟨m2, y, rfl⟩ : ∃ m2 y, m1 = m2 ++ [y] := by
    refine ⟨m1.dropLast, m1.getLast (by intro e; subst e; simp at h2), (List.dropLast_concat_getLast _).symm⟩
   simp only [List.length_cons, List.length_append, List.length_nil] at hm hl h2
   have hj : ((a.length : Int) + ((x :: (m2 ++ [y])).length : Nat) - 1) = (((a ++ x :: m2).length : Nat) : Int) := by simp; omega
   have hs : a ++ (x :: (m2 ++ [y]) ++ c) = (a ++ x :: m2) ++ y :: c := by simp
   have hs2 : a ++ (x :: (m2 ++ [y]) ++ c) = a ++ x :: (m2 ++ y :: c) := by simp
   rw [slices_Reverse_byte_byte.l0, hj]
   have hlen : (a ++ (x :: (m2 ++ [y]) ++ c)).length = a.length + m2.length + c.length + 2 := by simp; omega
   have hla : (a ++ x :: m2).length = a.length + m2.length + 1 := by simp; omega
   rw [if_pos (by omega), if_pos (by omega), if_pos (by rw [hlen]; omega), if_pos (by omega), if_pos (by rw [hlen]; omega)]
   have r1 : rd (a ++ (x :: (m2 ++ [y]) ++ c)) (((a ++ x :: m2).length : Nat) : Int) = y := by rw [hs, rd_mid]
   have r2 : rd (a ++ (x :: (m2 ++ [y]) ++ c)) (a.length : Int) = x := by rw [hs2, rd_mid]
   rw [r1, r2, Int.toNat_natCast, Int.toNat_natCast, hs2, set_mid]
   have hs3 : a ++ y :: (m2 ++ y :: c) = (a ++ y :: m2) ++ y :: c := by simp
   have hla2 : (a ++ x :: m2).length = (a ++ y :: m2).length := by simp
   rw [hs3, hla2, set_mid]
   have w1 : wrap64 ((a.length : Int) + 1) = (((a ++ [y]).length : Nat) : Int) := by simp; unfold wrap64; omega
   have w2 : wrap64 ((((a ++ y :: m2).length : Nat) : Int) - 1) = (((a ++ [y]).length : Nat) : Int) + (m2.length : Nat) - 1 := by simp; unfold wrap64; omega
   have hs4 : (a ++ y :: m2) ++ x :: c = (a ++ [y]) ++ (m2 ++ (x :: c)) := by simp
   rw [w1, w2, hs4, ih (a ++ [y]) m2 (x :: c) (by omega) (by simp; omega)]
   simp
theorem reverse_f (xs : List Int) (h : xs.length ≤ 1000000) : EvR (fun k => slices_Reverse_byte_byte.f k xs) xs.reverse := by
 refine EvR.mono (slices_Reverse_byte_byte.mono xs) (k0 := xs.length + 1) ?_
 unfold slices_Reverse_byte_byte.f
 have hw : wrap64 ((xs.length : Int) - 1) = (([] : List Int).length : Int) + (xs.length : Nat) - 1 := by simp; unfold wrap64; omega
 have := reverse_l0 xs.length [] xs [] (by omega) (by simp; exact h)
 simp only [List.nil_append, List.append_nil] at this
 rw [hw]; exact this
def digs : Nat → Nat → List Int
 | 0, _ => []
 | f + 1, v => if v = 0 then [] else (48 + ((v % 10 : Nat) : Int)) :: digs f (v / 10)
def textN (v : Nat) : List Int := if v = 0 then [48] else (digs 20 v).reverse
theorem u64_wrap (n : Int) (h0 : 0 ≤ n) (h1 : n < 18446744073709551616) : IntKind.u64.wrap n = n := by
 unfold IntKind.wrap
 simp [IntKind.bits, IntKind.signed]
 omega
theorem digs_length : ∀ (f v : Nat), (digs f v).length ≤ f := by
 intro f
 induction f with
 | zero => intro v; simp [digs]
 | succ f ih => intro v; unfold digs; split; simp; have := ih (v / 10); simp; omega
theorem pad_l0 (x0 : Int) (hx : 0 ≤ x0) : ∀ (f v : Nat) (acc : List Int), v < 10 ^ f → v < 18446744073709551616 → acc.length + f ≤ 1000 → (acc ≠ [] ∨ v ≠ 0) →
  EvR (fun k => ascii_Pad.l0 k x0 1 (v : Int) acc) (strOfNums (acc ++ digs f v).reverse) := by
 have hz : ∀ acc : List Int, acc.length ≤ 1000 → acc ≠ [] → EvR (fun k => ascii_Pad.l0 k x0 1 (((0 : Nat) : Int)) acc) (strOfNums acc.reverse) := by
  intro acc hl hne
  have h1 : 0 < acc.length := List.length_pos_iff.2 hne
  have hm : mx (mn 1 20) 1 = 1 := rfl
  refine EvR.succ ?_
  refine EvR.congr (f := fun k => (slices_Reverse_byte_byte.f k acc).bind fun t => some (strOfNums t)) ?_ (fun k => ?_)
  ·exact EvR.bind (g := fun _ t => some (strOfNums t)) (reverse_f acc (by omega)) (EvR.of fun _ => rfl)
  ·rw [ascii_Pad.l0, if_neg (by omega), hm, if_neg (by omega), if_neg (by omega)]
 intro f
 induction f with
 | zero =>
  intro v acc hv hv2 hl hn
  have : v = 0 := by simpa using hv
  subst this
  rw [show digs 0 0 = [] from rfl, List.append_nil]
  exact hz acc (by omega) (by rcases hn with h | h; exact h; exact absurd rfl h)
 | succ f ih =>
  intro v acc hv hv2 hl hn
  by_cases h0 : v = 0
  ·subst h0
   rw [show digs (f + 1) 0 = [] from rfl, List.append_nil]
   exact hz acc (by omega) (by rcases hn with h | h; exact h; exact absurd rfl h)
  ·refine EvR.succ ?_
   have hd : digs (f + 1) v = (48 + ((v % 10 : Nat) : Int)) :: digs f (v / 10) := by rw [digs, if_neg h0]
   rw [hd, show acc ++ (48 + ((v % 10 : Nat) : Int)) :: digs f (v / 10) = (acc ++ [48 + ((v % 10 : Nat) : Int)]) ++ digs f (v / 10) by simp]
   refine (ih (v / 10) (acc ++ [48 + ((v % 10 : Nat) : Int)]) (by rw [Nat.pow_succ] at hv; omega) (by omega) (by simp; omega) (.inl (by simp))).congr (fun k => ?_)
   rw [ascii_Pad.l0, if_pos (by omega), if_pos (by omega), Int.tdiv_eq_ediv_of_nonneg (by omega), Int.tmod_eq_emod_of_nonneg (by omega), u64_wrap _ (by omega) (by omega), u64_wrap _ (by omega) (by omega)]
   have e1 : (v : Int) / 10 = ((v / 10 : Nat) : Int) := by omega
   have e2 : (48 + (v : Int) % 10) % 256 = 48 + ((v % 10 : Nat) : Int) := by omega
   rw [e1, e2]
theorem text_f (v : Nat) (hv : v < 10 ^ 18) : EvR (fun k => ascii_Text.f k (v : Int)) (strOfNums (textN v)) := by
 have h2 : v < 18446744073709551616 := by omega
 have hl : EvR (fun k => ascii_Pad.l0 k (v : Int) 1 (v : Int) []) (strOfNums (textN v)) := by
  unfold textN
  by_cases h0 : v = 0
  ·subst h0
   rw [if_pos rfl]
   refine EvR.succ ?_
   refine (pad_l0 0 (by omega) 0 0 [48] (by omega) (by omega) (by simp) (.inl (by simp))).congr (fun k => ?_)
   rfl
  ·rw [if_neg h0]
   exact pad_l0 (v : Int) (by omega) 20 v [] (by omega) h2 (by simp) (.inr h0)
 refine EvR.congr (f := fun k => (ascii_Pad.f k (v : Int) 1).bind fun t => some t) ?_ (fun k => rfl)
 refine EvR.bind (g := fun _ t => some t) (x := strOfNums (textN v)) ?_ (EvR.of fun _ => rfl)
 refine EvR.congr (f := fun k => ascii_Pad.j0 k (v : Int) 1 (v : Int)) ?_ (fun k => by unfold ascii_Pad.f; rw [if_neg (by omega), u64_wrap _ (by omega) (by omega)])
 refine EvR.succ (hl.congr fun k => ?_)
 rw [ascii_Pad.j0]
def byteL (l : List UInt8) : Bool := (numL 255 l).2 == 0 && (strOfNums (textN (numL 255 l).1.toNat)).data.toList == l
theorem isByte_f (s : ByteArray) (hs : s.size ≤ 100000000) : EvR (fun k => url_isByte.f k s) (byteL s.data.toList) := by
 have hn := number_f s 255 (by omega) (by omega) hs
 have hb := numL_le 255 (by omega) s.data.toList
 unfold byteL
 unfold url_isByte.f
 refine EvR.bind (g := fun k x => if x.2 = 0 then (ascii_Text.f k x.1).bind fun t => some (t.toList == s.toList) else some false) hn ?_
 by_cases he : (numL 255 s.data.toList).2 = 0
 ·refine EvR.congr (f := fun k => (ascii_Text.f k (((numL 255 s.data.toList).1.toNat : Nat) : Int)).bind fun t => some (t.toList == s.toList)) ?_ (fun k => by rw [if_pos he, Int.toNat_of_nonneg hb.1])
  refine EvR.bind (g := fun _ t => some (t.toList == s.toList)) (text_f (numL 255 s.data.toList).1.toNat (by omega)) (EvR.of fun _ => ?_)
  rw [he, Lib.toList_data, Lib.toList_data]; rfl
 ·refine EvR.of fun k => ?_
  rw [if_neg he]
  have : ((numL 255 s.data.toList).2 == 0) = false := beq_eq_false_iff_ne.2 he
  rw [this]; rfl
def nameL (l : List UInt8) : Bool := (splitB 46 l).all nameP && (decide (l.length ≤ 253) && ((numL 0 ((splitB 46 l).getD ((splitB 46 l).length - 1) [])).2 == 3 || ((splitB 46 l).length == 4 && (splitB 46 l).all byteL)))
theorem rdOf_map (xs : List (List UInt8)) (i : Nat) (h : i < xs.length) : rdOf ByteArray.empty (xs.map ofL) (i : Int) = ofL (xs.getD i []) := by
 unfold rdOf
 rw [Int.toNat_natCast, List.getD_eq_getElem?_getD, List.getD_eq_getElem?_getD, List.getElem?_map, List.getElem?_eq_getElem h]; rfl
theorem isName_l0 (s : ByteArray) (xs : List (List UInt8)) (hne : 0 < xs.length) (hl : xs.length ≤ 100000000) (hx : ∀ x ∈ xs, x.length ≤ 100000000) : ∀ (L : List (List UInt8)) (i : Nat) (four : Bool), xs.drop i = L → i ≤ xs.length →
  EvR (fun k => url_isName.l0 k s (xs.map ofL) four (xs.map ofL) (xs.length : Int) (i : Int)) (L.all nameP && (decide (s.size ≤ 253) && ((numL 0 (xs.getD (xs.length - 1) [])).2 == 3 || (four && L.all byteL)))) := by
 intro L
 induction L with
 | nil =>
  intro i four hL hi
  have he : i = xs.length := by
   have := congrArg List.length hL
   rw [List.length_drop] at this
   simp only [List.length_nil] at this; omega
  refine EvR.succ ?_
  have hw : wrap64 ((((xs.map ofL).length : Nat) : Int) - 1) = ((xs.length - 1 : Nat) : Int) := by rw [List.length_map]; unfold wrap64; omega
  have hlast : (xs.getD (xs.length - 1) []).length ≤ 100000000 := by
   have h1 : xs.length - 1 < xs.length := by omega
   rw [List.getD_eq_getElem?_getD, List.getElem?_eq_getElem h1]
   exact hx _ (List.getElem_mem h1)
  have hn := number_f (ofL (xs.getD (xs.length - 1) [])) 0 (by omega) (by omega) (by rw [ofL_size]; exact hlast)
  rw [ofL_data] at hn
  refine EvR.congr (f := fun k => (ascii_Number.f k (ofL (xs.getD (xs.length - 1) [])) 0).bind fun bt => if (s.size : Int) ≤ 253 then (if bt.2 = 3 then some true else some four) else some false) ?_ (fun k => ?_)
  ·refine EvR.bind (g := fun _ bt => if (s.size : Int) ≤ 253 then (if bt.2 = 3 then some true else some four) else some false) hn (EvR.of fun _ => ?_)
   by_cases h1 : s.size ≤ 253
   ·rw [if_pos (by omega), decide_eq_true h1]
    by_cases h2 : (numL 0 (xs.getD (xs.length - 1) [])).2 = 3
    ·rw [if_pos h2, h2]; simp
    ·rw [if_neg h2, beq_eq_false_iff_ne.2 h2]; simp
   ·rw [if_neg (by omega), decide_eq_false h1]; simp
  ·rw [url_isName.l0, if_neg (by omega), hw, if_pos (by omega), if_pos (by rw [List.length_map]; omega), rdOf_map xs _ (by omega)]
 | cons p t ih =>
  intro i four hL hi
  have hi2 : i < xs.length := by
   have := congrArg List.length hL
   rw [List.length_drop] at this
   simp only [List.length_cons] at this; omega
  have ht : xs.drop (i + 1) = t := by have h9 := List.drop_drop (i := 1) (j := i) (l := xs); rw [hL] at h9; rw [← h9]; rfl
  have hp : xs.getD i [] = p := by
   have h9 := List.getElem?_drop (xs := xs) (i := i) (j := 0)
   rw [hL, Nat.add_zero] at h9
   rw [List.getD_eq_getElem?_getD, ← h9]; rfl
  have hpl : p.length ≤ 100000000 := hx p (by rw [← hp, List.getD_eq_getElem?_getD, List.getElem?_eq_getElem hi2]; exact List.getElem_mem hi2)
  have hw := wrap_succ i xs.length hi (by omega)
  refine EvR.succ ?_
  have h1 := isPart_f (ofL p) (by rw [ofL_size]; exact hpl)
  have h2 := isByte_f (ofL p) (by rw [ofL_size]; exact hpl)
  rw [ofL_data] at h1 h2
  refine EvR.congr (f := fun k => (url_isPart.f k (ofL p)).bind fun c => if c = true then (if four = true then ((url_isByte.f k (ofL p)).bind fun d => url_isName.l0 k s (xs.map ofL) d (xs.map ofL) (xs.length : Int) ((i + 1 : Nat) : Int)) else url_isName.l0 k s (xs.map ofL) false (xs.map ofL) (xs.length : Int) ((i + 1 : Nat) : Int)) else some false) ?_ (fun k => ?_)
  ·refine EvR.bind (g := fun k c => if c = true then (if four = true then ((url_isByte.f k (ofL p)).bind fun d => url_isName.l0 k s (xs.map ofL) d (xs.map ofL) (xs.length : Int) ((i + 1 : Nat) : Int)) else url_isName.l0 k s (xs.map ofL) false (xs.map ofL) (xs.length : Int) ((i + 1 : Nat) : Int)) else some false) h1 ?_
   by_cases hn : nameP p = true
   ·rw [List.all_cons, List.all_cons, hn, Bool.true_and]
    cases four with
    | true =>
     refine EvR.congr (f := fun k => (url_isByte.f k (ofL p)).bind fun d => url_isName.l0 k s (xs.map ofL) d (xs.map ofL) (xs.length : Int) ((i + 1 : Nat) : Int)) ?_ (fun k => by rw [if_pos rfl, if_pos rfl])
     refine EvR.bind (g := fun k d => url_isName.l0 k s (xs.map ofL) d (xs.map ofL) (xs.length : Int) ((i + 1 : Nat) : Int)) h2 ?_
     have := ih (i + 1) (byteL p) ht (by omega)
     simpa using this
    | false =>
     refine EvR.congr (f := fun k => url_isName.l0 k s (xs.map ofL) false (xs.map ofL) (xs.length : Int) ((i + 1 : Nat) : Int)) ?_ (fun k => by rw [if_pos rfl, if_neg (by simp)])
     have := ih (i + 1) false ht (by omega)
     simpa using this
   ·refine EvR.of fun k => ?_
    rw [if_neg hn, List.all_cons]
    have : nameP p = false := by cases h : nameP p <;> simp_all
    rw [this]; rfl
  ·rw [url_isName.l0, if_pos (by omega), if_pos (by omega), if_pos (by rw [List.length_map]; omega), rdOf_map xs i hi2, hp, hw]
theorem isName_f (s : ByteArray) (hs : s.size ≤ 90000000) : EvR (fun k => url_isName.f k s) (nameL s.data.toList) := by
 have hlen := splitB_length 46 s.data.toList
 rw [← Lib.size_eq] at hlen
 have hpos : 0 < (splitB 46 s.data.toList).length := List.length_pos_iff.2 (splitB_ne _ _)
 have hxs : ∀ x ∈ splitB 46 s.data.toList, x.length ≤ 100000000 := by
  intro x hx
  have h1 := splitB_tot 46 s.data.toList
  have h2 : ∀ (l : List (List UInt8)), x ∈ l → x.length + 1 ≤ tot l := by
   intro l
   induction l with
   | nil => intro h; cases h
   | cons y l ih =>
    intro h
    simp only [tot, List.map_cons, List.sum_cons] at ih ⊢
    rcases List.mem_cons.1 h with rfl | h
    ·omega
    ·have := ih h; omega
  have := h2 _ hx
  rw [← Lib.size_eq] at h1; omega
 have hsp : EvR (fun k => ascii_Split.f k s 46) ((splitB 46 s.data.toList).map ofL) :=
  EvR.mono (ascii_Split.mono s 46) (split_f s 46 (by omega))
 unfold url_isName.f
 refine EvR.bind (g := fun k t => url_isName.l0 k s t ((t.length : Int) == 4) t (t.length : Int) 0) hsp ?_
 have h := isName_l0 s (splitB 46 s.data.toList) hpos (by omega) hxs _ 0 ((splitB 46 s.data.toList).length == 4) rfl (by omega)
 have e4 : ((((((splitB 46 s.data.toList).map ofL).length : Nat) : Int)) == 4) = ((splitB 46 s.data.toList).length == 4) := by
  rw [List.length_map]
  by_cases h : (splitB 46 s.data.toList).length = 4
  ·rw [h]; rfl
  ·rw [beq_eq_false_iff_ne.2 h, beq_eq_false_iff_ne.2 (by omega)]
 rw [e4, List.length_map]
 unfold nameL
 rw [Lib.size_eq] at h
 exact h
end Go.Proofs.YtihaeeldgimdiaaDoor.X
namespace Go.Proofs.YtihaeeldgimdiaaDoor.X
open Go.RowKit Go.Lib Go.Shelf Go.Proofs.YtihaeeldgimdiaaDoorW.PrintWords Go.Proofs.YtihaeeldgimdiaaDoorW.PrintLast Go.Proofs.YtihaeeldgimdiaaDoorW.PrintMore
set_option linter.unusedVariables false
set_option linter.unusedSimpArgs false
def schemeB (b : UInt8) : Bool := isLetterB b || (isDigitB b || (b == 43 || (b == 45 || b == 46)))
abbrev httpB : List UInt8 := [104, 116, 116, 112]
abbrev httpsB : List UInt8 := [104, 116, 116, 112, 115]
theorem sign_f (b : UInt8) : strings_IndexByte.f (⟨#[43, 45, 46]⟩ : ByteArray) (b.toNat : Int) = some (if b = 43 then 0 else if b = 45 then 1 else if b = 46 then 2 else -1) := by
 revert b; exact byte_all (by decide +kernel)
theorem cut_le (l sep : List UInt8) : (Lib.cut l sep).1.length ≤ l.length ∧ (Lib.cut l sep).2.1.length ≤ l.length := by
 unfold Lib.cut
 split
 ·constructor
  ·simp only [List.length_take]; omega
  ·simp only [List.length_drop]; omega
 ·constructor <;> simp
def schemeR (l : List UInt8) (sch : ByteArray) : Int × ByteArray × ByteArray :=
 if (Lib.cut l [58]).2.2 = true ∧ (Lib.cut l [58]).1 ≠ [] ∧ isLetterB ((Lib.cut l [58]).1.headD 0) = true ∧ (Lib.cut l [58]).1.all schemeB = true then
  (if lowL (Lib.cut l [58]).1 = httpB ∨ lowL (Lib.cut l [58]).1 = httpsB then 0 else 16, ofL (Lib.cut l [58]).2.1, ofL (lowL (Lib.cut l [58]).1))
 else (3, ofL l, sch)
theorem scheme_l0 (x3 x4 : ByteArray) (s0 s1 s2 : ByteArray) (s3 : Int) (s4 s5 s6 : ByteArray) (s7 s8 : Bool) (hs : x3.size ≤ 100000000) : ∀ (L : List UInt8) (i : Nat), x3.data.toList.drop i = L → i ≤ x3.size →
  EvR (fun k => url_parser_scheme.l0 k x3 x4 (x3.size : Int) (i : Int) s0 s1 s2 s3 s4 s5 s6 s7 s8)
   (if L.all schemeB = true then (if lowL x3.data.toList = httpB ∨ lowL x3.data.toList = httpsB then (0 : Int) else 16, x4, ofL (lowL x3.data.toList), s2, s3, s4, s5, s6, s7, s8) else (3, s0, s1, s2, s3, s4, s5, s6, s7, s8)) := by
 intro L
 induction L with
 | nil =>
  intro i hL hi
  have he := bt_end x3 i hL hi
  refine EvR.succ (EvR.of fun k => ?_)
  have hlo : ascii_Lower.f x3 = some (ofL (lowL x3.data.toList)) := by unfold ascii_Lower.f; rw [if_pos (by omega)]
  rw [url_parser_scheme.l0, if_neg (by omega), hlo]
  simp only [Option.bind_some, ofL_toList, List.all_nil, if_true]
  by_cases h1 : lowL x3.data.toList = httpB
  ·rw [if_pos h1, if_pos (Or.inl h1)]
  ·rw [if_neg h1]
   by_cases h2 : lowL x3.data.toList = httpsB
   ·rw [if_pos h2, if_pos (Or.inr h2)]
   ·rw [if_neg h2, if_neg (by rintro (h | h); exact h1 h; exact h2 h)]
 | cons b t ih =>
  intro i hL hi
  obtain ⟨hi2, hb, ht⟩ := bt_data x3 i b t hL
  have hw := wrap_succ i x3.size hi hs
  refine EvR.succ ?_
  have hstep : ∀ k, url_parser_scheme.l0 (k + 1) x3 x4 (x3.size : Int) (i : Int) s0 s1 s2 s3 s4 s5 s6 s7 s8 = if schemeB b = true then url_parser_scheme.l0 k x3 x4 (x3.size : Int) ((i + 1 : Nat) : Int) s0 s1 s2 s3 s4 s5 s6 s7 s8 else some (3, s0, s1, s2, s3, s4, s5, s6, s7, s8) := by
   intro k
   rw [url_parser_scheme.l0, if_pos (by omega), if_pos (by omega), if_pos (by omega), hb, letter_f]
   simp only [Option.bind_some]
   rw [digit_f, hw, sign_f]
   simp only [Option.bind_some]
   unfold schemeB
   cases h1 : isLetterB b
   ·cases h2 : isDigitB b
    ·rw [if_neg (by simp), if_neg (by simp)]
     by_cases h3 : b = 43
     ·simp [h3]
     ·by_cases h4 : b = 45
      ·simp [h4]
      ·by_cases h5 : b = 46
       ·simp [h5]
       ·simp [h3, h4, h5]
    ·simp
   ·simp
  by_cases hn : schemeB b = true
  ·refine EvR.congr (f := fun k => url_parser_scheme.l0 k x3 x4 (x3.size : Int) ((i + 1 : Nat) : Int) s0 s1 s2 s3 s4 s5 s6 s7 s8) ?_ (fun k => by rw [hstep, if_pos hn])
   have := ih (i + 1) ht (by omega)
   rw [List.all_cons, hn, Bool.true_and]; exact this
  ·refine EvR.of fun k => ?_
   rw [hstep, if_neg hn, List.all_cons]
   simp [hn]
theorem scheme_f (s0 s1 s2 : ByteArray) (s3 : Int) (s4 s5 s6 : ByteArray) (s7 s8 : Bool) (hs : s0.size ≤ 100000000) :
  EvR (fun k => url_parser_scheme.f k s0 s1 s2 s3 s4 s5 s6 s7 s8) ((schemeR s0.data.toList s1).1, (schemeR s0.data.toList s1).2.1, (schemeR s0.data.toList s1).2.2, s2, s3, s4, s5, s6, s7, s8) := by
 have hc : strings_Cut.f s0 ⟨#[58]⟩ = some (ofL (Lib.cut s0.data.toList [58]).1, ofL (Lib.cut s0.data.toList [58]).2.1, (Lib.cut s0.data.toList [58]).2.2) := by
  unfold strings_Cut.f; rw [if_pos (by omega)]
 have hl := (cut_le s0.data.toList [58]).1
 rw [← Lib.size_eq] at hl
 have hno : schemeR s0.data.toList s1 = (3, s0, s1) ∨ ((Lib.cut s0.data.toList [58]).2.2 = true ∧ (Lib.cut s0.data.toList [58]).1 ≠ [] ∧ isLetterB ((Lib.cut s0.data.toList [58]).1.headD 0) = true) := by
  unfold schemeR
  by_cases h : (Lib.cut s0.data.toList [58]).2.2 = true ∧ (Lib.cut s0.data.toList [58]).1 ≠ [] ∧ isLetterB ((Lib.cut s0.data.toList [58]).1.headD 0) = true
  ·exact .inr h
  ·left
   rw [if_neg (fun h2 => h ⟨h2.1, h2.2.1, h2.2.2.1⟩), ofL_of]
 have hj : ∀ (x3 x4 : ByteArray) k, url_parser_scheme.j0 (k + 1) x3 x4 true s0 s1 s2 s3 s4 s5 s6 s7 s8 = some (3, s0, s1, s2, s3, s4, s5, s6, s7, s8) := by
  intro x3 x4 k; rw [url_parser_scheme.j0, if_pos rfl]
 by_cases h1 : (Lib.cut s0.data.toList [58]).2.2 = true
 ·by_cases h2 : (Lib.cut s0.data.toList [58]).1 = []
  ·rcases hno with hno | hno
   ·rw [hno]
    refine EvR.succ (EvR.of fun k => ?_)
    unfold url_parser_scheme.f
    rw [hc]
    simp only [Option.bind_some]
    rw [if_pos h1, if_pos (by rw [ofL_toList]; exact h2), hj]
   ·exact absurd h2 hno.2.1
  ·have hpos : 0 < (ofL (Lib.cut s0.data.toList [58]).1).size := by rw [ofL_size]; exact List.length_pos_iff.2 h2
   have hbt : bt (ofL (Lib.cut s0.data.toList [58]).1) 0 = (((Lib.cut s0.data.toList [58]).1.headD 0).toNat : Int) := by
    cases hq : (Lib.cut s0.data.toList [58]).1 with
    | nil => exact absurd hq h2
    | cons b t => rfl
   have hf : ∀ k, url_parser_scheme.f k s0 s1 s2 s3 s4 s5 s6 s7 s8 = url_parser_scheme.j0 k (ofL (Lib.cut s0.data.toList [58]).1) (ofL (Lib.cut s0.data.toList [58]).2.1) (!(isLetterB ((Lib.cut s0.data.toList [58]).1.headD 0))) s0 s1 s2 s3 s4 s5 s6 s7 s8 := by
    intro k
    unfold url_parser_scheme.f
    rw [hc]
    simp only [Option.bind_some]
    rw [if_pos h1, if_neg (by rw [ofL_toList]; exact h2), if_pos (by omega), hbt, letter_f]
    rfl
   by_cases h3 : isLetterB ((Lib.cut s0.data.toList [58]).1.headD 0) = true
   ·refine EvR.congr (f := fun k => url_parser_scheme.j0 k (ofL (Lib.cut s0.data.toList [58]).1) (ofL (Lib.cut s0.data.toList [58]).2.1) false s0 s1 s2 s3 s4 s5 s6 s7 s8) ?_ (fun k => by rw [hf, h3]; rfl)
    refine EvR.succ ?_
    refine EvR.congr (f := fun k => url_parser_scheme.l0 k (ofL (Lib.cut s0.data.toList [58]).1) (ofL (Lib.cut s0.data.toList [58]).2.1) ((ofL (Lib.cut s0.data.toList [58]).1).size : Int) ((0 : Nat) : Int) s0 s1 s2 s3 s4 s5 s6 s7 s8) ?_ (fun k => by rw [url_parser_scheme.j0, if_neg (by simp)]; rfl)
    have h := scheme_l0 (ofL (Lib.cut s0.data.toList [58]).1) (ofL (Lib.cut s0.data.toList [58]).2.1) s0 s1 s2 s3 s4 s5 s6 s7 s8 (by rw [ofL_size]; omega) _ 0 rfl (by omega)
    rw [List.drop_zero, ofL_data] at h
    unfold schemeR
    by_cases h4 : (Lib.cut s0.data.toList [58]).1.all schemeB = true
    ·rw [if_pos h4] at h
     rw [if_pos ⟨h1, h2, h3, h4⟩]
     exact h
    ·rw [if_neg h4] at h
     rw [if_neg (fun h5 => h4 h5.2.2.2), ofL_of]
     exact h
   ·have h4 : isLetterB ((Lib.cut s0.data.toList [58]).1.headD 0) = false := by cases hq : isLetterB ((Lib.cut s0.data.toList [58]).1.headD 0) <;> simp_all
    rcases hno with hno | hno
    ·rw [hno]
     refine EvR.succ (EvR.of fun k => ?_)
     rw [hf, h4]
     exact hj _ _ k
    ·exact absurd hno.2.2 h3
 ·rcases hno with hno | hno
  ·rw [hno]
   refine EvR.succ (EvR.of fun k => ?_)
   unfold url_parser_scheme.f
   rw [hc]
   simp only [Option.bind_some]
   rw [if_neg h1, hj]
  ·exact absurd hno.1 h1
def hostL (l : List UInt8) : List UInt8 × Int := if lowL (unmarkL l) = [] then ([], 4) else if nameL (lowL (unmarkL l)) = true then (lowL (unmarkL l), 0) else ([], 17)
theorem unmark_le : ∀ (n : Nat) (l : List UInt8), l.length ≤ n → (unmarkL l).length ≤ l.length := by
 intro n
 induction n with
 | zero => intro l h; cases l with | nil => simp [unmarkL] | cons b l => simp at h
 | succ n ih =>
  intro l h
  match l, h with
  | [], _ => simp [unmarkL]
  | [c], _ => simp [unmarkL]
  | [c, d], _ => simp [unmarkL]
  | c :: a :: b :: t, h =>
   rw [unmarkL]
   simp only [List.length_cons] at h
   split
   ·have := ih t (by omega); simp only [List.length_cons]; omega
   ·have := ih (a :: b :: t) (by simp only [List.length_cons]; omega); simp only [List.length_cons] at this ⊢; omega
theorem host_f (s : ByteArray) (hs : s.size ≤ 90000000) : EvR (fun k => url_Host.f k s) (ofL (hostL s.data.toList).1, (hostL s.data.toList).2) := by
 have hu : percent_Unmark.f s = some (ofL (unmarkL s.data.toList)) := by unfold percent_Unmark.f; rw [if_pos (by omega)]
 have hul := unmark_le _ s.data.toList (Nat.le_refl _)
 rw [← Lib.size_eq] at hul
 have hl : ascii_Lower.f (ofL (unmarkL s.data.toList)) = some (ofL (lowL (unmarkL s.data.toList))) := by
  unfold ascii_Lower.f; rw [if_pos (by rw [ofL_size]; omega), ofL_data]
 have hf : ∀ k, url_Host.f k s = if lowL (unmarkL s.data.toList) = [] then some ((⟨#[]⟩ : ByteArray), 4) else ((url_isName.f k (ofL (lowL (unmarkL s.data.toList)))).bind fun c => if c = true then some (ofL (lowL (unmarkL s.data.toList)), 0) else some ((⟨#[]⟩ : ByteArray), 17)) := by
  intro k
  unfold url_Host.f
  rw [hu]
  simp only [Option.bind_some]
  rw [hl]
  simp only [Option.bind_some, ofL_toList]
 unfold hostL
 by_cases h0 : lowL (unmarkL s.data.toList) = []
 ·refine EvR.of fun k => ?_
  rw [hf, if_pos h0, if_pos h0]; rfl
 ·refine EvR.congr (f := fun k => (url_isName.f k (ofL (lowL (unmarkL s.data.toList)))).bind fun c => if c = true then some (ofL (lowL (unmarkL s.data.toList)), 0) else some ((⟨#[]⟩ : ByteArray), 17)) ?_ (fun k => by rw [hf, if_neg h0])
  have hn := isName_f (ofL (lowL (unmarkL s.data.toList))) (by rw [ofL_size, lowL_length]; omega)
  rw [ofL_data] at hn
  refine EvR.bind (g := fun _ c => if c = true then some (ofL (lowL (unmarkL s.data.toList)), 0) else some ((⟨#[]⟩ : ByteArray), 17)) hn (EvR.of fun _ => ?_)
  rw [if_neg h0]
  by_cases h1 : nameL (lowL (unmarkL s.data.toList)) = true
  ·rw [if_pos h1, if_pos h1]
  ·rw [if_neg h1, if_neg h1]; rfl
def placeHost (l : List UInt8) : List UInt8 := (Lib.trimLeftS l [47, 92]).takeWhile (notIn [47, 92, 63, 35])
def placeRest (l : List UInt8) : List UInt8 := (Lib.trimLeftS l [47, 92]).dropWhile (notIn [47, 92, 63, 35])
def ownN (sch : List UInt8) : Int := if sch = httpB then 80 else 443
def placeR (l sch : List UInt8) (host : ByteArray) (port : Int) : Int × ByteArray × ByteArray × Int :=
 if Lib.indexAny l [47, 92] = 0 then
  if Lib.indexByte (placeHost l) 64 ≥ 0 then (3, ofL (placeRest l), host, port) else
   if (hostL (Lib.cut (placeHost l) [58]).1).2 = 0 then
    if (Lib.cut (placeHost l) [58]).2.1 = [] then (0, ofL (placeRest l), ofL (hostL (Lib.cut (placeHost l) [58]).1).1, port) else
     if (numL 65535 (Lib.cut (placeHost l) [58]).2.1).2 = 0 then
      if (numL 65535 (Lib.cut (placeHost l) [58]).2.1).1 = ownN sch then (0, ofL (placeRest l), ofL (hostL (Lib.cut (placeHost l) [58]).1).1, port)
      else (0, ofL (placeRest l), ofL (hostL (Lib.cut (placeHost l) [58]).1).1, (numL 65535 (Lib.cut (placeHost l) [58]).2.1).1)
     else (3, ofL (placeRest l), ofL (hostL (Lib.cut (placeHost l) [58]).1).1, port)
   else ((hostL (Lib.cut (placeHost l) [58]).1).2, ofL (placeRest l), host, port)
 else (3, ofL l, host, port)
theorem place_f (s0 s1 s2 : ByteArray) (s3 : Int) (s4 s5 s6 : ByteArray) (s7 s8 : Bool) (hs : s0.size ≤ 90000000) :
  EvR (fun k => url_parser_place.f k s0 s1 s2 s3 s4 s5 s6 s7 s8) ((placeR s0.data.toList s1.data.toList s2 s3).1, (placeR s0.data.toList s1.data.toList s2 s3).2.1, s1, (placeR s0.data.toList s1.data.toList s2 s3).2.2.1, (placeR s0.data.toList s1.data.toList s2 s3).2.2.2, s4, s5, s6, s7, s8) := by
 have hi : strings_IndexAny.f s0 ⟨#[47, 92]⟩ = some (Lib.indexAny s0.data.toList [47, 92]) := by
  unfold strings_IndexAny.f; rw [if_pos ⟨rfl, by decide, by decide, by omega⟩]
 unfold placeR
 unfold url_parser_place.f
 rw [hi]
 simp only [Option.bind_some]
 by_cases h1 : Lib.indexAny s0.data.toList [47, 92] = 0
 ·rw [if_pos h1]
  have ht : strings_TrimLeft.f s0 ⟨#[47, 92]⟩ = some (ofL (Lib.trimLeftS s0.data.toList [47, 92])) := by
   unfold strings_TrimLeft.f; rw [if_pos ⟨by decide, by decide⟩]
  have htl : (Lib.trimLeftS s0.data.toList [47, 92]).length ≤ s0.size := by rw [Lib.size_eq]; exact (List.dropWhile_sublist _).length_le
  have hph : (placeHost s0.data.toList).length ≤ s0.size := Nat.le_trans (takeWhile_le _ _) htl
  have hk : url_rest_take.f (ofL (Lib.trimLeftS s0.data.toList [47, 92])) s1 s2 s3 s4 s5 s6 s7 s8 ⟨#[47, 92, 63, 35]⟩ = some (ofL (placeHost s0.data.toList), ofL (placeRest s0.data.toList), s1, s2, s3, s4, s5, s6, s7, s8) := by
   rw [take_f _ _ _ _ _ _ _ _ _ _ rfl (by rw [ofL_size]; omega)]; rfl
  have hcl := cut_le (placeHost s0.data.toList) [58]
  have hc : strings_Cut.f (ofL (placeHost s0.data.toList)) ⟨#[58]⟩ = some (ofL (Lib.cut (placeHost s0.data.toList) [58]).1, ofL (Lib.cut (placeHost s0.data.toList) [58]).2.1, (Lib.cut (placeHost s0.data.toList) [58]).2.2) := by
   unfold strings_Cut.f; rw [if_pos (by rw [ofL_size]; omega)]; rfl
  have hat : strings_IndexByte.f (ofL (placeHost s0.data.toList)) 64 = some (Lib.indexByte (placeHost s0.data.toList) 64) := rfl
  rw [ht]
  simp only [Option.bind_some]
  rw [hk]
  simp only [Option.bind_some]
  rw [hat]
  simp only [Option.bind_some]
  by_cases h2 : Lib.indexByte (placeHost s0.data.toList) 64 ≥ 0
  ·refine EvR.of fun k => ?_
   rw [if_pos h1, if_pos h2, if_pos h2]
  ·rw [if_neg h2, hc]
   simp only [Option.bind_some]
   have hh := host_f (ofL (Lib.cut (placeHost s0.data.toList) [58]).1) (by rw [ofL_size]; omega)
   rw [ofL_data] at hh
   simp only [if_pos h1, if_neg h2]
   refine EvR.bind hh ?_
   by_cases h3 : (hostL (Lib.cut (placeHost s0.data.toList) [58]).1).2 = 0
   ·simp only [if_pos h3, ofL_toList]
    by_cases h4 : (Lib.cut (placeHost s0.data.toList) [58]).2.1 = []
    ·refine EvR.of fun k => ?_
     simp only [if_pos h4]
    ·simp only [if_neg h4]
     have hn := number_f (ofL (Lib.cut (placeHost s0.data.toList) [58]).2.1) 65535 (by omega) (by omega) (by rw [ofL_size]; omega)
     rw [ofL_data] at hn
     refine EvR.bind hn (EvR.of fun k => ?_)
     by_cases h5 : (numL 65535 (Lib.cut (placeHost s0.data.toList) [58]).2.1).2 = 0
     ·simp only [if_pos h5]
      have ho : url_own.f s1 = some (ownN s1.data.toList) := by
       unfold url_own.f ownN
       rw [Lib.toList_data]
       split <;> rfl
      rw [ho]
      simp only [Option.bind_some]
      by_cases h6 : (numL 65535 (Lib.cut (placeHost s0.data.toList) [58]).2.1).1 = ownN s1.data.toList
      ·simp only [if_pos h6]
      ·simp only [if_neg h6]
     ·simp only [if_neg h5]
   ·refine EvR.of fun k => ?_
    simp only [if_neg h3]
 ·refine EvR.of fun k => ?_
  simp only [if_neg h1, ofL_of]
end Go.Proofs.YtihaeeldgimdiaaDoor.X
namespace Go.Proofs.YtihaeeldgimdiaaDoor.X
open Go.RowKit Go.Lib Go.Shelf Go.Proofs.YtihaeeldgimdiaaDoorW.PrintWords Go.Proofs.YtihaeeldgimdiaaDoorW.PrintLast Go.Proofs.YtihaeeldgimdiaaDoorW.PrintMore
set_option linter.unusedVariables false
set_option linter.unusedSimpArgs false
def originB (a0 a1 : ByteArray) (p : Int) : ByteArray := if p = 0 then (a0 ++ (⟨#[58, 47, 47]⟩ : ByteArray)) ++ a1 else ((a0 ++ (⟨#[58, 47, 47]⟩ : ByteArray)) ++ a1) ++ ((⟨#[58]⟩ : ByteArray) ++ strOfNums (textN p.toNat))
def stringQ (o a4 : ByteArray) (q : Bool) : ByteArray := if q = true then o ++ ((⟨#[63]⟩ : ByteArray) ++ a4) else o
def stringF (o a5 : ByteArray) (f : Bool) : ByteArray := if f = true then o ++ ((⟨#[35]⟩ : ByteArray) ++ a5) else o
def stringB (a0 a1 : ByteArray) (p : Int) (a3 a4 a5 : ByteArray) (q f : Bool) : ByteArray := stringF (stringQ (originB a0 a1 p ++ a3) a4 q) a5 f
theorem strOfNums_size (xs : List Int) : (strOfNums xs).size = xs.length := by
 rw [Lib.size_eq]; unfold strOfNums; simp
theorem textN_length (v : Nat) : (textN v).length ≤ 20 := by
 unfold textN
 split
 ·simp
 ·rw [List.length_reverse]; exact digs_length 20 v
theorem size3 : (⟨#[58, 47, 47]⟩ : ByteArray).size = 3 := rfl
theorem size58 : (⟨#[58]⟩ : ByteArray).size = 1 := rfl
theorem size63 : (⟨#[63]⟩ : ByteArray).size = 1 := rfl
theorem size35 : (⟨#[35]⟩ : ByteArray).size = 1 := rfl
theorem originB_size (a0 a1 : ByteArray) (p : Int) : (originB a0 a1 p).size ≤ a0.size + a1.size + 24 := by
 have := textN_length p.toNat
 unfold originB
 split
 ·simp only [ByteArray.size_append, size3]; omega
 ·simp only [ByteArray.size_append, size3, size58, strOfNums_size]; omega
theorem origin_f (a0 a1 : ByteArray) (p : Int) (a3 a4 a5 : ByteArray) (q f : Bool) (h0 : a0.size ≤ 1000000000000) (h1 : a1.size ≤ 1000000000000) (hp : 0 ≤ p) (hp2 : p < 1000000000000000000) :
  EvR (fun k => url_Origin.f k a0 a1 p a3 a4 a5 q f) (originB a0 a1 p) := by
 unfold originB
 unfold url_Origin.f
 by_cases hz : p = 0
 ·refine EvR.of fun k => ?_
  simp only [if_pos hz]
  rw [if_pos (by omega), if_pos (by simp only [ByteArray.size_append, size3]; omega)]
 ·simp only [if_neg hz]
  have ht := text_f p.toNat (by omega)
  have htl := textN_length p.toNat
  rw [Int.toNat_of_nonneg hp] at ht
  have c1 : a0.size + 3 ≤ 9223372036854775807 := by omega
  have c2 : (a0 ++ (⟨#[58, 47, 47]⟩ : ByteArray)).size + a1.size ≤ 9223372036854775807 := by simp only [ByteArray.size_append, size3]; omega
  simp only [if_pos c1, if_pos c2]
  refine EvR.bind ht (EvR.of fun k => ?_)
  rw [if_pos (by rw [strOfNums_size]; omega), if_pos (by simp only [ByteArray.size_append, size3, size58, strOfNums_size]; omega)]
theorem string_f (a0 a1 : ByteArray) (p : Int) (a3 a4 a5 : ByteArray) (q f : Bool) (h0 : a0.size ≤ 1000000000000) (h1 : a1.size ≤ 1000000000000) (h3 : a3.size ≤ 1000000000000) (h4 : a4.size ≤ 1000000000000) (h5 : a5.size ≤ 1000000000000) (hp : 0 ≤ p) (hp2 : p < 1000000000000000000) :
  EvR (fun k => url_String.f k a0 a1 p a3 a4 a5 q f) (stringB a0 a1 p a3 a4 a5 q f) := by
 have ho := origin_f a0 a1 p a3 a4 a5 q f h0 h1 hp hp2
 have hs := originB_size a0 a1 p
 unfold url_String.f
 refine EvR.bind ho (EvR.of fun k => ?_)
 unfold stringB
 generalize originB a0 a1 p = o at hs
 rw [if_pos (by omega)]
 cases q with
 | true =>
  rw [if_pos rfl, if_pos (by omega), if_pos (by simp only [ByteArray.size_append, size63]; omega)]
  cases f with
  | true =>
   rw [if_pos rfl, if_pos (by omega), if_pos (by simp only [ByteArray.size_append, size63, size35]; omega)]; rfl
  | false => rw [if_neg (by simp)]; rfl
 | false =>
  rw [if_neg (by simp)]
  cases f with
  | true =>
   rw [if_pos rfl, if_pos (by omega), if_pos (by simp only [ByteArray.size_append, size35]; omega)]; rfl
  | false => rw [if_neg (by simp)]; rfl
abbrev UrlE := ByteArray × ByteArray × Int × ByteArray × ByteArray × ByteArray × Bool × Bool × Int
def tailPath (r : List UInt8) : ByteArray := ofL (pathL (headL r))
def tailQuery (r : List UInt8) : ByteArray := match queryOf (behindL r) with | some q => ofL (partL forQueryB q) | none => ⟨#[]⟩
def tailFrag (r : List UInt8) : ByteArray := match fragOf (afterQuery (behindL r)) with | some q => ofL (partL forFragB q) | none => ⟨#[]⟩
def tailHasQ (r : List UInt8) : Bool := match queryOf (behindL r) with | some _ => true | none => false
def tailHasF (r : List UInt8) : Bool := match fragOf (afterQuery (behindL r)) with | some _ => true | none => false
def urlOf (sch host : ByteArray) (port : Int) (r : List UInt8) : UrlE :=
 if ((stringB sch host port (tailPath r) (tailQuery r) (tailFrag r) (tailHasQ r) (tailHasF r)).size : Int) > 2048 then url_none 5 else (sch, host, port, tailPath r, tailQuery r, tailFrag r, tailHasQ r, tailHasF r, 0)
def parseP (sch : ByteArray) (y : Int × ByteArray × ByteArray × Int) : UrlE :=
 if ¬ y.1 = 0 then url_none y.1 else urlOf sch y.2.2.1 y.2.2.2 y.2.1.data.toList
def parseS (x : Int × ByteArray × ByteArray) : UrlE :=
 if ¬ x.1 = 0 then url_none x.1 else parseP x.2.2 (placeR x.2.1.data.toList x.2.2.data.toList ⟨#[]⟩ 0)
def parseC (c : List UInt8) : UrlE := if (c.length : Int) > 2048 then url_none 5 else parseS (schemeR c ⟨#[]⟩)
def parseR (l : List UInt8) : UrlE := parseC (clean33 l)
theorem headL_le (l : List UInt8) : (headL l).length ≤ l.length := takeWhile_le _ _
theorem behindL_le (l : List UInt8) : (behindL l).length ≤ l.length := dropWhile_le _ _
theorem query_le (l q : List UInt8) (h : queryOf l = some q) : q.length ≤ l.length := by
 cases l with
 | nil => cases h
 | cons b t =>
  simp only [queryOf] at h
  split at h
  ·cases h; have := takeWhile_le (notIn [35]) t; simp only [List.length_cons]; omega
  ·cases h
theorem afterQuery_le (l : List UInt8) : (afterQuery l).length ≤ l.length := by
 cases l with
 | nil => simp [afterQuery]
 | cons b t =>
  simp only [afterQuery]
  split
  ·have := dropWhile_le (notIn [35]) t; simp only [List.length_cons]; omega
  ·exact Nat.le_refl _
theorem frag_le (l q : List UInt8) (h : fragOf l = some q) : q.length ≤ l.length := by
 cases l with
 | nil => cases h
 | cons b t =>
  simp only [fragOf] at h
  split at h
  ·cases h; simp
  ·cases h
theorem tail_sizes (r : List UInt8) : (tailPath r).size ≤ 3 * r.length + 4 ∧ (tailQuery r).size ≤ 3 * r.length ∧ (tailFrag r).size ≤ 3 * r.length := by
 refine ⟨?_, ?_, ?_⟩
 ·unfold tailPath
  rw [ofL_size]
  have := pathL_le (headL r)
  have := headL_le r
  omega
 ·unfold tailQuery
  split
  ·next q h =>
   rw [ofL_size]
   have := partL_le forQueryB q
   have := query_le _ _ h
   have := behindL_le r
   omega
  ·show 0 ≤ _; omega
 ·unfold tailFrag
  split
  ·next q h =>
   rw [ofL_size]
   have := partL_le forFragB q
   have := frag_le _ _ h
   have := afterQuery_le (behindL r)
   have := behindL_le r
   omega
  ·show 0 ≤ _; omega
theorem placeR_sizes (l sch : List UInt8) : (placeR l sch ⟨#[]⟩ 0).2.1.size ≤ l.length ∧ (placeR l sch ⟨#[]⟩ 0).2.2.1.size ≤ l.length ∧ 0 ≤ (placeR l sch ⟨#[]⟩ 0).2.2.2 ∧ (placeR l sch ⟨#[]⟩ 0).2.2.2 ≤ 65535 := by
 have htl : (Lib.trimLeftS l [47, 92]).length ≤ l.length := (List.dropWhile_sublist _).length_le
 have hr : (placeRest l).length ≤ l.length := Nat.le_trans (dropWhile_le _ _) htl
 have hh : (placeHost l).length ≤ l.length := Nat.le_trans (takeWhile_le _ _) htl
 have hc := cut_le (placeHost l) [58]
 have hhost : ∀ m : List UInt8, (hostL m).1.length ≤ m.length := by
  intro m
  have := unmark_le _ m (Nat.le_refl _)
  unfold hostL
  split
  ·simp
  ·split
   ·rw [lowL_length]; exact this
   ·simp
 have hh2 := hhost (Lib.cut (placeHost l) [58]).1
 have hn := numL_le 65535 (by omega) (Lib.cut (placeHost l) [58]).2.1
 have hz : (⟨#[]⟩ : ByteArray).size = 0 := rfl
 unfold placeR
 repeat' split
 all_goals simp only [ofL_size, hz]
 all_goals refine ⟨?_, ?_, ?_, ?_⟩
 all_goals omega
theorem parse_f (s : ByteArray) (hs : s.size ≤ 1000000000) : EvR (fun k => url_Parse.f k s) (parseR s.data.toList) := by
 have hc : url_Clean.f s = some (ofL (clean33 s.data.toList)) := by unfold url_Clean.f; rw [if_pos (by omega)]
 unfold parseR
 generalize hcl : clean33 s.data.toList = c at hc
 unfold url_Parse.f
 rw [hc]
 simp only [Option.bind_some, ofL_size]
 unfold parseC
 by_cases h1 : (c.length : Int) > 2048
 ·refine EvR.of fun k => ?_
  rw [if_pos h1, if_pos h1]
 ·simp only [if_neg h1]
  have hsc := scheme_f (ofL c) ⟨#[]⟩ ⟨#[]⟩ 0 ⟨#[]⟩ ⟨#[]⟩ ⟨#[]⟩ false false (by rw [ofL_size]; omega)
  rw [ofL_data] at hsc
  have hxs : (schemeR c ⟨#[]⟩).2.1.size ≤ 2048 ∧ (schemeR c ⟨#[]⟩).2.2.size ≤ 2048 := by
   have := cut_le c [58]
   unfold schemeR
   split
   ·simp only [ofL_size, lowL_length]; omega
   ·have hz : (⟨#[]⟩ : ByteArray).size = 0 := rfl
    simp only [ofL_size, hz]; omega
  generalize schemeR c ⟨#[]⟩ = x at hsc hxs
  refine EvR.bind hsc ?_
  unfold parseS
  by_cases h2 : ¬ x.1 = 0
  ·refine EvR.of fun k => ?_
   rw [if_pos h2, if_pos h2]
  ·simp only [if_neg h2]
   have hpl := place_f x.2.1 x.2.2 ⟨#[]⟩ 0 ⟨#[]⟩ ⟨#[]⟩ ⟨#[]⟩ false false (by omega)
   have hps := placeR_sizes x.2.1.data.toList x.2.2.data.toList
   rw [← Lib.size_eq] at hps
   generalize placeR x.2.1.data.toList x.2.2.data.toList ⟨#[]⟩ 0 = y at hpl hps
   refine EvR.bind hpl ?_
   unfold parseP
   by_cases h3 : ¬ y.1 = 0
   ·refine EvR.of fun k => ?_
    rw [if_pos h3, if_pos h3]
   ·simp only [if_neg h3]
    have ht : url_parser_tail.f y.2.1 x.2.2 y.2.2.1 y.2.2.2 ⟨#[]⟩ ⟨#[]⟩ ⟨#[]⟩ false false = some (ofL (restOf (afterQuery (behindL y.2.1.data.toList))), x.2.2, y.2.2.1, y.2.2.2, tailPath y.2.1.data.toList, tailQuery y.2.1.data.toList, tailFrag y.2.1.data.toList, tailHasQ y.2.1.data.toList, tailHasF y.2.1.data.toList) := by
     unfold url_parser_tail.f
     rw [if_pos (by omega)]; rfl
    rw [ht]
    simp only [Option.bind_some]
    have hts := tail_sizes y.2.1.data.toList
    rw [← Lib.size_eq] at hts
    have hst := string_f x.2.2 y.2.2.1 y.2.2.2 (tailPath y.2.1.data.toList) (tailQuery y.2.1.data.toList) (tailFrag y.2.1.data.toList) (tailHasQ y.2.1.data.toList) (tailHasF y.2.1.data.toList) (by omega) (by omega) (by omega) (by omega) (by omega) (by omega) (by omega)
    refine EvR.bind hst (EvR.of fun k => ?_)
    unfold urlOf
    split <;> rfl
end Go.Proofs.YtihaeeldgimdiaaDoor.X
