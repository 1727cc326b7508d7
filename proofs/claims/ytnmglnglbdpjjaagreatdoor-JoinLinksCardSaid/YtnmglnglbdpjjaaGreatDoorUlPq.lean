/- What the parts of Parse, and Parse as a whole, compute, as plain functions of bytes. -/
import Derived.Test.YtnmglnglbdpjjaaGreatDoorUlWords
import Derived.Test.YtnmglnglbdpjjaaGreatDoorUlH4
namespace Go.Proofs.YtnmglnglbdpjjaaGreatDoor.X
open Go.RowKit Go.Lib Go.Shelf Go.Yw.PrintWords Go.Yw.PrintLast Go.Yw.PrintMore
set_option linter.unusedVariables false
set_option linter.unusedSimpArgs false
def EvR {α : Type} (f : Nat → Option α) (r : α) : Prop := ∃ k0, ∀ k, k0 ≤ k → f k = some r
theorem EvR.of {α : Type} {f : Nat → Option α} {r : α} (h : ∀ k, f k = some r) : EvR f r := ⟨0, fun k _ => h k⟩
theorem EvR.succ {α : Type} {f : Nat → Option α} {r : α} (h : EvR (fun k => f (k + 1)) r) : EvR f r := by
 obtain ⟨k0, h⟩ := h
 refine ⟨k0 + 1, fun k hk => ?_⟩
 cases k with
 | zero => omega
 | succ k => exact h k Zk
theorem EvR.congr {α : Type} {f g : Nat → Option α} {r : α} (h : EvR f r) (e : ∀ k, g k = f k) : EvR g r := by
 obtain ⟨k0, h⟩ := h
 exact ⟨k0, fun k hk => (e k).trans (h k hk)⟩
theorem EvR.bind {α β : Type} {f : Nat → Option α} {g : Nat → α → Option β} {x : α} {y : β} (hf : EvR f x) (hg : EvR (fun k => g k x) y) : EvR (fun k => (f k).bind (g k)) y := by
 obtain ⟨k1, h1⟩ := hf
 obtain ⟨k2, h2⟩ := hg
 exact ⟨max k1 k2, fun k hk => by show (f k).bind (g k) = some y; rw [h1 k Zk]; exact h2 k Zk⟩
theorem EvR.mono {α : Type} {f : Nat → Option α} {r : α} (hm : ∀ k, LeO (f k) (f (k + 1))) {k0 : Nat} (h : f k0 = some r) : EvR f r := by
 refine ⟨k0, fun k hk => ?_⟩
 induction hk with
 | refl => exact h
 | step _ ih => exact hm _ _ ih
theorem Yvc (s : ByteArray) (i : Nat) (b : UInt8) (t : List UInt8) (h : s.data.toList.drop i = b :: t) : i < s.size ∧ bt s (i : Int) = (b.toNat : Int) ∧ s.data.toList.drop (i + 1) = t := by
 have hi : i < s.size := by
  have := congrArg List.length h
  rw [List.length_drop, ← Lib.size_eq] at this
  simp only [List.length_cons] at this; omega
 refine ⟨hi, ?_, ?_⟩
 ·have h1 : s.data.toList[i]? = some b := by have h9 := List.getElem?_drop (xs := s.data.toList) (i := i) (j := 0); rw [h, Nat.add_zero] at h9; rw [← h9]; rfl
  have h2 : i < s.data.toList.length := by rw [← Lib.size_eq]; exact hi
  have h3 : s.data.toList[i] = b := by rw [List.getElem?_eq_getElem h2] at h1; exact Option.some.inj h1
  rw [← Yza s (i : Int) (by rw [Int.toNat_natCast]; exact hi)]
  simp only [Int.toNat_natCast]
  rw [← h3]; rfl
 ·have h9 := List.drop_drop (i := 1) (j := i) (l := s.data.toList); rw [h] at h9; rw [← h9]; rfl
theorem bt_end (s : ByteArray) (i : Nat) (h : s.data.toList.drop i = []) (hi : i ≤ s.size) : i = s.size := by
 have := congrArg List.length h
 rw [List.length_drop, ← Lib.size_eq] at this
 simp only [List.length_nil] at this; omega
theorem Ywd (i n : Nat) (h : i ≤ n) (hn : n ≤ 100000000) : wrap64 ((i : Int) + 1) = ((i + 1 : Nat) : Int) := by unfold wrap64; omega
def Yee (most : Int) : Bool → Int → List UInt8 → Int × Int
 | many, n, [] => if many = true then (0, 5) else (n, 0)
 | many, n, b :: t => if Ygd b = true then (if many = true ∨ most < n * 10 + ((b.toNat : Int) - 48) then Yee most true n t else Yee most false (n * 10 + ((b.toNat : Int) - 48)) t) else (0, 3)
def numL (most : Int) (l : List UInt8) : Int × Int := if l = [] then (0, 3) else Yee most false 0 l
theorem number_l0 (s : ByteArray) (most : Int) (h0 : 0 ≤ most) (h1 : most ≤ 1000000000) (hs : s.size ≤ 100000000) : ∀ (L : List UInt8) (i : Nat) (n : Int) (many : Bool), s.data.toList.drop i = L → i ≤ s.size → 0 ≤ n → n ≤ most →
  EvR (fun k => Yja.l0 k s most n many (s.size : Int) (i : Int)) (Yee most many n L) := by
 intro L
 induction L with
 | nil =>
  intro i n many hL hi pT pI
  have he := bt_end s i hL hi
  refine EvR.succ (EvR.of fun k => ?_)
  rw [Yja.l0, if_neg Zk]
  unfold Yee
  cases many <;> rfl
 | cons b t ih =>
  intro i n many hL hi pT pI
  obtain ⟨kU, hb, ht⟩ := Yvc s i b t hL
  have hw := Ywd i s.size hi hs
  refine EvR.succ ?_
  by_cases hd : Ygd b = true
  ·have hr : 48 ≤ b.toNat ∧ b.toNat ≤ 57 := by unfold Ygd at hd; simpa using hd
   have e1 : ((b.toNat : Int) - 48) % 256 = (b.toNat : Int) - 48 := by omega
   by_cases hm : many = true
   ·subst hm
    refine (ih (i + 1) n true ht Zk pT pI).congr (fun k => ?_) |> fun h => by unfold Yee; rw [if_pos hd, if_pos (Or.inl rfl)]; exact h
    rw [Yja.l0, if_pos Zk, if_pos Zk, if_pos Zk, hb, Ygj]
    simp only [Option.bind_some]
    rw [if_pos hd, if_pos trivial, hw]
   ·have zI : many = false := by cases many <;> simp_all
    subst zI
    have e2 : wrap64 (most - ((b.toNat : Int) - 48)) = most - ((b.toNat : Int) - 48) := by unfold wrap64; omega
    by_cases hbig : most < n * 10 + ((b.toNat : Int) - 48)
    ·refine (ih (i + 1) n true ht Zk pT pI).congr (fun k => ?_) |> fun h => by unfold Yee; rw [if_pos hd, if_pos (Or.inr hbig)]; exact h
     rw [Yja.l0, if_pos Zk, if_pos Zk, if_pos Zk, hb, Ygj]
     simp only [Option.bind_some]
     rw [if_pos hd, if_neg Zv, e1, e2, hw]
     split
     ·rfl
     ·next h1 =>
      rw [if_pos]
      by_cases h2 : most < (b.toNat : Int) - 48
      ·exact h2
      ·exfalso
       apply h1
       rw [Int.tdiv_eq_ediv_of_nonneg Zk]
       unfold wrap64; omega
    ·refine (ih (i + 1) (n * 10 + ((b.toNat : Int) - 48)) false ht Zk Zk Zk).congr (fun k => ?_) |> fun h => by unfold Yee; rw [if_pos hd, if_neg (by simp [hbig])]; exact h
     rw [Yja.l0, if_pos Zk, if_pos Zk, if_pos Zk, hb, Ygj]
     simp only [Option.bind_some]
     rw [if_pos hd, if_neg Zv, e1, e2, hw, if_neg, if_neg Zk]
     ·have e5 : wrap64 (n * 10) = n * 10 := by unfold wrap64; omega
      rw [e5]
      have e6 : wrap64 (n * 10 + ((b.toNat : Int) - 48)) = n * 10 + ((b.toNat : Int) - 48) := by unfold wrap64; omega
      rw [e6]
     ·rw [Int.tdiv_eq_ediv_of_nonneg Zk]
      unfold wrap64; omega
  ·refine EvR.of fun k => ?_
   rw [Yja.l0, if_pos Zk, if_pos Zk, if_pos Zk, hb, Ygj]
   simp only [Option.bind_some]
   rw [if_neg hd]
   unfold Yee
   rw [if_neg hd]
theorem Ywo (s : ByteArray) (most : Int) (h0 : 0 ≤ most) (h1 : most ≤ 1000000000) (hs : s.size ≤ 100000000) : EvR (fun k => Yja.f k s most) (numL most s.data.toList) := by
 by_cases he : s.data.toList = []
 ·refine EvR.of fun k => ?_
  unfold Yja.f numL
  rw [Lib.toList_data, if_pos he, if_pos he]
 ·refine EvR.congr (f := fun k => Yja.l0 k s most 0 false (s.size : Int) ((0 : Nat) : Int)) ?_ (fun k => ?_)
  ·unfold numL
   rw [if_neg he]
   exact number_l0 s most h0 h1 hs _ 0 0 false rfl Zk Zk h0
  ·unfold Yja.f
   rw [Lib.toList_data, if_neg he, decide_eq_false Zk]; rfl
theorem Ypt (most : Int) (h0 : 0 ≤ most) : ∀ (l : List UInt8) (many : Bool) (n : Int), 0 ≤ n → n ≤ most → 0 ≤ (Yee most many n l).1 ∧ (Yee most many n l).1 ≤ most := by
 intro l
 induction l with
 | nil => intro many n pT pI; unfold Yee; split <;> (constructor <;> simp <;> omega)
 | cons b t ih =>
  intro many n pT pI
  unfold Yee
  split
  ·next hd =>
   have hr : 48 ≤ b.toNat ∧ b.toNat ≤ 57 := by unfold Ygd at hd; simpa using hd
   split
   ·exact ih true n pT pI
   ·next h => exact ih false _ Zk Zk
  ·constructor <;> simp <;> omega
theorem Ynn (most : Int) (h0 : 0 ≤ most) (l : List UInt8) : 0 ≤ (numL most l).1 ∧ (numL most l).1 ≤ most := by
 unfold numL
 split
 ·constructor <;> simp <;> omega
 ·exact Ypt most h0 l false 0 Zk h0
def Yyk (b : UInt8) : Bool := Yyc b || (Ygd b || (b == 45 || b == 95))
def Ygl (l : List UInt8) : Bool := l.all Yyk && (!l.isEmpty && decide (l.length ≤ 63))
theorem Ylk (b : UInt8) (n : Nat) (h : n < 256) : ((b.toNat : Int) = (n : Int)) ↔ b = UInt8.ofNat n := by
 constructor
 ·intro e
  apply UInt8.toNat_inj.1
  rw [UInt8.toNat_ofNat', Nat.mod_eq_of_lt h]; omega
 ·rintro rfl
  rw [UInt8.toNat_ofNat', Nat.mod_eq_of_lt h]
theorem isPart_l0 (s : ByteArray) (hs : s.size ≤ 100000000) : ∀ (L : List UInt8) (i : Nat), s.data.toList.drop i = L → i ≤ s.size →
  EvR (fun k => Ypb.l0 k s (s.size : Int) (i : Int)) (L.all Yyk && (!s.data.toList.isEmpty && decide (s.data.toList.length ≤ 63))) := by
 intro L
 induction L with
 | nil =>
  intro i hL hi
  have he := bt_end s i hL hi
  refine EvR.succ (EvR.of fun k => ?_)
  rw [Ypb.l0, if_neg Zk, Lib.toList_data]
  by_cases h : s.data.toList = []
  ·rw [if_pos h, h]; rfl
  ·rw [if_neg h]
   have h2 : s.data.toList.isEmpty = false := by cases hq : s.data.toList <;> simp_all
   have h3 : (decide ((s.size : Int) ≤ 63)) = decide (s.data.toList.length ≤ 63) := by rw [← Lib.size_eq]; exact decide_eq_decide.2 Zk
   rw [h2, h3]; simp
 | cons b t ih =>
  intro i hL hi
  obtain ⟨kU, hb, ht⟩ := Yvc s i b t hL
  have hw := Ywd i s.size hi hs
  refine EvR.succ ?_
  have hstep : ∀ k, Ypb.l0 (k + 1) s (s.size : Int) (i : Int) = if Yyk b = true then Ypb.l0 k s (s.size : Int) ((i + 1 : Nat) : Int) else some false := by
   intro k
   rw [Ypb.l0, if_pos Zk, if_pos Zk, if_pos Zk, hb, Yfk]
   simp only [Option.bind_some]
   rw [Ygj, hw]
   simp only [Option.bind_some]
   have h45 : ((b.toNat : Int) = 45) ↔ b = 45 := Ylk b 45 Zk
   have h95 : ((b.toNat : Int) = 95) ↔ b = 95 := Ylk b 95 Zk
   unfold Yyk
   cases h1 : Yyc b
   ·cases h2 : Ygd b
    ·by_cases h3 : b = 45
     ·rw [if_neg Zv, if_neg Zv, if_pos (h45.2 h3)]; simp [h3]
     ·by_cases h4 : b = 95
      ·rw [if_neg Zv, if_neg Zv, if_neg (fun e => h3 (h45.1 e)), if_pos (h95.2 h4)]; simp [h4]
      ·rw [if_neg Zv, if_neg Zv, if_neg (fun e => h3 (h45.1 e)), if_neg (fun e => h4 (h95.1 e))]; simp [h3, h4]
    ·simp
   ·simp
  by_cases hn : Yyk b = true
  ·refine EvR.congr (f := fun k => Ypb.l0 k s (s.size : Int) ((i + 1 : Nat) : Int)) ?_ (fun k => by rw [hstep, if_pos hn])
   have := ih (i + 1) ht Zk
   rw [List.all_cons, hn, Bool.true_and]; exact this
  ·refine EvR.of fun k => ?_
   rw [hstep, if_neg hn, List.all_cons]
   simp [hn]
theorem isPart_f (s : ByteArray) (hs : s.size ≤ 100000000) : EvR (fun k => Ypb.f k s) (Ygl s.data.toList) := by
 have := isPart_l0 s hs _ 0 rfl Zk
 exact this
end Go.Proofs.YtnmglnglbdpjjaaGreatDoor.X
namespace Go.Proofs.YtnmglnglbdpjjaaGreatDoor.X
open Go.RowKit Go.Lib Go.Shelf Go.Yw.PrintWords Go.Yw.PrintLast Go.Yw.PrintMore
set_option linter.unusedVariables false
set_option linter.unusedSimpArgs false
theorem set_mid (a r : List Int) (x y : Int) : (a ++ x :: r).set a.length y = a ++ y :: r := by
 rw [List.set_append_right _ _ (Nat.le_refl _), Nat.sub_self]; rfl
theorem rd_mid (a r : List Int) (x : Int) : rd (a ++ x :: r) (a.length : Int) = x := by
 unfold rd
 rw [Int.toNat_natCast, List.getD_eq_getElem?_getD, List.getElem?_append_right (Nat.le_refl _), Nat.sub_self]; rfl
theorem Yju : ∀ (m : Nat) (a mid c : List Int), mid.length < 2 * m + 2 → a.length + mid.length + c.length ≤ 1000000 →
  Yo.l0 (m + 1) (a ++ (mid ++ c)) (a.length : Int) ((a.length : Int) + mid.length - 1) = some (a ++ (mid.reverse ++ c)) := by
 intro m
 induction m with
 | zero =>
  intro a mid c hm hl
  rw [Yo.l0, if_neg Zk]
  match mid, hm with
  | [], _ => rfl
  | [x], _ => rfl
 | succ m ih =>
  intro a mid c hm hl
  rcases Nat.lt_or_ge mid.length 2 with h2 | h2
  ·rw [Yo.l0, if_neg Zk]
   match mid, h2 with
   | [], _ => rfl
   | [x], _ => rfl
  ·obtain ⟨x, m1, rfl⟩ : ∃ x m1, mid = x :: m1 := by cases mid with
    | nil => simp at h2
    | cons x m1 => exact ⟨x, m1, rfl⟩
   obtain ⟨m2, y, rfl⟩ : ∃ m2 y, m1 = m2 ++ [y] := by
    refine ⟨m1.dropLast, m1.getLast (by intro e; subst e; simp at h2), (List.dropLast_concat_getLast _).symm⟩
   simp only [List.length_cons, List.length_append, List.length_nil] at hm hl h2
   have hj : ((a.length : Int) + ((x :: (m2 ++ [y])).length : Nat) - 1) = (((a ++ x :: m2).length : Nat) : Int) := by simp; omega
   have hs : a ++ (x :: (m2 ++ [y]) ++ c) = (a ++ x :: m2) ++ y :: c := by simp
   have rC : a ++ (x :: (m2 ++ [y]) ++ c) = a ++ x :: (m2 ++ y :: c) := by simp
   rw [Yo.l0, hj]
   have hlen : (a ++ (x :: (m2 ++ [y]) ++ c)).length = a.length + m2.length + c.length + 2 := by simp; omega
   have hla : (a ++ x :: m2).length = a.length + m2.length + 1 := by simp; omega
   rw [if_pos Zk, if_pos Zk, if_pos (by rw [hlen]; omega), if_pos Zk, if_pos (by rw [hlen]; omega)]
   have r1 : rd (a ++ (x :: (m2 ++ [y]) ++ c)) (((a ++ x :: m2).length : Nat) : Int) = y := by rw [hs, rd_mid]
   have r2 : rd (a ++ (x :: (m2 ++ [y]) ++ c)) (a.length : Int) = x := by rw [rC, rd_mid]
   rw [r1, r2, Int.toNat_natCast, Int.toNat_natCast, rC, set_mid]
   have hs3 : a ++ y :: (m2 ++ y :: c) = (a ++ y :: m2) ++ y :: c := by simp
   have aVr : (a ++ x :: m2).length = (a ++ y :: m2).length := by simp
   rw [hs3, aVr, set_mid]
   have w1 : wrap64 ((a.length : Int) + 1) = (((a ++ [y]).length : Nat) : Int) := by simp; unfold wrap64; omega
   have w2 : wrap64 ((((a ++ y :: m2).length : Nat) : Int) - 1) = (((a ++ [y]).length : Nat) : Int) + (m2.length : Nat) - 1 := by simp; unfold wrap64; omega
   have hs4 : (a ++ y :: m2) ++ x :: c = (a ++ [y]) ++ (m2 ++ (x :: c)) := by simp
   rw [w1, w2, hs4, ih (a ++ [y]) m2 (x :: c) Zk Zib]
   simp
theorem Ypp (xs : List Int) (h : xs.length ≤ 1000000) : EvR (fun k => Yo.f k xs) xs.reverse := by
 refine EvR.mono (Yo.mono xs) (k0 := xs.length + 1) ?_
 unfold Yo.f
 have hw : wrap64 ((xs.length : Int) - 1) = (([] : List Int).length : Int) + (xs.length : Nat) - 1 := by simp; unfold wrap64; omega
 have := Yju xs.length [] xs [] Zk (by simp; exact h)
 simp only [List.nil_append, List.append_nil] at this
 rw [hw]; exact this
def digs : Nat → Nat → List Int
 | 0, _ => []
 | f + 1, v => if v = 0 then [] else (48 + ((v % 10 : Nat) : Int)) :: digs f (v / 10)
def Yqf (v : Nat) : List Int := if v = 0 then [48] else (digs 20 v).reverse
theorem Ypg (n : Int) (h0 : 0 ≤ n) (h1 : n < 18446744073709551616) : IntKind.u64.wrap n = n := by
 unfold IntKind.wrap
 simp [IntKind.bits, IntKind.signed]
 omega
theorem Yos : ∀ (f v : Nat), (digs f v).length ≤ f := by
 intro f
 induction f with
 | zero => intro v; simp [digs]
 | succ f ih => intro v; unfold digs; split; simp; have := ih (v / 10); simp; omega
theorem Yqr (x0 : Int) (hx : 0 ≤ x0) : ∀ (f v : Nat) (acc : List Int), v < 10 ^ f → v < 18446744073709551616 → acc.length + f ≤ 1000 → (acc ≠ [] ∨ v ≠ 0) →
  EvR (fun k => Ymb.l0 k x0 1 (v : Int) acc) (strOfNums (acc ++ digs f v).reverse) := by
 have hz : ∀ acc : List Int, acc.length ≤ 1000 → acc ≠ [] → EvR (fun k => Ymb.l0 k x0 1 (((0 : Nat) : Int)) acc) (strOfNums acc.reverse) := by
  intro acc hl hne
  have h1 : 0 < acc.length := List.length_pos_iff.2 hne
  have hm : mx (mn 1 20) 1 = 1 := rfl
  refine EvR.succ ?_
  refine EvR.congr (f := fun k => (Yo.f k acc).bind fun t => some (strOfNums t)) ?_ (fun k => ?_)
  ·exact EvR.bind (g := fun _ t => some (strOfNums t)) (Ypp acc Zk) (EvR.of fun _ => rfl)
  ·rw [Ymb.l0, if_neg Zk, hm, if_neg Zk, if_neg Zk]
 intro f
 induction f with
 | zero =>
  intro v acc hv hv2 hl hn
  have : v = 0 := by simpa using hv
  subst this
  rw [show digs 0 0 = [] from rfl, List.append_nil]
  exact hz acc Zk (by rcases hn with h | h; exact h; exact absurd rfl h)
 | succ f ih =>
  intro v acc hv hv2 hl hn
  by_cases h0 : v = 0
  ·subst h0
   rw [show digs (f + 1) 0 = [] from rfl, List.append_nil]
   exact hz acc Zk (by rcases hn with h | h; exact h; exact absurd rfl h)
  ·refine EvR.succ ?_
   have hd : digs (f + 1) v = (48 + ((v % 10 : Nat) : Int)) :: digs f (v / 10) := by rw [digs, if_neg h0]
   rw [hd, show acc ++ (48 + ((v % 10 : Nat) : Int)) :: digs f (v / 10) = (acc ++ [48 + ((v % 10 : Nat) : Int)]) ++ digs f (v / 10) by simp]
   refine (ih (v / 10) (acc ++ [48 + ((v % 10 : Nat) : Int)]) (by rw [Nat.pow_succ] at hv; omega) Zk Zib (.inl Zv)).congr (fun k => ?_)
   rw [Ymb.l0, if_pos Zk, if_pos Zk, Int.tdiv_eq_ediv_of_nonneg Zk, Int.tmod_eq_emod_of_nonneg Zk, Ypg _ Zk Zk, Ypg _ Zk Zk]
   have e1 : (v : Int) / 10 = ((v / 10 : Nat) : Int) := by omega
   have e2 : (48 + (v : Int) % 10) % 256 = 48 + ((v % 10 : Nat) : Int) := by omega
   rw [e1, e2]
theorem text_f (v : Nat) (hv : v < 10 ^ 18) : EvR (fun k => Yme.f k (v : Int)) (strOfNums (Yqf v)) := by
 have h2 : v < 18446744073709551616 := by omega
 have hl : EvR (fun k => Ymb.l0 k (v : Int) 1 (v : Int) []) (strOfNums (Yqf v)) := by
  unfold Yqf
  by_cases h0 : v = 0
  ·subst h0
   rw [if_pos rfl]
   refine EvR.succ ?_
   refine (Yqr 0 Zk 0 0 [48] Zk Zk Zv (.inl Zv)).congr (fun k => ?_)
   rfl
  ·rw [if_neg h0]
   exact Yqr (v : Int) Zk 20 v [] Zk h2 Zv (.inr h0)
 refine EvR.congr (f := fun k => (Ymb.f k (v : Int) 1).bind fun t => some t) ?_ (fun k => rfl)
 refine EvR.bind (g := fun _ t => some t) (x := strOfNums (Yqf v)) ?_ (EvR.of fun _ => rfl)
 refine EvR.congr (f := fun k => Ymb.j0 k (v : Int) 1 (v : Int)) ?_ (fun k => by unfold Ymb.f; rw [if_neg Zk, Ypg _ Zk Zk])
 refine EvR.succ (hl.congr fun k => ?_)
 rw [Ymb.j0]
def Ydk (l : List UInt8) : Bool := (numL 255 l).2 == 0 && (strOfNums (Yqf (numL 255 l).1.toNat)).data.toList == l
theorem isByte_f (s : ByteArray) (hs : s.size ≤ 100000000) : EvR (fun k => Yxe.f k s) (Ydk s.data.toList) := by
 have hn := Ywo s 255 Zk Zk hs
 have hb := Ynn 255 Zk s.data.toList
 unfold Ydk
 unfold Yxe.f
 refine EvR.bind (g := fun k x => if x.2 = 0 then (Yme.f k x.1).bind fun t => some (t.toList == s.toList) else some false) hn ?_
 by_cases he : (numL 255 s.data.toList).2 = 0
 ·refine EvR.congr (f := fun k => (Yme.f k (((numL 255 s.data.toList).1.toNat : Nat) : Int)).bind fun t => some (t.toList == s.toList)) ?_ (fun k => by rw [if_pos he, Int.toNat_of_nonneg hb.1])
  refine EvR.bind (g := fun _ t => some (t.toList == s.toList)) (text_f (numL 255 s.data.toList).1.toNat Zk) (EvR.of fun _ => ?_)
  rw [he, Lib.toList_data, Lib.toList_data]; rfl
 ·refine EvR.of fun k => ?_
  rw [if_neg he]
  have : ((numL 255 s.data.toList).2 == 0) = false := beq_eq_false_iff_ne.2 he
  rw [this]; rfl
def Yji (l : List UInt8) : Bool := (splitB 46 l).all Ygl && (decide (l.length ≤ 253) && ((numL 0 ((splitB 46 l).getD ((splitB 46 l).length - 1) [])).2 == 3 || ((splitB 46 l).length == 4 && (splitB 46 l).all Ydk)))
theorem Ywg (xs : List (List UInt8)) (i : Nat) (h : i < xs.length) : rdOf ByteArray.empty (xs.map ofL) (i : Int) = ofL (xs.getD i []) := by
 unfold rdOf
 rw [Int.toNat_natCast, List.getD_eq_getElem?_getD, List.getD_eq_getElem?_getD, List.getElem?_map, List.getElem?_eq_getElem h]; rfl
theorem isName_l0 (s : ByteArray) (xs : List (List UInt8)) (hne : 0 < xs.length) (hl : xs.length ≤ 100000000) (hx : ∀ x ∈ xs, x.length ≤ 100000000) : ∀ (L : List (List UInt8)) (i : Nat) (four : Bool), xs.drop i = L → i ≤ xs.length →
  EvR (fun k => Ynb.l0 k s (xs.map ofL) four (xs.map ofL) (xs.length : Int) (i : Int)) (L.all Ygl && (decide (s.size ≤ 253) && ((numL 0 (xs.getD (xs.length - 1) [])).2 == 3 || (four && L.all Ydk)))) := by
 intro L
 induction L with
 | nil =>
  intro i four hL hi
  have he : i = xs.length := by
   have := congrArg List.length hL
   rw [List.length_drop] at this
   simp only [List.length_nil] at this; omega
  refine EvR.succ ?_
  have hw : wrap64 ((((xs.map ofL).length : Nat) : Int) - 1) = ((xs.length - 1 : Nat) : Int) := by rw [List.length_map]; unfold wrap64; omega
  have hlast : (xs.getD (xs.length - 1) []).length ≤ 100000000 := by
   have h1 : xs.length - 1 < xs.length := by omega
   rw [List.getD_eq_getElem?_getD, List.getElem?_eq_getElem h1]
   exact hx _ (List.getElem_mem h1)
  have hn := Ywo (ofL (xs.getD (xs.length - 1) [])) 0 Zk Zk (by rw [Yx]; exact hlast)
  rw [Yfb] at hn
  refine EvR.congr (f := fun k => (Yja.f k (ofL (xs.getD (xs.length - 1) [])) 0).bind fun bt => if (s.size : Int) ≤ 253 then (if bt.2 = 3 then some true else some four) else some false) ?_ (fun k => ?_)
  ·refine EvR.bind (g := fun _ bt => if (s.size : Int) ≤ 253 then (if bt.2 = 3 then some true else some four) else some false) hn (EvR.of fun _ => ?_)
   by_cases h1 : s.size ≤ 253
   ·rw [if_pos Zk, decide_eq_true h1]
    by_cases h2 : (numL 0 (xs.getD (xs.length - 1) [])).2 = 3
    ·rw [if_pos h2, h2]; simp
    ·rw [if_neg h2, beq_eq_false_iff_ne.2 h2]; simp
   ·rw [if_neg Zk, decide_eq_false h1]; simp
  ·rw [Ynb.l0, if_neg Zk, hw, if_pos Zk, if_pos Zrb, Ywg xs _ Zk]
 | cons p t ih =>
  intro i four hL hi
  have kU : i < xs.length := by
   have := congrArg List.length hL
   rw [List.length_drop] at this
   simp only [List.length_cons] at this; omega
  have ht : xs.drop (i + 1) = t := by have h9 := List.drop_drop (i := 1) (j := i) (l := xs); rw [hL] at h9; rw [← h9]; rfl
  have hp : xs.getD i [] = p := by
   have h9 := List.getElem?_drop (xs := xs) (i := i) (j := 0)
   rw [hL, Nat.add_zero] at h9
   rw [List.getD_eq_getElem?_getD, ← h9]; rfl
  have hpl : p.length ≤ 100000000 := hx p (by rw [← hp, List.getD_eq_getElem?_getD, List.getElem?_eq_getElem kU]; exact List.getElem_mem kU)
  have hw := Ywd i xs.length hi Zk
  refine EvR.succ ?_
  have h1 := isPart_f (ofL p) (by rw [Yx]; exact hpl)
  have h2 := isByte_f (ofL p) (by rw [Yx]; exact hpl)
  rw [Yfb] at h1 h2
  refine EvR.congr (f := fun k => (Ypb.f k (ofL p)).bind fun c => if c = true then (if four = true then ((Yxe.f k (ofL p)).bind fun d => Ynb.l0 k s (xs.map ofL) d (xs.map ofL) (xs.length : Int) ((i + 1 : Nat) : Int)) else Ynb.l0 k s (xs.map ofL) false (xs.map ofL) (xs.length : Int) ((i + 1 : Nat) : Int)) else some false) ?_ (fun k => ?_)
  ·refine EvR.bind (g := fun k c => if c = true then (if four = true then ((Yxe.f k (ofL p)).bind fun d => Ynb.l0 k s (xs.map ofL) d (xs.map ofL) (xs.length : Int) ((i + 1 : Nat) : Int)) else Ynb.l0 k s (xs.map ofL) false (xs.map ofL) (xs.length : Int) ((i + 1 : Nat) : Int)) else some false) h1 ?_
   by_cases hn : Ygl p = true
   ·rw [List.all_cons, List.all_cons, hn, Bool.true_and]
    cases four with
    | true =>
     refine EvR.congr (f := fun k => (Yxe.f k (ofL p)).bind fun d => Ynb.l0 k s (xs.map ofL) d (xs.map ofL) (xs.length : Int) ((i + 1 : Nat) : Int)) ?_ (fun k => by rw [if_pos rfl, if_pos rfl])
     refine EvR.bind (g := fun k d => Ynb.l0 k s (xs.map ofL) d (xs.map ofL) (xs.length : Int) ((i + 1 : Nat) : Int)) h2 ?_
     have := ih (i + 1) (Ydk p) ht Zk
     simpa using this
    | false =>
     refine EvR.congr (f := fun k => Ynb.l0 k s (xs.map ofL) false (xs.map ofL) (xs.length : Int) ((i + 1 : Nat) : Int)) ?_ (fun k => by rw [if_pos rfl, if_neg Zv])
     have := ih (i + 1) false ht Zk
     simpa using this
   ·refine EvR.of fun k => ?_
    rw [if_neg hn, List.all_cons]
    have : Ygl p = false := by cases h : Ygl p <;> simp_all
    rw [this]; rfl
  ·rw [Ynb.l0, if_pos Zk, if_pos Zk, if_pos Zrb, Ywg xs i kU, hp, hw]
theorem isName_f (s : ByteArray) (hs : s.size ≤ 90000000) : EvR (fun k => Ynb.f k s) (Yji s.data.toList) := by
 have hlen := Yel 46 s.data.toList
 rw [← Lib.size_eq] at hlen
 have hpos : 0 < (splitB 46 s.data.toList).length := List.length_pos_iff.2 (Ylf _ _)
 have hxs : ∀ x ∈ splitB 46 s.data.toList, x.length ≤ 100000000 := by
  intro x hx
  have h1 := Ypo 46 s.data.toList
  have h2 : ∀ (l : List (List UInt8)), x ∈ l → x.length + 1 ≤ tot l := by
   intro l
   induction l with
   | nil => intro h; cases h
   | cons y l ih =>
    intro h
    simp only [tot, List.map_cons, List.sum_cons] at ih ⊢
    rcases List.mem_cons.1 h with rfl | h
    ·omega
    ·have := ih h; omega
  have := h2 _ hx
  rw [← Lib.size_eq] at h1; omega
 have hsp : EvR (fun k => Ylb.f k s 46) ((splitB 46 s.data.toList).map ofL) :=
  EvR.mono (Ylb.mono s 46) (split_f s 46 Zk)
 unfold Ynb.f
 refine EvR.bind (g := fun k t => Ynb.l0 k s t ((t.length : Int) == 4) t (t.length : Int) 0) hsp ?_
 have h := isName_l0 s (splitB 46 s.data.toList) hpos Zk hxs _ 0 ((splitB 46 s.data.toList).length == 4) rfl Zk
 have e4 : ((((((splitB 46 s.data.toList).map ofL).length : Nat) : Int)) == 4) = ((splitB 46 s.data.toList).length == 4) := by
  rw [List.length_map]
  by_cases h : (splitB 46 s.data.toList).length = 4
  ·rw [h]; rfl
  ·rw [beq_eq_false_iff_ne.2 h, beq_eq_false_iff_ne.2 Zk]
 rw [e4, List.length_map]
 unfold Yji
 rw [Lib.size_eq] at h
 exact h
end Go.Proofs.YtnmglnglbdpjjaaGreatDoor.X
namespace Go.Proofs.YtnmglnglbdpjjaaGreatDoor.X
open Go.RowKit Go.Lib Go.Shelf Go.Yw.PrintWords Go.Yw.PrintLast Go.Yw.PrintMore
set_option linter.unusedVariables false
set_option linter.unusedSimpArgs false
def Ywb (b : UInt8) : Bool := Yyc b || (Ygd b || (b == 43 || (b == 45 || b == 46)))
abbrev Yxg : List UInt8 := [104, 116, 116, 112]
abbrev Yuf : List UInt8 := [104, 116, 116, 112, 115]
theorem sign_f (b : UInt8) : strings_IndexByte.f (⟨#[43, 45, 46]⟩ : ByteArray) (b.toNat : Int) = some (if b = 43 then 0 else if b = 45 then 1 else if b = 46 then 2 else -1) := by
 revert b; exact Ybd Zma
theorem Yql (l sep : List UInt8) : (Lib.cut l sep).1.length ≤ l.length ∧ (Lib.cut l sep).2.1.length ≤ l.length := by
 unfold Lib.cut
 split
 ·constructor
  ·simp only [List.length_take]; omega
  ·simp only [List.length_drop]; omega
 ·constructor <;> simp
def Ybf (l : List UInt8) (sch : ByteArray) : Int × ByteArray × ByteArray :=
 if (Lib.cut l [58]).2.2 = true ∧ (Lib.cut l [58]).1 ≠ [] ∧ Yyc ((Lib.cut l [58]).1.headD 0) = true ∧ (Lib.cut l [58]).1.all Ywb = true then
  (if lowL (Lib.cut l [58]).1 = Yxg ∨ lowL (Lib.cut l [58]).1 = Yuf then 0 else 16, ofL (Lib.cut l [58]).2.1, ofL (lowL (Lib.cut l [58]).1))
 else (3, ofL l, sch)
theorem scheme_l0 (x3 x4 s0 s1 s2 : ByteArray) (s3 : Int) (s4 s5 s6 : ByteArray) (s7 s8 : Bool) (hs : x3.size ≤ 100000000) : ∀ (L : List UInt8) (i : Nat), x3.data.toList.drop i = L → i ≤ x3.size →
  EvR (fun k => Yu.l0 k x3 x4 (x3.size : Int) (i : Int) s0 s1 s2 s3 s4 s5 s6 s7 s8)
   (if L.all Ywb = true then (if lowL x3.data.toList = Yxg ∨ lowL x3.data.toList = Yuf then (0 : Int) else 16, x4, ofL (lowL x3.data.toList), s2, s3, s4, s5, s6, s7, s8) else (3, s0, s1, s2, s3, s4, s5, s6, s7, s8)) := by
 intro L
 induction L with
 | nil =>
  intro i hL hi
  have he := bt_end x3 i hL hi
  refine EvR.succ (EvR.of fun k => ?_)
  have hlo : Yib.f x3 = some (ofL (lowL x3.data.toList)) := by unfold Yib.f; rw [if_pos Zk]
  rw [Yu.l0, if_neg Zk, hlo]
  simp only [Option.bind_some, Ywc, List.all_nil, if_true]
  by_cases h1 : lowL x3.data.toList = Yxg
  ·rw [if_pos h1, if_pos (Or.inl h1)]
  ·rw [if_neg h1]
   by_cases h2 : lowL x3.data.toList = Yuf
   ·rw [if_pos h2, if_pos (Or.inr h2)]
   ·rw [if_neg h2, if_neg (by rintro (h | h); exact h1 h; exact h2 h)]
 | cons b t ih =>
  intro i hL hi
  obtain ⟨kU, hb, ht⟩ := Yvc x3 i b t hL
  have hw := Ywd i x3.size hi hs
  refine EvR.succ ?_
  have hstep : ∀ k, Yu.l0 (k + 1) x3 x4 (x3.size : Int) (i : Int) s0 s1 s2 s3 s4 s5 s6 s7 s8 = if Ywb b = true then Yu.l0 k x3 x4 (x3.size : Int) ((i + 1 : Nat) : Int) s0 s1 s2 s3 s4 s5 s6 s7 s8 else some (3, s0, s1, s2, s3, s4, s5, s6, s7, s8) := by
   intro k
   rw [Yu.l0, if_pos Zk, if_pos Zk, if_pos Zk, hb, Yfk]
   simp only [Option.bind_some]
   rw [Ygj, hw, sign_f]
   simp only [Option.bind_some]
   unfold Ywb
   cases h1 : Yyc b
   ·cases h2 : Ygd b
    ·rw [if_neg Zv, if_neg Zv]
     by_cases h3 : b = 43
     ·simp [h3]
     ·by_cases h4 : b = 45
      ·simp [h4]
      ·by_cases h5 : b = 46
       ·simp [h5]
       ·simp [h3, h4, h5]
    ·simp
   ·simp
  by_cases hn : Ywb b = true
  ·refine EvR.congr (f := fun k => Yu.l0 k x3 x4 (x3.size : Int) ((i + 1 : Nat) : Int) s0 s1 s2 s3 s4 s5 s6 s7 s8) ?_ (fun k => by rw [hstep, if_pos hn])
   have := ih (i + 1) ht Zk
   rw [List.all_cons, hn, Bool.true_and]; exact this
  ·refine EvR.of fun k => ?_
   rw [hstep, if_neg hn, List.all_cons]
   simp [hn]
theorem scheme_f (s0 s1 s2 : ByteArray) (s3 : Int) (s4 s5 s6 : ByteArray) (s7 s8 : Bool) (hs : s0.size ≤ 100000000) :
  EvR (fun k => Yu.f k s0 s1 s2 s3 s4 s5 s6 s7 s8) ((Ybf s0.data.toList s1).1, (Ybf s0.data.toList s1).2.1, (Ybf s0.data.toList s1).2.2, s2, s3, s4, s5, s6, s7, s8) := by
 have hc : strings_Cut.f s0 ⟨#[58]⟩ = some (ofL (Lib.cut s0.data.toList [58]).1, ofL (Lib.cut s0.data.toList [58]).2.1, (Lib.cut s0.data.toList [58]).2.2) := by
  unfold strings_Cut.f; rw [if_pos Zk]
 have hl := (Yql s0.data.toList [58]).1
 rw [← Lib.size_eq] at hl
 have hno : Ybf s0.data.toList s1 = (3, s0, s1) ∨ ((Lib.cut s0.data.toList [58]).2.2 = true ∧ (Lib.cut s0.data.toList [58]).1 ≠ [] ∧ Yyc ((Lib.cut s0.data.toList [58]).1.headD 0) = true) := by
  unfold Ybf
  by_cases h : (Lib.cut s0.data.toList [58]).2.2 = true ∧ (Lib.cut s0.data.toList [58]).1 ≠ [] ∧ Yyc ((Lib.cut s0.data.toList [58]).1.headD 0) = true
  ·exact .inr h
  ·left
   rw [if_neg (fun h2 => h ⟨h2.1, h2.2.1, h2.2.2.1⟩), Yci]
 have hj : ∀ (x3 x4 : ByteArray) k, Yu.j0 (k + 1) x3 x4 true s0 s1 s2 s3 s4 s5 s6 s7 s8 = some (3, s0, s1, s2, s3, s4, s5, s6, s7, s8) := by
  intro x3 x4 k; rw [Yu.j0, if_pos rfl]
 by_cases h1 : (Lib.cut s0.data.toList [58]).2.2 = true
 ·by_cases h2 : (Lib.cut s0.data.toList [58]).1 = []
  ·rcases hno with hno | hno
   ·rw [hno]
    refine EvR.succ (EvR.of fun k => ?_)
    unfold Yu.f
    rw [hc]
    simp only [Option.bind_some]
    rw [if_pos h1, if_pos (by rw [Ywc]; exact h2), hj]
   ·exact absurd h2 hno.2.1
  ·have hpos : 0 < (ofL (Lib.cut s0.data.toList [58]).1).size := by rw [Yx]; exact List.length_pos_iff.2 h2
   have hbt : bt (ofL (Lib.cut s0.data.toList [58]).1) 0 = (((Lib.cut s0.data.toList [58]).1.headD 0).toNat : Int) := by
    cases hq : (Lib.cut s0.data.toList [58]).1 with
    | nil => exact absurd hq h2
    | cons b t => rfl
   have hf : ∀ k, Yu.f k s0 s1 s2 s3 s4 s5 s6 s7 s8 = Yu.j0 k (ofL (Lib.cut s0.data.toList [58]).1) (ofL (Lib.cut s0.data.toList [58]).2.1) (!(Yyc ((Lib.cut s0.data.toList [58]).1.headD 0))) s0 s1 s2 s3 s4 s5 s6 s7 s8 := by
    intro k
    unfold Yu.f
    rw [hc]
    simp only [Option.bind_some]
    rw [if_pos h1, if_neg (by rw [Ywc]; exact h2), if_pos Zk, hbt, Yfk]
    rfl
   by_cases h3 : Yyc ((Lib.cut s0.data.toList [58]).1.headD 0) = true
   ·refine EvR.congr (f := fun k => Yu.j0 k (ofL (Lib.cut s0.data.toList [58]).1) (ofL (Lib.cut s0.data.toList [58]).2.1) false s0 s1 s2 s3 s4 s5 s6 s7 s8) ?_ (fun k => by rw [hf, h3]; rfl)
    refine EvR.succ ?_
    refine EvR.congr (f := fun k => Yu.l0 k (ofL (Lib.cut s0.data.toList [58]).1) (ofL (Lib.cut s0.data.toList [58]).2.1) ((ofL (Lib.cut s0.data.toList [58]).1).size : Int) ((0 : Nat) : Int) s0 s1 s2 s3 s4 s5 s6 s7 s8) ?_ (fun k => by rw [Yu.j0, if_neg Zv]; rfl)
    have h := scheme_l0 (ofL (Lib.cut s0.data.toList [58]).1) (ofL (Lib.cut s0.data.toList [58]).2.1) s0 s1 s2 s3 s4 s5 s6 s7 s8 Zba _ 0 rfl Zk
    rw [List.drop_zero, Yfb] at h
    unfold Ybf
    by_cases h4 : (Lib.cut s0.data.toList [58]).1.all Ywb = true
    ·rw [if_pos h4] at h
     rw [if_pos ⟨h1, h2, h3, h4⟩]
     exact h
    ·rw [if_neg h4] at h
     rw [if_neg (fun h5 => h4 h5.2.2.2), Yci]
     exact h
   ·have h4 : Yyc ((Lib.cut s0.data.toList [58]).1.headD 0) = false := by cases hq : Yyc ((Lib.cut s0.data.toList [58]).1.headD 0) <;> simp_all
    rcases hno with hno | hno
    ·rw [hno]
     refine EvR.succ (EvR.of fun k => ?_)
     rw [hf, h4]
     exact hj _ _ k
    ·exact absurd hno.2.2 h3
 ·rcases hno with hno | hno
  ·rw [hno]
   refine EvR.succ (EvR.of fun k => ?_)
   unfold Yu.f
   rw [hc]
   simp only [Option.bind_some]
   rw [if_neg h1, hj]
  ·exact absurd hno.1 h1
def Ydf (l : List UInt8) : List UInt8 × Int := if lowL (Yob l) = [] then ([], 4) else if Yji (lowL (Yob l)) = true then (lowL (Yob l), 0) else ([], 17)
theorem Ypk : ∀ (n : Nat) (l : List UInt8), l.length ≤ n → (Yob l).length ≤ l.length := by
 intro n
 induction n with
 | zero => intro l h; cases l with | nil => simp [Yob] | cons b l => simp at h
 | succ n ih =>
  intro l h
  match l, h with
  | [], _ => simp [Yob]
  | [c], _ => simp [Yob]
  | [c, d], _ => simp [Yob]
  | c :: a :: b :: t, h =>
   rw [Yob]
   simp only [List.length_cons] at h
   split
   ·have := ih t Zk; simp only [List.length_cons]; omega
   ·have := ih (a :: b :: t) (by simp only [List.length_cons]; omega); simp only [List.length_cons] at this ⊢; omega
theorem host_f (s : ByteArray) (hs : s.size ≤ 90000000) : EvR (fun k => Yte.f k s) (ofL (Ydf s.data.toList).1, (Ydf s.data.toList).2) := by
 have hu : Ybe.f s = some (ofL (Yob s.data.toList)) := by unfold Ybe.f; rw [if_pos Zk]
 have hul := Ypk _ s.data.toList (Nat.le_refl _)
 rw [← Lib.size_eq] at hul
 have hl : Yib.f (ofL (Yob s.data.toList)) = some (ofL (lowL (Yob s.data.toList))) := by
  unfold Yib.f; rw [if_pos Zba, Yfb]
 have hf : ∀ k, Yte.f k s = if lowL (Yob s.data.toList) = [] then some ((⟨#[]⟩ : ByteArray), 4) else ((Ynb.f k (ofL (lowL (Yob s.data.toList)))).bind fun c => if c = true then some (ofL (lowL (Yob s.data.toList)), 0) else some ((⟨#[]⟩ : ByteArray), 17)) := by
  intro k
  unfold Yte.f
  rw [hu]
  simp only [Option.bind_some]
  rw [hl]
  simp only [Option.bind_some, Ywc]
 unfold Ydf
 by_cases h0 : lowL (Yob s.data.toList) = []
 ·refine EvR.of fun k => ?_
  rw [hf, if_pos h0, if_pos h0]; rfl
 ·refine EvR.congr (f := fun k => (Ynb.f k (ofL (lowL (Yob s.data.toList)))).bind fun c => if c = true then some (ofL (lowL (Yob s.data.toList)), 0) else some ((⟨#[]⟩ : ByteArray), 17)) ?_ (fun k => by rw [hf, if_neg h0])
  have hn := isName_f (ofL (lowL (Yob s.data.toList))) (by rw [Yx, Yfh]; omega)
  rw [Yfb] at hn
  refine EvR.bind (g := fun _ c => if c = true then some (ofL (lowL (Yob s.data.toList)), 0) else some ((⟨#[]⟩ : ByteArray), 17)) hn (EvR.of fun _ => ?_)
  rw [if_neg h0]
  by_cases h1 : Yji (lowL (Yob s.data.toList)) = true
  ·rw [if_pos h1, if_pos h1]
  ·rw [if_neg h1, if_neg h1]; rfl
def Yyb (l : List UInt8) : List UInt8 := (Lib.trimLeftS l [47, 92]).takeWhile (Ycb [47, 92, 63, 35])
def Ywf (l : List UInt8) : List UInt8 := (Lib.trimLeftS l [47, 92]).dropWhile (Ycb [47, 92, 63, 35])
def ownN (sch : List UInt8) : Int := if sch = Yxg then 80 else 443
def Ykf (l sch : List UInt8) (host : ByteArray) (port : Int) : Int × ByteArray × ByteArray × Int :=
 if Lib.indexAny l [47, 92] = 0 then
  if Lib.indexByte (Yyb l) 64 ≥ 0 then (3, ofL (Ywf l), host, port) else
   if (Ydf (Lib.cut (Yyb l) [58]).1).2 = 0 then
    if (Lib.cut (Yyb l) [58]).2.1 = [] then (0, ofL (Ywf l), ofL (Ydf (Lib.cut (Yyb l) [58]).1).1, port) else
     if (numL 65535 (Lib.cut (Yyb l) [58]).2.1).2 = 0 then
      if (numL 65535 (Lib.cut (Yyb l) [58]).2.1).1 = ownN sch then (0, ofL (Ywf l), ofL (Ydf (Lib.cut (Yyb l) [58]).1).1, port)
      else (0, ofL (Ywf l), ofL (Ydf (Lib.cut (Yyb l) [58]).1).1, (numL 65535 (Lib.cut (Yyb l) [58]).2.1).1)
     else (3, ofL (Ywf l), ofL (Ydf (Lib.cut (Yyb l) [58]).1).1, port)
   else ((Ydf (Lib.cut (Yyb l) [58]).1).2, ofL (Ywf l), host, port)
 else (3, ofL l, host, port)
theorem place_f (s0 s1 s2 : ByteArray) (s3 : Int) (s4 s5 s6 : ByteArray) (s7 s8 : Bool) (hs : s0.size ≤ 90000000) :
  EvR (fun k => Ygf.f k s0 s1 s2 s3 s4 s5 s6 s7 s8) ((Ykf s0.data.toList s1.data.toList s2 s3).1, (Ykf s0.data.toList s1.data.toList s2 s3).2.1, s1, (Ykf s0.data.toList s1.data.toList s2 s3).2.2.1, (Ykf s0.data.toList s1.data.toList s2 s3).2.2.2, s4, s5, s6, s7, s8) := by
 have hi : strings_IndexAny.f s0 ⟨#[47, 92]⟩ = some (Lib.indexAny s0.data.toList [47, 92]) := by
  unfold strings_IndexAny.f; rw [if_pos ⟨rfl, Zda, Zda, Zk⟩]
 unfold Ykf
 unfold Ygf.f
 rw [hi]
 simp only [Option.bind_some]
 by_cases h1 : Lib.indexAny s0.data.toList [47, 92] = 0
 ·rw [if_pos h1]
  have ht : Ync.f s0 ⟨#[47, 92]⟩ = some (ofL (Lib.trimLeftS s0.data.toList [47, 92])) := by
   unfold Ync.f; rw [if_pos ⟨Zda, Zda⟩]
  have htl : (Lib.trimLeftS s0.data.toList [47, 92]).length ≤ s0.size := by rw [Lib.size_eq]; exact (List.dropWhile_sublist _).length_le
  have hph : (Yyb s0.data.toList).length ≤ s0.size := Nat.le_trans (Ype _ _) htl
  have hk : Yfc.f (ofL (Lib.trimLeftS s0.data.toList [47, 92])) s1 s2 s3 s4 s5 s6 s7 s8 ⟨#[47, 92, 63, 35]⟩ = some (ofL (Yyb s0.data.toList), ofL (Ywf s0.data.toList), s1, s2, s3, s4, s5, s6, s7, s8) := by
   rw [take_f _ _ _ _ _ _ _ _ _ _ rfl Zba]; rfl
  have hcl := Yql (Yyb s0.data.toList) [58]
  have hc : strings_Cut.f (ofL (Yyb s0.data.toList)) ⟨#[58]⟩ = some (ofL (Lib.cut (Yyb s0.data.toList) [58]).1, ofL (Lib.cut (Yyb s0.data.toList) [58]).2.1, (Lib.cut (Yyb s0.data.toList) [58]).2.2) := by
   unfold strings_Cut.f; rw [if_pos Zba]; rfl
  have hat : strings_IndexByte.f (ofL (Yyb s0.data.toList)) 64 = some (Lib.indexByte (Yyb s0.data.toList) 64) := rfl
  rw [ht]
  simp only [Option.bind_some]
  rw [hk]
  simp only [Option.bind_some]
  rw [hat]
  simp only [Option.bind_some]
  by_cases h2 : Lib.indexByte (Yyb s0.data.toList) 64 ≥ 0
  ·refine EvR.of fun k => ?_
   rw [if_pos h1, if_pos h2, if_pos h2]
  ·rw [if_neg h2, hc]
   simp only [Option.bind_some]
   have hh := host_f (ofL (Lib.cut (Yyb s0.data.toList) [58]).1) Zba
   rw [Yfb] at hh
   simp only [if_pos h1, if_neg h2]
   refine EvR.bind hh ?_
   by_cases h3 : (Ydf (Lib.cut (Yyb s0.data.toList) [58]).1).2 = 0
   ·simp only [if_pos h3, Ywc]
    by_cases h4 : (Lib.cut (Yyb s0.data.toList) [58]).2.1 = []
    ·refine EvR.of fun k => ?_
     simp only [if_pos h4]
    ·simp only [if_neg h4]
     have hn := Ywo (ofL (Lib.cut (Yyb s0.data.toList) [58]).2.1) 65535 Zk Zk Zba
     rw [Yfb] at hn
     refine EvR.bind hn (EvR.of fun k => ?_)
     by_cases h5 : (numL 65535 (Lib.cut (Yyb s0.data.toList) [58]).2.1).2 = 0
     ·simp only [if_pos h5]
      have ho : Yzf.f s1 = some (ownN s1.data.toList) := by
       unfold Yzf.f ownN
       rw [Lib.toList_data]
       split <;> rfl
      rw [ho]
      simp only [Option.bind_some]
      by_cases h6 : (numL 65535 (Lib.cut (Yyb s0.data.toList) [58]).2.1).1 = ownN s1.data.toList
      ·simp only [if_pos h6]
      ·simp only [if_neg h6]
     ·simp only [if_neg h5]
   ·refine EvR.of fun k => ?_
    simp only [if_neg h3]
 ·refine EvR.of fun k => ?_
  simp only [if_neg h1, Yci]
end Go.Proofs.YtnmglnglbdpjjaaGreatDoor.X
namespace Go.Proofs.YtnmglnglbdpjjaaGreatDoor.X
open Go.RowKit Go.Lib Go.Shelf Go.Yw.PrintWords Go.Yw.PrintLast Go.Yw.PrintMore
set_option linter.unusedVariables false
set_option linter.unusedSimpArgs false
def Ytf (a0 a1 : ByteArray) (p : Int) : ByteArray := if p = 0 then (a0 ++ (⟨#[58, 47, 47]⟩ : ByteArray)) ++ a1 else ((a0 ++ (⟨#[58, 47, 47]⟩ : ByteArray)) ++ a1) ++ ((⟨#[58]⟩ : ByteArray) ++ strOfNums (Yqf p.toNat))
def Yjj (o a4 : ByteArray) (q : Bool) : ByteArray := if q = true then o ++ ((⟨#[63]⟩ : ByteArray) ++ a4) else o
def Ysk (o a5 : ByteArray) (f : Bool) : ByteArray := if f = true then o ++ ((⟨#[35]⟩ : ByteArray) ++ a5) else o
def Yie (a0 a1 : ByteArray) (p : Int) (a3 a4 a5 : ByteArray) (q f : Bool) : ByteArray := Ysk (Yjj (Ytf a0 a1 p ++ a3) a4 q) a5 f
theorem strOfNums_size (xs : List Int) : (strOfNums xs).size = xs.length := by
 rw [Lib.size_eq]; unfold strOfNums; simp
theorem Ybg (v : Nat) : (Yqf v).length ≤ 20 := by
 unfold Yqf
 split
 ·simp
 ·rw [List.length_reverse]; exact Yos 20 v
theorem Ywi : (⟨#[58, 47, 47]⟩ : ByteArray).size = 3 := rfl
theorem Ytm : (⟨#[58]⟩ : ByteArray).size = 1 := rfl
theorem Yhk : (⟨#[63]⟩ : ByteArray).size = 1 := rfl
theorem Ybk : (⟨#[35]⟩ : ByteArray).size = 1 := rfl
theorem Yul (a0 a1 : ByteArray) (p : Int) : (Ytf a0 a1 p).size ≤ a0.size + a1.size + 24 := by
 have := Ybg p.toNat
 unfold Ytf
 split
 ·simp only [ByteArray.size_append, Ywi]; omega
 ·simp only [ByteArray.size_append, Ywi, Ytm, strOfNums_size]; omega
theorem origin_f (a0 a1 : ByteArray) (p : Int) (a3 a4 a5 : ByteArray) (q f : Bool) (h0 : a0.size ≤ 1000000000000) (h1 : a1.size ≤ 1000000000000) (hp : 0 ≤ p) (hp2 : p < 1000000000000000000) :
  EvR (fun k => Yye.f k a0 a1 p a3 a4 a5 q f) (Ytf a0 a1 p) := by
 unfold Ytf
 unfold Yye.f
 by_cases hz : p = 0
 ·refine EvR.of fun k => ?_
  simp only [if_pos hz]
  rw [if_pos Zk, if_pos (by simp only [ByteArray.size_append, Ywi]; omega)]
 ·simp only [if_neg hz]
  have ht := text_f p.toNat Zk
  have htl := Ybg p.toNat
  rw [Int.toNat_of_nonneg hp] at ht
  have c1 : a0.size + 3 ≤ 9223372036854775807 := by omega
  have c2 : (a0 ++ (⟨#[58, 47, 47]⟩ : ByteArray)).size + a1.size ≤ 9223372036854775807 := by simp only [ByteArray.size_append, Ywi]; omega
  simp only [if_pos c1, if_pos c2]
  refine EvR.bind ht (EvR.of fun k => ?_)
  rw [if_pos Zvb, if_pos Zfb]
theorem Ybt (a0 a1 : ByteArray) (p : Int) (a3 a4 a5 : ByteArray) (q f : Bool) (h0 : a0.size ≤ 1000000000000) (h1 : a1.size ≤ 1000000000000) (h3 : a3.size ≤ 1000000000000) (h4 : a4.size ≤ 1000000000000) (h5 : a5.size ≤ 1000000000000) (hp : 0 ≤ p) (hp2 : p < 1000000000000000000) :
  EvR (fun k => Yid.f k a0 a1 p a3 a4 a5 q f) (Yie a0 a1 p a3 a4 a5 q f) := by
 have ho := origin_f a0 a1 p a3 a4 a5 q f h0 h1 hp hp2
 have hs := Yul a0 a1 p
 unfold Yid.f
 refine EvR.bind ho (EvR.of fun k => ?_)
 unfold Yie
 generalize Ytf a0 a1 p = o at hs
 rw [if_pos Zk]
 cases q with
 | true =>
  rw [if_pos rfl, if_pos Zk, if_pos Zpb]
  cases f with
  | true =>
   rw [if_pos rfl, if_pos Zk, if_pos Zlb]; rfl
  | false => rw [if_neg Zv]; rfl
 | false =>
  rw [if_neg Zv]
  cases f with
  | true =>
   rw [if_pos rfl, if_pos Zk, if_pos Zqb]; rfl
  | false => rw [if_neg Zv]; rfl
abbrev UrlE := ByteArray × ByteArray × Int × ByteArray × ByteArray × ByteArray × Bool × Bool × Int
def Ydd (r : List UInt8) : ByteArray := ofL (Yef (Yui r))
def Yzb (r : List UInt8) : ByteArray := match Ywe (Yud r) with | some q => ofL (Yoc Yhg q) | none => ⟨#[]⟩
def Ybc (r : List UInt8) : ByteArray := match Yif (Ygb (Yud r)) with | some q => ofL (Yoc Yug q) | none => ⟨#[]⟩
def Ytc (r : List UInt8) : Bool := match Ywe (Yud r) with | some _ => true | none => false
def Yqc (r : List UInt8) : Bool := match Yif (Ygb (Yud r)) with | some _ => true | none => false
def Yqp (sch host : ByteArray) (port : Int) (r : List UInt8) : UrlE :=
 if ((Yie sch host port (Ydd r) (Yzb r) (Ybc r) (Ytc r) (Yqc r)).size : Int) > 2048 then Yac 5 else (sch, host, port, Ydd r, Yzb r, Ybc r, Ytc r, Yqc r, 0)
def Ypm (sch : ByteArray) (y : Int × ByteArray × ByteArray × Int) : UrlE :=
 if ¬ y.1 = 0 then Yac y.1 else Yqp sch y.2.2.1 y.2.2.2 y.2.1.data.toList
def Yho (x : Int × ByteArray × ByteArray) : UrlE :=
 if ¬ x.1 = 0 then Yac x.1 else Ypm x.2.2 (Ykf x.2.1.data.toList x.2.2.data.toList ⟨#[]⟩ 0)
def Ymm (c : List UInt8) : UrlE := if (c.length : Int) > 2048 then Yac 5 else Yho (Ybf c ⟨#[]⟩)
def Yjg (l : List UInt8) : UrlE := Ymm (Ypd l)
theorem Yms (l : List UInt8) : (Yui l).length ≤ l.length := Ype _ _
theorem Yrl (l : List UInt8) : (Yud l).length ≤ l.length := Yse _ _
theorem query_le (l q : List UInt8) (h : Ywe l = some q) : q.length ≤ l.length := by
 cases l with
 | nil => cases h
 | cons b t =>
  simp only [Ywe] at h
  split at h
  ·cases h; have := Ype (Ycb [35]) t; simp only [List.length_cons]; omega
  ·cases h
theorem Yxo (l : List UInt8) : (Ygb l).length ≤ l.length := by
 cases l with
 | nil => simp [Ygb]
 | cons b t =>
  simp only [Ygb]
  split
  ·have := Yse (Ycb [35]) t; simp only [List.length_cons]; omega
  ·exact Nat.le_refl _
theorem frag_le (l q : List UInt8) (h : Yif l = some q) : q.length ≤ l.length := by
 cases l with
 | nil => cases h
 | cons b t =>
  simp only [Yif] at h
  split at h
  ·cases h; simp
  ·cases h
theorem Yth (r : List UInt8) : (Ydd r).size ≤ 3 * r.length + 4 ∧ (Yzb r).size ≤ 3 * r.length ∧ (Ybc r).size ≤ 3 * r.length := by
 refine ⟨?_, ?_, ?_⟩
 ·unfold Ydd
  rw [Yx]
  have := pathL_le (Yui r)
  have := Yms r
  omega
 ·unfold Yzb
  split
  ·next q h =>
   rw [Yx]
   have := Yvg Yhg q
   have := query_le _ _ h
   have := Yrl r
   omega
  ·show 0 ≤ _; omega
 ·unfold Ybc
  split
  ·next q h =>
   rw [Yx]
   have := Yvg Yug q
   have := frag_le _ _ h
   have := Yxo (Yud r)
   have := Yrl r
   omega
  ·show 0 ≤ _; omega
theorem Ygm (l sch : List UInt8) : (Ykf l sch ⟨#[]⟩ 0).2.1.size ≤ l.length ∧ (Ykf l sch ⟨#[]⟩ 0).2.2.1.size ≤ l.length ∧ 0 ≤ (Ykf l sch ⟨#[]⟩ 0).2.2.2 ∧ (Ykf l sch ⟨#[]⟩ 0).2.2.2 ≤ 65535 := by
 have htl : (Lib.trimLeftS l [47, 92]).length ≤ l.length := (List.dropWhile_sublist _).length_le
 have hr : (Ywf l).length ≤ l.length := Nat.le_trans (Yse _ _) htl
 have hh : (Yyb l).length ≤ l.length := Nat.le_trans (Ype _ _) htl
 have hc := Yql (Yyb l) [58]
 have hhost : ∀ m : List UInt8, (Ydf m).1.length ≤ m.length := by
  intro m
  have := Ypk _ m (Nat.le_refl _)
  unfold Ydf
  split
  ·simp
  ·split
   ·rw [Yfh]; exact this
   ·simp
 have hh2 := hhost (Lib.cut (Yyb l) [58]).1
 have hn := Ynn 65535 Zk (Lib.cut (Yyb l) [58]).2.1
 have hz : (⟨#[]⟩ : ByteArray).size = 0 := rfl
 unfold Ykf
 repeat' split
 all_goals simp only [Yx, hz]
 all_goals refine ⟨?_, ?_, ?_, ?_⟩
 all_goals omega
theorem Yri (l : List UInt8) : (Ypd l).length ≤ l.length := by
 unfold Ypd
 have h1 := Yfq l
 have h2 := List.length_filter_le (· != 9) (Ymh l)
 have h3 := List.length_filter_le (· != 10) ((Ymh l).filter (· != 9))
 have h4 := List.length_filter_le (· != 13) (((Ymh l).filter (· != 9)).filter (· != 10))
 omega
theorem Yhn (s : ByteArray) (hs : s.size ≤ 1000000000) : EvR (fun k => Yqd.f k s) (Yjg s.data.toList) := by
 have hc : Yvd.f s = some (ofL (Ypd s.data.toList)) := by unfold Yvd.f; rw [if_pos Zk]
 unfold Yjg
 generalize hcl : Ypd s.data.toList = c at hc
 unfold Yqd.f
 rw [hc]
 simp only [Option.bind_some, Yx]
 unfold Ymm
 by_cases h1 : (c.length : Int) > 2048
 ·refine EvR.of fun k => ?_
  rw [if_pos h1, if_pos h1]
 ·simp only [if_neg h1]
  have hsc := scheme_f (ofL c) ⟨#[]⟩ ⟨#[]⟩ 0 ⟨#[]⟩ ⟨#[]⟩ ⟨#[]⟩ false false Zba
  rw [Yfb] at hsc
  have hxs : (Ybf c ⟨#[]⟩).2.1.size ≤ 2048 ∧ (Ybf c ⟨#[]⟩).2.2.size ≤ 2048 := by
   have := Yql c [58]
   unfold Ybf
   split
   ·simp only [Yx, Yfh]; omega
   ·have hz : (⟨#[]⟩ : ByteArray).size = 0 := rfl
    simp only [Yx, hz]; omega
  generalize Ybf c ⟨#[]⟩ = x at hsc hxs
  refine EvR.bind hsc ?_
  unfold Yho
  by_cases h2 : ¬ x.1 = 0
  ·refine EvR.of fun k => ?_
   rw [if_pos h2, if_pos h2]
  ·simp only [if_neg h2]
   have hpl := place_f x.2.1 x.2.2 ⟨#[]⟩ 0 ⟨#[]⟩ ⟨#[]⟩ ⟨#[]⟩ false false Zk
   have hps := Ygm x.2.1.data.toList x.2.2.data.toList
   rw [← Lib.size_eq] at hps
   generalize Ykf x.2.1.data.toList x.2.2.data.toList ⟨#[]⟩ 0 = y at hpl hps
   refine EvR.bind hpl ?_
   unfold Ypm
   by_cases h3 : ¬ y.1 = 0
   ·refine EvR.of fun k => ?_
    rw [if_pos h3, if_pos h3]
   ·simp only [if_neg h3]
    have ht : Ysd.f y.2.1 x.2.2 y.2.2.1 y.2.2.2 ⟨#[]⟩ ⟨#[]⟩ ⟨#[]⟩ false false = some (ofL (Yoi (Ygb (Yud y.2.1.data.toList))), x.2.2, y.2.2.1, y.2.2.2, Ydd y.2.1.data.toList, Yzb y.2.1.data.toList, Ybc y.2.1.data.toList, Ytc y.2.1.data.toList, Yqc y.2.1.data.toList) := by
     unfold Ysd.f
     rw [if_pos Zk]; rfl
    rw [ht]
    simp only [Option.bind_some]
    have hts := Yth y.2.1.data.toList
    rw [← Lib.size_eq] at hts
    have hst := Ybt x.2.2 y.2.2.1 y.2.2.2 (Ydd y.2.1.data.toList) (Yzb y.2.1.data.toList) (Ybc y.2.1.data.toList) (Ytc y.2.1.data.toList) (Yqc y.2.1.data.toList) Zk Zk Zk Zk Zk Zk Zk
    refine EvR.bind hst (EvR.of fun k => ?_)
    unfold Yqp
    split <;> rfl
end Go.Proofs.YtnmglnglbdpjjaaGreatDoor.X
