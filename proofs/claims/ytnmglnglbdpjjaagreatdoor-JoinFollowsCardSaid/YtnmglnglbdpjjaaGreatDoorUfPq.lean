import Derived.Test.YtnmglnglbdpjjaaGreatDoorUfH4
set_option linter.all false
namespace Go.Proofs.YtnmglnglbdpjjaaGreatDoor.X
open Go.RowKit Go.Lib Go.Shelf Go.Yw.PrintWords Go.Yw.PrintLast Go.Yw.PrintMore
def EvR {α : Type} (f : Nat → Option α) (r : α) : Prop := ∃ k0, ∀ k, k0 ≤ k → f k = some r
theorem EvR.of {α : Type} {f : Nat → Option α} {r : α} (h : ∀ k, f k = some r) : EvR f r := ⟨0, fun k _ => h k⟩
theorem EvR.succ {α : Type} {f : Nat → Option α} {r : α} (h : EvR (fun k => f (k + 1)) r) : EvR f r := by
 obtain ⟨k0, h⟩ := h
 refine ⟨k0 + 1, fun k hk => ?_⟩
 cases k with
 | zero => omega
 | succ k => exact h k Zk
theorem EvR.congr {α : Type} {f g : Nat → Option α} {r : α} (h : EvR f r) (e : ∀ k, g k = f k) : EvR g r := by
 obtain ⟨k0, h⟩ := h
 exact ⟨k0, fun k hk => (e k).trans (h k hk)⟩
theorem EvR.bind {α β : Type} {f : Nat → Option α} {g : Nat → α → Option β} {x : α} {y : β} (hf : EvR f x) (hg : EvR (fun k => g k x) y) : EvR (fun k => (f k).bind (g k)) y := by
 obtain ⟨k1, h1⟩ := hf
 obtain ⟨k2, h2⟩ := hg
 exact ⟨max k1 k2, fun k hk => by show (f k).bind (g k) = some y; rw [h1 k Zk]; exact h2 k Zk⟩
theorem EvR.mono {α : Type} {f : Nat → Option α} {r : α} (hm : ∀ k, LeO (f k) (f (k + 1))) {k0 : Nat} (h : f k0 = some r) : EvR f r := by
 refine ⟨k0, fun k hk => ?_⟩
 induction hk with
 | refl => exact h
 | step _ ih => exact hm _ _ ih
theorem Yvc (s : Y) (i : Nat) (b : UInt8) (t : List UInt8) (h : s.data.toList.drop i = b :: t) : i < s.size ∧ bt s (i : Int) = (b.toNat : Int) ∧ s.data.toList.drop (i + 1) = t := by
 have hi : i < s.size := by
  have := congrArg List.length h
  rw [List.length_drop, ← Lib.size_eq] at this
  simp only [List.length_cons] at this; omega
 refine ⟨hi, ?_, ?_⟩
 ·have h1 : s.data.toList[i]? = some b := by have h9 := List.getElem?_drop (xs := s.data.toList) (i := i) (j := 0); rw [h, Nat.add_zero] at h9; rw [← h9]; rfl
  have h2 : i < s.data.toList.length := by rw [← Lib.size_eq]; exact hi
  have h3 : s.data.toList[i] = b := by rw [List.getElem?_eq_getElem h2] at h1; exact Kv h1
  rw [← Ybb s (i : Int) (by rw [Int.toNat_natCast]; exact hi)]
  simp only [Int.toNat_natCast]
  rw [← h3]; rfl
 ·have h9 := List.drop_drop (i := 1) (j := i) (l := s.data.toList); rw [h] at h9; rw [← h9]; rfl
theorem bt_end (s : Y) (i : Nat) (h : s.data.toList.drop i = []) (hi : i ≤ s.size) : i = s.size := by
 have := congrArg List.length h
 rw [List.length_drop, ← Lib.size_eq] at this
 simp only [List.length_nil] at this; omega
theorem Yzd (i n : Nat) (h : i ≤ n) (hn : n ≤ 100000000) : wrap64 ((i : Int) + 1) = ((i + 1 : Nat) : Int) := by unfold wrap64; omega
def Yhe (most : Int) : Bool → Int → List UInt8 → Int × Int
 | many, n, [] => if many = true then (0, 5) else (n, 0)
 | many, n, b :: t => if Ygd b = true then (if many = true ∨ most < n * 10 + ((b.toNat : Int) - 48) then Yhe most true n t else Yhe most false (n * 10 + ((b.toNat : Int) - 48)) t) else (0, 3)
def numL (most : Int) (l : List UInt8) : Int × Int := if l = [] then (0, 3) else Yhe most false 0 l
theorem number_l0 (s : Y) (most : Int) (h0 : 0 ≤ most) (h1 : most ≤ 1000000000) (hs : s.size ≤ 100000000) : ∀ (L : List UInt8) (i : Nat) (n : Int) (many : Bool), s.data.toList.drop i = L → i ≤ s.size → 0 ≤ n → n ≤ most →
  EvR (fun k => Yja.l0 k s most n many (s.size : Int) (i : Int)) (Yhe most many n L) := by
 intro L
 induction L with
 | nil =>
  intro i n many hL hi pX pM
  have he := bt_end s i hL hi
  refine EvR.succ (EvR.of fun k => ?_)
  rw [Yja.l0, if_neg Zk]
  unfold Yhe
  cases many <;> rfl
 | cons b t ih =>
  intro i n many hL hi pX pM
  obtain ⟨kY, hb, ht⟩ := Yvc s i b t hL
  have hw := Yzd i s.size hi hs
  refine EvR.succ ?_
  by_cases hd : Ygd b = true
  ·have hr : 48 ≤ b.toNat ∧ b.toNat ≤ 57 := by unfold Ygd at hd; simpa using hd
   have e1 : ((b.toNat : Int) - 48) % 256 = (b.toNat : Int) - 48 := by omega
   by_cases hm : many = true
   ·subst hm
    refine (ih (i + 1) n true ht Zk pX pM).congr (fun k => ?_) |> fun h => by unfold Yhe; rw [if_pos hd, if_pos (Or.inl rfl)]; exact h
    rw [Yja.l0, if_pos Zk, if_pos Zk, if_pos Zk, hb, Ynj]
    simp only [Kfa]
    rw [if_pos hd, if_pos trivial, hw]
   ·have zP : many = false := by cases many <;> simp_all
    subst zP
    have e2 : wrap64 (most - ((b.toNat : Int) - 48)) = most - ((b.toNat : Int) - 48) := by unfold wrap64; omega
    by_cases hbig : most < n * 10 + ((b.toNat : Int) - 48)
    ·refine (ih (i + 1) n true ht Zk pX pM).congr (fun k => ?_) |> fun h => by unfold Yhe; rw [if_pos hd, if_pos (Or.inr hbig)]; exact h
     rw [Yja.l0, if_pos Zk, if_pos Zk, if_pos Zk, hb, Ynj]
     simp only [Kfa]
     rw [if_pos hd, if_neg Zv, e1, e2, hw]
     split
     ·rfl
     ·next h1 =>
      rw [if_pos]
      by_cases h2 : most < (b.toNat : Int) - 48
      ·exact h2
      ·exfalso
       apply h1
       rw [Int.tdiv_eq_ediv_of_nonneg Zk]
       unfold wrap64; omega
    ·refine (ih (i + 1) (n * 10 + ((b.toNat : Int) - 48)) false ht Zk Zk Zk).congr (fun k => ?_) |> fun h => by unfold Yhe; rw [if_pos hd, if_neg (by simp [hbig])]; exact h
     rw [Yja.l0, if_pos Zk, if_pos Zk, if_pos Zk, hb, Ynj]
     simp only [Kfa]
     rw [if_pos hd, if_neg Zv, e1, e2, hw, if_neg, if_neg Zk]
     ·have e5 : wrap64 (n * 10) = n * 10 := by unfold wrap64; omega
      rw [e5]
      have e6 : wrap64 (n * 10 + ((b.toNat : Int) - 48)) = n * 10 + ((b.toNat : Int) - 48) := by unfold wrap64; omega
      rw [e6]
     ·rw [Int.tdiv_eq_ediv_of_nonneg Zk]
      unfold wrap64; omega
  ·refine EvR.of fun k => ?_
   rw [Yja.l0, if_pos Zk, if_pos Zk, if_pos Zk, hb, Ynj]
   simp only [Kfa]
   rw [if_neg hd]
   unfold Yhe
   rw [if_neg hd]
theorem Ygp (s : Y) (most : Int) (h0 : 0 ≤ most) (h1 : most ≤ 1000000000) (hs : s.size ≤ 100000000) : EvR (fun k => Yja.f k s most) (numL most s.data.toList) := by
 by_cases he : s.data.toList = []
 ·refine EvR.of fun k => ?_
  unfold Yja.f numL
  rw [Lib.toList_data, if_pos he, if_pos he]
 ·refine EvR.congr (f := fun k => Yja.l0 k s most 0 false (s.size : Int) ((0 : Nat) : Int)) ?_ (fun k => ?_)
  ·unfold numL
   rw [if_neg he]
   exact number_l0 s most h0 h1 hs _ 0 0 false rfl Zk Zk h0
  ·unfold Yja.f
   rw [Lib.toList_data, if_neg he, decide_eq_false Zk]; rfl
theorem Yhu (most : Int) (h0 : 0 ≤ most) : ∀ (l : List UInt8) (many : Bool) (n : Int), 0 ≤ n → n ≤ most → 0 ≤ (Yhe most many n l).1 ∧ (Yhe most many n l).1 ≤ most := by
 intro l
 induction l with
 | nil => intro many n pX pM; unfold Yhe; split <;> (constructor <;> simp <;> omega)
 | cons b t ih =>
  intro many n pX pM
  unfold Yhe
  split
  ·next hd =>
   have hr : 48 ≤ b.toNat ∧ b.toNat ≤ 57 := by unfold Ygd at hd; simpa using hd
   split
   ·exact ih true n pX pM
   ·next h => exact ih false _ Zk Zk
  ·constructor <;> simp <;> omega
theorem Ywn (most : Int) (h0 : 0 ≤ most) (l : List UInt8) : 0 ≤ (numL most l).1 ∧ (numL most l).1 ≤ most := by
 unfold numL
 split
 ·constructor <;> simp <;> omega
 ·exact Yhu most h0 l false 0 Zk h0
def Yml (b : UInt8) : Bool := Yyc b || (Ygd b || (b == 45 || b == 95))
def Ygl (l : List UInt8) : Bool := l.all Yml && (!l.isEmpty && decide (l.length ≤ 63))
theorem Yzk (b : UInt8) (n : Nat) (h : n < 256) : ((b.toNat : Int) = (n : Int)) ↔ b = UInt8.ofNat n := by
 constructor
 ·intro e
  apply UInt8.toNat_inj.1
  rw [UInt8.toNat_ofNat', Nat.mod_eq_of_lt h]; omega
 ·rintro rfl
  rw [UInt8.toNat_ofNat', Nat.mod_eq_of_lt h]
theorem isPart_l0 (s : Y) (hs : s.size ≤ 100000000) : ∀ (L : List UInt8) (i : Nat), s.data.toList.drop i = L → i ≤ s.size →
  EvR (fun k => Yqb.l0 k s (s.size : Int) (i : Int)) (L.all Yml && (!s.data.toList.isEmpty && decide (s.data.toList.length ≤ 63))) := by
 intro L
 induction L with
 | nil =>
  intro i hL hi
  have he := bt_end s i hL hi
  refine EvR.succ (EvR.of fun k => ?_)
  rw [Yqb.l0, if_neg Zk, Lib.toList_data]
  by_cases h : s.data.toList = []
  ·rw [if_pos h, h]; rfl
  ·rw [if_neg h]
   have h2 : s.data.toList.isEmpty = false := by cases hq : s.data.toList <;> simp_all
   have h3 : (decide ((s.size : Int) ≤ 63)) = decide (s.data.toList.length ≤ 63) := by rw [← Lib.size_eq]; exact decide_eq_decide.2 Zk
   rw [h2, h3]; simp
 | cons b t ih =>
  intro i hL hi
  obtain ⟨kY, hb, ht⟩ := Yvc s i b t hL
  have hw := Yzd i s.size hi hs
  refine EvR.succ ?_
  have hstep : ∀ k, Yqb.l0 (k + 1) s (s.size : Int) (i : Int) = if Yml b = true then Yqb.l0 k s (s.size : Int) ((i + 1 : Nat) : Int) else some false := by
   intro k
   rw [Yqb.l0, if_pos Zk, if_pos Zk, if_pos Zk, hb, Ydk]
   simp only [Kfa]
   rw [Ynj, hw]
   simp only [Kfa]
   have h45 : ((b.toNat : Int) = 45) ↔ b = 45 := Yzk b 45 Zk
   have h95 : ((b.toNat : Int) = 95) ↔ b = 95 := Yzk b 95 Zk
   unfold Yml
   cases h1 : Yyc b
   ·cases h2 : Ygd b
    ·by_cases h3 : b = 45
     ·rw [if_neg Zv, if_neg Zv, if_pos (h45.2 h3)]; simp [h3]
     ·by_cases h4 : b = 95
      ·rw [if_neg Zv, if_neg Zv, if_neg (fun e => h3 (h45.1 e)), if_pos (h95.2 h4)]; simp [h4]
      ·rw [if_neg Zv, if_neg Zv, if_neg (fun e => h3 (h45.1 e)), if_neg (fun e => h4 (h95.1 e))]; simp [h3, h4]
    ·simp
   ·simp
  by_cases hn : Yml b = true
  ·refine EvR.congr (f := fun k => Yqb.l0 k s (s.size : Int) ((i + 1 : Nat) : Int)) ?_ (fun k => by rw [hstep, if_pos hn])
   have := ih (i + 1) ht Zk
   rw [List.all_cons, hn, Bool.true_and]; exact this
  ·refine EvR.of fun k => ?_
   rw [hstep, if_neg hn, List.all_cons]
   simp [hn]
theorem isPart_f (s : Y) (hs : s.size ≤ 100000000) : EvR (fun k => Yqb.f k s) (Ygl s.data.toList) := by
 have := isPart_l0 s hs _ 0 rfl Zk
 exact this
theorem set_mid (a r : List Int) (x y : Int) : (a ++ x :: r).set a.length y = a ++ y :: r := by
 rw [List.set_append_right _ _ (Nat.le_refl _), Nat.sub_self]; rfl
theorem rd_mid (a r : List Int) (x : Int) : rd (a ++ x :: r) (a.length : Int) = x := by
 unfold rd
 rw [Int.toNat_natCast, List.getD_eq_getElem?_getD, List.getElem?_append_right (Nat.le_refl _), Nat.sub_self]; rfl
theorem Ysu : ∀ (m : Nat) (a mid c : List Int), mid.length < 2 * m + 2 → a.length + mid.length + c.length ≤ 1000000 →
  Yo.l0 (m + 1) (a ++ (mid ++ c)) (a.length : Int) ((a.length : Int) + mid.length - 1) = some (a ++ (mid.reverse ++ c)) := by
 intro m
 induction m with
 | zero =>
  intro a mid c hm hl
  rw [Yo.l0, if_neg Zk]
  match mid, hm with
  | [], _ => rfl
  | [x], _ => rfl
 | succ m ih =>
  intro a mid c hm hl
  rcases Nat.lt_or_ge mid.length 2 with h2 | h2
  ·rw [Yo.l0, if_neg Zk]
   match mid, h2 with
   | [], _ => rfl
   | [x], _ => rfl
  ·obtain ⟨x, m1, rfl⟩ : ∃ x m1, mid = x :: m1 := by cases mid with
    | nil => simp at h2
    | cons x m1 => exact ⟨x, m1, rfl⟩
   obtain ⟨m2, y, rfl⟩ : ∃ m2 y, m1 = m2 ++ [y] := by
    refine ⟨m1.dropLast, m1.getLast (by intro e; subst e; simp at h2), (List.dropLast_concat_getLast _).symm⟩
   simp only [List.length_cons, List.length_append, List.length_nil] at hm hl h2
   have hj : ((a.length : Int) + ((x :: (m2 ++ [y])).length : Nat) - 1) = (((a ++ x :: m2).length : Nat) : Int) := by simp; omega
   have hs : a ++ (x :: (m2 ++ [y]) ++ c) = (a ++ x :: m2) ++ y :: c := by simp
   have rH : a ++ (x :: (m2 ++ [y]) ++ c) = a ++ x :: (m2 ++ y :: c) := by simp
   rw [Yo.l0, hj]
   have hlen : (a ++ (x :: (m2 ++ [y]) ++ c)).length = a.length + m2.length + c.length + 2 := by simp; omega
   have hla : (a ++ x :: m2).length = a.length + m2.length + 1 := by simp; omega
   rw [if_pos Zk, if_pos Zk, if_pos (by rw [hlen]; omega), if_pos Zk, if_pos (by rw [hlen]; omega)]
   have r1 : rd (a ++ (x :: (m2 ++ [y]) ++ c)) (((a ++ x :: m2).length : Nat) : Int) = y := by rw [hs, rd_mid]
   have r2 : rd (a ++ (x :: (m2 ++ [y]) ++ c)) (a.length : Int) = x := by rw [rH, rd_mid]
   rw [r1, r2, Int.toNat_natCast, Int.toNat_natCast, rH, set_mid]
   have hs3 : a ++ y :: (m2 ++ y :: c) = (a ++ y :: m2) ++ y :: c := by simp
   have aVM : (a ++ x :: m2).length = (a ++ y :: m2).length := by simp
   rw [hs3, aVM, set_mid]
   have w1 : wrap64 ((a.length : Int) + 1) = (((a ++ [y]).length : Nat) : Int) := by simp; unfold wrap64; omega
   have w2 : wrap64 ((((a ++ y :: m2).length : Nat) : Int) - 1) = (((a ++ [y]).length : Nat) : Int) + (m2.length : Nat) - 1 := by simp; unfold wrap64; omega
   have hs4 : (a ++ y :: m2) ++ x :: c = (a ++ [y]) ++ (m2 ++ (x :: c)) := by simp
   rw [w1, w2, hs4, ih (a ++ [y]) m2 (x :: c) Zk Zib]
   simp
theorem Ymq (xs : List Int) (h : xs.length ≤ 1000000) : EvR (fun k => Yo.f k xs) xs.reverse := by
 refine EvR.mono (Yo.mono xs) (k0 := xs.length + 1) ?_
 unfold Yo.f
 have hw : wrap64 ((xs.length : Int) - 1) = (([] : List Int).length : Int) + (xs.length : Nat) - 1 := by simp; unfold wrap64; omega
 have := Ysu xs.length [] xs [] Zk (by simp; exact h)
 simp only [List.nil_append, List.append_nil] at this
 rw [hw]; exact this
def digs : Nat → Nat → List Int
 | 0, _ => []
 | f + 1, v => if v = 0 then [] else (48 + ((v % 10 : Nat) : Int)) :: digs f (v / 10)
def Yuf (v : Nat) : List Int := if v = 0 then [48] else (digs 20 v).reverse
theorem Yrg (n : Int) (h0 : 0 ≤ n) (h1 : n < 18446744073709551616) : IntKind.u64.wrap n = n := by
 unfold IntKind.wrap
 simp [IntKind.bits, IntKind.signed]
 omega
theorem Ymt : ∀ (f v : Nat), (digs f v).length ≤ f := by
 intro f
 induction f with
 | zero => intro v; simp [digs]
 | succ f ih => intro v; unfold digs; split; simp; have := ih (v / 10); simp; omega
theorem Yfs (x0 : Int) (hx : 0 ≤ x0) : ∀ (f v : Nat) (acc : List Int), v < 10 ^ f → v < 18446744073709551616 → acc.length + f ≤ 1000 → (acc ≠ [] ∨ v ≠ 0) →
  EvR (fun k => Ymb.l0 k x0 1 (v : Int) acc) (strOfNums (acc ++ digs f v).reverse) := by
 have hz : ∀ acc : List Int, acc.length ≤ 1000 → acc ≠ [] → EvR (fun k => Ymb.l0 k x0 1 (((0 : Nat) : Int)) acc) (strOfNums acc.reverse) := by
  intro acc hl hne
  have h1 : 0 < acc.length := List.length_pos_iff.2 hne
  have hm : mx (mn 1 20) 1 = 1 := rfl
  refine EvR.succ ?_
  refine EvR.congr (f := fun k => (Yo.f k acc).bind fun t => some (strOfNums t)) ?_ (fun k => ?_)
  ·exact EvR.bind (g := fun _ t => some (strOfNums t)) (Ymq acc Zk) (EvR.of fun _ => rfl)
  ·rw [Ymb.l0, if_neg Zk, hm, if_neg Zk, if_neg Zk]
 intro f
 induction f with
 | zero =>
  intro v acc hv hv2 hl hn
  have : v = 0 := by simpa using hv
  subst this
  rw [show digs 0 0 = [] from rfl, List.append_nil]
  exact hz acc Zk (by rcases hn with h | h; exact h; exact absurd rfl h)
 | succ f ih =>
  intro v acc hv hv2 hl hn
  by_cases h0 : v = 0
  ·subst h0
   rw [show digs (f + 1) 0 = [] from rfl, List.append_nil]
   exact hz acc Zk (by rcases hn with h | h; exact h; exact absurd rfl h)
  ·refine EvR.succ ?_
   have hd : digs (f + 1) v = (48 + ((v % 10 : Nat) : Int)) :: digs f (v / 10) := by rw [digs, if_neg h0]
   rw [hd, show acc ++ (48 + ((v % 10 : Nat) : Int)) :: digs f (v / 10) = (acc ++ [48 + ((v % 10 : Nat) : Int)]) ++ digs f (v / 10) by simp]
   refine (ih (v / 10) (acc ++ [48 + ((v % 10 : Nat) : Int)]) (by rw [Nat.pow_succ] at hv; omega) Zk Zib (.inl Zv)).congr (fun k => ?_)
   rw [Ymb.l0, if_pos Zk, if_pos Zk, Int.tdiv_eq_ediv_of_nonneg Zk, Int.tmod_eq_emod_of_nonneg Zk, Yrg _ Zk Zk, Yrg _ Zk Zk]
   have e1 : (v : Int) / 10 = ((v / 10 : Nat) : Int) := by omega
   have e2 : (48 + (v : Int) % 10) % 256 = 48 + ((v % 10 : Nat) : Int) := by omega
   rw [e1, e2]
theorem text_f (v : Nat) (hv : v < 10 ^ 18) : EvR (fun k => Yqe.f k (v : Int)) (strOfNums (Yuf v)) := by
 have h2 : v < 18446744073709551616 := by omega
 have hl : EvR (fun k => Ymb.l0 k (v : Int) 1 (v : Int) []) (strOfNums (Yuf v)) := by
  unfold Yuf
  by_cases h0 : v = 0
  ·subst h0
   rw [if_pos rfl]
   refine EvR.succ ?_
   refine (Yfs 0 Zk 0 0 [48] Zk Zk Zv (.inl Zv)).congr (fun k => ?_)
   rfl
  ·rw [if_neg h0]
   exact Yfs (v : Int) Zk 20 v [] Zk h2 Zv (.inr h0)
 refine EvR.congr (f := fun k => (Ymb.f k (v : Int) 1).bind fun t => some t) ?_ (fun k => rfl)
 refine EvR.bind (g := fun _ t => some t) (x := strOfNums (Yuf v)) ?_ (EvR.of fun _ => rfl)
 refine EvR.congr (f := fun k => Ymb.j0 k (v : Int) 1 (v : Int)) ?_ (fun k => by unfold Ymb.f; rw [if_neg Zk, Yrg _ Zk Zk])
 refine EvR.succ (hl.congr fun k => ?_)
 rw [Ymb.j0]
def Yik (l : List UInt8) : Bool := (numL 255 l).2 == 0 && (strOfNums (Yuf (numL 255 l).1.toNat)).data.toList == l
theorem isByte_f (s : Y) (hs : s.size ≤ 100000000) : EvR (fun k => Ybf.f k s) (Yik s.data.toList) := by
 have hn := Ygp s 255 Zk Zk hs
 have hb := Ywn 255 Zk s.data.toList
 unfold Yik
 unfold Ybf.f
 refine EvR.bind (g := fun k x => if x.2 = 0 then (Yqe.f k x.1).bind fun t => some (t.toList == s.toList) else some false) hn ?_
 by_cases he : (numL 255 s.data.toList).2 = 0
 ·refine EvR.congr (f := fun k => (Yqe.f k (((numL 255 s.data.toList).1.toNat : Nat) : Int)).bind fun t => some (t.toList == s.toList)) ?_ (fun k => by rw [if_pos he, Int.toNat_of_nonneg hb.1])
  refine EvR.bind (g := fun _ t => some (t.toList == s.toList)) (text_f (numL 255 s.data.toList).1.toNat Zk) (EvR.of fun _ => ?_)
  rw [he, Lib.toList_data, Lib.toList_data]; rfl
 ·refine EvR.of fun k => ?_
  rw [if_neg he]
  have : ((numL 255 s.data.toList).2 == 0) = false := beq_eq_false_iff_ne.2 he
  rw [this]; rfl
def Yri (l : List UInt8) : Bool := (splitB 46 l).all Ygl && (decide (l.length ≤ 253) && ((numL 0 ((splitB 46 l).getD ((splitB 46 l).length - 1) [])).2 == 3 || ((splitB 46 l).length == 4 && (splitB 46 l).all Yik)))
theorem Ydh (xs : List (List UInt8)) (i : Nat) (h : i < xs.length) : rdOf ByteArray.empty (xs.map ofL) (i : Int) = ofL (xs.getD i []) := by
 unfold rdOf
 rw [Int.toNat_natCast, List.getD_eq_getElem?_getD, List.getD_eq_getElem?_getD, List.getElem?_map, List.getElem?_eq_getElem h]; rfl
theorem isName_l0 (s : Y) (xs : List (List UInt8)) (hne : 0 < xs.length) (hl : xs.length ≤ 100000000) (hx : ∀ x ∈ xs, x.length ≤ 100000000) : ∀ (L : List (List UInt8)) (i : Nat) (four : Bool), xs.drop i = L → i ≤ xs.length →
  EvR (fun k => Yob.l0 k s (xs.map ofL) four (xs.map ofL) (xs.length : Int) (i : Int)) (L.all Ygl && (decide (s.size ≤ 253) && ((numL 0 (xs.getD (xs.length - 1) [])).2 == 3 || (four && L.all Yik)))) := by
 intro L
 induction L with
 | nil =>
  intro i four hL hi
  have he : i = xs.length := by
   have := congrArg List.length hL
   rw [List.length_drop] at this
   simp only [List.length_nil] at this; omega
  refine EvR.succ ?_
  have hw : wrap64 ((((xs.map ofL).length : Nat) : Int) - 1) = ((xs.length - 1 : Nat) : Int) := by rw [List.length_map]; unfold wrap64; omega
  have hlast : (xs.getD (xs.length - 1) []).length ≤ 100000000 := by
   have h1 : xs.length - 1 < xs.length := by omega
   rw [List.getD_eq_getElem?_getD, List.getElem?_eq_getElem h1]
   exact hx _ (List.getElem_mem h1)
  have hn := Ygp (ofL (xs.getD (xs.length - 1) [])) 0 Zk Zk (by rw [Yy]; exact hlast)
  rw [Ygb] at hn
  refine EvR.congr (f := fun k => (Yja.f k (ofL (xs.getD (xs.length - 1) [])) 0).bind fun bt => if (s.size : Int) ≤ 253 then (if bt.2 = 3 then some true else some four) else some false) ?_ (fun k => ?_)
  ·refine EvR.bind (g := fun _ bt => if (s.size : Int) ≤ 253 then (if bt.2 = 3 then some true else some four) else some false) hn (EvR.of fun _ => ?_)
   by_cases h1 : s.size ≤ 253
   ·rw [if_pos Zk, decide_eq_true h1]
    by_cases h2 : (numL 0 (xs.getD (xs.length - 1) [])).2 = 3
    ·rw [if_pos h2, h2]; simp
    ·rw [if_neg h2, beq_eq_false_iff_ne.2 h2]; simp
   ·rw [if_neg Zk, decide_eq_false h1]; simp
  ·rw [Yob.l0, if_neg Zk, hw, if_pos Zk, if_pos Zsb, Ydh xs _ Zk]
 | cons p t ih =>
  intro i four hL hi
  have kY : i < xs.length := by
   have := congrArg List.length hL
   rw [List.length_drop] at this
   simp only [List.length_cons] at this; omega
  have ht : xs.drop (i + 1) = t := by have h9 := List.drop_drop (i := 1) (j := i) (l := xs); rw [hL] at h9; rw [← h9]; rfl
  have hp : xs.getD i [] = p := by
   have h9 := List.getElem?_drop (xs := xs) (i := i) (j := 0)
   rw [hL, Nat.add_zero] at h9
   rw [List.getD_eq_getElem?_getD, ← h9]; rfl
  have hpl : p.length ≤ 100000000 := hx p (by rw [← hp, List.getD_eq_getElem?_getD, List.getElem?_eq_getElem kY]; exact List.getElem_mem kY)
  have hw := Yzd i xs.length hi Zk
  refine EvR.succ ?_
  have h1 := isPart_f (ofL p) (by rw [Yy]; exact hpl)
  have h2 := isByte_f (ofL p) (by rw [Yy]; exact hpl)
  rw [Ygb] at h1 h2
  refine EvR.congr (f := fun k => (Yqb.f k (ofL p)).bind fun c => if c = true then (if four = true then ((Ybf.f k (ofL p)).bind fun d => Yob.l0 k s (xs.map ofL) d (xs.map ofL) (xs.length : Int) ((i + 1 : Nat) : Int)) else Yob.l0 k s (xs.map ofL) false (xs.map ofL) (xs.length : Int) ((i + 1 : Nat) : Int)) else some false) ?_ (fun k => ?_)
  ·refine EvR.bind (g := fun k c => if c = true then (if four = true then ((Ybf.f k (ofL p)).bind fun d => Yob.l0 k s (xs.map ofL) d (xs.map ofL) (xs.length : Int) ((i + 1 : Nat) : Int)) else Yob.l0 k s (xs.map ofL) false (xs.map ofL) (xs.length : Int) ((i + 1 : Nat) : Int)) else some false) h1 ?_
   by_cases hn : Ygl p = true
   ·rw [List.all_cons, List.all_cons, hn, Bool.true_and]
    cases four with
    | true =>
     refine EvR.congr (f := fun k => (Ybf.f k (ofL p)).bind fun d => Yob.l0 k s (xs.map ofL) d (xs.map ofL) (xs.length : Int) ((i + 1 : Nat) : Int)) ?_ (fun k => by rw [if_pos rfl, if_pos rfl])
     refine EvR.bind (g := fun k d => Yob.l0 k s (xs.map ofL) d (xs.map ofL) (xs.length : Int) ((i + 1 : Nat) : Int)) h2 ?_
     have := ih (i + 1) (Yik p) ht Zk
     simpa using this
    | false =>
     refine EvR.congr (f := fun k => Yob.l0 k s (xs.map ofL) false (xs.map ofL) (xs.length : Int) ((i + 1 : Nat) : Int)) ?_ (fun k => by rw [if_pos rfl, if_neg Zv])
     have := ih (i + 1) false ht Zk
     simpa using this
   ·refine EvR.of fun k => ?_
    rw [if_neg hn, List.all_cons]
    have : Ygl p = false := by cases h : Ygl p <;> simp_all
    rw [this]; rfl
  ·rw [Yob.l0, if_pos Zk, if_pos Zk, if_pos Zsb, Ydh xs i kY, hp, hw]
theorem isName_f (s : Y) (hs : s.size ≤ 90000000) : EvR (fun k => Yob.f k s) (Yri s.data.toList) := by
 have hlen := Yfl 46 s.data.toList
 rw [← Lib.size_eq] at hlen
 have hpos : 0 < (splitB 46 s.data.toList).length := List.length_pos_iff.2 (Ytf _ _)
 have hxs : ∀ x ∈ splitB 46 s.data.toList, x.length ≤ 100000000 := by
  intro x hx
  have h1 := Yvo 46 s.data.toList
  have h2 : ∀ (l : List (List UInt8)), x ∈ l → x.length + 1 ≤ tot l := by
   intro l
   induction l with
   | nil => intro h; cases h
   | cons y l ih =>
    intro h
    simp only [tot, List.map_cons, List.sum_cons] at ih ⊢
    rcases List.mem_cons.1 h with rfl | h
    ·omega
    ·have := ih h; omega
  have := h2 _ hx
  rw [← Lib.size_eq] at h1; omega
 have hsp : EvR (fun k => Ylb.f k s 46) ((splitB 46 s.data.toList).map ofL) :=
  EvR.mono (Ylb.mono s 46) (split_f s 46 Zk)
 unfold Yob.f
 refine EvR.bind (g := fun k t => Yob.l0 k s t ((t.length : Int) == 4) t (t.length : Int) 0) hsp ?_
 have h := isName_l0 s (splitB 46 s.data.toList) hpos Zk hxs _ 0 ((splitB 46 s.data.toList).length == 4) rfl Zk
 have e4 : ((((((splitB 46 s.data.toList).map ofL).length : Nat) : Int)) == 4) = ((splitB 46 s.data.toList).length == 4) := by
  rw [List.length_map]
  by_cases h : (splitB 46 s.data.toList).length = 4
  ·rw [h]; rfl
  ·rw [beq_eq_false_iff_ne.2 h, beq_eq_false_iff_ne.2 Zk]
 rw [e4, List.length_map]
 unfold Yri
 rw [Lib.size_eq] at h
 exact h
def Ywb (b : UInt8) : Bool := Yyc b || (Ygd b || (b == 43 || (b == 45 || b == 46)))
abbrev Yeh : List UInt8 := [104, 116, 116, 112]
abbrev Yzf : List UInt8 := [104, 116, 116, 112, 115]
theorem sign_f (b : UInt8) : strings_IndexByte.f (⟨#[43, 45, 46]⟩ : Y) (b.toNat : Int) = some (if b = 43 then 0 else if b = 45 then 1 else if b = 46 then 2 else -1) := by
 revert b; exact Yad Zma
theorem Ywl (l sep : List UInt8) : (Lib.cut l sep).1.length ≤ l.length ∧ (Lib.cut l sep).2.1.length ≤ l.length := by
 unfold Lib.cut
 split
 ·constructor
  ·simp only [List.length_take]; omega
  ·simp only [List.length_drop]; omega
 ·constructor <;> simp
def Yff (l : List UInt8) (sch : Y) : Int × Y × Y :=
 if (Lib.cut l [58]).2.2 = true ∧ (Lib.cut l [58]).1 ≠ [] ∧ Yyc ((Lib.cut l [58]).1.headD 0) = true ∧ (Lib.cut l [58]).1.all Ywb = true then
  (if lowL (Lib.cut l [58]).1 = Yeh ∨ lowL (Lib.cut l [58]).1 = Yzf then 0 else 16, ofL (Lib.cut l [58]).2.1, ofL (lowL (Lib.cut l [58]).1))
 else (3, ofL l, sch)
theorem scheme_l0 (x3 x4 s0 s1 s2 : Y) (s3 : Int) (s4 s5 s6 : Y) (s7 s8 : Bool) (hs : x3.size ≤ 100000000) : ∀ (L : List UInt8) (i : Nat), x3.data.toList.drop i = L → i ≤ x3.size →
  EvR (fun k => Yu.l0 k x3 x4 (x3.size : Int) (i : Int) s0 s1 s2 s3 s4 s5 s6 s7 s8)
   (if L.all Ywb = true then (if lowL x3.data.toList = Yeh ∨ lowL x3.data.toList = Yzf then (0 : Int) else 16, x4, ofL (lowL x3.data.toList), s2, s3, s4, s5, s6, s7, s8) else (3, s0, s1, s2, s3, s4, s5, s6, s7, s8)) := by
 intro L
 induction L with
 | nil =>
  intro i hL hi
  have he := bt_end x3 i hL hi
  refine EvR.succ (EvR.of fun k => ?_)
  have hlo : Yib.f x3 = some (ofL (lowL x3.data.toList)) := by unfold Yib.f; rw [if_pos Zk]
  rw [Yu.l0, if_neg Zk, hlo]
  simp only [Kfa, Ywc, List.all_nil, if_true]
  by_cases h1 : lowL x3.data.toList = Yeh
  ·rw [if_pos h1, if_pos (Or.inl h1)]
  ·rw [if_neg h1]
   by_cases h2 : lowL x3.data.toList = Yzf
   ·rw [if_pos h2, if_pos (Or.inr h2)]
   ·rw [if_neg h2, if_neg (by rintro (h | h); exact h1 h; exact h2 h)]
 | cons b t ih =>
  intro i hL hi
  obtain ⟨kY, hb, ht⟩ := Yvc x3 i b t hL
  have hw := Yzd i x3.size hi hs
  refine EvR.succ ?_
  have hstep : ∀ k, Yu.l0 (k + 1) x3 x4 (x3.size : Int) (i : Int) s0 s1 s2 s3 s4 s5 s6 s7 s8 = if Ywb b = true then Yu.l0 k x3 x4 (x3.size : Int) ((i + 1 : Nat) : Int) s0 s1 s2 s3 s4 s5 s6 s7 s8 else some (3, s0, s1, s2, s3, s4, s5, s6, s7, s8) := by
   intro k
   rw [Yu.l0, if_pos Zk, if_pos Zk, if_pos Zk, hb, Ydk]
   simp only [Kfa]
   rw [Ynj, hw, sign_f]
   simp only [Kfa]
   unfold Ywb
   cases h1 : Yyc b
   ·cases h2 : Ygd b
    ·rw [if_neg Zv, if_neg Zv]
     by_cases h3 : b = 43
     ·simp [h3]
     ·by_cases h4 : b = 45
      ·simp [h4]
      ·by_cases h5 : b = 46
       ·simp [h5]
       ·simp [h3, h4, h5]
    ·simp
   ·simp
  by_cases hn : Ywb b = true
  ·refine EvR.congr (f := fun k => Yu.l0 k x3 x4 (x3.size : Int) ((i + 1 : Nat) : Int) s0 s1 s2 s3 s4 s5 s6 s7 s8) ?_ (fun k => by rw [hstep, if_pos hn])
   have := ih (i + 1) ht Zk
   rw [List.all_cons, hn, Bool.true_and]; exact this
  ·refine EvR.of fun k => ?_
   rw [hstep, if_neg hn, List.all_cons]
   simp [hn]
theorem scheme_f (s0 s1 s2 : Y) (s3 : Int) (s4 s5 s6 : Y) (s7 s8 : Bool) (hs : s0.size ≤ 100000000) :
  EvR (fun k => Yu.f k s0 s1 s2 s3 s4 s5 s6 s7 s8) ((Yff s0.data.toList s1).1, (Yff s0.data.toList s1).2.1, (Yff s0.data.toList s1).2.2, s2, s3, s4, s5, s6, s7, s8) := by
 have hc : strings_Cut.f s0 ⟨#[58]⟩ = some (ofL (Lib.cut s0.data.toList [58]).1, ofL (Lib.cut s0.data.toList [58]).2.1, (Lib.cut s0.data.toList [58]).2.2) := by
  unfold strings_Cut.f; rw [if_pos Zk]
 have hl := (Ywl s0.data.toList [58]).1
 rw [← Lib.size_eq] at hl
 have hno : Yff s0.data.toList s1 = (3, s0, s1) ∨ ((Lib.cut s0.data.toList [58]).2.2 = true ∧ (Lib.cut s0.data.toList [58]).1 ≠ [] ∧ Yyc ((Lib.cut s0.data.toList [58]).1.headD 0) = true) := by
  unfold Yff
  by_cases h : (Lib.cut s0.data.toList [58]).2.2 = true ∧ (Lib.cut s0.data.toList [58]).1 ≠ [] ∧ Yyc ((Lib.cut s0.data.toList [58]).1.headD 0) = true
  ·exact .inr h
  ·left
   rw [if_neg (fun h2 => h ⟨h2.1, h2.2.1, h2.2.2.1⟩), Yhi]
 have hj : ∀ (x3 x4 : Y) k, Yu.j0 (k + 1) x3 x4 true s0 s1 s2 s3 s4 s5 s6 s7 s8 = some (3, s0, s1, s2, s3, s4, s5, s6, s7, s8) := by
  intro x3 x4 k; rw [Yu.j0, if_pos rfl]
 by_cases h1 : (Lib.cut s0.data.toList [58]).2.2 = true
 ·by_cases h2 : (Lib.cut s0.data.toList [58]).1 = []
  ·rcases hno with hno | hno
   ·rw [hno]
    refine EvR.succ (EvR.of fun k => ?_)
    unfold Yu.f
    rw [hc]
    simp only [Kfa]
    rw [if_pos h1, if_pos (by rw [Ywc]; exact h2), hj]
   ·exact absurd h2 hno.2.1
  ·have hpos : 0 < (ofL (Lib.cut s0.data.toList [58]).1).size := by rw [Yy]; exact List.length_pos_iff.2 h2
   have hbt : bt (ofL (Lib.cut s0.data.toList [58]).1) 0 = (((Lib.cut s0.data.toList [58]).1.headD 0).toNat : Int) := by
    cases hq : (Lib.cut s0.data.toList [58]).1 with
    | nil => exact absurd hq h2
    | cons b t => rfl
   have hf : ∀ k, Yu.f k s0 s1 s2 s3 s4 s5 s6 s7 s8 = Yu.j0 k (ofL (Lib.cut s0.data.toList [58]).1) (ofL (Lib.cut s0.data.toList [58]).2.1) (!(Yyc ((Lib.cut s0.data.toList [58]).1.headD 0))) s0 s1 s2 s3 s4 s5 s6 s7 s8 := by
    intro k
    unfold Yu.f
    rw [hc]
    simp only [Kfa]
    rw [if_pos h1, if_neg (by rw [Ywc]; exact h2), if_pos Zk, hbt, Ydk]
    rfl
   by_cases h3 : Yyc ((Lib.cut s0.data.toList [58]).1.headD 0) = true
   ·refine EvR.congr (f := fun k => Yu.j0 k (ofL (Lib.cut s0.data.toList [58]).1) (ofL (Lib.cut s0.data.toList [58]).2.1) false s0 s1 s2 s3 s4 s5 s6 s7 s8) ?_ (fun k => by rw [hf, h3]; rfl)
    refine EvR.succ ?_
    refine EvR.congr (f := fun k => Yu.l0 k (ofL (Lib.cut s0.data.toList [58]).1) (ofL (Lib.cut s0.data.toList [58]).2.1) ((ofL (Lib.cut s0.data.toList [58]).1).size : Int) ((0 : Nat) : Int) s0 s1 s2 s3 s4 s5 s6 s7 s8) ?_ (fun k => by rw [Yu.j0, if_neg Zv]; rfl)
    have h := scheme_l0 (ofL (Lib.cut s0.data.toList [58]).1) (ofL (Lib.cut s0.data.toList [58]).2.1) s0 s1 s2 s3 s4 s5 s6 s7 s8 Zda _ 0 rfl Zk
    rw [List.drop_zero, Ygb] at h
    unfold Yff
    by_cases h4 : (Lib.cut s0.data.toList [58]).1.all Ywb = true
    ·rw [if_pos h4] at h
     rw [if_pos ⟨h1, h2, h3, h4⟩]
     exact h
    ·rw [if_neg h4] at h
     rw [if_neg (fun h5 => h4 h5.2.2.2), Yhi]
     exact h
   ·have h4 : Yyc ((Lib.cut s0.data.toList [58]).1.headD 0) = false := by cases hq : Yyc ((Lib.cut s0.data.toList [58]).1.headD 0) <;> simp_all
    rcases hno with hno | hno
    ·rw [hno]
     refine EvR.succ (EvR.of fun k => ?_)
     rw [hf, h4]
     exact hj _ _ k
    ·exact absurd hno.2.2 h3
 ·rcases hno with hno | hno
  ·rw [hno]
   refine EvR.succ (EvR.of fun k => ?_)
   unfold Yu.f
   rw [hc]
   simp only [Kfa]
   rw [if_neg h1, hj]
  ·exact absurd hno.1 h1
def Yif (l : List UInt8) : List UInt8 × Int := if lowL (Ynb l) = [] then ([], 4) else if Yri (lowL (Ynb l)) = true then (lowL (Ynb l), 0) else ([], 17)
theorem Yuk : ∀ (n : Nat) (l : List UInt8), l.length ≤ n → (Ynb l).length ≤ l.length := by
 intro n
 induction n with
 | zero => intro l h; cases l with | nil => simp [Ynb] | cons b l => simp at h
 | succ n ih =>
  intro l h
  match l, h with
  | [], _ => simp [Ynb]
  | [c], _ => simp [Ynb]
  | [c, d], _ => simp [Ynb]
  | c :: a :: b :: t, h =>
   rw [Ynb]
   simp only [List.length_cons] at h
   split
   ·have := ih t Zk; simp only [List.length_cons]; omega
   ·have := ih (a :: b :: t) (by simp only [List.length_cons]; omega); simp only [List.length_cons] at this ⊢; omega
theorem host_f (s : Y) (hs : s.size ≤ 90000000) : EvR (fun k => Ywe.f k s) (ofL (Yif s.data.toList).1, (Yif s.data.toList).2) := by
 have hu : Yce.f s = some (ofL (Ynb s.data.toList)) := by unfold Yce.f; rw [if_pos Zk]
 have hul := Yuk _ s.data.toList (Kw _)
 rw [← Lib.size_eq] at hul
 have hl : Yib.f (ofL (Ynb s.data.toList)) = some (ofL (lowL (Ynb s.data.toList))) := by
  unfold Yib.f; rw [if_pos Zda, Ygb]
 have hf : ∀ k, Ywe.f k s = if lowL (Ynb s.data.toList) = [] then some ((⟨#[]⟩ : Y), 4) else ((Yob.f k (ofL (lowL (Ynb s.data.toList)))).bind fun c => if c = true then some (ofL (lowL (Ynb s.data.toList)), 0) else some ((⟨#[]⟩ : Y), 17)) := by
  intro k
  unfold Ywe.f
  rw [hu]
  simp only [Kfa]
  rw [hl]
  simp only [Kfa, Ywc]
 unfold Yif
 by_cases h0 : lowL (Ynb s.data.toList) = []
 ·refine EvR.of fun k => ?_
  rw [hf, if_pos h0, if_pos h0]; rfl
 ·refine EvR.congr (f := fun k => (Yob.f k (ofL (lowL (Ynb s.data.toList)))).bind fun c => if c = true then some (ofL (lowL (Ynb s.data.toList)), 0) else some ((⟨#[]⟩ : Y), 17)) ?_ (fun k => by rw [hf, if_neg h0])
  have hn := isName_f (ofL (lowL (Ynb s.data.toList))) (by rw [Yy, Ylh]; omega)
  rw [Ygb] at hn
  refine EvR.bind (g := fun _ c => if c = true then some (ofL (lowL (Ynb s.data.toList)), 0) else some ((⟨#[]⟩ : Y), 17)) hn (EvR.of fun _ => ?_)
  rw [if_neg h0]
  by_cases h1 : Yri (lowL (Ynb s.data.toList)) = true
  ·rw [if_pos h1, if_pos h1]
  ·rw [if_neg h1, if_neg h1]; rfl
def Ybc (l : List UInt8) : List UInt8 := (Lib.trimLeftS l [47, 92]).takeWhile (Ydb [47, 92, 63, 35])
def Ybg (l : List UInt8) : List UInt8 := (Lib.trimLeftS l [47, 92]).dropWhile (Ydb [47, 92, 63, 35])
def ownN (sch : List UInt8) : Int := if sch = Yeh then 80 else 443
def Yrf (l sch : List UInt8) (host : Y) (port : Int) : Int × Y × Y × Int :=
 if Lib.indexAny l [47, 92] = 0 then
  if Lib.indexByte (Ybc l) 64 ≥ 0 then (3, ofL (Ybg l), host, port) else
   if (Yif (Lib.cut (Ybc l) [58]).1).2 = 0 then
    if (Lib.cut (Ybc l) [58]).2.1 = [] then (0, ofL (Ybg l), ofL (Yif (Lib.cut (Ybc l) [58]).1).1, port) else
     if (numL 65535 (Lib.cut (Ybc l) [58]).2.1).2 = 0 then
      if (numL 65535 (Lib.cut (Ybc l) [58]).2.1).1 = ownN sch then (0, ofL (Ybg l), ofL (Yif (Lib.cut (Ybc l) [58]).1).1, port)
      else (0, ofL (Ybg l), ofL (Yif (Lib.cut (Ybc l) [58]).1).1, (numL 65535 (Lib.cut (Ybc l) [58]).2.1).1)
     else (3, ofL (Ybg l), ofL (Yif (Lib.cut (Ybc l) [58]).1).1, port)
   else ((Yif (Lib.cut (Ybc l) [58]).1).2, ofL (Ybg l), host, port)
 else (3, ofL l, host, port)
theorem place_f (s0 s1 s2 : Y) (s3 : Int) (s4 s5 s6 : Y) (s7 s8 : Bool) (hs : s0.size ≤ 90000000) :
  EvR (fun k => Yjf.f k s0 s1 s2 s3 s4 s5 s6 s7 s8) ((Yrf s0.data.toList s1.data.toList s2 s3).1, (Yrf s0.data.toList s1.data.toList s2 s3).2.1, s1, (Yrf s0.data.toList s1.data.toList s2 s3).2.2.1, (Yrf s0.data.toList s1.data.toList s2 s3).2.2.2, s4, s5, s6, s7, s8) := by
 have hi : strings_IndexAny.f s0 ⟨#[47, 92]⟩ = some (Lib.indexAny s0.data.toList [47, 92]) := by
  unfold strings_IndexAny.f; rw [if_pos ⟨rfl, Zca, Zca, Zk⟩]
 unfold Yrf
 unfold Yjf.f
 rw [hi]
 simp only [Kfa]
 by_cases h1 : Lib.indexAny s0.data.toList [47, 92] = 0
 ·rw [if_pos h1]
  have ht : Ypc.f s0 ⟨#[47, 92]⟩ = some (ofL (Lib.trimLeftS s0.data.toList [47, 92])) := by
   unfold Ypc.f; rw [if_pos ⟨Zca, Zca⟩]
  have htl : (Lib.trimLeftS s0.data.toList [47, 92]).length ≤ s0.size := by rw [Lib.size_eq]; exact (List.dropWhile_sublist _).length_le
  have hph : (Ybc s0.data.toList).length ≤ s0.size := Nat.le_trans (Yse _ _) htl
  have hk : Yec.f (ofL (Lib.trimLeftS s0.data.toList [47, 92])) s1 s2 s3 s4 s5 s6 s7 s8 ⟨#[47, 92, 63, 35]⟩ = some (ofL (Ybc s0.data.toList), ofL (Ybg s0.data.toList), s1, s2, s3, s4, s5, s6, s7, s8) := by
   rw [take_f _ _ _ _ _ _ _ _ _ _ rfl Zda]; rfl
  have hcl := Ywl (Ybc s0.data.toList) [58]
  have hc : strings_Cut.f (ofL (Ybc s0.data.toList)) ⟨#[58]⟩ = some (ofL (Lib.cut (Ybc s0.data.toList) [58]).1, ofL (Lib.cut (Ybc s0.data.toList) [58]).2.1, (Lib.cut (Ybc s0.data.toList) [58]).2.2) := by
   unfold strings_Cut.f; rw [if_pos Zda]; rfl
  have hat : strings_IndexByte.f (ofL (Ybc s0.data.toList)) 64 = some (Lib.indexByte (Ybc s0.data.toList) 64) := rfl
  rw [ht]
  simp only [Kfa]
  rw [hk]
  simp only [Kfa]
  rw [hat]
  simp only [Kfa]
  by_cases h2 : Lib.indexByte (Ybc s0.data.toList) 64 ≥ 0
  ·refine EvR.of fun k => ?_
   rw [if_pos h1, if_pos h2, if_pos h2]
  ·rw [if_neg h2, hc]
   simp only [Kfa]
   have hh := host_f (ofL (Lib.cut (Ybc s0.data.toList) [58]).1) Zda
   rw [Ygb] at hh
   simp only [if_pos h1, if_neg h2]
   refine EvR.bind hh ?_
   by_cases h3 : (Yif (Lib.cut (Ybc s0.data.toList) [58]).1).2 = 0
   ·simp only [if_pos h3, Ywc]
    by_cases h4 : (Lib.cut (Ybc s0.data.toList) [58]).2.1 = []
    ·refine EvR.of fun k => ?_
     simp only [if_pos h4]
    ·simp only [if_neg h4]
     have hn := Ygp (ofL (Lib.cut (Ybc s0.data.toList) [58]).2.1) 65535 Zk Zk Zda
     rw [Ygb] at hn
     refine EvR.bind hn (EvR.of fun k => ?_)
     by_cases h5 : (numL 65535 (Lib.cut (Ybc s0.data.toList) [58]).2.1).2 = 0
     ·simp only [if_pos h5]
      have ho : Yjg.f s1 = some (ownN s1.data.toList) := by
       unfold Yjg.f ownN
       rw [Lib.toList_data]
       split <;> rfl
      rw [ho]
      simp only [Kfa]
      by_cases h6 : (numL 65535 (Lib.cut (Ybc s0.data.toList) [58]).2.1).1 = ownN s1.data.toList
      ·simp only [if_pos h6]
      ·simp only [if_neg h6]
     ·simp only [if_neg h5]
   ·refine EvR.of fun k => ?_
    simp only [if_neg h3]
 ·refine EvR.of fun k => ?_
  simp only [if_neg h1, Yhi]
def Yxf (a0 a1 : Y) (p : Int) : Y := if p = 0 then (a0 ++ (⟨#[58, 47, 47]⟩ : Y)) ++ a1 else ((a0 ++ (⟨#[58, 47, 47]⟩ : Y)) ++ a1) ++ ((⟨#[58]⟩ : Y) ++ strOfNums (Yuf p.toNat))
def Yqj (o a4 : Y) (q : Bool) : Y := if q = true then o ++ ((⟨#[63]⟩ : Y) ++ a4) else o
def Yxk (o a5 : Y) (f : Bool) : Y := if f = true then o ++ ((⟨#[35]⟩ : Y) ++ a5) else o
def Ytd (a0 a1 : Y) (p : Int) (a3 a4 a5 : Y) (q f : Bool) : Y := Yxk (Yqj (Yxf a0 a1 p ++ a3) a4 q) a5 f
theorem strOfNums_size (xs : List Int) : (strOfNums xs).size = xs.length := by
 rw [Lib.size_eq]; unfold strOfNums; simp
theorem Yhg (v : Nat) : (Yuf v).length ≤ 20 := by
 unfold Yuf
 split
 ·simp
 ·rw [List.length_reverse]; exact Ymt 20 v
theorem Yaj : (⟨#[58, 47, 47]⟩ : Y).size = 3 := rfl
theorem Ywm : (⟨#[58]⟩ : Y).size = 1 := rfl
theorem Yhk : (⟨#[63]⟩ : Y).size = 1 := rfl
theorem Ysj : (⟨#[35]⟩ : Y).size = 1 := rfl
theorem Ymm (a0 a1 : Y) (p : Int) : (Yxf a0 a1 p).size ≤ a0.size + a1.size + 24 := by
 have := Yhg p.toNat
 unfold Yxf
 split
 ·simp only [ByteArray.size_append, Yaj]; omega
 ·simp only [ByteArray.size_append, Yaj, Ywm, strOfNums_size]; omega
theorem origin_f (a0 a1 : Y) (p : Int) (a3 a4 a5 : Y) (q f : Bool) (h0 : a0.size ≤ 1000000000000) (h1 : a1.size ≤ 1000000000000) (hp : 0 ≤ p) (hp2 : p < 1000000000000000000) :
  EvR (fun k => Yef.f k a0 a1 p a3 a4 a5 q f) (Yxf a0 a1 p) := by
 unfold Yxf
 unfold Yef.f
 by_cases hz : p = 0
 ·refine EvR.of fun k => ?_
  simp only [if_pos hz]
  rw [if_pos Zk, if_pos (by simp only [ByteArray.size_append, Yaj]; omega)]
 ·simp only [if_neg hz]
  have ht := text_f p.toNat Zk
  have htl := Yhg p.toNat
  rw [Int.toNat_of_nonneg hp] at ht
  have c1 : a0.size + 3 ≤ 9223372036854775807 := by omega
  have c2 : (a0 ++ (⟨#[58, 47, 47]⟩ : Y)).size + a1.size ≤ 9223372036854775807 := by simp only [ByteArray.size_append, Yaj]; omega
  simp only [if_pos c1, if_pos c2]
  refine EvR.bind ht (EvR.of fun k => ?_)
  rw [if_pos Zwb, if_pos Zfb]
theorem Ybt (a0 a1 : Y) (p : Int) (a3 a4 a5 : Y) (q f : Bool) (h0 : a0.size ≤ 1000000000000) (h1 : a1.size ≤ 1000000000000) (h3 : a3.size ≤ 1000000000000) (h4 : a4.size ≤ 1000000000000) (h5 : a5.size ≤ 1000000000000) (hp : 0 ≤ p) (hp2 : p < 1000000000000000000) :
  EvR (fun k => Yid.f k a0 a1 p a3 a4 a5 q f) (Ytd a0 a1 p a3 a4 a5 q f) := by
 have ho := origin_f a0 a1 p a3 a4 a5 q f h0 h1 hp hp2
 have hs := Ymm a0 a1 p
 unfold Yid.f
 refine EvR.bind ho (EvR.of fun k => ?_)
 unfold Ytd
 generalize Yxf a0 a1 p = o at hs
 rw [if_pos Zk]
 cases q with
 | true =>
  rw [if_pos rfl, if_pos Zk, if_pos Zpb]
  cases f with
  | true =>
   rw [if_pos rfl, if_pos Zk, if_pos Zlb]; rfl
  | false => rw [if_neg Zv]; rfl
 | false =>
  rw [if_neg Zv]
  cases f with
  | true =>
   rw [if_pos rfl, if_pos Zk, if_pos Zqb]; rfl
  | false => rw [if_neg Zv]; rfl
abbrev UrlE := Y × Y × Int × Y × Y × Y × Bool × Bool × Int
def Ycd (r : List UInt8) : Y := ofL (Yxe (Yxi r))
def Yyb (r : List UInt8) : Y := match Yve (Yjd r) with | some q => ofL (Yic Ykf q) | none => ⟨#[]⟩
def Ycc (r : List UInt8) : Y := match Ycf (Yeb (Yjd r)) with | some q => ofL (Yic Yyf q) | none => ⟨#[]⟩
def Yqc (r : List UInt8) : Bool := match Yve (Yjd r) with | some _ => true | none => false
def Ydc (r : List UInt8) : Bool := match Ycf (Yeb (Yjd r)) with | some _ => true | none => false
def Yfo (sch host : Y) (port : Int) (r : List UInt8) : UrlE :=
 if ((Ytd sch host port (Ycd r) (Yyb r) (Ycc r) (Yqc r) (Ydc r)).size : Int) > 2048 then Ytb 5 else (sch, host, port, Ycd r, Yyb r, Ycc r, Yqc r, Ydc r, 0)
def Yul (sch : Y) (y : Int × Y × Y × Int) : UrlE :=
 if ¬ y.1 = 0 then Ytb y.1 else Yfo sch y.2.2.1 y.2.2.2 y.2.1.data.toList
def Yvm (x : Int × Y × Y) : UrlE :=
 if ¬ x.1 = 0 then Ytb x.1 else Yul x.2.2 (Yrf x.2.1.data.toList x.2.2.data.toList ⟨#[]⟩ 0)
def Yzl (c : List UInt8) : UrlE := if (c.length : Int) > 2048 then Ytb 5 else Yvm (Yff c ⟨#[]⟩)
def Yqf (l : List UInt8) : UrlE := Yzl (Yqd l)
theorem Ydt (l : List UInt8) : (Yxi l).length ≤ l.length := Yse _ _
theorem Yql (l : List UInt8) : (Yjd l).length ≤ l.length := Yte _ _
theorem query_le (l q : List UInt8) (h : Yve l = some q) : q.length ≤ l.length := by
 cases l with
 | nil => cases h
 | cons b t =>
  simp only [Yve] at h
  split at h
  ·cases h; have := Yse (Ydb [35]) t; simp only [List.length_cons]; omega
  ·cases h
theorem Ywp (l : List UInt8) : (Yeb l).length ≤ l.length := by
 cases l with
 | nil => simp [Yeb]
 | cons b t =>
  simp only [Yeb]
  split
  ·have := Yte (Ydb [35]) t; simp only [List.length_cons]; omega
  ·exact Kw _
theorem frag_le (l q : List UInt8) (h : Ycf l = some q) : q.length ≤ l.length := by
 cases l with
 | nil => cases h
 | cons b t =>
  simp only [Ycf] at h
  split at h
  ·cases h; simp
  ·cases h
theorem Yyh (r : List UInt8) : (Ycd r).size ≤ 3 * r.length + 4 ∧ (Yyb r).size ≤ 3 * r.length ∧ (Ycc r).size ≤ 3 * r.length := by
 refine ⟨?_, ?_, ?_⟩
 ·unfold Ycd
  rw [Yy]
  have := pathL_le (Yxi r)
  have := Ydt r
  omega
 ·unfold Yyb
  split
  ·next q h =>
   rw [Yy]
   have := Ych Ykf q
   have := query_le _ _ h
   have := Yql r
   omega
  ·show 0 ≤ _; omega
 ·unfold Ycc
  split
  ·next q h =>
   rw [Yy]
   have := Ych Yyf q
   have := frag_le _ _ h
   have := Ywp (Yjd r)
   have := Yql r
   omega
  ·show 0 ≤ _; omega
theorem Ykm (l sch : List UInt8) : (Yrf l sch ⟨#[]⟩ 0).2.1.size ≤ l.length ∧ (Yrf l sch ⟨#[]⟩ 0).2.2.1.size ≤ l.length ∧ 0 ≤ (Yrf l sch ⟨#[]⟩ 0).2.2.2 ∧ (Yrf l sch ⟨#[]⟩ 0).2.2.2 ≤ 65535 := by
 have htl : (Lib.trimLeftS l [47, 92]).length ≤ l.length := (List.dropWhile_sublist _).length_le
 have hr : (Ybg l).length ≤ l.length := Nat.le_trans (Yte _ _) htl
 have hh : (Ybc l).length ≤ l.length := Nat.le_trans (Yse _ _) htl
 have hc := Ywl (Ybc l) [58]
 have hhost : ∀ m : List UInt8, (Yif m).1.length ≤ m.length := by
  intro m
  have := Yuk _ m (Kw _)
  unfold Yif
  split
  ·simp
  ·split
   ·rw [Ylh]; exact this
   ·simp
 have hh2 := hhost (Lib.cut (Ybc l) [58]).1
 have hn := Ywn 65535 Zk (Lib.cut (Ybc l) [58]).2.1
 have hz : (⟨#[]⟩ : Y).size = 0 := rfl
 unfold Yrf
 repeat' split
 all_goals simp only [Yy, hz]
 all_goals refine ⟨?_, ?_, ?_, ?_⟩
 all_goals omega
theorem Yti (l : List UInt8) : (Yqd l).length ≤ l.length := by
 unfold Yqd
 have h1 := Yjq l
 have h2 := List.length_filter_le (· != 9) (Ysh l)
 have h3 := List.length_filter_le (· != 10) ((Ysh l).filter (· != 9))
 have h4 := List.length_filter_le (· != 13) (((Ysh l).filter (· != 9)).filter (· != 10))
 omega
theorem Yxn (s : Y) (hs : s.size ≤ 1000000000) : EvR (fun k => Yrd.f k s) (Yqf s.data.toList) := by
 have hc : Yxd.f s = some (ofL (Yqd s.data.toList)) := by unfold Yxd.f; rw [if_pos Zk]
 unfold Yqf
 generalize hcl : Yqd s.data.toList = c at hc
 unfold Yrd.f
 rw [hc]
 simp only [Kfa, Yy]
 unfold Yzl
 by_cases h1 : (c.length : Int) > 2048
 ·refine EvR.of fun k => ?_
  rw [if_pos h1, if_pos h1]
 ·simp only [if_neg h1]
  have hsc := scheme_f (ofL c) ⟨#[]⟩ ⟨#[]⟩ 0 ⟨#[]⟩ ⟨#[]⟩ ⟨#[]⟩ false false Zda
  rw [Ygb] at hsc
  have hxs : (Yff c ⟨#[]⟩).2.1.size ≤ 2048 ∧ (Yff c ⟨#[]⟩).2.2.size ≤ 2048 := by
   have := Ywl c [58]
   unfold Yff
   split
   ·simp only [Yy, Ylh]; omega
   ·have hz : (⟨#[]⟩ : Y).size = 0 := rfl
    simp only [Yy, hz]; omega
  generalize Yff c ⟨#[]⟩ = x at hsc hxs
  refine EvR.bind hsc ?_
  unfold Yvm
  by_cases h2 : ¬ x.1 = 0
  ·refine EvR.of fun k => ?_
   rw [if_pos h2, if_pos h2]
  ·simp only [if_neg h2]
   have hpl := place_f x.2.1 x.2.2 ⟨#[]⟩ 0 ⟨#[]⟩ ⟨#[]⟩ ⟨#[]⟩ false false Zk
   have hps := Ykm x.2.1.data.toList x.2.2.data.toList
   rw [← Lib.size_eq] at hps
   generalize Yrf x.2.1.data.toList x.2.2.data.toList ⟨#[]⟩ 0 = y at hpl hps
   refine EvR.bind hpl ?_
   unfold Yul
   by_cases h3 : ¬ y.1 = 0
   ·refine EvR.of fun k => ?_
    rw [if_pos h3, if_pos h3]
   ·simp only [if_neg h3]
    have ht : Yvd.f y.2.1 x.2.2 y.2.2.1 y.2.2.2 ⟨#[]⟩ ⟨#[]⟩ ⟨#[]⟩ false false = some (ofL (Yvi (Yeb (Yjd y.2.1.data.toList))), x.2.2, y.2.2.1, y.2.2.2, Ycd y.2.1.data.toList, Yyb y.2.1.data.toList, Ycc y.2.1.data.toList, Yqc y.2.1.data.toList, Ydc y.2.1.data.toList) := by
     unfold Yvd.f
     rw [if_pos Zk]; rfl
    rw [ht]
    simp only [Kfa]
    have hts := Yyh y.2.1.data.toList
    rw [← Lib.size_eq] at hts
    have hst := Ybt x.2.2 y.2.2.1 y.2.2.2 (Ycd y.2.1.data.toList) (Yyb y.2.1.data.toList) (Ycc y.2.1.data.toList) (Yqc y.2.1.data.toList) (Ydc y.2.1.data.toList) Zk Zk Zk Zk Zk Zk Zk
    refine EvR.bind hst (EvR.of fun k => ?_)
    unfold Yfo
    split <;> rfl
end Go.Proofs.YtnmglnglbdpjjaaGreatDoor.X
