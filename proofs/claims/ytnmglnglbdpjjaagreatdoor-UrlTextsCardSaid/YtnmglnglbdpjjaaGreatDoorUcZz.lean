/- Texts of URLs with any number as their port: the program's and the document's are the same. -/
import Derived.Test.YtnmglnglbdpjjaaGreatDoorUcZv
namespace Go.Proofs.YtnmglnglbdpjjaaGreatDoor.X
open Go.RowKit Go.Lib Go.Shelf Go.Yw.PrintWords Go.Yw.PrintLast Go.Yw.PrintMore
set_option linter.unusedVariables false
set_option linter.unusedSimpArgs false
theorem pad_neg (x0 : Int) (hx : x0 < 0) : ∀ (f v : Nat) (acc : List Int), v < 10 ^ f → v < 18446744073709551616 → acc.length + f ≤ 1000 → (acc ≠ [] ∨ v ≠ 0) →
  EvR (fun k => Ybb.l0 k x0 1 (v : Int) acc) (strOfNums ((acc ++ digs f v) ++ [45]).reverse) := by
 have hz : ∀ acc : List Int, acc.length ≤ 1000 → acc ≠ [] → EvR (fun k => Ybb.l0 k x0 1 (((0 : Nat) : Int)) acc) (strOfNums (acc ++ [45]).reverse) := by
  intro acc hl hne
  have h1 : 0 < acc.length := List.length_pos_iff.2 hne
  have hm : mx (mn 1 20) 1 = 1 := rfl
  refine EvR.succ ?_
  refine EvR.congr (f := fun k => (Yk.f k (acc ++ [45])).bind fun t => some (strOfNums t)) ?_ (fun k => ?_)
  ·exact EvR.bind (g := fun _ t => some (strOfNums t)) (Yxm (acc ++ [45]) (by simp; omega)) (EvR.of fun _ => rfl)
  ·rw [Ybb.l0, if_neg (by omega), hm, if_neg (by omega), if_pos hx, if_pos (by omega)]
 intro f
 induction f with
 | zero =>
  intro v acc hv hv2 hl hn
  have : v = 0 := by simpa using hv
  subst this
  rw [show digs 0 0 = [] from rfl, List.append_nil]
  exact hz acc (by omega) (by rcases hn with h | h; exact h; exact absurd rfl h)
 | succ f ih =>
  intro v acc hv hv2 hl hn
  by_cases h0 : v = 0
  ·subst h0
   rw [show digs (f + 1) 0 = [] from rfl, List.append_nil]
   exact hz acc (by omega) (by rcases hn with h | h; exact h; exact absurd rfl h)
  ·refine EvR.succ ?_
   have hd : digs (f + 1) v = (48 + ((v % 10 : Nat) : Int)) :: digs f (v / 10) := by rw [digs, if_neg h0]
   rw [hd, show acc ++ (48 + ((v % 10 : Nat) : Int)) :: digs f (v / 10) = (acc ++ [48 + ((v % 10 : Nat) : Int)]) ++ digs f (v / 10) by simp]
   refine (ih (v / 10) (acc ++ [48 + ((v % 10 : Nat) : Int)]) (by rw [Nat.pow_succ] at hv; omega) (by omega) (by simp; omega) (.inl (by simp))).congr (fun k => ?_)
   rw [Ybb.l0, if_pos (by omega), if_pos (by omega), Int.tdiv_eq_ediv_of_nonneg (by omega), Int.tmod_eq_emod_of_nonneg (by omega), Yhf _ (by omega) (by omega), Yhf _ (by omega) (by omega)]
   have e1 : (v : Int) / 10 = ((v / 10 : Nat) : Int) := by omega
   have e2 : (48 + (v : Int) % 10) % 256 = 48 + ((v % 10 : Nat) : Int) := by omega
   rw [e1, e2]
theorem u64_neg (p : Int) (h0 : -9223372036854775808 ≤ p) (h1 : p < 0) : IntKind.u64.wrap (-(IntKind.u64.wrap p)) = (((-p).toNat : Nat) : Int) := by
 unfold IntKind.wrap
 simp [IntKind.bits, IntKind.signed]
 omega
theorem textZ_f (p : Int) (h0 : -9223372036854775808 ≤ p) (h1 : p ≤ 9223372036854775807) : EvR (fun k => Ynd.f k p) (strOfNums (Yih p)) := by
 refine EvR.congr (f := fun k => (Ybb.f k p 1).bind fun t => some t) ?_ (fun k => rfl)
 refine EvR.bind (g := fun _ t => some t) (x := strOfNums (Yih p)) ?_ (EvR.of fun _ => rfl)
 unfold Yih
 by_cases hp : p < 0
 ·rw [if_pos hp]
  refine EvR.congr (f := fun k => Ybb.j0 k p 1 (((-p).toNat : Nat) : Int)) ?_ (fun k => by unfold Ybb.f; rw [if_pos hp, u64_neg p h0 hp])
  have hne : (-p).toNat ≠ 0 := by omega
  have h := pad_neg p hp 20 (-p).toNat [] (by omega) (by omega) (by simp) (.inr hne)
  have e : ((([] : List Int) ++ digs 20 (-p).toNat) ++ [45]).reverse = 45 :: Yrf (-p).toNat := by
   unfold Yrf; rw [if_neg hne]; simp
  rw [e] at h
  refine EvR.succ (h.congr fun k => ?_)
  rw [Ybb.j0]
 ·rw [if_neg hp]
  have e : IntKind.u64.wrap p = ((p.toNat : Nat) : Int) := by rw [Yhf _ (by omega) (by omega)]; omega
  refine EvR.congr (f := fun k => Ybb.j0 k p 1 ((p.toNat : Nat) : Int)) ?_ (fun k => by unfold Ybb.f; rw [if_neg hp, e])
  refine EvR.succ ?_
  unfold Yrf
  by_cases hz : p.toNat = 0
  ·rw [if_pos hz, hz]
   refine EvR.succ ?_
   refine (Ypn p (by omega) 0 0 [48] (by omega) (by omega) (by simp) (.inl (by simp))).congr (fun k => ?_)
   rw [Ybb.j0]; rfl
  ·rw [if_neg hz]
   refine (Ypn p (by omega) 20 p.toNat [] (by omega) (by omega) (by simp) (.inr hz)).congr fun k => ?_
   rw [Ybb.j0]
def Yag (a0 a1 : ByteArray) (p : Int) : ByteArray := if p = 0 then (a0 ++ (⟨#[58, 47, 47]⟩ : ByteArray)) ++ a1 else ((a0 ++ (⟨#[58, 47, 47]⟩ : ByteArray)) ++ a1) ++ ((⟨#[58]⟩ : ByteArray) ++ strOfNums (Yih p))
def Ycg (a0 a1 : ByteArray) (p : Int) (a3 a4 a5 : ByteArray) (q f : Bool) : ByteArray := Yzi (Yoi (Yag a0 a1 p ++ a3) a4 q) a5 f
theorem Yph (p : Int) : (Yih p).length ≤ 21 := by
 unfold Yih
 have h1 := Yze (-p).toNat
 have h2 := Yze p.toNat
 split
 ·simp only [List.length_cons]; omega
 ·omega
theorem Yoh (a0 a1 : ByteArray) (p : Int) : (Yag a0 a1 p).size ≤ a0.size + a1.size + 25 := by
 have := Yph p
 unfold Yag
 split
 ·simp only [ByteArray.size_append, Yfh]; omega
 ·simp only [ByteArray.size_append, Yfh, Yhk, strOfNums_size]; omega
theorem Yqm (a0 a1 : ByteArray) (p : Int) (a3 a4 a5 : ByteArray) (q f : Bool) (h0 : a0.size ≤ 1000000000000000) (h1 : a1.size ≤ 1000000000000000) (hp : -9223372036854775808 ≤ p) (hp2 : p ≤ 9223372036854775807) :
  EvR (fun k => Ybd.f k a0 a1 p a3 a4 a5 q f) (Yag a0 a1 p) := by
 unfold Yag
 unfold Ybd.f
 by_cases hz : p = 0
 ·refine EvR.of fun k => ?_
  simp only [if_pos hz]
  rw [if_pos (by omega), if_pos (by simp only [ByteArray.size_append, Yfh]; omega)]
 ·simp only [if_neg hz]
  have ht := textZ_f p hp hp2
  have htl := Yph p
  have c1 : a0.size + 3 ≤ 9223372036854775807 := by omega
  have c2 : (a0 ++ (⟨#[58, 47, 47]⟩ : ByteArray)).size + a1.size ≤ 9223372036854775807 := by simp only [ByteArray.size_append, Yfh]; omega
  simp only [if_pos c1, if_pos c2]
  refine EvR.bind ht (EvR.of fun k => ?_)
  rw [if_pos (by rw [strOfNums_size]; omega), if_pos (by simp only [ByteArray.size_append, Yfh, Yhk, strOfNums_size]; omega)]
theorem stringZ_f (a0 a1 : ByteArray) (p : Int) (a3 a4 a5 : ByteArray) (q f : Bool) (h0 : a0.size ≤ 1000000000000000) (h1 : a1.size ≤ 1000000000000000) (h3 : a3.size ≤ 1000000000000000) (h4 : a4.size ≤ 1000000000000000) (h5 : a5.size ≤ 1000000000000000) (hp : -9223372036854775808 ≤ p) (hp2 : p ≤ 9223372036854775807) :
  EvR (fun k => Ync.f k a0 a1 p a3 a4 a5 q f) (Ycg a0 a1 p a3 a4 a5 q f) := by
 have ho := Yqm a0 a1 p a3 a4 a5 q f h0 h1 hp hp2
 have hs := Yoh a0 a1 p
 unfold Ync.f
 refine EvR.bind ho (EvR.of fun k => ?_)
 unfold Ycg
 generalize Yag a0 a1 p = o at hs
 rw [if_pos (by omega)]
 cases q with
 | true =>
  rw [if_pos rfl, if_pos (by omega), if_pos (by simp only [ByteArray.size_append, Ysh]; omega)]
  cases f with
  | true => rw [if_pos rfl, if_pos (by omega), if_pos (by simp only [ByteArray.size_append, Ysh, Yrh]; omega)]; rfl
  | false => rw [if_neg (by simp)]; rfl
 | false =>
  rw [if_neg (by simp)]
  cases f with
  | true => rw [if_pos rfl, if_pos (by omega), if_pos (by simp only [ByteArray.size_append, Yrh]; omega)]; rfl
  | false => rw [if_neg (by simp)]; rfl
theorem Yul (a0 a1 : ByteArray) (p : Int) (a3 a4 a5 : ByteArray) (q f : Bool) (h0 : a0.size ≤ 1000000000000000) (h1 : a1.size ≤ 1000000000000000) (h3 : a3.size ≤ 1000000000000000) (h4 : a4.size ≤ 1000000000000000) (h5 : a5.size ≤ 1000000000000000) (hp : -9223372036854775808 ≤ p) (hp2 : p ≤ 9223372036854775807) :
  EvR (fun k => Yja.f k a0 a1 p a3 a4 a5 q f) (Ycg a0 a1 p a3 a4 a5 q f) := by
 have hs := Yoh a0 a1 p
 have fin : ∀ o : ByteArray, o.size ≤ a0.size + a1.size + 25 → EvR (fun k => Yja.j0 k o a0 a1 p a3 a4 a5 q f) (Yzi (Yoi (o ++ a3) a4 q) a5 f) := by
  intro o ho
  refine EvR.succ (EvR.of fun k => ?_)
  rw [Yja.j0, if_pos (by omega)]
  cases q with
  | true =>
   rw [if_pos rfl, if_pos (by omega), if_pos (by simp only [ByteArray.size_append, Ysh]; omega)]
   cases f with
   | true => rw [if_pos rfl, if_pos (by omega), if_pos (by simp only [ByteArray.size_append, Ysh, Yrh]; omega)]; rfl
   | false => rw [if_neg (by simp)]; rfl
  | false =>
   rw [if_neg (by simp)]
   cases f with
   | true => rw [if_pos rfl, if_pos (by omega), if_pos (by simp only [ByteArray.size_append, Yrh]; omega)]; rfl
   | false => rw [if_neg (by simp)]; rfl
 have c1 : a0.size + 3 ≤ 9223372036854775807 := by omega
 have c2 : (a0 ++ (⟨#[58, 47, 47]⟩ : ByteArray)).size + a1.size ≤ 9223372036854775807 := by simp only [ByteArray.size_append, Yfh]; omega
 unfold Yja.f Ycg
 simp only [if_pos c1, if_pos c2]
 by_cases hz : p = 0
 ·have e : Yag a0 a1 p = (a0 ++ (⟨#[58, 47, 47]⟩ : ByteArray)) ++ a1 := by unfold Yag; rw [if_pos hz]
  rw [e] at hs ⊢
  simp only [if_pos hz]
  exact fin _ hs
 ·have e : Yag a0 a1 p = ((a0 ++ (⟨#[58, 47, 47]⟩ : ByteArray)) ++ a1) ++ ((⟨#[58]⟩ : ByteArray) ++ strOfNums (Yih p)) := by unfold Yag; rw [if_neg hz]
  rw [e] at hs ⊢
  simp only [if_neg hz]
  have ht := Yon p hp hp2
  have htl := Yph p
  refine EvR.bind (g := fun k t192 => if 1 + t192.size ≤ 9223372036854775807 then (if ((a0 ++ (⟨#[58, 47, 47]⟩ : ByteArray)) ++ a1).size + ((⟨#[58]⟩ : ByteArray) ++ t192).size ≤ 9223372036854775807 then Yja.j0 k (((a0 ++ (⟨#[58, 47, 47]⟩ : ByteArray)) ++ a1) ++ ((⟨#[58]⟩ : ByteArray) ++ t192)) a0 a1 p a3 a4 a5 q f else none) else none) ht ?_
  refine (fin _ hs).congr fun k => ?_
  rw [if_pos (by rw [strOfNums_size]; omega), if_pos (by simp only [ByteArray.size_append, Yfh, Yhk, strOfNums_size]; omega)]
end Go.Proofs.YtnmglnglbdpjjaaGreatDoor.X
