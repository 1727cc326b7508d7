import Derived.Test.YtnmglnglbdpjjaaGreatDoorUfZq
set_option linter.all false
section
namespace Go.Proofs.YtnmglnglbdpjjaaGreatDoor.X
open Go.RowKit Go.Lib Go.Shelf Go.Yw.PrintWords Go.Yw.PrintLast Go.Yw.PrintMore
theorem pad_neg (x0 : Int) (hx : x0 < 0) : ∀ (f v : Nat) (acc : List Int), v < 10 ^ f → v < 18446744073709551616 → acc.length + f ≤ 1000 → (acc ≠ [] ∨ v ≠ 0) →
  EvR (fun k => Ymb.l0 k x0 1 (v : Int) acc) (strOfNums ((acc ++ digs f v) ++ [45]).reverse) := by
 have hz : ∀ acc : List Int, acc.length ≤ 1000 → acc ≠ [] → EvR (fun k => Ymb.l0 k x0 1 (((0 : Nat) : Int)) acc) (strOfNums (acc ++ [45]).reverse) := by
  intro acc hl hne
  have h1 : 0 < acc.length := List.length_pos_iff.2 hne
  have hm : mx (mn 1 20) 1 = 1 := rfl
  refine EvR.succ ?_
  refine EvR.congr (f := fun k => (Yo.f k (acc ++ [45])).bind fun t => some (strOfNums t)) ?_ (fun k => ?_)
  ·exact EvR.bind (g := fun _ t => some (strOfNums t)) (Ymq (acc ++ [45]) Zib) (EvR.of fun _ => rfl)
  ·rw [Ymb.l0, if_neg Zk, hm, if_neg Zk, if_pos hx, if_pos Zk]
 intro f
 induction f with
 | zero =>
  intro v acc hv hv2 hl hn
  have : v = 0 := by simpa using hv
  subst this
  rw [show digs 0 0 = [] from rfl, List.append_nil]
  exact hz acc Zk (by rcases hn with h | h; exact h; exact absurd rfl h)
 | succ f ih =>
  intro v acc hv hv2 hl hn
  by_cases h0 : v = 0
  ·subst h0
   rw [show digs (f + 1) 0 = [] from rfl, List.append_nil]
   exact hz acc Zk (by rcases hn with h | h; exact h; exact absurd rfl h)
  ·refine EvR.succ ?_
   have hd : digs (f + 1) v = (48 + ((v % 10 : Nat) : Int)) :: digs f (v / 10) := by rw [digs, if_neg h0]
   rw [hd, show acc ++ (48 + ((v % 10 : Nat) : Int)) :: digs f (v / 10) = (acc ++ [48 + ((v % 10 : Nat) : Int)]) ++ digs f (v / 10) by simp]
   refine (ih (v / 10) (acc ++ [48 + ((v % 10 : Nat) : Int)]) (by rw [Nat.pow_succ] at hv; omega) Zk Zib (.inl Zv)).congr (fun k => ?_)
   rw [Ymb.l0, if_pos Zk, if_pos Zk, Int.tdiv_eq_ediv_of_nonneg Zk, Int.tmod_eq_emod_of_nonneg Zk, Yrg _ Zk Zk, Yrg _ Zk Zk]
   have e1 : (v : Int) / 10 = ((v / 10 : Nat) : Int) := by omega
   have e2 : (48 + (v : Int) % 10) % 256 = 48 + ((v % 10 : Nat) : Int) := by omega
   rw [e1, e2]
theorem u64_neg (p : Int) (h0 : -9223372036854775808 ≤ p) (h1 : p < 0) : IntKind.u64.wrap (-(IntKind.u64.wrap p)) = (((-p).toNat : Nat) : Int) := by
 unfold IntKind.wrap
 simp [IntKind.bits, IntKind.signed]
 omega
theorem textZ_f (p : Int) (h0 : -9223372036854775808 ≤ p) (h1 : p ≤ 9223372036854775807) : EvR (fun k => Yqe.f k p) (strOfNums (Ycj p)) := by
 refine EvR.congr (f := fun k => (Ymb.f k p 1).bind fun t => some t) ?_ (fun k => rfl)
 refine EvR.bind (g := fun _ t => some t) (x := strOfNums (Ycj p)) ?_ (EvR.of fun _ => rfl)
 unfold Ycj
 by_cases hp : p < 0
 ·rw [if_pos hp]
  refine EvR.congr (f := fun k => Ymb.j0 k p 1 (((-p).toNat : Nat) : Int)) ?_ (fun k => by unfold Ymb.f; rw [if_pos hp, u64_neg p h0 hp])
  have hne : (-p).toNat ≠ 0 := by omega
  have h := pad_neg p hp 20 (-p).toNat [] Zk Zk Zv (.inr hne)
  have e : ((([] : List Int) ++ digs 20 (-p).toNat) ++ [45]).reverse = 45 :: Yuf (-p).toNat := by
   unfold Yuf; rw [if_neg hne]; simp
  rw [e] at h
  refine EvR.succ (h.congr fun k => ?_)
  rw [Ymb.j0]
 ·rw [if_neg hp]
  have e : IntKind.u64.wrap p = ((p.toNat : Nat) : Int) := by rw [Yrg _ Zk Zk]; omega
  refine EvR.congr (f := fun k => Ymb.j0 k p 1 ((p.toNat : Nat) : Int)) ?_ (fun k => by unfold Ymb.f; rw [if_neg hp, e])
  refine EvR.succ ?_
  unfold Yuf
  by_cases hz : p.toNat = 0
  ·rw [if_pos hz, hz]
   refine EvR.succ ?_
   refine (Yfs p Zk 0 0 [48] Zk Zk Zv (.inl Zv)).congr (fun k => ?_)
   rw [Ymb.j0]; rfl
  ·rw [if_neg hz]
   refine (Yfs p Zk 20 p.toNat [] Zk Zk Zv (.inr hz)).congr fun k => ?_
   rw [Ymb.j0]
def Yqh (a0 a1 : Y) (p : Int) : Y := if p = 0 then (a0 ++ (⟨#[58, 47, 47]⟩ : Y)) ++ a1 else ((a0 ++ (⟨#[58, 47, 47]⟩ : Y)) ++ a1) ++ ((⟨#[58]⟩ : Y) ++ strOfNums (Ycj p))
def Ysd (a0 a1 : Y) (p : Int) (a3 a4 a5 : Y) (q f : Bool) : Y := Yxk (Yqj (Yqh a0 a1 p ++ a3) a4 q) a5 f
theorem Ykj (a0 a1 : Y) (p : Int) (a3 a4 a5 : Y) (q f : Bool) (hp : 0 ≤ p) : Ysd a0 a1 p a3 a4 a5 q f = Ytd a0 a1 p a3 a4 a5 q f := by
 unfold Ysd Ytd Yqh Yxf Ycj
 rw [if_neg (show ¬ p < 0 by omega)]
theorem Yoj (p : Int) : (Ycj p).length ≤ 21 := by
 unfold Ycj
 have h1 := Yhg (-p).toNat
 have h2 := Yhg p.toNat
 split
 ·simp only [List.length_cons]; omega
 ·omega
theorem Yjm (a0 a1 : Y) (p : Int) : (Yqh a0 a1 p).size ≤ a0.size + a1.size + 25 := by
 have := Yoj p
 unfold Yqh
 split
 ·simp only [ByteArray.size_append, Yaj]; omega
 ·simp only [ByteArray.size_append, Yaj, Ywm, strOfNums_size]; omega
theorem originZ_f (a0 a1 : Y) (p : Int) (a3 a4 a5 : Y) (q f : Bool) (h0 : a0.size ≤ 1000000000000000) (h1 : a1.size ≤ 1000000000000000) (hp : -9223372036854775808 ≤ p) (hp2 : p ≤ 9223372036854775807) :
  EvR (fun k => Yef.f k a0 a1 p a3 a4 a5 q f) (Yqh a0 a1 p) := by
 unfold Yqh
 unfold Yef.f
 by_cases hz : p = 0
 ·refine EvR.of fun k => ?_
  simp only [if_pos hz]
  rw [if_pos Zk, if_pos (by simp only [ByteArray.size_append, Yaj]; omega)]
 ·simp only [if_neg hz]
  have ht := textZ_f p hp hp2
  have htl := Yoj p
  have c1 : a0.size + 3 ≤ 9223372036854775807 := by omega
  have c2 : (a0 ++ (⟨#[58, 47, 47]⟩ : Y)).size + a1.size ≤ 9223372036854775807 := by simp only [ByteArray.size_append, Yaj]; omega
  simp only [if_pos c1, if_pos c2]
  refine EvR.bind ht (EvR.of fun k => ?_)
  rw [if_pos Zwb, if_pos Zfb]
theorem stringZ_f (a0 a1 : Y) (p : Int) (a3 a4 a5 : Y) (q f : Bool) (h0 : a0.size ≤ 1000000000000000) (h1 : a1.size ≤ 1000000000000000) (h3 : a3.size ≤ 1000000000000000) (h4 : a4.size ≤ 1000000000000000) (h5 : a5.size ≤ 1000000000000000) (hp : -9223372036854775808 ≤ p) (hp2 : p ≤ 9223372036854775807) :
  EvR (fun k => Yid.f k a0 a1 p a3 a4 a5 q f) (Ysd a0 a1 p a3 a4 a5 q f) := by
 have ho := originZ_f a0 a1 p a3 a4 a5 q f h0 h1 hp hp2
 have hs := Yjm a0 a1 p
 unfold Yid.f
 refine EvR.bind ho (EvR.of fun k => ?_)
 unfold Ysd
 generalize Yqh a0 a1 p = o at hs
 rw [if_pos Zk]
 cases q with
 | true =>
  rw [if_pos rfl, if_pos Zk, if_pos Zpb]
  cases f with
  | true => rw [if_pos rfl, if_pos Zk, if_pos Zlb]; rfl
  | false => rw [if_neg Zv]; rfl
 | false =>
  rw [if_neg Zv]
  cases f with
  | true => rw [if_pos rfl, if_pos Zk, if_pos Zqb]; rfl
  | false => rw [if_neg Zv]; rfl
theorem Yam (a0 a1 : Y) (p : Int) (a3 a4 a5 : Y) (q f : Bool) (h0 : a0.size ≤ 1000000000000000) (h1 : a1.size ≤ 1000000000000000) (h3 : a3.size ≤ 1000000000000000) (h4 : a4.size ≤ 1000000000000000) (h5 : a5.size ≤ 1000000000000000) (hp : -9223372036854775808 ≤ p) (hp2 : p ≤ 9223372036854775807) :
  EvR (fun k => Yx.f k a0 a1 p a3 a4 a5 q f) (Ysd a0 a1 p a3 a4 a5 q f) := by
 have hs := Yjm a0 a1 p
 have fin : ∀ o : Y, o.size ≤ a0.size + a1.size + 25 → EvR (fun k => Yx.j0 k o a0 a1 p a3 a4 a5 q f) (Yxk (Yqj (o ++ a3) a4 q) a5 f) := by
  intro o ho
  refine EvR.succ (EvR.of fun k => ?_)
  rw [Yx.j0, if_pos Zk]
  cases q with
  | true =>
   rw [if_pos rfl, if_pos Zk, if_pos Zpb]
   cases f with
   | true => rw [if_pos rfl, if_pos Zk, if_pos Zlb]; rfl
   | false => rw [if_neg Zv]; rfl
  | false =>
   rw [if_neg Zv]
   cases f with
   | true => rw [if_pos rfl, if_pos Zk, if_pos Zqb]; rfl
   | false => rw [if_neg Zv]; rfl
 have c1 : a0.size + 3 ≤ 9223372036854775807 := by omega
 have c2 : (a0 ++ (⟨#[58, 47, 47]⟩ : Y)).size + a1.size ≤ 9223372036854775807 := by simp only [ByteArray.size_append, Yaj]; omega
 unfold Yx.f Ysd
 simp only [if_pos c1, if_pos c2]
 by_cases hz : p = 0
 ·have e : Yqh a0 a1 p = (a0 ++ (⟨#[58, 47, 47]⟩ : Y)) ++ a1 := by unfold Yqh; rw [if_pos hz]
  rw [e] at hs ⊢
  simp only [if_pos hz]
  exact fin _ hs
 ·have e : Yqh a0 a1 p = ((a0 ++ (⟨#[58, 47, 47]⟩ : Y)) ++ a1) ++ ((⟨#[58]⟩ : Y) ++ strOfNums (Ycj p)) := by unfold Yqh; rw [if_neg hz]
  rw [e] at hs ⊢
  simp only [if_neg hz]
  have ht := Ypr p hp hp2
  have htl := Yoj p
  refine EvR.bind (g := fun k vS => if 1 + vS.size ≤ 9223372036854775807 then (if ((a0 ++ (⟨#[58, 47, 47]⟩ : Y)) ++ a1).size + ((⟨#[58]⟩ : Y) ++ vS).size ≤ 9223372036854775807 then Yx.j0 k (((a0 ++ (⟨#[58, 47, 47]⟩ : Y)) ++ a1) ++ ((⟨#[58]⟩ : Y) ++ vS)) a0 a1 p a3 a4 a5 q f else none) else none) ht ?_
  refine (fin _ hs).congr fun k => ?_
  rw [if_pos Zwb, if_pos Zfb]
end Go.Proofs.YtnmglnglbdpjjaaGreatDoor.X
end
section
namespace Go.Proofs.YtnmglnglbdpjjaaGreatDoor.X
open Go.RowKit Go.Lib Go.Shelf Go.Yw.PrintWords Go.Yw.PrintLast Go.Yw.PrintMore
def Ysb.f (a0 : Y) : Option (Y × Y × Int × Y × Y × Y × Bool × Bool × Int) :=
 if a0.size ≤ 100000000 then some (Yqf a0.data.toList) else none
theorem Ysb.calls (a0 r1 r2 : Y) (r3 : Int) (r4 r5 r6 : Y) (r7 r8 : Bool) (r9 : Int) (w : World) (hE : EnvOk w) (h : Ysb.f a0 = some (r1, r2, r3, r4, r5, r6, r7, r8, r9)) :
  Calls Tryz.prog 16 #[.string a0] w fun e w' => e = .returned (.tuple #[.agg (uc r1 r2 r3 r4 r5 r6 r7 r8), .int .i64 r9]) ∧ Below w.heap.size w w' := by
 unfold Ysb.f at h
 by_cases hs : a0.size ≤ 100000000
 ·rw [if_pos hs] at h
  exact Ygs a0 r1 r2 r3 r4 r5 r6 r7 r8 r9 w hE hs (Kv h)
 ·rw [if_neg hs] at h; cases h
end Go.Proofs.YtnmglnglbdpjjaaGreatDoor.X
end
