import Derived.Test.YtihaeeldgimdiaaGreatDoorIUZr
import Derived.Test.YtihaeeldgimdiaaGreatDoorIUX14
set_option linter.all false
namespace Go.Proofs.YtihaeeldgimdiaaGreatDoor.X
open Go.RowKit Go.Lib Go.Shelf Go.Yw.PrintWords Go.Yw.PrintLast Go.Yw.PrintMore
theorem Ynl (xs ys : List Int) : strOfNums xs ++ strOfNums ys = strOfNums (xs ++ ys) := by
 refine Ysf ?_
 rw [ByteArray.data_append, Array.toList_append]
 unfold strOfNums
 simp
theorem Yat : ∀ (f v : Nat) (acc : List Int), 1 ≤ f → v < 10 ^ f → v < 18446744073709551616 → acc.length + f ≤ 1000 →
  EvR (fun k => Yxa.l0 k (v : Int) (strOfNums acc)) (strOfNums ((if v = 0 then [48] else (digs f v).reverse) ++ acc)) := by
 intro f
 induction f with
 | zero => intro v acc h; omega
 | succ f ih =>
  intro v acc h1 hv hv2 hl
  have e1 : IntKind.u64.wrap (48 + Int.tmod (v : Int) 10) % 256 = 48 + ((v % 10 : Nat) : Int) := by
   rw [Int.tmod_eq_emod_of_nonneg Zj, Ymh _ Zj Zj]; omega
  have e2 : IntKind.u64.wrap (Int.tdiv (v : Int) 10) = ((v / 10 : Nat) : Int) := by
   rw [Int.tdiv_eq_ediv_of_nonneg Zj, Ymh _ Zj Zj]; omega
  have hsz : (strOfNums [48 + ((v % 10 : Nat) : Int)]).size + (strOfNums acc).size ≤ 9223372036854775807 := by
   rw [strOfNums_size, strOfNums_size]; simp only [List.length_cons, List.length_nil]; omega
  refine EvR.succ ?_
  by_cases hz : v / 10 = 0
  ·refine EvR.of fun k => ?_
   rw [Yxa.l0, Kba, e1, e2, if_pos hsz, if_pos Zj, Ynl]
   have e3 : (if v = 0 then [48] else (digs (f + 1) v).reverse) = [48 + ((v % 10 : Nat) : Int)] := by
    by_cases h0 : v = 0
    ·subst h0; rfl
    ·have hd : ∀ g, digs g 0 = [] := fun g => by cases g <;> rfl
     rw [if_neg h0, digs, if_neg h0, hz, hd]; rfl
   rw [e3]
  ·have h0 : v ≠ 0 := by omega
   have hf : 1 ≤ f := by
    cases f with
    | zero => simp at hv; omega
    | succ f => omega
   have hgo := ih (v / 10) ([48 + ((v % 10 : Nat) : Int)] ++ acc) hf (by rw [Nat.pow_succ] at hv; omega) Zj (by simp only [List.length_append, List.length_cons, List.length_nil]; omega)
   rw [if_neg hz] at hgo
   have e3 : (if v = 0 then [48] else (digs (f + 1) v).reverse) ++ acc = (digs f (v / 10)).reverse ++ ([48 + ((v % 10 : Nat) : Int)] ++ acc) := by
    rw [if_neg h0, digs, if_neg h0, List.reverse_cons, List.append_assoc]
   rw [e3]
   refine hgo.congr fun k => ?_
   rw [Yxa.l0, Kba, e1, e2, if_pos hsz, if_neg Zj, Ynl]
theorem Ykp (v : Nat) (hv : v < 18446744073709551616) : EvR (fun k => Yxa.f k (v : Int)) (strOfNums (Yvf v)) := by
 have h := Yat 20 v [] Zj Zj hv Zq
 rw [List.append_nil] at h
 exact h
def Yim (p : Int) : List Int := if p < 0 then 45 :: Yvf (-p).toNat else Yvf p.toNat
theorem Yap (v : Nat) : 1 ≤ (Yvf v).length := by
 unfold Yvf
 by_cases h : v = 0
 ·rw [if_pos h]; simp
 ·rw [if_neg h, List.length_reverse, digs, if_neg h]; simp
theorem Ywp (p : Int) (h0 : -9223372036854775808 ≤ p) (h1 : p ≤ 9223372036854775807) : EvR (fun k => Ygc.f k p) (strOfNums (Yim p)) := by
 have fin : ∀ (a b : List Int), 1 ≤ b.length → a.length + b.length ≤ 1000 → EvR (fun k => Yqa.j0 k 1 (strOfNums a) (strOfNums b)) (strOfNums (a ++ b)) := by
  intro a b hb hab
  refine EvR.succ (EvR.succ (EvR.of fun k => ?_))
  have hm : mn 1 20 = 1 := rfl
  rw [Yqa.j0, Yqa.l0, hm, if_neg (by rw [strOfNums_size]; omega), if_pos (by rw [strOfNums_size, strOfNums_size]; omega), Ynl]
 unfold Ygc.f
 refine EvR.bind (g := fun _ t => some t) ?_ (EvR.of fun _ => rfl)
 unfold Yqa.f Yim
 by_cases hp : p < 0
 ·simp only [if_pos hp]
  have e : IntKind.u64.wrap (IntKind.u64.wrap (wrap64 (-(wrap64 (p + 1)))) + 1) = (((-p).toNat : Nat) : Int) := by
   have w1 : wrap64 (p + 1) = p + 1 := by unfold wrap64; omega
   have w2 : wrap64 (-(p + 1)) = -(p + 1) := by unfold wrap64; omega
   rw [w1, w2, Ymh (-(p + 1)) Zj Zj, Ymh _ Zj Zj]; omega
  rw [e]
  refine EvR.bind (g := fun k aYq => Yqa.j0 k 1 (⟨#[45]⟩ : Y) aYq) (Ykp (-p).toNat Zj) ?_
  have hl := Ycf (-p).toNat
  exact fin [45] (Yvf (-p).toNat) (Yap _) (by simp only [List.length_cons, List.length_nil]; omega)
 ·simp only [if_neg hp]
  have e : IntKind.u64.wrap p = ((p.toNat : Nat) : Int) := by rw [Ymh _ Zj Zj]; omega
  rw [e]
  refine EvR.bind (g := fun k aYr => Yqa.j0 k 1 (⟨#[]⟩ : Y) aYr) (Ykp p.toNat Zj) ?_
  have hl := Ycf p.toNat
  exact fin [] (Yvf p.toNat) (Yap _) Zna
theorem Yas (s : Y) (most : Int) (h0 : 0 ≤ most) (h1 : most ≤ 4611686018427387904) (hs : s.size ≤ 100000000) : ∀ (L : List UInt8) (i : Nat) (n : Int), s.data.toList.drop i = L → i ≤ s.size → Yig L = true → 0 ≤ n → n ≤ most →
  EvR (fun k => Yv.l1 k s most n (i : Int)) (Yqd most false n L) := by
 intro L
 induction L with
 | nil =>
  intro i n hL hi _ uC pE
  have he := bt_end s i hL hi
  refine EvR.succ (EvR.of fun k => ?_)
  rw [Yv.l1, if_neg Zj]
  rfl
 | cons b t ih =>
  intro i n hL hi ha uC pE
  obtain ⟨mX, hb, ht⟩ := Yyc s i b t hL
  have hw := Yod i s.size hi hs
  unfold Yig at ha
  rw [List.all_cons, Bool.and_eq_true] at ha
  have hr : 48 ≤ b.toNat ∧ b.toNat ≤ 57 := by have := ha.1; unfold Ygd at this; simpa using this
  have e1 : ((b.toNat : Int) - 48) % 256 = (b.toNat : Int) - 48 := by omega
  have e2 : wrap64 (Int.tdiv most 10) = most / 10 := by rw [Int.tdiv_eq_ediv_of_nonneg h0]; unfold wrap64; omega
  have e3 : Int.tmod most 10 = most % 10 := Int.tmod_eq_emod_of_nonneg h0
  refine EvR.succ ?_
  unfold Yqd
  rw [if_pos ha.1]
  by_cases hbig : most < n * 10 + ((b.toNat : Int) - 48)
  ·rw [if_pos (Or.inr hbig), Ytp most t n ha.2]
   refine EvR.of fun k => ?_
   rw [Yv.l1, if_pos Zj, if_pos Zj, hb, e1, e2, e3]
   by_cases c1 : n > most / 10
   ·rw [if_pos c1]
   ·rw [if_neg c1, if_pos Zj, if_pos Zj]
  ·rw [if_neg (by simp [hbig])]
   refine (ih (i + 1) (n * 10 + ((b.toNat : Int) - 48)) ht Zj ha.2 Zj Zj).congr (fun k => ?_)
   have e5 : wrap64 (n * 10) = n * 10 := by unfold wrap64; omega
   have e6 : wrap64 (n * 10 + ((b.toNat : Int) - 48)) = n * 10 + ((b.toNat : Int) - 48) := by unfold wrap64; omega
   rw [Yv.l1, if_pos Zj, if_pos Zj, hb, e1, e2, e3, if_neg Zj, e5, e6, hw]
   by_cases c1 : n = most / 10
   ·rw [if_pos c1, if_neg Zj, if_neg Zj]
   ·rw [if_neg c1, if_neg Zj]
theorem Yms (s : Y) (most : Int) (h0 : 0 ≤ most) (h1 : most ≤ 4611686018427387904) (hs : s.size ≤ 100000000) : ∀ (L : List UInt8) (i : Nat), s.data.toList.drop i = L → i ≤ s.size → (Yig L = Yig s.data.toList) →
  EvR (fun k => Yv.l0 k s most (i : Int)) (numL most s.data.toList) := by
 intro L
 induction L with
 | nil =>
  intro i hL hi ha
  have he := bt_end s i hL hi
  refine EvR.succ ?_
  unfold numL
  by_cases hn : s.data.toList = []
  ·rw [if_pos hn]
   refine EvR.of fun k => ?_
   rw [Yv.l0, if_neg Zj, Lib.toList_data, if_pos hn]
  ·rw [if_neg hn]
   refine (Yas s most h0 h1 hs s.data.toList 0 0 rfl Zj (by rw [← ha]; rfl) Zj h0).congr (fun k => ?_)
   rw [Yv.l0, if_neg Zj, Lib.toList_data, if_neg hn]; rfl
 | cons b t ih =>
  intro i hL hi ha
  obtain ⟨mX, hb, ht⟩ := Yyc s i b t hL
  have hw := Yod i s.size hi hs
  refine EvR.succ ?_
  by_cases hd : Ygd b = true
  ·refine (ih (i + 1) ht Zj (by rw [← ha]; unfold Yig; rw [List.all_cons, hd, Bool.true_and])).congr (fun k => ?_)
   rw [Yv.l0, if_pos Zj, if_pos Zj, hb, Yki, Kba, if_pos hd, hw]
  ·have hf : Yig s.data.toList = false := by rw [← ha]; unfold Yig; rw [List.all_cons]; simp [hd]
   have hne : s.data.toList ≠ [] := by intro e; rw [e] at hL; simp at hL
   unfold numL
   rw [if_neg hne, Ysl most _ false 0 hf]
   refine EvR.of fun k => ?_
   rw [Yv.l0, if_pos Zj, if_pos Zj, hb, Yki, Kba, if_neg hd]
theorem Ydm (s : Y) (most : Int) (h0 : 0 ≤ most) (h1 : most ≤ 4611686018427387904) (hs : s.size ≤ 100000000) : EvR (fun k => Yv.f k s most) (numL most s.data.toList) :=
 Yms s most h0 h1 hs s.data.toList 0 rfl Zj rfl
theorem rsplit_l0 (c : UInt8) (s : Y) (hs : s.size ≤ 100000000) : ∀ (L : List UInt8) (i : Nat) (ini : List (List UInt8)) (x : List UInt8), s.data.toList.drop i = L → i ≤ s.size → ini.length ≤ i → x.length ≤ i →
  EvR (fun k => Yga.l0 k s (c.toNat : Int) ((ini ++ [x]).map ofL) (i : Int)) ((ini ++ glue x (Yme (· == c) L)).map ofL) := by
 intro L
 induction L with
 | nil =>
  intro i ini x hL hi ha hxl
  have he := bt_end s i hL hi
  refine EvR.succ (EvR.of fun k => ?_)
  rw [Yga.l0, if_neg Zj]
  simp [Yme, glue]
 | cons b t ih =>
  intro i ini x hL hi ha hxl
  obtain ⟨mX, hb, ht⟩ := Yyc s i b t hL
  have hw := Yod i s.size hi hs
  have hl : ((ini ++ [x]).map ofL).length = ini.length + 1 := by simp
  refine EvR.succ ?_
  rw [Yme]
  by_cases hp : b = c
  ·subst hp
   rw [if_pos Zq]
   have hgo := ih (i + 1) (ini ++ [x]) [] ht Zj Zfb Zq
   rw [Yll] at hgo
   rw [show glue x ([] :: Yme (· == b) t) = x :: Yme (· == b) t by simp [glue], show ini ++ x :: Yme (· == b) t = (ini ++ [x]) ++ Yme (· == b) t by simp]
   refine hgo.congr fun k => ?_
   rw [Yga.l0, if_pos Zj, if_pos Zj, hb, if_pos rfl, if_pos Zj, hw]
   simp [ofL]
  ·rw [if_neg (by simp [hp]), Ymp]
   have hgo := ih (i + 1) ini (x ++ [b]) ht Zj Zj Zfb
   refine hgo.congr fun k => ?_
   have e1 : wrap64 ((((ini ++ [x]).map ofL).length : Int) - 1) = (ini.length : Int) := by rw [hl]; unfold wrap64; omega
   have hx : s.extract ((i : Int)).toNat (((i + 1 : Nat) : Int)).toNat = ofL [b] := by
    rw [Int.toNat_natCast, Int.toNat_natCast, Yog, hL, show i + 1 - i = 1 by omega]; rfl
   have hr : rdOf ByteArray.empty ((ini ++ [x]).map ofL) (ini.length : Int) = ofL x := by
    rw [Ykg _ _ Zq]; simp
   have happ : ofL x ++ ofL [b] = ofL (x ++ [b]) := Ysf Zxa
   have hset : ((ini ++ [x]).map ofL).set ini.length (ofL (x ++ [b])) = (ini ++ [x ++ [b]]).map ofL := by
    rw [List.map_append, List.set_append_right (h := by simp)]; simp
   have hsz : (ofL x).size + (ofL [b]).size ≤ 9223372036854775807 := by rw [Yfa, Yfa]; simp only [List.length_cons, List.length_nil]; omega
   rw [Yga.l0, if_pos Zj, if_pos Zj, hb, if_neg (nat_ne hp), e1, if_pos Zj, if_pos Zj, hw, if_pos Zj, if_pos Zj, hr, hx, if_pos hsz, happ, Int.toNat_natCast, hset]
theorem rsplit_f (c : UInt8) (s : Y) (hs : s.size ≤ 100000000) : EvR (fun k => Yga.f k s (c.toNat : Int)) ((splitB c s.data.toList).map ofL) := by
 have h := rsplit_l0 c s hs s.data.toList 0 [] [] rfl Zj Zq Zq
 rw [Yll, Yns] at h
 exact h
theorem splitB_le (c : UInt8) (l : List UInt8) : ∀ y ∈ splitB c l, y.length ≤ l.length := by
 induction l with
 | nil => intro y hy; rw [splitB] at hy; simp at hy; subst hy; simp
 | cons x l ih =>
  intro y hy
  rw [splitB] at hy
  split at hy
  ·rcases List.mem_cons.1 hy with rfl | hy
   ·simp
   ·have := ih y hy; simp only [List.length_cons]; omega
  ·cases hs : splitB c l with
   | nil => exact absurd hs (Yfg c l)
   | cons h t =>
    rw [hs, Yyf] at hy
    rcases List.mem_cons.1 hy with rfl | hy
    ·have := ih h (by rw [hs]; exact List.mem_cons_self); simp only [List.length_cons]; omega
    ·have := ih y (by rw [hs]; exact List.mem_cons_of_mem _ hy); simp only [List.length_cons]; omega
theorem rbyte_f (s : Y) (hs : s.size ≤ 100000000) : EvR (fun k => Yxc.f k s) (Yoj s.data.toList) := by
 have hn := Ydm s 255 Zj Zj hs
 have hb := Yym 255 Zj s.data.toList
 unfold Yoj
 unfold Yxc.f
 refine EvR.bind (g := fun k x => if x.2 = 0 then (Ygc.f k x.1).bind fun t => some (t.toList == s.toList) else some false) hn ?_
 by_cases he : (numL 255 s.data.toList).2 = 0
 ·simp only [if_pos he]
  have ht := Ywp (numL 255 s.data.toList).1 Zj Zj
  have hz : Yim (numL 255 s.data.toList).1 = Yvf (numL 255 s.data.toList).1.toNat := by unfold Yim; rw [if_neg Zj]
  rw [hz] at ht
  refine EvR.bind (g := fun _ t => some (t.toList == s.toList)) ht (EvR.of fun _ => ?_)
  rw [he, Lib.toList_data, Lib.toList_data]; rfl
 ·refine EvR.of fun k => ?_
  rw [if_neg he, beq_eq_false_iff_ne.2 he]; rfl
theorem name_if (b : UInt8) (X : Option Bool) : (if (b.toNat : Int) ≥ 97 then (if (b.toNat : Int) ≤ 122 then X else ((Yt.f (b.toNat : Int)).bind fun aYs => (if aYs = true then X else (if (b.toNat : Int) = 45 then X else (if ((b.toNat : Int) = 95) then X else (some false)))))) else ((Yt.f (b.toNat : Int)).bind fun aYt => (if aYt = true then X else (if (b.toNat : Int) = 45 then X else (if ((b.toNat : Int) = 95) then X else (some false)))))) = if Yqi b = true then X else some false := by
 rw [Yki]
 simp only [Kba]
 have e45 : ((b.toNat : Int) = 45) ↔ b = 45 := ⟨fun e => UInt8.toNat_inj.1 (by show b.toNat = 45; omega), fun e => by rw [e]; rfl⟩
 have e95 : ((b.toNat : Int) = 95) ↔ b = 95 := ⟨fun e => UInt8.toNat_inj.1 (by show b.toNat = 95; omega), fun e => by rw [e]; rfl⟩
 simp only [e45, e95]
 unfold Yqi
 by_cases c1 : (b.toNat : Int) ≥ 97
 ·rw [if_pos c1]
  by_cases c2 : (b.toNat : Int) ≤ 122
  ·rw [if_pos c2, decide_eq_true (show 97 ≤ b.toNat by omega), decide_eq_true (show b.toNat ≤ 122 by omega)]; rfl
  ·rw [if_neg c2, decide_eq_false (show ¬ b.toNat ≤ 122 by omega), Bool.and_false, Bool.false_or]
   by_cases c3 : Ygd b = true
   ·rw [if_pos c3, c3, Bool.true_or]; rfl
   ·rw [if_neg c3, Bool.eq_false_iff.2 c3, Bool.false_or]
    by_cases c4 : b = 45
    ·rw [if_pos c4]; simp [c4]
    ·rw [if_neg c4]
     by_cases c5 : b = 95 <;> simp [c4, c5]
 ·rw [if_neg c1, decide_eq_false (show ¬ 97 ≤ b.toNat by omega), Bool.false_and, Bool.false_or]
  by_cases c3 : Ygd b = true
  ·rw [if_pos c3, c3, Bool.true_or]; rfl
  ·rw [if_neg c3, Bool.eq_false_iff.2 c3, Bool.false_or]
   by_cases c4 : b = 45
   ·rw [if_pos c4]; simp [c4]
   ·rw [if_neg c4]
    by_cases c5 : b = 95 <;> simp [c4, c5]
theorem rname_l1 (s : Y) (xs : List (List UInt8)) (i : Nat) (hi : i < xs.length) (p : List UInt8) (hp : xs.getD i [] = p) (hpl : p.length ≤ 100000000) (hxl : xs.length ≤ 100000001) (R : Bool)
  (hR : EvR (fun k => Yi.l0 k s (xs.map ofL) ((i + 1 : Nat) : Int)) R) : ∀ (L : List UInt8) (j : Nat), p.drop j = L → j ≤ p.length →
  EvR (fun k => Yi.l1 k s (xs.map ofL) (i : Int) (j : Int)) (if L.all Yqi = true then R else false) := by
 have hr : rdOf ByteArray.empty (xs.map ofL) (i : Int) = ofL p := by rw [Ykg _ _ hi, hp]
 have hlen : (xs.map ofL).length = xs.length := List.length_map _
 intro L
 induction L with
 | nil =>
  intro j hL hj
  have hj2 : p.length ≤ j := List.drop_eq_nil_iff.1 hL
  refine EvR.succ (hR.congr fun k => ?_)
  have hw : wrap64 ((i : Int) + 1) = ((i + 1 : Nat) : Int) := by unfold wrap64; omega
  rw [Yi.l1, if_pos Zj, if_pos Zj, hr, if_neg Zha, hw]
 | cons b t ih =>
  intro j hL hj
  obtain ⟨hj2, hb, ht⟩ := Yyc (ofL p) j b t hL
  rw [Yfa] at hj2
  rw [Ytb] at ht
  have hw : wrap64 ((j : Int) + 1) = ((j + 1 : Nat) : Int) := by unfold wrap64; omega
  have step : ∀ k, Yi.l1 (k + 1) s (xs.map ofL) (i : Int) (j : Int) = if Yqi b = true then Yi.l1 k s (xs.map ofL) (i : Int) ((j + 1 : Nat) : Int) else some false := fun k => by
   rw [Yi.l1, if_pos Zj, if_pos Zj, hr, if_pos Zha, if_pos Zj, hb, hw, name_if]
  refine EvR.succ ?_
  rw [List.all_cons]
  by_cases hc : Yqi b = true
  ·rw [hc, Bool.true_and]
   refine (ih (j + 1) ht Zj).congr fun k => ?_
   rw [step k, if_pos hc]
  ·rw [Bool.eq_false_iff.2 hc, Bool.false_and, if_neg Zq]
   refine EvR.of fun k => ?_
   rw [step k, if_neg hc]
theorem rname_l2 (xs : List (List UInt8)) (hxl : xs.length ≤ 100000001) (hxs : ∀ x ∈ xs, x.length ≤ 100000000) : ∀ (L : List (List UInt8)) (i : Nat), xs.drop i = L → i ≤ xs.length →
  EvR (fun k => Yi.l2 k (xs.map ofL) (i : Int)) (L.all Yoj && (xs.length == 4)) := by
 have hlen : (xs.map ofL).length = xs.length := List.length_map _
 intro L
 induction L with
 | nil =>
  intro i hL hi
  have hj2 : xs.length ≤ i := List.drop_eq_nil_iff.1 hL
  refine EvR.succ (EvR.of fun k => ?_)
  rw [Yi.l2, if_neg Zj, hlen]
  show some ((xs.length : Int) == 4) = some (xs.length == 4)
  congr 1
  by_cases h : xs.length = 4
  ·rw [h]; rfl
  ·rw [beq_eq_false_iff_ne.2 h, beq_eq_false_iff_ne.2 Zj]
 | cons p t ih =>
  intro i hL hi
  have hlt : i < xs.length := by
   have := congrArg List.length hL
   rw [List.length_drop] at this; simp only [List.length_cons] at this; omega
  have hdc := List.drop_eq_getElem_cons hlt
  rw [hL] at hdc
  have hp : xs[i] = p := (List.cons.inj hdc).1.symm
  have ht : xs.drop (i + 1) = t := (List.cons.inj hdc).2.symm
  have hr : rdOf ByteArray.empty (xs.map ofL) (i : Int) = ofL p := by rw [Ykg _ _ hlt, List.getD_eq_getElem?_getD, List.getElem?_eq_getElem hlt, hp]; rfl
  have hw : wrap64 ((i : Int) + 1) = ((i + 1 : Nat) : Int) := by unfold wrap64; omega
  have hb := rbyte_f (ofL p) (by rw [Yfa]; exact hxs p (by rw [← hp]; exact List.getElem_mem hlt))
  rw [Ytb] at hb
  refine EvR.succ ?_
  refine EvR.congr (f := fun k => (Yxc.f k (ofL p)).bind fun aHe => if aHe = true then Yi.l2 k (xs.map ofL) ((i + 1 : Nat) : Int) else some false) ?_ (fun k => by rw [Yi.l2, if_pos Zj, if_pos Zj, hr, hw])
  refine EvR.bind (g := fun k aHe => if aHe = true then Yi.l2 k (xs.map ofL) ((i + 1 : Nat) : Int) else some false) hb ?_
  rw [List.all_cons]
  cases hc : Yoj p with
  | true =>
   rw [Bool.true_and]
   exact (ih (i + 1) ht Zj).congr fun k => by rw [if_pos rfl]
  | false =>
   rw [Bool.false_and, Bool.false_and]
   exact EvR.of fun k => by rw [if_neg Zq]
theorem rname_l0 (s : Y) (xs : List (List UInt8)) (hpos : 0 < xs.length) (hxl : xs.length ≤ 100000001) (hxs : ∀ x ∈ xs, x.length ≤ 100000000) : ∀ (L : List (List UInt8)) (i : Nat), xs.drop i = L → i ≤ xs.length →
  EvR (fun k => Yi.l0 k s (xs.map ofL) (i : Int)) (L.all Yvo && (decide (s.size ≤ 253) && ((numL 0 (xs.getD (xs.length - 1) [])).2 == 3 || ((xs.length == 4) && xs.all Yoj)))) := by
 have hlen : (xs.map ofL).length = xs.length := List.length_map _
 intro L
 induction L with
 | nil =>
  intro i hL hi
  have hj2 : xs.length ≤ i := List.drop_eq_nil_iff.1 hL
  rw [List.all_nil, Bool.true_and]
  refine EvR.succ ?_
  by_cases aMC : s.size ≤ 253
  ·rw [decide_eq_true aMC, Bool.true_and]
   have e1 : wrap64 (((xs.map ofL).length : Int) - 1) = ((xs.length - 1 : Nat) : Int) := by rw [hlen]; unfold wrap64; omega
   have hr : rdOf ByteArray.empty (xs.map ofL) ((xs.length - 1 : Nat) : Int) = ofL (xs.getD (xs.length - 1) []) := Ykg _ _ Zj
   have hm : xs.getD (xs.length - 1) [] ∈ xs := by
    rw [List.getD_eq_getElem?_getD, List.getElem?_eq_getElem Zj]; exact List.getElem_mem _
   have hn := Ydm (ofL (xs.getD (xs.length - 1) [])) 4611686018427387904 Zj Zj (by rw [Yfa]; exact hxs _ hm)
   rw [Ytb] at hn
   generalize xs.getD (xs.length - 1) [] = lst at hr hn
   refine EvR.congr (f := fun k => (Yv.f k (ofL lst) 4611686018427387904).bind fun aBT => if aBT.2 = 3 then some true else Yi.l2 k (xs.map ofL) 0) ?_ (fun k => by
    rw [Yi.l0, if_neg Zj, if_neg Zj, e1, if_pos Zj, if_pos Zj, hr])
   refine EvR.bind (g := fun k aBT => if aBT.2 = 3 then some true else Yi.l2 k (xs.map ofL) 0) hn ?_
   by_cases h3 : (numL 4611686018427387904 lst).2 = 3
   ·have h3' : (numL 0 lst).2 = 3 := (Yfk 0 lst).2 ((Yfk _ lst).1 h3)
    rw [h3', show ((3 : Int) == 3) = true from rfl, Bool.true_or]
    exact EvR.of fun k => by rw [if_pos h3]
   ·have h3' : ¬ (numL 0 lst).2 = 3 := fun e => h3 ((Yfk _ lst).2 ((Yfk 0 lst).1 e))
    rw [beq_eq_false_iff_ne.2 h3', Bool.false_or, Bool.and_comm]
    exact (rname_l2 xs hxl hxs xs 0 rfl Zj).congr fun k => by rw [if_neg h3]; rfl
  ·rw [decide_eq_false aMC, Bool.false_and]
   refine EvR.of fun k => ?_
   rw [Yi.l0, if_neg Zj, if_pos Zj]
 | cons p t ih =>
  intro i hL hi
  have hlt : i < xs.length := by
   have := congrArg List.length hL
   rw [List.length_drop] at this; simp only [List.length_cons] at this; omega
  have hdc := List.drop_eq_getElem_cons hlt
  rw [hL] at hdc
  have hp : xs[i] = p := (List.cons.inj hdc).1.symm
  have ht : xs.drop (i + 1) = t := (List.cons.inj hdc).2.symm
  have hg : xs.getD i [] = p := by rw [List.getD_eq_getElem?_getD, List.getElem?_eq_getElem hlt, hp]; rfl
  have hr : rdOf ByteArray.empty (xs.map ofL) (i : Int) = ofL p := by rw [Ykg _ _ hlt, hg]
  have hpl : p.length ≤ 100000000 := hxs p (by rw [← hp]; exact List.getElem_mem hlt)
  have jK := rname_l1 s xs i hlt p hg hpl hxl _ (ih (i + 1) ht Zj) p 0 rfl Zj
  rw [List.all_cons]
  refine EvR.succ ?_
  have hq : Yvo p = (p.all Yqi && (!p.isEmpty && decide (p.length ≤ 63))) := rfl
  by_cases he : p = []
  ·subst he
   rw [show Yvo [] = false from rfl, Bool.false_and, Bool.false_and]
   refine EvR.succ (EvR.of fun k => ?_)
   rw [Yi.l0, if_pos Zj, if_pos Zj, hr, if_pos (by rw [Yfa]; simp), Yi.j1, if_pos rfl]
  ·have hp1 : 1 ≤ p.length := List.length_pos_iff.2 he
   have he2 : p.isEmpty = false := by cases p with | nil => exact absurd rfl he | cons a b => rfl
   rw [hq, he2, Bool.not_false, Bool.true_and]
   by_cases h63 : p.length ≤ 63
   ·rw [decide_eq_true h63, Bool.and_true, Bool.and_assoc]
    have e0 : ∀ X : Bool, (p.all Yqi && X) = (if p.all Yqi = true then X else false) := fun X => by cases p.all Yqi <;> rfl
    rw [e0]
    refine EvR.congr (f := fun k => Yi.j1 k s (xs.map ofL) (i : Int) false) ?_ (fun k => by
     rw [Yi.l0, if_pos Zj, if_pos Zj, hr, if_neg Zha, decide_eq_false Zha])
    refine EvR.succ (jK.congr fun k => ?_)
    rw [Yi.j1, if_neg Zq]; rfl
   ·rw [decide_eq_false h63, Bool.and_false, Bool.false_and, Bool.false_and]
    refine EvR.succ (EvR.of fun k => ?_)
    rw [Yi.l0, if_pos Zj, if_pos Zj, hr, if_neg Zha, decide_eq_true Zha, Yi.j1, if_pos rfl]
theorem rname_f (s : Y) (hs : s.size ≤ 100000000) : EvR (fun k => Yi.f k s) (nameR s.data.toList) := by
 have hsp := rsplit_f 46 s hs
 have hsz := Lib.size_eq s
 have hln := Yik 46 s.data.toList
 unfold Yi.f
 refine EvR.bind (g := fun k oY => Yi.l0 k s oY 0) hsp ?_
 have h := rname_l0 s (splitB 46 s.data.toList) (List.length_pos_iff.2 (Yfg _ _)) Zj (fun x hx => by have := splitB_le 46 s.data.toList x hx; omega) (splitB 46 s.data.toList) 0 rfl Zj
 unfold nameR
 rw [← hsz]
 exact h
theorem Yzj (b : UInt8) : EvR (fun k => Yw.f k (b.toNat : Int)) ((hexV b : Nat) : Int) := by
 refine EvR.mono (Yw.mono _) (k0 := 1) ?_
 revert b
 exact Yrd (p := fun b => Yw.f 1 (b.toNat : Int) = some ((hexV b : Nat) : Int)) Zza
theorem Yvh (c : UInt8) (l : List UInt8) (h : ∀ a b t, l = a :: b :: t → ¬ (c = 37 ∧ hexV a < 16 ∧ hexV b < 16)) : Yhb (c :: l) = c :: Yhb l := by
 match l with
 | [] => rfl
 | [d] => rfl
 | a :: b :: t => rw [Yhb, if_neg (h a b t rfl)]
theorem cast16 (x : Nat) (h : x < 16) : (x : Int) < 16 := by omega
theorem cast16n (x : Nat) (h : ¬ x < 16) : ¬ (x : Int) < 16 := by omega
theorem rstep_hex (k : Nat) (s : Y) (A : List Int) (i j1 j2 a b : Int) (h0 : i < (s.size : Int)) (h1 : 0 ≤ i) (h2 : bt s i = 37) (e1 : wrap64 (i + 1) = j1) (e2 : wrap64 (i + 2) = j2) (h3 : j2 < (s.size : Int)) (h4 : 0 ≤ j1) (h5 : j1 < (s.size : Int)) (h6 : 0 ≤ j2) (ha : bt s j1 = a) (hb : bt s j2 = b) :
  Yk.l0 (k + 1) s A i = (Yw.f k a).bind fun aHf => if aHf < 16 then ((Yw.f k b).bind fun wS => Yk.j1 k s A i (decide (wS < 16))) else Yk.j1 k s A i false := by
 rw [Yk.l0, if_pos h0, if_pos h1, h2, if_pos rfl, e2, if_pos h3, e1, if_pos h4, if_pos h5, ha, hb]
 simp only [if_pos h6]
theorem rstep_got (k : Nat) (s : Y) (A : List Int) (i j1 j2 j3 a b : Int) (hA : A.length < 140737488355328) (e1 : wrap64 (i + 1) = j1) (e2 : wrap64 (i + 2) = j2) (e3 : wrap64 (j2 + 1) = j3) (h3 : j2 < (s.size : Int)) (h4 : 0 ≤ j1) (h5 : j1 < (s.size : Int)) (h6 : 0 ≤ j2) (ha : bt s j1 = a) (hb : bt s j2 = b) :
  Yk.j1 (k + 1) s A i true = (Yw.f k a).bind fun wI => (Yw.f k b).bind fun qL => Yk.l0 k s (A ++ [((((wI * 16) % 4294967296) + qL) % 4294967296) % 256]) j3 := by
 rw [Yk.j1, if_pos rfl, e1, if_pos h4, if_pos h5, ha, e2, e3]
 simp only [if_pos h6, if_pos h3, hb, if_pos hA]
theorem rstep_ev (x y : Nat) (hx : x < 16) (hy : y < 16) : ((((x : Int) * 16) % 4294967296 + (y : Int)) % 4294967296) % 256 = (((UInt8.ofNat (x * 16 + y)).toNat : Nat) : Int) := by
 rw [UInt8.toNat_ofNat', Nat.mod_eq_of_lt Zj]; omega
theorem Yps (s : Y) (hs : s.size ≤ 100000000) : ∀ (n i : Nat) (acc : List UInt8), s.size - i ≤ n → i ≤ s.size → acc.length ≤ i →
  EvR (fun k => Yk.l0 k s (acc.map fun b => (b.toNat : Int)) (i : Int)) (ofL (acc ++ Yhb (s.data.toList.drop i))) := by
 intro n
 induction n with
 | zero =>
  intro i acc hn hi ha
  have he : i = s.size := by omega
  have hL : s.data.toList.drop i = [] := List.drop_eq_nil_iff.2 Zdb
  refine EvR.succ (EvR.of fun k => ?_)
  rw [Yk.l0, if_neg Zj, Yql, hL]
  show some (ofL acc) = some (ofL (acc ++ []))
  rw [List.append_nil]
 | succ n ih =>
  intro i acc hn hi ha
  cases hL : s.data.toList.drop i with
  | nil =>
   have he := bt_end s i hL hi
   refine EvR.succ (EvR.of fun k => ?_)
   rw [Yk.l0, if_neg Zj, Yql]
   show some (ofL acc) = some (ofL (acc ++ []))
   rw [List.append_nil]
  | cons c l =>
   obtain ⟨mX, hb, ht⟩ := Yyc s i c l hL
   have hw := Yod i s.size hi hs
   have sL : wrap64 ((i : Int) + 2) = ((i + 2 : Nat) : Int) := by unfold wrap64; omega
   have hal : (acc.map fun b => (b.toNat : Int)).length < 140737488355328 := by rw [List.length_map]; omega
   have plain : Yhb (c :: l) = c :: Yhb l → EvR (fun k => Yk.j1 k s (acc.map fun b => (b.toNat : Int)) (i : Int) false) (ofL (acc ++ Yhb (c :: l))) := by
    intro e
    have hgo := ih (i + 1) (acc ++ [c]) Zj Zj Zfb
    rw [ht] at hgo
    rw [e, show acc ++ c :: Yhb l = (acc ++ [c]) ++ Yhb l by simp]
    refine EvR.succ (hgo.congr fun k => ?_)
    rw [Yk.j1, if_neg Zq, if_pos Zj, if_pos Zj, if_pos hal, hb, hw, List.map_append, List.map_singleton]
   refine EvR.succ ?_
   by_cases hc : c = 37
   ·have h37 : ((c.toNat : Nat) : Int) = 37 := by rw [hc]; rfl
    have aHg : bt s (i : Int) = 37 := hb.trans h37
    by_cases h3 : i + 2 < s.size
    ·have q1 : s.size - (i + 3) ≤ n := by clear hb aHg h37 hw sL hL ht plain hal; omega
     have q2 : i + 3 ≤ s.size := h3
     have q3 : acc.length + 1 ≤ i + 3 := by clear hb aHg h37 hw sL hL ht plain hal; omega
     have hll := congrArg List.length hL
     rw [List.length_drop, ← Lib.size_eq, List.length_cons] at hll
     obtain ⟨a, b, t, rfl⟩ : ∃ a b t, l = a :: b :: t := by
      match l, hll with
      | [], hll => simp only [List.length_nil] at hll; omega
      | [x], hll => simp only [List.length_cons, List.length_nil] at hll; omega
      | a :: b :: t, _ => exact ⟨a, b, t, rfl⟩
     obtain ⟨ha2, hba, hta⟩ := Yyc s (i + 1) a (b :: t) ht
     obtain ⟨cJ, hbb, htb⟩ := Yyc s (i + 2) b t hta
     have aYu := Yod (i + 2) s.size (Nat.le_of_lt h3) hs
     have c1 : (0 : Int) ≤ ((i + 2 : Nat) : Int) := Int.natCast_nonneg _
     have c2 : ((i + 2 : Nat) : Int) < (s.size : Int) := Int.ofNat_lt.2 h3
     have hstep := fun k => rstep_hex k s (acc.map fun b => (b.toNat : Int)) (i : Int) ((i + 1 : Nat) : Int) ((i + 2 : Nat) : Int) _ _ (Int.ofNat_lt.2 mX) (Int.natCast_nonneg _) aHg hw sL c2 (Int.natCast_nonneg _) (Int.ofNat_lt.2 ha2) c1 hba hbb
     refine EvR.congr ?_ hstep
     refine EvR.bind (g := fun k aHf => if aHf < 16 then ((Yw.f k (b.toNat : Int)).bind fun wS => Yk.j1 k s (acc.map fun b => (b.toNat : Int)) (i : Int) (decide (wS < 16))) else Yk.j1 k s (acc.map fun b => (b.toNat : Int)) (i : Int) false) (Yzj a) ?_
     by_cases h1 : hexV a < 16
     ·refine EvR.congr (f := fun k => (Yw.f k (b.toNat : Int)).bind fun wS => Yk.j1 k s (acc.map fun b => (b.toNat : Int)) (i : Int) (decide (wS < 16))) ?_ (fun k => by rw [if_pos (cast16 _ h1)])
      refine EvR.bind (g := fun k wS => Yk.j1 k s (acc.map fun b => (b.toNat : Int)) (i : Int) (decide (wS < 16))) (Yzj b) ?_
      by_cases h2 : hexV b < 16
      ·rw [decide_eq_true (cast16 _ h2), Yhb, if_pos ⟨hc, h1, h2⟩]
       have hgo := ih (i + 3) (acc ++ [UInt8.ofNat (hexV a * 16 + hexV b)]) q1 q2 (by rw [List.length_append]; exact q3)
       rw [htb] at hgo
       rw [show acc ++ UInt8.ofNat (hexV a * 16 + hexV b) :: Yhb t = (acc ++ [UInt8.ofNat (hexV a * 16 + hexV b)]) ++ Yhb t by simp]
       refine EvR.succ ?_
       have aHh := fun k => rstep_got k s (acc.map fun b => (b.toNat : Int)) (i : Int) ((i + 1 : Nat) : Int) ((i + 2 : Nat) : Int) ((i + 3 : Nat) : Int) _ _ hal hw sL aYu c2 (Int.natCast_nonneg _) (Int.ofNat_lt.2 ha2) c1 hba hbb
       refine EvR.congr ?_ aHh
       refine EvR.bind (g := fun k wI => (Yw.f k (b.toNat : Int)).bind fun qL => Yk.l0 k s ((acc.map fun b => (b.toNat : Int)) ++ [((((wI * 16) % 4294967296) + qL) % 4294967296) % 256]) ((i + 3 : Nat) : Int)) (Yzj a) ?_
       refine EvR.bind (g := fun k qL => Yk.l0 k s ((acc.map fun b => (b.toNat : Int)) ++ [(((((hexV a : Nat) : Int) * 16) % 4294967296 + qL) % 4294967296) % 256]) ((i + 3 : Nat) : Int)) (Yzj b) ?_
       refine hgo.congr fun k => ?_
       have ev := rstep_ev (hexV a) (hexV b) h1 h2
       rw [ev, List.map_append, List.map_singleton]
      ·rw [decide_eq_false (cast16n _ h2)]
       exact plain (Yvh _ _ fun a' b' t' e h => h2 (by rw [(List.cons.inj (List.cons.inj e).2).1]; exact h.2.2))
     ·exact EvR.congr (f := fun k => Yk.j1 k s (acc.map fun b => (b.toNat : Int)) (i : Int) false) (plain (Yvh _ _ fun a' b' t' e h => h1 (by rw [(List.cons.inj e).1]; exact h.2.1))) (fun k => by rw [if_neg (cast16n _ h1)])
    ·refine (plain (Yvh _ _ fun a' b' t' e h => ?_)).congr fun k => ?_
     ·rw [e] at hL
      have hll := congrArg List.length hL
      rw [List.length_drop, ← Lib.size_eq, List.length_cons, List.length_cons, List.length_cons] at hll
      omega
     ·rw [Yk.l0, if_pos Zj, if_pos Zj, hb, if_pos h37, sL, if_neg Zj]
   ·refine (plain (Yvh _ _ fun a' b' t' e h => hc h.1)).congr fun k => ?_
    rw [Yk.l0, if_pos Zj, if_pos Zj, hb, if_neg (fun e => hc (UInt8.toNat_inj.1 (by show c.toNat = 37; omega)))]
theorem runmark_f (s : Y) (hs : s.size ≤ 100000000) : EvR (fun k => Yk.f k s) (ofL (Yhb s.data.toList)) :=
 Yps s hs s.size 0 [] Zj Zj Zq
def Yrh (b : UInt8) : Bool := b != 9 && (b != 10 && b != 13)
theorem clean33_P (l : List UInt8) : Ywf l = (Yqh l).filter Yrh := by
 unfold Ywf
 rw [List.filter_filter, List.filter_filter]
 refine List.filter_congr fun b _ => ?_
 unfold Yrh
 cases b != 9 <;> cases b != 10 <;> cases b != 13 <;> rfl
theorem rclean_l2 (s : Y) (hs : s.size ≤ 100000000) : ∀ (L : List UInt8) (i : Nat) (acc : List UInt8), s.data.toList.drop i = L → i ≤ s.size → acc.length ≤ i →
  EvR (fun k => Yp.l2 k s (acc.map fun b => (b.toNat : Int)) (i : Int)) (ofL (acc ++ L.filter Yrh)) := by
 intro L
 induction L with
 | nil =>
  intro i acc hL hi ha
  have he := bt_end s i hL hi
  refine EvR.succ (EvR.of fun k => ?_)
  rw [Yp.l2, if_neg Zj, Yql]
  show some (ofL acc) = some (ofL (acc ++ []))
  rw [List.append_nil]
 | cons b t ih =>
  intro i acc hL hi ha
  obtain ⟨mX, hb, ht⟩ := Yyc s i b t hL
  have hw := Yod i s.size hi hs
  have hl : (acc.map fun b => (b.toNat : Int)).length < 140737488355328 := by rw [List.length_map]; omega
  have e : ∀ c : UInt8, ((b.toNat : Int) = (c.toNat : Int)) ↔ b = c := fun c => ⟨fun e => UInt8.toNat_inj.1 Zj, fun e => by rw [e]⟩
  have e9 : ((b.toNat : Int) = 9) ↔ b = 9 := e 9
  have e10 : ((b.toNat : Int) = 10) ↔ b = 10 := e 10
  have e13 : ((b.toNat : Int) = 13) ↔ b = 13 := e 13
  have step : ∀ k, Yp.l2 (k + 1) s (acc.map fun b => (b.toNat : Int)) (i : Int) = if Yrh b = true then Yp.l2 k s ((acc ++ [b]).map fun b => (b.toNat : Int)) ((i + 1 : Nat) : Int) else Yp.l2 k s (acc.map fun b => (b.toNat : Int)) ((i + 1 : Nat) : Int) := fun k => by
   rw [Yp.l2, if_pos Zj, if_pos Zj, hb, hw, if_pos hl, List.map_append, List.map_singleton]
   simp only [e9, e10, e13]
   unfold Yrh
   by_cases c1 : b = 9
   ·simp [c1]
   ·by_cases c2 : b = 10
    ·simp [c2]
    ·by_cases c3 : b = 13 <;> simp [c1, c2, c3]
  refine EvR.succ ?_
  by_cases hc : Yrh b = true
  ·rw [List.filter_cons_of_pos hc, show acc ++ b :: t.filter Yrh = (acc ++ [b]) ++ t.filter Yrh by simp]
   exact (ih (i + 1) (acc ++ [b]) ht Zj Zfb).congr fun k => by rw [step k, if_pos hc]
  ·rw [List.filter_cons_of_neg hc]
   exact (ih (i + 1) acc ht Zj Zj).congr fun k => by rw [step k, if_neg hc]
def Ywj (l : List UInt8) : List UInt8 := (l.reverse.dropWhile Ylh).reverse
theorem Ybq (l : List UInt8) (b : UInt8) : Ywj (l ++ [b]) = if Ylh b = true then Ywj l else l ++ [b] := by
 unfold Ywj
 rw [List.reverse_append, List.reverse_singleton, List.singleton_append]
 by_cases h : Ylh b = true
 ·rw [List.dropWhile_cons_of_pos h, if_pos h]
 ·rw [List.dropWhile_cons_of_neg h, if_neg h]; simp
theorem bt_last (l : List UInt8) (b : UInt8) : bt (ofL (l ++ [b])) (l.length : Int) = (b.toNat : Int) :=
 (Yyc (ofL (l ++ [b])) l.length b [] (by rw [Ytb]; simp)).2.1
theorem rclean_l1 : ∀ (n : Nat) (l : List UInt8), l.length ≤ n → l.length ≤ 100000000 → EvR (fun k => Yp.l1 k (ofL l)) (ofL ((Ywj l).filter Yrh)) := by
 have fin : ∀ l : List UInt8, l.length ≤ 100000000 → EvR (fun k => Yp.j3 k (ofL l)) (ofL (l.filter Yrh)) := fun l hl => by
  refine EvR.succ ((rclean_l2 (ofL l) (by rw [Yfa]; exact hl) l 0 [] rfl Zj Zq).congr fun k => ?_)
  rw [Yp.j3]; rfl
 intro n
 induction n with
 | zero =>
  intro l hl hb
  obtain rfl : l = [] := List.eq_nil_of_length_eq_zero Zj
  refine EvR.succ ((fin [] Zq).congr fun k => ?_)
  rw [Yp.l1, if_neg (by rw [Yfa]; simp)]
 | succ n ih =>
  intro l hl hb
  rcases List.eq_nil_or_concat l with rfl | ⟨ini, b, rfl⟩
  ·refine EvR.succ ((fin [] Zq).congr fun k => ?_)
   rw [Yp.l1, if_neg (by rw [Yfa]; simp)]
  ·rw [List.concat_eq_append] at hl hb ⊢
   rw [List.length_append, List.length_singleton] at hl hb
   have hsz : ((ofL (ini ++ [b])).size : Int) = (ini.length : Int) + 1 := by rw [Yfa, List.length_append, List.length_singleton]; omega
   have e1 : wrap64 (((ofL (ini ++ [b])).size : Int) - 1) = (ini.length : Int) := by rw [hsz]; unfold wrap64; omega
   have hx : (ofL (ini ++ [b])).extract 0 ((ini.length : Int)).toNat = ofL ini := by rw [Int.toNat_natCast, Yxe, Ytb]; simp
   rw [Ybq]
   refine EvR.succ ?_
   by_cases hlow : Ylh b = true
   ·have h32 : (b.toNat : Int) ≤ 32 := by unfold Ylh at hlow; have := Km hlow; omega
    rw [if_pos hlow]
    refine (ih ini Zj Zj).congr fun k => ?_
    rw [Yp.l1, if_pos Zj, e1, if_pos Zj, if_pos Zj, bt_last, if_pos h32, if_pos Zj, hx]
   ·have h32 : ¬ (b.toNat : Int) ≤ 32 := by intro h; apply hlow; unfold Ylh; exact Kn Zj
    rw [if_neg hlow]
    refine (fin (ini ++ [b]) (by rw [List.length_append, List.length_singleton]; omega)).congr fun k => ?_
    rw [Yp.l1, if_pos Zj, e1, if_pos Zj, if_pos Zj, bt_last, if_neg h32]
theorem rclean_l0 : ∀ (l : List UInt8), l.length ≤ 100000000 → EvR (fun k => Yp.l0 k (ofL l)) (ofL ((Ywj (l.dropWhile Ylh)).filter Yrh)) := by
 have fin : ∀ l : List UInt8, l.length ≤ 100000000 → EvR (fun k => Yp.j1 k (ofL l)) (ofL ((Ywj l).filter Yrh)) := fun l hl => by
  refine EvR.succ ((rclean_l1 l.length l (Ks _) hl).congr fun k => ?_)
  rw [Yp.j1]
 intro l
 induction l with
 | nil =>
  intro hl
  refine EvR.succ ((fin [] Zq).congr fun k => ?_)
  rw [Yp.l0, if_neg (by rw [Yfa]; simp)]
 | cons b t ih =>
  intro hl
  rw [List.length_cons] at hl
  obtain ⟨h1, hb, _⟩ := Yyc (ofL (b :: t)) 0 b t rfl
  have hx : (ofL (b :: t)).extract 1 (ofL (b :: t)).size = ofL t := by rw [Ytc, Ytb]; rfl
  refine EvR.succ ?_
  by_cases hlow : Ylh b = true
  ·have h32 : (b.toNat : Int) ≤ 32 := by unfold Ylh at hlow; have := Km hlow; omega
   rw [List.dropWhile_cons_of_pos hlow]
   refine (ih Zj).congr fun k => ?_
   rw [Yp.l0, if_pos Zj, if_pos Zj, show (0 : Int) = ((0 : Nat) : Int) from rfl, hb, if_pos h32, if_pos Zj, hx]
  ·have h32 : ¬ (b.toNat : Int) ≤ 32 := by intro h; apply hlow; unfold Ylh; exact Kn Zj
   rw [List.dropWhile_cons_of_neg hlow]
   refine (fin (b :: t) (by rw [List.length_cons]; omega)).congr fun k => ?_
   rw [Yp.l0, if_pos Zj, if_pos Zj, show (0 : Int) = ((0 : Nat) : Int) from rfl, hb, if_neg h32]
theorem rclean_f (s : Y) (hs : s.size ≤ 100000000) : EvR (fun k => Yp.f k s) (ofL (Ywf s.data.toList)) := by
 rw [clean33_P]
 have h := rclean_l0 s.data.toList (by rw [← Lib.size_eq]; exact hs)
 rw [Ynj] at h
 exact h
theorem Ygs (s : Y) (hs : s.size ≤ 100000000) : ∀ (L : List UInt8) (i : Nat), s.data.toList.drop i = L → i ≤ s.size → 1 ≤ i →
  EvR (fun k => Yu.l0 k s (i : Int)) (if (L.dropWhile Yoc).head? = some 58 then ((i + (L.takeWhile Yoc).length + 1 : Nat) : Int) else 0) := by
 intro L
 induction L with
 | nil =>
  intro i hL hi h1
  have he := bt_end s i hL hi
  refine EvR.succ (EvR.of fun k => ?_)
  rw [Yu.l0, if_neg Zj, if_neg Zj, if_pos Zj]; rfl
 | cons b t ih =>
  intro i hL hi h1
  obtain ⟨mX, hb, ht⟩ := Yyc s i b t hL
  have hw := Yod i s.size hi hs
  have hin := in_f b ⟨#[43, 45, 46]⟩ Zw
  have hgo := ih (i + 1) ht Zj Zj
  have e58 : ((b.toNat : Int) = 58) ↔ b = 58 := ⟨fun e => UInt8.toNat_inj.1 (by show b.toNat = 58; omega), fun e => by rw [e]; rfl⟩
  refine EvR.succ ?_
  by_cases hsc : Yoc b = true
  ·rw [List.dropWhile_cons_of_pos hsc, List.takeWhile_cons_of_pos hsc, List.length_cons, show i + ((t.takeWhile Yoc).length + 1) + 1 = i + 1 + (t.takeWhile Yoc).length + 1 by omega]
   by_cases c1 : Yzc b = true
   ·refine hgo.congr fun k => ?_
    rw [Yu.l0, if_pos Zj, if_pos Zj, hb, Ywh, Kba, if_pos c1, hw]
   ·by_cases c2 : Ygd b = true
    ·refine hgo.congr fun k => ?_
     rw [Yu.l0, if_pos Zj, if_pos Zj, hb, Ywh, Kba, if_neg c1, if_pos Zj, Yki, Kba, if_pos c2, hw]
    ·have c3 : (⟨#[43, 45, 46]⟩ : Y).data.toList.contains b = true := by
      unfold Yoc at hsc
      rw [Bool.eq_false_iff.2 c1, Bool.eq_false_iff.2 c2, Bool.false_or, Bool.false_or] at hsc
      simpa using hsc
     rw [c3] at hin
     refine EvR.congr (f := fun k => (Yz.f k (b.toNat : Int) (⟨#[43, 45, 46]⟩ : Y)).bind fun wT => if wT = true then Yu.l0 k s ((i + 1 : Nat) : Int) else (if (i : Int) = 0 then some 0 else if (i : Int) = (s.size : Int) then some 0 else if (b.toNat : Int) = 58 then some ((i + 1 : Nat) : Int) else some 0)) ?_ (fun k => by
      rw [Yu.l0, if_pos Zj, if_pos Zj, hb, Ywh, Kba, if_neg c1, if_pos Zj, Yki, Kba, if_neg c2, hw])
     refine EvR.bind (g := fun k wT => if wT = true then Yu.l0 k s ((i + 1 : Nat) : Int) else (if (i : Int) = 0 then some 0 else if (i : Int) = (s.size : Int) then some 0 else if (b.toNat : Int) = 58 then some ((i + 1 : Nat) : Int) else some 0)) hin ?_
     exact hgo.congr fun k => by rw [if_pos rfl]
  ·have c1 : ¬ Yzc b = true := fun h => hsc (by unfold Yoc; rw [h]; rfl)
   have c2 : ¬ Ygd b = true := fun h => hsc (by unfold Yoc; rw [h]; simp)
   have c3 : (⟨#[43, 45, 46]⟩ : Y).data.toList.contains b = false := by
    rw [← Bool.not_eq_true]; intro h
    apply hsc
    unfold Yoc
    have : (b == 43 || (b == 45 || b == 46)) = true := by simpa using h
    rw [this]; simp
   rw [c3] at hin
   rw [List.dropWhile_cons_of_neg hsc, List.takeWhile_cons_of_neg hsc]
   refine EvR.congr (f := fun k => (Yz.f k (b.toNat : Int) (⟨#[43, 45, 46]⟩ : Y)).bind fun wT => if wT = true then Yu.l0 k s ((i + 1 : Nat) : Int) else (if (i : Int) = 0 then some 0 else if (i : Int) = (s.size : Int) then some 0 else if (b.toNat : Int) = 58 then some ((i + 1 : Nat) : Int) else some 0)) ?_ (fun k => by
    rw [Yu.l0, if_pos Zj, if_pos Zj, hb, Ywh, Kba, if_neg c1, if_pos Zj, Yki, Kba, if_neg c2, hw])
   refine EvR.bind (g := fun k wT => if wT = true then Yu.l0 k s ((i + 1 : Nat) : Int) else (if (i : Int) = 0 then some 0 else if (i : Int) = (s.size : Int) then some 0 else if (b.toNat : Int) = 58 then some ((i + 1 : Nat) : Int) else some 0)) hin (EvR.of fun k => ?_)
   rw [if_neg Zq, if_neg Zj, if_neg Zj]
   by_cases h58 : b = 58
   ·rw [if_pos (e58.2 h58), if_pos (by rw [h58]; rfl)]; rfl
   ·rw [if_neg (fun e => h58 (e58.1 e)), if_neg (by simpa using h58)]
theorem rscheme_f (s : Y) (hs : s.size ≤ 100000000) : EvR (fun k => Yu.f k s) ((Yle s.data.toList : Nat) : Int) := by
 unfold Yu.f
 cases hL : s.data.toList with
 | nil =>
  have hz : s.size = 0 := by rw [Lib.size_eq, hL]; rfl
  refine EvR.succ (EvR.of fun k => ?_)
  rw [Yu.l0, if_neg Zj, if_pos rfl]; rfl
 | cons b t =>
  obtain ⟨mX, hb, ht⟩ := Yyc s 0 b t hL
  have hw : wrap64 ((0 : Int) + 1) = ((1 : Nat) : Int) := by unfold wrap64; omega
  refine EvR.succ ?_
  unfold Yle
  rw [List.headD_cons]
  by_cases c1 : Yzc b = true
  ·have hsc : Yoc b = true := by unfold Yoc; rw [c1]; rfl
   have hgo := Ygs s hs t 1 ht Zj Zj
   rw [List.dropWhile_cons_of_pos hsc, List.takeWhile_cons_of_pos hsc]
   have e : (((if Yzc b = true ∧ (t.dropWhile Yoc).head? = some 58 then (b :: t.takeWhile Yoc).length + 1 else 0 : Nat)) : Int) = (if (t.dropWhile Yoc).head? = some 58 then ((1 + (t.takeWhile Yoc).length + 1 : Nat) : Int) else 0) := by
    by_cases h : (t.dropWhile Yoc).head? = some 58
    ·rw [if_pos ⟨c1, h⟩, if_pos h, List.length_cons]; omega
    ·rw [if_neg (fun x => h x.2), if_neg h]; rfl
   rw [e]
   refine hgo.congr fun k => ?_
   rw [Yu.l0, if_pos Zj, if_pos Zj, show (0 : Int) = ((0 : Nat) : Int) from rfl, hb, Ywh, Kba, if_pos c1]
   exact congrArg _ hw
  ·rw [if_neg (fun x => c1 x.1)]
   refine EvR.of fun k => ?_
   rw [Yu.l0, if_pos Zj, if_pos Zj, show (0 : Int) = ((0 : Nat) : Int) from rfl, hb, Ywh, Kba, if_neg c1, if_neg Zj, if_pos rfl]
end Go.Proofs.YtihaeeldgimdiaaGreatDoor.X
