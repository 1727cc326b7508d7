import Derived.Test.YtnmglnglbdpjjaaGreatDoorUfZr
import Derived.Test.YtnmglnglbdpjjaaGreatDoorUfX11
import Derived.Test.YtnmglnglbdpjjaaGreatDoorUfX12
set_option linter.all false
namespace Go.Proofs.YtnmglnglbdpjjaaGreatDoor.X
open Go.RowKit Go.Lib Go.Shelf Go.Yw.PrintWords Go.Yw.PrintLast Go.Yw.PrintMore
theorem Ydo (xs ys : List Int) : strOfNums xs ++ strOfNums ys = strOfNums (xs ++ ys) := by
 refine Yng ?_
 rw [ByteArray.data_append, Array.toList_append]
 unfold strOfNums
 simp
theorem Yru : ∀ (f v : Nat) (acc : List Int), 1 ≤ f → v < 10 ^ f → v < 18446744073709551616 → acc.length + f ≤ 1000 →
  EvR (fun k => Yhb.l0 k (v : Int) (strOfNums acc)) (strOfNums ((if v = 0 then [48] else (digs f v).reverse) ++ acc)) := by
 intro f
 induction f with
 | zero => intro v acc h; omega
 | succ f ih =>
  intro v acc h1 hv hv2 hl
  have e1 : IntKind.u64.wrap (48 + Int.tmod (v : Int) 10) % 256 = 48 + ((v % 10 : Nat) : Int) := by
   rw [Int.tmod_eq_emod_of_nonneg Zk, Yrg _ Zk Zk]; omega
  have e2 : IntKind.u64.wrap (Int.tdiv (v : Int) 10) = ((v / 10 : Nat) : Int) := by
   rw [Int.tdiv_eq_ediv_of_nonneg Zk, Yrg _ Zk Zk]; omega
  have hsz : (strOfNums [48 + ((v % 10 : Nat) : Int)]).size + (strOfNums acc).size ≤ 9223372036854775807 := by
   rw [strOfNums_size, strOfNums_size]; simp only [List.length_cons, List.length_nil]; omega
  refine EvR.succ ?_
  by_cases hz : v / 10 = 0
  ·refine EvR.of fun k => ?_
   rw [Yhb.l0, Kfa, e1, e2, if_pos hsz, if_pos Zk, Ydo]
   have e3 : (if v = 0 then [48] else (digs (f + 1) v).reverse) = [48 + ((v % 10 : Nat) : Int)] := by
    by_cases h0 : v = 0
    ·subst h0; rfl
    ·have hd : ∀ g, digs g 0 = [] := fun g => by cases g <;> rfl
     rw [if_neg h0, digs, if_neg h0, hz, hd]; rfl
   rw [e3]
  ·have h0 : v ≠ 0 := by omega
   have hf : 1 ≤ f := by
    cases f with
    | zero => simp at hv; omega
    | succ f => omega
   have hgo := ih (v / 10) ([48 + ((v % 10 : Nat) : Int)] ++ acc) hf (by rw [Nat.pow_succ] at hv; omega) Zk (by simp only [List.length_append, List.length_cons, List.length_nil]; omega)
   rw [if_neg hz] at hgo
   have e3 : (if v = 0 then [48] else (digs (f + 1) v).reverse) ++ acc = (digs f (v / 10)).reverse ++ ([48 + ((v % 10 : Nat) : Int)] ++ acc) := by
    rw [if_neg h0, digs, if_neg h0, List.reverse_cons, List.append_assoc]
   rw [e3]
   refine hgo.congr fun k => ?_
   rw [Yhb.l0, Kfa, e1, e2, if_pos hsz, if_neg Zk, Ydo]
theorem Yoq (v : Nat) (hv : v < 18446744073709551616) : EvR (fun k => Yhb.f k (v : Int)) (strOfNums (Yuf v)) := by
 have h := Yru 20 v [] Zk Zk hv Zv
 rw [List.append_nil] at h
 exact h
def Ycj (p : Int) : List Int := if p < 0 then 45 :: Yuf (-p).toNat else Yuf p.toNat
theorem Yyq (v : Nat) : 1 ≤ (Yuf v).length := by
 unfold Yuf
 by_cases h : v = 0
 ·rw [if_pos h]; simp
 ·rw [if_neg h, List.length_reverse, digs, if_neg h]; simp
theorem Ypr (p : Int) (h0 : -9223372036854775808 ≤ p) (h1 : p ≤ 9223372036854775807) : EvR (fun k => Ytc.f k p) (strOfNums (Ycj p)) := by
 have fin : ∀ (a b : List Int), 1 ≤ b.length → a.length + b.length ≤ 1000 → EvR (fun k => Ycb.j0 k 1 (strOfNums a) (strOfNums b)) (strOfNums (a ++ b)) := by
  intro a b hb hab
  refine EvR.succ (EvR.succ (EvR.of fun k => ?_))
  have hm : mn 1 20 = 1 := rfl
  rw [Ycb.j0, Ycb.l0, hm, if_neg Zwb, if_pos (by rw [strOfNums_size, strOfNums_size]; omega), Ydo]
 unfold Ytc.f
 refine EvR.bind (g := fun _ t => some t) ?_ (EvR.of fun _ => rfl)
 unfold Ycb.f Ycj
 by_cases hp : p < 0
 ·simp only [if_pos hp]
  have e : IntKind.u64.wrap (IntKind.u64.wrap (wrap64 (-(wrap64 (p + 1)))) + 1) = (((-p).toNat : Nat) : Int) := by
   have w1 : wrap64 (p + 1) = p + 1 := by unfold wrap64; omega
   have w2 : wrap64 (-(p + 1)) = -(p + 1) := by unfold wrap64; omega
   rw [w1, w2, Yrg (-(p + 1)) Zk Zk, Yrg _ Zk Zk]; omega
  rw [e]
  refine EvR.bind (g := fun k aWk => Ycb.j0 k 1 (⟨#[45]⟩ : Y) aWk) (Yoq (-p).toNat Zk) ?_
  have hl := Yhg (-p).toNat
  exact fin [45] (Yuf (-p).toNat) (Yyq _) (by simp only [List.length_cons, List.length_nil]; omega)
 ·simp only [if_neg hp]
  have e : IntKind.u64.wrap p = ((p.toNat : Nat) : Int) := by rw [Yrg _ Zk Zk]; omega
  rw [e]
  refine EvR.bind (g := fun k aWl => Ycb.j0 k 1 (⟨#[]⟩ : Y) aWl) (Yoq p.toNat Zk) ?_
  have hl := Yhg p.toNat
  exact fin [] (Yuf p.toNat) (Yyq _) Zua
theorem Yzu (s : Y) (most : Int) (h0 : 0 ≤ most) (h1 : most ≤ 4611686018427387904) (hs : s.size ≤ 100000000) : ∀ (L : List UInt8) (i : Nat) (n : Int), s.data.toList.drop i = L → i ≤ s.size → Yah L = true → 0 ≤ n → n ≤ most →
  EvR (fun k => Yz.l1 k s most n (i : Int)) (Yhe most false n L) := by
 intro L
 induction L with
 | nil =>
  intro i n hL hi _ pX pM
  have he := bt_end s i hL hi
  refine EvR.succ (EvR.of fun k => ?_)
  rw [Yz.l1, if_neg Zk]
  rfl
 | cons b t ih =>
  intro i n hL hi ha pX pM
  obtain ⟨kY, hb, ht⟩ := Yvc s i b t hL
  have hw := Yzd i s.size hi hs
  unfold Yah at ha
  rw [List.all_cons, Bool.and_eq_true] at ha
  have hr : 48 ≤ b.toNat ∧ b.toNat ≤ 57 := by have := ha.1; unfold Ygd at this; simpa using this
  have e1 : ((b.toNat : Int) - 48) % 256 = (b.toNat : Int) - 48 := by omega
  have e2 : wrap64 (Int.tdiv most 10) = most / 10 := by rw [Int.tdiv_eq_ediv_of_nonneg h0]; unfold wrap64; omega
  have e3 : Int.tmod most 10 = most % 10 := Int.tmod_eq_emod_of_nonneg h0
  refine EvR.succ ?_
  unfold Yhe
  rw [if_pos ha.1]
  by_cases hbig : most < n * 10 + ((b.toNat : Int) - 48)
  ·rw [if_pos (Or.inr hbig), Yls most t n ha.2]
   refine EvR.of fun k => ?_
   rw [Yz.l1, if_pos Zk, if_pos Zk, hb, e1, e2, e3]
   by_cases c1 : n > most / 10
   ·rw [if_pos c1]
   ·rw [if_neg c1, if_pos Zk, if_pos Zk]
  ·rw [if_neg (by simp [hbig])]
   refine (ih (i + 1) (n * 10 + ((b.toNat : Int) - 48)) ht Zk ha.2 Zk Zk).congr (fun k => ?_)
   have e5 : wrap64 (n * 10) = n * 10 := by unfold wrap64; omega
   have e6 : wrap64 (n * 10 + ((b.toNat : Int) - 48)) = n * 10 + ((b.toNat : Int) - 48) := by unfold wrap64; omega
   rw [Yz.l1, if_pos Zk, if_pos Zk, hb, e1, e2, e3, if_neg Zk, e5, e6, hw]
   by_cases c1 : n = most / 10
   ·rw [if_pos c1, if_neg Zk, if_neg Zk]
   ·rw [if_neg c1, if_neg Zk]
theorem Yuu (s : Y) (most : Int) (h0 : 0 ≤ most) (h1 : most ≤ 4611686018427387904) (hs : s.size ≤ 100000000) : ∀ (L : List UInt8) (i : Nat), s.data.toList.drop i = L → i ≤ s.size → (Yah L = Yah s.data.toList) →
  EvR (fun k => Yz.l0 k s most (i : Int)) (numL most s.data.toList) := by
 intro L
 induction L with
 | nil =>
  intro i hL hi ha
  have he := bt_end s i hL hi
  refine EvR.succ ?_
  unfold numL
  by_cases hn : s.data.toList = []
  ·rw [if_pos hn]
   refine EvR.of fun k => ?_
   rw [Yz.l0, if_neg Zk, Lib.toList_data, if_pos hn]
  ·rw [if_neg hn]
   refine (Yzu s most h0 h1 hs s.data.toList 0 0 rfl Zk (by rw [← ha]; rfl) Zk h0).congr (fun k => ?_)
   rw [Yz.l0, if_neg Zk, Lib.toList_data, if_neg hn]; rfl
 | cons b t ih =>
  intro i hL hi ha
  obtain ⟨kY, hb, ht⟩ := Yvc s i b t hL
  have hw := Yzd i s.size hi hs
  refine EvR.succ ?_
  by_cases hd : Ygd b = true
  ·refine (ih (i + 1) ht Zk (by rw [← ha]; unfold Yah; rw [List.all_cons, hd, Bool.true_and])).congr (fun k => ?_)
   rw [Yz.l0, if_pos Zk, if_pos Zk, hb, Yij, Kfa, if_pos hd, hw]
  ·have hf : Yah s.data.toList = false := by rw [← ha]; unfold Yah; rw [List.all_cons]; simp [hd]
   have hne : s.data.toList ≠ [] := by intro e; rw [e] at hL; simp at hL
   unfold numL
   rw [if_neg hne, Ysm most _ false 0 hf]
   refine EvR.of fun k => ?_
   rw [Yz.l0, if_pos Zk, if_pos Zk, hb, Yij, Kfa, if_neg hd]
theorem Yan (s : Y) (most : Int) (h0 : 0 ≤ most) (h1 : most ≤ 4611686018427387904) (hs : s.size ≤ 100000000) : EvR (fun k => Yz.f k s most) (numL most s.data.toList) :=
 Yuu s most h0 h1 hs s.data.toList 0 rfl Zk rfl
theorem rsplit_l0 (c : UInt8) (s : Y) (hs : s.size ≤ 100000000) : ∀ (L : List UInt8) (i : Nat) (ini : List (List UInt8)) (x : List UInt8), s.data.toList.drop i = L → i ≤ s.size → ini.length ≤ i → x.length ≤ i →
  EvR (fun k => Yqa.l0 k s (c.toNat : Int) ((ini ++ [x]).map ofL) (i : Int)) ((ini ++ glue x (Yhf (· == c) L)).map ofL) := by
 intro L
 induction L with
 | nil =>
  intro i ini x hL hi ha hxl
  have he := bt_end s i hL hi
  refine EvR.succ (EvR.of fun k => ?_)
  rw [Yqa.l0, if_neg Zk]
  simp [Yhf, glue]
 | cons b t ih =>
  intro i ini x hL hi ha hxl
  obtain ⟨kY, hb, ht⟩ := Yvc s i b t hL
  have hw := Yzd i s.size hi hs
  have hl : ((ini ++ [x]).map ofL).length = ini.length + 1 := by simp
  refine EvR.succ ?_
  rw [Yhf]
  by_cases hp : b = c
  ·subst hp
   rw [if_pos Zv]
   have hgo := ih (i + 1) (ini ++ [x]) [] ht Zk Zib Zv
   rw [Yhm] at hgo
   rw [show glue x ([] :: Yhf (· == b) t) = x :: Yhf (· == b) t by simp [glue], show ini ++ x :: Yhf (· == b) t = (ini ++ [x]) ++ Yhf (· == b) t by simp]
   refine hgo.congr fun k => ?_
   rw [Yqa.l0, if_pos Zk, if_pos Zk, hb, if_pos rfl, if_pos Zk, hw]
   simp [ofL]
  ·rw [if_neg (by simp [hp]), Ypq]
   have hgo := ih (i + 1) ini (x ++ [b]) ht Zk Zk Zib
   refine hgo.congr fun k => ?_
   have e1 : wrap64 ((((ini ++ [x]).map ofL).length : Int) - 1) = (ini.length : Int) := by rw [hl]; unfold wrap64; omega
   have hx : s.extract ((i : Int)).toNat (((i + 1 : Nat) : Int)).toNat = ofL [b] := by
    rw [Int.toNat_natCast, Int.toNat_natCast, Ynh, hL, show i + 1 - i = 1 by omega]; rfl
   have hr : rdOf ByteArray.empty ((ini ++ [x]).map ofL) (ini.length : Int) = ofL x := by
    rw [Ydh _ _ Zv]; simp
   have happ : ofL x ++ ofL [b] = ofL (x ++ [b]) := Yng Zxa
   have hset : ((ini ++ [x]).map ofL).set ini.length (ofL (x ++ [b])) = (ini ++ [x ++ [b]]).map ofL := by
    rw [List.map_append, List.set_append_right (h := by simp)]; simp
   have hsz : (ofL x).size + (ofL [b]).size ≤ 9223372036854775807 := by rw [Yy, Yy]; simp only [List.length_cons, List.length_nil]; omega
   rw [Yqa.l0, if_pos Zk, if_pos Zk, hb, if_neg (nat_ne hp), e1, if_pos Zk, if_pos Zk, hw, if_pos Zk, if_pos Zk, hr, hx, if_pos hsz, happ, Int.toNat_natCast, hset]
theorem rsplit_f (c : UInt8) (s : Y) (hs : s.size ≤ 100000000) : EvR (fun k => Yqa.f k s (c.toNat : Int)) ((splitB c s.data.toList).map ofL) := by
 have h := rsplit_l0 c s hs s.data.toList 0 [] [] rfl Zk Zv Zv
 rw [Yhm, Yvu] at h
 exact h
theorem splitB_le (c : UInt8) (l : List UInt8) : ∀ y ∈ splitB c l, y.length ≤ l.length := by
 induction l with
 | nil => intro y hy; rw [splitB] at hy; simp at hy; subst hy; simp
 | cons x l ih =>
  intro y hy
  rw [splitB] at hy
  split at hy
  ·rcases List.mem_cons.1 hy with rfl | hy
   ·simp
   ·have := ih y hy; simp only [List.length_cons]; omega
  ·cases hs : splitB c l with
   | nil => exact absurd hs (Ytf c l)
   | cons h t =>
    rw [hs, Ymf] at hy
    rcases List.mem_cons.1 hy with rfl | hy
    ·have := ih h (by rw [hs]; exact List.mem_cons_self); simp only [List.length_cons]; omega
    ·have := ih y (by rw [hs]; exact List.mem_cons_of_mem _ hy); simp only [List.length_cons]; omega
theorem rbyte_f (s : Y) (hs : s.size ≤ 100000000) : EvR (fun k => Ypd.f k s) (Yik s.data.toList) := by
 have hn := Yan s 255 Zk Zk hs
 have hb := Ywn 255 Zk s.data.toList
 unfold Yik
 unfold Ypd.f
 refine EvR.bind (g := fun k x => if x.2 = 0 then (Ytc.f k x.1).bind fun t => some (t.toList == s.toList) else some false) hn ?_
 by_cases he : (numL 255 s.data.toList).2 = 0
 ·simp only [if_pos he]
  have ht := Ypr (numL 255 s.data.toList).1 Zk Zk
  have hz : Ycj (numL 255 s.data.toList).1 = Yuf (numL 255 s.data.toList).1.toNat := by unfold Ycj; rw [if_neg Zk]
  rw [hz] at ht
  refine EvR.bind (g := fun _ t => some (t.toList == s.toList)) ht (EvR.of fun _ => ?_)
  rw [he, Lib.toList_data, Lib.toList_data]; rfl
 ·refine EvR.of fun k => ?_
  rw [if_neg he, beq_eq_false_iff_ne.2 he]; rfl
theorem name_if (b : UInt8) (X : Option Bool) : (if (b.toNat : Int) ≥ 97 then (if (b.toNat : Int) ≤ 122 then X else ((Yw.f (b.toNat : Int)).bind fun gZ => (if gZ = true then X else (if (b.toNat : Int) = 45 then X else (if ((b.toNat : Int) = 95) then X else (some false)))))) else ((Yw.f (b.toNat : Int)).bind fun vO => (if vO = true then X else (if (b.toNat : Int) = 45 then X else (if ((b.toNat : Int) = 95) then X else (some false)))))) = if Yhj b = true then X else some false := by
 rw [Yij]
 simp only [Kfa]
 have e45 : ((b.toNat : Int) = 45) ↔ b = 45 := ⟨fun e => UInt8.toNat_inj.1 (by show b.toNat = 45; omega), fun e => by rw [e]; rfl⟩
 have e95 : ((b.toNat : Int) = 95) ↔ b = 95 := ⟨fun e => UInt8.toNat_inj.1 (by show b.toNat = 95; omega), fun e => by rw [e]; rfl⟩
 simp only [e45, e95]
 unfold Yhj
 by_cases c1 : (b.toNat : Int) ≥ 97
 ·rw [if_pos c1]
  by_cases c2 : (b.toNat : Int) ≤ 122
  ·rw [if_pos c2, decide_eq_true (show 97 ≤ b.toNat by omega), decide_eq_true (show b.toNat ≤ 122 by omega)]; rfl
  ·rw [if_neg c2, decide_eq_false (show ¬ b.toNat ≤ 122 by omega), Bool.and_false, Bool.false_or]
   by_cases c3 : Ygd b = true
   ·rw [if_pos c3, c3, Bool.true_or]; rfl
   ·rw [if_neg c3, Bool.eq_false_iff.2 c3, Bool.false_or]
    by_cases c4 : b = 45
    ·rw [if_pos c4]; simp [c4]
    ·rw [if_neg c4]
     by_cases c5 : b = 95 <;> simp [c4, c5]
 ·rw [if_neg c1, decide_eq_false (show ¬ 97 ≤ b.toNat by omega), Bool.false_and, Bool.false_or]
  by_cases c3 : Ygd b = true
  ·rw [if_pos c3, c3, Bool.true_or]; rfl
  ·rw [if_neg c3, Bool.eq_false_iff.2 c3, Bool.false_or]
   by_cases c4 : b = 45
   ·rw [if_pos c4]; simp [c4]
   ·rw [if_neg c4]
    by_cases c5 : b = 95 <;> simp [c4, c5]
theorem rname_l1 (s : Y) (xs : List (List UInt8)) (i : Nat) (hi : i < xs.length) (p : List UInt8) (hp : xs.getD i [] = p) (hpl : p.length ≤ 100000000) (hxl : xs.length ≤ 100000001) (R : Bool)
  (hR : EvR (fun k => Yj.l0 k s (xs.map ofL) ((i + 1 : Nat) : Int)) R) : ∀ (L : List UInt8) (j : Nat), p.drop j = L → j ≤ p.length →
  EvR (fun k => Yj.l1 k s (xs.map ofL) (i : Int) (j : Int)) (if L.all Yhj = true then R else false) := by
 have hr : rdOf ByteArray.empty (xs.map ofL) (i : Int) = ofL p := by rw [Ydh _ _ hi, hp]
 have hlen : (xs.map ofL).length = xs.length := List.length_map _
 intro L
 induction L with
 | nil =>
  intro j hL hj
  have hj2 : p.length ≤ j := List.drop_eq_nil_iff.1 hL
  refine EvR.succ (hR.congr fun k => ?_)
  have hw : wrap64 ((i : Int) + 1) = ((i + 1 : Nat) : Int) := by unfold wrap64; omega
  rw [Yj.l1, if_pos Zk, if_pos Zk, hr, if_neg Zda, hw]
 | cons b t ih =>
  intro j hL hj
  obtain ⟨hj2, hb, ht⟩ := Yvc (ofL p) j b t hL
  rw [Yy] at hj2
  rw [Ygb] at ht
  have hw : wrap64 ((j : Int) + 1) = ((j + 1 : Nat) : Int) := by unfold wrap64; omega
  have step : ∀ k, Yj.l1 (k + 1) s (xs.map ofL) (i : Int) (j : Int) = if Yhj b = true then Yj.l1 k s (xs.map ofL) (i : Int) ((j + 1 : Nat) : Int) else some false := fun k => by
   rw [Yj.l1, if_pos Zk, if_pos Zk, hr, if_pos Zda, if_pos Zk, hb, hw, name_if]
  refine EvR.succ ?_
  rw [List.all_cons]
  by_cases hc : Yhj b = true
  ·rw [hc, Bool.true_and]
   refine (ih (j + 1) ht Zk).congr fun k => ?_
   rw [step k, if_pos hc]
  ·rw [Bool.eq_false_iff.2 hc, Bool.false_and, if_neg Zv]
   refine EvR.of fun k => ?_
   rw [step k, if_neg hc]
theorem rname_l2 (xs : List (List UInt8)) (hxl : xs.length ≤ 100000001) (hxs : ∀ x ∈ xs, x.length ≤ 100000000) : ∀ (L : List (List UInt8)) (i : Nat), xs.drop i = L → i ≤ xs.length →
  EvR (fun k => Yj.l2 k (xs.map ofL) (i : Int)) (L.all Yik && (xs.length == 4)) := by
 have hlen : (xs.map ofL).length = xs.length := List.length_map _
 intro L
 induction L with
 | nil =>
  intro i hL hi
  have hj2 : xs.length ≤ i := List.drop_eq_nil_iff.1 hL
  refine EvR.succ (EvR.of fun k => ?_)
  rw [Yj.l2, if_neg Zk, hlen]
  show some ((xs.length : Int) == 4) = some (xs.length == 4)
  congr 1
  by_cases h : xs.length = 4
  ·rw [h]; rfl
  ·rw [beq_eq_false_iff_ne.2 h, beq_eq_false_iff_ne.2 Zk]
 | cons p t ih =>
  intro i hL hi
  have hlt : i < xs.length := by
   have := congrArg List.length hL
   rw [List.length_drop] at this; simp only [List.length_cons] at this; omega
  have hdc := List.drop_eq_getElem_cons hlt
  rw [hL] at hdc
  have hp : xs[i] = p := (List.cons.inj hdc).1.symm
  have ht : xs.drop (i + 1) = t := (List.cons.inj hdc).2.symm
  have hr : rdOf ByteArray.empty (xs.map ofL) (i : Int) = ofL p := by rw [Ydh _ _ hlt, List.getD_eq_getElem?_getD, List.getElem?_eq_getElem hlt, hp]; rfl
  have hw : wrap64 ((i : Int) + 1) = ((i + 1 : Nat) : Int) := by unfold wrap64; omega
  have hb := rbyte_f (ofL p) (by rw [Yy]; exact hxs p (by rw [← hp]; exact List.getElem_mem hlt))
  rw [Ygb] at hb
  refine EvR.succ ?_
  refine EvR.congr (f := fun k => (Ypd.f k (ofL p)).bind fun iI => if iI = true then Yj.l2 k (xs.map ofL) ((i + 1 : Nat) : Int) else some false) ?_ (fun k => by rw [Yj.l2, if_pos Zk, if_pos Zk, hr, hw])
  refine EvR.bind (g := fun k iI => if iI = true then Yj.l2 k (xs.map ofL) ((i + 1 : Nat) : Int) else some false) hb ?_
  rw [List.all_cons]
  cases hc : Yik p with
  | true =>
   rw [Bool.true_and]
   exact (ih (i + 1) ht Zk).congr fun k => by rw [if_pos rfl]
  | false =>
   rw [Bool.false_and, Bool.false_and]
   exact EvR.of fun k => by rw [if_neg Zv]
theorem rname_l0 (s : Y) (xs : List (List UInt8)) (hpos : 0 < xs.length) (hxl : xs.length ≤ 100000001) (hxs : ∀ x ∈ xs, x.length ≤ 100000000) : ∀ (L : List (List UInt8)) (i : Nat), xs.drop i = L → i ≤ xs.length →
  EvR (fun k => Yj.l0 k s (xs.map ofL) (i : Int)) (L.all Yvq && (decide (s.size ≤ 253) && ((numL 0 (xs.getD (xs.length - 1) [])).2 == 3 || ((xs.length == 4) && xs.all Yik)))) := by
 have hlen : (xs.map ofL).length = xs.length := List.length_map _
 intro L
 induction L with
 | nil =>
  intro i hL hi
  have hj2 : xs.length ≤ i := List.drop_eq_nil_iff.1 hL
  rw [List.all_nil, Bool.true_and]
  refine EvR.succ ?_
  by_cases aKj : s.size ≤ 253
  ·rw [decide_eq_true aKj, Bool.true_and]
   have e1 : wrap64 (((xs.map ofL).length : Int) - 1) = ((xs.length - 1 : Nat) : Int) := by rw [hlen]; unfold wrap64; omega
   have hr : rdOf ByteArray.empty (xs.map ofL) ((xs.length - 1 : Nat) : Int) = ofL (xs.getD (xs.length - 1) []) := Ydh _ _ Zk
   have hm : xs.getD (xs.length - 1) [] ∈ xs := by
    rw [List.getD_eq_getElem?_getD, List.getElem?_eq_getElem Zk]; exact List.getElem_mem _
   have hn := Yan (ofL (xs.getD (xs.length - 1) [])) 4611686018427387904 Zk Zk (by rw [Yy]; exact hxs _ hm)
   rw [Ygb] at hn
   generalize xs.getD (xs.length - 1) [] = lst at hr hn
   refine EvR.congr (f := fun k => (Yz.f k (ofL lst) 4611686018427387904).bind fun aCu => if aCu.2 = 3 then some true else Yj.l2 k (xs.map ofL) 0) ?_ (fun k => by
    rw [Yj.l0, if_neg Zk, if_neg Zk, e1, if_pos Zk, if_pos Zk, hr])
   refine EvR.bind (g := fun k aCu => if aCu.2 = 3 then some true else Yj.l2 k (xs.map ofL) 0) hn ?_
   by_cases h3 : (numL 4611686018427387904 lst).2 = 3
   ·have h3' : (numL 0 lst).2 = 3 := (Ysk 0 lst).2 ((Ysk _ lst).1 h3)
    rw [h3', show ((3 : Int) == 3) = true from rfl, Bool.true_or]
    exact EvR.of fun k => by rw [if_pos h3]
   ·have h3' : ¬ (numL 0 lst).2 = 3 := fun e => h3 ((Ysk _ lst).2 ((Ysk 0 lst).1 e))
    rw [beq_eq_false_iff_ne.2 h3', Bool.false_or, Bool.and_comm]
    exact (rname_l2 xs hxl hxs xs 0 rfl Zk).congr fun k => by rw [if_neg h3]; rfl
  ·rw [decide_eq_false aKj, Bool.false_and]
   refine EvR.of fun k => ?_
   rw [Yj.l0, if_neg Zk, if_pos Zk]
 | cons p t ih =>
  intro i hL hi
  have hlt : i < xs.length := by
   have := congrArg List.length hL
   rw [List.length_drop] at this; simp only [List.length_cons] at this; omega
  have hdc := List.drop_eq_getElem_cons hlt
  rw [hL] at hdc
  have hp : xs[i] = p := (List.cons.inj hdc).1.symm
  have ht : xs.drop (i + 1) = t := (List.cons.inj hdc).2.symm
  have hg : xs.getD i [] = p := by rw [List.getD_eq_getElem?_getD, List.getElem?_eq_getElem hlt, hp]; rfl
  have hr : rdOf ByteArray.empty (xs.map ofL) (i : Int) = ofL p := by rw [Ydh _ _ hlt, hg]
  have hpl : p.length ≤ 100000000 := hxs p (by rw [← hp]; exact List.getElem_mem hlt)
  have jY := rname_l1 s xs i hlt p hg hpl hxl _ (ih (i + 1) ht Zk) p 0 rfl Zk
  rw [List.all_cons]
  refine EvR.succ ?_
  have hq : Yvq p = (p.all Yhj && (!p.isEmpty && decide (p.length ≤ 63))) := rfl
  by_cases he : p = []
  ·subst he
   rw [show Yvq [] = false from rfl, Bool.false_and, Bool.false_and]
   refine EvR.succ (EvR.of fun k => ?_)
   rw [Yj.l0, if_pos Zk, if_pos Zk, hr, if_pos (by rw [Yy]; simp), Yj.j1, if_pos rfl]
  ·have hp1 : 1 ≤ p.length := List.length_pos_iff.2 he
   have he2 : p.isEmpty = false := by cases p with | nil => exact absurd rfl he | cons a b => rfl
   rw [hq, he2, Bool.not_false, Bool.true_and]
   by_cases zJ : p.length ≤ 63
   ·rw [decide_eq_true zJ, Bool.and_true, Bool.and_assoc]
    have e0 : ∀ X : Bool, (p.all Yhj && X) = (if p.all Yhj = true then X else false) := fun X => by cases p.all Yhj <;> rfl
    rw [e0]
    refine EvR.congr (f := fun k => Yj.j1 k s (xs.map ofL) (i : Int) false) ?_ (fun k => by
     rw [Yj.l0, if_pos Zk, if_pos Zk, hr, if_neg Zda, decide_eq_false Zda])
    refine EvR.succ (jY.congr fun k => ?_)
    rw [Yj.j1, if_neg Zv]; rfl
   ·rw [decide_eq_false zJ, Bool.and_false, Bool.false_and, Bool.false_and]
    refine EvR.succ (EvR.of fun k => ?_)
    rw [Yj.l0, if_pos Zk, if_pos Zk, hr, if_neg Zda, decide_eq_true Zda, Yj.j1, if_pos rfl]
theorem rname_f (s : Y) (hs : s.size ≤ 100000000) : EvR (fun k => Yj.f k s) (nameR s.data.toList) := by
 have hsp := rsplit_f 46 s hs
 have hsz := Lib.size_eq s
 have hln := Yfl 46 s.data.toList
 unfold Yj.f
 refine EvR.bind (g := fun k aBV => Yj.l0 k s aBV 0) hsp ?_
 have h := rname_l0 s (splitB 46 s.data.toList) (List.length_pos_iff.2 (Ytf _ _)) Zk (fun x hx => by have := splitB_le 46 s.data.toList x hx; omega) (splitB 46 s.data.toList) 0 rfl Zk
 unfold nameR
 rw [← hsz]
 exact h
theorem Ymk (b : UInt8) : EvR (fun k => Yga.f k (b.toNat : Int)) ((hexV b : Nat) : Int) := by
 refine EvR.mono (Yga.mono _) (k0 := 1) ?_
 revert b
 exact Yad (p := fun b => Yga.f 1 (b.toNat : Int) = some ((hexV b : Nat) : Int)) Zma
theorem Yli (c : UInt8) (l : List UInt8) (h : ∀ a b t, l = a :: b :: t → ¬ (c = 37 ∧ hexV a < 16 ∧ hexV b < 16)) : Ynb (c :: l) = c :: Ynb l := by
 match l with
 | [] => rfl
 | [d] => rfl
 | a :: b :: t => rw [Ynb, if_neg (h a b t rfl)]
theorem cast16 (x : Nat) (h : x < 16) : (x : Int) < 16 := by omega
theorem cast16n (x : Nat) (h : ¬ x < 16) : ¬ (x : Int) < 16 := by omega
theorem rstep_hex (k : Nat) (s : Y) (A : List Int) (i j1 j2 a b : Int) (h0 : i < (s.size : Int)) (h1 : 0 ≤ i) (h2 : bt s i = 37) (e1 : wrap64 (i + 1) = j1) (e2 : wrap64 (i + 2) = j2) (h3 : j2 < (s.size : Int)) (h4 : 0 ≤ j1) (h5 : j1 < (s.size : Int)) (h6 : 0 ≤ j2) (ha : bt s j1 = a) (hb : bt s j2 = b) :
  Yn.l0 (k + 1) s A i = (Yga.f k a).bind fun aGr => if aGr < 16 then ((Yga.f k b).bind fun vP => Yn.j1 k s A i (decide (vP < 16))) else Yn.j1 k s A i false := by
 rw [Yn.l0, if_pos h0, if_pos h1, h2, if_pos rfl, e2, if_pos h3, e1, if_pos h4, if_pos h5, ha, hb]
 simp only [if_pos h6]
theorem rstep_got (k : Nat) (s : Y) (A : List Int) (i j1 j2 j3 a b : Int) (hA : A.length < 140737488355328) (e1 : wrap64 (i + 1) = j1) (e2 : wrap64 (i + 2) = j2) (e3 : wrap64 (j2 + 1) = j3) (h3 : j2 < (s.size : Int)) (h4 : 0 ≤ j1) (h5 : j1 < (s.size : Int)) (h6 : 0 ≤ j2) (ha : bt s j1 = a) (hb : bt s j2 = b) :
  Yn.j1 (k + 1) s A i true = (Yga.f k a).bind fun aGs => (Yga.f k b).bind fun aCv => Yn.l0 k s (A ++ [((((aGs * 16) % 4294967296) + aCv) % 4294967296) % 256]) j3 := by
 rw [Yn.j1, if_pos rfl, e1, if_pos h4, if_pos h5, ha, e2, e3]
 simp only [if_pos h6, if_pos h3, hb, if_pos hA]
theorem rstep_ev (x y : Nat) (hx : x < 16) (hy : y < 16) : ((((x : Int) * 16) % 4294967296 + (y : Int)) % 4294967296) % 256 = (((UInt8.ofNat (x * 16 + y)).toNat : Nat) : Int) := by
 rw [UInt8.toNat_ofNat', Nat.mod_eq_of_lt Zk]; omega
theorem Ysv (s : Y) (hs : s.size ≤ 100000000) : ∀ (n i : Nat) (acc : List UInt8), s.size - i ≤ n → i ≤ s.size → acc.length ≤ i →
  EvR (fun k => Yn.l0 k s (acc.map fun b => (b.toNat : Int)) (i : Int)) (ofL (acc ++ Ynb (s.data.toList.drop i))) := by
 intro n
 induction n with
 | zero =>
  intro i acc hn hi ha
  have he : i = s.size := by omega
  have hL : s.data.toList.drop i = [] := List.drop_eq_nil_iff.2 Zcb
  refine EvR.succ (EvR.of fun k => ?_)
  rw [Yn.l0, if_neg Zk, Yim, hL]
  show some (ofL acc) = some (ofL (acc ++ []))
  rw [List.append_nil]
 | succ n ih =>
  intro i acc hn hi ha
  cases hL : s.data.toList.drop i with
  | nil =>
   have he := bt_end s i hL hi
   refine EvR.succ (EvR.of fun k => ?_)
   rw [Yn.l0, if_neg Zk, Yim]
   show some (ofL acc) = some (ofL (acc ++ []))
   rw [List.append_nil]
  | cons c l =>
   obtain ⟨kY, hb, ht⟩ := Yvc s i c l hL
   have hw := Yzd i s.size hi hs
   have tA : wrap64 ((i : Int) + 2) = ((i + 2 : Nat) : Int) := by unfold wrap64; omega
   have hal : (acc.map fun b => (b.toNat : Int)).length < 140737488355328 := by rw [List.length_map]; omega
   have plain : Ynb (c :: l) = c :: Ynb l → EvR (fun k => Yn.j1 k s (acc.map fun b => (b.toNat : Int)) (i : Int) false) (ofL (acc ++ Ynb (c :: l))) := by
    intro e
    have hgo := ih (i + 1) (acc ++ [c]) Zk Zk Zib
    rw [ht] at hgo
    rw [e, show acc ++ c :: Ynb l = (acc ++ [c]) ++ Ynb l by simp]
    refine EvR.succ (hgo.congr fun k => ?_)
    rw [Yn.j1, if_neg Zv, if_pos Zk, if_pos Zk, if_pos hal, hb, hw, List.map_append, List.map_singleton]
   refine EvR.succ ?_
   by_cases hc : c = 37
   ·have h37 : ((c.toNat : Nat) : Int) = 37 := by rw [hc]; rfl
    have aGt : bt s (i : Int) = 37 := hb.trans h37
    by_cases h3 : i + 2 < s.size
    ·have q1 : s.size - (i + 3) ≤ n := by clear hb aGt h37 hw tA hL ht plain hal; omega
     have q2 : i + 3 ≤ s.size := h3
     have q3 : acc.length + 1 ≤ i + 3 := by clear hb aGt h37 hw tA hL ht plain hal; omega
     have hll := congrArg List.length hL
     rw [List.length_drop, ← Lib.size_eq, List.length_cons] at hll
     obtain ⟨a, b, t, rfl⟩ : ∃ a b t, l = a :: b :: t := by
      match l, hll with
      | [], hll => simp only [List.length_nil] at hll; omega
      | [x], hll => simp only [List.length_cons, List.length_nil] at hll; omega
      | a :: b :: t, _ => exact ⟨a, b, t, rfl⟩
     obtain ⟨ha2, hba, hta⟩ := Yvc s (i + 1) a (b :: t) ht
     obtain ⟨bU, hbb, htb⟩ := Yvc s (i + 2) b t hta
     have aWm := Yzd (i + 2) s.size (Nat.le_of_lt h3) hs
     have c1 : (0 : Int) ≤ ((i + 2 : Nat) : Int) := Int.natCast_nonneg _
     have c2 : ((i + 2 : Nat) : Int) < (s.size : Int) := Int.ofNat_lt.2 h3
     have hstep := fun k => rstep_hex k s (acc.map fun b => (b.toNat : Int)) (i : Int) ((i + 1 : Nat) : Int) ((i + 2 : Nat) : Int) _ _ (Int.ofNat_lt.2 kY) (Int.natCast_nonneg _) aGt hw tA c2 (Int.natCast_nonneg _) (Int.ofNat_lt.2 ha2) c1 hba hbb
     refine EvR.congr ?_ hstep
     refine EvR.bind (g := fun k aGr => if aGr < 16 then ((Yga.f k (b.toNat : Int)).bind fun vP => Yn.j1 k s (acc.map fun b => (b.toNat : Int)) (i : Int) (decide (vP < 16))) else Yn.j1 k s (acc.map fun b => (b.toNat : Int)) (i : Int) false) (Ymk a) ?_
     by_cases h1 : hexV a < 16
     ·refine EvR.congr (f := fun k => (Yga.f k (b.toNat : Int)).bind fun vP => Yn.j1 k s (acc.map fun b => (b.toNat : Int)) (i : Int) (decide (vP < 16))) ?_ (fun k => by rw [if_pos (cast16 _ h1)])
      refine EvR.bind (g := fun k vP => Yn.j1 k s (acc.map fun b => (b.toNat : Int)) (i : Int) (decide (vP < 16))) (Ymk b) ?_
      by_cases h2 : hexV b < 16
      ·rw [decide_eq_true (cast16 _ h2), Ynb, if_pos ⟨hc, h1, h2⟩]
       have hgo := ih (i + 3) (acc ++ [UInt8.ofNat (hexV a * 16 + hexV b)]) q1 q2 (by rw [List.length_append]; exact q3)
       rw [htb] at hgo
       rw [show acc ++ UInt8.ofNat (hexV a * 16 + hexV b) :: Ynb t = (acc ++ [UInt8.ofNat (hexV a * 16 + hexV b)]) ++ Ynb t by simp]
       refine EvR.succ ?_
       have aGu := fun k => rstep_got k s (acc.map fun b => (b.toNat : Int)) (i : Int) ((i + 1 : Nat) : Int) ((i + 2 : Nat) : Int) ((i + 3 : Nat) : Int) _ _ hal hw tA aWm c2 (Int.natCast_nonneg _) (Int.ofNat_lt.2 ha2) c1 hba hbb
       refine EvR.congr ?_ aGu
       refine EvR.bind (g := fun k aGs => (Yga.f k (b.toNat : Int)).bind fun aCv => Yn.l0 k s ((acc.map fun b => (b.toNat : Int)) ++ [((((aGs * 16) % 4294967296) + aCv) % 4294967296) % 256]) ((i + 3 : Nat) : Int)) (Ymk a) ?_
       refine EvR.bind (g := fun k aCv => Yn.l0 k s ((acc.map fun b => (b.toNat : Int)) ++ [(((((hexV a : Nat) : Int) * 16) % 4294967296 + aCv) % 4294967296) % 256]) ((i + 3 : Nat) : Int)) (Ymk b) ?_
       refine hgo.congr fun k => ?_
       have ev := rstep_ev (hexV a) (hexV b) h1 h2
       rw [ev, List.map_append, List.map_singleton]
      ·rw [decide_eq_false (cast16n _ h2)]
       exact plain (Yli _ _ fun a' b' t' e h => h2 (by rw [(List.cons.inj (List.cons.inj e).2).1]; exact h.2.2))
     ·exact EvR.congr (f := fun k => Yn.j1 k s (acc.map fun b => (b.toNat : Int)) (i : Int) false) (plain (Yli _ _ fun a' b' t' e h => h1 (by rw [(List.cons.inj e).1]; exact h.2.1))) (fun k => by rw [if_neg (cast16n _ h1)])
    ·refine (plain (Yli _ _ fun a' b' t' e h => ?_)).congr fun k => ?_
     ·rw [e] at hL
      have hll := congrArg List.length hL
      rw [List.length_drop, ← Lib.size_eq, List.length_cons, List.length_cons, List.length_cons] at hll
      omega
     ·rw [Yn.l0, if_pos Zk, if_pos Zk, hb, if_pos h37, tA, if_neg Zk]
   ·refine (plain (Yli _ _ fun a' b' t' e h => hc h.1)).congr fun k => ?_
    rw [Yn.l0, if_pos Zk, if_pos Zk, hb, if_neg (fun e => hc (UInt8.toNat_inj.1 (by show c.toNat = 37; omega)))]
theorem runmark_f (s : Y) (hs : s.size ≤ 100000000) : EvR (fun k => Yn.f k s) (ofL (Ynb s.data.toList)) :=
 Ysv s hs s.size 0 [] Zk Zk Zv
def Ygi (b : UInt8) : Bool := b != 9 && (b != 10 && b != 13)
theorem clean33_P (l : List UInt8) : Yqd l = (Ysh l).filter Ygi := by
 unfold Yqd
 rw [List.filter_filter, List.filter_filter]
 refine List.filter_congr fun b _ => ?_
 unfold Ygi
 cases b != 9 <;> cases b != 10 <;> cases b != 13 <;> rfl
theorem rclean_l2 (s : Y) (hs : s.size ≤ 100000000) : ∀ (L : List UInt8) (i : Nat) (acc : List UInt8), s.data.toList.drop i = L → i ≤ s.size → acc.length ≤ i →
  EvR (fun k => Yq.l2 k s (acc.map fun b => (b.toNat : Int)) (i : Int)) (ofL (acc ++ L.filter Ygi)) := by
 intro L
 induction L with
 | nil =>
  intro i acc hL hi ha
  have he := bt_end s i hL hi
  refine EvR.succ (EvR.of fun k => ?_)
  rw [Yq.l2, if_neg Zk, Yim]
  show some (ofL acc) = some (ofL (acc ++ []))
  rw [List.append_nil]
 | cons b t ih =>
  intro i acc hL hi ha
  obtain ⟨kY, hb, ht⟩ := Yvc s i b t hL
  have hw := Yzd i s.size hi hs
  have hl : (acc.map fun b => (b.toNat : Int)).length < 140737488355328 := by rw [List.length_map]; omega
  have e : ∀ c : UInt8, ((b.toNat : Int) = (c.toNat : Int)) ↔ b = c := fun c => ⟨fun e => UInt8.toNat_inj.1 Zk, fun e => by rw [e]⟩
  have e9 : ((b.toNat : Int) = 9) ↔ b = 9 := e 9
  have e10 : ((b.toNat : Int) = 10) ↔ b = 10 := e 10
  have e13 : ((b.toNat : Int) = 13) ↔ b = 13 := e 13
  have step : ∀ k, Yq.l2 (k + 1) s (acc.map fun b => (b.toNat : Int)) (i : Int) = if Ygi b = true then Yq.l2 k s ((acc ++ [b]).map fun b => (b.toNat : Int)) ((i + 1 : Nat) : Int) else Yq.l2 k s (acc.map fun b => (b.toNat : Int)) ((i + 1 : Nat) : Int) := fun k => by
   rw [Yq.l2, if_pos Zk, if_pos Zk, hb, hw, if_pos hl, List.map_append, List.map_singleton]
   simp only [e9, e10, e13]
   unfold Ygi
   by_cases c1 : b = 9
   ·simp [c1]
   ·by_cases c2 : b = 10
    ·simp [c2]
    ·by_cases c3 : b = 13 <;> simp [c1, c2, c3]
  refine EvR.succ ?_
  by_cases hc : Ygi b = true
  ·rw [List.filter_cons_of_pos hc, show acc ++ b :: t.filter Ygi = (acc ++ [b]) ++ t.filter Ygi by simp]
   exact (ih (i + 1) (acc ++ [b]) ht Zk Zib).congr fun k => by rw [step k, if_pos hc]
  ·rw [List.filter_cons_of_neg hc]
   exact (ih (i + 1) acc ht Zk Zk).congr fun k => by rw [step k, if_neg hc]
def Yyk (l : List UInt8) : List UInt8 := (l.reverse.dropWhile Ymh).reverse
theorem Yas (l : List UInt8) (b : UInt8) : Yyk (l ++ [b]) = if Ymh b = true then Yyk l else l ++ [b] := by
 unfold Yyk
 rw [List.reverse_append, List.reverse_singleton, List.singleton_append]
 by_cases h : Ymh b = true
 ·rw [List.dropWhile_cons_of_pos h, if_pos h]
 ·rw [List.dropWhile_cons_of_neg h, if_neg h]; simp
theorem bt_last (l : List UInt8) (b : UInt8) : bt (ofL (l ++ [b])) (l.length : Int) = (b.toNat : Int) :=
 (Yvc (ofL (l ++ [b])) l.length b [] (by rw [Ygb]; simp)).2.1
theorem rclean_l1 : ∀ (n : Nat) (l : List UInt8), l.length ≤ n → l.length ≤ 100000000 → EvR (fun k => Yq.l1 k (ofL l)) (ofL ((Yyk l).filter Ygi)) := by
 have fin : ∀ l : List UInt8, l.length ≤ 100000000 → EvR (fun k => Yq.j3 k (ofL l)) (ofL (l.filter Ygi)) := fun l hl => by
  refine EvR.succ ((rclean_l2 (ofL l) (by rw [Yy]; exact hl) l 0 [] rfl Zk Zv).congr fun k => ?_)
  rw [Yq.j3]; rfl
 intro n
 induction n with
 | zero =>
  intro l hl hb
  obtain rfl : l = [] := List.eq_nil_of_length_eq_zero Zk
  refine EvR.succ ((fin [] Zv).congr fun k => ?_)
  rw [Yq.l1, if_neg (by rw [Yy]; simp)]
 | succ n ih =>
  intro l hl hb
  rcases List.eq_nil_or_concat l with rfl | ⟨ini, b, rfl⟩
  ·refine EvR.succ ((fin [] Zv).congr fun k => ?_)
   rw [Yq.l1, if_neg (by rw [Yy]; simp)]
  ·rw [List.concat_eq_append] at hl hb ⊢
   rw [List.length_append, List.length_singleton] at hl hb
   have hsz : ((ofL (ini ++ [b])).size : Int) = (ini.length : Int) + 1 := by rw [Yy, List.length_append, List.length_singleton]; omega
   have e1 : wrap64 (((ofL (ini ++ [b])).size : Int) - 1) = (ini.length : Int) := by rw [hsz]; unfold wrap64; omega
   have hx : (ofL (ini ++ [b])).extract 0 ((ini.length : Int)).toNat = ofL ini := by rw [Int.toNat_natCast, Yge, Ygb]; simp
   rw [Yas]
   refine EvR.succ ?_
   by_cases hlow : Ymh b = true
   ·have h32 : (b.toNat : Int) ≤ 32 := by unfold Ymh at hlow; have := Kq hlow; omega
    rw [if_pos hlow]
    refine (ih ini Zk Zk).congr fun k => ?_
    rw [Yq.l1, if_pos Zk, e1, if_pos Zk, if_pos Zk, bt_last, if_pos h32, if_pos Zk, hx]
   ·have h32 : ¬ (b.toNat : Int) ≤ 32 := by intro h; apply hlow; unfold Ymh; exact Kr Zk
    rw [if_neg hlow]
    refine (fin (ini ++ [b]) (by rw [List.length_append, List.length_singleton]; omega)).congr fun k => ?_
    rw [Yq.l1, if_pos Zk, e1, if_pos Zk, if_pos Zk, bt_last, if_neg h32]
theorem rclean_l0 : ∀ (l : List UInt8), l.length ≤ 100000000 → EvR (fun k => Yq.l0 k (ofL l)) (ofL ((Yyk (l.dropWhile Ymh)).filter Ygi)) := by
 have fin : ∀ l : List UInt8, l.length ≤ 100000000 → EvR (fun k => Yq.j1 k (ofL l)) (ofL ((Yyk l).filter Ygi)) := fun l hl => by
  refine EvR.succ ((rclean_l1 l.length l (Kw _) hl).congr fun k => ?_)
  rw [Yq.j1]
 intro l
 induction l with
 | nil =>
  intro hl
  refine EvR.succ ((fin [] Zv).congr fun k => ?_)
  rw [Yq.l0, if_neg (by rw [Yy]; simp)]
 | cons b t ih =>
  intro hl
  rw [List.length_cons] at hl
  obtain ⟨h1, hb, _⟩ := Yvc (ofL (b :: t)) 0 b t rfl
  have hx : (ofL (b :: t)).extract 1 (ofL (b :: t)).size = ofL t := by rw [Yuc, Ygb]; rfl
  refine EvR.succ ?_
  by_cases hlow : Ymh b = true
  ·have h32 : (b.toNat : Int) ≤ 32 := by unfold Ymh at hlow; have := Kq hlow; omega
   rw [List.dropWhile_cons_of_pos hlow]
   refine (ih Zk).congr fun k => ?_
   rw [Yq.l0, if_pos Zk, if_pos Zk, show (0 : Int) = ((0 : Nat) : Int) from rfl, hb, if_pos h32, if_pos Zk, hx]
  ·have h32 : ¬ (b.toNat : Int) ≤ 32 := by intro h; apply hlow; unfold Ymh; exact Kr Zk
   rw [List.dropWhile_cons_of_neg hlow]
   refine (fin (b :: t) (by rw [List.length_cons]; omega)).congr fun k => ?_
   rw [Yq.l0, if_pos Zk, if_pos Zk, show (0 : Int) = ((0 : Nat) : Int) from rfl, hb, if_neg h32]
theorem Yot (s : Y) (hs : s.size ≤ 100000000) : EvR (fun k => Yq.f k s) (ofL (Yqd s.data.toList)) := by
 rw [clean33_P]
 have h := rclean_l0 s.data.toList (by rw [← Lib.size_eq]; exact hs)
 rw [Yhi] at h
 exact h
theorem Yrv (s : Y) (hs : s.size ≤ 100000000) : ∀ (L : List UInt8) (i : Nat), s.data.toList.drop i = L → i ≤ s.size → 1 ≤ i →
  EvR (fun k => Yr.l0 k s (i : Int)) (if (L.dropWhile Ywb).head? = some 58 then ((i + (L.takeWhile Ywb).length + 1 : Nat) : Int) else 0) := by
 intro L
 induction L with
 | nil =>
  intro i hL hi h1
  have he := bt_end s i hL hi
  refine EvR.succ (EvR.of fun k => ?_)
  rw [Yr.l0, if_neg Zk, if_neg Zk, if_pos Zk]; rfl
 | cons b t ih =>
  intro i hL hi h1
  obtain ⟨kY, hb, ht⟩ := Yvc s i b t hL
  have hw := Yzd i s.size hi hs
  have hin := in_f b ⟨#[43, 45, 46]⟩ Zca
  have hgo := ih (i + 1) ht Zk Zk
  have e58 : ((b.toNat : Int) = 58) ↔ b = 58 := ⟨fun e => UInt8.toNat_inj.1 (by show b.toNat = 58; omega), fun e => by rw [e]; rfl⟩
  refine EvR.succ ?_
  by_cases hsc : Ywb b = true
  ·rw [List.dropWhile_cons_of_pos hsc, List.takeWhile_cons_of_pos hsc, List.length_cons, show i + ((t.takeWhile Ywb).length + 1) + 1 = i + 1 + (t.takeWhile Ywb).length + 1 by omega]
   by_cases c1 : Yyc b = true
   ·refine hgo.congr fun k => ?_
    rw [Yr.l0, if_pos Zk, if_pos Zk, hb, Ymi, Kfa, if_pos c1, hw]
   ·by_cases c2 : Ygd b = true
    ·refine hgo.congr fun k => ?_
     rw [Yr.l0, if_pos Zk, if_pos Zk, hb, Ymi, Kfa, if_neg c1, if_pos Zk, Yij, Kfa, if_pos c2, hw]
    ·have c3 : (⟨#[43, 45, 46]⟩ : Y).data.toList.contains b = true := by
      unfold Ywb at hsc
      rw [Bool.eq_false_iff.2 c1, Bool.eq_false_iff.2 c2, Bool.false_or, Bool.false_or] at hsc
      simpa using hsc
     rw [c3] at hin
     refine EvR.congr (f := fun k => (Yia.f k (b.toNat : Int) (⟨#[43, 45, 46]⟩ : Y)).bind fun vQ => if vQ = true then Yr.l0 k s ((i + 1 : Nat) : Int) else (if (i : Int) = 0 then some 0 else if (i : Int) = (s.size : Int) then some 0 else if (b.toNat : Int) = 58 then some ((i + 1 : Nat) : Int) else some 0)) ?_ (fun k => by
      rw [Yr.l0, if_pos Zk, if_pos Zk, hb, Ymi, Kfa, if_neg c1, if_pos Zk, Yij, Kfa, if_neg c2, hw])
     refine EvR.bind (g := fun k vQ => if vQ = true then Yr.l0 k s ((i + 1 : Nat) : Int) else (if (i : Int) = 0 then some 0 else if (i : Int) = (s.size : Int) then some 0 else if (b.toNat : Int) = 58 then some ((i + 1 : Nat) : Int) else some 0)) hin ?_
     exact hgo.congr fun k => by rw [if_pos rfl]
  ·have c1 : ¬ Yyc b = true := fun h => hsc (by unfold Ywb; rw [h]; rfl)
   have c2 : ¬ Ygd b = true := fun h => hsc (by unfold Ywb; rw [h]; simp)
   have c3 : (⟨#[43, 45, 46]⟩ : Y).data.toList.contains b = false := by
    rw [← Bool.not_eq_true]; intro h
    apply hsc
    unfold Ywb
    have : (b == 43 || (b == 45 || b == 46)) = true := by simpa using h
    rw [this]; simp
   rw [c3] at hin
   rw [List.dropWhile_cons_of_neg hsc, List.takeWhile_cons_of_neg hsc]
   refine EvR.congr (f := fun k => (Yia.f k (b.toNat : Int) (⟨#[43, 45, 46]⟩ : Y)).bind fun vQ => if vQ = true then Yr.l0 k s ((i + 1 : Nat) : Int) else (if (i : Int) = 0 then some 0 else if (i : Int) = (s.size : Int) then some 0 else if (b.toNat : Int) = 58 then some ((i + 1 : Nat) : Int) else some 0)) ?_ (fun k => by
    rw [Yr.l0, if_pos Zk, if_pos Zk, hb, Ymi, Kfa, if_neg c1, if_pos Zk, Yij, Kfa, if_neg c2, hw])
   refine EvR.bind (g := fun k vQ => if vQ = true then Yr.l0 k s ((i + 1 : Nat) : Int) else (if (i : Int) = 0 then some 0 else if (i : Int) = (s.size : Int) then some 0 else if (b.toNat : Int) = 58 then some ((i + 1 : Nat) : Int) else some 0)) hin (EvR.of fun k => ?_)
   rw [if_neg Zv, if_neg Zk, if_neg Zk]
   by_cases pC : b = 58
   ·rw [if_pos (e58.2 pC), if_pos (by rw [pC]; rfl)]; rfl
   ·rw [if_neg (fun e => pC (e58.1 e)), if_neg (by simpa using pC)]
theorem Yok (s : Y) (hs : s.size ≤ 100000000) : EvR (fun k => Yr.f k s) ((Yud s.data.toList : Nat) : Int) := by
 unfold Yr.f
 cases hL : s.data.toList with
 | nil =>
  have hz : s.size = 0 := by rw [Lib.size_eq, hL]; rfl
  refine EvR.succ (EvR.of fun k => ?_)
  rw [Yr.l0, if_neg Zk, if_pos rfl]; rfl
 | cons b t =>
  obtain ⟨kY, hb, ht⟩ := Yvc s 0 b t hL
  have hw : wrap64 ((0 : Int) + 1) = ((1 : Nat) : Int) := by unfold wrap64; omega
  refine EvR.succ ?_
  unfold Yud
  rw [List.headD_cons]
  by_cases c1 : Yyc b = true
  ·have hsc : Ywb b = true := by unfold Ywb; rw [c1]; rfl
   have hgo := Yrv s hs t 1 ht Zk Zk
   rw [List.dropWhile_cons_of_pos hsc, List.takeWhile_cons_of_pos hsc]
   have e : (((if Yyc b = true ∧ (t.dropWhile Ywb).head? = some 58 then (b :: t.takeWhile Ywb).length + 1 else 0 : Nat)) : Int) = (if (t.dropWhile Ywb).head? = some 58 then ((1 + (t.takeWhile Ywb).length + 1 : Nat) : Int) else 0) := by
    by_cases h : (t.dropWhile Ywb).head? = some 58
    ·rw [if_pos ⟨c1, h⟩, if_pos h, List.length_cons]; omega
    ·rw [if_neg (fun x => h x.2), if_neg h]; rfl
   rw [e]
   refine hgo.congr fun k => ?_
   rw [Yr.l0, if_pos Zk, if_pos Zk, show (0 : Int) = ((0 : Nat) : Int) from rfl, hb, Ymi, Kfa, if_pos c1]
   exact congrArg _ hw
  ·rw [if_neg (fun x => c1 x.1)]
   refine EvR.of fun k => ?_
   rw [Yr.l0, if_pos Zk, if_pos Zk, show (0 : Int) = ((0 : Nat) : Int) from rfl, hb, Ymi, Kfa, if_neg c1, if_neg Zk, if_pos rfl]
end Go.Proofs.YtnmglnglbdpjjaaGreatDoor.X
