/- What the document's small functions on texts compute, as plain functions of bytes. -/
import Derived.Test.YtnmglnglbdpjjaaGreatDoorUcRl
import Derived.Test.YtnmglnglbdpjjaaGreatDoorUcZm
import Derived.Test.YtnmglnglbdpjjaaGreatDoorUcX5
import Derived.Test.YtnmglnglbdpjjaaGreatDoorUcX6
import Derived.Test.YtnmglnglbdpjjaaGreatDoorUcX7
namespace Go.Proofs.YtnmglnglbdpjjaaGreatDoor.X
open Go.RowKit Go.Lib Go.Shelf Go.Yw.PrintWords Go.Yw.PrintLast Go.Yw.PrintMore
set_option linter.unusedVariables false
set_option linter.unusedSimpArgs false
theorem nat_ne {b c : UInt8} (h : b ≠ c) : ¬ (b.toNat : Int) = (c.toNat : Int) := fun e => h (UInt8.toNat_inj.1 (by omega))
theorem Ymh (b : UInt8) : Yr.f (b.toNat : Int) = some (Yxc b) := by
 revert b; exact Ykd (by decide +kernel)
theorem Yxg (b : UInt8) : Yka.f (b.toNat : Int) = some (Ypc b) := by
 revert b; exact Ykd (by decide +kernel)
theorem Yyg (b : UInt8) : Yua.f (b.toNat : Int) = some (Yfc b) := by
 revert b; exact Ykd (by decide +kernel)
theorem rplain_f (b : UInt8) : Yzc.f (b.toNat : Int) = some (Ypj b) := by
 revert b; exact Ykd (by decide +kernel)
theorem in_l0 (c : UInt8) (s : ByteArray) (hs : s.size ≤ 100000000) : ∀ (L : List UInt8) (i : Nat), s.data.toList.drop i = L → i ≤ s.size →
  EvR (fun k => Yx.l0 k (c.toNat : Int) s (i : Int)) (L.contains c) := by
 intro L
 induction L with
 | nil =>
  intro i hL hi
  have he := bt_end s i hL hi
  refine EvR.succ (EvR.of fun k => ?_)
  rw [Yx.l0, if_neg (by omega)]; rfl
 | cons b t ih =>
  intro i hL hi
  obtain ⟨hi2, hb, ht⟩ := Yoc s i b t hL
  have hw := Yfd i s.size hi hs
  refine EvR.succ ?_
  by_cases h : b = c
  ·subst h
   refine EvR.of fun k => ?_
   rw [Yx.l0, if_pos (by omega), if_pos (by omega), hb, if_pos rfl]; simp
  ·have e : (b :: t).contains c = t.contains c := by rw [List.contains_cons, beq_eq_false_iff_ne.2 (Ne.symm h), Bool.false_or]
   rw [e]
   refine (ih (i + 1) ht (by omega)).congr (fun k => ?_)
   rw [Yx.l0, if_pos (by omega), if_pos (by omega), hb, if_neg (nat_ne h), hw]
theorem in_f (c : UInt8) (s : ByteArray) (hs : s.size ≤ 100000000) : EvR (fun k => Yx.f k (c.toNat : Int) s) (s.data.toList.contains c) :=
 in_l0 c s hs s.data.toList 0 rfl (by omega)
theorem mark_f (b : UInt8) : EvR (fun k => Yq.f k (ofL [b]) ⟨#[]⟩) (ofL (Yue [] b)) := by
 have hb : bt (ofL [b]) 0 = (b.toNat : Int) := (Yoc (ofL [b]) 0 b [] rfl).2.1
 have hs : ((ofL [b]).size : Int) = 1 := rfl
 have hz : ((⟨#[]⟩ : ByteArray).size : Int) = 0 := rfl
 have hz2 : (⟨#[]⟩ : ByteArray).size = 0 := rfl
 have hw : wrap64 ((0 : Int) + 1) = 1 := by unfold wrap64; omega
 have he : (ofL [b]).extract (0 : Int).toNat (1 : Int).toNat = ofL [b] := by rw [Yxf]; rfl
 have hq : ∀ x : ByteArray, (⟨#[]⟩ : ByteArray) ++ x = x := fun x => Ype (by rw [ByteArray.data_append, Array.toList_append]; rfl)
 have fin : ∀ x : ByteArray, EvR (fun k => Yq.l0 k (ofL [b]) ⟨#[]⟩ x 1) x := fun x => by
  refine EvR.succ (EvR.of fun k => ?_)
  rw [Yq.l0, hs, if_neg (by omega)]
 unfold Yq.f Yue
 refine EvR.succ ?_
 refine EvR.congr (f := fun k => Yq.l1 k (ofL [b]) ⟨#[]⟩ ⟨#[]⟩ 0 (Ypj b) 0) ?_ (fun k => by rw [Yq.l0, hs, if_pos (by omega), if_pos (by omega), hb, rplain_f, Option.bind_some])
 refine EvR.succ ?_
 by_cases hp : Ypj b = true
 ·rw [hp]
  refine EvR.congr (fin (ofL [b])) (fun k => ?_)
  have hsz : (ofL [b]).size = 1 := rfl
  rw [Yq.l1, hz, if_neg (by omega), if_pos rfl, if_pos (by omega), hw, if_pos (by omega), hs, if_pos (by omega), he, hz2, hsz, if_pos (by omega), hq]
 ·have hp2 : Ypj b = false := by simpa using hp
  rw [hp2]
  have hm : Yic.f (b.toNat : Int) = some (ofL [37, hexB (b.toNat / 16), hexB (b.toNat % 16)]) := by
   unfold Yic.f
   have := b.toNat_lt
   rw [if_pos ⟨by omega, by omega⟩, Int.toNat_natCast]; rfl
  have hsz : (ofL [37, hexB (b.toNat / 16), hexB (b.toNat % 16)]).size = 3 := rfl
  refine EvR.congr (fin (ofL [37, hexB (b.toNat / 16), hexB (b.toNat % 16)])) (fun k => ?_)
  rw [Yq.l1, hz, if_neg (by omega), if_neg (by simp), if_pos (by omega), hs, if_pos (by omega), hb, hm, Option.bind_some, hz2, hsz, if_pos (by omega), hq, hw]
theorem marked_l0 (s more : ByteArray) (hs : s.size ≤ 100000000) (hm : more.size ≤ 1000) : ∀ (L : List UInt8) (i : Nat) (acc : List UInt8), s.data.toList.drop i = L → i ≤ s.size → acc.length ≤ 3 * i →
  EvR (fun k => Yn.l0 k s more (ofL acc) (i : Int)) (ofL (acc ++ Ysc (34 :: 60 :: 62 :: more.data.toList) L)) := by
 intro L
 induction L with
 | nil =>
  intro i acc hL hi ha
  have he := bt_end s i hL hi
  refine EvR.succ (EvR.of fun k => ?_)
  rw [Yn.l0, if_neg (by omega)]
  show some (ofL acc) = some (ofL (acc ++ []))
  rw [List.append_nil]
 | cons b t ih =>
  intro i acc hL hi ha
  obtain ⟨hi2, hb, ht⟩ := Yoc s i b t hL
  have hw := Yfd i s.size hi hs
  have hx : s.extract ((i : Int)).toNat (((i + 1 : Nat) : Int)).toNat = ofL [b] := by
   rw [Int.toNat_natCast, Int.toNat_natCast, Yxf, hL, show i + 1 - i = 1 by omega]; rfl
  have happ : ∀ x : List UInt8, ofL acc ++ ofL x = ofL (acc ++ x) := fun x => Ype (by rw [ByteArray.data_append, Array.toList_append]; rfl)
  have hml : (Yue [] b).length ≤ 3 := by unfold Yue; split <;> simp
  have hpl : Ysc (34 :: 60 :: 62 :: more.data.toList) (b :: t) = Yyh (34 :: 60 :: 62 :: more.data.toList) b ++ Ysc (34 :: 60 :: 62 :: more.data.toList) t := by unfold Ysc; rw [List.flatMap_cons]
  have h3 : (ofL acc).size + (ofL (Yue [] b)).size ≤ 9223372036854775807 := by rw [Yia, Yia]; omega
  have h4 : (ofL acc).size + (ofL [b]).size ≤ 9223372036854775807 := by rw [Yia, Yia]; simp only [List.length_cons, List.length_nil]; omega
  have hgo : EvR (fun k => Yn.l0 k s more (ofL (acc ++ Yue [] b)) ((i + 1 : Nat) : Int)) (ofL (acc ++ (Yue [] b ++ Ysc (34 :: 60 :: 62 :: more.data.toList) t))) := by
   rw [← List.append_assoc]
   exact ih (i + 1) (acc ++ Yue [] b) ht (by omega) (by rw [List.length_append]; omega)
  have hgo1 : EvR (fun k => Yn.l0 k s more (ofL (acc ++ [b])) ((i + 1 : Nat) : Int)) (ofL (acc ++ ([b] ++ Ysc (34 :: 60 :: 62 :: more.data.toList) t))) := by
   rw [← List.append_assoc]
   exact ih (i + 1) (acc ++ [b]) ht (by omega) (by rw [List.length_append]; simp only [List.length_cons, List.length_nil]; omega)
  have hmk : EvR (fun k => (Yq.f k (ofL [b]) ⟨#[]⟩).bind fun t154 => if (ofL acc).size + t154.size ≤ 9223372036854775807 then Yn.l0 k s more (ofL acc ++ t154) ((i + 1 : Nat) : Int) else none) (ofL (acc ++ (Yue [] b ++ Ysc (34 :: 60 :: 62 :: more.data.toList) t))) := by
   refine EvR.bind (g := fun k t154 => if (ofL acc).size + t154.size ≤ 9223372036854775807 then Yn.l0 k s more (ofL acc ++ t154) ((i + 1 : Nat) : Int) else none) (mark_f b) ?_
   refine hgo.congr fun k => ?_
   rw [if_pos h3, happ]
  rw [hpl]
  refine EvR.succ ?_
  unfold Yyh
  by_cases c1 : b.toNat ≤ 32
  ·rw [decide_eq_false (by omega), Bool.false_and, if_neg (by simp)]
   refine hmk.congr fun k => ?_
   rw [Yn.l0, if_pos (by omega), if_pos (by omega), hb, if_pos (by omega), hw, if_pos (by omega), if_pos (by omega), hx]
  ·rw [decide_eq_true (by omega), Bool.true_and]
   by_cases c2 : 126 < b.toNat
   ·rw [decide_eq_false (by omega), Bool.false_and, if_neg (by simp)]
    refine hmk.congr fun k => ?_
    rw [Yn.l0, if_pos (by omega), if_pos (by omega), hb, if_neg (by omega), if_pos (by omega), hw, if_pos (by omega), if_pos (by omega), hx]
   ·rw [decide_eq_true (by omega), Bool.true_and]
    have hcc : (34 :: 60 :: 62 :: more.data.toList : List UInt8).contains b = ((([34, 60, 62] : List UInt8).contains b) || more.data.toList.contains b) := by
     simp only [List.contains_cons, List.contains_nil, Bool.or_false, Bool.or_assoc]
    have i1 := in_f b ⟨#[34, 60, 62]⟩ (by decide)
    have i2 := in_f b more (by omega)
    have head : ∀ k, Yn.l0 (k + 1) s more (ofL acc) (i : Int) = (Yx.f k (b.toNat : Int) ⟨#[34, 60, 62]⟩).bind fun t156 => (if t156 = true then ((Yq.f k (ofL [b]) ⟨#[]⟩).bind fun t154 => if (ofL acc).size + t154.size ≤ 9223372036854775807 then Yn.l0 k s more (ofL acc ++ t154) ((i + 1 : Nat) : Int) else none) else ((Yx.f k (b.toNat : Int) more).bind fun t158 => (if t158 = true then ((Yq.f k (ofL [b]) ⟨#[]⟩).bind fun t154 => if (ofL acc).size + t154.size ≤ 9223372036854775807 then Yn.l0 k s more (ofL acc ++ t154) ((i + 1 : Nat) : Int) else none) else (if (ofL acc).size + (ofL [b]).size ≤ 9223372036854775807 then Yn.l0 k s more (ofL acc ++ ofL [b]) ((i + 1 : Nat) : Int) else none)))) := fun k => by
     rw [Yn.l0, if_pos (by omega), if_pos (by omega), hb, if_neg (by omega), if_neg (by omega), hw, if_pos (by omega), if_pos (by omega), if_pos (by omega), if_pos (by omega), hx]
    refine EvR.congr ?_ head
    refine EvR.bind (g := fun k t156 => if t156 = true then ((Yq.f k (ofL [b]) ⟨#[]⟩).bind fun t154 => if (ofL acc).size + t154.size ≤ 9223372036854775807 then Yn.l0 k s more (ofL acc ++ t154) ((i + 1 : Nat) : Int) else none) else ((Yx.f k (b.toNat : Int) more).bind fun t158 => (if t158 = true then ((Yq.f k (ofL [b]) ⟨#[]⟩).bind fun t154 => if (ofL acc).size + t154.size ≤ 9223372036854775807 then Yn.l0 k s more (ofL acc ++ t154) ((i + 1 : Nat) : Int) else none) else (if (ofL acc).size + (ofL [b]).size ≤ 9223372036854775807 then Yn.l0 k s more (ofL acc ++ ofL [b]) ((i + 1 : Nat) : Int) else none)))) i1 ?_
    rw [hcc]
    show EvR (fun k => if ([34, 60, 62] : List UInt8).contains b = true then _ else _) _
    cases d1 : ([34, 60, 62] : List UInt8).contains b with
    | true =>
     rw [Bool.true_or]
     exact hmk.congr fun k => by rw [if_pos rfl]
    | false =>
     rw [Bool.false_or]
     refine EvR.congr (f := fun k => (Yx.f k (b.toNat : Int) more).bind fun t158 => (if t158 = true then ((Yq.f k (ofL [b]) ⟨#[]⟩).bind fun t154 => if (ofL acc).size + t154.size ≤ 9223372036854775807 then Yn.l0 k s more (ofL acc ++ t154) ((i + 1 : Nat) : Int) else none) else (if (ofL acc).size + (ofL [b]).size ≤ 9223372036854775807 then Yn.l0 k s more (ofL acc ++ ofL [b]) ((i + 1 : Nat) : Int) else none))) ?_ (fun k => by rw [if_neg (by simp)])
     refine EvR.bind (g := fun k t158 => if t158 = true then ((Yq.f k (ofL [b]) ⟨#[]⟩).bind fun t154 => if (ofL acc).size + t154.size ≤ 9223372036854775807 then Yn.l0 k s more (ofL acc ++ t154) ((i + 1 : Nat) : Int) else none) else (if (ofL acc).size + (ofL [b]).size ≤ 9223372036854775807 then Yn.l0 k s more (ofL acc ++ ofL [b]) ((i + 1 : Nat) : Int) else none)) i2 ?_
     cases d2 : more.data.toList.contains b with
     | true => exact hmk.congr fun k => by rw [if_pos rfl]
     | false => exact hgo1.congr fun k => by rw [if_neg (by simp), if_pos h4, happ]
theorem Yfi (s more : ByteArray) (hs : s.size ≤ 100000000) (hm : more.size ≤ 1000) : EvR (fun k => Yn.f k s more) (ofL (Ysc (34 :: 60 :: 62 :: more.data.toList) s.data.toList)) :=
 marked_l0 s more hs hm s.data.toList 0 [] rfl (by omega) (by simp)
theorem Ygk (l : List UInt8) : strOfNums (l.map fun b => (b.toNat : Int)) = ofL l := by
 unfold strOfNums ofL
 rw [List.map_map]
 congr 2
 conv => rhs; rw [← List.map_id l]
 refine List.map_congr_left fun b _ => ?_
 simp
theorem low_val (b : UInt8) : (if (b.toNat : Int) ≥ 65 then (if (b.toNat : Int) ≤ 90 then ((b.toNat : Int) + 32) % 256 else (b.toNat : Int)) else (b.toNat : Int)) = ((lowB b).toNat : Int) := by
 revert b; exact Ykd (by decide +kernel)
theorem lower_l0 (s : ByteArray) (hs : s.size ≤ 100000000) : ∀ (L : List UInt8) (i : Nat) (acc : List UInt8), s.data.toList.drop i = L → i ≤ s.size → acc.length = i →
  EvR (fun k => Yca.l0 k s (acc.map fun b => (b.toNat : Int)) (i : Int)) (ofL (acc ++ lowL L)) := by
 intro L
 induction L with
 | nil =>
  intro i acc hL hi ha
  have he := bt_end s i hL hi
  refine EvR.succ (EvR.of fun k => ?_)
  rw [Yca.l0, if_neg (by omega), Ygk]
  show some (ofL acc) = some (ofL (acc ++ []))
  rw [List.append_nil]
 | cons b t ih =>
  intro i acc hL hi ha
  obtain ⟨hi2, hb, ht⟩ := Yoc s i b t hL
  have hw := Yfd i s.size hi hs
  have hl : (acc.map fun b => (b.toNat : Int)).length < 140737488355328 := by rw [List.length_map]; omega
  have hv := low_val b
  refine EvR.succ ?_
  have hgo := ih (i + 1) (acc ++ [lowB b]) ht (by omega) (by simp [ha])
  rw [show acc ++ lowL (b :: t) = (acc ++ [lowB b]) ++ lowL t by simp [lowL]]
  refine hgo.congr fun k => ?_
  rw [Yca.l0, if_pos (by omega), if_pos (by omega), hb, List.map_append, List.map_singleton, ← hv, hw, if_pos hl, if_pos hl]
  by_cases c1 : (b.toNat : Int) ≥ 65
  ·by_cases c2 : (b.toNat : Int) ≤ 90
   ·simp only [if_pos c1, if_pos c2]
   ·simp only [if_pos c1, if_neg c2]
  ·simp only [if_neg c1]
theorem Yfn (s : ByteArray) (hs : s.size ≤ 100000000) : EvR (fun k => Yca.f k s) (ofL (lowL s.data.toList)) :=
 lower_l0 s hs s.data.toList 0 [] rfl (by omega) rfl
theorem parts_l0 (s : ByteArray) (hs : s.size ≤ 100000000) : ∀ (L : List UInt8) (i : Nat) (ini : List (List UInt8)) (x : List UInt8), s.data.toList.drop i = L → i ≤ s.size → ini.length ≤ i → x.length ≤ i →
  EvR (fun k => Yw.l0 k s ((ini ++ [x]).map ofL) (i : Int)) ((ini ++ glue x (Yyd Yfc L)).map ofL) := by
 intro L
 induction L with
 | nil =>
  intro i ini x hL hi ha hxl
  have he := bt_end s i hL hi
  refine EvR.succ (EvR.of fun k => ?_)
  rw [Yw.l0, if_neg (by omega)]
  simp [Yyd, glue]
 | cons b t ih =>
  intro i ini x hL hi ha hxl
  obtain ⟨hi2, hb, ht⟩ := Yoc s i b t hL
  have hw := Yfd i s.size hi hs
  have hl : ((ini ++ [x]).map ofL).length = ini.length + 1 := by simp
  refine EvR.succ ?_
  rw [Yyd]
  by_cases hp : Yfc b = true
  ·rw [if_pos hp]
   have hgo := ih (i + 1) (ini ++ [x]) [] ht (by omega) (by simp; omega) (by simp)
   rw [Ybk] at hgo
   rw [show glue x ([] :: Yyd Yfc t) = x :: Yyd Yfc t by simp [glue], show ini ++ x :: Yyd Yfc t = (ini ++ [x]) ++ Yyd Yfc t by simp]
   refine hgo.congr fun k => ?_
   rw [Yw.l0, if_pos (by omega), if_pos (by omega), hb, Yyg, Option.bind_some, if_pos hp, if_pos (by omega), hw]
   simp [ofL]
  ·rw [if_neg hp, Yrm]
   have hgo := ih (i + 1) ini (x ++ [b]) ht (by omega) (by omega) (by simp; omega)
   refine hgo.congr fun k => ?_
   have e1 : wrap64 ((((ini ++ [x]).map ofL).length : Int) - 1) = (ini.length : Int) := by rw [hl]; unfold wrap64; omega
   have hx : s.extract ((i : Int)).toNat (((i + 1 : Nat) : Int)).toNat = ofL [b] := by
    rw [Int.toNat_natCast, Int.toNat_natCast, Yxf, hL, show i + 1 - i = 1 by omega]; rfl
   have hr : rdOf ByteArray.empty ((ini ++ [x]).map ofL) (ini.length : Int) = ofL x := by
    rw [Ytf _ _ (by simp)]; simp
   have happ : ofL x ++ ofL [b] = ofL (x ++ [b]) := Ype (by rw [ByteArray.data_append, Array.toList_append]; rfl)
   have hset : ((ini ++ [x]).map ofL).set ini.length (ofL (x ++ [b])) = (ini ++ [x ++ [b]]).map ofL := by
    rw [List.map_append, List.set_append_right (h := by simp)]; simp
   have hsz : (ofL x).size + (ofL [b]).size ≤ 9223372036854775807 := by rw [Yia, Yia]; simp only [List.length_cons, List.length_nil]; omega
   rw [Yw.l0, if_pos (by omega), if_pos (by omega), hb, Yyg, Option.bind_some, if_neg hp, e1, if_pos (by omega), if_pos (by omega), hw, if_pos (by omega), if_pos (by omega), hr, hx, if_pos hsz, happ, Int.toNat_natCast, hset]
theorem parts_f (s : ByteArray) (hs : s.size ≤ 100000000) : EvR (fun k => Yw.f k s) ((splitB 47 (Ytc s.data.toList)).map ofL) := by
 have h := parts_l0 s hs s.data.toList 0 [] [] rfl (by omega) (by simp) (by simp)
 rw [Ybk, Yyn] at h
 exact h
theorem rdots_f : ∀ (n : Nat) (s : ByteArray) (c : Nat), s.size ≤ n → c + s.size ≤ 100000000 →
  EvR (fun k => Yra.l0 k s (c : Int)) (match Yte s.data.toList with | none => (0 : Int) | some m => if c + m > 2 then 0 else ((c + m : Nat) : Int)) := by
 intro n
 induction n with
 | zero =>
  intro s c hn hc
  have h0 : s.data.toList = [] := List.eq_nil_of_length_eq_zero (by rw [← Lib.size_eq]; omega)
  refine EvR.succ (EvR.of fun k => ?_)
  rw [Yra.l0, if_neg (by omega), h0]
  show _ = some (if c + 0 > 2 then (0 : Int) else ((c + 0 : Nat) : Int))
  rw [Nat.add_zero]
  by_cases h2 : c > 2
  ·rw [if_pos (by omega), if_pos h2]
  ·rw [if_neg (by omega), if_neg h2]
 | succ n ih =>
  intro s c hn hc
  refine EvR.succ ?_
  have hsz := Lib.size_eq s
  cases hd : s.data.toList with
  | nil =>
   rw [hd] at hsz
   simp only [List.length_nil] at hsz
   refine EvR.of fun k => ?_
   rw [Yra.l0, if_neg (by omega)]
   show _ = some (if c + 0 > 2 then (0 : Int) else ((c + 0 : Nat) : Int))
   rw [Nat.add_zero]
   by_cases h2 : c > 2
   ·rw [if_pos (by omega), if_pos h2]
   ·rw [if_neg (by omega), if_neg h2]
  | cons b t =>
   rw [hd] at hsz
   simp only [List.length_cons] at hsz
   obtain ⟨_, hb, _⟩ := Yoc s 0 b t hd
   have hw : wrap64 ((c : Int) + 1) = ((c + 1 : Nat) : Int) := by unfold wrap64; omega
   have e46 : ((46 : UInt8).toNat : Int) = 46 := rfl
   by_cases h46 : b = 46
   ·subst h46
    have ht : s.extract 1 s.size = ofL t := by rw [Yjc, hd]; rfl
    have hgo := ih (ofL t) (c + 1) (by rw [Yia]; omega) (by rw [Yia]; omega)
    rw [Yzb] at hgo
    have e : (match Yte (46 :: t) with | none => (0 : Int) | some m => if c + m > 2 then 0 else ((c + m : Nat) : Int)) = (match Yte t with | none => (0 : Int) | some m => if c + 1 + m > 2 then 0 else ((c + 1 + m : Nat) : Int)) := by
     have hr : Yte (46 :: t) = (Yte t).map (· + 1) := by
      match t with
      | [] => rfl
      | [x] => by_cases hx : x = 46 <;> simp [Yte, hx]
      | x :: y :: z => rw [Yte, if_pos rfl]
     rw [hr]
     cases Yte t with
     | none => rfl
     | some m =>
      show (if c + (m + 1) > 2 then (0 : Int) else ((c + (m + 1) : Nat) : Int)) = _
      rw [show c + (m + 1) = c + 1 + m by omega]
    rw [e]
    refine hgo.congr fun k => ?_
    rw [Yra.l0, if_pos (by omega), if_pos (by omega), show (0 : Int) = ((0 : Nat) : Int) from rfl, hb, if_pos e46, if_pos (by omega), ht, hw]
   ·have hne : ¬ (b.toNat : Int) = 46 := fun e => h46 (UInt8.toNat_inj.1 (by show b.toNat = 46; omega))
    by_cases h3 : s.size > 2
    ·match t, hsz with
     | [], hsz => simp only [List.length_nil] at hsz; omega
     | [x], hsz => simp only [List.length_cons, List.length_nil] at hsz; omega
     | x :: y :: z, hsz =>
      simp only [List.length_cons] at hsz
      have hl := Yfn (s.extract 0 3) (by rw [ByteArray.size_extract]; omega)
      have he3 : (s.extract 0 3).data.toList = [b, x, y] := by rw [Yne, hd]; rfl
      rw [he3] at hl
      have hz : s.extract 3 s.size = ofL z := by rw [Yjc, hd]; rfl
      refine EvR.congr (f := fun k => (Yca.f k (s.extract 0 3)).bind fun t178 => if t178.toList = ([37, 50, 101] : List UInt8) then Yra.l0 k (ofL z) ((c + 1 : Nat) : Int) else some 0) ?_ (fun k => by
       rw [Yra.l0, if_pos (by omega), if_pos (by omega), show (0 : Int) = ((0 : Nat) : Int) from rfl, hb, if_neg hne, if_pos (by omega), if_pos (by omega), if_pos (by omega), hz, hw])
      refine EvR.bind (g := fun k t178 => if t178.toList = ([37, 50, 101] : List UInt8) then Yra.l0 k (ofL z) ((c + 1 : Nat) : Int) else some 0) hl ?_
      rw [Yte, if_neg h46]
      by_cases hp : b = 37 ∧ x = 50 ∧ lowB y = 101
      ·rw [if_pos hp]
       obtain ⟨rfl, rfl, hy⟩ := hp
       have hgo := ih (ofL z) (c + 1) (by rw [Yia]; omega) (by rw [Yia]; omega)
       rw [Yzb] at hgo
       have e : (match (Yte z).map (· + 1) with | none => (0 : Int) | some m => if c + m > 2 then 0 else ((c + m : Nat) : Int)) = (match Yte z with | none => (0 : Int) | some m => if c + 1 + m > 2 then 0 else ((c + 1 + m : Nat) : Int)) := by
        cases Yte z with
        | none => rfl
        | some m =>
         show (if c + (m + 1) > 2 then (0 : Int) else ((c + (m + 1) : Nat) : Int)) = _
         rw [show c + (m + 1) = c + 1 + m by omega]
       rw [e]
       refine hgo.congr fun k => ?_
       rw [Ycd, if_pos (by simp [lowL, hy]; decide)]
      ·rw [if_neg hp]
       refine EvR.of fun k => ?_
       rw [Ycd, if_neg]
       intro e
       apply hp
       simp only [lowL, List.map_cons, List.map_nil, List.cons.injEq, and_true] at e
       exact ⟨(low37 b).1 e.1, (low50 x).1 e.2.1, e.2.2⟩
    ·refine EvR.of fun k => ?_
     rw [Yra.l0, if_pos (by omega), if_pos (by omega), show (0 : Int) = ((0 : Nat) : Int) from rfl, hb, if_neg hne, if_neg (by omega)]
     match t, hsz with
     | [], hsz => rw [Yte, if_neg h46]
     | [x], hsz => rw [Yte, if_neg h46]
     | x :: y :: z, hsz => simp only [List.length_cons] at hsz; omega
theorem Yen (s : ByteArray) (hs : s.size ≤ 100000000) : EvR (fun k => Yra.f k s) ((Ypf s.data.toList : Nat) : Int) := by
 have h := rdots_f s.size s 0 (Nat.le_refl _) (by omega)
 have e : (match Yte s.data.toList with | none => (0 : Int) | some m => if 0 + m > 2 then 0 else ((0 + m : Nat) : Int)) = ((Ypf s.data.toList : Nat) : Int) := by
  rw [Yfo]
  cases Yte s.data.toList with
  | none => rfl
  | some m =>
   show (if 0 + m > 2 then (0 : Int) else ((0 + m : Nat) : Int)) = ((if m > 2 then 0 else m : Nat) : Int)
   rw [Nat.zero_add]
   split <;> rfl
 rw [e] at h
 exact h
theorem join_l0 (sep : List UInt8) (xs : List (List UInt8)) (hx : xs.length ≤ 100000000) : ∀ (L : List (List UInt8)) (i : Nat) (acc : List UInt8), xs.drop i = L → 1 ≤ i → i ≤ xs.length → acc.length + (Lib.joinTail sep L).length ≤ 1000000000000 →
  EvR (fun k => Yya.l0 k (ofL sep) (xs.map ofL) (ofL acc) (i : Int)) (ofL (acc ++ Lib.joinTail sep L)) := by
 intro L
 induction L with
 | nil =>
  intro i acc hL h1 hi ha
  have hlen : xs.length ≤ i := List.drop_eq_nil_iff.1 hL
  refine EvR.succ (EvR.of fun k => ?_)
  rw [Yya.l0, if_neg (by rw [List.length_map]; omega)]
  show some (ofL acc) = some (ofL (acc ++ []))
  rw [List.append_nil]
 | cons b t ih =>
  intro i acc hL h1 hi ha
  have hlt : i < xs.length := by
   have := congrArg List.length hL
   rw [List.length_drop] at this; simp only [List.length_cons] at this; omega
  have hdc := List.drop_eq_getElem_cons hlt
  rw [hL] at hdc
  have hb : xs[i] = b := (List.cons.inj hdc).1.symm
  have ht : xs.drop (i + 1) = t := (List.cons.inj hdc).2.symm
  have hw : wrap64 ((i : Int) + 1) = ((i + 1 : Nat) : Int) := by unfold wrap64; omega
  have hr : rdOf ByteArray.empty (xs.map ofL) (i : Int) = ofL b := by rw [Ytf _ _ hlt, List.getD_eq_getElem?_getD, List.getElem?_eq_getElem hlt, hb]; rfl
  have hj : Lib.joinTail sep (b :: t) = sep ++ (b ++ Lib.joinTail sep t) := by unfold Lib.joinTail; simp
  rw [hj] at ha ⊢
  simp only [List.length_append] at ha
  have happ : ∀ x y : List UInt8, ofL x ++ ofL y = ofL (x ++ y) := fun x y => Ype (by rw [ByteArray.data_append, Array.toList_append]; rfl)
  have hgo := ih (i + 1) (acc ++ sep ++ b) ht (by omega) (by omega) (by simp only [List.length_append]; omega)
  refine EvR.succ ?_
  rw [show acc ++ (sep ++ (b ++ Lib.joinTail sep t)) = (acc ++ sep ++ b) ++ Lib.joinTail sep t by simp]
  refine hgo.congr fun k => ?_
  rw [Yya.l0, if_pos (by rw [List.length_map]; omega), if_pos (by omega), if_pos (by rw [Yia, Yia]; omega), if_pos (by omega), hr, happ, if_pos (by rw [Yia, Yia, List.length_append]; omega), happ, hw]
theorem rjoin_f (sep : List UInt8) (xs : List (List UInt8)) (hx : xs.length ≤ 100000000) (hj : (Lib.join xs sep).length ≤ 1000000000000) : EvR (fun k => Yya.f k (ofL sep) (xs.map ofL)) (ofL (Lib.join xs sep)) := by
 unfold Yya.f
 cases xs with
 | nil =>
  refine EvR.succ (EvR.of fun k => ?_)
  rw [Yya.l0, if_neg (by simp)]; rfl
 | cons b t =>
  rw [Lib.join_cons] at hj ⊢
  have hgo := join_l0 sep (b :: t) hx t 1 b rfl (by omega) (by simp) (by rw [List.length_append] at hj; omega)
  refine EvR.succ (hgo.congr fun k => ?_)
  have hr : rdOf ByteArray.empty ((b :: t).map ofL) 0 = ofL b := by
   have := Ytf (b :: t) 0 (by simp)
   exact this
  have hq : (⟨#[]⟩ : ByteArray) ++ ofL b = ofL b := Ype (by rw [ByteArray.data_append, Array.toList_append]; rfl)
  have hz : (⟨#[]⟩ : ByteArray).size = 0 := rfl
  rw [List.length_append] at hj
  rw [Yya.l0, if_pos (by simp), if_neg (by omega), if_pos (by omega), hr, hz, if_pos (by rw [Yia]; omega), hq, show wrap64 ((0 : Int) + 1) = ((1 : Nat) : Int) by unfold wrap64; omega]
theorem until_l0 (s any : ByteArray) (hs : s.size ≤ 100000000) (ha : any.size ≤ 1000) : ∀ (L : List UInt8) (i : Nat), s.data.toList.drop i = L → i ≤ s.size →
  EvR (fun k => Yga.l0 k s any (i : Int)) ((i + (L.takeWhile (Yza any.data.toList)).length : Nat) : Int) := by
 intro L
 induction L with
 | nil =>
  intro i hL hi
  have he := bt_end s i hL hi
  refine EvR.succ (EvR.of fun k => ?_)
  rw [Yga.l0, if_neg (by omega)]; rfl
 | cons b t ih =>
  intro i hL hi
  obtain ⟨hi2, hb, ht⟩ := Yoc s i b t hL
  have hw := Yfd i s.size hi hs
  refine EvR.succ ?_
  refine EvR.congr (f := fun k => (Yx.f k (b.toNat : Int) any).bind fun t181 => if t181 = true then some (i : Int) else Yga.l0 k s any ((i + 1 : Nat) : Int)) ?_ (fun k => by rw [Yga.l0, if_pos (by omega), if_pos (by omega), hb, hw])
  refine EvR.bind (g := fun k t181 => if t181 = true then some (i : Int) else Yga.l0 k s any ((i + 1 : Nat) : Int)) (in_f b any (by omega)) ?_
  cases hc : any.data.toList.contains b with
  | true =>
   rw [List.takeWhile_cons_of_neg (by simp only [Yza, hc]; decide)]
   exact EvR.of fun k => by rw [if_pos rfl]; rfl
  | false =>
   rw [List.takeWhile_cons_of_pos (by simp only [Yza, hc]; decide)]
   refine EvR.congr (f := fun k => Yga.l0 k s any ((i + 1 : Nat) : Int)) ?_ (fun k => by rw [if_neg (by simp)])
   rw [show i + (b :: t.takeWhile (Yza any.data.toList)).length = i + 1 + (t.takeWhile (Yza any.data.toList)).length by simp only [List.length_cons]; omega]
   exact ih (i + 1) ht (by omega)
theorem Ydk (s any : ByteArray) (hs : s.size ≤ 100000000) (ha : any.size ≤ 1000) : EvR (fun k => Yga.f k s any) (((s.data.toList.takeWhile (Yza any.data.toList)).length : Nat) : Int) := by
 have h := until_l0 s any hs ha s.data.toList 0 rfl (by omega)
 rw [Nat.zero_add] at h
 exact h
end Go.Proofs.YtnmglnglbdpjjaaGreatDoor.X
