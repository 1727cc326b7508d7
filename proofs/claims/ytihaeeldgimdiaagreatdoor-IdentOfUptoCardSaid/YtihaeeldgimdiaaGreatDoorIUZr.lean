import Derived.Test.YtihaeeldgimdiaaGreatDoorIUX9
import Derived.Test.YtihaeeldgimdiaaGreatDoorIUX10
set_option linter.all false
namespace Go.Proofs.YtihaeeldgimdiaaGreatDoor.X
open Go.RowKit Go.Lib Go.Shelf Go.Yw.PrintWords Go.Yw.PrintLast Go.Yw.PrintMore
theorem nat_ne {b c : UInt8} (h : b ≠ c) : ¬ (b.toNat : Int) = (c.toNat : Int) := fun e => h (UInt8.toNat_inj.1 Zj)
theorem Yki (b : UInt8) : Yt.f (b.toNat : Int) = some (Ygd b) := by
 revert b; exact Yrd Zza
theorem Ywh (b : UInt8) : Yla.f (b.toNat : Int) = some (Yzc b) := by
 revert b; exact Yrd Zza
theorem Yai (b : UInt8) : Ywa.f (b.toNat : Int) = some (Ypc b) := by
 revert b; exact Yrd Zza
theorem rplain_f (b : UInt8) : Ykd.f (b.toNat : Int) = some (Ytk b) := by
 revert b; exact Yrd Zza
theorem in_l0 (c : UInt8) (s : Y) (hs : s.size ≤ 100000000) : ∀ (L : List UInt8) (i : Nat), s.data.toList.drop i = L → i ≤ s.size →
  EvR (fun k => Yz.l0 k (c.toNat : Int) s (i : Int)) (L.contains c) := by
 intro L
 induction L with
 | nil =>
  intro i hL hi
  have he := bt_end s i hL hi
  refine EvR.succ (EvR.of fun k => ?_)
  rw [Yz.l0, if_neg Zj]; rfl
 | cons b t ih =>
  intro i hL hi
  obtain ⟨mX, hb, ht⟩ := Yyc s i b t hL
  have hw := Yod i s.size hi hs
  refine EvR.succ ?_
  by_cases h : b = c
  ·subst h
   refine EvR.of fun k => ?_
   rw [Yz.l0, if_pos Zj, if_pos Zj, hb, if_pos rfl]; simp
  ·have e : (b :: t).contains c = t.contains c := by rw [List.contains_cons, beq_eq_false_iff_ne.2 (Ne.symm h), Bool.false_or]
   rw [e]
   refine (ih (i + 1) ht Zj).congr (fun k => ?_)
   rw [Yz.l0, if_pos Zj, if_pos Zj, hb, if_neg (nat_ne h), hw]
theorem in_f (c : UInt8) (s : Y) (hs : s.size ≤ 100000000) : EvR (fun k => Yz.f k (c.toNat : Int) s) (s.data.toList.contains c) :=
 in_l0 c s hs s.data.toList 0 rfl Zj
theorem mark_f (b : UInt8) : EvR (fun k => Yr.f k (ofL [b]) ⟨#[]⟩) (ofL (Ykf [] b)) := by
 have hb : bt (ofL [b]) 0 = (b.toNat : Int) := (Yyc (ofL [b]) 0 b [] rfl).2.1
 have hs : ((ofL [b]).size : Int) = 1 := rfl
 have hz : ((⟨#[]⟩ : Y).size : Int) = 0 := rfl
 have oP : (⟨#[]⟩ : Y).size = 0 := rfl
 have hw : wrap64 ((0 : Int) + 1) = 1 := by unfold wrap64; omega
 have he : (ofL [b]).extract (0 : Int).toNat (1 : Int).toNat = ofL [b] := by rw [Yog]; rfl
 have hq : ∀ x : Y, (⟨#[]⟩ : Y) ++ x = x := fun x => Ysf Zxa
 have fin : ∀ x : Y, EvR (fun k => Yr.l0 k (ofL [b]) ⟨#[]⟩ x 1) x := fun x => by
  refine EvR.succ (EvR.of fun k => ?_)
  rw [Yr.l0, hs, if_neg Zj]
 unfold Yr.f Ykf
 refine EvR.succ ?_
 refine EvR.congr (f := fun k => Yr.l1 k (ofL [b]) ⟨#[]⟩ ⟨#[]⟩ 0 (Ytk b) 0) ?_ (fun k => by rw [Yr.l0, hs, if_pos Zj, if_pos Zj, hb, rplain_f, Kba])
 refine EvR.succ ?_
 by_cases hp : Ytk b = true
 ·rw [hp]
  refine EvR.congr (fin (ofL [b])) (fun k => ?_)
  have hsz : (ofL [b]).size = 1 := rfl
  rw [Yr.l1, hz, if_neg Zj, if_pos rfl, if_pos Zj, hw, if_pos Zj, hs, if_pos Zj, he, oP, hsz, if_pos Zj, hq]
 ·have hp2 : Ytk b = false := by simpa using hp
  rw [hp2]
  have hm : Ysc.f (b.toNat : Int) = some (ofL [37, hexB (b.toNat / 16), hexB (b.toNat % 16)]) := by
   unfold Ysc.f
   have := b.toNat_lt
   rw [if_pos ⟨Zj, Zj⟩, Int.toNat_natCast]; rfl
  have hsz : (ofL [37, hexB (b.toNat / 16), hexB (b.toNat % 16)]).size = 3 := rfl
  refine EvR.congr (fin (ofL [37, hexB (b.toNat / 16), hexB (b.toNat % 16)])) (fun k => ?_)
  rw [Yr.l1, hz, if_neg Zj, if_neg Zq, if_pos Zj, hs, if_pos Zj, hb, hm, Kba, oP, hsz, if_pos Zj, hq, hw]
theorem marked_l0 (s more : Y) (hs : s.size ≤ 100000000) (hm : more.size ≤ 1000) : ∀ (L : List UInt8) (i : Nat) (acc : List UInt8), s.data.toList.drop i = L → i ≤ s.size → acc.length ≤ 3 * i →
  EvR (fun k => Yo.l0 k s more (ofL acc) (i : Int)) (ofL (acc ++ Ydd (34 :: 60 :: 62 :: more.data.toList) L)) := by
 intro L
 induction L with
 | nil =>
  intro i acc hL hi ha
  have he := bt_end s i hL hi
  refine EvR.succ (EvR.of fun k => ?_)
  rw [Yo.l0, if_neg Zj]
  show some (ofL acc) = some (ofL (acc ++ []))
  rw [List.append_nil]
 | cons b t ih =>
  intro i acc hL hi ha
  obtain ⟨mX, hb, ht⟩ := Yyc s i b t hL
  have hw := Yod i s.size hi hs
  have hx : s.extract ((i : Int)).toNat (((i + 1 : Nat) : Int)).toNat = ofL [b] := by
   rw [Int.toNat_natCast, Int.toNat_natCast, Yog, hL, show i + 1 - i = 1 by omega]; rfl
  have happ : ∀ x : List UInt8, ofL acc ++ ofL x = ofL (acc ++ x) := fun x => Ysf Zxa
  have hml : (Ykf [] b).length ≤ 3 := by unfold Ykf; split <;> simp
  have hpl : Ydd (34 :: 60 :: 62 :: more.data.toList) (b :: t) = Yzi (34 :: 60 :: 62 :: more.data.toList) b ++ Ydd (34 :: 60 :: 62 :: more.data.toList) t := by unfold Ydd; rw [List.flatMap_cons]
  have h3 : (ofL acc).size + (ofL (Ykf [] b)).size ≤ 9223372036854775807 := by rw [Yfa, Yfa]; omega
  have h4 : (ofL acc).size + (ofL [b]).size ≤ 9223372036854775807 := by rw [Yfa, Yfa]; simp only [List.length_cons, List.length_nil]; omega
  have hgo : EvR (fun k => Yo.l0 k s more (ofL (acc ++ Ykf [] b)) ((i + 1 : Nat) : Int)) (ofL (acc ++ (Ykf [] b ++ Ydd (34 :: 60 :: 62 :: more.data.toList) t))) := by
   rw [← List.append_assoc]
   exact ih (i + 1) (acc ++ Ykf [] b) ht Zj (by rw [List.length_append]; omega)
  have aYh : EvR (fun k => Yo.l0 k s more (ofL (acc ++ [b])) ((i + 1 : Nat) : Int)) (ofL (acc ++ ([b] ++ Ydd (34 :: 60 :: 62 :: more.data.toList) t))) := by
   rw [← List.append_assoc]
   exact ih (i + 1) (acc ++ [b]) ht Zj (by rw [List.length_append]; simp only [List.length_cons, List.length_nil]; omega)
  have hmk : EvR (fun k => (Yr.f k (ofL [b]) ⟨#[]⟩).bind fun gX => if (ofL acc).size + gX.size ≤ 9223372036854775807 then Yo.l0 k s more (ofL acc ++ gX) ((i + 1 : Nat) : Int) else none) (ofL (acc ++ (Ykf [] b ++ Ydd (34 :: 60 :: 62 :: more.data.toList) t))) := by
   refine EvR.bind (g := fun k gX => if (ofL acc).size + gX.size ≤ 9223372036854775807 then Yo.l0 k s more (ofL acc ++ gX) ((i + 1 : Nat) : Int) else none) (mark_f b) ?_
   refine hgo.congr fun k => ?_
   rw [if_pos h3, happ]
  rw [hpl]
  refine EvR.succ ?_
  unfold Yzi
  by_cases c1 : b.toNat ≤ 32
  ·rw [decide_eq_false Zj, Bool.false_and, if_neg Zq]
   refine hmk.congr fun k => ?_
   rw [Yo.l0, if_pos Zj, if_pos Zj, hb, if_pos Zj, hw, if_pos Zj, if_pos Zj, hx]
  ·rw [decide_eq_true Zj, Bool.true_and]
   by_cases c2 : 126 < b.toNat
   ·rw [decide_eq_false Zj, Bool.false_and, if_neg Zq]
    refine hmk.congr fun k => ?_
    rw [Yo.l0, if_pos Zj, if_pos Zj, hb, if_neg Zj, if_pos Zj, hw, if_pos Zj, if_pos Zj, hx]
   ·rw [decide_eq_true Zj, Bool.true_and]
    have hcc : (34 :: 60 :: 62 :: more.data.toList : List UInt8).contains b = ((([34, 60, 62] : List UInt8).contains b) || more.data.toList.contains b) := by
     simp only [List.contains_cons, List.contains_nil, Bool.or_false, Bool.or_assoc]
    have i1 := in_f b ⟨#[34, 60, 62]⟩ Zw
    have i2 := in_f b more Zj
    have head : ∀ k, Yo.l0 (k + 1) s more (ofL acc) (i : Int) = (Yz.f k (b.toNat : Int) ⟨#[34, 60, 62]⟩).bind fun uS => (if uS = true then ((Yr.f k (ofL [b]) ⟨#[]⟩).bind fun gX => if (ofL acc).size + gX.size ≤ 9223372036854775807 then Yo.l0 k s more (ofL acc ++ gX) ((i + 1 : Nat) : Int) else none) else ((Yz.f k (b.toNat : Int) more).bind fun wM => (if wM = true then ((Yr.f k (ofL [b]) ⟨#[]⟩).bind fun gX => if (ofL acc).size + gX.size ≤ 9223372036854775807 then Yo.l0 k s more (ofL acc ++ gX) ((i + 1 : Nat) : Int) else none) else (if (ofL acc).size + (ofL [b]).size ≤ 9223372036854775807 then Yo.l0 k s more (ofL acc ++ ofL [b]) ((i + 1 : Nat) : Int) else none)))) := fun k => by
     rw [Yo.l0, if_pos Zj, if_pos Zj, hb, if_neg Zj, if_neg Zj, hw, if_pos Zj, if_pos Zj, if_pos Zj, if_pos Zj, hx]
    refine EvR.congr ?_ head
    refine EvR.bind (g := fun k uS => if uS = true then ((Yr.f k (ofL [b]) ⟨#[]⟩).bind fun gX => if (ofL acc).size + gX.size ≤ 9223372036854775807 then Yo.l0 k s more (ofL acc ++ gX) ((i + 1 : Nat) : Int) else none) else ((Yz.f k (b.toNat : Int) more).bind fun wM => (if wM = true then ((Yr.f k (ofL [b]) ⟨#[]⟩).bind fun gX => if (ofL acc).size + gX.size ≤ 9223372036854775807 then Yo.l0 k s more (ofL acc ++ gX) ((i + 1 : Nat) : Int) else none) else (if (ofL acc).size + (ofL [b]).size ≤ 9223372036854775807 then Yo.l0 k s more (ofL acc ++ ofL [b]) ((i + 1 : Nat) : Int) else none)))) i1 ?_
    rw [hcc]
    show EvR (fun k => if ([34, 60, 62] : List UInt8).contains b = true then _ else _) _
    cases d1 : ([34, 60, 62] : List UInt8).contains b with
    | true =>
     rw [Bool.true_or]
     exact hmk.congr fun k => by rw [if_pos rfl]
    | false =>
     rw [Bool.false_or]
     refine EvR.congr (f := fun k => (Yz.f k (b.toNat : Int) more).bind fun wM => (if wM = true then ((Yr.f k (ofL [b]) ⟨#[]⟩).bind fun gX => if (ofL acc).size + gX.size ≤ 9223372036854775807 then Yo.l0 k s more (ofL acc ++ gX) ((i + 1 : Nat) : Int) else none) else (if (ofL acc).size + (ofL [b]).size ≤ 9223372036854775807 then Yo.l0 k s more (ofL acc ++ ofL [b]) ((i + 1 : Nat) : Int) else none))) ?_ (fun k => by rw [if_neg Zq])
     refine EvR.bind (g := fun k wM => if wM = true then ((Yr.f k (ofL [b]) ⟨#[]⟩).bind fun gX => if (ofL acc).size + gX.size ≤ 9223372036854775807 then Yo.l0 k s more (ofL acc ++ gX) ((i + 1 : Nat) : Int) else none) else (if (ofL acc).size + (ofL [b]).size ≤ 9223372036854775807 then Yo.l0 k s more (ofL acc ++ ofL [b]) ((i + 1 : Nat) : Int) else none)) i2 ?_
     cases d2 : more.data.toList.contains b with
     | true => exact hmk.congr fun k => by rw [if_pos rfl]
     | false => exact aYh.congr fun k => by rw [if_neg Zq, if_pos h4, happ]
theorem Ydj (s more : Y) (hs : s.size ≤ 100000000) (hm : more.size ≤ 1000) : EvR (fun k => Yo.f k s more) (ofL (Ydd (34 :: 60 :: 62 :: more.data.toList) s.data.toList)) :=
 marked_l0 s more hs hm s.data.toList 0 [] rfl Zj Zq
theorem Yql (l : List UInt8) : strOfNums (l.map fun b => (b.toNat : Int)) = ofL l := by
 unfold strOfNums ofL
 rw [List.map_map]
 congr 2
 conv => rhs; rw [← List.map_id l]
 refine List.map_congr_left fun b _ => ?_
 simp
theorem low_val (b : UInt8) : (if (b.toNat : Int) ≥ 65 then (if (b.toNat : Int) ≤ 90 then ((b.toNat : Int) + 32) % 256 else (b.toNat : Int)) else (b.toNat : Int)) = ((lowB b).toNat : Int) := by
 revert b; exact Yrd Zza
theorem lower_l0 (s : Y) (hs : s.size ≤ 100000000) : ∀ (L : List UInt8) (i : Nat) (acc : List UInt8), s.data.toList.drop i = L → i ≤ s.size → acc.length = i →
  EvR (fun k => Yda.l0 k s (acc.map fun b => (b.toNat : Int)) (i : Int)) (ofL (acc ++ lowL L)) := by
 intro L
 induction L with
 | nil =>
  intro i acc hL hi ha
  have he := bt_end s i hL hi
  refine EvR.succ (EvR.of fun k => ?_)
  rw [Yda.l0, if_neg Zj, Yql]
  show some (ofL acc) = some (ofL (acc ++ []))
  rw [List.append_nil]
 | cons b t ih =>
  intro i acc hL hi ha
  obtain ⟨mX, hb, ht⟩ := Yyc s i b t hL
  have hw := Yod i s.size hi hs
  have hl : (acc.map fun b => (b.toNat : Int)).length < 140737488355328 := by rw [List.length_map]; omega
  have hv := low_val b
  refine EvR.succ ?_
  have hgo := ih (i + 1) (acc ++ [lowB b]) ht Zj (by simp [ha])
  rw [show acc ++ lowL (b :: t) = (acc ++ [lowB b]) ++ lowL t by simp [lowL]]
  refine hgo.congr fun k => ?_
  rw [Yda.l0, if_pos Zj, if_pos Zj, hb, List.map_append, List.map_singleton, ← hv, hw, if_pos hl, if_pos hl]
  by_cases c1 : (b.toNat : Int) ≥ 65
  ·by_cases c2 : (b.toNat : Int) ≤ 90
   ·simp only [if_pos c1, if_pos c2]
   ·simp only [if_pos c1, if_neg c2]
  ·simp only [if_neg c1]
theorem Yiq (s : Y) (hs : s.size ≤ 100000000) : EvR (fun k => Yda.f k s) (ofL (lowL s.data.toList)) :=
 lower_l0 s hs s.data.toList 0 [] rfl Zj rfl
theorem parts_l0 (s : Y) (hs : s.size ≤ 100000000) : ∀ (L : List UInt8) (i : Nat) (ini : List (List UInt8)) (x : List UInt8), s.data.toList.drop i = L → i ≤ s.size → ini.length ≤ i → x.length ≤ i →
  EvR (fun k => Yx.l0 k s ((ini ++ [x]).map ofL) (i : Int)) ((ini ++ glue x (Yme Ypc L)).map ofL) := by
 intro L
 induction L with
 | nil =>
  intro i ini x hL hi ha hxl
  have he := bt_end s i hL hi
  refine EvR.succ (EvR.of fun k => ?_)
  rw [Yx.l0, if_neg Zj]
  simp [Yme, glue]
 | cons b t ih =>
  intro i ini x hL hi ha hxl
  obtain ⟨mX, hb, ht⟩ := Yyc s i b t hL
  have hw := Yod i s.size hi hs
  have hl : ((ini ++ [x]).map ofL).length = ini.length + 1 := by simp
  refine EvR.succ ?_
  rw [Yme]
  by_cases hp : Ypc b = true
  ·rw [if_pos hp]
   have hgo := ih (i + 1) (ini ++ [x]) [] ht Zj Zfb Zq
   rw [Yll] at hgo
   rw [show glue x ([] :: Yme Ypc t) = x :: Yme Ypc t by simp [glue], show ini ++ x :: Yme Ypc t = (ini ++ [x]) ++ Yme Ypc t by simp]
   refine hgo.congr fun k => ?_
   rw [Yx.l0, if_pos Zj, if_pos Zj, hb, Yai, Kba, if_pos hp, if_pos Zj, hw]
   simp [ofL]
  ·rw [if_neg hp, Ymp]
   have hgo := ih (i + 1) ini (x ++ [b]) ht Zj Zj Zfb
   refine hgo.congr fun k => ?_
   have e1 : wrap64 ((((ini ++ [x]).map ofL).length : Int) - 1) = (ini.length : Int) := by rw [hl]; unfold wrap64; omega
   have hx : s.extract ((i : Int)).toNat (((i + 1 : Nat) : Int)).toNat = ofL [b] := by
    rw [Int.toNat_natCast, Int.toNat_natCast, Yog, hL, show i + 1 - i = 1 by omega]; rfl
   have hr : rdOf ByteArray.empty ((ini ++ [x]).map ofL) (ini.length : Int) = ofL x := by
    rw [Ykg _ _ Zq]; simp
   have happ : ofL x ++ ofL [b] = ofL (x ++ [b]) := Ysf Zxa
   have hset : ((ini ++ [x]).map ofL).set ini.length (ofL (x ++ [b])) = (ini ++ [x ++ [b]]).map ofL := by
    rw [List.map_append, List.set_append_right (h := by simp)]; simp
   have hsz : (ofL x).size + (ofL [b]).size ≤ 9223372036854775807 := by rw [Yfa, Yfa]; simp only [List.length_cons, List.length_nil]; omega
   rw [Yx.l0, if_pos Zj, if_pos Zj, hb, Yai, Kba, if_neg hp, e1, if_pos Zj, if_pos Zj, hw, if_pos Zj, if_pos Zj, hr, hx, if_pos hsz, happ, Int.toNat_natCast, hset]
theorem parts_f (s : Y) (hs : s.size ≤ 100000000) : EvR (fun k => Yx.f k s) ((splitB 47 (Yed s.data.toList)).map ofL) := by
 have h := parts_l0 s hs s.data.toList 0 [] [] rfl Zj Zq Zq
 rw [Yll, Yfq] at h
 exact h
theorem rdots_f : ∀ (n : Nat) (s : Y) (c : Nat), s.size ≤ n → c + s.size ≤ 100000000 →
  EvR (fun k => Yua.l0 k s (c : Int)) (match Yjf s.data.toList with | none => (0 : Int) | some m => if c + m > 2 then 0 else ((c + m : Nat) : Int)) := by
 intro n
 induction n with
 | zero =>
  intro s c hn hc
  have h0 : s.data.toList = [] := List.eq_nil_of_length_eq_zero Zdb
  refine EvR.succ (EvR.of fun k => ?_)
  rw [Yua.l0, if_neg Zj, h0]
  show _ = some (if c + 0 > 2 then (0 : Int) else ((c + 0 : Nat) : Int))
  rw [Nat.add_zero]
  by_cases h2 : c > 2
  ·rw [if_pos Zj, if_pos h2]
  ·rw [if_neg Zj, if_neg h2]
 | succ n ih =>
  intro s c hn hc
  refine EvR.succ ?_
  have hsz := Lib.size_eq s
  cases hd : s.data.toList with
  | nil =>
   rw [hd] at hsz
   simp only [List.length_nil] at hsz
   refine EvR.of fun k => ?_
   rw [Yua.l0, if_neg Zj]
   show _ = some (if c + 0 > 2 then (0 : Int) else ((c + 0 : Nat) : Int))
   rw [Nat.add_zero]
   by_cases h2 : c > 2
   ·rw [if_pos Zj, if_pos h2]
   ·rw [if_neg Zj, if_neg h2]
  | cons b t =>
   rw [hd] at hsz
   simp only [List.length_cons] at hsz
   obtain ⟨_, hb, _⟩ := Yyc s 0 b t hd
   have hw : wrap64 ((c : Int) + 1) = ((c + 1 : Nat) : Int) := by unfold wrap64; omega
   have e46 : ((46 : UInt8).toNat : Int) = 46 := rfl
   by_cases h46 : b = 46
   ·subst h46
    have ht : s.extract 1 s.size = ofL t := by rw [Ytc, hd]; rfl
    have hgo := ih (ofL t) (c + 1) Zha Zha
    rw [Ytb] at hgo
    have e : (match Yjf (46 :: t) with | none => (0 : Int) | some m => if c + m > 2 then 0 else ((c + m : Nat) : Int)) = (match Yjf t with | none => (0 : Int) | some m => if c + 1 + m > 2 then 0 else ((c + 1 + m : Nat) : Int)) := by
     have hr : Yjf (46 :: t) = (Yjf t).map (· + 1) := by
      match t with
      | [] => rfl
      | [x] => by_cases hx : x = 46 <;> simp [Yjf, hx]
      | x :: y :: z => rw [Yjf, if_pos rfl]
     rw [hr]
     cases Yjf t with
     | none => rfl
     | some m =>
      show (if c + (m + 1) > 2 then (0 : Int) else ((c + (m + 1) : Nat) : Int)) = _
      rw [show c + (m + 1) = c + 1 + m by omega]
    rw [e]
    refine hgo.congr fun k => ?_
    rw [Yua.l0, if_pos Zj, if_pos Zj, show (0 : Int) = ((0 : Nat) : Int) from rfl, hb, if_pos e46, if_pos Zj, ht, hw]
   ·have hne : ¬ (b.toNat : Int) = 46 := fun e => h46 (UInt8.toNat_inj.1 (by show b.toNat = 46; omega))
    by_cases h3 : s.size > 2
    ·match t, hsz with
     | [], hsz => simp only [List.length_nil] at hsz; omega
     | [x], hsz => simp only [List.length_cons, List.length_nil] at hsz; omega
     | x :: y :: z, hsz =>
      simp only [List.length_cons] at hsz
      have hl := Yiq (s.extract 0 3) Zoa
      have he3 : (s.extract 0 3).data.toList = [b, x, y] := by rw [Yxe, hd]; rfl
      rw [he3] at hl
      have hz : s.extract 3 s.size = ofL z := by rw [Ytc, hd]; rfl
      refine EvR.congr (f := fun k => (Yda.f k (s.extract 0 3)).bind fun wB => if wB.toList = ([37, 50, 101] : List UInt8) then Yua.l0 k (ofL z) ((c + 1 : Nat) : Int) else some 0) ?_ (fun k => by
       rw [Yua.l0, if_pos Zj, if_pos Zj, show (0 : Int) = ((0 : Nat) : Int) from rfl, hb, if_neg hne, if_pos Zj, if_pos Zj, if_pos Zj, hz, hw])
      refine EvR.bind (g := fun k wB => if wB.toList = ([37, 50, 101] : List UInt8) then Yua.l0 k (ofL z) ((c + 1 : Nat) : Int) else some 0) hl ?_
      rw [Yjf, if_neg h46]
      by_cases hp : b = 37 ∧ x = 50 ∧ lowB y = 101
      ·rw [if_pos hp]
       obtain ⟨rfl, rfl, hy⟩ := hp
       have hgo := ih (ofL z) (c + 1) Zha Zha
       rw [Ytb] at hgo
       have e : (match (Yjf z).map (· + 1) with | none => (0 : Int) | some m => if c + m > 2 then 0 else ((c + m : Nat) : Int)) = (match Yjf z with | none => (0 : Int) | some m => if c + 1 + m > 2 then 0 else ((c + 1 + m : Nat) : Int)) := by
        cases Yjf z with
        | none => rfl
        | some m =>
         show (if c + (m + 1) > 2 then (0 : Int) else ((c + (m + 1) : Nat) : Int)) = _
         rw [show c + (m + 1) = c + 1 + m by omega]
       rw [e]
       refine hgo.congr fun k => ?_
       rw [Yjd, if_pos (by simp [lowL, hy]; decide)]
      ·rw [if_neg hp]
       refine EvR.of fun k => ?_
       rw [Yjd, if_neg]
       intro e
       apply hp
       simp only [lowL, List.map_cons, List.map_nil, List.cons.injEq, and_true] at e
       exact ⟨(low37 b).1 e.1, (low50 x).1 e.2.1, e.2.2⟩
    ·refine EvR.of fun k => ?_
     rw [Yua.l0, if_pos Zj, if_pos Zj, show (0 : Int) = ((0 : Nat) : Int) from rfl, hb, if_neg hne, if_neg Zj]
     match t, hsz with
     | [], hsz => rw [Yjf, if_neg h46]
     | [x], hsz => rw [Yjf, if_neg h46]
     | x :: y :: z, hsz => simp only [List.length_cons] at hsz; omega
theorem Yep (s : Y) (hs : s.size ≤ 100000000) : EvR (fun k => Yua.f k s) ((Yjg s.data.toList : Nat) : Int) := by
 have h := rdots_f s.size s 0 (Ks _) Zj
 have e : (match Yjf s.data.toList with | none => (0 : Int) | some m => if 0 + m > 2 then 0 else ((0 + m : Nat) : Int)) = ((Yjg s.data.toList : Nat) : Int) := by
  rw [Yqq]
  cases Yjf s.data.toList with
  | none => rfl
  | some m =>
   show (if 0 + m > 2 then (0 : Int) else ((0 + m : Nat) : Int)) = ((if m > 2 then 0 else m : Nat) : Int)
   rw [Nat.zero_add]
   split <;> rfl
 rw [e] at h
 exact h
theorem join_l0 (sep : List UInt8) (xs : List (List UInt8)) (hx : xs.length ≤ 100000000) : ∀ (L : List (List UInt8)) (i : Nat) (acc : List UInt8), xs.drop i = L → 1 ≤ i → i ≤ xs.length → acc.length + (Lib.joinTail sep L).length ≤ 1000000000000 →
  EvR (fun k => Yya.l0 k (ofL sep) (xs.map ofL) (ofL acc) (i : Int)) (ofL (acc ++ Lib.joinTail sep L)) := by
 intro L
 induction L with
 | nil =>
  intro i acc hL h1 hi ha
  have hlen : xs.length ≤ i := List.drop_eq_nil_iff.1 hL
  refine EvR.succ (EvR.of fun k => ?_)
  rw [Yya.l0, if_neg Zmb]
  show some (ofL acc) = some (ofL (acc ++ []))
  rw [List.append_nil]
 | cons b t ih =>
  intro i acc hL h1 hi ha
  have hlt : i < xs.length := by
   have := congrArg List.length hL
   rw [List.length_drop] at this; simp only [List.length_cons] at this; omega
  have hdc := List.drop_eq_getElem_cons hlt
  rw [hL] at hdc
  have hb : xs[i] = b := (List.cons.inj hdc).1.symm
  have ht : xs.drop (i + 1) = t := (List.cons.inj hdc).2.symm
  have hw : wrap64 ((i : Int) + 1) = ((i + 1 : Nat) : Int) := by unfold wrap64; omega
  have hr : rdOf ByteArray.empty (xs.map ofL) (i : Int) = ofL b := by rw [Ykg _ _ hlt, List.getD_eq_getElem?_getD, List.getElem?_eq_getElem hlt, hb]; rfl
  have hj : Lib.joinTail sep (b :: t) = sep ++ (b ++ Lib.joinTail sep t) := by unfold Lib.joinTail; simp
  rw [hj] at ha ⊢
  simp only [List.length_append] at ha
  have happ : ∀ x y : List UInt8, ofL x ++ ofL y = ofL (x ++ y) := fun x y => Ysf Zxa
  have hgo := ih (i + 1) (acc ++ sep ++ b) ht Zj Zj (by simp only [List.length_append]; omega)
  refine EvR.succ ?_
  rw [show acc ++ (sep ++ (b ++ Lib.joinTail sep t)) = (acc ++ sep ++ b) ++ Lib.joinTail sep t by simp]
  refine hgo.congr fun k => ?_
  rw [Yya.l0, if_pos Zmb, if_pos Zj, if_pos (by rw [Yfa, Yfa]; omega), if_pos Zj, hr, happ, if_pos (by rw [Yfa, Yfa, List.length_append]; omega), happ, hw]
theorem rjoin_f (sep : List UInt8) (xs : List (List UInt8)) (hx : xs.length ≤ 100000000) (hj : (Lib.join xs sep).length ≤ 1000000000000) : EvR (fun k => Yya.f k (ofL sep) (xs.map ofL)) (ofL (Lib.join xs sep)) := by
 unfold Yya.f
 cases xs with
 | nil =>
  refine EvR.succ (EvR.of fun k => ?_)
  rw [Yya.l0, if_neg Zq]; rfl
 | cons b t =>
  rw [Lib.join_cons] at hj ⊢
  have hgo := join_l0 sep (b :: t) hx t 1 b rfl Zj Zq (by rw [List.length_append] at hj; omega)
  refine EvR.succ (hgo.congr fun k => ?_)
  have hr : rdOf ByteArray.empty ((b :: t).map ofL) 0 = ofL b := by
   have := Ykg (b :: t) 0 Zq
   exact this
  have hq : (⟨#[]⟩ : Y) ++ ofL b = ofL b := Ysf Zxa
  have hz : (⟨#[]⟩ : Y).size = 0 := rfl
  rw [List.length_append] at hj
  rw [Yya.l0, if_pos Zq, if_neg Zj, if_pos Zj, hr, hz, if_pos Zha, hq, show wrap64 ((0 : Int) + 1) = ((1 : Nat) : Int) by unfold wrap64; omega]
theorem until_l0 (s any : Y) (hs : s.size ≤ 100000000) (ha : any.size ≤ 1000) : ∀ (L : List UInt8) (i : Nat), s.data.toList.drop i = L → i ≤ s.size →
  EvR (fun k => Yia.l0 k s any (i : Int)) ((i + (L.takeWhile (Yza any.data.toList)).length : Nat) : Int) := by
 intro L
 induction L with
 | nil =>
  intro i hL hi
  have he := bt_end s i hL hi
  refine EvR.succ (EvR.of fun k => ?_)
  rw [Yia.l0, if_neg Zj]; rfl
 | cons b t ih =>
  intro i hL hi
  obtain ⟨mX, hb, ht⟩ := Yyc s i b t hL
  have hw := Yod i s.size hi hs
  refine EvR.succ ?_
  refine EvR.congr (f := fun k => (Yz.f k (b.toNat : Int) any).bind fun aGS => if aGS = true then some (i : Int) else Yia.l0 k s any ((i + 1 : Nat) : Int)) ?_ (fun k => by rw [Yia.l0, if_pos Zj, if_pos Zj, hb, hw])
  refine EvR.bind (g := fun k aGS => if aGS = true then some (i : Int) else Yia.l0 k s any ((i + 1 : Nat) : Int)) (in_f b any Zj) ?_
  cases hc : any.data.toList.contains b with
  | true =>
   rw [List.takeWhile_cons_of_neg (by simp only [Yza, hc]; decide)]
   exact EvR.of fun k => by rw [if_pos rfl]; rfl
  | false =>
   rw [List.takeWhile_cons_of_pos (by simp only [Yza, hc]; decide)]
   refine EvR.congr (f := fun k => Yia.l0 k s any ((i + 1 : Nat) : Int)) ?_ (fun k => by rw [if_neg Zq])
   rw [show i + (b :: t.takeWhile (Yza any.data.toList)).length = i + 1 + (t.takeWhile (Yza any.data.toList)).length by simp only [List.length_cons]; omega]
   exact ih (i + 1) ht Zj
theorem Yvl (s any : Y) (hs : s.size ≤ 100000000) (ha : any.size ≤ 1000) : EvR (fun k => Yia.f k s any) (((s.data.toList.takeWhile (Yza any.data.toList)).length : Nat) : Int) := by
 have h := until_l0 s any hs ha s.data.toList 0 rfl Zj
 rw [Nat.zero_add] at h
 exact h
end Go.Proofs.YtihaeeldgimdiaaGreatDoor.X
