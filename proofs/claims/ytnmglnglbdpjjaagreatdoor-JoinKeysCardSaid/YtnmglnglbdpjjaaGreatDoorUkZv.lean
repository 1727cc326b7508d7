/- The document's Parse, told in its own order, is the program's. -/
import Derived.Test.YtnmglnglbdpjjaaGreatDoorUkWords
import Derived.Test.YtnmglnglbdpjjaaGreatDoorUkZl
namespace Go.Proofs.YtnmglnglbdpjjaaGreatDoor.X
open Go.RowKit Go.Lib Go.Shelf Go.Yw.PrintWords Go.Yw.PrintLast Go.Yw.PrintMore
set_option linter.unusedVariables false
set_option linter.unusedSimpArgs false
theorem rstring_f (a0 a1 : ByteArray) (p : Int) (a3 a4 a5 : ByteArray) (q f : Bool) (h0 : a0.size ≤ 1000000000000) (h1 : a1.size ≤ 1000000000000) (h3 : a3.size ≤ 1000000000000) (h4 : a4.size ≤ 1000000000000) (h5 : a5.size ≤ 1000000000000) (hp : 0 ≤ p) (hp2 : p < 1000000000000000000) :
  EvR (fun k => Yo.f k a0 a1 p a3 a4 a5 q f) (Ype a0 a1 p a3 a4 a5 q f) := by
 have hs := Yzl a0 a1 p
 have fin : ∀ o : ByteArray, o.size ≤ a0.size + a1.size + 24 → EvR (fun k => Yo.j0 k o a0 a1 p a3 a4 a5 q f) (Yvi (Yei (o ++ a3) a4 q) a5 f) := by
  intro o ho
  refine EvR.succ (EvR.of fun k => ?_)
  rw [Yo.j0, if_pos Zl]
  cases q with
  | true =>
   rw [if_pos rfl, if_pos Zl, if_pos Zrb]
   cases f with
   | true => rw [if_pos rfl, if_pos Zl, if_pos Zpb]; rfl
   | false => rw [if_neg Zv]; rfl
  | false =>
   rw [if_neg Zv]
   cases f with
   | true => rw [if_pos rfl, if_pos Zl, if_pos Zsb]; rfl
   | false => rw [if_neg Zv]; rfl
 have c1 : a0.size + 3 ≤ 9223372036854775807 := by omega
 have c2 : (a0 ++ (⟨#[58, 47, 47]⟩ : ByteArray)).size + a1.size ≤ 9223372036854775807 := by simp only [ByteArray.size_append, Ydi]; omega
 unfold Yo.f Ype
 simp only [if_pos c1, if_pos c2]
 by_cases hz : p = 0
 ·have e : Yie a0 a1 p = (a0 ++ (⟨#[58, 47, 47]⟩ : ByteArray)) ++ a1 := by unfold Yie; rw [if_pos hz]
  rw [e] at hs ⊢
  simp only [if_pos hz]
  exact fin _ hs
 ·have e : Yie a0 a1 p = ((a0 ++ (⟨#[58, 47, 47]⟩ : ByteArray)) ++ a1) ++ ((⟨#[58]⟩ : ByteArray) ++ strOfNums (Yxf p.toNat)) := by unfold Yie; rw [if_neg hz]
  rw [e] at hs ⊢
  simp only [if_neg hz]
  have ht := Ymr p Zl Zl
  have hzz : Yri p = Yxf p.toNat := by unfold Yri; rw [if_neg Zl]
  rw [hzz] at ht
  have htl := Yig p.toNat
  refine EvR.bind (g := fun k wW => if 1 + wW.size ≤ 9223372036854775807 then (if ((a0 ++ (⟨#[58, 47, 47]⟩ : ByteArray)) ++ a1).size + ((⟨#[58]⟩ : ByteArray) ++ wW).size ≤ 9223372036854775807 then Yo.j0 k (((a0 ++ (⟨#[58, 47, 47]⟩ : ByteArray)) ++ a1) ++ ((⟨#[58]⟩ : ByteArray) ++ wW)) a0 a1 p a3 a4 a5 q f else none) else none) ht ?_
  refine (fin _ hs).congr fun k => ?_
  rw [if_pos Zxb, if_pos Zjb]
def refL (sch : ByteArray) (s : List UInt8) : UrlE :=
 if (Ypi sch (s.takeWhile (Ybb [47, 92, 63, 35]))).2.2.2 = 0 then Yjq sch (Ypi sch (s.takeWhile (Ybb [47, 92, 63, 35]))).2.1 (Ypi sch (s.takeWhile (Ybb [47, 92, 63, 35]))).2.2.1 (s.dropWhile (Ybb [47, 92, 63, 35]))
 else Yec (Ypi sch (s.takeWhile (Ybb [47, 92, 63, 35]))).2.2.2
def refS (sch : ByteArray) (s : List UInt8) : UrlE := if Yrb (s.headD 0) = true then refL sch (s.dropWhile Yrb) else Yec 3
def refP (c : List UInt8) : UrlE :=
 if (c.length : Int) > 2048 then Yec 5 else if Ygf c = 0 then Yec 3 else
  if lowL (c.take (Ygf c - 1)) = Ykh ∨ lowL (c.take (Ygf c - 1)) = Yfg then refS (ofL (lowL (c.take (Ygf c - 1)))) (c.drop (Ygf c)) else Yec 16
theorem Ybl (l : List UInt8) : Lib.indexAny l [47, 92] = 0 ↔ Yrb (l.headD 0) = true := by
 cases l with
 | nil => simp [Lib.indexAny, Yrb]
 | cons b t =>
  have hge := Lib.indexAny_ge [47, 92] t
  rw [Lib.indexAny, List.headD_cons]
  have e : ([47, 92] : List UInt8).contains b = Yrb b := by simp [Yrb]; rfl
  rw [e]
  cases Yrb b with
  | true => simp
  | false =>
   simp only [Bool.false_eq_true, if_false, iff_false]
   split
   ·omega
   ·next h =>
    have : Lib.indexAny t [47, 92] ≠ -1 := fun e => h (by rw [e]; rfl)
    omega
theorem Ycl (c : UInt8) (l : List UInt8) : Lib.indexByte l c ≥ 0 ↔ l.contains c = true := by
 by_cases h : c ∈ l
 ·obtain ⟨a, b, rfl, hn⟩ := Ywm c l h
  rw [byteAt c a b hn]
  simp
 ·rw [byteNot c l h]
  simp [h]
theorem notIn_fun (c : UInt8) : Ybb [c] = (· != c) := funext fun b => Ynm c b
theorem place_ref (sch : ByteArray) (s : List UInt8) (hs : Yrb (s.headD 0) = true) : Yrm sch (Ysf s sch.data.toList ⟨#[]⟩ 0) = refL sch (s.dropWhile Yrb) := by
 have hdrop : Lib.trimLeftS s [47, 92] = s.dropWhile Yrb := by
  unfold Lib.trimLeftS
  congr 1
  funext b
  simp [Yrb]; rfl
 unfold Ysf
 rw [if_pos ((Ybl s).2 hs)]
 unfold Ytb Yzf
 rw [hdrop, cut_one]
 generalize s.dropWhile Yrb = s'
 unfold refL Ypi
 rw [notIn_fun 58]
 generalize hh : s'.takeWhile (Ybb [47, 92, 63, 35]) = h
 generalize hr : s'.dropWhile (Ybb [47, 92, 63, 35]) = r
 by_cases c1 : h.contains 64 = true
 ·rw [if_pos ((Ycl 64 h).2 c1), if_pos c1]; rfl
 ·rw [if_neg (fun e => c1 ((Ycl 64 h).1 e)), if_neg c1]
  by_cases c2 : (Ykf (h.takeWhile (· != 58))).2 = 0
  ·rw [if_pos c2, if_pos c2]
   by_cases c3 : (h.dropWhile (· != 58)).drop 1 = []
   ·rw [if_pos c3, if_pos c3]; rfl
   ·rw [if_neg c3, if_neg c3]
    by_cases c4 : (numL 65535 ((h.dropWhile (· != 58)).drop 1)).2 = 0
    ·rw [if_pos c4, if_pos c4]
     by_cases c5 : (numL 65535 ((h.dropWhile (· != 58)).drop 1)).1 = ownN sch.data.toList
     ·rw [if_pos c5, if_pos c5]; rfl
     ·rw [if_neg c5, if_neg c5]; rfl
    ·rw [if_neg c4, if_neg c4]; rfl
  ·rw [if_neg c2, if_neg c2]
   simp only [Yrm]
   rw [if_pos c2, if_neg c2]
theorem refP_eq (c : List UInt8) : refP c = Ytm c := by
 unfold refP Ytm
 by_cases c1 : (c.length : Int) > 2048
 ·rw [if_pos c1, if_pos c1]
 ·rw [if_neg c1, if_neg c1, Yds]
  by_cases c2 : Ygf c = 0
  ·rw [if_pos c2, if_pos c2]; rfl
  ·rw [if_neg c2, if_neg c2]
   by_cases c3 : lowL (c.take (Ygf c - 1)) = Ykh ∨ lowL (c.take (Ygf c - 1)) = Yfg
   ·rw [if_pos c3, if_pos c3]
    unfold Yap refS
    simp only [not_true_eq_false, if_false, Ygb]
    by_cases c4 : Yrb ((c.drop (Ygf c)).headD 0) = true
    ·rw [if_pos c4, ← place_ref _ _ c4, Ygb]
    ·rw [if_neg c4]
     unfold Ysf
     rw [if_neg (fun e => c4 ((Ybl _).1 e))]; rfl
   ·rw [if_neg c3, if_neg c3]; rfl
theorem Ybu (l : List UInt8) : Ypg l = refP (Yre l) := by unfold Ypg; rw [refP_eq]
end Go.Proofs.YtnmglnglbdpjjaaGreatDoor.X
