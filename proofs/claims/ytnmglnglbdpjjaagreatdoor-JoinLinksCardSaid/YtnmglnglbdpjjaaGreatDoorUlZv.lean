/- The document's Parse, told in its own order, is the program's. -/
import Derived.Test.YtnmglnglbdpjjaaGreatDoorUlWords
import Derived.Test.YtnmglnglbdpjjaaGreatDoorUlZl
namespace Go.Proofs.YtnmglnglbdpjjaaGreatDoor.X
open Go.RowKit Go.Lib Go.Shelf Go.Yw.PrintWords Go.Yw.PrintLast Go.Yw.PrintMore
set_option linter.unusedVariables false
set_option linter.unusedSimpArgs false
theorem rstring_f (a0 a1 : ByteArray) (p : Int) (a3 a4 a5 : ByteArray) (q f : Bool) (h0 : a0.size ≤ 1000000000000) (h1 : a1.size ≤ 1000000000000) (h3 : a3.size ≤ 1000000000000) (h4 : a4.size ≤ 1000000000000) (h5 : a5.size ≤ 1000000000000) (hp : 0 ≤ p) (hp2 : p < 1000000000000000000) :
  EvR (fun k => Yy.f k a0 a1 p a3 a4 a5 q f) (Yie a0 a1 p a3 a4 a5 q f) := by
 have hs := Yul a0 a1 p
 have fin : ∀ o : ByteArray, o.size ≤ a0.size + a1.size + 24 → EvR (fun k => Yy.j0 k o a0 a1 p a3 a4 a5 q f) (Ysk (Yjj (o ++ a3) a4 q) a5 f) := by
  intro o ho
  refine EvR.succ (EvR.of fun k => ?_)
  rw [Yy.j0, if_pos Zk]
  cases q with
  | true =>
   rw [if_pos rfl, if_pos Zk, if_pos Zpb]
   cases f with
   | true => rw [if_pos rfl, if_pos Zk, if_pos Zlb]; rfl
   | false => rw [if_neg Zv]; rfl
  | false =>
   rw [if_neg Zv]
   cases f with
   | true => rw [if_pos rfl, if_pos Zk, if_pos Zqb]; rfl
   | false => rw [if_neg Zv]; rfl
 have c1 : a0.size + 3 ≤ 9223372036854775807 := by omega
 have c2 : (a0 ++ (⟨#[58, 47, 47]⟩ : ByteArray)).size + a1.size ≤ 9223372036854775807 := by simp only [ByteArray.size_append, Ywi]; omega
 unfold Yy.f Yie
 simp only [if_pos c1, if_pos c2]
 by_cases hz : p = 0
 ·have e : Ytf a0 a1 p = (a0 ++ (⟨#[58, 47, 47]⟩ : ByteArray)) ++ a1 := by unfold Ytf; rw [if_pos hz]
  rw [e] at hs ⊢
  simp only [if_pos hz]
  exact fin _ hs
 ·have e : Ytf a0 a1 p = ((a0 ++ (⟨#[58, 47, 47]⟩ : ByteArray)) ++ a1) ++ ((⟨#[58]⟩ : ByteArray) ++ strOfNums (Yqf p.toNat)) := by unfold Ytf; rw [if_neg hz]
  rw [e] at hs ⊢
  simp only [if_neg hz]
  have ht := Yyq p Zk Zk
  have hzz : Ysi p = Yqf p.toNat := by unfold Ysi; rw [if_neg Zk]
  rw [hzz] at ht
  have htl := Ybg p.toNat
  refine EvR.bind (g := fun k vL => if 1 + vL.size ≤ 9223372036854775807 then (if ((a0 ++ (⟨#[58, 47, 47]⟩ : ByteArray)) ++ a1).size + ((⟨#[58]⟩ : ByteArray) ++ vL).size ≤ 9223372036854775807 then Yy.j0 k (((a0 ++ (⟨#[58, 47, 47]⟩ : ByteArray)) ++ a1) ++ ((⟨#[58]⟩ : ByteArray) ++ vL)) a0 a1 p a3 a4 a5 q f else none) else none) ht ?_
  refine (fin _ hs).congr fun k => ?_
  rw [if_pos Zvb, if_pos Zfb]
def refL (sch : ByteArray) (s : List UInt8) : UrlE :=
 if (Ymi sch (s.takeWhile (Ycb [47, 92, 63, 35]))).2.2.2 = 0 then Yqp sch (Ymi sch (s.takeWhile (Ycb [47, 92, 63, 35]))).2.1 (Ymi sch (s.takeWhile (Ycb [47, 92, 63, 35]))).2.2.1 (s.dropWhile (Ycb [47, 92, 63, 35]))
 else Yac (Ymi sch (s.takeWhile (Ycb [47, 92, 63, 35]))).2.2.2
def refS (sch : ByteArray) (s : List UInt8) : UrlE := if Yqb (s.headD 0) = true then refL sch (s.dropWhile Yqb) else Yac 3
def refP (c : List UInt8) : UrlE :=
 if (c.length : Int) > 2048 then Yac 5 else if Yrd c = 0 then Yac 3 else
  if lowL (c.take (Yrd c - 1)) = Yxg ∨ lowL (c.take (Yrd c - 1)) = Yuf then refS (ofL (lowL (c.take (Yrd c - 1)))) (c.drop (Yrd c)) else Yac 16
theorem Ydl (l : List UInt8) : Lib.indexAny l [47, 92] = 0 ↔ Yqb (l.headD 0) = true := by
 cases l with
 | nil => simp [Lib.indexAny, Yqb]
 | cons b t =>
  have hge := Lib.indexAny_ge [47, 92] t
  rw [Lib.indexAny, List.headD_cons]
  have e : ([47, 92] : List UInt8).contains b = Yqb b := by simp [Yqb]; rfl
  rw [e]
  cases Yqb b with
  | true => simp
  | false =>
   simp only [Bool.false_eq_true, if_false, iff_false]
   split
   ·omega
   ·next h =>
    have : Lib.indexAny t [47, 92] ≠ -1 := fun e => h (by rw [e]; rfl)
    omega
theorem Yxk (c : UInt8) (l : List UInt8) : Lib.indexByte l c ≥ 0 ↔ l.contains c = true := by
 by_cases h : c ∈ l
 ·obtain ⟨a, b, rfl, hn⟩ := Yjk c l h
  rw [byteAt c a b hn]
  simp
 ·rw [byteNot c l h]
  simp [h]
theorem notIn_fun (c : UInt8) : Ycb [c] = (· != c) := funext fun b => Yum c b
theorem place_ref (sch : ByteArray) (s : List UInt8) (hs : Yqb (s.headD 0) = true) : Ypm sch (Ykf s sch.data.toList ⟨#[]⟩ 0) = refL sch (s.dropWhile Yqb) := by
 have hdrop : Lib.trimLeftS s [47, 92] = s.dropWhile Yqb := by
  unfold Lib.trimLeftS
  congr 1
  funext b
  simp [Yqb]; rfl
 unfold Ykf
 rw [if_pos ((Ydl s).2 hs)]
 unfold Yyb Ywf
 rw [hdrop, Ytq]
 generalize s.dropWhile Yqb = s'
 unfold refL Ymi
 rw [notIn_fun 58]
 generalize hh : s'.takeWhile (Ycb [47, 92, 63, 35]) = h
 generalize hr : s'.dropWhile (Ycb [47, 92, 63, 35]) = r
 by_cases c1 : h.contains 64 = true
 ·rw [if_pos ((Yxk 64 h).2 c1), if_pos c1]; rfl
 ·rw [if_neg (fun e => c1 ((Yxk 64 h).1 e)), if_neg c1]
  by_cases c2 : (Ydf (h.takeWhile (· != 58))).2 = 0
  ·rw [if_pos c2, if_pos c2]
   by_cases c3 : (h.dropWhile (· != 58)).drop 1 = []
   ·rw [if_pos c3, if_pos c3]; rfl
   ·rw [if_neg c3, if_neg c3]
    by_cases c4 : (numL 65535 ((h.dropWhile (· != 58)).drop 1)).2 = 0
    ·rw [if_pos c4, if_pos c4]
     by_cases c5 : (numL 65535 ((h.dropWhile (· != 58)).drop 1)).1 = ownN sch.data.toList
     ·rw [if_pos c5, if_pos c5]; rfl
     ·rw [if_neg c5, if_neg c5]; rfl
    ·rw [if_neg c4, if_neg c4]; rfl
  ·rw [if_neg c2, if_neg c2]
   simp only [Ypm]
   rw [if_pos c2, if_neg c2]
theorem refP_eq (c : List UInt8) : refP c = Ymm c := by
 unfold refP Ymm
 by_cases c1 : (c.length : Int) > 2048
 ·rw [if_pos c1, if_pos c1]
 ·rw [if_neg c1, if_neg c1, Yds]
  by_cases c2 : Yrd c = 0
  ·rw [if_pos c2, if_pos c2]; rfl
  ·rw [if_neg c2, if_neg c2]
   by_cases c3 : lowL (c.take (Yrd c - 1)) = Yxg ∨ lowL (c.take (Yrd c - 1)) = Yuf
   ·rw [if_pos c3, if_pos c3]
    unfold Yho refS
    simp only [not_true_eq_false, if_false, Yfb]
    by_cases c4 : Yqb ((c.drop (Yrd c)).headD 0) = true
    ·rw [if_pos c4, ← place_ref _ _ c4, Yfb]
    ·rw [if_neg c4]
     unfold Ykf
     rw [if_neg (fun e => c4 ((Ydl _).1 e))]; rfl
   ·rw [if_neg c3, if_neg c3]; rfl
theorem Ycu (l : List UInt8) : Yjg l = refP (Ypd l) := by unfold Yjg; rw [refP_eq]
end Go.Proofs.YtnmglnglbdpjjaaGreatDoor.X
