/- The document's Parse, told in its own order, is the program's. -/
import Derived.Test.YtnmglnglbdpjjaaGreatDoorUjWords
import Derived.Test.YtnmglnglbdpjjaaGreatDoorUjZl
namespace Go.Proofs.YtnmglnglbdpjjaaGreatDoor.X
open Go.RowKit Go.Lib Go.Shelf Go.Yw.PrintWords Go.Yw.PrintLast Go.Yw.PrintMore
set_option linter.unusedVariables false
set_option linter.unusedSimpArgs false
theorem rstring_f (a0 a1 : ByteArray) (p : Int) (a3 a4 a5 : ByteArray) (q f : Bool) (h0 : a0.size ≤ 1000000000000) (h1 : a1.size ≤ 1000000000000) (h3 : a3.size ≤ 1000000000000) (h4 : a4.size ≤ 1000000000000) (h5 : a5.size ≤ 1000000000000) (hp : 0 ≤ p) (hp2 : p < 1000000000000000000) :
  EvR (fun k => Yca.f k a0 a1 p a3 a4 a5 q f) (Yjd a0 a1 p a3 a4 a5 q f) := by
 have hs := Yxl a0 a1 p
 have fin : ∀ o : ByteArray, o.size ≤ a0.size + a1.size + 24 → EvR (fun k => Yca.j0 k o a0 a1 p a3 a4 a5 q f) (Yjk (Yij (o ++ a3) a4 q) a5 f) := by
  intro o ho
  refine EvR.succ (EvR.of fun k => ?_)
  rw [Yca.j0, if_pos Zl]
  cases q with
  | true =>
   rw [if_pos rfl, if_pos Zl, if_pos Ztb]
   cases f with
   | true => rw [if_pos rfl, if_pos Zl, if_pos Zrb]; rfl
   | false => rw [if_neg Zv]; rfl
  | false =>
   rw [if_neg Zv]
   cases f with
   | true => rw [if_pos rfl, if_pos Zl, if_pos Zub]; rfl
   | false => rw [if_neg Zv]; rfl
 have c1 : a0.size + 3 ≤ 9223372036854775807 := by omega
 have c2 : (a0 ++ (⟨#[58, 47, 47]⟩ : ByteArray)).size + a1.size ≤ 9223372036854775807 := by simp only [ByteArray.size_append, Yui]; omega
 unfold Yca.f Yjd
 simp only [if_pos c1, if_pos c2]
 by_cases hz : p = 0
 ·have e : Ysf a0 a1 p = (a0 ++ (⟨#[58, 47, 47]⟩ : ByteArray)) ++ a1 := by unfold Ysf; rw [if_pos hz]
  rw [e] at hs ⊢
  simp only [if_pos hz]
  exact fin _ hs
 ·have e : Ysf a0 a1 p = ((a0 ++ (⟨#[58, 47, 47]⟩ : ByteArray)) ++ a1) ++ ((⟨#[58]⟩ : ByteArray) ++ strOfNums (Yqf p.toNat)) := by unfold Ysf; rw [if_neg hz]
  rw [e] at hs ⊢
  simp only [if_neg hz]
  have ht := Yjq p Zl Zl
  have hzz : Yri p = Yqf p.toNat := by unfold Yri; rw [if_neg Zl]
  rw [hzz] at ht
  have htl := Ycg p.toNat
  refine EvR.bind (g := fun k t192 => if 1 + t192.size ≤ 9223372036854775807 then (if ((a0 ++ (⟨#[58, 47, 47]⟩ : ByteArray)) ++ a1).size + ((⟨#[58]⟩ : ByteArray) ++ t192).size ≤ 9223372036854775807 then Yca.j0 k (((a0 ++ (⟨#[58, 47, 47]⟩ : ByteArray)) ++ a1) ++ ((⟨#[58]⟩ : ByteArray) ++ t192)) a0 a1 p a3 a4 a5 q f else none) else none) ht ?_
  refine (fin _ hs).congr fun k => ?_
  rw [if_pos Zzb, if_pos Zlb]
def refL (sch : ByteArray) (s : List UInt8) : UrlE :=
 if (Yoi sch (s.takeWhile (Yza [47, 92, 63, 35]))).2.2.2 = 0 then Yzn sch (Yoi sch (s.takeWhile (Yza [47, 92, 63, 35]))).2.1 (Yoi sch (s.takeWhile (Yza [47, 92, 63, 35]))).2.2.1 (s.dropWhile (Yza [47, 92, 63, 35]))
 else Ytb (Yoi sch (s.takeWhile (Yza [47, 92, 63, 35]))).2.2.2
def refS (sch : ByteArray) (s : List UInt8) : UrlE := if Yxb (s.headD 0) = true then refL sch (s.dropWhile Yxb) else Ytb 3
def refP (c : List UInt8) : UrlE :=
 if (c.length : Int) > 2048 then Ytb 5 else if Ybf c = 0 then Ytb 3 else
  if lowL (c.take (Ybf c - 1)) = Ydh ∨ lowL (c.take (Ybf c - 1)) = Yeg then refS (ofL (lowL (c.take (Ybf c - 1)))) (c.drop (Ybf c)) else Ytb 16
theorem Yzk (l : List UInt8) : Lib.indexAny l [47, 92] = 0 ↔ Yxb (l.headD 0) = true := by
 cases l with
 | nil => simp [Lib.indexAny, Yxb]
 | cons b t =>
  have hge := Lib.indexAny_ge [47, 92] t
  rw [Lib.indexAny, List.headD_cons]
  have e : ([47, 92] : List UInt8).contains b = Yxb b := by simp [Yxb]; rfl
  rw [e]
  cases Yxb b with
  | true => simp
  | false =>
   simp only [Bool.false_eq_true, if_false, iff_false]
   split
   ·omega
   ·next h =>
    have : Lib.indexAny t [47, 92] ≠ -1 := fun e => h (by rw [e]; rfl)
    omega
theorem Yyk (c : UInt8) (l : List UInt8) : Lib.indexByte l c ≥ 0 ↔ l.contains c = true := by
 by_cases h : c ∈ l
 ·obtain ⟨a, b, rfl, hn⟩ := Yqm c l h
  rw [byteAt c a b hn]
  simp
 ·rw [byteNot c l h]
  simp [h]
theorem notIn_fun (c : UInt8) : Yza [c] = (· != c) := funext fun b => Ynm c b
theorem place_ref (sch : ByteArray) (s : List UInt8) (hs : Yxb (s.headD 0) = true) : Yol sch (Ylf s sch.data.toList ⟨#[]⟩ 0) = refL sch (s.dropWhile Yxb) := by
 have hdrop : Lib.trimLeftS s [47, 92] = s.dropWhile Yxb := by
  unfold Lib.trimLeftS
  congr 1
  funext b
  simp [Yxb]; rfl
 unfold Ylf
 rw [if_pos ((Yzk s).2 hs)]
 unfold Yub Yuf
 rw [hdrop, cut_one]
 generalize s.dropWhile Yxb = s'
 unfold refL Yoi
 rw [notIn_fun 58]
 generalize hh : s'.takeWhile (Yza [47, 92, 63, 35]) = h
 generalize hr : s'.dropWhile (Yza [47, 92, 63, 35]) = r
 by_cases c1 : h.contains 64 = true
 ·rw [if_pos ((Yyk 64 h).2 c1), if_pos c1]; rfl
 ·rw [if_neg (fun e => c1 ((Yyk 64 h).1 e)), if_neg c1]
  by_cases c2 : (Yff (h.takeWhile (· != 58))).2 = 0
  ·rw [if_pos c2, if_pos c2]
   by_cases c3 : (h.dropWhile (· != 58)).drop 1 = []
   ·rw [if_pos c3, if_pos c3]; rfl
   ·rw [if_neg c3, if_neg c3]
    by_cases c4 : (numL 65535 ((h.dropWhile (· != 58)).drop 1)).2 = 0
    ·rw [if_pos c4, if_pos c4]
     by_cases c5 : (numL 65535 ((h.dropWhile (· != 58)).drop 1)).1 = ownN sch.data.toList
     ·rw [if_pos c5, if_pos c5]; rfl
     ·rw [if_neg c5, if_neg c5]; rfl
    ·rw [if_neg c4, if_neg c4]; rfl
  ·rw [if_neg c2, if_neg c2]
   simp only [Yol]
   rw [if_pos c2, if_neg c2]
theorem refP_eq (c : List UInt8) : refP c = Yjl c := by
 unfold refP Yjl
 by_cases c1 : (c.length : Int) > 2048
 ·rw [if_pos c1, if_pos c1]
 ·rw [if_neg c1, if_neg c1, Yqs]
  by_cases c2 : Ybf c = 0
  ·rw [if_pos c2, if_pos c2]; rfl
  ·rw [if_neg c2, if_neg c2]
   by_cases c3 : lowL (c.take (Ybf c - 1)) = Ydh ∨ lowL (c.take (Ybf c - 1)) = Yeg
   ·rw [if_pos c3, if_pos c3]
    unfold Ymm refS
    simp only [not_true_eq_false, if_false, Yob]
    by_cases c4 : Yxb ((c.drop (Ybf c)).headD 0) = true
    ·rw [if_pos c4, ← place_ref _ _ c4, Yob]
    ·rw [if_neg c4]
     unfold Ylf
     rw [if_neg (fun e => c4 ((Yzk _).1 e))]; rfl
   ·rw [if_neg c3, if_neg c3]; rfl
theorem Yst (l : List UInt8) : Yrf l = refP (Yhe l) := by unfold Yrf; rw [refP_eq]
end Go.Proofs.YtnmglnglbdpjjaaGreatDoor.X
