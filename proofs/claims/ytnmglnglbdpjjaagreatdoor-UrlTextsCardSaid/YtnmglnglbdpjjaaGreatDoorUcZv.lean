/- The document's Parse, told in its own order, is the program's. -/
import Derived.Test.YtnmglnglbdpjjaaGreatDoorUcZl
namespace Go.Proofs.YtnmglnglbdpjjaaGreatDoor.X
open Go.RowKit Go.Lib Go.Shelf Go.Yw.PrintWords Go.Yw.PrintLast Go.Yw.PrintMore
set_option linter.unusedVariables false
set_option linter.unusedSimpArgs false
theorem rstring_f (a0 a1 : ByteArray) (p : Int) (a3 a4 a5 : ByteArray) (q f : Bool) (h0 : a0.size ≤ 1000000000000) (h1 : a1.size ≤ 1000000000000) (h3 : a3.size ≤ 1000000000000) (h4 : a4.size ≤ 1000000000000) (h5 : a5.size ≤ 1000000000000) (hp : 0 ≤ p) (hp2 : p < 1000000000000000000) :
  EvR (fun k => Yja.f k a0 a1 p a3 a4 a5 q f) (Yuh a0 a1 p a3 a4 a5 q f) := by
 have hs := Yak a0 a1 p
 have fin : ∀ o : ByteArray, o.size ≤ a0.size + a1.size + 24 → EvR (fun k => Yja.j0 k o a0 a1 p a3 a4 a5 q f) (Yzi (Yoi (o ++ a3) a4 q) a5 f) := by
  intro o ho
  refine EvR.succ (EvR.of fun k => ?_)
  rw [Yja.j0, if_pos (by omega)]
  cases q with
  | true =>
   rw [if_pos rfl, if_pos (by omega), if_pos (by simp only [ByteArray.size_append, Ysh]; omega)]
   cases f with
   | true => rw [if_pos rfl, if_pos (by omega), if_pos (by simp only [ByteArray.size_append, Ysh, Yrh]; omega)]; rfl
   | false => rw [if_neg (by simp)]; rfl
  | false =>
   rw [if_neg (by simp)]
   cases f with
   | true => rw [if_pos rfl, if_pos (by omega), if_pos (by simp only [ByteArray.size_append, Yrh]; omega)]; rfl
   | false => rw [if_neg (by simp)]; rfl
 have c1 : a0.size + 3 ≤ 9223372036854775807 := by omega
 have c2 : (a0 ++ (⟨#[58, 47, 47]⟩ : ByteArray)).size + a1.size ≤ 9223372036854775807 := by simp only [ByteArray.size_append, Yfh]; omega
 unfold Yja.f Yuh
 simp only [if_pos c1, if_pos c2]
 by_cases hz : p = 0
 ·have e : Ymg a0 a1 p = (a0 ++ (⟨#[58, 47, 47]⟩ : ByteArray)) ++ a1 := by unfold Ymg; rw [if_pos hz]
  rw [e] at hs ⊢
  simp only [if_pos hz]
  exact fin _ hs
 ·have e : Ymg a0 a1 p = ((a0 ++ (⟨#[58, 47, 47]⟩ : ByteArray)) ++ a1) ++ ((⟨#[58]⟩ : ByteArray) ++ strOfNums (Yrf p.toNat)) := by unfold Ymg; rw [if_neg hz]
  rw [e] at hs ⊢
  simp only [if_neg hz]
  have ht := Yon p (by omega) (by omega)
  have hzz : Yih p = Yrf p.toNat := by unfold Yih; rw [if_neg (by omega)]
  rw [hzz] at ht
  have htl := Yze p.toNat
  refine EvR.bind (g := fun k t192 => if 1 + t192.size ≤ 9223372036854775807 then (if ((a0 ++ (⟨#[58, 47, 47]⟩ : ByteArray)) ++ a1).size + ((⟨#[58]⟩ : ByteArray) ++ t192).size ≤ 9223372036854775807 then Yja.j0 k (((a0 ++ (⟨#[58, 47, 47]⟩ : ByteArray)) ++ a1) ++ ((⟨#[58]⟩ : ByteArray) ++ t192)) a0 a1 p a3 a4 a5 q f else none) else none) ht ?_
  refine (fin _ hs).congr fun k => ?_
  rw [if_pos (by rw [strOfNums_size]; omega), if_pos (by simp only [ByteArray.size_append, Yfh, Yhk, strOfNums_size]; omega)]
def refL (sch : ByteArray) (s : List UInt8) : UrlE :=
 if (Ybh sch (s.takeWhile (Yza [47, 92, 63, 35]))).2.2.2 = 0 then urlOf sch (Ybh sch (s.takeWhile (Yza [47, 92, 63, 35]))).2.1 (Ybh sch (s.takeWhile (Yza [47, 92, 63, 35]))).2.2.1 (s.dropWhile (Yza [47, 92, 63, 35]))
 else Ygc (Ybh sch (s.takeWhile (Yza [47, 92, 63, 35]))).2.2.2
def refS (sch : ByteArray) (s : List UInt8) : UrlE := if Yfc (s.headD 0) = true then refL sch (s.dropWhile Yfc) else Ygc 3
def refP (c : List UInt8) : UrlE :=
 if (c.length : Int) > 2048 then Ygc 5 else if Yae c = 0 then Ygc 3 else
  if lowL (c.take (Yae c - 1)) = Yah ∨ lowL (c.take (Yae c - 1)) = Ybg then refS (ofL (lowL (c.take (Yae c - 1)))) (c.drop (Yae c)) else Ygc 16
theorem Yej (l : List UInt8) : Lib.indexAny l [47, 92] = 0 ↔ Yfc (l.headD 0) = true := by
 cases l with
 | nil => simp [Lib.indexAny, Yfc]
 | cons b t =>
  have hge := Lib.indexAny_ge [47, 92] t
  rw [Lib.indexAny, List.headD_cons]
  have e : ([47, 92] : List UInt8).contains b = Yfc b := by simp [Yfc]; rfl
  rw [e]
  cases Yfc b with
  | true => simp
  | false =>
   simp only [Bool.false_eq_true, if_false, iff_false]
   split
   ·omega
   ·next h =>
    have : Lib.indexAny t [47, 92] ≠ -1 := fun e => h (by rw [e]; rfl)
    omega
theorem Ygj (c : UInt8) (l : List UInt8) : Lib.indexByte l c ≥ 0 ↔ l.contains c = true := by
 by_cases h : c ∈ l
 ·obtain ⟨a, b, rfl, hn⟩ := Ylk c l h
  rw [byteAt c a b hn]
  simp
 ·rw [byteNot c l h]
  simp [h]
theorem notIn_fun (c : UInt8) : Yza [c] = (· != c) := funext fun b => Ymk c b
theorem place_ref (sch : ByteArray) (s : List UInt8) (hs : Yfc (s.headD 0) = true) : Yao sch (Yuf s sch.data.toList ⟨#[]⟩ 0) = refL sch (s.dropWhile Yfc) := by
 have hdrop : Lib.trimLeftS s [47, 92] = s.dropWhile Yfc := by
  unfold Lib.trimLeftS
  congr 1
  funext b
  simp [Yfc]; rfl
 unfold Yuf
 rw [if_pos ((Yej s).2 hs)]
 unfold Ykb Ylf
 rw [hdrop, cut_one]
 generalize s.dropWhile Yfc = s'
 unfold refL Ybh
 rw [notIn_fun 58]
 generalize hh : s'.takeWhile (Yza [47, 92, 63, 35]) = h
 generalize hr : s'.dropWhile (Yza [47, 92, 63, 35]) = r
 by_cases c1 : h.contains 64 = true
 ·rw [if_pos ((Ygj 64 h).2 c1), if_pos c1]; rfl
 ·rw [if_neg (fun e => c1 ((Ygj 64 h).1 e)), if_neg c1]
  by_cases c2 : (Ydf (h.takeWhile (· != 58))).2 = 0
  ·rw [if_pos c2, if_pos c2]
   by_cases c3 : (h.dropWhile (· != 58)).drop 1 = []
   ·rw [if_pos c3, if_pos c3]; rfl
   ·rw [if_neg c3, if_neg c3]
    by_cases c4 : (numL 65535 ((h.dropWhile (· != 58)).drop 1)).2 = 0
    ·rw [if_pos c4, if_pos c4]
     by_cases c5 : (numL 65535 ((h.dropWhile (· != 58)).drop 1)).1 = ownN sch.data.toList
     ·rw [if_pos c5, if_pos c5]; rfl
     ·rw [if_neg c5, if_neg c5]; rfl
    ·rw [if_neg c4, if_neg c4]; rfl
  ·rw [if_neg c2, if_neg c2]
   simp only [Yao]
   rw [if_pos c2, if_neg c2]
theorem refP_eq (c : List UInt8) : refP c = Ykn c := by
 unfold refP Ykn
 by_cases c1 : (c.length : Int) > 2048
 ·rw [if_pos c1, if_pos c1]
 ·rw [if_neg c1, if_neg c1, Ydo]
  by_cases c2 : Yae c = 0
  ·rw [if_pos c2, if_pos c2]; rfl
  ·rw [if_neg c2, if_neg c2]
   by_cases c3 : lowL (c.take (Yae c - 1)) = Yah ∨ lowL (c.take (Yae c - 1)) = Ybg
   ·rw [if_pos c3, if_pos c3]
    unfold parseS refS
    simp only [not_true_eq_false, if_false, Yzb]
    by_cases c4 : Yfc ((c.drop (Yae c)).headD 0) = true
    ·rw [if_pos c4, ← place_ref _ _ c4, Yzb]
    ·rw [if_neg c4]
     unfold Yuf
     rw [if_neg (fun e => c4 ((Yej _).1 e))]; rfl
   ·rw [if_neg c3, if_neg c3]; rfl
theorem Ynp (l : List UInt8) : Ylj l = refP (Ymf l) := by unfold Ylj; rw [refP_eq]
end Go.Proofs.YtnmglnglbdpjjaaGreatDoor.X
