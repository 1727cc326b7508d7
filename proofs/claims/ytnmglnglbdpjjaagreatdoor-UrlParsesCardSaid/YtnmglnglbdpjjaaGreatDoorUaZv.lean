/- The document's Parse, told in its own order, is the program's. -/
import Derived.Test.YtnmglnglbdpjjaaGreatDoorUaZl
namespace Go.Proofs.YtnmglnglbdpjjaaGreatDoor.X
open Go.RowKit Go.Lib Go.Shelf Go.Proofs.YtnmglnglbdpjjaaGreatDoorW.PrintWords Go.Proofs.YtnmglnglbdpjjaaGreatDoorW.PrintLast Go.Proofs.YtnmglnglbdpjjaaGreatDoorW.PrintMore
set_option linter.unusedVariables false
set_option linter.unusedSimpArgs false
theorem rstring_f (a0 a1 : ByteArray) (p : Int) (a3 a4 a5 : ByteArray) (q f : Bool) (h0 : a0.size ≤ 1000000000000) (h1 : a1.size ≤ 1000000000000) (h3 : a3.size ≤ 1000000000000) (h4 : a4.size ≤ 1000000000000) (h5 : a5.size ≤ 1000000000000) (hp : 0 ≤ p) (hp2 : p < 1000000000000000000) :
  EvR (fun k => cringleref04_String.f k a0 a1 p a3 a4 a5 q f) (stringB a0 a1 p a3 a4 a5 q f) := by
 have hs := originB_size a0 a1 p
 have fin : ∀ o : ByteArray, o.size ≤ a0.size + a1.size + 24 → EvR (fun k => cringleref04_String.j0 k o a0 a1 p a3 a4 a5 q f) (stringF (stringQ (o ++ a3) a4 q) a5 f) := by
  intro o ho
  refine EvR.succ (EvR.of fun k => ?_)
  rw [cringleref04_String.j0, if_pos (by omega)]
  cases q with
  | true =>
   rw [if_pos rfl, if_pos (by omega), if_pos (by simp only [ByteArray.size_append, size63]; omega)]
   cases f with
   | true => rw [if_pos rfl, if_pos (by omega), if_pos (by simp only [ByteArray.size_append, size63, size35]; omega)]; rfl
   | false => rw [if_neg (by simp)]; rfl
  | false =>
   rw [if_neg (by simp)]
   cases f with
   | true => rw [if_pos rfl, if_pos (by omega), if_pos (by simp only [ByteArray.size_append, size35]; omega)]; rfl
   | false => rw [if_neg (by simp)]; rfl
 have c1 : a0.size + 3 ≤ 9223372036854775807 := by omega
 have c2 : (a0 ++ (⟨#[58, 47, 47]⟩ : ByteArray)).size + a1.size ≤ 9223372036854775807 := by simp only [ByteArray.size_append, size3]; omega
 unfold cringleref04_String.f stringB
 simp only [if_pos c1, if_pos c2]
 by_cases hz : p = 0
 ·have e : originB a0 a1 p = (a0 ++ (⟨#[58, 47, 47]⟩ : ByteArray)) ++ a1 := by unfold originB; rw [if_pos hz]
  rw [e] at hs ⊢
  simp only [if_pos hz]
  exact fin _ hs
 ·have e : originB a0 a1 p = ((a0 ++ (⟨#[58, 47, 47]⟩ : ByteArray)) ++ a1) ++ ((⟨#[58]⟩ : ByteArray) ++ strOfNums (textN p.toNat)) := by unfold originB; rw [if_neg hz]
  rw [e] at hs ⊢
  simp only [if_neg hz]
  have ht := rtext_f p (by omega) (by omega)
  have hzz : textZ p = textN p.toNat := by unfold textZ; rw [if_neg (by omega)]
  rw [hzz] at ht
  have htl := textN_length p.toNat
  refine EvR.bind (g := fun k t192 => if 1 + t192.size ≤ 9223372036854775807 then (if ((a0 ++ (⟨#[58, 47, 47]⟩ : ByteArray)) ++ a1).size + ((⟨#[58]⟩ : ByteArray) ++ t192).size ≤ 9223372036854775807 then cringleref04_String.j0 k (((a0 ++ (⟨#[58, 47, 47]⟩ : ByteArray)) ++ a1) ++ ((⟨#[58]⟩ : ByteArray) ++ t192)) a0 a1 p a3 a4 a5 q f else none) else none) ht ?_
  refine (fin _ hs).congr fun k => ?_
  rw [if_pos (by rw [strOfNums_size]; omega), if_pos (by simp only [ByteArray.size_append, size3, size58, strOfNums_size]; omega)]
def refL (sch : ByteArray) (s : List UInt8) : UrlE :=
 if (placeQ sch (s.takeWhile (notIn [47, 92, 63, 35]))).2.2.2 = 0 then urlOf sch (placeQ sch (s.takeWhile (notIn [47, 92, 63, 35]))).2.1 (placeQ sch (s.takeWhile (notIn [47, 92, 63, 35]))).2.2.1 (s.dropWhile (notIn [47, 92, 63, 35]))
 else url_none (placeQ sch (s.takeWhile (notIn [47, 92, 63, 35]))).2.2.2
def refS (sch : ByteArray) (s : List UInt8) : UrlE := if slashP (s.headD 0) = true then refL sch (s.dropWhile slashP) else url_none 3
def refP (c : List UInt8) : UrlE :=
 if (c.length : Int) > 2048 then url_none 5 else if rScheme c = 0 then url_none 3 else
  if lowL (c.take (rScheme c - 1)) = httpB ∨ lowL (c.take (rScheme c - 1)) = httpsB then refS (ofL (lowL (c.take (rScheme c - 1)))) (c.drop (rScheme c)) else url_none 16
theorem indexAny_zero (l : List UInt8) : Lib.indexAny l [47, 92] = 0 ↔ slashP (l.headD 0) = true := by
 cases l with
 | nil => simp [Lib.indexAny, slashP]
 | cons b t =>
  have hge := Lib.indexAny_ge [47, 92] t
  rw [Lib.indexAny, List.headD_cons]
  have e : ([47, 92] : List UInt8).contains b = slashP b := by simp [slashP]; rfl
  rw [e]
  cases slashP b with
  | true => simp
  | false =>
   simp only [Bool.false_eq_true, if_false, iff_false]
   split
   ·omega
   ·next h =>
    have : Lib.indexAny t [47, 92] ≠ -1 := fun e => h (by rw [e]; rfl)
    omega
theorem indexByte_mem (c : UInt8) (l : List UInt8) : Lib.indexByte l c ≥ 0 ↔ l.contains c = true := by
 by_cases h : c ∈ l
 ·obtain ⟨a, b, rfl, hn⟩ := mem_first c l h
  rw [byteAt c a b hn]
  simp
 ·rw [byteNot c l h]
  simp [h]
theorem notIn_fun (c : UInt8) : notIn [c] = (· != c) := funext fun b => notIn_one c b
theorem place_ref (sch : ByteArray) (s : List UInt8) (hs : slashP (s.headD 0) = true) : parseP sch (placeR s sch.data.toList ⟨#[]⟩ 0) = refL sch (s.dropWhile slashP) := by
 have hdrop : Lib.trimLeftS s [47, 92] = s.dropWhile slashP := by
  unfold Lib.trimLeftS
  congr 1
  funext b
  simp [slashP]; rfl
 unfold placeR
 rw [if_pos ((indexAny_zero s).2 hs)]
 unfold placeHost placeRest
 rw [hdrop, cut_one]
 generalize s.dropWhile slashP = s'
 unfold refL placeQ
 rw [notIn_fun 58]
 generalize hh : s'.takeWhile (notIn [47, 92, 63, 35]) = h
 generalize hr : s'.dropWhile (notIn [47, 92, 63, 35]) = r
 by_cases c1 : h.contains 64 = true
 ·rw [if_pos ((indexByte_mem 64 h).2 c1), if_pos c1]; rfl
 ·rw [if_neg (fun e => c1 ((indexByte_mem 64 h).1 e)), if_neg c1]
  by_cases c2 : (hostL (h.takeWhile (· != 58))).2 = 0
  ·rw [if_pos c2, if_pos c2]
   by_cases c3 : (h.dropWhile (· != 58)).drop 1 = []
   ·rw [if_pos c3, if_pos c3]; rfl
   ·rw [if_neg c3, if_neg c3]
    by_cases c4 : (numL 65535 ((h.dropWhile (· != 58)).drop 1)).2 = 0
    ·rw [if_pos c4, if_pos c4]
     by_cases c5 : (numL 65535 ((h.dropWhile (· != 58)).drop 1)).1 = ownN sch.data.toList
     ·rw [if_pos c5, if_pos c5]; rfl
     ·rw [if_neg c5, if_neg c5]; rfl
    ·rw [if_neg c4, if_neg c4]; rfl
  ·rw [if_neg c2, if_neg c2]
   simp only [parseP]
   rw [if_pos c2, if_neg c2]
theorem refP_eq (c : List UInt8) : refP c = parseC c := by
 unfold refP parseC
 by_cases c1 : (c.length : Int) > 2048
 ·rw [if_pos c1, if_pos c1]
 ·rw [if_neg c1, if_neg c1, schemeR_ref]
  by_cases c2 : rScheme c = 0
  ·rw [if_pos c2, if_pos c2]; rfl
  ·rw [if_neg c2, if_neg c2]
   by_cases c3 : lowL (c.take (rScheme c - 1)) = httpB ∨ lowL (c.take (rScheme c - 1)) = httpsB
   ·rw [if_pos c3, if_pos c3]
    unfold parseS refS
    simp only [not_true_eq_false, if_false, ofL_data]
    by_cases c4 : slashP ((c.drop (rScheme c)).headD 0) = true
    ·rw [if_pos c4, ← place_ref _ _ c4, ofL_data]
    ·rw [if_neg c4]
     unfold placeR
     rw [if_neg (fun e => c4 ((indexAny_zero _).1 e))]; rfl
   ·rw [if_neg c3, if_neg c3]; rfl
theorem parseR_ref (l : List UInt8) : parseR l = refP (clean33 l) := by unfold parseR; rw [refP_eq]
end Go.Proofs.YtnmglnglbdpjjaaGreatDoor.X
