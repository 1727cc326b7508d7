import Derived.Test.YtihaeeldgimdiaaGreatDoorIUZl
set_option linter.all false
namespace Go.Proofs.YtihaeeldgimdiaaGreatDoor.X
open Go.RowKit Go.Lib Go.Shelf Go.Yw.PrintWords Go.Yw.PrintLast Go.Yw.PrintMore
theorem Yjp (a0 a1 : Y) (p : Int) (a3 a4 a5 : Y) (q f : Bool) (h0 : a0.size ≤ 1000000000000) (h1 : a1.size ≤ 1000000000000) (h3 : a3.size ≤ 1000000000000) (h4 : a4.size ≤ 1000000000000) (h5 : a5.size ≤ 1000000000000) (hp : 0 ≤ p) (hp2 : p < 1000000000000000000) :
  EvR (fun k => Yva.f k a0 a1 p a3 a4 a5 q f) (Ygg a0 a1 p a3 a4 a5 q f) := by
 have hs := Yri a0 a1 p
 have fin : ∀ o : Y, o.size ≤ a0.size + a1.size + 24 → EvR (fun k => Yva.j0 k o a0 a1 p a3 a4 a5 q f) (Yyp (Ypp (o ++ a3) a4 q) a5 f) := by
  intro o ho
  refine EvR.succ (EvR.of fun k => ?_)
  rw [Yva.j0, if_pos Zj]
  cases q with
  | true =>
   rw [if_pos rfl, if_pos Zj, if_pos (by simp only [ByteArray.size_append, Ydn]; omega)]
   cases f with
   | true => rw [if_pos rfl, if_pos Zj, if_pos (by simp only [ByteArray.size_append, Ydn, Yvp]; omega)]; rfl
   | false => rw [if_neg Zq]; rfl
  | false =>
   rw [if_neg Zq]
   cases f with
   | true => rw [if_pos rfl, if_pos Zj, if_pos (by simp only [ByteArray.size_append, Yvp]; omega)]; rfl
   | false => rw [if_neg Zq]; rfl
 have c1 : a0.size + 3 ≤ 9223372036854775807 := by omega
 have c2 : (a0 ++ (⟨#[58, 47, 47]⟩ : Y)).size + a1.size ≤ 9223372036854775807 := by simp only [ByteArray.size_append, Yqn]; omega
 unfold Yva.f Ygg
 simp only [if_pos c1, if_pos c2]
 by_cases hz : p = 0
 ·have e : Ykh a0 a1 p = (a0 ++ (⟨#[58, 47, 47]⟩ : Y)) ++ a1 := by unfold Ykh; rw [if_pos hz]
  rw [e] at hs ⊢
  simp only [if_pos hz]
  exact fin _ hs
 ·have e : Ykh a0 a1 p = ((a0 ++ (⟨#[58, 47, 47]⟩ : Y)) ++ a1) ++ ((⟨#[58]⟩ : Y) ++ strOfNums (Yvf p.toNat)) := by unfold Ykh; rw [if_neg hz]
  rw [e] at hs ⊢
  simp only [if_neg hz]
  have ht := Ywp p Zj Zj
  have hzz : Yim p = Yvf p.toNat := by unfold Yim; rw [if_neg Zj]
  rw [hzz] at ht
  have htl := Ycf p.toNat
  refine EvR.bind (g := fun k aHt => if 1 + aHt.size ≤ 9223372036854775807 then (if ((a0 ++ (⟨#[58, 47, 47]⟩ : Y)) ++ a1).size + ((⟨#[58]⟩ : Y) ++ aHt).size ≤ 9223372036854775807 then Yva.j0 k (((a0 ++ (⟨#[58, 47, 47]⟩ : Y)) ++ a1) ++ ((⟨#[58]⟩ : Y) ++ aHt)) a0 a1 p a3 a4 a5 q f else none) else none) ht ?_
  refine (fin _ hs).congr fun k => ?_
  rw [if_pos (by rw [strOfNums_size]; omega), if_pos (by simp only [ByteArray.size_append, Yqn, size58, strOfNums_size]; omega)]
def refL (sch : Y) (s : List UInt8) : UrlE :=
 if (Ybi sch (s.takeWhile (Yza [47, 92, 63, 35]))).2.2.2 = 0 then urlOf sch (Ybi sch (s.takeWhile (Yza [47, 92, 63, 35]))).2.1 (Ybi sch (s.takeWhile (Yza [47, 92, 63, 35]))).2.2.1 (s.dropWhile (Yza [47, 92, 63, 35]))
 else Yjc (Ybi sch (s.takeWhile (Yza [47, 92, 63, 35]))).2.2.2
def refS (sch : Y) (s : List UInt8) : UrlE := if Ypc (s.headD 0) = true then refL sch (s.dropWhile Ypc) else Yjc 3
def refP (c : List UInt8) : UrlE :=
 if (c.length : Int) > 2048 then Yjc 5 else if Yle c = 0 then Yjc 3 else
  if lowL (c.take (Yle c - 1)) = Yxg ∨ lowL (c.take (Yle c - 1)) = Ybg then refS (ofL (lowL (c.take (Yle c - 1)))) (c.drop (Yle c)) else Yjc 16
theorem Ykk (l : List UInt8) : Lib.indexAny l [47, 92] = 0 ↔ Ypc (l.headD 0) = true := by
 cases l with
 | nil => simp [Lib.indexAny, Ypc]
 | cons b t =>
  have hge := Lib.indexAny_ge [47, 92] t
  rw [Lib.indexAny, List.headD_cons]
  have e : ([47, 92] : List UInt8).contains b = Ypc b := by simp [Ypc]; rfl
  rw [e]
  cases Ypc b with
  | true => simp
  | false =>
   simp only [Bool.false_eq_true, if_false, iff_false]
   split
   ·omega
   ·next h =>
    have : Lib.indexAny t [47, 92] ≠ -1 := fun e => h (by rw [e]; rfl)
    omega
theorem Ylk (c : UInt8) (l : List UInt8) : Lib.indexByte l c ≥ 0 ↔ l.contains c = true := by
 by_cases h : c ∈ l
 ·obtain ⟨a, b, rfl, hn⟩ := Yam c l h
  rw [byteAt c a b hn]
  simp
 ·rw [byteNot c l h]
  simp [h]
theorem notIn_fun (c : UInt8) : Yza [c] = (· != c) := funext fun b => Yzl c b
theorem place_ref (sch : Y) (s : List UInt8) (hs : Ypc (s.headD 0) = true) : Yzn sch (Yof s sch.data.toList ⟨#[]⟩ 0) = refL sch (s.dropWhile Ypc) := by
 have hdrop : Lib.trimLeftS s [47, 92] = s.dropWhile Ypc := by
  unfold Lib.trimLeftS
  congr 1
  funext b
  simp [Ypc]; rfl
 unfold Yof
 rw [if_pos ((Ykk s).2 hs)]
 unfold Yqb Yeg
 rw [hdrop, Ymq]
 generalize s.dropWhile Ypc = s'
 unfold refL Ybi
 rw [notIn_fun 58]
 generalize hh : s'.takeWhile (Yza [47, 92, 63, 35]) = h
 generalize hr : s'.dropWhile (Yza [47, 92, 63, 35]) = r
 by_cases c1 : h.contains 64 = true
 ·rw [if_pos ((Ylk 64 h).2 c1), if_pos c1]; rfl
 ·rw [if_neg (fun e => c1 ((Ylk 64 h).1 e)), if_neg c1]
  by_cases c2 : (Ywe (h.takeWhile (· != 58))).2 = 0
  ·rw [if_pos c2, if_pos c2]
   by_cases c3 : (h.dropWhile (· != 58)).drop 1 = []
   ·rw [if_pos c3, if_pos c3]; rfl
   ·rw [if_neg c3, if_neg c3]
    by_cases c4 : (numL 65535 ((h.dropWhile (· != 58)).drop 1)).2 = 0
    ·rw [if_pos c4, if_pos c4]
     by_cases c5 : (numL 65535 ((h.dropWhile (· != 58)).drop 1)).1 = ownN sch.data.toList
     ·rw [if_pos c5, if_pos c5]; rfl
     ·rw [if_neg c5, if_neg c5]; rfl
    ·rw [if_neg c4, if_neg c4]; rfl
  ·rw [if_neg c2, if_neg c2]
   simp only [Yzn]
   rw [if_pos c2, if_neg c2]
theorem refP_eq (c : List UInt8) : refP c = Ypn c := by
 unfold refP Ypn
 by_cases c1 : (c.length : Int) > 2048
 ·rw [if_pos c1, if_pos c1]
 ·rw [if_neg c1, if_neg c1, Ytq]
  by_cases c2 : Yle c = 0
  ·rw [if_pos c2, if_pos c2]; rfl
  ·rw [if_neg c2, if_neg c2]
   by_cases c3 : lowL (c.take (Yle c - 1)) = Yxg ∨ lowL (c.take (Yle c - 1)) = Ybg
   ·rw [if_pos c3, if_pos c3]
    unfold Yup refS
    simp only [not_true_eq_false, if_false, Ytb]
    by_cases c4 : Ypc ((c.drop (Yle c)).headD 0) = true
    ·rw [if_pos c4, ← place_ref _ _ c4, Ytb]
    ·rw [if_neg c4]
     unfold Yof
     rw [if_neg (fun e => c4 ((Ykk _).1 e))]; rfl
   ·rw [if_neg c3, if_neg c3]; rfl
theorem Yds (l : List UInt8) : Ytg l = refP (Ywf l) := by unfold Ytg; rw [refP_eq]
end Go.Proofs.YtihaeeldgimdiaaGreatDoor.X
