import Derived.Test.YtnmglnglbdpjjaaGreatDoorUfZl
set_option linter.all false
namespace Go.Proofs.YtnmglnglbdpjjaaGreatDoor.X
open Go.RowKit Go.Lib Go.Shelf Go.Yw.PrintWords Go.Yw.PrintLast Go.Yw.PrintMore
theorem rstring_f (a0 a1 : Y) (p : Int) (a3 a4 a5 : Y) (q f : Bool) (h0 : a0.size ≤ 1000000000000) (h1 : a1.size ≤ 1000000000000) (h3 : a3.size ≤ 1000000000000) (h4 : a4.size ≤ 1000000000000) (h5 : a5.size ≤ 1000000000000) (hp : 0 ≤ p) (hp2 : p < 1000000000000000000) :
  EvR (fun k => Yx.f k a0 a1 p a3 a4 a5 q f) (Ytd a0 a1 p a3 a4 a5 q f) := by
 have hs := Ymm a0 a1 p
 have fin : ∀ o : Y, o.size ≤ a0.size + a1.size + 24 → EvR (fun k => Yx.j0 k o a0 a1 p a3 a4 a5 q f) (Yxk (Yqj (o ++ a3) a4 q) a5 f) := by
  intro o ho
  refine EvR.succ (EvR.of fun k => ?_)
  rw [Yx.j0, if_pos Zk]
  cases q with
  | true =>
   rw [if_pos rfl, if_pos Zk, if_pos Zpb]
   cases f with
   | true => rw [if_pos rfl, if_pos Zk, if_pos Zlb]; rfl
   | false => rw [if_neg Zv]; rfl
  | false =>
   rw [if_neg Zv]
   cases f with
   | true => rw [if_pos rfl, if_pos Zk, if_pos Zqb]; rfl
   | false => rw [if_neg Zv]; rfl
 have c1 : a0.size + 3 ≤ 9223372036854775807 := by omega
 have c2 : (a0 ++ (⟨#[58, 47, 47]⟩ : Y)).size + a1.size ≤ 9223372036854775807 := by simp only [ByteArray.size_append, Yaj]; omega
 unfold Yx.f Ytd
 simp only [if_pos c1, if_pos c2]
 by_cases hz : p = 0
 ·have e : Yxf a0 a1 p = (a0 ++ (⟨#[58, 47, 47]⟩ : Y)) ++ a1 := by unfold Yxf; rw [if_pos hz]
  rw [e] at hs ⊢
  simp only [if_pos hz]
  exact fin _ hs
 ·have e : Yxf a0 a1 p = ((a0 ++ (⟨#[58, 47, 47]⟩ : Y)) ++ a1) ++ ((⟨#[58]⟩ : Y) ++ strOfNums (Yuf p.toNat)) := by unfold Yxf; rw [if_neg hz]
  rw [e] at hs ⊢
  simp only [if_neg hz]
  have ht := Ypr p Zk Zk
  have hzz : Ycj p = Yuf p.toNat := by unfold Ycj; rw [if_neg Zk]
  rw [hzz] at ht
  have htl := Yhg p.toNat
  refine EvR.bind (g := fun k vS => if 1 + vS.size ≤ 9223372036854775807 then (if ((a0 ++ (⟨#[58, 47, 47]⟩ : Y)) ++ a1).size + ((⟨#[58]⟩ : Y) ++ vS).size ≤ 9223372036854775807 then Yx.j0 k (((a0 ++ (⟨#[58, 47, 47]⟩ : Y)) ++ a1) ++ ((⟨#[58]⟩ : Y) ++ vS)) a0 a1 p a3 a4 a5 q f else none) else none) ht ?_
  refine (fin _ hs).congr fun k => ?_
  rw [if_pos Zwb, if_pos Zfb]
def refL (sch : Y) (s : List UInt8) : UrlE :=
 if (Ypi sch (s.takeWhile (Ydb [47, 92, 63, 35]))).2.2.2 = 0 then Yfo sch (Ypi sch (s.takeWhile (Ydb [47, 92, 63, 35]))).2.1 (Ypi sch (s.takeWhile (Ydb [47, 92, 63, 35]))).2.2.1 (s.dropWhile (Ydb [47, 92, 63, 35]))
 else Ytb (Ypi sch (s.takeWhile (Ydb [47, 92, 63, 35]))).2.2.2
def refS (sch : Y) (s : List UInt8) : UrlE := if Yrb (s.headD 0) = true then refL sch (s.dropWhile Yrb) else Ytb 3
def refP (c : List UInt8) : UrlE :=
 if (c.length : Int) > 2048 then Ytb 5 else if Yud c = 0 then Ytb 3 else
  if lowL (c.take (Yud c - 1)) = Yeh ∨ lowL (c.take (Yud c - 1)) = Yzf then refS (ofL (lowL (c.take (Yud c - 1)))) (c.drop (Yud c)) else Ytb 16
theorem Yll (l : List UInt8) : Lib.indexAny l [47, 92] = 0 ↔ Yrb (l.headD 0) = true := by
 cases l with
 | nil => simp [Lib.indexAny, Yrb]
 | cons b t =>
  have hge := Lib.indexAny_ge [47, 92] t
  rw [Lib.indexAny, List.headD_cons]
  have e : ([47, 92] : List UInt8).contains b = Yrb b := by simp [Yrb]; rfl
  rw [e]
  cases Yrb b with
  | true => simp
  | false =>
   simp only [Bool.false_eq_true, if_false, iff_false]
   split
   ·omega
   ·next h =>
    have : Lib.indexAny t [47, 92] ≠ -1 := fun e => h (by rw [e]; rfl)
    omega
theorem Ybl (c : UInt8) (l : List UInt8) : Lib.indexByte l c ≥ 0 ↔ l.contains c = true := by
 by_cases h : c ∈ l
 ·obtain ⟨a, b, rfl, hn⟩ := Ywk c l h
  rw [byteAt c a b hn]
  simp
 ·rw [byteNot c l h]
  simp [h]
theorem notIn_fun (c : UInt8) : Ydb [c] = (· != c) := funext fun b => Yxm c b
theorem place_ref (sch : Y) (s : List UInt8) (hs : Yrb (s.headD 0) = true) : Yul sch (Yrf s sch.data.toList ⟨#[]⟩ 0) = refL sch (s.dropWhile Yrb) := by
 have hdrop : Lib.trimLeftS s [47, 92] = s.dropWhile Yrb := by
  unfold Lib.trimLeftS
  congr 1
  funext b
  simp [Yrb]; rfl
 unfold Yrf
 rw [if_pos ((Yll s).2 hs)]
 unfold Ybc Ybg
 rw [hdrop, Yvr]
 generalize s.dropWhile Yrb = s'
 unfold refL Ypi
 rw [notIn_fun 58]
 generalize hh : s'.takeWhile (Ydb [47, 92, 63, 35]) = h
 generalize hr : s'.dropWhile (Ydb [47, 92, 63, 35]) = r
 by_cases c1 : h.contains 64 = true
 ·rw [if_pos ((Ybl 64 h).2 c1), if_pos c1]; rfl
 ·rw [if_neg (fun e => c1 ((Ybl 64 h).1 e)), if_neg c1]
  by_cases c2 : (Yif (h.takeWhile (· != 58))).2 = 0
  ·rw [if_pos c2, if_pos c2]
   by_cases c3 : (h.dropWhile (· != 58)).drop 1 = []
   ·rw [if_pos c3, if_pos c3]; rfl
   ·rw [if_neg c3, if_neg c3]
    by_cases c4 : (numL 65535 ((h.dropWhile (· != 58)).drop 1)).2 = 0
    ·rw [if_pos c4, if_pos c4]
     by_cases c5 : (numL 65535 ((h.dropWhile (· != 58)).drop 1)).1 = ownN sch.data.toList
     ·rw [if_pos c5, if_pos c5]; rfl
     ·rw [if_neg c5, if_neg c5]; rfl
    ·rw [if_neg c4, if_neg c4]; rfl
  ·rw [if_neg c2, if_neg c2]
   simp only [Yul]
   rw [if_pos c2, if_neg c2]
theorem refP_eq (c : List UInt8) : refP c = Yzl c := by
 unfold refP Yzl
 by_cases c1 : (c.length : Int) > 2048
 ·rw [if_pos c1, if_pos c1]
 ·rw [if_neg c1, if_neg c1, Yys]
  by_cases c2 : Yud c = 0
  ·rw [if_pos c2, if_pos c2]; rfl
  ·rw [if_neg c2, if_neg c2]
   by_cases c3 : lowL (c.take (Yud c - 1)) = Yeh ∨ lowL (c.take (Yud c - 1)) = Yzf
   ·rw [if_pos c3, if_pos c3]
    unfold Yvm refS
    simp only [not_true_eq_false, if_false, Ygb]
    by_cases c4 : Yrb ((c.drop (Yud c)).headD 0) = true
    ·rw [if_pos c4, ← place_ref _ _ c4, Ygb]
    ·rw [if_neg c4]
     unfold Yrf
     rw [if_neg (fun e => c4 ((Yll _).1 e))]; rfl
   ·rw [if_neg c3, if_neg c3]; rfl
theorem Ybv (l : List UInt8) : Yqf l = refP (Yqd l) := by unfold Yqf; rw [refP_eq]
end Go.Proofs.YtnmglnglbdpjjaaGreatDoor.X
