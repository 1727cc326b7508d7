/- Texts of this seat's proof that belong together. -/
import Derived.Test.YtfmjnmglagdcdaaGreatDoorCHWords
import Derived.Test.YtfmjnmglagdcdaaGreatDoorCHH1c
import Derived.Test.YtfmjnmglagdcdaaGreatDoorCHQa
import Derived.Test.YtfmjnmglagdcdaaGreatDoorCHX1
import Derived.Test.YtfmjnmglagdcdaaGreatDoorCHX5
section
namespace Go.Proofs.YtfmjnmglagdcdaaGreatDoor.X
open Go.RowKit Go.Lib Go.Shelf Go.Yw.PrintWords Go.Yw.PrintLast Go.Yw.PrintMore
set_option linter.unusedVariables false
set_option linter.unusedSimpArgs false
theorem Yob (l : List UInt8) : (ofL l).data.toList = l := rfl
theorem Yta (l : List UInt8) : (ofL l).size = l.length := by rw [Lib.size_eq]; rfl
theorem Yik (s : ByteArray) : ofL s.data.toList = s := rfl
theorem Yzb (l : List UInt8) : (ofL l).toList = l := by rw [Lib.toList_data]; rfl
theorem Ynk {a b : ByteArray} (h : a.data.toList = b.data.toList) : a = b := by rw [← Yik a, h, Yik]
theorem Yfo (s : ByteArray) (a b : Nat) : s.extract a b = ofL ((s.data.toList.drop a).take (b - a)) := Ynk (by rw [Lib.extract_data]; rfl)
theorem Yeg (s : ByteArray) (a : Nat) : s.extract a s.size = ofL (s.data.toList.drop a) := Ynk (by rw [Lib.extract_to_end]; rfl)
theorem Yuh (s : ByteArray) (a : Nat) : s.extract 0 a = ofL (s.data.toList.take a) := by rw [Yfo, List.drop_zero, Nat.sub_zero]
def Yge (b : UInt8) : List (List UInt8) → List (List UInt8)
 | [] => [[b]]
 | h :: t => (b :: h) :: t
def splitB (c : UInt8) : List UInt8 → List (List UInt8)
 | [] => [[]]
 | b :: l => if b = c then [] :: splitB c l else Yge b (splitB c l)
theorem Yze (c : UInt8) (l : List UInt8) : splitB c l ≠ [] := by
 cases l with
 | nil => simp [splitB]
 | cons b l =>
  unfold splitB
  split
  ·simp
  ·cases splitB c l <;> simp [Yge]
theorem Ymn (c : UInt8) (l : List UInt8) : (Lib.indexByte l c = -1 ∧ splitB c l = [l]) ∨ ∃ i : Nat, i < l.length ∧ Lib.indexByte l c = i ∧ splitB c l = l.take i :: splitB c (l.drop (i + 1)) := by
 induction l with
 | nil => left; exact ⟨rfl, rfl⟩
 | cons b l ih =>
  by_cases hb : b = c
  ·right
   refine ⟨0, Zy, ?_, ?_⟩
   ·unfold Lib.indexByte; rw [if_pos (by simpa using hb)]; rfl
   ·rw [splitB, if_pos hb]; rfl
  ·have hi : Lib.indexByte (b :: l) c = if (Lib.indexByte l c == -1) = true then -1 else Lib.indexByte l c + 1 := by
    rw [Lib.indexByte, if_neg (by simpa using hb)]
   rcases ih with ⟨h1, h2⟩ | ⟨i, h1, h2, h3⟩
   ·left
    refine ⟨by rw [hi, h1]; rfl, ?_⟩
    rw [splitB, if_neg hb, h2]; rfl
   ·right
    refine ⟨i + 1, Zta, ?_, ?_⟩
    ·rw [hi, h2, if_neg (fun e => by have := beq_iff_eq.1 e; omega)]; omega
    ·rw [splitB, if_neg hb, h3]; rfl
theorem Ygl (c : UInt8) (l : List UInt8) : (splitB c l).length ≤ l.length + 1 := by
 induction l with
 | nil => simp [splitB]
 | cons b l ih =>
  rw [splitB]
  split
  ·simp only [List.length_cons]; omega
  ·cases h : splitB c l with
   | nil => simp [Yge]
   | cons x y => rw [h] at ih; simp only [Yge, List.length_cons] at ih ⊢; omega
theorem split_l0 (c : UInt8) : ∀ (n : Nat) (s : ByteArray) (acc : List ByteArray), s.size ≤ n → acc.length + s.size ≤ 4294967281 → Ys.l0 (n + 1) s (c.toNat : Int) acc = some (acc ++ (splitB c s.data.toList).map ofL) := by
 intro n
 induction n with
 | zero =>
  intro s acc hs ha
  have h0 : s.data.toList = [] := List.eq_nil_of_length_eq_zero Zha
  have he : strings_IndexByte.f s (c.toNat : Int) = some (-1) := by unfold strings_IndexByte.f; rw [h0]; rfl
  unfold Ys.l0
  rw [he]
  simp only [Option.bind_some]
  rw [if_pos Zk, if_pos Zk, h0]
  have : s = ofL [] := Ynk h0
  rw [this]; rfl
 | succ n ih =>
  intro s acc hs ha
  have hb : ((c.toNat : Int)).toNat.toUInt8 = c := by simp
  have he : strings_IndexByte.f s (c.toNat : Int) = some (Lib.indexByte s.data.toList c) := by unfold strings_IndexByte.f; rw [hb]
  unfold Ys.l0
  rw [he]
  simp only [Option.bind_some]
  rcases Ymn c s.data.toList with ⟨h1, h2⟩ | ⟨i, h1, h2, h3⟩
  ·rw [h1, if_pos Zk, if_pos Zk, h2]; rfl
  ·rw [← Lib.size_eq] at h1
   have hw : wrap64 ((i : Int) + 1) = (i : Int) + 1 := by unfold wrap64; omega
   rw [h2, if_neg Zk, if_pos Zk, if_pos Zk, if_pos Zk, hw, if_pos Zk, if_pos Zk]
   have e1 : ((i : Int) + 1).toNat = i + 1 := by omega
   rw [e1, Int.toNat_natCast, ih _ _ Zla (by rw [ByteArray.size_extract, List.length_append]; simp only [List.length_cons, List.length_nil]; omega), h3, Yeg, Yuh, Yob]
   simp
theorem split_f (s : ByteArray) (c : UInt8) (hs : s.size ≤ 4294967281) : Ys.f (s.size + 1) s (c.toNat : Int) = some ((splitB c s.data.toList).map ofL) := by
 unfold Ys.f
 rw [split_l0 c s.size s [] (Nat.le_refl _) (by simpa using hs)]; rfl
def Yvf (l : List UInt8) : Nat := if Lib.replaceAll (lowL l) [37, 50, 101] [46] = [46] then 1 else if Lib.replaceAll (lowL l) [37, 50, 101] [46] = [46, 46] then 2 else 0
theorem Yif (l : List UInt8) : (lowL l).length = l.length := by unfold lowL; rw [List.length_map]
theorem countB_le (s sub : ByteArray) : Lib.countB s sub ≤ s.size + 1 := by
 unfold Lib.countB
 have := Lib.count_le s.data.toList sub.data.toList
 rw [← Lib.size_eq] at this
 omega
theorem dots_f (s : ByteArray) (hs : s.size ≤ 4294967200) : Ywf.f s = some (Yvf s.data.toList : Int) := by
 unfold Ywf.f Yqa.f
 rw [if_pos Zk]
 simp only [Option.bind_some]
 unfold strings_ReplaceAll.f
 have hc := countB_le (ofL (lowL s.data.toList)) ⟨#[37, 50, 101]⟩
 have hz : (ofL (lowL s.data.toList)).size = s.size := by rw [Yta, Yif, ← Lib.size_eq]
 rw [if_pos ⟨by rw [hz]; omega, by show 1 ≤ 3; omega, by rw [hz]; show s.size + _ * 1 ≤ _; rw [hz] at hc; omega⟩]
 simp only [Option.bind_some, Yzb]
 unfold Yvf
 show (if Lib.replaceAll (lowL s.data.toList) [37, 50, 101] [46] = [46] then some 1 else if Lib.replaceAll (lowL s.data.toList) [37, 50, 101] [46] = [46, 46] then some 2 else some 0) = _
 split
 ·rfl
 ·split <;> rfl
end Go.Proofs.YtfmjnmglagdcdaaGreatDoor.X
end
section
namespace Go.Proofs.YtfmjnmglagdcdaaGreatDoor.X
open Go.RowKit Go.Lib Go.Shelf Go.Yw.PrintWords Go.Yw.PrintLast Go.Yw.PrintMore
set_option linter.unusedVariables false
set_option linter.unusedSimpArgs false
def Yrd (part : List UInt8) (b : UInt8) : List UInt8 := if decide (32 < b.toNat) && (decide (b.toNat < 127) && !part.contains b) then [b] else Yqd [] b
def Ydb (part l : List UInt8) : List UInt8 := l.flatMap (Yrd part)
theorem partB_le (part : List UInt8) (b : UInt8) : (Yrd part b).length ≤ 3 := by
 unfold Yrd
 split
 ·simp
 ·exact Yei _ _
theorem Yyf (part l : List UInt8) : (Ydb part l).length ≤ 3 * l.length := by
 induction l with
 | nil => simp [Ydb]
 | cons b l ih =>
  have := partB_le part b
  simp only [Ydb, List.flatMap_cons, List.length_append, List.length_cons] at ih ⊢
  omega
theorem Yph (part l : List UInt8) (b : UInt8) : Ydb part (l ++ [b]) = Ydb part l ++ Yrd part b := by simp [Ydb]
theorem Ykn (s : ByteArray) (i : Nat) (h : i < s.size) : (s.extract i (i + 1)).data.toList = [s.get! i] := by
 rw [Lib.extract_data, show i + 1 - i = 1 by omega]
 have h1 := get!_data s i h
 rw [List.drop_eq_getElem_cons Zha]
 rw [List.getElem?_eq_getElem Zha] at h1
 simp only [Option.some.injEq] at h1
 rw [h1]; rfl
def Ylb.f (a0 a1 : ByteArray) : Option ByteArray := if a0.size ≤ 4294967281 then some (ofL (Ydb a1.data.toList a0.data.toList)) else none
set_option maxHeartbeats 8000000 in
set_option maxRecDepth 100000 in
theorem Ylb.calls (a0 a1 : ByteArray) (r : ByteArray) (w : World) (hE : EnvOk w) (h : Ylb.f a0 a1 = some r) :
  Calls Tryz.prog 82 #[.string a0, .string a1] w fun e w' => e = .returned (.string r) ∧ Below w.heap.size w w' := by
 unfold Ylb.f at h
 by_cases hs : a0.size ≤ 4294967281
 ·rw [if_pos hs] at h
  obtain rfl := Option.some.inj h
  have HE := Ya.mk hE
  clear hE h
  go_enter Tryz.func82, Tryz.ntmps82
  go_wp2
  go_loopg [6, 7, 10] a0.size (fun g _ _ v10 wx => ∃ (i : Nat), i + g ≤ a0.size ∧ a0.size ≤ i + g ∧ v10 = .int .i64 (i : Int) ∧ Ya (Ygg w.heap.size w.heap.size (Ydb a1.data.toList (a0.data.toList.take i)) wx) ∧ Ya (Below w.heap.size w wx))
  case atStart => exact ⟨0, Zk, Zk, rfl, ⟨Yzl w⟩, ⟨(Below.refl _ _).alloc (Nat.le_refl _) _⟩⟩
  case round =>
   obtain ⟨i, hi1, hi2, rfl, HI, HB⟩ := hrel
   cases gk with
   | zero =>
    obtain rfl : i = a0.size := by omega
    go_wp2_with fail
    refine (Ysh w.heap.size w.heap.size _ _ HI.out HB.out.size).mono ?_
    rintro e w2 ⟨rfl, hb2⟩
    have HB2 := Ya.mk (HB.out.trans hb2)
    clear hb2
    go_wp2
    go_ret
    exact ⟨by rw [List.take_of_length_le (by rw [← Lib.size_eq]; exact Nat.le_refl _)]; rfl, HB2.out⟩
   | succ g =>
    have hi : i < a0.size := by omega
    have hlt : decide ((i : Int) < (a0.size : Int)) = true := decide_eq_true Zk
    have hg := get!_at a0 i hi
    have HT := Ya.mk (Ykl a0 i hi)
    have HL := Ya.mk (Yyf a1.data.toList (a0.data.toList.take i))
    have hle : Ya ((a0.data.toList.take i).length ≤ i) := ⟨List.length_take_le _ _⟩
    have HX1 := Ya.mk (Ykn a0 i hi)
    obtain ⟨b, hb⟩ : ∃ b, b = a0.get! i := ⟨_, rfl⟩
    rw [← hb] at hg HT HX1
    have hx : (a0[i]'hi).toNat = b.toNat := by rw [hg]
    clear hb hg
    have HE1 := Ya.mk (HE.out.below HB.out)
    have hbt := b.toNat_lt
    have HX := Ya.mk (Ysg a1.data.toList b)
    have HBk := Ya.mk (show ((b.toNat : Int)).toNat.toUInt8 = b by simp)
    by_cases h1 : 32 < b.toNat ∧ b.toNat < 127
    ·have d1 : decide ((32 : Int) < (b.toNat : Int)) = true := decide_eq_true Zk
     have d2 : decide ((b.toNat : Int) < 127) = true := decide_eq_true Zk
     cases hc : a1.data.toList.contains b with
     | false =>
      rw [hc] at HX
      have HM := Ya.mk (show Yrd a1.data.toList b = [b] by unfold Yrd; rw [hc, decide_eq_true h1.1, decide_eq_true h1.2]; rfl)
      have hx1 : decide (Lib.indexByte a1.data.toList b < 0) = true := by
       have := of_decide_eq_false HX.out
       exact decide_eq_true Zk
      clear h1 hc
      go_wp2_with fail
      refine (Tryz.strings_IndexByte _ _ _).mono ?_
      rintro e w2 ⟨rfl, hw2⟩
      rw [hw2, HBk.out]
      clear hw2
      go_wp2_with fail
      refine (Yzd w.heap.size w.heap.size _ b _ HI.out Zpa HB.out.size).mono ?_
      rintro e w3 ⟨rfl, hi3, hb3⟩
      have HI3 := Ya.mk hi3
      have HB3 := Ya.mk (HB.out.trans hb3)
      clear hi3 hb3
      go_wp2
      go_roundg g
      case measure => omega
      case rel => exact ⟨i + 1, Zk, Zk, by go_num, ⟨by rw [HT.out, Yph, HM.out]; exact HI3.out⟩, HB3⟩
     | true =>
      rw [hc] at HX
      have HM := Ya.mk (show Yrd a1.data.toList b = Yqd [] b by unfold Yrd; rw [hc]; simp)
      have hx1 : decide (Lib.indexByte a1.data.toList b < 0) = false := by
       have := of_decide_eq_true HX.out
       exact decide_eq_false Zk
      have HF := Ya.mk (show Ycc.f (a0.extract i (i + 1)) ⟨#[]⟩ = some (ofL (Yqd [] b)) by
       unfold Ycc.f
       rw [if_pos Zla, HX1.out]
       simp [Yih])
      have k5 : (i : Int) + 1 ≤ (a0.size : Int) := by omega
      clear h1 hc
      go_wp2_with fail
      refine (Tryz.strings_IndexByte _ _ _).mono ?_
      rintro e w2 ⟨rfl, hw2⟩
      rw [hw2, HBk.out]
      clear hw2
      go_wp2_with fail
      refine (Ycc.calls _ _ _ _ HE1.out HF.out).mono ?_
      rintro e w3 ⟨rfl, hb3⟩
      have HI3 := Ya.mk (HI.out.below hb3)
      have HB3 := Ya.mk (HB.out.trans (hb3.mono HB.out.size))
      clear hb3
      go_wp2_with fail
      refine (bld_str w.heap.size w.heap.size _ _ _ HI3.out (by have := HL.out; have := hle.out; have := Yei [] b; rw [Lib.size_eq]; show _ + (Yqd [] b).length ≤ _; omega) HB3.out.size).mono ?_
      rintro e w4 ⟨rfl, hi4, hb4⟩
      have HI4 := Ya.mk hi4
      have HB4 := Ya.mk (HB3.out.trans hb4)
      clear hi4 hb4
      go_wp2
      go_roundg g
      case measure => omega
      case rel => exact ⟨i + 1, Zk, Zk, by go_num, ⟨by rw [HT.out, Yph, HM.out]; exact HI4.out⟩, HB4⟩
    ·have HM := Ya.mk (show Yrd a1.data.toList b = Yqd [] b by unfold Yrd; rw [if_neg]; simp only [Bool.and_eq_true, decide_eq_true_eq]; exact fun hx => h1 ⟨hx.1, hx.2.1⟩)
     have HF := Ya.mk (show Ycc.f (a0.extract i (i + 1)) ⟨#[]⟩ = some (ofL (Yqd [] b)) by
      unfold Ycc.f
      rw [if_pos Zla, HX1.out]
      simp [Yih])
     have k5 : (i : Int) + 1 ≤ (a0.size : Int) := by omega
     have hcase : decide ((32 : Int) < (b.toNat : Int)) = false ∨ (decide ((32 : Int) < (b.toNat : Int)) = true ∧ decide ((b.toNat : Int) < 127) = false) := by
      by_cases hq : 32 < b.toNat
      ·right; exact ⟨decide_eq_true Zk, decide_eq_false Zk⟩
      ·left; exact decide_eq_false Zk
     clear h1
     rcases hcase with d1 | ⟨d1, d2⟩
     all_goals
      go_wp2_with fail
      refine (Ycc.calls _ _ _ _ HE1.out HF.out).mono ?_
      rintro e w3 ⟨rfl, hb3⟩
      have HI3 := Ya.mk (HI.out.below hb3)
      have HB3 := Ya.mk (HB.out.trans (hb3.mono HB.out.size))
      clear hb3
      go_wp2_with fail
      refine (bld_str w.heap.size w.heap.size _ _ _ HI3.out (by have := HL.out; have := hle.out; have := Yei [] b; rw [Lib.size_eq]; show _ + (Yqd [] b).length ≤ _; omega) HB3.out.size).mono ?_
      rintro e w4 ⟨rfl, hi4, hb4⟩
      have HI4 := Ya.mk hi4
      have HB4 := Ya.mk (HB3.out.trans hb4)
      clear hi4 hb4
      go_wp2
      go_roundg g
      case measure => omega
      case rel => exact ⟨i + 1, Zk, Zk, by go_num, ⟨by rw [HT.out, Yph, HM.out]; exact HI4.out⟩, HB4⟩
 ·rw [if_neg hs] at h; cases h
end Go.Proofs.YtfmjnmglagdcdaaGreatDoor.X
end
