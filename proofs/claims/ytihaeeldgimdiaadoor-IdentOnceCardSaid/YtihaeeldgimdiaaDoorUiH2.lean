/- url.marked: a text marked for a part of a URL. -/
import Derived.Test.YtihaeeldgimdiaaDoorUiH1
namespace Go.Proofs.YtihaeeldgimdiaaDoor.X
open Go.RowKit Go.Lib Go.Shelf Go.Proofs.YtihaeeldgimdiaaDoorW.PrintWords Go.Proofs.YtihaeeldgimdiaaDoorW.PrintLast Go.Proofs.YtihaeeldgimdiaaDoorW.PrintMore
set_option linter.unusedVariables false
set_option linter.unusedSimpArgs false
def partB (part : List UInt8) (b : UInt8) : List UInt8 := if decide (32 < b.toNat) && (decide (b.toNat < 127) && !part.contains b) then [b] else markB [] b
def partL (part l : List UInt8) : List UInt8 := l.flatMap (partB part)
theorem partB_le (part : List UInt8) (b : UInt8) : (partB part b).length ≤ 3 := by
 unfold partB
 split
 ·simp
 ·exact markB_le _ _
theorem partL_le (part l : List UInt8) : (partL part l).length ≤ 3 * l.length := by
 induction l with
 | nil => simp [partL]
 | cons b l ih =>
  have := partB_le part b
  simp only [partL, List.flatMap_cons, List.length_append, List.length_cons] at ih ⊢
  omega
theorem partL_snoc (part l : List UInt8) (b : UInt8) : partL part (l ++ [b]) = partL part l ++ partB part b := by simp [partL]
theorem extract_one (s : ByteArray) (i : Nat) (h : i < s.size) : (s.extract i (i + 1)).data.toList = [s.get! i] := by
 rw [Lib.extract_data, show i + 1 - i = 1 by omega]
 have h1 := get!_data s i h
 rw [List.drop_eq_getElem_cons (by rw [← Lib.size_eq]; omega)]
 rw [List.getElem?_eq_getElem (by rw [← Lib.size_eq]; omega)] at h1
 simp only [Option.some.injEq] at h1
 rw [h1]; rfl
def url_marked.f (a0 a1 : ByteArray) : Option ByteArray := if a0.size ≤ 4294967281 then some (ofL (partL a1.data.toList a0.data.toList)) else none
set_option maxHeartbeats 8000000 in
set_option maxRecDepth 100000 in
theorem url_marked.calls (a0 a1 : ByteArray) (r : ByteArray) (w : World) (hE : EnvOk w) (h : url_marked.f a0 a1 = some r) :
  Calls Tryd.prog 47 #[.string a0, .string a1] w fun e w' => e = .returned (.string r) ∧ Below w.heap.size w w' := by
 unfold url_marked.f at h
 by_cases hs : a0.size ≤ 4294967281
 ·rw [if_pos hs] at h
  obtain rfl := Option.some.inj h
  have HE := Aside0.mk hE
  clear hE h
  go_enter Tryd.func47, Tryd.ntmps47
  go_wp2
  go_loopg [6, 7, 10] a0.size (fun g _ _ v10 wx => ∃ (i : Nat), i + g ≤ a0.size ∧ a0.size ≤ i + g ∧ v10 = .int .i64 (i : Int) ∧ Aside0 (IsBld w.heap.size w.heap.size (partL a1.data.toList (a0.data.toList.take i)) wx) ∧ Aside0 (Below w.heap.size w wx))
  case atStart => exact ⟨0, by omega, by omega, rfl, ⟨bld_new w⟩, ⟨(Below.refl _ _).alloc (Nat.le_refl _) _⟩⟩
  case round =>
   obtain ⟨i, hi1, hi2, rfl, HI, HB⟩ := hrel
   cases gk with
   | zero =>
    obtain rfl : i = a0.size := by omega
    go_wp2_with fail
    refine (bld_string w.heap.size w.heap.size _ _ HI.out HB.out.size).mono ?_
    rintro e w2 ⟨rfl, hb2⟩
    have HB2 := Aside0.mk (HB.out.trans hb2)
    clear hb2
    go_wp2
    go_ret
    exact ⟨by rw [List.take_of_length_le (by rw [← Lib.size_eq]; exact Nat.le_refl _)]; rfl, HB2.out⟩
   | succ g =>
    have hi : i < a0.size := by omega
    have hlt : decide ((i : Int) < (a0.size : Int)) = true := decide_eq_true (by omega)
    have hg := get!_at a0 i hi
    have HT := Aside0.mk (take_snoc a0 i hi)
    have HL := Aside0.mk (partL_le a1.data.toList (a0.data.toList.take i))
    have hle : Aside0 ((a0.data.toList.take i).length ≤ i) := ⟨List.length_take_le _ _⟩
    have HX1 := Aside0.mk (extract_one a0 i hi)
    obtain ⟨b, hb⟩ : ∃ b, b = a0.get! i := ⟨_, rfl⟩
    rw [← hb] at hg HT HX1
    have hx : (a0[i]'hi).toNat = b.toNat := by rw [hg]
    clear hb hg
    have HE1 := Aside0.mk (HE.out.below HB.out)
    have hbt := b.toNat_lt
    have HX := Aside0.mk (contains_index a1.data.toList b)
    have HBk := Aside0.mk (show ((b.toNat : Int)).toNat.toUInt8 = b by simp)
    by_cases h1 : 32 < b.toNat ∧ b.toNat < 127
    ·have d1 : decide ((32 : Int) < (b.toNat : Int)) = true := decide_eq_true (by omega)
     have d2 : decide ((b.toNat : Int) < 127) = true := decide_eq_true (by omega)
     cases hc : a1.data.toList.contains b with
     | false =>
      rw [hc] at HX
      have HM := Aside0.mk (show partB a1.data.toList b = [b] by unfold partB; rw [hc, decide_eq_true h1.1, decide_eq_true h1.2]; rfl)
      have hx1 : decide (Lib.indexByte a1.data.toList b < 0) = true := by
       have := of_decide_eq_false HX.out
       exact decide_eq_true (by omega)
      clear h1 hc
      go_wp2_with fail
      refine (Tryd.strings_IndexByte _ _ _).mono ?_
      rintro e w2 ⟨rfl, hw2⟩
      rw [hw2, HBk.out]
      clear hw2
      go_wp2_with fail
      refine (bld_byte w.heap.size w.heap.size _ b _ HI.out (by have := HL.out; have := hle.out; omega) HB.out.size).mono ?_
      rintro e w3 ⟨rfl, hi3, hb3⟩
      have HI3 := Aside0.mk hi3
      have HB3 := Aside0.mk (HB.out.trans hb3)
      clear hi3 hb3
      go_wp2
      go_roundg g
      case measure => omega
      case rel => exact ⟨i + 1, by omega, by omega, by go_num, ⟨by rw [HT.out, partL_snoc, HM.out]; exact HI3.out⟩, HB3⟩
     | true =>
      rw [hc] at HX
      have HM := Aside0.mk (show partB a1.data.toList b = markB [] b by unfold partB; rw [hc]; simp)
      have hx1 : decide (Lib.indexByte a1.data.toList b < 0) = false := by
       have := of_decide_eq_true HX.out
       exact decide_eq_false (by omega)
      have HF := Aside0.mk (show percent_Mark.f (a0.extract i (i + 1)) ⟨#[]⟩ = some (ofL (markB [] b)) by
       unfold percent_Mark.f
       rw [if_pos (by rw [ByteArray.size_extract]; omega), HX1.out]
       simp [markL])
      have k5 : (i : Int) + 1 ≤ (a0.size : Int) := by omega
      clear h1 hc
      go_wp2_with fail
      refine (Tryd.strings_IndexByte _ _ _).mono ?_
      rintro e w2 ⟨rfl, hw2⟩
      rw [hw2, HBk.out]
      clear hw2
      go_wp2_with fail
      refine (percent_Mark.calls _ _ _ _ HE1.out HF.out).mono ?_
      rintro e w3 ⟨rfl, hb3⟩
      have HI3 := Aside0.mk (HI.out.below hb3)
      have HB3 := Aside0.mk (HB.out.trans (hb3.mono HB.out.size))
      clear hb3
      go_wp2_with fail
      refine (bld_str w.heap.size w.heap.size _ _ _ HI3.out (by have := HL.out; have := hle.out; have := markB_le [] b; rw [Lib.size_eq]; show _ + (markB [] b).length ≤ _; omega) HB3.out.size).mono ?_
      rintro e w4 ⟨rfl, hi4, hb4⟩
      have HI4 := Aside0.mk hi4
      have HB4 := Aside0.mk (HB3.out.trans hb4)
      clear hi4 hb4
      go_wp2
      go_roundg g
      case measure => omega
      case rel => exact ⟨i + 1, by omega, by omega, by go_num, ⟨by rw [HT.out, partL_snoc, HM.out]; exact HI4.out⟩, HB4⟩
    ·have HM := Aside0.mk (show partB a1.data.toList b = markB [] b by unfold partB; rw [if_neg]; simp only [Bool.and_eq_true, decide_eq_true_eq]; exact fun hx => h1 ⟨hx.1, hx.2.1⟩)
     have HF := Aside0.mk (show percent_Mark.f (a0.extract i (i + 1)) ⟨#[]⟩ = some (ofL (markB [] b)) by
      unfold percent_Mark.f
      rw [if_pos (by rw [ByteArray.size_extract]; omega), HX1.out]
      simp [markL])
     have k5 : (i : Int) + 1 ≤ (a0.size : Int) := by omega
     have hcase : decide ((32 : Int) < (b.toNat : Int)) = false ∨ (decide ((32 : Int) < (b.toNat : Int)) = true ∧ decide ((b.toNat : Int) < 127) = false) := by
      by_cases hq : 32 < b.toNat
      ·right; exact ⟨decide_eq_true (by omega), decide_eq_false (by omega)⟩
      ·left; exact decide_eq_false (by omega)
     clear h1
     rcases hcase with d1 | ⟨d1, d2⟩
     all_goals
      go_wp2_with fail
      refine (percent_Mark.calls _ _ _ _ HE1.out HF.out).mono ?_
      rintro e w3 ⟨rfl, hb3⟩
      have HI3 := Aside0.mk (HI.out.below hb3)
      have HB3 := Aside0.mk (HB.out.trans (hb3.mono HB.out.size))
      clear hb3
      go_wp2_with fail
      refine (bld_str w.heap.size w.heap.size _ _ _ HI3.out (by have := HL.out; have := hle.out; have := markB_le [] b; rw [Lib.size_eq]; show _ + (markB [] b).length ≤ _; omega) HB3.out.size).mono ?_
      rintro e w4 ⟨rfl, hi4, hb4⟩
      have HI4 := Aside0.mk hi4
      have HB4 := Aside0.mk (HB3.out.trans hb4)
      clear hi4 hb4
      go_wp2
      go_roundg g
      case measure => omega
      case rel => exact ⟨i + 1, by omega, by omega, by go_num, ⟨by rw [HT.out, partL_snoc, HM.out]; exact HI4.out⟩, HB4⟩
 ·rw [if_neg hs] at h; cases h
end Go.Proofs.YtihaeeldgimdiaaDoor.X
