/- Small letters, marking and unmarking of bytes. -/
import Derived.Test.YtihaeeldgimdiaaDoorUiH0
import Derived.Test.YtihaeeldgimdiaaDoorUiX1
import Derived.Test.YtihaeeldgimdiaaDoorUiX3
import Derived.Outline
namespace Go.Proofs.YtihaeeldgimdiaaDoor.X
open Go.RowKit Go.Lib Go.Shelf Go.Proofs.YtihaeeldgimdiaaDoorW.PrintWords Go.Proofs.YtihaeeldgimdiaaDoorW.PrintLast Go.Proofs.YtihaeeldgimdiaaDoorW.PrintMore
set_option linter.unusedVariables false
set_option linter.unusedSimpArgs false
def isUpperB (b : UInt8) : Bool := decide (65 ≤ b.toNat) && decide (b.toNat ≤ 90)
def lowB (b : UInt8) : UInt8 := if isUpperB b then b + 32 else b
def isLetterB (b : UInt8) : Bool := isUpperB b || (decide (97 ≤ b.toNat) && decide (b.toNat ≤ 122))
def isDigitB (b : UInt8) : Bool := decide (48 ≤ b.toNat) && decide (b.toNat ≤ 57)
def plainB (b : UInt8) : Bool := isLetterB b || isDigitB b || b == 45 || b == 46 || b == 95 || b == 126
def hexB (n : Nat) : UInt8 := if n < 10 then UInt8.ofNat (48 + n) else UInt8.ofNat (55 + n)
theorem byte_all {p : UInt8 → Prop} (h : ∀ x : Fin 256, p (UInt8.ofNat x.val)) (b : UInt8) : p b := by
 have := h ⟨b.toNat, b.toNat_lt⟩
 simpa using this
theorem low_f (b : UInt8) : ascii_low.f (b.toNat : Int) = some ((lowB b).toNat : Int) := by
 revert b; exact byte_all (by decide +kernel)
theorem plain_f (b : UInt8) : percent_isPlain.f (b.toNat : Int) = some (plainB b) := by
 revert b; exact byte_all (by decide +kernel)
theorem letter_f (b : UInt8) : ascii_IsLetter.f (b.toNat : Int) = some (isLetterB b) := by
 revert b; exact byte_all (by decide +kernel)
theorem digit_f (b : UInt8) : ascii_IsDigit.f (b.toNat : Int) = some (isDigitB b) := by
 revert b; exact byte_all (by decide +kernel)
theorem hex_hi (b : UInt8) : bt ⟨#[48, 49, 50, 51, 52, 53, 54, 55, 56, 57, 65, 66, 67, 68, 69, 70]⟩ ((b.toNat : Int) / 16) = ((hexB (b.toNat / 16)).toNat : Int) := by
 revert b; exact byte_all (by decide +kernel)
theorem hexAt (x : Fin 16) : ((⟨#[48, 49, 50, 51, 52, 53, 54, 55, 56, 57, 65, 66, 67, 68, 69, 70]⟩ : ByteArray)[x.val]'x.isLt).toNat = (hexB x.val).toNat := by
 revert x; decide +kernel
theorem hexAt_lo (b : UInt8) {h : b.toNat % 16 < (⟨#[48, 49, 50, 51, 52, 53, 54, 55, 56, 57, 65, 66, 67, 68, 69, 70]⟩ : ByteArray).size} : ((⟨#[48, 49, 50, 51, 52, 53, 54, 55, 56, 57, 65, 66, 67, 68, 69, 70]⟩ : ByteArray)[b.toNat % 16]'h).toNat = (hexB (b.toNat % 16)).toNat :=
 hexAt ⟨b.toNat % 16, h⟩
theorem and15 (b : UInt8) : 0 ≤ Go.bits .and .u8 (b.toNat : Int) 15 ∧ Go.bits .and .u8 (b.toNat : Int) 15 < 16 := by
 revert b; exact byte_all (by decide +kernel)
def lowL (l : List UInt8) : List UInt8 := l.map lowB
def markB (free : List UInt8) (b : UInt8) : List UInt8 := if plainB b || free.contains b then [b] else [37, hexB (b.toNat / 16), hexB (b.toNat % 16)]
def markL (free l : List UInt8) : List UInt8 := l.flatMap (markB free)
theorem markB_le (free : List UInt8) (b : UInt8) : (markB free b).length ≤ 3 := by unfold markB; split <;> simp
theorem markL_le (free l : List UInt8) : (markL free l).length ≤ 3 * l.length := by
 induction l with
 | nil => simp [markL]
 | cons b l ih =>
  have := markB_le free b
  simp only [markL, List.flatMap_cons, List.length_append, List.length_cons] at ih ⊢
  omega
theorem take_snoc (s : ByteArray) (i : Nat) (h : i < s.size) : s.data.toList.take (i + 1) = s.data.toList.take i ++ [s.get! i] := by
 rw [List.take_add_one, get!_data s i h]; rfl
theorem contains_index (l : List UInt8) (b : UInt8) : decide (Lib.indexByte l b ≥ 0) = l.contains b := (Lib.contains_iff_indexByte l b).symm
theorem markL_snoc (free l : List UInt8) (b : UInt8) : markL free (l ++ [b]) = markL free l ++ markB free b := by simp [markL]
theorem bld_drewN {B b : Nat} {l : List UInt8} {w : World} (h : IsBld B b l w) (n : Nat) : IsBld B b l (w.drewN n) := h.below (pw_below_drewN (Below.refl _ _) n)
def percent_Mark.f (a0 a1 : ByteArray) : Option ByteArray := if a0.size ≤ 4294967281 then some (ofL (markL a1.data.toList a0.data.toList)) else none
set_option maxHeartbeats 8000000 in
set_option maxRecDepth 100000 in
theorem percent_Mark.calls (a0 a1 : ByteArray) (r : ByteArray) (w : World) (hE : EnvOk w) (h : percent_Mark.f a0 a1 = some r) :
  Calls Tryd.prog 72 #[.string a0, .string a1] w fun e w' => e = .returned (.string r) ∧ Below w.heap.size w w' := by
 unfold percent_Mark.f at h
 by_cases hs : a0.size ≤ 4294967281
 ·rw [if_pos hs] at h
  obtain rfl := Option.some.inj h
  have HE := Aside0.mk hE
  clear hE h
  go_enter Tryd.func72, Tryd.ntmps72
  go_wp2
  go_loopg [6, 7, 10] a0.size (fun g _ _ v10 wx => ∃ (i : Nat), i + g ≤ a0.size ∧ a0.size ≤ i + g ∧ v10 = .int .i64 (i : Int) ∧ Aside0 (IsBld w.heap.size w.heap.size (markL a1.data.toList (a0.data.toList.take i)) wx) ∧ Aside0 (Below w.heap.size w wx))
  case atStart => exact ⟨0, by omega, by omega, rfl, ⟨bld_new w⟩, ⟨(Below.refl _ _).alloc (Nat.le_refl _) _⟩⟩
  case round =>
   obtain ⟨i, hi1, hi2, rfl, HI, HB⟩ := hrel
   cases gk with
   | zero =>
    obtain rfl : i = a0.size := by omega
    go_wp2_with fail
    refine (bld_string w.heap.size w.heap.size _ _ HI.out HB.out.size).mono ?_
    rintro e w2 ⟨rfl, hb2⟩
    have HB2 := Aside0.mk (HB.out.trans hb2)
    clear hb2
    go_wp2
    go_ret
    exact ⟨by rw [List.take_of_length_le (by rw [← Lib.size_eq]; exact Nat.le_refl _)]; rfl, HB2.out⟩
   | succ g =>
    have hi : i < a0.size := by omega
    have hlt : decide ((i : Int) < (a0.size : Int)) = true := decide_eq_true (by omega)
    have hg := get!_at a0 i hi
    have HT := Aside0.mk (take_snoc a0 i hi)
    have HL := Aside0.mk (markL_le a1.data.toList (a0.data.toList.take i))
    have hle : Aside0 ((a0.data.toList.take i).length ≤ i) := ⟨List.length_take_le _ _⟩
    obtain ⟨b, hb⟩ : ∃ b, b = a0.get! i := ⟨_, rfl⟩
    rw [← hb] at hg HT
    have hx : (a0[i]'hi).toNat = b.toNat := by rw [hg]
    clear hb hg
    have HE1 := Aside0.mk (HE.out.below HB.out)
    have HP := Aside0.mk (plain_f b)
    have hbt := b.toNat_lt
    cases hp : plainB b with
    | true =>
     rw [hp] at HP
     have HM := Aside0.mk (show markB a1.data.toList b = [b] by simp [markB, hp])
     clear hp
     go_wp2_with fail
     refine (percent_isPlain.calls (b.toNat : Int) _ _ HE1.out HP.out).mono ?_
     rintro e w2 ⟨rfl, ⟨n, rfl⟩⟩
     go_wp2_with fail
     refine (bld_byte w.heap.size w.heap.size _ b _ (bld_drewN HI.out n) (by have := HL.out; have := hle.out; omega) (pw_below_drewN HB.out n).size).mono ?_
     rintro e w3 ⟨rfl, hi3, hb3⟩
     have HI3 := Aside0.mk hi3
     have HB3 := Aside0.mk ((pw_below_drewN HB.out n).trans hb3)
     clear hi3 hb3
     go_wp2
     go_roundg g
     case measure => omega
     case rel => exact ⟨i + 1, by omega, by omega, by go_num, ⟨by rw [HT.out, markL_snoc, HM.out]; exact HI3.out⟩, HB3⟩
    | false =>
     rw [hp] at HP
     have HX := Aside0.mk (contains_index a1.data.toList b)
     have hback : ((b.toNat : Int)).toNat.toUInt8 = b := by simp
     have HBk := Aside0.mk hback
     clear hback
     have HE2 := Aside0.mk (HE.out)
     cases hc : a1.data.toList.contains b with
     | true =>
      rw [hc] at HX
      have HM := Aside0.mk (show markB a1.data.toList b = [b] by unfold markB; rw [hp, hc]; rfl)
      clear hp hc
      go_wp2_with fail
      refine (percent_isPlain.calls (b.toNat : Int) _ _ HE1.out HP.out).mono ?_
      rintro e w2 ⟨rfl, ⟨n, rfl⟩⟩
      go_wp2_with fail
      refine (Tryd.strings_IndexByte _ _ _).mono ?_
      rintro e w2 ⟨rfl, hw2⟩
      rw [hw2, HBk.out]
      clear hw2
      have hx1 : decide (0 ≤ Lib.indexByte a1.data.toList b) = true := HX.out
      go_wp2_with fail
      refine (bld_byte w.heap.size w.heap.size _ b _ (bld_drewN HI.out n) (by have := HL.out; have := hle.out; omega) (pw_below_drewN HB.out n).size).mono ?_
      rintro e w3 ⟨rfl, hi3, hb3⟩
      have HI3 := Aside0.mk hi3
      have HB3 := Aside0.mk ((pw_below_drewN HB.out n).trans hb3)
      clear hi3 hb3
      go_wp2
      go_roundg g
      case measure => omega
      case rel => exact ⟨i + 1, by omega, by omega, by go_num, ⟨by rw [HT.out, markL_snoc, HM.out]; exact HI3.out⟩, HB3⟩
     | false =>
      rw [hc] at HX
      have HM := Aside0.mk (show markB a1.data.toList b = [37, hexB (b.toNat / 16), hexB (b.toNat % 16)] by unfold markB; rw [hp, hc]; rfl)
      clear hp hc
      go_wp2_with fail
      refine (percent_isPlain.calls (b.toNat : Int) _ _ HE1.out HP.out).mono ?_
      rintro e w2 ⟨rfl, ⟨n, rfl⟩⟩
      go_wp2_with fail
      refine (Tryd.strings_IndexByte _ _ _).mono ?_
      rintro e w2 ⟨rfl, hw2⟩
      rw [hw2, HBk.out]
      clear hw2
      have hx1 : decide (0 ≤ Lib.indexByte a1.data.toList b) = false := HX.out
      go_wp2_with fail
      refine (bld_byte w.heap.size w.heap.size _ 37 _ (bld_drewN HI.out n) (by have := HL.out; have := hle.out; omega) (pw_below_drewN HB.out n).size).mono ?_
      rintro e w3 ⟨rfl, hi3, hb3⟩
      have HI3 := Aside0.mk hi3
      have HB3 := Aside0.mk ((pw_below_drewN HB.out n).trans hb3)
      clear hi3 hb3
      have k1 : (0 : Int) ≤ (b.toNat : Int) / 16 := by omega
      have k2 : (b.toNat : Int) / 16 < ((16 : Nat) : Int) := by omega
      have hx4 := bt_at ⟨#[48, 49, 50, 51, 52, 53, 54, 55, 56, 57, 65, 66, 67, 68, 69, 70]⟩ ((b.toNat : Int) / 16)
      have HH := Aside0.mk (hex_hi b)
      go_wp2_with fail
      rw [HH.out]
      refine (bld_byte w.heap.size w.heap.size _ (hexB (b.toNat / 16)) _ HI3.out (by have := HL.out; have := hle.out; rw [List.length_append]; show _ + 1 + 1 ≤ _; omega) HB3.out.size).mono ?_
      rintro e w4 ⟨rfl, hi4, hb4⟩
      have HI4 := Aside0.mk hi4
      have HB4 := Aside0.mk (HB3.out.trans hb4)
      clear hi4 hb4 k1 k2 hx4
      obtain ⟨k3, k4⟩ := and15 b
      go_wp2_with fail
      rw [hexAt_lo b]
      refine (bld_byte w.heap.size w.heap.size _ (hexB (b.toNat % 16)) _ HI4.out (by have := HL.out; have := hle.out; rw [List.length_append, List.length_append]; show _ + 1 + 1 + 1 ≤ _; omega) HB4.out.size).mono ?_
      rintro e w5 ⟨rfl, hi5, hb5⟩
      have HI5 := Aside0.mk hi5
      have HB5 := Aside0.mk (HB4.out.trans hb5)
      clear hi5 hb5 k3 k4
      go_wp2
      go_roundg g
      case measure => omega
      case rel => exact ⟨i + 1, by omega, by omega, by go_num, ⟨by rw [HT.out, markL_snoc, HM.out]; simpa [IsBld, List.append_assoc] using HI5.out⟩, HB5⟩
 ·rw [if_neg hs] at h; cases h
end Go.Proofs.YtihaeeldgimdiaaDoor.X
