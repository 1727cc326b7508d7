/- Texts of this seat's proof that belong together. -/
import Derived.Test.YtfmjnmglagdcdaaGreatDoorCHWords
import Derived.Test.YtfmjnmglagdcdaaGreatDoorCHH0e
import Derived.Test.YtfmjnmglagdcdaaGreatDoorCHX1
import Derived.Test.YtfmjnmglagdcdaaGreatDoorCHX3
import Derived.Outline
import Derived.Laws.IdiomStrings
section
namespace Go.Proofs.YtfmjnmglagdcdaaGreatDoor.X
open Go.RowKit Go.Lib Go.Shelf Go.Yw.PrintWords Go.Yw.PrintLast Go.Yw.PrintMore
set_option linter.unusedVariables false
set_option linter.unusedSimpArgs false
def isUpperB (b : UInt8) : Bool := decide (65 ≤ b.toNat) && decide (b.toNat ≤ 90)
def lowB (b : UInt8) : UInt8 := if isUpperB b then b + 32 else b
def Ydc (b : UInt8) : Bool := isUpperB b || (decide (97 ≤ b.toNat) && decide (b.toNat ≤ 122))
def Yic (b : UInt8) : Bool := decide (48 ≤ b.toNat) && decide (b.toNat ≤ 57)
def Ybm (b : UInt8) : Bool := Ydc b || Yic b || b == 45 || b == 46 || b == 95 || b == 126
def hexB (n : Nat) : UInt8 := if n < 10 then UInt8.ofNat (48 + n) else UInt8.ofNat (55 + n)
theorem Yub {p : UInt8 → Prop} (h : ∀ x : Fin 256, p (UInt8.ofNat x.val)) (b : UInt8) : p b := by
 have := h ⟨b.toNat, b.toNat_lt⟩
 simpa using this
theorem low_f (b : UInt8) : Yod.f (b.toNat : Int) = some ((lowB b).toNat : Int) := by
 revert b; exact Yub Zca
theorem plain_f (b : UInt8) : Ykc.f (b.toNat : Int) = some (Ybm b) := by
 revert b; exact Yub Zca
theorem Yjj (b : UInt8) : Yw.f (b.toNat : Int) = some (Ydc b) := by
 revert b; exact Yub Zca
theorem Yyg (b : UInt8) : Yq.f (b.toNat : Int) = some (Yic b) := by
 revert b; exact Yub Zca
theorem hex_hi (b : UInt8) : bt ⟨#[48, 49, 50, 51, 52, 53, 54, 55, 56, 57, 65, 66, 67, 68, 69, 70]⟩ ((b.toNat : Int) / 16) = ((hexB (b.toNat / 16)).toNat : Int) := by
 revert b; exact Yub Zca
theorem hexAt (x : Fin 16) : ((⟨#[48, 49, 50, 51, 52, 53, 54, 55, 56, 57, 65, 66, 67, 68, 69, 70]⟩ : ByteArray)[x.val]'x.isLt).toNat = (hexB x.val).toNat := by
 revert x; decide +kernel
theorem hexAt_lo (b : UInt8) {h : b.toNat % 16 < (⟨#[48, 49, 50, 51, 52, 53, 54, 55, 56, 57, 65, 66, 67, 68, 69, 70]⟩ : ByteArray).size} : ((⟨#[48, 49, 50, 51, 52, 53, 54, 55, 56, 57, 65, 66, 67, 68, 69, 70]⟩ : ByteArray)[b.toNat % 16]'h).toNat = (hexB (b.toNat % 16)).toNat :=
 hexAt ⟨b.toNat % 16, h⟩
theorem and15 (b : UInt8) : 0 ≤ Go.bits .and .u8 (b.toNat : Int) 15 ∧ Go.bits .and .u8 (b.toNat : Int) 15 < 16 := by
 revert b; exact Yub Zca
def lowL (l : List UInt8) : List UInt8 := l.map lowB
def Yqd (free : List UInt8) (b : UInt8) : List UInt8 := if Ybm b || free.contains b then [b] else [37, hexB (b.toNat / 16), hexB (b.toNat % 16)]
def Yih (free l : List UInt8) : List UInt8 := l.flatMap (Yqd free)
theorem Yei (free : List UInt8) (b : UInt8) : (Yqd free b).length ≤ 3 := by unfold Yqd; split <;> simp
theorem markL_le (free l : List UInt8) : (Yih free l).length ≤ 3 * l.length := by
 induction l with
 | nil => simp [Yih]
 | cons b l ih =>
  have := Yei free b
  simp only [Yih, List.flatMap_cons, List.length_append, List.length_cons] at ih ⊢
  omega
theorem Ykl (s : ByteArray) (i : Nat) (h : i < s.size) : s.data.toList.take (i + 1) = s.data.toList.take i ++ [s.get! i] := by
 rw [List.take_add_one, get!_data s i h]; rfl
theorem Ysg (l : List UInt8) (b : UInt8) : decide (Lib.indexByte l b ≥ 0) = l.contains b := (Lib.contains_iff_indexByte l b).symm
theorem Ymh (free l : List UInt8) (b : UInt8) : Yih free (l ++ [b]) = Yih free l ++ Yqd free b := by simp [Yih]
theorem Yrf {B b : Nat} {l : List UInt8} {w : World} (h : Ygg B b l w) (n : Nat) : Ygg B b l (w.drewN n) := h.below (Yb (Below.refl _ _) n)
def Ycc.f (a0 a1 : ByteArray) : Option ByteArray := if a0.size ≤ 4294967281 then some (ofL (Yih a1.data.toList a0.data.toList)) else none
set_option maxHeartbeats 8000000 in
set_option maxRecDepth 100000 in
theorem Ycc.calls (a0 a1 : ByteArray) (r : ByteArray) (w : World) (hE : EnvOk w) (h : Ycc.f a0 a1 = some r) :
  Calls Tryz.prog 109 #[.string a0, .string a1] w fun e w' => e = .returned (.string r) ∧ Below w.heap.size w w' := by
 unfold Ycc.f at h
 by_cases hs : a0.size ≤ 4294967281
 ·rw [if_pos hs] at h
  obtain rfl := Option.some.inj h
  have HE := Ya.mk hE
  clear hE h
  go_enter Tryz.func109, Tryz.ntmps109
  go_wp2
  go_loopg [6, 7, 10] a0.size (fun g _ _ v10 wx => ∃ (i : Nat), i + g ≤ a0.size ∧ a0.size ≤ i + g ∧ v10 = .int .i64 (i : Int) ∧ Ya (Ygg w.heap.size w.heap.size (Yih a1.data.toList (a0.data.toList.take i)) wx) ∧ Ya (Below w.heap.size w wx))
  case atStart => exact ⟨0, Zk, Zk, rfl, ⟨Yzl w⟩, ⟨(Below.refl _ _).alloc (Nat.le_refl _) _⟩⟩
  case round =>
   obtain ⟨i, hi1, hi2, rfl, HI, HB⟩ := hrel
   cases gk with
   | zero =>
    obtain rfl : i = a0.size := by omega
    go_wp2_with fail
    refine (Ysh w.heap.size w.heap.size _ _ HI.out HB.out.size).mono ?_
    rintro e w2 ⟨rfl, hb2⟩
    have HB2 := Ya.mk (HB.out.trans hb2)
    clear hb2
    go_wp2
    go_ret
    exact ⟨by rw [List.take_of_length_le (by rw [← Lib.size_eq]; exact Nat.le_refl _)]; rfl, HB2.out⟩
   | succ g =>
    have hi : i < a0.size := by omega
    have hlt : decide ((i : Int) < (a0.size : Int)) = true := decide_eq_true Zk
    have hg := get!_at a0 i hi
    have HT := Ya.mk (Ykl a0 i hi)
    have HL := Ya.mk (markL_le a1.data.toList (a0.data.toList.take i))
    have hle : Ya ((a0.data.toList.take i).length ≤ i) := ⟨List.length_take_le _ _⟩
    obtain ⟨b, hb⟩ : ∃ b, b = a0.get! i := ⟨_, rfl⟩
    rw [← hb] at hg HT
    have hx : (a0[i]'hi).toNat = b.toNat := by rw [hg]
    clear hb hg
    have HE1 := Ya.mk (HE.out.below HB.out)
    have HP := Ya.mk (plain_f b)
    have hbt := b.toNat_lt
    cases hp : Ybm b with
    | true =>
     rw [hp] at HP
     have HM := Ya.mk (show Yqd a1.data.toList b = [b] by simp [Yqd, hp])
     clear hp
     go_wp2_with fail
     refine (Ykc.calls (b.toNat : Int) _ _ HE1.out HP.out).mono ?_
     rintro e w2 ⟨rfl, ⟨n, rfl⟩⟩
     go_wp2_with fail
     refine (Yzd w.heap.size w.heap.size _ b _ (Yrf HI.out n) Zpa (Yb HB.out n).size).mono ?_
     rintro e w3 ⟨rfl, hi3, hb3⟩
     have HI3 := Ya.mk hi3
     have HB3 := Ya.mk ((Yb HB.out n).trans hb3)
     clear hi3 hb3
     go_wp2
     go_roundg g
     case measure => omega
     case rel => exact ⟨i + 1, Zk, Zk, by go_num, ⟨by rw [HT.out, Ymh, HM.out]; exact HI3.out⟩, HB3⟩
    | false =>
     rw [hp] at HP
     have HX := Ya.mk (Ysg a1.data.toList b)
     have hback : ((b.toNat : Int)).toNat.toUInt8 = b := by simp
     have HBk := Ya.mk hback
     clear hback
     have HE2 := Ya.mk (HE.out)
     cases hc : a1.data.toList.contains b with
     | true =>
      rw [hc] at HX
      have HM := Ya.mk (show Yqd a1.data.toList b = [b] by unfold Yqd; rw [hp, hc]; rfl)
      clear hp hc
      go_wp2_with fail
      refine (Ykc.calls (b.toNat : Int) _ _ HE1.out HP.out).mono ?_
      rintro e w2 ⟨rfl, ⟨n, rfl⟩⟩
      go_wp2_with fail
      refine (Tryz.strings_IndexByte _ _ _).mono ?_
      rintro e w2 ⟨rfl, hw2⟩
      rw [hw2, HBk.out]
      clear hw2
      have hx1 : decide (0 ≤ Lib.indexByte a1.data.toList b) = true := HX.out
      go_wp2_with fail
      refine (Yzd w.heap.size w.heap.size _ b _ (Yrf HI.out n) Zpa (Yb HB.out n).size).mono ?_
      rintro e w3 ⟨rfl, hi3, hb3⟩
      have HI3 := Ya.mk hi3
      have HB3 := Ya.mk ((Yb HB.out n).trans hb3)
      clear hi3 hb3
      go_wp2
      go_roundg g
      case measure => omega
      case rel => exact ⟨i + 1, Zk, Zk, by go_num, ⟨by rw [HT.out, Ymh, HM.out]; exact HI3.out⟩, HB3⟩
     | false =>
      rw [hc] at HX
      have HM := Ya.mk (show Yqd a1.data.toList b = [37, hexB (b.toNat / 16), hexB (b.toNat % 16)] by unfold Yqd; rw [hp, hc]; rfl)
      clear hp hc
      go_wp2_with fail
      refine (Ykc.calls (b.toNat : Int) _ _ HE1.out HP.out).mono ?_
      rintro e w2 ⟨rfl, ⟨n, rfl⟩⟩
      go_wp2_with fail
      refine (Tryz.strings_IndexByte _ _ _).mono ?_
      rintro e w2 ⟨rfl, hw2⟩
      rw [hw2, HBk.out]
      clear hw2
      have hx1 : decide (0 ≤ Lib.indexByte a1.data.toList b) = false := HX.out
      go_wp2_with fail
      refine (Yzd w.heap.size w.heap.size _ 37 _ (Yrf HI.out n) Zpa (Yb HB.out n).size).mono ?_
      rintro e w3 ⟨rfl, hi3, hb3⟩
      have HI3 := Ya.mk hi3
      have HB3 := Ya.mk ((Yb HB.out n).trans hb3)
      clear hi3 hb3
      have k1 : (0 : Int) ≤ (b.toNat : Int) / 16 := by omega
      have k2 : (b.toNat : Int) / 16 < ((16 : Nat) : Int) := by omega
      have hx4 := Yzc ⟨#[48, 49, 50, 51, 52, 53, 54, 55, 56, 57, 65, 66, 67, 68, 69, 70]⟩ ((b.toNat : Int) / 16)
      have HH := Ya.mk (hex_hi b)
      go_wp2_with fail
      rw [HH.out]
      refine (Yzd w.heap.size w.heap.size _ (hexB (b.toNat / 16)) _ HI3.out (by have := HL.out; have := hle.out; rw [List.length_append]; show _ + 1 + 1 ≤ _; omega) HB3.out.size).mono ?_
      rintro e w4 ⟨rfl, hi4, hb4⟩
      have HI4 := Ya.mk hi4
      have HB4 := Ya.mk (HB3.out.trans hb4)
      clear hi4 hb4 k1 k2 hx4
      obtain ⟨k3, k4⟩ := and15 b
      go_wp2_with fail
      rw [hexAt_lo b]
      refine (Yzd w.heap.size w.heap.size _ (hexB (b.toNat % 16)) _ HI4.out (by have := HL.out; have := hle.out; rw [List.length_append, List.length_append]; show _ + 1 + 1 + 1 ≤ _; omega) HB4.out.size).mono ?_
      rintro e w5 ⟨rfl, hi5, hb5⟩
      have HI5 := Ya.mk hi5
      have HB5 := Ya.mk (HB4.out.trans hb5)
      clear hi5 hb5 k3 k4
      go_wp2
      go_roundg g
      case measure => omega
      case rel => exact ⟨i + 1, Zk, Zk, by go_num, ⟨by rw [HT.out, Ymh, HM.out]; simpa [Ygg, List.append_assoc] using HI5.out⟩, HB5⟩
 ·rw [if_neg hs] at h; cases h
end Go.Proofs.YtfmjnmglagdcdaaGreatDoor.X
end
section
namespace Go.Proofs.YtfmjnmglagdcdaaGreatDoor.X
open Go.RowKit Go.Lib Go.Shelf Go.Yw.PrintWords Go.Yw.PrintLast Go.Yw.PrintMore
set_option linter.unusedVariables false
set_option linter.unusedSimpArgs false
def Ydj (s : ByteArray) (i j : Nat) : UInt8 := if j < i then lowB (s.get! j) else s.get! j
def LowRow (s : ByteArray) (b i : Nat) (w : World) : Prop :=
 ∃ (cs : Array Value) (N : Nat), w.heap[b]? = some (.cells cs 5 (N, N + 1)) ∧ cs.size = N ∧ s.size ≤ N ∧ ∀ j, j < s.size → cs[j]? = some (.int .u8 ((Ydj s i j).toNat : Int))
theorem LowRow.cell {s : ByteArray} {b i : Nat} {w : World} (h : LowRow s b i w) (j : Nat) (hj : j < s.size) : w.cell? ⟨b, j, none⟩ = some (.int .u8 ((Ydj s i j).toNat : Int)) ∧ w.frozen? ⟨b, j, none⟩ = false := by
 obtain ⟨cs, N, hb, hN, hs, hc⟩ := h
 refine ⟨?_, ?_⟩
 ·unfold World.cell?; rw [hb]; simpa using hc j hj
 ·unfold World.frozen?; rw [hb]; simp; omega
theorem LowRow.step {s : ByteArray} {b i : Nat} {w : World} (h : LowRow s b i w) (hi : i < s.size) : LowRow s b (i + 1) (w.setCell ⟨b, i, none⟩ (.int .u8 ((lowB (s.get! i)).toNat : Int))) := by
 obtain ⟨cs, N, hb, hN, hs, hc⟩ := h
 refine ⟨cs.setIfInBounds i (.int .u8 ((lowB (s.get! i)).toNat : Int)), N, ?_, by simp [hN], hs, fun j hj => ?_⟩
 ·have hlt := (Array.getElem?_eq_some_iff.1 hb).1
  have hv := (Array.getElem?_eq_some_iff.1 hb).2
  unfold World.setCell
  simp only [Option.isSome_none]
  rw [Array.getElem?_eq_getElem (by simpa using hlt), Array.getElem_modify_self, hv]
  rfl
 ·by_cases he : j = i
  ·subst he
   rw [Array.getElem?_setIfInBounds_self_of_lt Zk]
   simp [Ydj]
  ·rw [Array.getElem?_setIfInBounds_ne Zk, hc j hj]
   unfold Ydj
   by_cases h1 : j < i
   ·rw [if_pos h1, if_pos Zk]
   ·rw [if_neg h1, if_neg Zk]
theorem LowRow.below {s : ByteArray} {b i : Nat} {w w' : World} (h : LowRow s b i w) (hb : Below w.heap.size w w') : LowRow s b i w' := by
 obtain ⟨cs, N, h1, r⟩ := h
 exact ⟨cs, N, by rw [hb.block _ (Array.getElem?_eq_some_iff.1 h1).1]; exact h1, r⟩
def Yqa.f (a0 : ByteArray) : Option ByteArray := if a0.size ≤ 140737488351232 then some (ofL (lowL a0.data.toList)) else none
set_option maxHeartbeats 8000000 in
set_option maxRecDepth 100000 in
theorem Yqa.calls (a0 : ByteArray) (r : ByteArray) (w : World) (hE : EnvOk w) (h : Yqa.f a0 = some r) :
  Calls Tryz.prog 74 #[.string a0] w fun e w' => e = .returned (.string r) ∧ Below w.heap.size w w' := by
 unfold Yqa.f at h
 by_cases hs : a0.size ≤ 140737488351232
 ·rw [if_pos hs] at h
  obtain rfl := Option.some.inj h
  have HE := Ya.mk hE
  clear hE h
  have hcv := Lib.run_convert_string_bytes (P := Tryz.prog) w 9 111 5 a0 Tryz.underlying9 Tryz.underlying111 Tryz.underlying5
  have hrow : LowRow a0 w.heap.size 0 (Lib.bytesWorld w 5 a0) := by
   refine ⟨_, _, Lib.bytesWorld_at_new w 5 a0, rfl, by simp [Lib.bytesCells], fun j hj => ?_⟩
   have := Lib.bytesWorld_cell w 5 a0 j hj
   unfold World.cell? at this
   rw [Lib.bytesWorld_at_new] at this
   have h2 : (Lib.bytesCells w 5 a0)[j]? = some (.int .u8 ((a0.data.toList.getD j 0).toNat : Int)) := by simpa using this
   rw [h2, List.getD_eq_getElem?_getD, get!_data a0 j hj]
   simp [Ydj]
  have hbel : Below w.heap.size w (Lib.bytesWorld w 5 a0) := ⟨rfl, rfl, rfl, by rw [Lib.bytesWorld_size]; omega, fun i hi => Lib.bytesWorld_at_old w _ a0 i hi⟩
  obtain ⟨C, hC⟩ : ∃ C, C = grownCap w a0.size 0 5 := ⟨_, rfl⟩
  obtain ⟨W0, hW0⟩ : ∃ W0, W0 = Lib.bytesWorld w 5 a0 := ⟨_, rfl⟩
  rw [← hC, ← hW0] at hcv
  rw [← hW0] at hrow hbel
  have HR := Ya.mk hrow
  have HB0 := Ya.mk hbel
  clear hC hW0 hrow hbel
  go_enter Tryz.func74, Tryz.ntmps74
  go_wp2
  go_loopg [4, 5, 10] a0.size (fun g _ _ v10 wx => ∃ (i : Nat), i + g ≤ a0.size ∧ a0.size ≤ i + g ∧ v10 = .int .i64 (i : Int) ∧ Ya (LowRow a0 w.heap.size i wx) ∧ Ya (Below w.heap.size w wx))
  case atStart => exact ⟨0, Zk, Zk, rfl, HR, HB0⟩
  case round =>
   clear hcv
   obtain ⟨i, hi1, hi2, rfl, HI, HB⟩ := hrel
   cases gk with
   | zero =>
    obtain rfl : i = a0.size := by omega
    have hlt : decide ((a0.size : Int) < (a0.size : Int)) = false := decide_eq_false Zk
    have hsl : (lowL a0.data.toList).length = a0.size := by unfold lowL; rw [List.length_map, ← Lib.size_eq]
    have hb2 := run_convert_bytes_back (P := Tryz.prog) wr 111 9 5 ⟨w.heap.size, 0, none⟩ C (lowL a0.data.toList) Tryz.underlying111 Tryz.underlying5 Tryz.underlying9
     (fun j hj => by
      rw [hsl] at hj
      have : (Addr.add ⟨w.heap.size, 0, none⟩ j) = ⟨w.heap.size, j, none⟩ := by unfold Addr.add; split <;> simp_all
      rw [this, (HI.out.cell j hj).1]
      have hg := get!_data a0 j hj
      rw [List.getElem?_eq_getElem (by rw [← Lib.size_eq]; exact hj)] at hg
      simp [Ydj, hj, lowL, Option.some.inj hg])
    rw [hsl] at hb2
    have HX := Ya.mk hsl
    clear hsl
    go_wp2
    go_ret
    exact ⟨rfl, HB.out⟩
   | succ g =>
    have hi : i < a0.size := by omega
    have hlt : decide ((i : Int) < (a0.size : Int)) = true := decide_eq_true Zk
    obtain ⟨hc, hfz⟩ := HI.out.cell i hi
    rw [show Ydj a0 i i = a0.get! i by simp [Ydj]] at hc
    obtain ⟨b, hb⟩ : ∃ b, b = a0.get! i := ⟨_, rfl⟩
    have HS := Ya.mk (HI.out.step hi)
    rw [← hb] at hc HS
    have HF := Ya.mk (low_f b)
    have HE1 := Ya.mk (HE.out.below HB.out)
    clear hb
    go_wp2_with (go_at_call 93; refine (Yod.calls (b.toNat : Int) _ _ HE1.out HF.out).mono ?_; rintro e w2 ⟨rfl, ⟨n, rfl⟩⟩)
    go_roundg g
    case measure => omega
    case rel => exact ⟨i + 1, Zk, Zk, by go_num, ⟨LowRow.below HS.out (Yb (Below.refl _ _) n)⟩, ⟨Yh (Yb HB.out n) (Nat.le_refl _)⟩⟩
 ·rw [if_neg hs] at h; cases h
end Go.Proofs.YtfmjnmglagdcdaaGreatDoor.X
end
