/- ascii.Lower: every byte to lower. -/
import Derived.Test.YtihaeeldgimdiaaDoorUiH1a
import Derived.Laws.IdiomStrings
namespace Go.Proofs.YtihaeeldgimdiaaDoor.X
open Go.RowKit Go.Lib Go.Shelf Go.Proofs.YtihaeeldgimdiaaDoorW.PrintWords Go.Proofs.YtihaeeldgimdiaaDoorW.PrintLast Go.Proofs.YtihaeeldgimdiaaDoorW.PrintMore
set_option linter.unusedVariables false
set_option linter.unusedSimpArgs false
def lowAt (s : ByteArray) (i j : Nat) : UInt8 := if j < i then lowB (s.get! j) else s.get! j
def LowRow (s : ByteArray) (b i : Nat) (w : World) : Prop :=
 ∃ (cs : Array Value) (N : Nat), w.heap[b]? = some (.cells cs 5 (N, N + 1)) ∧ cs.size = N ∧ s.size ≤ N ∧ ∀ j, j < s.size → cs[j]? = some (.int .u8 ((lowAt s i j).toNat : Int))
theorem LowRow.cell {s : ByteArray} {b i : Nat} {w : World} (h : LowRow s b i w) (j : Nat) (hj : j < s.size) : w.cell? ⟨b, j, none⟩ = some (.int .u8 ((lowAt s i j).toNat : Int)) ∧ w.frozen? ⟨b, j, none⟩ = false := by
 obtain ⟨cs, N, hb, hN, hs, hc⟩ := h
 refine ⟨?_, ?_⟩
 ·unfold World.cell?; rw [hb]; simpa using hc j hj
 ·unfold World.frozen?; rw [hb]; simp; omega
theorem LowRow.step {s : ByteArray} {b i : Nat} {w : World} (h : LowRow s b i w) (hi : i < s.size) : LowRow s b (i + 1) (w.setCell ⟨b, i, none⟩ (.int .u8 ((lowB (s.get! i)).toNat : Int))) := by
 obtain ⟨cs, N, hb, hN, hs, hc⟩ := h
 refine ⟨cs.setIfInBounds i (.int .u8 ((lowB (s.get! i)).toNat : Int)), N, ?_, by simp [hN], hs, fun j hj => ?_⟩
 ·have hlt := (Array.getElem?_eq_some_iff.1 hb).1
  have hv := (Array.getElem?_eq_some_iff.1 hb).2
  unfold World.setCell
  simp only [Option.isSome_none]
  rw [Array.getElem?_eq_getElem (by simpa using hlt), Array.getElem_modify_self, hv]
  rfl
 ·by_cases he : j = i
  ·subst he
   rw [Array.getElem?_setIfInBounds_self_of_lt (by omega)]
   simp [lowAt]
  ·rw [Array.getElem?_setIfInBounds_ne (by omega), hc j hj]
   unfold lowAt
   by_cases h1 : j < i
   ·rw [if_pos h1, if_pos (by omega)]
   ·rw [if_neg h1, if_neg (by omega)]
theorem LowRow.below {s : ByteArray} {b i : Nat} {w w' : World} (h : LowRow s b i w) (hb : Below w.heap.size w w') : LowRow s b i w' := by
 obtain ⟨cs, N, h1, r⟩ := h
 exact ⟨cs, N, by rw [hb.block _ (Array.getElem?_eq_some_iff.1 h1).1]; exact h1, r⟩
def ascii_Lower.f (a0 : ByteArray) : Option ByteArray := if a0.size ≤ 140737488351232 then some (ofL (lowL a0.data.toList)) else none
set_option maxHeartbeats 8000000 in
set_option maxRecDepth 100000 in
theorem ascii_Lower.calls (a0 : ByteArray) (r : ByteArray) (w : World) (hE : EnvOk w) (h : ascii_Lower.f a0 = some r) :
  Calls Tryd.prog 38 #[.string a0] w fun e w' => e = .returned (.string r) ∧ Below w.heap.size w w' := by
 unfold ascii_Lower.f at h
 by_cases hs : a0.size ≤ 140737488351232
 ·rw [if_pos hs] at h
  obtain rfl := Option.some.inj h
  have HE := Aside0.mk hE
  clear hE h
  have hcv := Lib.run_convert_string_bytes (P := Tryd.prog) w 9 67 5 a0 Tryd.underlying9 Tryd.underlying67 Tryd.underlying5
  have hrow : LowRow a0 w.heap.size 0 (Lib.bytesWorld w 5 a0) := by
   refine ⟨_, _, Lib.bytesWorld_at_new w 5 a0, rfl, by simp [Lib.bytesCells], fun j hj => ?_⟩
   have := Lib.bytesWorld_cell w 5 a0 j hj
   unfold World.cell? at this
   rw [Lib.bytesWorld_at_new] at this
   have h2 : (Lib.bytesCells w 5 a0)[j]? = some (.int .u8 ((a0.data.toList.getD j 0).toNat : Int)) := by simpa using this
   rw [h2, List.getD_eq_getElem?_getD, get!_data a0 j hj]
   simp [lowAt]
  have hbel : Below w.heap.size w (Lib.bytesWorld w 5 a0) := ⟨rfl, rfl, rfl, by rw [Lib.bytesWorld_size]; omega, fun i hi => Lib.bytesWorld_at_old w _ a0 i hi⟩
  obtain ⟨C, hC⟩ : ∃ C, C = grownCap w a0.size 0 5 := ⟨_, rfl⟩
  obtain ⟨W0, hW0⟩ : ∃ W0, W0 = Lib.bytesWorld w 5 a0 := ⟨_, rfl⟩
  rw [← hC, ← hW0] at hcv
  rw [← hW0] at hrow hbel
  have HR := Aside0.mk hrow
  have HB0 := Aside0.mk hbel
  clear hC hW0 hrow hbel
  go_enter Tryd.func38, Tryd.ntmps38
  go_wp2
  go_loopg [4, 5, 10] a0.size (fun g _ _ v10 wx => ∃ (i : Nat), i + g ≤ a0.size ∧ a0.size ≤ i + g ∧ v10 = .int .i64 (i : Int) ∧ Aside0 (LowRow a0 w.heap.size i wx) ∧ Aside0 (Below w.heap.size w wx))
  case atStart => exact ⟨0, by omega, by omega, rfl, HR, HB0⟩
  case round =>
   clear hcv
   obtain ⟨i, hi1, hi2, rfl, HI, HB⟩ := hrel
   cases gk with
   | zero =>
    obtain rfl : i = a0.size := by omega
    have hlt : decide ((a0.size : Int) < (a0.size : Int)) = false := decide_eq_false (by omega)
    have hsl : (lowL a0.data.toList).length = a0.size := by unfold lowL; rw [List.length_map, ← Lib.size_eq]
    have hb2 := run_convert_bytes_back (P := Tryd.prog) wr 67 9 5 ⟨w.heap.size, 0, none⟩ C (lowL a0.data.toList) Tryd.underlying67 Tryd.underlying5 Tryd.underlying9
     (fun j hj => by
      rw [hsl] at hj
      have : (Addr.add ⟨w.heap.size, 0, none⟩ j) = ⟨w.heap.size, j, none⟩ := by unfold Addr.add; split <;> simp_all
      rw [this, (HI.out.cell j hj).1]
      have hg := get!_data a0 j hj
      rw [List.getElem?_eq_getElem (by rw [← Lib.size_eq]; exact hj)] at hg
      simp [lowAt, hj, lowL, Option.some.inj hg])
    rw [hsl] at hb2
    have HX := Aside0.mk hsl
    clear hsl
    go_wp2
    go_ret
    exact ⟨rfl, HB.out⟩
   | succ g =>
    have hi : i < a0.size := by omega
    have hlt : decide ((i : Int) < (a0.size : Int)) = true := decide_eq_true (by omega)
    obtain ⟨hc, hfz⟩ := HI.out.cell i hi
    rw [show lowAt a0 i i = a0.get! i by simp [lowAt]] at hc
    obtain ⟨b, hb⟩ : ∃ b, b = a0.get! i := ⟨_, rfl⟩
    have HS := Aside0.mk (HI.out.step hi)
    rw [← hb] at hc HS
    have HF := Aside0.mk (low_f b)
    have HE1 := Aside0.mk (HE.out.below HB.out)
    clear hb
    go_wp2_with (go_at_call 56; refine (ascii_low.calls (b.toNat : Int) _ _ HE1.out HF.out).mono ?_; rintro e w2 ⟨rfl, ⟨n, rfl⟩⟩)
    go_roundg g
    case measure => omega
    case rel => exact ⟨i + 1, by omega, by omega, by go_num, ⟨LowRow.below HS.out (pw_below_drewN (Below.refl _ _) n)⟩, ⟨below_set (pw_below_drewN HB.out n) (Nat.le_refl _)⟩⟩
 ·rw [if_neg hs] at h; cases h
end Go.Proofs.YtihaeeldgimdiaaDoor.X
