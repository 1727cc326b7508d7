/- Printed by a program of ours (xprint.py) out of the translation: functions as plain Lean, and what a call of each does; nothing is taken on trust: Lean checks it. -/
import Derived.Test.YtihaeeldgimdiaaDoorProg
import Derived.Below
import Derived.Deep.Draws
import Derived.Deep.AppendLies
import Derived.Maps.AppendAt
import Derived.OwnWalk
import Derived.Laws.BytesArg
import Derived.Laws.MakeOwn
import Derived.Laws.OwnMore
import Derived.Deep.OwnRows
import Derived.Tactics
import Derived.Lib.ConvBytes
import Derived.Laws.Slices
import Derived.WalkKit
import Derived.KernelRfl
import Derived.RowKit3
import Derived.Deep.LoopGhost
import Derived.Deep.QuietTactic
import Derived.BigQuiet
import Derived.WideLaws
import Derived.Deep.DeepCutAuto
import Derived.Deep.CutBlock
import Derived.Deep.RegionHeld3
import Derived.Laws.Rows
import Derived.Lib.AppendStr
import Derived.ArgAppend
import Derived.Laws.IdiomCopy
import Derived.OrdersHeld
import Derived.Laws.BitsLemmas
import Derived.RowKit
import Derived.Test.YtihaeeldgimdiaaDoorUiWords
import Derived.Test.YtihaeeldgimdiaaDoorUiEnv
namespace Go.Proofs.YtihaeeldgimdiaaDoor.X
open Go.RowKit Go.Proofs.YtihaeeldgimdiaaDoorW.PrintWords Go.Proofs.YtihaeeldgimdiaaDoorW.PrintLast Go.Proofs.YtihaeeldgimdiaaDoorW.PrintMore
attribute [local go_sem] max2_int min2_int max_two min_two max_three min_three max_four min_four   -- for this text's walks alone
set_option linter.unusedVariables false
set_option linter.unusedSimpArgs false
def errW : Option Int → Value
 | none => .nilIface
 | some c => .iface 0 (.int .i64 c)
theorem errW_none : errW none = .nilIface := rfl
theorem errW_some (c : Int) : errW (some c) = .iface 0 (.int .i64 c) := rfl
theorem info5 : (Tryd.prog.info? 5).map (fun i => (i.zero, i.size, i.bytes)) = some (some (.int .u8 0), 1, 1) := by kernel_rfl
theorem info9 : (Tryd.prog.info? 9).map (fun i => (i.zero, i.size, i.bytes)) = some (some (.string ⟨#[]⟩), 1, 16) := by kernel_rfl
theorem info30 : (Tryd.prog.info? 30).map (fun i => (i.zero, i.size, i.bytes)) = some (some (.agg #[(.string ⟨#[]⟩), (.string ⟨#[]⟩), (.string ⟨#[]⟩), (.string ⟨#[]⟩), (.string ⟨#[]⟩), (.string ⟨#[]⟩), (.int .i64 0), (.bool false), (.string ⟨#[]⟩), (.string ⟨#[]⟩), (.string ⟨#[]⟩), (.slice none 0 0), (.slice none 0 0), (.slice none 0 0), (.slice none 0 0), (.slice none 0 0)]), 16, 280) := by kernel_rfl
-- the values' own types
def rd_L1 (xs : List (List ByteArray)) (i : Int) : (List ByteArray) := xs.getD i.toNat ([] : List ByteArray)
theorem at_L1 {w : World} {A : Option Addr} {n : Nat} {xs : List (List ByteArray)} (h : Kd.C (Kd.slice 9 Kd.string) w A n xs) (i : Int) (h0 : 0 ≤ i) (h1 : i < n) : ∃ ad A0 c0, A = some ad ∧ w.cell? (ad.add i.toNat) = some (.slice A0 (rd_L1 xs i).length c0) ∧ (rd_L1 xs i).length ≤ c0 ∧ Kd.string.C w A0 (rd_L1 xs i).length (rd_L1 xs i) := by
 obtain ⟨ad, c, e, _, hK, hc0⟩ := Kd.C_get h ([] : List ByteArray) i h0 h1
 have hc : ∀ j u, c[j]? = some u → w.cell? (ad.add (i.toNat * 1 + j)) = some u := hc0
 obtain ⟨A0, c0, rfl, l0, g0⟩ := hK
 exact ⟨ad, A0, c0, e, by have hq := hc 0 _ rfl; rwa [Nat.mul_one, Nat.add_zero] at hq, l0, g0⟩
structure S28 where
 f0 : ByteArray
 f1 : ByteArray
 f2 : ByteArray
def z28 : S28 := ⟨(⟨#[]⟩ : ByteArray), (⟨#[]⟩ : ByteArray), (⟨#[]⟩ : ByteArray)⟩
def k28 : Kd S28 := Kd.iso (Kd.pair Kd.string (Kd.pair Kd.string Kd.string)) (fun x : S28 => (x.f0, x.f1, x.f2))
theorem k28_open {w : World} {x : S28} {cs : List Value} (h : k28.K w x cs) : cs = [.string x.f0, .string x.f1, .string x.f2] := by
 obtain ⟨_, _, rfl, rfl, ⟨_, _, rfl, rfl, rfl⟩⟩ := h
 exact rfl
theorem k28_mk (w : World) (x : S28)  : k28.K w x [.string x.f0, .string x.f1, .string x.f2] := ⟨[.string x.f0], [.string x.f1, .string x.f2], rfl, rfl, ⟨[.string x.f1], [.string x.f2], rfl, rfl, rfl⟩⟩
structure S30 where
 f0 : ByteArray
 f1 : ByteArray
 f2 : ByteArray
 f3 : ByteArray
 f4 : ByteArray
 f5 : ByteArray
 f6 : Int
 f7 : Bool
 f8 : S28
 f9 : (List ByteArray)
 f10 : (List ByteArray)
 f11 : (List ByteArray)
 f12 : (List ByteArray)
 f13 : (List ByteArray)
def z30 : S30 := ⟨(⟨#[]⟩ : ByteArray), (⟨#[]⟩ : ByteArray), (⟨#[]⟩ : ByteArray), (⟨#[]⟩ : ByteArray), (⟨#[]⟩ : ByteArray), (⟨#[]⟩ : ByteArray), (0 : Int), false, z28, ([] : List ByteArray), ([] : List ByteArray), ([] : List ByteArray), ([] : List ByteArray), ([] : List ByteArray)⟩
def k30 : Kd S30 := Kd.iso (Kd.pair Kd.string (Kd.pair Kd.string (Kd.pair Kd.string (Kd.pair Kd.string (Kd.pair Kd.string (Kd.pair Kd.string (Kd.pair (Kd.int .i64) (Kd.pair Kd.bool (Kd.pair k28 (Kd.pair (Kd.slice 9 Kd.string) (Kd.pair (Kd.slice 9 Kd.string) (Kd.pair (Kd.slice 9 Kd.string) (Kd.pair (Kd.slice 9 Kd.string) (Kd.slice 9 Kd.string)))))))))))))) (fun x : S30 => (x.f0, x.f1, x.f2, x.f3, x.f4, x.f5, x.f6, x.f7, x.f8, x.f9, x.f10, x.f11, x.f12, x.f13))
theorem k30_open {w : World} {x : S30} {cs : List Value} (h : k30.K w x cs) : ∃ A11 c11 A12 c12 A13 c13 A14 c14 A15 c15, cs = [.string x.f0, .string x.f1, .string x.f2, .string x.f3, .string x.f4, .string x.f5, .int .i64 x.f6, .bool x.f7, .string x.f8.f0, .string x.f8.f1, .string x.f8.f2, .slice A11 x.f9.length c11, .slice A12 x.f10.length c12, .slice A13 x.f11.length c13, .slice A14 x.f12.length c14, .slice A15 x.f13.length c15] ∧ x.f9.length ≤ c11 ∧ Kd.string.C w A11 x.f9.length x.f9 ∧ x.f10.length ≤ c12 ∧ Kd.string.C w A12 x.f10.length x.f10 ∧ x.f11.length ≤ c13 ∧ Kd.string.C w A13 x.f11.length x.f11 ∧ x.f12.length ≤ c14 ∧ Kd.string.C w A14 x.f12.length x.f12 ∧ x.f13.length ≤ c15 ∧ Kd.string.C w A15 x.f13.length x.f13 := by
 obtain ⟨_, _, rfl, rfl, ⟨_, _, rfl, rfl, ⟨_, _, rfl, rfl, ⟨_, _, rfl, rfl, ⟨_, _, rfl, rfl, ⟨_, _, rfl, rfl, ⟨_, _, rfl, rfl, ⟨_, _, rfl, rfl, ⟨_, _, rfl, s8, ⟨_, _, rfl, ⟨A11, c11, rfl, l11, g11⟩, ⟨_, _, rfl, ⟨A12, c12, rfl, l12, g12⟩, ⟨_, _, rfl, ⟨A13, c13, rfl, l13, g13⟩, ⟨_, _, rfl, ⟨A14, c14, rfl, l14, g14⟩, ⟨A15, c15, rfl, l15, g15⟩⟩⟩⟩⟩⟩⟩⟩⟩⟩⟩⟩⟩⟩ := h
 obtain rfl := k28_open s8
 exact ⟨A11, c11, A12, c12, A13, c13, A14, c14, A15, c15, rfl, l11, g11, l12, g12, l13, g13, l14, g14, l15, g15⟩
theorem k30_mk (w : World) (x : S30) {A11 : Option Addr} {c11 : Nat} (l11 : x.f9.length ≤ c11) (g11 : Kd.string.C w A11 x.f9.length x.f9) {A12 : Option Addr} {c12 : Nat} (l12 : x.f10.length ≤ c12) (g12 : Kd.string.C w A12 x.f10.length x.f10) {A13 : Option Addr} {c13 : Nat} (l13 : x.f11.length ≤ c13) (g13 : Kd.string.C w A13 x.f11.length x.f11) {A14 : Option Addr} {c14 : Nat} (l14 : x.f12.length ≤ c14) (g14 : Kd.string.C w A14 x.f12.length x.f12) {A15 : Option Addr} {c15 : Nat} (l15 : x.f13.length ≤ c15) (g15 : Kd.string.C w A15 x.f13.length x.f13) : k30.K w x [.string x.f0, .string x.f1, .string x.f2, .string x.f3, .string x.f4, .string x.f5, .int .i64 x.f6, .bool x.f7, .string x.f8.f0, .string x.f8.f1, .string x.f8.f2, .slice A11 x.f9.length c11, .slice A12 x.f10.length c12, .slice A13 x.f11.length c13, .slice A14 x.f12.length c14, .slice A15 x.f13.length c15] := ⟨[.string x.f0], [.string x.f1, .string x.f2, .string x.f3, .string x.f4, .string x.f5, .int .i64 x.f6, .bool x.f7, .string x.f8.f0, .string x.f8.f1, .string x.f8.f2, .slice A11 x.f9.length c11, .slice A12 x.f10.length c12, .slice A13 x.f11.length c13, .slice A14 x.f12.length c14, .slice A15 x.f13.length c15], rfl, rfl, ⟨[.string x.f1], [.string x.f2, .string x.f3, .string x.f4, .string x.f5, .int .i64 x.f6, .bool x.f7, .string x.f8.f0, .string x.f8.f1, .string x.f8.f2, .slice A11 x.f9.length c11, .slice A12 x.f10.length c12, .slice A13 x.f11.length c13, .slice A14 x.f12.length c14, .slice A15 x.f13.length c15], rfl, rfl, ⟨[.string x.f2], [.string x.f3, .string x.f4, .string x.f5, .int .i64 x.f6, .bool x.f7, .string x.f8.f0, .string x.f8.f1, .string x.f8.f2, .slice A11 x.f9.length c11, .slice A12 x.f10.length c12, .slice A13 x.f11.length c13, .slice A14 x.f12.length c14, .slice A15 x.f13.length c15], rfl, rfl, ⟨[.string x.f3], [.string x.f4, .string x.f5, .int .i64 x.f6, .bool x.f7, .string x.f8.f0, .string x.f8.f1, .string x.f8.f2, .slice A11 x.f9.length c11, .slice A12 x.f10.length c12, .slice A13 x.f11.length c13, .slice A14 x.f12.length c14, .slice A15 x.f13.length c15], rfl, rfl, ⟨[.string x.f4], [.string x.f5, .int .i64 x.f6, .bool x.f7, .string x.f8.f0, .string x.f8.f1, .string x.f8.f2, .slice A11 x.f9.length c11, .slice A12 x.f10.length c12, .slice A13 x.f11.length c13, .slice A14 x.f12.length c14, .slice A15 x.f13.length c15], rfl, rfl, ⟨[.string x.f5], [.int .i64 x.f6, .bool x.f7, .string x.f8.f0, .string x.f8.f1, .string x.f8.f2, .slice A11 x.f9.length c11, .slice A12 x.f10.length c12, .slice A13 x.f11.length c13, .slice A14 x.f12.length c14, .slice A15 x.f13.length c15], rfl, rfl, ⟨[.int .i64 x.f6], [.bool x.f7, .string x.f8.f0, .string x.f8.f1, .string x.f8.f2, .slice A11 x.f9.length c11, .slice A12 x.f10.length c12, .slice A13 x.f11.length c13, .slice A14 x.f12.length c14, .slice A15 x.f13.length c15], rfl, rfl, ⟨[.bool x.f7], [.string x.f8.f0, .string x.f8.f1, .string x.f8.f2, .slice A11 x.f9.length c11, .slice A12 x.f10.length c12, .slice A13 x.f11.length c13, .slice A14 x.f12.length c14, .slice A15 x.f13.length c15], rfl, rfl, ⟨[.string x.f8.f0, .string x.f8.f1, .string x.f8.f2], [.slice A11 x.f9.length c11, .slice A12 x.f10.length c12, .slice A13 x.f11.length c13, .slice A14 x.f12.length c14, .slice A15 x.f13.length c15], rfl, (k28_mk w x.f8 ), ⟨[.slice A11 x.f9.length c11], [.slice A12 x.f10.length c12, .slice A13 x.f11.length c13, .slice A14 x.f12.length c14, .slice A15 x.f13.length c15], rfl, ⟨A11, c11, rfl, l11, g11⟩, ⟨[.slice A12 x.f10.length c12], [.slice A13 x.f11.length c13, .slice A14 x.f12.length c14, .slice A15 x.f13.length c15], rfl, ⟨A12, c12, rfl, l12, g12⟩, ⟨[.slice A13 x.f11.length c13], [.slice A14 x.f12.length c14, .slice A15 x.f13.length c15], rfl, ⟨A13, c13, rfl, l13, g13⟩, ⟨[.slice A14 x.f12.length c14], [.slice A15 x.f13.length c15], rfl, ⟨A14, c14, rfl, l14, g14⟩, ⟨A15, c15, rfl, l15, g15⟩⟩⟩⟩⟩⟩⟩⟩⟩⟩⟩⟩⟩⟩
def rd_T30 (xs : List S30) (i : Int) : S30 := xs.getD i.toNat z30
theorem at_T30 {w : World} {A : Option Addr} {n : Nat} {xs : List S30} (h : Kd.C k30 w A n xs) (i : Int) (h0 : 0 ≤ i) (h1 : i < n) : ∃ ad A11 c11 A12 c12 A13 c13 A14 c14 A15 c15, A = some ad ∧ w.cell? (ad.add (i.toNat * 16)) = some (.string (rd_T30 xs i).f0) ∧ w.cell? ⟨(ad.add (i.toNat * 16)).block, (ad.add (i.toNat * 16)).off + 1, none⟩ = some (.string (rd_T30 xs i).f1) ∧ w.cell? ⟨(ad.add (i.toNat * 16)).block, (ad.add (i.toNat * 16)).off + 2, none⟩ = some (.string (rd_T30 xs i).f2) ∧ w.cell? ⟨(ad.add (i.toNat * 16)).block, (ad.add (i.toNat * 16)).off + 3, none⟩ = some (.string (rd_T30 xs i).f3) ∧ w.cell? ⟨(ad.add (i.toNat * 16)).block, (ad.add (i.toNat * 16)).off + 4, none⟩ = some (.string (rd_T30 xs i).f4) ∧ w.cell? ⟨(ad.add (i.toNat * 16)).block, (ad.add (i.toNat * 16)).off + 5, none⟩ = some (.string (rd_T30 xs i).f5) ∧ w.cell? ⟨(ad.add (i.toNat * 16)).block, (ad.add (i.toNat * 16)).off + 6, none⟩ = some (.int .i64 (rd_T30 xs i).f6) ∧ w.cell? ⟨(ad.add (i.toNat * 16)).block, (ad.add (i.toNat * 16)).off + 7, none⟩ = some (.bool (rd_T30 xs i).f7) ∧ w.cell? ⟨(ad.add (i.toNat * 16)).block, (ad.add (i.toNat * 16)).off + 8, none⟩ = some (.string (rd_T30 xs i).f8.f0) ∧ w.cell? ⟨(ad.add (i.toNat * 16)).block, (ad.add (i.toNat * 16)).off + 9, none⟩ = some (.string (rd_T30 xs i).f8.f1) ∧ w.cell? ⟨(ad.add (i.toNat * 16)).block, (ad.add (i.toNat * 16)).off + 10, none⟩ = some (.string (rd_T30 xs i).f8.f2) ∧ w.cell? ⟨(ad.add (i.toNat * 16)).block, (ad.add (i.toNat * 16)).off + 11, none⟩ = some (.slice A11 (rd_T30 xs i).f9.length c11) ∧ w.cell? ⟨(ad.add (i.toNat * 16)).block, (ad.add (i.toNat * 16)).off + 12, none⟩ = some (.slice A12 (rd_T30 xs i).f10.length c12) ∧ w.cell? ⟨(ad.add (i.toNat * 16)).block, (ad.add (i.toNat * 16)).off + 13, none⟩ = some (.slice A13 (rd_T30 xs i).f11.length c13) ∧ w.cell? ⟨(ad.add (i.toNat * 16)).block, (ad.add (i.toNat * 16)).off + 14, none⟩ = some (.slice A14 (rd_T30 xs i).f12.length c14) ∧ w.cell? ⟨(ad.add (i.toNat * 16)).block, (ad.add (i.toNat * 16)).off + 15, none⟩ = some (.slice A15 (rd_T30 xs i).f13.length c15) ∧ (rd_T30 xs i).f9.length ≤ c11 ∧ Kd.string.C w A11 (rd_T30 xs i).f9.length (rd_T30 xs i).f9 ∧ (rd_T30 xs i).f10.length ≤ c12 ∧ Kd.string.C w A12 (rd_T30 xs i).f10.length (rd_T30 xs i).f10 ∧ (rd_T30 xs i).f11.length ≤ c13 ∧ Kd.string.C w A13 (rd_T30 xs i).f11.length (rd_T30 xs i).f11 ∧ (rd_T30 xs i).f12.length ≤ c14 ∧ Kd.string.C w A14 (rd_T30 xs i).f12.length (rd_T30 xs i).f12 ∧ (rd_T30 xs i).f13.length ≤ c15 ∧ Kd.string.C w A15 (rd_T30 xs i).f13.length (rd_T30 xs i).f13 := by
 obtain ⟨ad, c, e, _, hK, hc0⟩ := Kd.C_get h z30 i h0 h1
 have hc : ∀ j u, c[j]? = some u → w.cell? (ad.add (i.toNat * 16 + j)) = some u := hc0
 obtain ⟨A11, c11, A12, c12, A13, c13, A14, c14, A15, c15, rfl, l11, g11, l12, g12, l13, g13, l14, g14, l15, g15⟩ := k30_open hK
 exact ⟨ad, A11, c11, A12, c12, A13, c13, A14, c14, A15, c15, e, hc 0 _ rfl, by rw [← add_field _ _ 1 (by omega)]; exact hc 1 _ rfl, by rw [← add_field _ _ 2 (by omega)]; exact hc 2 _ rfl, by rw [← add_field _ _ 3 (by omega)]; exact hc 3 _ rfl, by rw [← add_field _ _ 4 (by omega)]; exact hc 4 _ rfl, by rw [← add_field _ _ 5 (by omega)]; exact hc 5 _ rfl, by rw [← add_field _ _ 6 (by omega)]; exact hc 6 _ rfl, by rw [← add_field _ _ 7 (by omega)]; exact hc 7 _ rfl, by rw [← add_field _ _ 8 (by omega)]; exact hc 8 _ rfl, by rw [← add_field _ _ 9 (by omega)]; exact hc 9 _ rfl, by rw [← add_field _ _ 10 (by omega)]; exact hc 10 _ rfl, by rw [← add_field _ _ 11 (by omega)]; exact hc 11 _ rfl, by rw [← add_field _ _ 12 (by omega)]; exact hc 12 _ rfl, by rw [← add_field _ _ 13 (by omega)]; exact hc 13 _ rfl, by rw [← add_field _ _ 14 (by omega)]; exact hc 14 _ rfl, by rw [← add_field _ _ 15 (by omega)]; exact hc 15 _ rfl, l11, g11, l12, g12, l13, g13, l14, g14, l15, g15⟩
def IsS57 (w0 W : World) (g : Nat) (f0 : ByteArray) (f1 : ByteArray) (f2 : ByteArray) (f3 : Int) (f4 : ByteArray) (f5 : ByteArray) (f6 : ByteArray) (f7 : Bool) (f8 : Bool) : Prop := W.heap[g]? = some (.cells #[.string f0, .string f1, .string f2, .int .i64 f3, .string f4, .string f5, .string f6, .bool f7, .bool f8] 57 (0, 0)) ∧ w0.heap.size ≤ g
theorem IsS57.grown {w0 W : World} {g : Nat} {f0 : ByteArray} {f1 : ByteArray} {f2 : ByteArray} {f3 : Int} {f4 : ByteArray} {f5 : ByteArray} {f6 : ByteArray} {f7 : Bool} {f8 : Bool} {W1 : World} {row : Option Nat} (h : IsS57 w0 W g f0 f1 f2 f3 f4 f5 f6 f7 f8) (hw : W.grownBy W1 row) (hne : some g ≠ row) : IsS57 w0 W1 g f0 f1 f2 f3 f4 f5 f6 f7 f8 := by
 obtain ⟨hb, hg⟩ := h
 exact ⟨blk_grown hb hw hne, hg⟩
theorem IsS57.below {w0 W : World} {g : Nat} {f0 : ByteArray} {f1 : ByteArray} {f2 : ByteArray} {f3 : Int} {f4 : ByteArray} {f5 : ByteArray} {f6 : ByteArray} {f7 : Bool} {f8 : Bool} {W1 : World} (h : IsS57 w0 W g f0 f1 f2 f3 f4 f5 f6 f7 f8) (hw : Below W.heap.size W W1) : IsS57 w0 W1 g f0 f1 f2 f3 f4 f5 f6 f7 f8 := h.grown (grown_of_below hw none) (by simp)
theorem IsS57.drewN {w0 W : World} {g : Nat} {f0 : ByteArray} {f1 : ByteArray} {f2 : ByteArray} {f3 : Int} {f4 : ByteArray} {f5 : ByteArray} {f6 : ByteArray} {f7 : Bool} {f8 : Bool} (h : IsS57 w0 W g f0 f1 f2 f3 f4 f5 f6 f7 f8) (m : Nat) : IsS57 w0 (W.drewN m) g f0 f1 f2 f3 f4 f5 f6 f7 f8 := h
theorem IsS57.apart {w0 W : World} {g : Nat} {f0 : ByteArray} {f1 : ByteArray} {f2 : ByteArray} {f3 : Int} {f4 : ByteArray} {f5 : ByteArray} {f6 : ByteArray} {f7 : Bool} {f8 : Bool} {α : Type} {d : Kd α} {e : Nat} {base : Nat} {ok : Nat → Prop} {v : Value} {xs : List α} (h : IsS57 w0 W g f0 f1 f2 f3 f4 f5 f6 f7 f8) (ho : d.R e W base ok v xs) (ht : ∀ q, q ∈ e :: d.E → q ≠ 57) : d.R e W base (fun k => ok k ∧ k ≠ g) v xs := by
 obtain ⟨hb, hg⟩ := h
 exact Kd.R_types ho hb ht
theorem IsS57.ge {w0 W : World} {g : Nat} {f0 : ByteArray} {f1 : ByteArray} {f2 : ByteArray} {f3 : Int} {f4 : ByteArray} {f5 : ByteArray} {f6 : ByteArray} {f7 : Bool} {f8 : Bool} (h : IsS57 w0 W g f0 f1 f2 f3 f4 f5 f6 f7 f8) : w0.heap.size ≤ g := by
 obtain ⟨hb, hg⟩ := h
 exact hg
theorem cellS57_0 {W : World} {g : Nat} {f0 : ByteArray} {f1 : ByteArray} {f2 : ByteArray} {f3 : Int} {f4 : ByteArray} {f5 : ByteArray} {f6 : ByteArray} {f7 : Bool} {f8 : Bool} (h : W.heap[g]? = some (.cells #[.string f0, .string f1, .string f2, .int .i64 f3, .string f4, .string f5, .string f6, .bool f7, .bool f8] 57 (0, 0))) : W.cell? ⟨g, 0, none⟩ = some (.string f0) := (blk_cell h 0).trans rfl
theorem IsS57.set_0 {w0 W : World} {g : Nat} {f0 : ByteArray} {f1 : ByteArray} {f2 : ByteArray} {f3 : Int} {f4 : ByteArray} {f5 : ByteArray} {f6 : ByteArray} {f7 : Bool} {f8 : Bool} (h : IsS57 w0 W g f0 f1 f2 f3 f4 f5 f6 f7 f8) (x : ByteArray) : IsS57 w0 (W.setCell ⟨g, 0, none⟩ (.string x)) g x f1 f2 f3 f4 f5 f6 f7 f8 := by
 obtain ⟨hb, hg⟩ := h
 exact ⟨by simpa using blk_set hb 0 (.string x), hg⟩
theorem cellS57_1 {W : World} {g : Nat} {f0 : ByteArray} {f1 : ByteArray} {f2 : ByteArray} {f3 : Int} {f4 : ByteArray} {f5 : ByteArray} {f6 : ByteArray} {f7 : Bool} {f8 : Bool} (h : W.heap[g]? = some (.cells #[.string f0, .string f1, .string f2, .int .i64 f3, .string f4, .string f5, .string f6, .bool f7, .bool f8] 57 (0, 0))) : W.cell? ⟨g, 1, none⟩ = some (.string f1) := (blk_cell h 1).trans rfl
theorem IsS57.set_1 {w0 W : World} {g : Nat} {f0 : ByteArray} {f1 : ByteArray} {f2 : ByteArray} {f3 : Int} {f4 : ByteArray} {f5 : ByteArray} {f6 : ByteArray} {f7 : Bool} {f8 : Bool} (h : IsS57 w0 W g f0 f1 f2 f3 f4 f5 f6 f7 f8) (x : ByteArray) : IsS57 w0 (W.setCell ⟨g, 1, none⟩ (.string x)) g f0 x f2 f3 f4 f5 f6 f7 f8 := by
 obtain ⟨hb, hg⟩ := h
 exact ⟨by simpa using blk_set hb 1 (.string x), hg⟩
theorem cellS57_2 {W : World} {g : Nat} {f0 : ByteArray} {f1 : ByteArray} {f2 : ByteArray} {f3 : Int} {f4 : ByteArray} {f5 : ByteArray} {f6 : ByteArray} {f7 : Bool} {f8 : Bool} (h : W.heap[g]? = some (.cells #[.string f0, .string f1, .string f2, .int .i64 f3, .string f4, .string f5, .string f6, .bool f7, .bool f8] 57 (0, 0))) : W.cell? ⟨g, 2, none⟩ = some (.string f2) := (blk_cell h 2).trans rfl
theorem IsS57.set_2 {w0 W : World} {g : Nat} {f0 : ByteArray} {f1 : ByteArray} {f2 : ByteArray} {f3 : Int} {f4 : ByteArray} {f5 : ByteArray} {f6 : ByteArray} {f7 : Bool} {f8 : Bool} (h : IsS57 w0 W g f0 f1 f2 f3 f4 f5 f6 f7 f8) (x : ByteArray) : IsS57 w0 (W.setCell ⟨g, 2, none⟩ (.string x)) g f0 f1 x f3 f4 f5 f6 f7 f8 := by
 obtain ⟨hb, hg⟩ := h
 exact ⟨by simpa using blk_set hb 2 (.string x), hg⟩
theorem cellS57_3 {W : World} {g : Nat} {f0 : ByteArray} {f1 : ByteArray} {f2 : ByteArray} {f3 : Int} {f4 : ByteArray} {f5 : ByteArray} {f6 : ByteArray} {f7 : Bool} {f8 : Bool} (h : W.heap[g]? = some (.cells #[.string f0, .string f1, .string f2, .int .i64 f3, .string f4, .string f5, .string f6, .bool f7, .bool f8] 57 (0, 0))) : W.cell? ⟨g, 3, none⟩ = some (.int .i64 f3) := (blk_cell h 3).trans rfl
theorem IsS57.set_3 {w0 W : World} {g : Nat} {f0 : ByteArray} {f1 : ByteArray} {f2 : ByteArray} {f3 : Int} {f4 : ByteArray} {f5 : ByteArray} {f6 : ByteArray} {f7 : Bool} {f8 : Bool} (h : IsS57 w0 W g f0 f1 f2 f3 f4 f5 f6 f7 f8) (x : Int) : IsS57 w0 (W.setCell ⟨g, 3, none⟩ (.int .i64 x)) g f0 f1 f2 x f4 f5 f6 f7 f8 := by
 obtain ⟨hb, hg⟩ := h
 exact ⟨by simpa using blk_set hb 3 (.int .i64 x), hg⟩
theorem cellS57_4 {W : World} {g : Nat} {f0 : ByteArray} {f1 : ByteArray} {f2 : ByteArray} {f3 : Int} {f4 : ByteArray} {f5 : ByteArray} {f6 : ByteArray} {f7 : Bool} {f8 : Bool} (h : W.heap[g]? = some (.cells #[.string f0, .string f1, .string f2, .int .i64 f3, .string f4, .string f5, .string f6, .bool f7, .bool f8] 57 (0, 0))) : W.cell? ⟨g, 4, none⟩ = some (.string f4) := (blk_cell h 4).trans rfl
theorem IsS57.set_4 {w0 W : World} {g : Nat} {f0 : ByteArray} {f1 : ByteArray} {f2 : ByteArray} {f3 : Int} {f4 : ByteArray} {f5 : ByteArray} {f6 : ByteArray} {f7 : Bool} {f8 : Bool} (h : IsS57 w0 W g f0 f1 f2 f3 f4 f5 f6 f7 f8) (x : ByteArray) : IsS57 w0 (W.setCell ⟨g, 4, none⟩ (.string x)) g f0 f1 f2 f3 x f5 f6 f7 f8 := by
 obtain ⟨hb, hg⟩ := h
 exact ⟨by simpa using blk_set hb 4 (.string x), hg⟩
theorem cellS57_5 {W : World} {g : Nat} {f0 : ByteArray} {f1 : ByteArray} {f2 : ByteArray} {f3 : Int} {f4 : ByteArray} {f5 : ByteArray} {f6 : ByteArray} {f7 : Bool} {f8 : Bool} (h : W.heap[g]? = some (.cells #[.string f0, .string f1, .string f2, .int .i64 f3, .string f4, .string f5, .string f6, .bool f7, .bool f8] 57 (0, 0))) : W.cell? ⟨g, 5, none⟩ = some (.string f5) := (blk_cell h 5).trans rfl
theorem IsS57.set_5 {w0 W : World} {g : Nat} {f0 : ByteArray} {f1 : ByteArray} {f2 : ByteArray} {f3 : Int} {f4 : ByteArray} {f5 : ByteArray} {f6 : ByteArray} {f7 : Bool} {f8 : Bool} (h : IsS57 w0 W g f0 f1 f2 f3 f4 f5 f6 f7 f8) (x : ByteArray) : IsS57 w0 (W.setCell ⟨g, 5, none⟩ (.string x)) g f0 f1 f2 f3 f4 x f6 f7 f8 := by
 obtain ⟨hb, hg⟩ := h
 exact ⟨by simpa using blk_set hb 5 (.string x), hg⟩
theorem cellS57_6 {W : World} {g : Nat} {f0 : ByteArray} {f1 : ByteArray} {f2 : ByteArray} {f3 : Int} {f4 : ByteArray} {f5 : ByteArray} {f6 : ByteArray} {f7 : Bool} {f8 : Bool} (h : W.heap[g]? = some (.cells #[.string f0, .string f1, .string f2, .int .i64 f3, .string f4, .string f5, .string f6, .bool f7, .bool f8] 57 (0, 0))) : W.cell? ⟨g, 6, none⟩ = some (.string f6) := (blk_cell h 6).trans rfl
theorem IsS57.set_6 {w0 W : World} {g : Nat} {f0 : ByteArray} {f1 : ByteArray} {f2 : ByteArray} {f3 : Int} {f4 : ByteArray} {f5 : ByteArray} {f6 : ByteArray} {f7 : Bool} {f8 : Bool} (h : IsS57 w0 W g f0 f1 f2 f3 f4 f5 f6 f7 f8) (x : ByteArray) : IsS57 w0 (W.setCell ⟨g, 6, none⟩ (.string x)) g f0 f1 f2 f3 f4 f5 x f7 f8 := by
 obtain ⟨hb, hg⟩ := h
 exact ⟨by simpa using blk_set hb 6 (.string x), hg⟩
theorem cellS57_7 {W : World} {g : Nat} {f0 : ByteArray} {f1 : ByteArray} {f2 : ByteArray} {f3 : Int} {f4 : ByteArray} {f5 : ByteArray} {f6 : ByteArray} {f7 : Bool} {f8 : Bool} (h : W.heap[g]? = some (.cells #[.string f0, .string f1, .string f2, .int .i64 f3, .string f4, .string f5, .string f6, .bool f7, .bool f8] 57 (0, 0))) : W.cell? ⟨g, 7, none⟩ = some (.bool f7) := (blk_cell h 7).trans rfl
theorem IsS57.set_7 {w0 W : World} {g : Nat} {f0 : ByteArray} {f1 : ByteArray} {f2 : ByteArray} {f3 : Int} {f4 : ByteArray} {f5 : ByteArray} {f6 : ByteArray} {f7 : Bool} {f8 : Bool} (h : IsS57 w0 W g f0 f1 f2 f3 f4 f5 f6 f7 f8) (x : Bool) : IsS57 w0 (W.setCell ⟨g, 7, none⟩ (.bool x)) g f0 f1 f2 f3 f4 f5 f6 x f8 := by
 obtain ⟨hb, hg⟩ := h
 exact ⟨by simpa using blk_set hb 7 (.bool x), hg⟩
theorem cellS57_8 {W : World} {g : Nat} {f0 : ByteArray} {f1 : ByteArray} {f2 : ByteArray} {f3 : Int} {f4 : ByteArray} {f5 : ByteArray} {f6 : ByteArray} {f7 : Bool} {f8 : Bool} (h : W.heap[g]? = some (.cells #[.string f0, .string f1, .string f2, .int .i64 f3, .string f4, .string f5, .string f6, .bool f7, .bool f8] 57 (0, 0))) : W.cell? ⟨g, 8, none⟩ = some (.bool f8) := (blk_cell h 8).trans rfl
theorem IsS57.set_8 {w0 W : World} {g : Nat} {f0 : ByteArray} {f1 : ByteArray} {f2 : ByteArray} {f3 : Int} {f4 : ByteArray} {f5 : ByteArray} {f6 : ByteArray} {f7 : Bool} {f8 : Bool} (h : IsS57 w0 W g f0 f1 f2 f3 f4 f5 f6 f7 f8) (x : Bool) : IsS57 w0 (W.setCell ⟨g, 8, none⟩ (.bool x)) g f0 f1 f2 f3 f4 f5 f6 f7 x := by
 obtain ⟨hb, hg⟩ := h
 exact ⟨by simpa using blk_set hb 8 (.bool x), hg⟩
theorem IsS57.new (w0 W : World) (f0 : ByteArray) (f1 : ByteArray) (f2 : ByteArray) (f3 : Int) (f4 : ByteArray) (f5 : ByteArray) (f6 : ByteArray) (f7 : Bool) (f8 : Bool) (hB : Below w0.heap.size w0 W) : IsS57 w0 (W.alloc (.cells #[.string f0, .string f1, .string f2, .int .i64 f3, .string f4, .string f5, .string f6, .bool f7, .bool f8] 57)) W.heap.size f0 f1 f2 f3 f4 f5 f6 f7 f8 := ⟨by simpa using heap_alloc_new W _, hB.size⟩
end Go.Proofs.YtihaeeldgimdiaaDoor.X
