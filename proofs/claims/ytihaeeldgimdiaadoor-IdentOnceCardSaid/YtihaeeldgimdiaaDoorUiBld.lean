/- A strings.Builder that a call makes: what its methods do, over its bytes. -/
import Derived.Test.YtihaeeldgimdiaaDoorUiH0a
import Derived.Shelf.Strings.BuilderK
import Derived.Shelf.Strings.MapGrows
namespace Go.Proofs.YtihaeeldgimdiaaDoor.X
open Go.RowKit Go.Lib Go.Shelf
set_option linter.unusedVariables false
set_option linter.unusedSimpArgs false
def bld166_ren : Go.Shelf.Ren := ⟨fun | 166 => 71 | 240 => 88 | 276 => 97 | n => n, fun | 0 => 0 | 3 => 3 | 4 => 4 | 5 => 5 | 9 => 9 | 20 => 20 | 37 => 67 | 70 => 99 | 72 => 101 | 75 => 103 | 80 => 107 | 164 => 122 | n => n, fun | n => n⟩
theorem bld166 : Go.Proofs.Lays.n166 Tryd.prog bld166_ren := {
 mixed := by kernel_rfl
 f166 := Tryd.func71.trans (congrArg some (by kernel_rfl))
 f240 := Tryd.func88.trans (congrArg some (by kernel_rfl))
 f276 := Tryd.func97.trans (congrArg some (by kernel_rfl))
 t0 := Tryd.underlying0
 a0 := Tryd.isAgg0
 z0 := Tryd.sizeOf0
 v0 := Tryd.zeroValue0
 t3 := Tryd.underlying3
 a3 := Tryd.isAgg3
 z3 := Tryd.sizeOf3
 v3 := Tryd.zeroValue3
 t4 := Tryd.underlying4
 a4 := Tryd.isAgg4
 z4 := Tryd.sizeOf4
 v4 := Tryd.zeroValue4
 t9 := Tryd.underlying9
 a9 := Tryd.isAgg9
 z9 := Tryd.sizeOf9
 v9 := Tryd.zeroValue9
 t20 := Tryd.underlying20
 a20 := Tryd.isAgg20
 z20 := Tryd.sizeOf20
 v20 := Tryd.zeroValue20
 t37 := Tryd.underlying67
 a37 := Tryd.isAgg67
 z37 := Tryd.sizeOf67
 v37 := Tryd.zeroValue67
 t70 := Tryd.underlying99
 a70 := Tryd.isAgg99
 z70 := Tryd.sizeOf99
 v70 := Tryd.zeroValue99
 t72 := Tryd.underlying101
 a72 := Tryd.isAgg101
 z72 := Tryd.sizeOf101
 v72 := Tryd.zeroValue101
 t75 := Tryd.underlying103
 a75 := Tryd.isAgg103
 z75 := Tryd.sizeOf103
 v75 := Tryd.zeroValue103
 t164 := Tryd.underlying122
 a164 := Tryd.isAgg122
 z164 := Tryd.sizeOf122
 v164 := Tryd.zeroValue122 }
theorem bldX166 : Builder.Extra Tryd.prog bld166_ren := {
 sizeBuilder := by kernel_rfl
 liesBuilder := by kernel_rfl
 t5 := Tryd.underlying5
 a5 := Tryd.isAgg5
 z5 := Tryd.sizeOf5
 v5 := Tryd.zeroValue5
 infoByte := by kernel_rfl
 cellsByte := by kernel_rfl
 sizeByte := by kernel_rfl
 neB5 := by decide }
def bld167_ren : Go.Shelf.Ren := ⟨fun | 167 => 70 | 240 => 88 | 276 => 97 | n => n, fun | 0 => 0 | 4 => 4 | 5 => 5 | 9 => 9 | 20 => 20 | 37 => 67 | 70 => 99 | 72 => 101 | 75 => 103 | 80 => 107 | 164 => 122 | n => n, fun | n => n⟩
theorem bld167 : Go.Proofs.Lays.n167 Tryd.prog bld167_ren := {
 mixed := by kernel_rfl
 f167 := Tryd.func70.trans (congrArg some (by kernel_rfl))
 f240 := Tryd.func88.trans (congrArg some (by kernel_rfl))
 f276 := Tryd.func97.trans (congrArg some (by kernel_rfl))
 t0 := Tryd.underlying0
 a0 := Tryd.isAgg0
 z0 := Tryd.sizeOf0
 v0 := Tryd.zeroValue0
 t4 := Tryd.underlying4
 a4 := Tryd.isAgg4
 z4 := Tryd.sizeOf4
 v4 := Tryd.zeroValue4
 t5 := Tryd.underlying5
 a5 := Tryd.isAgg5
 z5 := Tryd.sizeOf5
 v5 := Tryd.zeroValue5
 t9 := Tryd.underlying9
 a9 := Tryd.isAgg9
 z9 := Tryd.sizeOf9
 v9 := Tryd.zeroValue9
 t20 := Tryd.underlying20
 a20 := Tryd.isAgg20
 z20 := Tryd.sizeOf20
 v20 := Tryd.zeroValue20
 t37 := Tryd.underlying67
 a37 := Tryd.isAgg67
 z37 := Tryd.sizeOf67
 v37 := Tryd.zeroValue67
 t70 := Tryd.underlying99
 a70 := Tryd.isAgg99
 z70 := Tryd.sizeOf99
 v70 := Tryd.zeroValue99
 t72 := Tryd.underlying101
 a72 := Tryd.isAgg101
 z72 := Tryd.sizeOf101
 v72 := Tryd.zeroValue101
 t75 := Tryd.underlying103
 a75 := Tryd.isAgg103
 z75 := Tryd.sizeOf103
 v75 := Tryd.zeroValue103
 t164 := Tryd.underlying122
 a164 := Tryd.isAgg122
 z164 := Tryd.sizeOf122
 v164 := Tryd.zeroValue122 }
theorem bldX167 : Builder.Extra Tryd.prog bld167_ren := {
 sizeBuilder := by kernel_rfl
 liesBuilder := by kernel_rfl
 t5 := Tryd.underlying5
 a5 := Tryd.isAgg5
 z5 := Tryd.sizeOf5
 v5 := Tryd.zeroValue5
 infoByte := by kernel_rfl
 cellsByte := by kernel_rfl
 sizeByte := by kernel_rfl
 neB5 := by decide }
abbrev IsBld (B b : Nat) (l : List UInt8) (w : World) : Prop := Lib.IsBuilderF 101 5 B b (Lib.byteCells l) w
theorem bld_new (w : World) : IsBld w.heap.size w.heap.size [] (w.alloc (.cells #[.pointer none, .slice none 0 0] 101)) := Lib.IsBuilderF.of (Lib.fresh_isBuilder _ _ w)
theorem bld_byte (B b : Nat) (l : List UInt8) (u : UInt8) (w : World) (h : IsBld B b l w) (hl : l.length + 1 ≤ 140737488355328) (hB : B ≤ w.heap.size) :
  Calls Tryd.prog 70 #[.pointer (some ⟨b, 0, none⟩), .int .u8 (u.toNat : Int)] w fun e w' => e = .returned .nilIface ∧ IsBld B b (l ++ [u]) w' ∧ Below B w w' :=
 (Any.Builder_WriteByte_k bld167 bldX167 B b _ (u.toNat : Int) w h (by rw [Lib.byteCells_length]; exact hl) hB).mono fun e w' ⟨h1, h2, h3, _⟩ => ⟨h1, Or.inr (by rw [Lib.byteCells_append]; exact h2), h3⟩
theorem bld_str (B b : Nat) (l : List UInt8) (s : ByteArray) (w : World) (h : IsBld B b l w) (hl : l.length + s.size ≤ 140737488355328) (hB : B ≤ w.heap.size) :
  Calls Tryd.prog 71 #[.pointer (some ⟨b, 0, none⟩), .string s] w fun e w' => e = .returned (.tuple #[.int .i64 s.size, .nilIface]) ∧ IsBld B b (l ++ s.data.toList) w' ∧ Below B w w' :=
 (Any.Builder_WriteString_k bld166 bldX166 B b _ s w h (by rw [Lib.byteCells_length]; exact hl) hB).mono fun e w' ⟨h1, h2, h3, _⟩ => ⟨h1, Or.inr (by rw [Lib.byteCells_append]; exact h2), h3⟩
theorem bld_string (B b : Nat) (l : List UInt8) (w : World) (h : IsBld B b l w) (hB : B ≤ w.heap.size) :
  Calls Tryd.prog 73 #[.pointer (some ⟨b, 0, none⟩)] w fun e w' => e = .returned (.string (ofL l)) ∧ Below B w w' :=
 (Tryd.Builder_String_any_f B b l w h hB).mono fun e w' ⟨h1, _, h3⟩ => ⟨h1, h3⟩
end Go.Proofs.YtihaeeldgimdiaaDoor.X
