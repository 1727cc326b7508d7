/- Texts of this seat's proof that belong together. -/
import Derived.Test.YtfmjnmglagdcdaaGreatDoorCHWords
import Derived.Test.YtfmjnmglagdcdaaGreatDoorCHQa
import Derived.Shelf.Strings.FuncGrows
import Derived.Laws.Slices
import Derived.Outline
import Derived.Test.YtfmjnmglagdcdaaGreatDoorCHH0a
import Derived.Shelf.Strings.BuilderK
import Derived.Shelf.Strings.MapGrows
import Derived.Test.YtfmjnmglagdcdaaGreatDoorCHH0c
import Derived.Test.YtfmjnmglagdcdaaGreatDoorCHH0d
section
namespace Go.Proofs.YtfmjnmglagdcdaaGreatDoor.X
open Go.RowKit Go.Lib Go.Shelf Go.Yw.PrintWords Go.Yw.PrintLast Go.Yw.PrintMore
set_option linter.unusedVariables false
set_option linter.unusedSimpArgs false
def Yye (l : List UInt8) : List UInt8 := (((Yof l).filter (· != 9)).filter (· != 10)).filter (· != 13)
theorem trim33_le (l : List UInt8) : (Yof l).length ≤ l.length := by
 unfold Yof
 rw [List.length_reverse]
 refine Nat.le_trans (List.dropWhile_sublist _).length_le ?_
 rw [List.length_reverse]
 exact (List.dropWhile_sublist _).length_le
theorem Yep (w : World) : PredGrows Tryz.prog 67 #[] Yfe w := by
 intro W x hx hb
 show Calls Tryz.prog 67 #[.int .i32 (x : Int)] W _
 have hd : decide ((x : Int) ≤ 32) = Yfe x := by simp [Yfe, decide_eq_decide]; omega
 go_enter Tryz.func67, Tryz.ntmps67
 go_wp2
 go_ret
 exact ⟨by first | rfl | (rw [hd]; rfl) | simp [hd], Below.refl _ _⟩
def Yne : Nat → UInt8
 | 0 => 9
 | 1 => 10
 | _ => 13
def Yvo (l : List UInt8) : Nat → List UInt8
 | 0 => Yof l
 | 1 => (Yof l).filter (· != 9)
 | 2 => ((Yof l).filter (· != 9)).filter (· != 10)
 | _ => Yye l
def Yle.f (a0 : ByteArray) : Option ByteArray := if a0.size < 4294967281 then some (ofL (Yye a0.data.toList)) else none
set_option maxHeartbeats 4000000 in
set_option maxRecDepth 100000 in
theorem Yle.calls (a0 : ByteArray) (r : ByteArray) (w : World) (hE : EnvOk w) (h : Yle.f a0 = some r) :
  Calls Tryz.prog 54 #[.string a0] w fun e w' => e = .returned (.string r) ∧ Below w.heap.size w w' := by
 unfold Yle.f at h
 by_cases hs : a0.size < 4294967281
 ·rw [if_pos hs] at h
  obtain rfl := Option.some.inj h
  have HE := Ya.mk hE
  clear hE h
  go_enter Tryz.func54, Tryz.ntmps54
  go_wp2_with fail
  refine (Tryz.strings_TrimFunc_grows 67 #[] (enters_of Tryz.func67 Zg rfl) Yfe a0 _ Zk HE.out.tabs (Yep _)).mono ?_
  rintro e w1 ⟨rfl, hb1⟩
  have HB1 := Ya.mk hb1
  obtain ⟨t, ht⟩ : ∃ t, t = Lib.trimF Yfe a0 := ⟨_, rfl⟩
  rw [← ht]
  have HT := Ya.mk ht
  clear ht hb1
  have hsz : t.size ≤ a0.size := by
   have h1 := trim33_le a0.data.toList
   rw [Lib.size_eq, HT.out, trimF33, Lib.size_eq a0]; exact h1
  go_wp2
  go_loopg [0, 5, 11] 3 (fun g v0 _ v11 wx => ∃ (k : Nat) (x : ByteArray), k + g ≤ 3 ∧ 3 ≤ k + g ∧ v0 = .string x ∧ v11 = .int .i64 (k : Int) ∧ x.size ≤ a0.size ∧ Ya (x.data.toList = Yvo a0.data.toList k) ∧ Ya (wx.heap[w1.heap.size]? = some (.cells #[.string ⟨#[9]⟩, .string ⟨#[10]⟩, .string ⟨#[13]⟩] 9 (0, 0))) ∧ Ya (Below w.heap.size w wx))
  case atStart => exact ⟨0, t, Zk, Zk, rfl, rfl, hsz, ⟨by rw [HT.out, trimF33]; rfl⟩, ⟨by simpa using heap_alloc_new w1 _⟩, ⟨HB1.out.alloc HB1.out.size _⟩⟩
  case round =>
   obtain ⟨k, x, hk1, hk2, rfl, rfl, hx, HX, HC, HB⟩ := hrel
   cases gk with
   | zero =>
    obtain rfl : k = 3 := by omega
    go_wp2
    go_ret
    refine ⟨?_, HB.out⟩
    have e : x = ofL (Yye a0.data.toList) := by
     apply ByteArray.ext; apply Array.ext'
     rw [HX.out]; rfl
    rw [e]; rfl
   | succ g =>
    have hk3 : k < 3 := by omega
    have hcell : wr.cell? ⟨w1.heap.size, k, none⟩ = some (.string ⟨#[Yne k]⟩) := by
     rw [Lib.cell_of_heap HC.out]
     rcases (show k = 0 ∨ k = 1 ∨ k = 2 by omega) with rfl | rfl | rfl <;> rfl
    have hf : strings_ReplaceAll.f x ⟨#[Yne k]⟩ ⟨#[]⟩ = some (ofL (x.data.toList.filter (· != Yne k))) := by
     unfold strings_ReplaceAll.f
     rw [if_pos ⟨Zk, by show 1 ≤ 1; omega, by show x.size + Lib.countB x _ * 0 ≤ _; omega⟩]
     show some (ofL (Lib.replaceAll x.data.toList [Yne k] [])) = _
     rw [Yfj]
    have HF := Ya.mk hf
    have HE1 := Ya.mk (HE.out.below HB.out)
    clear hf
    go_wp2_with fail
    refine (strings_ReplaceAll.calls x ⟨#[Yne k]⟩ ⟨#[]⟩ _ _ HE1.out HF.out).mono ?_
    rintro e w2 ⟨rfl, hb2⟩
    have HB2 := Ya.mk hb2
    clear hb2 hcell
    go_wp2
    go_roundg g
    case measure => omega
    case rel =>
     refine ⟨k + 1, ofL (x.data.toList.filter (· != Yne k)), Zk, Zk, rfl, by go_num, ?_, ⟨?_⟩, ⟨?_⟩, ⟨HB.out.trans (HB2.out.mono HB.out.size)⟩⟩
     ·refine Nat.le_trans ?_ hx
      rw [Lib.size_eq, Lib.size_eq x]
      exact List.length_filter_le _ _
     ·show x.data.toList.filter (· != Yne k) = _
      rw [HX.out]
      rcases (show k = 0 ∨ k = 1 ∨ k = 2 by omega) with rfl | rfl | rfl <;> rfl
     ·rw [HB2.out.block _ (Array.getElem?_eq_some_iff.1 HC.out).1]; exact HC.out
 ·rw [if_neg hs] at h; cases h
end Go.Proofs.YtfmjnmglagdcdaaGreatDoor.X
end
section
section
namespace Go.Proofs.YtfmjnmglagdcdaaGreatDoor.X
open Go.RowKit Go.Lib Go.Shelf
set_option linter.unusedVariables false
set_option linter.unusedSimpArgs false
def Ylk : Go.Shelf.Ren := ⟨fun | 166 => 108 | 240 => 128 | 276 => 137 | n => n, fun | 0 => 0 | 3 => 3 | 4 => 4 | 5 => 5 | 9 => 9 | 20 => 20 | 37 => 111 | 70 => 139 | 72 => 141 | 75 => 143 | 80 => 147 | 164 => 161 | n => n, fun | n => n⟩
theorem bld166 : Go.Proofs.Lays.n166 Tryz.prog Ylk := {
 mixed := by kernel_rfl
 f166 := Tryz.func108.trans (congrArg some Zg)
 f240 := Tryz.func128.trans (congrArg some Zg)
 f276 := Tryz.func137.trans (congrArg some Zg)
 t0 := Tryz.underlying0
 a0 := Tryz.isAgg0
 z0 := Tryz.sizeOf0
 v0 := Tryz.zeroValue0
 t3 := Tryz.underlying3
 a3 := Tryz.isAgg3
 z3 := Tryz.sizeOf3
 v3 := Tryz.zeroValue3
 t4 := Tryz.underlying4
 a4 := Tryz.isAgg4
 z4 := Tryz.sizeOf4
 v4 := Tryz.zeroValue4
 t9 := Tryz.underlying9
 a9 := Tryz.isAgg9
 z9 := Tryz.sizeOf9
 v9 := Tryz.zeroValue9
 t20 := Tryz.underlying20
 a20 := Tryz.isAgg20
 z20 := Tryz.sizeOf20
 v20 := Tryz.zeroValue20
 t37 := Tryz.underlying111
 a37 := Tryz.isAgg111
 z37 := Tryz.sizeOf111
 v37 := Tryz.zeroValue111
 t70 := Tryz.underlying139
 a70 := Tryz.isAgg139
 z70 := Tryz.sizeOf139
 v70 := Tryz.zeroValue139
 t72 := Tryz.underlying141
 a72 := Tryz.isAgg141
 z72 := Tryz.sizeOf141
 v72 := Tryz.zeroValue141
 t75 := Tryz.underlying143
 a75 := Tryz.isAgg143
 z75 := Tryz.sizeOf143
 v75 := Tryz.zeroValue143
 t164 := Tryz.underlying161
 a164 := Tryz.isAgg161
 z164 := Tryz.sizeOf161
 v164 := Tryz.zeroValue161 }
theorem bldX166 : Builder.Extra Tryz.prog Ylk := {
 sizeBuilder := by kernel_rfl
 liesBuilder := by kernel_rfl
 t5 := Tryz.underlying5
 a5 := Tryz.isAgg5
 z5 := Tryz.sizeOf5
 v5 := Tryz.zeroValue5
 infoByte := by kernel_rfl
 cellsByte := by kernel_rfl
 sizeByte := by kernel_rfl
 neB5 := by decide }
def Yak : Go.Shelf.Ren := ⟨fun | 167 => 107 | 240 => 128 | 276 => 137 | n => n, fun | 0 => 0 | 4 => 4 | 5 => 5 | 9 => 9 | 20 => 20 | 37 => 111 | 70 => 139 | 72 => 141 | 75 => 143 | 80 => 147 | 164 => 161 | n => n, fun | n => n⟩
theorem bld167 : Go.Proofs.Lays.n167 Tryz.prog Yak := {
 mixed := by kernel_rfl
 f167 := Tryz.func107.trans (congrArg some Zg)
 f240 := Tryz.func128.trans (congrArg some Zg)
 f276 := Tryz.func137.trans (congrArg some Zg)
 t0 := Tryz.underlying0
 a0 := Tryz.isAgg0
 z0 := Tryz.sizeOf0
 v0 := Tryz.zeroValue0
 t4 := Tryz.underlying4
 a4 := Tryz.isAgg4
 z4 := Tryz.sizeOf4
 v4 := Tryz.zeroValue4
 t5 := Tryz.underlying5
 a5 := Tryz.isAgg5
 z5 := Tryz.sizeOf5
 v5 := Tryz.zeroValue5
 t9 := Tryz.underlying9
 a9 := Tryz.isAgg9
 z9 := Tryz.sizeOf9
 v9 := Tryz.zeroValue9
 t20 := Tryz.underlying20
 a20 := Tryz.isAgg20
 z20 := Tryz.sizeOf20
 v20 := Tryz.zeroValue20
 t37 := Tryz.underlying111
 a37 := Tryz.isAgg111
 z37 := Tryz.sizeOf111
 v37 := Tryz.zeroValue111
 t70 := Tryz.underlying139
 a70 := Tryz.isAgg139
 z70 := Tryz.sizeOf139
 v70 := Tryz.zeroValue139
 t72 := Tryz.underlying141
 a72 := Tryz.isAgg141
 z72 := Tryz.sizeOf141
 v72 := Tryz.zeroValue141
 t75 := Tryz.underlying143
 a75 := Tryz.isAgg143
 z75 := Tryz.sizeOf143
 v75 := Tryz.zeroValue143
 t164 := Tryz.underlying161
 a164 := Tryz.isAgg161
 z164 := Tryz.sizeOf161
 v164 := Tryz.zeroValue161 }
theorem bldX167 : Builder.Extra Tryz.prog Yak := {
 sizeBuilder := by kernel_rfl
 liesBuilder := by kernel_rfl
 t5 := Tryz.underlying5
 a5 := Tryz.isAgg5
 z5 := Tryz.sizeOf5
 v5 := Tryz.zeroValue5
 infoByte := by kernel_rfl
 cellsByte := by kernel_rfl
 sizeByte := by kernel_rfl
 neB5 := by decide }
abbrev Ygg (B b : Nat) (l : List UInt8) (w : World) : Prop := Lib.IsBuilderF 141 5 B b (Lib.byteCells l) w
theorem Yzl (w : World) : Ygg w.heap.size w.heap.size [] (w.alloc (.cells #[.pointer none, .slice none 0 0] 141)) := Lib.IsBuilderF.of (Lib.fresh_isBuilder _ _ w)
theorem Yzd (B b : Nat) (l : List UInt8) (u : UInt8) (w : World) (h : Ygg B b l w) (hl : l.length + 1 ≤ 140737488355328) (hB : B ≤ w.heap.size) :
  Calls Tryz.prog 107 #[.pointer (some ⟨b, 0, none⟩), .int .u8 (u.toNat : Int)] w fun e w' => e = .returned .nilIface ∧ Ygg B b (l ++ [u]) w' ∧ Below B w w' :=
 (Any.Builder_WriteByte_k bld167 bldX167 B b _ (u.toNat : Int) w h (by rw [Lib.byteCells_length]; exact hl) hB).mono fun e w' ⟨h1, h2, h3, _⟩ => ⟨h1, Or.inr (by rw [Lib.byteCells_append]; exact h2), h3⟩
theorem bld_str (B b : Nat) (l : List UInt8) (s : ByteArray) (w : World) (h : Ygg B b l w) (hl : l.length + s.size ≤ 140737488355328) (hB : B ≤ w.heap.size) :
  Calls Tryz.prog 108 #[.pointer (some ⟨b, 0, none⟩), .string s] w fun e w' => e = .returned (.tuple #[.int .i64 s.size, .nilIface]) ∧ Ygg B b (l ++ s.data.toList) w' ∧ Below B w w' :=
 (Any.Builder_WriteString_k bld166 bldX166 B b _ s w h (by rw [Lib.byteCells_length]; exact hl) hB).mono fun e w' ⟨h1, h2, h3, _⟩ => ⟨h1, Or.inr (by rw [Lib.byteCells_append]; exact h2), h3⟩
theorem Ysh (B b : Nat) (l : List UInt8) (w : World) (h : Ygg B b l w) (hB : B ≤ w.heap.size) :
  Calls Tryz.prog 110 #[.pointer (some ⟨b, 0, none⟩)] w fun e w' => e = .returned (.string (ofL l)) ∧ Below B w w' :=
 (Tryz.Builder_String_any_f B b l w h hB).mono fun e w' ⟨h1, _, h3⟩ => ⟨h1, h3⟩
end Go.Proofs.YtfmjnmglagdcdaaGreatDoor.X
end
section

end
end
