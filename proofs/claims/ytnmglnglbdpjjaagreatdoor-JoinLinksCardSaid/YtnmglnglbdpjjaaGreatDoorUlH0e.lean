/- Texts of this seat's proof that belong together. -/
import Derived.Test.YtnmglnglbdpjjaaGreatDoorUlWords
import Derived.Test.YtnmglnglbdpjjaaGreatDoorUlQa
import Derived.Shelf.Strings.FuncGrows
import Derived.Laws.Slices
import Derived.Outline
import Derived.Test.YtnmglnglbdpjjaaGreatDoorUlH0a
import Derived.Shelf.Strings.BuilderK
import Derived.Shelf.Strings.MapGrows
import Derived.Test.YtnmglnglbdpjjaaGreatDoorUlH0c
section
namespace Go.Proofs.YtnmglnglbdpjjaaGreatDoor.X
open Go.RowKit Go.Lib Go.Shelf Go.Yw.PrintWords Go.Yw.PrintLast Go.Yw.PrintMore
set_option linter.unusedVariables false
set_option linter.unusedSimpArgs false
def Ypd (l : List UInt8) : List UInt8 := (((Ymh l).filter (· != 9)).filter (· != 10)).filter (· != 13)
theorem Yfq (l : List UInt8) : (Ymh l).length ≤ l.length := by
 unfold Ymh
 rw [List.length_reverse]
 refine Nat.le_trans (List.dropWhile_sublist _).length_le ?_
 rw [List.length_reverse]
 exact (List.dropWhile_sublist _).length_le
theorem Ymu (w : World) : PredGrows Tryz.prog 57 #[] Yhh w := by
 intro W x hx hb
 show Calls Tryz.prog 57 #[.int .i32 (x : Int)] W _
 have hd : decide ((x : Int) ≤ 32) = Yhh x := by simp [Yhh, decide_eq_decide]; omega
 go_enter Tryz.func57, Tryz.ntmps57
 go_wp2
 go_ret
 exact ⟨by first | rfl | (rw [hd]; rfl) | simp [hd], Below.refl _ _⟩
def Yuh : Nat → UInt8
 | 0 => 9
 | 1 => 10
 | _ => 13
def Ypu (l : List UInt8) : Nat → List UInt8
 | 0 => Ymh l
 | 1 => (Ymh l).filter (· != 9)
 | 2 => ((Ymh l).filter (· != 9)).filter (· != 10)
 | _ => Ypd l
def Yvd.f (a0 : ByteArray) : Option ByteArray := if a0.size < 4294967281 then some (ofL (Ypd a0.data.toList)) else none
set_option maxHeartbeats 4000000 in
set_option maxRecDepth 100000 in
theorem Yvd.calls (a0 r : ByteArray) (w : World) (hE : EnvOk w) (h : Yvd.f a0 = some r) :
  Calls Tryz.prog 21 #[.string a0] w fun e w' => e = .returned (.string r) ∧ Below w.heap.size w w' := by
 unfold Yvd.f at h
 by_cases hs : a0.size < 4294967281
 ·rw [if_pos hs] at h
  obtain rfl := Option.some.inj h
  have HE := Ya.mk hE
  clear hE h
  go_enter Tryz.func21, Tryz.ntmps21
  go_wp2_with fail
  refine (Tryz.strings_TrimFunc_grows 57 #[] (enters_of Tryz.func57 Zi rfl) Yhh a0 _ Zk HE.out.tabs (Ymu _)).mono ?_
  rintro e w1 ⟨rfl, lM⟩
  have hZ := Ya.mk lM
  obtain ⟨t, ht⟩ : ∃ t, t = Lib.trimF Yhh a0 := ⟨_, rfl⟩
  rw [← ht]
  have HT := Ya.mk ht
  clear ht lM
  have hsz : t.size ≤ a0.size := by
   have h1 := Yfq a0.data.toList
   rw [Lib.size_eq, HT.out, trimF33, Lib.size_eq a0]; exact h1
  go_wp2
  go_loopg [0, 5, 11] 3 (fun g v0 _ v11 wx => ∃ (k : Nat) (x : ByteArray), k + g ≤ 3 ∧ 3 ≤ k + g ∧ v0 = .string x ∧ v11 = .int .i64 (k : Int) ∧ x.size ≤ a0.size ∧ Ya (x.data.toList = Ypu a0.data.toList k) ∧ Ya (wx.heap[w1.heap.size]? = some (.cells #[.string ⟨#[9]⟩, .string ⟨#[10]⟩, .string ⟨#[13]⟩] 9 (0, 0))) ∧ Ya (Below w.heap.size w wx))
  case atStart => exact ⟨0, t, Zk, Zk, rfl, rfl, hsz, ⟨by rw [HT.out, trimF33]; rfl⟩, ⟨by simpa using heap_alloc_new w1 _⟩, ⟨hZ.out.alloc hZ.out.size _⟩⟩
  case round =>
   obtain ⟨k, x, uM, hk2, rfl, rfl, hx, HX, HC, HB⟩ := hrel
   cases gk with
   | zero =>
    obtain rfl : k = 3 := by omega
    go_wp2
    go_ret
    refine ⟨?_, HB.out⟩
    have e : x = ofL (Ypd a0.data.toList) := by
     apply ByteArray.ext; apply Array.ext'
     rw [HX.out]; rfl
    rw [e]; rfl
   | succ g =>
    have hk3 : k < 3 := by omega
    have hcell : wr.cell? ⟨w1.heap.size, k, none⟩ = some (.string ⟨#[Yuh k]⟩) := by
     rw [Lib.cell_of_heap HC.out]
     rcases (show k = 0 ∨ k = 1 ∨ k = 2 by omega) with rfl | rfl | rfl <;> rfl
    have hf : strings_ReplaceAll.f x ⟨#[Yuh k]⟩ ⟨#[]⟩ = some (ofL (x.data.toList.filter (· != Yuh k))) := by
     unfold strings_ReplaceAll.f
     rw [if_pos ⟨Zk, by show 1 ≤ 1; omega, by show x.size + Lib.countB x _ * 0 ≤ _; omega⟩]
     show some (ofL (Lib.replaceAll x.data.toList [Yuh k] [])) = _
     rw [Ygn]
    have HF := Ya.mk hf
    have lH := Ya.mk (HE.out.below HB.out)
    clear hf
    go_wp2_with fail
    refine (strings_ReplaceAll.calls x ⟨#[Yuh k]⟩ ⟨#[]⟩ _ _ lH.out HF.out).mono ?_
    rintro e w2 ⟨rfl, bU⟩
    have eK := Ya.mk bU
    clear bU hcell
    go_wp2
    go_roundg g
    case measure => omega
    case rel =>
     refine ⟨k + 1, ofL (x.data.toList.filter (· != Yuh k)), Zk, Zk, rfl, by go_num, ?_, ⟨?_⟩, ⟨?_⟩, ⟨HB.out.trans (eK.out.mono HB.out.size)⟩⟩
     ·refine Nat.le_trans ?_ hx
      rw [Lib.size_eq, Lib.size_eq x]
      exact List.length_filter_le _ _
     ·show x.data.toList.filter (· != Yuh k) = _
      rw [HX.out]
      rcases (show k = 0 ∨ k = 1 ∨ k = 2 by omega) with rfl | rfl | rfl <;> rfl
     ·rw [eK.out.block _ (Array.getElem?_eq_some_iff.1 HC.out).1]; exact HC.out
 ·rw [if_neg hs] at h; cases h
end Go.Proofs.YtnmglnglbdpjjaaGreatDoor.X
end
section
section
namespace Go.Proofs.YtnmglnglbdpjjaaGreatDoor.X
open Go.RowKit Go.Lib Go.Shelf
set_option linter.unusedVariables false
set_option linter.unusedSimpArgs false
def Yrn : Go.Shelf.Ren := ⟨fun | 166 => 103 | 240 => 122 | 276 => 140 | n => n, fun | 0 => 0 | 3 => 3 | 4 => 4 | 5 => 5 | 9 => 9 | 20 => 20 | 37 => 62 | 70 => 80 | 72 => 82 | 75 => 87 | 80 => 89 | 164 => 119 | n => n, fun | n => n⟩
theorem bld166 : Go.Proofs.Lays.n166 Tryz.prog Yrn := {
 mixed := by kernel_rfl
 f166 := Tryz.func103.trans (congrArg some Zi)
 f240 := Tryz.func122.trans (congrArg some Zi)
 f276 := Tryz.func140.trans (congrArg some Zi)
 t0 := Tryz.underlying0
 a0 := Tryz.isAgg0
 z0 := Tryz.sizeOf0
 v0 := Tryz.zeroValue0
 t3 := Tryz.underlying3
 a3 := Tryz.isAgg3
 z3 := Tryz.sizeOf3
 v3 := Tryz.zeroValue3
 t4 := Tryz.underlying4
 a4 := Tryz.isAgg4
 z4 := Tryz.sizeOf4
 v4 := Tryz.zeroValue4
 t9 := Tryz.underlying9
 a9 := Tryz.isAgg9
 z9 := Tryz.sizeOf9
 v9 := Tryz.zeroValue9
 t20 := Tryz.underlying20
 a20 := Tryz.isAgg20
 z20 := Tryz.sizeOf20
 v20 := Tryz.zeroValue20
 t37 := Tryz.underlying62
 a37 := Tryz.isAgg62
 z37 := Tryz.sizeOf62
 v37 := Tryz.zeroValue62
 t70 := Tryz.underlying80
 a70 := Tryz.isAgg80
 z70 := Tryz.sizeOf80
 v70 := Tryz.zeroValue80
 t72 := Tryz.underlying82
 a72 := Tryz.isAgg82
 z72 := Tryz.sizeOf82
 v72 := Tryz.zeroValue82
 t75 := Tryz.underlying87
 a75 := Tryz.isAgg87
 z75 := Tryz.sizeOf87
 v75 := Tryz.zeroValue87
 t164 := Tryz.underlying119
 a164 := Tryz.isAgg119
 z164 := Tryz.sizeOf119
 v164 := Tryz.zeroValue119 }
theorem bldX166 : Builder.Extra Tryz.prog Yrn := {
 sizeBuilder := by kernel_rfl
 liesBuilder := by kernel_rfl
 t5 := Tryz.underlying5
 a5 := Tryz.isAgg5
 z5 := Tryz.sizeOf5
 v5 := Tryz.zeroValue5
 infoByte := by kernel_rfl
 cellsByte := by kernel_rfl
 sizeByte := by kernel_rfl
 neB5 := by decide }
def Yko : Go.Shelf.Ren := ⟨fun | 167 => 93 | 240 => 122 | 276 => 140 | n => n, fun | 0 => 0 | 4 => 4 | 5 => 5 | 9 => 9 | 20 => 20 | 37 => 62 | 70 => 80 | 72 => 82 | 75 => 87 | 80 => 89 | 164 => 119 | n => n, fun | n => n⟩
theorem bld167 : Go.Proofs.Lays.n167 Tryz.prog Yko := {
 mixed := by kernel_rfl
 f167 := Tryz.func93.trans (congrArg some Zi)
 f240 := Tryz.func122.trans (congrArg some Zi)
 f276 := Tryz.func140.trans (congrArg some Zi)
 t0 := Tryz.underlying0
 a0 := Tryz.isAgg0
 z0 := Tryz.sizeOf0
 v0 := Tryz.zeroValue0
 t4 := Tryz.underlying4
 a4 := Tryz.isAgg4
 z4 := Tryz.sizeOf4
 v4 := Tryz.zeroValue4
 t5 := Tryz.underlying5
 a5 := Tryz.isAgg5
 z5 := Tryz.sizeOf5
 v5 := Tryz.zeroValue5
 t9 := Tryz.underlying9
 a9 := Tryz.isAgg9
 z9 := Tryz.sizeOf9
 v9 := Tryz.zeroValue9
 t20 := Tryz.underlying20
 a20 := Tryz.isAgg20
 z20 := Tryz.sizeOf20
 v20 := Tryz.zeroValue20
 t37 := Tryz.underlying62
 a37 := Tryz.isAgg62
 z37 := Tryz.sizeOf62
 v37 := Tryz.zeroValue62
 t70 := Tryz.underlying80
 a70 := Tryz.isAgg80
 z70 := Tryz.sizeOf80
 v70 := Tryz.zeroValue80
 t72 := Tryz.underlying82
 a72 := Tryz.isAgg82
 z72 := Tryz.sizeOf82
 v72 := Tryz.zeroValue82
 t75 := Tryz.underlying87
 a75 := Tryz.isAgg87
 z75 := Tryz.sizeOf87
 v75 := Tryz.zeroValue87
 t164 := Tryz.underlying119
 a164 := Tryz.isAgg119
 z164 := Tryz.sizeOf119
 v164 := Tryz.zeroValue119 }
theorem bldX167 : Builder.Extra Tryz.prog Yko := {
 sizeBuilder := by kernel_rfl
 liesBuilder := by kernel_rfl
 t5 := Tryz.underlying5
 a5 := Tryz.isAgg5
 z5 := Tryz.sizeOf5
 v5 := Tryz.zeroValue5
 infoByte := by kernel_rfl
 cellsByte := by kernel_rfl
 sizeByte := by kernel_rfl
 neB5 := by decide }
abbrev Ynj (B b : Nat) (l : List UInt8) (w : World) : Prop := Lib.IsBuilderF 82 5 B b (Lib.byteCells l) w
theorem Yhr (w : World) : Ynj w.heap.size w.heap.size [] (w.alloc (.cells #[.pointer none, .slice none 0 0] 82)) := Lib.IsBuilderF.of (Lib.fresh_isBuilder _ _ w)
theorem Ynh (B b : Nat) (l : List UInt8) (u : UInt8) (w : World) (h : Ynj B b l w) (hl : l.length + 1 ≤ 140737488355328) (hB : B ≤ w.heap.size) :
  Calls Tryz.prog 93 #[.pointer (some ⟨b, 0, none⟩), .int .u8 (u.toNat : Int)] w fun e w' => e = .returned .nilIface ∧ Ynj B b (l ++ [u]) w' ∧ Below B w w' :=
 (Any.Builder_WriteByte_k bld167 bldX167 B b _ (u.toNat : Int) w h (by rw [Lib.byteCells_length]; exact hl) hB).mono fun e w' ⟨h1, h2, h3, _⟩ => ⟨h1, Or.inr (by rw [Lib.byteCells_append]; exact h2), h3⟩
theorem bld_str (B b : Nat) (l : List UInt8) (s : ByteArray) (w : World) (h : Ynj B b l w) (hl : l.length + s.size ≤ 140737488355328) (hB : B ≤ w.heap.size) :
  Calls Tryz.prog 103 #[.pointer (some ⟨b, 0, none⟩), .string s] w fun e w' => e = .returned (.tuple #[.int .i64 s.size, .nilIface]) ∧ Ynj B b (l ++ s.data.toList) w' ∧ Below B w w' :=
 (Any.Builder_WriteString_k bld166 bldX166 B b _ s w h (by rw [Lib.byteCells_length]; exact hl) hB).mono fun e w' ⟨h1, h2, h3, _⟩ => ⟨h1, Or.inr (by rw [Lib.byteCells_append]; exact h2), h3⟩
theorem Ysl (B b : Nat) (l : List UInt8) (w : World) (h : Ynj B b l w) (hB : B ≤ w.heap.size) :
  Calls Tryz.prog 94 #[.pointer (some ⟨b, 0, none⟩)] w fun e w' => e = .returned (.string (ofL l)) ∧ Below B w w' :=
 (Tryz.Builder_String_any_f B b l w h hB).mono fun e w' ⟨h1, _, h3⟩ => ⟨h1, h3⟩
end Go.Proofs.YtnmglnglbdpjjaaGreatDoor.X
end
section

end
end
