/- Clean: a text without blanks at its ends, and without tabs and line ends. -/
import Derived.Test.YtnmglnglbdpjjaaGreatDoorUcQa
import Derived.Shelf.Strings.FuncGrows
import Derived.Laws.Slices
import Derived.Outline
namespace Go.Proofs.YtnmglnglbdpjjaaGreatDoor.X
open Go.RowKit Go.Lib Go.Shelf Go.Yw.PrintWords Go.Yw.PrintLast Go.Yw.PrintMore
set_option linter.unusedVariables false
set_option linter.unusedSimpArgs false
def Ymf (l : List UInt8) : List UInt8 := (((Ysg l).filter (· != 9)).filter (· != 10)).filter (· != 13)
theorem Yzm (l : List UInt8) : (Ysg l).length ≤ l.length := by
 unfold Ysg
 rw [List.length_reverse]
 refine Nat.le_trans (List.dropWhile_sublist _).length_le ?_
 rw [List.length_reverse]
 exact (List.dropWhile_sublist _).length_le
theorem Yqp (w : World) : PredGrows Tryz.prog 57 #[] Yfg w := by
 intro W x hx hb
 show Calls Tryz.prog 57 #[.int .i32 (x : Int)] W _
 have hd : decide ((x : Int) ≤ 32) = Yfg x := by simp [Yfg, decide_eq_decide]; omega
 go_enter Tryz.func57, Tryz.ntmps57
 go_wp2
 go_ret
 exact ⟨by first | rfl | (rw [hd]; rfl) | simp [hd], Below.refl _ _⟩
def Ykg : Nat → UInt8
 | 0 => 9
 | 1 => 10
 | _ => 13
def Ywo (l : List UInt8) : Nat → List UInt8
 | 0 => Ysg l
 | 1 => (Ysg l).filter (· != 9)
 | 2 => ((Ysg l).filter (· != 9)).filter (· != 10)
 | _ => Ymf l
def Yhg.f (a0 : ByteArray) : Option ByteArray := if a0.size < 4294967281 then some (ofL (Ymf a0.data.toList)) else none
set_option maxHeartbeats 4000000 in
set_option maxRecDepth 100000 in
theorem Yhg.calls (a0 : ByteArray) (r : ByteArray) (w : World) (hE : EnvOk w) (h : Yhg.f a0 = some r) :
  Calls Tryz.prog 21 #[.string a0] w fun e w' => e = .returned (.string r) ∧ Below w.heap.size w w' := by
 unfold Yhg.f at h
 by_cases hs : a0.size < 4294967281
 ·rw [if_pos hs] at h
  obtain rfl := Option.some.inj h
  have HE := Ya.mk hE
  clear hE h
  go_enter Tryz.func21, Tryz.ntmps21
  go_wp2_with fail
  refine (Tryz.strings_TrimFunc_grows 57 #[] (enters_of Tryz.func57 (by kernel_rfl) rfl) Yfg a0 _ (by omega) HE.out.tabs (Yqp _)).mono ?_
  rintro e w1 ⟨rfl, hb1⟩
  have HB1 := Ya.mk hb1
  obtain ⟨t, ht⟩ : ∃ t, t = Lib.trimF Yfg a0 := ⟨_, rfl⟩
  rw [← ht]
  have HT := Ya.mk ht
  clear ht hb1
  have hsz : t.size ≤ a0.size := by
   have h1 := Yzm a0.data.toList
   rw [Lib.size_eq, HT.out, trimF33, Lib.size_eq a0]; exact h1
  go_wp2
  go_loopg [0, 5, 11] 3 (fun g v0 _ v11 wx => ∃ (k : Nat) (x : ByteArray), k + g ≤ 3 ∧ 3 ≤ k + g ∧ v0 = .string x ∧ v11 = .int .i64 (k : Int) ∧ x.size ≤ a0.size ∧ Ya (x.data.toList = Ywo a0.data.toList k) ∧ Ya (wx.heap[w1.heap.size]? = some (.cells #[.string ⟨#[9]⟩, .string ⟨#[10]⟩, .string ⟨#[13]⟩] 9 (0, 0))) ∧ Ya (Below w.heap.size w wx))
  case atStart => exact ⟨0, t, by omega, by omega, rfl, rfl, hsz, ⟨by rw [HT.out, trimF33]; rfl⟩, ⟨by simpa using heap_alloc_new w1 _⟩, ⟨HB1.out.alloc HB1.out.size _⟩⟩
  case round =>
   obtain ⟨k, x, hk1, hk2, rfl, rfl, hx, HX, HC, HB⟩ := hrel
   cases gk with
   | zero =>
    obtain rfl : k = 3 := by omega
    go_wp2
    go_ret
    refine ⟨?_, HB.out⟩
    have e : x = ofL (Ymf a0.data.toList) := by
     apply ByteArray.ext; apply Array.ext'
     rw [HX.out]; rfl
    rw [e]; rfl
   | succ g =>
    have hk3 : k < 3 := by omega
    have hcell : wr.cell? ⟨w1.heap.size, k, none⟩ = some (.string ⟨#[Ykg k]⟩) := by
     rw [Lib.cell_of_heap HC.out]
     rcases (show k = 0 ∨ k = 1 ∨ k = 2 by omega) with rfl | rfl | rfl <;> rfl
    have hf : strings_ReplaceAll.f x ⟨#[Ykg k]⟩ ⟨#[]⟩ = some (ofL (x.data.toList.filter (· != Ykg k))) := by
     unfold strings_ReplaceAll.f
     rw [if_pos ⟨by omega, by show 1 ≤ 1; omega, by show x.size + Lib.countB x _ * 0 ≤ _; omega⟩]
     show some (ofL (Lib.replaceAll x.data.toList [Ykg k] [])) = _
     rw [Yvk]
    have HF := Ya.mk hf
    have HE1 := Ya.mk (HE.out.below HB.out)
    clear hf
    go_wp2_with fail
    refine (strings_ReplaceAll.calls x ⟨#[Ykg k]⟩ ⟨#[]⟩ _ _ HE1.out HF.out).mono ?_
    rintro e w2 ⟨rfl, hb2⟩
    have HB2 := Ya.mk hb2
    clear hb2 hcell
    go_wp2
    go_roundg g
    case measure => omega
    case rel =>
     refine ⟨k + 1, ofL (x.data.toList.filter (· != Ykg k)), by omega, by omega, rfl, by go_num, ?_, ⟨?_⟩, ⟨?_⟩, ⟨HB.out.trans (HB2.out.mono HB.out.size)⟩⟩
     ·refine Nat.le_trans ?_ hx
      rw [Lib.size_eq, Lib.size_eq x]
      exact List.length_filter_le _ _
     ·show x.data.toList.filter (· != Ykg k) = _
      rw [HX.out]
      rcases (show k = 0 ∨ k = 1 ∨ k = 2 by omega) with rfl | rfl | rfl <;> rfl
     ·rw [HB2.out.block _ (Array.getElem?_eq_some_iff.1 HC.out).1]; exact HC.out
 ·rw [if_neg hs] at h; cases h
end Go.Proofs.YtnmglnglbdpjjaaGreatDoor.X
