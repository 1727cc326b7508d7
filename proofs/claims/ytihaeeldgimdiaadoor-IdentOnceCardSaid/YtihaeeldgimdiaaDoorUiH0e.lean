/- Clean: a text without blanks at its ends, and without tabs and line ends. -/
import Derived.Test.YtihaeeldgimdiaaDoorUiQa
import Derived.Shelf.Strings.FuncGrows
import Derived.Laws.Slices
import Derived.Outline
namespace Go.Proofs.YtihaeeldgimdiaaDoor.X
open Go.RowKit Go.Lib Go.Shelf Go.Proofs.YtihaeeldgimdiaaDoorW.PrintWords Go.Proofs.YtihaeeldgimdiaaDoorW.PrintLast Go.Proofs.YtihaeeldgimdiaaDoorW.PrintMore
set_option linter.unusedVariables false
set_option linter.unusedSimpArgs false
def clean33 (l : List UInt8) : List UInt8 := (((trim33 l).filter (· != 9)).filter (· != 10)).filter (· != 13)
theorem trim33_le (l : List UInt8) : (trim33 l).length ≤ l.length := by
 unfold trim33
 rw [List.length_reverse]
 refine Nat.le_trans (List.dropWhile_sublist _).length_le ?_
 rw [List.length_reverse]
 exact (List.dropWhile_sublist _).length_le
theorem clean_pred (w : World) : PredGrows Tryd.prog 33 #[] isLow w := by
 intro W x hx hb
 show Calls Tryd.prog 33 #[.int .i32 (x : Int)] W _
 have hd : decide ((x : Int) ≤ 32) = isLow x := by simp [isLow, decide_eq_decide]; omega
 go_enter Tryd.func33, Tryd.ntmps33
 go_wp2
 go_ret
 exact ⟨by first | rfl | (rw [hd]; rfl) | simp [hd], Below.refl _ _⟩
def cleanByte : Nat → UInt8
 | 0 => 9
 | 1 => 10
 | _ => 13
def cleanStage (l : List UInt8) : Nat → List UInt8
 | 0 => trim33 l
 | 1 => (trim33 l).filter (· != 9)
 | 2 => ((trim33 l).filter (· != 9)).filter (· != 10)
 | _ => clean33 l
def url_Clean.f (a0 : ByteArray) : Option ByteArray := if a0.size < 4294967281 then some (ofL (clean33 a0.data.toList)) else none
set_option maxHeartbeats 4000000 in
set_option maxRecDepth 100000 in
theorem url_Clean.calls (a0 : ByteArray) (r : ByteArray) (w : World) (hE : EnvOk w) (h : url_Clean.f a0 = some r) :
  Calls Tryd.prog 20 #[.string a0] w fun e w' => e = .returned (.string r) ∧ Below w.heap.size w w' := by
 unfold url_Clean.f at h
 by_cases hs : a0.size < 4294967281
 ·rw [if_pos hs] at h
  obtain rfl := Option.some.inj h
  have HE := Aside0.mk hE
  clear hE h
  go_enter Tryd.func20, Tryd.ntmps20
  go_wp2_with fail
  refine (Tryd.strings_TrimFunc_grows 33 #[] (enters_of Tryd.func33 (by kernel_rfl) rfl) isLow a0 _ (by omega) HE.out.tabs (clean_pred _)).mono ?_
  rintro e w1 ⟨rfl, hb1⟩
  have HB1 := Aside0.mk hb1
  obtain ⟨t, ht⟩ : ∃ t, t = Lib.trimF isLow a0 := ⟨_, rfl⟩
  rw [← ht]
  have HT := Aside0.mk ht
  clear ht hb1
  have hsz : t.size ≤ a0.size := by
   have h1 := trim33_le a0.data.toList
   rw [Lib.size_eq, HT.out, trimF33, Lib.size_eq a0]; exact h1
  go_wp2
  go_loopg [0, 5, 11] 3 (fun g v0 _ v11 wx => ∃ (k : Nat) (x : ByteArray), k + g ≤ 3 ∧ 3 ≤ k + g ∧ v0 = .string x ∧ v11 = .int .i64 (k : Int) ∧ x.size ≤ a0.size ∧ Aside0 (x.data.toList = cleanStage a0.data.toList k) ∧ Aside0 (wx.heap[w1.heap.size]? = some (.cells #[.string ⟨#[9]⟩, .string ⟨#[10]⟩, .string ⟨#[13]⟩] 9 (0, 0))) ∧ Aside0 (Below w.heap.size w wx))
  case atStart => exact ⟨0, t, by omega, by omega, rfl, rfl, hsz, ⟨by rw [HT.out, trimF33]; rfl⟩, ⟨by simpa using heap_alloc_new w1 _⟩, ⟨HB1.out.alloc HB1.out.size _⟩⟩
  case round =>
   obtain ⟨k, x, hk1, hk2, rfl, rfl, hx, HX, HC, HB⟩ := hrel
   cases gk with
   | zero =>
    obtain rfl : k = 3 := by omega
    go_wp2
    go_ret
    refine ⟨?_, HB.out⟩
    have e : x = ofL (clean33 a0.data.toList) := by
     apply ByteArray.ext; apply Array.ext'
     rw [HX.out]; rfl
    rw [e]; rfl
   | succ g =>
    have hk3 : k < 3 := by omega
    have hcell : wr.cell? ⟨w1.heap.size, k, none⟩ = some (.string ⟨#[cleanByte k]⟩) := by
     rw [Lib.cell_of_heap HC.out]
     rcases (show k = 0 ∨ k = 1 ∨ k = 2 by omega) with rfl | rfl | rfl <;> rfl
    have hf : strings_ReplaceAll.f x ⟨#[cleanByte k]⟩ ⟨#[]⟩ = some (ofL (x.data.toList.filter (· != cleanByte k))) := by
     unfold strings_ReplaceAll.f
     rw [if_pos ⟨by omega, by show 1 ≤ 1; omega, by show x.size + Lib.countB x _ * 0 ≤ _; omega⟩]
     show some (ofL (Lib.replaceAll x.data.toList [cleanByte k] [])) = _
     rw [replaceAll_drop]
    have HF := Aside0.mk hf
    have HE1 := Aside0.mk (HE.out.below HB.out)
    clear hf
    go_wp2_with fail
    refine (strings_ReplaceAll.calls x ⟨#[cleanByte k]⟩ ⟨#[]⟩ _ _ HE1.out HF.out).mono ?_
    rintro e w2 ⟨rfl, hb2⟩
    have HB2 := Aside0.mk hb2
    clear hb2 hcell
    go_wp2
    go_roundg g
    case measure => omega
    case rel =>
     refine ⟨k + 1, ofL (x.data.toList.filter (· != cleanByte k)), by omega, by omega, rfl, by go_num, ?_, ⟨?_⟩, ⟨?_⟩, ⟨HB.out.trans (HB2.out.mono HB.out.size)⟩⟩
     ·refine Nat.le_trans ?_ hx
      rw [Lib.size_eq, Lib.size_eq x]
      exact List.length_filter_le _ _
     ·show x.data.toList.filter (· != cleanByte k) = _
      rw [HX.out]
      rcases (show k = 0 ∨ k = 1 ∨ k = 2 by omega) with rfl | rfl | rfl <;> rfl
     ·rw [HB2.out.block _ (Array.getElem?_eq_some_iff.1 HC.out).1]; exact HC.out
 ·rw [if_neg hs] at h; cases h
end Go.Proofs.YtihaeeldgimdiaaDoor.X
