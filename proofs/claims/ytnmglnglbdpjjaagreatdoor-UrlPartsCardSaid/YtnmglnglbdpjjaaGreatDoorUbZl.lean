/- The document's Place: the host and the port of a text. -/
import Derived.Test.YtnmglnglbdpjjaaGreatDoorUbZt
import Derived.Test.YtnmglnglbdpjjaaGreatDoorUbZs
import Derived.Test.YtnmglnglbdpjjaaGreatDoorUbX13
namespace Go.Proofs.YtnmglnglbdpjjaaGreatDoor.X
open Go.RowKit Go.Lib Go.Shelf Go.Proofs.YtnmglnglbdpjjaaGreatDoorW.PrintWords Go.Proofs.YtnmglnglbdpjjaaGreatDoorW.PrintLast Go.Proofs.YtnmglnglbdpjjaaGreatDoorW.PrintMore
set_option linter.unusedVariables false
set_option linter.unusedSimpArgs false
theorem rhost_f (s : ByteArray) (hs : s.size ≤ 90000000) : EvR (fun k => cringleref04_Host.f k s) (ofL (hostL s.data.toList).1, (hostL s.data.toList).2) := by
 have hu := unmark_le _ s.data.toList (Nat.le_refl _)
 rw [← Lib.size_eq] at hu
 have h1 := runmark_f s (by omega)
 have h2 := lower_f (ofL (unmarkL s.data.toList)) (by rw [ofL_size]; omega)
 rw [ofL_data] at h2
 have h3 := rname_f (ofL (lowL (unmarkL s.data.toList))) (by rw [ofL_size, lowL_length]; omega)
 rw [ofL_data, nameR_low] at h3
 unfold cringleref04_Host.f
 refine EvR.bind (g := fun k t234 => (cringleref01_Lower.f k t234).bind fun t235 => if t235.toList = ([] : List UInt8) then some ((⟨#[]⟩ : ByteArray), (4 : Int)) else (cringleref04_Name.f k t235).bind fun t236 => if t236 = true then some (t235, 0) else some ((⟨#[]⟩ : ByteArray), 17)) h1 ?_
 refine EvR.bind (g := fun k t235 => if t235.toList = ([] : List UInt8) then some ((⟨#[]⟩ : ByteArray), (4 : Int)) else (cringleref04_Name.f k t235).bind fun t236 => if t236 = true then some (t235, 0) else some ((⟨#[]⟩ : ByteArray), 17)) h2 ?_
 unfold hostL
 by_cases he : lowL (unmarkL s.data.toList) = []
 ·refine EvR.of fun k => ?_
  rw [ofL_toList, if_pos he, if_pos he]; rfl
 ·simp only [ofL_toList, if_neg he]
  refine EvR.bind (g := fun k t236 => if t236 = true then some (ofL (lowL (unmarkL s.data.toList)), (0 : Int)) else some ((⟨#[]⟩ : ByteArray), 17)) h3 (EvR.of fun k => ?_)
  by_cases hn : nameL (lowL (unmarkL s.data.toList)) = true
  ·rw [if_pos hn, if_pos hn]
  ·rw [if_neg hn, if_neg hn]; rfl
theorem uc_cells {W : World} {g : Nat} {t : TypeId} {u1 u2 : ByteArray} {u3 : Int} {u4 u5 u6 : ByteArray} {u7 u8 : Bool} (h : W.heap[g]? = some (.cells (uc u1 u2 u3 u4 u5 u6 u7 u8) t (0, 0))) :
  W.cell? ⟨g, 0, none⟩ = some (.string u1) ∧ W.cell? ⟨g, 1, none⟩ = some (.string u2) ∧ W.cell? ⟨g, 2, none⟩ = some (.int .i64 u3) ∧ W.cell? ⟨g, 3, none⟩ = some (.string u4) ∧ W.cell? ⟨g, 4, none⟩ = some (.string u5) ∧ W.cell? ⟨g, 5, none⟩ = some (.string u6) ∧ W.cell? ⟨g, 6, none⟩ = some (.bool u7) ∧ W.cell? ⟨g, 7, none⟩ = some (.bool u8) :=
 ⟨(blk_cell h 0).trans rfl, (blk_cell h 1).trans rfl, (blk_cell h 2).trans rfl, (blk_cell h 3).trans rfl, (blk_cell h 4).trans rfl, (blk_cell h 5).trans rfl, (blk_cell h 6).trans rfl, (blk_cell h 7).trans rfl⟩
end Go.Proofs.YtnmglnglbdpjjaaGreatDoor.X
