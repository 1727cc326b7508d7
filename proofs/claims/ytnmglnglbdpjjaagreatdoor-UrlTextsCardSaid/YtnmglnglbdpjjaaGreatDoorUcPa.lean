/- A path's plain function done twice is it done once; and no part of what it gives is dots. -/
import Derived.Test.YtnmglnglbdpjjaaGreatDoorUcQc
namespace Go.Proofs.YtnmglnglbdpjjaaGreatDoor.X
open Go.RowKit Go.Lib Go.Shelf Go.Yw.PrintWords Go.Yw.PrintLast Go.Yw.PrintMore
set_option linter.unusedVariables false
set_option linter.unusedSimpArgs false
theorem pathL_le (l : List UInt8) : (Yci l).length ≤ 3 * l.length + 4 := by
 have h : ∀ (ps out : List (List UInt8)), tot (Ykc ps out) ≤ tot out + room ps := by
  intro ps
  induction ps with
  | nil => intro out; simp [Ykc, room]
  | cons p ps ih =>
   intro out
   rw [Ykc]
   have h1 := ih (Yqc ps.isEmpty out p)
   have h2 := Ywg ps.isEmpty out p
   simp only [room, List.map_cons, List.sum_cons] at h1 ⊢
   omega
 have h1 := h (Yud l) []
 have h2 := Ych l
 have h3 := Yxk (Ykc (Yud l) [])
 have h4 : tot [] = 0 := rfl
 unfold Yci
 rw [List.length_cons]
 omega
end Go.Proofs.YtnmglnglbdpjjaaGreatDoor.X
