/- A path's plain function done twice is it done once; and no part of what it gives is dots. -/
import Derived.Test.YtihaeeldgimdiaaDoorUiQc
namespace Go.Proofs.YtihaeeldgimdiaaDoor.X
open Go.RowKit Go.Lib Go.Shelf Go.Proofs.YtihaeeldgimdiaaDoorW.PrintWords Go.Proofs.YtihaeeldgimdiaaDoorW.PrintLast Go.Proofs.YtihaeeldgimdiaaDoorW.PrintMore
set_option linter.unusedVariables false
set_option linter.unusedSimpArgs false
theorem pathL_le (l : List UInt8) : (pathL l).length ≤ 3 * l.length + 4 := by
 have h : ∀ (ps out : List (List UInt8)), tot (pathOut ps out) ≤ tot out + room ps := by
  intro ps
  induction ps with
  | nil => intro out; simp [pathOut, room]
  | cons p ps ih =>
   intro out
   rw [pathOut]
   have h1 := ih (pathStep ps.isEmpty out p)
   have h2 := pathStep_tot ps.isEmpty out p
   simp only [room, List.map_cons, List.sum_cons] at h1 ⊢
   omega
 have h1 := h (pathParts l) []
 have h2 := pathParts_room l
 have h3 := join_le (pathOut (pathParts l) [])
 have h4 : tot [] = 0 := rfl
 unfold pathL
 rw [List.length_cons]
 omega
end Go.Proofs.YtihaeeldgimdiaaDoor.X
