import Derived.Test.YtihaeeldgimdiaaGreatDoorIUEnv
import Derived.Test.YtihaeeldgimdiaaGreatDoorIUShelf
import Derived.Test.YtihaeeldgimdiaaGreatDoorRows
import Derived.Lib.LaidU8T
import Derived.HandedShaped
import Derived.ProofKit
import Derived.LaidMore
import Derived.Lay
import Derived.OpenShut
import Derived.ShutString
import Derived.Stop.Joined
set_option linter.all false
namespace Go.Proofs.YtihaeeldgimdiaaGreatDoor.X
open Go Go.ChangeShapes Go.WideShapes Go.ChangeAt Go.RowKit
abbrev laidU : List (String × DataW Unit) := [("unicode/utf8.acceptRanges", Rows.laid_unicode_utf8_acceptRanges), ("unicode/utf8.first", Rows.laid_unicode_utf8_first)]
theorem env_of_row {W : World} (hL : laidMetH Tryz.prog laidU W) (hS : W.ShapedOpen Tryz.prog) : EnvOk W := by
 rw [MakeChecks.laidMetH_plain _ _ _ (by kernel_rfl)] at hL
 have ha : (Rows.laid_unicode_utf8_acceptRanges : DataW Unit) = Go.Lib.acceptData := by kernel_rfl
 have hf : (Rows.laid_unicode_utf8_first : DataW Unit) = Go.Lib.firstData := by kernel_rfl
 have h4 := Lib.laidMet.reads hL (.head _)
 have h3 := Lib.laidMet.reads hL (.tail _ (.head _))
 rw [ha] at h4
 rw [hf] at h3
 have hT := utf8Tabs_of_readsT (ρ := Tryz.lays161_ren) { Tryz.lays161 with } ⟨by kernel_rfl, by kernel_rfl, by kernel_rfl, by kernel_rfl, by kernel_rfl, by kernel_rfl, by kernel_rfl⟩ h3 h4
 exact ⟨Tryz.laysM155.s1_3 W hS, hT⟩
end Go.Proofs.YtihaeeldgimdiaaGreatDoor.X
