/-
  DERIVED. GIVEN WITH THE SEED: THE CARDS: each row of YtihaeeldgimdiaaGreatDoorRows.lean that lists a variable, with what it lists TIED to the program's text (the seventh form; the later family's looks); each row that meets fmt, with fmt's text TOLD by the authors' own Lean function (tested against real Go, not proved from fmt's source: count such statements apart). THE CARD IS WHAT COUNTS. Prove the row's statement (the work); the ties are given (YtihaeeldgimdiaaGreatDoorTie.lean); close each card by the builder's one call (the guide's Derived/Test/ToyasCard.lean, 'card_holds'). Laid BY PROGRAM, IN A SANDBOX (cutbox-door.mjs). By AI agents, Wed Nov 11 2026. No macro, syntax, notation, axiom, sorry.
-/
import Derived.Test.YtihaeeldgimdiaaGreatDoorRows
import GoSem.ClaimSeven
namespace Go.Proofs.YtihaeeldgimdiaaGreatDoor
namespace Rows

/-- THE TIED CARD OF 'cringlelaw21.IdentLists'. -/
def identListsCard : Claim7 := { stood := { row := identListsRow, standIns := [], harness := (true, "5ad7f0771f291ea6dc33c48cba6495f6befaa653a41a66fa8750b069ffaaca8c"), looks := false }, kinds := [], alts := [], laidByText := true, laidKinds := [.data, .pinned], laidTests := true, laidLooks := .later }
def IdentListsCardSaid : Prop := Claim7.holds Tryz.pinned (.plain (OpenSpec.ofChange identListsSpec)) identListsCard

/-- THE TIED CARD OF 'cringlelaw21.IdentOf'. -/
def identOfCard : Claim7 := { stood := { row := identOfRow, standIns := [], harness := (true, "5ad7f0771f291ea6dc33c48cba6495f6befaa653a41a66fa8750b069ffaaca8c"), looks := false }, kinds := [], alts := [], laidByText := true, laidKinds := [.data, .pinned], laidTests := true, laidLooks := .later }
def IdentOfCardSaid : Prop := Claim7.holds Tryz.pinned (.plain (OpenSpec.ofChange identOfSpec)) identOfCard

/-- THE SECOND FORM's CARD OF 'cringlelaw21.IdentLists'. -/
def identListsUptoCard : Claim7 := { stood := { row := identListsUptoRow, standIns := [], harness := (true, "5ad7f0771f291ea6dc33c48cba6495f6befaa653a41a66fa8750b069ffaaca8c"), looks := false }, kinds := [], alts := [], laidByText := true, laidKinds := [.data, .pinned], laidTests := true, laidLooks := .later }
def IdentListsUptoCardSaid : Prop := Claim7.holds Tryz.pinned (.plain (OpenSpec.upto identListsSpec)) identListsUptoCard

/-- THE SECOND FORM's CARD OF 'cringlelaw21.IdentOf'. -/
def identOfUptoCard : Claim7 := { stood := { row := identOfUptoRow, standIns := [], harness := (true, "5ad7f0771f291ea6dc33c48cba6495f6befaa653a41a66fa8750b069ffaaca8c"), looks := false }, kinds := [], alts := [], laidByText := true, laidKinds := [.data, .pinned], laidTests := true, laidLooks := .later }
def IdentOfUptoCardSaid : Prop := Claim7.holds Tryz.pinned (.plain (OpenSpec.upto identOfSpec)) identOfUptoCard
end Rows
end Go.Proofs.YtihaeeldgimdiaaGreatDoor
