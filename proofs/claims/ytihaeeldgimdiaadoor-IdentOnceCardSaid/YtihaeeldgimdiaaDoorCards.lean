/-
  DERIVED. GIVEN WITH THE SEED: THE CARDS: each row of YtihaeeldgimdiaaDoorRows.lean that lists a variable, with what it lists TIED to the program's text (the seventh form; the later family's looks); each row that meets fmt, with fmt's text TOLD by the authors' own Lean function (tested against real Go, not proved from fmt's source: count such statements apart). THE CARD IS WHAT COUNTS. Prove the row's statement (the work); the ties are given (YtihaeeldgimdiaaDoorTie.lean); close each card by the builder's one call (the guide's Derived/Test/ToyasCard.lean, 'card_holds'). Laid BY PROGRAM, IN A SANDBOX (cutbox-door.mjs). By AI agents, Wed Nov 11 2026. No macro, syntax, notation, axiom, sorry.
-/
import Derived.Test.YtihaeeldgimdiaaDoorRows
import GoSem.ClaimSeven
namespace Go.Proofs.YtihaeeldgimdiaaDoor
namespace Rows

/-- THE TIED CARD OF 'cringlelaw21.IdentAgain'. -/
def identAgainCard : Claim7 := { stood := { row := identAgainRow, standIns := [], harness := (true, "da519f9668d7d53358bd3c84f7798f37d1f383e2d0b0d6f9fad49a9d75277c4d"), looks := false }, kinds := [], alts := [], laidByText := true, laidKinds := [.data, .pinned], laidTests := true, laidLooks := .later }
def IdentAgainCardSaid : Prop := Claim7.holds Tryd.pinned (.plain (OpenSpec.ofChange identAgainSpec)) identAgainCard

/-- THE TIED CARD OF 'cringlelaw21.IdentStays'. -/
def identStaysCard : Claim7 := { stood := { row := identStaysRow, standIns := [], harness := (true, "da519f9668d7d53358bd3c84f7798f37d1f383e2d0b0d6f9fad49a9d75277c4d"), looks := false }, kinds := [], alts := [], laidByText := true, laidKinds := [.data, .pinned], laidTests := true, laidLooks := .later }
def IdentStaysCardSaid : Prop := Claim7.holds Tryd.pinned (.plain (OpenSpec.ofChange identStaysSpec)) identStaysCard

/-- THE TIED CARD OF 'cringlelaw21.IdentOnce'. -/
def identOnceCard : Claim7 := { stood := { row := identOnceRow, standIns := [], harness := (true, "da519f9668d7d53358bd3c84f7798f37d1f383e2d0b0d6f9fad49a9d75277c4d"), looks := false }, kinds := [], alts := [], laidByText := true, laidKinds := [.data, .pinned], laidTests := true, laidLooks := .later }
def IdentOnceCardSaid : Prop := Claim7.holds Tryd.pinned (.plain (OpenSpec.ofChange identOnceSpec)) identOnceCard

/-- THE SECOND FORM's CARD OF 'cringlelaw21.IdentAgain'. -/
def identAgainUptoCard : Claim7 := { stood := { row := identAgainUptoRow, standIns := [], harness := (true, "da519f9668d7d53358bd3c84f7798f37d1f383e2d0b0d6f9fad49a9d75277c4d"), looks := false }, kinds := [], alts := [], laidByText := true, laidKinds := [.data, .pinned], laidTests := true, laidLooks := .later }
def IdentAgainUptoCardSaid : Prop := Claim7.holds Tryd.pinned (.plain (OpenSpec.upto identAgainSpec)) identAgainUptoCard

/-- THE SECOND FORM's CARD OF 'cringlelaw21.IdentStays'. -/
def identStaysUptoCard : Claim7 := { stood := { row := identStaysUptoRow, standIns := [], harness := (true, "da519f9668d7d53358bd3c84f7798f37d1f383e2d0b0d6f9fad49a9d75277c4d"), looks := false }, kinds := [], alts := [], laidByText := true, laidKinds := [.data, .pinned], laidTests := true, laidLooks := .later }
def IdentStaysUptoCardSaid : Prop := Claim7.holds Tryd.pinned (.plain (OpenSpec.upto identStaysSpec)) identStaysUptoCard

/-- THE SECOND FORM's CARD OF 'cringlelaw21.IdentOnce'. -/
def identOnceUptoCard : Claim7 := { stood := { row := identOnceUptoRow, standIns := [], harness := (true, "da519f9668d7d53358bd3c84f7798f37d1f383e2d0b0d6f9fad49a9d75277c4d"), looks := false }, kinds := [], alts := [], laidByText := true, laidKinds := [.data, .pinned], laidTests := true, laidLooks := .later }
def IdentOnceUptoCardSaid : Prop := Claim7.holds Tryd.pinned (.plain (OpenSpec.upto identOnceSpec)) identOnceUptoCard
end Rows
end Go.Proofs.YtihaeeldgimdiaaDoor
