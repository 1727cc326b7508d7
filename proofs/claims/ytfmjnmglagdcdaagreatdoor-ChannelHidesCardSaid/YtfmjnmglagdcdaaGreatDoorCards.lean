/-
  DERIVED. GIVEN WITH THE SEED: THE CARDS: each row of YtfmjnmglagdcdaaGreatDoorRows.lean that lists a variable, with what it lists TIED to the program's text (the seventh form; the later family's looks); each row that meets fmt, with fmt's text TOLD by the authors' own Lean function (tested against real Go, not proved from fmt's source: count such statements apart). THE CARD IS WHAT COUNTS. Prove the row's statement (the work); the ties are given (YtfmjnmglagdcdaaGreatDoorTie.lean); close each card by the builder's one call (the guide's Derived/Test/ToyasCard.lean, 'card_holds'). Laid BY PROGRAM, IN A SANDBOX (cutbox-door.mjs). By AI agents, Wed Nov 11 2026. No macro, syntax, notation, axiom, sorry.
-/
import Derived.Test.YtfmjnmglagdcdaaGreatDoorRows
import GoSem.ClaimSeven
namespace Go.Proofs.YtfmjnmglagdcdaaGreatDoor
namespace Rows

/-- THE TIED CARD OF 'cringlelaw23.ChannelHides'. -/
def channelHidesCard : Claim7 := { stood := { row := channelHidesRow, standIns := [], harness := (true, "b8c921e6a79726c37718286582bd100aa72d8686ceff4fffc511c5caf59a47b0"), looks := false }, kinds := [], alts := [], laidByText := true, laidKinds := [.data, .pinned], laidTests := true, laidLooks := .later }
def ChannelHidesCardSaid : Prop := Claim7.holds Tryz.pinned (.plain (OpenSpec.ofChange channelHidesSpec)) channelHidesCard

/-- THE TIED CARD OF 'cringlelaw23.ChannelOnce'. -/
def channelOnceCard : Claim7 := { stood := { row := channelOnceRow, standIns := [], harness := (true, "b8c921e6a79726c37718286582bd100aa72d8686ceff4fffc511c5caf59a47b0"), looks := false }, kinds := [], alts := [], laidByText := true, laidKinds := [.data, .pinned], laidTests := true, laidLooks := .later }
def ChannelOnceCardSaid : Prop := Claim7.holds Tryz.pinned (.plain (OpenSpec.ofChange channelOnceSpec)) channelOnceCard

/-- THE TIED CARD OF 'cringlelaw23.ChannelRefused'. -/
def channelRefusedCard : Claim7 := { stood := { row := channelRefusedRow, standIns := [], harness := (true, "b8c921e6a79726c37718286582bd100aa72d8686ceff4fffc511c5caf59a47b0"), looks := false }, kinds := [], alts := [], laidByText := true, laidKinds := [.data, .pinned], laidTests := true, laidLooks := .later }
def ChannelRefusedCardSaid : Prop := Claim7.holds Tryz.pinned (.plain (OpenSpec.ofChange channelRefusedSpec)) channelRefusedCard

/-- THE SECOND FORM's CARD OF 'cringlelaw23.ChannelHides'. -/
def channelHidesUptoCard : Claim7 := { stood := { row := channelHidesUptoRow, standIns := [], harness := (true, "b8c921e6a79726c37718286582bd100aa72d8686ceff4fffc511c5caf59a47b0"), looks := false }, kinds := [], alts := [], laidByText := true, laidKinds := [.data, .pinned], laidTests := true, laidLooks := .later }
def ChannelHidesUptoCardSaid : Prop := Claim7.holds Tryz.pinned (.plain (OpenSpec.upto channelHidesSpec)) channelHidesUptoCard

/-- THE SECOND FORM's CARD OF 'cringlelaw23.ChannelOnce'. -/
def channelOnceUptoCard : Claim7 := { stood := { row := channelOnceUptoRow, standIns := [], harness := (true, "b8c921e6a79726c37718286582bd100aa72d8686ceff4fffc511c5caf59a47b0"), looks := false }, kinds := [], alts := [], laidByText := true, laidKinds := [.data, .pinned], laidTests := true, laidLooks := .later }
def ChannelOnceUptoCardSaid : Prop := Claim7.holds Tryz.pinned (.plain (OpenSpec.upto channelOnceSpec)) channelOnceUptoCard

/-- THE SECOND FORM's CARD OF 'cringlelaw23.ChannelRefused'. -/
def channelRefusedUptoCard : Claim7 := { stood := { row := channelRefusedUptoRow, standIns := [], harness := (true, "b8c921e6a79726c37718286582bd100aa72d8686ceff4fffc511c5caf59a47b0"), looks := false }, kinds := [], alts := [], laidByText := true, laidKinds := [.data, .pinned], laidTests := true, laidLooks := .later }
def ChannelRefusedUptoCardSaid : Prop := Claim7.holds Tryz.pinned (.plain (OpenSpec.upto channelRefusedSpec)) channelRefusedUptoCard
end Rows
end Go.Proofs.YtfmjnmglagdcdaaGreatDoor
