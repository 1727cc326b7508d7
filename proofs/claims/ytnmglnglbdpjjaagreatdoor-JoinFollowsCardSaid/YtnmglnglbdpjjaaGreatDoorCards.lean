/-
  DERIVED. GIVEN WITH THE SEED: THE CARDS: each row of YtnmglnglbdpjjaaGreatDoorRows.lean that lists a variable, with what it lists TIED to the program's text (the seventh form; the later family's looks); each row that meets fmt, with fmt's text TOLD by the authors' own Lean function (tested against real Go, not proved from fmt's source: count such statements apart). THE CARD IS WHAT COUNTS. Prove the row's statement (the work); the ties are given (YtnmglnglbdpjjaaGreatDoorTie.lean); close each card by the builder's one call (the guide's Derived/Test/ToyasCard.lean, 'card_holds'). Laid BY PROGRAM, IN A SANDBOX (cutbox-door.mjs). By AI agents, Wed Nov 11 2026. No macro, syntax, notation, axiom, sorry.
-/
import Derived.Test.YtnmglnglbdpjjaaGreatDoorRows
import GoSem.ClaimSeven
namespace Go.Proofs.YtnmglnglbdpjjaaGreatDoor
namespace Rows

/-- THE TIED CARD OF 'cringlelaw04.UrlParses'. -/
def urlParsesCard : Claim7 := { stood := { row := urlParsesRow, standIns := [], harness := (true, "d107912ca9fd9c3bc0ccf338ab86fb438381eebf2e12bf9ead652d3c1c11815c"), looks := false }, kinds := [], alts := [], laidByText := true, laidKinds := [.data, .pinned], laidTests := true, laidLooks := .later }
def UrlParsesCardSaid : Prop := Claim7.holds Tryz.pinned (.plain (OpenSpec.ofChange urlParsesSpec)) urlParsesCard

/-- THE TIED CARD OF 'cringlelaw04.UrlParts'. -/
def urlPartsCard : Claim7 := { stood := { row := urlPartsRow, standIns := [], harness := (true, "d107912ca9fd9c3bc0ccf338ab86fb438381eebf2e12bf9ead652d3c1c11815c"), looks := false }, kinds := [], alts := [], laidByText := true, laidKinds := [.data, .pinned], laidTests := true, laidLooks := .later }
def UrlPartsCardSaid : Prop := Claim7.holds Tryz.pinned (.plain (OpenSpec.ofChange urlPartsSpec)) urlPartsCard

/-- THE TIED CARD OF 'cringlelaw04.UrlTexts'. -/
def urlTextsCard : Claim7 := { stood := { row := urlTextsRow, standIns := [], harness := (true, "d107912ca9fd9c3bc0ccf338ab86fb438381eebf2e12bf9ead652d3c1c11815c"), looks := false }, kinds := [], alts := [], laidByText := true, laidKinds := [.data, .pinned], laidTests := true, laidLooks := .later }
def UrlTextsCardSaid : Prop := Claim7.holds Tryz.pinned (.plain (OpenSpec.ofChange urlTextsSpec)) urlTextsCard

/-- THE TIED CARD OF 'cringlelaw05.JoinLinks'. -/
def joinLinksCard : Claim7 := { stood := { row := joinLinksRow, standIns := [], harness := (true, "d107912ca9fd9c3bc0ccf338ab86fb438381eebf2e12bf9ead652d3c1c11815c"), looks := false }, kinds := [], alts := [], laidByText := true, laidKinds := [.data, .pinned], laidTests := true, laidLooks := .later }
def JoinLinksCardSaid : Prop := Claim7.holds Tryz.pinned (.plain (OpenSpec.ofChange joinLinksSpec)) joinLinksCard

/-- THE TIED CARD OF 'cringlelaw05.JoinSelf'. -/
def joinSelfCard : Claim7 := { stood := { row := joinSelfRow, standIns := [], harness := (true, "d107912ca9fd9c3bc0ccf338ab86fb438381eebf2e12bf9ead652d3c1c11815c"), looks := false }, kinds := [], alts := [], laidByText := true, laidKinds := [.data, .pinned], laidTests := true, laidLooks := .later }
def JoinSelfCardSaid : Prop := Claim7.holds Tryz.pinned (.plain (OpenSpec.ofChange joinSelfSpec)) joinSelfCard

/-- THE TIED CARD OF 'cringlelaw05.JoinMay'. -/
def joinMayCard : Claim7 := { stood := { row := joinMayRow, standIns := [], harness := (true, "d107912ca9fd9c3bc0ccf338ab86fb438381eebf2e12bf9ead652d3c1c11815c"), looks := false }, kinds := [], alts := [], laidByText := true, laidKinds := [.data, .pinned], laidTests := true, laidLooks := .later }
def JoinMayCardSaid : Prop := Claim7.holds Tryz.pinned (.plain (OpenSpec.ofChange joinMaySpec)) joinMayCard

/-- THE TIED CARD OF 'cringlelaw05.JoinKeyed'. -/
def joinKeyedCard : Claim7 := { stood := { row := joinKeyedRow, standIns := [], harness := (true, "d107912ca9fd9c3bc0ccf338ab86fb438381eebf2e12bf9ead652d3c1c11815c"), looks := false }, kinds := [], alts := [], laidByText := true, laidKinds := [.data, .pinned], laidTests := true, laidLooks := .later }
def JoinKeyedCardSaid : Prop := Claim7.holds Tryz.pinned (.plain (OpenSpec.ofChange joinKeyedSpec)) joinKeyedCard

/-- THE TIED CARD OF 'cringlelaw05.JoinFollows'. -/
def joinFollowsCard : Claim7 := { stood := { row := joinFollowsRow, standIns := [], harness := (true, "d107912ca9fd9c3bc0ccf338ab86fb438381eebf2e12bf9ead652d3c1c11815c"), looks := false }, kinds := [], alts := [], laidByText := true, laidKinds := [.data, .pinned], laidTests := true, laidLooks := .later }
def JoinFollowsCardSaid : Prop := Claim7.holds Tryz.pinned (.plain (OpenSpec.ofChange joinFollowsSpec)) joinFollowsCard

/-- THE TIED CARD OF 'cringlelaw05.JoinBack'. -/
def joinBackCard : Claim7 := { stood := { row := joinBackRow, standIns := [], harness := (true, "d107912ca9fd9c3bc0ccf338ab86fb438381eebf2e12bf9ead652d3c1c11815c"), looks := false }, kinds := [], alts := [], laidByText := true, laidKinds := [.data, .pinned], laidTests := true, laidLooks := .later }
def JoinBackCardSaid : Prop := Claim7.holds Tryz.pinned (.plain (OpenSpec.ofChange joinBackSpec)) joinBackCard

/-- THE TIED CARD OF 'cringlelaw05.JoinKeys'. -/
def joinKeysCard : Claim7 := { stood := { row := joinKeysRow, standIns := [], harness := (true, "d107912ca9fd9c3bc0ccf338ab86fb438381eebf2e12bf9ead652d3c1c11815c"), looks := false }, kinds := [], alts := [], laidByText := true, laidKinds := [.data, .pinned], laidTests := true, laidLooks := .later }
def JoinKeysCardSaid : Prop := Claim7.holds Tryz.pinned (.plain (OpenSpec.ofChange joinKeysSpec)) joinKeysCard

/-- THE SECOND FORM's CARD OF 'cringlelaw04.UrlParses'. -/
def urlParsesUptoCard : Claim7 := { stood := { row := urlParsesUptoRow, standIns := [], harness := (true, "d107912ca9fd9c3bc0ccf338ab86fb438381eebf2e12bf9ead652d3c1c11815c"), looks := false }, kinds := [], alts := [], laidByText := true, laidKinds := [.data, .pinned], laidTests := true, laidLooks := .later }
def UrlParsesUptoCardSaid : Prop := Claim7.holds Tryz.pinned (.plain (OpenSpec.upto urlParsesSpec)) urlParsesUptoCard

/-- THE SECOND FORM's CARD OF 'cringlelaw04.UrlParts'. -/
def urlPartsUptoCard : Claim7 := { stood := { row := urlPartsUptoRow, standIns := [], harness := (true, "d107912ca9fd9c3bc0ccf338ab86fb438381eebf2e12bf9ead652d3c1c11815c"), looks := false }, kinds := [], alts := [], laidByText := true, laidKinds := [.data, .pinned], laidTests := true, laidLooks := .later }
def UrlPartsUptoCardSaid : Prop := Claim7.holds Tryz.pinned (.plain (OpenSpec.upto urlPartsSpec)) urlPartsUptoCard

/-- THE SECOND FORM's CARD OF 'cringlelaw04.UrlTexts'. -/
def urlTextsUptoCard : Claim7 := { stood := { row := urlTextsUptoRow, standIns := [], harness := (true, "d107912ca9fd9c3bc0ccf338ab86fb438381eebf2e12bf9ead652d3c1c11815c"), looks := false }, kinds := [], alts := [], laidByText := true, laidKinds := [.data, .pinned], laidTests := true, laidLooks := .later }
def UrlTextsUptoCardSaid : Prop := Claim7.holds Tryz.pinned (.plain (OpenSpec.upto urlTextsSpec)) urlTextsUptoCard

/-- THE SECOND FORM's CARD OF 'cringlelaw05.JoinLinks'. -/
def joinLinksUptoCard : Claim7 := { stood := { row := joinLinksUptoRow, standIns := [], harness := (true, "d107912ca9fd9c3bc0ccf338ab86fb438381eebf2e12bf9ead652d3c1c11815c"), looks := false }, kinds := [], alts := [], laidByText := true, laidKinds := [.data, .pinned], laidTests := true, laidLooks := .later }
def JoinLinksUptoCardSaid : Prop := Claim7.holds Tryz.pinned (.plain (OpenSpec.upto joinLinksSpec)) joinLinksUptoCard

/-- THE SECOND FORM's CARD OF 'cringlelaw05.JoinSelf'. -/
def joinSelfUptoCard : Claim7 := { stood := { row := joinSelfUptoRow, standIns := [], harness := (true, "d107912ca9fd9c3bc0ccf338ab86fb438381eebf2e12bf9ead652d3c1c11815c"), looks := false }, kinds := [], alts := [], laidByText := true, laidKinds := [.data, .pinned], laidTests := true, laidLooks := .later }
def JoinSelfUptoCardSaid : Prop := Claim7.holds Tryz.pinned (.plain (OpenSpec.upto joinSelfSpec)) joinSelfUptoCard

/-- THE SECOND FORM's CARD OF 'cringlelaw05.JoinMay'. -/
def joinMayUptoCard : Claim7 := { stood := { row := joinMayUptoRow, standIns := [], harness := (true, "d107912ca9fd9c3bc0ccf338ab86fb438381eebf2e12bf9ead652d3c1c11815c"), looks := false }, kinds := [], alts := [], laidByText := true, laidKinds := [.data, .pinned], laidTests := true, laidLooks := .later }
def JoinMayUptoCardSaid : Prop := Claim7.holds Tryz.pinned (.plain (OpenSpec.upto joinMaySpec)) joinMayUptoCard

/-- THE SECOND FORM's CARD OF 'cringlelaw05.JoinKeyed'. -/
def joinKeyedUptoCard : Claim7 := { stood := { row := joinKeyedUptoRow, standIns := [], harness := (true, "d107912ca9fd9c3bc0ccf338ab86fb438381eebf2e12bf9ead652d3c1c11815c"), looks := false }, kinds := [], alts := [], laidByText := true, laidKinds := [.data, .pinned], laidTests := true, laidLooks := .later }
def JoinKeyedUptoCardSaid : Prop := Claim7.holds Tryz.pinned (.plain (OpenSpec.upto joinKeyedSpec)) joinKeyedUptoCard

/-- THE SECOND FORM's CARD OF 'cringlelaw05.JoinFollows'. -/
def joinFollowsUptoCard : Claim7 := { stood := { row := joinFollowsUptoRow, standIns := [], harness := (true, "d107912ca9fd9c3bc0ccf338ab86fb438381eebf2e12bf9ead652d3c1c11815c"), looks := false }, kinds := [], alts := [], laidByText := true, laidKinds := [.data, .pinned], laidTests := true, laidLooks := .later }
def JoinFollowsUptoCardSaid : Prop := Claim7.holds Tryz.pinned (.plain (OpenSpec.upto joinFollowsSpec)) joinFollowsUptoCard

/-- THE SECOND FORM's CARD OF 'cringlelaw05.JoinBack'. -/
def joinBackUptoCard : Claim7 := { stood := { row := joinBackUptoRow, standIns := [], harness := (true, "d107912ca9fd9c3bc0ccf338ab86fb438381eebf2e12bf9ead652d3c1c11815c"), looks := false }, kinds := [], alts := [], laidByText := true, laidKinds := [.data, .pinned], laidTests := true, laidLooks := .later }
def JoinBackUptoCardSaid : Prop := Claim7.holds Tryz.pinned (.plain (OpenSpec.upto joinBackSpec)) joinBackUptoCard

/-- THE SECOND FORM's CARD OF 'cringlelaw05.JoinKeys'. -/
def joinKeysUptoCard : Claim7 := { stood := { row := joinKeysUptoRow, standIns := [], harness := (true, "d107912ca9fd9c3bc0ccf338ab86fb438381eebf2e12bf9ead652d3c1c11815c"), looks := false }, kinds := [], alts := [], laidByText := true, laidKinds := [.data, .pinned], laidTests := true, laidLooks := .later }
def JoinKeysUptoCardSaid : Prop := Claim7.holds Tryz.pinned (.plain (OpenSpec.upto joinKeysSpec)) joinKeysUptoCard
end Rows
end Go.Proofs.YtnmglnglbdpjjaaGreatDoor
