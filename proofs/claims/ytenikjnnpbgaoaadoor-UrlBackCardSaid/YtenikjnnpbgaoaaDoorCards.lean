/-
  DERIVED. GIVEN WITH THE SEED: THE CARDS: each row of YtenikjnnpbgaoaaDoorRows.lean that lists a variable, with what it lists TIED to the program's text (the seventh form; the later family's looks); each row that meets fmt, with fmt's text TOLD by the authors' own Lean function (tested against real Go, not proved from fmt's source: count such statements apart). THE CARD IS WHAT COUNTS. Prove the row's statement (the work); the ties are given (YtenikjnnpbgaoaaDoorTie.lean); close each card by the builder's one call (the guide's Derived/Test/ToyasCard.lean, 'card_holds'). Laid BY PROGRAM, IN A SANDBOX (cutbox-door.mjs). By AI agents, Wed Nov 11 2026. No macro, syntax, notation, axiom, sorry.
-/
import Derived.Test.YtenikjnnpbgaoaaDoorRows
import GoSem.ClaimSeven
namespace Go.Proofs.YtenikjnnpbgaoaaDoor
namespace Rows

/-- THE TIED CARD OF 'cringlelaw04.UrlPaths'. -/
def urlPathsCard : Claim7 := { stood := { row := urlPathsRow, standIns := [], harness := (true, "bfc26fe8bc2b1c365984cdd8ce1880040a328e6aa64ddfb95a05c1f9de8052ed"), looks := false }, kinds := [], alts := [], laidByText := true, laidKinds := [.data, .pinned], laidTests := true, laidLooks := .later }
def UrlPathsCardSaid : Prop := Claim7.holds Tryd.pinned (.plain (OpenSpec.ofChange urlPathsSpec)) urlPathsCard

/-- THE TIED CARD OF 'cringlelaw04.UrlCleaned'. -/
def urlCleanedCard : Claim7 := { stood := { row := urlCleanedRow, standIns := [], harness := (true, "bfc26fe8bc2b1c365984cdd8ce1880040a328e6aa64ddfb95a05c1f9de8052ed"), looks := false }, kinds := [], alts := [], laidByText := true, laidKinds := [.data, .pinned], laidTests := true, laidLooks := .later }
def UrlCleanedCardSaid : Prop := Claim7.holds Tryd.pinned (.plain (OpenSpec.ofChange urlCleanedSpec)) urlCleanedCard

/-- THE TIED CARD OF 'cringlelaw04.UrlSigns'. -/
def urlSignsCard : Claim7 := { stood := { row := urlSignsRow, standIns := [], harness := (true, "bfc26fe8bc2b1c365984cdd8ce1880040a328e6aa64ddfb95a05c1f9de8052ed"), looks := false }, kinds := [], alts := [], laidByText := true, laidKinds := [.data, .pinned], laidTests := true, laidLooks := .later }
def UrlSignsCardSaid : Prop := Claim7.holds Tryd.pinned (.plain (OpenSpec.ofChange urlSignsSpec)) urlSignsCard

/-- THE TIED CARD OF 'cringlelaw04.UrlBack'. -/
def urlBackCard : Claim7 := { stood := { row := urlBackRow, standIns := [], harness := (true, "bfc26fe8bc2b1c365984cdd8ce1880040a328e6aa64ddfb95a05c1f9de8052ed"), looks := false }, kinds := [], alts := [], laidByText := true, laidKinds := [.data, .pinned], laidTests := true, laidLooks := .later }
def UrlBackCardSaid : Prop := Claim7.holds Tryd.pinned (.plain (OpenSpec.ofChange urlBackSpec)) urlBackCard

/-- THE SECOND FORM's CARD OF 'cringlelaw04.UrlPaths'. -/
def urlPathsUptoCard : Claim7 := { stood := { row := urlPathsUptoRow, standIns := [], harness := (true, "bfc26fe8bc2b1c365984cdd8ce1880040a328e6aa64ddfb95a05c1f9de8052ed"), looks := false }, kinds := [], alts := [], laidByText := true, laidKinds := [.data, .pinned], laidTests := true, laidLooks := .later }
def UrlPathsUptoCardSaid : Prop := Claim7.holds Tryd.pinned (.plain (OpenSpec.upto urlPathsSpec)) urlPathsUptoCard

/-- THE SECOND FORM's CARD OF 'cringlelaw04.UrlCleaned'. -/
def urlCleanedUptoCard : Claim7 := { stood := { row := urlCleanedUptoRow, standIns := [], harness := (true, "bfc26fe8bc2b1c365984cdd8ce1880040a328e6aa64ddfb95a05c1f9de8052ed"), looks := false }, kinds := [], alts := [], laidByText := true, laidKinds := [.data, .pinned], laidTests := true, laidLooks := .later }
def UrlCleanedUptoCardSaid : Prop := Claim7.holds Tryd.pinned (.plain (OpenSpec.upto urlCleanedSpec)) urlCleanedUptoCard

/-- THE SECOND FORM's CARD OF 'cringlelaw04.UrlSigns'. -/
def urlSignsUptoCard : Claim7 := { stood := { row := urlSignsUptoRow, standIns := [], harness := (true, "bfc26fe8bc2b1c365984cdd8ce1880040a328e6aa64ddfb95a05c1f9de8052ed"), looks := false }, kinds := [], alts := [], laidByText := true, laidKinds := [.data, .pinned], laidTests := true, laidLooks := .later }
def UrlSignsUptoCardSaid : Prop := Claim7.holds Tryd.pinned (.plain (OpenSpec.upto urlSignsSpec)) urlSignsUptoCard

/-- THE SECOND FORM's CARD OF 'cringlelaw04.UrlBack'. -/
def urlBackUptoCard : Claim7 := { stood := { row := urlBackUptoRow, standIns := [], harness := (true, "bfc26fe8bc2b1c365984cdd8ce1880040a328e6aa64ddfb95a05c1f9de8052ed"), looks := false }, kinds := [], alts := [], laidByText := true, laidKinds := [.data, .pinned], laidTests := true, laidLooks := .later }
def UrlBackUptoCardSaid : Prop := Claim7.holds Tryd.pinned (.plain (OpenSpec.upto urlBackSpec)) urlBackUptoCard
end Rows
end Go.Proofs.YtenikjnnpbgaoaaDoor
