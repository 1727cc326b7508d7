/-
  NARROWER THAN 'FOR EVERY INPUT', by the rows' own cells (each row's printed sentence says how): UrlParses: laid · UrlParts: laid · UrlTexts: laid · JoinLinks: laid · JoinSelf: laid · JoinMay: laid · JoinKeyed: laid · JoinFollows: laid · JoinBack: laid · JoinKeys: laid.
  DERIVED. THE GIVEN ROWS OF THIS SEAT. 10 by the template 'for every input the law returns true; each argument reads behind the call as it read before'; 0 by the template 'total and deterministic' (their statements: YtnmglnglbdpjjaaGreatDoorTotals.lean).
  GIVEN WITH THE SEED: the statements are not yours to turn. If you find one false, say at which input.
  Laid BY PROGRAM, IN A SANDBOX (cutbox-rows.mjs): the forced cells as the released guide's own fill.sh prints them over the translation d9622a01ab84d147… (all of the seat's roots in one cut). By AI agents, Wed Nov 11 2026. No macro, syntax, notation, axiom, sorry.
-/
import Derived.Test.YtnmglnglbdpjjaaGreatDoorChecked
import GoSem.PinnedTables
import GoSem.Claim
import GoSem.ClaimJoined
import GoSem.ClaimMapViews
import Derived.JoinedTies
import Derived.KernelRfl
namespace Go.Proofs.YtnmglnglbdpjjaaGreatDoor
/- THE CELL 'sum', in the pinned program and in every row, IS THE sha256 OF THE DUMP (.gsa) THAT YtnmglnglbdpjjaaGreatDoorProg.lean LOADS. Nothing in Lean hashes anything: it is a label: what it is worth is what the hold of that sum in a sandbox is worth. -/
noncomputable def Tryz.pinned : Pinned := { name := "ytnmglnglbdpjjaagreatdoor", sum := "d9622a01ab84d1471deaf3c0fa156744982df0c78ad17729a16b0a45b5c0a406", checked := Tryz.checked }
namespace Rows
def none {H : Type} : Left H := { results := [], args := [] }

/- WHAT THE LISTED PACKAGE-LEVEL VARIABLES READ AS WHEN THE CALL BEGINS. Each datum BY PROGRAM (the guide's laid-datum.mjs) off the statement by which the dump's own 'gosem.cut.vars' lays the variable. In a bare row this is a premise. The card (YtnmglnglbdpjjaaGreatDoorCards.lean) ties it to the program's text. -/
def laid_unicode_utf8_acceptRanges {H : Type} : DataW H := .agg [.agg [.lit (.int .u8 128), .lit (.int .u8 191)], .agg [.lit (.int .u8 160), .lit (.int .u8 191)], .agg [.lit (.int .u8 128), .lit (.int .u8 159)], .agg [.lit (.int .u8 144), .lit (.int .u8 191)], .agg [.lit (.int .u8 128), .lit (.int .u8 143)], .agg [.lit (.int .u8 0), .lit (.int .u8 0)], .agg [.lit (.int .u8 0), .lit (.int .u8 0)], .agg [.lit (.int .u8 0), .lit (.int .u8 0)], .agg [.lit (.int .u8 0), .lit (.int .u8 0)], .agg [.lit (.int .u8 0), .lit (.int .u8 0)], .agg [.lit (.int .u8 0), .lit (.int .u8 0)], .agg [.lit (.int .u8 0), .lit (.int .u8 0)], .agg [.lit (.int .u8 0), .lit (.int .u8 0)], .agg [.lit (.int .u8 0), .lit (.int .u8 0)], .agg [.lit (.int .u8 0), .lit (.int .u8 0)], .agg [.lit (.int .u8 0), .lit (.int .u8 0)]]
/-- One of Go's own tables, pinned by name: the form's constant. -/
def laid_unicode_utf8_first : DataW Unit := Go.Pinned.utf8First

/-- 'cringlelaw04.UrlParses': WHATEVER THE INPUT: true; the input reads as it did. -/
def urlParsesSpec : ChangeSpec := { name := "urlParses", fn := fun _ => fun
  | [d] => { results := [.lit (.bool true)], args := [d] }
  | _ => none }
def urlParsesRow : OpenClaim := { program := "ytnmglnglbdpjjaagreatdoor", sum := "d9622a01ab84d1471deaf3c0fa156744982df0c78ad17729a16b0a45b5c0a406", func := "cringle/cringlelaw04.UrlParses", spec := "urlParses", inPlace := ["internal/bytealg.CountString", "internal/bytealg.IndexByteString", "internal/bytealg.IndexString", "internal/abi.NoEscape", "internal/bytealg.MakeNoZero"], unfollowed := true, recurses := true, named := ["unicode/utf8.first", "unicode/utf8.acceptRanges", "internal/bytealg.MaxLen"], apart := false, laid := [("unicode/utf8.acceptRanges", laid_unicode_utf8_acceptRanges), ("unicode/utf8.first", laid_unicode_utf8_first)] }
def UrlParsesSaid : Prop := urlParsesRow.holds Tryz.pinned (OpenSpec.ofChange urlParsesSpec)

/-- ITS FALSE NEIGHBOUR: 'it returns false'. Refute it at one input. -/
def urlParsesWrong : ChangeSpec := { name := "urlParses", fn := fun _ => fun
  | [d] => { results := [.lit (.bool false)], args := [d] }
  | _ => none }
def UrlParsesWrongFalsely : Prop := urlParsesRow.holds Tryz.pinned (OpenSpec.ofChange urlParsesWrong)

/-- 'cringlelaw04.UrlParts': WHATEVER THE INPUT: true; the input reads as it did. -/
def urlPartsSpec : ChangeSpec := { name := "urlParts", fn := fun _ => fun
  | [d] => { results := [.lit (.bool true)], args := [d] }
  | _ => none }
def urlPartsRow : OpenClaim := { program := "ytnmglnglbdpjjaagreatdoor", sum := "d9622a01ab84d1471deaf3c0fa156744982df0c78ad17729a16b0a45b5c0a406", func := "cringle/cringlelaw04.UrlParts", spec := "urlParts", inPlace := ["internal/bytealg.CountString", "internal/bytealg.IndexByteString", "internal/bytealg.IndexString", "internal/abi.NoEscape", "internal/bytealg.MakeNoZero"], unfollowed := true, recurses := true, named := ["unicode/utf8.first", "unicode/utf8.acceptRanges", "internal/bytealg.MaxLen"], apart := false, laid := [("unicode/utf8.acceptRanges", laid_unicode_utf8_acceptRanges), ("unicode/utf8.first", laid_unicode_utf8_first)] }
def UrlPartsSaid : Prop := urlPartsRow.holds Tryz.pinned (OpenSpec.ofChange urlPartsSpec)

/-- ITS FALSE NEIGHBOUR: 'it returns false'. Refute it at one input. -/
def urlPartsWrong : ChangeSpec := { name := "urlParts", fn := fun _ => fun
  | [d] => { results := [.lit (.bool false)], args := [d] }
  | _ => none }
def UrlPartsWrongFalsely : Prop := urlPartsRow.holds Tryz.pinned (OpenSpec.ofChange urlPartsWrong)

/-- 'cringlelaw04.UrlTexts': WHATEVER THE INPUT: true; the input reads as it did. -/
def urlTextsSpec : ChangeSpec := { name := "urlTexts", fn := fun _ => fun
  | [d] => { results := [.lit (.bool true)], args := [d] }
  | _ => none }
def urlTextsRow : OpenClaim := { program := "ytnmglnglbdpjjaagreatdoor", sum := "d9622a01ab84d1471deaf3c0fa156744982df0c78ad17729a16b0a45b5c0a406", func := "cringle/cringlelaw04.UrlTexts", spec := "urlTexts", inPlace := ["internal/bytealg.CountString", "internal/bytealg.IndexByteString", "internal/bytealg.IndexString", "internal/abi.NoEscape", "internal/bytealg.MakeNoZero"], unfollowed := true, recurses := true, named := ["unicode/utf8.first", "unicode/utf8.acceptRanges", "internal/bytealg.MaxLen"], apart := false, laid := [("unicode/utf8.acceptRanges", laid_unicode_utf8_acceptRanges), ("unicode/utf8.first", laid_unicode_utf8_first)] }
def UrlTextsSaid : Prop := urlTextsRow.holds Tryz.pinned (OpenSpec.ofChange urlTextsSpec)

/-- ITS FALSE NEIGHBOUR: 'it returns false'. Refute it at one input. -/
def urlTextsWrong : ChangeSpec := { name := "urlTexts", fn := fun _ => fun
  | [d] => { results := [.lit (.bool false)], args := [d] }
  | _ => none }
def UrlTextsWrongFalsely : Prop := urlTextsRow.holds Tryz.pinned (OpenSpec.ofChange urlTextsWrong)

/-- 'cringlelaw05.JoinLinks': WHATEVER THE INPUT: true; the input reads as it did. -/
def joinLinksSpec : ChangeSpec := { name := "joinLinks", fn := fun _ => fun
  | [d1, d2] => { results := [.lit (.bool true)], args := [d1, d2] }
  | _ => none }
def joinLinksRow : OpenClaim := { program := "ytnmglnglbdpjjaagreatdoor", sum := "d9622a01ab84d1471deaf3c0fa156744982df0c78ad17729a16b0a45b5c0a406", func := "cringle/cringlelaw05.JoinLinks", spec := "joinLinks", inPlace := ["internal/bytealg.CountString", "internal/bytealg.IndexByteString", "internal/bytealg.IndexString", "internal/abi.NoEscape", "internal/bytealg.MakeNoZero"], unfollowed := true, recurses := true, named := ["unicode/utf8.first", "unicode/utf8.acceptRanges", "internal/bytealg.MaxLen"], apart := false, laid := [("unicode/utf8.acceptRanges", laid_unicode_utf8_acceptRanges), ("unicode/utf8.first", laid_unicode_utf8_first)] }
def JoinLinksSaid : Prop := joinLinksRow.holds Tryz.pinned (OpenSpec.ofChange joinLinksSpec)

/-- ITS FALSE NEIGHBOUR: 'it returns false'. Refute it at one input. -/
def joinLinksWrong : ChangeSpec := { name := "joinLinks", fn := fun _ => fun
  | [d1, d2] => { results := [.lit (.bool false)], args := [d1, d2] }
  | _ => none }
def JoinLinksWrongFalsely : Prop := joinLinksRow.holds Tryz.pinned (OpenSpec.ofChange joinLinksWrong)

/-- 'cringlelaw05.JoinSelf': WHATEVER THE INPUT: true; the input reads as it did. -/
def joinSelfSpec : ChangeSpec := { name := "joinSelf", fn := fun _ => fun
  | [d1, d2] => { results := [.lit (.bool true)], args := [d1, d2] }
  | _ => none }
def joinSelfRow : OpenClaim := { program := "ytnmglnglbdpjjaagreatdoor", sum := "d9622a01ab84d1471deaf3c0fa156744982df0c78ad17729a16b0a45b5c0a406", func := "cringle/cringlelaw05.JoinSelf", spec := "joinSelf", inPlace := ["internal/bytealg.CountString", "internal/bytealg.IndexByteString", "internal/bytealg.IndexString", "internal/abi.NoEscape", "internal/bytealg.MakeNoZero"], unfollowed := true, recurses := true, named := ["unicode/utf8.first", "unicode/utf8.acceptRanges", "internal/bytealg.MaxLen"], apart := false, laid := [("unicode/utf8.acceptRanges", laid_unicode_utf8_acceptRanges), ("unicode/utf8.first", laid_unicode_utf8_first)] }
def JoinSelfSaid : Prop := joinSelfRow.holds Tryz.pinned (OpenSpec.ofChange joinSelfSpec)

/-- ITS FALSE NEIGHBOUR: 'it returns false'. Refute it at one input. -/
def joinSelfWrong : ChangeSpec := { name := "joinSelf", fn := fun _ => fun
  | [d1, d2] => { results := [.lit (.bool false)], args := [d1, d2] }
  | _ => none }
def JoinSelfWrongFalsely : Prop := joinSelfRow.holds Tryz.pinned (OpenSpec.ofChange joinSelfWrong)

/-- 'cringlelaw05.JoinMay': WHATEVER THE INPUT: true; the input reads as it did. -/
def joinMaySpec : ChangeSpec := { name := "joinMay", fn := fun _ => fun
  | [d1, d2] => { results := [.lit (.bool true)], args := [d1, d2] }
  | _ => none }
def joinMayRow : OpenClaim := { program := "ytnmglnglbdpjjaagreatdoor", sum := "d9622a01ab84d1471deaf3c0fa156744982df0c78ad17729a16b0a45b5c0a406", func := "cringle/cringlelaw05.JoinMay", spec := "joinMay", inPlace := ["internal/bytealg.CountString", "internal/bytealg.IndexByteString", "internal/bytealg.IndexString", "internal/abi.NoEscape", "internal/bytealg.MakeNoZero"], unfollowed := true, recurses := true, named := ["unicode/utf8.first", "unicode/utf8.acceptRanges", "internal/bytealg.MaxLen"], apart := false, laid := [("unicode/utf8.acceptRanges", laid_unicode_utf8_acceptRanges), ("unicode/utf8.first", laid_unicode_utf8_first)] }
def JoinMaySaid : Prop := joinMayRow.holds Tryz.pinned (OpenSpec.ofChange joinMaySpec)

/-- ITS FALSE NEIGHBOUR: 'it returns false'. Refute it at one input. -/
def joinMayWrong : ChangeSpec := { name := "joinMay", fn := fun _ => fun
  | [d1, d2] => { results := [.lit (.bool false)], args := [d1, d2] }
  | _ => none }
def JoinMayWrongFalsely : Prop := joinMayRow.holds Tryz.pinned (OpenSpec.ofChange joinMayWrong)

/-- 'cringlelaw05.JoinKeyed': WHATEVER THE INPUT: true; the input reads as it did. -/
def joinKeyedSpec : ChangeSpec := { name := "joinKeyed", fn := fun _ => fun
  | [d] => { results := [.lit (.bool true)], args := [d] }
  | _ => none }
def joinKeyedRow : OpenClaim := { program := "ytnmglnglbdpjjaagreatdoor", sum := "d9622a01ab84d1471deaf3c0fa156744982df0c78ad17729a16b0a45b5c0a406", func := "cringle/cringlelaw05.JoinKeyed", spec := "joinKeyed", inPlace := ["internal/bytealg.CountString", "internal/bytealg.IndexByteString", "internal/bytealg.IndexString", "internal/abi.NoEscape", "internal/bytealg.MakeNoZero"], unfollowed := true, recurses := true, named := ["unicode/utf8.first", "unicode/utf8.acceptRanges", "internal/bytealg.MaxLen"], apart := false, laid := [("unicode/utf8.acceptRanges", laid_unicode_utf8_acceptRanges), ("unicode/utf8.first", laid_unicode_utf8_first)] }
def JoinKeyedSaid : Prop := joinKeyedRow.holds Tryz.pinned (OpenSpec.ofChange joinKeyedSpec)

/-- ITS FALSE NEIGHBOUR: 'it returns false'. Refute it at one input. -/
def joinKeyedWrong : ChangeSpec := { name := "joinKeyed", fn := fun _ => fun
  | [d] => { results := [.lit (.bool false)], args := [d] }
  | _ => none }
def JoinKeyedWrongFalsely : Prop := joinKeyedRow.holds Tryz.pinned (OpenSpec.ofChange joinKeyedWrong)

/-- 'cringlelaw05.JoinFollows': WHATEVER THE INPUT: true; the input reads as it did. -/
def joinFollowsSpec : ChangeSpec := { name := "joinFollows", fn := fun _ => fun
  | [d1, d2] => { results := [.lit (.bool true)], args := [d1, d2] }
  | _ => none }
def joinFollowsRow : OpenClaim := { program := "ytnmglnglbdpjjaagreatdoor", sum := "d9622a01ab84d1471deaf3c0fa156744982df0c78ad17729a16b0a45b5c0a406", func := "cringle/cringlelaw05.JoinFollows", spec := "joinFollows", inPlace := ["internal/bytealg.CountString", "internal/bytealg.IndexByteString", "internal/bytealg.IndexString", "internal/abi.NoEscape", "internal/bytealg.MakeNoZero"], unfollowed := true, recurses := true, named := ["unicode/utf8.first", "unicode/utf8.acceptRanges", "internal/bytealg.MaxLen"], apart := false, laid := [("unicode/utf8.acceptRanges", laid_unicode_utf8_acceptRanges), ("unicode/utf8.first", laid_unicode_utf8_first)] }
def JoinFollowsSaid : Prop := joinFollowsRow.holds Tryz.pinned (OpenSpec.ofChange joinFollowsSpec)

/-- ITS FALSE NEIGHBOUR: 'it returns false'. Refute it at one input. -/
def joinFollowsWrong : ChangeSpec := { name := "joinFollows", fn := fun _ => fun
  | [d1, d2] => { results := [.lit (.bool false)], args := [d1, d2] }
  | _ => none }
def JoinFollowsWrongFalsely : Prop := joinFollowsRow.holds Tryz.pinned (OpenSpec.ofChange joinFollowsWrong)

/-- 'cringlelaw05.JoinBack': WHATEVER THE INPUT: true; the input reads as it did. -/
def joinBackSpec : ChangeSpec := { name := "joinBack", fn := fun _ => fun
  | [d1, d2] => { results := [.lit (.bool true)], args := [d1, d2] }
  | _ => none }
def joinBackRow : OpenClaim := { program := "ytnmglnglbdpjjaagreatdoor", sum := "d9622a01ab84d1471deaf3c0fa156744982df0c78ad17729a16b0a45b5c0a406", func := "cringle/cringlelaw05.JoinBack", spec := "joinBack", inPlace := ["internal/bytealg.CountString", "internal/bytealg.IndexByteString", "internal/bytealg.IndexString", "internal/abi.NoEscape", "internal/bytealg.MakeNoZero"], unfollowed := true, recurses := true, named := ["unicode/utf8.first", "unicode/utf8.acceptRanges", "internal/bytealg.MaxLen"], apart := false, laid := [("unicode/utf8.acceptRanges", laid_unicode_utf8_acceptRanges), ("unicode/utf8.first", laid_unicode_utf8_first)] }
def JoinBackSaid : Prop := joinBackRow.holds Tryz.pinned (OpenSpec.ofChange joinBackSpec)

/-- ITS FALSE NEIGHBOUR: 'it returns false'. Refute it at one input. -/
def joinBackWrong : ChangeSpec := { name := "joinBack", fn := fun _ => fun
  | [d1, d2] => { results := [.lit (.bool false)], args := [d1, d2] }
  | _ => none }
def JoinBackWrongFalsely : Prop := joinBackRow.holds Tryz.pinned (OpenSpec.ofChange joinBackWrong)

/-- 'cringlelaw05.JoinKeys': WHATEVER THE INPUT: true; the input reads as it did. -/
def joinKeysSpec : ChangeSpec := { name := "joinKeys", fn := fun _ => fun
  | [d1, d2] => { results := [.lit (.bool true)], args := [d1, d2] }
  | _ => none }
def joinKeysRow : OpenClaim := { program := "ytnmglnglbdpjjaagreatdoor", sum := "d9622a01ab84d1471deaf3c0fa156744982df0c78ad17729a16b0a45b5c0a406", func := "cringle/cringlelaw05.JoinKeys", spec := "joinKeys", inPlace := ["internal/bytealg.CountString", "internal/bytealg.IndexByteString", "internal/bytealg.IndexString", "internal/abi.NoEscape", "internal/bytealg.MakeNoZero"], unfollowed := true, recurses := true, named := ["unicode/utf8.first", "unicode/utf8.acceptRanges", "internal/bytealg.MaxLen"], apart := false, laid := [("unicode/utf8.acceptRanges", laid_unicode_utf8_acceptRanges), ("unicode/utf8.first", laid_unicode_utf8_first)] }
def JoinKeysSaid : Prop := joinKeysRow.holds Tryz.pinned (OpenSpec.ofChange joinKeysSpec)

/-- ITS FALSE NEIGHBOUR: 'it returns false'. Refute it at one input. -/
def joinKeysWrong : ChangeSpec := { name := "joinKeys", fn := fun _ => fun
  | [d1, d2] => { results := [.lit (.bool false)], args := [d1, d2] }
  | _ => none }
def JoinKeysWrongFalsely : Prop := joinKeysRow.holds Tryz.pinned (OpenSpec.ofChange joinKeysWrong)

/- THE SECOND FORM. 'bulk': how many values and letters a reading holds, each counted each time it is reached (what is shared counts as often as it is met; a slice's spare places count too). A statement '..UptoSaid' is the law's where the arguments, and the package variables that the reading takes, are together of bulk at most 1048576: NARROWER than '..Said'. Prove '..Said' where nothing that the law and all that it calls make is longer than what came in: it says more and counts as full. Else prove '..UptoSaid'. A law counts once. -/
mutual
def uptoBulk {H : Type} : DataW H → Nat
  | .lit (.string bytes) => bytes.length + 1
  | .lit _ => 1
  | .nil => 1
  | .ptr d => uptoBulk d + 1
  | .slice elems spare => uptoBulkAll elems + uptoBulkAll spare + 1
  | .agg parts => uptoBulkAll parts + 1
  | .iface _ d => uptoBulk d + 1
  | .map entries => uptoBulkEntries entries + 1
  | .held _ => 1
def uptoBulkAll {H : Type} : List (DataW H) → Nat
  | [] => 0
  | d :: r => uptoBulk d + uptoBulkAll r
def uptoBulkEntries {H : Type} : List (Lit × DataW H) → Nat
  | [] => 0
  | x :: r => uptoBulkEntry x + uptoBulkEntries r
def uptoBulkEntry {H : Type} : Lit × DataW H → Nat
  | (.string bytes, d) => bytes.length + uptoBulk d + 1
  | (_, d) => uptoBulk d + 1
 end
def uptoSmall : (H : Type) → List (DataW H) → Bool := fun _ ds => decide (uptoBulkAll ds ≤ 1048576)
def OpenSpec.upto (s : _root_.Go.ChangeSpec) : _root_.Go.OpenSpec := { _root_.Go.OpenSpec.ofChange s with cond := some uptoSmall }

/-- 'cringlelaw04.UrlParses', WHERE WHAT IT READS IS OF BULK AT MOST 1048576: true; the input reads as it did. -/
def urlParsesUptoRow : OpenClaim := { program := "ytnmglnglbdpjjaagreatdoor", sum := "d9622a01ab84d1471deaf3c0fa156744982df0c78ad17729a16b0a45b5c0a406", func := "cringle/cringlelaw04.UrlParses", spec := "urlParses", inPlace := ["internal/bytealg.CountString", "internal/bytealg.IndexByteString", "internal/bytealg.IndexString", "internal/abi.NoEscape", "internal/bytealg.MakeNoZero"], unfollowed := true, recurses := true, named := ["unicode/utf8.first", "unicode/utf8.acceptRanges", "internal/bytealg.MaxLen"], apart := false, laid := [("unicode/utf8.acceptRanges", laid_unicode_utf8_acceptRanges), ("unicode/utf8.first", laid_unicode_utf8_first)], narrowed := true }
def UrlParsesUptoSaid : Prop := urlParsesUptoRow.holds Tryz.pinned (OpenSpec.upto urlParsesSpec)

/-- 'cringlelaw04.UrlParts', WHERE WHAT IT READS IS OF BULK AT MOST 1048576: true; the input reads as it did. -/
def urlPartsUptoRow : OpenClaim := { program := "ytnmglnglbdpjjaagreatdoor", sum := "d9622a01ab84d1471deaf3c0fa156744982df0c78ad17729a16b0a45b5c0a406", func := "cringle/cringlelaw04.UrlParts", spec := "urlParts", inPlace := ["internal/bytealg.CountString", "internal/bytealg.IndexByteString", "internal/bytealg.IndexString", "internal/abi.NoEscape", "internal/bytealg.MakeNoZero"], unfollowed := true, recurses := true, named := ["unicode/utf8.first", "unicode/utf8.acceptRanges", "internal/bytealg.MaxLen"], apart := false, laid := [("unicode/utf8.acceptRanges", laid_unicode_utf8_acceptRanges), ("unicode/utf8.first", laid_unicode_utf8_first)], narrowed := true }
def UrlPartsUptoSaid : Prop := urlPartsUptoRow.holds Tryz.pinned (OpenSpec.upto urlPartsSpec)

/-- 'cringlelaw04.UrlTexts', WHERE WHAT IT READS IS OF BULK AT MOST 1048576: true; the input reads as it did. -/
def urlTextsUptoRow : OpenClaim := { program := "ytnmglnglbdpjjaagreatdoor", sum := "d9622a01ab84d1471deaf3c0fa156744982df0c78ad17729a16b0a45b5c0a406", func := "cringle/cringlelaw04.UrlTexts", spec := "urlTexts", inPlace := ["internal/bytealg.CountString", "internal/bytealg.IndexByteString", "internal/bytealg.IndexString", "internal/abi.NoEscape", "internal/bytealg.MakeNoZero"], unfollowed := true, recurses := true, named := ["unicode/utf8.first", "unicode/utf8.acceptRanges", "internal/bytealg.MaxLen"], apart := false, laid := [("unicode/utf8.acceptRanges", laid_unicode_utf8_acceptRanges), ("unicode/utf8.first", laid_unicode_utf8_first)], narrowed := true }
def UrlTextsUptoSaid : Prop := urlTextsUptoRow.holds Tryz.pinned (OpenSpec.upto urlTextsSpec)

/-- 'cringlelaw05.JoinLinks', WHERE WHAT IT READS IS OF BULK AT MOST 1048576: true; the input reads as it did. -/
def joinLinksUptoRow : OpenClaim := { program := "ytnmglnglbdpjjaagreatdoor", sum := "d9622a01ab84d1471deaf3c0fa156744982df0c78ad17729a16b0a45b5c0a406", func := "cringle/cringlelaw05.JoinLinks", spec := "joinLinks", inPlace := ["internal/bytealg.CountString", "internal/bytealg.IndexByteString", "internal/bytealg.IndexString", "internal/abi.NoEscape", "internal/bytealg.MakeNoZero"], unfollowed := true, recurses := true, named := ["unicode/utf8.first", "unicode/utf8.acceptRanges", "internal/bytealg.MaxLen"], apart := false, laid := [("unicode/utf8.acceptRanges", laid_unicode_utf8_acceptRanges), ("unicode/utf8.first", laid_unicode_utf8_first)], narrowed := true }
def JoinLinksUptoSaid : Prop := joinLinksUptoRow.holds Tryz.pinned (OpenSpec.upto joinLinksSpec)

/-- 'cringlelaw05.JoinSelf', WHERE WHAT IT READS IS OF BULK AT MOST 1048576: true; the input reads as it did. -/
def joinSelfUptoRow : OpenClaim := { program := "ytnmglnglbdpjjaagreatdoor", sum := "d9622a01ab84d1471deaf3c0fa156744982df0c78ad17729a16b0a45b5c0a406", func := "cringle/cringlelaw05.JoinSelf", spec := "joinSelf", inPlace := ["internal/bytealg.CountString", "internal/bytealg.IndexByteString", "internal/bytealg.IndexString", "internal/abi.NoEscape", "internal/bytealg.MakeNoZero"], unfollowed := true, recurses := true, named := ["unicode/utf8.first", "unicode/utf8.acceptRanges", "internal/bytealg.MaxLen"], apart := false, laid := [("unicode/utf8.acceptRanges", laid_unicode_utf8_acceptRanges), ("unicode/utf8.first", laid_unicode_utf8_first)], narrowed := true }
def JoinSelfUptoSaid : Prop := joinSelfUptoRow.holds Tryz.pinned (OpenSpec.upto joinSelfSpec)

/-- 'cringlelaw05.JoinMay', WHERE WHAT IT READS IS OF BULK AT MOST 1048576: true; the input reads as it did. -/
def joinMayUptoRow : OpenClaim := { program := "ytnmglnglbdpjjaagreatdoor", sum := "d9622a01ab84d1471deaf3c0fa156744982df0c78ad17729a16b0a45b5c0a406", func := "cringle/cringlelaw05.JoinMay", spec := "joinMay", inPlace := ["internal/bytealg.CountString", "internal/bytealg.IndexByteString", "internal/bytealg.IndexString", "internal/abi.NoEscape", "internal/bytealg.MakeNoZero"], unfollowed := true, recurses := true, named := ["unicode/utf8.first", "unicode/utf8.acceptRanges", "internal/bytealg.MaxLen"], apart := false, laid := [("unicode/utf8.acceptRanges", laid_unicode_utf8_acceptRanges), ("unicode/utf8.first", laid_unicode_utf8_first)], narrowed := true }
def JoinMayUptoSaid : Prop := joinMayUptoRow.holds Tryz.pinned (OpenSpec.upto joinMaySpec)

/-- 'cringlelaw05.JoinKeyed', WHERE WHAT IT READS IS OF BULK AT MOST 1048576: true; the input reads as it did. -/
def joinKeyedUptoRow : OpenClaim := { program := "ytnmglnglbdpjjaagreatdoor", sum := "d9622a01ab84d1471deaf3c0fa156744982df0c78ad17729a16b0a45b5c0a406", func := "cringle/cringlelaw05.JoinKeyed", spec := "joinKeyed", inPlace := ["internal/bytealg.CountString", "internal/bytealg.IndexByteString", "internal/bytealg.IndexString", "internal/abi.NoEscape", "internal/bytealg.MakeNoZero"], unfollowed := true, recurses := true, named := ["unicode/utf8.first", "unicode/utf8.acceptRanges", "internal/bytealg.MaxLen"], apart := false, laid := [("unicode/utf8.acceptRanges", laid_unicode_utf8_acceptRanges), ("unicode/utf8.first", laid_unicode_utf8_first)], narrowed := true }
def JoinKeyedUptoSaid : Prop := joinKeyedUptoRow.holds Tryz.pinned (OpenSpec.upto joinKeyedSpec)

/-- 'cringlelaw05.JoinFollows', WHERE WHAT IT READS IS OF BULK AT MOST 1048576: true; the input reads as it did. -/
def joinFollowsUptoRow : OpenClaim := { program := "ytnmglnglbdpjjaagreatdoor", sum := "d9622a01ab84d1471deaf3c0fa156744982df0c78ad17729a16b0a45b5c0a406", func := "cringle/cringlelaw05.JoinFollows", spec := "joinFollows", inPlace := ["internal/bytealg.CountString", "internal/bytealg.IndexByteString", "internal/bytealg.IndexString", "internal/abi.NoEscape", "internal/bytealg.MakeNoZero"], unfollowed := true, recurses := true, named := ["unicode/utf8.first", "unicode/utf8.acceptRanges", "internal/bytealg.MaxLen"], apart := false, laid := [("unicode/utf8.acceptRanges", laid_unicode_utf8_acceptRanges), ("unicode/utf8.first", laid_unicode_utf8_first)], narrowed := true }
def JoinFollowsUptoSaid : Prop := joinFollowsUptoRow.holds Tryz.pinned (OpenSpec.upto joinFollowsSpec)

/-- 'cringlelaw05.JoinBack', WHERE WHAT IT READS IS OF BULK AT MOST 1048576: true; the input reads as it did. -/
def joinBackUptoRow : OpenClaim := { program := "ytnmglnglbdpjjaagreatdoor", sum := "d9622a01ab84d1471deaf3c0fa156744982df0c78ad17729a16b0a45b5c0a406", func := "cringle/cringlelaw05.JoinBack", spec := "joinBack", inPlace := ["internal/bytealg.CountString", "internal/bytealg.IndexByteString", "internal/bytealg.IndexString", "internal/abi.NoEscape", "internal/bytealg.MakeNoZero"], unfollowed := true, recurses := true, named := ["unicode/utf8.first", "unicode/utf8.acceptRanges", "internal/bytealg.MaxLen"], apart := false, laid := [("unicode/utf8.acceptRanges", laid_unicode_utf8_acceptRanges), ("unicode/utf8.first", laid_unicode_utf8_first)], narrowed := true }
def JoinBackUptoSaid : Prop := joinBackUptoRow.holds Tryz.pinned (OpenSpec.upto joinBackSpec)

/-- 'cringlelaw05.JoinKeys', WHERE WHAT IT READS IS OF BULK AT MOST 1048576: true; the input reads as it did. -/
def joinKeysUptoRow : OpenClaim := { program := "ytnmglnglbdpjjaagreatdoor", sum := "d9622a01ab84d1471deaf3c0fa156744982df0c78ad17729a16b0a45b5c0a406", func := "cringle/cringlelaw05.JoinKeys", spec := "joinKeys", inPlace := ["internal/bytealg.CountString", "internal/bytealg.IndexByteString", "internal/bytealg.IndexString", "internal/abi.NoEscape", "internal/bytealg.MakeNoZero"], unfollowed := true, recurses := true, named := ["unicode/utf8.first", "unicode/utf8.acceptRanges", "internal/bytealg.MaxLen"], apart := false, laid := [("unicode/utf8.acceptRanges", laid_unicode_utf8_acceptRanges), ("unicode/utf8.first", laid_unicode_utf8_first)], narrowed := true }
def JoinKeysUptoSaid : Prop := joinKeysUptoRow.holds Tryz.pinned (OpenSpec.upto joinKeysSpec)

end Rows
end Go.Proofs.YtnmglnglbdpjjaaGreatDoor
