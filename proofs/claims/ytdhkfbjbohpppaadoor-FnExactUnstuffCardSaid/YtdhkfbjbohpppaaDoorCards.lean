/-
  DERIVED. GIVEN WITH THE SEED: THE CARDS: each row of YtdhkfbjbohpppaaDoorRows.lean that lists a variable, with what it lists TIED to the program's text (the seventh form; the later family's looks); each row that meets fmt, with fmt's text TOLD by the authors' own Lean function (tested against real Go, not proved from fmt's source: count such statements apart). THE CARD IS WHAT COUNTS. Prove the row's statement (the work); the ties are given (YtdhkfbjbohpppaaDoorTie.lean); close each card by the builder's one call (the guide's Derived/Test/ToyasCard.lean, 'card_holds'). Laid BY PROGRAM, IN A SANDBOX (cutbox-door.mjs). By AI agents, Wed Nov 11 2026. No macro, syntax, notation, axiom, sorry.
-/
import Derived.Test.YtdhkfbjbohpppaaDoorRows
import GoSem.ClaimSeven
namespace Go.Proofs.YtdhkfbjbohpppaaDoor
namespace Rows

/-- THE TIED CARD OF 'laws.FnExactValidDomain'. -/
def fnExactValidDomainCard : Claim7 := { stood := { row := fnExactValidDomainRow, standIns := [], harness := (true, "7cdb360ebcec73258ebd7084415426944a75f4c7585ea13634f9268bdb653a25"), looks := true }, kinds := [], alts := [], laidByText := true, laidKinds := [.data, .pinned], laidTests := true, laidLooks := .later }
def FnExactValidDomainCardSaid : Prop := Claim7.holds Tryd.pinned (.plain (OpenSpec.ofChange fnExactValidDomainSpec)) fnExactValidDomainCard

/-- THE TIED CARD OF 'laws.FnExactValidAddress'. -/
def fnExactValidAddressCard : Claim7 := { stood := { row := fnExactValidAddressRow, standIns := [], harness := (true, "7cdb360ebcec73258ebd7084415426944a75f4c7585ea13634f9268bdb653a25"), looks := true }, kinds := [], alts := [], laidByText := true, laidKinds := [.data, .pinned], laidTests := true, laidLooks := .later }
def FnExactValidAddressCardSaid : Prop := Claim7.holds Tryd.pinned (.plain (OpenSpec.ofChange fnExactValidAddressSpec)) fnExactValidAddressCard

/-- THE TIED CARD OF 'laws.FnExactCommand'. -/
def fnExactCommandCard : Claim7 := { stood := { row := fnExactCommandRow, standIns := [], harness := (true, "7cdb360ebcec73258ebd7084415426944a75f4c7585ea13634f9268bdb653a25"), looks := true }, kinds := [], alts := [], laidByText := true, laidKinds := [.data, .pinned], laidTests := true, laidLooks := .later }
def FnExactCommandCardSaid : Prop := Claim7.holds Tryd.pinned (.plain (OpenSpec.ofChange fnExactCommandSpec)) fnExactCommandCard

/-- THE TIED CARD OF 'laws.FnExactValidBody'. -/
def fnExactValidBodyCard : Claim7 := { stood := { row := fnExactValidBodyRow, standIns := [], harness := (true, "7cdb360ebcec73258ebd7084415426944a75f4c7585ea13634f9268bdb653a25"), looks := true }, kinds := [], alts := [], laidByText := true, laidKinds := [.data, .pinned], laidTests := true, laidLooks := .later }
def FnExactValidBodyCardSaid : Prop := Claim7.holds Tryd.pinned (.plain (OpenSpec.ofChange fnExactValidBodySpec)) fnExactValidBodyCard

/-- THE TIED CARD OF 'laws.FnExactHeaders'. -/
def fnExactHeadersCard : Claim7 := { stood := { row := fnExactHeadersRow, standIns := [], harness := (true, "7cdb360ebcec73258ebd7084415426944a75f4c7585ea13634f9268bdb653a25"), looks := true }, kinds := [], alts := [], laidByText := true, laidKinds := [.data, .pinned], laidTests := true, laidLooks := .later }
def FnExactHeadersCardSaid : Prop := Claim7.holds Tryd.pinned (.plain (OpenSpec.ofChange fnExactHeadersSpec)) fnExactHeadersCard

/-- THE TIED CARD OF 'laws.FnExactStuff'. -/
def fnExactStuffCard : Claim7 := { stood := { row := fnExactStuffRow, standIns := [], harness := (true, "7cdb360ebcec73258ebd7084415426944a75f4c7585ea13634f9268bdb653a25"), looks := true }, kinds := [], alts := [], laidByText := true, laidKinds := [.data, .pinned], laidTests := true, laidLooks := .later }
def FnExactStuffCardSaid : Prop := Claim7.holds Tryd.pinned (.plain (OpenSpec.ofChange fnExactStuffSpec)) fnExactStuffCard

/-- THE TIED CARD OF 'laws.FnExactUnstuff'. -/
def fnExactUnstuffCard : Claim7 := { stood := { row := fnExactUnstuffRow, standIns := [], harness := (true, "7cdb360ebcec73258ebd7084415426944a75f4c7585ea13634f9268bdb653a25"), looks := true }, kinds := [], alts := [], laidByText := true, laidKinds := [.data, .pinned], laidTests := true, laidLooks := .later }
def FnExactUnstuffCardSaid : Prop := Claim7.holds Tryd.pinned (.plain (OpenSpec.ofChange fnExactUnstuffSpec)) fnExactUnstuffCard

/-- THE TIED CARD OF 'laws.FnBodies'. -/
def fnBodiesCard : Claim7 := { stood := { row := fnBodiesRow, standIns := [], harness := (true, "7cdb360ebcec73258ebd7084415426944a75f4c7585ea13634f9268bdb653a25"), looks := true }, kinds := [], alts := [], laidByText := true, laidKinds := [.data, .pinned], laidTests := true, laidLooks := .later }
def FnBodiesCardSaid : Prop := Claim7.holds Tryd.pinned (.plain (OpenSpec.ofChange fnBodiesSpec)) fnBodiesCard

/-- THE TIED CARD OF 'laws.FnExactSizeLimit'. -/
def fnExactSizeLimitCard : Claim7 := { stood := { row := fnExactSizeLimitRow, standIns := [], harness := (true, "7cdb360ebcec73258ebd7084415426944a75f4c7585ea13634f9268bdb653a25"), looks := true }, kinds := [], alts := [], laidByText := true, laidKinds := [.data, .data, .data, .data, .sentinel, .sentinel, .data, .data, .pinned, .pinned], laidTests := true, laidLooks := .later }
def FnExactSizeLimitCardSaid : Prop := Claim7.holds Tryd.pinned (.plain (OpenSpec.ofChange fnExactSizeLimitSpec)) fnExactSizeLimitCard

/-- THE TIED CARD OF 'laws.FnExactOpen'. -/
def fnExactOpenCard : Claim7 := { stood := { row := fnExactOpenRow, standIns := [], harness := (true, "7cdb360ebcec73258ebd7084415426944a75f4c7585ea13634f9268bdb653a25"), looks := true }, kinds := [], alts := [], laidByText := true, laidKinds := [.data, .pinned], laidTests := true, laidLooks := .later }
def FnExactOpenCardSaid : Prop := Claim7.holds Tryd.pinned (.plain (OpenSpec.ofChange fnExactOpenSpec)) fnExactOpenCard

/-- THE TIED CARD OF 'laws.FnExactProper'. -/
def fnExactProperCard : Claim7 := { stood := { row := fnExactProperRow, standIns := [], harness := (true, "7cdb360ebcec73258ebd7084415426944a75f4c7585ea13634f9268bdb653a25"), looks := true }, kinds := [], alts := [], laidByText := true, laidKinds := [.data, .pinned], laidTests := true, laidLooks := .later }
def FnExactProperCardSaid : Prop := Claim7.holds Tryd.pinned (.plain (OpenSpec.ofChange fnExactProperSpec)) fnExactProperCard

/-- THE TIED CARD OF 'laws.FnExactParseReply'. -/
def fnExactParseReplyCard : Claim7 := { stood := { row := fnExactParseReplyRow, standIns := [], harness := (true, "7cdb360ebcec73258ebd7084415426944a75f4c7585ea13634f9268bdb653a25"), looks := true }, kinds := [], alts := [], laidByText := true, laidKinds := [.data, .data, .data, .sentinel, .sentinel], laidTests := true, laidLooks := .later }
def FnExactParseReplyCardSaid : Prop := Claim7.holds Tryd.pinned (.plain (OpenSpec.ofChange fnExactParseReplySpec)) fnExactParseReplyCard

/-- THE TIED CARD OF 'laws.FnParts'. -/
def fnPartsCard : Claim7 := { stood := { row := fnPartsRow, standIns := [], harness := (true, "7cdb360ebcec73258ebd7084415426944a75f4c7585ea13634f9268bdb653a25"), looks := true }, kinds := [], alts := [], laidByText := true, laidKinds := [.data, .data, .data, .sentinel, .sentinel], laidTests := true, laidLooks := .later }
def FnPartsCardSaid : Prop := Claim7.holds Tryd.pinned (.plain (OpenSpec.ofChange fnPartsSpec)) fnPartsCard

/-- THE TIED CARD OF 'laws.FnExactMakeBounce'. -/
def fnExactMakeBounceCard : Claim7 := { stood := { row := fnExactMakeBounceRow, standIns := [], harness := (true, "7cdb360ebcec73258ebd7084415426944a75f4c7585ea13634f9268bdb653a25"), looks := true }, kinds := [], alts := [], laidByText := true, laidKinds := [.data, .data, .data, .data, .pinned], laidTests := true, laidLooks := .later }
def FnExactMakeBounceCardSaid : Prop := Claim7.holds Tryd.pinned (.plain (OpenSpec.ofChange fnExactMakeBounceSpec)) fnExactMakeBounceCard

/-- THE SECOND FORM's CARD OF 'laws.FnExactValidDomain'. -/
def fnExactValidDomainUptoCard : Claim7 := { stood := { row := fnExactValidDomainUptoRow, standIns := [], harness := (true, "7cdb360ebcec73258ebd7084415426944a75f4c7585ea13634f9268bdb653a25"), looks := true }, kinds := [], alts := [], laidByText := true, laidKinds := [.data, .pinned], laidTests := true, laidLooks := .later }
def FnExactValidDomainUptoCardSaid : Prop := Claim7.holds Tryd.pinned (.plain (OpenSpec.upto fnExactValidDomainSpec)) fnExactValidDomainUptoCard

/-- THE SECOND FORM's CARD OF 'laws.FnExactValidAddress'. -/
def fnExactValidAddressUptoCard : Claim7 := { stood := { row := fnExactValidAddressUptoRow, standIns := [], harness := (true, "7cdb360ebcec73258ebd7084415426944a75f4c7585ea13634f9268bdb653a25"), looks := true }, kinds := [], alts := [], laidByText := true, laidKinds := [.data, .pinned], laidTests := true, laidLooks := .later }
def FnExactValidAddressUptoCardSaid : Prop := Claim7.holds Tryd.pinned (.plain (OpenSpec.upto fnExactValidAddressSpec)) fnExactValidAddressUptoCard

/-- THE SECOND FORM's CARD OF 'laws.FnExactCommand'. -/
def fnExactCommandUptoCard : Claim7 := { stood := { row := fnExactCommandUptoRow, standIns := [], harness := (true, "7cdb360ebcec73258ebd7084415426944a75f4c7585ea13634f9268bdb653a25"), looks := true }, kinds := [], alts := [], laidByText := true, laidKinds := [.data, .pinned], laidTests := true, laidLooks := .later }
def FnExactCommandUptoCardSaid : Prop := Claim7.holds Tryd.pinned (.plain (OpenSpec.upto fnExactCommandSpec)) fnExactCommandUptoCard

/-- THE SECOND FORM's CARD OF 'laws.FnExactValidBody'. -/
def fnExactValidBodyUptoCard : Claim7 := { stood := { row := fnExactValidBodyUptoRow, standIns := [], harness := (true, "7cdb360ebcec73258ebd7084415426944a75f4c7585ea13634f9268bdb653a25"), looks := true }, kinds := [], alts := [], laidByText := true, laidKinds := [.data, .pinned], laidTests := true, laidLooks := .later }
def FnExactValidBodyUptoCardSaid : Prop := Claim7.holds Tryd.pinned (.plain (OpenSpec.upto fnExactValidBodySpec)) fnExactValidBodyUptoCard

/-- THE SECOND FORM's CARD OF 'laws.FnExactHeaders'. -/
def fnExactHeadersUptoCard : Claim7 := { stood := { row := fnExactHeadersUptoRow, standIns := [], harness := (true, "7cdb360ebcec73258ebd7084415426944a75f4c7585ea13634f9268bdb653a25"), looks := true }, kinds := [], alts := [], laidByText := true, laidKinds := [.data, .pinned], laidTests := true, laidLooks := .later }
def FnExactHeadersUptoCardSaid : Prop := Claim7.holds Tryd.pinned (.plain (OpenSpec.upto fnExactHeadersSpec)) fnExactHeadersUptoCard

/-- THE SECOND FORM's CARD OF 'laws.FnExactStuff'. -/
def fnExactStuffUptoCard : Claim7 := { stood := { row := fnExactStuffUptoRow, standIns := [], harness := (true, "7cdb360ebcec73258ebd7084415426944a75f4c7585ea13634f9268bdb653a25"), looks := true }, kinds := [], alts := [], laidByText := true, laidKinds := [.data, .pinned], laidTests := true, laidLooks := .later }
def FnExactStuffUptoCardSaid : Prop := Claim7.holds Tryd.pinned (.plain (OpenSpec.upto fnExactStuffSpec)) fnExactStuffUptoCard

/-- THE SECOND FORM's CARD OF 'laws.FnExactUnstuff'. -/
def fnExactUnstuffUptoCard : Claim7 := { stood := { row := fnExactUnstuffUptoRow, standIns := [], harness := (true, "7cdb360ebcec73258ebd7084415426944a75f4c7585ea13634f9268bdb653a25"), looks := true }, kinds := [], alts := [], laidByText := true, laidKinds := [.data, .pinned], laidTests := true, laidLooks := .later }
def FnExactUnstuffUptoCardSaid : Prop := Claim7.holds Tryd.pinned (.plain (OpenSpec.upto fnExactUnstuffSpec)) fnExactUnstuffUptoCard

/-- THE SECOND FORM's CARD OF 'laws.FnBodies'. -/
def fnBodiesUptoCard : Claim7 := { stood := { row := fnBodiesUptoRow, standIns := [], harness := (true, "7cdb360ebcec73258ebd7084415426944a75f4c7585ea13634f9268bdb653a25"), looks := true }, kinds := [], alts := [], laidByText := true, laidKinds := [.data, .pinned], laidTests := true, laidLooks := .later }
def FnBodiesUptoCardSaid : Prop := Claim7.holds Tryd.pinned (.plain (OpenSpec.upto fnBodiesSpec)) fnBodiesUptoCard

/-- THE SECOND FORM's CARD OF 'laws.FnExactSizeLimit'. -/
def fnExactSizeLimitUptoCard : Claim7 := { stood := { row := fnExactSizeLimitUptoRow, standIns := [], harness := (true, "7cdb360ebcec73258ebd7084415426944a75f4c7585ea13634f9268bdb653a25"), looks := true }, kinds := [], alts := [], laidByText := true, laidKinds := [.data, .data, .data, .data, .sentinel, .sentinel, .data, .data, .pinned, .pinned], laidTests := true, laidLooks := .later }
def FnExactSizeLimitUptoCardSaid : Prop := Claim7.holds Tryd.pinned (.plain (OpenSpec.upto fnExactSizeLimitSpec)) fnExactSizeLimitUptoCard

/-- THE SECOND FORM's CARD OF 'laws.FnExactOpen'. -/
def fnExactOpenUptoCard : Claim7 := { stood := { row := fnExactOpenUptoRow, standIns := [], harness := (true, "7cdb360ebcec73258ebd7084415426944a75f4c7585ea13634f9268bdb653a25"), looks := true }, kinds := [], alts := [], laidByText := true, laidKinds := [.data, .pinned], laidTests := true, laidLooks := .later }
def FnExactOpenUptoCardSaid : Prop := Claim7.holds Tryd.pinned (.plain (OpenSpec.upto fnExactOpenSpec)) fnExactOpenUptoCard

/-- THE SECOND FORM's CARD OF 'laws.FnExactProper'. -/
def fnExactProperUptoCard : Claim7 := { stood := { row := fnExactProperUptoRow, standIns := [], harness := (true, "7cdb360ebcec73258ebd7084415426944a75f4c7585ea13634f9268bdb653a25"), looks := true }, kinds := [], alts := [], laidByText := true, laidKinds := [.data, .pinned], laidTests := true, laidLooks := .later }
def FnExactProperUptoCardSaid : Prop := Claim7.holds Tryd.pinned (.plain (OpenSpec.upto fnExactProperSpec)) fnExactProperUptoCard

/-- THE SECOND FORM's CARD OF 'laws.FnExactParseReply'. -/
def fnExactParseReplyUptoCard : Claim7 := { stood := { row := fnExactParseReplyUptoRow, standIns := [], harness := (true, "7cdb360ebcec73258ebd7084415426944a75f4c7585ea13634f9268bdb653a25"), looks := true }, kinds := [], alts := [], laidByText := true, laidKinds := [.data, .data, .data, .sentinel, .sentinel], laidTests := true, laidLooks := .later }
def FnExactParseReplyUptoCardSaid : Prop := Claim7.holds Tryd.pinned (.plain (OpenSpec.upto fnExactParseReplySpec)) fnExactParseReplyUptoCard

/-- THE SECOND FORM's CARD OF 'laws.FnParts'. -/
def fnPartsUptoCard : Claim7 := { stood := { row := fnPartsUptoRow, standIns := [], harness := (true, "7cdb360ebcec73258ebd7084415426944a75f4c7585ea13634f9268bdb653a25"), looks := true }, kinds := [], alts := [], laidByText := true, laidKinds := [.data, .data, .data, .sentinel, .sentinel], laidTests := true, laidLooks := .later }
def FnPartsUptoCardSaid : Prop := Claim7.holds Tryd.pinned (.plain (OpenSpec.upto fnPartsSpec)) fnPartsUptoCard

/-- THE SECOND FORM's CARD OF 'laws.FnExactMakeBounce'. -/
def fnExactMakeBounceUptoCard : Claim7 := { stood := { row := fnExactMakeBounceUptoRow, standIns := [], harness := (true, "7cdb360ebcec73258ebd7084415426944a75f4c7585ea13634f9268bdb653a25"), looks := true }, kinds := [], alts := [], laidByText := true, laidKinds := [.data, .data, .data, .data, .pinned], laidTests := true, laidLooks := .later }
def FnExactMakeBounceUptoCardSaid : Prop := Claim7.holds Tryd.pinned (.plain (OpenSpec.upto fnExactMakeBounceSpec)) fnExactMakeBounceUptoCard
end Rows
end Go.Proofs.YtdhkfbjbohpppaaDoor
