/-
  DERIVED. GIVEN WITH THE SEED: THE CARDS: each row of YtnhhbdhkhdbanaaDoorRows.lean that lists a variable, with what it lists TIED to the program's text (the seventh form; the later family's looks); each row that meets fmt, with fmt's text TOLD by the authors' own Lean function (tested against real Go, not proved from fmt's source: count such statements apart). THE CARD IS WHAT COUNTS. Prove the row's statement (the work); the ties are given (YtnhhbdhkhdbanaaDoorTie.lean); close each card by the builder's one call (the guide's Derived/Test/ToyasCard.lean, 'card_holds'). Laid BY PROGRAM, IN A SANDBOX (cutbox-door.mjs). By AI agents, Wed Nov 11 2026. No macro, syntax, notation, axiom, sorry.
-/
import Derived.Test.YtnhhbdhkhdbanaaDoorRows
import GoSem.ClaimSeven
namespace Go.Proofs.YtnhhbdhkhdbanaaDoor
namespace Rows

/-- THE TIED CARD OF 'laws.FnBodies'. -/
def fnBodiesCard : Claim7 := { stood := { row := fnBodiesRow, standIns := [], harness := (true, "d58e11a26aa26c10d085f1a868e0e8166d6bf3e06591f4f4f95f412261ce4559"), looks := true }, kinds := [], alts := [], laidByText := true, laidKinds := [.data, .pinned], laidTests := true, laidLooks := .later }
def FnBodiesCardSaid : Prop := Claim7.holds Tryd.pinned (.plain (OpenSpec.ofChange fnBodiesSpec)) fnBodiesCard

/-- THE TIED CARD OF 'laws.FnExactSizeLimit'. -/
def fnExactSizeLimitCard : Claim7 := { stood := { row := fnExactSizeLimitRow, standIns := [], harness := (true, "d58e11a26aa26c10d085f1a868e0e8166d6bf3e06591f4f4f95f412261ce4559"), looks := true }, kinds := [], alts := [], laidByText := true, laidKinds := [.data, .data, .data, .data, .sentinel, .sentinel, .data, .data, .pinned, .pinned], laidTests := true, laidLooks := .later }
def FnExactSizeLimitCardSaid : Prop := Claim7.holds Tryd.pinned (.plain (OpenSpec.ofChange fnExactSizeLimitSpec)) fnExactSizeLimitCard

/-- THE TIED CARD OF 'laws.FnExactOpen'. -/
def fnExactOpenCard : Claim7 := { stood := { row := fnExactOpenRow, standIns := [], harness := (true, "d58e11a26aa26c10d085f1a868e0e8166d6bf3e06591f4f4f95f412261ce4559"), looks := true }, kinds := [], alts := [], laidByText := true, laidKinds := [.data, .pinned], laidTests := true, laidLooks := .later }
def FnExactOpenCardSaid : Prop := Claim7.holds Tryd.pinned (.plain (OpenSpec.ofChange fnExactOpenSpec)) fnExactOpenCard

/-- THE TIED CARD OF 'laws.FnExactProper'. -/
def fnExactProperCard : Claim7 := { stood := { row := fnExactProperRow, standIns := [], harness := (true, "d58e11a26aa26c10d085f1a868e0e8166d6bf3e06591f4f4f95f412261ce4559"), looks := true }, kinds := [], alts := [], laidByText := true, laidKinds := [.data, .pinned], laidTests := true, laidLooks := .later }
def FnExactProperCardSaid : Prop := Claim7.holds Tryd.pinned (.plain (OpenSpec.ofChange fnExactProperSpec)) fnExactProperCard

/-- THE TIED CARD OF 'laws.FnExactParseReply'. -/
def fnExactParseReplyCard : Claim7 := { stood := { row := fnExactParseReplyRow, standIns := [], harness := (true, "d58e11a26aa26c10d085f1a868e0e8166d6bf3e06591f4f4f95f412261ce4559"), looks := true }, kinds := [], alts := [], laidByText := true, laidKinds := [.data, .data, .data, .sentinel, .sentinel], laidTests := true, laidLooks := .later }
def FnExactParseReplyCardSaid : Prop := Claim7.holds Tryd.pinned (.plain (OpenSpec.ofChange fnExactParseReplySpec)) fnExactParseReplyCard

/-- THE TIED CARD OF 'laws.FnParts'. -/
def fnPartsCard : Claim7 := { stood := { row := fnPartsRow, standIns := [], harness := (true, "d58e11a26aa26c10d085f1a868e0e8166d6bf3e06591f4f4f95f412261ce4559"), looks := true }, kinds := [], alts := [], laidByText := true, laidKinds := [.data, .data, .data, .sentinel, .sentinel], laidTests := true, laidLooks := .later }
def FnPartsCardSaid : Prop := Claim7.holds Tryd.pinned (.plain (OpenSpec.ofChange fnPartsSpec)) fnPartsCard

/-- THE TIED CARD OF 'laws.FnExactMakeBounce'. -/
def fnExactMakeBounceCard : Claim7 := { stood := { row := fnExactMakeBounceRow, standIns := [], harness := (true, "d58e11a26aa26c10d085f1a868e0e8166d6bf3e06591f4f4f95f412261ce4559"), looks := true }, kinds := [], alts := [], laidByText := true, laidKinds := [.data, .data, .data, .data, .pinned], laidTests := true, laidLooks := .later }
def FnExactMakeBounceCardSaid : Prop := Claim7.holds Tryd.pinned (.plain (OpenSpec.ofChange fnExactMakeBounceSpec)) fnExactMakeBounceCard

/-- THE SECOND FORM's CARD OF 'laws.FnBodies'. -/
def fnBodiesUptoCard : Claim7 := { stood := { row := fnBodiesUptoRow, standIns := [], harness := (true, "d58e11a26aa26c10d085f1a868e0e8166d6bf3e06591f4f4f95f412261ce4559"), looks := true }, kinds := [], alts := [], laidByText := true, laidKinds := [.data, .pinned], laidTests := true, laidLooks := .later }
def FnBodiesUptoCardSaid : Prop := Claim7.holds Tryd.pinned (.plain (OpenSpec.upto fnBodiesSpec)) fnBodiesUptoCard

/-- THE SECOND FORM's CARD OF 'laws.FnExactSizeLimit'. -/
def fnExactSizeLimitUptoCard : Claim7 := { stood := { row := fnExactSizeLimitUptoRow, standIns := [], harness := (true, "d58e11a26aa26c10d085f1a868e0e8166d6bf3e06591f4f4f95f412261ce4559"), looks := true }, kinds := [], alts := [], laidByText := true, laidKinds := [.data, .data, .data, .data, .sentinel, .sentinel, .data, .data, .pinned, .pinned], laidTests := true, laidLooks := .later }
def FnExactSizeLimitUptoCardSaid : Prop := Claim7.holds Tryd.pinned (.plain (OpenSpec.upto fnExactSizeLimitSpec)) fnExactSizeLimitUptoCard

/-- THE SECOND FORM's CARD OF 'laws.FnExactOpen'. -/
def fnExactOpenUptoCard : Claim7 := { stood := { row := fnExactOpenUptoRow, standIns := [], harness := (true, "d58e11a26aa26c10d085f1a868e0e8166d6bf3e06591f4f4f95f412261ce4559"), looks := true }, kinds := [], alts := [], laidByText := true, laidKinds := [.data, .pinned], laidTests := true, laidLooks := .later }
def FnExactOpenUptoCardSaid : Prop := Claim7.holds Tryd.pinned (.plain (OpenSpec.upto fnExactOpenSpec)) fnExactOpenUptoCard

/-- THE SECOND FORM's CARD OF 'laws.FnExactProper'. -/
def fnExactProperUptoCard : Claim7 := { stood := { row := fnExactProperUptoRow, standIns := [], harness := (true, "d58e11a26aa26c10d085f1a868e0e8166d6bf3e06591f4f4f95f412261ce4559"), looks := true }, kinds := [], alts := [], laidByText := true, laidKinds := [.data, .pinned], laidTests := true, laidLooks := .later }
def FnExactProperUptoCardSaid : Prop := Claim7.holds Tryd.pinned (.plain (OpenSpec.upto fnExactProperSpec)) fnExactProperUptoCard

/-- THE SECOND FORM's CARD OF 'laws.FnExactParseReply'. -/
def fnExactParseReplyUptoCard : Claim7 := { stood := { row := fnExactParseReplyUptoRow, standIns := [], harness := (true, "d58e11a26aa26c10d085f1a868e0e8166d6bf3e06591f4f4f95f412261ce4559"), looks := true }, kinds := [], alts := [], laidByText := true, laidKinds := [.data, .data, .data, .sentinel, .sentinel], laidTests := true, laidLooks := .later }
def FnExactParseReplyUptoCardSaid : Prop := Claim7.holds Tryd.pinned (.plain (OpenSpec.upto fnExactParseReplySpec)) fnExactParseReplyUptoCard

/-- THE SECOND FORM's CARD OF 'laws.FnParts'. -/
def fnPartsUptoCard : Claim7 := { stood := { row := fnPartsUptoRow, standIns := [], harness := (true, "d58e11a26aa26c10d085f1a868e0e8166d6bf3e06591f4f4f95f412261ce4559"), looks := true }, kinds := [], alts := [], laidByText := true, laidKinds := [.data, .data, .data, .sentinel, .sentinel], laidTests := true, laidLooks := .later }
def FnPartsUptoCardSaid : Prop := Claim7.holds Tryd.pinned (.plain (OpenSpec.upto fnPartsSpec)) fnPartsUptoCard

/-- THE SECOND FORM's CARD OF 'laws.FnExactMakeBounce'. -/
def fnExactMakeBounceUptoCard : Claim7 := { stood := { row := fnExactMakeBounceUptoRow, standIns := [], harness := (true, "d58e11a26aa26c10d085f1a868e0e8166d6bf3e06591f4f4f95f412261ce4559"), looks := true }, kinds := [], alts := [], laidByText := true, laidKinds := [.data, .data, .data, .data, .pinned], laidTests := true, laidLooks := .later }
def FnExactMakeBounceUptoCardSaid : Prop := Claim7.holds Tryd.pinned (.plain (OpenSpec.upto fnExactMakeBounceSpec)) fnExactMakeBounceUptoCard
end Rows
end Go.Proofs.YtnhhbdhkhdbanaaDoor
