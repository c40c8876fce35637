/-
  DERIVED. GIVEN WITH THE SEED: THE CARDS: each row of YtnlembpmcbnpnaaGreatDoorRows.lean that lists a variable, with what it lists TIED to the program's text (the seventh form; the later family's looks); each row that meets fmt, with fmt's text TOLD by the authors' own Lean function (tested against real Go, not proved from fmt's source: count such statements apart). THE CARD IS WHAT COUNTS. Prove the row's statement (the work); the ties are given (YtnlembpmcbnpnaaGreatDoorTie.lean); close each card by the builder's one call (the guide's Derived/Test/ToyasCard.lean, 'card_holds'). Laid BY PROGRAM, IN A SANDBOX (cutbox-door.mjs). By AI agents, Wed Nov 11 2026. No macro, syntax, notation, axiom, sorry.
-/
import Derived.Test.YtnlembpmcbnpnaaGreatDoorRows
import GoSem.ClaimSeven
namespace Go.Proofs.YtnlembpmcbnpnaaGreatDoor
namespace Rows

/-- THE TIED CARD OF 'laws.FnExactUnpackRecord'. -/
def fnExactUnpackRecordCard : Claim7 := { stood := { row := fnExactUnpackRecordRow, standIns := [], harness := (true, "4e4f27f5dd98a0e95343c9b733676513ca8c7a04121fb0ae117975fc6eed78f0"), looks := true }, kinds := [], alts := [], laidByText := true, laidKinds := [.data, .data, .data, .sentinel, .sentinel], laidTests := true, laidLooks := .later }
def FnExactUnpackRecordCardSaid : Prop := Claim7.holds Tryz.pinned (.plain (OpenSpec.ofChange fnExactUnpackRecordSpec)) fnExactUnpackRecordCard

/-- THE TIED CARD OF 'laws.FnFinal'. -/
def fnFinalCard : Claim7 := { stood := { row := fnFinalRow, standIns := [], harness := (true, "4e4f27f5dd98a0e95343c9b733676513ca8c7a04121fb0ae117975fc6eed78f0"), looks := true }, kinds := [], alts := [], laidByText := true, laidKinds := [.data, .data, .data, .sentinel, .sentinel], laidTests := true, laidLooks := .later }
def FnFinalCardSaid : Prop := Claim7.holds Tryz.pinned (.plain (OpenSpec.ofChange fnFinalSpec)) fnFinalCard

/-- THE TIED CARD OF 'laws.FnExactReplay'. -/
def fnExactReplayCard : Claim7 := { stood := { row := fnExactReplayRow, standIns := [], harness := (true, "4e4f27f5dd98a0e95343c9b733676513ca8c7a04121fb0ae117975fc6eed78f0"), looks := true }, kinds := [], alts := [], laidByText := true, laidKinds := [.data, .data, .data, .sentinel, .sentinel], laidTests := true, laidLooks := .later }
def FnExactReplayCardSaid : Prop := Claim7.holds Tryz.pinned (.plain (OpenSpec.ofChange fnExactReplaySpec)) fnExactReplayCard

/-- THE SECOND FORM's CARD OF 'laws.FnExactUnpackRecord'. -/
def fnExactUnpackRecordUptoCard : Claim7 := { stood := { row := fnExactUnpackRecordUptoRow, standIns := [], harness := (true, "4e4f27f5dd98a0e95343c9b733676513ca8c7a04121fb0ae117975fc6eed78f0"), looks := true }, kinds := [], alts := [], laidByText := true, laidKinds := [.data, .data, .data, .sentinel, .sentinel], laidTests := true, laidLooks := .later }
def FnExactUnpackRecordUptoCardSaid : Prop := Claim7.holds Tryz.pinned (.plain (OpenSpec.upto fnExactUnpackRecordSpec)) fnExactUnpackRecordUptoCard

/-- THE SECOND FORM's CARD OF 'laws.FnFinal'. -/
def fnFinalUptoCard : Claim7 := { stood := { row := fnFinalUptoRow, standIns := [], harness := (true, "4e4f27f5dd98a0e95343c9b733676513ca8c7a04121fb0ae117975fc6eed78f0"), looks := true }, kinds := [], alts := [], laidByText := true, laidKinds := [.data, .data, .data, .sentinel, .sentinel], laidTests := true, laidLooks := .later }
def FnFinalUptoCardSaid : Prop := Claim7.holds Tryz.pinned (.plain (OpenSpec.upto fnFinalSpec)) fnFinalUptoCard

/-- THE SECOND FORM's CARD OF 'laws.FnExactReplay'. -/
def fnExactReplayUptoCard : Claim7 := { stood := { row := fnExactReplayUptoRow, standIns := [], harness := (true, "4e4f27f5dd98a0e95343c9b733676513ca8c7a04121fb0ae117975fc6eed78f0"), looks := true }, kinds := [], alts := [], laidByText := true, laidKinds := [.data, .data, .data, .sentinel, .sentinel], laidTests := true, laidLooks := .later }
def FnExactReplayUptoCardSaid : Prop := Claim7.holds Tryz.pinned (.plain (OpenSpec.upto fnExactReplaySpec)) fnExactReplayUptoCard
end Rows
end Go.Proofs.YtnlembpmcbnpnaaGreatDoor
