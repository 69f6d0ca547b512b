/-
  DERIVED. GIVEN WITH THE SEED: THE CARDS: each row of YtgdgnlpohnpgiaaGreatDoorRows.lean that lists a variable, with what it lists TIED to the program's text (the seventh form; the later family's looks); each row that meets fmt, with fmt's text TOLD by the authors' own Lean function (tested against real Go, not proved from fmt's source: count such statements apart). THE CARD IS WHAT COUNTS. Prove the row's statement (the work); the ties are given (YtgdgnlpohnpgiaaGreatDoorTie.lean); close each card by the builder's one call (the guide's Derived/Test/ToyasCard.lean, 'card_holds'). Laid BY PROGRAM, IN A SANDBOX (cutbox-door.mjs). By AI agents, Wed Nov 11 2026. No macro, syntax, notation, axiom, sorry.
-/
import Derived.Test.YtgdgnlpohnpgiaaGreatDoorRows
import GoSem.ClaimSeven
namespace Go.Proofs.YtgdgnlpohnpgiaaGreatDoor
namespace Rows

/-- THE TIED CARD OF 'laws.FnFeat'. -/
def fnFeatCard : Claim7 := { stood := { row := fnFeatRow, standIns := [], harness := (true, "6cbb748b50d210b562571160bcbfd51c35773e6a2bae44380d9a5d760c5b5a8f"), looks := true }, kinds := [], alts := [], laidByText := true, laidKinds := [.data, .data, .data, .data, .sentinel, .sentinel, .widerDeep, .pinned], laidTests := true, laidLooks := .later }
def FnFeatCardSaid : Prop := Claim7.holds Tryz.pinned (.plain (OpenSpec.ofChange fnFeatSpec)) fnFeatCard

/-- THE TIED CARD OF 'laws.FnSheet'. -/
def fnSheetCard : Claim7 := { stood := { row := fnSheetRow, standIns := [], harness := (true, "6cbb748b50d210b562571160bcbfd51c35773e6a2bae44380d9a5d760c5b5a8f"), looks := true }, kinds := [], alts := [], laidByText := true, laidKinds := [.data, .data, .data, .data, .sentinel, .sentinel, .widerDeep, .pinned], laidTests := true, laidLooks := .later }
def FnSheetCardSaid : Prop := Claim7.holds Tryz.pinned (.plain (OpenSpec.ofChange fnSheetSpec)) fnSheetCard

/-- THE TIED CARD OF 'laws.FnSheetLines'. -/
def fnSheetLinesCard : Claim7 := { stood := { row := fnSheetLinesRow, standIns := [], harness := (true, "6cbb748b50d210b562571160bcbfd51c35773e6a2bae44380d9a5d760c5b5a8f"), looks := true }, kinds := [], alts := [], laidByText := true, laidKinds := [.data, .data, .data, .data, .sentinel, .sentinel, .widerDeep, .pinned], laidTests := true, laidLooks := .later }
def FnSheetLinesCardSaid : Prop := Claim7.holds Tryz.pinned (.plain (OpenSpec.ofChange fnSheetLinesSpec)) fnSheetLinesCard

/-- THE SECOND FORM's CARD OF 'laws.FnFeat'. -/
def fnFeatUptoCard : Claim7 := { stood := { row := fnFeatUptoRow, standIns := [], harness := (true, "6cbb748b50d210b562571160bcbfd51c35773e6a2bae44380d9a5d760c5b5a8f"), looks := true }, kinds := [], alts := [], laidByText := true, laidKinds := [.data, .data, .data, .data, .sentinel, .sentinel, .widerDeep, .pinned], laidTests := true, laidLooks := .later }
def FnFeatUptoCardSaid : Prop := Claim7.holds Tryz.pinned (.plain (OpenSpec.upto fnFeatSpec)) fnFeatUptoCard

/-- THE SECOND FORM's CARD OF 'laws.FnSheet'. -/
def fnSheetUptoCard : Claim7 := { stood := { row := fnSheetUptoRow, standIns := [], harness := (true, "6cbb748b50d210b562571160bcbfd51c35773e6a2bae44380d9a5d760c5b5a8f"), looks := true }, kinds := [], alts := [], laidByText := true, laidKinds := [.data, .data, .data, .data, .sentinel, .sentinel, .widerDeep, .pinned], laidTests := true, laidLooks := .later }
def FnSheetUptoCardSaid : Prop := Claim7.holds Tryz.pinned (.plain (OpenSpec.upto fnSheetSpec)) fnSheetUptoCard

/-- THE SECOND FORM's CARD OF 'laws.FnSheetLines'. -/
def fnSheetLinesUptoCard : Claim7 := { stood := { row := fnSheetLinesUptoRow, standIns := [], harness := (true, "6cbb748b50d210b562571160bcbfd51c35773e6a2bae44380d9a5d760c5b5a8f"), looks := true }, kinds := [], alts := [], laidByText := true, laidKinds := [.data, .data, .data, .data, .sentinel, .sentinel, .widerDeep, .pinned], laidTests := true, laidLooks := .later }
def FnSheetLinesUptoCardSaid : Prop := Claim7.holds Tryz.pinned (.plain (OpenSpec.upto fnSheetLinesSpec)) fnSheetLinesUptoCard
end Rows
end Go.Proofs.YtgdgnlpohnpgiaaGreatDoor
