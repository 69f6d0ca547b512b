/-
  DERIVED. GIVEN WITH THE SEED: THE CARDS: each row of YtenpaemaiapapaaDoorRows.lean that lists a variable, with what it lists TIED to the program's text (the seventh form; the later family's looks); each row that meets fmt, with fmt's text TOLD by the authors' own Lean function (tested against real Go, not proved from fmt's source: count such statements apart). THE CARD IS WHAT COUNTS. Prove the row's statement (the work); the ties are given (YtenpaemaiapapaaDoorTie.lean); close each card by the builder's one call (the guide's Derived/Test/ToyasCard.lean, 'card_holds'). Laid BY PROGRAM, IN A SANDBOX (cutbox-door.mjs). By AI agents, Wed Nov 11 2026. No macro, syntax, notation, axiom, sorry.
-/
import Derived.Test.YtenpaemaiapapaaDoorRows
import GoSem.ClaimSeven
namespace Go.Proofs.YtenpaemaiapapaaDoor
namespace Rows

/-- THE TIED CARD OF 'laws.FnExactSheetRead'. -/
def fnExactSheetReadCard : Claim7 := { stood := { row := fnExactSheetReadRow, standIns := [], harness := (true, "5143dbdcbc7cc763e5f0fd301b1411526a09430c9cf1faf9e95d9876b0237646"), looks := true }, kinds := [], alts := [], laidByText := true, laidKinds := [.data, .data, .data, .data, .sentinel, .sentinel, .widerDeep, .pinned], laidTests := true, laidLooks := .later }
def FnExactSheetReadCardSaid : Prop := Claim7.holds Tryd.pinned (.plain (OpenSpec.ofChange fnExactSheetReadSpec)) fnExactSheetReadCard

/-- THE TIED CARD OF 'laws.FnExactShapeText'. -/
def fnExactShapeTextCard : Claim7 := { stood := { row := fnExactShapeTextRow, standIns := [], harness := (true, "5143dbdcbc7cc763e5f0fd301b1411526a09430c9cf1faf9e95d9876b0237646"), looks := true }, kinds := [], alts := [], laidByText := true, laidKinds := [.data, .data, .data, .widerDeep], laidTests := true, laidLooks := .later }
def FnExactShapeTextCardSaid : Prop := Claim7.holds Tryd.pinned (.plain (OpenSpec.ofChange fnExactShapeTextSpec)) fnExactShapeTextCard

/-- THE TIED CARD OF 'laws.FnShapeSame'. -/
def fnShapeSameCard : Claim7 := { stood := { row := fnShapeSameRow, standIns := [], harness := (true, "5143dbdcbc7cc763e5f0fd301b1411526a09430c9cf1faf9e95d9876b0237646"), looks := true }, kinds := [], alts := [], laidByText := true, laidKinds := [.data, .data, .data, .widerDeep], laidTests := true, laidLooks := .later }
def FnShapeSameCardSaid : Prop := Claim7.holds Tryd.pinned (.plain (OpenSpec.ofChange fnShapeSameSpec)) fnShapeSameCard

/-- THE TIED CARD OF 'laws.FnFeatSame'. -/
def fnFeatSameCard : Claim7 := { stood := { row := fnFeatSameRow, standIns := [], harness := (true, "5143dbdcbc7cc763e5f0fd301b1411526a09430c9cf1faf9e95d9876b0237646"), looks := true }, kinds := [], alts := [], laidByText := true, laidKinds := [.data, .data, .data, .widerDeep], laidTests := true, laidLooks := .later }
def FnFeatSameCardSaid : Prop := Claim7.holds Tryd.pinned (.plain (OpenSpec.ofChange fnFeatSameSpec)) fnFeatSameCard

/-- THE TIED CARD OF 'laws.FnExactFeatText'. -/
def fnExactFeatTextCard : Claim7 := { stood := { row := fnExactFeatTextRow, standIns := [], harness := (true, "5143dbdcbc7cc763e5f0fd301b1411526a09430c9cf1faf9e95d9876b0237646"), looks := true }, kinds := [], alts := [], laidByText := true, laidKinds := [.data, .data, .data, .widerDeep], laidTests := true, laidLooks := .later }
def FnExactFeatTextCardSaid : Prop := Claim7.holds Tryd.pinned (.plain (OpenSpec.ofChange fnExactFeatTextSpec)) fnExactFeatTextCard

/-- THE TIED CARD OF 'laws.FnExactSheetText'. -/
def fnExactSheetTextCard : Claim7 := { stood := { row := fnExactSheetTextRow, standIns := [], harness := (true, "5143dbdcbc7cc763e5f0fd301b1411526a09430c9cf1faf9e95d9876b0237646"), looks := true }, kinds := [], alts := [], laidByText := true, laidKinds := [.data, .data, .data, .widerDeep], laidTests := true, laidLooks := .later }
def FnExactSheetTextCardSaid : Prop := Claim7.holds Tryd.pinned (.plain (OpenSpec.ofChange fnExactSheetTextSpec)) fnExactSheetTextCard

/-- THE TIED CARD OF 'laws.FnExactShapeRead'. -/
def fnExactShapeReadCard : Claim7 := { stood := { row := fnExactShapeReadRow, standIns := [], harness := (true, "5143dbdcbc7cc763e5f0fd301b1411526a09430c9cf1faf9e95d9876b0237646"), looks := true }, kinds := [], alts := [], laidByText := true, laidKinds := [.data, .data, .data, .data, .sentinel, .sentinel, .widerDeep, .pinned], laidTests := true, laidLooks := .later }
def FnExactShapeReadCardSaid : Prop := Claim7.holds Tryd.pinned (.plain (OpenSpec.ofChange fnExactShapeReadSpec)) fnExactShapeReadCard

/-- THE TIED CARD OF 'laws.FnFeatWords'. -/
def fnFeatWordsCard : Claim7 := { stood := { row := fnFeatWordsRow, standIns := [], harness := (true, "5143dbdcbc7cc763e5f0fd301b1411526a09430c9cf1faf9e95d9876b0237646"), looks := true }, kinds := [], alts := [], laidByText := true, laidKinds := [.data, .data, .data, .data, .sentinel, .sentinel, .widerDeep, .pinned], laidTests := true, laidLooks := .later }
def FnFeatWordsCardSaid : Prop := Claim7.holds Tryd.pinned (.plain (OpenSpec.ofChange fnFeatWordsSpec)) fnFeatWordsCard

/-- THE TIED CARD OF 'laws.FnShape'. -/
def fnShapeCard : Claim7 := { stood := { row := fnShapeRow, standIns := [], harness := (true, "5143dbdcbc7cc763e5f0fd301b1411526a09430c9cf1faf9e95d9876b0237646"), looks := true }, kinds := [], alts := [], laidByText := true, laidKinds := [.data, .data, .data, .data, .sentinel, .sentinel, .widerDeep, .pinned], laidTests := true, laidLooks := .later }
def FnShapeCardSaid : Prop := Claim7.holds Tryd.pinned (.plain (OpenSpec.ofChange fnShapeSpec)) fnShapeCard

/-- THE TIED CARD OF 'laws.FnExactFeatRead'. -/
def fnExactFeatReadCard : Claim7 := { stood := { row := fnExactFeatReadRow, standIns := [], harness := (true, "5143dbdcbc7cc763e5f0fd301b1411526a09430c9cf1faf9e95d9876b0237646"), looks := true }, kinds := [], alts := [], laidByText := true, laidKinds := [.data, .data, .data, .data, .sentinel, .sentinel, .widerDeep, .pinned], laidTests := true, laidLooks := .later }
def FnExactFeatReadCardSaid : Prop := Claim7.holds Tryd.pinned (.plain (OpenSpec.ofChange fnExactFeatReadSpec)) fnExactFeatReadCard

/-- THE TIED CARD OF 'laws.FnFeatRead'. -/
def fnFeatReadCard : Claim7 := { stood := { row := fnFeatReadRow, standIns := [], harness := (true, "5143dbdcbc7cc763e5f0fd301b1411526a09430c9cf1faf9e95d9876b0237646"), looks := true }, kinds := [], alts := [], laidByText := true, laidKinds := [.data, .data, .data, .data, .sentinel, .sentinel, .widerDeep, .pinned], laidTests := true, laidLooks := .later }
def FnFeatReadCardSaid : Prop := Claim7.holds Tryd.pinned (.plain (OpenSpec.ofChange fnFeatReadSpec)) fnFeatReadCard

/-- THE SECOND FORM's CARD OF 'laws.FnExactSheetRead'. -/
def fnExactSheetReadUptoCard : Claim7 := { stood := { row := fnExactSheetReadUptoRow, standIns := [], harness := (true, "5143dbdcbc7cc763e5f0fd301b1411526a09430c9cf1faf9e95d9876b0237646"), looks := true }, kinds := [], alts := [], laidByText := true, laidKinds := [.data, .data, .data, .data, .sentinel, .sentinel, .widerDeep, .pinned], laidTests := true, laidLooks := .later }
def FnExactSheetReadUptoCardSaid : Prop := Claim7.holds Tryd.pinned (.plain (OpenSpec.upto fnExactSheetReadSpec)) fnExactSheetReadUptoCard

/-- THE SECOND FORM's CARD OF 'laws.FnExactShapeText'. -/
def fnExactShapeTextUptoCard : Claim7 := { stood := { row := fnExactShapeTextUptoRow, standIns := [], harness := (true, "5143dbdcbc7cc763e5f0fd301b1411526a09430c9cf1faf9e95d9876b0237646"), looks := true }, kinds := [], alts := [], laidByText := true, laidKinds := [.data, .data, .data, .widerDeep], laidTests := true, laidLooks := .later }
def FnExactShapeTextUptoCardSaid : Prop := Claim7.holds Tryd.pinned (.plain (OpenSpec.upto fnExactShapeTextSpec)) fnExactShapeTextUptoCard

/-- THE SECOND FORM's CARD OF 'laws.FnShapeSame'. -/
def fnShapeSameUptoCard : Claim7 := { stood := { row := fnShapeSameUptoRow, standIns := [], harness := (true, "5143dbdcbc7cc763e5f0fd301b1411526a09430c9cf1faf9e95d9876b0237646"), looks := true }, kinds := [], alts := [], laidByText := true, laidKinds := [.data, .data, .data, .widerDeep], laidTests := true, laidLooks := .later }
def FnShapeSameUptoCardSaid : Prop := Claim7.holds Tryd.pinned (.plain (OpenSpec.upto fnShapeSameSpec)) fnShapeSameUptoCard

/-- THE SECOND FORM's CARD OF 'laws.FnFeatSame'. -/
def fnFeatSameUptoCard : Claim7 := { stood := { row := fnFeatSameUptoRow, standIns := [], harness := (true, "5143dbdcbc7cc763e5f0fd301b1411526a09430c9cf1faf9e95d9876b0237646"), looks := true }, kinds := [], alts := [], laidByText := true, laidKinds := [.data, .data, .data, .widerDeep], laidTests := true, laidLooks := .later }
def FnFeatSameUptoCardSaid : Prop := Claim7.holds Tryd.pinned (.plain (OpenSpec.upto fnFeatSameSpec)) fnFeatSameUptoCard

/-- THE SECOND FORM's CARD OF 'laws.FnExactFeatText'. -/
def fnExactFeatTextUptoCard : Claim7 := { stood := { row := fnExactFeatTextUptoRow, standIns := [], harness := (true, "5143dbdcbc7cc763e5f0fd301b1411526a09430c9cf1faf9e95d9876b0237646"), looks := true }, kinds := [], alts := [], laidByText := true, laidKinds := [.data, .data, .data, .widerDeep], laidTests := true, laidLooks := .later }
def FnExactFeatTextUptoCardSaid : Prop := Claim7.holds Tryd.pinned (.plain (OpenSpec.upto fnExactFeatTextSpec)) fnExactFeatTextUptoCard

/-- THE SECOND FORM's CARD OF 'laws.FnExactSheetText'. -/
def fnExactSheetTextUptoCard : Claim7 := { stood := { row := fnExactSheetTextUptoRow, standIns := [], harness := (true, "5143dbdcbc7cc763e5f0fd301b1411526a09430c9cf1faf9e95d9876b0237646"), looks := true }, kinds := [], alts := [], laidByText := true, laidKinds := [.data, .data, .data, .widerDeep], laidTests := true, laidLooks := .later }
def FnExactSheetTextUptoCardSaid : Prop := Claim7.holds Tryd.pinned (.plain (OpenSpec.upto fnExactSheetTextSpec)) fnExactSheetTextUptoCard

/-- THE SECOND FORM's CARD OF 'laws.FnExactShapeRead'. -/
def fnExactShapeReadUptoCard : Claim7 := { stood := { row := fnExactShapeReadUptoRow, standIns := [], harness := (true, "5143dbdcbc7cc763e5f0fd301b1411526a09430c9cf1faf9e95d9876b0237646"), looks := true }, kinds := [], alts := [], laidByText := true, laidKinds := [.data, .data, .data, .data, .sentinel, .sentinel, .widerDeep, .pinned], laidTests := true, laidLooks := .later }
def FnExactShapeReadUptoCardSaid : Prop := Claim7.holds Tryd.pinned (.plain (OpenSpec.upto fnExactShapeReadSpec)) fnExactShapeReadUptoCard

/-- THE SECOND FORM's CARD OF 'laws.FnFeatWords'. -/
def fnFeatWordsUptoCard : Claim7 := { stood := { row := fnFeatWordsUptoRow, standIns := [], harness := (true, "5143dbdcbc7cc763e5f0fd301b1411526a09430c9cf1faf9e95d9876b0237646"), looks := true }, kinds := [], alts := [], laidByText := true, laidKinds := [.data, .data, .data, .data, .sentinel, .sentinel, .widerDeep, .pinned], laidTests := true, laidLooks := .later }
def FnFeatWordsUptoCardSaid : Prop := Claim7.holds Tryd.pinned (.plain (OpenSpec.upto fnFeatWordsSpec)) fnFeatWordsUptoCard

/-- THE SECOND FORM's CARD OF 'laws.FnShape'. -/
def fnShapeUptoCard : Claim7 := { stood := { row := fnShapeUptoRow, standIns := [], harness := (true, "5143dbdcbc7cc763e5f0fd301b1411526a09430c9cf1faf9e95d9876b0237646"), looks := true }, kinds := [], alts := [], laidByText := true, laidKinds := [.data, .data, .data, .data, .sentinel, .sentinel, .widerDeep, .pinned], laidTests := true, laidLooks := .later }
def FnShapeUptoCardSaid : Prop := Claim7.holds Tryd.pinned (.plain (OpenSpec.upto fnShapeSpec)) fnShapeUptoCard

/-- THE SECOND FORM's CARD OF 'laws.FnExactFeatRead'. -/
def fnExactFeatReadUptoCard : Claim7 := { stood := { row := fnExactFeatReadUptoRow, standIns := [], harness := (true, "5143dbdcbc7cc763e5f0fd301b1411526a09430c9cf1faf9e95d9876b0237646"), looks := true }, kinds := [], alts := [], laidByText := true, laidKinds := [.data, .data, .data, .data, .sentinel, .sentinel, .widerDeep, .pinned], laidTests := true, laidLooks := .later }
def FnExactFeatReadUptoCardSaid : Prop := Claim7.holds Tryd.pinned (.plain (OpenSpec.upto fnExactFeatReadSpec)) fnExactFeatReadUptoCard

/-- THE SECOND FORM's CARD OF 'laws.FnFeatRead'. -/
def fnFeatReadUptoCard : Claim7 := { stood := { row := fnFeatReadUptoRow, standIns := [], harness := (true, "5143dbdcbc7cc763e5f0fd301b1411526a09430c9cf1faf9e95d9876b0237646"), looks := true }, kinds := [], alts := [], laidByText := true, laidKinds := [.data, .data, .data, .data, .sentinel, .sentinel, .widerDeep, .pinned], laidTests := true, laidLooks := .later }
def FnFeatReadUptoCardSaid : Prop := Claim7.holds Tryd.pinned (.plain (OpenSpec.upto fnFeatReadSpec)) fnFeatReadUptoCard
end Rows
end Go.Proofs.YtenpaemaiapapaaDoor
