/-
  DERIVED. GIVEN WITH THE SEED: THE CARDS: each row of YtgdgnlpohnpgiaaDoorRows.lean that lists a variable, with what it lists TIED to the program's text (the seventh form; the later family's looks); each row that meets fmt, with fmt's text TOLD by the authors' own Lean function (tested against real Go, not proved from fmt's source: count such statements apart). THE CARD IS WHAT COUNTS. Prove the row's statement (the work); the ties are given (YtgdgnlpohnpgiaaDoorTie.lean); close each card by the builder's one call (the guide's Derived/Test/ToyasCard.lean, 'card_holds'). Laid BY PROGRAM, IN A SANDBOX (cutbox-door.mjs). By AI agents, Wed Nov 11 2026. No macro, syntax, notation, axiom, sorry.
-/
import Derived.Test.YtgdgnlpohnpgiaaDoorRows
import GoSem.ClaimSeven
namespace Go.Proofs.YtgdgnlpohnpgiaaDoor
namespace Rows

/-- THE TIED CARD OF 'laws.FnExactSheetRead'. -/
def fnExactSheetReadCard : Claim7 := { stood := { row := fnExactSheetReadRow, standIns := [], harness := (true, "5e804d511fb73a7ebd9c04cce992219f3ce2b5a95ed4d72c13e1fbf85d8cb51a"), looks := true }, kinds := [], alts := [], laidByText := true, laidKinds := [.data, .data, .data, .data, .sentinel, .sentinel, .widerDeep, .pinned], laidTests := true, laidLooks := .later }
def FnExactSheetReadCardSaid : Prop := Claim7.holds Tryd.pinned (.plain (OpenSpec.ofChange fnExactSheetReadSpec)) fnExactSheetReadCard

/-- THE TIED CARD OF 'laws.FnFeatWords'. -/
def fnFeatWordsCard : Claim7 := { stood := { row := fnFeatWordsRow, standIns := [], harness := (true, "5e804d511fb73a7ebd9c04cce992219f3ce2b5a95ed4d72c13e1fbf85d8cb51a"), looks := true }, kinds := [], alts := [], laidByText := true, laidKinds := [.data, .data, .data, .data, .sentinel, .sentinel, .widerDeep, .pinned], laidTests := true, laidLooks := .later }
def FnFeatWordsCardSaid : Prop := Claim7.holds Tryd.pinned (.plain (OpenSpec.ofChange fnFeatWordsSpec)) fnFeatWordsCard

/-- THE TIED CARD OF 'laws.FnExactFeatRead'. -/
def fnExactFeatReadCard : Claim7 := { stood := { row := fnExactFeatReadRow, standIns := [], harness := (true, "5e804d511fb73a7ebd9c04cce992219f3ce2b5a95ed4d72c13e1fbf85d8cb51a"), looks := true }, kinds := [], alts := [], laidByText := true, laidKinds := [.data, .data, .data, .data, .sentinel, .sentinel, .widerDeep, .pinned], laidTests := true, laidLooks := .later }
def FnExactFeatReadCardSaid : Prop := Claim7.holds Tryd.pinned (.plain (OpenSpec.ofChange fnExactFeatReadSpec)) fnExactFeatReadCard

/-- THE TIED CARD OF 'laws.FnFeatRead'. -/
def fnFeatReadCard : Claim7 := { stood := { row := fnFeatReadRow, standIns := [], harness := (true, "5e804d511fb73a7ebd9c04cce992219f3ce2b5a95ed4d72c13e1fbf85d8cb51a"), looks := true }, kinds := [], alts := [], laidByText := true, laidKinds := [.data, .data, .data, .data, .sentinel, .sentinel, .widerDeep, .pinned], laidTests := true, laidLooks := .later }
def FnFeatReadCardSaid : Prop := Claim7.holds Tryd.pinned (.plain (OpenSpec.ofChange fnFeatReadSpec)) fnFeatReadCard

/-- THE SECOND FORM's CARD OF 'laws.FnExactSheetRead'. -/
def fnExactSheetReadUptoCard : Claim7 := { stood := { row := fnExactSheetReadUptoRow, standIns := [], harness := (true, "5e804d511fb73a7ebd9c04cce992219f3ce2b5a95ed4d72c13e1fbf85d8cb51a"), looks := true }, kinds := [], alts := [], laidByText := true, laidKinds := [.data, .data, .data, .data, .sentinel, .sentinel, .widerDeep, .pinned], laidTests := true, laidLooks := .later }
def FnExactSheetReadUptoCardSaid : Prop := Claim7.holds Tryd.pinned (.plain (OpenSpec.upto fnExactSheetReadSpec)) fnExactSheetReadUptoCard

/-- THE SECOND FORM's CARD OF 'laws.FnFeatWords'. -/
def fnFeatWordsUptoCard : Claim7 := { stood := { row := fnFeatWordsUptoRow, standIns := [], harness := (true, "5e804d511fb73a7ebd9c04cce992219f3ce2b5a95ed4d72c13e1fbf85d8cb51a"), looks := true }, kinds := [], alts := [], laidByText := true, laidKinds := [.data, .data, .data, .data, .sentinel, .sentinel, .widerDeep, .pinned], laidTests := true, laidLooks := .later }
def FnFeatWordsUptoCardSaid : Prop := Claim7.holds Tryd.pinned (.plain (OpenSpec.upto fnFeatWordsSpec)) fnFeatWordsUptoCard

/-- THE SECOND FORM's CARD OF 'laws.FnExactFeatRead'. -/
def fnExactFeatReadUptoCard : Claim7 := { stood := { row := fnExactFeatReadUptoRow, standIns := [], harness := (true, "5e804d511fb73a7ebd9c04cce992219f3ce2b5a95ed4d72c13e1fbf85d8cb51a"), looks := true }, kinds := [], alts := [], laidByText := true, laidKinds := [.data, .data, .data, .data, .sentinel, .sentinel, .widerDeep, .pinned], laidTests := true, laidLooks := .later }
def FnExactFeatReadUptoCardSaid : Prop := Claim7.holds Tryd.pinned (.plain (OpenSpec.upto fnExactFeatReadSpec)) fnExactFeatReadUptoCard

/-- THE SECOND FORM's CARD OF 'laws.FnFeatRead'. -/
def fnFeatReadUptoCard : Claim7 := { stood := { row := fnFeatReadUptoRow, standIns := [], harness := (true, "5e804d511fb73a7ebd9c04cce992219f3ce2b5a95ed4d72c13e1fbf85d8cb51a"), looks := true }, kinds := [], alts := [], laidByText := true, laidKinds := [.data, .data, .data, .data, .sentinel, .sentinel, .widerDeep, .pinned], laidTests := true, laidLooks := .later }
def FnFeatReadUptoCardSaid : Prop := Claim7.holds Tryd.pinned (.plain (OpenSpec.upto fnFeatReadSpec)) fnFeatReadUptoCard
end Rows
end Go.Proofs.YtgdgnlpohnpgiaaDoor
