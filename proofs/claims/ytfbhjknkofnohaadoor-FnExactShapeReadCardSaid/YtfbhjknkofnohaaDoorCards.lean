/-
  DERIVED. GIVEN WITH THE SEED: THE CARDS: each row of YtfbhjknkofnohaaDoorRows.lean that lists a variable, with what it lists TIED to the program's text (the seventh form; the later family's looks); each row that meets fmt, with fmt's text TOLD by the authors' own Lean function (tested against real Go, not proved from fmt's source: count such statements apart). THE CARD IS WHAT COUNTS. Prove the row's statement (the work); the ties are given (YtfbhjknkofnohaaDoorTie.lean); close each card by the builder's one call (the guide's Derived/Test/ToyasCard.lean, 'card_holds'). Laid BY PROGRAM, IN A SANDBOX (cutbox-door.mjs). By AI agents, Wed Nov 11 2026. No macro, syntax, notation, axiom, sorry.
-/
import Derived.Test.YtfbhjknkofnohaaDoorRows
import GoSem.ClaimSeven
namespace Go.Proofs.YtfbhjknkofnohaaDoor
namespace Rows

/-- THE TIED CARD OF 'laws.FnExactSheetRead'. -/
def fnExactSheetReadCard : Claim7 := { stood := { row := fnExactSheetReadRow, standIns := [], harness := (true, "eca173d89854a59429dfb2d0ae8bf2a7cc46474f1804a66809a5a72f2eb4a59a"), looks := true }, kinds := [], alts := [], laidByText := true, laidKinds := [.data, .data, .data, .data, .sentinel, .sentinel, .widerDeep, .pinned], laidTests := true, laidLooks := .later }
def FnExactSheetReadCardSaid : Prop := Claim7.holds Tryd.pinned (.plain (OpenSpec.ofChange fnExactSheetReadSpec)) fnExactSheetReadCard

/-- THE TIED CARD OF 'laws.FnExactShapeRead'. -/
def fnExactShapeReadCard : Claim7 := { stood := { row := fnExactShapeReadRow, standIns := [], harness := (true, "eca173d89854a59429dfb2d0ae8bf2a7cc46474f1804a66809a5a72f2eb4a59a"), looks := true }, kinds := [], alts := [], laidByText := true, laidKinds := [.data, .data, .data, .data, .sentinel, .sentinel, .widerDeep, .pinned], laidTests := true, laidLooks := .later }
def FnExactShapeReadCardSaid : Prop := Claim7.holds Tryd.pinned (.plain (OpenSpec.ofChange fnExactShapeReadSpec)) fnExactShapeReadCard

/-- THE TIED CARD OF 'laws.FnShape'. -/
def fnShapeCard : Claim7 := { stood := { row := fnShapeRow, standIns := [], harness := (true, "eca173d89854a59429dfb2d0ae8bf2a7cc46474f1804a66809a5a72f2eb4a59a"), looks := true }, kinds := [], alts := [], laidByText := true, laidKinds := [.data, .data, .data, .data, .sentinel, .sentinel, .widerDeep, .pinned], laidTests := true, laidLooks := .later }
def FnShapeCardSaid : Prop := Claim7.holds Tryd.pinned (.plain (OpenSpec.ofChange fnShapeSpec)) fnShapeCard

/-- THE SECOND FORM's CARD OF 'laws.FnExactSheetRead'. -/
def fnExactSheetReadUptoCard : Claim7 := { stood := { row := fnExactSheetReadUptoRow, standIns := [], harness := (true, "eca173d89854a59429dfb2d0ae8bf2a7cc46474f1804a66809a5a72f2eb4a59a"), looks := true }, kinds := [], alts := [], laidByText := true, laidKinds := [.data, .data, .data, .data, .sentinel, .sentinel, .widerDeep, .pinned], laidTests := true, laidLooks := .later }
def FnExactSheetReadUptoCardSaid : Prop := Claim7.holds Tryd.pinned (.plain (OpenSpec.upto fnExactSheetReadSpec)) fnExactSheetReadUptoCard

/-- THE SECOND FORM's CARD OF 'laws.FnExactShapeRead'. -/
def fnExactShapeReadUptoCard : Claim7 := { stood := { row := fnExactShapeReadUptoRow, standIns := [], harness := (true, "eca173d89854a59429dfb2d0ae8bf2a7cc46474f1804a66809a5a72f2eb4a59a"), looks := true }, kinds := [], alts := [], laidByText := true, laidKinds := [.data, .data, .data, .data, .sentinel, .sentinel, .widerDeep, .pinned], laidTests := true, laidLooks := .later }
def FnExactShapeReadUptoCardSaid : Prop := Claim7.holds Tryd.pinned (.plain (OpenSpec.upto fnExactShapeReadSpec)) fnExactShapeReadUptoCard

/-- THE SECOND FORM's CARD OF 'laws.FnShape'. -/
def fnShapeUptoCard : Claim7 := { stood := { row := fnShapeUptoRow, standIns := [], harness := (true, "eca173d89854a59429dfb2d0ae8bf2a7cc46474f1804a66809a5a72f2eb4a59a"), looks := true }, kinds := [], alts := [], laidByText := true, laidKinds := [.data, .data, .data, .data, .sentinel, .sentinel, .widerDeep, .pinned], laidTests := true, laidLooks := .later }
def FnShapeUptoCardSaid : Prop := Claim7.holds Tryd.pinned (.plain (OpenSpec.upto fnShapeSpec)) fnShapeUptoCard
end Rows
end Go.Proofs.YtfbhjknkofnohaaDoor
