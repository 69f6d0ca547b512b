/-
  DERIVED. GIVEN WITH THE SEED: THE CARDS: each row of YtlipjhmcgdmhlaaDoorRows.lean that lists a variable, with what it lists TIED to the program's text (the seventh form; the later family's looks); each row that meets fmt, with fmt's text TOLD by the authors' own Lean function (tested against real Go, not proved from fmt's source: count such statements apart). THE CARD IS WHAT COUNTS. Prove the row's statement (the work); the ties are given (YtlipjhmcgdmhlaaDoorTie.lean); close each card by the builder's one call (the guide's Derived/Test/ToyasCard.lean, 'card_holds'). Laid BY PROGRAM, IN A SANDBOX (cutbox-door.mjs). By AI agents, Wed Nov 11 2026. No macro, syntax, notation, axiom, sorry.
-/
import Derived.Test.YtlipjhmcgdmhlaaDoorRows
import GoSem.ClaimSeven
namespace Go.Proofs.YtlipjhmcgdmhlaaDoor
namespace Rows

/-- THE TIED CARD OF 'laws.FnShapeBent'. -/
def fnShapeBentCard : Claim7 := { stood := { row := fnShapeBentRow, standIns := [], harness := (true, "b8d8babb6baf10d60ebac4c3d46fc29194c06fa285315410bb89f91c00926998"), looks := false }, kinds := [], alts := [], laidByText := true, laidKinds := [.data, .data, .data, .widerDeep], laidTests := true, laidLooks := .later }
def FnShapeBentCardSaid : Prop := Claim7.holds Tryd.pinned (.plain (OpenSpec.ofChange fnShapeBentSpec)) fnShapeBentCard

/-- THE TIED CARD OF 'laws.FnFeatBent'. -/
def fnFeatBentCard : Claim7 := { stood := { row := fnFeatBentRow, standIns := [], harness := (true, "b8d8babb6baf10d60ebac4c3d46fc29194c06fa285315410bb89f91c00926998"), looks := false }, kinds := [], alts := [], laidByText := true, laidKinds := [.data, .data, .data, .widerDeep], laidTests := true, laidLooks := .later }
def FnFeatBentCardSaid : Prop := Claim7.holds Tryd.pinned (.plain (OpenSpec.ofChange fnFeatBentSpec)) fnFeatBentCard

/-- THE TIED CARD OF 'laws.FnSheetBent'. -/
def fnSheetBentCard : Claim7 := { stood := { row := fnSheetBentRow, standIns := [], harness := (true, "b8d8babb6baf10d60ebac4c3d46fc29194c06fa285315410bb89f91c00926998"), looks := false }, kinds := [], alts := [], laidByText := true, laidKinds := [.data, .data, .data, .widerDeep], laidTests := true, laidLooks := .later }
def FnSheetBentCardSaid : Prop := Claim7.holds Tryd.pinned (.plain (OpenSpec.ofChange fnSheetBentSpec)) fnSheetBentCard

/-- THE SECOND FORM's CARD OF 'laws.FnShapeBent'. -/
def fnShapeBentUptoCard : Claim7 := { stood := { row := fnShapeBentUptoRow, standIns := [], harness := (true, "b8d8babb6baf10d60ebac4c3d46fc29194c06fa285315410bb89f91c00926998"), looks := false }, kinds := [], alts := [], laidByText := true, laidKinds := [.data, .data, .data, .widerDeep], laidTests := true, laidLooks := .later }
def FnShapeBentUptoCardSaid : Prop := Claim7.holds Tryd.pinned (.plain (OpenSpec.upto fnShapeBentSpec)) fnShapeBentUptoCard

/-- THE SECOND FORM's CARD OF 'laws.FnFeatBent'. -/
def fnFeatBentUptoCard : Claim7 := { stood := { row := fnFeatBentUptoRow, standIns := [], harness := (true, "b8d8babb6baf10d60ebac4c3d46fc29194c06fa285315410bb89f91c00926998"), looks := false }, kinds := [], alts := [], laidByText := true, laidKinds := [.data, .data, .data, .widerDeep], laidTests := true, laidLooks := .later }
def FnFeatBentUptoCardSaid : Prop := Claim7.holds Tryd.pinned (.plain (OpenSpec.upto fnFeatBentSpec)) fnFeatBentUptoCard

/-- THE SECOND FORM's CARD OF 'laws.FnSheetBent'. -/
def fnSheetBentUptoCard : Claim7 := { stood := { row := fnSheetBentUptoRow, standIns := [], harness := (true, "b8d8babb6baf10d60ebac4c3d46fc29194c06fa285315410bb89f91c00926998"), looks := false }, kinds := [], alts := [], laidByText := true, laidKinds := [.data, .data, .data, .widerDeep], laidTests := true, laidLooks := .later }
def FnSheetBentUptoCardSaid : Prop := Claim7.holds Tryd.pinned (.plain (OpenSpec.upto fnSheetBentSpec)) fnSheetBentUptoCard
end Rows
end Go.Proofs.YtlipjhmcgdmhlaaDoor
