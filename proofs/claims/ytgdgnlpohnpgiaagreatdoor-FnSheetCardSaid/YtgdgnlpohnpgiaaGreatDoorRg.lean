/- Contracts: a drawn text of a shape, one in two torn. -/
import Derived.Test.YtgdgnlpohnpgiaaGreatDoorRa
import Derived.Test.YtgdgnlpohnpgiaaGreatDoorDu
import Derived.Test.YtgdgnlpohnpgiaaGreatDoorDw
namespace Go.Proofs.YtgdgnlpohnpgiaaGreatDoor
open Go.RowKit Go.Proofs.YtgdgnlpohnpgiaaGreatDoorW.PrintWords Go.Proofs.YtgdgnlpohnpgiaaGreatDoorW.PrintLast
set_option maxRecDepth 100000
set_option linter.unusedVariables false
set_option linter.unusedSimpArgs false
attribute [local go_sem] cell_set_far cell_set_off
theorem shapeT_76 (K : Int) (l : List Pt) : (shapeT K l).size ≤ 76 := by
  by_cases h : ShapeOk K l
  · rw [show shapeT K l = shText K l from if_pos h]
    exact shText_76 h
  · rw [show shapeT K l = ⟨#[]⟩ from if_neg h]
    decide
/-- A drawn text. -/
def CText (n : Nat) (w : World) (e : Ending) (w' : World) : Prop := ∃ s : ByteArray, e = .returned (.string s) ∧ s.size ≤ n ∧ Below w.heap.size w w'
end Go.Proofs.YtgdgnlpohnpgiaaGreatDoor
