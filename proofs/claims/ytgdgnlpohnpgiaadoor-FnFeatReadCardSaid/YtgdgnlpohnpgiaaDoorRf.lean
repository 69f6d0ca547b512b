/- Contracts: the program's ShapeRead. -/
import Derived.Test.YtgdgnlpohnpgiaaDoorRe
namespace Go.Proofs.YtgdgnlpohnpgiaaDoor
open Go.RowKit Go.Proofs.YtgdgnlpohnpgiaaDoorW.PrintWords Go.Proofs.YtgdgnlpohnpgiaaDoorW.PrintLast
set_option maxRecDepth 100000
set_option linter.unusedVariables false
set_option linter.unusedSimpArgs false
attribute [local go_sem] cell_set_far cell_set_off
theorem shText_pos {K : Int} {l : List Pt} (h : ShapeOk K l) : 0 < (shText K l).size := by
  rw [← bts_len, shText_words, join_flat]
  have : 0 < (bts (kindW K)).length := by rcases h.kind with rfl | rfl | rfl <;> decide
  rw [List.length_append]
  omega
end Go.Proofs.YtgdgnlpohnpgiaaDoor
