/- Contracts: boxes. -/
import Derived.Test.YtgdgnlpohnpgiaaGreatDoorB
import Derived.Test.YtgdgnlpohnpgiaaGreatDoorM
import Derived.Test.YtgdgnlpohnpgiaaGreatDoorQ
namespace Go.Proofs.YtgdgnlpohnpgiaaGreatDoor
open Go.RowKit Go.Proofs.YtgdgnlpohnpgiaaGreatDoorW.PrintWords Go.Proofs.YtgdgnlpohnpgiaaGreatDoorW.PrintLast
set_option linter.unusedVariables false
set_option linter.unusedSimpArgs false
attribute [local go_sem] cell_set_far min_if max_if
theorem l1Min_c (a b : Int) (w : World) : Calls Tryz.prog 92 #[.int .i64 a, .int .i64 b] w fun e w' => e = .returned (.int .i64 (min a b)) ∧ Below w.heap.size w w' := by
  by_cases h : a < b
  all_goals
    go_enter Tryz.func92, Tryz.ntmps92
    go_wp2
    go_ret
    exact ⟨ret_int (by omega), bl⟩
end Go.Proofs.YtgdgnlpohnpgiaaGreatDoor
