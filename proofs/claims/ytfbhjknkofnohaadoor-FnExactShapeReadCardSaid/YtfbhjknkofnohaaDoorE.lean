/- Contracts: boxes. -/
import Derived.Test.YtfbhjknkofnohaaDoorB
import Derived.Test.YtfbhjknkofnohaaDoorM
import Derived.Test.YtfbhjknkofnohaaDoorQ
namespace Go.Proofs.YtfbhjknkofnohaaDoor
open Go.RowKit Go.Proofs.YtfbhjknkofnohaaDoorW.PrintWords Go.Proofs.YtfbhjknkofnohaaDoorW.PrintLast
set_option linter.unusedVariables false
set_option linter.unusedSimpArgs false
attribute [local go_sem] cell_set_far min_if max_if
theorem l1Min_c (a b : Int) (w : World) : Calls Tryd.prog 80 #[.int .i64 a, .int .i64 b] w fun e w' => e = .returned (.int .i64 (min a b)) ∧ Below w.heap.size w w' := by
  by_cases h : a < b
  all_goals
    go_enter Tryd.func80, Tryd.ntmps80
    go_wp2
    go_ret
    exact ⟨ret_int (by omega), bl⟩
end Go.Proofs.YtfbhjknkofnohaaDoor
