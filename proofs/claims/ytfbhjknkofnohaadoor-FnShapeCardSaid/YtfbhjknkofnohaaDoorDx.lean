/- Contracts: what is drawn: a thing, one in ten bent. -/
import Derived.Test.YtfbhjknkofnohaaDoorDw
namespace Go.Proofs.YtfbhjknkofnohaaDoor
open Go.RowKit Go.Proofs.YtfbhjknkofnohaaDoorW.PrintWords Go.Proofs.YtfbhjknkofnohaaDoorW.PrintLast
set_option maxRecDepth 100000
set_option linter.unusedVariables false
set_option linter.unusedSimpArgs false
attribute [local go_sem] cell_set_far cell_set_off
end Go.Proofs.YtfbhjknkofnohaaDoor
