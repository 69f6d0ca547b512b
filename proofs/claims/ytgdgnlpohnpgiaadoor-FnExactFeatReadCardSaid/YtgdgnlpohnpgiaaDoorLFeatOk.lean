/- Law: the program's FeatOk answers what the reference's answers, at any thing; its argument reads as before. -/
import Derived.Test.YtgdgnlpohnpgiaaDoorFe
namespace Go.Proofs.YtgdgnlpohnpgiaaDoor
open Go.RowKit Go.Proofs.YtgdgnlpohnpgiaaDoorW.PrintWords Go.Proofs.YtgdgnlpohnpgiaaDoorW.PrintLast
set_option linter.unusedVariables false
set_option linter.unusedSimpArgs false
theorem ftx_of {f : FeatD} (h : featSz f ≤ 1048576) : FTx f := by
  unfold featSz at h
  refine ⟨by omega, by omega, by omega, fun t ht => ?_⟩
  have := tagSz_mem ht
  unfold tagSz at this
  omega
end Go.Proofs.YtgdgnlpohnpgiaaDoor
