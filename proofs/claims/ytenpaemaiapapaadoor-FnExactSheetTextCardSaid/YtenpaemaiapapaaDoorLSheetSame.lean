/- Law: the program's SheetSame answers what the reference's answers, at any two maps; its arguments read as before. -/
import Derived.Test.YtenpaemaiapapaaDoorSa
import Derived.Test.YtenpaemaiapapaaDoorOf
import Derived.Test.YtenpaemaiapapaaDoorLFeatOk
namespace Go.Proofs.YtenpaemaiapapaaDoor
open Go.RowKit Go.Proofs.YtenpaemaiapapaaDoorW.PrintWords Go.Proofs.YtenpaemaiapapaaDoorW.PrintLast
set_option linter.unusedVariables false
set_option linter.unusedSimpArgs false
def sheetSz (l : List FeatD) : Nat := l.length + featsSz l
theorem ftxs_of {l : List FeatD} (h : sheetSz l ≤ 1048576) : ∀ f ∈ l, FTx f := fun f hf => ftx_of (by have := featSz_mem hf; unfold sheetSz at h; omega)
theorem few_of {l : List FeatD} (h : sheetSz l ≤ 1048576) : Few l := ⟨by unfold sheetSz at h; omega, fun f hf => ⟨(ftxs_of h f hf).pts, (ftxs_of h f hf).tags⟩⟩
theorem RI.len {α : Type} {d : Kd α} {e : Nat} {W : World} {lo hi : Nat} {A : Option Addr} {n c : Nat} {xs : List α} (h : RI d e W lo hi (.slice A n c) xs) : n ≤ c := h.rd.2.1
end Go.Proofs.YtenpaemaiapapaaDoor
