/- Facts of the whole program that every row of this seat asks for: proved once. -/
import Derived.Test.YtfbhjknkofnohaaDoorRows
import Derived.Test.YtfbhjknkofnohaaDoorProg
import Derived.ProofKit
import Derived.OpenShut
import Derived.SizedLaws
namespace Go.Proofs.YtfbhjknkofnohaaDoor.RowKd
theorem and_i {a b : Bool} (h1 : a = true) (h2 : b = true) : (a && b) = true := by rw [h1, h2]; rfl
theorem mayEnter : Tryd.pinned.checked.prog.mayEnter = true := by kernel_rfl
theorem lifts : (Rows.fnExactSheetReadRow.lifted == Tryd.pinned.checked.prog.liftsFinal) = true := by kernel_rfl
theorem make : (Tryd.pinned.checked.prog.make == some Rows.fnExactSheetReadRow.make) = true := by kernel_rfl
end Go.Proofs.YtfbhjknkofnohaaDoor.RowKd
