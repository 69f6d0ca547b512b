/- Facts of the whole program that every row of this seat asks for: proved once. -/
import Derived.Test.YtgdgnlpohnpgiaaGreatDoorRows
import Derived.Test.YtgdgnlpohnpgiaaGreatDoorProg
import Derived.ProofKit
import Derived.OpenShut
import Derived.SizedLaws
namespace Go.Proofs.YtgdgnlpohnpgiaaGreatDoor.RowKd
theorem and_i {a b : Bool} (h1 : a = true) (h2 : b = true) : (a && b) = true := by rw [h1, h2]; rfl
theorem mayEnter : Tryz.pinned.checked.prog.mayEnter = true := by kernel_rfl
theorem lifts : (Rows.fnFeatRow.lifted == Tryz.pinned.checked.prog.liftsFinal) = true := by kernel_rfl
theorem make : (Tryz.pinned.checked.prog.make == some Rows.fnFeatRow.make) = true := by kernel_rfl
end Go.Proofs.YtgdgnlpohnpgiaaGreatDoor.RowKd
