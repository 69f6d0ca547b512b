/- Facts of the whole program that every row of this seat asks for: proved once. -/
import Derived.Test.YtlebgjafaioajaaRows
import Derived.Test.YtlebgjafaioajaaProg
import Derived.ProofKit
import Derived.OpenShut
import Derived.SizedLaws
namespace Go.Proofs.Ytlebgjafaioajaa.RowK
theorem and_i {a b : Bool} (h1 : a = true) (h2 : b = true) : (a && b) = true := by rw [h1, h2]; rfl
theorem mayEnter : Try.pinned.checked.prog.mayEnter = true := by kernel_rfl
theorem lifts : (Rows.fnExactFeatSameRow.lifted == Try.pinned.checked.prog.liftsFinal) = true := by kernel_rfl
theorem make : (Try.pinned.checked.prog.make == some Rows.fnExactFeatSameRow.make) = true := by kernel_rfl
end Go.Proofs.Ytlebgjafaioajaa.RowK
