/- A store into the second cell; a row of one point, written out. -/
import Derived.Test.YtfbhjknkofnohaaDoorM
namespace Go.Proofs.YtfbhjknkofnohaaDoor
open Go.RowKit Go.Proofs.YtfbhjknkofnohaaDoorW.PrintWords Go.Proofs.YtfbhjknkofnohaaDoorW.PrintLast
set_option linter.unusedVariables false
set_option linter.unusedSimpArgs false
attribute [local go_sem] cell_set_far
theorem B2.set1 {w : World} {b : Nat} {t : TypeId} {u v : Value} (h : B2 w b t u v) (x : Value) : B2 (w.setCell ⟨b, 1, none⟩ x) b t u x := by
  unfold B2 at h ⊢
  simp [World.setCell, Array.getElem?_modify, h]
theorem lit1 (w : World) (x : Pt) : kPt.C (w.alloc (.cells #[.int .i64 x.1, .int .i64 x.2] 58)) (some ⟨w.heap.size, 0, none⟩) 1 [x] := by
  have h : kPt.R 58 (w.alloc (.cells #[.int .i64 x.1, .int .i64 x.2] 58)) w.heap.size (fun _ => True) (.slice (some ⟨w.heap.size, 0, none⟩) 1 1) [x] :=
    ⟨fun _ _ => trivial, [.int .i64 x.1, .int .i64 x.2], World.ownsRow_lit (base := w.heap.size) (e := 58) (size := 2) w #[.int .i64 x.1, .int .i64 x.2] 1 (Nat.le_refl _) (by decide) rfl, Reps.snoc (Reps.none _ _) (kPt_mkM _ _ _ x) rfl⟩
  exact (Kd.R_reads' h).2.2
end Go.Proofs.YtfbhjknkofnohaaDoor
