/- Contracts: ShapeBack. -/
import Derived.Test.YtenpaemaiapapaaDoorI
import Derived.Test.YtenpaemaiapapaaDoorB
import Derived.Test.YtenpaemaiapapaaDoorM
namespace Go.Proofs.YtenpaemaiapapaaDoor
open Go.RowKit Go.Proofs.YtenpaemaiapapaaDoorW.PrintWords Go.Proofs.YtenpaemaiapapaaDoorW.PrintLast
set_option linter.unusedVariables false
set_option linter.unusedSimpArgs false
attribute [local go_sem] cell_set_far
open Classical in
noncomputable def back (K : Int) (l : List Pt) : Int × List Pt := if ShapeOk K l then (K, l.reverse) else (0, [])
set_option maxHeartbeats 4000000 in
theorem iShapeBack_c (K : Int) (A : Option Addr) (c : Nat) (l : List Pt) (w : World) (hl : kPt.C w A l.length l) (hn : l.length ≤ 1048576) :
    Calls Tryd.prog 29 #[.agg #[.int .i64 K, .slice A l.length c]] w fun e w' => ∃ A' c', e = .returned (.agg #[.int .i64 (back K l).1, .slice A' (back K l).2.length c']) ∧ RI kPt 45 w' w.heap.size w'.heap.size (.slice A' (back K l).2.length c') (back K l).2 ∧ Below w.heap.size w w' := by
  go_enter Tryd.func29, Tryd.ntmps29
  go_wp2_with fail
  refine (iShapeOk_c _ _ _ _ _ (Kd.C_below hl bl) hn).mono ?_
  rintro e w1 ⟨rfl, hb1⟩
  have T1 := Lib.hid (B2.new' (W := w1) w w.heap.size (.int .i64 K) (.slice A l.length c) 35)
  have T2 : B2 w1 (w.heap.size + 1) 35 (.int .i64 0) (.slice none 0 0) := B2.new' (w.alloc (.cells #[.int .i64 K, .slice A l.length c] 35)) _ _ _ _
  obtain ⟨b0, b1, b2, b3, b4⟩ := T2.f
  cases hok : shapeOk K l with
  | false =>
    have hbk := Lib.hid (show back K l = (0, []) from if_neg (shapeOk_f.1 hok))
    go_wp2
    rw [hbk.out]
    refine bodyPost_ret (v := .agg #[.int .i64 0, .slice none 0 0]) (by simp [results, Tryd.results29, go_sem, *]) rfl ⟨none, 0, rfl, RI.of (Kd.R_nil _ _ _ _ _), bl⟩
  | true =>
    have hbk := Lib.hid (show back K l = (K, l.reverse) from if_pos (shapeOk_t.1 hok))
    obtain ⟨a0, a1, a2, a3, a4⟩ := T1.out.f
    go_wp2_with fail
    refine (clone_c _ _ _ _ _ (Kd.C_below hl bl) hn).mono ?_
    rintro e w2 ⟨A2, c2, rfl, hr2, hb2⟩
    go_wp2_with fail
    refine (reverse_c _ _ _ w1.heap.size w2.heap.size _ (RI.alloc hr2 _) hn).mono ?_
    rintro e w3 ⟨rfl, hr3, hx3⟩
    have U2 : B2 w3 (w.heap.size + 1) 35 (.int .i64 0) (.slice none 0 0) := ((T2.to hb2).to (below_alloc (Below.refl _ _) _)).ex hx3 (Or.inl b4)
    have U3 : B2 w3 w2.heap.size 35 (.int .i64 K) (.slice A2 l.length c2) := (B2.new w2).ex hx3 (Or.inr (Nat.le_refl _))
    clear b0 b1 b2 b3 a0 a1 a2 a3
    obtain ⟨b0, b1, b2, b3, _⟩ := U2.f
    obtain ⟨a0, a1, a2, a3, _⟩ := U3.f
    go_wp2
    rw [hbk.out]
    have hr4 : RI kPt 45 w3 w1.heap.size w2.heap.size (.slice A2 l.reverse.length c2) l.reverse := by rw [List.length_reverse]; exact hr3
    refine bodyPost_ret (v := .agg #[.int .i64 K, .slice A2 l.length c2]) (by simp [results, Tryd.results29, go_sem, *]) rfl ⟨A2, c2, by rw [List.length_reverse], ?_, ?_⟩
    · have hs3 := hx3.1.size
      simp only [World.size_alloc] at hs3
      exact ((hr4.far (Or.inl b4) _).far (Or.inl b4) _).wide (by omega) (by simp only [World.size_setCell]; omega)
    · have h3 : Below w.heap.size w w3 := (bl : Below w.heap.size w (w2.alloc (.cells #[.int .i64 K, .slice A2 l.length c2] 35))).trans (hx3.1.mono (by omega))
      exact (h3.setCell (by simp) _).setCell (by simp) _
end Go.Proofs.YtenpaemaiapapaaDoor
