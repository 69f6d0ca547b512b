/- Law: the program's ShapeRead answers what the reference's answers, shares no memory. -/
import Derived.Test.YtfbhjknkofnohaaDoorRf
import Derived.Test.YtfbhjknkofnohaaDoorA
namespace Go.Proofs.YtfbhjknkofnohaaDoor
open Go.RowKit Go.ChangeShapes Go.Proofs.YtfbhjknkofnohaaDoorW.PrintWords Go.Proofs.YtfbhjknkofnohaaDoorW.PrintLast
set_option linter.unusedVariables false
set_option linter.unusedSimpArgs false
theorem fnExactShapeRead_tied {w : World} (h : laidMetH Tryd.prog Rows.fnExactShapeReadRow.laid w) (hS : w.ShapedOpen Tryd.prog) : TiedR w := by
  rw [MakeChecks.laidMetH_plain _ _ _ (by kernel_rfl)] at h
  refine TiedR.of (Tied.of h ?_ ?_) hS h
  all_goals first | exact List.mem_of_getElem? (i := 0) rfl | exact List.mem_of_getElem? (i := 1) rfl | exact List.mem_of_getElem? (i := 2) rfl | exact List.mem_of_getElem? (i := 3) rfl | exact List.mem_of_getElem? (i := 4) rfl | exact List.mem_of_getElem? (i := 5) rfl | exact List.mem_of_getElem? (i := 6) rfl | exact List.mem_of_getElem? (i := 7) rfl | exact List.mem_of_getElem? (i := 8) rfl
/-- Two readers agree. -/
theorem sh_agree {s : ByteArray} {K K' : Int} {l l' : List Pt} {b b' : Bool} (h1 : b = true → ShapeOk K l ∧ s = shText K l) (h2 : b = false → K = 0 ∧ l = [] ∧ ∀ K' l', ShapeOk K' l' → s ≠ shText K' l')
    (h1' : b' = true → ShapeOk K' l' ∧ s = shText K' l') (h2' : b' = false → K' = 0 ∧ l' = [] ∧ ∀ K l, ShapeOk K l → s ≠ shText K l) : K = K' ∧ l = l' ∧ b = b' := by
  cases b <;> cases b'
  · obtain ⟨a1, a2, _⟩ := h2 rfl
    obtain ⟨c1, c2, _⟩ := h2' rfl
    exact ⟨a1.trans c1.symm, a2.trans c2.symm, rfl⟩
  · exact absurd (h1' rfl).2 ((h2 rfl).2.2 _ _ (h1' rfl).1)
  · exact absurd (h1 rfl).2 ((h2' rfl).2.2 _ _ (h1 rfl).1)
  · obtain ⟨a1, a2⟩ := shText_inj (h1 rfl).1 (h1' rfl).1 ((h1 rfl).2.symm.trans (h1' rfl).2)
    exact ⟨a1, a2, rfl⟩
set_option maxHeartbeats 4000000 in
theorem FnExactShapeRead_c (s : ByteArray) (w : World) (hn : s.size ≤ 140737488351232) (hL : laidMetH Tryd.prog Rows.fnExactShapeReadRow.laid w) (hS : w.ShapedOpen Tryd.prog) :
    Calls Tryd.prog 4 #[.string s] w fun e w' => e = .returned (.bool true) ∧ Below w.heap.size w w' := by
  have T := fnExactShapeRead_tied hL hS
  clear hL hS
  by_cases hs : (s.size : Int) ≤ 1048576
  · have d1 : decide ((1048576 : Int) < (s.size : Int)) = false := decide_eq_false (by omega)
    go_enter Tryd.func4, Tryd.ntmps4
    go_wp2_with fail
    refine (sShapeRead_c s _ (by omega)).mono ?_
    rintro e w1 ⟨K, A1, c1, l, b, rfl, hr1, hb1, hn1, ht1, hf1⟩
    have HC : Cells (w1.alloc (.cells #[.int .i64 K, .slice A1 l.length c1] 30)) _ := (Cells.nil w1).box (Below.refl _ _)
    have H1 := Lib.hid (And.intro ht1 hf1)
    clear ht1 hf1
    obtain ⟨h0, h1, _⟩ := HC.all
    go_wp2_with fail
    refine (iShapeRead_c s _ (by omega) (T.to bl)).mono ?_
    rintro e w2 ⟨K2, A2, c2, l2, b2, rfl, hr2, hb2, hn2, ht2, hf2⟩
    obtain ⟨rfl, rfl, rfl⟩ := sh_agree H1.out.1 H1.out.2 ht2 hf2
    clear ht2 hf2
    replace HC : Cells (w2.alloc (.cells #[.int .i64 K, .slice A2 l.length c2] 30)) _ := (HC.to hb2).box (Below.refl _ _)
    clear h0 h1
    obtain ⟨h0, h1, h2, h3, _⟩ := HC.all
    go_wp2_with fail
    refine (eqShape_c K K A2 A1 c2 c1 l l _ (Kd.C_below hr2.rd.2.2 bl) (Kd.C_below hr1.rd.2.2 bl) hn1 hn1).mono ?_
    rintro e w3 ⟨rfl, hb3⟩
    rw [eqB_t.2 rfl]
    replace HC := HC.to hb3
    have r1 : RI kPt 58 w3 w.heap.size w1.heap.size (.slice A1 l.length c1) l := hr1.below bl
    have r2 : RI kPt 58 w3 (w1.heap.size + 1) w2.heap.size (.slice A2 l.length c2) l := by
      have := hr2.below (bl : Below w2.heap.size w2 w3)
      simpa only [World.size_alloc] using this
    have B3 : Below w.heap.size w w3 := bl
    have s1 := hb1.size
    have s2 := hb2.size
    have s3 := hb3.size
    simp only [World.size_alloc] at s2 s3
    clear hr1 hr2
    clear h0 h1 h2 h3
    obtain ⟨h0, h1, h2, h3, _⟩ := HC.all
    go_wp2_with fail
    refine (markShape_c _ _ _ _ 1 (w1.heap.size + 1) w2.heap.size _ r2 hn1 (by omega) (by omega) (by omega)).mono ?_
    rintro e w4 ⟨rfl, m4, hx4⟩
    replace r1 := r1.ex hx4 (Or.inl (by omega))
    have mC : kPt.C w4 A2 l.length (markL 1 l.length) := by have := m4.rd.2.2; rwa [markL_len] at this
    replace HC := HC.ex hx4 (fun x hx_ => by simp only [List.mem_cons, List.mem_nil_iff, or_false] at hx_; rcases hx_ with rfl | rfl | rfl | rfl <;> simp only [] <;> omega)
    have B4 : Below w.heap.size w w4 := B3.trans (hx4.1.mono (by omega))
    have t2 : decide (1 + 2 * (l.length : Int) < 0) = false := by simp; omega
    clear h0 h1 h2 h3
    obtain ⟨h0, h1, h2, h3, _⟩ := HC.all
    go_wp2_with fail
    refine (heldShape_c _ _ _ _ 1 _ mC hn1 (by omega) (by omega)).mono ?_
    rintro e w5 ⟨rfl, hb5⟩
    replace HC := HC.to hb5
    have B5 : Below w.heap.size w w5 := bl
    clear h0 h1 h2 h3
    obtain ⟨h0, h1, h2, h3, _⟩ := HC.all
    go_wp2_with fail
    refine (iShapeRead_c s _ (by omega) (T.to B5)).mono ?_
    rintro e w6 ⟨K3, A3, c3, l3, b3, rfl, hr3, hb6, hn3, ht3, hf3⟩
    obtain ⟨rfl, rfl, rfl⟩ := sh_agree H1.out.1 H1.out.2 ht3 hf3
    clear ht3 hf3
    replace HC : Cells (w6.alloc (.cells #[.int .i64 K, .slice A3 l.length c3] 30)) _ := (HC.to hb6).box (Below.refl _ _)
    clear h0 h1 h2 h3
    obtain ⟨h0, h1, h2, h3, h4, h5, _⟩ := HC.all
    go_wp2_with fail
    refine (eqShape_c K K A3 A1 c3 c1 l l _ (Kd.C_below hr3.rd.2.2 bl) (Kd.C_below r1.rd.2.2 bl) hn1 hn1).mono ?_
    rintro e w7 ⟨rfl, hb7⟩
    rw [eqB_t.2 rfl]
    replace HC := HC.to hb7
    clear h0 h1 h2 h3 h4 h5
    obtain ⟨h0, h1, h2, h3, h4, h5, _⟩ := HC.all
    go_wp2_with fail
    refine (heldShape_c _ _ _ _ 1 _ (Kd.C_below mC bl) hn1 (by omega) (by omega)).mono ?_
    rintro e w8 ⟨rfl, hb8⟩
    go_wp2
    go_ret
    exact ⟨rfl, bl⟩
  · have d1 : decide ((1048576 : Int) < (s.size : Int)) = true := decide_eq_true (by omega)
    go_enter Tryd.func4, Tryd.ntmps4
    go_wp2
    go_ret
    exact ⟨rfl, bl⟩
end Go.Proofs.YtfbhjknkofnohaaDoor
