/- Law: the program's FeatRead answers what the reference's answers, shares no memory. -/
import Derived.Test.YtgdgnlpohnpgiaaDoorRj
import Derived.Test.YtgdgnlpohnpgiaaDoorLFeatOk
namespace Go.Proofs.YtgdgnlpohnpgiaaDoor
open Go.RowKit Go.ChangeShapes Go.Proofs.YtgdgnlpohnpgiaaDoorW.PrintWords Go.Proofs.YtgdgnlpohnpgiaaDoorW.PrintLast
set_option maxRecDepth 100000
set_option linter.unusedVariables false
set_option linter.unusedSimpArgs false
theorem fnExactFeatRead_tied {w : World} (h : laidMetH Tryd.prog Rows.fnExactFeatReadRow.laid w) (hS : w.ShapedOpen Tryd.prog) : TiedR w := by
  rw [MakeChecks.laidMetH_plain _ _ _ (by kernel_rfl)] at h
  refine TiedR.of (Tied.of h ?_ ?_) hS h
  all_goals first | exact List.mem_of_getElem? (i := 0) rfl | exact List.mem_of_getElem? (i := 1) rfl | exact List.mem_of_getElem? (i := 2) rfl | exact List.mem_of_getElem? (i := 3) rfl | exact List.mem_of_getElem? (i := 4) rfl | exact List.mem_of_getElem? (i := 5) rfl | exact List.mem_of_getElem? (i := 6) rfl | exact List.mem_of_getElem? (i := 7) rfl | exact List.mem_of_getElem? (i := 8) rfl
/-- Two readers agree. -/
theorem ft_agree {s : ByteArray} {f f' : FeatD} {b b' : Bool} (h1 : b = true → FeatOk f ∧ s = fullT f) (h2 : b = false → f = (⟨#[]⟩, (0, []), []) ∧ ∀ g, FeatOk g → s ≠ fullT g)
    (h1' : b' = true → FeatOk f' ∧ s = fullT f') (h2' : b' = false → f' = (⟨#[]⟩, (0, []), []) ∧ ∀ g, FeatOk g → s ≠ fullT g) : f = f' ∧ b = b' := by
  cases b <;> cases b'
  · exact ⟨(h2 rfl).1.trans (h2' rfl).1.symm, rfl⟩
  · exact absurd (h1' rfl).2 ((h2 rfl).2 _ (h1' rfl).1)
  · exact absurd (h1 rfl).2 ((h2' rfl).2 _ (h1 rfl).1)
  · exact ⟨fullT_inj (h1 rfl).1 (h1' rfl).1 ((h1 rfl).2.symm.trans (h1' rfl).2), rfl⟩
set_option maxHeartbeats 8000000 in
theorem FnExactFeatRead_c (s : ByteArray) (w : World) (hn : s.size ≤ 140737488351232) (hL : laidMetH Tryd.prog Rows.fnExactFeatReadRow.laid w) (hS : w.ShapedOpen Tryd.prog) :
    Calls Tryd.prog 5 #[.string s] w fun e w' => e = .returned (.bool true) ∧ Below w.heap.size w w' := by
  have T := fnExactFeatRead_tied hL hS
  clear hL hS
  by_cases hs : (s.size : Int) ≤ 1048576
  · have d1_ : decide ((1048576 : Int) < (s.size : Int)) = false := decide_eq_false (by omega)
    go_enter Tryd.func5, Tryd.ntmps5
    go_wp2_with fail
    refine (sFeatRead_c s _ (by omega)).mono ?_
    rintro e w1 ⟨f, A1, c1, B1, d1, b, rfl, hr1, ht1, hb1, hX1, hy1, hf1⟩
    have H1 := Lib.hid (And.intro hy1 hf1)
    have n1 := hX1.pts
    have n2 := hX1.tags
    clear hy1 hf1 hX1
    have HC : Cells (w1.alloc (.cells #[.string f.1, .int .i64 f.2.1.1, .slice A1 f.2.1.2.length c1, .slice B1 f.2.2.length d1] 34)) _ := (Cells.nil w1).box4 (Below.refl _ _)
    obtain ⟨h0, h1, h2, h3, _⟩ := HC.all
    go_wp2_with fail
    refine (iFeatRead_c s _ (by omega) (T.to bl)).mono ?_
    rintro e w2 ⟨f2, A2, c2, B2, d2, b2, rfl, hr2, ht2, hb2, hX2, hy2, hf2⟩
    obtain ⟨rfl, rfl⟩ := ft_agree H1.out.1 H1.out.2 hy2 hf2
    clear hy2 hf2 hX2
    replace HC : Cells (w2.alloc (.cells #[.string f.1, .int .i64 f.2.1.1, .slice A2 f.2.1.2.length c2, .slice B2 f.2.2.length d2] 34)) _ := (HC.to hb2).box4 (Below.refl _ _)
    clear h0 h1 h2 h3
    obtain ⟨h0, h1, h2, h3, h4, h5, h6, h7, _⟩ := HC.all
    go_wp2_with fail
    refine (eqFeat_c f f A2 c2 B2 d2 A1 c1 B1 d1 _ (Kd.C_below hr2.rd.2.2 bl) (Kd.C_below ht2.rd.2.2 bl) (Kd.C_below hr1.rd.2.2 bl) (Kd.C_below ht1.rd.2.2 bl) n1 n2 n1 n2).mono ?_
    rintro e w3 ⟨rfl, hb3⟩
    rw [eqB_t.2 rfl]
    replace HC := HC.to hb3
    have r1 : RI kPt 76 w3 w.heap.size w1.heap.size (.slice A1 f.2.1.2.length c1) f.2.1.2 := hr1.below bl
    have t1 : RI kTag 46 w3 w.heap.size w1.heap.size (.slice B1 f.2.2.length d1) f.2.2 := ht1.below bl
    have r2 : RI kPt 76 w3 (w1.heap.size + 1) w2.heap.size (.slice A2 f.2.1.2.length c2) f.2.1.2 := by
      have := hr2.below (bl : Below w2.heap.size w2 w3)
      simpa only [World.size_alloc] using this
    have t2 : RI kTag 46 w3 (w1.heap.size + 1) w2.heap.size (.slice B2 f.2.2.length d2) f.2.2 := by
      have := ht2.below (bl : Below w2.heap.size w2 w3)
      simpa only [World.size_alloc] using this
    have B3 : Below w.heap.size w w3 := bl
    have s1 := hb1.size
    have s2 := hb2.size
    have s3 := hb3.size
    simp only [World.size_alloc] at s2 s3
    clear hr1 hr2 ht1 ht2
    clear h0 h1 h2 h3 h4 h5 h6 h7
    obtain ⟨h0, h1, h2, h3, h4, h5, h6, h7, _⟩ := HC.all
    go_wp2_with fail
    refine (markFeat_c f A2 c2 B2 d2 (w1.heap.size + 1) w2.heap.size _ r2 t2 n1 n2 (by omega) (by omega)).mono ?_
    rintro e w4 ⟨rfl, m4, m4', hx4⟩
    replace r1 := r1.ex hx4 (Or.inl (by omega))
    replace t1 := t1.ex hx4 (Or.inl (by omega))
    replace HC := HC.ex hx4 (fun x hx_ => by simp only [List.mem_cons, List.mem_nil_iff, or_false] at hx_; rcases hx_ with rfl | rfl | rfl | rfl | rfl | rfl | rfl | rfl <;> simp only [] <;> omega)
    have B4_ : Below w.heap.size w w4 := B3.trans (hx4.1.mono (by omega))
    have t2_ : decide (1 + 2 * (f.2.1.2.length : Int) + 2 * (f.2.2.length : Int) < 0) = false := by simp; omega
    clear r2 t2 B3
    clear h0 h1 h2 h3 h4 h5 h6 h7
    obtain ⟨h0, h1, h2, h3, h4, h5, h6, h7, _⟩ := HC.all
    go_wp2_with fail
    refine (heldFeat_c f A2 c2 _ B2 d2 _ f.1 f.2.1.1 _ m4 m4' n1 n2).mono ?_
    rintro e w5 ⟨rfl, hb5⟩
    replace HC := HC.to hb5
    have B5 : Below w.heap.size w w5 := bl
    clear h0 h1 h2 h3 h4 h5 h6 h7
    obtain ⟨h0, h1, h2, h3, h4, h5, h6, h7, _⟩ := HC.all
    go_wp2_with fail
    refine (iFeatRead_c s _ (by omega) (T.to B5)).mono ?_
    rintro e w6 ⟨f3, A3, c3, B3, d3, b3, rfl, hr3, ht3, hb6, hX3, hy3, hf3⟩
    obtain ⟨rfl, rfl⟩ := ft_agree H1.out.1 H1.out.2 hy3 hf3
    clear hy3 hf3 hX3
    replace HC : Cells (w6.alloc (.cells #[.string f.1, .int .i64 f.2.1.1, .slice A3 f.2.1.2.length c3, .slice B3 f.2.2.length d3] 34)) _ := (HC.to hb6).box4 (Below.refl _ _)
    clear h0 h1 h2 h3 h4 h5 h6 h7
    obtain ⟨h0, h1, h2, h3, h4, h5, h6, h7, h8, h9, h10, h11, _⟩ := HC.all
    go_wp2_with fail
    refine (eqFeat_c f f A3 c3 B3 d3 A1 c1 B1 d1 _ (Kd.C_below hr3.rd.2.2 bl) (Kd.C_below ht3.rd.2.2 bl) (Kd.C_below r1.rd.2.2 bl) (Kd.C_below t1.rd.2.2 bl) n1 n2 n1 n2).mono ?_
    rintro e w7 ⟨rfl, hb7⟩
    rw [eqB_t.2 rfl]
    replace HC := HC.to hb7
    clear h0 h1 h2 h3 h4 h5 h6 h7 h8 h9 h10 h11
    obtain ⟨h0, h1, h2, h3, h4, h5, h6, h7, h8, h9, h10, h11, _⟩ := HC.all
    go_wp2_with fail
    refine (heldFeat_c f A2 c2 _ B2 d2 _ f.1 f.2.1.1 _ (Kd.C_below m4 bl) (Kd.C_below m4' bl) n1 n2).mono ?_
    rintro e w8 ⟨rfl, hb8⟩
    go_wp2
    go_ret
    exact ⟨rfl, bl⟩
  · have d1_ : decide ((1048576 : Int) < (s.size : Int)) = true := decide_eq_true (by omega)
    go_enter Tryd.func5, Tryd.ntmps5
    go_wp2
    go_ret
    exact ⟨rfl, bl⟩
end Go.Proofs.YtgdgnlpohnpgiaaDoor
