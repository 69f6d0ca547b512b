/- Law: the program's ShapeText answers what the reference's answers; its argument reads as before. -/
import Derived.Test.YtenpaemaiapapaaDoorTy
import Derived.Test.YtenpaemaiapapaaDoorA
namespace Go.Proofs.YtenpaemaiapapaaDoor
open Go.RowKit Go.Proofs.YtenpaemaiapapaaDoorW.PrintWords Go.Proofs.YtenpaemaiapapaaDoorW.PrintLast
set_option linter.unusedVariables false
set_option linter.unusedSimpArgs false
theorem fnExactShapeText_tied {w : World} (h : laidMetH Tryd.prog Rows.fnExactShapeTextRow.laid w) : Tied w := by
  rw [MakeChecks.laidMetH_plain _ _ _ (by kernel_rfl)] at h
  exact Tied.of h (by first | exact List.mem_of_getElem? (i := 0) rfl | exact List.mem_of_getElem? (i := 1) rfl | exact List.mem_of_getElem? (i := 2) rfl | exact List.mem_of_getElem? (i := 3) rfl | exact List.mem_of_getElem? (i := 4) rfl | exact List.mem_of_getElem? (i := 5) rfl | exact List.mem_of_getElem? (i := 6) rfl | exact List.mem_of_getElem? (i := 7) rfl | exact List.mem_of_getElem? (i := 8) rfl) (by first | exact List.mem_of_getElem? (i := 0) rfl | exact List.mem_of_getElem? (i := 1) rfl | exact List.mem_of_getElem? (i := 2) rfl | exact List.mem_of_getElem? (i := 3) rfl | exact List.mem_of_getElem? (i := 4) rfl | exact List.mem_of_getElem? (i := 5) rfl | exact List.mem_of_getElem? (i := 6) rfl | exact List.mem_of_getElem? (i := 7) rfl | exact List.mem_of_getElem? (i := 8) rfl)
def l_FnExactShapeText_T10 : Bool × List (List Nat × List Nat) := (true, [([], []), ([], []), ([1], [1]), ([0, 2, 2], [0, 2]), ([3], [3])])
theorem l_FnExactShapeText_t10 : rtab .any (opsOf Tryd.f4 10) = l_FnExactShapeText_T10 := by kernel_rfl
set_option maxHeartbeats 4000000 in
theorem FnExactShapeText_c (K : Int) (A : Option Addr) (c : Nat) (l : List Pt) (w : World) (hl : kPt.C w A l.length l) (hn : (l.length : Int) ≤ 140737488351232) (hL : laidMetH Tryd.prog Rows.fnExactShapeTextRow.laid w) :
    Calls Tryd.prog 4 #[.agg #[.int .i64 K, .slice A l.length c]] w fun e w' => e = .returned (.bool true) ∧ Below w.heap.size w w' := by
  have T := fnExactShapeText_tied hL
  clear hL
  by_cases hs : (l.length : Int) ≤ 1048576
  · have Hf := Lib.hid (lef_pos (show 0 ≤ 1048576 - (l.length : Int) by omega))
    have hn2 : l.length ≤ 1048576 := by omega
    have t1 := strB_t (rfl : shapeT K l = shapeT K l)
    go_enter Tryd.func4, Tryd.ntmps4
    go_wp2_with fail
    refine (szShape_c _ _ _ _ _ _ hn (by omega) (by omega)).mono ?_
    rintro e w1 ⟨rfl, hb1⟩
    rw [Hf.out]
    have HC := (Cells.nil w).box hb1
    obtain ⟨h0, h1, _⟩ := HC.all
    go_wp2_with fail
    refine (toShape_c _ _ _ _ _ (Kd.C_below hl bl) hn2).mono ?_
    rintro e w2 ⟨A2, c2, rfl, hr2, hb2⟩
    replace HC := HC.to hb2
    clear h0 h1
    obtain ⟨h0, h1, _⟩ := HC.all
    go_wp2_with fail
    refine (sShapeT_c K A2 c2 l _ hr2.rd.2.2 hn2).mono ?_
    rintro e w3 ⟨rfl, hb3⟩
    replace HC := HC.to hb3
    clear h0 h1
    obtain ⟨h0, h1, _⟩ := HC.all
    go_wp2_with fail
    refine (toShape_c _ _ _ _ _ (Kd.C_below hl bl) hn2).mono ?_
    rintro e w4 ⟨A4, c4, rfl, hr4, hb4⟩
    replace HC : Cells (w4.alloc (.cells #[.int .i64 K, .slice A4 l.length c4] 35)) _ := (HC.to hb4).box (Below.refl _ _)
    clear h0 h1
    obtain ⟨h0, h1, h2, h3, _⟩ := HC.all
    go_wp2_with fail
    refine (iShapeT_c K A4 c4 l _ (Kd.C_below hr4.rd.2.2 bl) hn2 (T.to bl)).mono ?_
    rintro e w5 ⟨rfl, hb5⟩
    replace HC := HC.to hb5
    clear h0 h1 h2 h3
    obtain ⟨h0, h1, h2, h3, _⟩ := HC.all
    generalize shapeT K l = st at *
    go_wp2
    refine rgStart 5 [0, 1, 2, 3, 4] l_FnExactShapeText_t10 (fun HT HS => ?_)
    repeat ((with_reducible refine rgGate ?_); first | refine rgP HT ?_ | refine rgL HT ?_ | refine rgG HT ?_)
    refine rgCall HT Tryd.func21 (toShape_c K A c l _ (Kd.C_below hl bl) hn2) ?_
    rintro e w7 ⟨A7, c7, rfl, hr7, hb7⟩
    refine ⟨_, rfl, bl, rgN ?_⟩
    repeat ((with_reducible refine rgGate ?_); first | refine rgP HT ?_ | refine rgL HT ?_ | refine rgG HT ?_)
    refine rgCall HT Tryd.func23 (eqShape_c K K A4 A7 c4 c7 l l _ (Kd.C_below hr4.rd.2.2 bl) hr7.rd.2.2 hn2 hn2) ?_
    rintro e w8 ⟨rfl, hb8⟩
    refine ⟨_, rfl, bl, rgN ?_⟩
    rw [eqB_t.2 rfl]
    repeat ((with_reducible refine rgGate ?_); first | refine rgP HT ?_ | refine rgL HT ?_ | refine rgG HT ?_)
    refine rgDone HT ?_
    clear HT HS
    go_wp2
    go_ret
    exact ⟨rfl, bl⟩
  · have Hf := Lib.hid (lef_neg (show 1048576 - (l.length : Int) < 0 by omega))
    go_enter Tryd.func4, Tryd.ntmps4
    go_wp2_with fail
    refine (szShape_c _ _ _ _ _ _ hn (by omega) (by omega)).mono ?_
    rintro e w1 ⟨rfl, hb1⟩
    rw [Hf.out]
    go_wp2
    go_ret
    exact ⟨rfl, bl⟩
end Go.Proofs.YtenpaemaiapapaaDoor
