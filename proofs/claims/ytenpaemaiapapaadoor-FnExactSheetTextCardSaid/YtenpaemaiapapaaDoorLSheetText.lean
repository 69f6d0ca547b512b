/- Law: the program's SheetText answers what the reference's answers; its argument reads as before. -/
import Derived.Test.YtenpaemaiapapaaDoorTz
import Derived.Test.YtenpaemaiapapaaDoorLSheetSame
namespace Go.Proofs.YtenpaemaiapapaaDoor
open Go.RowKit Go.Proofs.YtenpaemaiapapaaDoorW.PrintWords Go.Proofs.YtenpaemaiapapaaDoorW.PrintLast
set_option linter.unusedVariables false
set_option linter.unusedSimpArgs false
theorem fnExactSheetText_tied {w : World} (h : laidMetH Tryd.prog Rows.fnExactSheetTextRow.laid w) : Tied w := by
  rw [MakeChecks.laidMetH_plain _ _ _ (by kernel_rfl)] at h
  exact Tied.of h (by first | exact List.mem_of_getElem? (i := 0) rfl | exact List.mem_of_getElem? (i := 1) rfl | exact List.mem_of_getElem? (i := 2) rfl | exact List.mem_of_getElem? (i := 3) rfl | exact List.mem_of_getElem? (i := 4) rfl | exact List.mem_of_getElem? (i := 5) rfl | exact List.mem_of_getElem? (i := 6) rfl | exact List.mem_of_getElem? (i := 7) rfl | exact List.mem_of_getElem? (i := 8) rfl) (by first | exact List.mem_of_getElem? (i := 0) rfl | exact List.mem_of_getElem? (i := 1) rfl | exact List.mem_of_getElem? (i := 2) rfl | exact List.mem_of_getElem? (i := 3) rfl | exact List.mem_of_getElem? (i := 4) rfl | exact List.mem_of_getElem? (i := 5) rfl | exact List.mem_of_getElem? (i := 6) rfl | exact List.mem_of_getElem? (i := 7) rfl | exact List.mem_of_getElem? (i := 8) rfl)
set_option maxHeartbeats 4000000 in
theorem FnExactSheetText_c (A : Option Addr) (c : Nat) (l : List FeatD) (w : World) (hl : kFeat.C w A l.length l) (hn : FsIn l) (hL : laidMetH Tryd.prog Rows.fnExactSheetTextRow.laid w) :
    Calls Tryd.prog 8 #[.slice A l.length c] w fun e w' => e = .returned (.bool true) ∧ Below w.heap.size w w' := by
  have T := fnExactSheetText_tied hL
  clear hL
  have hx := fun a w hl h0 ha => szFeatS_c A l c a w hl hn.2 hn.1 h0 ha
  change ∀ a w, _ → _ → _ → Calls _ _ _ _ (fun e w' => e = .returned (.int .i64 (lef (a - (sheetSz l : Int)))) ∧ _) at hx
  by_cases hs : (sheetSz l : Int) ≤ 1048576
  · have Hf := Lib.hid (lef_pos (show 0 ≤ 1048576 - (sheetSz l : Int) by omega))
    have F1 := Lib.hid (few_of (show sheetSz l ≤ 1048576 by omega))
    have X1 := Lib.hid (ftxs_of (show sheetSz l ≤ 1048576 by omega))
    have z0 : 0 ≤ 1048576 - (sheetSz l : Int) := by omega
    have HX := Lib.hid hx
    have t1 := strB_t (rfl : sheetT l = sheetT l)
    clear hx hn hs
    go_enter Tryd.func8, Tryd.ntmps8
    go_wp2_with fail
    refine (HX.out _ _ hl (by omega) (by omega)).mono ?_
    rintro e w1 ⟨rfl, hb1⟩
    rw [Hf.out]
    go_wp2_with fail
    refine (toFeatS_c A c l _ (Kd.C_below hl bl) F1.out.1 F1.out.2).mono ?_
    rintro e w2 ⟨A2, c2, rfl, hs2, hb2⟩
    go_wp2_with fail
    refine (sSheetText_c A2 c2 l _ hs2.rd.2.2 F1.out.1 X1.out).mono ?_
    rintro e w3 ⟨rfl, hb3⟩
    go_wp2_with fail
    refine (toFeatS_c A c l _ (Kd.C_below hl bl) F1.out.1 F1.out.2).mono ?_
    rintro e w4 ⟨A4, c4, rfl, hs4, hb4⟩
    go_wp2_with fail
    refine (iSheetText_c A4 c4 l _ (Kd.C_below hs4.rd.2.2 bl) F1.out.1 X1.out (T.to bl)).mono ?_
    rintro e w5 ⟨rfl, hb5⟩
    generalize sheetT l = st at *
    go_wp2_with fail
    refine (toFeatS_c A c l _ (Kd.C_below hl bl) F1.out.1 F1.out.2).mono ?_
    rintro e w7 ⟨A7, c7, rfl, hs7, hb7⟩
    go_wp2_with fail
    refine (eqFeatS_c A4 A7 c4 c7 l l _ (Kd.C_below hs4.rd.2.2 bl) hs7.rd.2.2 F1.out F1.out).mono ?_
    rintro e w8 ⟨rfl, hb8⟩
    rw [eqB_t.2 rfl]
    go_wp2
    go_ret
    exact ⟨rfl, bl⟩
  · have Hf := Lib.hid (lef_neg (show 1048576 - (sheetSz l : Int) < 0 by omega))
    have HX := Lib.hid hx
    clear hx
    go_enter Tryd.func8, Tryd.ntmps8
    go_wp2_with fail
    refine (HX.out _ _ hl (by omega) (by omega)).mono ?_
    rintro e w1 ⟨rfl, hb1⟩
    rw [Hf.out]
    go_wp2
    go_ret
    exact ⟨rfl, bl⟩
end Go.Proofs.YtenpaemaiapapaaDoor
