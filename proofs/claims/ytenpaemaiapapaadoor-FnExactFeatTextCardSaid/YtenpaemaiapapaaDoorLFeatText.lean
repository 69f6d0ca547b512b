/- Law: the program's FeatText answers what the reference's answers; its argument reads as before. -/
import Derived.Test.YtenpaemaiapapaaDoorTy
import Derived.Test.YtenpaemaiapapaaDoorLFeatOk
namespace Go.Proofs.YtenpaemaiapapaaDoor
open Go.RowKit Go.Proofs.YtenpaemaiapapaaDoorW.PrintWords Go.Proofs.YtenpaemaiapapaaDoorW.PrintLast
set_option linter.unusedVariables false
set_option linter.unusedSimpArgs false
theorem fnExactFeatText_tied {w : World} (h : laidMetH Tryd.prog Rows.fnExactFeatTextRow.laid w) : Tied w := by
  rw [MakeChecks.laidMetH_plain _ _ _ (by kernel_rfl)] at h
  exact Tied.of h (by first | exact List.mem_of_getElem? (i := 0) rfl | exact List.mem_of_getElem? (i := 1) rfl | exact List.mem_of_getElem? (i := 2) rfl | exact List.mem_of_getElem? (i := 3) rfl | exact List.mem_of_getElem? (i := 4) rfl | exact List.mem_of_getElem? (i := 5) rfl | exact List.mem_of_getElem? (i := 6) rfl | exact List.mem_of_getElem? (i := 7) rfl | exact List.mem_of_getElem? (i := 8) rfl) (by first | exact List.mem_of_getElem? (i := 0) rfl | exact List.mem_of_getElem? (i := 1) rfl | exact List.mem_of_getElem? (i := 2) rfl | exact List.mem_of_getElem? (i := 3) rfl | exact List.mem_of_getElem? (i := 4) rfl | exact List.mem_of_getElem? (i := 5) rfl | exact List.mem_of_getElem? (i := 6) rfl | exact List.mem_of_getElem? (i := 7) rfl | exact List.mem_of_getElem? (i := 8) rfl)
def l_FnExactFeatText_T10 : Bool × List (List Nat × List Nat) := (true, [([], []), ([], []), ([1], [1]), ([0, 2, 2], [0, 2]), ([3], [3])])
theorem l_FnExactFeatText_t10 : rtab .any (opsOf Tryd.f7 10) = l_FnExactFeatText_T10 := by kernel_rfl
set_option maxHeartbeats 4000000 in
theorem FnExactFeatText_c (f : FeatD) (A : Option Addr) (c : Nat) (B : Option Addr) (d : Nat) (w : World) (hl : kPt.C w A f.2.1.2.length f.2.1.2) (hm : kTag.C w B f.2.2.length f.2.2) (hF : FIn f) (hL : laidMetH Tryd.prog Rows.fnExactFeatTextRow.laid w) :
    Calls Tryd.prog 7 #[featV f A c B d] w fun e w' => e = .returned (.bool true) ∧ Below w.heap.size w w' := by
  have T := fnExactFeatText_tied hL
  clear hL
  have hx := fun a w hm h0 ha => szFeat_c f A c B d a w hm hF h0 ha
  by_cases hs : (featSz f : Int) ≤ 1048576
  · have Hf := Lib.hid (lef_pos (show 0 ≤ 1048576 - (featSz f : Int) by omega))
    have HX := Lib.hid hx
    have HT := Lib.hid (ftx_of (show featSz f ≤ 1048576 by omega))
    have n1 := HT.out.pts
    have n2 := HT.out.tags
    have z2 : 0 ≤ 1048576 - (featSz f : Int) := by omega
    have t1 := strB_t (rfl : featT f = featT f)
    clear hx
    go_enter Tryd.func7, Tryd.ntmps7
    go_wp2_with fail
    refine (HX.out _ _ (Kd.C_below hm bl) (by omega) (by omega)).mono ?_
    rintro e w1 ⟨rfl, hb1⟩
    rw [Hf.out]
    have HC := (Cells.nil w).box4 hb1
    obtain ⟨h0, h1, h2, h3, _⟩ := HC.all
    go_wp2_with fail
    refine (toFeat_c f A c B d _ (Kd.C_below hl bl) (Kd.C_below hm bl) n1 n2).mono ?_
    rintro e w2 ⟨A2, c2, B2, d2, rfl, hr2, ht2, hb2⟩
    replace HC := HC.to hb2
    clear h0 h1 h2 h3
    obtain ⟨h0, h1, h2, h3, _⟩ := HC.all
    go_wp2_with fail
    refine (sFeatText_c f A2 c2 B2 d2 _ (Kd.C_below hr2.rd.2.2 bl) (Kd.C_below ht2.rd.2.2 bl) HT.out).mono ?_
    rintro e w3 ⟨rfl, hb3⟩
    replace HC := HC.to hb3
    clear h0 h1 h2 h3
    obtain ⟨h0, h1, h2, h3, _⟩ := HC.all
    go_wp2_with fail
    refine (toFeat_c f A c B d _ (Kd.C_below hl bl) (Kd.C_below hm bl) n1 n2).mono ?_
    rintro e w4 ⟨A4, c4, B4, d4, rfl, hr4, ht4, hb4⟩
    replace HC : Cells (w4.alloc (.cells #[.string f.1, .int .i64 f.2.1.1, .slice A4 f.2.1.2.length c4, .slice B4 f.2.2.length d4] 50)) _ := (HC.to hb4).box4 (Below.refl _ _)
    clear h0 h1 h2 h3
    obtain ⟨h0, h1, h2, h3, h4, h5, h6, h7, _⟩ := HC.all
    go_wp2_with fail
    refine (iFeatText_c f A4 c4 B4 d4 _ (Kd.C_below hr4.rd.2.2 bl) (Kd.C_below ht4.rd.2.2 bl) HT.out (T.to bl)).mono ?_
    rintro e w5 ⟨rfl, hb5⟩
    replace HC := HC.to hb5
    clear h0 h1 h2 h3 h4 h5 h6 h7
    obtain ⟨h0, h1, h2, h3, h4, h5, h6, h7, _⟩ := HC.all
    generalize featT f = ft at *
    go_wp2
    refine rgStart 5 [0, 1, 2, 3, 4] l_FnExactFeatText_t10 (fun HT HS => ?_)
    repeat ((with_reducible refine rgGate ?_); first | refine rgP HT ?_ | refine rgL HT ?_ | refine rgG HT ?_)
    refine rgCall HT Tryd.func37 (toFeat_c f A c B d _ (Kd.C_below hl bl) (Kd.C_below hm bl) n1 n2) ?_
    rintro e w6 ⟨A6, c6, B6, d6, rfl, hr6, ht6, hb6⟩
    refine ⟨_, rfl, bl, rgN ?_⟩
    repeat ((with_reducible refine rgGate ?_); first | refine rgP HT ?_ | refine rgL HT ?_ | refine rgG HT ?_)
    refine rgCall HT Tryd.func38 (eqFeat_c f f A4 c4 B4 d4 A6 c6 B6 d6 _ (Kd.C_below hr4.rd.2.2 bl) (Kd.C_below ht4.rd.2.2 bl) hr6.rd.2.2 ht6.rd.2.2 n1 n2 n1 n2) ?_
    rintro e w7 ⟨rfl, hb7⟩
    refine ⟨_, rfl, bl, rgN ?_⟩
    rw [eqB_t.2 rfl]
    repeat ((with_reducible refine rgGate ?_); first | refine rgP HT ?_ | refine rgL HT ?_ | refine rgG HT ?_)
    refine rgDone HT ?_
    clear HT HS
    go_wp2
    go_ret
    exact ⟨rfl, bl⟩
  · have Hf := Lib.hid (lef_neg (show 1048576 - (featSz f : Int) < 0 by omega))
    have HX := Lib.hid hx
    clear hx
    go_enter Tryd.func7, Tryd.ntmps7
    go_wp2_with fail
    refine (HX.out _ _ (Kd.C_below hm bl) (by omega) (by omega)).mono ?_
    rintro e w1 ⟨rfl, hb1⟩
    rw [Hf.out]
    go_wp2
    go_ret
    exact ⟨rfl, bl⟩
end Go.Proofs.YtenpaemaiapapaaDoor
