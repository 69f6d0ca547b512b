/- Law: the program's ShapeBox answers what the reference's answers, at every shape; its argument reads as before. -/
import Derived.Test.YtfapledohlckoaaA
import Derived.Test.YtfapledohlckoaaF
namespace Go.Proofs.Ytfapledohlckoaa
open Go.RowKit Go.Proofs.YtfapledohlckoaaW.PrintWords Go.Proofs.YtfapledohlckoaaW.PrintLast
set_option linter.unusedVariables false
set_option linter.unusedSimpArgs false
def l_FnExactShapeBox_T10 : Bool × List (List Nat × List Nat) := (true, [([], []), ([], []), ([1], [1]), ([0, 2, 2], [0, 2]), ([3], [3])])
theorem l_FnExactShapeBox_t10 : rtab .any (opsOf Try.f10 10) = l_FnExactShapeBox_T10 := by kernel_rfl
set_option maxHeartbeats 4000000 in
theorem FnExactShapeBox_c (K : Int) (A : Option Addr) (c : Nat) (l : List Pt) (w : World) (hl : kPt.C w A l.length l) (hn : (l.length : Int) ≤ 140737488351232) :
    Calls Try.prog 10 #[.agg #[.int .i64 K, .slice A l.length c]] w fun e w' => e = .returned (.bool true) ∧ Below w.heap.size w w' := by
  by_cases hs : (l.length : Int) ≤ 1048576
  · have Hf := Lib.hid (lef_pos (show 0 ≤ 1048576 - (l.length : Int) by omega))
    have hn2 : l.length ≤ 1048576 := by omega
    go_enter Try.func10, Try.ntmps10
    go_wp2_with fail
    refine (szShape_c _ _ _ _ _ _ hn (by omega) (by omega)).mono ?_
    rintro e w1 ⟨rfl, hb1⟩
    rw [Hf.out]
    have HC := (Cells.nil w).box hb1
    obtain ⟨a0, a1, _⟩ := HC.all
    go_wp2_with fail
    refine (toShape_c _ _ _ _ _ (Kd.C_below hl bl) hn2).mono ?_
    rintro e w2 ⟨A2, c2, rfl, hr2, hb2⟩
    replace HC := HC.to hb2
    clear a0 a1
    obtain ⟨a0, a1, _⟩ := HC.all
    go_wp2_with fail
    refine (sShapeBox_c _ _ _ _ _ hr2.rd.2.2 hn2).mono ?_
    rintro e w3 ⟨rfl, hb3⟩
    replace HC := HC.to hb3
    clear a0 a1
    obtain ⟨a0, a1, _⟩ := HC.all
    go_wp2_with fail
    refine (toShape_c _ _ _ _ _ (Kd.C_below hl bl) hn2).mono ?_
    rintro e w4 ⟨A4, c4, rfl, hr4, hb4⟩
    replace HC := HC.two hb4
    clear a0 a1
    obtain ⟨p0, p1, q0, q1, a0, a1, _⟩ := HC.all
    go_wp2_with fail
    refine (iShapeBox_c _ _ _ _ _ (Kd.C_below hr4.rd.2.2 bl) hn2).mono ?_
    rintro e w5 ⟨rfl, hb5⟩
    replace HC := HC.box hb5
    clear a0 a1 p0 p1 q0 q1
    obtain ⟨x0, x1, p0, p1, q0, q1, a0, a1, _⟩ := HC.all
    go_wp2_with fail
    refine (eqPt_c (box K l).1 (box K l).1 _).mono ?_
    rintro e w6 ⟨rfl, hb6⟩
    rw [eqB_t.2 rfl]
    replace HC := HC.two hb6
    clear a0 a1 p0 p1 q0 q1 x0 x1
    obtain ⟨y0, y1, z0, z1, x0, x1, p0, p1, q0, q1, a0, a1, _⟩ := HC.all
    go_wp2_with fail
    refine (eqPt_c (box K l).2 (box K l).2 _).mono ?_
    rintro e w7 ⟨rfl, hb7⟩
    rw [eqB_t.2 rfl]
    replace HC := HC.to hb7
    clear a0 a1 p0 p1 q0 q1 x0 x1 y0 y1 z0 z1
    obtain ⟨y0, y1, z0, z1, x0, x1, p0, p1, q0, q1, a0, a1, _⟩ := HC.all
    go_wp2
    refine rgStart 5 [0, 1, 2, 3, 4] l_FnExactShapeBox_t10 (fun HT HS => ?_)
    repeat ((with_reducible refine rgGate ?_); first | refine rgP HT ?_ | refine rgL HT ?_ | refine rgG HT ?_)
    refine rgCall HT Try.func21 (toShape_c K A c l _ (Kd.C_below hl bl) hn2) ?_
    rintro e w8 ⟨A6, c6, rfl, hr6, hb8⟩
    refine ⟨_, rfl, bl, rgN ?_⟩
    repeat ((with_reducible refine rgGate ?_); first | refine rgP HT ?_ | refine rgL HT ?_ | refine rgG HT ?_)
    refine rgCall HT Try.func23 (eqShape_c K K A4 A6 c4 c6 l l _ (Kd.C_below hr4.rd.2.2 bl) hr6.rd.2.2 hn2 hn2) ?_
    rintro e w9 ⟨rfl, hb9⟩
    refine ⟨_, rfl, bl, rgN ?_⟩
    rw [eqB_t.2 rfl]
    repeat ((with_reducible refine rgGate ?_); first | refine rgP HT ?_ | refine rgL HT ?_ | refine rgG HT ?_)
    refine rgDone HT ?_
    go_wp2
    go_ret
    exact ⟨rfl, bl⟩
  · have Hf := Lib.hid (lef_neg (show 1048576 - (l.length : Int) < 0 by omega))
    go_enter Try.func10, Try.ntmps10
    go_wp2_with fail
    refine (szShape_c _ _ _ _ _ _ hn (by omega) (by omega)).mono ?_
    rintro e w1 ⟨rfl, hb1⟩
    rw [Hf.out]
    go_wp2
    go_ret
    exact ⟨rfl, bl⟩
end Go.Proofs.Ytfapledohlckoaa
