/- Law: the program's ShapeArea answers what the reference's answers, at every shape; its argument reads as before. -/
import Derived.Test.YtfapledohlckoaaA
import Derived.Test.YtfapledohlckoaaD
namespace Go.Proofs.Ytfapledohlckoaa
open Go.RowKit Go.Proofs.YtfapledohlckoaaW.PrintWords Go.Proofs.YtfapledohlckoaaW.PrintLast
set_option linter.unusedVariables false
set_option linter.unusedSimpArgs false
def l_FnExactShapeArea_T10 : Bool × List (List Nat × List Nat) := (true, [([], []), ([], []), ([1], [1]), ([0, 2, 2], [0, 2]), ([3], [3])])
theorem l_FnExactShapeArea_t10 : rtab .any (opsOf Try.f7 10) = l_FnExactShapeArea_T10 := by kernel_rfl
set_option maxHeartbeats 4000000 in
theorem FnExactShapeArea_c (K : Int) (A : Option Addr) (c : Nat) (l : List Pt) (w : World) (hl : kPt.C w A l.length l) (hn : (l.length : Int) ≤ 140737488351232) :
    Calls Try.prog 7 #[.agg #[.int .i64 K, .slice A l.length c]] w fun e w' => e = .returned (.bool true) ∧ Below w.heap.size w w' := by
  by_cases hs : (l.length : Int) ≤ 1048576
  · have Hf := Lib.hid (lef_pos (show 0 ≤ 1048576 - (l.length : Int) by omega))
    have hn2 : l.length ≤ 1048576 := by omega
    go_enter Try.func7, Try.ntmps7
    go_wp2_with fail
    refine (szShape_c _ _ _ _ _ _ hn (by omega) (by omega)).mono ?_
    rintro e w1 ⟨rfl, hb1⟩
    rw [Hf.out]
    obtain ⟨h1, h2, z1⟩ := bcn (w := w) 1 hb1
    go_wp2_with fail
    refine (toShape_c _ _ _ _ _ (Kd.C_below hl bl) hn2).mono ?_
    rintro e w2 ⟨A2, c2, rfl, hr2, hb2⟩
    obtain ⟨h3, h4, z2⟩ := bcn (w := w) 1 hb2
    go_wp2_with fail
    refine (sShapeArea_c _ _ _ _ _ hr2.rd.2.2 hn2).mono ?_
    rintro e w3 ⟨rfl, hb3⟩
    obtain ⟨h5, h6, z3⟩ := bcn (w := w) 1 hb3
    go_wp2_with fail
    refine (toShape_c _ _ _ _ _ (Kd.C_below hl bl) hn2).mono ?_
    rintro e w4 ⟨A4, c4, rfl, hr4, hb4⟩
    obtain ⟨h7, h8, z4⟩ := bcn (w := w) 1 hb4
    go_wp2_with fail
    refine (iShapeArea_c _ _ _ _ _ (Kd.C_below hr4.rd.2.2 bl) hn2).mono ?_
    rintro e w5 ⟨rfl, hb5⟩
    obtain ⟨h9, h10, z5⟩ := bcn (w := w) 1 hb5
    obtain ⟨i9, i10, y5⟩ := bcn (w := w4) 1 hb5
    have a0 : w5.cell? ⟨w.heap.size, 0, none⟩ = some (.int .i64 K) := by go_simp
    have a1 : w5.cell? ⟨w.heap.size, 1, none⟩ = some (.slice A l.length c) := by go_simp
    have b0 : w5.cell? ⟨w4.heap.size, 0, none⟩ = some (.int .i64 K) := by go_simp
    have b1 : w5.cell? ⟨w4.heap.size, 1, none⟩ = some (.slice A4 l.length c4) := by go_simp
    clear h1 h2 h3 h4 h5 h6 h7 h8 h9 h10 i9 i10
    go_wp2
    refine rgStart 5 [0, 1, 2, 3, 4] l_FnExactShapeArea_t10 (fun HT HS => ?_)
    repeat ((with_reducible refine rgGate ?_); first | refine rgP HT ?_ | refine rgL HT ?_ | refine rgG HT ?_)
    refine rgCall HT Try.func21 (toShape_c K A c l _ (Kd.C_below hl bl) hn2) ?_
    rintro e w6 ⟨A6, c6, rfl, hr6, hb6⟩
    refine ⟨_, rfl, bl, rgN ?_⟩
    repeat ((with_reducible refine rgGate ?_); first | refine rgP HT ?_ | refine rgL HT ?_ | refine rgG HT ?_)
    refine rgCall HT Try.func23 (eqShape_c K K A4 A6 c4 c6 l l _ (Kd.C_below hr4.rd.2.2 bl) hr6.rd.2.2 hn2 hn2) ?_
    rintro e w7 ⟨rfl, hb7⟩
    refine ⟨_, rfl, bl, rgN ?_⟩
    rw [eqB_t.2 rfl]
    repeat ((with_reducible refine rgGate ?_); first | refine rgP HT ?_ | refine rgL HT ?_ | refine rgG HT ?_)
    refine rgDone HT ?_
    go_wp2
    go_ret
    exact ⟨rfl, bl⟩
  · have Hf := Lib.hid (lef_neg (show 1048576 - (l.length : Int) < 0 by omega))
    go_enter Try.func7, Try.ntmps7
    go_wp2_with fail
    refine (szShape_c _ _ _ _ _ _ hn (by omega) (by omega)).mono ?_
    rintro e w1 ⟨rfl, hb1⟩
    rw [Hf.out]
    go_wp2
    go_ret
    exact ⟨rfl, bl⟩
end Go.Proofs.Ytfapledohlckoaa
