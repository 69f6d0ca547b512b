/- Law: the program's ShapeTurn answers what the reference's answers, shares no memory; its argument reads as before. -/
import Derived.Test.YtfapledohlckoaaA
import Derived.Test.YtfapledohlckoaaTd
namespace Go.Proofs.Ytfapledohlckoaa
open Go.RowKit Go.Proofs.YtfapledohlckoaaW.PrintWords Go.Proofs.YtfapledohlckoaaW.PrintLast
set_option linter.unusedVariables false
set_option linter.unusedSimpArgs false
def l_FnExactShapeTurn_T10 : Bool × List (List Nat × List Nat) := (true, [([], []), ([], []), ([1], [1]), ([0, 2, 2], [0, 2]), ([3], [3])])
theorem l_FnExactShapeTurn_t10 : rtab .any (opsOf Try.f16 10) = l_FnExactShapeTurn_T10 := by kernel_rfl
set_option maxHeartbeats 4000000 in
theorem FnExactShapeTurn_c (K : Int) (A : Option Addr) (c : Nat) (l : List Pt) (w : World) (hl : kPt.C w A l.length l) (hn : (l.length : Int) ≤ 140737488351232) :
    Calls Try.prog 16 #[.agg #[.int .i64 K, .slice A l.length c]] w fun e w' => e = .returned (.bool true) ∧ Below w.heap.size w w' := by
  by_cases hs : (l.length : Int) ≤ 1048576
  · have Hf := Lib.hid (lef_pos (show 0 ≤ 1048576 - (l.length : Int) by omega))
    have hn2 : l.length ≤ 1048576 := by omega
    have hn3 : (turn K l).2.length ≤ 1048576 := Nat.le_trans (turn_len K l) hn2
    go_enter Try.func16, Try.ntmps16
    go_wp2_with fail
    refine (szShape_c _ _ _ _ _ _ hn (by omega) (by omega)).mono ?_
    rintro e w1 ⟨rfl, hb1⟩
    rw [Hf.out]
    have HC := (Cells.nil w).box hb1
    obtain ⟨a0, a1, _⟩ := HC.all
    go_wp2_with fail
    refine (toShape_c _ _ _ _ _ (Kd.C_below hl bl) hn2).mono ?_
    rintro e w2 ⟨A2, c2, rfl, hr2, hb2⟩
    replace HC := HC.to hb2
    clear a0 a1
    obtain ⟨a0, a1, _⟩ := HC.all
    go_wp2_with fail
    refine (sShapeTurn_c _ _ _ _ _ hr2.rd.2.2 hr2.rd.2.1 hn2).mono ?_
    rintro e w3 ⟨A3, c3, rfl, hr3, hb3⟩
    replace HC := HC.to hb3
    clear a0 a1
    obtain ⟨a0, a1, _⟩ := HC.all
    go_wp2_with fail
    refine (toShape_c _ _ _ _ _ (Kd.C_below hl bl) hn2).mono ?_
    rintro e w4 ⟨A4, c4, rfl, hr4, hb4⟩
    replace HC := HC.box hb4
    clear a0 a1
    obtain ⟨p0, p1, a0, a1, _⟩ := HC.all
    go_wp2_with fail
    refine (iShapeTurn_c _ _ _ _ _ (Kd.C_below hr4.rd.2.2 bl) hr4.rd.2.1 hn2).mono ?_
    rintro e w5 ⟨A5, c5, rfl, hr5, hb5⟩
    replace HC := HC.box hb5
    clear a0 a1 p0 p1
    obtain ⟨x0, x1, p0, p1, a0, a1, _⟩ := HC.all
    go_wp2_with fail
    refine (eqShape_c _ _ _ _ _ _ (turn K l).2 (turn K l).2 _ (Kd.C_below hr5.rd.2.2 bl) (Kd.C_below hr3.rd.2.2 bl) hn3 hn3).mono ?_
    rintro e w6 ⟨rfl, hb6⟩
    rw [eqB_t.2 rfl]
    replace HC := HC.box hb6
    clear a0 a1 p0 p1 x0 x1
    obtain ⟨y0, y1, x0, x1, p0, p1, a0, a1, _⟩ := HC.all
    go_wp2
    refine rgStart 5 [0, 1, 2, 3, 4] l_FnExactShapeTurn_t10 (fun HT HS => ?_)
    repeat ((with_reducible refine rgGate ?_); first | refine rgP HT ?_ | refine rgL HT ?_ | refine rgG HT ?_)
    refine rgCall HT Try.func21 (toShape_c K A c l _ (Kd.C_below hl bl) hn2) ?_
    rintro e w7 ⟨A7, c7, rfl, hr7, hb7⟩
    refine ⟨_, rfl, bl, rgN ?_⟩
    repeat ((with_reducible refine rgGate ?_); first | refine rgP HT ?_ | refine rgL HT ?_ | refine rgG HT ?_)
    refine rgCall HT Try.func23 (eqShape_c K K A4 A7 c4 c7 l l _ (Kd.C_below hr4.rd.2.2 bl) hr7.rd.2.2 hn2 hn2) ?_
    rintro e w8 ⟨rfl, hb8⟩
    refine ⟨_, rfl, bl, rgN ?_⟩
    rw [eqB_t.2 rfl]
    repeat ((with_reducible refine rgGate ?_); first | refine rgP HT ?_ | refine rgL HT ?_ | refine rgG HT ?_)
    refine rgDone HT ?_
    clear HT HS
    replace HC := HC.to (bl : Below w6.heap.size w6 w8)
    have r3 : RI kPt 40 w8 w2.heap.size w3.heap.size (.slice A3 (turn K l).2.length c3) (turn K l).2 := hr3.below bl
    have r4 : RI kPt 40 w8 (w3.heap.size + 1) w4.heap.size (.slice A4 l.length c4) l := by
      have := hr4.below (bl : Below w4.heap.size w4 w8)
      simpa only [World.size_alloc] using this
    have r5 : RI kPt 40 w8 (w4.heap.size + 1) w5.heap.size (.slice A5 (turn K l).2.length c5) (turn K l).2 := by
      have := hr5.below (bl : Below w5.heap.size w5 w8)
      simpa only [World.size_alloc] using this
    have B8 : Below w.heap.size w w8 := bl
    have s1 := hb1.size
    have s2 := hb2.size
    have s3 := hb3.size
    have s4 := hb4.size
    have s5 := hb5.size
    have s6 := hb6.size
    simp only [World.size_alloc] at s1 s4 s5 s6
    clear a0 a1 p0 p1 x0 x1 y0 y1
    obtain ⟨y0, y1, x0, x1, p0, p1, a0, a1, _⟩ := HC.all
    go_wp2_with fail
    refine (markShape_c _ _ _ _ 1 (w3.heap.size + 1) w4.heap.size _ r4 hn2 (by omega) (by omega) (by have := hb8.size; have := hb7.size; simp only [World.size_drew] at *; omega)).mono ?_
    rintro e w9 ⟨rfl, m4, hx9⟩
    replace r3 := r3.ex hx9 (Or.inl (by omega))
    replace r5 := r5.ex hx9 (Or.inr (by omega))
    replace HC := HC.ex hx9 (fun x hx_ => by simp only [List.mem_cons, List.mem_nil_iff, or_false] at hx_; rcases hx_ with rfl | rfl | rfl | rfl | rfl | rfl | rfl | rfl <;> simp only [] <;> omega)
    have B9 : Below w.heap.size w w9 := B8.trans (hx9.1.mono (by omega))
    have t1 : decide (1 + 2 * (l.length : Int) < 0) = false := by simp; omega
    clear a0 a1 p0 p1 x0 x1 y0 y1
    obtain ⟨y0, y1, x0, x1, p0, p1, a0, a1, _⟩ := HC.all
    go_wp2_with fail
    refine (eqShape_c _ _ _ _ _ _ (turn K l).2 (turn K l).2 _ r5.rd.2.2 r3.rd.2.2 hn3 hn3).mono ?_
    rintro e w10 ⟨rfl, hb10⟩
    rw [eqB_t.2 rfl]
    replace r3 := r3.below hb10
    replace r5 := r5.below hb10
    replace HC := HC.to hb10
    have B10 : Below w.heap.size w w10 := bl
    have s9 := hx9.1.size
    have s10 := hb10.size
    have s8 : w5.heap.size + 1 ≤ w8.heap.size := by have := hb8.size; have := hb7.size; simp only [World.size_drew] at *; omega
    clear a0 a1 p0 p1 x0 x1 y0 y1
    obtain ⟨y0, y1, x0, x1, p0, p1, a0, a1, _⟩ := HC.all
    go_wp2_with fail
    refine (markShape_c _ _ _ _ 1 (w4.heap.size + 1) w5.heap.size _ r5 hn3 (by omega) (by omega) (by omega)).mono ?_
    rintro e w11 ⟨rfl, m5, hx11⟩
    replace r3 := r3.ex hx11 (Or.inl (by omega))
    have mC : kPt.C w11 A5 (turn K l).2.length (markL 1 (turn K l).2.length) := by have := m5.rd.2.2; rwa [markL_len] at this
    replace HC := HC.ex hx11 (fun x hx_ => by simp only [List.mem_cons, List.mem_nil_iff, or_false] at hx_; rcases hx_ with rfl | rfl | rfl | rfl | rfl | rfl | rfl | rfl <;> simp only [] <;> omega)
    have B11 : Below w.heap.size w w11 := B10.trans (hx11.1.mono (by omega))
    have t2 : decide (1 + 2 * ((turn K l).2.length : Int) < 0) = false := by simp; omega
    clear a0 a1 p0 p1 x0 x1 y0 y1
    obtain ⟨y0, y1, x0, x1, p0, p1, a0, a1, _⟩ := HC.all
    go_wp2_with fail
    refine (heldShape_c _ _ _ _ 1 _ mC hn3 (by omega) (by omega)).mono ?_
    rintro e w12 ⟨rfl, hb12⟩
    replace HC := HC.to hb12
    clear a0 a1 p0 p1 x0 x1 y0 y1
    obtain ⟨y0, y1, x0, x1, p0, p1, a0, a1, _⟩ := HC.all
    go_wp2_with fail
    refine (toShape_c _ _ _ _ _ (Kd.C_below hl bl) hn2).mono ?_
    rintro e w13 ⟨A13, c13, rfl, hr13, hb13⟩
    replace HC := HC.to hb13
    clear a0 a1 p0 p1 x0 x1 y0 y1
    obtain ⟨y0, y1, x0, x1, p0, p1, a0, a1, _⟩ := HC.all
    go_wp2_with fail
    refine (iShapeTurn_c _ _ _ _ _ hr13.rd.2.2 hr13.rd.2.1 hn2).mono ?_
    rintro e w14 ⟨A14, c14, rfl, hr14, hb14⟩
    replace HC := HC.to hb14
    clear a0 a1 p0 p1 x0 x1 y0 y1
    obtain ⟨y0, y1, x0, x1, p0, p1, a0, a1, _⟩ := HC.all
    go_wp2_with fail
    refine (eqShape_c _ _ _ _ _ _ (turn K l).2 (turn K l).2 _ (Kd.C_below hr14.rd.2.2 bl) (Kd.C_below r3.rd.2.2 bl) hn3 hn3).mono ?_
    rintro e w15 ⟨rfl, hb15⟩
    rw [eqB_t.2 rfl]
    replace HC := HC.box hb15
    clear a0 a1 p0 p1 x0 x1 y0 y1
    obtain ⟨z0, z1, y0, y1, x0, x1, p0, p1, a0, a1, _⟩ := HC.all
    go_wp2_with fail
    refine (heldShape_c _ _ _ _ 1 _ (Kd.C_below mC bl) hn3 (by omega) (by omega)).mono ?_
    rintro e w16 ⟨rfl, hb16⟩
    go_wp2
    go_ret
    exact ⟨rfl, bl⟩
  · have Hf := Lib.hid (lef_neg (show 1048576 - (l.length : Int) < 0 by omega))
    go_enter Try.func16, Try.ntmps16
    go_wp2_with fail
    refine (szShape_c _ _ _ _ _ _ hn (by omega) (by omega)).mono ?_
    rintro e w1 ⟨rfl, hb1⟩
    rw [Hf.out]
    go_wp2
    go_ret
    exact ⟨rfl, bl⟩
end Go.Proofs.Ytfapledohlckoaa
