/- Law: the program's ShapeSame answers what the reference's answers, at any two shapes; its arguments read as before. -/
import Derived.Test.YtfapledohlckoaaA
import Derived.Test.YtfapledohlckoaaS
namespace Go.Proofs.Ytfapledohlckoaa
open Go.RowKit Go.Proofs.YtfapledohlckoaaW.PrintWords Go.Proofs.YtfapledohlckoaaW.PrintLast
set_option linter.unusedVariables false
set_option linter.unusedSimpArgs false
def l_FnExactShapeSame_T8 : Bool × List (List Nat × List Nat) := (true, [([], []), ([0], [0]), ([], []), ([2, 1], [2]), ([1, 3, 3], [1, 3]), ([4, 4, 0, 1, 2, 3, 4], [4])])
theorem l_FnExactShapeSame_t8 : rtab .any (opsOf Try.f5 8) = l_FnExactShapeSame_T8 := by kernel_rfl
def l_FnExactShapeSame_T14 : Bool × List (List Nat × List Nat) := (true, [([], []), ([], []), ([1], [1]), ([0, 2, 2], [0, 2]), ([3], [3])])
theorem l_FnExactShapeSame_t14 : rtab .any (opsOf Try.f5 14) = l_FnExactShapeSame_T14 := by kernel_rfl
def l_FnExactShapeSame_T16 : Bool × List (List Nat × List Nat) := (true, [([], []), ([], []), ([1], [1]), ([0, 2, 2], [0, 2]), ([3], [3])])
theorem l_FnExactShapeSame_t16 : rtab .any (opsOf Try.f5 16) = l_FnExactShapeSame_T16 := by kernel_rfl
set_option maxHeartbeats 4000000 in
theorem FnExactShapeSame_c (K : Int) (A : Option Addr) (c : Nat) (l : List Pt) (L : Int) (B : Option Addr) (d : Nat) (m : List Pt) (w : World) (hl : kPt.C w A l.length l) (hn : (l.length : Int) ≤ 140737488351232) (hm : kPt.C w B m.length m) (hn' : (m.length : Int) ≤ 140737488351232) :
    Calls Try.prog 5 #[.agg #[.int .i64 K, .slice A l.length c], .agg #[.int .i64 L, .slice B m.length d]] w fun e w' => e = .returned (.bool true) ∧ Below w.heap.size w w' := by
  by_cases hs : (l.length : Int) ≤ 1048576
  · have Hf := Lib.hid (lef_pos (show 0 ≤ 1048576 - (l.length : Int) by omega))
    have hn2 : l.length ≤ 1048576 := by omega
    by_cases hs2 : (l.length : Int) + m.length ≤ 1048576
    · have Hf2 := Lib.hid (lef_pos (show 0 ≤ 1048576 - (l.length : Int) - m.length by omega))
      have hm2 : m.length ≤ 1048576 := by omega
      go_enter Try.func5, Try.ntmps5
      go_wp2_with fail
      refine (szShape_c _ _ _ _ _ _ hn (by omega) (by omega)).mono ?_
      rintro e w1 ⟨rfl, hb1⟩
      rw [Hf.out]
      have HC := ((Cells.nil w).box bl).box hb1
      simp only [World.size_alloc] at HC
      obtain ⟨b0, b1, a0, a1, _⟩ := HC.all
      go_wp2_with fail
      refine (szShape_c _ _ _ _ _ _ hn' (by omega) (by omega)).mono ?_
      rintro e w2 ⟨rfl, hb2⟩
      rw [Hf2.out]
      replace HC := HC.to hb2
      clear a0 a1 b0 b1
      obtain ⟨b0, b1, a0, a1, _⟩ := HC.all
      go_wp2
      refine rgStart 6 [0, 2, 1, 3, 4, 5] l_FnExactShapeSame_t8 (fun HT HS => ?_)
      repeat ((with_reducible refine rgGate ?_); first | refine rgP HT ?_ | refine rgL HT ?_ | refine rgG HT ?_)
      refine rgCall HT Try.func21 (toShape_c K A c l _ (Kd.C_below hl bl) hn2) ?_
      rintro e w3 ⟨A3, c3, rfl, hr3, hb3⟩
      refine ⟨_, rfl, bl, rgN ?_⟩
      refine rgCall HT Try.func21 (toShape_c L B d m _ (Kd.C_below hm bl) hm2) ?_
      rintro e w4 ⟨A4, c4, rfl, hr4, hb4⟩
      refine ⟨_, rfl, bl, rgN ?_⟩
      refine rgCall HT Try.func20 (sShapeSame_c K L A3 A4 c3 c4 l m w4 (Kd.C_below hr3.rd.2.2 bl) hr4.rd.2.2 hn2 hm2) ?_
      rintro e w5 ⟨rfl, hb5⟩
      refine ⟨_, rfl, bl, rgN ?_⟩
      repeat ((with_reducible refine rgGate ?_); first | refine rgP HT ?_ | refine rgL HT ?_ | refine rgG HT ?_)
      refine rgDone HT ?_
      replace HC := HC.to (bl : Below w2.heap.size w2 w5)
      clear a0 a1 b0 b1
      obtain ⟨b0, b1, a0, a1, _⟩ := HC.all
      go_wp2_with fail
      refine (toShape_c _ _ _ _ _ (Kd.C_below hl bl) hn2).mono ?_
      rintro e w6 ⟨A6, c6, rfl, hr6, hb6⟩
      replace HC := HC.to hb6
      clear a0 a1 b0 b1
      obtain ⟨b0, b1, a0, a1, _⟩ := HC.all
      go_wp2_with fail
      refine (toShape_c _ _ _ _ _ (Kd.C_below hm bl) hm2).mono ?_
      rintro e w7 ⟨A7, c7, rfl, hr7, hb7⟩
      replace HC := HC.box hb7
      clear a0 a1 b0 b1
      obtain ⟨d0, d1, b0, b1, a0, a1, _⟩ := HC.all
      go_wp2_with fail
      refine (iShapeSame_c _ _ _ _ _ _ _ _ _ (Kd.C_below hr6.rd.2.2 bl) (Kd.C_below hr7.rd.2.2 bl) hn2 hm2).mono ?_
      rintro e w8 ⟨rfl, hb8⟩
      replace HC := HC.box hb8
      clear a0 a1 b0 b1 d0 d1
      obtain ⟨f0, f1, d0, d1, b0, b1, a0, a1, _⟩ := HC.all
      go_wp2
      refine rgStart 5 [0, 1, 2, 3, 4] l_FnExactShapeSame_t14 (fun HT HS => ?_)
      repeat ((with_reducible refine rgGate ?_); first | refine rgP HT ?_ | refine rgL HT ?_ | refine rgG HT ?_)
      refine rgCall HT Try.func21 (toShape_c K A c l _ (Kd.C_below hl bl) hn2) ?_
      rintro e w9 ⟨A9, c9, rfl, hr9, hb9⟩
      refine ⟨_, rfl, bl, rgN ?_⟩
      refine rgCall HT Try.func23 (eqShape_c K K A6 A9 c6 c9 l l w9 (Kd.C_below hr6.rd.2.2 bl) hr9.rd.2.2 hn2 hn2) ?_
      rintro e w10 ⟨rfl, hb10⟩
      refine ⟨_, rfl, bl, rgN ?_⟩
      rw [eqB_t.2 rfl]
      repeat ((with_reducible refine rgGate ?_); first | refine rgP HT ?_ | refine rgL HT ?_ | refine rgG HT ?_)
      refine rgDone HT ?_
      replace HC := HC.to (bl : Below w8.heap.size w8 w10)
      clear a0 a1 b0 b1 d0 d1 f0 f1
      obtain ⟨f0, f1, d0, d1, b0, b1, a0, a1, _⟩ := HC.all
      go_wp2
      refine rgStart 5 [0, 1, 2, 3, 4] l_FnExactShapeSame_t16 (fun HT HS => ?_)
      repeat ((with_reducible refine rgGate ?_); first | refine rgP HT ?_ | refine rgL HT ?_ | refine rgG HT ?_)
      refine rgCall HT Try.func21 (toShape_c L B d m _ (Kd.C_below hm bl) hm2) ?_
      rintro e w11 ⟨A11, c11, rfl, hr11, hb11⟩
      refine ⟨_, rfl, bl, rgN ?_⟩
      refine rgCall HT Try.func23 (eqShape_c L L A7 A11 c7 c11 m m w11 (Kd.C_below hr7.rd.2.2 bl) hr11.rd.2.2 hm2 hm2) ?_
      rintro e w12 ⟨rfl, hb12⟩
      refine ⟨_, rfl, bl, rgN ?_⟩
      rw [eqB_t.2 rfl]
      repeat ((with_reducible refine rgGate ?_); first | refine rgP HT ?_ | refine rgL HT ?_ | refine rgG HT ?_)
      refine rgDone HT ?_
      go_wp2
      go_ret
      exact ⟨rfl, bl⟩
    · have Hf2 := Lib.hid (lef_neg (show 1048576 - (l.length : Int) - m.length < 0 by omega))
      go_enter Try.func5, Try.ntmps5
      go_wp2_with fail
      refine (szShape_c _ _ _ _ _ _ hn (by omega) (by omega)).mono ?_
      rintro e w1 ⟨rfl, hb1⟩
      rw [Hf.out]
      have HC := ((Cells.nil w).box bl).box hb1
      simp only [World.size_alloc] at HC
      obtain ⟨b0, b1, a0, a1, _⟩ := HC.all
      go_wp2_with fail
      refine (szShape_c _ _ _ _ _ _ hn' (by omega) (by omega)).mono ?_
      rintro e w2 ⟨rfl, hb2⟩
      rw [Hf2.out]
      go_wp2
      go_ret
      exact ⟨rfl, bl⟩
  · have Hf := Lib.hid (lef_neg (show 1048576 - (l.length : Int) < 0 by omega))
    go_enter Try.func5, Try.ntmps5
    go_wp2_with fail
    refine (szShape_c _ _ _ _ _ _ hn (by omega) (by omega)).mono ?_
    rintro e w1 ⟨rfl, hb1⟩
    rw [Hf.out]
    go_wp2
    go_ret
    exact ⟨rfl, bl⟩
end Go.Proofs.Ytfapledohlckoaa
