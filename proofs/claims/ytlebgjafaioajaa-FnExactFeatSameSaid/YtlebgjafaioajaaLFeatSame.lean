/- Law: the program's FeatSame answers what the reference's answers, at any two things; its arguments read as before. -/
import Derived.Test.YtlebgjafaioajaaFd
namespace Go.Proofs.Ytlebgjafaioajaa
open Go.RowKit Go.Proofs.YtlebgjafaioajaaW.PrintWords Go.Proofs.YtlebgjafaioajaaW.PrintLast
set_option linter.unusedVariables false
set_option linter.unusedSimpArgs false
def l_FnExactFeatSame_T8 : Bool × List (List Nat × List Nat) := (true, [([], []), ([0], [0]), ([], []), ([2, 1], [2]), ([1, 3, 3], [1, 3]), ([4, 4, 0, 1, 2, 3, 4], [4])])
theorem l_FnExactFeatSame_t8 : rtab .any (opsOf Try.f3 8) = l_FnExactFeatSame_T8 := by kernel_rfl
def l_FnExactFeatSame_T14 : Bool × List (List Nat × List Nat) := (true, [([], []), ([], []), ([1], [1]), ([0, 2, 2], [0, 2]), ([3], [3])])
theorem l_FnExactFeatSame_t14 : rtab .any (opsOf Try.f3 14) = l_FnExactFeatSame_T14 := by kernel_rfl
def l_FnExactFeatSame_T16 : Bool × List (List Nat × List Nat) := (true, [([], []), ([], []), ([1], [1]), ([0, 2, 2], [0, 2]), ([3], [3])])
theorem l_FnExactFeatSame_t16 : rtab .any (opsOf Try.f3 16) = l_FnExactFeatSame_T16 := by kernel_rfl
theorem featSz_pts (f : FeatD) : f.2.1.2.length ≤ featSz f := by unfold featSz; omega
theorem featSz_tags (f : FeatD) : f.2.2.length ≤ featSz f := by unfold featSz; omega
set_option maxHeartbeats 4000000 in
theorem FnExactFeatSame_c (f : FeatD) (A : Option Addr) (c : Nat) (B : Option Addr) (d : Nat) (g : FeatD) (A' : Option Addr) (c' : Nat) (B' : Option Addr) (d' : Nat) (w : World) (hl : kPt.C w A f.2.1.2.length f.2.1.2) (hm : kTag.C w B f.2.2.length f.2.2) (hF : FIn f) (hl' : kPt.C w A' g.2.1.2.length g.2.1.2) (hm' : kTag.C w B' g.2.2.length g.2.2) (hF' : FIn g) :
    Calls Try.prog 3 #[featV f A c B d, featV g A' c' B' d'] w fun e w' => e = .returned (.bool true) ∧ Below w.heap.size w w' := by
  have hx := fun a w hm h0 ha => szFeat_c f A c B d a w hm hF h0 ha
  have hy := fun a w hm h0 ha => szFeat_c g A' c' B' d' a w hm hF' h0 ha
  have hxs := featSz_pts f
  have hxt := featSz_tags f
  have hys := featSz_pts g
  have hyt := featSz_tags g
  by_cases hs : (featSz f : Int) ≤ 1048576
  · have Hf := Lib.hid (lef_pos (show 0 ≤ 1048576 - (featSz f : Int) by omega))
    by_cases hs2 : (featSz f : Int) + featSz g ≤ 1048576
    · have Hf2 := Lib.hid (lef_pos (show 0 ≤ 1048576 - (featSz f : Int) - featSz g by omega))
      have n1 : f.2.1.2.length ≤ 1048576 := by omega
      have n2 : f.2.2.length ≤ 1048576 := by omega
      have n3 : g.2.1.2.length ≤ 1048576 := by omega
      have n4 : g.2.2.length ≤ 1048576 := by omega
      have z0 : 0 ≤ 1048576 - (featSz f : Int) := by omega
      have z1 : 1048576 - (featSz f : Int) ≤ 1048576 := by omega
      have z2 : 0 ≤ 1048576 - (featSz f : Int) - featSz g := by omega
      have HX := Lib.hid hx
      have HY := Lib.hid hy
      clear hx hy hxs hxt hys hyt
      go_enter Try.func3, Try.ntmps3
      go_wp2_with fail
      refine (HX.out _ _ (Kd.C_below hm bl) (by omega) (by omega)).mono ?_
      rintro e w1 ⟨rfl, hb1⟩
      rw [Hf.out]
      have HC := ((Cells.nil w).box4 bl).box4 hb1
      simp only [World.size_alloc] at HC
      obtain ⟨h0, h1, h2, h3, h4, h5, h6, h7, _⟩ := HC.all
      go_wp2_with fail
      refine (HY.out _ _ (Kd.C_below hm' bl) z0 z1).mono ?_
      rintro e w2 ⟨rfl, hb2⟩
      rw [Hf2.out]
      replace HC := HC.to hb2
      clear h0 h1 h2 h3 h4 h5 h6 h7
      obtain ⟨h0, h1, h2, h3, h4, h5, h6, h7, _⟩ := HC.all
      go_wp2
      refine rgStart 6 [0, 2, 1, 3, 4, 5] l_FnExactFeatSame_t8 (fun HT HS => ?_)
      repeat ((with_reducible refine rgGate ?_); first | refine rgP HT ?_ | refine rgL HT ?_ | refine rgG HT ?_)
      refine rgCall HT Try.func21 (toFeat_c f A c B d _ (Kd.C_below hl bl) (Kd.C_below hm bl) n1 n2) ?_
      rintro e w3 ⟨A3, c3, B3, d3, rfl, hr3, ht3, hb3⟩
      refine ⟨_, rfl, bl, rgN ?_⟩
      repeat ((with_reducible refine rgGate ?_); first | refine rgP HT ?_ | refine rgL HT ?_ | refine rgG HT ?_)
      refine rgCall HT Try.func21 (toFeat_c g A' c' B' d' _ (Kd.C_below hl' bl) (Kd.C_below hm' bl) n3 n4) ?_
      rintro e w4 ⟨A4, c4, B4, d4, rfl, hr4, ht4, hb4⟩
      refine ⟨_, rfl, bl, rgN ?_⟩
      repeat ((with_reducible refine rgGate ?_); first | refine rgP HT ?_ | refine rgL HT ?_ | refine rgG HT ?_)
      refine rgCall HT Try.func20 (sFeatSame_c f g A3 c3 B3 d3 A4 c4 B4 d4 _ (Kd.C_below hr3.rd.2.2 bl) (Kd.C_below ht3.rd.2.2 bl) hr4.rd.2.2 ht4.rd.2.2 n1 n2 n3 n4) ?_
      rintro e w5 ⟨rfl, hb5⟩
      refine ⟨_, rfl, bl, rgN ?_⟩
      repeat ((with_reducible refine rgGate ?_); first | refine rgP HT ?_ | refine rgL HT ?_ | refine rgG HT ?_)
      refine rgDone HT ?_
      clear HT HS
      replace HC := HC.to (bl : Below w2.heap.size w2 w5)
      clear h0 h1 h2 h3 h4 h5 h6 h7
      obtain ⟨h0, h1, h2, h3, h4, h5, h6, h7, _⟩ := HC.all
      go_wp2_with fail
      refine (toFeat_c f A c B d _ (Kd.C_below hl bl) (Kd.C_below hm bl) n1 n2).mono ?_
      rintro e w6 ⟨A6, c6, B6, d6, rfl, hr6, ht6, hb6⟩
      replace HC : Cells (w6.alloc (.cells #[.string f.1, .int .i64 f.2.1.1, .slice A6 f.2.1.2.length c6, .slice B6 f.2.2.length d6] 35)) _ := (HC.to hb6).box4 (Below.refl _ _)
      clear h0 h1 h2 h3 h4 h5 h6 h7
      obtain ⟨h0, h1, h2, h3, h4, h5, h6, h7, h8, h9, h10, h11, _⟩ := HC.all
      go_wp2_with fail
      refine (toFeat_c g A' c' B' d' _ (Kd.C_below hl' bl) (Kd.C_below hm' bl) n3 n4).mono ?_
      rintro e w7 ⟨A7, c7, B7, d7, rfl, hr7, ht7, hb7⟩
      replace HC : Cells (w7.alloc (.cells #[.string g.1, .int .i64 g.2.1.1, .slice A7 g.2.1.2.length c7, .slice B7 g.2.2.length d7] 35)) _ := (HC.to hb7).box4 (Below.refl _ _)
      clear h0 h1 h2 h3 h4 h5 h6 h7 h8 h9 h10 h11
      obtain ⟨h0, h1, h2, h3, h4, h5, h6, h7, h8, h9, h10, h11, h12, h13, h14, h15, _⟩ := HC.all
      go_wp2_with fail
      refine (iFeatSame_c f g A6 c6 B6 d6 A7 c7 B7 d7 _ (Kd.C_below hr6.rd.2.2 bl) (Kd.C_below ht6.rd.2.2 bl) (Kd.C_below hr7.rd.2.2 bl) (Kd.C_below ht7.rd.2.2 bl) n1 n2 n3 n4).mono ?_
      rintro e w8 ⟨rfl, hb8⟩
      replace HC := HC.to hb8
      clear h0 h1 h2 h3 h4 h5 h6 h7 h8 h9 h10 h11 h12 h13 h14 h15
      obtain ⟨h0, h1, h2, h3, h4, h5, h6, h7, h8, h9, h10, h11, h12, h13, h14, h15, _⟩ := HC.all
      go_wp2
      refine rgStart 5 [0, 1, 2, 3, 4] l_FnExactFeatSame_t14 (fun HT HS => ?_)
      repeat ((with_reducible refine rgGate ?_); first | refine rgP HT ?_ | refine rgL HT ?_ | refine rgG HT ?_)
      refine rgCall HT Try.func21 (toFeat_c f A c B d _ (Kd.C_below hl bl) (Kd.C_below hm bl) n1 n2) ?_
      rintro e w9 ⟨A9, c9, B9, d9, rfl, hr9, ht9, hb9⟩
      refine ⟨_, rfl, bl, rgN ?_⟩
      repeat ((with_reducible refine rgGate ?_); first | refine rgP HT ?_ | refine rgL HT ?_ | refine rgG HT ?_)
      refine rgCall HT Try.func23 (eqFeat_c f f A6 c6 B6 d6 A9 c9 B9 d9 _ (Kd.C_below hr6.rd.2.2 bl) (Kd.C_below ht6.rd.2.2 bl) hr9.rd.2.2 ht9.rd.2.2 n1 n2 n1 n2) ?_
      rintro e w10 ⟨rfl, hb10⟩
      refine ⟨_, rfl, bl, rgN ?_⟩
      rw [eqB_t.2 rfl]
      repeat ((with_reducible refine rgGate ?_); first | refine rgP HT ?_ | refine rgL HT ?_ | refine rgG HT ?_)
      refine rgDone HT ?_
      clear HT HS
      replace HC := HC.to (bl : Below w8.heap.size w8 w10)
      clear h0 h1 h2 h3 h4 h5 h6 h7 h8 h9 h10 h11 h12 h13 h14 h15
      obtain ⟨h0, h1, h2, h3, h4, h5, h6, h7, h8, h9, h10, h11, h12, h13, h14, h15, _⟩ := HC.all
      go_wp2
      refine rgStart 5 [0, 1, 2, 3, 4] l_FnExactFeatSame_t16 (fun HT HS => ?_)
      repeat ((with_reducible refine rgGate ?_); first | refine rgP HT ?_ | refine rgL HT ?_ | refine rgG HT ?_)
      refine rgCall HT Try.func21 (toFeat_c g A' c' B' d' _ (Kd.C_below hl' bl) (Kd.C_below hm' bl) n3 n4) ?_
      rintro e w11 ⟨A11, c11, B11, d11, rfl, hr11, ht11, hb11⟩
      refine ⟨_, rfl, bl, rgN ?_⟩
      repeat ((with_reducible refine rgGate ?_); first | refine rgP HT ?_ | refine rgL HT ?_ | refine rgG HT ?_)
      refine rgCall HT Try.func23 (eqFeat_c g g A7 c7 B7 d7 A11 c11 B11 d11 _ (Kd.C_below hr7.rd.2.2 bl) (Kd.C_below ht7.rd.2.2 bl) hr11.rd.2.2 ht11.rd.2.2 n3 n4 n3 n4) ?_
      rintro e w12 ⟨rfl, hb12⟩
      refine ⟨_, rfl, bl, rgN ?_⟩
      rw [eqB_t.2 rfl]
      repeat ((with_reducible refine rgGate ?_); first | refine rgP HT ?_ | refine rgL HT ?_ | refine rgG HT ?_)
      refine rgDone HT ?_
      clear HT HS
      go_wp2
      go_ret
      exact ⟨rfl, bl⟩
    · have Hf2 := Lib.hid (lef_neg (show 1048576 - (featSz f : Int) - featSz g < 0 by omega))
      have z0 : 0 ≤ 1048576 - (featSz f : Int) := by omega
      have z1 : 1048576 - (featSz f : Int) ≤ 1048576 := by omega
      have HX := Lib.hid hx
      have HY := Lib.hid hy
      clear hx hy
      go_enter Try.func3, Try.ntmps3
      go_wp2_with fail
      refine (HX.out _ _ (Kd.C_below hm bl) (by omega) (by omega)).mono ?_
      rintro e w1 ⟨rfl, hb1⟩
      rw [Hf.out]
      have HC := ((Cells.nil w).box4 bl).box4 hb1
      simp only [World.size_alloc] at HC
      obtain ⟨h0, h1, h2, h3, h4, h5, h6, h7, _⟩ := HC.all
      go_wp2_with fail
      refine (HY.out _ _ (Kd.C_below hm' bl) z0 z1).mono ?_
      rintro e w2 ⟨rfl, hb2⟩
      rw [Hf2.out]
      go_wp2
      go_ret
      exact ⟨rfl, bl⟩
  · have Hf := Lib.hid (lef_neg (show 1048576 - (featSz f : Int) < 0 by omega))
    have HX := Lib.hid hx
    clear hx hy
    go_enter Try.func3, Try.ntmps3
    go_wp2_with fail
    refine (HX.out _ _ (Kd.C_below hm bl) (by omega) (by omega)).mono ?_
    rintro e w1 ⟨rfl, hb1⟩
    rw [Hf.out]
    go_wp2
    go_ret
    exact ⟨rfl, bl⟩
end Go.Proofs.Ytlebgjafaioajaa
