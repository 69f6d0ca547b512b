/- Law: a drawn shape, the last point first twice, is as it was; its area is the opposite, and its box the same. -/
import Derived.Test.YtfapledohlckoaaS
import Derived.Test.YtfapledohlckoaaD
import Derived.Test.YtfapledohlckoaaF
import Derived.Test.YtfapledohlckoaaDu
import Derived.Test.YtfapledohlckoaaQc
namespace Go.Proofs.Ytfapledohlckoaa
open Go.RowKit Go.Proofs.YtfapledohlckoaaW.PrintWords Go.Proofs.YtfapledohlckoaaW.PrintLast
set_option linter.unusedVariables false
set_option linter.unusedSimpArgs false
attribute [local go_sem high] eqPtOp
theorem bneB {α : Type} [DecidableEq α] {x y : α} (h : x = y) : eqB x y = true := eqB_t.2 h
def l_FnShapeBack_T5 : Bool × List (List Nat × List Nat) := (true, [([], []), ([], []), ([1], [1]), ([0, 2, 2], [0, 2]), ([3], [3]), ([4, 3], [4]), ([5], [5]), ([6, 5, 5], [5, 6]), ([5], [5]), ([8, 7, 5], [5, 8]), ([7, 9, 5], [5, 7, 9]), ([5, 10], [5, 10])])
theorem l_FnShapeBack_t5 : rtab .any (opsOf Try.f13 5) = l_FnShapeBack_T5 := by kernel_rfl
def l_FnShapeBack_T11 : Bool × List (List Nat × List Nat) := (true, [([], []), ([0], [0]), ([1, 1], [1]), ([2], [2]), ([3, 2, 2], [2, 3]), ([2], [2]), ([4, 5, 4, 2], [2, 4, 5]), ([2, 6], [2, 6]), ([7, 6], [7]), ([8], [8]), ([9, 8, 8], [8, 9]), ([8], [8]), ([11, 10, 8], [8, 11]), ([12, 8], [8, 12]), ([10, 13, 8], [8, 10, 13]), ([8, 14], [8, 14]), ([15, 12], [15]), ([16], [16]), ([16], [16]), ([17, 18, 16], [16, 17, 18]), ([16, 19], [16, 19]), ([20, 16], [20]), ([21], [21]), ([21], [21]), ([22, 23, 21], [21, 22, 23]), ([21, 24], [21, 24]), ([25, 21, 0, 1, 2, 3, 4, 5, 6, 7, 8, 9, 10, 11, 12, 13, 14, 15, 16, 17, 18, 19, 20, 21, 22, 23, 24, 25], [25])])
theorem l_FnShapeBack_t11 : rtab .any (opsOf Try.f13 11) = l_FnShapeBack_T11 := by kernel_rfl
set_option maxRecDepth 100000 in
set_option maxHeartbeats 4000000 in
theorem FnShapeBack_c (A : Option Addr) (c : Nat) (l : List Int) (w : World) (hl : (Kd.int .u8).C w A l.length l) (hn : (l.length : Int) ≤ 140737488351232) (hb : ∀ x ∈ l, 0 ≤ x ∧ x ≤ 255) (hc : l.length ≤ c) :
    Calls Try.prog 13 #[.slice A l.length c] w fun e w' => e = .returned (.bool true) ∧ Below w.heap.size w w' := by
  by_cases hs : (l.length : Int) ≤ 1048576
  · have hd : decide ((1048576 : Int) < (l.length : Int)) = false := decide_eq_false (by omega)
    go_enter Try.func13, Try.ntmps13
    go_wp2_with fail
    refine (DrawShapeBack_d A c l _ (Kd.C_below hl bl) hb hc (by omega)).mono ?_
    rintro e w1 ⟨K, A1, c1, p, rfl, hr1, hp16, hK0, hK4, hb1⟩
    have HC : Cells (w1.alloc (.cells #[.int .i64 K, .slice A1 p.length c1] 31)) _ := (Cells.nil w1).box (Below.refl _ _)
    obtain ⟨h0, h1, _⟩ := HC.all
    cases hok : shapeOk K p with
    | false =>
      have hbk : back K p = (0, []) := if_neg (shapeOk_f.1 hok)
      have har : area K p = 0 := if_neg fun h => shapeOk_f.1 hok h.1
      have hBk := iShapeBack_c K A1 c1 p (w1.alloc (.cells #[.int .i64 K, .slice A1 p.length c1] 31)) (Kd.C_below hr1.rd.2.2 bl) (by omega)
      have hBs := fun w hl => sShapeBack_c K A1 c1 p w hl (by omega)
      rw [hbk] at hBk
      simp only [hbk] at hBs
      have HBs := Lib.hid hBs
      clear hBs hbk
      go_wp2_with fail
      refine (hBk).mono ?_
      rintro e w2 ⟨A2, c2, rfl, hr2, hb2⟩
      clear hBk
      replace HC : Cells (w2.alloc (.cells #[.int .i64 0, .slice A2 0 c2] 31)) _ := (HC.to hb2).box (Below.refl _ _)
      clear h0 h1
      obtain ⟨h0, h1, h2, h3, _⟩ := HC.all
      go_wp2
      refine rgStart 12 [0, 1, 2, 3, 4, 5, 6, 8, 7, 9, 10, 11] l_FnShapeBack_t5 (fun HT HS => ?_)
      repeat ((with_reducible refine rgGate ?_); first | refine rgP HT ?_ | refine rgL HT ?_ | refine rgG HT ?_)
      refine rgCall HT Try.func33 (HBs.out _ (Kd.C_below hr1.rd.2.2 bl)) ?_
      rintro e w3 ⟨A3, c3, rfl, hr3, hb3⟩
      refine ⟨_, rfl, bl, rgN ?_⟩
      repeat ((with_reducible refine rgGate ?_); first | refine rgP HT ?_ | refine rgL HT ?_ | refine rgG HT ?_)
      refine rgCall HT Try.func22 (iShapeSame_c 0 0 A2 A3 c2 c3 [] [] _ (Kd.C_below hr2.rd.2.2 bl) hr3.rd.2.2 (by simp) (by simp)) ?_
      rintro e w4 ⟨rfl, hb4⟩
      refine ⟨_, rfl, bl, rgN ?_⟩
      rw [eqB_t.2 rfl]
      repeat ((with_reducible refine rgGate ?_); first | refine rgP HT ?_ | refine rgL HT ?_ | refine rgG HT ?_)
      refine rgCall HT Try.func27 (iShapeArea_c K A1 c1 p _ (Kd.C_below hr1.rd.2.2 bl) (by omega)) ?_
      rintro e w5 ⟨rfl, hb5⟩
      refine ⟨_, rfl, bl, rgN ?_⟩
      repeat ((with_reducible refine rgGate ?_); first | refine rgP HT ?_ | refine rgL HT ?_ | refine rgG HT ?_)
      refine rgCall HT Try.func26 (sShapeArea_c K A1 c1 p _ (Kd.C_below hr1.rd.2.2 bl) (by omega)) ?_
      rintro e w6 ⟨rfl, hb6⟩
      refine ⟨_, rfl, bl, rgN ?_⟩
      repeat ((with_reducible refine rgGate ?_); first | refine rgP HT ?_ | refine rgL HT ?_ | refine rgG HT ?_)
      refine rgDone HT ?_
      clear HT HS
      replace HC := HC.to (bl : Below (w2.alloc (.cells #[.int .i64 0, .slice A2 0 c2] 31)).heap.size (w2.alloc (.cells #[.int .i64 0, .slice A2 0 c2] 31)) w6)
      clear h0 h1 h2 h3
      obtain ⟨h0, h1, h2, h3, _⟩ := HC.all
      go_wp2_with fail
      refine (sShapeOk_c K A1 c1 p _ (Kd.C_below hr1.rd.2.2 bl) (by omega)).mono ?_
      rintro e w7 ⟨rfl, hb7⟩
      replace HC := HC.to hb7
      clear h0 h1 h2 h3
      obtain ⟨h0, h1, h2, h3, _⟩ := HC.all
      go_wp2_with fail
      refine (iShapeArea_c K A1 c1 p _ (Kd.C_below hr1.rd.2.2 bl) (by omega)).mono ?_
      rintro e w8 ⟨rfl, hb8⟩
      go_wp2
      go_ret
      exact ⟨rfl, bl⟩
    | true =>
      have HS := Lib.hid (shapeOk_t.1 hok)
      have hbk : back K p = (K, p.reverse) := if_pos (shapeOk_t.1 hok)
      have hbk2 : back K p.reverse = (K, p) := by rw [back, if_pos HS.out.rev, List.reverse_reverse]
      have hrl : p.reverse.length = p.length := List.length_reverse
      have hBk := iShapeBack_c K A1 c1 p (w1.alloc (.cells #[.int .i64 K, .slice A1 p.length c1] 31)) (Kd.C_below hr1.rd.2.2 bl) (by omega)
      have hBs := fun w hl => sShapeBack_c K A1 c1 p w hl (by omega)
      have hBb := fun A c w hl => iShapeBack_c K A c p.reverse w hl (by omega)
      rw [hbk] at hBk
      simp only [hbk] at hBs
      simp only [hbk2] at hBb
      have HBs := Lib.hid hBs
      have HBb := Lib.hid hBb
      have hn16 : p.reverse.length ≤ 1048576 := by omega
      have hn17 : p.length ≤ 1048576 := by omega
      clear hBs hbk hbk2 hBb hrl
      have har := Lib.hid (area_rev HS.out)
      have hbx := Lib.hid (box_rev HS.out)
      have hok2 : shapeOk K p.reverse = true := shapeOk_t.2 HS.out.rev
      go_wp2_with fail
      refine (hBk).mono ?_
      rintro e w2 ⟨A2, c2, rfl, hr2, hb2⟩
      clear hBk
      generalize hq : p.reverse = q at *
      have Hq := Lib.hid hq
      clear hq
      replace HC : Cells (w2.alloc (.cells #[.int .i64 K, .slice A2 q.length c2] 31)) _ := (HC.to hb2).box (Below.refl _ _)
      clear h0 h1
      obtain ⟨h0, h1, h2, h3, _⟩ := HC.all
      go_wp2
      refine rgStart 12 [0, 1, 2, 3, 4, 5, 6, 8, 7, 9, 10, 11] l_FnShapeBack_t5 (fun HT HS => ?_)
      repeat ((with_reducible refine rgGate ?_); first | refine rgP HT ?_ | refine rgL HT ?_ | refine rgG HT ?_)
      refine rgCall HT Try.func33 (HBs.out _ (Kd.C_below hr1.rd.2.2 bl)) ?_
      rintro e w3 ⟨A3, c3, rfl, hr3, hb3⟩
      refine ⟨_, rfl, bl, rgN ?_⟩
      repeat ((with_reducible refine rgGate ?_); first | refine rgP HT ?_ | refine rgL HT ?_ | refine rgG HT ?_)
      refine rgCall HT Try.func22 (iShapeSame_c K K A2 A3 c2 c3 q q _ (Kd.C_below hr2.rd.2.2 bl) hr3.rd.2.2 hn16 hn16) ?_
      rintro e w4 ⟨rfl, hb4⟩
      refine ⟨_, rfl, bl, rgN ?_⟩
      rw [eqB_t.2 rfl]
      repeat ((with_reducible refine rgGate ?_); first | refine rgP HT ?_ | refine rgL HT ?_ | refine rgG HT ?_)
      refine rgCall HT Try.func27 (iShapeArea_c K A1 c1 p _ (Kd.C_below hr1.rd.2.2 bl) hn17) ?_
      rintro e w5 ⟨rfl, hb5⟩
      refine ⟨_, rfl, bl, rgN ?_⟩
      repeat ((with_reducible refine rgGate ?_); first | refine rgP HT ?_ | refine rgL HT ?_ | refine rgG HT ?_)
      refine rgCall HT Try.func26 (sShapeArea_c K A1 c1 p _ (Kd.C_below hr1.rd.2.2 bl) hn17) ?_
      rintro e w6 ⟨rfl, hb6⟩
      refine ⟨_, rfl, bl, rgN ?_⟩
      repeat ((with_reducible refine rgGate ?_); first | refine rgP HT ?_ | refine rgL HT ?_ | refine rgG HT ?_)
      refine rgDone HT ?_
      clear HT HS
      replace HC := HC.to (bl : Below (w2.alloc (.cells #[.int .i64 K, .slice A2 q.length c2] 31)).heap.size (w2.alloc (.cells #[.int .i64 K, .slice A2 q.length c2] 31)) w6)
      clear h0 h1 h2 h3
      obtain ⟨h0, h1, h2, h3, _⟩ := HC.all
      go_wp2_with fail
      refine (sShapeOk_c K A1 c1 p _ (Kd.C_below hr1.rd.2.2 bl) hn17).mono ?_
      rintro e w7 ⟨rfl, hb7⟩
      replace HC := HC.to hb7
      clear h0 h1 h2 h3
      obtain ⟨h0, h1, h2, h3, _⟩ := HC.all
      go_wp2_with fail
      refine (iShapeBox_c K A1 c1 p _ (Kd.C_below hr1.rd.2.2 bl) hn17).mono ?_
      rintro e w8 ⟨rfl, hb8⟩
      generalize hbb : box K p = bx at *
      have hbx2 := hbx
      clear hbb
      obtain ⟨⟨x0, x1⟩, ⟨y0, y1⟩⟩ := bx
      replace HC : Cells ((w8.alloc (.cells #[.int .i64 x0, .int .i64 x1] 40)).alloc (.cells #[.int .i64 y0, .int .i64 y1] 40)) _ := (HC.to hb8).two (Below.refl _ _)
      clear h0 h1 h2 h3
      obtain ⟨h0, h1, h2, h3, h4, h5, h6, h7, _⟩ := HC.all
      go_wp2_with fail
      refine (iShapeBox_c K A2 c2 q _ (Kd.C_below hr2.rd.2.2 bl) hn16).mono ?_
      rintro e w9 ⟨rfl, hb9⟩
      rw [hbx2.out]
      replace HC : Cells ((w9.alloc (.cells #[.int .i64 x0, .int .i64 x1] 40)).alloc (.cells #[.int .i64 y0, .int .i64 y1] 40)) _ := (HC.to hb9).two (Below.refl _ _)
      clear h0 h1 h2 h3 h4 h5 h6 h7
      obtain ⟨h0, h1, h2, h3, h4, h5, h6, h7, h8, h9, h10, h11, _⟩ := HC.all
      have E1 : eqB ((x0, x1) : Pt) (x0, x1) = true := eqB_t.2 rfl
      have E2 : eqB ((y0, y1) : Pt) (y0, y1) = true := eqB_t.2 rfl
      go_wp2
      refine rgStart 27 [0, 1, 2, 3, 5, 4, 6, 7, 8, 9, 11, 10, 12, 13, 14, 15, 16, 17, 18, 19, 20, 21, 22, 23, 24, 25, 26] l_FnShapeBack_t11 (fun HT HS => ?_)
      repeat ((with_reducible refine rgGate ?_); first | refine rgP HT ?_ | refine rgL HT ?_ | refine rgG HT ?_)
      refine rgCall HT Try.func25 (iShapeOk_c K A2 c2 q _ (Kd.C_below hr2.rd.2.2 bl) hn16) ?_
      rintro e w10 ⟨rfl, hb10⟩
      refine ⟨_, rfl, bl, rgN ?_⟩
      rw [hok2]
      repeat ((with_reducible refine rgGate ?_); first | refine rgP HT ?_ | refine rgL HT ?_ | refine rgG HT ?_)
      refine rgCall HT Try.func34 (HBb.out _ _ _ (Kd.C_below hr2.rd.2.2 bl)) ?_
      rintro e w11 ⟨A11, c11, rfl, hr11, hb11⟩
      refine ⟨_, rfl, bl, rgN ?_⟩
      repeat ((with_reducible refine rgGate ?_); first | refine rgP HT ?_ | refine rgL HT ?_ | refine rgG HT ?_)
      refine rgCall HT Try.func22 (iShapeSame_c K K A11 A1 c11 c1 p p _ hr11.rd.2.2 (Kd.C_below hr1.rd.2.2 bl) hn17 hn17) ?_
      rintro e w12 ⟨rfl, hb12⟩
      refine ⟨_, rfl, bl, rgN ?_⟩
      rw [eqB_t.2 rfl]
      repeat ((with_reducible refine rgGate ?_); first | refine rgP HT ?_ | refine rgL HT ?_ | refine rgG HT ?_)
      refine rgCall HT Try.func27 (iShapeArea_c K A2 c2 q _ (Kd.C_below hr2.rd.2.2 bl) hn16) ?_
      rintro e w13 ⟨rfl, hb13⟩
      refine ⟨_, rfl, bl, rgN ?_⟩
      repeat ((with_reducible refine rgGate ?_); first | refine rgP HT ?_ | refine rgL HT ?_ | refine rgG HT ?_)
      refine rgCall HT Try.func27 (iShapeArea_c K A1 c1 p _ (Kd.C_below hr1.rd.2.2 bl) hn17) ?_
      rintro e w14 ⟨rfl, hb14⟩
      refine ⟨_, rfl, bl, rgN ?_⟩
      rw [har.out]
      have hw : IntKind.i64.wrap (-area K p) = -area K p := IntWalk.i64_in _ (by have := @area_le K p; omega)
      repeat ((with_reducible refine rgGate ?_); first | refine rgP HT ?_ | refine rgL HT ?_ | refine rgG HT ?_)
      refine rgDone HT ?_
      clear HT HS
      go_wp2
      go_ret
      exact ⟨rfl, bl⟩
  · have hd : decide ((1048576 : Int) < (l.length : Int)) = true := decide_eq_true (by omega)
    go_enter Try.func13, Try.ntmps13
    go_wp2
    go_ret
    exact ⟨rfl, bl⟩
end Go.Proofs.Ytfapledohlckoaa
