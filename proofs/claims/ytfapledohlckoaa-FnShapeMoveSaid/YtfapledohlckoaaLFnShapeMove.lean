/- Law: a drawn shape that is moved, and moved back, is as it was; it has the same area, and a box moved as far. -/
import Derived.Test.YtfapledohlckoaaS
import Derived.Test.YtfapledohlckoaaD
import Derived.Test.YtfapledohlckoaaF
import Derived.Test.YtfapledohlckoaaY
import Derived.Test.YtfapledohlckoaaDv
import Derived.Test.YtfapledohlckoaaQc
namespace Go.Proofs.Ytfapledohlckoaa
open Go.RowKit Go.Proofs.YtfapledohlckoaaW.PrintWords Go.Proofs.YtfapledohlckoaaW.PrintLast
set_option linter.unusedVariables false
set_option linter.unusedSimpArgs false
attribute [local go_sem high] eqPtOp
def l_FnShapeMove_T13 : Bool × List (List Nat × List Nat) := (true, [([], []), ([0], [0]), ([1], [1]), ([1], [1]), ([2, 3, 1, 1], [1, 2, 3]), ([1, 4], [1, 4]), ([5, 4], [5]), ([6], [6]), ([7, 6, 6], [6, 7]), ([6], [6]), ([9, 8, 6], [6, 9]), ([8, 10, 6], [6, 8, 10]), ([6, 11], [6, 11]), ([12, 10], [12]), ([13], [13]), ([13], [13]), ([15, 13], [13, 15]), ([13], [13]), ([16, 17, 13], [13, 16, 17]), ([13], [13]), ([19, 13], [13, 19]), ([13], [13]), ([20, 21, 13], [13, 20, 21]), ([18, 22, 13], [13, 18, 22]), ([14, 23, 13], [13, 14, 23]), ([13, 24], [13, 24]), ([25, 13], [25]), ([26], [26]), ([26], [26]), ([28, 26], [26, 28]), ([26], [26]), ([29, 30, 26], [26, 29, 30]), ([26], [26]), ([32, 26], [26, 32]), ([26], [26]), ([33, 34, 26], [26, 33, 34]), ([31, 35, 26], [26, 31, 35]), ([27, 36, 26], [26, 27, 36]), ([26, 37], [26, 37]), ([38, 26, 0, 1, 2, 3, 4, 5, 6, 7, 8, 9, 10, 11, 12, 13, 14, 15, 16, 17, 18, 19, 20, 21, 22, 23, 24, 25, 26, 27, 28, 29, 30, 31, 32, 33, 34, 35, 36, 37, 38], [38])])
theorem l_FnShapeMove_t13 : rtab .any (opsOf Try.f14 13) = l_FnShapeMove_T13 := by kernel_rfl
set_option maxRecDepth 100000 in
set_option maxHeartbeats 8000000 in
theorem FnShapeMove_c (A : Option Addr) (c : Nat) (l : List Int) (w : World) (hl : (Kd.int .u8).C w A l.length l) (hn : (l.length : Int) ≤ 140737488351232) (hb : ∀ x ∈ l, 0 ≤ x ∧ x ≤ 255) (hc : l.length ≤ c) :
    Calls Try.prog 14 #[.slice A l.length c] w fun e w' => e = .returned (.bool true) ∧ Below w.heap.size w w' := by
  by_cases hs : (l.length : Int) ≤ 1048576
  · have hd : decide ((1048576 : Int) < (l.length : Int)) = false := decide_eq_false (by omega)
    go_enter Try.func14, Try.ntmps14
    go_wp2_with fail
    refine (DrawShapeMove_d A c l _ (Kd.C_below hl bl) hb hc (by omega)).mono ?_
    rintro e w1 ⟨K, A1, c1, p, dx, dy, rfl, hr1, hp16, hdx, hdy, hb1⟩
    have HC : Cells (w1.alloc (.cells #[.int .i64 K, .slice A1 p.length c1] 31)) _ := (Cells.nil w1).box (Below.refl _ _)
    obtain ⟨h0, h1, _⟩ := HC.all
    have hMi := fun w hl => iShapeMove_c K A1 c1 p dx dy w hl (by omega)
    have hMs := fun w hl => sShapeMove_c K A1 c1 p dx dy w hl (by omega)
    by_cases hm : (ShapeOk K p ∧ InR dx dy) ∧ ShapeOk K (p.map (movePt dx dy))
    · have hmv : mv K p dx dy = ((K, p.map (movePt dx dy)), true) := if_pos hm
      simp only [hmv] at hMi hMs
      have HMi := Lib.hid hMi
      have HMs := Lib.hid hMs
      have HS := Lib.hid hm
      have hml : (p.map (movePt dx dy)).length = p.length := by simp
      have hMb := fun A c w hl => iShapeMove_c K A c (p.map (movePt dx dy)) (-dx) (-dy) w hl (by omega)
      simp only [mv_back hm.1.1 hm.2 hm.1.2] at hMb
      have HMb := Lib.hid hMb
      have hn16 : (p.map (movePt dx dy)).length ≤ 1048576 := by omega
      have hn17 : p.length ≤ 1048576 := by omega
      have har := Lib.hid (area_mv hm.1.1 hm.2)
      have hbx := Lib.hid (box_mv hm.1.1 hm.2)
      have hnr := Lib.hid (show Near (box K p).1 ∧ Near (box K p).2 from by
        have h0 := hm.1.1.pos'
        have key : ∀ i, (h : i < p.length) → Near p[i] := fun i h => near_of (hm.1.1.1 i h h).1
        obtain ⟨⟨i1, j1, e1⟩, ⟨i2, j2, e2⟩⟩ := lo_at p h0 p.length (Nat.le_refl _)
        obtain ⟨⟨i3, j3, e3⟩, ⟨i4, j4, e4⟩⟩ := hi_at p h0 p.length (Nat.le_refl _)
        have k1 := key i1 j1
        have k2 := key i2 j2
        have k3 := key i3 j3
        have k4 := key i4 j4
        unfold box
        rw [if_pos hm.1.1]
        show Near (lo p p.length) ∧ Near (hi p p.length)
        unfold Near at *
        omega)
      clear hMi hMs hMb hmv hm hml
      generalize p.map (movePt dx dy) = q at *
      generalize hbb : box K p = bx at *
      have Hbb := Lib.hid hbb
      clear hbb
      obtain ⟨⟨x0, x1⟩, ⟨y0, y1⟩⟩ := bx
      go_wp2_with fail
      refine (HMi.out _ (Kd.C_below hr1.rd.2.2 bl)).mono ?_
      rintro e w2 ⟨A2, c2, rfl, hr2, hb2⟩
      replace HC : Cells (w2.alloc (.cells #[.int .i64 K, .slice A2 q.length c2] 31)) _ := (HC.to hb2).box (Below.refl _ _)
      clear h0 h1
      obtain ⟨h0, h1, h2, h3, _⟩ := HC.all
      go_wp2_with fail
      refine (HMs.out _ (Kd.C_below hr1.rd.2.2 bl)).mono ?_
      rintro e w3 ⟨A3, c3, rfl, hr3, hb3⟩
      replace HC : Cells (w3.alloc (.cells #[.int .i64 K, .slice A3 q.length c3] 31)) _ := (HC.to hb3).box (Below.refl _ _)
      clear h0 h1 h2 h3
      obtain ⟨h0, h1, h2, h3, h4, h5, _⟩ := HC.all
      go_wp2_with fail
      refine (iShapeSame_c K K A2 A3 c2 c3 q q _ (Kd.C_below hr2.rd.2.2 bl) (Kd.C_below hr3.rd.2.2 bl) hn16 hn16).mono ?_
      rintro e w4 ⟨rfl, hb4⟩
      rw [eqB_t.2 rfl]
      replace HC := HC.to hb4
      clear h0 h1 h2 h3 h4 h5
      obtain ⟨h0, h1, h2, h3, h4, h5, _⟩ := HC.all
      have hw1 : IntKind.i64.wrap (-dx) = -dx := IntWalk.i64_in _ (by omega)
      have hw2 : IntKind.i64.wrap (-dy) = -dy := IntWalk.i64_in _ (by omega)
      go_wp2_with fail
      refine (HMb.out _ _ _ (Kd.C_below hr2.rd.2.2 bl)).mono ?_
      rintro e w5 ⟨A5, c5, rfl, hr5, hb5⟩
      replace HC : Cells (w5.alloc (.cells #[.int .i64 K, .slice A5 p.length c5] 31)) _ := (HC.to hb5).box (Below.refl _ _)
      clear h0 h1 h2 h3 h4 h5
      obtain ⟨h0, h1, h2, h3, h4, h5, h6, h7, _⟩ := HC.all
      go_wp2_with fail
      refine (iShapeBox_c K A1 c1 p _ (Kd.C_below hr1.rd.2.2 bl) hn17).mono ?_
      rintro e w6 ⟨rfl, hb6⟩
      rw [Hbb.out]
      replace HC : Cells ((w6.alloc (.cells #[.int .i64 x0, .int .i64 x1] 40)).alloc (.cells #[.int .i64 y0, .int .i64 y1] 40)) _ := (HC.to hb6).two (Below.refl _ _)
      clear h0 h1 h2 h3 h4 h5 h6 h7
      obtain ⟨h0, h1, h2, h3, h4, h5, h6, h7, h8, h9, h10, h11, _⟩ := HC.all
      go_wp2_with fail
      refine (iShapeBox_c K A2 c2 q _ (Kd.C_below hr2.rd.2.2 bl) hn16).mono ?_
      rintro e w7 ⟨rfl, hb7⟩
      rw [hbx.out]
      simp only [movePt]
      replace HC : Cells ((w7.alloc (.cells #[.int .i64 (x0 + dx), .int .i64 (x1 + dy)] 40)).alloc (.cells #[.int .i64 (y0 + dx), .int .i64 (y1 + dy)] 40)) _ := (HC.to hb7).two (Below.refl _ _)
      clear h0 h1 h2 h3 h4 h5 h6 h7 h8 h9 h10 h11
      obtain ⟨h0, h1, h2, h3, h4, h5, h6, h7, h8, h9, h10, h11, h12, h13, h14, h15, _⟩ := HC.all
      have E1 : eqB ((x0 + dx, x1 + dy) : Pt) (x0 + dx, x1 + dy) = true := eqB_t.2 rfl
      have E2 : eqB ((y0 + dx, y1 + dy) : Pt) (y0 + dx, y1 + dy) = true := eqB_t.2 rfl
      have hN := hnr.out
      unfold Near at hN
      simp only [] at hN
      have u1 : IntKind.i64.wrap (x0 + dx) = x0 + dx := IntWalk.i64_in _ (by omega)
      have u2 : IntKind.i64.wrap (x1 + dy) = x1 + dy := IntWalk.i64_in _ (by omega)
      have u3 : IntKind.i64.wrap (y0 + dx) = y0 + dx := IntWalk.i64_in _ (by omega)
      have u4 : IntKind.i64.wrap (y1 + dy) = y1 + dy := IntWalk.i64_in _ (by omega)
      clear hN
      go_wp2
      refine rgStart 40 [0, 1, 2, 3, 4, 5, 6, 7, 9, 8, 10, 11, 12, 13, 14, 15, 16, 17, 18, 19, 20, 21, 22, 23, 24, 25, 26, 27, 28, 29, 30, 31, 32, 33, 34, 35, 36, 37, 38, 39] l_FnShapeMove_t13 (fun HT HS => ?_)
      repeat ((with_reducible refine rgGate ?_); first | refine rgP HT ?_ | refine rgL HT ?_ | refine rgG HT ?_)
      refine rgCall HT Try.func22 (iShapeSame_c K K A5 A1 c5 c1 p p _ (Kd.C_below hr5.rd.2.2 bl) (Kd.C_below hr1.rd.2.2 bl) hn17 hn17) ?_
      rintro e w8 ⟨rfl, hb8⟩
      refine ⟨_, rfl, bl, rgN ?_⟩
      rw [eqB_t.2 rfl]
      repeat ((with_reducible refine rgGate ?_); first | refine rgP HT ?_ | refine rgL HT ?_ | refine rgG HT ?_)
      refine rgCall HT Try.func27 (iShapeArea_c K A2 c2 q _ (Kd.C_below hr2.rd.2.2 bl) hn16) ?_
      rintro e w9 ⟨rfl, hb9⟩
      refine ⟨_, rfl, bl, rgN ?_⟩
      rw [har.out]
      repeat ((with_reducible refine rgGate ?_); first | refine rgP HT ?_ | refine rgL HT ?_ | refine rgG HT ?_)
      refine rgCall HT Try.func27 (iShapeArea_c K A1 c1 p _ (Kd.C_below hr1.rd.2.2 bl) hn17) ?_
      rintro e w10 ⟨rfl, hb10⟩
      refine ⟨_, rfl, bl, rgN ?_⟩
      repeat ((with_reducible refine rgGate ?_); first | refine rgP HT ?_ | refine rgL HT ?_ | refine rgG HT ?_)
      refine rgDone HT ?_
      clear HT HS
      go_wp2
      go_ret
      exact ⟨rfl, bl⟩
    · have hmv : mv K p dx dy = ((0, []), false) := if_neg hm
      simp only [hmv] at hMi hMs
      have HMi := Lib.hid hMi
      have HMs := Lib.hid hMs
      clear hMi hMs hmv hm
      go_wp2_with fail
      refine (HMi.out _ (Kd.C_below hr1.rd.2.2 bl)).mono ?_
      rintro e w2 ⟨A2, c2, rfl, hr2, hb2⟩
      replace HC : Cells (w2.alloc (.cells #[.int .i64 0, .slice A2 0 c2] 31)) _ := (HC.to hb2).box (Below.refl _ _)
      clear h0 h1
      obtain ⟨h0, h1, h2, h3, _⟩ := HC.all
      go_wp2_with fail
      refine (HMs.out _ (Kd.C_below hr1.rd.2.2 bl)).mono ?_
      rintro e w3 ⟨A3, c3, rfl, hr3, hb3⟩
      replace HC : Cells (w3.alloc (.cells #[.int .i64 0, .slice A3 0 c3] 31)) _ := (HC.to hb3).box (Below.refl _ _)
      clear h0 h1 h2 h3
      obtain ⟨h0, h1, h2, h3, h4, h5, _⟩ := HC.all
      go_wp2_with fail
      refine (iShapeSame_c 0 0 A2 A3 c2 c3 [] [] _ (Kd.C_below hr2.rd.2.2 bl) (Kd.C_below hr3.rd.2.2 bl) (by simp) (by simp)).mono ?_
      rintro e w4 ⟨rfl, hb4⟩
      rw [eqB_t.2 rfl]
      replace HC := HC.to hb4
      clear h0 h1 h2 h3 h4 h5
      obtain ⟨h0, h1, h2, h3, h4, h5, _⟩ := HC.all
      go_wp2
      go_ret
      exact ⟨rfl, bl⟩
  · have hd : decide ((1048576 : Int) < (l.length : Int)) = true := decide_eq_true (by omega)
    go_enter Try.func14, Try.ntmps14
    go_wp2
    go_ret
    exact ⟨rfl, bl⟩
end Go.Proofs.Ytfapledohlckoaa
