/- Contracts: within, ShapeOk, ShapeSame, WordOk. -/
import Derived.Test.YtfbhjknkofnohaaDoorV
import Derived.Test.YtfbhjknkofnohaaDoorA
namespace Go.Proofs.YtfbhjknkofnohaaDoor
section
open Go.RowKit Go.Proofs.YtfbhjknkofnohaaDoorW.PrintWords Go.Proofs.YtfbhjknkofnohaaDoorW.PrintLast
set_option linter.unusedVariables false
set_option linter.unusedSimpArgs false
attribute [local go_sem high] eqPtOp
theorem within_c (n lo hi : Int) (w : World) : Calls Tryd.prog 47 #[.int .i64 n, .int .i64 lo, .int .i64 hi] w fun e w' => e = .returned (.bool (inB n lo hi)) ∧ w' = w := by
  by_cases h1 : lo ≤ n
  all_goals by_cases h2 : n ≤ hi
  all_goals
    go_enter Tryd.func47, Tryd.ntmps47
    go_wp2
    go_ret
    exact ⟨ret_bool (by simp [inB, h1, h2]), rfl⟩
theorem ptOk_c (x y : Int) (w : World) : Calls Tryd.prog 46 #[.agg #[.int .i64 x, .int .i64 y]] w fun e w' => e = .returned (.bool (ptOk (x, y))) ∧ Below w.heap.size w w' := by
  cases h1 : inB x (-1000) 1000 with
  | true =>
    go_enter Tryd.func46, Tryd.ntmps46
    go_wp2_with (go_at_call 47; refine (within_c _ _ _ _).mono ?_; rintro e w' ⟨rfl, rfl⟩)
    go_ret
    exact ⟨ret_bool (by simp [ptOk, h1]), bl⟩
  | false =>
    go_enter Tryd.func46, Tryd.ntmps46
    go_wp2_with (go_at_call 47; refine (within_c _ _ _ _).mono ?_; rintro e w' ⟨rfl, rfl⟩)
    go_ret
    exact ⟨ret_bool (by simp [ptOk, h1]), bl⟩
theorem l1Num_c (n : Int) (w : World) : Calls Tryd.prog 70 #[.int .i64 n] w fun e w' => e = .returned (.bool (inB n (-1000) 1000)) ∧ w' = w := by
  by_cases h1 : -1000 ≤ n
  all_goals by_cases h2 : n ≤ 1000
  all_goals
    go_enter Tryd.func70, Tryd.ntmps70
    go_wp2
    go_ret
    exact ⟨ret_bool (by simp [inB, h1, h2]), rfl⟩
def i_ShapeOk_T4 : Bool × List (List Nat × List Nat) := (true, [([], []), ([0], [0]), ([1], [1]), ([2, 1], [2]), ([3], [3]), ([4, 3], [3, 4]), ([5, 3, 3], [3, 5]), ([6], [6]), ([7, 6], [6, 7]), ([6], [6]), ([9, 6], [6, 9]), ([8, 10, 6], [6, 8, 10]), ([11, 6], [6, 11]), ([6], [6]), ([12, 13, 6], [6, 12, 13]), ([6, 14, 3], [3, 6, 14]), ([3, 15], [3, 15])])
theorem i_ShapeOk_t4 : rtab .any (opsOf Tryd.f19 4) = i_ShapeOk_T4 := by kernel_rfl
def i_ShapeOk_T14 : Bool × List (List Nat × List Nat) := (true, [([], []), ([0], [0]), ([1, 1], [1]), ([2], [2]), ([3, 2], [2, 3]), ([4, 2], [2, 4]), ([5, 2], [2, 5]), ([2], [2]), ([7, 2], [2, 7]), ([2], [2]), ([9, 2], [2, 9]), ([8, 10, 2], [2, 8, 10]), ([11, 2], [2, 11]), ([6, 12, 2], [2, 6, 12]), ([2, 13], [2, 13]), ([14, 2, 0, 1, 2, 3, 4, 5, 6, 7, 8, 9, 10, 11, 12, 13, 14], [14])])
theorem i_ShapeOk_t14 : rtab .any (opsOf Tryd.f19 14) = i_ShapeOk_T14 := by kernel_rfl
set_option maxHeartbeats 4000000 in
theorem iShapeOk_c (K : Int) (A : Option Addr) (c : Nat) (l : List Pt) (w : World) (hl : kPt.C w A l.length l) (hn : l.length ≤ 1048576) :
    Calls Tryd.prog 19 #[.agg #[.int .i64 K, .slice A l.length c]] w fun e w' => e = .returned (.bool (shapeOk K l)) ∧ Below w.heap.size w w' := by
  go_enter Tryd.func19, Tryd.ntmps19
  go_wp2
  go_loopw [9] (fun i wr => ∃ k : Nat, k ≤ l.length ∧ i = .int .i64 k ∧ Aside0 (∀ i, i < k → stepOk l i) ∧ Aside0 (Below (w.heap.size + 1) (w.alloc (.cells #[.int .i64 K, .slice A l.length c] 30)) wr)) (fun i _ => l.length - (intOf i).toNat)
  case atStart => exact ⟨0, by omega, rfl, ⟨fun i hi => absurd hi (by omega)⟩, ⟨by simpa using Below.refl _ _⟩⟩
  case round =>
    obtain ⟨k, hk, rfl, he, hb0⟩ := hrel
    have hb1 : Below (w.alloc (.cells #[.int .i64 K, .slice A l.length c] 30)).heap.size (w.alloc (.cells #[.int .i64 K, .slice A l.length c] 30)) wr := by simpa using hb0.out
    obtain ⟨g1, g2⟩ := bcell hb1
    have z1 : w.heap.size < wr.heap.size := by have := hb1.size; simp at this; omega
    by_cases hlt : k < l.length
    · obtain ⟨ad, rfl, c0, c1⟩ := at_Pt hl k hlt
      replace c0 := pw_cell_below (bl : Below w.heap.size w wr) c0
      replace c1 := pw_cell_below (bl : Below w.heap.size w wr) c1
      cases hp : ptOk (l[k].1, l[k].2) with
      | false =>
        go_wp2
        refine rgStart 17 [0, 1, 2, 3, 4, 5, 6, 7, 8, 9, 10, 11, 12, 13, 14, 15, 16] i_ShapeOk_t4 (fun HT HS => ?_)
        repeat ((with_reducible refine rgGate ?_); first | refine rgP HT ?_ | refine rgL HT ?_ | refine rgG HT ?_)
        refine rgCall HT Tryd.func46 (ptOk_c l[k].1 l[k].2 _) ?_
        rintro e w2 ⟨rfl, hb2⟩
        refine ⟨_, rfl, bl, rgN ?_⟩
        rw [hp]
        repeat ((with_reducible refine rgGate ?_); first | refine rgP HT ?_ | refine rgL HT ?_ | refine rgG HT ?_)
        refine rgDone HT ?_
        go_wp2
        go_ret
        exact ⟨ret_bool (by symm; rw [shapeOk_f]; intro ho; have := (ho.1 k hlt hlt).1; rw [hp] at this; cases this), bl⟩
      | true =>
        rcases Nat.eq_zero_or_pos k with h0 | h0
        · have hd : decide (0 < k) = false := by simp; omega
          have Hs := Lib.hid (show stepOk l k from fun h => ⟨hp, fun h1 => by omega⟩)
          clear h0
          go_wp2
          refine rgStart 17 [0, 1, 2, 3, 4, 5, 6, 7, 8, 9, 10, 11, 12, 13, 14, 15, 16] i_ShapeOk_t4 (fun HT HS => ?_)
          repeat ((with_reducible refine rgGate ?_); first | refine rgP HT ?_ | refine rgL HT ?_ | refine rgG HT ?_)
          refine rgCall HT Tryd.func46 (ptOk_c l[k].1 l[k].2 _) ?_
          rintro e w2 ⟨rfl, hb2⟩
          refine ⟨_, rfl, bl, rgN ?_⟩
          rw [hp]
          repeat ((with_reducible refine rgGate ?_); first | refine rgP HT ?_ | refine rgL HT ?_ | refine rgG HT ?_)
          refine rgDone HT ?_
          go_wp2
          exact ⟨⟨k + 1, by omega, by go_num, ⟨fun i hi => if h : i = k then h ▸ Hs.out else he.out i (by omega)⟩, ⟨below_then hb0.out (by omega) bl⟩⟩, by simp [intOf]; omega⟩
        · obtain ⟨j, rfl⟩ : ∃ j, k = j + 1 := ⟨k - 1, by omega⟩
          have hd : decide ((0 : Int) < ((j + 1 : Nat) : Int)) = true := by first | (simp; done) | (simp; omega)
          have hw : IntKind.i64.wrap ((j : Int) + 1 - 1) = (j : Int) := by rw [IntWalk.i64_in _ (by omega)]; omega
          have hw2 : IntKind.i64.wrap (j : Int) = (j : Int) := IntWalk.i64_in _ (by omega)
          have hj : j < l.length := by omega
          obtain ⟨ad', e', d0, d1⟩ := at_Pt hl j hj
          cases e'
          replace d0 := pw_cell_below (bl : Below w.heap.size w wr) d0
          replace d1 := pw_cell_below (bl : Below w.heap.size w wr) d1
          cases hq : eqB (l[j].1, l[j].2) (l[j + 1].1, l[j + 1].2)
          all_goals
            go_wp2
            refine rgStart 17 [0, 1, 2, 3, 4, 5, 6, 7, 8, 9, 10, 11, 12, 13, 14, 15, 16] i_ShapeOk_t4 (fun HT HS => ?_)
            repeat ((with_reducible refine rgGate ?_); first | refine rgP HT ?_ | refine rgL HT ?_ | refine rgG HT ?_)
            refine rgCall HT Tryd.func46 (ptOk_c l[j + 1].1 l[j + 1].2 _) ?_
            rintro e w2 ⟨rfl, hb2⟩
            refine ⟨_, rfl, bl, rgN ?_⟩
            rw [hp]
            repeat ((with_reducible refine rgGate ?_); first | refine rgP HT ?_ | refine rgL HT ?_ | refine rgG HT ?_)
            refine rgDone HT ?_
            go_wp2
          · have Hs := Lib.hid (show stepOk l (j + 1) from fun h => ⟨hp, fun h1 => eqB_f.1 hq⟩)
            exact ⟨⟨j + 1 + 1, by omega, by go_num, ⟨fun i hi => if h : i = j + 1 then h ▸ Hs.out else he.out i (by omega)⟩, ⟨below_then hb0.out (by omega) bl⟩⟩, by simp [intOf]; omega⟩
          · go_ret
            exact ⟨ret_bool (by symm; rw [shapeOk_f]; intro ho; exact (ho.1 (j + 1) hlt hlt).2 (by omega) (eqB_t.1 hq)), bl⟩
    · have hpts : PtsOk l := fun i hi => he.out i (by omega)
      have HP := Lib.hid hpts
      clear hpts he
      obtain rfl : k = l.length := by omega
      by_cases hK1 : K = 1
      · have t1 : (K == 1) = true := by simp [hK1]
        have HK := Lib.hid hK1
        clear hK1
        go_wp2
        go_ret
        exact ⟨ret_bool (by rw [Bool.eq_iff_iff, shapeOk_t, ShapeOk, KindOk, HK.out]; have := HP.out; simp [this]; omega), bl⟩
      · have t1 : (K == 1) = false := by simp [hK1]
        have HK1 := Lib.hid hK1
        clear hK1
        by_cases hK2 : K = 2
        · have t2 : (K == 2) = true := by simp [hK2]
          have HK := Lib.hid hK2
          clear hK2
          go_wp2_with (go_at_call 47; refine (within_c _ _ _ _).mono ?_; rintro e w' ⟨rfl, rfl⟩)
          go_ret
          exact ⟨ret_bool (by rw [Bool.eq_iff_iff, shapeOk_t, ShapeOk, KindOk, HK.out]; have := HP.out; simp [this, inB]; omega), bl⟩
        · have t2 : (K == 2) = false := by simp [hK2]
          have HK2 := Lib.hid hK2
          clear hK2
          by_cases hK3 : K = 3
          · have t3 : (K == 3) = true := by simp [hK3]
            have HK := Lib.hid hK3
            clear hK3
            cases hin : inB (l.length : Int) 3 6 with
            | false =>
              go_wp2
              refine rgStart 16 [0, 1, 2, 3, 4, 5, 6, 7, 8, 9, 10, 11, 12, 13, 14, 15] i_ShapeOk_t14 (fun HT HS => ?_)
              repeat ((with_reducible refine rgGate ?_); first | refine rgP HT ?_ | refine rgL HT ?_ | refine rgG HT ?_)
              refine rgCall HT Tryd.func47 (within_c _ _ _ _) ?_
              rintro e w2 ⟨rfl, rfl⟩
              refine ⟨_, rfl, bl, rgN ?_⟩
              rw [hin]
              repeat ((with_reducible refine rgGate ?_); first | refine rgP HT ?_ | refine rgL HT ?_ | refine rgG HT ?_)
              refine rgDone HT ?_
              go_wp2
              go_ret
              exact ⟨ret_bool (by symm; rw [shapeOk_f, ShapeOk, KindOk, HK.out]; simp [inB] at hin; rintro ⟨_, h | h | h⟩ <;> omega), bl⟩
            | true =>
              have hin2 := hin
              simp [inB] at hin2
              have hw : IntKind.i64.wrap ((l.length : Int) - 1) = ((l.length - 1 : Nat) : Int) := by rw [IntWalk.i64_in _ (by omega)]; omega
              have hj : l.length - 1 < l.length := by omega
              have h0 : 0 < l.length := by omega
              obtain ⟨ad, rfl, c0, c1⟩ := at_Pt0 hl h0
              obtain ⟨ad', e', d0, d1⟩ := at_Pt hl (l.length - 1) hj
              cases e'
              replace c0 := pw_cell_below (bl : Below w.heap.size w wr) c0
              replace c1 := pw_cell_below (bl : Below w.heap.size w wr) c1
              replace d0 := pw_cell_below (bl : Below w.heap.size w wr) d0
              replace d1 := pw_cell_below (bl : Below w.heap.size w wr) d1
              cases hq : eqB (l[0].1, l[0].2) (l[l.length - 1].1, l[l.length - 1].2)
              all_goals
                go_wp2
                refine rgStart 16 [0, 1, 2, 3, 4, 5, 6, 7, 8, 9, 10, 11, 12, 13, 14, 15] i_ShapeOk_t14 (fun HT HS => ?_)
                repeat ((with_reducible refine rgGate ?_); first | refine rgP HT ?_ | refine rgL HT ?_ | refine rgG HT ?_)
                refine rgCall HT Tryd.func47 (within_c _ _ _ _) ?_
                rintro e w2 ⟨rfl, rfl⟩
                refine ⟨_, rfl, bl, rgN ?_⟩
                rw [hin]
                repeat ((with_reducible refine rgGate ?_); first | refine rgP HT ?_ | refine rgL HT ?_ | refine rgG HT ?_)
                refine rgDone HT ?_
                go_wp2
                go_ret
              · exact ⟨ret_bool (by symm; show shapeOk K l = true; rw [shapeOk_t, ShapeOk, KindOk, HK.out]; refine ⟨HP.out, .inr (.inr ⟨rfl, by omega, by omega, ?_⟩)⟩; rw [List.getElem?_eq_getElem h0, List.getElem?_eq_getElem hj]; intro e; exact eqB_f.1 hq (Option.some.inj e)), bl⟩
              · exact ⟨ret_bool (by symm; show shapeOk K l = false; rw [shapeOk_f, ShapeOk, KindOk, HK.out]; rintro ⟨_, h | h | h⟩; omega; omega; exact h.2.2.2 (by rw [List.getElem?_eq_getElem h0, List.getElem?_eq_getElem hj]; exact congrArg some (eqB_t.1 hq))), bl⟩
          · have t3 : (K == 3) = false := by simp [hK3]
            have HK3 := Lib.hid hK3
            clear hK3
            go_wp2
            go_ret
            exact ⟨ret_bool (by symm; rw [shapeOk_f]; rintro ⟨_, h | h | h⟩; exact HK1.out h.1; exact HK2.out h.1; exact HK3.out h.1), bl⟩
end
section
open Go.RowKit Go.Proofs.YtfbhjknkofnohaaDoorW.PrintWords Go.Proofs.YtfbhjknkofnohaaDoorW.PrintLast
set_option linter.unusedVariables false
set_option linter.unusedSimpArgs false
attribute [local go_sem high] eqPtOp
def s_l1Pts_T4 : Bool × List (List Nat × List Nat) := (true, [([], []), ([], []), ([0, 1], [0, 1]), ([2], [2]), ([3], [3]), ([4], [4]), ([5], [5]), ([6, 5], [6]), ([7], [7]), ([7], [7]), ([8, 9, 7], [7, 8, 9]), ([10, 7], [7, 10]), ([11, 7], [7, 11]), ([12, 7, 7], [7, 12]), ([13, 7], [7, 13]), ([7, 14], [7, 14]), ([15, 13], [15]), ([16], [16]), ([17, 16], [16, 17]), ([18, 16, 16], [16, 18]), ([19], [19]), ([19], [19]), ([20, 21, 19], [19, 20, 21]), ([22, 19], [19, 22]), ([19], [19]), ([19], [19]), ([25, 19], [19, 25]), ([24, 26, 19], [19, 24, 26]), ([27, 19], [19, 27]), ([23, 28, 19], [19, 23, 28]), ([19, 29, 16], [16, 19, 29]), ([16, 30], [16, 30])])
theorem s_l1Pts_t4 : rtab .any (opsOf Tryd.f48 4) = s_l1Pts_T4 := by kernel_rfl
set_option maxHeartbeats 4000000 in
theorem l1Pts_c (A : Option Addr) (c : Nat) (l : List Pt) (w : World) (hl : kPt.C w A l.length l) (hn : l.length ≤ 1048576) :
    Calls Tryd.prog 48 #[.slice A l.length c] w fun e w' => e = .returned (.bool (ptsB l)) ∧ Below w.heap.size w w' := by
  go_enter Tryd.func48, Tryd.ntmps48
  go_wp2
  go_loopw [3] (fun i wr => ∃ k : Nat, k ≤ l.length ∧ i = .int .i64 k ∧ Aside0 (∀ i, i < k → stepOk l i) ∧ Aside0 (Below w.heap.size w wr)) (fun i _ => l.length - (intOf i).toNat)
  case atStart => exact ⟨0, by omega, rfl, ⟨fun i hi => absurd hi (by omega)⟩, ⟨Below.refl _ _⟩⟩
  case round =>
    obtain ⟨k, hk, rfl, he, ⟨hb1⟩⟩ := hrel
    by_cases hlt : k < l.length
    · obtain ⟨ad, rfl, c0, c1⟩ := at_Pt hl k hlt
      replace c0 := pw_cell_below hb1 c0
      replace c1 := pw_cell_below hb1 c1
      cases hx : inB l[k].1 (-1000) 1000 with
      | false =>
        have Hno := Lib.hid (show ¬ PtsOk l from fun h => by have := (h k hlt hlt).1; simp [ptOk, hx] at this)
        go_wp2
        refine rgStart 32 [0, 1, 2, 3, 4, 5, 6, 7, 8, 9, 10, 11, 12, 13, 14, 15, 16, 17, 18, 19, 20, 21, 22, 23, 24, 25, 26, 27, 28, 29, 30, 31] s_l1Pts_t4 (fun HT HS => ?_)
        repeat ((with_reducible refine rgGate ?_); first | refine rgP HT ?_ | refine rgL HT ?_ | refine rgG HT ?_)
        refine rgCall HT Tryd.func70 (l1Num_c l[k].1 _) ?_
        rintro e w2 ⟨rfl, rfl⟩
        refine ⟨_, rfl, bl, rgN ?_⟩
        rw [hx]
        repeat ((with_reducible refine rgGate ?_); first | refine rgP HT ?_ | refine rgL HT ?_ | refine rgG HT ?_)
        refine rgDone HT ?_
        go_wp2
        go_ret
        exact ⟨ret_bool (by symm; rw [ptsB_f]; exact fun h => Hno.out h.1), bl⟩
      | true =>
        cases hy : inB l[k].2 (-1000) 1000 with
        | false =>
          have Hno := Lib.hid (show ¬ PtsOk l from fun h => by have := (h k hlt hlt).1; simp [ptOk, hy] at this)
          go_wp2
          refine rgStart 32 [0, 1, 2, 3, 4, 5, 6, 7, 8, 9, 10, 11, 12, 13, 14, 15, 16, 17, 18, 19, 20, 21, 22, 23, 24, 25, 26, 27, 28, 29, 30, 31] s_l1Pts_t4 (fun HT HS => ?_)
          repeat ((with_reducible refine rgGate ?_); first | refine rgP HT ?_ | refine rgL HT ?_ | refine rgG HT ?_)
          refine rgCall HT Tryd.func70 (l1Num_c l[k].1 _) ?_
          rintro e w2 ⟨rfl, rfl⟩
          refine ⟨_, rfl, bl, rgN ?_⟩
          rw [hx]
          repeat ((with_reducible refine rgGate ?_); first | refine rgP HT ?_ | refine rgL HT ?_ | refine rgG HT ?_)
          refine rgCall HT Tryd.func70 (l1Num_c l[k].2 _) ?_
          rintro e w2 ⟨rfl, rfl⟩
          refine ⟨_, rfl, bl, rgN ?_⟩
          rw [hy]
          repeat ((with_reducible refine rgGate ?_); first | refine rgP HT ?_ | refine rgL HT ?_ | refine rgG HT ?_)
          refine rgDone HT ?_
          go_wp2
          go_ret
          exact ⟨ret_bool (by symm; rw [ptsB_f]; exact fun h => Hno.out h.1), bl⟩
        | true =>
          have Hp := Lib.hid (show ptOk l[k] = true by simp [ptOk, hx, hy])
          rcases Nat.eq_zero_or_pos k with h0 | h0
          · have hd : decide (0 < k) = false := by simp; omega
            have Hs := Lib.hid (show stepOk l k from fun h => ⟨Hp.out, fun h1 => by omega⟩)
            clear h0
            go_wp2
            refine rgStart 32 [0, 1, 2, 3, 4, 5, 6, 7, 8, 9, 10, 11, 12, 13, 14, 15, 16, 17, 18, 19, 20, 21, 22, 23, 24, 25, 26, 27, 28, 29, 30, 31] s_l1Pts_t4 (fun HT HS => ?_)
            repeat ((with_reducible refine rgGate ?_); first | refine rgP HT ?_ | refine rgL HT ?_ | refine rgG HT ?_)
            refine rgCall HT Tryd.func70 (l1Num_c l[k].1 _) ?_
            rintro e w2 ⟨rfl, rfl⟩
            refine ⟨_, rfl, bl, rgN ?_⟩
            rw [hx]
            repeat ((with_reducible refine rgGate ?_); first | refine rgP HT ?_ | refine rgL HT ?_ | refine rgG HT ?_)
            refine rgCall HT Tryd.func70 (l1Num_c l[k].2 _) ?_
            rintro e w2 ⟨rfl, rfl⟩
            refine ⟨_, rfl, bl, rgN ?_⟩
            rw [hy]
            repeat ((with_reducible refine rgGate ?_); first | refine rgP HT ?_ | refine rgL HT ?_ | refine rgG HT ?_)
            refine rgDone HT ?_
            go_wp2
            exact ⟨⟨k + 1, by omega, by go_num, ⟨fun i hi => if h : i = k then h ▸ Hs.out else he.out i (by omega)⟩, ⟨bl⟩⟩, by simp [intOf]; omega⟩
          · obtain ⟨j, hkj⟩ : ∃ j, k = j + 1 := ⟨k - 1, by omega⟩
            have hd : decide (0 < k) = true := by simp; omega
            have hw : IntKind.i64.wrap ((k : Int) - 1) = (j : Int) := by rw [IntWalk.i64_in _ (by omega)]; omega
            have hj : j < l.length := by omega
            obtain ⟨ad', e', d0, d1⟩ := at_Pt hl j hj
            cases e'
            replace d0 := pw_cell_below hb1 d0
            replace d1 := pw_cell_below hb1 d1
            have Hs0 := Lib.hid (show (eqB (l[k].1, l[k].2) (l[j].1, l[j].2) = false → stepOk l k) ∧ (eqB (l[k].1, l[k].2) (l[j].1, l[j].2) = true → ¬ stepOk l k) by subst hkj; exact ⟨fun hq h => ⟨Hp.out, fun h1 e => eqB_f.1 hq e.symm⟩, fun hq h => (h hlt).2 (by omega) (eqB_t.1 hq).symm⟩)
            clear hkj h0
            cases hq : eqB (l[k].1, l[k].2) (l[j].1, l[j].2)
            all_goals
              go_wp2
              refine rgStart 32 [0, 1, 2, 3, 4, 5, 6, 7, 8, 9, 10, 11, 12, 13, 14, 15, 16, 17, 18, 19, 20, 21, 22, 23, 24, 25, 26, 27, 28, 29, 30, 31] s_l1Pts_t4 (fun HT HS => ?_)
              repeat ((with_reducible refine rgGate ?_); first | refine rgP HT ?_ | refine rgL HT ?_ | refine rgG HT ?_)
              refine rgCall HT Tryd.func70 (l1Num_c l[k].1 _) ?_
              rintro e w2 ⟨rfl, rfl⟩
              refine ⟨_, rfl, bl, rgN ?_⟩
              rw [hx]
              repeat ((with_reducible refine rgGate ?_); first | refine rgP HT ?_ | refine rgL HT ?_ | refine rgG HT ?_)
              refine rgCall HT Tryd.func70 (l1Num_c l[k].2 _) ?_
              rintro e w2 ⟨rfl, rfl⟩
              refine ⟨_, rfl, bl, rgN ?_⟩
              rw [hy]
              repeat ((with_reducible refine rgGate ?_); first | refine rgP HT ?_ | refine rgL HT ?_ | refine rgG HT ?_)
              refine rgDone HT ?_
              go_wp2
            · exact ⟨⟨k + 1, by omega, by go_num, ⟨fun i hi => if h : i = k then h ▸ Hs0.out.1 hq else he.out i (by omega)⟩, ⟨bl⟩⟩, by simp [intOf]; omega⟩
            · go_ret
              exact ⟨ret_bool (by symm; rw [ptsB_f]; intro ho; exact Hs0.out.2 hq (ho.1 k hlt)), bl⟩
    · have hpts : PtsOk l := fun i hi => he.out i (by omega)
      have HP := Lib.hid hpts
      clear hpts he
      go_wp2
      go_ret
      exact ⟨ret_bool (by rw [Bool.eq_iff_iff, ptsB_t]; simp only [decide_eq_true_eq]; exact ⟨fun h => ⟨HP.out, by omega⟩, fun h => by have := h.2; omega⟩), bl⟩
def s_ShapeOk_T10 : Bool × List (List Nat × List Nat) := (true, [([], []), ([0], [0]), ([1], [1]), ([2], [2]), ([3, 2], [2, 3]), ([4, 2], [2, 4]), ([5, 2], [2, 5]), ([2], [2]), ([7, 2], [2, 7]), ([2], [2]), ([9, 2], [2, 9]), ([8, 10, 2], [2, 8, 10]), ([11, 2], [2, 11]), ([6, 12, 2], [2, 6, 12]), ([2, 13], [2, 13]), ([14, 2, 0, 1, 2, 3, 4, 5, 6, 7, 8, 9, 10, 11, 12, 13, 14], [14])])
theorem s_ShapeOk_t10 : rtab .any (opsOf Tryd.f20 10) = s_ShapeOk_T10 := by kernel_rfl
set_option maxHeartbeats 4000000 in
theorem sShapeOk_c (K : Int) (A : Option Addr) (c : Nat) (l : List Pt) (w : World) (hl : kPt.C w A l.length l) (hn : l.length ≤ 1048576) :
    Calls Tryd.prog 20 #[.agg #[.int .i64 K, .slice A l.length c]] w fun e w' => e = .returned (.bool (shapeOk K l)) ∧ Below w.heap.size w w' := by
  cases hp : ptsB l with
  | false =>
    have hp2 := Lib.hid (ptsB_f.1 hp)
    go_enter Tryd.func20, Tryd.ntmps20
    go_wp2_with (go_at_call 48; refine (l1Pts_c _ _ _ _ (Kd.C_below hl bl) hn).mono ?_; rintro e w1 ⟨rfl, hb⟩; obtain ⟨h1, h2⟩ := bcell hb; have z1 : w.heap.size < w1.heap.size := by have := hb.size; simp at this; omega)
    go_ret
    exact ⟨ret_bool (by symm; rw [shapeOk_f]; exact fun h => hp2.out ⟨h.1, h.le⟩), bl⟩
  | true =>
    have HP := Lib.hid (ptsB_t.1 hp)
    have hle : l.length ≤ 6 := HP.out.2
    by_cases hK1 : K = 1
    · have t1 : (K == 1) = true := by simp [hK1]
      have HK := Lib.hid hK1
      clear hK1
      go_enter Tryd.func20, Tryd.ntmps20
      go_wp2_with (go_at_call 48; refine (l1Pts_c _ _ _ _ (Kd.C_below hl bl) hn).mono ?_; rintro e w1 ⟨rfl, hb⟩; obtain ⟨h1, h2⟩ := bcell hb; have z1 : w.heap.size < w1.heap.size := by have := hb.size; simp at this; omega)
      go_ret
      exact ⟨ret_bool (by rw [Bool.eq_iff_iff, shapeOk_t, ShapeOk, KindOk, HK.out]; have := HP.out.1; simp [this]; omega), bl⟩
    · have t1 : (K == 1) = false := by simp [hK1]
      have HK1 := Lib.hid hK1
      clear hK1
      by_cases hK2 : K = 2
      · have t2 : (K == 2) = true := by simp [hK2]
        have HK := Lib.hid hK2
        clear hK2
        go_enter Tryd.func20, Tryd.ntmps20
        go_wp2_with (go_at_call 48; refine (l1Pts_c _ _ _ _ (Kd.C_below hl bl) hn).mono ?_; rintro e w1 ⟨rfl, hb⟩; obtain ⟨h1, h2⟩ := bcell hb; have z1 : w.heap.size < w1.heap.size := by have := hb.size; simp at this; omega)
        go_ret
        exact ⟨ret_bool (by rw [Bool.eq_iff_iff, shapeOk_t, ShapeOk, KindOk, HK.out]; have := HP.out; simp [this]; omega), bl⟩
      · have t2 : (K == 2) = false := by simp [hK2]
        have HK2 := Lib.hid hK2
        clear hK2
        by_cases hK3 : K = 3
        · have t3 : (K == 3) = true := by simp [hK3]
          have HK := Lib.hid hK3
          clear hK3
          by_cases hin : 3 ≤ l.length
          · have hw : IntKind.i64.wrap ((l.length : Int) - 1) = ((l.length - 1 : Nat) : Int) := by rw [IntWalk.i64_in _ (by omega)]; omega
            have hd : decide ((3 : Int) ≤ (l.length : Int)) = true := decide_eq_true (by omega)
            have hj : l.length - 1 < l.length := by omega
            have h0 : 0 < l.length := by omega
            obtain ⟨ad, rfl, c0, c1⟩ := at_Pt0 hl h0
            obtain ⟨ad', e', d0, d1⟩ := at_Pt hl (l.length - 1) hj
            cases e'
            have HS0 := Lib.hid (show (eqB (l[0].1, l[0].2) (l[l.length - 1].1, l[l.length - 1].2) = false ↔ shapeOk K l = true) by
              rw [shapeOk_t, ShapeOk, KindOk, HK.out, eqB_f, List.getElem?_eq_getElem h0, List.getElem?_eq_getElem hj]
              constructor
              · exact fun h => ⟨HP.out.1, .inr (.inr ⟨rfl, hin, hle, fun e => h (Option.some.inj e)⟩)⟩
              · rintro ⟨_, h | h | h⟩
                · omega
                · omega
                · exact fun e => h.2.2.2 (congrArg some e))
            cases hq : eqB (l[0].1, l[0].2) (l[l.length - 1].1, l[l.length - 1].2)
            all_goals
              go_enter Tryd.func20, Tryd.ntmps20
              go_wp2_with (go_at_call 48; refine (l1Pts_c _ _ _ _ (Kd.C_below hl bl) hn).mono ?_; rintro e w1 ⟨rfl, hb⟩; obtain ⟨h1, h2⟩ := bcell hb; have z1 : w.heap.size < w1.heap.size := (by have := hb.size; simp at this; omega); replace c0 := pw_cell_below (bl : Below w.heap.size w w1) c0; replace c1 := pw_cell_below (bl : Below w.heap.size w w1) c1; replace d0 := pw_cell_below (bl : Below w.heap.size w w1) d0; replace d1 := pw_cell_below (bl : Below w.heap.size w w1) d1)
              refine rgStart 16 [0, 1, 2, 3, 4, 5, 6, 7, 8, 9, 10, 11, 12, 13, 14, 15] s_ShapeOk_t10 (fun HT HS => ?_)
              repeat ((with_reducible refine rgGate ?_); first | refine rgP HT ?_ | refine rgL HT ?_ | refine rgG HT ?_)
              refine rgDone HT ?_
              go_wp2
              go_ret
            · exact ⟨ret_bool (HS0.out.1 hq).symm, bl⟩
            · exact ⟨ret_bool (by symm; show shapeOk K l = false; cases hs : shapeOk K l with | false => rfl | true => rw [HS0.out.2 hs] at hq; cases hq), bl⟩
          · have hd : decide ((3 : Int) ≤ (l.length : Int)) = false := decide_eq_false (by omega)
            have Hin := Lib.hid hin
            clear hin
            go_enter Tryd.func20, Tryd.ntmps20
            go_wp2_with (go_at_call 48; refine (l1Pts_c _ _ _ _ (Kd.C_below hl bl) hn).mono ?_; rintro e w1 ⟨rfl, hb⟩; obtain ⟨h1, h2⟩ := bcell hb; have z1 : w.heap.size < w1.heap.size := by have := hb.size; simp at this; omega)
            refine rgStart 16 [0, 1, 2, 3, 4, 5, 6, 7, 8, 9, 10, 11, 12, 13, 14, 15] s_ShapeOk_t10 (fun HT HS => ?_)
            repeat ((with_reducible refine rgGate ?_); first | refine rgP HT ?_ | refine rgL HT ?_ | refine rgG HT ?_)
            refine rgDone HT ?_
            go_wp2
            go_ret
            exact ⟨ret_bool (by symm; rw [shapeOk_f, ShapeOk, KindOk, HK.out]; have := Hin.out; rintro ⟨_, h | h | h⟩ <;> omega), bl⟩
        · have t3 : (K == 3) = false := by simp [hK3]
          have HK3 := Lib.hid hK3
          clear hK3
          go_enter Tryd.func20, Tryd.ntmps20
          go_wp2_with (go_at_call 48; refine (l1Pts_c _ _ _ _ (Kd.C_below hl bl) hn).mono ?_; rintro e w1 ⟨rfl, hb⟩; obtain ⟨h1, h2⟩ := bcell hb; have z1 : w.heap.size < w1.heap.size := by have := hb.size; simp at this; omega)
          go_ret
          exact ⟨ret_bool (by symm; rw [shapeOk_f]; rintro ⟨_, h | h | h⟩; exact HK1.out h.1; exact HK2.out h.1; exact HK3.out h.1), bl⟩
end
section
open Go.RowKit Go.Proofs.YtfbhjknkofnohaaDoorW.PrintWords Go.Proofs.YtfbhjknkofnohaaDoorW.PrintLast
set_option linter.unusedVariables false
set_option linter.unusedSimpArgs false
attribute [local go_sem high] eqPtOp
def s_l1Same_T6 : Bool × List (List Nat × List Nat) := (true, [([], []), ([], []), ([0, 1], [0, 1]), ([2], [2]), ([], []), ([], []), ([4, 5], [4, 5]), ([6], [6]), ([3, 7], [3, 7])])
theorem s_l1Same_t6 : rtab .any (opsOf Tryd.f52 6) = s_l1Same_T6 := by kernel_rfl
set_option maxHeartbeats 4000000 in
theorem l1Same_c (A B : Option Addr) (c d : Nat) (l m : List Pt) (w : World) (hl : kPt.C w A l.length l) (hm : kPt.C w B m.length m) (hn : l.length ≤ 1048576) (hn2 : m.length ≤ 1048576) :
    Calls Tryd.prog 52 #[.slice A l.length c, .slice B m.length d] w fun e w' => e = .returned (.bool (eqB l m)) ∧ Below w.heap.size w w' := by
  by_cases hlen : l.length = m.length
  · have hne : ((l.length : Int) != (m.length : Int)) = false := by simp [hlen]
    have Hlen := Lib.hid hlen
    clear hlen
    go_enter Tryd.func52, Tryd.ntmps52
    go_wp2
    go_loopw [5] (fun i wr => ∃ k : Nat, k ≤ l.length ∧ i = .int .i64 k ∧ Aside0 (l.take k = m.take k) ∧ Aside0 (Below w.heap.size w wr)) (fun i _ => l.length - (intOf i).toNat)
    case atStart => exact ⟨0, by omega, rfl, ⟨by simp⟩, ⟨Below.refl _ _⟩⟩
    case round =>
      obtain ⟨k, hk, rfl, he, ⟨hb1⟩⟩ := hrel
      by_cases hlt : k < l.length
      · have hlt2 : k < m.length := by have := Hlen.out; omega
        obtain ⟨ad, rfl, c0, c1⟩ := at_Pt hl k hlt
        obtain ⟨bd, rfl, d0, d1⟩ := at_Pt hm k hlt2
        replace c0 := pw_cell_below hb1 c0
        replace c1 := pw_cell_below hb1 c1
        replace d0 := pw_cell_below hb1 d0
        replace d1 := pw_cell_below hb1 d1
        cases hd : eqB (l[k].1, l[k].2) (m[k].1, m[k].2)
        all_goals
          go_wp2
          refine rgStart 9 [0, 1, 2, 3, 4, 5, 6, 7, 8] s_l1Same_t6 (fun HT HS => ?_)
          repeat ((with_reducible refine rgGate ?_); first | refine rgP HT ?_ | refine rgL HT ?_ | refine rgG HT ?_)
          refine rgDone HT ?_
          go_wp2
        · go_ret
          exact ⟨ret_bool (by symm; show eqB l m = false; rw [eqB_f]; rintro rfl; exact eqB_f.1 hd rfl), bl⟩
        · exact ⟨⟨k + 1, by omega, by go_num, ⟨by rw [List.take_succ_eq_append_getElem hlt, List.take_succ_eq_append_getElem hlt2, he.out]; exact congrArg (fun p => List.take k m ++ [p]) (eqB_t.1 hd)⟩, ⟨bl⟩⟩, by simp [intOf]; omega⟩
      · go_wp2
        go_ret
        have := he.out
        have h2 := Hlen.out
        exact ⟨ret_bool (by symm; rw [eqB_t]; rwa [List.take_of_length_le (by omega), List.take_of_length_le (by omega)] at this), bl⟩
  · have hne : ((l.length : Int) != (m.length : Int)) = true := by simp; omega
    have Hlen := Lib.hid hlen
    clear hlen
    go_enter Tryd.func52, Tryd.ntmps52
    go_wp2
    go_ret
    exact ⟨ret_bool (by symm; rw [eqB_f]; rintro rfl; exact Hlen.out rfl), bl⟩
def g_slices_Equal_Pt_T6 : Bool × List (List Nat × List Nat) := (true, [([], []), ([], []), ([0, 1], [0, 1]), ([2], [2]), ([], []), ([], []), ([4, 5], [4, 5]), ([6], [6]), ([3, 7], [3, 7])])
theorem g_slices_Equal_Pt_t6 : rtab .any (opsOf Tryd.f49 6) = g_slices_Equal_Pt_T6 := by kernel_rfl
set_option maxHeartbeats 4000000 in
theorem EqualPt_c (A B : Option Addr) (c d : Nat) (l m : List Pt) (w : World) (hl : kPt.C w A l.length l) (hm : kPt.C w B m.length m) (hn : l.length ≤ 1048576) (hn2 : m.length ≤ 1048576) :
    Calls Tryd.prog 49 #[.slice A l.length c, .slice B m.length d] w fun e w' => e = .returned (.bool (eqB l m)) ∧ Below w.heap.size w w' := by
  by_cases hlen : l.length = m.length
  · have hne : ((l.length : Int) != (m.length : Int)) = false := by simp [hlen]
    have Hlen := Lib.hid hlen
    clear hlen
    go_enter Tryd.func49, Tryd.ntmps49
    go_wp2
    go_loopw [13] (fun i wr => ∃ k : Nat, k ≤ l.length ∧ i = .int .i64 k ∧ Aside0 (l.take k = m.take k) ∧ Aside0 (Below w.heap.size w wr)) (fun i _ => l.length - (intOf i).toNat)
    case atStart => exact ⟨0, by omega, rfl, ⟨by simp⟩, ⟨Below.refl _ _⟩⟩
    case round =>
      obtain ⟨k, hk, rfl, he, ⟨hb1⟩⟩ := hrel
      by_cases hlt : k < l.length
      · have hlt2 : k < m.length := by have := Hlen.out; omega
        obtain ⟨ad, rfl, c0, c1⟩ := at_Pt hl k hlt
        obtain ⟨bd, rfl, d0, d1⟩ := at_Pt hm k hlt2
        replace c0 := pw_cell_below hb1 c0
        replace c1 := pw_cell_below hb1 c1
        replace d0 := pw_cell_below hb1 d0
        replace d1 := pw_cell_below hb1 d1
        cases hd : eqB (l[k].1, l[k].2) (m[k].1, m[k].2)
        all_goals
          go_wp2
          refine rgStart 9 [0, 1, 2, 3, 4, 5, 6, 7, 8] g_slices_Equal_Pt_t6 (fun HT HS => ?_)
          repeat ((with_reducible refine rgGate ?_); first | refine rgP HT ?_ | refine rgL HT ?_ | refine rgG HT ?_)
          refine rgDone HT ?_
          go_wp2
        · go_ret
          exact ⟨ret_bool (by symm; show eqB l m = false; rw [eqB_f]; rintro rfl; exact eqB_f.1 hd rfl), bl⟩
        · exact ⟨⟨k + 1, by omega, by go_num, ⟨by rw [List.take_succ_eq_append_getElem hlt, List.take_succ_eq_append_getElem hlt2, he.out]; exact congrArg (fun p => List.take k m ++ [p]) (eqB_t.1 hd)⟩, ⟨bl⟩⟩, by simp [intOf]; omega⟩
      · go_wp2
        go_ret
        have := he.out
        have h2 := Hlen.out
        exact ⟨ret_bool (by symm; rw [eqB_t]; rwa [List.take_of_length_le (by omega), List.take_of_length_le (by omega)] at this), bl⟩
  · have hne : ((l.length : Int) != (m.length : Int)) = true := by simp; omega
    have Hlen := Lib.hid hlen
    clear hlen
    go_enter Tryd.func49, Tryd.ntmps49
    go_wp2
    go_ret
    exact ⟨ret_bool (by symm; rw [eqB_f]; rintro rfl; exact Hlen.out rfl), bl⟩
theorem sShapeSame_c (K L : Int) (A B : Option Addr) (c d : Nat) (l m : List Pt) (w : World) (hl : kPt.C w A l.length l) (hm : kPt.C w B m.length m) (hn : l.length ≤ 1048576) (hn2 : m.length ≤ 1048576) :
    Calls Tryd.prog 24 #[.agg #[.int .i64 K, .slice A l.length c], .agg #[.int .i64 L, .slice B m.length d]] w fun e w' => e = .returned (.bool (eqB (K, l) (L, m))) ∧ Below w.heap.size w w' := by
  by_cases hK : K = L
  · have hK1 : (K == L) = true := by simp [hK]
    have HK := Lib.hid hK
    clear hK
    go_enter Tryd.func24, Tryd.ntmps24
    go_wp2_with (go_at_call 52; refine (l1Same_c _ _ _ _ _ _ _ (Kd.C_below hl bl) (Kd.C_below hm bl) hn hn2).mono ?_; rintro e w1 ⟨rfl, hb⟩; obtain ⟨h1, h2⟩ := bcell hb)
    go_ret
    exact ⟨ret_bool (by rw [Bool.eq_iff_iff, eqB_t, eqB_t, HK.out]; simp), bl⟩
  · have hK1 : (K == L) = false := by simp [hK]
    have HK := Lib.hid hK
    clear hK
    go_enter Tryd.func24, Tryd.ntmps24
    go_wp2
    go_ret
    exact ⟨ret_bool (by symm; rw [eqB_f]; intro he; injection he with he; exact HK.out he), bl⟩
theorem iShapeSame_c (K L : Int) (A B : Option Addr) (c d : Nat) (l m : List Pt) (w : World) (hl : kPt.C w A l.length l) (hm : kPt.C w B m.length m) (hn : l.length ≤ 1048576) (hn2 : m.length ≤ 1048576) :
    Calls Tryd.prog 21 #[.agg #[.int .i64 K, .slice A l.length c], .agg #[.int .i64 L, .slice B m.length d]] w fun e w' => e = .returned (.bool (eqB (K, l) (L, m))) ∧ Below w.heap.size w w' := by
  by_cases hK : K = L
  · have hK1 : (K == L) = true := by simp [hK]
    have HK := Lib.hid hK
    clear hK
    go_enter Tryd.func21, Tryd.ntmps21
    go_wp2_with (go_at_call 49; refine (EqualPt_c _ _ _ _ _ _ _ (Kd.C_below hl bl) (Kd.C_below hm bl) hn hn2).mono ?_; rintro e w1 ⟨rfl, hb⟩; obtain ⟨h1, h2⟩ := bcell hb)
    go_ret
    exact ⟨ret_bool (by rw [Bool.eq_iff_iff, eqB_t, eqB_t, HK.out]; simp), bl⟩
  · have hK1 : (K == L) = false := by simp [hK]
    have HK := Lib.hid hK
    clear hK
    go_enter Tryd.func21, Tryd.ntmps21
    go_wp2
    go_ret
    exact ⟨ret_bool (by symm; rw [eqB_f]; intro he; injection he with he; exact HK.out he), bl⟩
end
section
open Go.RowKit Go.Proofs.YtfbhjknkofnohaaDoorW.PrintWords Go.Proofs.YtfbhjknkofnohaaDoorW.PrintLast
set_option linter.unusedVariables false
set_option linter.unusedSimpArgs false
def LetAt (s : ByteArray) (i : Nat) : Prop := ∀ h : i < s.size, (97 : Int) ≤ s[i].toNat ∧ (s[i].toNat : Int) ≤ 122
def WordOk (s : ByteArray) : Prop := (1 ≤ s.size ∧ s.size ≤ 6) ∧ ∀ i, i < s.size → LetAt s i
open Classical in
noncomputable def wordOk (s : ByteArray) : Bool := decide (WordOk s)
theorem wordOk_t {s : ByteArray} : wordOk s = true ↔ WordOk s := by simp [wordOk]
theorem wordOk_f {s : ByteArray} : wordOk s = false ↔ ¬ WordOk s := by simp [wordOk]
theorem sWordOk_c (s : ByteArray) (w : World) (hs : s.size ≤ 140737488351232) :
    Calls Tryd.prog 71 #[.string s] w fun e w' => e = .returned (.bool (wordOk s)) ∧ w' = w := by
  go_enter Tryd.func71, Tryd.ntmps71
  go_wp2
  go_loop [3] (fun i => ∃ k : Nat, k ≤ s.size ∧ i = .int .i64 k ∧ Aside0 (∀ i, i < k → LetAt s i)) (fun i => s.size - (intOf i).toNat)
  case atStart => exact ⟨0, Nat.zero_le _, rfl, ⟨fun i hi => absurd hi (by omega)⟩⟩
  case round =>
    obtain ⟨k, hk, rfl, he⟩ := hrel
    by_cases hlt : k < s.size
    · by_cases h1 : (s[k].toNat : Int) < 97
      · have Hno := Lib.hid (show ¬ WordOk s from fun h => by have := (h.2 k hlt hlt).1; omega)
        have d1 : decide ((s[k].toNat : Int) < 97) = true := decide_eq_true h1
        go_wp2
        go_ret
        exact ⟨ret_bool (wordOk_f.2 Hno.out).symm, rfl⟩
      · have d1 : decide ((s[k].toNat : Int) < 97) = false := decide_eq_false h1
        by_cases h2 : 122 < (s[k].toNat : Int)
        · have Hno := Lib.hid (show ¬ WordOk s from fun h => by have := (h.2 k hlt hlt).2; omega)
          have d2 : decide (122 < (s[k].toNat : Int)) = true := decide_eq_true h2
          go_wp2
          go_ret
          exact ⟨ret_bool (wordOk_f.2 Hno.out).symm, rfl⟩
        · have d2 : decide (122 < (s[k].toNat : Int)) = false := decide_eq_false h2
          have Hs := Lib.hid (show LetAt s k from fun h => ⟨by omega, by omega⟩)
          go_wp2
          exact ⟨⟨k + 1, by omega, by go_num, ⟨fun i hi => if h : i = k then h ▸ Hs.out else he.out i (by omega)⟩⟩, by simp [intOf]; omega⟩
    · have HP := Lib.hid (show ∀ i, i < s.size → LetAt s i from fun i hi => he.out i (by omega))
      clear he
      by_cases h1 : 1 ≤ (s.size : Int)
      · have d1 : decide (1 ≤ (s.size : Int)) = true := decide_eq_true h1
        go_wp2
        go_ret
        exact ⟨ret_bool (by rw [Bool.eq_iff_iff, wordOk_t]; simp only [decide_eq_true_eq]; exact ⟨fun h => ⟨⟨by omega, by omega⟩, HP.out⟩, fun h => by have := h.1.2; omega⟩), rfl⟩
      · have d1 : decide (1 ≤ (s.size : Int)) = false := decide_eq_false h1
        go_wp2
        go_ret
        exact ⟨ret_bool (wordOk_f.2 fun h => by have := h.1.1; omega).symm, rfl⟩
theorem iWordOk_c (s : ByteArray) (w : World) (hs : s.size ≤ 140737488351232) :
    Calls Tryd.prog 77 #[.string s] w fun e w' => e = .returned (.bool (wordOk s)) ∧ w' = w := by
  go_enter Tryd.func77, Tryd.ntmps77
  go_wp2
  go_loop [6] (fun i => ∃ k : Nat, k ≤ s.size ∧ i = .int .i64 k ∧ Aside0 (∀ i, i < k → LetAt s i)) (fun i => s.size - (intOf i).toNat)
  case atStart => exact ⟨0, Nat.zero_le _, rfl, ⟨fun i hi => absurd hi (by omega)⟩⟩
  case round =>
    obtain ⟨k, hk, rfl, he⟩ := hrel
    by_cases hlt : k < s.size
    · by_cases h1 : (s[k].toNat : Int) < 97
      · have Hno := Lib.hid (show ¬ WordOk s from fun h => by have := (h.2 k hlt hlt).1; omega)
        have d1 : decide ((s[k].toNat : Int) < 97) = true := decide_eq_true h1
        go_wp2
        go_ret
        exact ⟨ret_bool (wordOk_f.2 Hno.out).symm, rfl⟩
      · have d1 : decide ((s[k].toNat : Int) < 97) = false := decide_eq_false h1
        by_cases h2 : 122 < (s[k].toNat : Int)
        · have Hno := Lib.hid (show ¬ WordOk s from fun h => by have := (h.2 k hlt hlt).2; omega)
          have d2 : decide (122 < (s[k].toNat : Int)) = true := decide_eq_true h2
          go_wp2
          go_ret
          exact ⟨ret_bool (wordOk_f.2 Hno.out).symm, rfl⟩
        · have d2 : decide (122 < (s[k].toNat : Int)) = false := decide_eq_false h2
          have Hs := Lib.hid (show LetAt s k from fun h => ⟨by omega, by omega⟩)
          go_wp2
          exact ⟨⟨k + 1, by omega, by go_num, ⟨fun i hi => if h : i = k then h ▸ Hs.out else he.out i (by omega)⟩⟩, by simp [intOf]; omega⟩
    · have HP := Lib.hid (show ∀ i, i < s.size → LetAt s i from fun i hi => he.out i (by omega))
      clear he
      go_wp2_with (go_at_call 47; refine (within_c _ _ _ _).mono ?_; rintro e w' ⟨rfl, rfl⟩)
      go_ret
      exact ⟨ret_bool (by rw [Bool.eq_iff_iff, wordOk_t]; simp only [inB, decide_eq_true_eq]; exact ⟨fun h => ⟨⟨by omega, by omega⟩, HP.out⟩, fun h => by have := h.1; omega⟩), rfl⟩
end
end Go.Proofs.YtfbhjknkofnohaaDoor
