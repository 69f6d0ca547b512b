/- Contracts: which of two points, which of two rows of points comes first. -/
import Derived.Test.YtfapledohlckoaaTa
import Derived.Test.YtfapledohlckoaaR
namespace Go.Proofs.Ytfapledohlckoaa
open Go.RowKit Go.Proofs.YtfapledohlckoaaW.PrintWords Go.Proofs.YtfapledohlckoaaW.PrintLast
set_option linter.unusedVariables false
set_option linter.unusedSimpArgs false
attribute [local go_sem high] eqPtOp
def ordPt (x y : Pt) : Int := if x.1 = y.1 then x.2 - y.2 else x.1 - y.1
theorem ordPt_lt {x y : Pt} : ordPt x y < 0 ↔ lessPt x y = true := by
  rw [lessPt_t, ordPt]; split <;> omega
theorem ordPt_eq {x y : Pt} : ordPt x y = 0 ↔ x = y := by
  rw [ordPt]; constructor
  · intro h; split at h <;> exact Prod.ext (by omega) (by omega)
  · rintro rfl; rw [if_pos rfl]; omega
theorem ptOrder_c (x0 x1 y0 y1 : Int) (w : World) (hx : Near (x0, x1)) (hy : Near (y0, y1)) :
    Calls Try.prog 63 #[.agg #[.int .i64 x0, .int .i64 x1], .agg #[.int .i64 y0, .int .i64 y1]] w fun e w' => e = .returned (.int .i64 (ordPt (x0, x1) (y0, y1))) ∧ Below w.heap.size w w' := by
  unfold Near at hx hy
  simp only [] at hx hy
  have w1 : IntKind.i64.wrap (x0 - y0) = x0 - y0 := IntWalk.i64_in _ (by omega)
  have w2 : IntKind.i64.wrap (x1 - y1) = x1 - y1 := IntWalk.i64_in _ (by omega)
  by_cases h : x0 = y0
  · have t : (x0 != y0) = false := by simp [h]
    have H := Lib.hid h
    clear h
    go_enter Try.func63, Try.ntmps63
    go_wp2
    go_ret
    exact ⟨ret_int (by rw [ordPt, if_pos H.out]), bl⟩
  · have t : (x0 != y0) = true := by simp [h]
    have H := Lib.hid h
    clear h
    go_enter Try.func63, Try.ntmps63
    go_wp2
    go_ret
    exact ⟨ret_int (by rw [ordPt, if_neg H.out]), bl⟩
theorem l1Less_c (x0 x1 y0 y1 : Int) (w : World) :
    Calls Try.prog 70 #[.agg #[.int .i64 x0, .int .i64 x1], .agg #[.int .i64 y0, .int .i64 y1]] w fun e w' => e = .returned (.bool (lessPt (x0, x1) (y0, y1))) ∧ Below w.heap.size w w' := by
  by_cases h : x0 < y0
  · have t : decide (x0 < y0) = true := decide_eq_true h
    have H := Lib.hid h
    clear h
    go_enter Try.func70, Try.ntmps70
    go_wp2
    go_ret
    exact ⟨ret_bool (by symm; rw [lessPt_t]; exact .inl H.out), bl⟩
  · have t : decide (x0 < y0) = false := decide_eq_false h
    have H := Lib.hid h
    clear h
    by_cases h2 : x0 = y0
    · have t2 : (x0 == y0) = true := by simp [h2]
      have H2 := Lib.hid h2
      clear h2
      go_enter Try.func70, Try.ntmps70
      go_wp2
      go_ret
      exact ⟨ret_bool (by rw [Bool.eq_iff_iff, lessPt_t]; have := H.out; have := H2.out; simp only [decide_eq_true_eq]; omega), bl⟩
    · have t2 : (x0 == y0) = false := by simp [h2]
      have H2 := Lib.hid h2
      clear h2
      go_enter Try.func70, Try.ntmps70
      go_wp2
      go_ret
      exact ⟨ret_bool (by symm; cases hh : lessPt (x0, x1) (y0, y1) with | false => rfl | true => rw [lessPt_t] at hh; have := H.out; have := H2.out; simp only [] at hh; omega), bl⟩
def s_l1Ahead_T4 : Bool × List (List Nat × List Nat) := (true, [([], []), ([], []), ([0, 1], [0, 1]), ([2], [2]), ([], []), ([], []), ([4, 5], [4, 5]), ([6], [6]), ([3, 7], [3, 7])])
theorem s_l1Ahead_t4 : rtab .any (opsOf Try.f65 4) = s_l1Ahead_T4 := by kernel_rfl
def s_l1Ahead_T5 : Bool × List (List Nat × List Nat) := (true, [([], []), ([], []), ([0, 1], [0, 1]), ([2], [2]), ([], []), ([], []), ([4, 5], [4, 5]), ([6], [6]), ([3, 7], [3, 7]), ([8, 8, 0, 1, 2, 3, 4, 5, 6, 7, 8], [8])])
theorem s_l1Ahead_t5 : rtab .any (opsOf Try.f65 5) = s_l1Ahead_T5 := by kernel_rfl
set_option maxHeartbeats 4000000 in
theorem l1Ahead_c (A B : Option Addr) (c d : Nat) (l m : List Pt) (w : World) (hl : kPt.C w A l.length l) (hm : kPt.C w B m.length m) (hn : l.length ≤ 1048576) (hn2 : m.length ≤ 1048576) :
    Calls Try.prog 65 #[.slice A l.length c, .slice B m.length d] w fun e w' => e = .returned (.bool (aheadL l m)) ∧ Below w.heap.size w w' := by
  go_enter Try.func65, Try.ntmps65
  go_wp2
  go_loopw [5] (fun i wr => ∃ k : Nat, k ≤ l.length ∧ k ≤ m.length ∧ i = .int .i64 k ∧ Aside0 (l.take k = m.take k) ∧ Aside0 (Below w.heap.size w wr)) (fun i _ => l.length - (intOf i).toNat)
  case atStart => exact ⟨0, by omega, by omega, rfl, ⟨by simp⟩, ⟨Below.refl _ _⟩⟩
  case round =>
    obtain ⟨k, hk, hk2, rfl, he, ⟨hb1⟩⟩ := hrel
    by_cases hlt : k < l.length
    · have d1 : decide ((k : Int) < (l.length : Int)) = true := decide_eq_true (by omega)
      by_cases hlt2 : k < m.length
      · have d2 : decide ((k : Int) < (m.length : Int)) = true := decide_eq_true (by omega)
        obtain ⟨ad, rfl, c0, c1⟩ := at_Pt hl k hlt
        obtain ⟨bd, rfl, d0, d1⟩ := at_Pt hm k hlt2
        replace c0 := pw_cell_below hb1 c0
        replace c1 := pw_cell_below hb1 c1
        replace d0 := pw_cell_below hb1 d0
        replace d1 := pw_cell_below hb1 d1
        cases hd : eqB (l[k].1, l[k].2) (m[k].1, m[k].2)
        all_goals
          go_wp2
          refine rgStart 9 [0, 1, 2, 3, 4, 5, 6, 7, 8] s_l1Ahead_t4 (fun HT HS => ?_)
          repeat ((with_reducible refine rgGate ?_); first | refine rgP HT ?_ | refine rgL HT ?_ | refine rgG HT ?_)
          refine rgDone HT ?_
          clear HT HS
          go_wp2
        · refine rgStart 10 [0, 1, 2, 3, 4, 5, 6, 7, 8, 9] s_l1Ahead_t5 (fun HT HS => ?_)
          replace c0 := pw_cell_below (bl : Below wr.heap.size wr wr.drew) c0
          replace c1 := pw_cell_below (bl : Below wr.heap.size wr wr.drew) c1
          replace d0 := pw_cell_below (bl : Below wr.heap.size wr wr.drew) d0
          replace d1 := pw_cell_below (bl : Below wr.heap.size wr wr.drew) d1
          repeat ((with_reducible refine rgGate ?_); first | refine rgP HT ?_ | refine rgL HT ?_ | refine rgG HT ?_)
          refine rgCall HT Try.func70 (l1Less_c _ _ _ _ _) ?_
          rintro e w2 ⟨rfl, hb2⟩
          refine ⟨_, rfl, bl, rgN ?_⟩
          repeat ((with_reducible refine rgGate ?_); first | refine rgP HT ?_ | refine rgL HT ?_ | refine rgG HT ?_)
          refine rgDone HT ?_
          clear HT HS
          go_wp2
          go_ret
          exact ⟨ret_bool (by symm; exact aheadL_part k l m hlt hlt2 he.out (fun e => by rw [e] at hd; exact eqB_f.1 hd rfl)), bl⟩
        · exact ⟨⟨k + 1, by omega, by omega, by go_num, ⟨by rw [List.take_succ_eq_append_getElem hlt, List.take_succ_eq_append_getElem hlt2, he.out]; exact congrArg (fun p => List.take k m ++ [p]) (eqB_t.1 hd)⟩, ⟨bl⟩⟩, by simp [intOf]; omega⟩
      · have d2 : decide ((k : Int) < (m.length : Int)) = false := decide_eq_false (by omega)
        have hsl := Lib.hid (show aheadL l m = decide (l.length < m.length) by
          obtain rfl : k = m.length := by omega
          rw [aheadL_short l m (by rw [he.out, List.take_of_length_le (Nat.le_refl _), List.take_of_length_le (by omega)])])
        go_wp2
        go_ret
        exact ⟨ret_bool hsl.out.symm, bl⟩
    · have d1 : decide ((k : Int) < (l.length : Int)) = false := decide_eq_false (by omega)
      have hsl := Lib.hid (show aheadL l m = decide (l.length < m.length) by
        obtain rfl : k = l.length := by omega
        rw [aheadL_short l m (by rw [← he.out, List.take_of_length_le (Nat.le_refl _), List.take_of_length_le (by omega)])])
      go_wp2
      go_ret
      exact ⟨ret_bool hsl.out.symm, bl⟩
set_option maxHeartbeats 4000000 in
theorem Compare_c (A B : Option Addr) (c d : Nat) (l m : List Pt) (w : World) (hl : kPt.C w A l.length l) (hm : kPt.C w B m.length m) (hn : l.length ≤ 1048576) (hn2 : m.length ≤ 1048576) (nl : ∀ i, Near (l.getD i (0, 0))) (nm : ∀ i, Near (m.getD i (0, 0))) (hlm : l.length = m.length) :
    Calls Try.prog 62 #[.slice A l.length c, .slice B m.length d, .func (.func 63) #[] #[]] w fun e w' => ∃ z : Int, e = .returned (.int .i64 z) ∧ decide (z < 0) = aheadL l m ∧ Below w.heap.size w w' := by
  have Hlm := Lib.hid hlm
  clear hlm
  go_enter Try.func62, Try.ntmps62
  go_wp2
  go_loopw [13] (fun i wr => ∃ k : Nat, k ≤ l.length ∧ i = .int .i64 k ∧ Aside0 (l.take k = m.take k) ∧ Aside0 (Below w.heap.size w wr)) (fun i _ => l.length - (intOf i).toNat)
  case atStart => exact ⟨0, by omega, rfl, ⟨by simp⟩, ⟨Below.refl _ _⟩⟩
  case round =>
    obtain ⟨k, hk, rfl, he, ⟨hb1⟩⟩ := hrel
    by_cases hlt : k < l.length
    · have hlt2 : k < m.length := by have := Hlm.out; omega
      have t1 : decide ((k : Int) < (l.length : Int)) = true := decide_eq_true (by omega)
      have t2 : decide ((m.length : Int) ≤ (k : Int)) = false := decide_eq_false (by omega)
      obtain ⟨ad, rfl, c0, c1⟩ := at_Pt hl k hlt
      obtain ⟨bd, rfl, d0, d1⟩ := at_Pt hm k hlt2
      replace c0 := pw_cell_below hb1 c0
      replace c1 := pw_cell_below hb1 c1
      replace d0 := pw_cell_below hb1 d0
      replace d1 := pw_cell_below hb1 d1
      have n1 := nl k
      have n2 := nm k
      rw [getDk' _ hlt] at n1
      rw [getDk' _ hlt2] at n2
      have e1 : (l[k].1, l[k].2) = l[k] := rfl
      have e2 : (m[k].1, m[k].2) = m[k] := rfl
      have hpart := Lib.hid (fun h => aheadL_part k l m hlt hlt2 he.out h)
      have hnext := Lib.hid (show l[k] = m[k] → l.take (k + 1) = m.take (k + 1) from fun h => by rw [List.take_succ_eq_append_getElem hlt, List.take_succ_eq_append_getElem hlt2, he.out, h])
      generalize l[k] = x at *
      generalize m[k] = y at *
      clear e1 e2
      obtain ⟨x0, x1⟩ := x
      obtain ⟨y0, y1⟩ := y
      simp only [] at c0 c1 d0 d1
      by_cases hz : ordPt (x0, x1) (y0, y1) = 0
      · have t3 : (ordPt (x0, x1) (y0, y1) != 0) = false := by simp [hz]
        have Hz := Lib.hid hz
        clear hz
        go_wp2_with fail
        refine (ptOrder_c x0 x1 y0 y1 _ n1 n2).mono ?_
        rintro e w2 ⟨rfl, hb2⟩
        go_wp2
        exact ⟨⟨k + 1, by omega, by go_num, ⟨hnext.out (ordPt_eq.1 Hz.out)⟩, ⟨bl⟩⟩, by simp [intOf]; omega⟩
      · have t3 : (ordPt (x0, x1) (y0, y1) != 0) = true := by simp [hz]
        have Hz := Lib.hid hz
        clear hz
        go_wp2_with fail
        refine (ptOrder_c x0 x1 y0 y1 _ n1 n2).mono ?_
        rintro e w2 ⟨rfl, hb2⟩
        go_wp2
        go_ret
        exact ⟨_, rfl, by rw [hpart.out (fun e => Hz.out (ordPt_eq.2 e)), Bool.eq_iff_iff, decide_eq_true_eq]; exact ordPt_lt, bl⟩
    · have t1 : decide ((k : Int) < (l.length : Int)) = false := decide_eq_false (by omega)
      have t2 : decide (l.length < m.length) = false := decide_eq_false (by have := Hlm.out; omega)
      have hsl := Lib.hid (show aheadL l m = false by
        obtain rfl : k = l.length := by omega
        have h1 := he.out
        rw [List.take_of_length_le (Nat.le_refl _), List.take_of_length_le (by have := Hlm.out; omega)] at h1
        rw [h1]; exact aheadL_irr _)
      go_wp2
      go_ret
      exact ⟨0, rfl, by rw [hsl.out]; rfl, bl⟩
end Go.Proofs.Ytfapledohlckoaa
