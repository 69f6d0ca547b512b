/- Contracts: boxes. -/
import Derived.Test.YtfapledohlckoaaC
import Derived.Test.YtfapledohlckoaaM
import Derived.Test.YtfapledohlckoaaQ
namespace Go.Proofs.Ytfapledohlckoaa
open Go.RowKit Go.Proofs.YtfapledohlckoaaW.PrintWords Go.Proofs.YtfapledohlckoaaW.PrintLast
set_option linter.unusedVariables false
set_option linter.unusedSimpArgs false
attribute [local go_sem] cell_set_far min_if max_if
theorem l1Min_c (a b : Int) (w : World) : Calls Try.prog 54 #[.int .i64 a, .int .i64 b] w fun e w' => e = .returned (.int .i64 (min a b)) ∧ Below w.heap.size w w' := by
  by_cases h : a < b
  all_goals
    go_enter Try.func54, Try.ntmps54
    go_wp2
    go_ret
    exact ⟨ret_int (by omega), bl⟩
theorem l1Max_c (a b : Int) (w : World) : Calls Try.prog 55 #[.int .i64 a, .int .i64 b] w fun e w' => e = .returned (.int .i64 (max a b)) ∧ Below w.heap.size w w' := by
  by_cases h : b < a
  all_goals
    go_enter Try.func55, Try.ntmps55
    go_wp2
    go_ret
    exact ⟨ret_int (by omega), bl⟩
def i_ShapeBox_T3 : Bool × List (List Nat × List Nat) := (true, [([], []), ([0], [0]), ([1], [1]), ([2], [2]), ([], []), ([4], [4]), ([5], [5]), ([6], [6]), ([], []), ([], []), ([8, 3, 0, 1, 2, 3, 8, 9], [3, 8]), ([9, 7, 10, 0, 1, 2, 3, 4, 5, 6, 7, 8, 9, 10], [7, 9])])
theorem i_ShapeBox_t3 : rtab .any (opsOf Try.f30 3) = i_ShapeBox_T3 := by kernel_rfl
def i_ShapeBox_T10 : Bool × List (List Nat × List Nat) := (true, [([], []), ([], []), ([0, 0], [0]), ([1, 2, 0, 1, 2], [1])])
theorem i_ShapeBox_t10 : rtab .any (opsOf Try.f30 10) = i_ShapeBox_T10 := by kernel_rfl
set_option maxHeartbeats 4000000 in
theorem iShapeBox_c (K : Int) (A : Option Addr) (c : Nat) (l : List Pt) (w : World) (hl : kPt.C w A l.length l) (hn : l.length ≤ 1048576) :
    Calls Try.prog 30 #[.agg #[.int .i64 K, .slice A l.length c]] w fun e w' => e = .returned (.tuple #[ptV (box K l).1, ptV (box K l).2]) ∧ Below w.heap.size w w' := by
  go_enter Try.func30, Try.ntmps30
  go_wp2_with fail
  refine (iShapeOk_c _ _ _ _ _ (Kd.C_below hl bl) hn).mono ?_
  rintro e w1 ⟨rfl, hb1⟩
  have T1 := Lib.hid (B2.new' (W := w1) w w.heap.size (.int .i64 K) (.slice A l.length c) 31)
  have T2 : B2 w1 (w.heap.size + 1) 40 (.int .i64 0) (.int .i64 0) := B2.new' (w.alloc (.cells #[.int .i64 K, .slice A l.length c] 31)) _ _ _ _
  have T3 : B2 w1 (w.heap.size + 2) 40 (.int .i64 0) (.int .i64 0) := B2.new' ((w.alloc (.cells #[.int .i64 K, .slice A l.length c] 31)).alloc (.cells #[.int .i64 0, .int .i64 0] 40)) _ _ _ _
  cases hok : shapeOk K l with
  | false =>
    obtain ⟨b0, b1, b2, b3, b4⟩ := T2.f
    obtain ⟨c0, c1, c2, c3, c4⟩ := T3.f
    go_wp2
    have hb : box K l = ((0, 0), (0, 0)) := if_neg (shapeOk_f.1 hok)
    refine bodyPost_ret (v := .tuple #[ptV (0, 0), ptV (0, 0)]) (by simp [results, Try.results30, go_sem, *]) rfl ⟨by rw [hb], bl⟩
  | true =>
    have HS := Lib.hid (shapeOk_t.1 hok)
    have hle : l.length ≤ 6 := HS.out.le
    have h0 : 0 < l.length := by rcases HS.out.2 with h | h | h <;> omega
    obtain ⟨a0, a1, a2, a3, a4⟩ := T1.out.f
    obtain ⟨ad, rfl, c0, c1⟩ := at_Pt0 hl h0
    replace c0 := pw_cell_below (bl : Below w.heap.size w w1) c0
    replace c1 := pw_cell_below (bl : Below w.heap.size w w1) c1
    have HC : Cells w1 [(⟨w.heap.size, 1, none⟩, .slice (some ad) l.length c), (ad, .int .i64 l[0].1), (⟨ad.block, ad.off + 1, none⟩, .int .i64 l[0].2)] := ⟨a1, c0, c1, trivial⟩
    have hp : decide (0 < l.length) = true := decide_eq_true h0
    go_wp2
    refine cgStart 12 [0, 1, 2, 3, 4, 5, 6, 7, 8, 9, 10, 11] [11] _ i_ShapeBox_t3 HC (fun HT HD => ?_)
    repeat ((with_reducible refine cgGate ?_); first | refine cgP HT ?_ | refine cgL HT ?_)
    refine cg2A HT HD ?_
    intro b4 b5 w2 hb2 g4 g5 ne4 ne5 T4 T5 HD2
    have hz1 : w.heap.size + 3 ≤ w1.heap.size := by have := hb1.size; simp only [World.size_alloc] at this; omega
    have hz2 : w1.heap.size ≤ w2.heap.size := hb2.size
    replace hb2 : Below w1.heap.size w1 w2 := below_step (below_drew1 (Below.refl _ _)) hb2
    simp only [World.size_drew] at g4 g5
    have hab : ad.block < w1.heap.size := World.block_lt_of_cell? _ _ c0
    obtain ⟨p0, p1, p2, p3, p4⟩ := T4.f
    obtain ⟨q0, q1, q2, q3, q4⟩ := T5.f
    refine cgSt HT (w1 := (w2.setCell ⟨b4, 0, none⟩ (.int .i64 l[0].1)).setCell ⟨b4, 1, none⟩ (.int .i64 l[0].2)) ((HD2.set _ _ _ (by simp only [List.all_cons, List.all_nil, Bool.and_true, Bool.and_eq_true, bne_iff_ne]; omega)).set _ _ _ (by simp only [List.all_cons, List.all_nil, Bool.and_true, Bool.and_eq_true, bne_iff_ne]; omega)) (fun HD3 => ?_)
    refine cgLast HT ?_
    refine cgDone HT ?_
    have n4 : (w.heap.size == b4) = false := by simp; omega
    have n5 : (w.heap.size == b5) = false := by simp; omega
    have m4 : (w.heap.size + 1 == b4) = false := by simp; omega
    have m5 : (w.heap.size + 1 == b5) = false := by simp; omega
    have o4 : (w.heap.size + 1 + 1 == b4) = false := by simp; omega
    have o5 : (w.heap.size + 1 + 1 == b5) = false := by simp; omega
    have U1 := T1.out.to (bl : Below w1.heap.size w1 w2)
    have U2 := T2.to (bl : Below w1.heap.size w1 w2)
    have U3 := T3.to (bl : Below w1.heap.size w1 w2)
    clear a0 a1 a2 a3 a4
    obtain ⟨a0, a1, a2, a3, a4⟩ := U1.f
    go_wp2
    go_loopw [24] (fun i wr => ∃ k : Nat, k ≤ l.length ∧ i = .int .i64 k ∧ Aside0 (B2 wr (w.heap.size + 1) 40 (.int .i64 0) (.int .i64 0)) ∧ Aside0 (B2 wr (w.heap.size + 2) 40 (.int .i64 0) (.int .i64 0)) ∧ Aside0 (B2 wr b4 40 (.int .i64 (lo l k).1) (.int .i64 (lo l k).2)) ∧ Aside0 (B2 wr b5 40 (.int .i64 (hi l k).1) (.int .i64 (hi l k).2)) ∧ Aside0 (Below w.heap.size w wr)) (fun i _ => l.length - (intOf i).toNat)
    case atStart =>
      refine ⟨0, by omega, rfl, ⟨U2.tr⟩, ⟨U3.tr⟩, ⟨?_⟩, ⟨?_⟩, ⟨bl⟩⟩
      · simp only [lo, getD0 h0]
        exact (T4.set _ _).tr
      · simp only [hi, getD0 h0]
        exact (B2.tr T5).set _ _
    case round =>
      obtain ⟨k, hk, rfl, ⟨R2⟩, ⟨R3⟩, ⟨R4⟩, ⟨R5⟩, ⟨hbr⟩⟩ := hrel
      obtain ⟨p0, p1, p2, p3, p4⟩ := R4.f
      obtain ⟨q0, q1, q2, q3, q4⟩ := R5.f
      have s2 := R2.f.2.2.2.2
      have s3 := R3.f.2.2.2.2
      by_cases hlt : k < l.length
      · obtain ⟨ad', e', d0, d1⟩ := at_Pt hl k hlt
        cases e'
        replace d0 := pw_cell_below (bl : Below w.heap.size w wr) d0
        replace d1 := pw_cell_below (bl : Below w.heap.size w wr) d1
        have hw : IntKind.i64.wrap ((k : Int) + 1) = (k : Int) + 1 := IntWalk.i64_in _ (by omega)
        have hlt2 : decide ((k : Int) < (l.length : Int)) = true := by simp; omega
        go_wp2
        refine ⟨⟨k + 1, by omega, rfl, ⟨R2.tr⟩, ⟨R3.tr⟩, ⟨?_⟩, ⟨?_⟩, ⟨bl⟩⟩, by simp [intOf]; omega⟩
        · rw [lo_succ hlt]
          exact (R4.set _ _).tr
        · rw [hi_succ hlt]
          refine B2.one ?_ (below_alloc (Below.refl _ _) _)
          exact (B2.tr R5).set _ _
      · have he : k = l.length := by omega
        have hlt2 : decide ((k : Int) < (l.length : Int)) = false := by simp; omega
        have hsl := Lib.hid he
        clear he
        obtain ⟨r0, r1, r2, r3, r4⟩ := R2.f
        obtain ⟨t0, t1, t2, t3, t4⟩ := R3.f
        go_wp2
        refine cgStart 4 [0, 1, 2, 3] [3] [(⟨b4, 0, none⟩, _), (⟨b4, 1, none⟩, _), (⟨b5, 0, none⟩, _), (⟨b5, 1, none⟩, _)] i_ShapeBox_t10 ⟨p0, p1, q0, q1, trivial⟩ (fun HT HD => ?_)
        repeat ((with_reducible refine cgGate ?_); first | refine cgP HT ?_ | refine cgL HT ?_)
        refine cgSt HT (w1 := (wr.drew.setCell ⟨w.heap.size + 1, 0, none⟩ (.int .i64 (lo l k).1)).setCell ⟨w.heap.size + 1, 1, none⟩ (.int .i64 (lo l k).2)) ((HD.set _ _ _ (by simp only [List.all_cons, List.all_nil, Bool.and_true, Bool.and_eq_true, bne_iff_ne]; omega)).set _ _ _ (by simp only [List.all_cons, List.all_nil, Bool.and_true, Bool.and_eq_true, bne_iff_ne]; omega)) (fun HD3 => ?_)
        refine cgLast HT ?_
        refine cgDone HT ?_
        go_wp2
        have hb : box K l = (lo l k, hi l k) := by rw [hsl.out]; exact if_pos HS.out
        refine bodyPost_ret (v := .tuple #[ptV (lo l k), ptV (hi l k)]) (by simp [results, Try.results30, go_sem, *]) rfl ⟨by rw [hb], bl⟩
end Go.Proofs.Ytfapledohlckoaa
