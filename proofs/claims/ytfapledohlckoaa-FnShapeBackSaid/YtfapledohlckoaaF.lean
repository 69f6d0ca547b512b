/- Contracts: boxes, the reference's. -/
import Derived.Test.YtfapledohlckoaaE
namespace Go.Proofs.Ytfapledohlckoaa
open Go.RowKit Go.Proofs.YtfapledohlckoaaW.PrintWords Go.Proofs.YtfapledohlckoaaW.PrintLast
set_option linter.unusedVariables false
set_option linter.unusedSimpArgs false
attribute [local go_sem] cell_set_far min_if max_if
def s_ShapeBox_T8 : Bool × List (List Nat × List Nat) := (true, [([], []), ([0], [0]), ([], []), ([2], [2]), ([], []), ([3, 4], [3, 4]), ([5], [5]), ([6], [6]), ([1, 7], [1, 7]), ([], []), ([9], [9]), ([], []), ([11], [11]), ([], []), ([12, 13], [12, 13]), ([14], [14]), ([15], [15]), ([10, 16, 8], [10, 16]), ([8, 17], [8, 17]), ([18, 17, 0, 1, 2, 3, 4, 5, 6, 7, 8, 9, 10, 11, 12, 13, 14, 15, 16, 17, 18], [18])])
theorem s_ShapeBox_t8 : rtab .any (opsOf Try.f31 8) = s_ShapeBox_T8 := by kernel_rfl
def s_ShapeBox_T9 : Bool × List (List Nat × List Nat) := (true, [([], []), ([0], [0]), ([], []), ([2], [2]), ([], []), ([3, 4], [3, 4]), ([5], [5]), ([6], [6]), ([1, 7], [1, 7]), ([], []), ([9], [9]), ([], []), ([11], [11]), ([], []), ([12, 13], [12, 13]), ([14], [14]), ([15], [15]), ([10, 16, 8], [10, 16]), ([8, 17], [8, 17]), ([18, 17, 0, 1, 2, 3, 4, 5, 6, 7, 8, 9, 10, 11, 12, 13, 14, 15, 16, 17, 18], [18])])
theorem s_ShapeBox_t9 : rtab .any (opsOf Try.f31 9) = s_ShapeBox_T9 := by kernel_rfl
def s_ShapeBox_T10 : Bool × List (List Nat × List Nat) := (true, [([], []), ([], []), ([0, 0], [0]), ([1, 2, 0, 1, 2], [1])])
theorem s_ShapeBox_t10 : rtab .any (opsOf Try.f31 10) = s_ShapeBox_T10 := by kernel_rfl
set_option maxHeartbeats 4000000 in
theorem sShapeBox_c (K : Int) (A : Option Addr) (c : Nat) (l : List Pt) (w : World) (hl : kPt.C w A l.length l) (hn : l.length ≤ 1048576) :
    Calls Try.prog 31 #[.agg #[.int .i64 K, .slice A l.length c]] w fun e w' => e = .returned (.tuple #[ptV (box K l).1, ptV (box K l).2]) ∧ Below w.heap.size w w' := by
  go_enter Try.func31, Try.ntmps31
  go_wp2_with fail
  refine (sShapeOk_c _ _ _ _ _ (Kd.C_below hl bl) hn).mono ?_
  rintro e w1 ⟨rfl, hb1⟩
  have T1 := Lib.hid (B2.new' (W := w1) w w.heap.size (.int .i64 K) (.slice A l.length c) 31)
  have T2 : B2 w1 (w.heap.size + 1) 40 (.int .i64 0) (.int .i64 0) := B2.new' (w.alloc (.cells #[.int .i64 K, .slice A l.length c] 31)) _ _ _ _
  have T3 : B2 w1 (w.heap.size + 2) 40 (.int .i64 0) (.int .i64 0) := B2.new' ((w.alloc (.cells #[.int .i64 K, .slice A l.length c] 31)).alloc (.cells #[.int .i64 0, .int .i64 0] 40)) _ _ _ _
  cases hok : shapeOk K l with
  | false =>
    obtain ⟨b0, b1, b2, b3, b4⟩ := T2.f
    obtain ⟨c0, c1, c2, c3, c4⟩ := T3.f
    go_wp2
    have hb : box K l = ((0, 0), (0, 0)) := if_neg (shapeOk_f.1 hok)
    refine bodyPost_ret (v := .tuple #[ptV (0, 0), ptV (0, 0)]) (by simp [results, Try.results31, go_sem, *]) rfl ⟨by rw [hb], bl⟩
  | true =>
    have HS := Lib.hid (shapeOk_t.1 hok)
    have hle : l.length ≤ 6 := HS.out.le
    have h0 : 0 < l.length := by rcases HS.out.2 with h | h | h <;> omega
    obtain ⟨a0, a1, a2, a3, a4⟩ := T1.out.f
    obtain ⟨ad, rfl, c0, c1⟩ := at_Pt0 hl h0
    replace c0 := pw_cell_below (bl : Below w.heap.size w w1) c0
    replace c1 := pw_cell_below (bl : Below w.heap.size w w1) c1
    have hp : decide (0 < l.length) = true := decide_eq_true h0
    have hz1 : w.heap.size + 3 ≤ w1.heap.size := by have := hb1.size; simp only [World.size_alloc] at this; omega
    have hab : ad.block < w.heap.size := by
      obtain ⟨_, e', y0, _⟩ := at_Pt0 hl h0
      cases e'
      exact World.block_lt_of_cell? _ _ y0
    go_wp2
    have W4 : B2 ((w1.alloc (.cells #[.int .i64 l[0].1, .int .i64 l[0].2] 40)).alloc (.cells #[.int .i64 l[0].1, .int .i64 l[0].2] 40)) w1.heap.size 40 (.int .i64 l[0].1) (.int .i64 l[0].2) := B2.new' w1 _ _ _ _
    have W5 : B2 ((w1.alloc (.cells #[.int .i64 l[0].1, .int .i64 l[0].2] 40)).alloc (.cells #[.int .i64 l[0].1, .int .i64 l[0].2] 40)) (w1.heap.size + 1) 40 (.int .i64 l[0].1) (.int .i64 l[0].2) := B2.new' (w1.alloc _) _ _ _ _
    go_loopw [6] (fun i wr => ∃ k : Nat, 1 ≤ k ∧ k ≤ l.length ∧ i = .int .i64 k ∧ Aside0 (B2 wr w.heap.size 31 (.int .i64 K) (.slice (some ad) l.length c)) ∧ Aside0 (B2 wr (w.heap.size + 1) 40 (.int .i64 0) (.int .i64 0)) ∧ Aside0 (B2 wr (w.heap.size + 2) 40 (.int .i64 0) (.int .i64 0)) ∧ Aside0 (B2 wr w1.heap.size 40 (.int .i64 (lo l k).1) (.int .i64 (lo l k).2)) ∧ Aside0 (B2 wr (w1.heap.size + 1) 40 (.int .i64 (hi l k).1) (.int .i64 (hi l k).2)) ∧ Aside0 (Below w.heap.size w wr)) (fun i _ => l.length - (intOf i).toNat)
    case atStart =>
      refine ⟨1, by omega, by omega, rfl, ⟨T1.out.to bl⟩, ⟨T2.to bl⟩, ⟨T3.to bl⟩, ⟨?_⟩, ⟨?_⟩, ⟨bl⟩⟩
      · rw [lo_one, getD0 h0]
        exact W4
      · rw [hi_one, getD0 h0]
        exact W5
    case round =>
      obtain ⟨k, hk1, hk, rfl, ⟨R1⟩, ⟨R2⟩, ⟨R3⟩, ⟨R4⟩, ⟨R5⟩, ⟨hbr⟩⟩ := hrel
      clear a0 a1 a2 a3 a4 W4 W5
      obtain ⟨a0, a1, a2, a3, a4⟩ := R1.f
      by_cases hlt : k < l.length
      · obtain ⟨ad', e', d0, d1⟩ := at_Pt hl k hlt
        cases e'
        have hw : IntKind.i64.wrap ((k : Int) + 1) = (k : Int) + 1 := IntWalk.i64_in _ (by omega)
        have hlt2 : decide ((k : Int) < (l.length : Int)) = true := by simp; omega
        obtain ⟨p0, p1, p2, p3, p4⟩ := R4.f
        go_wp2
        refine cgStart 20 [0, 1, 2, 3, 4, 5, 6, 7, 9, 10, 11, 12, 13, 14, 15, 16, 8, 17, 18, 19] [19] [(⟨w1.heap.size, 0, none⟩, _), (⟨w1.heap.size, 1, none⟩, _), (⟨w.heap.size, 1, none⟩, _), (ad.add (k * 2), _), (⟨(ad.add (k * 2)).block, (ad.add (k * 2)).off + 1, none⟩, _)] s_ShapeBox_t8 ⟨p0, p1, a1, pw_cell_below (bl : Below w.heap.size w wr) d0, pw_cell_below (bl : Below w.heap.size w wr) d1, trivial⟩ (fun HT HD => ?_)
        repeat ((with_reducible refine cgGate ?_); first | refine cgP HT ?_ | refine cgL HT ?_)
        refine cgCall HT Try.func54 (l1Min_c _ _ _) ?_
        rintro e w5 ⟨rfl, hb5⟩
        replace HD := HD.to hb5
        refine ⟨_, rfl, HD, cgN ?_⟩
        repeat ((with_reducible refine cgGate ?_); first | refine cgP HT ?_ | refine cgL HT ?_)
        refine cgCall HT Try.func54 (l1Min_c _ _ _) ?_
        rintro e w6 ⟨rfl, hb6⟩
        replace HD := HD.to hb6
        refine ⟨_, rfl, HD, cgN ?_⟩
        repeat ((with_reducible refine cgGate ?_); first | refine cgP HT ?_ | refine cgL HT ?_)
        have q6 : Below wr.heap.size wr w6 := bl
        have P4 := R4.to q6
        have P5 := R5.to q6
        clear p0 p1 p2 p3 p4 a0 a1 a2 a3 a4
        obtain ⟨p0, p1, p2, p3, p4⟩ := P4.f
        obtain ⟨q0, q1, q2, q3, q4⟩ := P5.f
        have hdb := World.block_lt_of_cell? _ _ d0
        have HE : Cells w6 [(⟨w1.heap.size + 1, 0, none⟩, _), (⟨w1.heap.size + 1, 1, none⟩, _), (⟨w.heap.size, 1, none⟩, _), (ad.add (k * 2), _), (⟨(ad.add (k * 2)).block, (ad.add (k * 2)).off + 1, none⟩, _)] := ⟨q0, q1, (R1.to q6).f.2.1, pw_cell_below (bl : Below w.heap.size w w6) d0, pw_cell_below (bl : Below w.heap.size w w6) d1, trivial⟩
        refine cgLast HT ?_
        refine cgDone HT ?_
        clear HT HD
        go_wp2
        refine cgStart 20 [0, 1, 2, 3, 4, 5, 6, 7, 9, 10, 11, 12, 13, 14, 15, 16, 8, 17, 18, 19] [19] _ s_ShapeBox_t9 ((HE.set _ _ _ (by simp only [List.all_cons, List.all_nil, Bool.and_true, Bool.and_eq_true, bne_iff_ne]; omega)).set _ _ _ (by simp only [List.all_cons, List.all_nil, Bool.and_true, Bool.and_eq_true, bne_iff_ne]; omega)) (fun HT HD => ?_)
        repeat ((with_reducible refine cgGate ?_); first | refine cgP HT ?_ | refine cgL HT ?_)
        refine cgCall HT Try.func55 (l1Max_c _ _ _) ?_
        rintro e w7 ⟨rfl, hb7⟩
        replace HD := HD.to hb7
        refine ⟨_, rfl, HD, cgN ?_⟩
        repeat ((with_reducible refine cgGate ?_); first | refine cgP HT ?_ | refine cgL HT ?_)
        refine cgCall HT Try.func55 (l1Max_c _ _ _) ?_
        rintro e w8 ⟨rfl, hb8⟩
        replace HD := HD.to hb8
        refine ⟨_, rfl, HD, cgN ?_⟩
        repeat ((with_reducible refine cgGate ?_); first | refine cgP HT ?_ | refine cgL HT ?_)
        have P5' : B2 w8 (w1.heap.size + 1) 40 (.int .i64 (hi l k).1) (.int .i64 (hi l k).2) := P5.tr
        clear q0 q1 q2 q3 q4
        obtain ⟨q0, q1, q2, q3, q4⟩ := P5'.f
        refine cgLast HT ?_
        refine cgDone HT ?_
        clear HT HD
        go_wp2
        refine ⟨⟨k + 1, by omega, by omega, rfl, ⟨R1.tr⟩, ⟨R2.tr⟩, ⟨R3.tr⟩, ⟨?_⟩, ⟨?_⟩, ⟨bl⟩⟩, by simp [intOf]; omega⟩
        · rw [lo_succ hlt]
          exact (P4.set _ _).tr
        · rw [hi_succ hlt]
          exact P5'.set _ _
      · have he : k = l.length := by omega
        have hlt2 : decide ((k : Int) < (l.length : Int)) = false := by simp; omega
        have hsl := Lib.hid he
        clear he
        obtain ⟨p0, p1, p2, p3, p4⟩ := R4.f
        obtain ⟨q0, q1, q2, q3, q4⟩ := R5.f
        obtain ⟨r0, r1, r2, r3, r4⟩ := R2.f
        obtain ⟨t0, t1, t2, t3, t4⟩ := R3.f
        go_wp2
        refine cgStart 4 [0, 1, 2, 3] [3] [(⟨w1.heap.size, 0, none⟩, _), (⟨w1.heap.size, 1, none⟩, _), (⟨w1.heap.size + 1, 0, none⟩, _), (⟨w1.heap.size + 1, 1, none⟩, _)] s_ShapeBox_t10 ⟨p0, p1, q0, q1, trivial⟩ (fun HT HD => ?_)
        repeat ((with_reducible refine cgGate ?_); first | refine cgP HT ?_ | refine cgL HT ?_)
        refine cgSt HT (w1 := (wr.drew.setCell ⟨w.heap.size + 1, 0, none⟩ (.int .i64 (lo l k).1)).setCell ⟨w.heap.size + 1, 1, none⟩ (.int .i64 (lo l k).2)) ((HD.set _ _ _ (by simp only [List.all_cons, List.all_nil, Bool.and_true, Bool.and_eq_true, bne_iff_ne]; omega)).set _ _ _ (by simp only [List.all_cons, List.all_nil, Bool.and_true, Bool.and_eq_true, bne_iff_ne]; omega)) (fun HD3 => ?_)
        refine cgLast HT ?_
        refine cgDone HT ?_
        go_wp2
        have hb : box K l = (lo l k, hi l k) := by rw [hsl.out]; exact if_pos HS.out
        refine bodyPost_ret (v := .tuple #[ptV (lo l k), ptV (hi l k)]) (by simp [results, Try.results31, go_sem, *]) rfl ⟨by rw [hb], bl⟩
end Go.Proofs.Ytfapledohlckoaa
