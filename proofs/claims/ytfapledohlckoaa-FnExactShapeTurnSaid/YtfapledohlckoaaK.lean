/- Contracts: the reference's ShapeBack. -/
import Derived.Test.YtfapledohlckoaaJ
namespace Go.Proofs.Ytfapledohlckoaa
open Go.RowKit Go.Proofs.YtfapledohlckoaaW.PrintWords Go.Proofs.YtfapledohlckoaaW.PrintLast
set_option linter.unusedVariables false
set_option linter.unusedSimpArgs false
attribute [local go_sem] cell_set_far
theorem B2.set1 {w : World} {b : Nat} {t : TypeId} {u v : Value} (h : B2 w b t u v) (x : Value) : B2 (w.setCell ⟨b, 1, none⟩ x) b t u x := by
  unfold B2 at h ⊢
  simp [World.setCell, Array.getElem?_modify, h]
theorem lit1 (w : World) (x : Pt) : kPt.C (w.alloc (.cells #[.int .i64 x.1, .int .i64 x.2] 40)) (some ⟨w.heap.size, 0, none⟩) 1 [x] := by
  have h : kPt.R 40 (w.alloc (.cells #[.int .i64 x.1, .int .i64 x.2] 40)) w.heap.size (fun _ => True) (.slice (some ⟨w.heap.size, 0, none⟩) 1 1) [x] :=
    ⟨fun _ _ => trivial, [.int .i64 x.1, .int .i64 x.2], World.ownsRow_lit (base := w.heap.size) (e := 40) (size := 2) w #[.int .i64 x.1, .int .i64 x.2] 1 (Nat.le_refl _) (by decide) rfl, Reps.snoc (Reps.none _ _) (kPt_mkM _ _ _ x) rfl⟩
  exact (Kd.R_reads' h).2.2
def s_ShapeBack_T7 : Bool × List (List Nat × List Nat) := (true, [([], []), ([0], [0]), ([], []), ([2], [2]), ([], []), ([3, 4], [3, 4]), ([5], [5]), ([6], [6]), ([1, 7], [1, 7]), ([0, 1, 2, 3, 4, 5, 6, 7, 8], []), ([9, 8, 8, 0, 1, 2, 3, 4, 5, 6, 7, 8], [8, 9])])
theorem s_ShapeBack_t7 : rtab .any (opsOf Try.f33 7) = s_ShapeBack_T7 := by kernel_rfl
set_option maxHeartbeats 4000000 in
theorem sShapeBack_c (K : Int) (A : Option Addr) (c : Nat) (l : List Pt) (w : World) (hl : kPt.C w A l.length l) (hn : l.length ≤ 1048576) :
    Calls Try.prog 33 #[.agg #[.int .i64 K, .slice A l.length c]] w fun e w' => ∃ A' c', e = .returned (.agg #[.int .i64 (back K l).1, .slice A' (back K l).2.length c']) ∧ RI kPt 40 w' w.heap.size w'.heap.size (.slice A' (back K l).2.length c') (back K l).2 ∧ Below w.heap.size w w' := by
  go_enter Try.func33, Try.ntmps33
  go_wp2_with fail
  refine (sShapeOk_c _ _ _ _ _ (Kd.C_below hl bl) hn).mono ?_
  rintro e w1 ⟨rfl, hb1⟩
  have T1 := Lib.hid (B2.new' (W := w1) w w.heap.size (.int .i64 K) (.slice A l.length c) 31)
  have T2 : B2 w1 (w.heap.size + 1) 31 (.int .i64 0) (.slice none 0 0) := B2.new' (w.alloc (.cells #[.int .i64 K, .slice A l.length c] 31)) _ _ _ _
  have T3 : B2 w1 (w.heap.size + 2) 31 (.int .i64 K) (.slice none 0 0) := B2.new' ((w.alloc (.cells #[.int .i64 K, .slice A l.length c] 31)).alloc (.cells #[.int .i64 0, .slice none 0 0] 31)) _ _ _ _
  cases hok : shapeOk K l with
  | false =>
    obtain ⟨b0, b1, b2, b3, b4⟩ := T2.f
    have hbk := Lib.hid (show back K l = (0, []) from if_neg (shapeOk_f.1 hok))
    go_wp2
    rw [hbk.out]
    refine bodyPost_ret (v := .agg #[.int .i64 0, .slice none 0 0]) (by simp [results, Try.results33, go_sem, *]) rfl ⟨none, 0, rfl, RI.of (Kd.R_nil _ _ _ _ _), bl⟩
  | true =>
    have hbk := Lib.hid (show back K l = (K, l.reverse) from if_pos (shapeOk_t.1 hok))
    have hw0 : IntKind.i64.wrap ((l.length : Int) - 1) = (l.length : Int) - 1 := IntWalk.i64_in _ (by omega)
    obtain ⟨a0, a1, a2, a3, a4⟩ := T1.out.f
    go_wp2
    go_loopw [4] (fun q wr => ∃ j : Nat, j ≤ l.length ∧ q = .int .i64 ((l.length : Int) - 1 - j) ∧ Aside0 (B2 wr w.heap.size 31 (.int .i64 K) (.slice A l.length c)) ∧ Aside0 (B2 wr (w.heap.size + 1) 31 (.int .i64 0) (.slice none 0 0)) ∧ Aside0 (∃ Ao co, B2 wr (w.heap.size + 2) 31 (.int .i64 K) (.slice Ao (l.reverse.take j).length co) ∧ kPt.R 40 wr w.heap.size (fun _ => True) (.slice Ao (l.reverse.take j).length co) (l.reverse.take j)) ∧ Aside0 (Below w.heap.size w wr)) (fun q _ => (intOf q + 1).toNat)
    case atStart => exact ⟨0, by omega, by simp, ⟨T1.out⟩, ⟨T2⟩, ⟨none, 0, T3, Kd.R_nil _ _ _ _ _⟩, ⟨bl⟩⟩
    case round =>
      obtain ⟨j, hj, rfl, ⟨R1⟩, ⟨R2⟩, ⟨Ao, co, R3, hrow⟩, ⟨hbr⟩⟩ := hrel
      clear a0 a1 a2 a3 a4
      obtain ⟨a0, a1, a2, a3, a4⟩ := R1.f
      obtain ⟨p0, p1, p2, p3, p4⟩ := R3.f
      by_cases hlt : j < l.length
      · obtain ⟨i, hi⟩ : ∃ i, j + i + 1 = l.length := ⟨l.length - 1 - j, by omega⟩
        have ei : (l.length : Int) - 1 - (j : Int) = (i : Int) := by omega
        rw [ei]
        have hil : i < l.length := by omega
        obtain ⟨ad, rfl, d0, d1⟩ := at_Pt hl i hil
        have hdb := World.block_lt_of_cell? _ _ d0
        have d0' := pw_cell_below (bl : Below w.heap.size w wr) d0
        have d1' := pw_cell_below (bl : Below w.heap.size w wr) d1
        have hlt2 : decide (0 ≤ (i : Int)) = true := by simp
        have hw2 : IntKind.i64.wrap ((i : Int) - 1) = (l.length : Int) - 1 - ((j : Int) + 1) := by rw [IntWalk.i64_in _ (by omega)]; omega
        have hx : l.reverse.take (j + 1) = l.reverse.take j ++ [l[i]] := by
          rw [List.take_succ_eq_append_getElem (by rw [List.length_reverse]; exact hlt), List.getElem_reverse]
          have : l.length - 1 - j = i := by omega
          simp only [this]
        clear ei
        have HX := Lib.hid hx
        clear hx
        generalize hxs : l.reverse.take j = xs at *
        have hxl := Lib.hid (show xs.length = j by rw [← hxs, List.length_take, List.length_reverse]; omega)
        clear hxs
        go_wp2
        refine cgStart 11 [0, 1, 2, 3, 4, 5, 6, 7, 8, 9, 10] [10] [(⟨w.heap.size + 2, 1, none⟩, _), (⟨w.heap.size, 1, none⟩, _), (ad.add (i * 2), _), (⟨(ad.add (i * 2)).block, (ad.add (i * 2)).off + 1, none⟩, _)] s_ShapeBack_t7 ⟨p1, a1, d0', d1', trivial⟩ (fun HT HD => ?_)
        repeat ((with_reducible refine cgGate ?_); first | refine cgP HT ?_ | refine cgL HT ?_)
        refine cgE (w1 := wr.drew.alloc (.cells #[.int .i64 l[i].1, .int .i64 l[i].2] 40)) (v := .slice (some ⟨wr.heap.size, 0, none⟩) 1 1) HT (fun HD2 => ?_) (hrun := by first | (go_simp; done) | (go_simp; rfl)) (hS := HD.to bl)
        have hrow2 : kPt.R 40 (wr.drew.alloc (.cells #[.int .i64 l[i].1, .int .i64 l[i].2] 40)) w.heap.size (fun _ => True) (.slice Ao xs.length co) xs := Kd.R_alloc (Kd.R_drew hrow) _
        have X3 : B2 (wr.drew.alloc (.cells #[.int .i64 l[i].1, .int .i64 l[i].2] 40)) (w.heap.size + 2) _ _ _ := R3.to bl
        have X1 : B2 (wr.drew.alloc (.cells #[.int .i64 l[i].1, .int .i64 l[i].2] 40)) w.heap.size _ _ _ := R1.to bl
        have X2 : B2 (wr.drew.alloc (.cells #[.int .i64 l[i].1, .int .i64 l[i].2] 40)) (w.heap.size + 1) _ _ _ := R2.to bl
        have f3 := Kd.R_ne hrow2 X3 (by decide)
        have f1 := Kd.R_ne hrow2 X1 (by decide)
        have f2 := Kd.R_ne hrow2 X2 (by decide)
        have fa : some (ad.add (i * 2)).block ≠ (Value.slice Ao xs.length co).ownBlock := fun he => by have := Kd.R_base hrow2 _ he.symm; omega
        refine cgApp (w0 := w) (base := w.heap.size) (.tmp 21) (.tmp 27) _ xs [l[i]] (some ⟨wr.heap.size, 0, none⟩) 1 1 HT HD2 hrow2 (lit1 wr.drew l[i]) bl sz (by have := hxl.out; omega) (by simp only [List.mem_cons, List.mem_nil_iff, or_false, forall_eq_or_imp, forall_eq]; exact ⟨f3, f1, fa, fa⟩) ?_
        intro A' c' w5 ho5 hb5 HD5 hg5
        have Y3 := X3.grown hg5 f3
        have Y1 := X1.grown hg5 f1
        have Y2 := X2.grown hg5 f2
        clear p0 p1 p2 p3 p4
        obtain ⟨p0, p1, p2, p3, p4⟩ := Y3.f
        refine cgN ?_
        repeat ((with_reducible refine cgGate ?_); first | refine cgP HT ?_ | refine cgL HT ?_)
        refine cgLast HT ?_
        refine cgDone HT ?_
        go_wp2
        have hlen : (xs ++ [l[i]]).length = xs.length + 1 := by simp
        refine ⟨⟨j + 1, by omega, rfl, ⟨Y1.tr⟩, ⟨Y2.tr⟩, ⟨A', c', ?_, ?_⟩, ⟨hb5.setCell (by show w.heap.size ≤ w.heap.size + 1 + 1; omega) _⟩⟩, by simp [intOf]; omega⟩
        · rw [HX.out, hlen]
          exact Y3.set1 _
        · rw [HX.out]
          exact Kd.R_set ho5 Y3 (by decide) 1 _
      · have he : j = l.length := by omega
        have ei : (l.length : Int) - 1 - (j : Int) = -1 := by omega
        rw [ei]
        clear ei
        have hrow2 := hrow
        have R3' := R3
        rw [he, List.take_of_length_le (by rw [List.length_reverse]; exact Nat.le_refl _)] at hrow2 R3'
        clear hrow R3 he p0 p1 p2 p3 p4
        obtain ⟨p0, p1, p2, p3, p4⟩ := R3'.f
        obtain ⟨q0, q1, q2, q3, q4⟩ := R2.f
        go_wp2
        rw [hbk.out]
        have ho3 := Kd.R_set (Kd.R_set hrow2 R2 (by decide) 0 (.int .i64 K)) (R2.set0 (.int .i64 K)) (by decide) 1 (.slice Ao l.length co)
        refine bodyPost_ret (v := .agg #[.int .i64 K, .slice Ao l.length co]) (by simp [results, Try.results33, go_sem, *]) rfl ⟨Ao, co, by rw [List.length_reverse], RI.of ho3, (hbr.setCell (by simp) _).setCell (by simp) _⟩
end Go.Proofs.Ytfapledohlckoaa
