/- Contracts: impl.ShapeMove. -/
import Derived.Test.YtfapledohlckoaaJ
import Derived.Test.YtfapledohlckoaaN
namespace Go.Proofs.Ytfapledohlckoaa
open Go.RowKit Go.Proofs.YtfapledohlckoaaW.PrintWords Go.Proofs.YtfapledohlckoaaW.PrintLast
set_option linter.unusedVariables false
set_option linter.unusedSimpArgs false
attribute [local go_sem] cell_set_far cell_set_off
set_option maxHeartbeats 4000000 in
theorem iShapeMove_c (K : Int) (A : Option Addr) (c : Nat) (l : List Pt) (dx dy : Int) (w : World) (hl : kPt.C w A l.length l) (hn : l.length ≤ 1048576) :
    Calls Try.prog 38 #[.agg #[.int .i64 K, .slice A l.length c], .int .i64 dx, .int .i64 dy] w fun e w' => ∃ A' c', e = .returned (.tuple #[.agg #[.int .i64 (mv K l dx dy).1.1, .slice A' (mv K l dx dy).1.2.length c'], .bool (mv K l dx dy).2]) ∧ RI kPt 40 w' w.heap.size w'.heap.size (.slice A' (mv K l dx dy).1.2.length c') (mv K l dx dy).1.2 ∧ Below w.heap.size w w' := by
  go_enter Try.func38, Try.ntmps38
  go_wp2_with fail
  refine (iShapeOk_c _ _ _ _ _ (Kd.C_below hl bl) hn).mono ?_
  rintro e w1 ⟨rfl, hb1⟩
  have T1 := Lib.hid (B2.new' (W := w1) w w.heap.size (.int .i64 K) (.slice A l.length c) 31)
  have T2 : B2 w1 (w.heap.size + 1) 31 (.int .i64 0) (.slice none 0 0) := B2.new' (w.alloc (.cells #[.int .i64 K, .slice A l.length c] 31)) _ _ _ _
  cases hok : shapeOk K l with
  | false =>
    obtain ⟨b0, b1, b2, b3, b4⟩ := T2.f
    have hbk := Lib.hid (show mv K l dx dy = ((0, []), false) from if_neg fun h => shapeOk_f.1 hok h.1.1)
    go_wp2
    rw [hbk.out]
    refine bodyPost_ret (v := .tuple #[.agg #[.int .i64 0, .slice none 0 0], .bool false]) (by simp [results, Try.results38, go_sem, *]) rfl ⟨none, 0, rfl, RI.of (Kd.R_nil _ _ _ _ _), bl⟩
  | true =>
    go_wp2_with fail
    refine (within_c _ _ _ _).mono ?_
    rintro e w1 ⟨rfl, rfl⟩
    cases hx : inB dx (-2000) 2000 with
    | false =>
      obtain ⟨b0, b1, b2, b3, b4⟩ := T2.f
      have hbk := Lib.hid (show mv K l dx dy = ((0, []), false) from if_neg fun h => by simp [inB] at hx; exact absurd h.1.2.1.2 (by have := h.1.2.1.1; omega))
      go_wp2
      rw [hbk.out]
      refine bodyPost_ret (v := .tuple #[.agg #[.int .i64 0, .slice none 0 0], .bool false]) (by simp [results, Try.results38, go_sem, *]) rfl ⟨none, 0, rfl, RI.of (Kd.R_nil _ _ _ _ _), bl⟩
    | true =>
      go_wp2_with fail
      refine (within_c _ _ _ _).mono ?_
      rintro e w1 ⟨rfl, rfl⟩
      cases hy : inB dy (-2000) 2000 with
      | false =>
        obtain ⟨b0, b1, b2, b3, b4⟩ := T2.f
        have hbk := Lib.hid (show mv K l dx dy = ((0, []), false) from if_neg fun h => by simp [inB] at hy; exact absurd h.1.2.2.2 (by have := h.1.2.2.1; omega))
        go_wp2
        rw [hbk.out]
        refine bodyPost_ret (v := .tuple #[.agg #[.int .i64 0, .slice none 0 0], .bool false]) (by simp [results, Try.results38, go_sem, *]) rfl ⟨none, 0, rfl, RI.of (Kd.R_nil _ _ _ _ _), bl⟩
      | true =>
        have HS := Lib.hid (shapeOk_t.1 hok)
        have hle : l.length ≤ 6 := HS.out.le
        have hr' := Lib.hid (show InR dx dy by simp [inB] at hx hy; exact ⟨hx, hy⟩)
        obtain ⟨a0, a1, a2, a3, a4⟩ := T1.out.f
        go_wp2_with fail
        refine (clone_c _ _ _ _ _ (Kd.C_below hl bl) hn).mono ?_
        rintro e w2 ⟨A2, c2, rfl, hr2, hb2⟩
        have hmv : (l.map (movePt dx dy)).length = l.length := by simp
        have b1 := hb1.size
        simp only [World.size_alloc] at b1
        go_wp2
        go_loopw [29] (fun q wr => ∃ k : Nat, k ≤ l.length ∧ q = .int .i64 k ∧ Aside0 (RI kPt 40 wr w1.heap.size w2.heap.size (.slice A2 l.length c2) ((l.map (movePt dx dy)).take k ++ l.drop k)) ∧ Aside0 (B2 wr w2.heap.size 31 (.int .i64 K) (.slice A2 l.length c2)) ∧ Aside0 (Ex w1.heap.size w2.heap.size (w2.alloc (.cells #[.int .i64 K, .slice A2 l.length c2] 31)) wr)) (fun q _ => l.length - (intOf q).toNat)
        case atStart => exact ⟨0, by omega, rfl, ⟨by simpa using RI.alloc hr2 _⟩, ⟨B2.new w2⟩, ⟨Ex.refl _ _ _⟩⟩
        case round =>
          obtain ⟨k, hk, rfl, ⟨hr3⟩, ⟨R3⟩, ⟨hx3⟩⟩ := hrel
          obtain ⟨x0, x1, x2, x3, x4⟩ := R3.f
          clear a0 a1 a2 a3
          by_cases hlt : k < l.length
          · obtain ⟨g, cap, hv, hg1, hg2, _⟩ := Kd.R_form hr3 (by simp; omega)
            injection hv with e1 e2 e3
            subst e1
            clear e2 e3
            have hg3 : g < w2.heap.size := hr3.1 g (by rfl)
            have hkl : k < ((l.map (movePt dx dy)).take k ++ l.drop k).length := by simp; omega
            obtain ⟨c0, c1, f0, f1⟩ := own_Pt hr3 k hkl
            rw [get_step l _ hmv k hlt hkl] at c0 c1
            obtain ⟨hr4, _⟩ := set_Pt hr3 k hlt (l[k].1 + dx) (l[k].2 + dy)
            have hst := set_step l (l.map (movePt dx dy)) hmv k hlt
            rw [List.getElem_map] at hst
            rw [show ((l[k].1 + dx, l[k].2 + dy) : Pt) = movePt dx dy l[k] from rfl, hst] at hr4
            have hnr := near_of (HS.out.1 k hlt hlt).1
            have hIR := hr'.out
            have hw1 : IntKind.i64.wrap (l[k].1 + dx) = l[k].1 + dx := IntWalk.i64_in _ (by unfold Near at hnr; unfold InR at hIR; omega)
            have hw2 : IntKind.i64.wrap (l[k].2 + dy) = l[k].2 + dy := IntWalk.i64_in _ (by unfold Near at hnr; unfold InR at hIR; omega)
            have hw : IntKind.i64.wrap ((k : Int) + 1) = (k : Int) + 1 := IntWalk.i64_in _ (by omega)
            have hlt2 : decide ((k : Int) < (l.length : Int)) = true := by simp; omega
            have n1 : (w2.heap.size == g) = false := by simp; omega
            clear hst hnr hIR
            go_wp2
            exact ⟨⟨k + 1, by omega, rfl, ⟨hr4⟩, ⟨(R3.far n1).far n1⟩, ⟨(hx3.set hg1 hg3).set hg1 hg3⟩⟩, by simp [intOf]; omega⟩
          · have he : k = l.length := by omega
            have hlt2 : decide ((k : Int) < (l.length : Int)) = false := by simp; omega
            have hsl := Lib.hid he
            clear he
            have hr5 : RI kPt 40 wr w1.heap.size w2.heap.size (.slice A2 (l.map (movePt dx dy)).length c2) (l.map (movePt dx dy)) := by
              have := hr3
              rw [hsl.out, List.drop_length, List.append_nil, List.take_of_length_le (by simp)] at this
              rw [hmv]
              exact this
            have s3 := hx3.1.size
            simp only [World.size_alloc] at s3
            have U2 : B2 wr (w.heap.size + 1) 31 (.int .i64 0) (.slice none 0 0) := ((T2.to hb2).to (below_alloc (Below.refl _ _) _)).ex hx3 (Or.inl (by omega))
            have Br : Below w.heap.size w wr := (bl : Below w.heap.size w (w2.alloc (.cells #[.int .i64 K, .slice A2 l.length c2] 31))).trans (hx3.1.mono (by omega))
            go_wp2_with fail
            have hok2 := iShapeOk_c K A2 c2 (l.map (movePt dx dy)) wr hr5.rd.2.2 (by rw [hmv]; exact hn)
            rw [hmv] at hok2
            refine hok2.mono ?_
            rintro e w4 ⟨rfl, hb4⟩
            replace U2 := U2.to hb4
            replace R3 := R3.to hb4
            replace hr5 := hr5.below hb4
            replace Br : Below w.heap.size w w4 := bl
            have s4 := hb4.size
            clear x0 x1 x2 x3 x4
            obtain ⟨x0, x1, x2, x3, x4⟩ := R3.f
            obtain ⟨y0, y1, y2, y3, y4⟩ := U2.f
            cases hok3 : shapeOk K (l.map (movePt dx dy)) with
            | false =>
              have hbk := Lib.hid (show mv K l dx dy = ((0, []), false) from if_neg fun h => shapeOk_f.1 hok3 h.2)
              go_wp2
              rw [hbk.out]
              refine bodyPost_ret (v := .tuple #[.agg #[.int .i64 0, .slice none 0 0], .bool false]) (by simp [results, Try.results38, go_sem, *]) rfl ⟨none, 0, rfl, RI.of (Kd.R_nil _ _ _ _ _), (Br.setCell (by simp) _).setCell (by simp) _⟩
            | true =>
              have hbk := Lib.hid (show mv K l dx dy = ((K, l.map (movePt dx dy)), true) from if_pos ⟨⟨HS.out, hr'.out⟩, shapeOk_t.1 hok3⟩)
              go_wp2
              rw [hbk.out]
              refine bodyPost_ret (v := .tuple #[.agg #[.int .i64 K, .slice A2 l.length c2], .bool true]) (by simp [results, Try.results38, go_sem, *]) rfl ⟨A2, c2, by rw [hmv], ?_, (Br.setCell (by simp) _).setCell (by simp) _⟩
              exact ((hr5.far (Or.inl (by simp only []; omega)) _).far (Or.inl (by simp only []; omega)) _).wide (by omega) (by simp only [World.size_setCell]; omega)
end Go.Proofs.Ytfapledohlckoaa
