/- Contracts: what is drawn of a code: a shape and how far it is moved. -/
import Derived.Test.YtfapledohlckoaaDu
namespace Go.Proofs.Ytfapledohlckoaa
open Go.RowKit Go.Proofs.YtfapledohlckoaaW.PrintWords Go.Proofs.YtfapledohlckoaaW.PrintLast
set_option linter.unusedVariables false
set_option linter.unusedSimpArgs false
attribute [local go_sem] cell_set_far cell_set_off
def s_DrawShapeMove_T4 : Bool × List (List Nat × List Nat) := (true, [([], []), ([], []), ([], []), ([], []), ([2, 3], [2, 3]), ([0, 4, 0], [0]), ([1, 5, 0, 1, 5], [1]), ([4, 6, 0, 1, 2, 3, 4, 5, 6], [4])])
theorem s_DrawShapeMove_t4 : rtab .any (opsOf Try.f40 4) = s_DrawShapeMove_T4 := by kernel_rfl
set_option maxHeartbeats 1000000 in
theorem DrawShapeMove_d (A : Option Addr) (c : Nat) (l : List Int) (w : World) (hl : (Kd.int .u8).C w A l.length l) (hb : ∀ x ∈ l, 0 ≤ x ∧ x ≤ 255) (hc : l.length ≤ c) (hn : l.length ≤ 1048576) :
    Calls Try.prog 40 #[.slice A l.length c] w fun e w' => ∃ (K : Int) (A : Option Addr) (c : Nat) (l : List Pt) (dx dy : Int), e = .returned (.tuple #[.agg #[.int .i64 K, .slice A l.length c], .int .i64 dx, .int .i64 dy]) ∧ RI kPt 40 w' w.heap.size w'.heap.size (.slice A l.length c) l ∧ l.length ≤ 16 ∧ (-3000 ≤ dx ∧ dx ≤ 3000) ∧ (-3000 ≤ dy ∧ dy ≤ 3000) ∧ Below w.heap.size w w' := by
  go_enter Try.func40, Try.ntmps40
  go_wp2_with fail
  refine (l12Open_d A c l _ (Kd.C_below hl bl) hb hc hn).mono ?_
  rintro e w1 ⟨b, rfl, R1, hb1, hB1⟩
  have s1 := hB1.size
  simp only [World.size_alloc] at s1 hb1
  go_wp2_with fail
  refine (l1Bent_d b 0 _ _ R1 (by omega)).mono ?_
  rintro e w2 ⟨K, A2, c2, l2, rfl, hr2, hl2, _, hK0, hK4, R2, hx2⟩
  have s2 := hx2.1.size
  have T2 := (B2.new' (W := w1) w w.heap.size (.int .i64 0) (.slice none 0 0) 31).ex hx2 (Or.inl (by omega))
  have B_2 := hx2.bel (bl : Below w.heap.size w w1) (by omega)
  have X2 := B2.new (u := .int .i64 K) (v := .slice A2 l2.length c2) (t := 31) w2
  have hbl := R2.lt
  have hbl1 := R1.lt
  go_wp2_with fail
  refine (num_d b (w2.heap.size + 1) _ _ [0, 1, -3, 7, 1000, -1000, 2001] _ _ (R2.to bl) (by omega) (by omega) (by simpa using litInts (w2.alloc (.cells #[.int .i64 K, .slice A2 l2.length c2] 31)) _ [0, 1, -3, 7, 1000, -1000, 2001] (by decide)) (by decide) (by decide)).mono ?_
  rintro e w3 ⟨dx, hdx, rfl, R3, hx3⟩
  have hdx2 : -3000 ≤ dx ∧ dx ≤ 3000 := by simp only [List.mem_cons, List.mem_nil_iff, or_false] at hdx; omega
  clear hdx
  have s3 := hx3.1.size
  simp only [World.size_alloc] at s3
  have T3 := (T2.to (bl : Below w2.heap.size w2 ((w2.alloc (.cells #[.int .i64 K, .slice A2 l2.length c2] 31)).alloc _))).ex hx3 (Or.inl (by omega))
  have X3 := (X2.to (below_alloc (Below.refl _ _) _)).ex hx3 (Or.inr (by omega))
  have B_3 := hx3.bel ((B_2.trans (Below.mono (bl : Below w2.heap.size w2 ((w2.alloc (.cells #[.int .i64 K, .slice A2 l2.length c2] 31)).alloc _)) (by omega)))) (by omega)
  have r3 : RI kPt 40 w3 w1.heap.size w2.heap.size (.slice A2 l2.length c2) l2 := (RI.alloc (RI.alloc hr2 _) _).ex hx3 (Or.inr (by omega))
  obtain ⟨a0, a1, a2, a3, a4⟩ := X3.f
  go_wp2
  refine cgStart 8 [0, 1, 2, 3, 4, 5, 6, 7] [5] [(⟨w2.heap.size, 0, none⟩, _), (⟨w2.heap.size, 1, none⟩, _)] s_DrawShapeMove_t4 ⟨a0, a1, trivial⟩ (fun HT HD => ?_)
  repeat ((with_reducible refine cgGate ?_); first | refine cgP HT ?_ | refine cgL HT ?_ | refine cgG HT ?_)
  refine cgE (w1 := w3.drew.alloc (.cells #[.int .i64 0, .int .i64 2, .int .i64 (-1), .int .i64 1000, .int .i64 (-2001)] 3)) (v := .slice (some ⟨w3.heap.size, 0, none⟩) 5 5) HT (fun HD2 => ?_) (hrun := by first | (go_simp; done) | (go_simp; rfl)) (hS := HD.to bl)
  repeat ((with_reducible refine cgGate ?_); first | refine cgP HT ?_ | refine cgL HT ?_ | refine cgG HT ?_)
  refine cgCall HT Try.func61 (num_d b w3.heap.size _ _ [0, 2, -1, 1000, -2001] _ _ (R3.to bl) (by omega) (by omega) (litInts w3.drew _ [0, 2, -1, 1000, -2001] (by decide)) (by decide) (by decide)) ?_
  rintro e w4 ⟨dy, hdy, rfl, R4, hx4⟩
  have hdy2 : -3000 ≤ dy ∧ dy ≤ 3000 := by simp only [List.mem_cons, List.mem_nil_iff, or_false] at hdy; omega
  clear hdy
  have s4 := hx4.1.size
  simp only [World.size_alloc, World.size_drew] at s4
  have T4 := (T3.to (bl : Below w3.heap.size w3 (w3.drew.alloc (.cells #[.int .i64 0, .int .i64 2, .int .i64 (-1), .int .i64 1000, .int .i64 (-2001)] 3)))).ex hx4 (Or.inl (by omega))
  have X4 := (X3.to (bl : Below w3.heap.size w3 (w3.drew.alloc (.cells #[.int .i64 0, .int .i64 2, .int .i64 (-1), .int .i64 1000, .int .i64 (-2001)] 3)))).ex hx4 (Or.inr (by omega))
  have B_4 := hx4.bel ((B_3.trans (Below.mono (bl : Below w3.heap.size w3 (w3.drew.alloc (.cells #[.int .i64 0, .int .i64 2, .int .i64 (-1), .int .i64 1000, .int .i64 (-2001)] 3))) (by omega)))) (by omega)
  have r4 : RI kPt 40 w4 w1.heap.size w2.heap.size (.slice A2 l2.length c2) l2 := (RI.alloc (RI.drew r3) _).ex hx4 (Or.inr (by omega))
  refine ⟨_, rfl, ⟨X4.f.1, X4.f.2.1, trivial⟩, cgN ?_⟩
  clear a0 a1 a2 a3 a4
  obtain ⟨a0, a1, a2, a3, a4⟩ := T4.f
  repeat ((with_reducible refine cgGate ?_); first | refine cgP HT ?_ | refine cgL HT ?_ | refine cgG HT ?_)
  refine cgLast HT ?_
  repeat ((with_reducible refine cgGate ?_); first | refine cgP HT ?_ | refine cgL HT ?_ | refine cgG HT ?_)
  refine cgDone HT ?_
  clear HT HD HD2
  go_wp2
  refine bodyPost_ret (v := .tuple #[.agg #[.int .i64 K, .slice A2 l2.length c2], .int .i64 dx, .int .i64 dy]) (by simp [results, Try.results40, go_sem, *]) rfl ⟨K, A2, c2, l2, dx, dy, rfl, ?_, by omega, hdx2, hdy2, (B_4.setCell (by simp) _).setCell (by simp) _⟩
  exact ((r4.far (Or.inl (by simp only []; omega)) _).far (Or.inl (by simp only []; omega)) _).wide (by omega) (by simp only [World.size_setCell]; omega)
end Go.Proofs.Ytfapledohlckoaa
