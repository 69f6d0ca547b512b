/- Contracts: the drawer's numbers and points. -/
import Derived.Test.YtfbhjknkofnohaaDoorZ
import Derived.Test.YtfbhjknkofnohaaDoorE
import Derived.Test.YtfbhjknkofnohaaDoorM
namespace Go.Proofs.YtfbhjknkofnohaaDoor
open Go.RowKit Go.Proofs.YtfbhjknkofnohaaDoorW.PrintWords Go.Proofs.YtfbhjknkofnohaaDoorW.PrintLast
set_option linter.unusedVariables false
set_option linter.unusedSimpArgs false
attribute [local go_sem] cell_set_far
/-- The drawer: block b holds the code's bytes (that lay there in w0) and a place of at most N. -/
def Rdr (w0 w : World) (b N : Nat) : Prop := ∃ (A : Option Addr) (c : Nat) (l : List Int) (p : Nat), (Kd.int .u8).C w0 A l.length l ∧ (∀ x ∈ l, 0 ≤ x ∧ x ≤ 255) ∧ l.length ≤ 2000 ∧ w0.heap.size ≤ b ∧ Below w0.heap.size w0 w ∧ B2 w b 91 (.slice A l.length c) (.int .i64 p) ∧ p ≤ N
section
variable {w0 w w1 : World} {b N M : Nat}
theorem Rdr.to (h : Rdr w0 w b N) (hb : Below w.heap.size w w1) : Rdr w0 w1 b N := by
  obtain ⟨A, c, l, p, h1, h2, h3, h4, h5, h6, h7⟩ := h
  exact ⟨A, c, l, p, h1, h2, h3, h4, h5.trans (hb.mono h5.size), h6.to hb, h7⟩
theorem Rdr.ge (h : Rdr w0 w b N) : w0.heap.size ≤ b := by
  obtain ⟨A, c, l, p, h1, h2, h3, h4, h5, h6, h7⟩ := h
  exact h4
theorem Rdr.lt (h : Rdr w0 w b N) : b < w.heap.size := by
  obtain ⟨A, c, l, p, h1, h2, h3, h4, h5, h6, h7⟩ := h
  exact h6.f.2.2.2.2
theorem Rdr.bel (h : Rdr w0 w b N) : Below w0.heap.size w0 w := by
  obtain ⟨A, c, l, p, h1, h2, h3, h4, h5, h6, h7⟩ := h
  exact h5
theorem Rdr.up (h : Rdr w0 w b N) (hm : N ≤ M) : Rdr w0 w b M := by
  obtain ⟨A, c, l, p, h1, h2, h3, h4, h5, h6, h7⟩ := h
  exact ⟨A, c, l, p, h1, h2, h3, h4, h5, h6, by omega⟩
theorem Rdr.set (h : Rdr w0 w b N) {g i : Nat} {v : Value} (hg : b < g) : Rdr w0 (w.setCell ⟨g, i, none⟩ v) b N := by
  obtain ⟨A, c, l, p, h1, h2, h3, h4, h5, h6, h7⟩ := h
  exact ⟨A, c, l, p, h1, h2, h3, h4, h5.setCell (show w0.heap.size ≤ g by omega) _, h6.far (by simp; omega), h7⟩
theorem Rdr.grown (h : Rdr w0 w b N) {row : Option Nat} (hg : w.grownBy w1 row) (hr : ∀ k, row = some k → b < k) : Rdr w0 w1 b N := by
  obtain ⟨A, c, l, p, h1, h2, h3, h4, h5, h6, h7⟩ := h
  exact ⟨A, c, l, p, h1, h2, h3, h4, h5.grown hg h5.size (fun k e => by have := hr k e; omega), h6.grown hg (fun e => by have := hr b e.symm; omega), h7⟩
end
theorem pick_d (b N : Nat) (n : Int) (w0 w : World) (R : Rdr w0 w b N) (hN : N ≤ 1073741824) :
    Calls Tryd.prog 50 #[.pointer (some ⟨b, 0, none⟩), .int .i64 n] w fun e w' => ∃ v, e = .returned (.int .i64 v) ∧ 0 ≤ v ∧ (1 ≤ n → v < n) ∧ Rdr w0 w' b (N + 1) ∧ Ex b (b + 1) w w' := by
  obtain ⟨A, c, l, p, h1, h2, h3, h4, h5, h6, h7⟩ := R
  refine (pick_c b A c l p n w0 w h1 h2 h3 h5 h4 h6 (by omega) (by omega)).mono ?_
  rintro e w' ⟨v, rfl, hv0, hv1, hB, hx⟩
  exact ⟨v, rfl, hv0, hv1, ⟨A, c, l, p + 1, h1, h2, h3, h4, h5.trans (hx.1.mono h4), hB, by omega⟩, hx⟩
/-- A list of numbers, written out. -/
theorem litInts (w : World) (t : TypeId) (xs : List Int) (hn : xs.length ≤ 1000) : (Kd.int .i64).C (w.alloc (.cells (xs.map (Value.int .i64)).toArray t)) (some ⟨w.heap.size, 0, none⟩) xs.length xs := by
  refine ⟨rfl, by omega, fun _ => ⟨_, rfl, fun j p hj => ⟨[.int .i64 p], rfl, rfl, fun i u hu => ?_⟩⟩⟩
  cases i with
  | zero =>
    obtain rfl : Value.int .i64 p = u := by simpa using hu
    have : (⟨w.heap.size, 0, none⟩ : Addr).add (j * (Kd.int .i64).sz + 0) = ⟨w.heap.size, j, none⟩ := by
      have e : j * (Kd.int .i64).sz + 0 = j := by show j * 1 + 0 = j; omega
      rw [e]; unfold Addr.add; split <;> simp_all
    rw [this, blk_cell (blk_new w _) j]
    simp [hj]
  | succ i => simp at hu
theorem num_d (b g N c : Nat) (lst : List Int) (w0 w : World) (R : Rdr w0 w b N) (hN : N ≤ 1073741824) (hg : b < g) (hC : (Kd.int .i64).C w (some ⟨g, 0, none⟩) lst.length lst) (h1 : 1 ≤ lst.length) (hm : lst.length ≤ 1000) :
    Calls Tryd.prog 68 #[.pointer (some ⟨b, 0, none⟩), .slice (some ⟨g, 0, none⟩) lst.length c] w fun e w' => ∃ v, v ∈ lst ∧ e = .returned (.int .i64 v) ∧ Rdr w0 w' b (N + 1) ∧ Ex b (b + 1) w w' := by
  go_enter Tryd.func68, Tryd.ntmps68
  go_wp2_with fail
  refine (pick_d b N _ w0 _ R hN).mono ?_
  rintro e w1 ⟨v, rfl, hv0, hv1, R1, hx⟩
  obtain ⟨j, rfl⟩ : ∃ j : Nat, v = j := ⟨v.toNat, by omega⟩
  have hj : j < lst.length := by have := hv1 (by omega); omega
  clear hv0 hv1
  obtain ⟨ad, c, e, hlc, hK, hc⟩ := Kd.C_get hC (0 : Int) (j : Int) (by omega) (by omega)
  have hgd : lst.getD j 0 = lst[j] := by rw [List.getD_eq_getElem?_getD, List.getElem?_eq_getElem hj]; rfl
  simp only [Int.toNat_natCast] at hK hc
  rw [hgd] at hK
  cases e
  obtain rfl : c = [.int .i64 lst[j]] := hK
  have c0 := hx.cell (hc 0 _ rfl) (Or.inr (by unfold Addr.add; split <;> simp <;> omega))
  have c1 : w1.cell? (Addr.add ⟨g, 0, none⟩ j) = some (.int .i64 lst[j]) := by simpa [Kd.int, Kd.scalar] using c0
  have c2 : w1.cell? ⟨g, j, none⟩ = some (.int .i64 lst[j]) := by
    have e : (Addr.add ⟨g, 0, none⟩ j) = ⟨g, j, none⟩ := by unfold Addr.add; split <;> simp_all
    rwa [e] at c1
  clear c0 hc hlc hgd c1
  go_wp2
  go_ret
  exact ⟨lst[j], List.getElem_mem hj, rfl, R1, hx⟩
set_option maxHeartbeats 1000000 in
theorem l1Pt_d (b N : Nat) (w0 w : World) (R : Rdr w0 w b N) (hN : N ≤ 1000000) :
    Calls Tryd.prog 81 #[.pointer (some ⟨b, 0, none⟩)] w fun e w' => ∃ x y, e = .returned (.agg #[.int .i64 x, .int .i64 y]) ∧ (0 ≤ x ∧ x ≤ 5) ∧ (0 ≤ y ∧ y ≤ 5) ∧ Rdr w0 w' b (N + 2) ∧ Ex b (b + 1) w w' := by
  have hbw := R.lt
  go_enter Tryd.func81, Tryd.ntmps81
  go_wp2_with fail
  refine (pick_d b N _ w0 _ (R.to bl) (by omega)).mono ?_
  rintro e w1 ⟨x, rfl, hx0, hx1, R1, hx⟩
  have hx4 := hx1 (by decide)
  clear hx1
  have s1 := hx.1.size
  simp only [World.size_alloc] at s1
  have X1 := (B2.new (u := .int .i64 0) (v := .int .i64 0) (t := 58) w).ex hx (Or.inr (by omega))
  go_wp2_with fail
  refine (num_d b w1.heap.size (N + 1) _ [0, 1, 2, 5] w0 _ (R1.to bl) (by omega) (by omega) (litInts w1 _ [0, 1, 2, 5] (by decide)) (by decide) (by decide)).mono ?_
  rintro e w2 ⟨y, hy, rfl, R2, hz⟩
  have hy5 : 0 ≤ y ∧ y ≤ 5 := by simp only [List.mem_cons, List.mem_nil_iff, or_false] at hy; omega
  clear hy
  have X2 := (X1.to (below_alloc (Below.refl _ _) _)).ex hz (Or.inr (by omega))
  obtain ⟨x0, x1, x2, x3, x4⟩ := X2.f
  go_wp2
  have hx2 : Ex b (b + 1) w w2 := ((Ex.of (below_alloc (Below.refl _ _) _) (by omega)).trans hx).trans ((Ex.of (below_alloc (Below.refl _ _) _) (by omega)).trans hz)
  refine bodyPost_ret (v := .agg #[.int .i64 x, .int .i64 y]) (by simp [results, Tryd.results81, go_sem, *]) rfl ⟨x, y, rfl, ⟨hx0, by omega⟩, hy5, (R2.set hbw).set hbw, (hx2.setN (Nat.le_refl _) (by omega)).setN (Nat.le_refl _) (by omega)⟩
end Go.Proofs.YtfbhjknkofnohaaDoor
