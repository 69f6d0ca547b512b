/- What a call keeps: all but the blocks of an interval. -/
import Derived.Test.YtlebgjafaioajaaG
namespace Go.Proofs.Ytlebgjafaioajaa
open Go.RowKit Go.Proofs.YtlebgjafaioajaaW.PrintWords Go.Proofs.YtlebgjafaioajaaW.PrintLast
set_option linter.unusedVariables false
set_option linter.unusedSimpArgs false
section
variable {lo hi lo' hi' : Nat} {w w' w1 w2 : World}
theorem Ex.trans (h1 : Ex lo hi w w1) (h2 : Ex lo hi w1 w2) : Ex lo hi w w2 := ⟨h1.1.trans h2.1, fun k a b => (h2.2 k a (Nat.lt_of_lt_of_le b h1.1.size)).trans (h1.2 k a b)⟩
theorem Ex.of (h : Below w.heap.size w w1) (hl : lo ≤ w.heap.size) : Ex lo hi w w1 := ⟨h.mono hl, fun k _ b => h.block k b⟩
theorem Ex.to (h1 : Ex lo hi w w1) (h : Below w1.heap.size w1 w2) (hl : lo ≤ w.heap.size) : Ex lo hi w w2 := h1.trans (Ex.of h (Nat.le_trans hl h1.1.size))
/-- A store into a block that was new. -/
theorem Ex.setN (h : Ex lo hi w w') {b i : Nat} {v : Value} (h1 : w.heap.size ≤ b) (hl : lo ≤ w.heap.size) : Ex lo hi w (w'.setCell ⟨b, i, none⟩ v) :=
  ⟨h.1.setCell (Nat.le_trans hl h1) _, fun k hk hlt => by rw [Below.heap_setCell _ _ _ _ (show k ≠ b by omega)]; exact h.2 k hk hlt⟩
theorem Ex.grown (h : Ex lo hi w w1) {row : Option Nat} (hg : w1.grownBy w2 row) (hr : ∀ k, row = some k → w.heap.size ≤ k) (hl : lo ≤ w.heap.size) : Ex lo hi w w2 :=
  ⟨h.1.grown hg (Nat.le_trans hl h.1.size) (fun k e => Nat.le_trans hl (hr k e)), fun k hk hlt => (hg.block k (Nat.lt_of_lt_of_le hlt h.1.size) (fun e => by have := hr k e.symm; omega)).trans (h.2 k hk hlt)⟩
theorem Ex.cell (h : Ex lo hi w w1) {p : Addr} {v : Value} (hc : w.cell? p = some v) (hp : p.block < lo ∨ hi ≤ p.block) : w1.cell? p = some v := by
  rw [← hc]
  refine World.cell?_of_block (w := w) ?_
  rcases hp with h1 | h1
  · exact h.1.block _ h1
  · exact h.2 _ h1 (World.block_lt_of_cell? _ _ hc)
/-- An own row behind a call that wrote into elder blocks alone. -/
theorem R_ex {α : Type} {d : Kd α} {e base : Nat} {ok : Nat → Prop} {v : Value} {xs : List α} (h : d.R e w base ok v xs) (hx : Ex lo hi w w1) (hb : hi ≤ base) : d.R e w1 base ok v xs :=
  Kd.R_mono (Kd.R_step (Kd.R_bound h) (fun k hk hlt => hx.2 k (Nat.le_trans hb hk.2.1) hlt)) (fun _ hk => hk.1)
end
theorem Cells.ex {lo hi : Nat} {w w1 : World} (hx : Ex lo hi w w1) : ∀ {L : List (Addr × Value)}, Cells w L → (∀ x ∈ L, x.1.block < lo ∨ hi ≤ x.1.block) → Cells w1 L
  | [], _, _ => trivial
  | x :: r, h, hf => ⟨by
      rw [← h.1]
      refine World.cell?_of_block (w := w) ?_
      rcases hf x (List.mem_cons_self ..) with h1 | h1
      · exact hx.1.block _ h1
      · exact hx.2 _ h1 (World.block_lt_of_cell? _ _ h.1), h.2.ex hx (fun y hy => hf y (List.mem_cons_of_mem _ hy))⟩
theorem B2.ex {lo hi : Nat} {w w1 : World} {b : Nat} {t : TypeId} {u v : Value} (h : B2 w b t u v) (hx : Ex lo hi w w1) (hf : b < lo ∨ hi ≤ b) : B2 w1 b t u v := by
  have : w1.heap[b]? = w.heap[b]? := by
    rcases hf with h1 | h1
    · exact hx.1.block _ h1
    · exact hx.2 _ h1 h.f.2.2.2.2
  unfold B2 at h ⊢
  rw [this, h]
end Go.Proofs.Ytlebgjafaioajaa
