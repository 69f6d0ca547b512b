/- Contracts: marks in a row of points, and what holds them. -/
import Derived.Test.YtlebgjafaioajaaA
import Derived.Test.YtlebgjafaioajaaM
namespace Go.Proofs.Ytlebgjafaioajaa
open Go.RowKit Go.Proofs.YtlebgjafaioajaaW.PrintWords Go.Proofs.YtlebgjafaioajaaW.PrintLast
set_option linter.unusedVariables false
set_option linter.unusedSimpArgs false
/-- All but the blocks from lo below hi is as it was. -/
def Ex (lo hi : Nat) (w w' : World) : Prop := Below lo w w' ∧ ∀ k, hi ≤ k → k < w.heap.size → w'.heap[k]? = w.heap[k]?
theorem RI.ex {α : Type} {d : Kd α} {e lo hi lo' hi' : Nat} {w w' : World} {v : Value} {xs : List α} (h : RI d e w lo' hi' v xs) (hx : Ex lo hi w w') (hd : hi' ≤ lo ∨ hi ≤ lo') : RI d e w' lo' hi' v xs := by
  refine Kd.R_mono (Kd.R_step (Kd.R_bound h) (fun k hk hlt => ?_)) (fun _ hk => hk.1)
  rcases hd with hd | hd
  · exact hx.1.block k (Nat.lt_of_lt_of_le hk.1 hd)
  · exact hx.2 k (Nat.le_trans hd hk.2.1) hlt
theorem Ex.refl (lo hi : Nat) (w : World) : Ex lo hi w w := ⟨Below.refl _ _, fun _ _ _ => rfl⟩
theorem Ex.set {lo hi : Nat} {w w' : World} (h : Ex lo hi w w') {b i : Nat} {v : Value} (h1 : lo ≤ b) (h2 : b < hi) : Ex lo hi w (w'.setCell ⟨b, i, none⟩ v) :=
  ⟨h.1.setCell h1 _, fun k hk hlt => by rw [Below.heap_setCell _ _ _ _ (show k ≠ b by omega)]; exact h.2 k hk hlt⟩
theorem Ex.drewN {lo hi : Nat} {w w' : World} (h : Ex lo hi w w') (n : Nat) : Ex lo hi w (w'.drewN n) := ⟨⟨h.1.os, h.1.tape, h.1.output, h.1.size, h.1.block⟩, h.2⟩
def mark1 (k : Int) (i : Nat) : Pt := (k + 2 * (i : Int), k + 2 * (i : Int) + 1)
def markL (k : Int) (n : Nat) : List Pt := (List.range n).map (mark1 k)
theorem markL_len (k : Int) (n : Nat) : (markL k n).length = n := by simp [markL]
theorem markL_get (k : Int) (n i : Nat) (h : i < (markL k n).length) : (markL k n)[i] = mark1 k i := by simp [markL]
theorem mark_set (l : List Pt) (k : Int) (i : Nat) (h : i < l.length) : ((markL k l.length).take i ++ l.drop i).set i (k + 2 * (i : Int), k + 2 * (i : Int) + 1) = (markL k l.length).take (i + 1) ++ l.drop (i + 1) := by
  have hm : i < (markL k l.length).length := by rw [markL_len]; exact h
  have hl : ((markL k l.length).take i).length = i := by rw [List.length_take]; omega
  rw [List.set_append_right _ _ (by omega), hl, Nat.sub_self, List.take_succ_eq_append_getElem hm, markL_get, List.drop_eq_getElem_cons h, List.set_cons_zero, List.append_assoc]
  rfl
set_option maxHeartbeats 4000000 in
theorem markPtS_c (A : Option Addr) (c : Nat) (l : List Pt) (k : Int) (lo hi : Nat) (w : World) (hr : RI kPt 108 w lo hi (.slice A l.length c) l) (hn : l.length ≤ 1048576) (hk0 : 0 ≤ k) (hk1 : k ≤ 1099511627776) :
    Calls Try.prog 82 #[.slice A l.length c, .int .i64 k] w fun e w' => e = .returned (.int .i64 (k + 2 * (l.length : Int))) ∧ RI kPt 108 w' lo hi (.slice A l.length c) (markL k l.length) ∧ Ex lo hi w w' := by
  go_enter Try.func82, Try.ntmps82
  go_wp2
  go_loopw [1, 5] (fun q i wr => ∃ j : Nat, j ≤ l.length ∧ i = .int .i64 j ∧ q = .int .i64 (k + 2 * (j : Int)) ∧ Aside0 (RI kPt 108 wr lo hi (.slice A l.length c) ((markL k l.length).take j ++ l.drop j)) ∧ Aside0 (Ex lo hi w wr)) (fun _ i _ => l.length - (intOf i).toNat)
  case atStart => exact ⟨0, by omega, rfl, by simp, ⟨by simpa using hr⟩, ⟨Ex.refl _ _ _⟩⟩
  case round =>
    obtain ⟨j, hj, rfl, rfl, ⟨hr1⟩, ⟨hx⟩⟩ := hrel
    by_cases hlt : j < l.length
    · obtain ⟨g, cap, hv, hg1, hg2, _⟩ := Kd.R_form hr (by omega)
      injection hv with e1 e2 e3
      subst e1
      have hg3 : g < hi := hr.1 g (by rfl)
      obtain ⟨u, v, d0, d1, f0, f1⟩ := own_Pt' hr1 j hlt
      obtain ⟨hr2, hg4⟩ := set_Pt hr1 j hlt (k + 2 * (j : Int)) (k + 2 * (j : Int) + 1)
      rw [mark_set l k j hlt] at hr2
      have hlt2 : decide ((j : Int) < (l.length : Int)) = true := by simp; omega
      have hw : IntKind.i64.wrap ((j : Int) + 1) = (j : Int) + 1 := IntWalk.i64_in _ (by omega)
      have hw2 : IntKind.i64.wrap (k + 2 * (j : Int) + 1) = k + 2 * (j : Int) + 1 := IntWalk.i64_in _ (by omega)
      have hw3 : IntKind.i64.wrap (k + 2 * (j : Int) + 1 + 1) = k + 2 * ((j + 1 : Nat) : Int) := by rw [IntWalk.i64_in _ (by omega)]; omega
      go_wp2
      exact ⟨⟨j + 1, by omega, rfl, rfl, ⟨hr2⟩, ⟨(hx.set hg1 hg3).set hg1 hg3⟩⟩, by simp [intOf]; omega⟩
    · have he : j = l.length := by omega
      have hlt2 : decide ((j : Int) < (l.length : Int)) = false := by simp; omega
      have hsl := Lib.hid he
      clear he
      have hr2 : RI kPt 108 wr lo hi (.slice A l.length c) (markL k l.length) := by
        have := hr1
        rw [hsl.out, List.drop_length, List.append_nil, List.take_of_length_le (by rw [markL_len]; omega)] at this
        exact this
      go_wp2
      go_ret
      exact ⟨ret_int (by rw [hsl.out]), hr2, hx⟩
set_option maxHeartbeats 4000000 in
theorem heldPtS_c (A : Option Addr) (c n : Nat) (k : Int) (w : World) (hr : kPt.C w A n (markL k n)) (hn : n ≤ 1048576) (hk0 : 0 ≤ k) (hk1 : k ≤ 1099511627776) :
    Calls Try.prog 86 #[.slice A n c, .int .i64 k] w fun e w' => e = .returned (.int .i64 (k + 2 * (n : Int))) ∧ Below w.heap.size w w' := by
  go_enter Try.func86, Try.ntmps86
  go_wp2
  go_loopw [1, 5] (fun q i wr => ∃ j : Nat, j ≤ n ∧ i = .int .i64 j ∧ q = .int .i64 (k + 2 * (j : Int)) ∧ Aside0 (Below w.heap.size w wr)) (fun _ i _ => n - (intOf i).toNat)
  case atStart => exact ⟨0, by omega, rfl, by simp, ⟨Below.refl _ _⟩⟩
  case round =>
    obtain ⟨j, hj, rfl, rfl, ⟨hx⟩⟩ := hrel
    by_cases hlt : j < n
    · obtain ⟨ad, rfl, c0, c1⟩ := at_Pt hr j (by rw [markL_len]; exact hlt)
      rw [markL_get] at c0 c1
      replace c0 : wr.cell? (ad.add (j * 2)) = some (.int .i64 (k + 2 * (j : Int))) := pw_cell_below (bl : Below w.heap.size w wr) c0
      replace c1 : wr.cell? ⟨(ad.add (j * 2)).block, (ad.add (j * 2)).off + 1, none⟩ = some (.int .i64 (k + 2 * (j : Int) + 1)) := pw_cell_below (bl : Below w.heap.size w wr) c1
      have hlt2 : decide ((j : Int) < (n : Int)) = true := by simp; omega
      have hw : IntKind.i64.wrap ((j : Int) + 1) = (j : Int) + 1 := IntWalk.i64_in _ (by omega)
      have hw2 : IntKind.i64.wrap (k + 2 * (j : Int) + 1) = k + 2 * (j : Int) + 1 := IntWalk.i64_in _ (by omega)
      have hw3 : IntKind.i64.wrap (k + 2 * (j : Int) + 1 + 1) = k + 2 * ((j + 1 : Nat) : Int) := by rw [IntWalk.i64_in _ (by omega)]; omega
      go_wp2
      exact ⟨⟨j + 1, by omega, rfl, rfl, ⟨bl⟩⟩, by simp [intOf]; omega⟩
    · have he : j = n := by omega
      have hlt2 : decide ((j : Int) < (n : Int)) = false := by simp; omega
      have hsl := Lib.hid he
      clear he
      go_wp2
      go_ret
      exact ⟨ret_int (by rw [hsl.out]), bl⟩
end Go.Proofs.Ytlebgjafaioajaa
