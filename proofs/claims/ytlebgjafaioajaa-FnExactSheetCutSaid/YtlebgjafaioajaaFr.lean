/- Contracts: a thing with a tag put, in the reference and in the program. -/
import Derived.Test.YtlebgjafaioajaaFo
namespace Go.Proofs.Ytlebgjafaioajaa
open Go.RowKit Go.Proofs.YtlebgjafaioajaaW.PrintWords Go.Proofs.YtlebgjafaioajaaW.PrintLast
set_option maxRecDepth 100000
set_option linter.unusedVariables false
set_option linter.unusedSimpArgs false
attribute [local go_sem] cell_set_far cell_set_off
set_option maxHeartbeats 4000000 in
theorem pdqT_c (A : Option Addr) (c : Nat) (l : List Tag) (x : Tag) (p n : Nat) (z : Int) (lo hi : Nat) (w : World) (hr : RI kTag 57 w lo hi (.slice A n c) (l ++ [x])) (hn : n = l.length + 1) (hs : n ≤ 12) (hu : KUp l) (hp : p ≤ l.length) (h1 : ∀ i, (hi : i < l.length) → i < p → ltS l[i].1 x.1 = true) (h2 : ∀ i, (hi : i < l.length) → p ≤ i → ltS x.1 l[i].1 = true) (hlo : lo ≤ w.heap.size) :
    Calls Try.prog 121 #[.slice A n c, .int .i64 0, .int .i64 n, .int .i64 z, .func (.func 91) #[] #[]] w fun e w' => e = .returned (.tuple #[]) ∧ RI kTag 57 w' lo hi (.slice A n c) (insK l x p) ∧ Ex lo hi w w' := by
  have Hc := Lib.hid (insT_c A c l x p n lo hi · · hn hs hu hp h1 h2 ·)
  clear hn hu hp h1 h2
  have hw0 : IntKind.i64.wrap ((n : Int) - 0) = (n : Int) := by rw [IntWalk.i64_in _ (by omega)]; omega
  have t1 : decide ((n : Int) ≤ 12) = true := decide_eq_true (by omega)
  go_enter Try.func121, Try.ntmps121
  go_wp2
  go_loopw [1, 2, 3] (fun q1 q2 q3 wr => q1 = .int .i64 0 ∧ q2 = .int .i64 n ∧ q3 = .int .i64 z ∧ Aside0 (wr = w)) (fun _ _ _ _ => 0)
  case atStart => exact ⟨rfl, rfl, rfl, ⟨rfl⟩⟩
  case round =>
    obtain ⟨rfl, rfl, rfl, ⟨rfl⟩⟩ := hrel
    go_wp2_with fail
    refine (Hc.out _ hr hlo).mono ?_
    rintro e w2 ⟨rfl, hr2, hx2⟩
    go_wp2
    exact ⟨rfl, .tuple #[], by simp [results, Try.results121, go_sem], rfl, hr2, hx2⟩
set_option maxHeartbeats 4000000 in
theorem SortTag_c (A : Option Addr) (c : Nat) (l : List Tag) (x : Tag) (p n : Nat) (lo hi : Nat) (w : World) (hr : RI kTag 57 w lo hi (.slice A n c) (l ++ [x])) (hn : n = l.length + 1) (hs : n ≤ 12) (hu : KUp l) (hp : p ≤ l.length) (h1 : ∀ i, (hi : i < l.length) → i < p → ltS l[i].1 x.1 = true) (h2 : ∀ i, (hi : i < l.length) → p ≤ i → ltS x.1 l[i].1 = true) (hlo : lo ≤ w.heap.size) :
    Calls Try.prog 90 #[.slice A n c, .func (.func 91) #[] #[]] w fun e w' => e = .returned (.tuple #[]) ∧ RI kTag 57 w' lo hi (.slice A n c) (insK l x p) ∧ Ex lo hi w w' := by
  have Hc := Lib.hid (fun z w (hr : RI kTag 57 w lo hi (.slice A n c) (l ++ [x])) (hlo : lo ≤ w.heap.size) => pdqT_c A c l x p n z lo hi w hr hn hs hu hp h1 h2 hlo)
  clear hn hu hp h1 h2
  have hw0 : IntKind.u64.wrap (n : Int) = (n : Int) := IntWalk.u64_in _ (by omega)
  go_enter Try.func90, Try.ntmps90
  go_wp2_with fail
  refine (lenBits_c n hs _).mono ?_
  rintro e w1 ⟨⟨z, rfl⟩, hb1⟩
  go_wp2_with fail
  refine (Hc.out z _ (hr.below hb1) (Nat.le_trans hlo hb1.size)).mono ?_
  rintro e w2 ⟨rfl, hr2, hx2⟩
  go_wp2
  exact ⟨rfl, .tuple #[], by simp [results, Try.results90, go_sem], rfl, hr2, (Ex.of hb1 hlo).trans hx2⟩
end Go.Proofs.Ytlebgjafaioajaa
