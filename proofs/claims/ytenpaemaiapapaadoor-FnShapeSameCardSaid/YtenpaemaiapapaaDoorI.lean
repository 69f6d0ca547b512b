/- Contracts: slices.Reverse of points. -/
import Derived.Test.YtenpaemaiapapaaDoorM
namespace Go.Proofs.YtenpaemaiapapaaDoor
open Go.RowKit Go.Proofs.YtenpaemaiapapaaDoorW.PrintWords Go.Proofs.YtenpaemaiapapaaDoorW.PrintLast
set_option linter.unusedVariables false
set_option linter.unusedSimpArgs false
/-- The first i and the last i elements have changed their places. -/
def rv (l : List Pt) (i : Nat) : List Pt := (List.range l.length).map fun m => if m < i ∨ l.length - 1 - m < i then l.getD (l.length - 1 - m) (0, 0) else l.getD m (0, 0)
theorem rv_len (l : List Pt) (i : Nat) : (rv l i).length = l.length := by simp [rv]
theorem rv_get (l : List Pt) (i m : Nat) (h : m < (rv l i).length) : (rv l i)[m] = if m < i ∨ l.length - 1 - m < i then l.getD (l.length - 1 - m) (0, 0) else l.getD m (0, 0) := by simp [rv]
theorem getD_at (l : List Pt) (m : Nat) (h : m < l.length) : l.getD m (0, 0) = l[m] := by
  simp only [List.getD_eq_getElem?_getD, List.getElem?_eq_getElem h, Option.getD_some]
theorem rv_zero (l : List Pt) : rv l 0 = l := by
  refine List.ext_getElem (rv_len l 0) (fun m h1 h2 => ?_)
  rw [rv_get, if_neg (by omega), getD_at l m h2]
theorem rv_swap (l : List Pt) (i j : Nat) (hj : i + j = l.length - 1) (h : i < j) : ((rv l i).set i (l.getD j (0, 0))).set j (l.getD i (0, 0)) = rv l (i + 1) := by
  refine List.ext_getElem (by simp [rv_len]) (fun m h1 h2 => ?_)
  rw [rv_len] at h2
  rw [List.getElem_set, List.getElem_set, rv_get, rv_get]
  have e1 : l.length - 1 - j = i := by omega
  have e2 : l.length - 1 - i = j := by omega
  by_cases a : j = m
  · subst a
    rw [if_pos rfl, if_pos (by omega), e1]
  · rw [if_neg a]
    by_cases b : i = m
    · subst b
      rw [if_pos rfl, if_pos (by omega), e2]
    · rw [if_neg b]
      by_cases c : m < i ∨ l.length - 1 - m < i
      · rw [if_pos c, if_pos (by omega)]
      · rw [if_neg c, if_neg (by omega)]
theorem rv_done (l : List Pt) (i : Nat) (h : l.length ≤ 2 * i + 1) : rv l i = l.reverse := by
  refine List.ext_getElem (by simp [rv_len]) (fun m h1 h2 => ?_)
  rw [rv_len] at h1
  rw [rv_get, List.getElem_reverse]
  by_cases c : m < i ∨ l.length - 1 - m < i
  · rw [if_pos c, getD_at l _ (by omega)]
  · rw [if_neg c, getD_at l _ (by omega)]
    have : l.length - 1 - m = m := by omega
    simp only [this]
def g_slices_Reverse_Pt_T3 : Bool × List (List Nat × List Nat) := (true, [([], []), ([], []), ([], []), ([], []), ([], []), ([], []), ([4, 5], [4, 5]), ([6], [6]), ([], []), ([], []), ([8, 9], [8, 9]), ([10], [10]), ([0, 1, 0, 1, 4, 5, 6, 7, 11], [0, 1]), ([12, 7, 0, 1, 4, 5, 6, 7, 11], [7, 12]), ([2, 3, 0, 1, 2, 3, 4, 5, 6, 7, 8, 9, 10, 11, 12, 13], [2, 3]), ([14, 11, 13, 0, 1, 2, 3, 4, 5, 6, 7, 8, 9, 10, 11, 12, 13], [11, 14])])
theorem g_slices_Reverse_Pt_t3 : rtab .any (opsOf Tryd.f77 3) = g_slices_Reverse_Pt_T3 := by kernel_rfl
set_option maxHeartbeats 4000000 in
theorem reverse_c (A : Option Addr) (c : Nat) (l : List Pt) (lo hi : Nat) (w : World) (hr : RI kPt 45 w lo hi (.slice A l.length c) l) (hn : l.length ≤ 1048576) :
    Calls Tryd.prog 77 #[.slice A l.length c] w fun e w' => e = .returned (.tuple #[]) ∧ RI kPt 45 w' lo hi (.slice A l.length c) l.reverse ∧ Ex lo hi w w' := by
  have hw0 : IntKind.i64.wrap ((l.length : Int) - 1) = (l.length : Int) - 1 := IntWalk.i64_in _ (by omega)
  go_enter Tryd.func77, Tryd.ntmps77
  go_wp2
  go_loopw [2, 3] (fun s q wr => ∃ i : Nat, i ≤ l.length ∧ s = .int .i64 i ∧ q = .int .i64 ((l.length : Int) - 1 - i) ∧ Aside0 (RI kPt 45 wr lo hi (.slice A l.length c) (rv l i)) ∧ Aside0 (Ex lo hi w wr)) (fun s _ _ => l.length - (intOf s).toNat)
  case atStart => exact ⟨0, by omega, rfl, by simp, ⟨by rw [rv_zero]; exact hr⟩, ⟨Ex.refl _ _ _⟩⟩
  case round =>
    obtain ⟨i, hi1, rfl, rfl, ⟨hr1⟩, ⟨hx⟩⟩ := hrel
    by_cases hlt : 2 * i + 1 < l.length
    · obtain ⟨j, hj⟩ : ∃ j, i + j = l.length - 1 := ⟨l.length - 1 - i, by omega⟩
      have ej : (l.length : Int) - 1 - (i : Int) = (j : Int) := by omega
      rw [ej]
      have hij : i < j := by omega
      have hil : i < l.length := by omega
      have hjl : j < l.length := by omega
      obtain ⟨g, cap, hv, hg1, hg2, _⟩ := Kd.R_form hr1 (by rw [rv_len]; omega)
      injection hv with e1 e2 e3
      subst e1
      clear e2 e3
      have hg3 : g < hi := hr1.1 g (by rfl)
      obtain ⟨c0, c1, f0, f1⟩ := own_Pt hr1 i (by rw [rv_len]; exact hil)
      obtain ⟨d0, d1, k0, k1⟩ := own_Pt hr1 j (by rw [rv_len]; exact hjl)
      have ei : (rv l i)[i]'(by rw [rv_len]; exact hil) = l.getD i (0, 0) := by rw [rv_get, if_neg (by omega)]
      have ejj : (rv l i)[j]'(by rw [rv_len]; exact hjl) = l.getD j (0, 0) := by rw [rv_get, if_neg (by omega)]
      rw [ei] at c0 c1
      rw [ejj] at d0 d1
      clear ei ejj
      have hsw := rv_swap l i j hj hij
      obtain ⟨hr2, _⟩ := set_Pt hr1 i hil (l.getD j (0, 0)).1 (l.getD j (0, 0)).2
      obtain ⟨hr3, _⟩ := set_Pt hr2 j hjl (l.getD i (0, 0)).1 (l.getD i (0, 0)).2
      rw [hsw] at hr3
      generalize l.getD i (0, 0) = x at *
      generalize l.getD j (0, 0) = y at *
      have hlt2 : decide ((i : Int) < (j : Int)) = true := by simp; omega
      have hw : IntKind.i64.wrap ((i : Int) + 1) = (i : Int) + 1 := IntWalk.i64_in _ (by omega)
      have hw2 : IntKind.i64.wrap ((j : Int) - 1) = (l.length : Int) - 1 - ((i : Int) + 1) := by rw [IntWalk.i64_in _ (by omega)]; omega
      have HC : Cells wr [(⟨g, i * 2, none⟩, .int .i64 x.1), (⟨g, i * 2 + 1, none⟩, .int .i64 x.2), (⟨g, j * 2, none⟩, .int .i64 y.1), (⟨g, j * 2 + 1, none⟩, .int .i64 y.2)] := ⟨c0, c1, d0, d1, trivial⟩
      clear ej hsw hr1 hr2
      go_wp2
      refine cgStart 16 [0, 1, 2, 3, 4, 5, 6, 7, 8, 9, 10, 11, 12, 13, 14, 15] [13, 15] _ g_slices_Reverse_Pt_t3 HC (fun HT HD => ?_)
      repeat ((with_reducible refine cgGate ?_); first | refine cgP HT ?_ | refine cgL HT ?_)
      refine cgLast HT ?_
      repeat ((with_reducible refine cgGate ?_); first | refine cgP HT ?_ | refine cgL HT ?_)
      refine cgLast HT ?_
      refine cgDone HT ?_
      clear HT HD
      go_wp2
      exact ⟨⟨i + 1, by omega, rfl, by simp, ⟨hr3⟩, ⟨(((hx.drewN 1).set hg1 hg3).set hg1 hg3 |>.set hg1 hg3).set hg1 hg3⟩⟩, by simp [intOf]; omega⟩
    · have hlt2 : decide ((i : Int) < (l.length : Int) - 1 - (i : Int)) = false := by simp; omega
      have hfin : RI kPt 45 wr lo hi (.slice A l.length c) l.reverse := by rw [← rv_done l i (by omega)]; exact hr1
      go_wp2
      exact ⟨rfl, .tuple #[], by simp [results, Tryd.results77, go_sem], rfl, hfin, hx⟩
end Go.Proofs.YtenpaemaiapapaaDoor
