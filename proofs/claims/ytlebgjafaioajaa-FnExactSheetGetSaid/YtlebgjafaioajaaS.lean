/- Contracts: shapes held against each other. -/
import Derived.Test.YtlebgjafaioajaaR
namespace Go.Proofs.Ytlebgjafaioajaa
open Go.RowKit Go.Proofs.YtlebgjafaioajaaW.PrintWords Go.Proofs.YtlebgjafaioajaaW.PrintLast
set_option linter.unusedVariables false
set_option linter.unusedSimpArgs false
attribute [local go_sem high] eqPtOp
def s_l1Same_T6 : Bool × List (List Nat × List Nat) := (true, [([], []), ([], []), ([0, 1], [0, 1]), ([2], [2]), ([], []), ([], []), ([4, 5], [4, 5]), ([6], [6]), ([3, 7], [3, 7])])
theorem s_l1Same_t6 : rtab .any (opsOf Try.f102 6) = s_l1Same_T6 := by kernel_rfl
set_option maxHeartbeats 4000000 in
theorem l1Same_c (A B : Option Addr) (c d : Nat) (l m : List Pt) (w : World) (hl : kPt.C w A l.length l) (hm : kPt.C w B m.length m) (hn : l.length ≤ 1048576) (hn2 : m.length ≤ 1048576) :
    Calls Try.prog 102 #[.slice A l.length c, .slice B m.length d] w fun e w' => e = .returned (.bool (eqB l m)) ∧ Below w.heap.size w w' := by
  by_cases hlen : l.length = m.length
  · have hne : ((l.length : Int) != (m.length : Int)) = false := by simp [hlen]
    have Hlen := Lib.hid hlen
    clear hlen
    go_enter Try.func102, Try.ntmps102
    go_wp2
    go_loopw [5] (fun i wr => ∃ k : Nat, k ≤ l.length ∧ i = .int .i64 k ∧ Aside0 (l.take k = m.take k) ∧ Aside0 (Below w.heap.size w wr)) (fun i _ => l.length - (intOf i).toNat)
    case atStart => exact ⟨0, by omega, rfl, ⟨by simp⟩, ⟨Below.refl _ _⟩⟩
    case round =>
      obtain ⟨k, hk, rfl, he, ⟨hb1⟩⟩ := hrel
      by_cases hlt : k < l.length
      · have hlt2 : k < m.length := by have := Hlen.out; omega
        obtain ⟨ad, rfl, c0, c1⟩ := at_Pt hl k hlt
        obtain ⟨bd, rfl, d0, d1⟩ := at_Pt hm k hlt2
        replace c0 := pw_cell_below hb1 c0
        replace c1 := pw_cell_below hb1 c1
        replace d0 := pw_cell_below hb1 d0
        replace d1 := pw_cell_below hb1 d1
        cases hd : eqB (l[k].1, l[k].2) (m[k].1, m[k].2)
        all_goals
          go_wp2
          refine rgStart 9 [0, 1, 2, 3, 4, 5, 6, 7, 8] s_l1Same_t6 (fun HT HS => ?_)
          repeat ((with_reducible refine rgGate ?_); first | refine rgP HT ?_ | refine rgL HT ?_ | refine rgG HT ?_)
          refine rgDone HT ?_
          go_wp2
        · go_ret
          exact ⟨ret_bool (by symm; show eqB l m = false; rw [eqB_f]; rintro rfl; exact eqB_f.1 hd rfl), bl⟩
        · exact ⟨⟨k + 1, by omega, by go_num, ⟨by rw [List.take_succ_eq_append_getElem hlt, List.take_succ_eq_append_getElem hlt2, he.out]; exact congrArg (fun p => List.take k m ++ [p]) (eqB_t.1 hd)⟩, ⟨bl⟩⟩, by simp [intOf]; omega⟩
      · go_wp2
        go_ret
        have := he.out
        have h2 := Hlen.out
        exact ⟨ret_bool (by symm; rw [eqB_t]; rwa [List.take_of_length_le (by omega), List.take_of_length_le (by omega)] at this), bl⟩
  · have hne : ((l.length : Int) != (m.length : Int)) = true := by simp; omega
    have Hlen := Lib.hid hlen
    clear hlen
    go_enter Try.func102, Try.ntmps102
    go_wp2
    go_ret
    exact ⟨ret_bool (by symm; rw [eqB_f]; rintro rfl; exact Hlen.out rfl), bl⟩
def g_slices_Equal_Pt_T6 : Bool × List (List Nat × List Nat) := (true, [([], []), ([], []), ([0, 1], [0, 1]), ([2], [2]), ([], []), ([], []), ([4, 5], [4, 5]), ([6], [6]), ([3, 7], [3, 7])])
theorem g_slices_Equal_Pt_t6 : rtab .any (opsOf Try.f94 6) = g_slices_Equal_Pt_T6 := by kernel_rfl
set_option maxHeartbeats 4000000 in
theorem EqualPt_c (A B : Option Addr) (c d : Nat) (l m : List Pt) (w : World) (hl : kPt.C w A l.length l) (hm : kPt.C w B m.length m) (hn : l.length ≤ 1048576) (hn2 : m.length ≤ 1048576) :
    Calls Try.prog 94 #[.slice A l.length c, .slice B m.length d] w fun e w' => e = .returned (.bool (eqB l m)) ∧ Below w.heap.size w w' := by
  by_cases hlen : l.length = m.length
  · have hne : ((l.length : Int) != (m.length : Int)) = false := by simp [hlen]
    have Hlen := Lib.hid hlen
    clear hlen
    go_enter Try.func94, Try.ntmps94
    go_wp2
    go_loopw [13] (fun i wr => ∃ k : Nat, k ≤ l.length ∧ i = .int .i64 k ∧ Aside0 (l.take k = m.take k) ∧ Aside0 (Below w.heap.size w wr)) (fun i _ => l.length - (intOf i).toNat)
    case atStart => exact ⟨0, by omega, rfl, ⟨by simp⟩, ⟨Below.refl _ _⟩⟩
    case round =>
      obtain ⟨k, hk, rfl, he, ⟨hb1⟩⟩ := hrel
      by_cases hlt : k < l.length
      · have hlt2 : k < m.length := by have := Hlen.out; omega
        obtain ⟨ad, rfl, c0, c1⟩ := at_Pt hl k hlt
        obtain ⟨bd, rfl, d0, d1⟩ := at_Pt hm k hlt2
        replace c0 := pw_cell_below hb1 c0
        replace c1 := pw_cell_below hb1 c1
        replace d0 := pw_cell_below hb1 d0
        replace d1 := pw_cell_below hb1 d1
        cases hd : eqB (l[k].1, l[k].2) (m[k].1, m[k].2)
        all_goals
          go_wp2
          refine rgStart 9 [0, 1, 2, 3, 4, 5, 6, 7, 8] g_slices_Equal_Pt_t6 (fun HT HS => ?_)
          repeat ((with_reducible refine rgGate ?_); first | refine rgP HT ?_ | refine rgL HT ?_ | refine rgG HT ?_)
          refine rgDone HT ?_
          go_wp2
        · go_ret
          exact ⟨ret_bool (by symm; show eqB l m = false; rw [eqB_f]; rintro rfl; exact eqB_f.1 hd rfl), bl⟩
        · exact ⟨⟨k + 1, by omega, by go_num, ⟨by rw [List.take_succ_eq_append_getElem hlt, List.take_succ_eq_append_getElem hlt2, he.out]; exact congrArg (fun p => List.take k m ++ [p]) (eqB_t.1 hd)⟩, ⟨bl⟩⟩, by simp [intOf]; omega⟩
      · go_wp2
        go_ret
        have := he.out
        have h2 := Hlen.out
        exact ⟨ret_bool (by symm; rw [eqB_t]; rwa [List.take_of_length_le (by omega), List.take_of_length_le (by omega)] at this), bl⟩
  · have hne : ((l.length : Int) != (m.length : Int)) = true := by simp; omega
    have Hlen := Lib.hid hlen
    clear hlen
    go_enter Try.func94, Try.ntmps94
    go_wp2
    go_ret
    exact ⟨ret_bool (by symm; rw [eqB_f]; rintro rfl; exact Hlen.out rfl), bl⟩
theorem sShapeSame_c (K L : Int) (A B : Option Addr) (c d : Nat) (l m : List Pt) (w : World) (hl : kPt.C w A l.length l) (hm : kPt.C w B m.length m) (hn : l.length ≤ 1048576) (hn2 : m.length ≤ 1048576) :
    Calls Try.prog 56 #[.agg #[.int .i64 K, .slice A l.length c], .agg #[.int .i64 L, .slice B m.length d]] w fun e w' => e = .returned (.bool (eqB (K, l) (L, m))) ∧ Below w.heap.size w w' := by
  by_cases hK : K = L
  · have hK1 : (K == L) = true := by simp [hK]
    have HK := Lib.hid hK
    clear hK
    go_enter Try.func56, Try.ntmps56
    go_wp2_with (go_at_call 102; refine (l1Same_c _ _ _ _ _ _ _ (Kd.C_below hl bl) (Kd.C_below hm bl) hn hn2).mono ?_; rintro e w1 ⟨rfl, hb⟩; obtain ⟨h1, h2⟩ := bcell hb)
    go_ret
    exact ⟨ret_bool (by rw [Bool.eq_iff_iff, eqB_t, eqB_t, HK.out]; simp), bl⟩
  · have hK1 : (K == L) = false := by simp [hK]
    have HK := Lib.hid hK
    clear hK
    go_enter Try.func56, Try.ntmps56
    go_wp2
    go_ret
    exact ⟨ret_bool (by symm; rw [eqB_f]; intro he; injection he with he; exact HK.out he), bl⟩
theorem iShapeSame_c (K L : Int) (A B : Option Addr) (c d : Nat) (l m : List Pt) (w : World) (hl : kPt.C w A l.length l) (hm : kPt.C w B m.length m) (hn : l.length ≤ 1048576) (hn2 : m.length ≤ 1048576) :
    Calls Try.prog 49 #[.agg #[.int .i64 K, .slice A l.length c], .agg #[.int .i64 L, .slice B m.length d]] w fun e w' => e = .returned (.bool (eqB (K, l) (L, m))) ∧ Below w.heap.size w w' := by
  by_cases hK : K = L
  · have hK1 : (K == L) = true := by simp [hK]
    have HK := Lib.hid hK
    clear hK
    go_enter Try.func49, Try.ntmps49
    go_wp2_with (go_at_call 94; refine (EqualPt_c _ _ _ _ _ _ _ (Kd.C_below hl bl) (Kd.C_below hm bl) hn hn2).mono ?_; rintro e w1 ⟨rfl, hb⟩; obtain ⟨h1, h2⟩ := bcell hb)
    go_ret
    exact ⟨ret_bool (by rw [Bool.eq_iff_iff, eqB_t, eqB_t, HK.out]; simp), bl⟩
  · have hK1 : (K == L) = false := by simp [hK]
    have HK := Lib.hid hK
    clear hK
    go_enter Try.func49, Try.ntmps49
    go_wp2
    go_ret
    exact ⟨ret_bool (by symm; rw [eqB_f]; intro he; injection he with he; exact HK.out he), bl⟩
end Go.Proofs.Ytlebgjafaioajaa
