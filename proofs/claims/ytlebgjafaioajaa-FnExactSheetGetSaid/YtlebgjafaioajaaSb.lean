/- Contracts: maps held against each other. -/
import Derived.Test.YtlebgjafaioajaaSa
import Derived.Test.YtlebgjafaioajaaFd
namespace Go.Proofs.Ytlebgjafaioajaa
open Go.RowKit Go.Proofs.YtlebgjafaioajaaW.PrintWords Go.Proofs.YtlebgjafaioajaaW.PrintLast
set_option linter.unusedVariables false
set_option linter.unusedSimpArgs false
def s_SheetSame_T6 : Bool × List (List Nat × List Nat) := (true, [([], []), ([], []), ([0, 1], [0, 1]), ([2], [2]), ([], []), ([], []), ([4, 5], [4, 5]), ([6], [6]), ([3, 7], [3, 7]), ([8], [8])])
theorem s_SheetSame_t6 : rtab .any (opsOf Try.f27 6) = s_SheetSame_T6 := by kernel_rfl
set_option maxHeartbeats 4000000 in
theorem sSheetSame_c (A B : Option Addr) (c d : Nat) (l m : List FeatD) (w : World) (hl : kFeat.C w A l.length l) (hm : kFeat.C w B m.length m) (hn : Few l) (hn2 : Few m) :
    Calls Try.prog 27 #[.slice A l.length c, .slice B m.length d] w fun e w' => e = .returned (.bool (eqB l m)) ∧ Below w.heap.size w w' := by
  have n1 := hn.1
  have n2 := hn2.1
  by_cases hlen : l.length = m.length
  · have hne : ((l.length : Int) != (m.length : Int)) = false := by simp [hlen]
    have Hlen := Lib.hid hlen
    clear hlen
    go_enter Try.func27, Try.ntmps27
    go_wp2
    go_loopw [5] (fun i wr => ∃ k : Nat, k ≤ l.length ∧ i = .int .i64 k ∧ Aside0 (l.take k = m.take k) ∧ Aside0 (Below w.heap.size w wr)) (fun i _ => l.length - (intOf i).toNat)
    case atStart => exact ⟨0, by omega, rfl, ⟨by simp⟩, ⟨Below.refl _ _⟩⟩
    case round =>
      obtain ⟨k, hk, rfl, he, ⟨hb1⟩⟩ := hrel
      by_cases hlt : k < l.length
      · have hlt2 : k < m.length := by have := Hlen.out; omega
        obtain ⟨ad, A1, c1, B1, d1, rfl, e0, e1, e2, e3, hC, hT, _, _⟩ := at_Feat hl k hlt
        obtain ⟨bd, A2, c2, B2, d2, rfl, f0, f1, f2, f3, hC2, hT2, _, _⟩ := at_Feat hm k hlt2
        replace e0 := pw_cell_below hb1 e0
        replace e1 := pw_cell_below hb1 e1
        replace e2 := pw_cell_below hb1 e2
        replace e3 := pw_cell_below hb1 e3
        replace f0 := pw_cell_below hb1 f0
        replace f1 := pw_cell_below hb1 f1
        replace f2 := pw_cell_below hb1 f2
        replace f3 := pw_cell_below hb1 f3
        have z1 := hn.2 _ (List.getElem_mem hlt)
        have z2 := hn2.2 _ (List.getElem_mem hlt2)
        have hst := Lib.hid (show l[k] = m[k] → l.take (k + 1) = m.take (k + 1) from fun h => by
          rw [List.take_succ_eq_append_getElem hlt, List.take_succ_eq_append_getElem hlt2, he.out, h])
        have hpt := Lib.hid (show l = m → l[k] = m[k] from fun e => by subst e; rfl)
        generalize l[k] = f at *
        generalize m[k] = g at *
        go_wp2
        refine rgStart 10 [0, 1, 2, 3, 4, 5, 6, 7, 8, 9] s_SheetSame_t6 (fun HT HS => ?_)
        repeat ((with_reducible refine rgGate ?_); first | refine rgP HT ?_ | refine rgL HT ?_ | refine rgG HT ?_)
        refine rgCall HT Try.func20 (sFeatSame_c f g A1 c1 B1 d1 A2 c2 B2 d2 _ (Kd.C_below hC bl) (Kd.C_below hT bl) (Kd.C_below hC2 bl) (Kd.C_below hT2 bl) z1.1 z1.2 z2.1 z2.2) ?_
        rintro e w2 ⟨rfl, hb2⟩
        refine ⟨_, rfl, bl, rgN ?_⟩
        repeat ((with_reducible refine rgGate ?_); first | refine rgP HT ?_ | refine rgL HT ?_ | refine rgG HT ?_)
        refine rgDone HT ?_
        clear HT HS
        cases hd : eqB f g with
        | true =>
          have Hd := Lib.hid (eqB_t.1 hd)
          go_wp2
          exact ⟨⟨k + 1, by omega, by go_num, ⟨hst.out Hd.out⟩, ⟨bl⟩⟩, by simp [intOf]; omega⟩
        | false =>
          have Hd := Lib.hid (eqB_f.1 hd)
          go_wp2
          go_ret
          exact ⟨ret_bool (by symm; rw [eqB_f]; intro e; exact Hd.out (hpt.out e)), bl⟩
      · go_wp2
        go_ret
        have := he.out
        have h2 := Hlen.out
        exact ⟨ret_bool (by symm; rw [eqB_t]; rwa [List.take_of_length_le (by omega), List.take_of_length_le (by omega)] at this), bl⟩
  · have hne : ((l.length : Int) != (m.length : Int)) = true := by simp; omega
    have Hlen := Lib.hid hlen
    clear hlen
    go_enter Try.func27, Try.ntmps27
    go_wp2
    go_ret
    exact ⟨ret_bool (by symm; rw [eqB_f]; rintro rfl; exact Hlen.out rfl), bl⟩
set_option maxHeartbeats 4000000 in
theorem EqualFeat_c (A B : Option Addr) (c d : Nat) (l m : List FeatD) (w : World) (hl : kFeat.C w A l.length l) (hm : kFeat.C w B m.length m) (hn : Few l) (hn2 : Few m) :
    Calls Try.prog 68 #[.slice A l.length c, .slice B m.length d, .func (.func 22) #[] #[]] w fun e w' => e = .returned (.bool (eqB l m)) ∧ Below w.heap.size w w' := by
  have n1 := hn.1
  have n2 := hn2.1
  by_cases hlen : l.length = m.length
  · have hne : ((l.length : Int) != (m.length : Int)) = false := by simp [hlen]
    have Hlen := Lib.hid hlen
    clear hlen
    go_enter Try.func68, Try.ntmps68
    go_wp2
    go_loopw [17] (fun i wr => ∃ k : Nat, k ≤ l.length ∧ i = .int .i64 k ∧ Aside0 (l.take k = m.take k) ∧ Aside0 (Below w.heap.size w wr)) (fun i _ => l.length - (intOf i).toNat)
    case atStart => exact ⟨0, by omega, rfl, ⟨by simp⟩, ⟨Below.refl _ _⟩⟩
    case round =>
      obtain ⟨k, hk, rfl, he, ⟨hb1⟩⟩ := hrel
      by_cases hlt : k < l.length
      · have hlt2 : k < m.length := by have := Hlen.out; omega
        obtain ⟨ad, A1, c1, B1, d1, rfl, e0, e1, e2, e3, hC, hT, _, _⟩ := at_Feat hl k hlt
        obtain ⟨bd, A2, c2, B2, d2, rfl, f0, f1, f2, f3, hC2, hT2, _, _⟩ := at_Feat hm k hlt2
        replace e0 := pw_cell_below hb1 e0
        replace e1 := pw_cell_below hb1 e1
        replace e2 := pw_cell_below hb1 e2
        replace e3 := pw_cell_below hb1 e3
        replace f0 := pw_cell_below hb1 f0
        replace f1 := pw_cell_below hb1 f1
        replace f2 := pw_cell_below hb1 f2
        replace f3 := pw_cell_below hb1 f3
        have z1 := hn.2 _ (List.getElem_mem hlt)
        have z2 := hn2.2 _ (List.getElem_mem hlt2)
        have hst := Lib.hid (show l[k] = m[k] → l.take (k + 1) = m.take (k + 1) from fun h => by
          rw [List.take_succ_eq_append_getElem hlt, List.take_succ_eq_append_getElem hlt2, he.out, h])
        have hpt := Lib.hid (show l = m → l[k] = m[k] from fun e => by subst e; rfl)
        generalize l[k] = f at *
        generalize m[k] = g at *
        go_wp2_with fail
        refine (iFeatSame_c f g A1 c1 B1 d1 A2 c2 B2 d2 _ (Kd.C_below hC bl) (Kd.C_below hT bl) (Kd.C_below hC2 bl) (Kd.C_below hT2 bl) z1.1 z1.2 z2.1 z2.2).mono ?_
        rintro e w2 ⟨rfl, hb2⟩
        cases hd : eqB f g with
        | true =>
          have Hd := Lib.hid (eqB_t.1 hd)
          go_wp2
          exact ⟨⟨k + 1, by omega, by go_num, ⟨hst.out Hd.out⟩, ⟨bl⟩⟩, by simp [intOf]; omega⟩
        | false =>
          have Hd := Lib.hid (eqB_f.1 hd)
          go_wp2
          go_ret
          exact ⟨ret_bool (by symm; rw [eqB_f]; intro e; exact Hd.out (hpt.out e)), bl⟩
      · go_wp2
        go_ret
        have := he.out
        have h2 := Hlen.out
        exact ⟨ret_bool (by symm; rw [eqB_t]; rwa [List.take_of_length_le (by omega), List.take_of_length_le (by omega)] at this), bl⟩
  · have hne : ((l.length : Int) != (m.length : Int)) = true := by simp; omega
    have Hlen := Lib.hid hlen
    clear hlen
    go_enter Try.func68, Try.ntmps68
    go_wp2
    go_ret
    exact ⟨ret_bool (by symm; rw [eqB_f]; rintro rfl; exact Hlen.out rfl), bl⟩
theorem iSheetSame_c (A B : Option Addr) (c d : Nat) (l m : List FeatD) (w : World) (hl : kFeat.C w A l.length l) (hm : kFeat.C w B m.length m) (hn : Few l) (hn2 : Few m) :
    Calls Try.prog 29 #[.slice A l.length c, .slice B m.length d] w fun e w' => e = .returned (.bool (eqB l m)) ∧ Below w.heap.size w w' := by
  go_enter Try.func29, Try.ntmps29
  go_wp2_with fail
  refine (EqualFeat_c A B c d l m _ hl hm hn hn2).mono ?_
  rintro e w1 ⟨rfl, hb1⟩
  go_wp2
  go_ret
  exact ⟨rfl, hb1⟩
end Go.Proofs.Ytlebgjafaioajaa
