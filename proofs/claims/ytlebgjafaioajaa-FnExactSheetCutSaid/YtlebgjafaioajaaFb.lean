/- Contracts of the laws' own helpers over things: sizes, copies, equality. -/
import Derived.Test.YtlebgjafaioajaaFa
namespace Go.Proofs.Ytlebgjafaioajaa
open Go.RowKit Go.Proofs.YtlebgjafaioajaaW.PrintWords Go.Proofs.YtlebgjafaioajaaW.PrintLast
set_option linter.unusedVariables false
set_option linter.unusedSimpArgs false

theorem toTag_c (x y : ByteArray) (w : World) :
    Calls Try.prog 104 #[.agg #[.string x, .string y]] w fun e w' => e = .returned (.agg #[.string x, .string y]) ∧ Below w.heap.size w w' := by
  go_enter Try.func104, Try.ntmps104
  go_wp2
  refine bodyPost_ret (v := .agg #[.string x, .string y]) (by simp [results, Try.results104, go_sem]) rfl ⟨rfl, ?_⟩
  exact bl
theorem info_Tag : (Try.prog.info? 57).map (fun i => (i.zero, i.size, i.bytes)) = some (some (.agg #[(.string ByteArray.empty), (.string ByteArray.empty)]), 2, 32) := by kernel_rfl
set_option maxHeartbeats 400000 in
theorem toTagS_c (A : Option Addr) (c : Nat) (l : List Tag) (w : World) (hl : kTag.C w A l.length l) (hn : l.length ≤ 1048576) :
    Calls Try.prog 59 #[.slice A l.length c] w fun e w' => ∃ A' c', e = .returned (.slice A' l.length c') ∧ RI kTag 57 w' w.heap.size w'.heap.size (.slice A' l.length c') l ∧ Below w.heap.size w w' := by
  go_enter Try.func59, Try.ntmps59
  go_wp2_with ((with_reducible refine gate_dst (N := 7) rfl ?_); refine Kd.R_make kTag w.heap.size 57 rfl (N := 7) rfl 33 _ _ rfl (l.length : Int) rfl rfl Try.underlying33 (.agg #[(.string ByteArray.empty), (.string ByteArray.empty)]) 32 info_Tag rfl (by decide) (by omega) tag0 (ok := fun _ => True) (okp := fun _ => True) (kTag_mkM _ _ _ tag0) (fun _ hk => hk) trivial (by omega) (by simp; omega) (Below.refl _ _) (Nat.le_refl _) ?_; intro v w1 hr hb hg hv; clear hg)
  obtain ⟨g, cap, rfl, hg⟩ := R_formed hr hv
  simp only [Int.toNat_natCast, List.length_replicate] at hr ⊢
  clear hv
  go_loopw [4] (fun i wr => ∃ k : Nat, k ≤ l.length ∧ i = .int .i64 k ∧ Aside0 (kTag.R 57 wr w.heap.size (fun _ => True) (.slice (some ⟨g, 0, none⟩) l.length cap) (l.take k ++ List.replicate (l.length - k) tag0)) ∧ Aside0 (Below w.heap.size w wr)) (fun i _ => l.length - (intOf i).toNat)
  case atStart => exact ⟨0, by omega, rfl, ⟨by simpa using hr⟩, ⟨hb⟩⟩
  case round =>
    obtain ⟨k, hk, rfl, ⟨hr1⟩, ⟨hb1⟩⟩ := hrel
    by_cases hlt : k < l.length
    · obtain ⟨ad, rfl, c0, c1⟩ := at_Tag hl k hlt
      replace c0 := pw_cell_below hb1 c0
      replace c1 := pw_cell_below hb1 c1
      go_wp2_with (go_at_call 104; refine (toTag_c _ _ _).mono ?_; rintro e w2 ⟨rfl, hb2⟩; have hr2 := Kd.R_below hr1 hb2; obtain ⟨u, v, d0, d1, f0, f1⟩ := own_Tag' hr2 k hlt)
      obtain ⟨hr3, hg3⟩ := set_Tag hr2 k hlt l[k].1 l[k].2
      go_roundw
      case rel => exact ⟨k + 1, by omega, by go_num, ⟨fill_set l tag0 k hlt ▸ hr3⟩, ⟨below_set (below_set (below_step hb1 hb2) hg) hg⟩⟩
      case measure => simp [intOf]; omega
    · go_wp2
      go_ret
      obtain rfl : k = l.length := by omega
      exact ⟨_, _, rfl, RI.of (by simpa using hr1), hb1⟩
theorem eqTag_c (x y : Tag) (w : World) :
    Calls Try.prog 106 #[.agg #[.string x.1, .string x.2], .agg #[.string y.1, .string y.2]] w fun e w' => e = .returned (.bool (eqB x y)) ∧ Below w.heap.size w w' := by
  obtain ⟨x1, x2⟩ := x
  obtain ⟨y1, y2⟩ := y
  by_cases h : x1 = y1
  · have t := strB_t h
    have H := Lib.hid h
    clear h
    by_cases h2 : x2 = y2
    · have t2 := strB_t h2
      have H2 := Lib.hid h2
      clear h2
      go_enter Try.func106, Try.ntmps106
      go_wp2
      go_ret
      exact ⟨ret_bool (by symm; rw [eqB_t, H.out, H2.out]), bl⟩
    · have t2 := strB_f h2
      have H2 := Lib.hid h2
      clear h2
      go_enter Try.func106, Try.ntmps106
      go_wp2
      go_ret
      exact ⟨ret_bool (by symm; rw [eqB_f]; intro e; injection e with _ e; exact H2.out e), bl⟩
  · have t := strB_f h
    have H := Lib.hid h
    clear h
    go_enter Try.func106, Try.ntmps106
    go_wp2
    go_ret
    exact ⟨ret_bool (by symm; rw [eqB_f]; intro e; injection e with e; exact H.out e), bl⟩
def l_eqTagS_T6 : Bool × List (List Nat × List Nat) := (true, [([], []), ([], []), ([0, 1], [0, 1]), ([2], [2]), ([], []), ([], []), ([4, 5], [4, 5]), ([6], [6]), ([3, 7], [3, 7]), ([8], [8])])
theorem l_eqTagS_t6 : rtab .any (opsOf Try.f62 6) = l_eqTagS_T6 := by kernel_rfl
set_option maxHeartbeats 4000000 in
theorem eqTagS_c (A B : Option Addr) (c d : Nat) (l m : List Tag) (w : World) (hl : kTag.C w A l.length l) (hm : kTag.C w B m.length m) (hn : l.length ≤ 1048576) (hn2 : m.length ≤ 1048576) :
    Calls Try.prog 62 #[.slice A l.length c, .slice B m.length d] w fun e w' => e = .returned (.bool (eqB l m)) ∧ Below w.heap.size w w' := by
  by_cases hlen : l.length = m.length
  · have hne : ((l.length : Int) != (m.length : Int)) = false := by simp [hlen]
    have Hlen := Lib.hid hlen
    clear hlen
    go_enter Try.func62, Try.ntmps62
    go_wp2
    go_loopw [5] (fun i wr => ∃ k : Nat, k ≤ l.length ∧ i = .int .i64 k ∧ Aside0 (l.take k = m.take k) ∧ Aside0 (Below w.heap.size w wr)) (fun i _ => l.length - (intOf i).toNat)
    case atStart => exact ⟨0, by omega, rfl, ⟨by simp⟩, ⟨Below.refl _ _⟩⟩
    case round =>
      obtain ⟨k, hk, rfl, he, ⟨hb1⟩⟩ := hrel
      by_cases hlt : k < l.length
      · have hlt2 : k < m.length := by have := Hlen.out; omega
        obtain ⟨ad, rfl, c0, c1⟩ := at_Tag hl k hlt
        obtain ⟨bd, rfl, d0, d1⟩ := at_Tag hm k hlt2
        replace c0 := pw_cell_below hb1 c0
        replace c1 := pw_cell_below hb1 c1
        replace d0 := pw_cell_below hb1 d0
        replace d1 := pw_cell_below hb1 d1
        go_wp2
        refine rgStart 10 [0, 1, 2, 3, 4, 5, 6, 7, 8, 9] l_eqTagS_t6 (fun HT HS => ?_)
        repeat ((with_reducible refine rgGate ?_); first | refine rgP HT ?_ | refine rgL HT ?_ | refine rgG HT ?_)
        refine rgCall HT Try.func106 (eqTag_c l[k] m[k] _) ?_
        rintro e w2 ⟨rfl, hb2⟩
        refine ⟨_, rfl, bl, rgN ?_⟩
        repeat ((with_reducible refine rgGate ?_); first | refine rgP HT ?_ | refine rgL HT ?_ | refine rgG HT ?_)
        refine rgDone HT ?_
        clear HT HS
        cases hd : eqB l[k] m[k] with
        | true =>
          have Hd := Lib.hid (eqB_t.1 hd)
          go_wp2
          exact ⟨⟨k + 1, by omega, by go_num, ⟨by rw [List.take_succ_eq_append_getElem hlt, List.take_succ_eq_append_getElem hlt2, he.out, Hd.out]⟩, ⟨bl⟩⟩, by simp [intOf]; omega⟩
        | false =>
          have Hd := Lib.hid (eqB_f.1 hd)
          go_wp2
          go_ret
          exact ⟨ret_bool (by symm; rw [eqB_f]; rintro rfl; exact Hd.out rfl), bl⟩
      · go_wp2
        go_ret
        have := he.out
        have h2 := Hlen.out
        exact ⟨ret_bool (by symm; rw [eqB_t]; rwa [List.take_of_length_le (by omega), List.take_of_length_le (by omega)] at this), bl⟩
  · have hne : ((l.length : Int) != (m.length : Int)) = true := by simp; omega
    have Hlen := Lib.hid hlen
    clear hlen
    go_enter Try.func62, Try.ntmps62
    go_wp2
    go_ret
    exact ⟨ret_bool (by symm; rw [eqB_f]; rintro rfl; exact Hlen.out rfl), bl⟩
theorem szTag_c (x : Tag) (a : Int) (w : World) (h1 : x.1.size ≤ 140737488355328) (h2 : x.2.size ≤ 140737488355328) (h0 : 0 ≤ a) (ha : a ≤ 1048576) :
    Calls Try.prog 101 #[.agg #[.string x.1, .string x.2], .int .i64 a] w fun e w' => e = .returned (.int .i64 (lef (a - (tagSz x : Int)))) ∧ Below w.heap.size w w' := by
  obtain ⟨x1, x2⟩ := x
  simp only [] at h1 h2
  simp only [tagSz]
  by_cases h : a - x1.size < 0
  · go_enter Try.func101, Try.ntmps101
    go_wp2
    go_ret
    exact ⟨ret_int (by rw [lef, if_pos (by omega)]), bl⟩
  · by_cases h3 : a - x1.size - x2.size < 0
    · go_enter Try.func101, Try.ntmps101
      go_wp2
      go_ret
      exact ⟨ret_int (by rw [lef, if_pos (by omega)]), bl⟩
    · go_enter Try.func101, Try.ntmps101
      go_wp2
      go_ret
      exact ⟨ret_int (by rw [lef, if_neg (by omega)]; omega), bl⟩
/-- Texts are no longer than the reach. -/
def ShortT (l : List Tag) : Prop := ∀ t ∈ l, t.1.size ≤ 140737488355328 ∧ t.2.size ≤ 140737488355328
set_option maxHeartbeats 1000000 in
theorem szTagS_c (A : Option Addr) (l : List Tag) (c : Nat) (a : Int) (w : World) (hl : kTag.C w A l.length l) (hs : ShortT l) (hn : (l.length : Int) ≤ 140737488351232) (h0 : 0 ≤ a) (h1 : a ≤ 1048576) :
    Calls Try.prog 55 #[.slice A l.length c, .int .i64 a] w fun e w' => e = .returned (.int .i64 (lef (a - (l.length + tagsSz l : Nat)))) ∧ Below w.heap.size w w' := by
  by_cases h : a - l.length < 0
  · go_enter Try.func55, Try.ntmps55
    go_wp2
    go_ret
    exact ⟨ret_int (by rw [lef, if_pos (by omega)]), bl⟩
  · go_enter Try.func55, Try.ntmps55
    go_wp2
    go_loopw [1, 5] (fun q i wr => ∃ (k : Nat) (b : Int), k ≤ l.length ∧ i = .int .i64 k ∧ q = .int .i64 b ∧ 0 ≤ b ∧ b ≤ 1048576 ∧ Aside0 (b = a - l.length - tagsSz (l.take k)) ∧ Aside0 (Below w.heap.size w wr)) (fun _ i _ => l.length - (intOf i).toNat)
    case atStart => exact ⟨0, _, by omega, rfl, rfl, by omega, by omega, ⟨by simp [tagsSz]⟩, ⟨Below.refl _ _⟩⟩
    case round =>
      obtain ⟨k, b, hk, rfl, rfl, hb0, hb9, hbe, ⟨hb1⟩⟩ := hrel
      by_cases hlt : k < l.length
      · obtain ⟨ad, rfl, c0, c1⟩ := at_Tag hl k hlt
        replace c0 := pw_cell_below hb1 c0
        replace c1 := pw_cell_below hb1 c1
        have hk2 := hs _ (List.getElem_mem hlt)
        have hst := tagsSz_take l k hlt
        have hle := tagsSz_le l (k + 1)
        have d1 : decide ((k : Int) < (l.length : Int)) = true := decide_eq_true (by omega)
        have hl2 : lef (b - (tagSz l[k] : Int)) = -1 ∧ b - (tagSz l[k] : Int) < 0 ∨ lef (b - (tagSz l[k] : Int)) = b - (tagSz l[k] : Int) ∧ 0 ≤ b - (tagSz l[k] : Int) := by unfold lef; split <;> omega
        have hw : IntKind.i64.wrap ((k : Int) + 1) = (k : Int) + 1 := IntWalk.i64_in _ (by omega)
        rcases hl2 with hl2 | hl2
        · have hfin := Lib.hid (show a - (l.length + tagsSz l : Nat) < 0 by have := hbe.out; omega)
          have hl3 := Lib.hid hl2.1
          clear hl2 hst hle
          go_wp2_with fail
          refine (szTag_c l[k] b _ hk2.1 hk2.2 hb0 hb9).mono ?_
          rintro e w2 ⟨rfl, hb2⟩
          rw [hl3.out]
          go_wp2
          go_ret
          exact ⟨ret_int (by rw [lef, if_pos hfin.out]), bl⟩
        · have hnew := Lib.hid (show b - (tagSz l[k] : Int) = a - l.length - tagsSz (l.take (k + 1)) by have := hbe.out; omega)
          have hl3 := Lib.hid hl2.1
          have hl4 := hl2.2
          clear hl2 hst hle
          go_wp2_with fail
          refine (szTag_c l[k] b _ hk2.1 hk2.2 hb0 hb9).mono ?_
          rintro e w2 ⟨rfl, hb2⟩
          rw [hl3.out]
          have hl5 : b - (tagSz l[k] : Int) ≤ 1048576 := by omega
          generalize b - (tagSz l[k] : Int) = z at *
          go_wp2
          exact ⟨⟨k + 1, z, by omega, by go_num, rfl, hl4, hl5, ⟨hnew.out⟩, ⟨bl⟩⟩, by simp [intOf]; omega⟩
      · have he : k = l.length := by omega
        have hfin := Lib.hid (show b = lef (a - (l.length + tagsSz l : Nat)) by
          have := hbe.out
          rw [he, List.take_of_length_le (Nat.le_refl _)] at this
          rw [lef, if_neg (by omega)]; omega)
        have d1 : decide ((k : Int) < (l.length : Int)) = false := decide_eq_false (by omega)
        clear he
        go_wp2
        go_ret
        exact ⟨ret_int hfin.out, bl⟩
end Go.Proofs.Ytlebgjafaioajaa
