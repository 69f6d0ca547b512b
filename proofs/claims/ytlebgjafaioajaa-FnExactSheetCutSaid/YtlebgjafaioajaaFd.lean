/- Contracts: things held against each other. -/
import Derived.Test.YtlebgjafaioajaaFc
import Derived.Test.YtlebgjafaioajaaS
namespace Go.Proofs.Ytlebgjafaioajaa
open Go.RowKit Go.Proofs.YtlebgjafaioajaaW.PrintWords Go.Proofs.YtlebgjafaioajaaW.PrintLast
set_option linter.unusedVariables false
set_option linter.unusedSimpArgs false
set_option maxRecDepth 100000 in
/-- == of two tags. -/
theorem eqTagOp (d : Nat) (w : World) (x0 y0 x1 y1 : ByteArray) : (Op.equalIn (d + 2) 57 (.agg #[.string x0, .string x1]) (.agg #[.string y0, .string y1])).run Try.prog w = .ok (eqB (x0, x1) (y0, y1)) w := by
  have : (Op.equalIn (d + 2) 57 (.agg #[.string x0, .string x1]) (.agg #[.string y0, .string y1])).run Try.prog w = .ok (x0.toList == y0.toList && (x1.toList == y1.toList)) w := by
    refine eqA_of Try.underlying57 (by kernel_rfl) ?_
    refine eqf_cons (by rfl) (by go_simp; rfl) (by go_simp; rfl) (by go_simp) ?_
    exact eqf_last (by rfl) (by go_simp; rfl) (by go_simp; rfl) (by go_simp)
  rw [this]
  congr 1
  by_cases h : x0 = y0
  · by_cases h2 : x1 = y1
    · rw [strB_t h, strB_t h2, h, h2, eqB_t.2 rfl]; rfl
    · rw [strB_t h, strB_f h2, eqB_f.2 (fun e => h2 (Prod.ext_iff.1 e).2)]; rfl
  · rw [strB_f h, eqB_f.2 (fun e => h (Prod.ext_iff.1 e).1)]; rfl
attribute [local go_sem high] eqTagOp
def s_l2Same_T6 : Bool × List (List Nat × List Nat) := (true, [([], []), ([], []), ([0, 1], [0, 1]), ([2], [2]), ([], []), ([], []), ([4, 5], [4, 5]), ([6], [6]), ([3, 7], [3, 7])])
theorem s_l2Same_t6 : rtab .any (opsOf Try.f57 6) = s_l2Same_T6 := by kernel_rfl
set_option maxHeartbeats 4000000 in
theorem l2Same_c (A B : Option Addr) (c d : Nat) (l m : List Tag) (w : World) (hl : kTag.C w A l.length l) (hm : kTag.C w B m.length m) (hn : l.length ≤ 1048576) (hn2 : m.length ≤ 1048576) :
    Calls Try.prog 57 #[.slice A l.length c, .slice B m.length d] w fun e w' => e = .returned (.bool (eqB l m)) ∧ Below w.heap.size w w' := by
  by_cases hlen : l.length = m.length
  · have hne : ((l.length : Int) != (m.length : Int)) = false := by simp [hlen]
    have Hlen := Lib.hid hlen
    clear hlen
    go_enter Try.func57, Try.ntmps57
    go_wp2
    go_loopw [5] (fun i wr => ∃ k : Nat, k ≤ l.length ∧ i = .int .i64 k ∧ Aside0 (l.take k = m.take k) ∧ Aside0 (Below w.heap.size w wr)) (fun i _ => l.length - (intOf i).toNat)
    case atStart => exact ⟨0, by omega, rfl, ⟨by simp⟩, ⟨Below.refl _ _⟩⟩
    case round =>
      obtain ⟨k, hk, rfl, he, ⟨hb1⟩⟩ := hrel
      by_cases hlt : k < l.length
      · have hlt2 : k < m.length := by have := Hlen.out; omega
        obtain ⟨ad, rfl, c0, c1⟩ := at_Tag hl k hlt
        obtain ⟨bd, rfl, d0, d1⟩ := at_Tag hm k hlt2
        replace c0 := pw_cell_below hb1 c0
        replace c1 := pw_cell_below hb1 c1
        replace d0 := pw_cell_below hb1 d0
        replace d1 := pw_cell_below hb1 d1
        cases hd : eqB (l[k].1, l[k].2) (m[k].1, m[k].2)
        all_goals
          go_wp2
          refine rgStart 9 [0, 1, 2, 3, 4, 5, 6, 7, 8] s_l2Same_t6 (fun HT HS => ?_)
          repeat ((with_reducible refine rgGate ?_); first | refine rgP HT ?_ | refine rgL HT ?_ | refine rgG HT ?_)
          refine rgDone HT ?_
          go_wp2
        · go_ret
          exact ⟨ret_bool (by symm; show eqB l m = false; rw [eqB_f]; rintro rfl; exact eqB_f.1 hd rfl), bl⟩
        · exact ⟨⟨k + 1, by omega, by go_num, ⟨by rw [List.take_succ_eq_append_getElem hlt, List.take_succ_eq_append_getElem hlt2, he.out]; exact congrArg (fun p => List.take k m ++ [p]) (eqB_t.1 hd)⟩, ⟨bl⟩⟩, by simp [intOf]; omega⟩
      · go_wp2
        go_ret
        have := he.out
        have h2 := Hlen.out
        exact ⟨ret_bool (by symm; rw [eqB_t]; rwa [List.take_of_length_le (by omega), List.take_of_length_le (by omega)] at this), bl⟩
  · have hne : ((l.length : Int) != (m.length : Int)) = true := by simp; omega
    have Hlen := Lib.hid hlen
    clear hlen
    go_enter Try.func57, Try.ntmps57
    go_wp2
    go_ret
    exact ⟨ret_bool (by symm; rw [eqB_f]; rintro rfl; exact Hlen.out rfl), bl⟩
def g_slices_Equal_Tag_T6 : Bool × List (List Nat × List Nat) := (true, [([], []), ([], []), ([0, 1], [0, 1]), ([2], [2]), ([], []), ([], []), ([4, 5], [4, 5]), ([6], [6]), ([3, 7], [3, 7])])
theorem g_slices_Equal_Tag_t6 : rtab .any (opsOf Try.f60 6) = g_slices_Equal_Tag_T6 := by kernel_rfl
set_option maxHeartbeats 4000000 in
theorem EqualTag_c (A B : Option Addr) (c d : Nat) (l m : List Tag) (w : World) (hl : kTag.C w A l.length l) (hm : kTag.C w B m.length m) (hn : l.length ≤ 1048576) (hn2 : m.length ≤ 1048576) :
    Calls Try.prog 60 #[.slice A l.length c, .slice B m.length d] w fun e w' => e = .returned (.bool (eqB l m)) ∧ Below w.heap.size w w' := by
  by_cases hlen : l.length = m.length
  · have hne : ((l.length : Int) != (m.length : Int)) = false := by simp [hlen]
    have Hlen := Lib.hid hlen
    clear hlen
    go_enter Try.func60, Try.ntmps60
    go_wp2
    go_loopw [13] (fun i wr => ∃ k : Nat, k ≤ l.length ∧ i = .int .i64 k ∧ Aside0 (l.take k = m.take k) ∧ Aside0 (Below w.heap.size w wr)) (fun i _ => l.length - (intOf i).toNat)
    case atStart => exact ⟨0, by omega, rfl, ⟨by simp⟩, ⟨Below.refl _ _⟩⟩
    case round =>
      obtain ⟨k, hk, rfl, he, ⟨hb1⟩⟩ := hrel
      by_cases hlt : k < l.length
      · have hlt2 : k < m.length := by have := Hlen.out; omega
        obtain ⟨ad, rfl, c0, c1⟩ := at_Tag hl k hlt
        obtain ⟨bd, rfl, d0, d1⟩ := at_Tag hm k hlt2
        replace c0 := pw_cell_below hb1 c0
        replace c1 := pw_cell_below hb1 c1
        replace d0 := pw_cell_below hb1 d0
        replace d1 := pw_cell_below hb1 d1
        cases hd : eqB (l[k].1, l[k].2) (m[k].1, m[k].2)
        all_goals
          go_wp2
          refine rgStart 9 [0, 1, 2, 3, 4, 5, 6, 7, 8] g_slices_Equal_Tag_t6 (fun HT HS => ?_)
          repeat ((with_reducible refine rgGate ?_); first | refine rgP HT ?_ | refine rgL HT ?_ | refine rgG HT ?_)
          refine rgDone HT ?_
          go_wp2
        · go_ret
          exact ⟨ret_bool (by symm; show eqB l m = false; rw [eqB_f]; rintro rfl; exact eqB_f.1 hd rfl), bl⟩
        · exact ⟨⟨k + 1, by omega, by go_num, ⟨by rw [List.take_succ_eq_append_getElem hlt, List.take_succ_eq_append_getElem hlt2, he.out]; exact congrArg (fun p => List.take k m ++ [p]) (eqB_t.1 hd)⟩, ⟨bl⟩⟩, by simp [intOf]; omega⟩
      · go_wp2
        go_ret
        have := he.out
        have h2 := Hlen.out
        exact ⟨ret_bool (by symm; rw [eqB_t]; rwa [List.take_of_length_le (by omega), List.take_of_length_le (by omega)] at this), bl⟩
  · have hne : ((l.length : Int) != (m.length : Int)) = true := by simp; omega
    have Hlen := Lib.hid hlen
    clear hlen
    go_enter Try.func60, Try.ntmps60
    go_wp2
    go_ret
    exact ⟨ret_bool (by symm; rw [eqB_f]; rintro rfl; exact Hlen.out rfl), bl⟩
set_option maxHeartbeats 1000000 in
theorem sFeatSame_c (f g : FeatD) (A : Option Addr) (c : Nat) (B : Option Addr) (d : Nat) (A2 : Option Addr) (c2 : Nat) (B2 : Option Addr) (d2 : Nat) (w : World) (hl : kPt.C w A f.2.1.2.length f.2.1.2) (hm : kTag.C w B f.2.2.length f.2.2) (hl2 : kPt.C w A2 g.2.1.2.length g.2.1.2) (hm2 : kTag.C w B2 g.2.2.length g.2.2)
    (n1 : f.2.1.2.length ≤ 1048576) (n2 : f.2.2.length ≤ 1048576) (n3 : g.2.1.2.length ≤ 1048576) (n4 : g.2.2.length ≤ 1048576) :
    Calls Try.prog 20 #[featV f A c B d, featV g A2 c2 B2 d2] w fun e w' => e = .returned (.bool (eqB f g)) ∧ Below w.heap.size w w' := by
  obtain ⟨id, ⟨K, l⟩, m⟩ := f
  obtain ⟨id', ⟨K', l'⟩, m'⟩ := g
  simp only [featV] at hl hm hl2 hm2 n1 n2 n3 n4 ⊢
  by_cases h : id = id'
  · have t := strB_t h
    have H := Lib.hid h
    clear h
    cases h1 : eqB (K, l) (K', l') with
    | false =>
      have H1 := Lib.hid (eqB_f.1 h1)
      go_enter Try.func20, Try.ntmps20
      go_wp2_with fail
      refine (sShapeSame_c _ _ _ _ _ _ _ _ _ (Kd.C_below hl bl) (Kd.C_below hl2 bl) n1 n3).mono ?_
      rintro e w1 ⟨rfl, hb1⟩
      rw [h1]
      go_wp2
      go_ret
      exact ⟨ret_bool (by symm; rw [eqB_f]; intro e; injection e with _ e; injection e with e; exact H1.out e), bl⟩
    | true =>
      have H1 := Lib.hid (eqB_t.1 h1)
      cases h2 : eqB m m'
      all_goals
        go_enter Try.func20, Try.ntmps20
        go_wp2_with fail
        refine (sShapeSame_c _ _ _ _ _ _ _ _ _ (Kd.C_below hl bl) (Kd.C_below hl2 bl) n1 n3).mono ?_
        rintro e w1 ⟨rfl, hb1⟩
        rw [h1]
        obtain ⟨q1, q2, z1⟩ := bcn (w := w) 2 hb1
        go_wp2_with fail
        refine (l2Same_c _ _ _ _ _ _ _ (Kd.C_below hm bl) (Kd.C_below hm2 bl) n2 n4).mono ?_
        rintro e w2 ⟨rfl, hb2⟩
        rw [h2]
        go_wp2
        go_ret
      · exact ⟨ret_bool (by symm; rw [eqB_f]; intro e; injection e with _ e; injection e with _ e; exact eqB_f.1 h2 e), bl⟩
      · exact ⟨ret_bool (by symm; rw [eqB_t, H.out, H1.out, eqB_t.1 h2]), bl⟩
  · have t := strB_f h
    have H := Lib.hid h
    clear h
    go_enter Try.func20, Try.ntmps20
    go_wp2
    go_ret
    exact ⟨ret_bool (by symm; rw [eqB_f]; intro e; injection e with e; exact H.out e), bl⟩
set_option maxHeartbeats 1000000 in
theorem iFeatSame_c (f g : FeatD) (A : Option Addr) (c : Nat) (B : Option Addr) (d : Nat) (A2 : Option Addr) (c2 : Nat) (B2 : Option Addr) (d2 : Nat) (w : World) (hl : kPt.C w A f.2.1.2.length f.2.1.2) (hm : kTag.C w B f.2.2.length f.2.2) (hl2 : kPt.C w A2 g.2.1.2.length g.2.1.2) (hm2 : kTag.C w B2 g.2.2.length g.2.2)
    (n1 : f.2.1.2.length ≤ 1048576) (n2 : f.2.2.length ≤ 1048576) (n3 : g.2.1.2.length ≤ 1048576) (n4 : g.2.2.length ≤ 1048576) :
    Calls Try.prog 22 #[featV f A c B d, featV g A2 c2 B2 d2] w fun e w' => e = .returned (.bool (eqB f g)) ∧ Below w.heap.size w w' := by
  obtain ⟨id, ⟨K, l⟩, m⟩ := f
  obtain ⟨id', ⟨K', l'⟩, m'⟩ := g
  simp only [featV] at hl hm hl2 hm2 n1 n2 n3 n4 ⊢
  by_cases h : id = id'
  · have t := strB_t h
    have H := Lib.hid h
    clear h
    cases h1 : eqB (K, l) (K', l') with
    | false =>
      have H1 := Lib.hid (eqB_f.1 h1)
      go_enter Try.func22, Try.ntmps22
      go_wp2_with fail
      refine (iShapeSame_c _ _ _ _ _ _ _ _ _ (Kd.C_below hl bl) (Kd.C_below hl2 bl) n1 n3).mono ?_
      rintro e w1 ⟨rfl, hb1⟩
      rw [h1]
      go_wp2
      go_ret
      exact ⟨ret_bool (by symm; rw [eqB_f]; intro e; injection e with _ e; injection e with e; exact H1.out e), bl⟩
    | true =>
      have H1 := Lib.hid (eqB_t.1 h1)
      cases h2 : eqB m m'
      all_goals
        go_enter Try.func22, Try.ntmps22
        go_wp2_with fail
        refine (iShapeSame_c _ _ _ _ _ _ _ _ _ (Kd.C_below hl bl) (Kd.C_below hl2 bl) n1 n3).mono ?_
        rintro e w1 ⟨rfl, hb1⟩
        rw [h1]
        obtain ⟨q1, q2, z1⟩ := bcn (w := w) 2 hb1
        go_wp2_with fail
        refine (EqualTag_c _ _ _ _ _ _ _ (Kd.C_below hm bl) (Kd.C_below hm2 bl) n2 n4).mono ?_
        rintro e w2 ⟨rfl, hb2⟩
        rw [h2]
        go_wp2
        go_ret
      · exact ⟨ret_bool (by symm; rw [eqB_f]; intro e; injection e with _ e; injection e with _ e; exact eqB_f.1 h2 e), bl⟩
      · exact ⟨ret_bool (by symm; rw [eqB_t, H.out, H1.out, eqB_t.1 h2]), bl⟩
  · have t := strB_f h
    have H := Lib.hid h
    clear h
    go_enter Try.func22, Try.ntmps22
    go_wp2
    go_ret
    exact ⟨ret_bool (by symm; rw [eqB_f]; intro e; injection e with e; exact H.out e), bl⟩
end Go.Proofs.Ytlebgjafaioajaa
