/- Contracts of the laws' own helpers over things: a thing's size, copy, equality. -/
import Derived.Test.YtlebgjafaioajaaFb
namespace Go.Proofs.Ytlebgjafaioajaa
open Go.RowKit Go.Proofs.YtlebgjafaioajaaW.PrintWords Go.Proofs.YtlebgjafaioajaaW.PrintLast
set_option linter.unusedVariables false
set_option linter.unusedSimpArgs false
theorem Cells.box4 {w W : World} {p q r s : Value} {t : TypeId} {L : List (Addr × Value)} (h : Cells w L) (hb : Below (w.alloc (.cells #[p, q, r, s] t)).heap.size (w.alloc (.cells #[p, q, r, s] t)) W) : Cells W ((⟨w.heap.size, 0, none⟩, p) :: (⟨w.heap.size, 1, none⟩, q) :: (⟨w.heap.size, 2, none⟩, r) :: (⟨w.heap.size, 3, none⟩, s) :: L) :=
  ⟨cbn 0 hb rfl, cbn 1 hb rfl, cbn 2 hb rfl, cbn 3 hb rfl, h.to (below_then (below_alloc (Below.refl _ _) _) (by simp) hb)⟩
/-- A value that is a thing. -/
abbrev featV (f : FeatD) (A : Option Addr) (c : Nat) (B : Option Addr) (d : Nat) : Value := .agg #[.string f.1, .int .i64 f.2.1.1, .slice A f.2.1.2.length c, .slice B f.2.2.length d]
set_option maxHeartbeats 1000000 in
theorem toFeat_c (f : FeatD) (A : Option Addr) (c : Nat) (B : Option Addr) (d : Nat) (w : World) (hl : kPt.C w A f.2.1.2.length f.2.1.2) (hm : kTag.C w B f.2.2.length f.2.2) (hn : f.2.1.2.length ≤ 1048576) (hn2 : f.2.2.length ≤ 1048576) :
    Calls Try.prog 21 #[featV f A c B d] w fun e w' => ∃ A' c' B' d', e = .returned (featV f A' c' B' d') ∧ RI kPt 108 w' w.heap.size w'.heap.size (.slice A' f.2.1.2.length c') f.2.1.2 ∧ RI kTag 57 w' w.heap.size w'.heap.size (.slice B' f.2.2.length d') f.2.2 ∧ Below w.heap.size w w' := by
  obtain ⟨id, ⟨K, l⟩, m⟩ := f
  simp only [featV] at hl hm hn hn2 ⊢
  go_enter Try.func21, Try.ntmps21
  go_wp2_with (first | (go_at_call 58; refine (toShape_c _ _ _ _ _ (Kd.C_below hl bl) hn).mono ?_; rintro e w1 ⟨A1, c1, rfl, hr1, hb1⟩; obtain ⟨h1, h2, z1⟩ := bcn (w := w) 3 hb1) | (go_at_call 59; refine (toTagS_c _ _ _ _ (Kd.C_below hm bl) hn2).mono ?_; rintro e w2 ⟨B1, d1, rfl, hr2, hb2⟩; obtain ⟨h3, h4, z2⟩ := bcn (w := w) 3 hb2))
  have s1 := hb1.size
  have s2 := hb2.size
  simp only [World.size_alloc, World.size_setCell] at s1 s2
  refine bodyPost_ret (v := .agg #[.string id, .int .i64 K, .slice A1 l.length c1, .slice B1 m.length d1]) (by simp [results, Try.results21, go_sem, *]) rfl ⟨A1, c1, B1, d1, rfl, rk hr1, rk hr2, bl⟩
set_option maxHeartbeats 1000000 in
theorem eqFeat_c (f g : FeatD) (A : Option Addr) (c : Nat) (B : Option Addr) (d : Nat) (A2 : Option Addr) (c2 : Nat) (B2 : Option Addr) (d2 : Nat) (w : World) (hl : kPt.C w A f.2.1.2.length f.2.1.2) (hm : kTag.C w B f.2.2.length f.2.2) (hl2 : kPt.C w A2 g.2.1.2.length g.2.1.2) (hm2 : kTag.C w B2 g.2.2.length g.2.2)
    (n1 : f.2.1.2.length ≤ 1048576) (n2 : f.2.2.length ≤ 1048576) (n3 : g.2.1.2.length ≤ 1048576) (n4 : g.2.2.length ≤ 1048576) :
    Calls Try.prog 23 #[featV f A c B d, featV g A2 c2 B2 d2] w fun e w' => e = .returned (.bool (eqB f g)) ∧ Below w.heap.size w w' := by
  obtain ⟨id, ⟨K, l⟩, m⟩ := f
  obtain ⟨id', ⟨K', l'⟩, m'⟩ := g
  simp only [featV] at hl hm hl2 hm2 n1 n2 n3 n4 ⊢
  by_cases h : id = id'
  · have t := strB_t h
    have H := Lib.hid h
    clear h
    cases h1 : eqB (K, l) (K', l') with
    | false =>
      have H1 := Lib.hid (eqB_f.1 h1)
      go_enter Try.func23, Try.ntmps23
      go_wp2_with fail
      refine (eqShape_c _ _ _ _ _ _ _ _ _ (Kd.C_below hl bl) (Kd.C_below hl2 bl) n1 n3).mono ?_
      rintro e w1 ⟨rfl, hb1⟩
      rw [h1]
      go_wp2
      go_ret
      exact ⟨ret_bool (by symm; rw [eqB_f]; intro e; injection e with _ e; injection e with e; exact H1.out e), bl⟩
    | true =>
      have H1 := Lib.hid (eqB_t.1 h1)
      cases h2 : eqB m m' with
      | false =>
        have H2 := Lib.hid (eqB_f.1 h2)
        go_enter Try.func23, Try.ntmps23
        go_wp2_with fail
        refine (eqShape_c _ _ _ _ _ _ _ _ _ (Kd.C_below hl bl) (Kd.C_below hl2 bl) n1 n3).mono ?_
        rintro e w1 ⟨rfl, hb1⟩
        rw [h1]
        obtain ⟨q1, q2, z1⟩ := bcn (w := w) 2 hb1
        go_wp2_with fail
        refine (eqTagS_c _ _ _ _ _ _ _ (Kd.C_below hm bl) (Kd.C_below hm2 bl) n2 n4).mono ?_
        rintro e w2 ⟨rfl, hb2⟩
        rw [h2]
        go_wp2
        go_ret
        exact ⟨ret_bool (by symm; rw [eqB_f]; intro e; injection e with _ e; injection e with _ e; exact H2.out e), bl⟩
      | true =>
        have H2 := Lib.hid (eqB_t.1 h2)
        go_enter Try.func23, Try.ntmps23
        go_wp2_with fail
        refine (eqShape_c _ _ _ _ _ _ _ _ _ (Kd.C_below hl bl) (Kd.C_below hl2 bl) n1 n3).mono ?_
        rintro e w1 ⟨rfl, hb1⟩
        rw [h1]
        obtain ⟨q1, q2, z1⟩ := bcn (w := w) 2 hb1
        go_wp2_with fail
        refine (eqTagS_c _ _ _ _ _ _ _ (Kd.C_below hm bl) (Kd.C_below hm2 bl) n2 n4).mono ?_
        rintro e w2 ⟨rfl, hb2⟩
        rw [h2]
        go_wp2
        go_ret
        exact ⟨ret_bool (by symm; rw [eqB_t, H.out, H1.out, H2.out]), bl⟩
  · have t := strB_f h
    have H := Lib.hid h
    clear h
    go_enter Try.func23, Try.ntmps23
    go_wp2
    go_ret
    exact ⟨ret_bool (by symm; rw [eqB_f]; intro e; injection e with e; exact H.out e), bl⟩
/-- What is known of a thing that came in. -/
structure FIn (f : FeatD) : Prop where
  id : f.1.size ≤ 140737488355328
  pts : (f.2.1.2.length : Int) ≤ 140737488351232
  tags : (f.2.2.length : Int) ≤ 140737488351232
  txt : ShortT f.2.2
set_option maxHeartbeats 1000000 in
theorem szFeat_c (f : FeatD) (A : Option Addr) (c : Nat) (B : Option Addr) (d : Nat) (a : Int) (w : World) (hm : kTag.C w B f.2.2.length f.2.2) (hF : FIn f) (h0 : 0 ≤ a) (ha : a ≤ 1048576) :
    Calls Try.prog 19 #[featV f A c B d, .int .i64 a] w fun e w' => e = .returned (.int .i64 (lef (a - (featSz f : Int)))) ∧ Below w.heap.size w w' := by
  obtain ⟨g1, g2, g3, g4⟩ := hF
  obtain ⟨id, ⟨K, l⟩, m⟩ := f
  simp only [featV, featSz] at hm g1 g2 g3 g4 ⊢
  by_cases h1 : a - id.size < 0
  · go_enter Try.func19, Try.ntmps19
    go_wp2
    go_ret
    exact ⟨ret_int (by rw [lef, if_pos (by omega)]), bl⟩
  · have e1 : a - id.size ≤ 1048576 := by omega
    have hw : IntKind.i64.wrap (a - id.size) = a - id.size := IntWalk.i64_in _ (by omega)
    by_cases h2 : a - id.size - l.length < 0
    · have L2 := Lib.hid (lef_neg h2)
      have H2 := Lib.hid (show a - ((id.size + l.length + (m.length + tagsSz m) : Nat) : Int) < 0 by omega)
      go_enter Try.func19, Try.ntmps19
      go_wp2_with fail
      refine (szShape_c K A l.length c (a - id.size) _ g2 (by omega) e1).mono ?_
      rintro e w1 ⟨rfl, hb1⟩
      rw [L2.out]
      go_wp2
      go_ret
      exact ⟨ret_int (by rw [lef, if_pos H2.out]), bl⟩
    · have L2 := Lib.hid (lef_pos (show 0 ≤ a - id.size - l.length by omega))
      have e2 : a - id.size - l.length ≤ 1048576 := by omega
      have e3 : 0 ≤ a - id.size - l.length := by omega
      by_cases h3 : a - id.size - l.length - ((m.length + tagsSz m : Nat) : Int) < 0
      · have L3 := Lib.hid (lef_neg h3)
        have H3 := Lib.hid (show a - ((id.size + l.length + (m.length + tagsSz m) : Nat) : Int) < 0 by omega)
        go_enter Try.func19, Try.ntmps19
        go_wp2_with fail
        refine (szShape_c K A l.length c (a - id.size) _ g2 (by omega) e1).mono ?_
        rintro e w1 ⟨rfl, hb1⟩
        rw [L2.out]
        obtain ⟨q1, q2, z1⟩ := bcn (w := w) 1 hb1
        clear h3 h2
        generalize a - id.size - l.length = z at *
        go_wp2_with fail
        refine (szTagS_c _ _ _ z _ (Kd.C_below hm bl) g4 g3 e3 e2).mono ?_
        rintro e w2 ⟨rfl, hb2⟩
        rw [L3.out]
        go_wp2
        go_ret
        exact ⟨ret_int (by rw [lef, if_pos H3.out]), bl⟩
      · have L3 := Lib.hid (lef_pos (show 0 ≤ a - id.size - l.length - ((m.length + tagsSz m : Nat) : Int) by omega))
        have H3 := Lib.hid (show a - id.size - l.length - ((m.length + tagsSz m : Nat) : Int) = lef (a - ((id.size + l.length + (m.length + tagsSz m) : Nat) : Int)) by rw [lef, if_neg (by omega)]; omega)
        have e4 : 0 ≤ a - id.size - l.length - ((m.length + tagsSz m : Nat) : Int) := by omega
        go_enter Try.func19, Try.ntmps19
        go_wp2_with fail
        refine (szShape_c K A l.length c (a - id.size) _ g2 (by omega) e1).mono ?_
        rintro e w1 ⟨rfl, hb1⟩
        rw [L2.out]
        obtain ⟨q1, q2, z1⟩ := bcn (w := w) 1 hb1
        clear h3 h2
        generalize a - id.size - l.length = z at *
        go_wp2_with fail
        refine (szTagS_c _ _ _ z _ (Kd.C_below hm bl) g4 g3 e3 e2).mono ?_
        rintro e w2 ⟨rfl, hb2⟩
        rw [L3.out]
        generalize z - ((m.length + tagsSz m : Nat) : Int) = y at *
        go_wp2
        go_ret
        exact ⟨ret_int H3.out, bl⟩
end Go.Proofs.Ytlebgjafaioajaa
