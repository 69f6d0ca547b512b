/- Contracts: a thing with a tag put, in the reference. -/
import Derived.Test.YtlebgjafaioajaaFr
namespace Go.Proofs.Ytlebgjafaioajaa
open Go.RowKit Go.Proofs.YtlebgjafaioajaaW.PrintWords Go.Proofs.YtlebgjafaioajaaW.PrintLast
set_option maxRecDepth 100000
set_option linter.unusedVariables false
set_option linter.unusedSimpArgs false
attribute [local go_sem] cell_set_far cell_set_off
/-- The thing that a putting makes, ahead of the test. -/
abbrev fput0 (f : FeatD) (key val : ByteArray) : FeatD := (f.1, f.2.1, putK f.2.2 (key, val))
theorem putK_mem {α : Type} {l : List (ByteArray × α)} {x t : ByteArray × α} (h : t ∈ putK l x) : t = x ∨ t ∈ l := by
  rw [putK_eq] at h
  induction l with
  | nil => simp [putR] at h; exact .inl h
  | cons u l ih =>
    rw [putR] at h
    split at h
    · rcases List.mem_cons.1 h with h | h
      · exact .inr (h ▸ List.mem_cons_self)
      · rcases ih h with h | h
        · exact .inl h
        · exact .inr (List.mem_cons_of_mem _ h)
    · rcases List.mem_cons.1 h with h | h
      · exact .inl h
      · exact .inr (List.mem_filter.1 h).1
theorem ftx_put {f : FeatD} {key val : ByteArray} (hF : FTx f) (ho : FeatOk f) (hk : key.size ≤ 140737488351232) (hv : val.size ≤ 140737488351232) : FTx (fput0 f key val) := by
  refine ⟨hF.id, hF.pts, ?_, fun t ht => ?_⟩
  · have h1 := ho.2.2.2
    have h2 := putK_le f.2.2 (key, val)
    exact Nat.le_trans h2 (by have : f.2.2.length ≤ 4 := h1; omega)
  · rcases putK_mem ht with rfl | ht
    · exact ⟨hk, hv⟩
    · exact hF.txt t ht
theorem fput_no {f : FeatD} {key val : ByteArray} (h : ¬ (FeatOk f ∧ FeatOk (fput0 f key val))) : fput f key val = (feat0, false) := if_neg h
theorem fput_yes {f : FeatD} {key val : ByteArray} (h : FeatOk f ∧ FeatOk (fput0 f key val)) : fput f key val = (fput0 f key val, true) := if_pos h
set_option maxHeartbeats 4000000 in
theorem sFeatPut_c (f : FeatD) (A : Option Addr) (c : Nat) (B : Option Addr) (d : Nat) (key val : ByteArray) (w : World) (hl : kPt.C w A f.2.1.2.length f.2.1.2) (hm : kTag.C w B f.2.2.length f.2.2) (hF : FTx f) (hk : key.size ≤ 140737488351232) (hv : val.size ≤ 140737488351232) :
    Calls Try.prog 48 #[featV f A c B d, .string key, .string val] w (NFeatB w (fput f key val)) := by
  have n1 := hF.pts
  have n2 := hF.tags
  have hO := sFeatOk_c f A c B d
  have hO2 := fun A c B d => sFeatOk_c (fput0 f key val) A c B d
  cases h1 : featOk f
  case' false =>
    have hf := Lib.hid (fput_no (key := key) (val := val) (fun h => by rw [featOk_t.2 h.1] at h1; cases h1))
    rw [h1] at hO
    clear hO2
  case' true =>
    have h3 := ftx_put hF (featOk_t.1 h1) hk hv
    cases h2 : featOk (fput0 f key val)
    case' false => have hf := Lib.hid (fput_no (key := key) (val := val) (fun h => by rw [featOk_t.2 h.2] at h2; cases h2))
    case' true => have hf := Lib.hid (fput_yes ⟨featOk_t.1 h1, featOk_t.1 h2⟩)
    all_goals
      rw [h1] at hO
      rw [h2] at hO2
      have HO2 := Lib.hid (fun A c B d w ha hb => hO2 A c B d w ha hb h3)
      clear hO2 h2 h3
  all_goals
    have HO := Lib.hid hO
    clear hO h1 hk hv
    obtain ⟨id, ⟨K, l⟩, m⟩ := f
    simp only [featV, fput0] at hl hm n1 n2 hf HO ⊢
    try simp only [featV, fput0] at HO2
    go_enter Try.func48, Try.ntmps48
    go_wp2_with fail
    refine (copyF_c (id, (K, l), m) A c B d _ (Kd.C_below hl bl) (Kd.C_below hm bl) n1 n2).mono ?_
    rintro e w1 ⟨A1, c1, B1, d1, rfl, hr1, ht1, hb1⟩
    simp only [featV] at hr1 ht1 ⊢
    have T1 : B4 w1 w.heap.size 35 (.string id) (.int .i64 K) (.slice A l.length c) (.slice B m.length d) := B4.new' w _ _ _ _ _ _
    have T2 : B4 w1 (w.heap.size + 1) 35 (.string ⟨#[]⟩) (.int .i64 0) (.slice none 0 0) (.slice none 0 0) := B4.new' (w.alloc (.cells #[.string id, .int .i64 K, .slice A l.length c, .slice B m.length d] 35)) _ _ _ _ _ _
    have s1 := hb1.size
    simp only [World.size_alloc] at s1 hr1
    replace T1 := T1.to (below_alloc (Below.refl _ _) (.cells #[.string id, .int .i64 K, .slice A1 l.length c1, .slice B1 m.length d1] 35))
    replace T2 := T2.to (below_alloc (Below.refl _ _) (.cells #[.string id, .int .i64 K, .slice A1 l.length c1, .slice B1 m.length d1] 35))
    have T3 := B4.new w1 (.string id) (.int .i64 K) (.slice A1 l.length c1) (.slice B1 m.length d1) 35
    have hr2 := hr1.alloc (.cells #[.string id, .int .i64 K, .slice A1 l.length c1, .slice B1 m.length d1] 35)
    clear hr1 ht1
    obtain ⟨x0, x1, x2, x3⟩ := T1.c
    go_wp2_with fail
    refine (l2Put_c B d m key val _ (Kd.C_below hm bl) n2).mono ?_
    rintro e w2 ⟨B2, d2, rfl, ht2, hb2⟩
    replace T1 := T1.to hb2
    replace T2 := T2.to hb2
    replace T3 := T3.to hb2
    replace hr2 := hr2.below hb2
    have s2 := hb2.size
    simp only [World.size_alloc] at s2 ht2
    clear x0 x1 x2 x3
    obtain ⟨x0, x1, x2, x3⟩ := T1.c
    obtain ⟨z0, z1, z2, z3⟩ := T3.c
    obtain ⟨v0, v1, v2, v3⟩ := T3.z
    have Bw : Below w.heap.size w (w2.setCell ⟨w1.heap.size, 3, none⟩ (.slice B2 (putK m (key, val)).length d2)) := (bl : Below w.heap.size w w2).setCell (by simp only []; omega) _
    have hr3 := hr2.far (p := ⟨w1.heap.size, 3, none⟩) (Or.inr (Nat.le_refl _)) (.slice B2 (putK m (key, val)).length d2)
    have ht3 := ht2.far (p := ⟨w1.heap.size, 3, none⟩) (Or.inl (by simp only []; omega)) (.slice B2 (putK m (key, val)).length d2)
    have U1 := T1.far (i := 3) (x := .slice B2 (putK m (key, val)).length d2) (show (w.heap.size == w1.heap.size) = false by simp; omega)
    have U2 := T2.far (i := 3) (x := .slice B2 (putK m (key, val)).length d2) (show (w.heap.size + 1 == w1.heap.size) = false by simp; omega)
    have U3 := T3.set3 (.slice B2 (putK m (key, val)).length d2)
    clear T1 T2 T3 hr2 ht2
    have HC1 := Kd.C_below hl Bw
    have HC2 := Kd.C_below hm Bw
    go_wp2_with fail
    refine (HO.out _ HC1 HC2 hF).mono ?_
    rintro e w3 ⟨rfl, hb3⟩
    have s3 := hb3.size
    simp only [World.size_setCell] at s3
    replace U1 := U1.to hb3
    replace U2 := U2.to hb3
    replace U3 := U3.to hb3
    replace hr3 := hr3.below hb3
    replace ht3 := ht3.below hb3
    replace Bw := Bw.trans (hb3.mono (by simp; omega))
    clear x0 x1 x2 x3 z0 z1 z2 z3 v0 v1 v2 v3 HC1 HC2
  rotate_right 1
  · obtain ⟨z0, z1, z2, z3⟩ := U2.c
    obtain ⟨v0, v1, v2, v3⟩ := U2.z
    go_wp2
    refine bodyPost_ret (v := .tuple #[.agg #[.string ⟨#[]⟩, .int .i64 0, .slice none 0 0, .slice none 0 0], .bool false]) (by simp [results, Try.results48, go_sem, *]) rfl ?_
    rw [hf.out]
    exact NFeatB.no ((((Bw.setCell (by simp) _).setCell (by simp) _).setCell (by simp) _).setCell (by simp) _)
  all_goals
    obtain ⟨z0, z1, z2, z3⟩ := U3.c
    go_wp2_with fail
    refine (HO2.out A1 c1 B2 d2 _ hr3.rd.2.2 ht3.rd.2.2).mono ?_
    rintro e w4 ⟨rfl, hb4⟩
    have s4 := hb4.size
    replace U2 := U2.to hb4
    replace U3 := U3.to hb4
    replace hr3 := hr3.below hb4
    replace ht3 := ht3.below hb4
    replace Bw := Bw.trans (hb4.mono (by omega))
    clear z0 z1 z2 z3
    obtain ⟨z0, z1, z2, z3⟩ := U2.c
    obtain ⟨v0, v1, v2, v3⟩ := U2.z
  rotate_right 1
  · go_wp2
    refine bodyPost_ret (v := .tuple #[.agg #[.string ⟨#[]⟩, .int .i64 0, .slice none 0 0, .slice none 0 0], .bool false]) (by simp [results, Try.results48, go_sem, *]) rfl ?_
    rw [hf.out]
    exact NFeatB.no ((((Bw.setCell (by simp) _).setCell (by simp) _).setCell (by simp) _).setCell (by simp) _)
  · obtain ⟨x0, x1, x2, x3⟩ := U3.c
    go_wp2
    refine bodyPost_ret (v := .tuple #[.agg #[.string id, .int .i64 K, .slice A1 l.length c1, .slice B2 (putK m (key, val)).length d2], .bool true]) (by simp [results, Try.results48, go_sem, *]) rfl ?_
    rw [hf.out]
    exact ⟨A1, c1, B2, d2, rfl, RI.of (U2.R (hr3.up (by omega)) (by decide) _ _ _ _), RI.of (U2.R (ht3.up (by omega)) (by decide) _ _ _ _), (((Bw.setCell (by simp) _).setCell (by simp) _).setCell (by simp) _).setCell (by simp) _⟩
end Go.Proofs.Ytlebgjafaioajaa
