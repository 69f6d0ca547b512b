/- Contracts: a thing with a tag put, in the program. -/
import Derived.Test.YtlebgjafaioajaaFs
namespace Go.Proofs.Ytlebgjafaioajaa
open Go.RowKit Go.Proofs.YtlebgjafaioajaaW.PrintWords Go.Proofs.YtlebgjafaioajaaW.PrintLast
set_option maxRecDepth 100000
set_option linter.unusedVariables false
set_option linter.unusedSimpArgs false
attribute [local go_sem] cell_set_far cell_set_off
theorem Tight.ne {α : Type} {d : Kd α} {e lo hi a b g t : Nat} {W : World} {v : Value} {xs : List α} {cs : Array Value} (h : Tight d e W lo hi v xs a b) (hg : W.heap[g]? = some (.cells cs t (0, 0))) (ht : e ≠ t) : g < a ∨ b ≤ g := by
  obtain ⟨_, h3, _, h4, _, h5⟩ := h
  by_cases hab : a < b
  · obtain ⟨c, hc⟩ := h5 hab
    have : a ≠ g := blk_ne hc hg ht
    omega
  · omega
theorem B4.exb {W W1 : World} {b lo hi : Nat} {t : TypeId} {p q r s : Value} (h : B4 W b t p q r s) (hx : Ex lo hi W W1) (hf : b < lo ∨ hi ≤ b) : B4 W1 b t p q r s := by
  have : W1.heap[b]? = W.heap[b]? := by
    rcases hf with h1 | h1
    · exact hx.1.block _ h1
    · exact hx.2 _ h1 h.lt
  unfold B4 at h ⊢
  rw [this, h]
set_option maxHeartbeats 8000000 in
theorem iFeatPut_c (f : FeatD) (A : Option Addr) (c : Nat) (B : Option Addr) (d : Nat) (key val : ByteArray) (w : World) (hl : kPt.C w A f.2.1.2.length f.2.1.2) (hm : kTag.C w B f.2.2.length f.2.2) (hF : FTx f) (hk : key.size ≤ 140737488351232) (hv : val.size ≤ 140737488351232) :
    Calls Try.prog 47 #[featV f A c B d, .string key, .string val] w (NFeatB w (fput f key val)) := by
  have n1 := hF.pts
  have n2 := hF.tags
  have hO := iFeatOk_c f A c B d
  cases h1 : featOk f with
  | false =>
    have hf := Lib.hid (fput_no (key := key) (val := val) (fun h => by rw [featOk_t.2 h.1] at h1; cases h1))
    rw [h1] at hO
    have HO := Lib.hid hO
    clear hO h1 hk hv
    obtain ⟨id, ⟨K, l⟩, m⟩ := f
    simp only [featV] at hl hm n1 n2 hf HO ⊢
    go_enter Try.func47, Try.ntmps47
    go_wp2_with fail
    refine (HO.out _ (Kd.C_below hl bl) (Kd.C_below hm bl) hF).mono ?_
    rintro e w1 ⟨rfl, hb1⟩
    have T2 : B4 w1 (w.heap.size + 1) 35 (.string ⟨#[]⟩) (.int .i64 0) (.slice none 0 0) (.slice none 0 0) := B4.new' (w.alloc (.cells #[.string id, .int .i64 K, .slice A l.length c, .slice B m.length d] 35)) _ _ _ _ _ _
    obtain ⟨z0, z1, z2, z3⟩ := T2.c
    obtain ⟨v0, v1, v2, v3⟩ := T2.z
    go_wp2
    refine bodyPost_ret (v := .tuple #[.agg #[.string ⟨#[]⟩, .int .i64 0, .slice none 0 0, .slice none 0 0], .bool false]) (by simp [results, Try.results47, go_sem, *]) rfl ?_
    rw [hf.out]
    exact NFeatB.no (((((bl : Below w.heap.size w w1).setCell (by simp) _).setCell (by simp) _).setCell (by simp) _).setCell (by simp) _)
  | true =>
    have h3 := ftx_put hF (featOk_t.1 h1) hk hv
    have hOK := featOk_t.1 h1
    have hn4 : f.2.2.length ≤ 4 := hOK.2.2.2
    have hup : KUp f.2.2 := kup (fun i hi h0 => (hOK.2.2.1.up i hi h0))
    rw [h1] at hO
    have hput := putK_eq f.2.2 (key, val)
    have hple := putK_le f.2.2 (key, val)
    have hO2 := fun A c B d => iFeatOk_c (fput0 f key val) A c B d
    have hT := fun A c B d w => tag_c f A c B d key w
    have hat : (∃ k, atK f.2.2 key = some k ∧ k < f.2.2.length ∧ putK f.2.2 (key, val) = f.2.2.set k (key, val) ∧ ∃ h : k < f.2.2.length, f.2.2[k].1 = key) ∨ (atK f.2.2 key = none ∧ ∃ p, p ≤ f.2.2.length ∧ putK f.2.2 (key, val) = insK f.2.2 (key, val) p ∧ (∀ i, (hi : i < f.2.2.length) → i < p → ltS f.2.2[i].1 key = true) ∧ (∀ i, (hi : i < f.2.2.length) → p ≤ i → ltS key f.2.2[i].1 = true)) := by
      cases ha : atK f.2.2 key with
      | some k =>
        obtain ⟨hk1, hk2, _⟩ := atK_is ha
        exact .inl ⟨k, rfl, hk1, by rw [hput]; exact putR_at hup ha, hk1, hk2⟩
      | none =>
        obtain ⟨p, hp1, hp2, hp3, hp4⟩ := putR_ins (x := (key, val)) hup (fun t ht => by obtain ⟨i, hi, rfl⟩ := List.getElem_of_mem ht; exact atK_no ha i hi)
        exact .inr ⟨rfl, p, hp1, by rw [hput, hp2]; rfl, hp3, hp4⟩
    have hfin : (featOk (fput0 f key val) = false ∧ fput f key val = (feat0, false)) ∨ (featOk (fput0 f key val) = true ∧ fput f key val = (fput0 f key val, true)) := by
      cases h2 : featOk (fput0 f key val) with
      | false => exact .inl ⟨rfl, fput_no (fun h => by rw [featOk_t.2 h.2] at h2; cases h2)⟩
      | true => exact .inr ⟨rfl, fput_yes ⟨featOk_t.1 h1, featOk_t.1 h2⟩⟩
    have Hat := Lib.hid hat
    have Hfin := Lib.hid hfin
    have HO := Lib.hid hO
    have HO2 := Lib.hid (fun A c B d w ha hb => hO2 A c B d w ha hb h3)
    have HT := Lib.hid hT
    have Hup := Lib.hid hup
    clear hO hO2 hT hat hfin h1 h3 hOK hput hup hk hv
    obtain ⟨id, ⟨K, l⟩, m⟩ := f
    simp only [featV, fput0] at hl hm n1 n2 Hat Hfin HO HO2 HT Hup hn4 hple ⊢
    go_enter Try.func47, Try.ntmps47
    go_wp2_with fail
    refine (HO.out _ (Kd.C_below hl bl) (Kd.C_below hm bl) hF).mono ?_
    rintro e w1 ⟨rfl, hb1⟩
    have T1 : B4 w1 w.heap.size 35 (.string id) (.int .i64 K) (.slice A l.length c) (.slice B m.length d) := B4.new' w _ _ _ _ _ _
    have T2 : B4 w1 (w.heap.size + 1) 35 (.string ⟨#[]⟩) (.int .i64 0) (.slice none 0 0) (.slice none 0 0) := B4.new' (w.alloc (.cells #[.string id, .int .i64 K, .slice A l.length c, .slice B m.length d] 35)) _ _ _ _ _ _
    have s1 := hb1.size
    simp only [World.size_alloc] at s1
    obtain ⟨x0, x1, x2, x3⟩ := T1.c
    go_wp2_with fail
    refine (cloneF_c (id, (K, l), m) A c B d _ (Kd.C_below hl bl) (Kd.C_below hm bl) n1 n2).mono ?_
    rintro e w2 ⟨A2, c2, B2, d2, rfl, hr2, ht2, hb2⟩
    simp only [featV] at hr2 ht2 ⊢
    have s2 := hb2.size
    clear x0 x1 x2 x3
    replace T2 := (T2.to hb2).to (below_alloc (Below.refl _ _) (.cells #[.string id, .int .i64 K, .slice A2 l.length c2, .slice B2 m.length d2] 35))
    have T3 := B4.new w2 (.string id) (.int .i64 K) (.slice A2 l.length c2) (.slice B2 m.length d2) 35
    have ht3 := RI.alloc ht2 (.cells #[.string id, .int .i64 K, .slice A2 l.length c2, .slice B2 m.length d2] 35)
    have hr3 := RI.alloc hr2 (.cells #[.string id, .int .i64 K, .slice A2 l.length c2, .slice B2 m.length d2] 35)
    clear hr2 ht2 T1
    obtain ⟨z0, z1, z2, z3⟩ := T3.c
    go_wp2_with fail
    refine (HT.out A2 c2 B2 d2 _ ht3.rd.2.2 n2).mono ?_
    rintro e w3 ⟨rfl, hb3⟩
    have s3 := hb3.size
    simp only [World.size_alloc] at s3
    replace T2 := T2.to hb3
    replace T3 := T3.to hb3
    replace ht3 := ht3.below hb3
    replace hr3 := hr3.below hb3
    have Bw : Below w.heap.size w w3 := bl
    clear z0 z1 z2 z3 HT HO
    rcases Hat.out with ⟨k, hat, hkm, hput, hkm2, hkk⟩ | ⟨hat, p, hpm, hput, hp1, hp2⟩
    · rw [hat]
      have e0 : optI (some k) = (k : Int) := rfl
      rw [e0]
      have t1 : decide ((0 : Int) ≤ (k : Int)) = true := decide_eq_true (by omega)
      obtain ⟨g, cap, hvv, hg1, hg2, ⟨cells, hgc⟩⟩ := Kd.R_form ht3 (by omega)
      injection hvv with e1 e2 e3
      subst e1
      clear e2 e3
      have hg3 : g < w2.heap.size := ht3.1 g rfl
      obtain ⟨y0, y1, f0, f1⟩ := own_Tag ht3 k hkm
      have ht4 := set_Tag1 ht3 k hkm hkm val
      rw [hkk, ← hput] at ht4
      have hlen : m.length = (putK m (key, val)).length := by rw [hput, List.length_set]
      have hr5 : RI kPt 108 (w3.setCell ⟨g, k * 2 + 1, none⟩ (.string val)) w1.heap.size w2.heap.size (.slice A2 l.length c2) l := Kd.R_set hr3 hgc (by decide) (k * 2 + 1) (.string val)
      have T25 := T2.far (i := k * 2 + 1) (x := .string val) (show (w.heap.size + 1 == g) = false by simp; omega)
      have T35 := T3.far (i := k * 2 + 1) (x := .string val) (show (w2.heap.size == g) = false by simp; omega)
      obtain ⟨z0, z1, z2, z3⟩ := T3.c
      rw [hlen] at T35 ht4
      obtain ⟨u0, u1, u2, u3⟩ := T35.c
      have hC1 := hr5.rd.2.2
      have hC2 := (Kd.R_reads' ht4).2.2
      have B5 : Below w.heap.size w (w3.setCell ⟨g, k * 2 + 1, none⟩ (.string val)) := Bw.setCell (by simp only []; omega) _
      have s5 : w2.heap.size + 1 ≤ (w3.setCell ⟨g, k * 2 + 1, none⟩ (.string val)).heap.size := by simp; omega
      have HO3 := Lib.hid (HO2.out A2 c2 (some ⟨g, 0, none⟩) d2 _ hC1 hC2)
      clear hr3 ht3 ht4 hr5 T2 T3 Bw HO2 Hat hgc hput hkm2 hkk hat
      have n3 : (putK m (key, val)).length ≤ 1048576 := by omega
      have Hc1 := Lib.hid (hC1)
      have Hc2 := Lib.hid (hC2)
      clear hple hC1 hC2
      rcases Hfin.out with ⟨hb, hf⟩ | ⟨hb, hf⟩
      all_goals
        rw [hb] at HO3
        have Hf := Lib.hid hf
        clear hb hf
        go_wp2_with fail
        refine (HO3.out).mono ?_
        rintro e w6 ⟨rfl, hb6⟩
        have s6 := hb6.size
        replace T25 := T25.to hb6
        replace T35 := T35.to hb6
        replace B5 := B5.trans (hb6.mono (by omega))
        clear z0 z1 z2 z3 y0 y1 f0 f1 u0 u1 u2 u3
      · obtain ⟨z0, z1, z2, z3⟩ := T25.c
        obtain ⟨v0, v1, v2, v3⟩ := T25.z
        go_wp2
        refine bodyPost_ret (v := .tuple #[.agg #[.string ⟨#[]⟩, .int .i64 0, .slice none 0 0, .slice none 0 0], .bool false]) (by simp [results, Try.results47, go_sem, *]) rfl ?_
        rw [Hf.out]
        exact NFeatB.no ((((B5.setCell (by simp) _).setCell (by simp) _).setCell (by simp) _).setCell (by simp) _)
      · obtain ⟨u0, u1, u2, u3⟩ := T35.c
        go_wp2_with fail
        refine (cloneF_c (id, (K, l), putK m (key, val)) A2 c2 (some ⟨g, 0, none⟩) d2 _ (Kd.C_below Hc1.out hb6) (Kd.C_below Hc2.out hb6) n1 n3).mono ?_
        rintro e w7 ⟨A7, c7, B7, d7, rfl, hr7, ht7, hb7⟩
        simp only [featV] at hr7 ht7 ⊢
        have s7 := hb7.size
        replace T25 := T25.to hb7
        replace B5 := B5.trans (hb7.mono (by omega))
        clear u0 u1 u2 u3
        obtain ⟨z0, z1, z2, z3⟩ := T25.c
        obtain ⟨v0, v1, v2, v3⟩ := T25.z
        go_wp2
        refine bodyPost_ret (v := .tuple #[.agg #[.string id, .int .i64 K, .slice A7 l.length c7, .slice B7 (putK m (key, val)).length d7], .bool true]) (by simp [results, Try.results47, go_sem, *]) rfl ?_
        rw [Hf.out]
        exact ⟨A7, c7, B7, d7, rfl, RI.of (T25.R (hr7.up (by omega)) (by decide) _ _ _ _), RI.of (T25.R (ht7.up (by omega)) (by decide) _ _ _ _), (((B5.setCell (by simp) _).setCell (by simp) _).setCell (by simp) _).setCell (by simp) _⟩
    · rw [hat]
      have e0 : optI (none : Option Nat) = -1 := rfl
      rw [e0]
      have ho3 : kTag.R 57 w3 w.heap.size (fun _ => True) (.slice B2 m.length d2) m := ht3.up (by omega)
      obtain ⟨z0, z1, z2, z3⟩ := T3.c
      obtain ⟨y0, y1, y2, y3⟩ := T3.z
      go_wp2_with (at_builtin; refine appOne (d := kTag) (w0 := w) (base := w.heap.size) 33 57 z0Tag 32 Try.underlying33 info_Tag rfl (by decide) (by omega) (.tmp 28) (.tmp 32) _ m ((key, val) : Tag) [.string ((key, val) : Tag).1, .string ((key, val) : Tag).2] (kTag_mkM _ _ _ ((key, val) : Tag)) ho3 Bw (by omega) (by omega) ?_; intro B4 d4 w4 ho4 hb4 hg4; replace ho4 := (show kTag.R 57 w4 w.heap.size (fun _ => True) (.slice B4 (m.length + 1) d4) (m ++ [((key, val) : Tag)]) by have h_ := ho4; rwa [List.length_append] at h_); have T34 := T3.grown hg4 (Kd.R_ne ho3 T3 (by decide)); obtain ⟨q0, q1, q2, q3⟩ := T34.c; obtain ⟨r0, r1, r2, r3⟩ := T34.z; have T35 := T34.set3 (.slice B4 (m.length + 1) d4); obtain ⟨u0, u1, u2, u3⟩ := T35.c)
      have B5 := hb4.setCell (p := ⟨w2.heap.size, 3, none⟩) (by simp only []; omega) (.slice B4 (m.length + 1) d4)
      have hs4 := hg4.size
      have ht5 : RI kTag 57 (w4.setCell ⟨w2.heap.size, 3, none⟩ (.slice B4 (m.length + 1) d4)) w.heap.size (w4.setCell ⟨w2.heap.size, 3, none⟩ (.slice B4 (m.length + 1) d4)).heap.size (.slice B4 (m.length + 1) d4) (m ++ [((key, val) : Tag)]) := RI.of (Kd.R_set ho4 T34 (by decide) 3 _)
      have hr4 : RI kPt 108 w4 w1.heap.size w2.heap.size (.slice A2 l.length c2) l := R_grownT hr3 ho3 (by decide) hg4
      have hr5 : RI kPt 108 (w4.setCell ⟨w2.heap.size, 3, none⟩ (.slice B4 (m.length + 1) d4)) w1.heap.size w2.heap.size (.slice A2 l.length c2) l := Kd.R_set hr4 T34 (by decide) 3 _
      have T25 := (T2.grown hg4 (Kd.R_ne ho3 T2 (by decide))).far (i := 3) (x := .slice B4 (m.length + 1) d4) (show (w.heap.size + 1 == w2.heap.size) = false by simp; omega)
      obtain ⟨ta, tb, tt⟩ := tight_of (fun _ _ _ _ _ _ _ h => h) ht5 (by simp; omega)
      obtain ⟨pa, pb, tp⟩ := tight_of (fun _ _ _ _ _ _ _ h => h) hr5 (by omega)
      have hap := tight_apart tp tt (by decide)
      have hta : w.heap.size ≤ ta := tt.1
      have htb := tt.2.2.1
      have hpa := tp.1
      have hn2 := tt.ne T25 (by decide)
      have hn3 := tt.ne T35 (by decide)
      have hSr := tt.2.2.2.2.1
      have hPr := tp.2.2.2.2.1
      refine (SortTag_c B4 d4 m (key, val) p (m.length + 1) ta tb _ hSr rfl (by omega) Hup.out hpm hp1 hp2 (Nat.le_trans tt.2.1 htb)).mono ?_
      rintro e w5 ⟨rfl, ht6, hx6⟩
      replace T25 := T25.exb hx6 hn2
      replace T35 := T35.exb hx6 hn3
      have hr6 := hPr.ex hx6 (by omega)
      rw [← hput] at ht6
      have hlen : m.length + 1 = (putK m (key, val)).length := by rw [hput, insK_len _ _ _ hpm]
      rw [hlen] at ht6 T35
      replace B5 := B5.trans (hx6.1.mono hta)
      have s5 := hx6.1.size
      simp only [World.size_setCell] at s5
      clear z0 z1 z2 z3 y0 y1 y2 y3 q0 q1 q2 q3 r0 r1 r2 r3 u0 u1 u2 u3 T34 hr3 hr4 hr5 ht3 ho3 ho4 T2 T3 hg4 hb4 hSr hPr tt tp ht5 hx6 hp1 hp2 Hat
      obtain ⟨u0, u1, u2, u3⟩ := T35.c
      have HO3 := Lib.hid (HO2.out A2 c2 B4 d4 _ hr6.rd.2.2 ht6.rd.2.2)
      have n3 : (putK m (key, val)).length ≤ 1048576 := by omega
      have Hc1 := Lib.hid (hr6.rd.2.2)
      have Hc2 := Lib.hid (ht6.rd.2.2)
      clear hple hr6 ht6 hput hlen hap hn2 hn3
      rcases Hfin.out with ⟨hb, hf⟩ | ⟨hb, hf⟩
      all_goals
        rw [hb] at HO3
        have Hf := Lib.hid hf
        clear hb hf
        go_wp2_with fail
        refine (HO3.out).mono ?_
        rintro e w6 ⟨rfl, hb6⟩
        have s6 := hb6.size
        replace T25 := T25.to hb6
        replace T35 := T35.to hb6
        replace B5 := B5.trans (hb6.mono (by omega))
        clear u0 u1 u2 u3
      · obtain ⟨z0, z1, z2, z3⟩ := T25.c
        obtain ⟨v0, v1, v2, v3⟩ := T25.z
        go_wp2
        refine bodyPost_ret (v := .tuple #[.agg #[.string ⟨#[]⟩, .int .i64 0, .slice none 0 0, .slice none 0 0], .bool false]) (by simp [results, Try.results47, go_sem, *]) rfl ?_
        rw [Hf.out]
        exact NFeatB.no ((((B5.setCell (by simp) _).setCell (by simp) _).setCell (by simp) _).setCell (by simp) _)
      · obtain ⟨u0, u1, u2, u3⟩ := T35.c
        go_wp2_with fail
        refine (cloneF_c (id, (K, l), putK m (key, val)) A2 c2 B4 d4 _ (Kd.C_below Hc1.out hb6) (Kd.C_below Hc2.out hb6) n1 n3).mono ?_
        rintro e w7 ⟨A7, c7, B7, d7, rfl, hr7, ht7, hb7⟩
        simp only [featV] at hr7 ht7 ⊢
        have s7 := hb7.size
        replace T25 := T25.to hb7
        replace B5 := B5.trans (hb7.mono (by omega))
        clear u0 u1 u2 u3
        obtain ⟨z0, z1, z2, z3⟩ := T25.c
        obtain ⟨v0, v1, v2, v3⟩ := T25.z
        go_wp2
        refine bodyPost_ret (v := .tuple #[.agg #[.string id, .int .i64 K, .slice A7 l.length c7, .slice B7 (putK m (key, val)).length d7], .bool true]) (by simp [results, Try.results47, go_sem, *]) rfl ?_
        rw [Hf.out]
        exact ⟨A7, c7, B7, d7, rfl, RI.of (T25.R (hr7.up (by omega)) (by decide) _ _ _ _), RI.of (T25.R (ht7.up (by omega)) (by decide) _ _ _ _), (((B5.setCell (by simp) _).setCell (by simp) _).setCell (by simp) _).setCell (by simp) _⟩
end Go.Proofs.Ytlebgjafaioajaa
