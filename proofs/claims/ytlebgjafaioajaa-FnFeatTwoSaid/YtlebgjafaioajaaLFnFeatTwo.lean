/- Law: to a drawn thing two tags are put, in either order: the answers are one. -/
import Derived.Test.YtlebgjafaioajaaPg
import Derived.Test.YtlebgjafaioajaaDz
import Derived.Test.YtlebgjafaioajaaLFeatOk
namespace Go.Proofs.Ytlebgjafaioajaa
open Go.RowKit Go.Proofs.YtlebgjafaioajaaW.PrintWords Go.Proofs.YtlebgjafaioajaaW.PrintLast
set_option maxRecDepth 100000
set_option linter.unusedVariables false
set_option linter.unusedSimpArgs false
set_option maxHeartbeats 8000000 in
theorem FnFeatTwo_c (A : Option Addr) (c : Nat) (l : List Int) (B : Option Addr) (d : Nat) (m : List Int) (w : World) (hl : (Kd.int .u8).C w A l.length l) (hn : (l.length : Int) ≤ 140737488351232) (hb : ∀ x ∈ l, 0 ≤ x ∧ x ≤ 255) (hc : l.length ≤ c) (hm : (Kd.int .u8).C w B m.length m) (hn' : (m.length : Int) ≤ 140737488351232) (hb' : ∀ x ∈ m, 0 ≤ x ∧ x ≤ 255) (hc' : m.length ≤ d) :
    Calls Try.prog 12 #[.slice A l.length c, .slice B m.length d] w fun e w' => e = .returned (.bool true) ∧ Below w.heap.size w w' := by
  by_cases hs : (l.length : Int) ≤ 1048576
  · have hd : decide ((1048576 : Int) < (l.length : Int)) = false := decide_eq_false (by omega)
    by_cases hs2 : (m.length : Int) ≤ 1048576
    · have hd2 : decide ((1048576 : Int) < (m.length : Int)) = false := decide_eq_false (by omega)
      go_enter Try.func12, Try.ntmps12
      go_wp2_with fail
      refine (DrawFeatPut_d A c l _ (Kd.C_below hl bl) hb hc (by omega)).mono ?_
      rintro e w1 ⟨f, A1, c1, B1, d1, key, val, rfl, hp1, ht1, hS, hk, hv, hb1⟩
      have HC : Cells (w1.alloc (.cells #[.string f.1, .int .i64 f.2.1.1, .slice A1 f.2.1.2.length c1, .slice B1 f.2.2.length d1] 35)) _ := (Cells.nil w1).box4 (Below.refl _ _)
      obtain ⟨h0, h1, h2, h3, _⟩ := HC.all
      go_wp2_with fail
      refine (DrawFeatPut_d B d m _ (Kd.C_below hm bl) hb' hc' (by omega)).mono ?_
      rintro e w2 ⟨f2, A2, c2, B2, d2, k2, v2, rfl, hp2, ht2, hS2, hk2, hv2, hb2⟩
      replace HC : Cells (w2.alloc (.cells #[.string f2.1, .int .i64 f2.2.1.1, .slice A2 f2.2.1.2.length c2, .slice B2 f2.2.2.length d2] 35)) _ := (HC.to hb2).box4 (Below.refl _ _)
      clear h0 h1 h2 h3
      obtain ⟨h0, h1, h2, h3, h4, h5, h6, h7, _⟩ := HC.all
      clear hp2 ht2 hS2
      have X1 := hS.ftx (by decide)
      obtain ⟨r, o0, hr⟩ : ∃ r o0, fput f key val = (r, o0) := ⟨_, _, rfl⟩
      obtain ⟨y, o1, hy⟩ : ∃ y o1, fput r k2 v2 = (y, o1) := ⟨_, _, rfl⟩
      obtain ⟨z, o2, hz⟩ : ∃ z o2, fput f k2 v2 = (z, o2) := ⟨_, _, rfl⟩
      obtain ⟨u, o3, hu⟩ : ∃ u o3, fput z key val = (u, o3) := ⟨_, _, rfl⟩
      have Xr : FTx r := by have := fput_ftx X1 (key := key) (val := val) (by omega) (by omega); rw [hr] at this; exact this
      have Xz : FTx z := by have := fput_ftx X1 (key := k2) (val := v2) (by omega) (by omega); rw [hz] at this; exact this
      have Xy : FTx y := by have := fput_ftx Xr (key := k2) (val := v2) (by omega) (by omega); rw [hy] at this; exact this
      have Xu : FTx u := by have := fput_ftx Xz (key := key) (val := val) (by omega) (by omega); rw [hu] at this; exact this
      have hall : o0 = false ∨ (o0 = true ∧ ((key = k2 ∧ y = z ∧ o1 = o2) ∨ (key ≠ k2 ∧ (o1 = false ∨ (o1 = true ∧ o2 = true ∧ o3 = true ∧ u = y))))) := by
        rcases put_cases f key val with ⟨e, _⟩ | ⟨ho, hor, e⟩
        · rw [e] at hr; injection hr with _ h2; exact .inl h2.symm
        · rw [e] at hr
          injection hr with h1 h2
          subst h1
          refine .inr ⟨h2.symm, ?_⟩
          by_cases hx : key = k2
          · subst hx
            rw [fput_same ho hor, hz] at hy
            injection hy with h3 h4
            exact .inl ⟨rfl, h3.symm, h4.symm⟩
          · refine .inr ⟨hx, ?_⟩
            rcases put_cases (fput0 f key val) k2 v2 with ⟨e2, _⟩ | ⟨_, hoy, e2⟩
            · rw [e2] at hy; injection hy with _ h4; exact .inl h4.symm
            · rw [e2] at hy
              injection hy with h3 h4
              obtain ⟨q1, q2, q3⟩ := fput_comm ho hor hx hoy
              rw [fput_yes ⟨ho, q1⟩] at hz
              injection hz with h5 h6
              rw [← h5, fput_yes ⟨q1, q2⟩] at hu
              injection hu with h7 h8
              exact .inr ⟨h4.symm, h6.symm, h8.symm, by rw [← h7, ← h3, q3]⟩
      have hI := fun w hl hm => iFeatPut_c f A1 c1 B1 d1 key val w hl hm X1 (by omega) (by omega)
      have hR := fun w hl hm => sFeatPut_c f A1 c1 B1 d1 key val w hl hm X1 (by omega) (by omega)
      have hY := fun A c B d w hl hm => iFeatPut_c r A c B d k2 v2 w hl hm Xr (by omega) (by omega)
      have hZ := fun w hl hm => iFeatPut_c f A1 c1 B1 d1 k2 v2 w hl hm X1 (by omega) (by omega)
      have hU := fun A c B d w hl hm => iFeatPut_c z A c B d key val w hl hm Xz (by omega) (by omega)
      rw [hr] at hI hR
      rw [hy] at hY
      rw [hz] at hZ
      rw [hu] at hU
      have HI := Lib.hid hI
      have HR := Lib.hid hR
      have HY := Lib.hid hY
      have HZ := Lib.hid hZ
      have HU := Lib.hid hU
      have Hall := Lib.hid hall
      have n1 := Xr.pts
      have n2 := Xr.tags
      have n3 := Xy.pts
      have n4 := Xy.tags
      clear hI hR hY hZ hU hr hy hz hu hall
      go_wp2_with fail
      refine (HI.out _ (Kd.C_below hp1.rd.2.2 bl) (Kd.C_below ht1.rd.2.2 bl)).mono ?_
      rintro e w3 ⟨A3, c3, B3, d3, rfl, hp3, ht3, hb3⟩
      replace HC : Cells (w3.alloc (.cells #[.string r.1, .int .i64 r.2.1.1, .slice A3 r.2.1.2.length c3, .slice B3 r.2.2.length d3] 35)) _ := (HC.to hb3).box4 (Below.refl _ _)
      clear h0 h1 h2 h3 h4 h5 h6 h7
      obtain ⟨h0, h1, h2, h3, h4, h5, h6, h7, h8, h9, h10, h11, _⟩ := HC.all
      go_wp2_with fail
      refine (HR.out _ (Kd.C_below hp1.rd.2.2 bl) (Kd.C_below ht1.rd.2.2 bl)).mono ?_
      rintro e w4 ⟨A4, c4, B4_, d4, rfl, hp4, ht4, hb4⟩
      replace HC : Cells (w4.alloc (.cells #[.string r.1, .int .i64 r.2.1.1, .slice A4 r.2.1.2.length c4, .slice B4_ r.2.2.length d4] 35)) _ := (HC.to hb4).box4 (Below.refl _ _)
      clear h0 h1 h2 h3 h4 h5 h6 h7 h8 h9 h10 h11
      obtain ⟨h0, h1, h2, h3, h4, h5, h6, h7, h8, h9, h10, h11, h12, h13, h14, h15, _⟩ := HC.all
      simp only [] at hp3 ht3 hp4 ht4
      rcases Hall.out with ho | ⟨ho, hrest⟩
      all_goals
        subst ho
        go_wp2_with fail
        refine (iFeatSame_c r r A3 c3 B3 d3 A4 c4 B4_ d4 _ (Kd.C_below hp3.rd.2.2 bl) (Kd.C_below ht3.rd.2.2 bl) (Kd.C_below hp4.rd.2.2 bl) (Kd.C_below ht4.rd.2.2 bl) n1 n2 n1 n2).mono ?_
        rintro e w5 ⟨rfl, hb5⟩
        rw [eqB_t.2 rfl]
        replace HC := HC.to hb5
        clear h0 h1 h2 h3 h4 h5 h6 h7 h8 h9 h10 h11 h12 h13 h14 h15
        obtain ⟨h0, h1, h2, h3, h4, h5, h6, h7, h8, h9, h10, h11, h12, h13, h14, h15, _⟩ := HC.all
      · go_wp2_with fail
        refine (iFeatSame_c r r A3 c3 B3 d3 A4 c4 B4_ d4 _ (Kd.C_below hp3.rd.2.2 bl) (Kd.C_below ht3.rd.2.2 bl) (Kd.C_below hp4.rd.2.2 bl) (Kd.C_below ht4.rd.2.2 bl) n1 n2 n1 n2).mono ?_
        rintro e w6 ⟨rfl, hb6⟩
        rw [eqB_t.2 rfl]
        go_wp2
        go_ret
        exact ⟨rfl, bl⟩
      · have Hrest := Lib.hid hrest
        clear hrest
        go_wp2_with fail
        refine (HY.out A3 c3 B3 d3 _ (Kd.C_below hp3.rd.2.2 bl) (Kd.C_below ht3.rd.2.2 bl)).mono ?_
        rintro e w6 ⟨A6, c6, B6, d6, rfl, hp6, ht6, hb6⟩
        replace HC : Cells (w6.alloc (.cells #[.string y.1, .int .i64 y.2.1.1, .slice A6 y.2.1.2.length c6, .slice B6 y.2.2.length d6] 35)) _ := (HC.to hb6).box4 (Below.refl _ _)
        clear h0 h1 h2 h3 h4 h5 h6 h7 h8 h9 h10 h11 h12 h13 h14 h15
        obtain ⟨h0, h1, h2, h3, h4, h5, h6, h7, h8, h9, h10, h11, h12, h13, h14, h15, h16, h17, h18, h19, _⟩ := HC.all
        go_wp2_with fail
        refine (HZ.out _ (Kd.C_below hp1.rd.2.2 bl) (Kd.C_below ht1.rd.2.2 bl)).mono ?_
        rintro e w7 ⟨A7, c7, B7, d7, rfl, hp7, ht7, hb7⟩
        replace HC : Cells (w7.alloc (.cells #[.string z.1, .int .i64 z.2.1.1, .slice A7 z.2.1.2.length c7, .slice B7 z.2.2.length d7] 35)) _ := (HC.to hb7).box4 (Below.refl _ _)
        clear h0 h1 h2 h3 h4 h5 h6 h7 h8 h9 h10 h11 h12 h13 h14 h15 h16 h17 h18 h19
        obtain ⟨h0, h1, h2, h3, h4, h5, h6, h7, h8, h9, h10, h11, h12, h13, h14, h15, h16, h17, h18, h19, h20, h21, h22, h23, _⟩ := HC.all
        simp only [] at hp6 ht6 hp7 ht7
        go_wp2_with fail
        refine (HU.out A7 c7 B7 d7 _ (Kd.C_below hp7.rd.2.2 bl) (Kd.C_below ht7.rd.2.2 bl)).mono ?_
        rintro e w8 ⟨A8, c8, B8, d8, rfl, hp8, ht8, hb8⟩
        replace HC : Cells (w8.alloc (.cells #[.string u.1, .int .i64 u.2.1.1, .slice A8 u.2.1.2.length c8, .slice B8 u.2.2.length d8] 35)) _ := (HC.to hb8).box4 (Below.refl _ _)
        clear h0 h1 h2 h3 h4 h5 h6 h7 h8 h9 h10 h11 h12 h13 h14 h15 h16 h17 h18 h19 h20 h21 h22 h23
        obtain ⟨h0, h1, h2, h3, h4, h5, h6, h7, h8, h9, h10, h11, h12, h13, h14, h15, h16, h17, h18, h19, h20, h21, h22, h23, h24, h25, h26, h27, _⟩ := HC.all
        simp only [] at hp8 ht8
        rcases Hrest.out with ⟨hx, hyz, h12⟩ | ⟨hx, h1 | ⟨h1, h2, h3, huy⟩⟩
        · have t9 := strB_t hx
          clear hx
          subst hyz
          subst h12
          cases o1
          · go_wp2
            go_ret
            exact ⟨rfl, bl⟩
          · go_wp2_with fail
            refine (iFeatSame_c y y A6 c6 B6 d6 A7 c7 B7 d7 _ (Kd.C_below hp6.rd.2.2 bl) (Kd.C_below ht6.rd.2.2 bl) (Kd.C_below hp7.rd.2.2 bl) (Kd.C_below ht7.rd.2.2 bl) n3 n4 n3 n4).mono ?_
            rintro e w9 ⟨rfl, hb9⟩
            rw [eqB_t.2 rfl]
            go_wp2
            go_ret
            exact ⟨rfl, bl⟩
        · have t9 := strB_f hx
          clear hx
          subst h1
          go_wp2
          go_ret
          exact ⟨rfl, bl⟩
        · have t9 := strB_f hx
          clear hx
          subst h1
          subst h2
          subst h3
          subst huy
          go_wp2_with fail
          refine (iFeatSame_c u u A6 c6 B6 d6 A8 c8 B8 d8 _ (Kd.C_below hp6.rd.2.2 bl) (Kd.C_below ht6.rd.2.2 bl) (Kd.C_below hp8.rd.2.2 bl) (Kd.C_below ht8.rd.2.2 bl) n3 n4 n3 n4).mono ?_
          rintro e w9 ⟨rfl, hb9⟩
          rw [eqB_t.2 rfl]
          go_wp2
          go_ret
          exact ⟨rfl, bl⟩
    · have hd2 : decide ((1048576 : Int) < (m.length : Int)) = true := decide_eq_true (by omega)
      go_enter Try.func12, Try.ntmps12
      go_wp2
      go_ret
      exact ⟨rfl, bl⟩
  · have hd : decide ((1048576 : Int) < (l.length : Int)) = true := decide_eq_true (by omega)
    go_enter Try.func12, Try.ntmps12
    go_wp2
    go_ret
    exact ⟨rfl, bl⟩
end Go.Proofs.Ytlebgjafaioajaa
