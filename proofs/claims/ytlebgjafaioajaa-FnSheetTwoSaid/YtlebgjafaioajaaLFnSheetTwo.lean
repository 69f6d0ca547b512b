/- Law: to a drawn map two things are put, in either order: the answers are one. -/
import Derived.Test.YtlebgjafaioajaaPs
import Derived.Test.YtlebgjafaioajaaSz
import Derived.Test.YtlebgjafaioajaaDy
import Derived.Test.YtlebgjafaioajaaLFeatOk
namespace Go.Proofs.Ytlebgjafaioajaa
open Go.RowKit Go.Proofs.YtlebgjafaioajaaW.PrintWords Go.Proofs.YtlebgjafaioajaaW.PrintLast
set_option maxRecDepth 100000
set_option linter.unusedVariables false
set_option linter.unusedSimpArgs false
set_option maxHeartbeats 8000000 in
theorem FnSheetTwo_c (A : Option Addr) (c : Nat) (l : List Int) (B : Option Addr) (d : Nat) (m : List Int) (w : World) (hl : (Kd.int .u8).C w A l.length l) (hn : (l.length : Int) ≤ 140737488351232) (hb : ∀ x ∈ l, 0 ≤ x ∧ x ≤ 255) (hc : l.length ≤ c) (hm : (Kd.int .u8).C w B m.length m) (hn' : (m.length : Int) ≤ 140737488351232) (hb' : ∀ x ∈ m, 0 ≤ x ∧ x ≤ 255) (hc' : m.length ≤ d) :
    Calls Try.prog 14 #[.slice A l.length c, .slice B m.length d] w fun e w' => e = .returned (.bool true) ∧ Below w.heap.size w w' := by
  by_cases hs : (l.length : Int) ≤ 1048576
  · have hd : decide ((1048576 : Int) < (l.length : Int)) = false := decide_eq_false (by omega)
    by_cases hs2 : (m.length : Int) ≤ 1048576
    · have hd2 : decide ((1048576 : Int) < (m.length : Int)) = false := decide_eq_false (by omega)
      go_enter Try.func14, Try.ntmps14
      go_wp2_with fail
      refine (DrawSheetPut_d A c l _ (Kd.C_below hl bl) hb hc (by omega)).mono ?_
      rintro e w1 ⟨s, D, e, f, A1, c1, B1, d1, rfl, hde, hCs, hsm, hlen, hp1, ht1, hpc, htd, hS, hb1⟩
      have HC : Cells (w1.alloc (.cells #[.string f.1, .int .i64 f.2.1.1, .slice A1 f.2.1.2.length c1, .slice B1 f.2.2.length d1] 35)) _ := (Cells.nil w1).box4 (Below.refl _ _)
      obtain ⟨h0, h1, h2, h3, _⟩ := HC.all
      go_wp2_with fail
      refine (DrawSheetPut_d B d m _ (Kd.C_below hm bl) hb' hc' (by omega)).mono ?_
      rintro e w2 ⟨s2, D2, e2, g, A2, c2, B2, d2, rfl, hde2, hCs2, hsm2, hlen2, hp2, ht2, hpc2, htd2, hS2, hb2⟩
      replace HC : Cells (w2.alloc (.cells #[.string g.1, .int .i64 g.2.1.1, .slice A2 g.2.1.2.length c2, .slice B2 g.2.2.length d2] 35)) _ := (HC.to hb2).box4 (Below.refl _ _)
      clear h0 h1 h2 h3
      obtain ⟨h0, h1, h2, h3, h4, h5, h6, h7, _⟩ := HC.all
      clear hCs2 hsm2 hlen2 hde2
      have X1 : ∀ f ∈ s, FTx f := fun f hf => (hsm f hf).ftx (by decide)
      have F1 : Few s := few_of X1 (by omega)
      have Xf := hS.ftx (by decide)
      have Xg := hS2.ftx (by decide)
      obtain ⟨x, o0, hr⟩ : ∃ x o0, sput s f = (x, o0) := ⟨_, _, rfl⟩
      obtain ⟨y, o1, hy⟩ : ∃ y o1, sput x g = (y, o1) := ⟨_, _, rfl⟩
      obtain ⟨z, o2, hz⟩ : ∃ z o2, sput s g = (z, o2) := ⟨_, _, rfl⟩
      obtain ⟨u, o3, hu⟩ : ∃ u o3, sput z f = (u, o3) := ⟨_, _, rfl⟩
      have Xx : ∀ f ∈ x, FTx f := by have := sput_ftx X1 Xf; rw [hr] at this; exact this
      have Xz : ∀ f ∈ z, FTx f := by have := sput_ftx X1 Xg; rw [hz] at this; exact this
      have Xy : ∀ f ∈ y, FTx f := by have := sput_ftx Xx Xg; rw [hy] at this; exact this
      have Xu : ∀ f ∈ u, FTx f := by have := sput_ftx Xz Xf; rw [hu] at this; exact this
      have lx : x.length ≤ 8 := by have := sput_len (l := s) (f := f); rw [hr] at this; exact this
      have lz : z.length ≤ 8 := by have := sput_len (l := s) (f := g); rw [hz] at this; exact this
      have ly : y.length ≤ 8 := by have := sput_len (l := x) (f := g); rw [hy] at this; exact this
      have lu : u.length ≤ 8 := by have := sput_len (l := z) (f := f); rw [hu] at this; exact this
      have Fx := few_of Xx (by omega)
      have Fy := few_of Xy (by omega)
      have Fz := few_of Xz (by omega)
      have Fu := few_of Xu (by omega)
      have hall : o0 = false ∨ (o0 = true ∧ ((f.1 = g.1 ∧ y = z ∧ o1 = o2) ∨ (f.1 ≠ g.1 ∧ (o1 = false ∨ (o1 = true ∧ o2 = true ∧ o3 = true ∧ u = y))))) := by
        rcases putS_cases s f with e | ⟨ho, hof, h8, e⟩
        · rw [e] at hr; injection hr with _ h2; exact .inl h2.symm
        · rw [e] at hr
          injection hr with h1 h2
          subst h1
          refine .inr ⟨h2.symm, ?_⟩
          by_cases hx : f.1 = g.1
          · rw [sput_same ho hof h8 hx, hz] at hy
            injection hy with h3 h4
            exact .inl ⟨hx, h3.symm, h4.symm⟩
          · refine .inr ⟨hx, ?_⟩
            rcases putS_cases (putK s f) g with e2 | ⟨_, hog, h82, e2⟩
            · rw [e2] at hy; injection hy with _ h4; exact .inl h4.symm
            · rw [e2] at hy
              injection hy with h3 h4
              obtain ⟨q1, q2⟩ := sput_comm ho hof h8 hx hog h82
              rw [q1] at hz
              injection hz with h5 h6
              rw [← h5, q2] at hu
              injection hu with h7 h8
              exact .inr ⟨h4.symm, h6.symm, h8.symm, by rw [← h7, ← h3]⟩
      have hI := fun w hl hp ht => iSheetPut_c D e s f A1 c1 B1 d1 w hl F1 X1 hp ht hpc htd Xf
      have hR := fun w hl hp ht => sSheetPut_c D e s f A1 c1 B1 d1 w hl F1 X1 hp ht hpc htd Xf
      have hY := fun A c w hl hp ht => iSheetPut_c A c x g A2 c2 B2 d2 w hl Fx Xx hp ht hpc2 htd2 Xg
      have hZ := fun w hl hp ht => iSheetPut_c D e s g A2 c2 B2 d2 w hl F1 X1 hp ht hpc2 htd2 Xg
      have hU := fun A c w hl hp ht => iSheetPut_c A c z f A1 c1 B1 d1 w hl Fz Xz hp ht hpc htd Xf
      rw [hr] at hI hR
      rw [hy] at hY
      rw [hz] at hZ
      rw [hu] at hU
      have HI := Lib.hid hI
      have HR := Lib.hid hR
      have HY := Lib.hid hY
      have HZ := Lib.hid hZ
      have HU := Lib.hid hU
      have Hall := Lib.hid hall
      clear hI hR hY hZ hU hr hy hz hu hall
      go_wp2_with fail
      refine (HI.out _ (Kd.C_below hCs bl) (Kd.C_below hp1 bl) (Kd.C_below ht1 bl)).mono ?_
      rintro e w3 ⟨A3, c3, rfl, hS3, hb3⟩
      have C3 := hS3.C.2.2
      replace HC := HC.to hb3
      clear h0 h1 h2 h3 h4 h5 h6 h7
      obtain ⟨h0, h1, h2, h3, h4, h5, h6, h7, _⟩ := HC.all
      go_wp2_with fail
      refine (HR.out _ (Kd.C_below hCs bl) (Kd.C_below hp1 bl) (Kd.C_below ht1 bl)).mono ?_
      rintro e w4 ⟨A4, c4, rfl, hS4, hb4⟩
      have C4 := hS4.C.2.2
      replace HC := HC.to hb4
      clear h0 h1 h2 h3 h4 h5 h6 h7
      obtain ⟨h0, h1, h2, h3, h4, h5, h6, h7, _⟩ := HC.all
      clear hS3 hS4
      simp only [] at C3 C4
      rcases Hall.out with ho | ⟨ho, hrest⟩
      all_goals
        subst ho
        go_wp2_with fail
        refine (iSheetSame_c A3 A4 c3 c4 x x _ (Kd.C_below C3 bl) (Kd.C_below C4 bl) Fx Fx).mono ?_
        rintro e w5 ⟨rfl, hb5⟩
        rw [eqB_t.2 rfl]
        replace HC := HC.to hb5
        clear h0 h1 h2 h3 h4 h5 h6 h7
        obtain ⟨h0, h1, h2, h3, h4, h5, h6, h7, _⟩ := HC.all
      · go_wp2_with fail
        refine (iSheetSame_c A3 A4 c3 c4 x x _ (Kd.C_below C3 bl) (Kd.C_below C4 bl) Fx Fx).mono ?_
        rintro e w6 ⟨rfl, hb6⟩
        rw [eqB_t.2 rfl]
        go_wp2
        go_ret
        exact ⟨rfl, bl⟩
      · have Hrest := Lib.hid hrest
        clear hrest
        go_wp2_with fail
        refine (HY.out A3 c3 _ (Kd.C_below C3 bl) (Kd.C_below hp2 bl) (Kd.C_below ht2 bl)).mono ?_
        rintro e w6 ⟨A6, c6, rfl, hS6, hb6⟩
        have C6 := hS6.C.2.2
        replace HC := HC.to hb6
        clear h0 h1 h2 h3 h4 h5 h6 h7
        obtain ⟨h0, h1, h2, h3, h4, h5, h6, h7, _⟩ := HC.all
        go_wp2_with fail
        refine (HZ.out _ (Kd.C_below hCs bl) (Kd.C_below hp2 bl) (Kd.C_below ht2 bl)).mono ?_
        rintro e w7 ⟨A7, c7, rfl, hS7, hb7⟩
        have C7 := hS7.C.2.2
        replace HC := HC.to hb7
        clear h0 h1 h2 h3 h4 h5 h6 h7
        obtain ⟨h0, h1, h2, h3, h4, h5, h6, h7, _⟩ := HC.all
        simp only [] at C6 C7
        go_wp2_with fail
        refine (HU.out A7 c7 _ (Kd.C_below C7 bl) (Kd.C_below hp1 bl) (Kd.C_below ht1 bl)).mono ?_
        rintro e w8 ⟨A8, c8, rfl, hS8, hb8⟩
        have C8 := hS8.C.2.2
        replace HC := HC.to hb8
        clear h0 h1 h2 h3 h4 h5 h6 h7
        obtain ⟨h0, h1, h2, h3, h4, h5, h6, h7, _⟩ := HC.all
        simp only [] at C8
        clear hS6 hS7 hS8
        rcases Hrest.out with ⟨hx, hyz, h12⟩ | ⟨hx, h1 | ⟨h1, h2, h3, huy⟩⟩
        · have t9 := strB_t hx
          clear hx
          subst hyz
          subst h12
          cases o1
          · go_wp2
            go_ret
            exact ⟨rfl, bl⟩
          · go_wp2_with fail
            refine (iSheetSame_c A6 A7 c6 c7 y y _ (Kd.C_below C6 bl) (Kd.C_below C7 bl) Fy Fy).mono ?_
            rintro e w9 ⟨rfl, hb9⟩
            rw [eqB_t.2 rfl]
            go_wp2
            go_ret
            exact ⟨rfl, bl⟩
        · have t9 := strB_f hx
          clear hx
          subst h1
          go_wp2
          go_ret
          exact ⟨rfl, bl⟩
        · have t9 := strB_f hx
          clear hx
          subst h1
          subst h2
          subst h3
          subst huy
          go_wp2_with fail
          refine (iSheetSame_c A6 A8 c6 c8 u u _ (Kd.C_below C6 bl) (Kd.C_below C8 bl) Fu Fu).mono ?_
          rintro e w9 ⟨rfl, hb9⟩
          rw [eqB_t.2 rfl]
          go_wp2
          go_ret
          exact ⟨rfl, bl⟩
    · have hd2 : decide ((1048576 : Int) < (m.length : Int)) = true := decide_eq_true (by omega)
      go_enter Try.func14, Try.ntmps14
      go_wp2
      go_ret
      exact ⟨rfl, bl⟩
  · have hd : decide ((1048576 : Int) < (l.length : Int)) = true := decide_eq_true (by omega)
    go_enter Try.func14, Try.ntmps14
    go_wp2
    go_ret
    exact ⟨rfl, bl⟩
end Go.Proofs.Ytlebgjafaioajaa
