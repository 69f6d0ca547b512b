/- Contracts: what is drawn of a code: two things, two shapes, one or nearly. -/
import Derived.Test.YtfbhjknkofnohaaDoorDx
import Derived.Test.YtfbhjknkofnohaaDoorDu
namespace Go.Proofs.YtfbhjknkofnohaaDoor
open Go.RowKit Go.Proofs.YtfbhjknkofnohaaDoorW.PrintWords Go.Proofs.YtfbhjknkofnohaaDoorW.PrintLast
set_option maxRecDepth 100000
set_option linter.unusedVariables false
set_option linter.unusedSimpArgs false
attribute [local go_sem] cell_set_far cell_set_off
/-- Two things drawn of a code. -/
def CFeat2 (w : World) (e : Ending) (w' : World) : Prop := ∃ (f : FeatD) (A : Option Addr) (c : Nat) (B : Option Addr) (d : Nat) (g : FeatD) (A' : Option Addr) (c' : Nat) (B' : Option Addr) (d' : Nat), e = .returned (.tuple #[featV f A c B d, featV g A' c' B' d']) ∧ kPt.C w' A f.2.1.2.length f.2.1.2 ∧ kTag.C w' B f.2.2.length f.2.2 ∧ kPt.C w' A' g.2.1.2.length g.2.1.2 ∧ kTag.C w' B' g.2.2.length g.2.2 ∧ FSm 4 f ∧ FSm 5 g ∧ Below w.heap.size w w'
theorem RI_grown {α : Type} {d : Kd α} {e : Nat} {w w1 : World} {a b : Nat} {v : Value} {xs : List α} {row : Option Nat} (h : RI d e w a b v xs) (hg : w.grownBy w1 row) (hd : ∀ g, row = some g → g < a ∨ b ≤ g) : RI d e w1 a b v xs :=
  Kd.R_mono (Kd.R_grown (Kd.R_bound h) hg (fun k hk e => by have h1 := hk.1; have h2 := hk.2.1; have := hd k e.symm; omega)) (fun _ hk => hk.1)
/-- What is there behind both draws. -/
structure DFS (w : World) (f g : FeatD) (b1 b2 : Nat) (A : Option Addr) (c : Nat) (B : Option Addr) (d : Nat) (A' : Option Addr) (c' : Nat) (B' : Option Addr) (d' n : Nat) (m : List Tag) (W : World) : Prop where
  t1 : B4 W w.heap.size 47 (.string ⟨#[]⟩) (.int .i64 0) (.slice none 0 0) (.slice none 0 0)
  t2 : B4 W (w.heap.size + 1) 47 (.string ⟨#[]⟩) (.int .i64 0) (.slice none 0 0) (.slice none 0 0)
  x1 : B4 W b1 47 (.string f.1) (.int .i64 f.2.1.1) (.slice A f.2.1.2.length c) (.slice B f.2.2.length d)
  x2 : B4 W b2 47 (.string g.1) (.int .i64 g.2.1.1) (.slice A' g.2.1.2.length c') (.slice B' n d')
  p1 : kPt.R 58 W w.heap.size (fun _ => True) (.slice A f.2.1.2.length c) f.2.1.2
  q1 : RI kTag 75 W w.heap.size b1 (.slice B f.2.2.length d) f.2.2
  p2 : kPt.R 58 W w.heap.size (fun _ => True) (.slice A' g.2.1.2.length c') g.2.1.2
  q2 : kTag.R 75 W w.heap.size (fun _ => True) (.slice B' n d') m
  len : n = m.length
  lim : m.length ≤ 5
  txt : ∀ t ∈ m, t.1.size ≤ 10 ∧ t.2.size ≤ 10
  ne1 : w.heap.size + 1 < b1
  ne2 : w.heap.size + 1 < b2
  ne3 : b1 < b2
  bel : Below w.heap.size w W
/-! Two shapes. -/
def CShape2 (w : World) (e : Ending) (w' : World) : Prop := ∃ (K : Int) (A : Option Addr) (c : Nat) (p : List Pt) (K' : Int) (A' : Option Addr) (c' : Nat) (p' : List Pt), e = .returned (.tuple #[.agg #[.int .i64 K, .slice A p.length c], .agg #[.int .i64 K', .slice A' p'.length c']]) ∧ kPt.C w' A p.length p ∧ kPt.C w' A' p'.length p' ∧ p.length ≤ 16 ∧ p'.length ≤ 16 ∧ Below w.heap.size w w'
structure DSS (w : World) (b1 b2 : Nat) (K : Int) (A : Option Addr) (c : Nat) (p : List Pt) (K' : Int) (A' : Option Addr) (c' n : Nat) (p' : List Pt) (W : World) : Prop where
  t1 : B2 W w.heap.size 30 (.int .i64 0) (.slice none 0 0)
  t2 : B2 W (w.heap.size + 1) 30 (.int .i64 0) (.slice none 0 0)
  x1 : B2 W b1 30 (.int .i64 K) (.slice A p.length c)
  x2 : B2 W b2 30 (.int .i64 K') (.slice A' n c')
  p1 : RI kPt 58 W w.heap.size b1 (.slice A p.length c) p
  p2 : kPt.R 58 W w.heap.size (fun _ => True) (.slice A' n c') p'
  len : n = p'.length
  lim : p'.length ≤ 16
  ne1 : w.heap.size + 1 < b1
  ne2 : w.heap.size + 1 < b2
  ne3 : b1 < b2
  bel : Below w.heap.size w W
def s_DrawShapeSame_T4 : Bool × List (List Nat × List Nat) := (true, [([], []), ([0], [0]), ([], []), ([2], [2]), ([3], [3]), ([4], [4]), ([5], [5]), ([6], [6]), ([1, 0, 1, 2, 3, 4, 5, 6, 7], [1]), ([8, 0, 1, 2, 3, 4, 5, 6, 7], [8]), ([9, 7, 0, 1, 2, 3, 4, 5, 6, 7], [7, 9])])
theorem s_DrawShapeSame_t4 : rtab .any (opsOf Tryd.f23 4) = s_DrawShapeSame_T4 := by kernel_rfl
def s_DrawShapeSame_T5 : Bool × List (List Nat × List Nat) := (true, [([], []), ([], []), ([0, 0], [0]), ([1, 2, 0, 1, 2], [1])])
theorem s_DrawShapeSame_t5 : rtab .any (opsOf Tryd.f23 5) = s_DrawShapeSame_T5 := by kernel_rfl
set_option maxHeartbeats 4000000 in
theorem DrawShapeSame_d (A : Option Addr) (c : Nat) (l : List Int) (w : World) (hl : (Kd.int .u8).C w A l.length l) (hb : ∀ x ∈ l, 0 ≤ x ∧ x ≤ 255) (hc : l.length ≤ c) (hn : l.length ≤ 1048576) :
    Calls Tryd.prog 23 #[.slice A l.length c] w (CShape2 w) := by
  go_enter Tryd.func23, Tryd.ntmps23
  go_wp2_with fail
  refine (l12Open_d A c l _ (Kd.C_below hl bl) hb hc hn).mono ?_
  rintro e w1 ⟨b, rfl, R1, hb1, hB1⟩
  have s1 := hB1.size
  simp only [World.size_alloc] at s1 hb1
  go_wp2_with fail
  refine (l1Bent_d b 0 _ _ R1 (by omega)).mono ?_
  rintro e w2 ⟨K, A2, c2, p, rfl, hp2, hl2, _, hK0, hK4, R2, hx2⟩
  have s2 := hx2.1.size
  have hbl := R1.lt
  have T1 := (B2.new' (W := w1) w w.heap.size (.int .i64 0) (.slice none 0 0) 30).ex hx2 (Or.inl (by omega))
  have T2 := (B2.new' (W := w1) (w.alloc (.cells #[.int .i64 0, .slice none 0 0] 30)) (w.heap.size + 1) (.int .i64 0) (.slice none 0 0) 30).ex hx2 (Or.inl (by omega))
  have B_2 := hx2.bel (bl : Below w.heap.size w w1) (by omega)
  clear hx2 R1 hB1
  have Bc : Below w.heap.size w (w2.alloc (.cells #[.int .i64 K, .slice A2 p.length c2] 30)) := bl
  go_wp2_with fail
  refine (l12Open_d A c l _ (Kd.C_below hl Bc) hb hc hn).mono ?_
  rintro e w3 ⟨b', rfl, R3, hb3, hB3⟩
  have B23 : Below w2.heap.size w2 w3 := bl
  have s3 := hB3.size
  simp only [World.size_alloc] at s3 hb3
  go_wp2_with fail
  refine (l1Bent_d b' 0 _ _ R3 (by omega)).mono ?_
  rintro e w4 ⟨K', A4, c4, p', rfl, hp4, hl4, _, hK0', hK4', R4, hx4⟩
  have s4 := hx4.1.size
  have hbl3 := R3.lt
  have X2 := (B2.new' (W := w3) w2 w2.heap.size (.int .i64 K) (.slice A2 p.length c2) 30).ex hx4 (Or.inl (by omega))
  have Bd := hx4.bel (B_2.trans (B23.mono B_2.size)) (by omega)
  have r2 := ((hp2.below B23).ex hx4 (Or.inl (by omega))).wide (show w.heap.size ≤ w1.heap.size by omega) (Nat.le_refl _)
  have hown : ∀ k, (Value.slice A4 p'.length c4).ownBlock = some k → w2.heap.size < k := fun k hk => by have := Kd.R_base hp4 k hk; omega
  have a1 := below_alloc (Below.refl w4.heap.size w4) (.cells #[.int .i64 K', .slice A4 p'.length c4] 30)
  have S0 : DSS w w2.heap.size w4.heap.size K A2 c2 p K' A4 c4 p'.length p' (w4.alloc (.cells #[.int .i64 K', .slice A4 p'.length c4] 30)) :=
    ⟨((T1.to B23).ex hx4 (Or.inl (by omega))).to a1, ((T2.to B23).ex hx4 (Or.inl (by omega))).to a1, X2.to a1, B2.new w4, r2.below a1, Kd.R_below (hp4.up (by omega)) a1, rfl, by omega, by omega, by omega, by omega, Bd.trans (a1.mono Bd.size)⟩
  have Bf : Below w.heap.size w w4 := Bd
  clear T1 T2 X2 r2 hp2 hp4 R2 R3 R4 hx4 B23 Bc Bd B_2 hB3 a1
  go_upto_region 3 with (fail)
  go_cut [27] (fun q wc => ∃ t : Bool, q = .bool t ∧ Aside0 (t = true → 0 < p'.length) ∧ wc = w4.alloc (.cells #[.int .i64 K', .slice A4 p'.length c4] 30))
  case first =>
    rcases Nat.eq_zero_or_pos l.length with h0 | h0
    · have d1 : decide ((0 : Int) < (l.length : Int)) = false := decide_eq_false (by omega)
      go_wp2
      go_meet
      case rel => exact ⟨_, rfl, ⟨fun h => by cases h⟩, rfl⟩
    · have d1 : decide ((0 : Int) < (l.length : Int)) = true := decide_eq_true (by omega)
      obtain ⟨ad, x, rfl, hx, hxm⟩ := at_u8 hl 0 h0
      replace hx := pw_cell_below Bf hx
      rw [add_zero'] at hx
      go_wp2
      · go_meet
        case rel => exact ⟨_, rfl, ⟨fun h => by simpa using h⟩, rfl⟩
      · go_meet
        case rel => exact ⟨_, rfl, ⟨fun h => by cases h⟩, rfl⟩
  case rest =>
    obtain ⟨t, rfl, ⟨ht⟩, rfl⟩ := hcut
    generalize w4.alloc (.cells #[.int .i64 K', .slice A4 p'.length c4] 30) = w5 at *
    clear Bf
    go_upto_if 27 with (fail)
    go_cut [27] (fun q wc => ∃ (p3 : List Pt), Aside0 (DSS w w2.heap.size w4.heap.size K A2 c2 p K' A4 c4 p'.length p3 wc))
    case first =>
      obtain ⟨y0, y1, y2, y3, y4⟩ := S0.x2.f
      cases t
      case' false =>
        go_wp2
        go_meet
        case rel => exact ⟨_, ⟨S0⟩⟩
      have hpos := ht rfl
      obtain ⟨g, cap, hv, hg1, hg2, _⟩ := Kd.R_form S0.p2 hpos
      injection hv with v1 v2 v3
      subst v1
      have hgw := hown g rfl
      obtain ⟨ad, e9, e0, e1⟩ := at_Pt0 (Kd.R_reads' S0.p2).2.2 hpos
      cases e9
      have R5 := Kd.R_below S0.p2 (below_drew1 (Below.refl _ _))
      obtain ⟨u, v, d0, d1, f0, f1⟩ := own_Pt' S0.p2 0 hpos
      obtain ⟨y, hr5, hg5⟩ := set_PtX R5 0 hpos (IntKind.i64.wrap (p'[0].1 + 1))
      have n1 : (w.heap.size == g) = false := by
        have := Kd.R_ne S0.p2 S0.t1 (by decide)
        simp [Value.ownBlock] at this ⊢
        exact this
      have n2 : (w.heap.size + 1 == g) = false := by
        have := Kd.R_ne S0.p2 S0.t2 (by decide)
        simp [Value.ownBlock] at this ⊢
        exact this
      have n3 : (w2.heap.size == g) = false := by
        have := Kd.R_ne S0.p2 S0.x1 (by decide)
        simp [Value.ownBlock] at this ⊢
        exact this
      have n4 : (w4.heap.size == g) = false := by
        have := Kd.R_ne S0.p2 S0.x2 (by decide)
        simp [Value.ownBlock] at this ⊢
        exact this
      have bd := below_drew1 (Below.refl w5.heap.size w5)
      have S1 : DSS w w2.heap.size w4.heap.size K A2 c2 p K' (some ⟨g, 0, none⟩) c4 p'.length (p'.set 0 (IntKind.i64.wrap (p'[0].1 + 1), y)) (w5.drew.setCell ⟨g, 0, none⟩ (.int .i64 (IntKind.i64.wrap (p'[0].1 + 1)))) :=
        ⟨(S0.t1.to bd).far n1, (S0.t2.to bd).far n2, (S0.x1.to bd).far n3, (S0.x2.to bd).far n4, (S0.p1.below bd).far (Or.inr (by simp only []; omega)) _, hr5, by rw [List.length_set], by rw [List.length_set]; exact S0.lim, S0.ne1, S0.ne2, S0.ne3, (S0.bel.trans (bd.mono S0.bel.size)).setCell (by have := S0.ne1; simp only []; omega) _⟩
      have H1 := Lib.hid S1
      clear S1 hr5 hg5 R5 S0 n1 n2 n3 n4 bd
      go_wp2
      refine cgStart 11 [0, 1, 2, 3, 4, 5, 6, 7, 8, 9, 10] [10] [(⟨w4.heap.size, 1, none⟩, _), (⟨g, 0, none⟩, _)] s_DrawShapeSame_t4 ⟨y1, e0, trivial⟩ (fun HT HD => ?_)
      repeat ((with_reducible refine cgGate ?_); first | refine cgP HT ?_ | refine cgL HT ?_ | refine cgG HT ?_)
      refine cgLast HT (w1 := w5.drew.setCell ⟨g, 0, none⟩ (.int .i64 (IntKind.i64.wrap (p'[0].1 + 1)))) ?_
      refine cgDone HT ?_
      clear HT HD y0 y1 y2 y3 y4 e0 e1 d0 d1 f0 f1
      generalize w5.drew.setCell ⟨g, 0, none⟩ (.int .i64 (IntKind.i64.wrap (p'[0].1 + 1))) = w6 at *
      go_wp2
      go_meet
      case rel => exact ⟨_, ⟨H1.out⟩⟩
    case rest =>
      obtain ⟨p3, ⟨S1⟩⟩ := hcut
      clear S0 hown ht
      obtain ⟨y0, y1, y2, y3, y4⟩ := S1.x1.f
      obtain ⟨z0, z1, z2, z3, z4⟩ := S1.x2.f
      have n1 := S1.ne1
      have n2 := S1.ne2
      have T1 := S1.t1.to (below_drew1 (Below.refl _ _))
      have T2 := S1.t2.to (below_drew1 (Below.refl _ _))
      obtain ⟨i0, i1, i2, i3, i4⟩ := S1.t1.f
      obtain ⟨k0, k1, k2, k3, k4⟩ := S1.t2.f
      have P1 := Kd.R_mono (Kd.R_below S1.p1 (below_drew1 (Below.refl _ _))) (ok' := fun _ => True) (fun _ _ => trivial)
      have P2 := Kd.R_below S1.p2 (below_drew1 (Below.refl _ _))
      have Bz : Below w.heap.size w wc.drew := S1.bel.trans ((below_drew1 (Below.refl _ _)).mono S1.bel.size)
      have hsz := S1.bel.size
      have e3 := S1.len
      rw [e3] at z1 P2
      have L2 := S1.lim
      have hnw : (w.heap.size + 1 == w.heap.size) = false := by simp
      have hwn : (w.heap.size == w.heap.size + 1) = false := by simp
      clear S1 e3
      go_wp2
      refine cgStart 4 [0, 1, 2, 3] [3] [(⟨w2.heap.size, 0, none⟩, _), (⟨w2.heap.size, 1, none⟩, _), (⟨w4.heap.size, 0, none⟩, _), (⟨w4.heap.size, 1, none⟩, _)] s_DrawShapeSame_t5 ⟨y0, y1, z0, z1, trivial⟩ (fun HT HD => ?_)
      repeat ((with_reducible refine cgGate ?_); first | refine cgP HT ?_ | refine cgL HT ?_ | refine cgG HT ?_)
      refine cgSt HT (w1 := (wc.drew.setCell ⟨w.heap.size, 0, none⟩ (.int .i64 K)).setCell ⟨w.heap.size, 1, none⟩ (.slice A2 p.length c2)) ((HD.set _ _ _ (by simp only [List.all_cons, List.all_nil, Bool.and_true, Bool.and_eq_true, bne_iff_ne]; omega)).set _ _ _ (by simp only [List.all_cons, List.all_nil, Bool.and_true, Bool.and_eq_true, bne_iff_ne]; omega)) (fun HD3 => ?_)
      refine cgLast HT (w1 := (((wc.drew.setCell ⟨w.heap.size, 0, none⟩ (.int .i64 K)).setCell ⟨w.heap.size, 1, none⟩ (.slice A2 p.length c2)).setCell ⟨w.heap.size + 1, 0, none⟩ (.int .i64 K')).setCell ⟨w.heap.size + 1, 1, none⟩ (.slice A4 p3.length c4)) ?_
      refine cgDone HT ?_
      clear HT HD HD3 y0 y1 y2 y3 y4 z0 z1 z2 z3 z4
      have Q1 := Kd.R_set (Kd.R_set P1 T1 (by decide) 0 (.int .i64 K)) (T1.set0 (.int .i64 K)) (by decide) 1 (.slice A2 p.length c2)
      have Q2 := Kd.R_set (Kd.R_set P2 T1 (by decide) 0 (.int .i64 K)) (T1.set0 (.int .i64 K)) (by decide) 1 (.slice A2 p.length c2)
      have U2 := (T2.far (i := 0) (x := .int .i64 K) hnw).far (i := 1) (x := .slice A2 p.length c2) hnw
      have Q3 := (Kd.R_reads' (Kd.R_set (Kd.R_set Q1 U2 (by decide) 0 (.int .i64 K')) (U2.set0 (.int .i64 K')) (by decide) 1 (.slice A4 p3.length c4))).2.2
      have Q4 := (Kd.R_reads' (Kd.R_set (Kd.R_set Q2 U2 (by decide) 0 (.int .i64 K')) (U2.set0 (.int .i64 K')) (by decide) 1 (.slice A4 p3.length c4))).2.2
      have V1 := ((T1.set (.int .i64 K) (.slice A2 p.length c2)).far (i := 0) (x := .int .i64 K') hwn).far (i := 1) (x := .slice A4 p3.length c4) hwn
      have V2 := U2.set (.int .i64 K') (.slice A4 p3.length c4)
      have B8 := (((Bz.setCell (show w.heap.size ≤ (⟨w.heap.size, 0, none⟩ : Addr).block by simp) (.int .i64 K)).setCell (show w.heap.size ≤ (⟨w.heap.size, 1, none⟩ : Addr).block by simp) (.slice A2 p.length c2)).setCell (show w.heap.size ≤ (⟨w.heap.size + 1, 0, none⟩ : Addr).block by simp) (.int .i64 K')).setCell (show w.heap.size ≤ (⟨w.heap.size + 1, 1, none⟩ : Addr).block by simp) (.slice A4 p3.length c4)
      clear P1 P2 Q1 Q2 U2 T1 T2 Bz i0 i1 i2 i3 i4 k0 k1 k2 k3 k4
      generalize (((wc.drew.setCell ⟨w.heap.size, 0, none⟩ (.int .i64 K)).setCell ⟨w.heap.size, 1, none⟩ (.slice A2 p.length c2)).setCell ⟨w.heap.size + 1, 0, none⟩ (.int .i64 K')).setCell ⟨w.heap.size + 1, 1, none⟩ (.slice A4 p3.length c4) = W8 at *
      obtain ⟨i0, i1, i2, i3, i4⟩ := V1.f
      obtain ⟨k0, k1, k2, k3, k4⟩ := V2.f
      clear V1 V2 hnw hwn
      go_wp2
      refine bodyPost_ret (v := .tuple #[.agg #[.int .i64 K, .slice A2 p.length c2], .agg #[.int .i64 K', .slice A4 p3.length c4]]) (by simp [results, Tryd.results23, go_sem, *]) rfl ⟨K, A2, c2, p, K', A4, c4, p3, rfl, Q3, Q4, by omega, L2, B8⟩
end Go.Proofs.YtfbhjknkofnohaaDoor
