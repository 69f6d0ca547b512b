/- Contracts: what is drawn of a code: two things, two shapes, one or nearly. -/
import Derived.Test.YtgdgnlpohnpgiaaGreatDoorDx
import Derived.Test.YtgdgnlpohnpgiaaGreatDoorDu
namespace Go.Proofs.YtgdgnlpohnpgiaaGreatDoor
open Go.RowKit Go.Proofs.YtgdgnlpohnpgiaaGreatDoorW.PrintWords Go.Proofs.YtgdgnlpohnpgiaaGreatDoorW.PrintLast
set_option maxRecDepth 100000
set_option linter.unusedVariables false
set_option linter.unusedSimpArgs false
attribute [local go_sem] cell_set_far cell_set_off
/-- Two things drawn of a code. -/
def CFeat2 (w : World) (e : Ending) (w' : World) : Prop := ∃ (f : FeatD) (A : Option Addr) (c : Nat) (B : Option Addr) (d : Nat) (g : FeatD) (A' : Option Addr) (c' : Nat) (B' : Option Addr) (d' : Nat), e = .returned (.tuple #[featV f A c B d, featV g A' c' B' d']) ∧ kPt.C w' A f.2.1.2.length f.2.1.2 ∧ kTag.C w' B f.2.2.length f.2.2 ∧ kPt.C w' A' g.2.1.2.length g.2.1.2 ∧ kTag.C w' B' g.2.2.length g.2.2 ∧ FSm 4 f ∧ FSm 5 g ∧ Below w.heap.size w w'
theorem RI_grown {α : Type} {d : Kd α} {e : Nat} {w w1 : World} {a b : Nat} {v : Value} {xs : List α} {row : Option Nat} (h : RI d e w a b v xs) (hg : w.grownBy w1 row) (hd : ∀ g, row = some g → g < a ∨ b ≤ g) : RI d e w1 a b v xs :=
  Kd.R_mono (Kd.R_grown (Kd.R_bound h) hg (fun k hk e => by have h1 := hk.1; have h2 := hk.2.1; have := hd k e.symm; omega)) (fun _ hk => hk.1)
/-- What is there behind both draws. -/
structure DFS (w : World) (f g : FeatD) (b1 b2 : Nat) (A : Option Addr) (c : Nat) (B : Option Addr) (d : Nat) (A' : Option Addr) (c' : Nat) (B' : Option Addr) (d' n : Nat) (m : List Tag) (W : World) : Prop where
  t1 : B4 W w.heap.size 28 (.string ⟨#[]⟩) (.int .i64 0) (.slice none 0 0) (.slice none 0 0)
  t2 : B4 W (w.heap.size + 1) 28 (.string ⟨#[]⟩) (.int .i64 0) (.slice none 0 0) (.slice none 0 0)
  x1 : B4 W b1 28 (.string f.1) (.int .i64 f.2.1.1) (.slice A f.2.1.2.length c) (.slice B f.2.2.length d)
  x2 : B4 W b2 28 (.string g.1) (.int .i64 g.2.1.1) (.slice A' g.2.1.2.length c') (.slice B' n d')
  p1 : kPt.R 84 W w.heap.size (fun _ => True) (.slice A f.2.1.2.length c) f.2.1.2
  q1 : RI kTag 54 W w.heap.size b1 (.slice B f.2.2.length d) f.2.2
  p2 : kPt.R 84 W w.heap.size (fun _ => True) (.slice A' g.2.1.2.length c') g.2.1.2
  q2 : kTag.R 54 W w.heap.size (fun _ => True) (.slice B' n d') m
  len : n = m.length
  lim : m.length ≤ 5
  txt : ∀ t ∈ m, t.1.size ≤ 10 ∧ t.2.size ≤ 10
  ne1 : w.heap.size + 1 < b1
  ne2 : w.heap.size + 1 < b2
  ne3 : b1 < b2
  bel : Below w.heap.size w W
def s_DrawFeatSame_T5 : Bool × List (List Nat × List Nat) := (true, [([], []), ([], []), ([0, 0], [0]), ([1, 2, 0, 1, 2], [1])])
theorem s_DrawFeatSame_t5 : rtab .any (opsOf Tryz.f15 5) = s_DrawFeatSame_T5 := by kernel_rfl
set_option maxHeartbeats 4000000 in
theorem DrawFeatSame_d (A : Option Addr) (c : Nat) (l : List Int) (w : World) (hl : (Kd.int .u8).C w A l.length l) (hb : ∀ x ∈ l, 0 ≤ x ∧ x ≤ 255) (hc : l.length ≤ c) (hn : l.length ≤ 1048576) :
    Calls Tryz.prog 15 #[.slice A l.length c] w (CFeat2 w) := by
  go_enter Tryz.func15, Tryz.ntmps15
  go_wp2_with fail
  refine (l12Open_d A c l _ (Kd.C_below hl bl) hb hc hn).mono ?_
  rintro e w1 ⟨b, rfl, R1, hb1, hB1⟩
  have s1 := hB1.size
  simp only [World.size_alloc] at s1 hb1
  go_wp2_with fail
  refine (l2Bent_d b 0 _ _ R1 (by omega)).mono ?_
  rintro e w2 ⟨f, A2, c2, B2, d2, rfl, hp2, ht2, hS2, R2, hx2⟩
  have s2 := hx2.1.size
  have hbl := R1.lt
  have T1 := (B4.new' (W := w1) w w.heap.size (.string ⟨#[]⟩) (.int .i64 0) (.slice none 0 0) (.slice none 0 0) 28).exb hx2 (Or.inl (by omega))
  have T2 := (B4.new' (W := w1) (w.alloc (.cells #[.string ⟨#[]⟩, .int .i64 0, .slice none 0 0, .slice none 0 0] 28)) (w.heap.size + 1) (.string ⟨#[]⟩) (.int .i64 0) (.slice none 0 0) (.slice none 0 0) 28).exb hx2 (Or.inl (by omega))
  have B_2 := hx2.bel (bl : Below w.heap.size w w1) (by omega)
  clear hx2 R1 hB1
  have Bc : Below w.heap.size w (w2.alloc (.cells #[.string f.1, .int .i64 f.2.1.1, .slice A2 f.2.1.2.length c2, .slice B2 f.2.2.length d2] 28)) := bl
  go_wp2_with fail
  refine (l12Open_d A c l _ (Kd.C_below hl Bc) hb hc hn).mono ?_
  rintro e w3 ⟨b', rfl, R3, hb3, hB3⟩
  have B23 : Below w2.heap.size w2 w3 := bl
  have s3 := hB3.size
  simp only [World.size_alloc] at s3 hb3
  go_wp2_with fail
  refine (l2Bent_d b' 0 _ _ R3 (by omega)).mono ?_
  rintro e w4 ⟨g, A4, c4, B4_, d4, rfl, hp4, ht4, hS4, R4, hx4⟩
  have s4 := hx4.1.size
  have hbl3 := R3.lt
  have X2 := (B4.new' (W := w3) w2 w2.heap.size (.string f.1) (.int .i64 f.2.1.1) (.slice A2 f.2.1.2.length c2) (.slice B2 f.2.2.length d2) 28).exb hx4 (Or.inl (by omega))
  have Bd := hx4.bel (B_2.trans (B23.mono B_2.size)) (by omega)
  have r2 := ((hp2.below B23).ex hx4 (Or.inl (by omega))).up (b := w.heap.size) (by omega)
  have q2 := ((ht2.below B23).ex hx4 (Or.inl (by omega))).wide (show w.heap.size ≤ w1.heap.size by omega) (Nat.le_refl _)
  have hown : ∀ k, (Value.slice B4_ g.2.2.length d4).ownBlock = some k → w2.heap.size < k := fun k hk => by have := Kd.R_base ht4 k hk; omega
  have a1 := below_alloc (Below.refl w4.heap.size w4) (.cells #[.string g.1, .int .i64 g.2.1.1, .slice A4 g.2.1.2.length c4, .slice B4_ g.2.2.length d4] 28)
  have S0 : DFS w f g w2.heap.size w4.heap.size A2 c2 B2 d2 A4 c4 B4_ d4 g.2.2.length g.2.2 (w4.alloc (.cells #[.string g.1, .int .i64 g.2.1.1, .slice A4 g.2.1.2.length c4, .slice B4_ g.2.2.length d4] 28)) :=
    ⟨((T1.to B23).exb hx4 (Or.inl (by omega))).to a1, ((T2.to B23).exb hx4 (Or.inl (by omega))).to a1, X2.to a1, B4.new w4 _ _ _ _ _, Kd.R_below r2 a1, q2.below a1, Kd.R_below (hp4.up (by omega)) a1, Kd.R_below (ht4.up (by omega)) a1, rfl, Nat.le_succ_of_le hS4.tags, hS4.txt, by omega, by omega, by omega, Bd.trans (a1.mono Bd.size)⟩
  have Bf : Below w.heap.size w w4 := Bd
  clear T1 T2 X2 r2 q2 hp2 ht2 hp4 ht4 R2 R3 R4 hx4 B23 Bc Bd B_2 hB3 a1
  go_upto_region 3 with (fail)
  go_cut [21] (fun q wc => ∃ t : Bool, q = .bool t ∧ wc = w4.alloc (.cells #[.string g.1, .int .i64 g.2.1.1, .slice A4 g.2.1.2.length c4, .slice B4_ g.2.2.length d4] 28))
  case first =>
    rcases Nat.eq_zero_or_pos l.length with h0 | h0
    · have d1 : decide ((0 : Int) < (l.length : Int)) = false := decide_eq_false (by omega)
      go_wp2
      go_meet
      case rel => exact ⟨_, rfl, rfl⟩
    · have d1 : decide ((0 : Int) < (l.length : Int)) = true := decide_eq_true (by omega)
      obtain ⟨ad, x, rfl, hx, hxm⟩ := at_u8 hl 0 h0
      replace hx := pw_cell_below Bf hx
      rw [add_zero'] at hx
      go_wp2
      go_meet
      case rel => exact ⟨_, rfl, rfl⟩
  case rest =>
    obtain ⟨t, rfl, rfl⟩ := hcut
    generalize w4.alloc (.cells #[.string g.1, .int .i64 g.2.1.1, .slice A4 g.2.1.2.length c4, .slice B4_ g.2.2.length d4] 28) = w5 at *
    clear Bf
    go_upto_if 21 with (fail)
    go_cut [21] (fun q wc => ∃ (n : Nat) (m : List Tag) (B' : Option Addr) (d' : Nat), Aside0 (DFS w f g w2.heap.size w4.heap.size A2 c2 B2 d2 A4 c4 B' d' n m wc))
    case first =>
      obtain ⟨y0, y1, y2, y3⟩ := S0.x2.c
      obtain ⟨z0, z1, z2, z3⟩ := S0.x2.z
      cases t
      case' false =>
        go_wp2
        go_meet
        case rel => exact ⟨_, _, _, _, ⟨S0⟩⟩
      have L4 := hS4.tags
      have e1 : (g.2.2 ++ [((⟨#[122, 122]⟩, ⟨#[122, 122]⟩) : Tag)]).length = g.2.2.length + 1 := List.length_append
      have E1 := Lib.hid e1
      clear e1
      have HS := Lib.hid S0
      clear S0
      go_wp2_with (at_builtin; refine appOne (d := kTag) (w0 := w5) (base := w.heap.size) 26 54 z0Tag 32 Tryz.underlying26 info_Tag rfl (by decide) (by omega) (.tmp 23) (.tmp 25) _ g.2.2 ((⟨#[122, 122]⟩, ⟨#[122, 122]⟩) : Tag) [.string ⟨#[122, 122]⟩, .string ⟨#[122, 122]⟩] (kTag_mkM _ _ _ ((⟨#[122, 122]⟩, ⟨#[122, 122]⟩) : Tag)) HS.out.q2 (Below.refl _ _) HS.out.bel.size (by omega) ?_; intro B9 d9 w6 ho6 hb6 hg6; rw [E1.out] at ho6 ⊢; have V2 := HS.out.x2.grown hg6 (Kd.R_ne HS.out.q2 HS.out.x2 (by decide)); clear y0 y1 y2 y3 z0 z1 z2 z3; obtain ⟨y0, y1, y2, y3⟩ := V2.c; obtain ⟨z0, z1, z2, z3⟩ := V2.z)
      go_meet
      case rel =>
        have hne : ∀ b, b < w4.heap.size → (b == w4.heap.size) = false := fun b h => by simp; omega
        have n1 := HS.out.ne1
        have n2 := HS.out.ne2
        have n3 := HS.out.ne3
        have Q := HS.out.q2
        have V1 := HS.out.t1.grown hg6 (Kd.R_ne Q HS.out.t1 (by decide))
        have V3 := HS.out.t2.grown hg6 (Kd.R_ne Q HS.out.t2 (by decide))
        have V4 := HS.out.x1.grown hg6 (Kd.R_ne Q HS.out.x1 (by decide))
        have r1 := R_grownT HS.out.p1 Q (by decide) hg6
        have r3 := R_grownT HS.out.p2 Q (by decide) hg6
        have q1 := RI_grown HS.out.q1 hg6 (fun k hk => .inr (by have := hown k hk; omega))
        have hbs := fun k hk => Kd.R_base Q k hk
        refine ⟨g.2.2.length + 1, g.2.2 ++ [((⟨#[122, 122]⟩, ⟨#[122, 122]⟩) : Tag)], B9, d9, ⟨⟨V1.far (by simp; omega), V3.far (by simp; omega), V4.far (by simp; omega), V2.set3 _, Kd.R_set r1 V2 (by decide) 3 _, q1.far (Or.inr (by simp only []; omega)) _, Kd.R_set r3 V2 (by decide) 3 _, Kd.R_set ho6 V2 (by decide) 3 _, E1.out.symm, by rw [E1.out]; omega, fun t ht => ?_, n1, n2, n3, (HS.out.bel.grown hg6 HS.out.bel.size hbs).setCell (show w.heap.size ≤ w4.heap.size by omega) _⟩⟩⟩
        rcases List.mem_append.1 ht with h | h
        · exact HS.out.txt t h
        · rw [List.mem_singleton.1 h]
          exact ⟨show (⟨#[122, 122]⟩ : ByteArray).size ≤ 10 by decide, show (⟨#[122, 122]⟩ : ByteArray).size ≤ 10 by decide⟩
    case rest =>
      obtain ⟨n, m, B', d', ⟨S1⟩⟩ := hcut
      clear S0 hown
      obtain ⟨y0, y1, y2, y3⟩ := S1.x1.c
      obtain ⟨z0, z1, z2, z3⟩ := S1.x2.c
      have n1 := S1.ne1
      have n2 := S1.ne2
      have T1 := S1.t1.to (below_drew1 (Below.refl _ _))
      have T2 := S1.t2.to (below_drew1 (Below.refl _ _))
      obtain ⟨i0, i1, i2, i3⟩ := S1.t1.c
      obtain ⟨j0, j1, j2, j3⟩ := S1.t1.z
      obtain ⟨k0, k1, k2, k3⟩ := S1.t2.c
      obtain ⟨l0, l1, l2, l3⟩ := S1.t2.z
      have P1 := Kd.R_below S1.p1 (below_drew1 (Below.refl _ _))
      have Q1 := Kd.R_mono (Kd.R_below S1.q1 (below_drew1 (Below.refl _ _))) (ok' := fun _ => True) (fun _ _ => trivial)
      have P2 := Kd.R_below S1.p2 (below_drew1 (Below.refl _ _))
      have Q2 := Kd.R_below S1.q2 (below_drew1 (Below.refl _ _))
      have Bz : Below w.heap.size w wc.drew := S1.bel.trans ((below_drew1 (Below.refl _ _)).mono S1.bel.size)
      have hsz := S1.bel.size
      obtain rfl := S1.len
      have L2 := S1.lim
      have L3 := S1.txt
      have hnw : (w.heap.size + 1 == w.heap.size) = false := by simp
      have hwn : (w.heap.size == w.heap.size + 1) = false := by simp
      clear S1
      go_wp2
      refine cgStart 4 [0, 1, 2, 3] [3] [(⟨w2.heap.size, 0, none⟩, _), (⟨w2.heap.size, 1, none⟩, _), (⟨w2.heap.size, 2, none⟩, _), (⟨w2.heap.size, 3, none⟩, _), (⟨w4.heap.size, 0, none⟩, _), (⟨w4.heap.size, 1, none⟩, _), (⟨w4.heap.size, 2, none⟩, _), (⟨w4.heap.size, 3, none⟩, _)] s_DrawFeatSame_t5 ⟨y0, y1, y2, y3, z0, z1, z2, z3, trivial⟩ (fun HT HD => ?_)
      repeat ((with_reducible refine cgGate ?_); first | refine cgP HT ?_ | refine cgL HT ?_ | refine cgG HT ?_)
      refine cgSt HT (w1 := (((wc.drew.setCell ⟨w.heap.size, 0, none⟩ (.string f.1)).setCell ⟨w.heap.size, 1, none⟩ (.int .i64 f.2.1.1)).setCell ⟨w.heap.size, 2, none⟩ (.slice A2 f.2.1.2.length c2)).setCell ⟨w.heap.size, 3, none⟩ (.slice B2 f.2.2.length d2)) ((((HD.set _ _ _ (by simp only [List.all_cons, List.all_nil, Bool.and_true, Bool.and_eq_true, bne_iff_ne]; omega)).set _ _ _ (by simp only [List.all_cons, List.all_nil, Bool.and_true, Bool.and_eq_true, bne_iff_ne]; omega)).set _ _ _ (by simp only [List.all_cons, List.all_nil, Bool.and_true, Bool.and_eq_true, bne_iff_ne]; omega)).set _ _ _ (by simp only [List.all_cons, List.all_nil, Bool.and_true, Bool.and_eq_true, bne_iff_ne]; omega)) (fun HD3 => ?_)
      refine cgLast HT (w1 := ((((((((wc.drew.setCell ⟨w.heap.size, 0, none⟩ (.string f.1)).setCell ⟨w.heap.size, 1, none⟩ (.int .i64 f.2.1.1)).setCell ⟨w.heap.size, 2, none⟩ (.slice A2 f.2.1.2.length c2)).setCell ⟨w.heap.size, 3, none⟩ (.slice B2 f.2.2.length d2)).setCell ⟨w.heap.size + 1, 0, none⟩ (.string g.1)).setCell ⟨w.heap.size + 1, 1, none⟩ (.int .i64 g.2.1.1)).setCell ⟨w.heap.size + 1, 2, none⟩ (.slice A4 g.2.1.2.length c4)).setCell ⟨w.heap.size + 1, 3, none⟩ (.slice B' m.length d'))) ?_
      refine cgDone HT ?_
      clear HT HD HD3 y0 y1 y2 y3 z0 z1 z2 z3
      have U2 := (((T2.far (i := 0) (x := .string f.1) hnw).far (i := 1) (x := .int .i64 f.2.1.1) hnw).far (i := 2) (x := .slice A2 f.2.1.2.length c2) hnw).far (i := 3) (x := .slice B2 f.2.2.length d2) hnw
      have H := Lib.hid (show kPt.C _ A2 f.2.1.2.length f.2.1.2 ∧ kTag.C _ B2 f.2.2.length f.2.2 ∧ kPt.C _ A4 g.2.1.2.length g.2.1.2 ∧ kTag.C _ B' m.length m from
        ⟨(Kd.R_reads' (U2.R (T1.R P1 (by decide) (.string f.1) (.int .i64 f.2.1.1) (.slice A2 f.2.1.2.length c2) (.slice B2 f.2.2.length d2)) (by decide) (.string g.1) (.int .i64 g.2.1.1) (.slice A4 g.2.1.2.length c4) (.slice B' m.length d'))).2.2,
         (Kd.R_reads' (U2.R (T1.R Q1 (by decide) (.string f.1) (.int .i64 f.2.1.1) (.slice A2 f.2.1.2.length c2) (.slice B2 f.2.2.length d2)) (by decide) (.string g.1) (.int .i64 g.2.1.1) (.slice A4 g.2.1.2.length c4) (.slice B' m.length d'))).2.2,
         (Kd.R_reads' (U2.R (T1.R P2 (by decide) (.string f.1) (.int .i64 f.2.1.1) (.slice A2 f.2.1.2.length c2) (.slice B2 f.2.2.length d2)) (by decide) (.string g.1) (.int .i64 g.2.1.1) (.slice A4 g.2.1.2.length c4) (.slice B' m.length d'))).2.2,
         (Kd.R_reads' (U2.R (T1.R Q2 (by decide) (.string f.1) (.int .i64 f.2.1.1) (.slice A2 f.2.1.2.length c2) (.slice B2 f.2.2.length d2)) (by decide) (.string g.1) (.int .i64 g.2.1.1) (.slice A4 g.2.1.2.length c4) (.slice B' m.length d'))).2.2⟩)
      have V1 := (((((((T1.set0 (.string f.1)).set1 (.int .i64 f.2.1.1)).set2 (.slice A2 f.2.1.2.length c2)).set3 (.slice B2 f.2.2.length d2)).far (i := 0) (x := .string g.1) hwn).far (i := 1) (x := .int .i64 g.2.1.1) hwn).far (i := 2) (x := .slice A4 g.2.1.2.length c4) hwn).far (i := 3) (x := .slice B' m.length d') hwn
      have V2 := (((U2.set0 (.string g.1)).set1 (.int .i64 g.2.1.1)).set2 (.slice A4 g.2.1.2.length c4)).set3 (.slice B' m.length d')
      have B8 : Below w.heap.size w ((((((((wc.drew.setCell ⟨w.heap.size, 0, none⟩ (.string f.1)).setCell ⟨w.heap.size, 1, none⟩ (.int .i64 f.2.1.1)).setCell ⟨w.heap.size, 2, none⟩ (.slice A2 f.2.1.2.length c2)).setCell ⟨w.heap.size, 3, none⟩ (.slice B2 f.2.2.length d2)).setCell ⟨w.heap.size + 1, 0, none⟩ (.string g.1)).setCell ⟨w.heap.size + 1, 1, none⟩ (.int .i64 g.2.1.1)).setCell ⟨w.heap.size + 1, 2, none⟩ (.slice A4 g.2.1.2.length c4)).setCell ⟨w.heap.size + 1, 3, none⟩ (.slice B' m.length d')) := (((((((Bz.setCell (by simp) _).setCell (by simp) _).setCell (by simp) _).setCell (by simp) _).setCell (by simp) _).setCell (by simp) _).setCell (by simp) _).setCell (by simp) _
      clear P1 Q1 P2 Q2 U2 T1 T2 Bz i0 i1 i2 i3 j0 j1 j2 j3 k0 k1 k2 k3 l0 l1 l2 l3
      generalize ((((((((wc.drew.setCell ⟨w.heap.size, 0, none⟩ (.string f.1)).setCell ⟨w.heap.size, 1, none⟩ (.int .i64 f.2.1.1)).setCell ⟨w.heap.size, 2, none⟩ (.slice A2 f.2.1.2.length c2)).setCell ⟨w.heap.size, 3, none⟩ (.slice B2 f.2.2.length d2)).setCell ⟨w.heap.size + 1, 0, none⟩ (.string g.1)).setCell ⟨w.heap.size + 1, 1, none⟩ (.int .i64 g.2.1.1)).setCell ⟨w.heap.size + 1, 2, none⟩ (.slice A4 g.2.1.2.length c4)).setCell ⟨w.heap.size + 1, 3, none⟩ (.slice B' m.length d')) = W8 at *
      obtain ⟨i0, i1, i2, i3⟩ := V1.c
      obtain ⟨k0, k1, k2, k3⟩ := V2.c
      clear V1 V2 hnw hwn
      go_wp2
      refine bodyPost_ret (v := .tuple #[.agg #[.string f.1, .int .i64 f.2.1.1, .slice A2 f.2.1.2.length c2, .slice B2 f.2.2.length d2], .agg #[.string g.1, .int .i64 g.2.1.1, .slice A4 g.2.1.2.length c4, .slice B' m.length d']]) (by simp [results, Tryz.results15, go_sem, *]) rfl ⟨f, A2, c2, B2, d2, (g.1, g.2.1, m), A4, c4, B', d', rfl, H.out.1, H.out.2.1, H.out.2.2.1, H.out.2.2.2, hS2, ⟨hS4.id, hS4.pts, L2, L3⟩, B8⟩
/-! Two shapes. -/
def CShape2 (w : World) (e : Ending) (w' : World) : Prop := ∃ (K : Int) (A : Option Addr) (c : Nat) (p : List Pt) (K' : Int) (A' : Option Addr) (c' : Nat) (p' : List Pt), e = .returned (.tuple #[.agg #[.int .i64 K, .slice A p.length c], .agg #[.int .i64 K', .slice A' p'.length c']]) ∧ kPt.C w' A p.length p ∧ kPt.C w' A' p'.length p' ∧ p.length ≤ 16 ∧ p'.length ≤ 16 ∧ Below w.heap.size w w'
structure DSS (w : World) (b1 b2 : Nat) (K : Int) (A : Option Addr) (c : Nat) (p : List Pt) (K' : Int) (A' : Option Addr) (c' n : Nat) (p' : List Pt) (W : World) : Prop where
  t1 : B2 W w.heap.size 25 (.int .i64 0) (.slice none 0 0)
  t2 : B2 W (w.heap.size + 1) 25 (.int .i64 0) (.slice none 0 0)
  x1 : B2 W b1 25 (.int .i64 K) (.slice A p.length c)
  x2 : B2 W b2 25 (.int .i64 K') (.slice A' n c')
  p1 : RI kPt 84 W w.heap.size b1 (.slice A p.length c) p
  p2 : kPt.R 84 W w.heap.size (fun _ => True) (.slice A' n c') p'
  len : n = p'.length
  lim : p'.length ≤ 16
  ne1 : w.heap.size + 1 < b1
  ne2 : w.heap.size + 1 < b2
  ne3 : b1 < b2
  bel : Below w.heap.size w W
end Go.Proofs.YtgdgnlpohnpgiaaGreatDoor
