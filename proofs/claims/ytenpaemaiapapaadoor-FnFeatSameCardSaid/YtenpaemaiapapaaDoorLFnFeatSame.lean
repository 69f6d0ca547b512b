/- Law: two drawn things are equal just if their texts are; a thing is not one with another name, another kind, one tag more. -/
import Derived.Test.YtenpaemaiapapaaDoorPv
import Derived.Test.YtenpaemaiapapaaDoorEc
import Derived.Test.YtenpaemaiapapaaDoorTl
namespace Go.Proofs.YtenpaemaiapapaaDoor
open Go.RowKit Go.Proofs.YtenpaemaiapapaaDoorW.PrintWords Go.Proofs.YtenpaemaiapapaaDoorW.PrintLast
set_option maxRecDepth 100000
set_option linter.unusedVariables false
set_option linter.unusedSimpArgs false
attribute [local go_sem] cell_set_far cell_set_off
theorem fnFeatSame_tied {w : World} (h : laidMetH Tryd.prog Rows.fnFeatSameRow.laid w) : Tied w := by
  rw [MakeChecks.laidMetH_plain _ _ _ (by kernel_rfl)] at h
  exact Tied.of h (by first | exact List.mem_of_getElem? (i := 0) rfl | exact List.mem_of_getElem? (i := 1) rfl | exact List.mem_of_getElem? (i := 2) rfl | exact List.mem_of_getElem? (i := 3) rfl | exact List.mem_of_getElem? (i := 4) rfl | exact List.mem_of_getElem? (i := 5) rfl | exact List.mem_of_getElem? (i := 6) rfl | exact List.mem_of_getElem? (i := 7) rfl | exact List.mem_of_getElem? (i := 8) rfl) (by first | exact List.mem_of_getElem? (i := 0) rfl | exact List.mem_of_getElem? (i := 1) rfl | exact List.mem_of_getElem? (i := 2) rfl | exact List.mem_of_getElem? (i := 3) rfl | exact List.mem_of_getElem? (i := 4) rfl | exact List.mem_of_getElem? (i := 5) rfl | exact List.mem_of_getElem? (i := 6) rfl | exact List.mem_of_getElem? (i := 7) rfl | exact List.mem_of_getElem? (i := 8) rfl)
theorem wrap_ne (K : Int) : wrap64 (K + 1) ≠ K := by
  unfold wrap64
  omega
theorem same_c (f : FeatD) : eqB f (f.1 ++ ⟨#[120]⟩, f.2) = false := eqB_f.2 fun e => by
  have h1 := congrArg (fun x : FeatD => x.1.size) e
  simp only [ByteArray.size_append] at h1
  have h2 : (⟨#[120]⟩ : ByteArray).size = 1 := rfl
  omega
theorem same_d (f : FeatD) : eqB f (f.1, (wrap64 (f.2.1.1 + 1), f.2.1.2), f.2.2) = false := eqB_f.2 fun e => wrap_ne f.2.1.1 (congrArg (fun x : FeatD => x.2.1.1) e).symm
theorem same_e (f : FeatD) (t : Tag) : eqB f (f.1, f.2.1, f.2.2 ++ [t]) = false := eqB_f.2 fun e => by
  have h1 := congrArg (fun x : FeatD => x.2.2.length) e
  simp at h1
def l_FnFeatSame_T15 : Bool × List (List Nat × List Nat) := (true, [([], []), ([0], [0]), ([1], [1]), ([2, 1], [2]), ([3], [3]), ([4, 3, 3], [3, 4]), ([5, 3], [3, 5]), ([3, 6], [3, 6]), ([7, 5], [7]), ([8], [8]), ([8], [8]), ([10, 8, 8], [8, 10]), ([8], [8]), ([12, 11, 8], [8, 12]), ([11, 13, 8], [8, 11, 13]), ([9, 14, 8], [8, 9, 14]), ([8, 15], [8, 15]), ([16, 13, 0, 1, 2, 3, 4, 5, 6, 7, 8, 9, 10, 11, 12, 13, 14, 15, 16], [16])])
theorem l_FnFeatSame_t15 : rtab .any (opsOf Tryd.f6 15) = l_FnFeatSame_T15 := by kernel_rfl
set_option maxHeartbeats 8000000 in
theorem FnFeatSame_c (A : Option Addr) (c : Nat) (l : List Int) (w : World) (hl : (Kd.int .u8).C w A l.length l) (hn : (l.length : Int) ≤ 140737488351232) (hb : ∀ x ∈ l, 0 ≤ x ∧ x ≤ 255) (hc : l.length ≤ c) (hL : laidMetH Tryd.prog Rows.fnFeatSameRow.laid w) :
    Calls Tryd.prog 6 #[.slice A l.length c] w fun e w' => e = .returned (.bool true) ∧ Below w.heap.size w w' := by
  have T := fnFeatSame_tied hL
  clear hL
  by_cases hs : (l.length : Int) ≤ 1048576
  · have hd : decide ((1048576 : Int) < (l.length : Int)) = false := decide_eq_false (by omega)
    go_enter Tryd.func6, Tryd.ntmps6
    go_wp2_with fail
    refine (DrawFeatSame_d A c l _ (Kd.C_below hl bl) hb hc (by omega)).mono ?_
    rintro e w1 ⟨f, A1, c1, B1, d1, g, A2, c2, B2, d2, rfl, P1, T1, P2, T2, S1, S2, hb1⟩
    have X1 := S1.ftx (by decide)
    have X2 := S2.ftx (by decide)
    have n1 := X1.pts
    have n2 := X1.tags
    have n3 := X2.pts
    have n4 := X2.tags
    have hid := S1.id
    have zx : (⟨#[120]⟩ : ByteArray).size = 1 := rfl
    have HC : Cells ((w1.alloc (.cells #[.string f.1, .int .i64 f.2.1.1, .slice A1 f.2.1.2.length c1, .slice B1 f.2.2.length d1] 50)).alloc (.cells #[.string g.1, .int .i64 g.2.1.1, .slice A2 g.2.1.2.length c2, .slice B2 g.2.2.length d2] 50)) _ := ((Cells.nil w1).box4 bl).box4 (Below.refl _ _)
    simp only [World.size_alloc] at HC
    obtain ⟨h0, h1, h2, h3, h4, h5, h6, h7, _⟩ := HC.all
    have cfg := iFeatSame_c f g A1 c1 B1 d1 A2 c2 B2 d2
    have sfg := sFeatSame_c f g A1 c1 B1 d1 A2 c2 B2 d2
    have cgf := iFeatSame_c g f A2 c2 B2 d2 A1 c1 B1 d1
    have cff := iFeatSame_c f f A1 c1 B1 d1 A1 c1 B1 d1
    rw [eqB_t.2 rfl] at cff
    obtain ⟨b, hbb⟩ : ∃ b, eqB f g = b := ⟨_, rfl⟩
    have hgf : eqB g f = b := by
      rw [← hbb, Bool.eq_iff_iff, eqB_t, eqB_t]
      exact ⟨fun e => e.symm, fun e => e.symm⟩
    rw [hbb] at cfg sfg
    rw [hgf] at cgf
    have Cfg := Lib.hid cfg
    have Sfg := Lib.hid sfg
    have Cgf := Lib.hid cgf
    have Cff := Lib.hid cff
    have Hb := Lib.hid hbb
    clear cfg sfg cgf cff hbb hgf
    have B0 : Below w.heap.size w w1 := bl
    have t0 : (b != b) = false := by cases b <;> rfl
    go_wp2_with fail
    refine (Cfg.out _ (Kd.C_below P1 bl) (Kd.C_below T1 bl) (Kd.C_below P2 bl) (Kd.C_below T2 bl) n1 n2 n3 n4).mono ?_
    rintro e q1 ⟨rfl, hq1⟩
    replace HC := HC.to hq1
    clear h0 h1 h2 h3 h4 h5 h6 h7
    obtain ⟨h0, h1, h2, h3, h4, h5, h6, h7, _⟩ := HC.all
    go_wp2_with fail
    refine (Sfg.out _ (Kd.C_below P1 bl) (Kd.C_below T1 bl) (Kd.C_below P2 bl) (Kd.C_below T2 bl) n1 n2 n3 n4).mono ?_
    rintro e q2 ⟨rfl, hq2⟩
    replace HC := HC.to hq2
    clear h0 h1 h2 h3 h4 h5 h6 h7
    obtain ⟨h0, h1, h2, h3, h4, h5, h6, h7, _⟩ := HC.all
    cases b
    all_goals
      go_wp2_with fail
      refine (Cgf.out _ (Kd.C_below P2 bl) (Kd.C_below T2 bl) (Kd.C_below P1 bl) (Kd.C_below T1 bl) n3 n4 n1 n2).mono ?_
      rintro e q3 ⟨rfl, hq3⟩
      replace HC := HC.to hq3
      clear h0 h1 h2 h3 h4 h5 h6 h7
      obtain ⟨h0, h1, h2, h3, h4, h5, h6, h7, _⟩ := HC.all
      go_wp2_with fail
      refine (Cff.out _ (Kd.C_below P1 bl) (Kd.C_below T1 bl) (Kd.C_below P1 bl) (Kd.C_below T1 bl) n1 n2 n1 n2).mono ?_
      rintro e q4 ⟨rfl, hq4⟩
      have B14 : Below w1.heap.size w1 q4 := bl
      replace HC := HC.to hq4
      clear h0 h1 h2 h3 h4 h5 h6 h7
      obtain ⟨h0, h1, h2, h3, h4, h5, h6, h7, _⟩ := HC.all
      clear hq1 hq2 hq3 hq4
      go_upto_region 12 with (fail)
      have B16 : Below q4.heap.size q4 (((q4.alloc (.cells #[.string (f.1 ++ ⟨#[120]⟩), .int .i64 f.2.1.1, .slice A1 f.2.1.2.length c1, .slice B1 f.2.2.length d1] 50)).alloc (.cells #[.string f.1, .int .i64 (wrap64 (f.2.1.1 + 1)), .slice A1 f.2.1.2.length c1, .slice B1 f.2.2.length d1] 50)).alloc (.cells #[.string f.1, .int .i64 f.2.1.1, .slice A1 f.2.1.2.length c1, .slice B1 f.2.2.length d1] 50)) := bl
      have TC : B4 (((q4.alloc (.cells #[.string (f.1 ++ ⟨#[120]⟩), .int .i64 f.2.1.1, .slice A1 f.2.1.2.length c1, .slice B1 f.2.2.length d1] 50)).alloc (.cells #[.string f.1, .int .i64 (wrap64 (f.2.1.1 + 1)), .slice A1 f.2.1.2.length c1, .slice B1 f.2.2.length d1] 50)).alloc (.cells #[.string f.1, .int .i64 f.2.1.1, .slice A1 f.2.1.2.length c1, .slice B1 f.2.2.length d1] 50)) q4.heap.size 50 (.string (f.1 ++ ⟨#[120]⟩)) (.int .i64 f.2.1.1) (.slice A1 f.2.1.2.length c1) (.slice B1 f.2.2.length d1) := B4.new' q4 _ _ _ _ _ _
      have TD : B4 (((q4.alloc (.cells #[.string (f.1 ++ ⟨#[120]⟩), .int .i64 f.2.1.1, .slice A1 f.2.1.2.length c1, .slice B1 f.2.2.length d1] 50)).alloc (.cells #[.string f.1, .int .i64 (wrap64 (f.2.1.1 + 1)), .slice A1 f.2.1.2.length c1, .slice B1 f.2.2.length d1] 50)).alloc (.cells #[.string f.1, .int .i64 f.2.1.1, .slice A1 f.2.1.2.length c1, .slice B1 f.2.2.length d1] 50)) (q4.heap.size + 1) 50 (.string f.1) (.int .i64 (wrap64 (f.2.1.1 + 1))) (.slice A1 f.2.1.2.length c1) (.slice B1 f.2.2.length d1) := B4.new' (q4.alloc (.cells #[.string (f.1 ++ ⟨#[120]⟩), .int .i64 f.2.1.1, .slice A1 f.2.1.2.length c1, .slice B1 f.2.2.length d1] 50)) _ _ _ _ _ _
      have TE : B4 (((q4.alloc (.cells #[.string (f.1 ++ ⟨#[120]⟩), .int .i64 f.2.1.1, .slice A1 f.2.1.2.length c1, .slice B1 f.2.2.length d1] 50)).alloc (.cells #[.string f.1, .int .i64 (wrap64 (f.2.1.1 + 1)), .slice A1 f.2.1.2.length c1, .slice B1 f.2.2.length d1] 50)).alloc (.cells #[.string f.1, .int .i64 f.2.1.1, .slice A1 f.2.1.2.length c1, .slice B1 f.2.2.length d1] 50)) (q4.heap.size + 2) 50 (.string f.1) (.int .i64 f.2.1.1) (.slice A1 f.2.1.2.length c1) (.slice B1 f.2.2.length d1) := B4.new' ((q4.alloc (.cells #[.string (f.1 ++ ⟨#[120]⟩), .int .i64 f.2.1.1, .slice A1 f.2.1.2.length c1, .slice B1 f.2.2.length d1] 50)).alloc (.cells #[.string f.1, .int .i64 (wrap64 (f.2.1.1 + 1)), .slice A1 f.2.1.2.length c1, .slice B1 f.2.2.length d1] 50)) _ _ _ _ _ _
      have s6 := Lib.hid (show (((q4.alloc (.cells #[.string (f.1 ++ ⟨#[120]⟩), .int .i64 f.2.1.1, .slice A1 f.2.1.2.length c1, .slice B1 f.2.2.length d1] 50)).alloc (.cells #[.string f.1, .int .i64 (wrap64 (f.2.1.1 + 1)), .slice A1 f.2.1.2.length c1, .slice B1 f.2.2.length d1] 50)).alloc (.cells #[.string f.1, .int .i64 f.2.1.1, .slice A1 f.2.1.2.length c1, .slice B1 f.2.2.length d1] 50)).heap.size = q4.heap.size + 3 by simp)
      have h1lt : w1.heap.size + 1 < q4.heap.size := by have := World.block_lt_of_cell? _ _ h0; exact this
      replace HC := HC.to B16
      generalize (((q4.alloc (.cells #[.string (f.1 ++ ⟨#[120]⟩), .int .i64 f.2.1.1, .slice A1 f.2.1.2.length c1, .slice B1 f.2.2.length d1] 50)).alloc (.cells #[.string f.1, .int .i64 (wrap64 (f.2.1.1 + 1)), .slice A1 f.2.1.2.length c1, .slice B1 f.2.2.length d1] 50)).alloc (.cells #[.string f.1, .int .i64 f.2.1.1, .slice A1 f.2.1.2.length c1, .slice B1 f.2.2.length d1] 50)) = w6 at *
      have P6 := Kd.C_below P1 (B14.trans (B16.mono B14.size))
      have T6 := Kd.C_below T1 (B14.trans (B16.mono B14.size))
      have B06 := B0.trans ((B14.trans (B16.mono B14.size)).mono B0.size)
      have B1q : Below w1.heap.size w1 w6 := B14.trans (B16.mono B14.size)
      clear h0 h1 h2 h3 h4 h5 h6 h7
      obtain ⟨h0, h1, h2, h3, h4, h5, h6, h7, _⟩ := HC.all
      have E8 := Lib.hid (show (([] ++ f.2.2) ++ [((ByteArray.empty, ByteArray.empty) : Tag)]).length = f.2.2.length + 1 from List.length_append)
      have tg := S1.tags
      go_upto_region 13 with (first
        | ((with_reducible refine gate_dst (N := 57) rfl ?_); refine Kd.R_append_rows kTag (Rr := kTag.K (w6.alloc (.cells #[] 55))) (w0 := w6) w6.heap.size rfl (.tmp 54) (.tmp 56) 48 55 z0Tag 32 rfl Tryd.underlying48 info_Tag rfl (by decide) (by omega) _ [] f.2.2 B1 f.2.2.length d1 (fun _ => True) (fun _ => False) rfl rfl (litT0 w6 w6.heap.size (Nat.le_refl _)) (Kd.C_below T6 (below_alloc (Below.refl _ _) _)) (fun _ _ h => h) (fun _ h => h.elim) (fun _ _ => trivial) (below_alloc (Below.refl _ _) _) (by simp) (by simp; omega) ?_; intro v7 w7 ho7 hb7 hg7 hat7; obtain ⟨D7, d7, rfl⟩ := Kd.R_slice ho7)
        | ((with_reducible refine gate_dst (N := 60) rfl ?_); refine appOne (d := kTag) (w0 := w6) (base := w6.heap.size) 48 55 z0Tag 32 Tryd.underlying48 info_Tag rfl (by decide) (by omega) (.tmp 57) (.tmp 59) _ ([] ++ f.2.2) ((ByteArray.empty, ByteArray.empty) : Tag) [.string ByteArray.empty, .string ByteArray.empty] (kTag_mkM _ _ _ ((ByteArray.empty, ByteArray.empty) : Tag)) ho7 hb7 hb7.size (by simp; omega) ?_; intro D8 d8 w8 ho8 hb8 hg8; rw [E8.out] at ho8 ⊢; have TE8 := TE.to hb8; obtain ⟨x0, x1, x2, x3⟩ := TE8.c; obtain ⟨y0, y1, y2, y3⟩ := TE8.z))
      replace ho8 : kTag.R 55 w8 w6.heap.size (fun _ => True) (.slice D8 (f.2.2.length + 1) d8) (f.2.2 ++ [((ByteArray.empty, ByteArray.empty) : Tag)]) := ho8
      have s1q := B14.size
      have B19 : Below w1.heap.size w1 (w8.setCell ⟨q4.heap.size + 2, 3, none⟩ (.slice D8 (f.2.2.length + 1) d8)) := (B1q.trans (hb8.mono B1q.size)).setCell (by simp only []; omega) _
      have TC9 := (TC.to hb8).far (b' := q4.heap.size + 2) (i := 3) (x := (.slice D8 (f.2.2.length + 1) d8)) (by simp)
      have TD9 := (TD.to hb8).far (b' := q4.heap.size + 2) (i := 3) (x := (.slice D8 (f.2.2.length + 1) d8)) (by simp)
      have TE9 := TE8.set3 (.slice D8 (f.2.2.length + 1) d8)
      have HC9 := (HC.to hb8).set (q4.heap.size + 2) 3 (.slice D8 (f.2.2.length + 1) d8) (by simp only [List.all_cons, List.all_nil, Bool.and_true, Bool.and_eq_true, bne_iff_ne]; omega)
      have T9 := (Kd.R_reads' (Kd.R_set ho8 TE8 (by decide) 3 (.slice D8 (f.2.2.length + 1) d8))).2.2
      have e9 : (f.2.2 ++ [((ByteArray.empty, ByteArray.empty) : Tag)]).length = f.2.2.length + 1 := List.length_append
      rw [e9] at T9
      generalize hw9 : w8.setCell ⟨q4.heap.size + 2, 3, none⟩ (.slice D8 (f.2.2.length + 1) d8) = w9 at *
      have Hw9 := Lib.hid hw9
      clear x0 x1 x2 x3 y0 y1 y2 y3 hw9 hg7 hg8 hat7 ho7 ho8 hb7 hb8 TE8 TC TD TE HC T6 P6 B16 B06 B1q
      replace HC := HC9
      clear HC9
      clear h0 h1 h2 h3 h4 h5 h6 h7
      obtain ⟨h0, h1, h2, h3, h4, h5, h6, h7, _⟩ := HC.all
      have hA := iFeatSame_c f (f.1 ++ ⟨#[120]⟩, f.2) A1 c1 B1 d1 A1 c1 B1 d1
      have hB := iFeatSame_c f (f.1, (wrap64 (f.2.1.1 + 1), f.2.1.2), f.2.2) A1 c1 B1 d1 A1 c1 B1 d1
      have hC := iFeatSame_c f (f.1, f.2.1, f.2.2 ++ [((ByteArray.empty, ByteArray.empty) : Tag)]) A1 c1 B1 d1 A1 c1 D8 d8
      rw [same_c] at hA
      rw [same_d] at hB
      rw [same_e] at hC
      simp only [featV, e9] at hA hB hC
      have HA := Lib.hid hA
      have HBB := Lib.hid hB
      have HCC := Lib.hid hC
      have P9 := Kd.C_below P1 B19
      have Q9 := Kd.C_below T1 B19
      have P9g := Kd.C_below P2 B19
      have Q9g := Kd.C_below T2 B19
      have B9w := B0.trans (B19.mono B0.size)
      have n5 : f.2.2.length + 1 ≤ 1048576 := by omega
      have T9w := T.to B9w
      clear hA hB hC e9 P1 T1 P2 T2 B19 B14 T
      obtain ⟨x0, x1, x2, x3⟩ := TC9.c
      go_wp2_with fail
      refine (HA.out _ (Kd.C_below P9 bl) (Kd.C_below Q9 bl) (Kd.C_below P9 bl) (Kd.C_below Q9 bl) n1 n2 n1 n2).mono ?_
      rintro e r1 ⟨rfl, hr1⟩
      replace HC := HC.to hr1
      clear x0 x1 x2 x3
      clear h0 h1 h2 h3 h4 h5 h6 h7
      obtain ⟨h0, h1, h2, h3, h4, h5, h6, h7, _⟩ := HC.all
      obtain ⟨x0, x1, x2, x3⟩ := (TD9.to hr1).c
      go_wp2_with fail
      refine (HBB.out _ (Kd.C_below P9 bl) (Kd.C_below Q9 bl) (Kd.C_below P9 bl) (Kd.C_below Q9 bl) n1 n2 n1 n2).mono ?_
      rintro e r2 ⟨rfl, hr2⟩
      replace HC := HC.to hr2
      clear x0 x1 x2 x3
      clear h0 h1 h2 h3 h4 h5 h6 h7
      obtain ⟨h0, h1, h2, h3, h4, h5, h6, h7, _⟩ := HC.all
      obtain ⟨x0, x1, x2, x3⟩ := ((TE9.to hr1).to hr2).c
      go_wp2_with fail
      refine (HCC.out _ (Kd.C_below P9 bl) (Kd.C_below Q9 bl) (Kd.C_below P9 bl) (Kd.C_below T9 bl) n1 n2 n1 n5).mono ?_
      rintro e r3 ⟨rfl, hr3⟩
      replace HC := HC.to hr3
      clear x0 x1 x2 x3
      clear h0 h1 h2 h3 h4 h5 h6 h7
      obtain ⟨h0, h1, h2, h3, h4, h5, h6, h7, _⟩ := HC.all
      have Bwr : Below w.heap.size w r3 := B9w.trans ((hr1.trans ((hr2.trans (hr3.mono hr2.size)).mono hr1.size)).mono B9w.size)
      have B9r : Below w9.heap.size w9 r3 := hr1.trans ((hr2.trans (hr3.mono hr2.size)).mono hr1.size)
      have Pf := Kd.C_below P9 B9r
      have Qf := Kd.C_below Q9 B9r
      have Pg := Kd.C_below P9g B9r
      have Qg := Kd.C_below Q9g B9r
      have Tr := T9w.to B9r
      clear P9 Q9 P9g Q9g T9 T9w B9r B9w hr1 hr2 hr3 TC9 TD9 TE9 HA HBB HCC
      have of_ := sFeatOk_c f A1 c1 B1 d1
      have og := sFeatOk_c g A2 c2 B2 d2
      have tf := iFeatText_c f A1 c1 B1 d1
      have tg_ := iFeatText_c g A2 c2 B2 d2
      cases hfo : featOk f
      case' false =>
        rw [hfo] at of_
        have OF := Lib.hid of_
        clear of_ og tf tg_ hfo
        go_wp2
        refine rgStart 18 [0, 1, 2, 3, 4, 5, 6, 7, 8, 9, 10, 12, 11, 13, 14, 15, 16, 17] l_FnFeatSame_t15 (fun HT HS => ?_)
        repeat ((with_reducible refine rgGate ?_); first | refine rgP HT ?_ | refine rgL HT ?_ | refine rgG HT ?_)
        refine rgCall HT Tryd.func33 (OF.out _ (Kd.C_below Pf bl) (Kd.C_below Qf bl) X1) ?_
        rintro e z1 ⟨rfl, hz1⟩
        refine ⟨_, rfl, bl, rgN ?_⟩
        repeat ((with_reducible refine rgGate ?_); first | refine rgP HT ?_ | refine rgL HT ?_ | refine rgG HT ?_)
        refine rgDone HT ?_
        clear HT HS
        go_wp2
        go_ret
        exact ⟨rfl, bl⟩
      cases hgo : featOk g
      case' false =>
        rw [hfo] at of_
        rw [hgo] at og
        have OF := Lib.hid of_
        have OG := Lib.hid og
        clear of_ og tf tg_ hfo hgo
        go_wp2
        refine rgStart 18 [0, 1, 2, 3, 4, 5, 6, 7, 8, 9, 10, 12, 11, 13, 14, 15, 16, 17] l_FnFeatSame_t15 (fun HT HS => ?_)
        repeat ((with_reducible refine rgGate ?_); first | refine rgP HT ?_ | refine rgL HT ?_ | refine rgG HT ?_)
        refine rgCall HT Tryd.func33 (OF.out _ (Kd.C_below Pf bl) (Kd.C_below Qf bl) X1) ?_
        rintro e z1 ⟨rfl, hz1⟩
        refine ⟨_, rfl, bl, rgN ?_⟩
        repeat ((with_reducible refine rgGate ?_); first | refine rgP HT ?_ | refine rgL HT ?_ | refine rgG HT ?_)
        refine rgCall HT Tryd.func33 (OG.out _ (Kd.C_below Pg bl) (Kd.C_below Qg bl) X2) ?_
        rintro e z2 ⟨rfl, hz2⟩
        refine ⟨_, rfl, bl, rgN ?_⟩
        repeat ((with_reducible refine rgGate ?_); first | refine rgP HT ?_ | refine rgL HT ?_ | refine rgG HT ?_)
        refine rgDone HT ?_
        clear HT HS
        go_wp2
        go_ret
        exact ⟨rfl, bl⟩
      have hiff := featT_iff (featOk_t.1 hfo) (featOk_t.1 hgo)
      have tt : ((featT f).toList == (featT g).toList) = eqB f g := by
        by_cases e : f = g
        · rw [eqB_t.2 e, strB_t (hiff.2 e)]
        · rw [eqB_f.2 e, strB_f (fun h => e (hiff.1 h))]
      rw [Hb.out] at tt
      rw [hfo] at of_
      rw [hgo] at og
      have OF := Lib.hid of_
      have OG := Lib.hid og
      have TF := Lib.hid tf
      have TG := Lib.hid tg_
      clear of_ og tf tg_ hfo hgo hiff
      generalize featT f = ff at *
      generalize featT g = gg at *
      go_wp2
      refine rgStart 18 [0, 1, 2, 3, 4, 5, 6, 7, 8, 9, 10, 12, 11, 13, 14, 15, 16, 17] l_FnFeatSame_t15 (fun HT HS => ?_)
      repeat ((with_reducible refine rgGate ?_); first | refine rgP HT ?_ | refine rgL HT ?_ | refine rgG HT ?_)
      refine rgCall HT Tryd.func33 (OF.out _ (Kd.C_below Pf bl) (Kd.C_below Qf bl) X1) ?_
      rintro e z1 ⟨rfl, hz1⟩
      refine ⟨_, rfl, bl, rgN ?_⟩
      repeat ((with_reducible refine rgGate ?_); first | refine rgP HT ?_ | refine rgL HT ?_ | refine rgG HT ?_)
      refine rgCall HT Tryd.func33 (OG.out _ (Kd.C_below Pg bl) (Kd.C_below Qg bl) X2) ?_
      rintro e z2 ⟨rfl, hz2⟩
      refine ⟨_, rfl, bl, rgN ?_⟩
      repeat ((with_reducible refine rgGate ?_); first | refine rgP HT ?_ | refine rgL HT ?_ | refine rgG HT ?_)
      refine rgCall HT Tryd.func34 (TF.out _ (Kd.C_below Pf bl) (Kd.C_below Qf bl) X1 (Tr.to bl)) ?_
      rintro e z3 ⟨rfl, hz3⟩
      refine ⟨_, rfl, bl, rgN ?_⟩
      repeat ((with_reducible refine rgGate ?_); first | refine rgP HT ?_ | refine rgL HT ?_ | refine rgG HT ?_)
      refine rgCall HT Tryd.func34 (TG.out _ (Kd.C_below Pg bl) (Kd.C_below Qg bl) X2 (Tr.to bl)) ?_
      rintro e z4 ⟨rfl, hz4⟩
      refine ⟨_, rfl, bl, rgN ?_⟩
      repeat ((with_reducible refine rgGate ?_); first | refine rgP HT ?_ | refine rgL HT ?_ | refine rgG HT ?_)
      refine rgDone HT ?_
      clear HT HS
      go_wp2
      go_ret
      exact ⟨rfl, bl⟩
  · have hd : decide ((1048576 : Int) < (l.length : Int)) = true := decide_eq_true (by omega)
    go_enter Tryd.func6, Tryd.ntmps6
    go_wp2
    go_ret
    exact ⟨rfl, bl⟩
end Go.Proofs.YtenpaemaiapapaaDoor
