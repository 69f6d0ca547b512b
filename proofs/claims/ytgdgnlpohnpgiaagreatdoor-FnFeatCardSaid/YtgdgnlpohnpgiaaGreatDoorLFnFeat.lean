/- Law: a drawn thing that is ok is read from its text; a drawn text that is read is that of what was read. -/
import Derived.Test.YtgdgnlpohnpgiaaGreatDoorRj
import Derived.Test.YtgdgnlpohnpgiaaGreatDoorRk
import Derived.Test.YtgdgnlpohnpgiaaGreatDoorFz
import Derived.Test.YtgdgnlpohnpgiaaGreatDoorEc
namespace Go.Proofs.YtgdgnlpohnpgiaaGreatDoor
open Go.RowKit Go.ChangeShapes Go.Proofs.YtgdgnlpohnpgiaaGreatDoorW.PrintWords Go.Proofs.YtgdgnlpohnpgiaaGreatDoorW.PrintLast
set_option maxRecDepth 100000
set_option linter.unusedVariables false
set_option linter.unusedSimpArgs false
theorem fnFeat_tied {w : World} (h : laidMetH Tryz.prog Rows.fnFeatRow.laid w) (hS : w.ShapedOpen Tryz.prog) : TiedR w := by
  rw [MakeChecks.laidMetH_plain _ _ _ (by kernel_rfl)] at h
  refine TiedR.of (Tied.of h ?_ ?_) hS h
  all_goals first | exact List.mem_of_getElem? (i := 0) rfl | exact List.mem_of_getElem? (i := 1) rfl | exact List.mem_of_getElem? (i := 2) rfl | exact List.mem_of_getElem? (i := 3) rfl | exact List.mem_of_getElem? (i := 4) rfl | exact List.mem_of_getElem? (i := 5) rfl | exact List.mem_of_getElem? (i := 6) rfl | exact List.mem_of_getElem? (i := 7) rfl | exact List.mem_of_getElem? (i := 8) rfl
/-- The text of a thing is read back just if it is ok. -/
theorem ft_back {f g : FeatD} {b : Bool} (h1 : b = true → FeatOk g ∧ featT f = fullT g) (h2 : b = false → g = (⟨#[]⟩, (0, []), []) ∧ ∀ g', FeatOk g' → featT f ≠ fullT g') : b = featOk f ∧ (b = true → g = f) := by
  by_cases hok : FeatOk f
  · have e := featT_of hok
    rw [featOk_t.2 hok]
    cases b
    · exact absurd e ((h2 rfl).2 f hok)
    · exact ⟨rfl, fun _ => fullT_inj (h1 rfl).1 hok ((h1 rfl).2.symm.trans e)⟩
  · have e : featT f = ⟨#[]⟩ := if_neg hok
    rw [featOk_f.2 hok]
    cases b
    · exact ⟨rfl, fun h => by cases h⟩
    · have h3 := (h1 rfl).1.1.1.1
      have h4 := congrArg ByteArray.size ((h1 rfl).2.symm.trans e)
      rw [← bts_len, fullT_words] at h4
      unfold wordsF at h4
      rw [join_flat, List.length_append, bts_len] at h4
      have h5 : (⟨#[]⟩ : ByteArray).size = 0 := rfl
      omega
def l_FnFeat_T6 : Bool × List (List Nat × List Nat) := (true, [([], []), ([], []), ([1], [1]), ([0, 2], [0, 2]), ([3, 2], [3]), ([4], [4]), ([5, 4, 4], [4, 5]), ([4], [4]), ([7, 6, 4], [4, 7]), ([6, 8, 4], [4, 6, 8]), ([4, 9], [4, 9]), ([10, 8], [10]), ([11], [11]), ([11], [11]), ([13, 11, 11], [11, 13]), ([12, 14, 11], [11, 12, 14]), ([11, 15], [11, 15]), ([16, 14], [16]), ([17], [17]), ([18, 17, 17], [17, 18]), ([19], [19]), ([19], [19]), ([20, 21, 19, 19], [19, 20, 21]), ([22, 19], [19, 22]), ([19, 23, 17], [17, 19, 23]), ([17, 24], [17, 24])])
theorem l_FnFeat_t6 : rtab .any (opsOf Tryz.f3 6) = l_FnFeat_T6 := by kernel_rfl
def l_FnFeat_T12 : Bool × List (List Nat × List Nat) := (true, [([], []), ([], []), ([0, 1], [0, 1]), ([2], [2]), ([3], [3]), ([4, 3], [3, 4]), ([5, 3, 3], [3, 5]), ([6], [6]), ([7, 6, 6], [6, 7]), ([6], [6]), ([8, 9, 6], [6, 8, 9]), ([10, 8, 6], [6, 10]), ([11], [11]), ([12, 11, 11], [11, 12]), ([11, 13, 6], [6, 11, 13]), ([6, 14, 3], [3, 6, 14]), ([3, 15], [3, 15]), ([16, 13], [16]), ([17], [17]), ([17], [17]), ([18, 19, 17, 17], [17, 18, 19]), ([17], [17]), ([17], [17]), ([21, 22, 20, 17], [17, 21, 22]), ([20, 23, 17], [17, 20, 23]), ([17, 24], [17, 24]), ([25, 23], [25]), ([26], [26]), ([26], [26]), ([27, 28, 26, 26], [26, 27, 28]), ([26, 29], [26, 29]), ([30, 29, 0, 1, 2, 3, 4, 5, 6, 7, 8, 9, 10, 11, 12, 13, 14, 15, 16, 17, 18, 19, 20, 21, 22, 23, 24, 25, 26, 27, 28, 29, 30], [30])])
theorem l_FnFeat_t12 : rtab .any (opsOf Tryz.f3 12) = l_FnFeat_T12 := by kernel_rfl
set_option maxHeartbeats 8000000 in
theorem FnFeat_c (A : Option Addr) (c : Nat) (l : List Int) (B : Option Addr) (d : Nat) (m : List Int) (w : World) (hl : (Kd.int .u8).C w A l.length l) (hn : (l.length : Int) ≤ 140737488351232) (hb : ∀ x ∈ l, 0 ≤ x ∧ x ≤ 255) (hc : l.length ≤ c)
    (hl' : (Kd.int .u8).C w B m.length m) (hn' : (m.length : Int) ≤ 140737488351232) (hb' : ∀ x ∈ m, 0 ≤ x ∧ x ≤ 255) (hc' : m.length ≤ d) (hL : laidMetH Tryz.prog Rows.fnFeatRow.laid w) (hS : w.ShapedOpen Tryz.prog) :
    Calls Tryz.prog 3 #[.slice A l.length c, .slice B m.length d] w fun e w' => e = .returned (.bool true) ∧ Below w.heap.size w w' := by
  have T := fnFeat_tied hL hS
  clear hL hS
  by_cases hs : (l.length : Int) ≤ 1048576
  · have hd : decide ((1048576 : Int) < (l.length : Int)) = false := decide_eq_false (by omega)
    by_cases hs2 : (m.length : Int) ≤ 1048576
    · have hd2 : decide ((1048576 : Int) < (m.length : Int)) = false := decide_eq_false (by omega)
      go_enter Tryz.func3, Tryz.ntmps3
      go_wp2_with fail
      refine (DrawFeatText_z A c l _ (Kd.C_below hl bl) hb hc (by omega)).mono ?_
      rintro e w1 ⟨f, A1, c1, B1, d1, rfl, hr1, ht1, hS1, hb1⟩
      have X1 := hS1.ftx (by decide)
      have n1 := X1.pts
      have n2 := X1.tags
      have HC : Cells (w1.alloc (.cells #[.string f.1, .int .i64 f.2.1.1, .slice A1 f.2.1.2.length c1, .slice B1 f.2.2.length d1] 28)) _ := (Cells.nil w1).box4 (Below.refl _ _)
      have Bw1 : Below w.heap.size w (w1.alloc (.cells #[.string f.1, .int .i64 f.2.1.1, .slice A1 f.2.1.2.length c1, .slice B1 f.2.2.length d1] 28)) := bl
      have P1 := Kd.C_below hr1.rd.2.2 (below_alloc (Below.refl _ _) (.cells #[.string f.1, .int .i64 f.2.1.1, .slice A1 f.2.1.2.length c1, .slice B1 f.2.2.length d1] 28))
      have Q1 := Kd.C_below ht1.rd.2.2 (below_alloc (Below.refl _ _) (.cells #[.string f.1, .int .i64 f.2.1.1, .slice A1 f.2.1.2.length c1, .slice B1 f.2.2.length d1] 28))
      clear hr1 ht1 hS1
      obtain ⟨h0, h1, h2, h3, _⟩ := HC.all
      go_wp2_with fail
      refine (iFeatText_c f A1 c1 B1 d1 _ P1 Q1 X1 (T.to Bw1).td).mono ?_
      rintro e w2 ⟨rfl, hb2⟩
      have hz := featT_139 f
      replace HC := HC.to hb2
      have Bw2 := Bw1.trans (hb2.mono Bw1.size)
      have P2 := Kd.C_below P1 hb2
      have Q2 := Kd.C_below Q1 hb2
      clear Bw1 P1 Q1 hb1 hb2
      clear h0 h1 h2 h3
      obtain ⟨h0, h1, h2, h3, _⟩ := HC.all
      go_wp2_with fail
      refine (iFeatRead_c (featT f) _ (by omega) (T.to Bw2)).mono ?_
      rintro e w3 ⟨g, A2, c2, B2, d2, bx, rfl, hr3, ht3, hb3, hX3, hy3, hf3⟩
      have Hbk := Lib.hid (ft_back hy3 hf3)
      clear hy3 hf3
      have n3 := hX3.pts
      have n4 := hX3.tags
      replace HC : Cells (w3.alloc (.cells #[.string g.1, .int .i64 g.2.1.1, .slice A2 g.2.1.2.length c2, .slice B2 g.2.2.length d2] 28)) _ := (HC.to hb3).box4 (Below.refl _ _)
      have b34 : Below w3.heap.size w3 (w3.alloc (.cells #[.string g.1, .int .i64 g.2.1.1, .slice A2 g.2.1.2.length c2, .slice B2 g.2.2.length d2] 28)) := below_alloc (Below.refl _ _) _
      have Bw3 := Bw2.trans ((hb3.trans (b34.mono hb3.size)).mono Bw2.size)
      have P3 := Kd.C_below (Kd.C_below P2 hb3) b34
      have Q3 := Kd.C_below (Kd.C_below Q2 hb3) b34
      have R3 := Kd.C_below hr3.rd.2.2 b34
      have U3 := Kd.C_below ht3.rd.2.2 b34
      clear Bw2 P2 Q2 hb3 hr3 ht3 b34 hX3
      clear h0 h1 h2 h3
      obtain ⟨h0, h1, h2, h3, h4, h5, h6, h7, _⟩ := HC.all
      go_upto_region 6 with (fail)
      generalize w3.alloc (.cells #[.string g.1, .int .i64 g.2.1.1, .slice A2 g.2.1.2.length c2, .slice B2 g.2.2.length d2] 28) = w4 at *
      have sT := fun w hp hq => sFeatText_c f A1 c1 B1 d1 w hp hq X1
      have iO := fun w hp hq => iFeatOk_c f A1 c1 B1 d1 w hp hq X1
      have sO := fun w hp hq => sFeatOk_c f A1 c1 B1 d1 w hp hq X1
      have sS := fun w h h' h'' h''' => iFeatSame_c g f A2 c2 B2 d2 A1 c1 B1 d1 w h h' h'' h''' n3 n4 n1 n2
      obtain ⟨st, hst⟩ : ∃ st, featT f = st := ⟨_, rfl⟩
      rw [hst] at sT hz
      have t1 := strB_t (rfl : st = st)
      have ST := Lib.hid sT
      obtain ⟨ok, e⟩ : ∃ ok, featOk f = ok := ⟨_, rfl⟩
      rw [e] at iO sO
      obtain rfl : bx = ok := Hbk.out.1.trans e
      have IOk := Lib.hid iO
      have SO := Lib.hid sO
      simp only [hst]
      clear iO sO sT e hst X1
      have t2 : (bx != bx) = false := by cases bx <;> rfl
      go_cut [58] (fun q58 wc => q58 = .bool false ∧ Aside0 (Below w4.heap.size w4 wc))
      case first =>
        cases bx with
        | false =>
          clear sS
          refine rgStart 26 [0, 1, 2, 3, 4, 5, 7, 6, 8, 9, 10, 11, 12, 13, 14, 15, 16, 17, 18, 19, 20, 21, 22, 23, 24, 25] l_FnFeat_t6 (fun HT HS => ?_)
          repeat ((with_reducible refine rgGate ?_); first | refine rgP HT ?_ | refine rgL HT ?_ | refine rgG HT ?_)
          refine rgCall HT Tryz.func9 (ST.out _ (Kd.C_below P3 bl) (Kd.C_below Q3 bl)) ?_
          rintro e q1 ⟨rfl, hq1⟩
          refine ⟨_, rfl, bl, rgN ?_⟩
          repeat ((with_reducible refine rgGate ?_); first | refine rgP HT ?_ | refine rgL HT ?_ | refine rgG HT ?_)
          refine rgCall HT Tryz.func10 (IOk.out _ (Kd.C_below P3 bl) (Kd.C_below Q3 bl)) ?_
          rintro e q2 ⟨rfl, hq2⟩
          refine ⟨_, rfl, bl, rgN ?_⟩
          repeat ((with_reducible refine rgGate ?_); first | refine rgP HT ?_ | refine rgL HT ?_ | refine rgG HT ?_)
          refine rgCall HT Tryz.func11 (SO.out _ (Kd.C_below P3 bl) (Kd.C_below Q3 bl)) ?_
          rintro e q3 ⟨rfl, hq3⟩
          refine ⟨_, rfl, bl, rgN ?_⟩
          repeat ((with_reducible refine rgGate ?_); first | refine rgP HT ?_ | refine rgL HT ?_ | refine rgG HT ?_)
          refine rgCall HT Tryz.func11 (SO.out _ (Kd.C_below P3 bl) (Kd.C_below Q3 bl)) ?_
          rintro e q4 ⟨rfl, hq4⟩
          refine ⟨_, rfl, bl, rgN ?_⟩
          repeat ((with_reducible refine rgGate ?_); first | refine rgP HT ?_ | refine rgL HT ?_ | refine rgG HT ?_)
          refine rgDone HT ?_
          clear HT HS
          go_wp2
          go_meet
          case rel => exact ⟨rfl, ⟨bl⟩⟩
        | true =>
          obtain rfl := Hbk.out.2 rfl
          rw [eqB_t.2 rfl] at sS
          have SS := Lib.hid sS
          clear sS
          refine rgStart 26 [0, 1, 2, 3, 4, 5, 7, 6, 8, 9, 10, 11, 12, 13, 14, 15, 16, 17, 18, 19, 20, 21, 22, 23, 24, 25] l_FnFeat_t6 (fun HT HS => ?_)
          repeat ((with_reducible refine rgGate ?_); first | refine rgP HT ?_ | refine rgL HT ?_ | refine rgG HT ?_)
          refine rgCall HT Tryz.func9 (ST.out _ (Kd.C_below P3 bl) (Kd.C_below Q3 bl)) ?_
          rintro e q1 ⟨rfl, hq1⟩
          refine ⟨_, rfl, bl, rgN ?_⟩
          repeat ((with_reducible refine rgGate ?_); first | refine rgP HT ?_ | refine rgL HT ?_ | refine rgG HT ?_)
          refine rgCall HT Tryz.func10 (IOk.out _ (Kd.C_below P3 bl) (Kd.C_below Q3 bl)) ?_
          rintro e q2 ⟨rfl, hq2⟩
          refine ⟨_, rfl, bl, rgN ?_⟩
          repeat ((with_reducible refine rgGate ?_); first | refine rgP HT ?_ | refine rgL HT ?_ | refine rgG HT ?_)
          refine rgCall HT Tryz.func11 (SO.out _ (Kd.C_below P3 bl) (Kd.C_below Q3 bl)) ?_
          rintro e q3 ⟨rfl, hq3⟩
          refine ⟨_, rfl, bl, rgN ?_⟩
          repeat ((with_reducible refine rgGate ?_); first | refine rgP HT ?_ | refine rgL HT ?_ | refine rgG HT ?_)
          refine rgCall HT Tryz.func11 (SO.out _ (Kd.C_below P3 bl) (Kd.C_below Q3 bl)) ?_
          rintro e q4 ⟨rfl, hq4⟩
          refine ⟨_, rfl, bl, rgN ?_⟩
          repeat ((with_reducible refine rgGate ?_); first | refine rgP HT ?_ | refine rgL HT ?_ | refine rgG HT ?_)
          refine rgCall HT Tryz.func12 (SS.out _ (Kd.C_below R3 bl) (Kd.C_below U3 bl) (Kd.C_below P3 bl) (Kd.C_below Q3 bl)) ?_
          rintro e q5 ⟨rfl, hq5⟩
          refine ⟨_, rfl, bl, rgN ?_⟩
          repeat ((with_reducible refine rgGate ?_); first | refine rgP HT ?_ | refine rgL HT ?_ | refine rgG HT ?_)
          refine rgDone HT ?_
          clear HT HS
          go_wp2
          go_meet
          case rel => exact ⟨rfl, ⟨bl⟩⟩
      case rest =>
        obtain ⟨rfl, ⟨B4c⟩⟩ := hcut
        have Bwc := Bw3.trans (B4c.mono Bw3.size)
        clear h0 h1 h2 h3 h4 h5 h6 h7 HC P3 Q3 R3 U3 B4c Bw3 sS n1 n2 n3 n4 IOk SO ST t1 t2 hz Hbk
        go_wp2_with fail
        refine (DrawFeatRead_d B d m _ (Kd.C_below hl' Bwc) hb' hc' (by omega)).mono ?_
        rintro e x1 ⟨text, rfl, hzt, hx1⟩
        have Bx1 := Bwc.trans (hx1.mono Bwc.size)
        clear Bwc hx1
        go_wp2_with fail
        refine (iFeatRead_c text _ (by omega) (T.to Bx1)).mono ?_
        rintro e x2 ⟨y, A4, c4, B4_, d4, b4, rfl, hr4, ht4, hx2, hX4, hy4, hf4⟩
        have HC : Cells (x2.alloc (.cells #[.string y.1, .int .i64 y.2.1.1, .slice A4 y.2.1.2.length c4, .slice B4_ y.2.2.length d4] 28)) _ := (Cells.nil x2).box4 (Below.refl _ _)
        have a2 := below_alloc (Below.refl x2.heap.size x2) (.cells #[.string y.1, .int .i64 y.2.1.1, .slice A4 y.2.1.2.length c4, .slice B4_ y.2.2.length d4] 28)
        have Bx2 := (Bx1.trans (hx2.mono Bx1.size)).trans (a2.mono (Bx1.trans (hx2.mono Bx1.size)).size)
        have P4 := Kd.C_below hr4.rd.2.2 a2
        have Q4 := Kd.C_below ht4.rd.2.2 a2
        have H4 := Lib.hid (And.intro hy4 hf4)
        clear hr4 ht4 hx2 a2 Bx1 hy4 hf4
        obtain ⟨h0, h1, h2, h3, _⟩ := HC.all
        go_wp2_with fail
        refine (sFeatRead_c text _ (by omega)).mono ?_
        rintro e x3 ⟨y', A5, c5, B5, d5, b5, rfl, hr5, ht5, hx3, hX5, hy5, hf5⟩
        obtain ⟨rfl, rfl⟩ := ft_agree2 H4.out.1 H4.out.2 hy5 hf5
        have HK4 := Lib.hid hy5
        replace HC : Cells (x3.alloc (.cells #[.string y.1, .int .i64 y.2.1.1, .slice A5 y.2.1.2.length c5, .slice B5 y.2.2.length d5] 28)) _ := (HC.to hx3).box4 (Below.refl _ _)
        have a3 := below_alloc (Below.refl x3.heap.size x3) (.cells #[.string y.1, .int .i64 y.2.1.1, .slice A5 y.2.1.2.length c5, .slice B5 y.2.2.length d5] 28)
        have Bx3 := (Bx2.trans (hx3.mono Bx2.size)).trans (a3.mono (Bx2.trans (hx3.mono Bx2.size)).size)
        have P5 := Kd.C_below (Kd.C_below P4 hx3) a3
        have Q5 := Kd.C_below (Kd.C_below Q4 hx3) a3
        clear hr5 ht5 hy5 hf5 H4 hx3 a3 P4 Q4 Bx2 hX5
        clear h0 h1 h2 h3
        obtain ⟨h0, h1, h2, h3, h4, h5, h6, h7, _⟩ := HC.all
        go_wp2_with fail
        refine (DrawFeatSame_d A c l _ (Kd.C_below hl Bx3) hb hc (by omega)).mono ?_
        rintro e x4 ⟨f6, A6, c6, B6, d6, f7, A7, c7, B7, d7, rfl, P6, Q6, P7, Q7, S6, S7, hx4⟩
        have X6 := S6.ftx (by decide)
        have X7 := S7.ftx (by decide)
        have b4_ : Below x4.heap.size x4 ((x4.alloc (.cells #[.string f6.1, .int .i64 f6.2.1.1, .slice A6 f6.2.1.2.length c6, .slice B6 f6.2.2.length d6] 28)).alloc (.cells #[.string f7.1, .int .i64 f7.2.1.1, .slice A7 f7.2.1.2.length c7, .slice B7 f7.2.2.length d7] 28)) := bl
        replace HC : Cells ((x4.alloc (.cells #[.string f6.1, .int .i64 f6.2.1.1, .slice A6 f6.2.1.2.length c6, .slice B6 f6.2.2.length d6] 28)).alloc (.cells #[.string f7.1, .int .i64 f7.2.1.1, .slice A7 f7.2.1.2.length c7, .slice B7 f7.2.2.length d7] 28)) _ := ((HC.to hx4).box4 bl).box4 (Below.refl _ _)
        simp only [World.size_alloc] at HC
        have Bx4 := (Bx3.trans (hx4.mono Bx3.size)).trans (b4_.mono (Bx3.trans (hx4.mono Bx3.size)).size)
        have P5z := Kd.C_below (Kd.C_below P5 hx4) b4_
        have Q5z := Kd.C_below (Kd.C_below Q5 hx4) b4_
        have P6z := Kd.C_below P6 b4_
        have Q6z := Kd.C_below Q6 b4_
        have P7z := Kd.C_below P7 b4_
        have Q7z := Kd.C_below Q7 b4_
        clear P5 Q5 P6 Q6 P7 Q7 hx4 b4_ Bx3 S6 S7
        clear h0 h1 h2 h3 h4 h5 h6 h7
        obtain ⟨h0, h1, h2, h3, h4, h5, h6, h7, h8, h9, h10, h11, h12, h13, h14, h15, _⟩ := HC.all
        go_upto_region 12 with (fail)
        generalize (x4.alloc (.cells #[.string f6.1, .int .i64 f6.2.1.1, .slice A6 f6.2.1.2.length c6, .slice B6 f6.2.2.length d6] 28)).alloc (.cells #[.string f7.1, .int .i64 f7.2.1.1, .slice A7 f7.2.1.2.length c7, .slice B7 f7.2.2.length d7] 28) = x5 at *
        have iab := fun w h h' h2 h2' => iFeatSame_c f6 f7 A6 c6 B6 d6 A7 c7 B7 d7 w h h' h2 h2' X6.pts X6.tags X7.pts X7.tags
        have sab := fun w h h' h2 h2' => sFeatSame_c f6 f7 A6 c6 B6 d6 A7 c7 B7 d7 w h h' h2 h2' X6.pts X6.tags X7.pts X7.tags
        have iaa := fun w h h' h2 h2' => iFeatSame_c f6 f6 A6 c6 B6 d6 A6 c6 B6 d6 w h h' h2 h2' X6.pts X6.tags X6.pts X6.tags
        rw [eqB_t.2 rfl] at iaa
        obtain ⟨e1, he1⟩ : ∃ b, eqB f6 f7 = b := ⟨_, rfl⟩
        rw [he1] at iab sab
        have IAB := Lib.hid iab
        have SAB := Lib.hid sab
        have IAA := Lib.hid iaa
        clear iab sab iaa he1 X6 X7
        have t3 : (e1 == e1) = true := by cases e1 <;> rfl
        have t4 : (b4 == b4) = true := by cases b4 <;> rfl
        have t5 := strB_t (rfl : text = text)
        have T5 := T.to Bx4
        cases b4 with
        | false =>
          refine rgStart 32 [0, 1, 2, 3, 4, 5, 6, 7, 9, 8, 10, 11, 12, 13, 14, 15, 16, 17, 18, 19, 21, 22, 20, 23, 24, 25, 26, 27, 28, 29, 30, 31] l_FnFeat_t12 (fun HT HS => ?_)
          repeat ((with_reducible refine rgGate ?_); first | refine rgP HT ?_ | refine rgL HT ?_ | refine rgG HT ?_)
          refine rgCall HT Tryz.func12 (IAB.out _ (Kd.C_below P6z bl) (Kd.C_below Q6z bl) (Kd.C_below P7z bl) (Kd.C_below Q7z bl)) ?_
          rintro e z1 ⟨rfl, hz1⟩
          refine ⟨_, rfl, bl, rgN ?_⟩
          repeat ((with_reducible refine rgGate ?_); first | refine rgP HT ?_ | refine rgL HT ?_ | refine rgG HT ?_)
          refine rgCall HT Tryz.func16 (SAB.out _ (Kd.C_below P6z bl) (Kd.C_below Q6z bl) (Kd.C_below P7z bl) (Kd.C_below Q7z bl)) ?_
          rintro e z2 ⟨rfl, hz2⟩
          refine ⟨_, rfl, bl, rgN ?_⟩
          repeat ((with_reducible refine rgGate ?_); first | refine rgP HT ?_ | refine rgL HT ?_ | refine rgG HT ?_)
          refine rgCall HT Tryz.func12 (IAA.out _ (Kd.C_below P6z bl) (Kd.C_below Q6z bl) (Kd.C_below P6z bl) (Kd.C_below Q6z bl)) ?_
          rintro e z3 ⟨rfl, hz3⟩
          refine ⟨_, rfl, bl, rgN ?_⟩
          repeat ((with_reducible refine rgGate ?_); first | refine rgP HT ?_ | refine rgL HT ?_ | refine rgG HT ?_)
          refine rgDone HT ?_
          clear HT HS
          go_wp2
          go_ret
          exact ⟨rfl, bl⟩
        | true =>
          obtain ⟨y1, y2⟩ := HK4.out rfl
          have it := fun w h h' h2 => iFeatText_c y A4 c4 B4_ d4 w h h' hX4 h2
          rw [show featT y = text from (featT_of y1).trans y2.symm] at it
          have io := fun w h h' => iFeatOk_c y A4 c4 B4_ d4 w h h' hX4
          rw [featOk_t.2 y1] at io
          have IT := Lib.hid it
          have IO2 := Lib.hid io
          clear it io y1 y2
          refine rgStart 32 [0, 1, 2, 3, 4, 5, 6, 7, 9, 8, 10, 11, 12, 13, 14, 15, 16, 17, 18, 19, 21, 22, 20, 23, 24, 25, 26, 27, 28, 29, 30, 31] l_FnFeat_t12 (fun HT HS => ?_)
          repeat ((with_reducible refine rgGate ?_); first | refine rgP HT ?_ | refine rgL HT ?_ | refine rgG HT ?_)
          refine rgCall HT Tryz.func7 (IT.out _ (Kd.C_below P5z bl) (Kd.C_below Q5z bl) (T5.to bl).td) ?_
          rintro e z4 ⟨rfl, hz4⟩
          refine ⟨_, rfl, bl, rgN ?_⟩
          repeat ((with_reducible refine rgGate ?_); first | refine rgP HT ?_ | refine rgL HT ?_ | refine rgG HT ?_)
          refine rgCall HT Tryz.func10 (IO2.out _ (Kd.C_below P5z bl) (Kd.C_below Q5z bl)) ?_
          rintro e z5 ⟨rfl, hz5⟩
          refine ⟨_, rfl, bl, rgN ?_⟩
          repeat ((with_reducible refine rgGate ?_); first | refine rgP HT ?_ | refine rgL HT ?_ | refine rgG HT ?_)
          refine rgCall HT Tryz.func12 (IAB.out _ (Kd.C_below P6z bl) (Kd.C_below Q6z bl) (Kd.C_below P7z bl) (Kd.C_below Q7z bl)) ?_
          rintro e z1 ⟨rfl, hz1⟩
          refine ⟨_, rfl, bl, rgN ?_⟩
          repeat ((with_reducible refine rgGate ?_); first | refine rgP HT ?_ | refine rgL HT ?_ | refine rgG HT ?_)
          refine rgCall HT Tryz.func16 (SAB.out _ (Kd.C_below P6z bl) (Kd.C_below Q6z bl) (Kd.C_below P7z bl) (Kd.C_below Q7z bl)) ?_
          rintro e z2 ⟨rfl, hz2⟩
          refine ⟨_, rfl, bl, rgN ?_⟩
          repeat ((with_reducible refine rgGate ?_); first | refine rgP HT ?_ | refine rgL HT ?_ | refine rgG HT ?_)
          refine rgCall HT Tryz.func12 (IAA.out _ (Kd.C_below P6z bl) (Kd.C_below Q6z bl) (Kd.C_below P6z bl) (Kd.C_below Q6z bl)) ?_
          rintro e z3 ⟨rfl, hz3⟩
          refine ⟨_, rfl, bl, rgN ?_⟩
          repeat ((with_reducible refine rgGate ?_); first | refine rgP HT ?_ | refine rgL HT ?_ | refine rgG HT ?_)
          refine rgDone HT ?_
          clear HT HS
          go_wp2
          go_ret
          exact ⟨rfl, bl⟩
    · have hd2 : decide ((1048576 : Int) < (m.length : Int)) = true := decide_eq_true (by omega)
      go_enter Tryz.func3, Tryz.ntmps3
      go_wp2
      go_ret
      exact ⟨rfl, bl⟩
  · have hd : decide ((1048576 : Int) < (l.length : Int)) = true := decide_eq_true (by omega)
    go_enter Tryz.func3, Tryz.ntmps3
    go_wp2
    go_ret
    exact ⟨rfl, bl⟩
end Go.Proofs.YtgdgnlpohnpgiaaGreatDoor
