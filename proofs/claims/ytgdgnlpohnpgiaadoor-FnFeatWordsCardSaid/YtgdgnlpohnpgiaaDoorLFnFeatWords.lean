/- Law: a drawn thing's text begins with its name and its shape's text; with one word more it is read just if the word is a further tag's. -/
import Derived.Test.YtgdgnlpohnpgiaaDoorRj
import Derived.Test.YtgdgnlpohnpgiaaDoorPz
namespace Go.Proofs.YtgdgnlpohnpgiaaDoor
open Go.RowKit Go.ChangeShapes Go.Proofs.YtgdgnlpohnpgiaaDoorW.PrintWords Go.Proofs.YtgdgnlpohnpgiaaDoorW.PrintLast
set_option maxRecDepth 100000
set_option linter.unusedVariables false
set_option linter.unusedSimpArgs false
theorem fnFeatWords_tied {w : World} (h : laidMetH Tryd.prog Rows.fnFeatWordsRow.laid w) (hS : w.ShapedOpen Tryd.prog) : TiedR w := by
  rw [MakeChecks.laidMetH_plain _ _ _ (by kernel_rfl)] at h
  refine TiedR.of (Tied.of h ?_ ?_) hS h
  all_goals first | exact List.mem_of_getElem? (i := 0) rfl | exact List.mem_of_getElem? (i := 1) rfl | exact List.mem_of_getElem? (i := 2) rfl | exact List.mem_of_getElem? (i := 3) rfl | exact List.mem_of_getElem? (i := 4) rfl | exact List.mem_of_getElem? (i := 5) rfl | exact List.mem_of_getElem? (i := 6) rfl | exact List.mem_of_getElem? (i := 7) rfl | exact List.mem_of_getElem? (i := 8) rfl
theorem kTag_nil (w : World) : kTag.C w none 0 [] := (Kd.R_reads' (Kd.R_nil kTag 0 w 0 (fun _ => True))).2.2
def l_FnFeatWords_T7 : Bool × List (List Nat × List Nat) := (true, [([], []), ([0], [0]), ([1], [1]), ([], []), ([3], [3]), ([4], [4]), ([2, 5], [2, 5]), ([6, 5, 0, 1, 2, 3, 4, 5, 6], [6])])
theorem l_FnFeatWords_t7 : rtab .any (opsOf Tryd.f4 7) = l_FnFeatWords_T7 := by kernel_rfl
set_option maxHeartbeats 8000000 in
theorem FnFeatWords_c (A : Option Addr) (c : Nat) (l : List Int) (w : World) (hl : (Kd.int .u8).C w A l.length l) (hn : (l.length : Int) ≤ 140737488351232) (hb : ∀ x ∈ l, 0 ≤ x ∧ x ≤ 255) (hc : l.length ≤ c) (hL : laidMetH Tryd.prog Rows.fnFeatWordsRow.laid w) (hS : w.ShapedOpen Tryd.prog) :
    Calls Tryd.prog 4 #[.slice A l.length c] w fun e w' => e = .returned (.bool true) ∧ Below w.heap.size w w' := by
  have T := fnFeatWords_tied hL hS
  clear hL hS
  by_cases hs : (l.length : Int) ≤ 1048576
  · have hd : decide ((1048576 : Int) < (l.length : Int)) = false := decide_eq_false (by omega)
    go_enter Tryd.func4, Tryd.ntmps4
    go_wp2_with fail
    refine (DrawFeatText_z A c l _ (Kd.C_below hl bl) hb hc (by omega)).mono ?_
    rintro e w1 ⟨f, A1, c1, B1, d1, rfl, hr1, ht1, hS1, hb1⟩
    clear hl hb
    have X1 := hS1.ftx (by decide)
    have hTg := Lib.hid hS1.txt
    have n1 := X1.pts
    have n2 := X1.tags
    have P1 := hr1.rd.2.2
    have Q1 := ht1.rd.2.2
    have HC : Cells (w1.alloc (.cells #[.string f.1, .int .i64 f.2.1.1, .slice A1 f.2.1.2.length c1, .slice B1 f.2.2.length d1] 34)) _ := (Cells.nil w1).box4 (Below.refl _ _)
    obtain ⟨h0, h1, h2, h3, _⟩ := HC.all
    have ti := fun w hp hq hT => iFeatText_c f A1 c1 B1 d1 w hp hq X1 hT
    have si := fun w hp hq => sFeatText_c f A1 c1 B1 d1 w hp hq X1
    have so := fun w hp hq => sFeatOk_c f A1 c1 B1 d1 w hp hq X1
    obtain ⟨t, hft⟩ : ∃ t, featT f = t := ⟨_, rfl⟩
    rw [hft] at ti si
    have Hft := Lib.hid hft
    have t1 := strB_t (rfl : t = t)
    have TI := Lib.hid ti
    have SI := Lib.hid si
    have n4 := hS1.tags
    clear hr1 ht1 hS1 ti si hft
    by_cases hok : FeatOk f
    · rw [featOk_t.2 hok] at so
      have SO := Lib.hid so
      have htx := featT_of hok
      rw [Hft.out] at htx
      have hz : t.size ≤ 139 := by rw [htx]; exact fullT_139 hok
      have sT := fun w h hT => iShapeT_c f.2.1.1 A1 c1 f.2.1.2 w h n1 hT
      rw [show shapeT f.2.1.1 f.2.1.2 = shText f.2.1.1 f.2.1.2 from if_pos hok.2.1] at sT
      have hzs := shText_76 hok.2.1
      have hzi := hok.1.1.2
      obtain ⟨sh, hsh⟩ : ∃ sh, shText f.2.1.1 f.2.1.2 = sh := ⟨_, rfl⟩
      rw [hsh] at sT hzs
      have ST := Lib.hid sT
      have hhd : (f.1 ++ ⟨#[32]⟩) ++ sh = headT f := by rw [← hsh]; rfl
      have Hhd := Lib.hid hhd
      have hle := head_le f
      have htk := head_take f
      rw [← htx] at hle htk
      have bt := fun w hp hq hT => iFeatText_c (f.1, f.2.1, []) A1 c1 none 0 w hp hq ⟨X1.id, X1.pts, Nat.zero_le _, fun t ht => by cases ht⟩ hT
      rw [bare_t hok] at bt
      simp only [featV, List.length_nil] at bt
      have hno1 := fun g hg => more_eq (g := g) hok hg
      have hno2 := fun g hg => more_sp (g := g) hok hg
      have hzz := fun g hg => more_zz (g := g) hok hg
      have hzo := fun h4 => ok_zz hok hTg.out h4
      have hzf := full_zz f
      rw [← htx] at hno1 hno2 hzz hzf
      have Hno1 := Lib.hid hno1
      have Hno2 := Lib.hid hno2
      have Hzz := Lib.hid hzz
      have Hzo := Lib.hid (And.intro hzo hzf)
      rw [← hhd] at bt hle htk
      have t2 := strB_t htk
      have BT := Lib.hid bt
      have zz1 : (⟨#[32]⟩ : ByteArray).size = 1 := rfl
      have zz3 : (⟨#[32, 61, 97]⟩ : ByteArray).size = 3 := rfl
      have zz5 : (⟨#[32, 122, 122, 61, 97]⟩ : ByteArray).size = 5 := rfl
      have y1 : (t ++ (⟨#[32, 61, 97]⟩ : ByteArray)).size ≤ 1048576 := by rw [ByteArray.size_append]; omega
      have y2 : (t ++ (⟨#[32]⟩ : ByteArray)).size ≤ 1048576 := by rw [ByteArray.size_append]; omega
      have y3 : (t ++ (⟨#[32, 122, 122, 61, 97]⟩ : ByteArray)).size ≤ 1048576 := by rw [ByteArray.size_append]; omega
      have zi : f.1.size ≤ 6 := hzi
      clear hok so htx sT hsh hhd bt htk hno1 hno2 hzz hzo hzf hzi X1 hTg
      go_wp2_with fail
      refine (TI.out _ (Kd.C_below P1 bl) (Kd.C_below Q1 bl) (T.to bl).td).mono ?_
      rintro e w2 ⟨rfl, hb2⟩
      replace HC := HC.to hb2
      clear h0 h1 h2 h3
      obtain ⟨h0, h1, h2, h3, _⟩ := HC.all
      go_wp2_with fail
      refine (SI.out _ (Kd.C_below P1 bl) (Kd.C_below Q1 bl)).mono ?_
      rintro e w3 ⟨rfl, hb3⟩
      replace HC := HC.to hb3
      clear h0 h1 h2 h3
      obtain ⟨h0, h1, h2, h3, _⟩ := HC.all
      go_wp2_with fail
      refine (SO.out _ (Kd.C_below P1 bl) (Kd.C_below Q1 bl)).mono ?_
      rintro e w4 ⟨rfl, hb4⟩
      replace HC := HC.to hb4
      clear h0 h1 h2 h3
      obtain ⟨h0, h1, h2, h3, _⟩ := HC.all
      go_wp2
      refine rgStart 8 [0, 1, 2, 3, 4, 5, 6, 7] l_FnFeatWords_t7 (fun HT HS => ?_)
      repeat ((with_reducible refine rgGate ?_); first | refine rgAdd HT ?_ | refine rgP HT ?_ | refine rgL HT ?_ | refine rgG HT ?_)
      refine rgCall HT Tryd.func16 (ST.out _ (Kd.C_below P1 bl) (T.to bl).td) ?_
      rintro e w5 ⟨rfl, hb5⟩
      refine ⟨_, rfl, bl, rgN ?_⟩
      repeat ((with_reducible refine rgGate ?_); first | refine rgAdd HT ?_ | refine rgP HT ?_ | refine rgL HT ?_ | refine rgG HT ?_)
      refine rgDone HT ?_
      clear HT HS
      replace HC := HC.to (bl : Below w4.heap.size w4 w5)
      have P5 : kPt.C w5 A1 f.2.1.2.length f.2.1.2 := Kd.C_below P1 bl
      have B5 : Below w.heap.size w w5 := bl
      have T5 := T.to B5
      clear h0 h1 h2 h3
      obtain ⟨h0, h1, h2, h3, _⟩ := HC.all
      go_upto_region 10 with (fail)
      replace HC : Cells (w5.alloc (.cells #[.string f.1, .int .i64 f.2.1.1, .slice A1 f.2.1.2.length c1, .slice none 0 0] 34)) _ := HC.box4 (Below.refl _ _)
      clear h0 h1 h2 h3
      obtain ⟨h0, h1, h2, h3, h4, h5, h6, h7, _⟩ := HC.all
      clear hb1 hb2 hb3 hb4 hb5 P1 Q1 T
      generalize hhh : (f.1 ++ (⟨#[32]⟩ : ByteArray)) ++ sh = hd_ at *
      go_wp2_with fail
      refine (iFeatRead_c (t ++ (⟨#[32, 61, 97]⟩ : ByteArray)) _ y1 (T5.to bl)).mono ?_
      rintro e w6 ⟨g1, A6, c6, B6, d6, b1, rfl, hr6, ht6, hb6, hX6, hy6, hf6⟩
      obtain rfl : b1 = false := by
        cases b1
        · rfl
        · exact absurd (hy6 rfl).2 (Hno1.out g1 (hy6 rfl).1)
      clear hr6 ht6 hX6 hy6 hf6
      replace HC : Cells (w6.alloc (.cells #[.string g1.1, .int .i64 g1.2.1.1, .slice A6 g1.2.1.2.length c6, .slice B6 g1.2.2.length d6] 34)) _ := (HC.to hb6).box4 (Below.refl _ _)
      clear h0 h1 h2 h3 h4 h5 h6 h7
      obtain ⟨h0, h1, h2, h3, h4, h5, h6, h7, h8, h9, h10, h11, _⟩ := HC.all
      go_wp2_with fail
      refine (iFeatRead_c (t ++ (⟨#[32]⟩ : ByteArray)) _ y2 (T5.to bl)).mono ?_
      rintro e w7 ⟨g2, A7, c7, B7, d7, b2, rfl, hr7, ht7, hb7, hX7, hy7, hf7⟩
      obtain rfl : b2 = false := by
        cases b2
        · rfl
        · exact absurd (hy7 rfl).2 (Hno2.out g2 (hy7 rfl).1)
      clear hr7 ht7 hX7 hy7 hf7
      replace HC : Cells (w7.alloc (.cells #[.string g2.1, .int .i64 g2.2.1.1, .slice A7 g2.2.1.2.length c7, .slice B7 g2.2.2.length d7] 34)) _ := (HC.to hb7).box4 (Below.refl _ _)
      clear h0 h1 h2 h3 h4 h5 h6 h7 h8 h9 h10 h11
      obtain ⟨h0, h1, h2, h3, h4, h5, h6, h7, h8, h9, h10, h11, h12, h13, h14, h15, _⟩ := HC.all
      go_wp2_with fail
      refine (iFeatRead_c (t ++ (⟨#[32, 122, 122, 61, 97]⟩ : ByteArray)) _ y3 (T5.to bl)).mono ?_
      rintro e w8 ⟨g3, A8, c8, B8, d8, b3, rfl, hr8, ht8, hb8, hX8, hy8, hf8⟩
      have hzb : (b3 = true → f.2.2.length < 4 ∧ g3.2.2.length = f.2.2.length + 1) ∧ (b3 = false → 4 ≤ f.2.2.length) := by
        constructor
        · intro e
          have h1 := Hzz.out g3 (hy8 e).1 (hy8 e).2
          have h2 : g3.2.2.length ≤ 4 := (hy8 e).1.2.2.2
          exact ⟨by omega, h1⟩
        · intro e
          rcases Nat.lt_or_ge f.2.2.length 4 with h4 | h4
          · exact absurd Hzo.out.2 ((hf8 e).2 _ (Hzo.out.1 h4))
          · exact h4
      have ng := hX8.tags
      have P8 : kPt.C w8 A1 f.2.1.2.length f.2.1.2 := Kd.C_below P5 bl
      have T8 : TiedR w8 := T5.to bl
      have B8_ : Below w.heap.size w w8 := B5.trans ((bl : Below w5.heap.size w5 w8).mono B5.size)
      clear hr8 ht8 hX8 hy8 hf8
      replace HC : Cells (w8.alloc (.cells #[.string g3.1, .int .i64 g3.2.1.1, .slice A8 g3.2.1.2.length c8, .slice B8 g3.2.2.length d8] 34)) _ := (HC.to hb8).box4 (Below.refl _ _)
      clear h0 h1 h2 h3 h4 h5 h6 h7 h8 h9 h10 h11 h12 h13 h14 h15
      obtain ⟨h0, h1, h2, h3, h4, h5, h6, h7, h8, h9, h10, h11, h12, h13, h14, h15, h16, h17, h18, h19, _⟩ := HC.all
      have k1 : decide ((hd_.size : Int) ≤ (t.size : Int)) = true := decide_eq_true (by omega)
      have hw : IntKind.i64.wrap ((f.2.2.length : Int) + 1) = (f.2.2.length : Int) + 1 := IntWalk.i64_in _ (by omega)
      cases b3
      · have k2 : decide ((f.2.2.length : Int) < 4) = false := decide_eq_false (by have := hzb.2 rfl; omega)
        clear hzb
        go_wp2_with fail
        refine (BT.out _ (Kd.C_below P8 bl) (kTag_nil _) (T8.to bl).td).mono ?_
        rintro e w9 ⟨rfl, hb9⟩
        replace HC := HC.to hb9
        clear h0 h1 h2 h3 h4 h5 h6 h7 h8 h9 h10 h11 h12 h13 h14 h15 h16 h17 h18 h19
        obtain ⟨h0, h1, h2, h3, h4, h5, h6, h7, h8, h9, h10, h11, h12, h13, h14, h15, h16, h17, h18, h19, _⟩ := HC.all
        go_wp2
        go_ret
        exact ⟨rfl, B8_.trans ((bl : Below w8.heap.size w8 w9).mono B8_.size)⟩
      · have k2 : decide ((f.2.2.length : Int) < 4) = true := decide_eq_true (by have := (hzb.1 rfl).1; omega)
        have k3 : ((g3.2.2.length : Int) == (f.2.2.length : Int) + 1) = true := beq_iff_eq.mpr (by have := (hzb.1 rfl).2; omega)
        clear hzb
        go_wp2_with fail
        refine (BT.out _ (Kd.C_below P8 bl) (kTag_nil _) (T8.to bl).td).mono ?_
        rintro e w9 ⟨rfl, hb9⟩
        replace HC := HC.to hb9
        clear h0 h1 h2 h3 h4 h5 h6 h7 h8 h9 h10 h11 h12 h13 h14 h15 h16 h17 h18 h19
        obtain ⟨h0, h1, h2, h3, h4, h5, h6, h7, h8, h9, h10, h11, h12, h13, h14, h15, h16, h17, h18, h19, _⟩ := HC.all
        go_wp2
        go_ret
        exact ⟨rfl, B8_.trans ((bl : Below w8.heap.size w8 w9).mono B8_.size)⟩
    · rw [featOk_f.2 hok] at so
      have SO := Lib.hid so
      clear hok so X1 hTg
      go_wp2_with fail
      refine (TI.out _ (Kd.C_below P1 bl) (Kd.C_below Q1 bl) (T.to bl).td).mono ?_
      rintro e w2 ⟨rfl, hb2⟩
      replace HC := HC.to hb2
      clear h0 h1 h2 h3
      obtain ⟨h0, h1, h2, h3, _⟩ := HC.all
      go_wp2_with fail
      refine (SI.out _ (Kd.C_below P1 bl) (Kd.C_below Q1 bl)).mono ?_
      rintro e w3 ⟨rfl, hb3⟩
      replace HC := HC.to hb3
      clear h0 h1 h2 h3
      obtain ⟨h0, h1, h2, h3, _⟩ := HC.all
      go_wp2_with fail
      refine (SO.out _ (Kd.C_below P1 bl) (Kd.C_below Q1 bl)).mono ?_
      rintro e w4 ⟨rfl, hb4⟩
      replace HC := HC.to hb4
      clear h0 h1 h2 h3
      obtain ⟨h0, h1, h2, h3, _⟩ := HC.all
      go_wp2_with fail
      refine (SI.out _ (Kd.C_below P1 bl) (Kd.C_below Q1 bl)).mono ?_
      rintro e w5 ⟨rfl, hb5⟩
      go_wp2
      go_ret
      exact ⟨rfl, bl⟩
  · have hd : decide ((1048576 : Int) < (l.length : Int)) = true := decide_eq_true (by omega)
    go_enter Tryd.func4, Tryd.ntmps4
    go_wp2
    go_ret
    exact ⟨rfl, bl⟩
end Go.Proofs.YtgdgnlpohnpgiaaDoor
