/- Law: a drawn shape that is ok is read from its text; a drawn text that is read is that of what was read. -/
import Derived.Test.YtfbhjknkofnohaaDoorRf
import Derived.Test.YtfbhjknkofnohaaDoorRg
import Derived.Test.YtfbhjknkofnohaaDoorEc
import Derived.Test.YtfbhjknkofnohaaDoorLShapeRead
namespace Go.Proofs.YtfbhjknkofnohaaDoor
open Go.RowKit Go.ChangeShapes Go.Proofs.YtfbhjknkofnohaaDoorW.PrintWords Go.Proofs.YtfbhjknkofnohaaDoorW.PrintLast
set_option maxRecDepth 100000
set_option linter.unusedVariables false
set_option linter.unusedSimpArgs false
theorem fnShape_tied {w : World} (h : laidMetH Tryd.prog Rows.fnShapeRow.laid w) (hS : w.ShapedOpen Tryd.prog) : TiedR w := by
  rw [MakeChecks.laidMetH_plain _ _ _ (by kernel_rfl)] at h
  refine TiedR.of (Tied.of h ?_ ?_) hS h
  all_goals first | exact List.mem_of_getElem? (i := 0) rfl | exact List.mem_of_getElem? (i := 1) rfl | exact List.mem_of_getElem? (i := 2) rfl | exact List.mem_of_getElem? (i := 3) rfl | exact List.mem_of_getElem? (i := 4) rfl | exact List.mem_of_getElem? (i := 5) rfl | exact List.mem_of_getElem? (i := 6) rfl | exact List.mem_of_getElem? (i := 7) rfl | exact List.mem_of_getElem? (i := 8) rfl
/-- The text of a shape is read back just if it is ok. -/
theorem sh_back {K K2 : Int} {p p2 : List Pt} {b : Bool} (h1 : b = true → ShapeOk K2 p2 ∧ shapeT K p = shText K2 p2) (h2 : b = false → K2 = 0 ∧ p2 = [] ∧ ∀ K' l', ShapeOk K' l' → shapeT K p ≠ shText K' l') :
    b = shapeOk K p ∧ (b = true → K2 = K ∧ p2 = p) := by
  by_cases hok : ShapeOk K p
  · have e : shapeT K p = shText K p := if_pos hok
    rw [shapeOk_t.2 hok]
    cases b
    · exact absurd e ((h2 rfl).2.2 K p hok)
    · refine ⟨rfl, fun _ => ?_⟩
      obtain ⟨e1, e2⟩ := shText_inj (h1 rfl).1 hok ((h1 rfl).2.symm.trans e)
      exact ⟨e1, e2⟩
  · have e : shapeT K p = ⟨#[]⟩ := if_neg hok
    rw [shapeOk_f.2 hok]
    cases b
    · exact ⟨rfl, fun h => by cases h⟩
    · have h3 := shText_pos (h1 rfl).1
      rw [← (h1 rfl).2, e] at h3
      exact absurd h3 (by decide)
def l_FnShape_T6 : Bool × List (List Nat × List Nat) := (true, [([], []), ([], []), ([1], [1]), ([0, 2], [0, 2]), ([3, 2], [3]), ([4], [4]), ([5, 4, 4], [4, 5]), ([4], [4]), ([7, 6, 4], [4, 7]), ([6, 8, 4], [4, 6, 8]), ([4, 9], [4, 9]), ([10, 8], [10]), ([11], [11]), ([11], [11]), ([13, 11, 11], [11, 13]), ([12, 14, 11], [11, 12, 14]), ([11, 15], [11, 15]), ([16, 14], [16]), ([17], [17]), ([18, 17, 17], [17, 18]), ([19], [19]), ([19], [19]), ([20, 21, 19, 19], [19, 20, 21]), ([22, 19], [19, 22]), ([19, 23, 17], [17, 19, 23]), ([17, 24], [17, 24])])
theorem l_FnShape_t6 : rtab .any (opsOf Tryd.f5 6) = l_FnShape_T6 := by kernel_rfl
def l_FnShape_T12 : Bool × List (List Nat × List Nat) := (true, [([], []), ([], []), ([0, 1], [0, 1]), ([2], [2]), ([3], [3]), ([4, 3], [3, 4]), ([5, 3, 3], [3, 5]), ([6], [6]), ([7, 6, 6], [6, 7]), ([6], [6]), ([8, 9, 6], [6, 8, 9]), ([10, 8, 6], [6, 10]), ([11], [11]), ([12, 11, 11], [11, 12]), ([11, 13, 6], [6, 11, 13]), ([6, 14, 3], [3, 6, 14]), ([3, 15], [3, 15]), ([16, 13], [16]), ([17], [17]), ([17], [17]), ([18, 19, 17, 17], [17, 18, 19]), ([17], [17]), ([17], [17]), ([21, 22, 20, 17], [17, 21, 22]), ([20, 23, 17], [17, 20, 23]), ([17, 24], [17, 24]), ([25, 23], [25]), ([26], [26]), ([26], [26]), ([27, 28, 26, 26], [26, 27, 28]), ([26, 29], [26, 29]), ([30, 29, 0, 1, 2, 3, 4, 5, 6, 7, 8, 9, 10, 11, 12, 13, 14, 15, 16, 17, 18, 19, 20, 21, 22, 23, 24, 25, 26, 27, 28, 29, 30], [30])])
theorem l_FnShape_t12 : rtab .any (opsOf Tryd.f5 12) = l_FnShape_T12 := by kernel_rfl
set_option maxHeartbeats 8000000 in
theorem FnShape_c (A : Option Addr) (c : Nat) (l : List Int) (B : Option Addr) (d : Nat) (m : List Int) (w : World) (hl : (Kd.int .u8).C w A l.length l) (hn : (l.length : Int) ≤ 140737488351232) (hb : ∀ x ∈ l, 0 ≤ x ∧ x ≤ 255) (hc : l.length ≤ c)
    (hl' : (Kd.int .u8).C w B m.length m) (hn' : (m.length : Int) ≤ 140737488351232) (hb' : ∀ x ∈ m, 0 ≤ x ∧ x ≤ 255) (hc' : m.length ≤ d) (hL : laidMetH Tryd.prog Rows.fnShapeRow.laid w) (hS : w.ShapedOpen Tryd.prog) :
    Calls Tryd.prog 5 #[.slice A l.length c, .slice B m.length d] w fun e w' => e = .returned (.bool true) ∧ Below w.heap.size w w' := by
  have T := fnShape_tied hL hS
  clear hL hS
  by_cases hs : (l.length : Int) ≤ 1048576
  · have hd : decide ((1048576 : Int) < (l.length : Int)) = false := decide_eq_false (by omega)
    by_cases hs2 : (m.length : Int) ≤ 1048576
    · have hd2 : decide ((1048576 : Int) < (m.length : Int)) = false := decide_eq_false (by omega)
      go_enter Tryd.func5, Tryd.ntmps5
      go_wp2_with fail
      refine (DrawShapeText_d A c l _ (Kd.C_below hl bl) hb hc (by omega)).mono ?_
      rintro e w1 ⟨K, A1, c1, p, rfl, hr1, hp1, hK0, hK4, hb1⟩
      have n1 : p.length ≤ 1048576 := by omega
      have HC : Cells (w1.alloc (.cells #[.int .i64 K, .slice A1 p.length c1] 30)) _ := (Cells.nil w1).box (Below.refl _ _)
      have Bw1 : Below w.heap.size w (w1.alloc (.cells #[.int .i64 K, .slice A1 p.length c1] 30)) := bl
      have P1 := Kd.C_below hr1.rd.2.2 (below_alloc (Below.refl _ _) (.cells #[.int .i64 K, .slice A1 p.length c1] 30))
      clear hr1
      obtain ⟨h0, h1, _⟩ := HC.all
      go_wp2_with fail
      refine (iShapeT_c K A1 c1 p _ P1 n1 (T.to Bw1).td).mono ?_
      rintro e w2 ⟨rfl, hb2⟩
      have hz := shapeT_76 K p
      replace HC := HC.to hb2
      have Bw2 := Bw1.trans (hb2.mono Bw1.size)
      have P2 := Kd.C_below P1 hb2
      clear Bw1 P1 hb2
      clear h0 h1
      obtain ⟨h0, h1, _⟩ := HC.all
      go_wp2_with fail
      refine (iShapeRead_c (shapeT K p) _ (by omega) (T.to Bw2)).mono ?_
      rintro e w3 ⟨K2, A2, c2, p2, bx, rfl, hr3, hb3, hn3, ht3, hf3⟩
      have Hbk := Lib.hid (sh_back ht3 hf3)
      clear ht3 hf3
      replace HC : Cells (w3.alloc (.cells #[.int .i64 K2, .slice A2 p2.length c2] 30)) _ := (HC.to hb3).box (Below.refl _ _)
      have b34 : Below w3.heap.size w3 (w3.alloc (.cells #[.int .i64 K2, .slice A2 p2.length c2] 30)) := below_alloc (Below.refl _ _) _
      have Bw3 := Bw2.trans ((hb3.trans (b34.mono hb3.size)).mono Bw2.size)
      have P3 := Kd.C_below (Kd.C_below P2 hb3) b34
      have Q3 := Kd.C_below hr3.rd.2.2 b34
      have s1 : (w3.alloc (.cells #[.int .i64 K2, .slice A2 p2.length c2] 30)).heap.size = w3.heap.size + 1 := by simp
      clear Bw2 P2 hb3 hr3 b34
      clear h0 h1
      obtain ⟨h0, h1, h2, h3, _⟩ := HC.all
      go_upto_region 6 with (fail)
      generalize w3.alloc (.cells #[.int .i64 K2, .slice A2 p2.length c2] 30) = w4 at *
      have sT := sShapeT_c K A1 c1 p
      have t1 := strB_t (rfl : shapeT K p = shapeT K p)
      have iO := fun w h => iShapeOk_c K A1 c1 p w h n1
      have sO := fun w h => sShapeOk_c K A1 c1 p w h n1
      have sS := fun w h h' => iShapeSame_c K2 K A2 A1 c2 c1 p2 p w h h' hn3 n1
      have ST := Lib.hid sT
      generalize shapeT K p = st at *
      obtain ⟨ok, e⟩ : ∃ ok, shapeOk K p = ok := ⟨_, rfl⟩
      rw [e] at iO sO
      have Hok := Lib.hid e
      obtain rfl : bx = ok := Hbk.out.1.trans e
      have IOk := Lib.hid iO
      have SO := Lib.hid sO
      clear iO sO sT e
      have t2 : (bx != bx) = false := by cases bx <;> rfl
      go_cut [58] (fun q58 wc => q58 = .bool false ∧ Aside0 (Below w4.heap.size w4 wc))
      case first =>
        cases bx with
        | false =>
          clear sS
          refine rgStart 26 [0, 1, 2, 3, 4, 5, 7, 6, 8, 9, 10, 11, 12, 13, 14, 15, 16, 17, 18, 19, 20, 21, 22, 23, 24, 25] l_FnShape_t6 (fun HT HS => ?_)
          repeat ((with_reducible refine rgGate ?_); first | refine rgP HT ?_ | refine rgL HT ?_ | refine rgG HT ?_)
          refine rgCall HT Tryd.func18 (ST.out _ (Kd.C_below P3 bl) n1) ?_
          rintro e q1 ⟨rfl, hq1⟩
          refine ⟨_, rfl, bl, rgN ?_⟩
          repeat ((with_reducible refine rgGate ?_); first | refine rgP HT ?_ | refine rgL HT ?_ | refine rgG HT ?_)
          refine rgCall HT Tryd.func19 (IOk.out _ (Kd.C_below P3 bl)) ?_
          rintro e q2 ⟨rfl, hq2⟩
          refine ⟨_, rfl, bl, rgN ?_⟩
          repeat ((with_reducible refine rgGate ?_); first | refine rgP HT ?_ | refine rgL HT ?_ | refine rgG HT ?_)
          refine rgCall HT Tryd.func20 (SO.out _ (Kd.C_below P3 bl)) ?_
          rintro e q3 ⟨rfl, hq3⟩
          refine ⟨_, rfl, bl, rgN ?_⟩
          repeat ((with_reducible refine rgGate ?_); first | refine rgP HT ?_ | refine rgL HT ?_ | refine rgG HT ?_)
          refine rgCall HT Tryd.func20 (SO.out _ (Kd.C_below P3 bl)) ?_
          rintro e q4 ⟨rfl, hq4⟩
          refine ⟨_, rfl, bl, rgN ?_⟩
          repeat ((with_reducible refine rgGate ?_); first | refine rgP HT ?_ | refine rgL HT ?_ | refine rgG HT ?_)
          refine rgDone HT ?_
          clear HT HS
          go_wp2
          go_meet
          case rel => exact ⟨rfl, ⟨bl⟩⟩
        | true =>
          obtain ⟨rfl, rfl⟩ := Hbk.out.2 rfl
          rw [eqB_t.2 rfl] at sS
          have SS := Lib.hid sS
          clear sS
          refine rgStart 26 [0, 1, 2, 3, 4, 5, 7, 6, 8, 9, 10, 11, 12, 13, 14, 15, 16, 17, 18, 19, 20, 21, 22, 23, 24, 25] l_FnShape_t6 (fun HT HS => ?_)
          repeat ((with_reducible refine rgGate ?_); first | refine rgP HT ?_ | refine rgL HT ?_ | refine rgG HT ?_)
          refine rgCall HT Tryd.func18 (ST.out _ (Kd.C_below P3 bl) n1) ?_
          rintro e q1 ⟨rfl, hq1⟩
          refine ⟨_, rfl, bl, rgN ?_⟩
          repeat ((with_reducible refine rgGate ?_); first | refine rgP HT ?_ | refine rgL HT ?_ | refine rgG HT ?_)
          refine rgCall HT Tryd.func19 (IOk.out _ (Kd.C_below P3 bl)) ?_
          rintro e q2 ⟨rfl, hq2⟩
          refine ⟨_, rfl, bl, rgN ?_⟩
          repeat ((with_reducible refine rgGate ?_); first | refine rgP HT ?_ | refine rgL HT ?_ | refine rgG HT ?_)
          refine rgCall HT Tryd.func20 (SO.out _ (Kd.C_below P3 bl)) ?_
          rintro e q3 ⟨rfl, hq3⟩
          refine ⟨_, rfl, bl, rgN ?_⟩
          repeat ((with_reducible refine rgGate ?_); first | refine rgP HT ?_ | refine rgL HT ?_ | refine rgG HT ?_)
          refine rgCall HT Tryd.func20 (SO.out _ (Kd.C_below P3 bl)) ?_
          rintro e q4 ⟨rfl, hq4⟩
          refine ⟨_, rfl, bl, rgN ?_⟩
          repeat ((with_reducible refine rgGate ?_); first | refine rgP HT ?_ | refine rgL HT ?_ | refine rgG HT ?_)
          refine rgCall HT Tryd.func21 (SS.out _ (Kd.C_below Q3 bl) (Kd.C_below P3 bl)) ?_
          rintro e q5 ⟨rfl, hq5⟩
          refine ⟨_, rfl, bl, rgN ?_⟩
          repeat ((with_reducible refine rgGate ?_); first | refine rgP HT ?_ | refine rgL HT ?_ | refine rgG HT ?_)
          refine rgDone HT ?_
          clear HT HS
          go_wp2
          go_meet
          case rel => exact ⟨rfl, ⟨bl⟩⟩
      case rest =>
        obtain ⟨rfl, ⟨B4c⟩⟩ := hcut
        have Bwc := Bw3.trans (B4c.mono Bw3.size)
        clear h0 h1 h2 h3 HC P3 Q3 B4c Bw3 sS
        go_wp2_with fail
        refine (DrawShapeRead_d B d m _ (Kd.C_below hl' Bwc) hb' hc' (by omega)).mono ?_
        rintro e x1 ⟨text, rfl, hzt, hx1⟩
        have Bx1 := Bwc.trans (hx1.mono Bwc.size)
        clear Bwc hx1
        go_wp2_with fail
        refine (iShapeRead_c text _ (by omega) (T.to Bx1)).mono ?_
        rintro e x2 ⟨K4, A4, c4, p4, b4, rfl, hr4, hx2, hn4, ht4, hf4⟩
        have HC : Cells (x2.alloc (.cells #[.int .i64 K4, .slice A4 p4.length c4] 30)) _ := (Cells.nil x2).box (Below.refl _ _)
        have a2 := below_alloc (Below.refl x2.heap.size x2) (.cells #[.int .i64 K4, .slice A4 p4.length c4] 30)
        have Bx2 := (Bx1.trans (hx2.mono Bx1.size)).trans (a2.mono (Bx1.trans (hx2.mono Bx1.size)).size)
        have P4 := Kd.C_below hr4.rd.2.2 a2
        have H4 := Lib.hid (And.intro ht4 hf4)
        clear hr4 hx2 a2 Bx1 ht4 hf4
        obtain ⟨h0, h1, _⟩ := HC.all
        go_wp2_with fail
        refine (sShapeRead_c text _ (by omega)).mono ?_
        rintro e x3 ⟨K5, A5, c5, p5, b5, rfl, hr5, hx3, hn5, ht5, hf5⟩
        obtain ⟨rfl, rfl, rfl⟩ := sh_agree H4.out.1 H4.out.2 ht5 hf5
        have HK4 := Lib.hid ht5
        replace HC : Cells (x3.alloc (.cells #[.int .i64 K4, .slice A5 p4.length c5] 30)) _ := (HC.to hx3).box (Below.refl _ _)
        have a3 := below_alloc (Below.refl x3.heap.size x3) (.cells #[.int .i64 K4, .slice A5 p4.length c5] 30)
        have Bx3 := (Bx2.trans (hx3.mono Bx2.size)).trans (a3.mono (Bx2.trans (hx3.mono Bx2.size)).size)
        have P5 := Kd.C_below (Kd.C_below P4 hx3) a3
        clear hr5 ht5 hf5 H4 hx3 a3 P4 Bx2
        clear h0 h1
        obtain ⟨h0, h1, h2, h3, _⟩ := HC.all
        go_wp2_with fail
        refine (DrawShapeSame_d A c l _ (Kd.C_below hl Bx3) hb hc (by omega)).mono ?_
        rintro e x4 ⟨K6, A6, c6, p6, K7, A7, c7, p7, rfl, P6, P7, h6_, h7_, hx4⟩
        have b4_ : Below x4.heap.size x4 ((x4.alloc (.cells #[.int .i64 K6, .slice A6 p6.length c6] 30)).alloc (.cells #[.int .i64 K7, .slice A7 p7.length c7] 30)) := bl
        replace HC : Cells ((x4.alloc (.cells #[.int .i64 K6, .slice A6 p6.length c6] 30)).alloc (.cells #[.int .i64 K7, .slice A7 p7.length c7] 30)) _ := ((HC.to hx4).box bl).box (Below.refl _ _)
        simp only [World.size_alloc] at HC
        have Bx4 := (Bx3.trans (hx4.mono Bx3.size)).trans (b4_.mono (Bx3.trans (hx4.mono Bx3.size)).size)
        have P5z := Kd.C_below (Kd.C_below P5 hx4) b4_
        have P6z := Kd.C_below P6 b4_
        have P7z := Kd.C_below P7 b4_
        clear P5 P6 P7 hx4 b4_ Bx3
        clear h0 h1 h2 h3
        obtain ⟨h0, h1, h2, h3, h4, h5, h6, h7, _⟩ := HC.all
        go_upto_region 12 with (fail)
        generalize (x4.alloc (.cells #[.int .i64 K6, .slice A6 p6.length c6] 30)).alloc (.cells #[.int .i64 K7, .slice A7 p7.length c7] 30) = x5 at *
        have n6 : p6.length ≤ 1048576 := by omega
        have n7 : p7.length ≤ 1048576 := by omega
        have iab := fun w h h' => iShapeSame_c K6 K7 A6 A7 c6 c7 p6 p7 w h h' n6 n7
        have sab := fun w h h' => sShapeSame_c K6 K7 A6 A7 c6 c7 p6 p7 w h h' n6 n7
        have iaa := fun w h h' => iShapeSame_c K6 K6 A6 A6 c6 c6 p6 p6 w h h' n6 n6
        rw [eqB_t.2 rfl] at iaa
        obtain ⟨e1, he1⟩ : ∃ b, eqB ((K6, p6) : Int × List Pt) (K7, p7) = b := ⟨_, rfl⟩
        rw [he1] at iab sab
        have IAB := Lib.hid iab
        have SAB := Lib.hid sab
        have IAA := Lib.hid iaa
        clear iab sab iaa he1
        have t3 : (e1 == e1) = true := by cases e1 <;> rfl
        have t4 : (b4 == b4) = true := by cases b4 <;> rfl
        have t5 := strB_t (rfl : text = text)
        have T5 := T.to Bx4
        cases b4 with
        | false =>
          refine rgStart 32 [0, 1, 2, 3, 4, 5, 6, 7, 9, 8, 10, 11, 12, 13, 14, 15, 16, 17, 18, 19, 21, 22, 20, 23, 24, 25, 26, 27, 28, 29, 30, 31] l_FnShape_t12 (fun HT HS => ?_)
          repeat ((with_reducible refine rgGate ?_); first | refine rgP HT ?_ | refine rgL HT ?_ | refine rgG HT ?_)
          refine rgCall HT Tryd.func21 (IAB.out _ (Kd.C_below P6z bl) (Kd.C_below P7z bl)) ?_
          rintro e z1 ⟨rfl, hz1⟩
          refine ⟨_, rfl, bl, rgN ?_⟩
          repeat ((with_reducible refine rgGate ?_); first | refine rgP HT ?_ | refine rgL HT ?_ | refine rgG HT ?_)
          refine rgCall HT Tryd.func24 (SAB.out _ (Kd.C_below P6z bl) (Kd.C_below P7z bl)) ?_
          rintro e z2 ⟨rfl, hz2⟩
          refine ⟨_, rfl, bl, rgN ?_⟩
          repeat ((with_reducible refine rgGate ?_); first | refine rgP HT ?_ | refine rgL HT ?_ | refine rgG HT ?_)
          refine rgCall HT Tryd.func21 (IAA.out _ (Kd.C_below P6z bl) (Kd.C_below P6z bl)) ?_
          rintro e z3 ⟨rfl, hz3⟩
          refine ⟨_, rfl, bl, rgN ?_⟩
          repeat ((with_reducible refine rgGate ?_); first | refine rgP HT ?_ | refine rgL HT ?_ | refine rgG HT ?_)
          refine rgDone HT ?_
          clear HT HS
          go_wp2
          go_ret
          exact ⟨rfl, bl⟩
        | true =>
          obtain ⟨y1, y2⟩ := HK4.out rfl
          have it := fun w h h' => iShapeT_c K4 A4 c4 p4 w h hn4 h'
          rw [show shapeT K4 p4 = text from (if_pos y1).trans y2.symm] at it
          have io := fun w h => iShapeOk_c K4 A4 c4 p4 w h hn4
          rw [shapeOk_t.2 y1] at io
          have IT := Lib.hid it
          have IO2 := Lib.hid io
          clear it io y1 y2
          refine rgStart 32 [0, 1, 2, 3, 4, 5, 6, 7, 9, 8, 10, 11, 12, 13, 14, 15, 16, 17, 18, 19, 21, 22, 20, 23, 24, 25, 26, 27, 28, 29, 30, 31] l_FnShape_t12 (fun HT HS => ?_)
          repeat ((with_reducible refine rgGate ?_); first | refine rgP HT ?_ | refine rgL HT ?_ | refine rgG HT ?_)
          refine rgCall HT Tryd.func17 (IT.out _ (Kd.C_below P5z bl) (T5.to bl).td) ?_
          rintro e z4 ⟨rfl, hz4⟩
          refine ⟨_, rfl, bl, rgN ?_⟩
          repeat ((with_reducible refine rgGate ?_); first | refine rgP HT ?_ | refine rgL HT ?_ | refine rgG HT ?_)
          refine rgCall HT Tryd.func19 (IO2.out _ (Kd.C_below P5z bl)) ?_
          rintro e z5 ⟨rfl, hz5⟩
          refine ⟨_, rfl, bl, rgN ?_⟩
          repeat ((with_reducible refine rgGate ?_); first | refine rgP HT ?_ | refine rgL HT ?_ | refine rgG HT ?_)
          refine rgCall HT Tryd.func21 (IAB.out _ (Kd.C_below P6z bl) (Kd.C_below P7z bl)) ?_
          rintro e z1 ⟨rfl, hz1⟩
          refine ⟨_, rfl, bl, rgN ?_⟩
          repeat ((with_reducible refine rgGate ?_); first | refine rgP HT ?_ | refine rgL HT ?_ | refine rgG HT ?_)
          refine rgCall HT Tryd.func24 (SAB.out _ (Kd.C_below P6z bl) (Kd.C_below P7z bl)) ?_
          rintro e z2 ⟨rfl, hz2⟩
          refine ⟨_, rfl, bl, rgN ?_⟩
          repeat ((with_reducible refine rgGate ?_); first | refine rgP HT ?_ | refine rgL HT ?_ | refine rgG HT ?_)
          refine rgCall HT Tryd.func21 (IAA.out _ (Kd.C_below P6z bl) (Kd.C_below P6z bl)) ?_
          rintro e z3 ⟨rfl, hz3⟩
          refine ⟨_, rfl, bl, rgN ?_⟩
          repeat ((with_reducible refine rgGate ?_); first | refine rgP HT ?_ | refine rgL HT ?_ | refine rgG HT ?_)
          refine rgDone HT ?_
          clear HT HS
          go_wp2
          go_ret
          exact ⟨rfl, bl⟩
    · have hd2 : decide ((1048576 : Int) < (m.length : Int)) = true := decide_eq_true (by omega)
      go_enter Tryd.func5, Tryd.ntmps5
      go_wp2
      go_ret
      exact ⟨rfl, bl⟩
  · have hd : decide ((1048576 : Int) < (l.length : Int)) = true := decide_eq_true (by omega)
    go_enter Tryd.func5, Tryd.ntmps5
    go_wp2
    go_ret
    exact ⟨rfl, bl⟩
end Go.Proofs.YtfbhjknkofnohaaDoor
