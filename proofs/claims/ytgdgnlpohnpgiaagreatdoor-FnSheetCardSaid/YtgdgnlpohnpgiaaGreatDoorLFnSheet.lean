/- Law: a drawn map that is ok is read from its text; a drawn text that is read is that of what was read. -/
import Derived.Test.YtgdgnlpohnpgiaaGreatDoorSv
import Derived.Test.YtgdgnlpohnpgiaaGreatDoorRl
namespace Go.Proofs.YtgdgnlpohnpgiaaGreatDoor
open Go.RowKit Go.ChangeShapes Go.Proofs.YtgdgnlpohnpgiaaGreatDoorW.PrintWords Go.Proofs.YtgdgnlpohnpgiaaGreatDoorW.PrintLast
set_option maxRecDepth 100000
set_option linter.unusedVariables false
set_option linter.unusedSimpArgs false
theorem fnSheet_tied {w : World} (h : laidMetH Tryz.prog Rows.fnSheetRow.laid w) (hS : w.ShapedOpen Tryz.prog) : TiedR w := by
  rw [MakeChecks.laidMetH_plain _ _ _ (by kernel_rfl)] at h
  refine TiedR.of (Tied.of h ?_ ?_) hS h
  all_goals first | exact List.mem_of_getElem? (i := 0) rfl | exact List.mem_of_getElem? (i := 1) rfl | exact List.mem_of_getElem? (i := 2) rfl | exact List.mem_of_getElem? (i := 3) rfl | exact List.mem_of_getElem? (i := 4) rfl | exact List.mem_of_getElem? (i := 5) rfl | exact List.mem_of_getElem? (i := 6) rfl | exact List.mem_of_getElem? (i := 7) rfl | exact List.mem_of_getElem? (i := 8) rfl
theorem sm_few {l : List FeatD} (h : ∀ f ∈ l, FSm 4 f) (hn : l.length ≤ 20) : Few l := ⟨by omega, fun f hf => by have h1 := (h f hf).pts; have h2 := (h f hf).tags; omega⟩
set_option maxHeartbeats 8000000 in
theorem FnSheet_c (A : Option Addr) (c : Nat) (l : List Int) (B : Option Addr) (d : Nat) (m : List Int) (w : World) (hl : (Kd.int .u8).C w A l.length l) (hn : (l.length : Int) ≤ 140737488351232) (hb : ∀ x ∈ l, 0 ≤ x ∧ x ≤ 255) (hc : l.length ≤ c)
    (hl' : (Kd.int .u8).C w B m.length m) (hn' : (m.length : Int) ≤ 140737488351232) (hb' : ∀ x ∈ m, 0 ≤ x ∧ x ≤ 255) (hc' : m.length ≤ d) (hL : laidMetH Tryz.prog Rows.fnSheetRow.laid w) (hS : w.ShapedOpen Tryz.prog) :
    Calls Tryz.prog 4 #[.slice A l.length c, .slice B m.length d] w fun e w' => e = .returned (.bool true) ∧ Below w.heap.size w w' := by
  have T := fnSheet_tied hL hS
  clear hL hS
  by_cases hs : (l.length : Int) ≤ 1048576
  · have hd : decide ((1048576 : Int) < (l.length : Int)) = false := decide_eq_false (by omega)
    by_cases hs2 : (m.length : Int) ≤ 1048576
    · have hd2 : decide ((1048576 : Int) < (m.length : Int)) = false := decide_eq_false (by omega)
      go_enter Tryz.func4, Tryz.ntmps4
      go_wp2_with fail
      refine (DrawSheetText_d A c l _ (Kd.C_below hl bl) hb hc (by omega)).mono ?_
      rintro e w1 ⟨s, D1, d1, rfl, hd1, C1, hs1, hn1, hb1⟩
      have X1 : ∀ f ∈ s, FTx f := fun f hf => (hs1 f hf).ftx (by decide)
      have F1 := Lib.hid (sm_few hs1 hn1)
      have n1 : s.length ≤ 1048576 := by omega
      go_wp2_with fail
      refine (iSheetText_c D1 d1 s _ C1 n1 X1 (T.to hb1).td).mono ?_
      rintro e w2 ⟨rfl, hb2⟩
      have hz := sheetT_size s
      have Bw2 := hb1.trans (hb2.mono hb1.size)
      have C2 := Kd.C_below C1 hb2
      obtain ⟨st, hst⟩ : ∃ st, sheetT s = st := ⟨_, rfl⟩
      rw [hst] at hz
      have Hst := Lib.hid hst
      simp only [hst]
      clear hst hb1 hb2 C1 hs1
      go_wp2_with fail
      refine (iSheetRead_c st _ (by omega) (T.to Bw2)).mono ?_
      rintro e w3 ⟨x, A2, c2, bx, rfl, hs3, hb3, hy3, hf3⟩
      have H3 := Lib.hid (And.intro hy3 hf3)
      have C3 := Kd.C_below C2 hb3
      have Bw3 := Bw2.trans (hb3.mono Bw2.size)
      obtain ⟨_, _, E3⟩ := hs3.C
      clear hy3 hf3 C2 Bw2 hb3 hs3
      have sT := fun w h => sSheetText_c D1 d1 s w h n1 X1
      have iO := fun w h => iSheetOk_c D1 d1 s w h n1 X1
      have sO := fun w h => sSheetOk_c D1 d1 s w h n1 X1
      rw [Hst.out] at sT
      have ST := Lib.hid sT
      have t1 := strB_t (rfl : st = st)
      have tz : decide ((st.size : Int) ≤ 2000) = true := decide_eq_true (by omega)
      go_upto_region 6 with (fail)
      go_cut [62] (fun q62 wc => q62 = .bool false ∧ Aside0 (Below w3.heap.size w3 wc))
      case first =>
        by_cases hok : SheetOk s
        · rw [sheetOk_t.2 hok] at iO sO
          have IOk := Lib.hid iO
          have SO := Lib.hid sO
          have hbx : bx = true := by
            cases bx
            · exact absurd Hst.out.symm ((H3.out.2 rfl).2 s hok)
            · rfl
          subst hbx
          have hxs : x = s := sheetT_inj (H3.out.1 rfl).1 hok ((H3.out.1 rfl).2.symm.trans Hst.out.symm)
          subst hxs
          clear iO sO sT hok H3
          go_wp2_with fail
          refine (ST.out _ (Kd.C_below C3 bl)).mono ?_
          rintro e q1 ⟨rfl, hq1⟩
          go_wp2_with fail
          refine (IOk.out _ (Kd.C_below C3 bl)).mono ?_
          rintro e q2 ⟨rfl, hq2⟩
          go_wp2_with fail
          refine (SO.out _ (Kd.C_below C3 bl)).mono ?_
          rintro e q3 ⟨rfl, hq3⟩
          go_wp2_with fail
          refine (SO.out _ (Kd.C_below C3 bl)).mono ?_
          rintro e q4 ⟨rfl, hq4⟩
          go_wp2_with fail
          refine (iSheetSame_c A2 D1 c2 d1 x x _ (Kd.C_below E3 bl) (Kd.C_below C3 bl) F1.out F1.out).mono ?_
          rintro e q5 ⟨rfl, hq5⟩
          rw [eqB_t.2 rfl]
          go_wp2
          go_meet
          case rel => exact ⟨rfl, ⟨bl⟩⟩
        · rw [sheetOk_f.2 hok] at iO sO
          have IOk := Lib.hid iO
          have SO := Lib.hid sO
          clear iO sO sT hok H3
          go_wp2_with fail
          refine (ST.out _ (Kd.C_below C3 bl)).mono ?_
          rintro e q1 ⟨rfl, hq1⟩
          go_wp2_with fail
          refine (IOk.out _ (Kd.C_below C3 bl)).mono ?_
          rintro e q2 ⟨rfl, hq2⟩
          go_wp2_with fail
          refine (SO.out _ (Kd.C_below C3 bl)).mono ?_
          rintro e q3 ⟨rfl, hq3⟩
          go_wp2_with fail
          refine (SO.out _ (Kd.C_below C3 bl)).mono ?_
          rintro e q4 ⟨rfl, hq4⟩
          go_wp2
          go_meet
          case rel => exact ⟨rfl, ⟨bl⟩⟩
      case rest =>
        obtain ⟨rfl, ⟨B4c⟩⟩ := hcut
        have Bwc := Bw3.trans (B4c.mono Bw3.size)
        clear C3 E3 B4c Bw3 sT iO sO ST t1 tz hz H3 X1 F1 n1 Hst
        go_wp2_with fail
        refine (DrawSheetRead_d B d m _ (Kd.C_below hl' Bwc) hb' hc' (by omega)).mono ?_
        rintro e x1 ⟨text, rfl, hzt, hx1⟩
        have Bx1 := Bwc.trans (hx1.mono Bwc.size)
        clear Bwc hx1
        go_wp2_with fail
        refine (iSheetRead_c text _ (by omega) (T.to Bx1)).mono ?_
        rintro e x2 ⟨y, A4, c4, b4, rfl, hs4, hx2, hy4, hf4⟩
        have H4 := Lib.hid (And.intro hy4 hf4)
        have Bx2 := Bx1.trans (hx2.mono Bx1.size)
        obtain ⟨_, _, E4⟩ := hs4.C
        clear hs4 hx2 Bx1 hy4 hf4
        go_wp2_with fail
        refine (sSheetRead_c text _ (by omega)).mono ?_
        rintro e x3 ⟨y', A5, c5, b5, rfl, hs5, hx3, hy5, hf5⟩
        obtain ⟨rfl, rfl⟩ := st_agree H4.out.1 H4.out.2 hy5 hf5
        have HK4 := Lib.hid hy5
        have hoky := Lib.hid (StOut.few hy5 hf5)
        have Bx3 := Bx2.trans (hx3.mono Bx2.size)
        have E5 := Kd.C_below E4 hx3
        clear hs5 hy5 hf5 H4 hx3 E4 Bx2
        go_wp2_with fail
        refine (DrawSheetSame_d A c l _ (Kd.C_below hl Bx3) hb hc (by omega)).mono ?_
        rintro e x4 ⟨a6, D6, d6, a7, D7, d7, rfl, C6, C7, S6, S7, n6, n7, hx4⟩
        have F6 := Lib.hid (sm_few S6 n6)
        have F7 := Lib.hid (sm_few S7 n7)
        have Bx4 := Bx3.trans (hx4.mono Bx3.size)
        have E6 := Kd.C_below E5 hx4
        clear E5 hx4 Bx3 S6 S7
        have iab := fun w h h' => iSheetSame_c D6 D7 d6 d7 a6 a7 w h h' F6.out F7.out
        have sab := fun w h h' => sSheetSame_c D6 D7 d6 d7 a6 a7 w h h' F6.out F7.out
        have iaa := fun w h h' => iSheetSame_c D6 D6 d6 d6 a6 a6 w h h' F6.out F6.out
        rw [eqB_t.2 rfl] at iaa
        obtain ⟨e1, he1⟩ : ∃ b, eqB a6 a7 = b := ⟨_, rfl⟩
        rw [he1] at iab sab
        have IAB := Lib.hid iab
        have SAB := Lib.hid sab
        have IAA := Lib.hid iaa
        clear iab sab iaa he1
        have t3 : (e1 == e1) = true := by cases e1 <;> rfl
        have t4 : (b4 == b4) = true := by cases b4 <;> rfl
        have t5 := strB_t (rfl : text = text)
        have T5 := T.to Bx4
        cases b4 with
        | false =>
          go_wp2_with fail
          refine (IAB.out _ (Kd.C_below C6 bl) (Kd.C_below C7 bl)).mono ?_
          rintro e z1 ⟨rfl, hz1⟩
          go_wp2_with fail
          refine (SAB.out _ (Kd.C_below C6 bl) (Kd.C_below C7 bl)).mono ?_
          rintro e z2 ⟨rfl, hz2⟩
          go_wp2_with fail
          refine (IAA.out _ (Kd.C_below C6 bl) (Kd.C_below C6 bl)).mono ?_
          rintro e z3 ⟨rfl, hz3⟩
          go_wp2
          go_ret
          exact ⟨rfl, Bx4.trans ((hz1.trans ((hz2.trans (hz3.mono hz2.size)).mono hz1.size)).mono Bx4.size)⟩
        | true =>
          obtain ⟨y1, y2⟩ := HK4.out rfl
          have n8 : y.length ≤ 1048576 := by have : y.length ≤ 8 := y1.2; omega
          have it := fun w h h2 => iSheetText_c A4 c4 y w h n8 (fun f hf => (y1.all f hf).ftx) h2
          rw [← y2] at it
          have io := fun w h => iSheetOk_c A4 c4 y w h n8 (fun f hf => (y1.all f hf).ftx)
          rw [sheetOk_t.2 y1] at io
          have IT := Lib.hid it
          have IO2 := Lib.hid io
          clear it io y1 y2
          go_wp2_with fail
          refine (IT.out _ (Kd.C_below E6 bl) (T5.to bl).td).mono ?_
          rintro e z4 ⟨rfl, hz4⟩
          go_wp2_with fail
          refine (IO2.out _ (Kd.C_below E6 bl)).mono ?_
          rintro e z5 ⟨rfl, hz5⟩
          go_wp2_with fail
          refine (IAB.out _ (Kd.C_below C6 bl) (Kd.C_below C7 bl)).mono ?_
          rintro e z1 ⟨rfl, hz1⟩
          go_wp2_with fail
          refine (SAB.out _ (Kd.C_below C6 bl) (Kd.C_below C7 bl)).mono ?_
          rintro e z2 ⟨rfl, hz2⟩
          go_wp2_with fail
          refine (IAA.out _ (Kd.C_below C6 bl) (Kd.C_below C6 bl)).mono ?_
          rintro e z3 ⟨rfl, hz3⟩
          go_wp2
          go_ret
          exact ⟨rfl, Bx4.trans ((hz4.trans ((hz5.trans ((hz1.trans ((hz2.trans (hz3.mono hz2.size)).mono hz1.size)).mono hz5.size)).mono hz4.size)).mono Bx4.size)⟩
    · have hd2 : decide ((1048576 : Int) < (m.length : Int)) = true := decide_eq_true (by omega)
      go_enter Tryz.func4, Tryz.ntmps4
      go_wp2
      go_ret
      exact ⟨rfl, bl⟩
  · have hd : decide ((1048576 : Int) < (l.length : Int)) = true := decide_eq_true (by omega)
    go_enter Tryz.func4, Tryz.ntmps4
    go_wp2
    go_ret
    exact ⟨rfl, bl⟩
end Go.Proofs.YtgdgnlpohnpgiaaGreatDoor
