/- Law: what is read of a drawn text is a thing whose tags are in order, each key once, and whose text it is. -/
import Derived.Test.YtgdgnlpohnpgiaaDoorRj
import Derived.Test.YtgdgnlpohnpgiaaDoorRk
namespace Go.Proofs.YtgdgnlpohnpgiaaDoor
open Go.RowKit Go.ChangeShapes Go.Proofs.YtgdgnlpohnpgiaaDoorW.PrintWords Go.Proofs.YtgdgnlpohnpgiaaDoorW.PrintLast
set_option maxRecDepth 100000
set_option linter.unusedVariables false
set_option linter.unusedSimpArgs false
theorem fnFeatRead_tied {w : World} (h : laidMetH Tryd.prog Rows.fnFeatReadRow.laid w) (hS : w.ShapedOpen Tryd.prog) : TiedR w := by
  rw [MakeChecks.laidMetH_plain _ _ _ (by kernel_rfl)] at h
  refine TiedR.of (Tied.of h ?_ ?_) hS h
  all_goals first | exact List.mem_of_getElem? (i := 0) rfl | exact List.mem_of_getElem? (i := 1) rfl | exact List.mem_of_getElem? (i := 2) rfl | exact List.mem_of_getElem? (i := 3) rfl | exact List.mem_of_getElem? (i := 4) rfl | exact List.mem_of_getElem? (i := 5) rfl | exact List.mem_of_getElem? (i := 6) rfl | exact List.mem_of_getElem? (i := 7) rfl | exact List.mem_of_getElem? (i := 8) rfl
def l_FnFeatRead_T13 : Bool × List (List Nat × List Nat) := (true, [([], []), ([0], [0]), ([], []), ([1, 2], [1, 2]), ([3], [3]), ([4], [4]), ([], []), ([6], [6]), ([], []), ([8], [8]), ([7, 9], [7, 9]), ([10], [10]), ([11], [11]), ([5, 12], [5, 12])])
theorem l_FnFeatRead_t13 : rtab .any (opsOf Tryd.f6 13) = l_FnFeatRead_T13 := by kernel_rfl
set_option maxHeartbeats 8000000 in
theorem FnFeatRead_c (A : Option Addr) (c : Nat) (l : List Int) (w : World) (hl : (Kd.int .u8).C w A l.length l) (hn : (l.length : Int) ≤ 140737488351232) (hb : ∀ x ∈ l, 0 ≤ x ∧ x ≤ 255) (hc : l.length ≤ c) (hL : laidMetH Tryd.prog Rows.fnFeatReadRow.laid w) (hS : w.ShapedOpen Tryd.prog) :
    Calls Tryd.prog 6 #[.slice A l.length c] w fun e w' => e = .returned (.bool true) ∧ Below w.heap.size w w' := by
  have T := fnFeatRead_tied hL hS
  clear hL hS
  by_cases hs : (l.length : Int) ≤ 1048576
  · have hd : decide ((1048576 : Int) < (l.length : Int)) = false := decide_eq_false (by omega)
    go_enter Tryd.func6, Tryd.ntmps6
    go_wp2_with fail
    refine (DrawFeatRead_d A c l _ (Kd.C_below hl bl) hb hc (by omega)).mono ?_
    rintro e w0 ⟨t, rfl, hzt, hb0⟩
    clear hl hb
    go_wp2_with fail
    refine (iFeatRead_c t _ (by omega) (T.to bl)).mono ?_
    rintro e w1 ⟨f, A1, c1, B1, d1, b, rfl, hr1, ht1, hb1, hX1, hy1, hf1⟩
    have H1 := Lib.hid (And.intro hy1 hf1)
    have n1 := hX1.pts
    have n2 := hX1.tags
    clear hy1 hf1
    have HC : Cells (w1.alloc (.cells #[.string f.1, .int .i64 f.2.1.1, .slice A1 f.2.1.2.length c1, .slice B1 f.2.2.length d1] 34)) _ := (Cells.nil w1).box4 (Below.refl _ _)
    obtain ⟨h0, h1, h2, h3, _⟩ := HC.all
    go_wp2_with fail
    refine (sFeatRead_c t _ (by omega)).mono ?_
    rintro e w2 ⟨f2, A2, c2, B2, d2, b2, rfl, hr2, ht2, hb2, hX2, hy2, hf2⟩
    obtain ⟨rfl, rfl⟩ := ft_agree2 H1.out.1 H1.out.2 hy2 hf2
    clear hy2 hf2 hX2
    replace HC : Cells (w2.alloc (.cells #[.string f.1, .int .i64 f.2.1.1, .slice A2 f.2.1.2.length c2, .slice B2 f.2.2.length d2] 34)) _ := (HC.to hb2).box4 (Below.refl _ _)
    clear h0 h1 h2 h3
    obtain ⟨h0, h1, h2, h3, h4, h5, h6, h7, _⟩ := HC.all
    have hbb : (b != b) = false := by cases b <;> rfl
    have P1 := hr1.rd.2.2
    have Q1 := ht1.rd.2.2
    clear hr1 ht1
    go_wp2_with fail
    refine (iFeatSame_c f f A1 c1 B1 d1 A2 c2 B2 d2 _ (Kd.C_below P1 bl) (Kd.C_below Q1 bl) (Kd.C_below hr2.rd.2.2 bl) (Kd.C_below ht2.rd.2.2 bl) n1 n2 n1 n2).mono ?_
    rintro e w3 ⟨rfl, hb3⟩
    rw [eqB_t.2 rfl]
    replace HC := HC.to hb3
    have P3 : kPt.C w3 A1 f.2.1.2.length f.2.1.2 := Kd.C_below P1 bl
    have Q3 : kTag.C w3 B1 f.2.2.length f.2.2 := Kd.C_below Q1 bl
    have B3 : Below w.heap.size w w3 := bl
    clear hr2 ht2 P1 Q1 hb0 hb1 hb2 hb3
    clear h0 h1 h2 h3 h4 h5 h6 h7
    obtain ⟨h0, h1, h2, h3, h4, h5, h6, h7, _⟩ := HC.all
    cases b
    · obtain ⟨rfl, _⟩ := H1.out.2 rfl
      have e0 : ((⟨#[]⟩ : ByteArray).toList == (⟨#[]⟩ : ByteArray).toList) = true := strB_t rfl
      have e2 : (⟨#[]⟩ : ByteArray).toList = [] := by rw [ByteArray.toList_eq]
      have e1 : (⟨#[]⟩ : ByteArray).toList.isEmpty = true := by rw [e2]; rfl
      go_wp2
      go_ret
      exact ⟨rfl, B3⟩
    · obtain ⟨hok, htx⟩ := H1.out.1 rfl
      have n4 : f.2.2.length ≤ 4 := hok.2.2.2
      have Hup := Lib.hid hok.2.2.1
      have t1 := strB_t (rfl : t = t)
      have hz : t.size ≤ 139 := by rw [htx]; exact fullT_139 hok
      have t2 : decide ((t.size : Int) ≤ 200) = true := decide_eq_true (by omega)
      have it := fun w hp hq hT => iFeatText_c f A1 c1 B1 d1 w hp hq hX1 hT
      rw [show featT f = t from (featT_of hok).trans htx.symm] at it
      have iw := fun w => iWordOk_c f.1 w hX1.id
      rw [wordOk_t.2 hok.1] at iw
      have io := fun w h => iShapeOk_c f.2.1.1 A1 c1 f.2.1.2 w h n1
      rw [shapeOk_t.2 hok.2.1] at io
      have IT := Lib.hid it
      have IW := Lib.hid iw
      have IOk := Lib.hid io
      clear it iw io hok htx H1 hX1 hbb h0 h1 h2 h3 h4 h5 h6 h7
      have T3 := T.to B3
      clear T
      go_wp2
      go_loopw [8] (fun q wr => ∃ k : Nat, 1 ≤ k ∧ k ≤ 5 ∧ q = .int .i64 k ∧ Aside0 (Below w3.heap.size w3 wr)) (fun q _ => 5 - (intOf q).toNat)
      case atStart => exact ⟨1, by omega, by omega, rfl, ⟨Below.refl _ _⟩⟩
      case round =>
        obtain ⟨k, hk1, hk5, rfl, ⟨hbr⟩⟩ := hrel
        replace HC := HC.to hbr
        obtain ⟨h0, h1, h2, h3, h4, h5, h6, h7, _⟩ := HC.all
        have Pr := Kd.C_below P3 hbr
        have Qr := Kd.C_below Q3 hbr
        have Br := B3.trans (hbr.mono B3.size)
        by_cases hlt : k < f.2.2.length
        · have d1_ : decide ((k : Int) < (f.2.2.length : Int)) = true := decide_eq_true (by omega)
          have hw : IntKind.i64.wrap ((k : Int) + 1) = (k : Int) + 1 := IntWalk.i64_in _ (by omega)
          obtain ⟨j, hj⟩ : ∃ j, j + 1 = k := ⟨k - 1, by omega⟩
          have hw2 : IntKind.i64.wrap ((k : Int) - 1) = (j : Int) := by rw [IntWalk.i64_in _ (by omega)]; omega
          have hjl : j < f.2.2.length := by omega
          obtain ⟨ad, eA, x0, x1⟩ := at_Tag Qr k hlt
          obtain ⟨ad', eA', y0, y1⟩ := at_Tag Qr j hjl
          have hq : ltS f.2.2[j].1 f.2.2[k].1 = true := by
            have h_ := (Hup.out k hlt hlt).2.2 (by omega)
            simpa only [← hj, Nat.add_sub_cancel] using h_
          have hle := @leS_of f.2.2[k].1 f.2.2[j].1
          rw [hq] at hle
          subst eA
          cases eA'
          generalize f.2.2[k] = tk at *
          generalize f.2.2[j] = tj at *
          clear hq hj
          go_wp2
          refine rgStart 14 [0, 1, 2, 3, 4, 5, 6, 7, 8, 9, 10, 11, 12, 13] l_FnFeatRead_t13 (fun HT HS => ?_)
          repeat ((with_reducible refine rgGate ?_); first | refine rgP HT ?_ | refine rgL HT ?_ | refine rgG HT ?_)
          refine rgDone HT ?_
          clear HT HS
          go_wp2
          exact ⟨⟨k + 1, by omega, by omega, by go_num, ⟨bl⟩⟩, by simp [intOf]; omega⟩
        · have d1_ : decide ((k : Int) < (f.2.2.length : Int)) = false := decide_eq_false (by omega)
          go_wp2_with fail
          refine (IT.out _ (Kd.C_below Pr bl) (Kd.C_below Qr bl) (T3.to (hbr)).td).mono ?_
          rintro e z1 ⟨rfl, hz1⟩
          replace HC := HC.to hz1
          clear h0 h1 h2 h3 h4 h5 h6 h7
          obtain ⟨h0, h1, h2, h3, h4, h5, h6, h7, _⟩ := HC.all
          go_wp2_with fail
          refine (IW.out _).mono ?_
          rintro e z2 ⟨rfl, rfl⟩
          go_wp2_with fail
          refine (IOk.out _ (Kd.C_below Pr bl)).mono ?_
          rintro e z3 ⟨rfl, hz3⟩
          go_wp2
          go_ret
          exact ⟨rfl, Br.trans ((hz1.trans (hz3.mono hz1.size)).mono Br.size)⟩
  · have hd : decide ((1048576 : Int) < (l.length : Int)) = true := decide_eq_true (by omega)
    go_enter Tryd.func6, Tryd.ntmps6
    go_wp2
    go_ret
    exact ⟨rfl, bl⟩
end Go.Proofs.YtgdgnlpohnpgiaaDoor
