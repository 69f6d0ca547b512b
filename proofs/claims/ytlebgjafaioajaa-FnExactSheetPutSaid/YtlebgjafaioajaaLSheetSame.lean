/- Law: the program's SheetSame answers what the reference's answers, at any two maps; its arguments read as before. -/
import Derived.Test.YtlebgjafaioajaaSa
import Derived.Test.YtlebgjafaioajaaOf
import Derived.Test.YtlebgjafaioajaaLFeatOk
namespace Go.Proofs.Ytlebgjafaioajaa
open Go.RowKit Go.Proofs.YtlebgjafaioajaaW.PrintWords Go.Proofs.YtlebgjafaioajaaW.PrintLast
set_option linter.unusedVariables false
set_option linter.unusedSimpArgs false
def sheetSz (l : List FeatD) : Nat := l.length + featsSz l
theorem ftxs_of {l : List FeatD} (h : sheetSz l ≤ 1048576) : ∀ f ∈ l, FTx f := fun f hf => ftx_of (by have := featSz_mem hf; unfold sheetSz at h; omega)
theorem few_of {l : List FeatD} (h : sheetSz l ≤ 1048576) : Few l := ⟨by unfold sheetSz at h; omega, fun f hf => ⟨(ftxs_of h f hf).pts, (ftxs_of h f hf).tags⟩⟩
theorem RI.len {α : Type} {d : Kd α} {e : Nat} {W : World} {lo hi : Nat} {A : Option Addr} {n c : Nat} {xs : List α} (h : RI d e W lo hi (.slice A n c) xs) : n ≤ c := h.rd.2.1
set_option maxHeartbeats 4000000 in
theorem FnExactSheetSame_c (A : Option Addr) (c : Nat) (l : List FeatD) (B : Option Addr) (d : Nat) (m : List FeatD) (w : World) (hl : kFeat.C w A l.length l) (hn : FsIn l) (hm : kFeat.C w B m.length m) (hn' : FsIn m) :
    Calls Try.prog 5 #[.slice A l.length c, .slice B m.length d] w fun e w' => e = .returned (.bool true) ∧ Below w.heap.size w w' := by
  have hx := fun a w hl h0 ha => szFeatS_c A l c a w hl hn.2 hn.1 h0 ha
  have hy := fun a w hm h0 ha => szFeatS_c B m d a w hm hn'.2 hn'.1 h0 ha
  change ∀ a w, _ → _ → _ → Calls _ _ _ _ (fun e w' => e = .returned (.int .i64 (lef (a - (sheetSz l : Int)))) ∧ _) at hx
  change ∀ a w, _ → _ → _ → Calls _ _ _ _ (fun e w' => e = .returned (.int .i64 (lef (a - (sheetSz m : Int)))) ∧ _) at hy
  by_cases hs : (sheetSz l : Int) ≤ 1048576
  · have Hf := Lib.hid (lef_pos (show 0 ≤ 1048576 - (sheetSz l : Int) by omega))
    by_cases hs2 : (sheetSz l : Int) + sheetSz m ≤ 1048576
    · have Hf2 := Lib.hid (lef_pos (show 0 ≤ 1048576 - (sheetSz l : Int) - sheetSz m by omega))
      have F1 := Lib.hid (few_of (show sheetSz l ≤ 1048576 by omega))
      have F2 := Lib.hid (few_of (show sheetSz m ≤ 1048576 by omega))
      have n1 := F1.out.1
      have n2 := F2.out.1
      have z0 : 0 ≤ 1048576 - (sheetSz l : Int) := by omega
      have z1 : 1048576 - (sheetSz l : Int) ≤ 1048576 := by omega
      have z2 : 0 ≤ 1048576 - (sheetSz l : Int) - sheetSz m := by omega
      have HX := Lib.hid hx
      have HY := Lib.hid hy
      clear hx hy hn hn'
      go_enter Try.func5, Try.ntmps5
      go_wp2_with fail
      refine (HX.out _ _ hl (by omega) (by omega)).mono ?_
      rintro e w1 ⟨rfl, hb1⟩
      rw [Hf.out]
      go_wp2_with fail
      refine (HY.out _ _ (Kd.C_below hm bl) z0 z1).mono ?_
      rintro e w2 ⟨rfl, hb2⟩
      rw [Hf2.out]
      go_wp2_with fail
      refine (toFeatS_c A c l _ (Kd.C_below hl bl) n1 F1.out.2).mono ?_
      rintro e w3 ⟨A3, c3, rfl, hr3, hb3⟩
      go_wp2_with fail
      refine (toFeatS_c B d m _ (Kd.C_below hm bl) n2 F2.out.2).mono ?_
      rintro e w4 ⟨A4, c4, rfl, hr4, hb4⟩
      go_wp2_with fail
      refine (sSheetSame_c A3 A4 c3 c4 l m _ (Kd.C_below hr3.rd.2.2 bl) hr4.rd.2.2 F1.out F2.out).mono ?_
      rintro e w5 ⟨rfl, hb5⟩
      go_wp2_with fail
      refine (toFeatS_c A c l _ (Kd.C_below hl bl) n1 F1.out.2).mono ?_
      rintro e w6 ⟨A6, c6, rfl, hr6, hb6⟩
      go_wp2_with fail
      refine (toFeatS_c B d m _ (Kd.C_below hm bl) n2 F2.out.2).mono ?_
      rintro e w7 ⟨A7, c7, rfl, hr7, hb7⟩
      go_wp2_with fail
      refine (iSheetSame_c A6 A7 c6 c7 l m _ (Kd.C_below hr6.rd.2.2 bl) hr7.rd.2.2 F1.out F2.out).mono ?_
      rintro e w8 ⟨rfl, hb8⟩
      go_wp2_with fail
      refine (toFeatS_c A c l _ (Kd.C_below hl bl) n1 F1.out.2).mono ?_
      rintro e w9 ⟨A9, c9, rfl, hr9, hb9⟩
      go_wp2_with fail
      refine (eqFeatS_c A6 A9 c6 c9 l l _ (Kd.C_below hr6.rd.2.2 bl) hr9.rd.2.2 F1.out F1.out).mono ?_
      rintro e w10 ⟨rfl, hb10⟩
      rw [eqB_t.2 rfl]
      go_wp2_with fail
      refine (toFeatS_c B d m _ (Kd.C_below hm bl) n2 F2.out.2).mono ?_
      rintro e w11 ⟨A11, c11, rfl, hr11, hb11⟩
      go_wp2_with fail
      refine (eqFeatS_c A7 A11 c7 c11 m m _ (Kd.C_below hr7.rd.2.2 bl) hr11.rd.2.2 F2.out F2.out).mono ?_
      rintro e w12 ⟨rfl, hb12⟩
      rw [eqB_t.2 rfl]
      go_wp2
      go_ret
      exact ⟨rfl, bl⟩
    · have Hf2 := Lib.hid (lef_neg (show 1048576 - (sheetSz l : Int) - sheetSz m < 0 by omega))
      have z0 : 0 ≤ 1048576 - (sheetSz l : Int) := by omega
      have z1 : 1048576 - (sheetSz l : Int) ≤ 1048576 := by omega
      have HX := Lib.hid hx
      have HY := Lib.hid hy
      clear hx hy hn hn'
      go_enter Try.func5, Try.ntmps5
      go_wp2_with fail
      refine (HX.out _ _ hl (by omega) (by omega)).mono ?_
      rintro e w1 ⟨rfl, hb1⟩
      rw [Hf.out]
      go_wp2_with fail
      refine (HY.out _ _ (Kd.C_below hm bl) z0 z1).mono ?_
      rintro e w2 ⟨rfl, hb2⟩
      rw [Hf2.out]
      go_wp2
      go_ret
      exact ⟨rfl, bl⟩
  · have Hf := Lib.hid (lef_neg (show 1048576 - (sheetSz l : Int) < 0 by omega))
    have HX := Lib.hid hx
    clear hx hy hn hn'
    go_enter Try.func5, Try.ntmps5
    go_wp2_with fail
    refine (HX.out _ _ hl (by omega) (by omega)).mono ?_
    rintro e w1 ⟨rfl, hb1⟩
    rw [Hf.out]
    go_wp2
    go_ret
    exact ⟨rfl, bl⟩
set_option maxHeartbeats 4000000 in
theorem FnExactSheetOk_c (A : Option Addr) (c : Nat) (l : List FeatD) (w : World) (hl : kFeat.C w A l.length l) (hn : FsIn l) :
    Calls Try.prog 7 #[.slice A l.length c] w fun e w' => e = .returned (.bool true) ∧ Below w.heap.size w w' := by
  have hx := fun a w hl h0 ha => szFeatS_c A l c a w hl hn.2 hn.1 h0 ha
  change ∀ a w, _ → _ → _ → Calls _ _ _ _ (fun e w' => e = .returned (.int .i64 (lef (a - (sheetSz l : Int)))) ∧ _) at hx
  by_cases hs : (sheetSz l : Int) ≤ 1048576
  · have Hf := Lib.hid (lef_pos (show 0 ≤ 1048576 - (sheetSz l : Int) by omega))
    have F1 := Lib.hid (few_of (show sheetSz l ≤ 1048576 by omega))
    have X1 := Lib.hid (ftxs_of (show sheetSz l ≤ 1048576 by omega))
    have n1 := F1.out.1
    have z0 : 0 ≤ 1048576 - (sheetSz l : Int) := by omega
    have HX := Lib.hid hx
    clear hx hn
    go_enter Try.func7, Try.ntmps7
    go_wp2_with fail
    refine (HX.out _ _ hl (by omega) (by omega)).mono ?_
    rintro e w1 ⟨rfl, hb1⟩
    rw [Hf.out]
    go_wp2_with fail
    refine (toFeatS_c A c l _ (Kd.C_below hl bl) n1 F1.out.2).mono ?_
    rintro e w3 ⟨A3, c3, rfl, hr3, hb3⟩
    go_wp2_with fail
    refine (sSheetOk_c A3 c3 l _ hr3.rd.2.2 n1 X1.out).mono ?_
    rintro e w5 ⟨rfl, hb5⟩
    go_wp2_with fail
    refine (toFeatS_c A c l _ (Kd.C_below hl bl) n1 F1.out.2).mono ?_
    rintro e w6 ⟨A6, c6, rfl, hr6, hb6⟩
    go_wp2_with fail
    refine (iSheetOk_c A6 c6 l _ hr6.rd.2.2 n1 X1.out).mono ?_
    rintro e w8 ⟨rfl, hb8⟩
    go_wp2_with fail
    refine (toFeatS_c A c l _ (Kd.C_below hl bl) n1 F1.out.2).mono ?_
    rintro e w9 ⟨A9, c9, rfl, hr9, hb9⟩
    go_wp2_with fail
    refine (eqFeatS_c A6 A9 c6 c9 l l _ (Kd.C_below hr6.rd.2.2 bl) hr9.rd.2.2 F1.out F1.out).mono ?_
    rintro e w10 ⟨rfl, hb10⟩
    rw [eqB_t.2 rfl]
    go_wp2
    go_ret
    exact ⟨rfl, bl⟩
  · have Hf := Lib.hid (lef_neg (show 1048576 - (sheetSz l : Int) < 0 by omega))
    have HX := Lib.hid hx
    clear hx hn
    go_enter Try.func7, Try.ntmps7
    go_wp2_with fail
    refine (HX.out _ _ hl (by omega) (by omega)).mono ?_
    rintro e w1 ⟨rfl, hb1⟩
    rw [Hf.out]
    go_wp2
    go_ret
    exact ⟨rfl, bl⟩
end Go.Proofs.Ytlebgjafaioajaa
