/- Law: the program's SheetRead answers what the reference's answers, shares no memory. -/
import Derived.Test.YtgdgnlpohnpgiaaDoorSw
namespace Go.Proofs.YtgdgnlpohnpgiaaDoor
open Go.RowKit Go.ChangeShapes Go.Proofs.YtgdgnlpohnpgiaaDoorW.PrintWords Go.Proofs.YtgdgnlpohnpgiaaDoorW.PrintLast
set_option maxRecDepth 100000
set_option linter.unusedVariables false
set_option linter.unusedSimpArgs false
theorem fnExactSheetRead_tied {w : World} (h : laidMetH Tryd.prog Rows.fnExactSheetReadRow.laid w) (hS : w.ShapedOpen Tryd.prog) : TiedR w := by
  rw [MakeChecks.laidMetH_plain _ _ _ (by kernel_rfl)] at h
  refine TiedR.of (Tied.of h ?_ ?_) hS h
  all_goals first | exact List.mem_of_getElem? (i := 0) rfl | exact List.mem_of_getElem? (i := 1) rfl | exact List.mem_of_getElem? (i := 2) rfl | exact List.mem_of_getElem? (i := 3) rfl | exact List.mem_of_getElem? (i := 4) rfl | exact List.mem_of_getElem? (i := 5) rfl | exact List.mem_of_getElem? (i := 6) rfl | exact List.mem_of_getElem? (i := 7) rfl | exact List.mem_of_getElem? (i := 8) rfl
theorem ok_sz {l : List FeatD} (h : SheetOk l) : l.length + featsSz l ≤ 100000 := by
  have key : ∀ l : List FeatD, (∀ f ∈ l, FeatOk f) → featsSz l ≤ 1000 * l.length := by
    intro l
    induction l with
    | nil => intro _; exact Nat.zero_le _
    | cons f l ih =>
      intro hall
      have h1 := ih (fun g hg => hall g (List.mem_cons_of_mem _ hg))
      have h2 := hall f List.mem_cons_self
      have h3 := h2.1.1
      have h4 : f.2.2.length ≤ 4 := h2.2.2.2
      have h5 := h2.2.1.le
      have h6 : featSz f ≤ 1000 := by
        have key2 : ∀ m : List Tag, (∀ t ∈ m, WordOk t.1 ∧ WordOk t.2) → tagsSz m ≤ 100 * m.length := by
          intro m
          induction m with
          | nil => intro _; exact Nat.zero_le _
          | cons t m ihm =>
            intro ht
            have q1 := ihm (fun u hu => ht u (List.mem_cons_of_mem _ hu))
            have q2 := ht t List.mem_cons_self
            have q3 := q2.1.1
            have q4 := q2.2.1
            simp only [tagsSz, tagSz, List.length_cons] at q1 ⊢
            omega
        have q := key2 f.2.2 h2.words
        unfold featSz
        omega
      simp only [featsSz, List.length_cons] at h1 ⊢
      omega
  have h1 := key l h.all
  have h2 : l.length ≤ 8 := h.2
  omega
set_option maxHeartbeats 8000000 in
theorem FnExactSheetRead_c (s : ByteArray) (w : World) (hn : s.size ≤ 140737488351232) (hL : laidMetH Tryd.prog Rows.fnExactSheetReadRow.laid w) (hS : w.ShapedOpen Tryd.prog) :
    Calls Tryd.prog 3 #[.string s] w fun e w' => e = .returned (.bool true) ∧ Below w.heap.size w w' := by
  have T := fnExactSheetRead_tied hL hS
  clear hL hS
  by_cases hs : (s.size : Int) ≤ 1048576
  · have d1_ : decide ((1048576 : Int) < (s.size : Int)) = false := decide_eq_false (by omega)
    go_enter Tryd.func3, Tryd.ntmps3
    go_wp2_with fail
    refine (sSheetRead_c s _ (by omega)).mono ?_
    rintro e w1 ⟨l, A1, c1, b, rfl, hs1, hb1, hy1, hf1⟩
    have H1 := Lib.hid (And.intro hy1 hf1)
    have hok := StOut.few hy1 hf1
    have F := Lib.hid hok.few
    have n1 := F.out.1
    have hsz := ok_sz hok
    have hb := mkks_le 1 l
    have Hb := Lib.hid (show (1 : Int) + 2 * ((l.length + featsSz l : Nat) : Int) ≤ 1073741824 by omega)
    have t1 : decide (mkks 1 l < 0) = false := decide_eq_false (by omega)
    clear hy1 hf1 hok hsz hb
    go_wp2_with fail
    refine (iSheetRead_c s _ (by omega) (T.to hb1)).mono ?_
    rintro e w2 ⟨l2, A2, c2, b2, rfl, hs2, hb2, hy2, hf2⟩
    obtain ⟨rfl, rfl⟩ := st_agree H1.out.1 H1.out.2 hy2 hf2
    clear hy2 hf2
    have hbb : (b != b) = false := by cases b <;> rfl
    go_wp2_with fail
    refine (eqFeatS_c A2 A1 c2 c1 l l _ hs2.C.2.2 (Kd.C_below hs1.C.2.2 bl) F.out F.out).mono ?_
    rintro e w3 ⟨rfl, hb3⟩
    rw [eqB_t.2 rfl]
    have s1 := hb1.size
    have s2 := hb2.size
    have s3 := hb3.size
    have S1 : Sep w3 w.heap.size w1.heap.size (.slice A1 l.length c1) l := hs1.below bl
    have S2 : Sep w3 w1.heap.size w2.heap.size (.slice A2 l.length c2) l := hs2.below bl
    have B3 : Below w.heap.size w w3 := bl
    clear hs1 hs2
    go_wp2_with fail
    refine (markFeatS_c A2 c2 l 1 w1.heap.size w2.heap.size _ S2 F.out (by omega) Hb.out (by omega) (by omega)).mono ?_
    rintro e w4 ⟨rfl, m4, hx4⟩
    replace S1 := S1.ex hx4 (Or.inl (by omega))
    have B4_ : Below w.heap.size w w4 := B3.trans (hx4.1.mono (by omega))
    clear S2 B3
    go_wp2_with fail
    refine (heldFeatS_c A2 c2 l 1 _ m4 F.out (by omega) Hb.out).mono ?_
    rintro e w5 ⟨rfl, hb5⟩
    have B5 := B4_.trans (hb5.mono B4_.size)
    go_wp2_with fail
    refine (iSheetRead_c s _ (by omega) (T.to B5)).mono ?_
    rintro e w6 ⟨l3, A3, c3, b3, rfl, hs3, hb6, hy3, hf3⟩
    obtain ⟨rfl, rfl⟩ := st_agree H1.out.1 H1.out.2 hy3 hf3
    clear hy3 hf3
    go_wp2_with fail
    refine (eqFeatS_c A3 A1 c3 c1 l l _ hs3.C.2.2 (Kd.C_below S1.C.2.2 bl) F.out F.out).mono ?_
    rintro e w7 ⟨rfl, hb7⟩
    rw [eqB_t.2 rfl]
    go_wp2_with fail
    refine (heldFeatS_c A2 c2 l 1 _ (Kd.C_below m4 bl) F.out (by omega) Hb.out).mono ?_
    rintro e w8 ⟨rfl, hb8⟩
    go_wp2
    go_ret
    exact ⟨rfl, B5.trans ((hb6.trans ((hb7.trans (hb8.mono hb7.size)).mono hb6.size)).mono B5.size)⟩
  · have d1_ : decide ((1048576 : Int) < (s.size : Int)) = true := decide_eq_true (by omega)
    go_enter Tryd.func3, Tryd.ntmps3
    go_wp2
    go_ret
    exact ⟨rfl, bl⟩
end Go.Proofs.YtgdgnlpohnpgiaaDoor
