/- Law: the program's SheetCut answers what the reference's answers, shares no memory; its argument reads as before. -/
import Derived.Test.YtlebgjafaioajaaSm
import Derived.Test.YtlebgjafaioajaaLSheetSame
namespace Go.Proofs.Ytlebgjafaioajaa
open Go.RowKit Go.Proofs.YtlebgjafaioajaaW.PrintWords Go.Proofs.YtlebgjafaioajaaW.PrintLast
set_option maxRecDepth 100000
set_option linter.unusedVariables false
set_option linter.unusedSimpArgs false
theorem featsSz_filter (p : FeatD → Bool) : ∀ l : List FeatD, featsSz (l.filter p) ≤ featsSz l
  | [] => Nat.le_refl _
  | f :: l => by
    have := featsSz_filter p l
    rw [List.filter_cons]
    split <;> simp only [featsSz] <;> omega
theorem scut_few {l : List FeatD} (h : Few l) (id : ByteArray) : Few (scut l id).1 := by
  rcases scut_cases l id with ⟨_, hs⟩ | ⟨_, _, hs⟩ | ⟨k, _, _, hk, _, hs⟩
  · rw [hs]; exact ⟨by simp, fun f hf => by simp at hf⟩
  · rw [hs]; exact ⟨by simp, fun f hf => by simp at hf⟩
  · rw [hs]; exact few_cut h id
theorem scut_sz (l : List FeatD) (id : ByteArray) : (scut l id).1.length + featsSz (scut l id).1 ≤ l.length + featsSz l := by
  rcases scut_cases l id with ⟨_, hs⟩ | ⟨_, _, hs⟩ | ⟨k, _, _, hk, _, hs⟩
  · rw [hs]; simp [featsSz]
  · rw [hs]; simp [featsSz]
  · rw [hs]; exact Nat.add_le_add (cutK_le _ _) (featsSz_filter _ _)
set_option maxHeartbeats 8000000 in
theorem FnExactSheetCut_c (A : Option Addr) (c : Nat) (l : List FeatD) (id : ByteArray) (w : World) (hl : kFeat.C w A l.length l) (hn : FsIn l) (hk : id.size ≤ 140737488351232) :
    Calls Try.prog 11 #[.slice A l.length c, .string id] w fun e w' => e = .returned (.bool true) ∧ Below w.heap.size w w' := by
  have hx := fun a w hl h0 ha => szFeatS_c A l c a w hl hn.2 hn.1 h0 ha
  change ∀ a w, _ → _ → _ → Calls _ _ _ _ (fun e w' => e = .returned (.int .i64 (lef (a - (sheetSz l : Int)))) ∧ _) at hx
  by_cases hs_id : (id.size : Int) ≤ 1048576
  · have k_id : decide ((1048576 : Int) < (id.size : Int)) = false := decide_eq_false (by omega)
    by_cases hs : (sheetSz l : Int) ≤ 1048576
    · have Hf := Lib.hid (lef_pos (show 0 ≤ 1048576 - (sheetSz l : Int) by omega))
      have F1 := Lib.hid (few_of (show sheetSz l ≤ 1048576 by omega))
      have X1 := Lib.hid (ftxs_of (show sheetSz l ≤ 1048576 by omega))
      have z0 : 0 ≤ 1048576 - (sheetSz l : Int) := by omega
      have hmk := mkks_le 1 l
      have hb1 : (1 : Int) + 2 * ((l.length + featsSz l : Nat) : Int) ≤ 1073741824 := by unfold sheetSz at hs; omega
      have n1 := F1.out.1
      have hS := fun A c w hl => sSheetCut_c A c l id w hl F1.out X1.out
      have hI := fun A c w hl hc => iSheetCut_c A c l id w hl hc F1.out X1.out
      have hF3 := scut_few F1.out id
      have hsz := scut_sz l id
      obtain ⟨r, b, hrb⟩ : ∃ r b, scut l id = (r, b) := ⟨_, _, rfl⟩
      rw [hrb] at hS hI hF3 hsz
      simp only [] at hF3 hsz
      have F3 := Lib.hid hF3
      have hb3 : (1 : Int) + 2 * ((r.length + featsSz r : Nat) : Int) ≤ 1073741824 := by omega
      have hmk3 := mkks_le 1 r
      have HS := Lib.hid hS
      have HI := Lib.hid hI
      have HX := Lib.hid hx
      have Hb1 := Lib.hid hb1
      have Hb3 := Lib.hid hb3
      have t1 : decide (mkks 1 l < 0) = false := decide_eq_false (by omega)
      have t2 : decide (mkks 1 r < 0) = false := decide_eq_false (by omega)
      clear hS hI hrb hx hn hs hmk hb1 hb3 hmk3 hF3 hsz
      go_enter Try.func11, Try.ntmps11
      go_wp2_with fail
      refine (HX.out _ _ hl (by omega) (by omega)).mono ?_
      rintro e w1 ⟨rfl, hb1⟩
      rw [Hf.out]
      go_wp2_with fail
      refine (toFeatS_s A c l _ (Kd.C_below hl bl) F1.out).mono ?_
      rintro e w2 ⟨A2, c2, rfl, hs2, hb2⟩
      go_wp2_with fail
      refine (HS.out A2 c2 _ hs2.C.2.2).mono ?_
      rintro e w3 ⟨A3, c3, rfl, hs3, hb3⟩
      go_wp2_with fail
      refine (toFeatS_s A c l _ (Kd.C_below hl bl) F1.out).mono ?_
      rintro e w4 ⟨A4, c4, rfl, hs4, hb4⟩
      go_wp2_with fail
      refine (HI.out A4 c4 _ hs4.C.2.2 hs4.C.2.1).mono ?_
      rintro e w5 ⟨A5, c5, rfl, hs5, hb5⟩
      simp only [] at hs3 hs5
      go_wp2_with fail
      refine (eqFeatS_c A5 A3 c5 c3 r r _ hs5.C.2.2 (Kd.C_below hs3.C.2.2 bl) F3.out F3.out).mono ?_
      rintro e w6 ⟨rfl, hb6⟩
      rw [eqB_t.2 rfl]
      go_wp2_with fail
      refine (toFeatS_s A c l _ (Kd.C_below hl bl) F1.out).mono ?_
      rintro e w7 ⟨A7, c7, rfl, hs7, hb7⟩
      go_wp2_with fail
      refine (eqFeatS_c A4 A7 c4 c7 l l _ (Kd.C_below hs4.C.2.2 bl) hs7.C.2.2 F1.out F1.out).mono ?_
      rintro e w8 ⟨rfl, hb8⟩
      rw [eqB_t.2 rfl]
      have s1 := hb1.size
      have s2 := hb2.size
      have s3 := hb3.size
      have s4 := hb4.size
      have s5 := hb5.size
      have s6 := hb6.size
      have s7 := hb7.size
      have s8 := hb8.size
      have S3 : Sep w8 w2.heap.size w3.heap.size (.slice A3 r.length c3) r := hs3.below bl
      have S4 : Sep w8 w3.heap.size w4.heap.size (.slice A4 l.length c4) l := hs4.below bl
      have S5 : Sep w8 w4.heap.size w5.heap.size (.slice A5 r.length c5) r := hs5.below bl
      have B8 : Below w.heap.size w w8 := bl
      clear hs2 hs3 hs4 hs5 hs7 HS HX
      go_wp2_with fail
      refine (markFeatS_c A4 c4 l 1 w3.heap.size w4.heap.size _ S4 F1.out (by omega) Hb1.out (by omega) (by omega)).mono ?_
      rintro e w9 ⟨rfl, m4, hx9⟩
      replace S3 := S3.ex hx9 (Or.inl (by omega))
      replace S5 := S5.ex hx9 (Or.inr (by omega))
      have B9 : Below w.heap.size w w9 := B8.trans (hx9.1.mono (by omega))
      clear m4 S4
      go_wp2_with fail
      refine (eqFeatS_c A5 A3 c5 c3 r r _ S5.C.2.2 S3.C.2.2 F3.out F3.out).mono ?_
      rintro e w10 ⟨rfl, hb10⟩
      rw [eqB_t.2 rfl]
      replace S3 := S3.below hb10
      replace S5 := S5.below hb10
      have B10 : Below w.heap.size w w10 := bl
      have s9 := hx9.1.size
      have s10 := hb10.size
      go_wp2_with fail
      refine (markFeatS_c A5 c5 r 1 w4.heap.size w5.heap.size _ S5 F3.out (by omega) Hb3.out (by omega) (by omega)).mono ?_
      rintro e w11 ⟨rfl, m5, hx11⟩
      replace S3 := S3.ex hx11 (Or.inl (by omega))
      have B11 : Below w.heap.size w w11 := B10.trans (hx11.1.mono (by omega))
      clear S5 B8 B9
      go_wp2_with fail
      refine (heldFeatS_c A5 c5 r 1 _ m5 F3.out (by omega) Hb3.out).mono ?_
      rintro e w12 ⟨rfl, hb12⟩
      go_wp2_with fail
      refine (toFeatS_s A c l _ (Kd.C_below hl bl) F1.out).mono ?_
      rintro e w13 ⟨A13, c13, rfl, hs13, hb13⟩
      go_wp2_with fail
      refine (HI.out A13 c13 _ hs13.C.2.2 hs13.C.2.1).mono ?_
      rintro e w14 ⟨A14, c14, rfl, hs14, hb14⟩
      simp only [] at hs14
      go_wp2_with fail
      refine (eqFeatS_c A14 A3 c14 c3 r r _ hs14.C.2.2 (Kd.C_below S3.C.2.2 bl) F3.out F3.out).mono ?_
      rintro e w15 ⟨rfl, hb15⟩
      rw [eqB_t.2 rfl]
      go_wp2_with fail
      refine (heldFeatS_c A5 c5 r 1 _ (Kd.C_below m5 bl) F3.out (by omega) Hb3.out).mono ?_
      rintro e w16 ⟨rfl, hb16⟩
      go_wp2
      go_ret
      exact ⟨rfl, bl⟩
    · have Hf := Lib.hid (lef_neg (show 1048576 - (sheetSz l : Int) < 0 by omega))
      have HX := Lib.hid hx
      clear hx
      go_enter Try.func11, Try.ntmps11
      go_wp2_with fail
      refine (HX.out _ _ hl (by omega) (by omega)).mono ?_
      rintro e w1 ⟨rfl, hb1⟩
      rw [Hf.out]
      go_wp2
      go_ret
      exact ⟨rfl, bl⟩
  · have k_id : decide ((1048576 : Int) < (id.size : Int)) = true := decide_eq_true (by omega)
    clear hx
    go_enter Try.func11, Try.ntmps11
    go_wp2
    go_ret
    exact ⟨rfl, bl⟩
end Go.Proofs.Ytlebgjafaioajaa
