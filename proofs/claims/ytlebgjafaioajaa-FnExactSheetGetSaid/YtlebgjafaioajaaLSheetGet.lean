/- Law: the program's SheetGet answers what the reference's answers, shares no memory; its argument reads as before. -/
import Derived.Test.YtlebgjafaioajaaSk
import Derived.Test.YtlebgjafaioajaaLSheetSame
namespace Go.Proofs.Ytlebgjafaioajaa
open Go.RowKit Go.Proofs.YtlebgjafaioajaaW.PrintWords Go.Proofs.YtlebgjafaioajaaW.PrintLast
set_option maxRecDepth 100000
set_option linter.unusedVariables false
set_option linter.unusedSimpArgs false
theorem sget_few {l : List FeatD} (h : Few l) (id : ByteArray) : (sget l id).1.2.1.2.length ≤ 1048576 ∧ (sget l id).1.2.2.length ≤ 1048576 := by
  rcases sget_cases l id with ⟨_, hs⟩ | ⟨_, _, hs⟩ | ⟨k, _, _, hk, _, hs⟩
  · rw [hs]; exact ⟨by decide, by decide⟩
  · rw [hs]; exact ⟨by decide, by decide⟩
  · rw [hs]; exact h.2 _ (List.getElem_mem hk)
set_option maxHeartbeats 8000000 in
theorem FnExactSheetGet_c (A : Option Addr) (c : Nat) (l : List FeatD) (id : ByteArray) (w : World) (hl : kFeat.C w A l.length l) (hn : FsIn l) (hk : id.size ≤ 140737488351232) :
    Calls Try.prog 10 #[.slice A l.length c, .string id] w fun e w' => e = .returned (.bool true) ∧ Below w.heap.size w w' := by
  have hx := fun a w hl h0 ha => szFeatS_c A l c a w hl hn.2 hn.1 h0 ha
  change ∀ a w, _ → _ → _ → Calls _ _ _ _ (fun e w' => e = .returned (.int .i64 (lef (a - (sheetSz l : Int)))) ∧ _) at hx
  by_cases hs_id : (id.size : Int) ≤ 1048576
  · have k_id : decide ((1048576 : Int) < (id.size : Int)) = false := decide_eq_false (by omega)
    by_cases hs : (sheetSz l : Int) ≤ 1048576
    · have Hf := Lib.hid (lef_pos (show 0 ≤ 1048576 - (sheetSz l : Int) by omega))
      have F1 := Lib.hid (few_of (show sheetSz l ≤ 1048576 by omega))
      have X1 := Lib.hid (ftxs_of (show sheetSz l ≤ 1048576 by omega))
      have z0 : 0 ≤ 1048576 - (sheetSz l : Int) := by omega
      have hmk := mkks_le 1 l
      have hb1 : (1 : Int) + 2 * ((l.length + featsSz l : Nat) : Int) ≤ 1073741824 := by unfold sheetSz at hs; omega
      have n1 := F1.out.1
      have hS := fun A c w hl => sSheetGet_c A c l id w hl F1.out X1.out
      have hI := fun A c w hl => iSheetGet_c A c l id w hl F1.out X1.out
      obtain ⟨n3, n4⟩ := sget_few F1.out id
      obtain ⟨r, b, hrb⟩ : ∃ r b, sget l id = (r, b) := ⟨_, _, rfl⟩
      rw [hrb] at hS hI n3 n4
      simp only [] at n3 n4
      have HS := Lib.hid hS
      have HI := Lib.hid hI
      have HX := Lib.hid hx
      have Hb1 := Lib.hid hb1
      have t1 : decide (mkks 1 l < 0) = false := decide_eq_false (by omega)
      clear hS hI hrb hx hn hs hmk hb1
      go_enter Try.func10, Try.ntmps10
      go_wp2_with fail
      refine (HX.out _ _ hl (by omega) (by omega)).mono ?_
      rintro e w1 ⟨rfl, hb1⟩
      rw [Hf.out]
      go_wp2_with fail
      refine (toFeatS_s A c l _ (Kd.C_below hl bl) F1.out).mono ?_
      rintro e w2 ⟨A2, c2, rfl, hs2, hb2⟩
      go_wp2_with fail
      refine (HS.out A2 c2 _ hs2.C.2.2).mono ?_
      rintro e w3 ⟨A3, c3, B3, d3, rfl, hr3, ht3, hb3⟩
      have HC := (Cells.nil w3).box4 (p := .string r.1) (q := .int .i64 r.2.1.1) (r := .slice A3 r.2.1.2.length c3) (s := .slice B3 r.2.2.length d3) (t := 35) (Below.refl _ _)
      obtain ⟨h0, h1, h2, h3, _⟩ := HC.all
      go_wp2_with fail
      refine (toFeatS_s A c l _ (Kd.C_below hl bl) F1.out).mono ?_
      rintro e w4 ⟨A4, c4, rfl, hs4, hb4⟩
      replace HC := HC.to hb4
      clear h0 h1 h2 h3
      obtain ⟨h0, h1, h2, h3, _⟩ := HC.all
      go_wp2_with fail
      refine (HI.out A4 c4 _ hs4.C.2.2).mono ?_
      rintro e w5 ⟨A5, c5, B5, d5, rfl, hr5, ht5, hb5⟩
      replace HC : Cells (w5.alloc (.cells #[.string r.1, .int .i64 r.2.1.1, .slice A5 r.2.1.2.length c5, .slice B5 r.2.2.length d5] 35)) _ := (HC.to hb5).box4 (Below.refl _ _)
      clear h0 h1 h2 h3
      obtain ⟨h0, h1, h2, h3, h4, h5, h6, h7, _⟩ := HC.all
      simp only [] at hr3 ht3 hr5 ht5
      go_wp2_with fail
      refine (eqFeat_c r r A5 c5 B5 d5 A3 c3 B3 d3 _ (Kd.C_below hr5.rd.2.2 bl) (Kd.C_below ht5.rd.2.2 bl) (Kd.C_below hr3.rd.2.2 bl) (Kd.C_below ht3.rd.2.2 bl) n3 n4 n3 n4).mono ?_
      rintro e w6 ⟨rfl, hb6⟩
      rw [eqB_t.2 rfl]
      replace HC := HC.to hb6
      clear h0 h1 h2 h3 h4 h5 h6 h7
      obtain ⟨h0, h1, h2, h3, h4, h5, h6, h7, _⟩ := HC.all
      go_wp2_with fail
      refine (toFeatS_s A c l _ (Kd.C_below hl bl) F1.out).mono ?_
      rintro e w7 ⟨A7, c7, rfl, hs7, hb7⟩
      go_wp2_with fail
      refine (eqFeatS_c A4 A7 c4 c7 l l _ (Kd.C_below hs4.C.2.2 bl) hs7.C.2.2 F1.out F1.out).mono ?_
      rintro e w8 ⟨rfl, hb8⟩
      rw [eqB_t.2 rfl]
      replace HC := (HC.to hb7).to hb8
      have s1 := hb1.size
      have s2 := hb2.size
      have s3 := hb3.size
      have s4 := hb4.size
      have s5 := hb5.size
      have s6 := hb6.size
      have s7 := hb7.size
      have s8 := hb8.size
      simp only [World.size_alloc] at s1 s2 s3 s4 s5 s6 s7 s8
      have r3 : RI kPt 108 w8 w2.heap.size w3.heap.size (.slice A3 r.2.1.2.length c3) r.2.1.2 := hr3.below bl
      have t3 : RI kTag 57 w8 w2.heap.size w3.heap.size (.slice B3 r.2.2.length d3) r.2.2 := ht3.below bl
      have S4 : Sep w8 (w3.heap.size + 1) w4.heap.size (.slice A4 l.length c4) l := by have := hs4.below (bl : Below w4.heap.size w4 w8); simpa only [World.size_alloc] using this
      have r5 : RI kPt 108 w8 w4.heap.size w5.heap.size (.slice A5 r.2.1.2.length c5) r.2.1.2 := hr5.below bl
      have t5 : RI kTag 57 w8 w4.heap.size w5.heap.size (.slice B5 r.2.2.length d5) r.2.2 := ht5.below bl
      have B8 : Below w.heap.size w w8 := bl
      clear hs2 hr3 ht3 hs4 hr5 ht5 hs7 HS HX
      clear h0 h1 h2 h3 h4 h5 h6 h7
      obtain ⟨h0, h1, h2, h3, h4, h5, h6, h7, _⟩ := HC.all
      go_wp2_with fail
      refine (markFeatS_c A4 c4 l 1 (w3.heap.size + 1) w4.heap.size _ S4 F1.out (by omega) Hb1.out (by omega) (by omega)).mono ?_
      rintro e w9 ⟨rfl, m4, hx9⟩
      replace r3 := r3.ex hx9 (Or.inl (by omega))
      replace t3 := t3.ex hx9 (Or.inl (by omega))
      replace r5 := r5.ex hx9 (Or.inr (by omega))
      replace t5 := t5.ex hx9 (Or.inr (by omega))
      replace HC := HC.ex hx9 (fun x hx_ => by simp only [List.mem_cons, List.mem_nil_iff, or_false] at hx_; rcases hx_ with rfl | rfl | rfl | rfl | rfl | rfl | rfl | rfl <;> simp only [] <;> omega)
      have B9 : Below w.heap.size w w9 := B8.trans (hx9.1.mono (by omega))
      clear m4 S4
      clear h0 h1 h2 h3 h4 h5 h6 h7
      obtain ⟨h0, h1, h2, h3, h4, h5, h6, h7, _⟩ := HC.all
      go_wp2_with fail
      refine (eqFeat_c r r A5 c5 B5 d5 A3 c3 B3 d3 _ r5.rd.2.2 t5.rd.2.2 r3.rd.2.2 t3.rd.2.2 n3 n4 n3 n4).mono ?_
      rintro e w10 ⟨rfl, hb10⟩
      rw [eqB_t.2 rfl]
      replace r3 := r3.below hb10
      replace t3 := t3.below hb10
      replace r5 := r5.below hb10
      replace t5 := t5.below hb10
      replace HC := HC.to hb10
      have B10 : Below w.heap.size w w10 := bl
      have s9 := hx9.1.size
      have s10 := hb10.size
      clear h0 h1 h2 h3 h4 h5 h6 h7
      obtain ⟨h0, h1, h2, h3, h4, h5, h6, h7, _⟩ := HC.all
      go_wp2_with fail
      refine (markFeat_c r A5 c5 B5 d5 w4.heap.size w5.heap.size _ r5 t5 n3 n4 (by omega) (by omega)).mono ?_
      rintro e w11 ⟨rfl, m5, m5', hx11⟩
      replace r3 := r3.ex hx11 (Or.inl (by omega))
      replace t3 := t3.ex hx11 (Or.inl (by omega))
      replace HC := HC.ex hx11 (fun x hx_ => by simp only [List.mem_cons, List.mem_nil_iff, or_false] at hx_; rcases hx_ with rfl | rfl | rfl | rfl | rfl | rfl | rfl | rfl <;> simp only [] <;> omega)
      have B11 : Below w.heap.size w w11 := B10.trans (hx11.1.mono (by omega))
      have t2 : decide (1 + 2 * (r.2.1.2.length : Int) + 2 * (r.2.2.length : Int) < 0) = false := by simp; omega
      clear r5 t5 B8 B9
      clear h0 h1 h2 h3 h4 h5 h6 h7
      obtain ⟨h0, h1, h2, h3, h4, h5, h6, h7, _⟩ := HC.all
      go_wp2_with fail
      refine (heldFeat_c r A5 c5 _ B5 d5 _ r.1 r.2.1.1 _ m5 m5' n3 n4).mono ?_
      rintro e w12 ⟨rfl, hb12⟩
      replace HC := HC.to hb12
      clear h0 h1 h2 h3 h4 h5 h6 h7
      obtain ⟨h0, h1, h2, h3, h4, h5, h6, h7, _⟩ := HC.all
      go_wp2_with fail
      refine (toFeatS_s A c l _ (Kd.C_below hl bl) F1.out).mono ?_
      rintro e w13 ⟨A13, c13, rfl, hs13, hb13⟩
      replace HC := HC.to hb13
      clear h0 h1 h2 h3 h4 h5 h6 h7
      obtain ⟨h0, h1, h2, h3, h4, h5, h6, h7, _⟩ := HC.all
      go_wp2_with fail
      refine (HI.out A13 c13 _ hs13.C.2.2).mono ?_
      rintro e w14 ⟨A14, c14, B14, d14, rfl, hr14, ht14, hb14⟩
      simp only [] at hr14 ht14
      replace HC : Cells (w14.alloc (.cells #[.string r.1, .int .i64 r.2.1.1, .slice A14 r.2.1.2.length c14, .slice B14 r.2.2.length d14] 35)) _ := (HC.to hb14).box4 (Below.refl _ _)
      clear h0 h1 h2 h3 h4 h5 h6 h7
      obtain ⟨h0, h1, h2, h3, h4, h5, h6, h7, h8, h9, h10, h11, _⟩ := HC.all
      go_wp2_with fail
      refine (eqFeat_c r r A14 c14 B14 d14 A3 c3 B3 d3 _ (Kd.C_below hr14.rd.2.2 bl) (Kd.C_below ht14.rd.2.2 bl) (Kd.C_below r3.rd.2.2 bl) (Kd.C_below t3.rd.2.2 bl) n3 n4 n3 n4).mono ?_
      rintro e w15 ⟨rfl, hb15⟩
      rw [eqB_t.2 rfl]
      replace HC := HC.to hb15
      clear h0 h1 h2 h3 h4 h5 h6 h7 h8 h9 h10 h11
      obtain ⟨h0, h1, h2, h3, h4, h5, h6, h7, h8, h9, h10, h11, _⟩ := HC.all
      go_wp2_with fail
      refine (heldFeat_c r A5 c5 _ B5 d5 _ r.1 r.2.1.1 _ (Kd.C_below m5 bl) (Kd.C_below m5' bl) n3 n4).mono ?_
      rintro e w16 ⟨rfl, hb16⟩
      go_wp2
      go_ret
      exact ⟨rfl, bl⟩
    · have Hf := Lib.hid (lef_neg (show 1048576 - (sheetSz l : Int) < 0 by omega))
      have HX := Lib.hid hx
      clear hx
      go_enter Try.func10, Try.ntmps10
      go_wp2_with fail
      refine (HX.out _ _ hl (by omega) (by omega)).mono ?_
      rintro e w1 ⟨rfl, hb1⟩
      rw [Hf.out]
      go_wp2
      go_ret
      exact ⟨rfl, bl⟩
  · have k_id : decide ((1048576 : Int) < (id.size : Int)) = true := decide_eq_true (by omega)
    clear hx
    go_enter Try.func10, Try.ntmps10
    go_wp2
    go_ret
    exact ⟨rfl, bl⟩
end Go.Proofs.Ytlebgjafaioajaa
