/- Law: of a drawn map a name is cut: as the reference does it; nothing else goes, and it can be put back. -/
import Derived.Test.YtlebgjafaioajaaPs
import Derived.Test.YtlebgjafaioajaaSz
import Derived.Test.YtlebgjafaioajaaDy
import Derived.Test.YtlebgjafaioajaaLFeatOk
namespace Go.Proofs.Ytlebgjafaioajaa
open Go.RowKit Go.Proofs.YtlebgjafaioajaaW.PrintWords Go.Proofs.YtlebgjafaioajaaW.PrintLast
set_option maxRecDepth 100000
set_option linter.unusedVariables false
set_option linter.unusedSimpArgs false
set_option maxHeartbeats 8000000 in
theorem FnSheetCut_c (A : Option Addr) (c : Nat) (l : List Int) (w : World) (hl : (Kd.int .u8).C w A l.length l) (hn : (l.length : Int) ≤ 140737488351232) (hb : ∀ x ∈ l, 0 ≤ x ∧ x ≤ 255) (hc : l.length ≤ c) :
    Calls Try.prog 16 #[.slice A l.length c] w fun e w' => e = .returned (.bool true) ∧ Below w.heap.size w w' := by
  by_cases hs : (l.length : Int) ≤ 1048576
  · have hd : decide ((1048576 : Int) < (l.length : Int)) = false := decide_eq_false (by omega)
    go_enter Try.func16, Try.ntmps16
    go_wp2_with fail
    refine (DrawSheetCut_d A c l _ (Kd.C_below hl bl) hb hc (by omega)).mono ?_
    rintro e w1 ⟨m, D, d, id, rfl, hmd, hm, hsm, hlen, hid, hb1⟩
    have X1 : ∀ f ∈ m, FTx f := fun f hf => (hsm f hf).ftx (by decide)
    have F1 : Few m := ⟨by omega, fun f hf => ⟨(X1 f hf).pts, (X1 f hf).tags⟩⟩
    have hI := fun w hl => iSheetCut_c D d m id w hl hmd F1 X1
    have hR := fun w hl => sSheetCut_c D d m id w hl F1 X1
    have hG := fun w hl => iSheetGet_c D d m id w hl F1 X1
    have hH := fun w hl => sSheetGet_c D d m id w hl F1 X1
    obtain ⟨r, hr, Xr⟩ : ∃ r : FeatD, r = feat0 ∧ FTx r := ⟨feat0, rfl, ftx00⟩
    rcases cutS_cases m id with ⟨hc1, hg1⟩ | ⟨f, hf, hok, hc1, hg1, hcl, hok2, hg2, hp2⟩
    · rw [hc1] at hI hR
      rw [hg1, ← hr] at hG hH
      have F0 : Few ([] : List FeatD) := ⟨by simp, fun f hf => by cases hf⟩
      have n3 := Xr.pts
      have n4 := Xr.tags
      have HI := Lib.hid hI
      have HR := Lib.hid hR
      have HG := Lib.hid hG
      have HH := Lib.hid hH
      clear hI hR hG hH hc1 hg1 hr
      go_wp2_with fail
      refine (HI.out _ (Kd.C_below hm bl)).mono ?_
      rintro e w2 ⟨A2, c2, rfl, hS2, hb2⟩
      have C2 := hS2.C.2.2
      go_wp2_with fail
      refine (HR.out _ (Kd.C_below hm bl)).mono ?_
      rintro e w3 ⟨A3, c3, rfl, hS3, hb3⟩
      have C3 := hS3.C.2.2
      clear hS2 hS3
      go_wp2_with fail
      refine (HG.out _ (Kd.C_below hm bl)).mono ?_
      rintro e w4 ⟨A4, c4, B4', d4, rfl, hp4, ht4, hb4⟩
      have HC : Cells (w4.alloc (.cells #[.string r.1, .int .i64 r.2.1.1, .slice A4 r.2.1.2.length c4, .slice B4' r.2.2.length d4] 35)) _ := (Cells.nil w4).box4 (Below.refl _ _)
      obtain ⟨h0, h1, h2, h3, _⟩ := HC.all
      go_wp2_with fail
      refine (HH.out _ (Kd.C_below hm bl)).mono ?_
      rintro e w5 ⟨A5, c5, B5, d5, rfl, hp5, ht5, hb5⟩
      replace HC : Cells (w5.alloc (.cells #[.string r.1, .int .i64 r.2.1.1, .slice A5 r.2.1.2.length c5, .slice B5 r.2.2.length d5] 35)) _ := (HC.to hb5).box4 (Below.refl _ _)
      clear h0 h1 h2 h3
      obtain ⟨h0, h1, h2, h3, h4, h5, h6, h7, _⟩ := HC.all
      simp only [] at hp4 ht4 hp5 ht5 C2 C3
      go_wp2_with fail
      refine (iSheetSame_c A2 A3 c2 c3 [] [] _ (Kd.C_below C2 bl) (Kd.C_below C3 bl) F0 F0).mono ?_
      rintro e w6 ⟨rfl, hb6⟩
      rw [eqB_t.2 rfl]
      replace HC := HC.to hb6
      clear h0 h1 h2 h3 h4 h5 h6 h7
      obtain ⟨h0, h1, h2, h3, h4, h5, h6, h7, _⟩ := HC.all
      go_wp2_with fail
      refine (iFeatSame_c r r A4 c4 B4' d4 A5 c5 B5 d5 _ (Kd.C_below hp4.rd.2.2 bl) (Kd.C_below ht4.rd.2.2 bl) (Kd.C_below hp5.rd.2.2 bl) (Kd.C_below ht5.rd.2.2 bl) n3 n4 n3 n4).mono ?_
      rintro e w7 ⟨rfl, hb7⟩
      rw [eqB_t.2 rfl]
      replace HC := HC.to hb7
      clear h0 h1 h2 h3 h4 h5 h6 h7
      obtain ⟨h0, h1, h2, h3, h4, h5, h6, h7, _⟩ := HC.all
      go_wp2
      go_ret
      exact ⟨rfl, bl⟩
    · have Fq := few_cut F1 id
      have Xq : ∀ f ∈ cutK m id, FTx f := fun f hf => X1 f (List.mem_filter.1 hf).1
      have Xf := X1 f hf
      have hGq := fun A c w hl => iSheetGet_c A c (cutK m id) id w hl Fq Xq
      rw [hg2, ← hr] at hGq
      have hPq := fun A c A' c' B' d' w hl hp ht hpc htd => iSheetPut_c A c (cutK m id) f A' c' B' d' w hl Fq Xq hp ht hpc htd Xf
      rw [hp2] at hPq
      have hOq := fun A c w hl => iSheetOk_c A c (cutK m id) w hl Fq.1 Xq
      rw [sheetOk_t.2 hok2] at hOq
      rw [hc1] at hI hR
      rw [hg1] at hG hH
      generalize cutK m id = q at *
      have hwl : IntKind.i64.wrap ((m.length : Int) - 1) = (q.length : Int) := by rw [IntWalk.i64_in _ (by omega)]; omega
      have n1 := Xf.pts
      have n2 := Xf.tags
      have n3 := Xr.pts
      have n4 := Xr.tags
      have HI := Lib.hid hI
      have HR := Lib.hid hR
      have HG := Lib.hid hG
      have HH := Lib.hid hH
      have HGq := Lib.hid hGq
      have HPq := Lib.hid hPq
      have HOq := Lib.hid hOq
      clear hI hR hG hH hGq hPq hOq hc1 hg1 hr hok hok2 hg2 hp2 hcl hf
      go_wp2_with fail
      refine (HI.out _ (Kd.C_below hm bl)).mono ?_
      rintro e w2 ⟨A2, c2, rfl, hS2, hb2⟩
      have C2 := hS2.C.2.2
      go_wp2_with fail
      refine (HR.out _ (Kd.C_below hm bl)).mono ?_
      rintro e w3 ⟨A3, c3, rfl, hS3, hb3⟩
      have C3 := hS3.C.2.2
      clear hS2 hS3
      go_wp2_with fail
      refine (HG.out _ (Kd.C_below hm bl)).mono ?_
      rintro e w4 ⟨A4, c4, B4', d4, rfl, hp4, ht4, hb4⟩
      have HC : Cells (w4.alloc (.cells #[.string f.1, .int .i64 f.2.1.1, .slice A4 f.2.1.2.length c4, .slice B4' f.2.2.length d4] 35)) _ := (Cells.nil w4).box4 (Below.refl _ _)
      obtain ⟨h0, h1, h2, h3, _⟩ := HC.all
      go_wp2_with fail
      refine (HH.out _ (Kd.C_below hm bl)).mono ?_
      rintro e w5 ⟨A5, c5, B5, d5, rfl, hp5, ht5, hb5⟩
      replace HC : Cells (w5.alloc (.cells #[.string f.1, .int .i64 f.2.1.1, .slice A5 f.2.1.2.length c5, .slice B5 f.2.2.length d5] 35)) _ := (HC.to hb5).box4 (Below.refl _ _)
      clear h0 h1 h2 h3
      obtain ⟨h0, h1, h2, h3, h4, h5, h6, h7, _⟩ := HC.all
      simp only [] at hp4 ht4 hp5 ht5 C2 C3
      go_wp2_with fail
      refine (iSheetSame_c A2 A3 c2 c3 q q _ (Kd.C_below C2 bl) (Kd.C_below C3 bl) Fq Fq).mono ?_
      rintro e w6 ⟨rfl, hb6⟩
      rw [eqB_t.2 rfl]
      replace HC := HC.to hb6
      clear h0 h1 h2 h3 h4 h5 h6 h7
      obtain ⟨h0, h1, h2, h3, h4, h5, h6, h7, _⟩ := HC.all
      go_wp2_with fail
      refine (iFeatSame_c f f A4 c4 B4' d4 A5 c5 B5 d5 _ (Kd.C_below hp4.rd.2.2 bl) (Kd.C_below ht4.rd.2.2 bl) (Kd.C_below hp5.rd.2.2 bl) (Kd.C_below ht5.rd.2.2 bl) n1 n2 n1 n2).mono ?_
      rintro e w7 ⟨rfl, hb7⟩
      rw [eqB_t.2 rfl]
      replace HC := HC.to hb7
      clear h0 h1 h2 h3 h4 h5 h6 h7
      obtain ⟨h0, h1, h2, h3, h4, h5, h6, h7, _⟩ := HC.all
      go_wp2_with fail
      refine (HGq.out A2 c2 _ (Kd.C_below C2 bl)).mono ?_
      rintro e w8 ⟨A8, c8, B8, d8, rfl, hp8, ht8, hb8⟩
      replace HC : Cells (w8.alloc (.cells #[.string r.1, .int .i64 r.2.1.1, .slice A8 r.2.1.2.length c8, .slice B8 r.2.2.length d8] 35)) _ := (HC.to hb8).box4 (Below.refl _ _)
      clear h0 h1 h2 h3 h4 h5 h6 h7
      obtain ⟨h0, h1, h2, h3, h4, h5, h6, h7, h8, h9, h10, h11, _⟩ := HC.all
      go_wp2_with fail
      refine (HPq.out A2 c2 A4 c4 B4' d4 _ (Kd.C_below C2 bl) (Kd.C_below hp4.rd.2.2 bl) (Kd.C_below ht4.rd.2.2 bl) hp4.rd.2.1 ht4.rd.2.1).mono ?_
      rintro e w9 ⟨A9, c9, rfl, hS9, hb9⟩
      have C9 := hS9.C.2.2
      clear hS9
      simp only [] at C9
      replace HC := HC.to hb9
      clear h0 h1 h2 h3 h4 h5 h6 h7 h8 h9 h10 h11
      obtain ⟨h0, h1, h2, h3, h4, h5, h6, h7, h8, h9, h10, h11, _⟩ := HC.all
      go_wp2_with fail
      refine (HOq.out A2 c2 _ (Kd.C_below C2 bl)).mono ?_
      rintro e w10 ⟨rfl, hb10⟩
      replace HC := HC.to hb10
      clear h0 h1 h2 h3 h4 h5 h6 h7 h8 h9 h10 h11
      obtain ⟨h0, h1, h2, h3, h4, h5, h6, h7, h8, h9, h10, h11, _⟩ := HC.all
      go_wp2_with fail
      refine (iSheetSame_c A9 D c9 d m m _ (Kd.C_below C9 bl) (Kd.C_below hm bl) F1 F1).mono ?_
      rintro e w11 ⟨rfl, hb11⟩
      rw [eqB_t.2 rfl]
      go_wp2
      go_ret
      exact ⟨rfl, bl⟩
  · have hd : decide ((1048576 : Int) < (l.length : Int)) = true := decide_eq_true (by omega)
    go_enter Try.func16, Try.ntmps16
    go_wp2
    go_ret
    exact ⟨rfl, bl⟩
end Go.Proofs.Ytlebgjafaioajaa
