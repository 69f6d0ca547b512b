/- Law: to a drawn map a thing is put: as the reference does it; nothing else turns, and it can be taken back. -/
import Derived.Test.YtlebgjafaioajaaPs
import Derived.Test.YtlebgjafaioajaaSz
import Derived.Test.YtlebgjafaioajaaDy
import Derived.Test.YtlebgjafaioajaaLFeatOk
namespace Go.Proofs.Ytlebgjafaioajaa
open Go.RowKit Go.Proofs.YtlebgjafaioajaaW.PrintWords Go.Proofs.YtlebgjafaioajaaW.PrintLast
set_option maxRecDepth 100000
set_option linter.unusedVariables false
set_option linter.unusedSimpArgs false
def l_FnSheetPut_T17 : Bool × List (List Nat × List Nat) := (true, [([], []), ([], []), ([0, 1], [0, 1]), ([2], [2]), ([3], [3]), ([], []), ([5], [5]), ([4, 6], [4, 6]), ([7], [7]), ([8], [8]), ([9, 8], [8, 9]), ([10, 8, 8], [8, 10]), ([11], [11]), ([11], [11]), ([11], [11]), ([13, 14, 11], [11, 13, 14]), ([15, 11], [11, 15]), ([12, 16, 11, 11], [11, 12, 16]), ([17, 11], [11, 17]), ([11, 18, 8], [8, 11, 18]), ([8, 19], [8, 19])])
theorem l_FnSheetPut_t17 : rtab .any (opsOf Try.f15 17) = l_FnSheetPut_T17 := by kernel_rfl
set_option maxHeartbeats 8000000 in
theorem FnSheetPut_c (A : Option Addr) (c : Nat) (l : List Int) (w : World) (hl : (Kd.int .u8).C w A l.length l) (hn : (l.length : Int) ≤ 140737488351232) (hb : ∀ x ∈ l, 0 ≤ x ∧ x ≤ 255) (hc : l.length ≤ c) :
    Calls Try.prog 15 #[.slice A l.length c] w fun e w' => e = .returned (.bool true) ∧ Below w.heap.size w w' := by
  by_cases hs : (l.length : Int) ≤ 1048576
  · have hd : decide ((1048576 : Int) < (l.length : Int)) = false := decide_eq_false (by omega)
    go_enter Try.func15, Try.ntmps15
    go_wp2_with fail
    refine (DrawSheetPut_d A c l _ (Kd.C_below hl bl) hb hc (by omega)).mono ?_
    rintro e w1 ⟨m, D, d, f, A1, c1, B1, d1, rfl, hmd, hm, hsm, hlen, hp1, ht1, hpc, htd, hS, hb1⟩
    have X1 : ∀ f ∈ m, FTx f := fun f hf => (hsm f hf).ftx (by decide)
    have F1 : Few m := few_of X1 (by omega)
    have Xf := hS.ftx (by decide)
    have hI := fun w hl hp ht => iSheetPut_c D d m f A1 c1 B1 d1 w hl F1 X1 hp ht hpc htd Xf
    have hR := fun w hl hp ht => sSheetPut_c D d m f A1 c1 B1 d1 w hl F1 X1 hp ht hpc htd Xf
    have n1 := Xf.pts
    have n2 := Xf.tags
    have HC : Cells (w1.alloc (.cells #[.string f.1, .int .i64 f.2.1.1, .slice A1 f.2.1.2.length c1, .slice B1 f.2.2.length d1] 35)) _ := (Cells.nil w1).box4 (Below.refl _ _)
    rcases putS_cases m f with hf | ⟨hok, hof, h8, hf⟩
    · rw [hf] at hI hR
      have F0 : Few ([] : List FeatD) := ⟨by simp, fun f hf => by cases hf⟩
      have HI := Lib.hid hI
      have HR := Lib.hid hR
      clear hI hR hf
      obtain ⟨h0, h1, h2, h3, _⟩ := HC.all
      go_wp2_with fail
      refine (HI.out _ (Kd.C_below hm bl) (Kd.C_below hp1 bl) (Kd.C_below ht1 bl)).mono ?_
      rintro e w2 ⟨A2, c2, rfl, hS2, hb2⟩
      have C2 := hS2.C.2.2
      replace HC := HC.to hb2
      clear h0 h1 h2 h3
      obtain ⟨h0, h1, h2, h3, _⟩ := HC.all
      go_wp2_with fail
      refine (HR.out _ (Kd.C_below hm bl) (Kd.C_below hp1 bl) (Kd.C_below ht1 bl)).mono ?_
      rintro e w3 ⟨A3, c3, rfl, hS3, hb3⟩
      have C3 := hS3.C.2.2
      replace HC := HC.to hb3
      clear h0 h1 h2 h3
      obtain ⟨h0, h1, h2, h3, _⟩ := HC.all
      clear hS2 hS3
      simp only [] at C2 C3
      go_wp2_with fail
      refine (iSheetSame_c A2 A3 c2 c3 [] [] _ (Kd.C_below C2 bl) (Kd.C_below C3 bl) F0 F0).mono ?_
      rintro e w6 ⟨rfl, hb6⟩
      rw [eqB_t.2 rfl]
      replace HC := HC.to hb6
      clear h0 h1 h2 h3
      obtain ⟨h0, h1, h2, h3, _⟩ := HC.all
      go_wp2
      go_ret
      exact ⟨rfl, bl⟩
    · obtain ⟨hpok, hgf, hgi, hcut, hold⟩ := put_facts hok hof h8
      have Xp : ∀ g ∈ putK m f, FTx g := fun g hg => by
        rcases putK_mem hg with rfl | hg
        · exact Xf
        · exact X1 g hg
      have Fp : Few (putK m f) := few_of Xp (by omega)
      have hold' : (∃ o, FTx o ∧ sget m f.1 = (o, true) ∧ sput (putK m f) o = (m, true)) ∨ (sget m f.1 = (feat0, false) ∧ cutK (putK m f) f.1 = m) := by
        rcases hold with ⟨o, ho, h1, h2⟩ | h
        · exact .inl ⟨o, X1 o ho, h1, h2⟩
        · exact .inr h
      have hGf := fun A c w hl => iSheetGet_c A c (putK m f) f.1 w hl Fp Xp
      rw [hgf] at hGf
      have hGi := fun k A c w hl => iSheetGet_c A c (putK m f) k w hl Fp Xp
      have hOr := fun A c w hl => iSheetOk_c A c (putK m f) w hl Fp.1 Xp
      rw [sheetOk_t.2 hpok] at hOr
      have hCr := fun A c w hl hcap => iSheetCut_c A c (putK m f) f.1 w hl hcap Fp Xp
      rw [hcut] at hCr
      have hGm := fun A c w hl => iSheetGet_c A c m f.1 w hl F1 X1
      have hPr := fun o (hX : FTx o) A c A' c' B' d' w hl hp ht h1 h2 => iSheetPut_c A c (putK m f) o A' c' B' d' w hl Fp Xp hp ht h1 h2 hX
      rw [hf] at hI hR
      have Hold := Lib.hid hold'
      have Hgi := Lib.hid hgi
      clear hf hok hof hgf hgi hcut hold hold' hpok
      generalize cutK (putK m f) f.1 = mc at *
      generalize putK m f = q at *
      have HI := Lib.hid hI
      have HR := Lib.hid hR
      have HGf := Lib.hid hGf
      have HGi := Lib.hid hGi
      have HOr := Lib.hid hOr
      have HCr := Lib.hid hCr
      have HGm := Lib.hid hGm
      have HPr := Lib.hid hPr
      clear hI hR hGf hGi hOr hCr hGm hPr
      obtain ⟨h0, h1, h2, h3, _⟩ := HC.all
      go_wp2_with fail
      refine (HI.out _ (Kd.C_below hm bl) (Kd.C_below hp1 bl) (Kd.C_below ht1 bl)).mono ?_
      rintro e w2 ⟨A2, c2, rfl, hS2, hb2⟩
      have C2 := hS2.C.2.2
      have K2 := hS2.C.2.1
      replace HC := HC.to hb2
      clear h0 h1 h2 h3
      obtain ⟨h0, h1, h2, h3, _⟩ := HC.all
      go_wp2_with fail
      refine (HR.out _ (Kd.C_below hm bl) (Kd.C_below hp1 bl) (Kd.C_below ht1 bl)).mono ?_
      rintro e w3 ⟨A3, c3, rfl, hS3, hb3⟩
      have C3 := hS3.C.2.2
      replace HC := HC.to hb3
      clear h0 h1 h2 h3
      obtain ⟨h0, h1, h2, h3, _⟩ := HC.all
      clear hS2 hS3
      simp only [] at C2 C3 K2
      go_wp2_with fail
      refine (iSheetSame_c A2 A3 c2 c3 q q _ (Kd.C_below C2 bl) (Kd.C_below C3 bl) Fp Fp).mono ?_
      rintro e w4 ⟨rfl, hb4⟩
      rw [eqB_t.2 rfl]
      replace HC := HC.to hb4
      clear h0 h1 h2 h3
      obtain ⟨h0, h1, h2, h3, _⟩ := HC.all
      go_wp2_with fail
      refine (HGf.out A2 c2 _ (Kd.C_below C2 bl)).mono ?_
      rintro e w5 ⟨A5, c5, B5, d5, rfl, hp5, ht5, hb5⟩
      replace HC : Cells (w5.alloc (.cells #[.string f.1, .int .i64 f.2.1.1, .slice A5 f.2.1.2.length c5, .slice B5 f.2.2.length d5] 35)) _ := (HC.to hb5).box4 (Below.refl _ _)
      clear h0 h1 h2 h3
      obtain ⟨h0, h1, h2, h3, h4, h5, h6, h7, _⟩ := HC.all
      simp only [] at hp5 ht5
      go_wp2_with fail
      refine (iFeatSame_c f f A5 c5 B5 d5 A1 c1 B1 d1 _ (Kd.C_below hp5.rd.2.2 bl) (Kd.C_below ht5.rd.2.2 bl) (Kd.C_below hp1 bl) (Kd.C_below ht1 bl) n1 n2 n1 n2).mono ?_
      rintro e w6 ⟨rfl, hb6⟩
      rw [eqB_t.2 rfl]
      replace HC := HC.to hb6
      clear h0 h1 h2 h3 h4 h5 h6 h7
      obtain ⟨h0, h1, h2, h3, h4, h5, h6, h7, _⟩ := HC.all
      go_wp2_with fail
      refine (HOr.out A2 c2 _ (Kd.C_below C2 bl)).mono ?_
      rintro e w7 ⟨rfl, hb7⟩
      replace HC := HC.to hb7
      have M7 : kFeat.C w7 D m.length m := Kd.C_below hm bl
      have Q7 : kFeat.C w7 A2 q.length q := Kd.C_below C2 bl
      have hB : Below w.heap.size w w7 := bl
      clear hm C2 C3 hp5 ht5 hp1 ht1
      clear h0 h1 h2 h3 h4 h5 h6 h7
      obtain ⟨h0, h1, h2, h3, h4, h5, h6, h7, _⟩ := HC.all
      go_wp2
      go_loopw [11] (fun q wr => ∃ i : Nat, i ≤ m.length ∧ q = .int .i64 i ∧ Aside0 (Below w7.heap.size w7 wr)) (fun q _ => m.length - (intOf q).toNat)
      case atStart => exact ⟨0, by omega, rfl, ⟨Below.refl _ _⟩⟩
      case round =>
        obtain ⟨i, hi, rfl, ⟨hbr⟩⟩ := hrel
        replace HC := HC.to hbr
        clear h0 h1 h2 h3 h4 h5 h6 h7
        obtain ⟨h0, h1, h2, h3, h4, h5, h6, h7, _⟩ := HC.all
        have M1 := Kd.C_below M7 hbr
        have Q1 := Kd.C_below Q7 hbr
        by_cases hlt : i < m.length
        · have d9 : decide ((i : Int) < (m.length : Int)) = true := decide_eq_true (by omega)
          have hwi : IntKind.i64.wrap ((i : Int) + 1) = (i : Int) + 1 := IntWalk.i64_in _ (by omega)
          obtain ⟨ad, At, ct, Bt, dt, rfl, e0, e1, e2, e3, hCt, hTt, _, _⟩ := at_Feat M1 i hlt
          have Hi := Lib.hid (Hgi.out i hlt)
          have nt := F1.2 _ (List.getElem_mem hlt)
          generalize m[i] = t at *
          obtain ⟨nt1, nt2⟩ := nt
          by_cases hx : t.1 = f.1
          · have t2 := strB_t hx
            have hGt := HGi.out t.1
            obtain ⟨⟨o, ob⟩, ho⟩ : ∃ o, sget q t.1 = o := ⟨_, rfl⟩
            rw [ho] at hGt
            have HGt := Lib.hid hGt
            clear hx hGt ho
            go_wp2_with fail
            refine (HGt.out A2 c2 _ (Kd.C_below Q1 bl)).mono ?_
            rintro e w8 ⟨A8, c8, B8, d8, rfl, hp8, ht8, hb8⟩
            simp only [] at hp8 ht8
            have b8 : Below wr.heap.size wr (w8.alloc (.cells #[.string o.1, .int .i64 o.2.1.1, .slice A8 o.2.1.2.length c8, .slice B8 o.2.2.length d8] 35)) := bl
            have b9 : Below wr.heap.size wr (w8.alloc (.cells #[.string o.1, .int .i64 o.2.1.1, .slice A8 o.2.1.2.length c8, .slice B8 o.2.2.length d8] 35)).drew := bl
            replace HC : Cells (w8.alloc (.cells #[.string o.1, .int .i64 o.2.1.1, .slice A8 o.2.1.2.length c8, .slice B8 o.2.2.length d8] 35)) _ := (HC.to hb8).box4 (Below.refl _ _)
            clear h0 h1 h2 h3 h4 h5 h6 h7
            obtain ⟨h0, h1, h2, h3, h4, h5, h6, h7, h8, h9, h10, h11, _⟩ := HC.all
            replace e0 := pw_cell_below b8 e0
            replace e1 := pw_cell_below b8 e1
            replace e2 := pw_cell_below b8 e2
            replace e3 := pw_cell_below b8 e3
            go_wp2
            refine rgStart 21 [0, 1, 2, 3, 4, 5, 6, 7, 8, 9, 10, 11, 12, 13, 14, 15, 16, 17, 18, 19, 20] l_FnSheetPut_t17 (fun HT HS => ?_)
            repeat ((with_reducible refine rgGate ?_); first | refine rgP HT ?_ | refine rgL HT ?_ | refine rgG HT ?_)
            refine rgDone HT ?_
            clear HT HS
            go_wp2
            exact ⟨⟨i + 1, by omega, by go_num, ⟨hbr.trans (b9.mono hbr.size)⟩⟩, by simp [intOf]; omega⟩
          · have t2 := strB_f hx
            have hGt := HGi.out t.1
            rw [Hi.out hx] at hGt
            have HGt := Lib.hid hGt
            clear hx hGt
            go_wp2_with fail
            refine (HGt.out A2 c2 _ (Kd.C_below Q1 bl)).mono ?_
            rintro e w8 ⟨A8, c8, B8, d8, rfl, hp8, ht8, hb8⟩
            simp only [] at hp8 ht8
            have b8 : Below wr.heap.size wr (w8.alloc (.cells #[.string t.1, .int .i64 t.2.1.1, .slice A8 t.2.1.2.length c8, .slice B8 t.2.2.length d8] 35)) := bl
            replace HC : Cells (w8.alloc (.cells #[.string t.1, .int .i64 t.2.1.1, .slice A8 t.2.1.2.length c8, .slice B8 t.2.2.length d8] 35)) _ := (HC.to hb8).box4 (Below.refl _ _)
            clear h0 h1 h2 h3 h4 h5 h6 h7
            obtain ⟨h0, h1, h2, h3, h4, h5, h6, h7, h8, h9, h10, h11, _⟩ := HC.all
            replace e0 := pw_cell_below b8 e0
            replace e1 := pw_cell_below b8 e1
            replace e2 := pw_cell_below b8 e2
            replace e3 := pw_cell_below b8 e3
            go_wp2
            refine rgStart 21 [0, 1, 2, 3, 4, 5, 6, 7, 8, 9, 10, 11, 12, 13, 14, 15, 16, 17, 18, 19, 20] l_FnSheetPut_t17 (fun HT HS => ?_)
            repeat ((with_reducible refine rgGate ?_); first | refine rgP HT ?_ | refine rgL HT ?_ | refine rgG HT ?_)
            refine rgCall HT Try.func22 (iFeatSame_c t t A8 c8 B8 d8 At ct Bt dt _ (Kd.C_below hp8.rd.2.2 bl) (Kd.C_below ht8.rd.2.2 bl) (Kd.C_below hCt bl) (Kd.C_below hTt bl) nt1 nt2 nt1 nt2) ?_
            rintro e w9 ⟨rfl, hb9⟩
            refine ⟨_, rfl, bl, rgN ?_⟩
            rw [eqB_t.2 rfl]
            have b9 : Below wr.heap.size wr w9 := b8.trans (Below.mono (bl : Below (w8.alloc (.cells #[.string t.1, .int .i64 t.2.1.1, .slice A8 t.2.1.2.length c8, .slice B8 t.2.2.length d8] 35)).heap.size (w8.alloc (.cells #[.string t.1, .int .i64 t.2.1.1, .slice A8 t.2.1.2.length c8, .slice B8 t.2.2.length d8] 35)) w9) b8.size)
            repeat ((with_reducible refine rgGate ?_); first | refine rgP HT ?_ | refine rgL HT ?_ | refine rgG HT ?_)
            refine rgDone HT ?_
            clear HT HS
            go_wp2
            exact ⟨⟨i + 1, by omega, by go_num, ⟨hbr.trans (b9.mono hbr.size)⟩⟩, by simp [intOf]; omega⟩
        · have d9 : decide ((i : Int) < (m.length : Int)) = false := decide_eq_false (by omega)
          replace hB := hB.trans (hbr.mono hB.size)
          rcases Hold.out with ⟨o, Xo, hgo, hpo⟩ | ⟨hgo, hmm⟩
          · have hGo := fun A c w hl => HGm.out A c w hl
            rw [hgo] at hGo
            have hPo := fun A c A' c' B' d' w hl hp ht h1 h2 => HPr.out o Xo A c A' c' B' d' w hl hp ht h1 h2
            rw [hpo] at hPo
            have HGo := Lib.hid hGo
            have HPo := Lib.hid hPo
            clear hGo hPo hgo hpo
            go_wp2_with fail
            refine (HGo.out D d _ M1).mono ?_
            rintro e w9 ⟨A9, c9, B9, d9, rfl, hp9, ht9, hb9⟩
            replace HC : Cells (w9.alloc (.cells #[.string o.1, .int .i64 o.2.1.1, .slice A9 o.2.1.2.length c9, .slice B9 o.2.2.length d9] 35)) _ := (HC.to hb9).box4 (Below.refl _ _)
            clear h0 h1 h2 h3 h4 h5 h6 h7
            obtain ⟨h0, h1, h2, h3, h4, h5, h6, h7, h8, h9, h10, h11, _⟩ := HC.all
            simp only [] at hp9 ht9
            go_wp2_with fail
            refine (HCr.out A2 c2 _ (Kd.C_below Q1 bl) K2).mono ?_
            rintro e w10 ⟨A10, c10, rfl, hS10, hb10⟩
            replace HC := HC.to hb10
            clear h0 h1 h2 h3 h4 h5 h6 h7 h8 h9 h10 h11
            obtain ⟨h0, h1, h2, h3, h4, h5, h6, h7, h8, h9, h10, h11, _⟩ := HC.all
            go_wp2_with fail
            refine (HPo.out A2 c2 A9 c9 B9 d9 _ (Kd.C_below Q1 bl) (Kd.C_below hp9.rd.2.2 bl) (Kd.C_below ht9.rd.2.2 bl) hp9.rd.2.1 ht9.rd.2.1).mono ?_
            rintro e w11 ⟨A11, c11, rfl, hS11, hb11⟩
            have C11 := hS11.C.2.2
            replace HC := HC.to hb11
            clear h0 h1 h2 h3 h4 h5 h6 h7 h8 h9 h10 h11
            obtain ⟨h0, h1, h2, h3, h4, h5, h6, h7, h8, h9, h10, h11, _⟩ := HC.all
            simp only [] at C11
            go_wp2_with fail
            refine (iSheetSame_c A11 D c11 d m m _ (Kd.C_below C11 bl) (Kd.C_below M1 bl) F1 F1).mono ?_
            rintro e w12 ⟨rfl, hb12⟩
            rw [eqB_t.2 rfl]
            go_wp2
            go_ret
            exact ⟨rfl, hB.trans (Below.mono (bl : Below wr.heap.size wr w12) hB.size)⟩
          · obtain ⟨r, hr, Xr⟩ : ∃ r : FeatD, r = feat0 ∧ FTx r := ⟨feat0, rfl, ftx00⟩
            have hGo := fun A c w hl => HGm.out A c w hl
            rw [hgo, ← hr] at hGo
            have HGo := Lib.hid hGo
            clear hGo hgo hr
            subst hmm
            go_wp2_with fail
            refine (HGo.out D d _ M1).mono ?_
            rintro e w9 ⟨A9, c9, B9, d9, rfl, hp9, ht9, hb9⟩
            replace HC : Cells (w9.alloc (.cells #[.string r.1, .int .i64 r.2.1.1, .slice A9 r.2.1.2.length c9, .slice B9 r.2.2.length d9] 35)) _ := (HC.to hb9).box4 (Below.refl _ _)
            clear h0 h1 h2 h3 h4 h5 h6 h7
            obtain ⟨h0, h1, h2, h3, h4, h5, h6, h7, h8, h9, h10, h11, _⟩ := HC.all
            go_wp2_with fail
            refine (HCr.out A2 c2 _ (Kd.C_below Q1 bl) K2).mono ?_
            rintro e w10 ⟨A10, c10, rfl, hS10, hb10⟩
            have C10 := hS10.C.2.2
            replace HC := HC.to hb10
            clear h0 h1 h2 h3 h4 h5 h6 h7 h8 h9 h10 h11
            obtain ⟨h0, h1, h2, h3, h4, h5, h6, h7, h8, h9, h10, h11, _⟩ := HC.all
            simp only [] at C10
            go_wp2_with fail
            refine (iSheetSame_c A10 D c10 d mc mc _ (Kd.C_below C10 bl) (Kd.C_below M1 bl) F1 F1).mono ?_
            rintro e w12 ⟨rfl, hb12⟩
            rw [eqB_t.2 rfl]
            go_wp2
            go_ret
            exact ⟨rfl, hB.trans (Below.mono (bl : Below wr.heap.size wr w12) hB.size)⟩
  · have hd : decide ((1048576 : Int) < (l.length : Int)) = true := decide_eq_true (by omega)
    go_enter Try.func15, Try.ntmps15
    go_wp2
    go_ret
    exact ⟨rfl, bl⟩
end Go.Proofs.Ytlebgjafaioajaa
