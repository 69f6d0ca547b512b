/- Law: a drawn map that is ok is not when it is laid out twice or with a thing that is not; it is turned round only with fewer than two things, and without any one of its things. -/
import Derived.Test.YtlipjhmcgdmhlaaDoorEb
import Derived.Test.YtlipjhmcgdmhlaaDoorPc
namespace Go.Proofs.YtlipjhmcgdmhlaaDoor
open Go.RowKit Go.Proofs.YtlipjhmcgdmhlaaDoorW.PrintWords Go.Proofs.YtlipjhmcgdmhlaaDoorW.PrintLast
set_option maxRecDepth 100000
set_option linter.unusedVariables false
set_option linter.unusedSimpArgs false
theorem raw_of {q W : World} {D : Option Addr} {n : Nat} {l : List FeatD} (h : kFeat.C q D n l) (hb : Below q.heap.size q W) : ReadsRow (kFeat.K q) 4 W D n l := ReadsRow.sub (R' := kFeat.K q) h (Sub.of hb) (fun _ _ hk => hk)
abbrev fzz : FeatD := (⟨#[122, 122]⟩, (0, []), [])
theorem fzz_K (q : World) : kFeat.K q fzz [.string ⟨#[122, 122]⟩, .int .i64 0, .slice none 0 0, .slice none 0 0] :=
  Inn.K (a := q.heap.size) (b := q.heap.size) (x := (⟨#[122, 122]⟩, 0, .slice none 0 0, .slice none 0 0)) ⟨rfl, rfl, RI.of (Kd.R_nil _ _ _ _ _), RI.of (Kd.R_nil _ _ _ _ _)⟩
/-- Two of what the map is made: behind q, read there. -/
structure TwoS (q : World) (l : List FeatD) (D6 : Option Addr) (D7 : Option Addr) (w : World) : Prop where
  a : kFeat.C w D6 (l ++ l).length (l ++ l)
  b : kFeat.C w D7 (l ++ [fzz]).length (l ++ [fzz])
  bel : Below q.heap.size q w
theorem TwoS.to {q : World} {l : List FeatD} {D6 D7 : Option Addr} {w w1 : World} (h : TwoS q l D6 D7 w) (hb : Below w.heap.size w w1) : TwoS q l D6 D7 w1 := ⟨Kd.C_below h.a hb, Kd.C_below h.b hb, h.bel.trans (hb.mono h.bel.size)⟩
def l_FnSheetBent_T16 : Bool × List (List Nat × List Nat) := (true, [([], []), ([], []), ([], []), ([1, 2], [1, 2]), ([0, 3], [0, 3]), ([], []), ([], []), ([6], [6]), ([5, 7], [5, 7]), ([4, 8, 4], [4, 8]), ([9, 9], [9]), ([10], [10])])
theorem l_FnSheetBent_t16 : rtab .any (opsOf Tryd.f5 16) = l_FnSheetBent_T16 := by kernel_rfl
set_option maxHeartbeats 8000000 in
theorem FnSheetBent_c (A : Option Addr) (c : Nat) (l : List Int) (w : World) (hl : (Kd.int .u8).C w A l.length l) (hn : (l.length : Int) ≤ 140737488351232) (hb : ∀ x ∈ l, 0 ≤ x ∧ x ≤ 255) (hc : l.length ≤ c) :
    Calls Tryd.prog 5 #[.slice A l.length c] w fun e w' => e = .returned (.bool true) ∧ Below w.heap.size w w' := by
  by_cases hs : (l.length : Int) ≤ 1048576
  · have hd : decide ((1048576 : Int) < (l.length : Int)) = false := decide_eq_false (by omega)
    go_enter Tryd.func5, Tryd.ntmps5
    go_wp2_with fail
    refine (DrawSheetOk_d A c l _ (Kd.C_below hl bl) hb hc (by omega)).mono ?_
    rintro e w1 ⟨m, D, d, rfl, hmd, hC, hsm, hm20, hb1⟩
    have X1 : ∀ f ∈ m, FTx f := fun f hf => (hsm f hf).ftx (by decide)
    have F1 : m.length ≤ 1048576 := by omega
    have hI := fun w h => iSheetOk_c D d m w h F1 X1
    have hR := fun w h => sSheetOk_c D d m w h F1 X1
    cases hok : sheetOk m with
    | false =>
      have hT := fun w h => iSheetText_no m D d w h F1 X1 hok
      rw [hok] at hI hR
      have HI := Lib.hid hI
      have HR := Lib.hid hR
      have HT := Lib.hid hT
      clear hI hR hT hok
      go_wp2_with fail
      refine (HI.out _ (Kd.C_below hC bl)).mono ?_
      rintro e q1 ⟨rfl, hq1⟩
      go_wp2_with fail
      refine (HR.out _ (Kd.C_below hC bl)).mono ?_
      rintro e q2 ⟨rfl, hq2⟩
      go_wp2_with fail
      refine (HR.out _ (Kd.C_below hC bl)).mono ?_
      rintro e q3 ⟨rfl, hq3⟩
      go_wp2_with fail
      refine (HI.out _ (Kd.C_below hC bl)).mono ?_
      rintro e q4 ⟨rfl, hq4⟩
      go_wp2_with fail
      refine (HR.out _ (Kd.C_below hC bl)).mono ?_
      rintro e q5 ⟨rfl, hq5⟩
      go_wp2_with fail
      refine (HR.out _ (Kd.C_below hC bl)).mono ?_
      rintro e q6 ⟨rfl, hq6⟩
      go_wp2_with fail
      refine (HT.out _ (Kd.C_below hC bl)).mono ?_
      rintro e q7 ⟨rfl, hq7⟩
      go_wp2
      go_ret
      exact ⟨rfl, bl⟩
    | true =>
      rw [hok] at hI hR
      have HI := Lib.hid hI
      have HR := Lib.hid hR
      have Hok := Lib.hid (sheetOk_t.1 hok)
      clear hI hR hok
      go_wp2_with fail
      refine (HI.out _ (Kd.C_below hC bl)).mono ?_
      rintro e q1 ⟨rfl, hq1⟩
      go_wp2_with fail
      refine (HR.out _ (Kd.C_below hC bl)).mono ?_
      rintro e q2 ⟨rfl, hq2⟩
      go_wp2_with fail
      refine (HR.out _ (Kd.C_below hC bl)).mono ?_
      rintro e q ⟨rfl, hq3⟩
      have hCq : kFeat.C q D m.length m := Kd.C_below hC bl
      have hBq : Below w.heap.size w q := bl
      clear hC hq1 hq2 hq3 hb1
      have e2 : ([] ++ m ++ m).length = m.length + m.length := List.length_append
      have E2 := Lib.hid e2
      clear e2
      go_upto_region 7 with (first
        | ((with_reducible refine gate_dst (N := 40) rfl ?_); refine Kd.R_append_rows (kRaw q) (Rr := kFeat.K q) (w0 := q) q.heap.size rfl (.tmp 38) (.tmp 39) 42 34 z0Feat 72 rfl Tryd.underlying42 info_Feat rfl (show 0 < 4 by decide) (by omega) _ [] m D m.length d (fun _ => True) (fun _ => False) rfl rfl (litK (kRaw q) _ q q.heap.size (Nat.le_refl _)) (raw_of hCq bl) (fun _ _ h => h) (fun _ h => h.elim) (fun _ _ => trivial) bl (by simp) (by simp; omega) ?_; intro v4 w4 ho4 hb4 hg4 hat4; obtain ⟨D4, d4, rfl⟩ := Kd.R_slice ho4)
        | ((with_reducible refine gate_dst (N := 42) rfl ?_); refine Kd.R_append_rows (kRaw q) (Rr := kFeat.K q) (w0 := q) q.heap.size rfl (.tmp 40) (.tmp 41) 42 34 z0Feat 72 rfl Tryd.underlying42 info_Feat rfl (show 0 < 4 by decide) (by omega) _ ([] ++ m) m D m.length d (fun _ => True) (fun _ => False) rfl rfl ho4 (raw_of hCq hb4) (fun _ _ h => h) (fun _ h => h.elim) (fun _ _ => trivial) hb4 hb4.size (by simp; omega) ?_; intro v5 w5 ho5 hb5 hg5 hat5; obtain ⟨D5, d5, rfl⟩ := Kd.R_slice ho5; rw [E2.out] at ho5 ⊢))
      have hA5 : kFeat.C w5 D5 (m ++ m).length (m ++ m) := kRaw_C (Kd.R_reads' ho5).2.2 (Sub.of hb5)
      have hz5 := hb5.size
      clear ho4 hb4 hg4 hat4 ho5 hg5 hat5
      have e3 : ([] ++ m).length = m.length := rfl
      go_upto_region 8 with (first
        | ((with_reducible refine gate_dst (N := 45) rfl ?_); refine Kd.R_append_rows (kRaw q) (Rr := kFeat.K q) (w0 := w5) w5.heap.size rfl (.tmp 43) (.tmp 44) 42 34 z0Feat 72 rfl Tryd.underlying42 info_Feat rfl (show 0 < 4 by decide) (by omega) _ [] m D m.length d (fun _ => True) (fun _ => False) rfl rfl (litK (kRaw q) _ w5 w5.heap.size (Nat.le_refl _)) (raw_of hCq bl) (fun _ _ h => h) (fun _ h => h.elim) (fun _ _ => trivial) bl (by simp) (by simp; omega) ?_; intro v6 w6 ho6 hb6 hg6 hat6; obtain ⟨D6, d6, rfl⟩ := Kd.R_slice ho6)
        | ((with_reducible refine gate_dst (N := 48) rfl ?_); refine appOne (d := kRaw q) (w0 := w5) (base := w5.heap.size) 42 34 z0Feat 72 Tryd.underlying42 info_Feat rfl (show 0 < 4 by decide) (by omega) (.tmp 45) (.tmp 47) _ ([] ++ m) fzz [.string ⟨#[122, 122]⟩, .int .i64 0, .slice none 0 0, .slice none 0 0] (fzz_K q) ho6 hb6 hb6.size (by simp; omega) ?_; intro D7 d7 w7 ho7 hb7 hg7))
      have B57 : Below q.heap.size q w7 := hb5.trans (hb7.mono hz5)
      have hTS : TwoS q m D5 D7 w7 := ⟨Kd.C_below hA5 hb7, kRaw_C (Kd.R_reads' ho7).2.2 (Sub.of B57), B57⟩
      have hz7 := hTS.bel.size
      clear ho6 hb6 hg6 hat6 ho7 hb7 hg7 hA5 hb5 hz5 e3 B57
      have HTS := Lib.hid hTS
      clear hTS
      have hw0 : IntKind.i64.wrap ((m.length : Int) - 1) = (m.length : Int) - 1 := IntWalk.i64_in _ (by omega)
      clear hs hd
      go_wp2
      go_loopw [6, 7] (fun q6 q7 wr => ∃ (j : Nat) (C : Option Addr) (cc : Nat), j ≤ m.length ∧ q7 = .int .i64 ((m.length : Int) - 1 - j) ∧ q6 = .slice C (m.reverse.take j).length cc ∧ Aside0 ((kRaw q).R 34 wr w7.heap.size (fun _ => True) (.slice C (m.reverse.take j).length cc) (m.reverse.take j)) ∧ Aside0 (Below w7.heap.size w7 wr)) (fun _ q7 _ => (intOf q7 + 1).toNat)
      case atStart => exact ⟨0, _, _, by omega, by simp, rfl, ⟨litK (kRaw q) _ w7 w7.heap.size (Nat.le_refl _)⟩, ⟨bl⟩⟩
      case round =>
        obtain ⟨j, C, cc, hj, rfl, rfl, ⟨hrow⟩, ⟨hbr⟩⟩ := hrel
        have Bq : Below q.heap.size q wr := HTS.out.bel.trans (hbr.mono hz7)
        by_cases hlt : j < m.length
        · obtain ⟨i, hi⟩ : ∃ i, j + i + 1 = m.length := ⟨m.length - 1 - j, by omega⟩
          have ei : (m.length : Int) - 1 - (j : Int) = (i : Int) := by omega
          rw [ei]
          have hil : i < m.length := by omega
          obtain ⟨ad, A1, c1, B1, d1', rfl, e0, e1, e2, e3, hC1, hT1, hc1, hd1⟩ := at_Feat hCq i hil
          replace e0 := pw_cell_below Bq e0
          replace e1 := pw_cell_below Bq e1
          replace e2 := pw_cell_below Bq e2
          replace e3 := pw_cell_below Bq e3
          have hlt2 : decide (0 ≤ (i : Int)) = true := by simp
          have hw2 : IntKind.i64.wrap ((i : Int) - 1) = (m.length : Int) - 1 - ((j : Int) + 1) := by rw [IntWalk.i64_in _ (by omega)]; omega
          have hx : m.reverse.take (j + 1) = m.reverse.take j ++ [m[i]] := by
            rw [List.take_succ_eq_append_getElem (by rw [List.length_reverse]; exact hlt), List.getElem_reverse]
            have : m.length - 1 - j = i := by omega
            simp only [this]
          have hK := Lib.hid (kFeat_mk q m[i] A1 B1 c1 d1' hc1 hd1 hC1 hT1)
          clear ei
          have HX := Lib.hid hx
          clear hx hc1 hd1
          have hrl : (m.reverse.take j).length ≤ 20 := by rw [List.length_take, List.length_reverse]; omega
          generalize m.reverse.take j = r at *
          generalize m[i] = f at *
          go_wp2_with (at_builtin; refine appOne (d := kRaw q) (w0 := w7) (base := w7.heap.size) 42 34 z0Feat 72 Tryd.underlying42 info_Feat rfl (show 0 < 4 by decide) (by omega) (.tmp 57) (.tmp 62) _ r f [.string f.1, .int .i64 f.2.1.1, .slice A1 f.2.1.2.length c1, .slice B1 f.2.2.length d1'] hK.out hrow hbr hbr.size (by omega) ?_; intro B5 d5 w5 ho5 hb5 hg5)
          exact ⟨⟨j + 1, B5, d5, by omega, by go_num, by rw [HX.out]; simp, ⟨by rw [HX.out]; exact ho5⟩, ⟨hb5⟩⟩, by simp [intOf]; omega⟩
        · obtain rfl : j = m.length := by omega
          have hlt2 : decide (0 ≤ (m.length : Int) - 1 - (m.length : Int)) = false := decide_eq_false (by omega)
          rw [List.take_of_length_le (by rw [List.length_reverse]; exact Nat.le_refl _)] at hrow ⊢
          rw [List.length_reverse] at hrow ⊢
          have hCr : kFeat.C wr C m.length m.reverse := by
            have h_ := kRaw_C (Kd.R_reads' hrow).2.2 (Sub.of Bq)
            rwa [List.length_reverse] at h_
          have hTr := Lib.hid (HTS.out.to hbr)
          have HCr := Lib.hid hCr
          clear hrow hCr HTS hbr
          have hzr := Bq.size
          generalize wr = wo at *
          go_wp2
          go_loopw [8] (fun q8 wr => ∃ k : Nat, k ≤ m.length ∧ q8 = .int .i64 k ∧ Aside0 (Below wo.heap.size wo wr)) (fun q8 _ => m.length - (intOf q8).toNat)
          case atStart => exact ⟨0, by omega, rfl, ⟨Below.refl _ _⟩⟩
          case round =>
            obtain ⟨k, hk, rfl, ⟨hbx⟩⟩ := hrel
            have Bx : Below q.heap.size q wr := Bq.trans (hbx.mono hzr)
            by_cases hkl : k < m.length
            · have d1 : decide ((k : Int) < (m.length : Int)) = true := decide_eq_true (by omega)
              have hw : IntKind.i64.wrap ((k : Int) + 1) = (k : Int) + 1 := IntWalk.i64_in _ (by omega)
              have hD := Kd.C_drop hCq (show k + 1 ≤ m.length by omega) hmd
              rw [List.length_drop] at hD
              have hT := Kd.C_take hCq (show k ≤ m.length by omega)
              have hk2 : (m.take k).length = k := by rw [List.length_take]; omega
              rw [hk2] at hT
              have hcf := cut_from (P := Tryd.prog) 42 34 .i64 Tryd.underlying42 rfl kFeat.sz rfl D m.length d ((k : Int) + 1) (by omega) (by omega)
              have hct := cut_to (P := Tryd.prog) 42 34 .i64 Tryd.underlying42 rfl D m.length d (k : Int) (by omega) (by omega) hmd
              have ek : ((k : Int) + 1).toNat = k + 1 := by omega
              simp only [Int.toNat_natCast, ek] at hcf hct
              generalize (if d = k + 1 then D else D.map (·.add ((k + 1) * kFeat.sz))) = D9 at hcf hD
              have hln : (([] ++ m.take k) ++ m.drop (k + 1)).length ≤ 1048576 := by simp; omega
              have hxt : ∀ f ∈ ([] ++ m.take k) ++ m.drop (k + 1), FTx f := fun f hf => by
                rcases List.mem_append.1 hf with h | h
                · exact X1 f (List.mem_of_mem_take h)
                · exact X1 f (List.mem_of_mem_drop h)
              have hokk := Lib.hid (sheetOk_t.2 (bent_less Hok.out k))
              have HL := Lib.hid hk2
              clear hk2 ek
              go_wp2
              refine cgStart 12 [1, 2, 3, 5, 6, 7, 8, 0, 4, 9, 10, 11] [] [] l_FnSheetBent_t16 trivial (fun HT HD => ?_)
              repeat ((with_reducible refine cgGate ?_); first | refine cgP HT ?_ | refine cgL HT ?_ | refine cgG HT ?_)
              refine cgE (w1 := wr.drew.alloc (.cells #[] 34)) (v := .slice (some ⟨wr.heap.size, 0, none⟩) 0 0) HT (fun HD2 => ?_) (hrun := by first | (go_simp; done) | (go_simp; rfl)) (hS := trivial)
              have HO : (kRaw q).R 34 (wr.drew.alloc (.cells #[] 34)) wr.heap.size (fun _ => True) (.slice (some ⟨wr.heap.size, 0, none⟩) 0 0) [] := litK (kRaw q) _ wr.drew wr.heap.size (Nat.le_refl _)
              have bz : Below wr.heap.size wr (wr.drew.alloc (.cells #[] 34)) := bl
              repeat ((with_reducible refine cgGate ?_); first | refine cgP HT ?_ | refine cgL HT ?_ | refine cgG HT ?_)
              refine cgAppG (d := kRaw q) (w0 := wr) (base := wr.heap.size) 42 34 z0Feat 72 Tryd.underlying42 info_Feat rfl (show 0 < 4 by decide) (by omega) (fun _ _ h => h) (.tmp 70) (.tmp 73) _ [] (m.take k) D k d HT HD2 HO (raw_of hT (Bx.trans (bz.mono Bx.size))) bz sz (by simp; omega) (by simp) ?_
              intro A2 c2 u1 ho1 hbu1 HD3 hg1
              refine cgN ?_
              repeat ((with_reducible refine cgGate ?_); first | refine cgP HT ?_ | refine cgL HT ?_ | refine cgG HT ?_)
              refine cgAppG (d := kRaw q) (w0 := wr) (base := wr.heap.size) 42 34 z0Feat 72 Tryd.underlying42 info_Feat rfl (show 0 < 4 by decide) (by omega) (fun _ _ h => h) (.tmp 74) (.tmp 78) _ ([] ++ m.take k) (m.drop (k + 1)) D9 (m.length - (k + 1)) (d - (k + 1)) HT HD3 ho1 (raw_of hD (Bx.trans (hbu1.mono Bx.size))) hbu1 hbu1.size (by simp; omega) (by simp) ?_
              intro A3 c3 u2 ho2 hbu2 HD4 hg2
              refine cgN ?_
              repeat ((with_reducible refine cgGate ?_); first | refine cgP HT ?_ | refine cgL HT ?_ | refine cgG HT ?_)
              have hB2 : Below q.heap.size q u2 := Bx.trans (hbu2.mono Bx.size)
              refine cgCall HT Tryd.func18 (iSheetOk_c A3 c3 (([] ++ m.take k) ++ m.drop (k + 1)) _ (kRaw_C (Kd.R_reads' ho2).2.2 (Sub.of hB2)) hln hxt) ?_
              rintro e u3 ⟨rfl, hb3⟩
              refine ⟨_, rfl, trivial, cgN ?_⟩
              rw [show sheetOk (([] ++ m.take k) ++ m.drop (k + 1)) = true from hokk.out]
              repeat ((with_reducible refine cgGate ?_); first | refine cgP HT ?_ | refine cgL HT ?_ | refine cgG HT ?_)
              refine cgDone HT ?_
              have hB3 : Below wo.heap.size wo u3 := hbx.trans ((hbu2.trans (hb3.mono hbu2.size)).mono hbx.size)
              clear HT HD HD2 HD3 HD4 hcf hct hD hT HO bz ho1 hbu1 hg1 ho2 hbu2 hg2 hB2 hb3 hbx Bx
              go_wp2
              exact ⟨⟨k + 1, by omega, by go_num, ⟨hB3⟩⟩, by simp [intOf]; omega⟩
            · have d1 : decide ((k : Int) < (m.length : Int)) = false := decide_eq_false (by omega)
              have hTx := hTr.out.to hbx
              have hCx := Kd.C_below HCr.out hbx
              have la : (m ++ m).length = m.length + m.length := List.length_append
              have lb : (m ++ [fzz]).length = m.length + 1 := by simp
              have hA := iSheetOk_c D5 d5 (m ++ m)
              have hB := iSheetOk_c D7 d7 (m ++ [fzz])
              have hR2 := iSheetOk_c C cc m.reverse
              rw [bent_twice Hok.out] at hA
              rw [bent_zz] at hB
              rw [bent_rev Hok.out] at hR2
              have Ta := hTx.a
              have Tb := hTx.b
              rw [la] at hA Ta
              rw [lb] at hB Tb
              rw [List.length_reverse] at hR2
              have Xa : ∀ f ∈ m ++ m, FTx f := fun f hf => (List.mem_append.1 hf).elim (X1 f) (X1 f)
              have Xb : ∀ f ∈ m ++ [fzz], FTx f := fun f hf => (List.mem_append.1 hf).elim (X1 f) (fun h => by rw [List.mem_singleton.1 h]; exact ⟨show (⟨#[122, 122]⟩ : ByteArray).size ≤ 140737488351232 by decide, Nat.zero_le _, Nat.zero_le _, fun t ht => by cases ht⟩)
              have Xr : ∀ f ∈ m.reverse, FTx f := fun f hf => X1 f (List.mem_reverse.1 hf)
              have HA := Lib.hid hA
              have HBB := Lib.hid hB
              have HRR := Lib.hid hR2
              have Hw : Below w.heap.size w wr := hBq.trans ((Bq.trans (hbx.mono hzr)).mono hBq.size)
              have na : m.length + m.length ≤ 1048576 := by omega
              have nb : m.length + 1 ≤ 1048576 := by omega
              clear hA hB hR2 la lb
              rcases (show m.length = 0 ∨ m.length = 1 ∨ 2 ≤ m.length by omega) with h0 | h0 | h0
              · have f0 : decide (m.length = 0) = true := decide_eq_true h0
                have f1 : decide (m.length < 2) = true := decide_eq_true (by omega)
                have g0 : ((m.length : Int) == 0) = true := by rw [h0]; rfl
                have g1 : decide ((m.length : Int) < 2) = true := decide_eq_true (by omega)
                clear h0
                go_wp2_with fail
                refine (HA.out _ (Kd.C_below Ta bl) na Xa).mono ?_
                rintro e r1 ⟨rfl, hr1⟩
                rw [f0]
                go_wp2_with fail
                refine (HBB.out _ (Kd.C_below Tb bl) nb Xb).mono ?_
                rintro e r2 ⟨rfl, hr2⟩
                go_wp2_with fail
                refine (HRR.out _ (Kd.C_below hCx bl) F1 Xr).mono ?_
                rintro e r3 ⟨rfl, hr3⟩
                rw [f1]
                go_wp2
                go_ret
                exact ⟨rfl, bl⟩
              · have f0 : decide (m.length = 0) = false := decide_eq_false (by omega)
                have f1 : decide (m.length < 2) = true := decide_eq_true (by omega)
                have g0 : ((m.length : Int) == 0) = false := beq_eq_false_iff_ne.mpr (by omega)
                have g1 : decide ((m.length : Int) < 2) = true := decide_eq_true (by omega)
                clear h0
                go_wp2_with fail
                refine (HA.out _ (Kd.C_below Ta bl) na Xa).mono ?_
                rintro e r1 ⟨rfl, hr1⟩
                rw [f0]
                go_wp2_with fail
                refine (HBB.out _ (Kd.C_below Tb bl) nb Xb).mono ?_
                rintro e r2 ⟨rfl, hr2⟩
                go_wp2_with fail
                refine (HRR.out _ (Kd.C_below hCx bl) F1 Xr).mono ?_
                rintro e r3 ⟨rfl, hr3⟩
                rw [f1]
                go_wp2
                go_ret
                exact ⟨rfl, bl⟩
              · have f0 : decide (m.length = 0) = false := decide_eq_false (by omega)
                have f1 : decide (m.length < 2) = false := decide_eq_false (by omega)
                have g0 : ((m.length : Int) == 0) = false := beq_eq_false_iff_ne.mpr (by omega)
                have g1 : decide ((m.length : Int) < 2) = false := decide_eq_false (by omega)
                clear h0
                go_wp2_with fail
                refine (HA.out _ (Kd.C_below Ta bl) na Xa).mono ?_
                rintro e r1 ⟨rfl, hr1⟩
                rw [f0]
                go_wp2_with fail
                refine (HBB.out _ (Kd.C_below Tb bl) nb Xb).mono ?_
                rintro e r2 ⟨rfl, hr2⟩
                go_wp2_with fail
                refine (HRR.out _ (Kd.C_below hCx bl) F1 Xr).mono ?_
                rintro e r3 ⟨rfl, hr3⟩
                rw [f1]
                go_wp2
                go_ret
                exact ⟨rfl, bl⟩
  · have hd : decide ((1048576 : Int) < (l.length : Int)) = true := decide_eq_true (by omega)
    go_enter Tryd.func5, Tryd.ntmps5
    go_wp2
    go_ret
    exact ⟨rfl, bl⟩
end Go.Proofs.YtlipjhmcgdmhlaaDoor
