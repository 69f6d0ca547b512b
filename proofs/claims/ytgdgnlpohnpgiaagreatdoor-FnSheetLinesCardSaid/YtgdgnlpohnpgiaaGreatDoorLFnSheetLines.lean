/- Law: a map's text is its things' lines; without one line it is read as the map without that thing. -/
import Derived.Test.YtgdgnlpohnpgiaaGreatDoorSv
import Derived.Test.YtgdgnlpohnpgiaaGreatDoorSx
import Derived.Test.YtgdgnlpohnpgiaaGreatDoorPs
namespace Go.Proofs.YtgdgnlpohnpgiaaGreatDoor
open Go.RowKit Go.ChangeShapes Go.Proofs.YtgdgnlpohnpgiaaGreatDoorW.PrintWords Go.Proofs.YtgdgnlpohnpgiaaGreatDoorW.PrintLast
set_option maxRecDepth 100000
set_option linter.unusedVariables false
set_option linter.unusedSimpArgs false
theorem fnSheetLines_tied {w : World} (h : laidMetH Tryz.prog Rows.fnSheetLinesRow.laid w) (hS : w.ShapedOpen Tryz.prog) : TiedR w := by
  rw [MakeChecks.laidMetH_plain _ _ _ (by kernel_rfl)] at h
  refine TiedR.of (Tied.of h ?_ ?_) hS h
  all_goals first | exact List.mem_of_getElem? (i := 0) rfl | exact List.mem_of_getElem? (i := 1) rfl | exact List.mem_of_getElem? (i := 2) rfl | exact List.mem_of_getElem? (i := 3) rfl | exact List.mem_of_getElem? (i := 4) rfl | exact List.mem_of_getElem? (i := 5) rfl | exact List.mem_of_getElem? (i := 6) rfl | exact List.mem_of_getElem? (i := 7) rfl | exact List.mem_of_getElem? (i := 8) rfl
/-- All but one place. -/
def restL (k : Nat) (m : List FeatD) : List FeatD := m.take k ++ m.drop (k + 1)
theorem rest_eq (s : List FeatD) (k : Nat) (h : k < s.length) : restL k (s.take (k + 1)) = restL k (s.take k) := by
  unfold restL
  rw [List.take_take, List.take_take, List.drop_of_length_le (by rw [List.length_take]; omega), List.drop_of_length_le (by rw [List.length_take]; omega)]
  congr 2
  omega
theorem rest_snoc (k : Nat) (m : List FeatD) (x : FeatD) (hm : m.length ≠ k) : restL k (m ++ [x]) = restL k m ++ [x] := by
  unfold restL
  rcases Nat.lt_or_ge m.length k with hi | hi
  · have a1 : (m ++ [x]).take k = m ++ [x] := List.take_of_length_le (by rw [List.length_append, List.length_singleton]; omega)
    have a2 : (m ++ [x]).drop (k + 1) = [] := List.drop_of_length_le (by rw [List.length_append, List.length_singleton]; omega)
    have a3 : m.take k = m := List.take_of_length_le (by omega)
    have a4 : m.drop (k + 1) = [] := List.drop_of_length_le (by omega)
    rw [a1, a2, a3, a4]
    simp
  · have a1 : (m ++ [x]).take k = m.take k := List.take_append_of_le_length (by omega)
    have a2 : (m ++ [x]).drop (k + 1) = m.drop (k + 1) ++ [x] := List.drop_append_of_le_length (by omega)
    rw [a1, a2, List.append_assoc]
theorem rest_ne (s : List FeatD) (k i : Nat) (h : i < s.length) (hne : i ≠ k) : restL k (s.take (i + 1)) = restL k (s.take i) ++ [s[i]] := by
  rw [List.take_succ_eq_append_getElem h]
  exact rest_snoc k _ _ (by rw [List.length_take]; omega)
theorem rest_len (k : Nat) (m : List FeatD) : (restL k m).length ≤ m.length := by
  unfold restL
  rw [List.length_append, List.length_take, List.length_drop]
  omega
theorem linesT_nil : linesT [] = ⟨#[]⟩ := rfl
theorem less_ne (s : List FeatD) (k i : Nat) (h : i < s.length) (hne : i ≠ k) : linesT (restL k (s.take (i + 1))) = linesT (restL k (s.take i)) ++ (featT s[i] ++ ⟨#[10]⟩) := by
  rw [rest_ne s k i h hne, linesT_snoc]
/-- A map without one of its things. -/
theorem cut_at {s : List FeatD} (h : SheetOk s) {k : Nat} (hk : k < s.length) : scut s s[k].1 = (restL k s, true) ∧ SheetOk (restL k s) := by
  have hu := featsUp_kup h.1
  have ha : atK s s[k].1 = some k := atK_some k hk rfl (fun i hi => ltS_ne (List.pairwise_iff_getElem.1 hu i k (by omega) hk hi))
  rcases scut_cases s s[k].1 with ⟨h1, _⟩ | ⟨_, h1, _⟩ | ⟨k', _, h1, _, h2, h3⟩
  · rw [sheetOk_t.2 h] at h1; cases h1
  · rw [ha] at h1; cases h1
  · rw [ha] at h1
    injection h1 with h1
    subst h1
    have e : cutK s s[k].1 = restL k s := h2
    have h4 := sheetOk_cut h s[k].1
    rw [e] at h3 h4
    exact ⟨h3, h4⟩
set_option maxHeartbeats 8000000 in
theorem FnSheetLines_c (A : Option Addr) (c : Nat) (l : List Int) (B : Option Addr) (d : Nat) (m : List Int) (w : World) (hl : (Kd.int .u8).C w A l.length l) (hn : (l.length : Int) ≤ 140737488351232) (hb : ∀ x ∈ l, 0 ≤ x ∧ x ≤ 255) (hc : l.length ≤ c)
    (hl' : (Kd.int .u8).C w B m.length m) (hn' : (m.length : Int) ≤ 140737488351232) (hb' : ∀ x ∈ m, 0 ≤ x ∧ x ≤ 255) (hc' : m.length ≤ d) (hL : laidMetH Tryz.prog Rows.fnSheetLinesRow.laid w) (hS : w.ShapedOpen Tryz.prog) :
    Calls Tryz.prog 5 #[.slice A l.length c, .slice B m.length d] w fun e w' => e = .returned (.bool true) ∧ Below w.heap.size w w' := by
  have T := fnSheetLines_tied hL hS
  clear hL hS
  by_cases hs : (l.length : Int) ≤ 1048576
  · have hd : decide ((1048576 : Int) < (l.length : Int)) = false := decide_eq_false (by omega)
    by_cases hs2 : (m.length : Int) ≤ 1048576
    · have hd2 : decide ((1048576 : Int) < (m.length : Int)) = false := decide_eq_false (by omega)
      go_enter Tryz.func5, Tryz.ntmps5
      go_wp2_with fail
      refine (DrawSheetText_d A c l _ (Kd.C_below hl bl) hb hc (by omega)).mono ?_
      rintro e w1 ⟨s, D1, d1, rfl, hd1, C1, hs1, hn1, hb1⟩
      clear hl hb hl' hb' hc hc' hn hn'
      have X1 : ∀ f ∈ s, FTx f := fun f hf => (hs1 f hf).ftx (by decide)
      have n1 : s.length ≤ 1048576 := by omega
      have F1 := Lib.hid (show Few s from ⟨n1, fun f hf => ⟨(X1 f hf).pts, (X1 f hf).tags⟩⟩)
      have ti := fun w h hT => iSheetText_c D1 d1 s w h n1 X1 hT
      have si := fun w h => sSheetText_c D1 d1 s w h n1 X1
      have so := fun w h => sSheetOk_c D1 d1 s w h n1 X1
      obtain ⟨st, hst⟩ : ∃ st, sheetT s = st := ⟨_, rfl⟩
      rw [hst] at ti si
      have Hst := Lib.hid hst
      have t1 := strB_t (rfl : st = st)
      have TI := Lib.hid ti
      have SI := Lib.hid si
      clear ti si hst hs1
      by_cases hok : SheetOk s
      · rw [sheetOk_t.2 hok] at so
        have SO := Lib.hid so
        clear so
        go_wp2_with fail
        refine (TI.out _ C1 (T.to hb1).td).mono ?_
        rintro e w2 ⟨rfl, hb2⟩
        have Bw2 := hb1.trans (hb2.mono hb1.size)
        have C2 := Kd.C_below C1 hb2
        clear C1 hb1 hb2
        go_wp2_with fail
        refine (SI.out _ C2).mono ?_
        rintro e w3 ⟨rfl, hb3⟩
        have Bw3 := Bw2.trans (hb3.mono Bw2.size)
        have C3 := Kd.C_below C2 hb3
        clear C2 Bw2 hb3
        go_wp2_with fail
        refine (SO.out _ C3).mono ?_
        rintro e w4 ⟨rfl, hb4⟩
        have Bw4 := Bw3.trans (hb4.mono Bw3.size)
        have C4 := Kd.C_below C3 hb4
        clear C3 Bw3 hb4
        rcases Nat.eq_zero_or_pos s.length with h0 | h0
        · have z0 : ((s.length : Int) == 0) = true := by rw [h0]; rfl
          clear h0
          go_wp2_with fail
          refine (SI.out _ C4).mono ?_
          rintro e w5 ⟨rfl, hb5⟩
          go_wp2
          go_ret
          exact ⟨rfl, Bw4.trans (hb5.mono Bw4.size)⟩
        · have z0 : ((s.length : Int) == 0) = false := beq_eq_false_iff_ne.mpr (by omega)
          have z1 : ¬ (s.length : Int) = 0 := by omega
          obtain ⟨k, hk⟩ : ∃ k, m.length % s.length = k := ⟨_, rfl⟩
          have hks : k < s.length := by rw [← hk]; exact Nat.mod_lt _ h0
          have hm1 : Int.tmod (m.length : Int) (s.length : Int) = (k : Int) := by rw [Int.tmod_eq_emod_of_nonneg (by omega), ← hk]; rfl
          have hwk : IntKind.i64.wrap (k : Int) = (k : Int) := IntWalk.i64_in _ (by omega)
          have h8 : s.length ≤ 8 := hok.2
          have hall : st = linesT s := by rw [← Hst.out]; exact if_pos hok
          have HA := Lib.hid hall
          obtain ⟨hcut, hokc⟩ := cut_at hok hks
          have HC := Lib.hid (And.intro hcut hokc)
          clear hk hall hcut hokc TI SI SO
          go_wp2
          clear z0 z1 hm1 hwk
          go_loopw [8, 9, 10] (fun q8 q9 q10 wr => ∃ i : Nat, i ≤ s.length ∧ q10 = .int .i64 i ∧ q8 = .string (linesT (s.take i)) ∧ q9 = .string (linesT (restL k (s.take i))) ∧ Aside0 (Below w4.heap.size w4 wr)) (fun _ _ q10 _ => s.length - (intOf q10).toNat)
          case atStart => exact ⟨0, by omega, rfl, rfl, by simp [restL, linesT_nil], ⟨Below.refl _ _⟩⟩
          case round =>
            obtain ⟨i, hi, rfl, rfl, rfl, ⟨hbr⟩⟩ := hrel
            have Br := Bw4.trans (hbr.mono Bw4.size)
            have Cr := Kd.C_below C4 hbr
            by_cases hlt : i < s.length
            · have d1_ : decide ((i : Int) < (s.length : Int)) = true := decide_eq_true (by omega)
              have hw : IntKind.i64.wrap ((i : Int) + 1) = (i : Int) + 1 := IntWalk.i64_in _ (by omega)
              have hfx := X1 _ (List.getElem_mem hlt)
              have z2 := linesT_size (s.take i)
              have z3 := linesT_size (restL k (s.take i))
              have z4 := rest_len k (s.take i)
              rw [List.length_take] at z2 z4
              have Hx := Lib.hid (linesT_take s i hlt)
              have Hy := Lib.hid (fun hne => less_ne s k i hlt hne)
              have Hz := Lib.hid (fun (e : i = k) => show restL k (s.take (i + 1)) = restL k (s.take i) by subst e; exact rest_eq s i hlt)
              have zf := featT_size s[i]
              have znl := sz_nl
              obtain ⟨ad, A1, c1, B1, dd, eA, e0, e1, e2, e3, hC1, hT1, hc1, hd1_⟩ := at_Feat Cr i hlt
              replace z2 : (linesT (s.take i)).size ≤ 4000 := by omega
              replace z3 : (linesT (restL k (s.take i))).size ≤ 4000 := by omega
              generalize linesT (s.take i) = o at *
              obtain ⟨p, hp⟩ : ∃ p, linesT (restL k (s.take i)) = p := ⟨_, rfl⟩
              rw [hp] at z3 ⊢
              have Hp := Lib.hid hp
              generalize s[i] = f at *
              have cF := fun w' hp ht hT => iFeatText_c f A1 c1 B1 dd w' hp ht hfx hT
              have CF := Lib.hid cF
              clear cF hfx hp z4
              subst eA
              go_wp2_with fail
              refine (CF.out _ hC1 hT1 (T.to Br).td).mono ?_
              rintro e q2 ⟨rfl, hq2⟩
              have Bq : Below w4.heap.size w4 q2 := hbr.trans (hq2.mono hbr.size)
              obtain ⟨ft, hft⟩ : ∃ ft, featT f = ft := ⟨_, rfl⟩
              rw [hft] at zf ⊢
              have Hft := Lib.hid hft
              clear hft e0 e1 e2 e3 hC1 hT1
              by_cases hik : i = k
              · have d2_ : ((i : Int) != (k : Int)) = false := by rw [hik]; simp
                have Hik := Lib.hid hik
                clear hik
                go_wp2
                refine ⟨⟨i + 1, by omega, by go_num, ?_, ?_, ⟨Bq⟩⟩, by simp [intOf]; omega⟩
                · rw [Hx.out, Hft.out]
                · rw [Hz.out Hik.out, Hp.out]
              · have d2_ : ((i : Int) != (k : Int)) = true := by rw [bne_iff_ne]; omega
                have Hik := Lib.hid hik
                clear hik
                go_wp2
                refine ⟨⟨i + 1, by omega, by go_num, ?_, ?_, ⟨Bq⟩⟩, by simp [intOf]; omega⟩
                · rw [Hx.out, Hft.out]
                · rw [Hy.out Hik.out, Hp.out, Hft.out]
            · have d1_ : decide ((i : Int) < (s.length : Int)) = false := decide_eq_false (by omega)
              obtain rfl : i = s.length := by omega
              rw [List.take_length, ← HA.out]
              have Tr := T.to Br
              have hz8 := linesT_size (restL k s)
              have hz9 := rest_len k s
              obtain ⟨ad, A1, c1, B1, dd, eA, e0, _⟩ := at_Feat Cr k hks
              have hI := fun w h => iSheetCut_c D1 d1 s s[k].1 w h hd1 F1.out X1
              rw [HC.out.1] at hI
              have HI := Lib.hid hI
              have hfw : ∀ f ∈ restL k s, FTx f := fun f hf => (HC.out.2.all f hf).ftx
              have Fw := Lib.hid HC.out.2.few
              obtain ⟨ls, hls⟩ : ∃ ls, linesT (restL k s) = ls := ⟨_, rfl⟩
              rw [hls] at hz8 ⊢
              have Hls := Lib.hid (show ls = sheetT (restL k s) by rw [← hls]; exact (if_pos HC.out.2).symm)
              generalize s[k].1 = id at *
              clear hI hls hfw
              subst eA
              go_wp2_with fail
              refine (HI.out _ Cr).mono ?_
              rintro e x1 ⟨A5, c5, rfl, hs5, hx1⟩
              simp only [] at hs5
              obtain ⟨_, _, E5⟩ := hs5.C
              have Bx1 := Br.trans (hx1.mono Br.size)
              clear hs5 hx1 e0
              go_wp2_with fail
              refine (iSheetRead_c ls _ (by omega) (T.to Bx1)).mono ?_
              rintro e x2 ⟨x, A6, c6, b6, rfl, hs6, hx2, hy6, hf6⟩
              have hb6 : b6 = true := by
                cases b6
                · exact absurd Hls.out ((hf6 rfl).2 _ HC.out.2)
                · rfl
              subst hb6
              have hxe : x = restL k s := sheetT_inj (hy6 rfl).1 HC.out.2 ((hy6 rfl).2.symm.trans Hls.out)
              subst hxe
              obtain ⟨_, _, E6⟩ := hs6.C
              have E5b := Kd.C_below E5 hx2
              have Bx2 := Bx1.trans (hx2.mono Bx1.size)
              clear hs6 hx2 hy6 hf6 E5 Bx1
              go_wp2_with fail
              refine (iSheetSame_c A6 A5 c6 c5 (restL k s) (restL k s) _ (Kd.C_below E6 bl) (Kd.C_below E5b bl) Fw.out Fw.out).mono ?_
              rintro e x3 ⟨rfl, hx3⟩
              rw [eqB_t.2 rfl]
              go_wp2
              go_ret
              exact ⟨rfl, Bx2.trans (hx3.mono Bx2.size)⟩
      · rw [sheetOk_f.2 hok] at so
        have SO := Lib.hid so
        clear so hok
        go_wp2_with fail
        refine (TI.out _ C1 (T.to hb1).td).mono ?_
        rintro e w2 ⟨rfl, hb2⟩
        have Bw2 := hb1.trans (hb2.mono hb1.size)
        have C2 := Kd.C_below C1 hb2
        clear C1 hb1 hb2
        go_wp2_with fail
        refine (SI.out _ C2).mono ?_
        rintro e w3 ⟨rfl, hb3⟩
        have Bw3 := Bw2.trans (hb3.mono Bw2.size)
        have C3 := Kd.C_below C2 hb3
        clear C2 Bw2 hb3
        go_wp2_with fail
        refine (SO.out _ C3).mono ?_
        rintro e w4 ⟨rfl, hb4⟩
        have Bw4 := Bw3.trans (hb4.mono Bw3.size)
        have C4 := Kd.C_below C3 hb4
        clear C3 Bw3 hb4
        go_wp2_with fail
        refine (SI.out _ C4).mono ?_
        rintro e w5 ⟨rfl, hb5⟩
        go_wp2
        go_ret
        exact ⟨rfl, Bw4.trans (hb5.mono Bw4.size)⟩
    · have hd2 : decide ((1048576 : Int) < (m.length : Int)) = true := decide_eq_true (by omega)
      go_enter Tryz.func5, Tryz.ntmps5
      go_wp2
      go_ret
      exact ⟨rfl, bl⟩
  · have hd : decide ((1048576 : Int) < (l.length : Int)) = true := decide_eq_true (by omega)
    go_enter Tryz.func5, Tryz.ntmps5
    go_wp2
    go_ret
    exact ⟨rfl, bl⟩
end Go.Proofs.YtgdgnlpohnpgiaaGreatDoor
