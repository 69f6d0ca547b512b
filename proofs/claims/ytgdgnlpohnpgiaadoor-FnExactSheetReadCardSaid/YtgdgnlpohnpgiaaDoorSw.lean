/- Contracts: the program's SheetRead. -/
import Derived.Test.YtgdgnlpohnpgiaaDoorSv
import Derived.Test.YtgdgnlpohnpgiaaDoorRj
namespace Go.Proofs.YtgdgnlpohnpgiaaDoor
open Go.RowKit Go.Proofs.YtgdgnlpohnpgiaaDoorW.PrintWords Go.Proofs.YtgdgnlpohnpgiaaDoorW.PrintLast
set_option maxRecDepth 100000
set_option linter.unusedVariables false
set_option linter.unusedSimpArgs false
attribute [local go_sem] cell_set_far cell_set_off
theorem StOut.no2 {s : ByteArray} {w w1 : World} (hb : Below w.heap.size w w1) (h : ∀ l', SheetOk l' → s ≠ sheetT l') : StOut s w (.returned (.tuple #[.slice (some ⟨w1.heap.size, 0, none⟩) 0 0, .bool false])) (w1.alloc (.cells #[] 34)) :=
  ⟨[], _, 0, false, rfl, Sep.lit0 w1 w.heap.size hb.size, hb.trans ((below_alloc (Below.refl _ _) _).mono hb.size), (fun h => by cases h), fun _ => ⟨rfl, h⟩⟩
set_option maxHeartbeats 8000000 in
theorem iSheetRead_c (s : ByteArray) (w : World) (hs : s.size ≤ 1048576) (T : TiedR w) :
    Calls Tryd.prog 8 #[.string s] w (StOut s w) := by
  by_cases h2 : (s.size : Int) ≤ 2000
  · have d1 : decide ((2000 : Int) < (s.size : Int)) = false := decide_eq_false (by omega)
    have BA := below_alloc (Below.refl w.heap.size w) (.cells #[] 34)
    have SA := Sep.lit0 w w.heap.size (Nat.le_refl _)
    go_enter Tryd.func8, Tryd.ntmps8
    go_wp2_with fail
    refine (Split_c s 10 _ hs (T.to BA)).mono ?_
    rintro e w1 ⟨b1, ws, rfl, hws, hC1, hb1⟩
    have hpos : 0 < ws.length := by
      have := congrArg List.length hws
      rw [List.length_map] at this
      have h2 := List.length_pos_iff.2 (splitL_ne 10 (bts s))
      omega
    have hlen : ws.length ≤ 2001 := by
      have h1 := congrArg List.length hws
      rw [List.length_map] at h1
      have h2 := splitL_len 10 (bts s)
      rw [bts_len] at h2
      omega
    have hwz : ∀ u ∈ ws, u.size ≤ 2000 := fun u hu => by
      obtain ⟨i, hi, rfl⟩ := List.getElem_of_mem hu
      have := word_size hws hi
      omega
    have hsl : (splitL 10 (bts s)).length = ws.length := by rw [← hws, List.length_map]
    obtain ⟨n, hn⟩ : ∃ n, n + 1 = ws.length := ⟨ws.length - 1, by omega⟩
    have hw0 : IntKind.i64.wrap ((ws.length : Int) - 1) = (n : Int) := by rw [IntWalk.i64_in _ (by omega)]; omega
    have hct := cut_to (P := Tryd.prog) 48 9 .i64 Tryd.underlying48 rfl (some ⟨b1, 0, none⟩) ws.length ws.length (n : Int) (by omega) (by omega) (Nat.le_refl _)
    simp only [Int.toNat_natCast] at hct
    have hT := Kd.C_take hC1 (show n ≤ ws.length by omega)
    have hun : (ws.take n).length = n := by rw [List.length_take]; omega
    have huz : ∀ u ∈ ws.take n, u.size ≤ 2000 := fun u hu => hwz u (List.mem_of_mem_take hu)
    have hum : (splitL 10 (bts s)).take n = (ws.take n).map bts := by rw [← hws, List.map_take]
    have hnl : n = (splitL 10 (bts s)).length - 1 := by omega
    rw [hun] at hT
    obtain ⟨us, hus⟩ : ∃ us, us = ws.take n := ⟨_, rfl⟩
    rw [← hus] at hT hun huz hum
    have HA1 := Lib.hid (words_apart hb1 hC1 hpos ⟨b1, 0, none⟩ rfl)
    have hw1 : w.heap.size < w1.heap.size := by have := hb1.size; simp only [World.size_alloc] at this; omega
    have Hsl := Lib.hid (And.intro hsl hn)
    have Hwz := Lib.hid huz
    have Hum := Lib.hid (And.intro hum (And.intro hnl hun))
    have hn2 : n ≤ 2000 := by omega
    have B1 := BA.trans (hb1.mono BA.size)
    have S1 := (SA.below hb1).wide (Nat.le_refl _) hb1.size
    clear hws hwz hsl BA SA hb1 hus huz hum hnl hC1 hn hun
    go_wp2
    clear hct hw0
    go_loopw [4, 23] (fun q5 q7 wr => ∃ (k : Nat) (B : Option Addr) (d : Nat) (lk : List FeatD), k ≤ n ∧ lk.length = k ∧ q7 = .int .i64 k ∧ q5 = .slice B lk.length d ∧ Aside0 (LinesR (us.take k) lk) ∧ Aside0 (Sep wr w.heap.size wr.heap.size (.slice B lk.length d) lk) ∧ Aside0 (Below w.heap.size w wr) ∧ Aside0 (Kd.string.C wr (some ⟨b1, 0, none⟩) n us) ∧ Aside0 (OutAt w.heap.size w1.heap.size (.slice B lk.length d)) ∧ w1.heap.size ≤ wr.heap.size) (fun _ q7 _ => n - (intOf q7).toNat)
    case atStart => exact ⟨0, _, _, [], by omega, rfl, rfl, rfl, ⟨LinesR.nil⟩, ⟨S1⟩, ⟨B1⟩, ⟨hT⟩, ⟨fun g hg => Or.inl (by simpa [Value.ownBlock] using hg.symm)⟩, Nat.le_refl _⟩
    case round =>
      obtain ⟨k, B, d, lk, hk, hlk, rfl, rfl, ⟨hR⟩, ⟨hsep⟩, ⟨hb⟩, ⟨hCr⟩, ⟨hoa⟩, hw1r⟩ := hrel
      clear S1 B1 hT
      have HR := Lib.hid hR
      have Hlk := Lib.hid hlk
      clear hR hlk
      by_cases hlt : k < n
      · have d4 : decide ((k : Int) < (n : Int)) = true := decide_eq_true (by omega)
        have hw : IntKind.i64.wrap ((k : Int) + 1) = (k : Int) + 1 := IntWalk.i64_in _ (by omega)
        have hlu : k < us.length := by rw [Hum.out.2.2]; exact hlt
        obtain ⟨ad, eA, u0⟩ := at_str hCr k hlu
        cases eA
        rw [add_lit] at u0
        have hzk := Hwz.out _ (List.getElem_mem hlu)
        have Hst := Lib.hid (List.take_succ_eq_append_getElem hlu)
        have hat : (splitL 10 (bts s))[k]? = some (bts us[k]) := by
          have h_ := congrArg (fun x => x[k]?) Hum.out.1
          simp only [List.getElem?_take, hlt, if_true, List.getElem?_map, List.getElem?_eq_getElem hlu, Option.map_some] at h_
          exact h_
        have Hat := Lib.hid hat
        obtain ⟨xs, I, J, hS⟩ := hsep
        have s0 := hb.size
        clear hat
        generalize us[k] = v at *
        go_wp2_with fail
        refine (iFeatRead_c v _ (by omega) (T.to hb)).mono ?_
        rintro e w2 ⟨f, A2, c2, B2, d2, b, rfl, hp2, ht2, hb2, hX2, hy2, hf2⟩
        have s2 := hb2.size
        cases b
        · have Hno := Lib.hid (show ∀ l', SheetOk l' → s ≠ sheetT l' from lines_no Hat.out (by have := Hsl.out; omega) (hf2 rfl).2)
          have Hb4 := Lib.hid (show Below w.heap.size w (w2.alloc (.cells #[.string f.1, .int .i64 f.2.1.1, .slice A2 f.2.1.2.length c2, .slice B2 f.2.2.length d2] 34)) from bl)
          have e3 : (w2.alloc (.cells #[.string f.1, .int .i64 f.2.1.1, .slice A2 f.2.1.2.length c2, .slice B2 f.2.2.length d2] 34)).heap.size = w2.heap.size + 1 := by simp
          have hN := StOut.no2 Hb4.out Hno.out
          rw [e3] at hN
          have HN := Lib.hid hN
          clear hy2 hf2 hS hN e3
          go_wp2
          refine bodyPost_ret (v := .tuple #[.slice (some ⟨w2.heap.size + 1, 0, none⟩) 0 0, .bool false]) (by simp [results, Tryd.results8, go_sem, *]) rfl HN.out
        · obtain ⟨hok2, he2⟩ := hy2 rfl
          have HR2 := Lib.hid (show LinesR (us.take (k + 1)) (lk ++ [f]) by rw [Hst.out]; exact HR.out.snoc ⟨hok2, he2⟩)
          have X := B4.new w2 (.string f.1) (.int .i64 f.2.1.1) (.slice A2 f.2.1.2.length c2) (.slice B2 f.2.2.length d2) 34
          have a2 := below_alloc (Below.refl w2.heap.size w2) (.cells #[.string f.1, .int .i64 f.2.1.1, .slice A2 f.2.1.2.length c2, .slice B2 f.2.2.length d2] 34)
          have hb3 : Below wr.heap.size wr (w2.alloc (.cells #[.string f.1, .int .i64 f.2.1.1, .slice A2 f.2.1.2.length c2, .slice B2 f.2.2.length d2] 34)) := hb2.trans (a2.mono s2)
          have hB := hb.trans (hb3.mono hb.size)
          have hC3 := Kd.C_below hCr hb3
          have s3 : (w2.alloc (.cells #[.string f.1, .int .i64 f.2.1.1, .slice A2 f.2.1.2.length c2, .slice B2 f.2.2.length d2] 34)).heap.size = w2.heap.size + 1 := by simp
          have hS2 := (hS.below hb3).wide (Nat.le_refl _) hb3.size
          have hJ : ∀ i, i < lk.length → J i ≤ wr.heap.size := fun i hi => by have := (hS.bnd i hi).2.2.1; omega
          have hv : ∀ g, (Value.slice B lk.length d).ownBlock = some g → g < wr.heap.size ∨ w2.heap.size ≤ g := fun g hg => by have : g < wr.heap.size := hS.row.1 g hg; omega
          have hI : Inn (w2.alloc (.cells #[.string f.1, .int .i64 f.2.1.1, .slice A2 f.2.1.2.length c2, .slice B2 f.2.2.length d2] 34)) wr.heap.size w2.heap.size f (f.1, f.2.1.1, .slice A2 f.2.1.2.length c2, .slice B2 f.2.2.length d2) := ⟨rfl, rfl, hp2.below a2, ht2.below a2⟩
          have hk9 : lk.length ≤ 1048577 := by have := Hlk.out; omega
          have hs3 : w2.heap.size ≤ (w2.alloc (.cells #[.string f.1, .int .i64 f.2.1.1, .slice A2 f.2.1.2.length c2, .slice B2 f.2.2.length d2] 34)).heap.size := by omega
          obtain ⟨x0, x1, x2, x3⟩ := X.c
          have HK := Lib.hid (And.intro hS2 (And.intro hJ (And.intro hv (And.intro hI (And.intro hs3 s2)))))
          have Hbw := Lib.hid (And.intro hC3 (And.intro s0 (And.intro hoa (And.intro s3 (And.intro s2 hw1r)))))
          clear hS hS2 hJ hv hI hs3 s3 hp2 ht2 hy2 hf2 a2 X hb2 hb3 hok2 he2 s0 s2 hb hCr hC3 hoa
          go_upto_region 11 with (fail)
          generalize w2.alloc (.cells #[.string f.1, .int .i64 f.2.1.1, .slice A2 f.2.1.2.length c2, .slice B2 f.2.2.length d2] 34) = W2 at *
          go_wp2_with (at_builtin; refine appSepG (w0 := w) (base := w.heap.size) (.tmp 35) (.tmp 37) _ f (f.1, f.2.1.1, .slice A2 f.2.1.2.length c2, .slice B2 f.2.2.length d2) [.string f.1, .int .i64 f.2.1.1, .slice A2 f.2.1.2.length c2, .slice B2 f.2.2.length d2] rfl HK.out.1 HK.out.2.2.2.2.2 HK.out.2.2.2.2.1 HK.out.2.2.2.1 Hbw.out.2.1 HK.out.2.1 HK.out.2.2.1 hB hk9 ?_; intro B5 d5 w5 hs5 hb5 hg5 hat5)
          have hl5 : (lk ++ [f]).length = lk.length + 1 := by simp
          rw [← hl5] at hs5 hat5
          have hC5 : Kd.string.C w5 (some ⟨b1, 0, none⟩) n us := strC_grown Hbw.out.1 hg5 (fun ad' e e2 => by
            cases e
            have h1 := HA1.out
            have h2 := Hbw.out.2.2.1 b1 e2.symm
            omega)
          have ho5 : OutAt w.heap.size w1.heap.size (.slice B5 (lk ++ [f]).length d5) := fun g hg => by
            rcases hat5 with e | ⟨g', e, hle⟩
            · exact Hbw.out.2.2.1 g (by rw [← e]; exact hg)
            · rw [e] at hg
              injection hg with hg
              have h3 := Hbw.out.2.2.2.1
              have h4 := Hbw.out.2.2.2.2.1
              have h5 := Hbw.out.2.2.2.2.2
              exact Or.inr (by omega)
          exact ⟨⟨k + 1, B5, d5, lk ++ [f], by omega, by rw [hl5, Hlk.out], by go_num, by rw [hl5], ⟨HR2.out⟩, ⟨hs5⟩, ⟨hb5⟩, ⟨hC5⟩, ⟨ho5⟩, by have h3 := Hbw.out.2.2.2.1; have h4 := Hbw.out.2.2.2.2.1; have h5 := hg5.size; omega⟩, by simp [intOf]; omega⟩
      · have d4 : decide ((k : Int) < (n : Int)) = false := decide_eq_false (by omega)
        obtain rfl : k = n := by omega
        have hR := HR.out
        rw [List.take_of_length_le (by rw [Hum.out.2.2]; exact Nat.le_refl _)] at hR
        have HR2 := Lib.hid hR
        have h8 : lk.length ≤ 1048576 := by have := Hlk.out; omega
        have hX : ∀ f ∈ lk, FTx f := fun f hf => (hR.ok f hf).ftx
        have cO := fun w h => iSheetOk_c B d lk w h h8 hX
        have cT := fun w h hT => iSheetText_c B d lk w h h8 hX hT
        obtain ⟨q1, q2, q3⟩ := hsep.C
        have HS := Lib.hid hsep
        have T1 := T.to hb
        have s0 := hb.size
        have HE := Lib.hid (show ∀ l', SheetOk l' → s = sheetT l' → lk = l' from fun l' hok e => lines_eq HR2.out k (by rw [Hum.out.2.2]) Hum.out.1 Hum.out.2.1 hok e)
        clear HR hR hsep hCr hoa hX
        cases hso : sheetOk lk with
        | false =>
          have Hno := Lib.hid (show ∀ l', SheetOk l' → s ≠ sheetT l' from fun l' hok e => by
            rw [HE.out l' hok e] at hso
            exact sheetOk_f.1 hso hok)
          rw [hso] at cO
          have CO := Lib.hid cO
          clear cO cT hso
          go_wp2_with fail
          refine (CO.out _ (Kd.C_below q3 bl)).mono ?_
          rintro e w2 ⟨rfl, hb2⟩
          have HN := Lib.hid (StOut.no2 (show Below w.heap.size w w2 from bl) Hno.out)
          go_wp2
          refine bodyPost_ret (v := .tuple #[.slice (some ⟨w2.heap.size, 0, none⟩) 0 0, .bool false]) (by simp [results, Tryd.results8, go_sem, *]) rfl HN.out
        | true =>
          have Hok := Lib.hid (sheetOk_t.1 hso)
          rw [hso] at cO
          obtain ⟨st, hst0⟩ : ∃ st, sheetT lk = st := ⟨_, rfl⟩
          rw [hst0] at cT
          have H0 := Lib.hid hst0
          have CO := Lib.hid cO
          have CT := Lib.hid cT
          clear hst0
          clear cO cT hso
          go_wp2_with fail
          refine (CO.out _ (Kd.C_below q3 bl)).mono ?_
          rintro e w2 ⟨rfl, hb2⟩
          go_wp2_with fail
          refine (CT.out _ (Kd.C_below q3 bl) (T1.to bl).td).mono ?_
          rintro e w3 ⟨rfl, hb3⟩
          have hb23 := hb2.trans (hb3.mono hb2.size)
          have Bw3 := hb.trans (hb23.mono s0)
          by_cases hst : st = s
          · have t1 := strB_t hst
            have Hyes := Lib.hid (show SheetOk lk ∧ s = sheetT lk from ⟨Hok.out, hst.symm.trans H0.out.symm⟩)
            have HS3 := Lib.hid ((HS.out.below hb23).wide (Nat.le_refl _) hb23.size)
            clear hst
            go_wp2
            refine bodyPost_ret (v := .tuple #[.slice B lk.length d, .bool true]) (by simp [results, Tryd.results8, go_sem, *]) rfl ⟨lk, B, d, true, rfl, HS3.out, Bw3, fun _ => Hyes.out, fun h => by cases h⟩
          · have t1 := strB_f hst
            have Hno := Lib.hid (show ∀ l', SheetOk l' → s ≠ sheetT l' from fun l' hok e => hst (by rw [← H0.out, HE.out l' hok e]; exact e.symm))
            have HN := Lib.hid (StOut.no2 Bw3 Hno.out)
            clear hst
            go_wp2
            refine bodyPost_ret (v := .tuple #[.slice (some ⟨w3.heap.size, 0, none⟩) 0 0, .bool false]) (by simp [results, Tryd.results8, go_sem, *]) rfl HN.out
  · have d1 : decide ((2000 : Int) < (s.size : Int)) = true := decide_eq_true (by omega)
    have HN := Lib.hid (StOut.no2 (w := w) (w1 := w) (Below.refl _ _) (show ∀ l', SheetOk l' → s ≠ sheetT l' from fun l' _ e => by
      have := sheetT_size l'
      rw [← e] at this
      omega))
    go_enter Tryd.func8, Tryd.ntmps8
    go_wp2
    refine bodyPost_ret (v := .tuple #[.slice (some ⟨w.heap.size, 0, none⟩) 0 0, .bool false]) (by simp [results, Tryd.results8, go_sem, *]) rfl HN.out
end Go.Proofs.YtgdgnlpohnpgiaaDoor
