/- Contracts: what is found in a map; a thing got by its name. -/
import Derived.Test.YtlebgjafaioajaaSj
namespace Go.Proofs.Ytlebgjafaioajaa
open Go.RowKit Go.Proofs.YtlebgjafaioajaaW.PrintWords Go.Proofs.YtlebgjafaioajaaW.PrintLast
set_option maxRecDepth 100000
set_option linter.unusedVariables false
set_option linter.unusedSimpArgs false
attribute [local go_sem] cell_set_far cell_set_off
theorem featAt1_c (f : FeatD) (A B : Option Addr) (c d : Nat) (key : ByteArray) (b : Nat) (w : World) (hc : w.cell? ⟨b, 0, none⟩ = some (.string key)) :
    Calls Try.prog 116 #[.agg #[.string f.1, .int .i64 f.2.1.1, .slice A f.2.1.2.length c, .slice B f.2.2.length d], .pointer (some ⟨b, 0, none⟩)] w fun e w' => e = .returned (.bool (eqB f.1 key)) ∧ Below w.heap.size w w' := by
  have hc2 := pw_cell_below (bl : Below w.heap.size w (w.alloc (.cells #[.string f.1, .int .i64 f.2.1.1, .slice A f.2.1.2.length c, .slice B f.2.2.length d] 35))) hc
  by_cases h : f.1 = key
  · have t := strB_t h
    have H := Lib.hid h
    clear h
    go_enter Try.func116, Try.ntmps116
    go_wp2
    go_ret
    exact ⟨ret_bool (eqB_t.2 H.out).symm, bl⟩
  · have t := strB_f h
    have H := Lib.hid h
    clear h
    go_enter Try.func116, Try.ntmps116
    go_wp2
    go_ret
    exact ⟨ret_bool (eqB_f.2 H.out).symm, bl⟩
set_option maxHeartbeats 1000000 in
theorem IndexFeat_c (A : Option Addr) (c : Nat) (l : List FeatD) (key : ByteArray) (b : Nat) (w : World) (hl : kFeat.C w A l.length l) (hn : l.length ≤ 1048576) (hc : w.cell? ⟨b, 0, none⟩ = some (.string key)) :
    Calls Try.prog 115 #[.slice A l.length c, .func (.func 116) #[] #[.pointer (some ⟨b, 0, none⟩)]] w fun e w' => e = .returned (.int .i64 (optI (atK l key))) ∧ Below w.heap.size w w' := by
  go_enter Try.func115, Try.ntmps115
  go_wp2
  go_loopw [8] (fun i wr => ∃ k : Nat, k ≤ l.length ∧ i = .int .i64 k ∧ Aside0 (∀ i, (hi : i < k) → (hj : i < l.length) → l[i].1 ≠ key) ∧ Aside0 (Below w.heap.size w wr)) (fun i _ => l.length - (intOf i).toNat)
  case atStart => exact ⟨0, by omega, rfl, ⟨fun i hi => absurd hi (by omega)⟩, ⟨Below.refl _ _⟩⟩
  case round =>
    obtain ⟨k, hk, rfl, he, ⟨hb1⟩⟩ := hrel
    by_cases hlt : k < l.length
    · obtain ⟨ad, A1, c1, B1, d1', rfl, e0, e1, e2, e3, hC, hT, _, _⟩ := at_Feat hl k hlt
      replace e0 := pw_cell_below hb1 e0
      replace e1 := pw_cell_below hb1 e1
      replace e2 := pw_cell_below hb1 e2
      replace e3 := pw_cell_below hb1 e3
      have d1 : decide ((k : Int) < (l.length : Int)) = true := decide_eq_true (by omega)
      cases hx : eqB l[k].1 key with
      | true =>
        have Hx := Lib.hid (show optI (atK l key) = k by rw [atK_some k hlt (eqB_t.1 hx) (fun i hi => he.out i hi (by omega))]; rfl)
        go_wp2_with fail
        refine (featAt1_c l[k] A1 B1 c1 d1' key b _ (pw_cell_below hb1 hc)).mono ?_
        rintro e w2 ⟨rfl, hb2⟩
        rw [hx]
        go_wp2
        go_ret
        exact ⟨ret_int Hx.out.symm, bl⟩
      | false =>
        have Hx := Lib.hid (eqB_f.1 hx)
        go_wp2_with fail
        refine (featAt1_c l[k] A1 B1 c1 d1' key b _ (pw_cell_below hb1 hc)).mono ?_
        rintro e w2 ⟨rfl, hb2⟩
        rw [hx]
        go_wp2
        exact ⟨⟨k + 1, by omega, by go_num, ⟨fun i hi hj => if h : i = k then h ▸ Hx.out else he.out i (by omega) hj⟩, ⟨bl⟩⟩, by simp [intOf]; omega⟩
    · have Hx := Lib.hid (show optI (atK l key) = -1 by rw [atK_none (fun i hi => he.out i (by omega) hi)]; rfl)
      have d1 : decide ((k : Int) < (l.length : Int)) = false := decide_eq_false (by omega)
      go_wp2
      go_ret
      exact ⟨ret_int Hx.out.symm, bl⟩
theorem featAt_c (A : Option Addr) (c : Nat) (l : List FeatD) (key : ByteArray) (w : World) (hl : kFeat.C w A l.length l) (hn : l.length ≤ 1048576) :
    Calls Try.prog 80 #[.slice A l.length c, .string key] w fun e w' => e = .returned (.int .i64 (optI (atK l key))) ∧ Below w.heap.size w w' := by
  go_enter Try.func80, Try.ntmps80
  go_wp2_with fail
  refine (IndexFeat_c A c l key w.heap.size _ (Kd.C_below hl bl) hn (by simp)).mono ?_
  rintro e w2 ⟨rfl, hb2⟩
  go_wp2
  go_ret
  exact ⟨rfl, bl⟩
set_option maxHeartbeats 1000000 in
theorem l3Find_c (A : Option Addr) (c : Nat) (l : List FeatD) (key : ByteArray) (w : World) (hl : kFeat.C w A l.length l) (hn : l.length ≤ 1048576) :
    Calls Try.prog 79 #[.slice A l.length c, .string key] w fun e w' => e = .returned (.int .i64 (optI (atK l key))) ∧ Below w.heap.size w w' := by
  go_enter Try.func79, Try.ntmps79
  go_wp2
  go_loopw [5] (fun i wr => ∃ k : Nat, k ≤ l.length ∧ i = .int .i64 k ∧ Aside0 (∀ i, (hi : i < k) → (hj : i < l.length) → l[i].1 ≠ key) ∧ Aside0 (Below w.heap.size w wr)) (fun i _ => l.length - (intOf i).toNat)
  case atStart => exact ⟨0, by omega, rfl, ⟨fun i hi => absurd hi (by omega)⟩, ⟨Below.refl _ _⟩⟩
  case round =>
    obtain ⟨k, hk, rfl, he, ⟨hb1⟩⟩ := hrel
    by_cases hlt : k < l.length
    · obtain ⟨ad, A1, c1, B1, d1', rfl, e0, e1, e2, e3, hC, hT, _, _⟩ := at_Feat hl k hlt
      replace e0 := pw_cell_below hb1 e0
      have d1 : decide ((k : Int) < (l.length : Int)) = true := decide_eq_true (by omega)
      by_cases hx : l[k].1 = key
      · have t2 := strB_t hx
        have Hx := Lib.hid (show optI (atK l key) = k by rw [atK_some k hlt hx (fun i hi => he.out i hi (by omega))]; rfl)
        clear hx
        go_wp2
        go_ret
        exact ⟨ret_int Hx.out.symm, bl⟩
      · have t2 := strB_f hx
        have Hx := Lib.hid hx
        clear hx
        go_wp2
        exact ⟨⟨k + 1, by omega, by go_num, ⟨fun i hi hj => if h : i = k then h ▸ Hx.out else he.out i (by omega) hj⟩, ⟨bl⟩⟩, by simp [intOf]; omega⟩
    · have Hx := Lib.hid (show optI (atK l key) = -1 by rw [atK_none (fun i hi => he.out i (by omega) hi)]; rfl)
      have d1 : decide ((k : Int) < (l.length : Int)) = false := decide_eq_false (by omega)
      go_wp2
      go_ret
      exact ⟨ret_int Hx.out.symm, bl⟩
open Classical in
/-- A thing of a map by its name, and whether there is one. -/
noncomputable def sget (l : List FeatD) (id : ByteArray) : FeatD × Bool := if SheetOk l then (match atK l id with | some k => (l.getD k feat0, true) | none => (feat0, false)) else (feat0, false)
theorem sget_cases (l : List FeatD) (id : ByteArray) : (sheetOk l = false ∧ sget l id = (feat0, false)) ∨ (sheetOk l = true ∧ atK l id = none ∧ sget l id = (feat0, false)) ∨ (∃ k, sheetOk l = true ∧ atK l id = some k ∧ ∃ h : k < l.length, l[k].1 = id ∧ sget l id = (l[k], true)) := by
  unfold sget
  cases h : sheetOk l with
  | false => exact .inl ⟨rfl, if_neg (sheetOk_f.1 h)⟩
  | true =>
    rw [if_pos (sheetOk_t.1 h)]
    cases ha : atK l id with
    | none => exact .inr (.inl ⟨rfl, rfl, rfl⟩)
    | some k =>
      obtain ⟨hk, he, _⟩ := atK_is ha
      refine .inr (.inr ⟨k, rfl, rfl, hk, he, ?_⟩)
      simp only [List.getD_eq_getElem?_getD, List.getElem?_eq_getElem hk, Option.getD_some]
set_option maxHeartbeats 4000000 in
theorem sSheetGet_c (A : Option Addr) (c : Nat) (l : List FeatD) (id : ByteArray) (w : World) (hl : kFeat.C w A l.length l) (hn : Few l) (hz : ∀ f ∈ l, FTx f) :
    Calls Try.prog 40 #[.slice A l.length c, .string id] w (NFeatB w (sget l id)) := by
  have n1 := hn.1
  have hT := l3Find_c A c l id
  have hO := sSheetOk_c A c l
  rcases sget_cases l id with ⟨ho, hs⟩ | ⟨ho, ha, hs⟩ | ⟨k, ho, ha, hk, he, hs⟩
  · have HT := Lib.hid hT
    rw [ho] at hO
    have HO := Lib.hid hO
    have Hs := Lib.hid hs
    clear hT hO hs ho
    go_enter Try.func40, Try.ntmps40
    go_wp2_with fail
    refine (HT.out _ (Kd.C_below hl bl) n1).mono ?_
    rintro e w1 ⟨rfl, hb1⟩
    have T2 : B4 w1 w.heap.size 35 (.string ⟨#[]⟩) (.int .i64 0) (.slice none 0 0) (.slice none 0 0) := B4.new' w _ _ _ _ _ _
    go_wp2_with fail
    refine (HO.out _ (Kd.C_below hl bl) n1 hz).mono ?_
    rintro e w2 ⟨rfl, hb2⟩
    replace T2 := T2.to hb2
    obtain ⟨x0, x1, x2, x3⟩ := T2.c
    obtain ⟨y0, y1, y2, y3⟩ := T2.z
    go_wp2
    refine bodyPost_ret (v := .tuple #[.agg #[.string ⟨#[]⟩, .int .i64 0, .slice none 0 0, .slice none 0 0], .bool false]) (by simp [results, Try.results40, go_sem, *]) rfl ?_
    rw [Hs.out]
    exact NFeatB.no (((((bl : Below w.heap.size w w2).setCell (by simp) _).setCell (by simp) _).setCell (by simp) _).setCell (by simp) _)
  · rw [ha] at hT
    simp only [optI] at hT
    have HT := Lib.hid hT
    rw [ho] at hO
    have HO := Lib.hid hO
    have Hs := Lib.hid hs
    clear hT hO hs ho ha
    go_enter Try.func40, Try.ntmps40
    go_wp2_with fail
    refine (HT.out _ (Kd.C_below hl bl) n1).mono ?_
    rintro e w1 ⟨rfl, hb1⟩
    have T2 : B4 w1 w.heap.size 35 (.string ⟨#[]⟩) (.int .i64 0) (.slice none 0 0) (.slice none 0 0) := B4.new' w _ _ _ _ _ _
    go_wp2_with fail
    refine (HO.out _ (Kd.C_below hl bl) n1 hz).mono ?_
    rintro e w2 ⟨rfl, hb2⟩
    replace T2 := T2.to hb2
    obtain ⟨x0, x1, x2, x3⟩ := T2.c
    obtain ⟨y0, y1, y2, y3⟩ := T2.z
    go_wp2
    refine bodyPost_ret (v := .tuple #[.agg #[.string ⟨#[]⟩, .int .i64 0, .slice none 0 0, .slice none 0 0], .bool false]) (by simp [results, Try.results40, go_sem, *]) rfl ?_
    rw [Hs.out]
    exact NFeatB.no (((((bl : Below w.heap.size w w2).setCell (by simp) _).setCell (by simp) _).setCell (by simp) _).setCell (by simp) _)
  · rw [ha] at hT
    simp only [optI] at hT
    have HT := Lib.hid hT
    rw [ho] at hO
    have HO := Lib.hid hO
    have Hs := Lib.hid hs
    have t1 : decide ((k : Int) < 0) = false := decide_eq_false (by omega)
    obtain ⟨ad, A1, c1, B1, d1, rfl, e0, e1, e2, e3, hC, hD, _, _⟩ := at_Feat hl k hk
    have z1 := hn.2 _ (List.getElem_mem hk)
    generalize l[k] = f at *
    clear hT hO hs ho ha he
    go_enter Try.func40, Try.ntmps40
    go_wp2_with fail
    refine (HT.out _ (Kd.C_below hl bl) n1).mono ?_
    rintro e w1 ⟨rfl, hb1⟩
    have T2 : B4 w1 w.heap.size 35 (.string ⟨#[]⟩) (.int .i64 0) (.slice none 0 0) (.slice none 0 0) := B4.new' w _ _ _ _ _ _
    go_wp2_with fail
    refine (HO.out _ (Kd.C_below hl bl) n1 hz).mono ?_
    rintro e w2 ⟨rfl, hb2⟩
    replace T2 := T2.to hb2
    have hB : Below w.heap.size w w2 := bl
    replace e0 := pw_cell_below hB e0
    replace e1 := pw_cell_below hB e1
    replace e2 := pw_cell_below hB e2
    replace e3 := pw_cell_below hB e3
    go_wp2_with fail
    refine (copyF_c f A1 c1 B1 d1 _ (Kd.C_below hC hB) (Kd.C_below hD hB) z1.1 z1.2).mono ?_
    rintro e w3 ⟨A3, c3, B3, d3, rfl, hr3, ht3, hb3⟩
    replace T2 := T2.to hb3
    have s2 := hB.size
    have s3 := hb3.size
    clear e0 e1 e2 e3
    obtain ⟨x0, x1, x2, x3⟩ := T2.c
    obtain ⟨y0, y1, y2, y3⟩ := T2.z
    go_wp2
    refine bodyPost_ret (v := .tuple #[.agg #[.string f.1, .int .i64 f.2.1.1, .slice A3 f.2.1.2.length c3, .slice B3 f.2.2.length d3], .bool true]) (by simp [results, Try.results40, go_sem, *]) rfl ?_
    rw [Hs.out]
    exact ⟨A3, c3, B3, d3, rfl, RI.of (T2.R (hr3.up (by omega)) (by decide) _ _ _ _), RI.of (T2.R (ht3.up (by omega)) (by decide) _ _ _ _), (((((bl : Below w.heap.size w w3).setCell (by simp) _).setCell (by simp) _).setCell (by simp) _).setCell (by simp) _)⟩
set_option maxHeartbeats 4000000 in
theorem iSheetGet_c (A : Option Addr) (c : Nat) (l : List FeatD) (id : ByteArray) (w : World) (hl : kFeat.C w A l.length l) (hn : Few l) (hz : ∀ f ∈ l, FTx f) :
    Calls Try.prog 41 #[.slice A l.length c, .string id] w (NFeatB w (sget l id)) := by
  have n1 := hn.1
  have hT := featAt_c A c l id
  have hO := iSheetOk_c A c l
  rcases sget_cases l id with ⟨ho, hs⟩ | ⟨ho, ha, hs⟩ | ⟨k, ho, ha, hk, he, hs⟩
  · have HT := Lib.hid hT
    rw [ho] at hO
    have HO := Lib.hid hO
    have Hs := Lib.hid hs
    clear hT hO hs ho
    go_enter Try.func41, Try.ntmps41
    go_wp2_with fail
    refine (HT.out _ (Kd.C_below hl bl) n1).mono ?_
    rintro e w1 ⟨rfl, hb1⟩
    have T2 : B4 w1 w.heap.size 35 (.string ⟨#[]⟩) (.int .i64 0) (.slice none 0 0) (.slice none 0 0) := B4.new' w _ _ _ _ _ _
    go_wp2_with fail
    refine (HO.out _ (Kd.C_below hl bl) n1 hz).mono ?_
    rintro e w2 ⟨rfl, hb2⟩
    replace T2 := T2.to hb2
    obtain ⟨x0, x1, x2, x3⟩ := T2.c
    obtain ⟨y0, y1, y2, y3⟩ := T2.z
    go_wp2
    refine bodyPost_ret (v := .tuple #[.agg #[.string ⟨#[]⟩, .int .i64 0, .slice none 0 0, .slice none 0 0], .bool false]) (by simp [results, Try.results41, go_sem, *]) rfl ?_
    rw [Hs.out]
    exact NFeatB.no (((((bl : Below w.heap.size w w2).setCell (by simp) _).setCell (by simp) _).setCell (by simp) _).setCell (by simp) _)
  · rw [ha] at hT
    simp only [optI] at hT
    have HT := Lib.hid hT
    rw [ho] at hO
    have HO := Lib.hid hO
    have Hs := Lib.hid hs
    clear hT hO hs ho ha
    go_enter Try.func41, Try.ntmps41
    go_wp2_with fail
    refine (HT.out _ (Kd.C_below hl bl) n1).mono ?_
    rintro e w1 ⟨rfl, hb1⟩
    have T2 : B4 w1 w.heap.size 35 (.string ⟨#[]⟩) (.int .i64 0) (.slice none 0 0) (.slice none 0 0) := B4.new' w _ _ _ _ _ _
    go_wp2_with fail
    refine (HO.out _ (Kd.C_below hl bl) n1 hz).mono ?_
    rintro e w2 ⟨rfl, hb2⟩
    replace T2 := T2.to hb2
    obtain ⟨x0, x1, x2, x3⟩ := T2.c
    obtain ⟨y0, y1, y2, y3⟩ := T2.z
    go_wp2
    refine bodyPost_ret (v := .tuple #[.agg #[.string ⟨#[]⟩, .int .i64 0, .slice none 0 0, .slice none 0 0], .bool false]) (by simp [results, Try.results41, go_sem, *]) rfl ?_
    rw [Hs.out]
    exact NFeatB.no (((((bl : Below w.heap.size w w2).setCell (by simp) _).setCell (by simp) _).setCell (by simp) _).setCell (by simp) _)
  · rw [ha] at hT
    simp only [optI] at hT
    have HT := Lib.hid hT
    rw [ho] at hO
    have HO := Lib.hid hO
    have Hs := Lib.hid hs
    have t1 : decide ((k : Int) < 0) = false := decide_eq_false (by omega)
    obtain ⟨ad, A1, c1, B1, d1, rfl, e0, e1, e2, e3, hC, hD, _, _⟩ := at_Feat hl k hk
    have z1 := hn.2 _ (List.getElem_mem hk)
    generalize l[k] = f at *
    clear hT hO hs ho ha he
    go_enter Try.func41, Try.ntmps41
    go_wp2_with fail
    refine (HT.out _ (Kd.C_below hl bl) n1).mono ?_
    rintro e w1 ⟨rfl, hb1⟩
    have T2 : B4 w1 w.heap.size 35 (.string ⟨#[]⟩) (.int .i64 0) (.slice none 0 0) (.slice none 0 0) := B4.new' w _ _ _ _ _ _
    go_wp2_with fail
    refine (HO.out _ (Kd.C_below hl bl) n1 hz).mono ?_
    rintro e w2 ⟨rfl, hb2⟩
    replace T2 := T2.to hb2
    have hB : Below w.heap.size w w2 := bl
    replace e0 := pw_cell_below hB e0
    replace e1 := pw_cell_below hB e1
    replace e2 := pw_cell_below hB e2
    replace e3 := pw_cell_below hB e3
    go_wp2_with fail
    refine (cloneF_c f A1 c1 B1 d1 _ (Kd.C_below hC hB) (Kd.C_below hD hB) z1.1 z1.2).mono ?_
    rintro e w3 ⟨A3, c3, B3, d3, rfl, hr3, ht3, hb3⟩
    replace T2 := T2.to hb3
    have s2 := hB.size
    have s3 := hb3.size
    clear e0 e1 e2 e3
    obtain ⟨x0, x1, x2, x3⟩ := T2.c
    obtain ⟨y0, y1, y2, y3⟩ := T2.z
    go_wp2
    refine bodyPost_ret (v := .tuple #[.agg #[.string f.1, .int .i64 f.2.1.1, .slice A3 f.2.1.2.length c3, .slice B3 f.2.2.length d3], .bool true]) (by simp [results, Try.results41, go_sem, *]) rfl ?_
    rw [Hs.out]
    exact ⟨A3, c3, B3, d3, rfl, RI.of (T2.R (hr3.up (by omega)) (by decide) _ _ _ _), RI.of (T2.R (ht3.up (by omega)) (by decide) _ _ _ _), (((((bl : Below w.heap.size w w3).setCell (by simp) _).setCell (by simp) _).setCell (by simp) _).setCell (by simp) _)⟩
end Go.Proofs.Ytlebgjafaioajaa
