/- Contracts: the reference's ShapeRead. -/
import Derived.Test.YtfbhjknkofnohaaDoorRb
namespace Go.Proofs.YtfbhjknkofnohaaDoor
open Go.RowKit Go.Proofs.YtfbhjknkofnohaaDoorW.PrintWords Go.Proofs.YtfbhjknkofnohaaDoorW.PrintLast
set_option maxRecDepth 100000
set_option linter.unusedVariables false
set_option linter.unusedSimpArgs false
attribute [local go_sem] cell_set_far cell_set_off
theorem dd_le : ∀ (n u : Nat), u < 10 ^ (n + 1) → (Lib.decDigits u).length ≤ n + 1
  | 0, u, h => by rw [dd_small (by simpa using h)]; simp
  | n + 1, u, h => by
    by_cases hu : u < 10
    · rw [dd_small hu]; simp
    · rw [dd_big hu, List.length_append, List.length_singleton]
      have := dd_le n (u / 10) (by rw [Nat.pow_succ] at h; omega)
      omega
theorem itoa_5 {n : Int} (h0 : -1000 ≤ n) (h1 : n ≤ 1000) : (Lib.itoa n).length ≤ 5 := by
  unfold Lib.itoa
  split
  · have := dd_le 3 n.natAbs (by omega)
    rw [List.length_cons]
    omega
  · have := dd_le 3 n.toNat (by omega)
    omega
theorem ptText_12 {p : Pt} (h : ptOk p = true) : (ptText p).size ≤ 12 := by
  have hb := ptOk_in h
  have h1 := itoa_5 hb.1.1 hb.1.2
  have h2 := itoa_5 hb.2.1 hb.2.2
  rw [← bts_len, ptText_w]
  unfold ptW
  simp only [List.length_cons, List.length_append]
  omega
theorem shText_76 {K : Int} {l : List Pt} (h : ShapeOk K l) : (shText K l).size ≤ 76 := by
  have key : ∀ (l : List Pt) (o : ByteArray), (∀ p ∈ l, ptOk p = true) → (l.foldl (fun o p => o ++ ptText p) o).size ≤ o.size + 12 * l.length := by
    intro l
    induction l with
    | nil => intro o _; simp
    | cons p l ih =>
      intro o h
      have h1 := ih (o ++ ptText p) (fun q hq => h q (List.mem_cons_of_mem _ hq))
      have h2 := ptText_12 (h p List.mem_cons_self)
      rw [ByteArray.size_append] at h1
      simp only [List.foldl_cons, List.length_cons]
      omega
  have h1 := key l (kindW K) h.1.all
  have h2 := kindW_size K
  have h3 := h.le
  unfold shText
  omega
theorem shText_words' {s : ByteArray} {ws : List ByteArray} (h : ws.map bts = splitL 32 (bts s)) {K : Int} {l : List Pt} (hok : ShapeOk K l) : s = shText K l ↔ ws.map bts = bts (kindW K) :: l.map ptW := by
  have key : ∀ w ∈ bts (kindW K) :: l.map ptW, (32 : UInt8) ∉ w := fun w hw => by
    rcases List.mem_cons.1 hw with rfl | hw
    · exact (kindW_32 hok.kind).1
    · obtain ⟨p, _, rfl⟩ := List.mem_map.1 hw
      exact fun hc => (ptW_no hc).1 rfl
  constructor
  · intro e
    rw [h, e, shText_words, split_join _ (by simp) key]
  · intro e
    apply bts_inj
    rw [shText_words, ← e, h, join_split]
/-- The kind of a word, of the first j kinds. -/
def kdU (u : ByteArray) : Nat → Int
  | 0 => 0
  | j + 1 => if kindW ((j : Int) + 1) = u then (j : Int) + 1 else kdU u j
theorem kdU_3 (u : ByteArray) : (kdU u 3 = 0 ∨ kdU u 3 = 1 ∨ kdU u 3 = 2 ∨ kdU u 3 = 3) ∧ (kdU u 3 ≠ 0 → u = kindW (kdU u 3)) ∧ (∀ K : Int, (K = 1 ∨ K = 2 ∨ K = 3) → bts u = bts (kindW K) → kdU u 3 = K) := by
  have hall : ∀ K : Int, (K = 1 ∨ K = 2 ∨ K = 3) → u = kindW K → kdU u 3 = K := by
    rintro K (rfl | rfl | rfl) rfl <;> decide
  refine ⟨?_, ?_, fun K hK e => hall K hK (bts_inj e)⟩
  · simp only [kdU]
    repeat' split
    all_goals simp
  · intro h
    simp only [kdU] at h ⊢
    split
    · rename_i e; exact e.symm
    · split
      · rename_i e; exact e.symm
      · split
        · rename_i e; exact e.symm
        · rename_i e1 e2 e3
          rw [if_neg e1, if_neg e2, if_neg e3] at h
          exact absurd rfl h
theorem splitL_len (c : UInt8) : ∀ s : List UInt8, (splitL c s).length ≤ s.length + 1
  | [] => by simp [splitL]
  | x :: s => by
    have ih := splitL_len c s
    rw [splitL]
    split
    · simp only [List.length_cons]; omega
    · split
      · simp
      · rename_i e
        rw [e] at ih
        simp only [List.length_cons] at ih ⊢
        omega
theorem at_str {w : World} {A : Option Addr} {n : Nat} {l : List ByteArray} (h : Kd.string.C w A n l) (q : Nat) (hq : q < l.length) : ∃ ad, A = some ad ∧ w.cell? (ad.add q) = some (.string l[q]) := by
  obtain ⟨ad, c, e, hlc, hK, hc⟩ := Kd.C_get h ByteArray.empty (q : Int) (by omega) (by have := h.1; omega)
  have hg : l.getD q ByteArray.empty = l[q] := by rw [List.getD_eq_getElem?_getD, List.getElem?_eq_getElem hq]; rfl
  simp only [Int.toNat_natCast] at hK hc
  rw [hg] at hK
  obtain rfl : c = [.string l[q]] := hK
  refine ⟨ad, e, ?_⟩
  have := hc 0 (.string l[q]) rfl
  simpa [Kd.string, Kd.scalar] using this
theorem splitL_le {c : UInt8} : ∀ (s : List UInt8), ∀ w ∈ splitL c s, w.length ≤ s.length
  | [], w, h => by simp [splitL] at h; subst h; simp
  | x :: s, w, h => by
    have ih := splitL_le (c := c) s
    rw [splitL] at h
    split at h
    · rcases List.mem_cons.1 h with rfl | h
      · simp
      · have := ih w h; simp only [List.length_cons]; omega
    · split at h
      · simp at h; subst h; simp
      · rename_i v r h1
        rw [h1] at ih
        rcases List.mem_cons.1 h with rfl | h
        · have := ih v List.mem_cons_self; simp only [List.length_cons]; omega
        · have := ih w (List.mem_cons_of_mem _ h); simp only [List.length_cons]; omega
theorem word_size {s : ByteArray} {c : UInt8} {ws : List ByteArray} (h : ws.map bts = splitL c (bts s)) {i : Nat} (hi : i < ws.length) : ws[i].size ≤ s.size := by
  have h1 : bts ws[i] ∈ splitL c (bts s) := by rw [← h]; exact List.mem_map.2 ⟨_, List.getElem_mem hi, rfl⟩
  have := splitL_le _ _ h1
  rwa [bts_len, bts_len] at this
/-- A shape read of a text: just if it is one's. -/
def ShOut (s : ByteArray) (w : World) (e : Ending) (w' : World) : Prop := ∃ (K : Int) (A : Option Addr) (c : Nat) (l : List Pt) (b : Bool), e = .returned (.tuple #[.agg #[.int .i64 K, .slice A l.length c], .bool b]) ∧ RI kPt 58 w' w.heap.size w'.heap.size (.slice A l.length c) l ∧ Below w.heap.size w w' ∧ l.length ≤ 1048576 ∧ (b = true → ShapeOk K l ∧ s = shText K l) ∧ (b = false → K = 0 ∧ l = [] ∧ ∀ K' l', ShapeOk K' l' → s ≠ shText K' l')
theorem ShOut.no {s : ByteArray} {w w' : World} (hb : Below w.heap.size w w') (h : ∀ K' l', ShapeOk K' l' → s ≠ shText K' l') : ShOut s w (.returned (.tuple #[.agg #[.int .i64 0, .slice none 0 0], .bool false])) w' :=
  ⟨0, none, 0, [], false, rfl, RI.of (Kd.R_nil _ _ _ _ _) |>.wide (Nat.le_refl _) (Nat.le_refl _), hb, by simp, (fun h => by cases h), fun _ => ⟨rfl, rfl, h⟩⟩
def s_ShapeRead_T8 : Bool × List (List Nat × List Nat) := (true, [([], []), ([0], [0]), ([], []), ([2], [2]), ([3], [3]), ([1, 4], [1, 4])])
theorem s_ShapeRead_t8 : rtab .any (opsOf Tryd.f11 8) = s_ShapeRead_T8 := by kernel_rfl
set_option maxHeartbeats 8000000 in
theorem sShapeRead_c (s : ByteArray) (w : World) (hs : s.size ≤ 1048576) :
    Calls Tryd.prog 11 #[.string s] w (ShOut s w) := by
  by_cases h100 : (s.size : Int) ≤ 100
  · have d0 : decide ((100 : Int) < (s.size : Int)) = false := decide_eq_false (by omega)
    go_enter Tryd.func11, Tryd.ntmps11
    go_wp2_with fail
    refine (l12Cut_c s 32 _ hs).mono ?_
    rintro e w1 ⟨A1, c1, ws, rfl, hws, hC1, hc1, hb1⟩
    have T1 := B2.new' (W := w1) w w.heap.size (.int .i64 0) (.slice none 0 0) 30
    have B1 : Below w.heap.size w w1 := bl
    have X1 := B2.new (u := .int .i64 0) (v := .slice none 0 0) (t := 30) w1
    have a1 := below_alloc (Below.refl w1.heap.size w1) (.cells #[.int .i64 0, .slice none 0 0] 30)
    have hpos : 0 < ws.length := by
      have := congrArg List.length hws
      rw [List.length_map] at this
      have h2 := List.length_pos_iff.2 (splitL_ne 32 (bts s))
      omega
    have hlen : ws.length ≤ s.size + 1 := by
      have h1 := congrArg List.length hws
      rw [List.length_map] at h1
      have h2 := splitL_len 32 (bts s)
      rw [bts_len] at h2
      omega
    clear hb1
    go_upto_region 5 with (fail)
    have T1a := T1.to a1
    have B2w := B1.trans (a1.mono B1.size)
    have hlt12 := T1.f.2.2.2.2
    have HB1 := Lib.hid B1
    have HC1 := Lib.hid hC1
    clear T1 B1 hC1 B2w
    generalize w1.alloc (.cells #[.int .i64 0, .slice none 0 0] 30) = w2 at *
    obtain ⟨ad, rfl, u0⟩ := at_str HC1.out 0 hpos
    rw [add_zero'] at u0
    have HW := Lib.hid hws
    have hne : (w.heap.size == w1.heap.size) = false := by simp; omega
    clear hws
    go_wp2
    go_loopw [6] (fun q6 wr => ∃ (j : Nat), j ≤ 3 ∧ q6 = .int .i64 ((j : Int) + 1) ∧ Aside0 (B2 wr w1.heap.size 30 (.int .i64 (kdU ws[0] j)) (.slice none 0 0)) ∧ Aside0 (B2 wr w.heap.size 30 (.int .i64 0) (.slice none 0 0)) ∧ Aside0 (Below w1.heap.size w1 wr)) (fun q6 _ => (4 - intOf q6).toNat)
    case atStart => exact ⟨0, by omega, rfl, ⟨X1⟩, ⟨T1a⟩, ⟨a1⟩⟩
    case round =>
      clear X1 T1a a1
      obtain ⟨j, hj, rfl, ⟨HX⟩, ⟨HT_⟩, ⟨hbr⟩⟩ := hrel
      by_cases hj3 : j < 3
      · have d1 : decide ((j : Int) + 1 ≤ 3) = true := decide_eq_true (by omega)
        have hw : IntKind.i64.wrap ((j : Int) + 1 + 1) = ((j + 1 : Nat) : Int) + 1 := by rw [IntWalk.i64_in _ (by omega)]; omega
        have u1 := pw_cell_below hbr u0
        have cW := l1Word_c ((j : Int) + 1)
        have CW := Lib.hid cW
        clear cW
        have hbz := hbr.size
        by_cases hk : kindW ((j : Int) + 1) = ws[0]
        · have t1 := strB_t hk
          have Hk := Lib.hid (show kdU ws[0] (j + 1) = (j : Int) + 1 from if_pos hk)
          clear hk
          generalize kindW ((j : Int) + 1) = kw at *
          go_wp2
          refine rgStart 6 [0, 2, 3, 4, 1, 5] s_ShapeRead_t8 (fun HT HS => ?_)
          repeat ((with_reducible refine rgGate ?_); first | refine rgP HT ?_ | refine rgL HT ?_ | refine rgG HT ?_)
          refine rgCall HT Tryd.func38 (CW.out _ (by omega)) ?_
          rintro e q1 ⟨rfl, hq1⟩
          refine ⟨_, rfl, bl, rgN ?_⟩
          repeat ((with_reducible refine rgGate ?_); first | refine rgP HT ?_ | refine rgL HT ?_ | refine rgG HT ?_)
          refine rgDone HT ?_
          clear HT HS
          have bq : Below wr.heap.size wr q1 := bl
          have HX1 := HX.to bq
          have HT1 := HT_.to bq
          have B1q := hbr.trans (bq.mono hbz)
          obtain ⟨y0, y1, y2, y3, y4⟩ := HX1.f
          clear hbr bq hq1 HX HT_ u1
          go_wp2
          exact ⟨⟨j + 1, by omega, by go_num, ⟨by rw [Hk.out]; exact HX1.set0 _⟩, ⟨HT1.far hne⟩, ⟨B1q.setCell (Nat.le_refl _) _⟩⟩, by simp [intOf]; omega⟩
        · have t1 := strB_f hk
          have Hk := Lib.hid (show kdU ws[0] (j + 1) = kdU ws[0] j from if_neg hk)
          clear hk
          generalize kindW ((j : Int) + 1) = kw at *
          go_wp2
          refine rgStart 6 [0, 2, 3, 4, 1, 5] s_ShapeRead_t8 (fun HT HS => ?_)
          repeat ((with_reducible refine rgGate ?_); first | refine rgP HT ?_ | refine rgL HT ?_ | refine rgG HT ?_)
          refine rgCall HT Tryd.func38 (CW.out _ (by omega)) ?_
          rintro e q1 ⟨rfl, hq1⟩
          refine ⟨_, rfl, bl, rgN ?_⟩
          repeat ((with_reducible refine rgGate ?_); first | refine rgP HT ?_ | refine rgL HT ?_ | refine rgG HT ?_)
          refine rgDone HT ?_
          clear HT HS
          have bq : Below wr.heap.size wr q1 := bl
          have HX1 := HX.to bq
          have HT1 := HT_.to bq
          have B1q := hbr.trans (bq.mono hbz)
          clear hbr bq hq1 HX HT_ u1
          go_wp2
          exact ⟨⟨j + 1, by omega, by go_num, ⟨by rw [Hk.out]; exact HX1⟩, ⟨HT1⟩, ⟨B1q⟩⟩, by simp [intOf]; omega⟩
      · have d1 : decide ((j : Int) + 1 ≤ 3) = false := decide_eq_false (by omega)
        have ej : j = 3 := by omega
        rw [ej] at HX
        have Ej := Lib.hid ej
        clear ej
        obtain ⟨k1, k2, k3⟩ := kdU_3 ws[0]
        have HK := Lib.hid (And.intro k1 (And.intro k2 k3))
        clear k1 k2 k3
        have hws0 := Lib.hid (show ws.map bts = bts ws[0] :: (ws.map bts).drop 1 by
          cases ws with
          | nil => simp at hpos
          | cons a b => rfl)
        generalize kdU ws[0] 3 = K at *
        have HBR := Lib.hid hbr
        clear u0 hbr
        generalize wr = w3 at *
        go_wp2
        go_loopw [7] (fun q7 wr => ∃ (i : Nat) (l : List Pt) (A : Option Addr) (c : Nat), l.length + 1 = i ∧ i ≤ ws.length ∧ q7 = .int .i64 i ∧ Aside0 (B2 wr w1.heap.size 30 (.int .i64 K) (.slice A l.length c)) ∧ Aside0 (B2 wr w.heap.size 30 (.int .i64 0) (.slice none 0 0)) ∧ Aside0 (kPt.R 58 wr w1.heap.size (fun _ => True) (.slice A l.length c) l) ∧ Aside0 (Below w1.heap.size w1 wr) ∧ Aside0 (l.map ptW = ((ws.map bts).take i).drop 1)) (fun q7 _ => ws.length - (intOf q7).toNat)
        case atStart => exact ⟨1, [], none, 0, rfl, by omega, rfl, ⟨HX⟩, ⟨HT_⟩, ⟨Kd.R_nil _ _ _ _ _⟩, ⟨HBR.out⟩, ⟨by rw [List.drop_of_length_le (by rw [List.length_take]; omega)]; rfl⟩⟩
        case round =>
          clear HX HT_
          obtain ⟨i, l, A, c, hli, hiw, rfl, ⟨HX⟩, ⟨HT_⟩, ⟨hR⟩, ⟨hbr⟩, ⟨hm⟩⟩ := hrel
          have hbz := hbr.size
          obtain ⟨y0, y1, y2, y3, y4⟩ := HX.f
          obtain ⟨x0, x1, x2, x3, x4⟩ := HT_.f
          have Bw := Lib.hid (show Below w.heap.size w wr from HB1.out.trans (hbr.mono (Nat.le_of_lt hlt12)))
          by_cases hlt : i < ws.length
          · have d1 : decide ((i : Int) < (ws.length : Int)) = true := decide_eq_true (by omega)
            have hw : IntKind.i64.wrap ((i : Int) + 1) = (i : Int) + 1 := IntWalk.i64_in _ (by omega)
            obtain ⟨ad2, e2, ui⟩ := at_str HC1.out i hlt
            cases e2
            replace ui := pw_cell_below hbr ui
            have hz := word_size HW.out hlt
            go_wp2_with fail
            refine (l1Read_c ws[i] _ (by omega)).mono ?_
            rintro e w5 ⟨x, y, b, rfl, g1, g2, hb5⟩
            have HX5 := HX.to hb5
            have HT5 := HT_.to hb5
            have hR5 := Kd.R_below hR hb5
            have B15 := hbr.trans (hb5.mono hbz)
            have Bw5 := Lib.hid (Bw.out.trans (hb5.mono Bw.out.size))
            clear y0 y1 y2 y3 y4 x0 x1 x2 x3 x4 ui HX HT_ hR hbr hbz
            obtain ⟨y0, y1, y2, y3, y4⟩ := HX5.f
            obtain ⟨x0, x1, x2, x3, x4⟩ := HT5.f
            cases b with
            | false =>
              have hno := Lib.hid (show ∀ K' l', ShapeOk K' l' → s ≠ shText K' l' from fun K' l' hok e => by
                have hw2 := (shText_words' HW.out hok).1 e
                have h1 : (ws.map bts)[l.length + 1]? = some (bts ws[i]) := by rw [hli, List.getElem?_map, List.getElem?_eq_getElem hlt]; rfl
                rw [hw2, List.getElem?_cons_succ, List.getElem?_map] at h1
                obtain ⟨p, hp1, hp2⟩ := Option.map_eq_some_iff.1 h1
                have hp3 := hok.1.all p (List.mem_of_getElem? hp1)
                have := g2 p hp3 hp2.symm
                cases this)
              have Bf : Below w.heap.size w w5 := Bw5.out
              clear g1 g2 hm HX5 HT5 hR5 B15 hb5
              go_wp2
              refine bodyPost_ret (v := .tuple #[.agg #[.int .i64 0, .slice none 0 0], .bool false]) (by simp [results, Tryd.results11, go_sem, *]) rfl (ShOut.no (by first | exact bl | exact ((below_step Bf (below_alloc (Below.refl _ _) _)).setCell (by simp) _).setCell (by simp) _) hno.out)
            | true =>
              have a6 := below_alloc (Below.refl w5.heap.size w5) (.cells #[.int .i64 x, .int .i64 y] 58)
              have HX6 := HX5.to a6
              have HT6 := HT5.to a6
              have hR6 := Kd.R_below hR5 a6
              have B16 := B15.trans (a6.mono B15.size)
              have l8 : l.length ≤ 1048577 := by omega
              have Hm := Lib.hid (show (l ++ [(x, y)]).map ptW = ((ws.map bts).take (i + 1)).drop 1 by
                have hlt2 : i < (ws.map bts).length := by rw [List.length_map]; exact hlt
                rw [List.map_append, hm, List.take_succ_eq_append_getElem hlt2, List.drop_append_of_le_length (by rw [List.length_take, List.length_map]; omega)]
                congr 1
                simp only [List.map_cons, List.map_nil, List.getElem_map]
                rw [← g1 rfl])
              have hll := Lib.hid (show (l ++ [((x, y) : Pt)]).length = l.length + 1 from List.length_append)
              have Hli := Lib.hid hli
              have H6 := Lib.hid (And.intro hR6 (And.intro B16 (And.intro HX6 HT6)))
              clear g1 g2 hm HX5 HT5 hR5 B15 hb5 hR6 B16 hli HX6 HT6 a6
              have HP6 : B2 (w5.alloc (.cells #[.int .i64 x, .int .i64 y] 58)) w5.heap.size 58 (.int .i64 x) (.int .i64 y) := B2.new w5
              clear y0 y1 y2 y3 y4 x0 x1 x2 x3 x4
              go_upto_region 16 with (fail)
              generalize w5.alloc (.cells #[.int .i64 x, .int .i64 y] 58) = w6 at *
              obtain ⟨y0, y1, y2, y3, y4⟩ := H6.out.2.2.1.f
              obtain ⟨p0, p1, p2, p3, p4⟩ := HP6.f
              go_wp2_with (at_builtin; refine appOne (d := kPt) (w0 := w1) (base := w1.heap.size) 28 58 (.agg #[(.int .i64 0), (.int .i64 0)]) 16 Tryd.underlying28 info_Pt rfl (by decide) (by omega) (.tmp 47) (.tmp 49) _ l (x, y) [.int .i64 x, .int .i64 y] (kPt_mkM _ _ _ (x, y)) H6.out.1 H6.out.2.1 H6.out.2.1.size (by omega) ?_; intro A7 c7 w7 ho7 hb7 hg7; rw [hll.out] at ho7 ⊢; have HX7 := H6.out.2.2.1.grown hg7 (Kd.R_ne H6.out.1 H6.out.2.2.1 (by decide)); have HT7 := H6.out.2.2.2.grown hg7 (Kd.R_ne H6.out.1 H6.out.2.2.2 (by decide)); clear y0 y1 y2 y3 y4; obtain ⟨y0, y1, y2, y3, y4⟩ := HX7.f)
              refine ⟨⟨i + 1, l ++ [(x, y)], A7, c7, by rw [hll.out, Hli.out], by omega, by go_num, ⟨by rw [hll.out]; exact HX7.set1 _⟩, ⟨HT7.far hne⟩, ⟨by rw [hll.out]; exact Kd.R_set ho7 HX7 (by decide) 1 _⟩, ⟨hb7.setCell (Nat.le_refl _) _⟩, ⟨Hm.out⟩⟩, by simp [intOf]; omega⟩
          · have d1 : decide ((i : Int) < (ws.length : Int)) = false := decide_eq_false (by omega)
            rw [List.take_of_length_le (by rw [List.length_map]; omega)] at hm
            have hO := sShapeOk_c K A c l _ (Kd.R_reads' hR).2.2 (by omega)
            have HX0 := Lib.hid hm
            have Hli := Lib.hid hli
            clear hm hli
            go_wp2_with fail
            refine (hO).mono ?_
            rintro e w5 ⟨rfl, hb5⟩
            have HX5 := HX.to hb5
            have HT5 := HT_.to hb5
            have hR5 := Kd.R_below hR hb5
            have Bw5 := Lib.hid (Bw.out.trans (hb5.mono Bw.out.size))
            clear y0 y1 y2 y3 y4 x0 x1 x2 x3 x4 HX HT_ hR hbr hbz hO
            obtain ⟨y0, y1, y2, y3, y4⟩ := HX5.f
            obtain ⟨x0, x1, x2, x3, x4⟩ := HT5.f
            cases hok : shapeOk K l with
            | false =>
              have hno := Lib.hid (show ∀ K' l', ShapeOk K' l' → s ≠ shText K' l' from fun K' l' hok' e => by
                have hw2 := (shText_words' HW.out hok').1 e
                rw [hws0.out] at hw2
                simp only [List.cons.injEq] at hw2
                have e1 := HK.out.2.2 K' hok'.kind hw2.1
                have e2 : l = l' := map_inj (fun _ _ => ptW_inj) (HX0.out.trans hw2.2)
                rw [shapeOk_f] at hok
                rw [e1, e2] at hok
                exact hok hok')
              have Bf : Below w.heap.size w w5 := Bw5.out
              clear HX5 HT5 hR5 hb5 hok
              go_wp2
              refine bodyPost_ret (v := .tuple #[.agg #[.int .i64 0, .slice none 0 0], .bool false]) (by simp [results, Tryd.results11, go_sem, *]) rfl (ShOut.no (by first | exact bl | exact (Bf.setCell (by simp) _).setCell (by simp) _) hno.out)
            | true =>
              have hyes := Lib.hid (show ShapeOk K l ∧ s = shText K l from by
                have ho := shapeOk_t.1 hok
                refine ⟨ho, (shText_words' HW.out ho).2 ?_⟩
                have hk := ho.kind
                have := HK.out.2.1 (by omega)
                rw [hws0.out, HX0.out, this])
              have Bf : Below w.heap.size w w5 := Bw5.out
              have R1 := Lib.hid (Kd.R_set (Kd.R_set hR5 HT5 (by decide) 0 (.int .i64 K)) (HT5.set0 (.int .i64 K)) (by decide) 1 (.slice A l.length c))
              clear HX5 HT5 hR5 hb5 hok
              go_wp2
              refine bodyPost_ret (v := .tuple #[.agg #[.int .i64 K, .slice A l.length c], .bool true]) (by simp [results, Tryd.results11, go_sem, *]) rfl ⟨K, A, c, l, true, rfl, RI.of (Kd.R_lower R1.out (by omega)), (Bf.setCell (by simp) _).setCell (by simp) _, by have := Hli.out; omega, fun _ => hyes.out, (fun h => by cases h)⟩
  · have d0 : decide ((100 : Int) < (s.size : Int)) = true := decide_eq_true (by omega)
    have hno := Lib.hid (show ∀ K' l', ShapeOk K' l' → s ≠ shText K' l' from fun K l h e => by have := shText_76 h; rw [← e] at this; omega)
    go_enter Tryd.func11, Tryd.ntmps11
    have X := B2.new (u := .int .i64 0) (v := .slice none 0 0) (t := 30) w
    obtain ⟨x0, x1, x2, x3, x4⟩ := X.f
    go_wp2
    refine bodyPost_ret (v := .tuple #[.agg #[.int .i64 0, .slice none 0 0], .bool false]) (by simp [results, Tryd.results11, go_sem, *]) rfl (ShOut.no bl hno.out)
end Go.Proofs.YtfbhjknkofnohaaDoor
