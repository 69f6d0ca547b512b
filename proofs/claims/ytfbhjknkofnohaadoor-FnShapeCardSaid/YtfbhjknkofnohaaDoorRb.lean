/- Contracts: the reference's cut of a text, a point read. -/
import Derived.Test.YtfbhjknkofnohaaDoorRa
import Derived.Test.YtfbhjknkofnohaaDoorFm
import Derived.Test.YtfbhjknkofnohaaDoorSd
namespace Go.Proofs.YtfbhjknkofnohaaDoor
open Go.RowKit Go.Proofs.YtfbhjknkofnohaaDoorW.PrintWords Go.Proofs.YtfbhjknkofnohaaDoorW.PrintLast
set_option maxRecDepth 100000
set_option linter.unusedVariables false
set_option linter.unusedSimpArgs false
theorem split_snoc_hit {c : UInt8} : ∀ l : List UInt8, splitL c (l ++ [c]) = splitL c l ++ [[]]
  | [] => by simp [splitL]
  | x :: l => by
    have ih := split_snoc_hit (c := c) l
    show splitL c (x :: (l ++ [c])) = _
    by_cases h : x = c
    · subst h
      rw [splitL_hit, splitL_hit, ih]
      rfl
    · cases e : splitL c l with
      | nil => exact absurd e (splitL_ne c l)
      | cons w r =>
        rw [e] at ih
        rw [splitL_step h e, splitL_step h (show splitL c (l ++ [c]) = w :: (r ++ [[]]) from ih)]
        rfl
theorem split_snoc {c x : UInt8} (hx : x ≠ c) : ∀ {l : List UInt8} {ws : List (List UInt8)} {w : List UInt8}, splitL c l = ws ++ [w] → splitL c (l ++ [x]) = ws ++ [w ++ [x]]
  | [], ws, w, h => by
    have h2 : ws = [] ∧ w = [] := by
      cases ws with
      | nil => simp [splitL] at h; exact ⟨rfl, h⟩
      | cons a b => simp [splitL] at h
    obtain ⟨rfl, rfl⟩ := h2
    show splitL c [x] = _
    rw [splitL, if_neg hx]
    rfl
  | y :: l, ws, w, h => by
    show splitL c (y :: (l ++ [x])) = _
    by_cases hy : y = c
    · subst hy
      rw [splitL_hit] at h ⊢
      cases ws with
      | nil =>
        simp only [List.nil_append, List.cons.injEq] at h
        exact absurd h.2 (splitL_ne _ l)
      | cons a b =>
        simp only [List.cons_append, List.cons.injEq] at h
        rw [split_snoc hx h.2, h.1]
        rfl
    · cases e : splitL c l with
      | nil => exact absurd e (splitL_ne c l)
      | cons v r =>
        rw [splitL_step hy e] at h
        cases ws with
        | nil =>
          simp only [List.nil_append, List.cons.injEq] at h
          obtain ⟨h1, rfl⟩ := h
          have ih := split_snoc hx (show splitL c l = [] ++ [v] from e)
          rw [splitL_step hy ih, ← h1]
          rfl
        | cons a b =>
          simp only [List.cons_append, List.cons.injEq] at h
          obtain ⟨h1, h2⟩ := h
          have ih := split_snoc hx (show splitL c l = (v :: b) ++ [w] by rw [e, h2]; rfl)
          rw [splitL_step hy ih, ← h1]
          rfl
theorem bts_ext (s : ByteArray) (f k : Nat) : bts (s.extract f k) = ((bts s).take k).drop f := by
  simp only [bts, ByteArray.data_extract, Array.toList_extract, List.extract_eq_take_drop]
  rw [List.drop_take]
theorem info_str : (Tryd.prog.info? 9).map (fun i => (i.zero, i.size, i.bytes)) = some (some (.string ByteArray.empty), 1, 16) := by kernel_rfl
/-- A text cut into words. -/
def CutOut (s : ByteArray) (c : UInt8) (w : World) (e : Ending) (w' : World) : Prop := ∃ (A : Option Addr) (d : Nat) (ws : List ByteArray), e = .returned (.slice A ws.length d) ∧ ws.map bts = splitL c (bts s) ∧ Kd.string.C w' A ws.length ws ∧ ws.length ≤ d ∧ Below w.heap.size w w'
set_option maxHeartbeats 4000000 in
theorem l12Cut_c (s : ByteArray) (c : UInt8) (w : World) (hs : s.size ≤ 1048576) :
    Calls Tryd.prog 25 #[.string s, .int .u8 c.toNat] w (CutOut s c w) := by
  go_enter Tryd.func25, Tryd.ntmps25
  go_wp2
  go_loopw [5, 6, 7] (fun q5 q6 q7 wr => ∃ (k f : Nat) (ws : List ByteArray) (A : Option Addr) (d : Nat), k ≤ s.size + 1 ∧ f ≤ k ∧ ws.length ≤ k ∧ q7 = .int .i64 k ∧ q6 = .int .i64 f ∧ q5 = .slice A ws.length d ∧ Aside0 (Kd.string.R 9 wr w.heap.size (fun _ => True) (.slice A ws.length d) ws) ∧ Aside0 (Below w.heap.size w wr) ∧ Aside0 (k ≤ s.size → ws.map bts ++ [((bts s).take k).drop f] = splitL c ((bts s).take k)) ∧ Aside0 (s.size < k → ws.map bts = splitL c (bts s))) (fun _ _ q7 _ => s.size + 1 - (intOf q7).toNat)
  case atStart => exact ⟨0, 0, [], _, _, by omega, by omega, by simp, rfl, rfl, rfl, ⟨litK Kd.string _ w w.heap.size (Nat.le_refl _)⟩, ⟨bl⟩, ⟨fun _ => by simp [splitL]⟩, ⟨fun h => by omega⟩⟩
  case round =>
    obtain ⟨k, f, ws, A, d, hk, hfk, hwl, rfl, rfl, rfl, ⟨ho⟩, ⟨hb⟩, ⟨h1⟩, ⟨h2⟩⟩ := hrel
    by_cases hlt : k ≤ s.size
    · have d1 : decide ((k : Int) ≤ (s.size : Int)) = true := decide_eq_true (by omega)
      have hw : IntKind.i64.wrap ((k : Int) + 1) = (k : Int) + 1 := IntWalk.i64_in _ (by omega)
      have hI := h1 hlt
      have hex := bts_ext s f k
      by_cases he : k = s.size
      · have d2 : ((k : Int) == (s.size : Int)) = true := by rw [he]; simp
        have hfin := Lib.hid (show (ws ++ [s.extract f k]).map bts = splitL c (bts s) by
          rw [List.map_append, List.map_singleton, hex, hI, List.take_of_length_le (by rw [bts_len]; omega)])
        have He := Lib.hid he
        clear h1 h2 hI hex he
        go_wp2_with (at_builtin; refine appOne (d := Kd.string) (w0 := w) (base := w.heap.size) 43 9 (.string ByteArray.empty) 16 Tryd.underlying43 info_str rfl (by decide) (by omega) (.tmp 26) (.tmp 31) _ ws (s.extract f k) [.string (s.extract f k)] rfl ho hb hb.size (by omega) ?_; intro A5 d5 w5 ho5 hb5 hg5)
        exact ⟨⟨k + 1, k + 1, ws ++ [s.extract f k], A5, d5, by omega, by omega, by simp; omega, by go_num, by go_num, by simp, ⟨ho5⟩, ⟨hb5⟩, ⟨fun h => by have := He.out; omega⟩, ⟨fun _ => hfin.out⟩⟩, by simp [intOf]; omega⟩
      · have hks : k < s.size := by omega
        have d2 : ((k : Int) == (s.size : Int)) = false := beq_eq_false_iff_ne.mpr (by omega)
        have hkb : k < (bts s).length := by rw [bts_len]; exact hks
        have htk : (bts s).take (k + 1) = (bts s).take k ++ [s[k]] := by rw [List.take_succ_eq_append_getElem hkb]; rfl
        have hlk : ((bts s).take k).length = k := by rw [List.length_take, bts_len]; omega
        by_cases hc : s[k] = c
        · have d3 : ((s[k].toNat : Int) == (c.toNat : Int)) = true := by rw [hc]; simp
          have hfin := Lib.hid (show (ws ++ [s.extract f k]).map bts ++ [((bts s).take (k + 1)).drop (k + 1)] = splitL c ((bts s).take (k + 1)) by
            rw [List.map_append, List.map_singleton, hex, hI, htk, hc, split_snoc_hit, List.drop_of_length_le (by rw [List.length_append, hlk]; simp)])
          clear h1 h2 hI hex htk hlk
          go_wp2_with (at_builtin; refine appOne (d := Kd.string) (w0 := w) (base := w.heap.size) 43 9 (.string ByteArray.empty) 16 Tryd.underlying43 info_str rfl (by decide) (by omega) (.tmp 26) (.tmp 31) _ ws (s.extract f k) [.string (s.extract f k)] rfl ho hb hb.size (by omega) ?_; intro A5 d5 w5 ho5 hb5 hg5)
          exact ⟨⟨k + 1, k + 1, ws ++ [s.extract f k], A5, d5, by omega, by omega, by simp; omega, by go_num, by go_num, by simp, ⟨ho5⟩, ⟨hb5⟩, ⟨fun _ => hfin.out⟩, ⟨fun h => by omega⟩⟩, by simp [intOf]; omega⟩
        · have d3 : ((s[k].toNat : Int) == (c.toNat : Int)) = false := by
            rw [beq_eq_false_iff_ne]
            intro e
            exact hc (UInt8.toNat_inj.1 (by omega))
          have hfin := Lib.hid (show ws.map bts ++ [((bts s).take (k + 1)).drop f] = splitL c ((bts s).take (k + 1)) by
            rw [htk, split_snoc hc hI.symm, List.drop_append_of_le_length (by omega)])
          clear h1 h2 hI hex htk hlk
          go_wp2
          exact ⟨⟨k + 1, f, ws, A, d, by omega, by omega, by omega, by go_num, rfl, rfl, ⟨ho⟩, ⟨hb⟩, ⟨fun _ => hfin.out⟩, ⟨fun h => by omega⟩⟩, by simp [intOf]; omega⟩
    · have d1 : decide ((k : Int) ≤ (s.size : Int)) = false := decide_eq_false (by omega)
      have hfin := Lib.hid (h2 (by omega))
      obtain ⟨q1, q2, q3⟩ := Kd.R_reads' ho
      have HO := Lib.hid q3
      clear h1 h2 q3
      go_wp2
      go_ret
      exact ⟨A, d, ws, rfl, hfin.out, HO.out, q2, hb⟩
/-- A point read: just if it is one's word. -/
def PtOut (s : ByteArray) (w : World) (e : Ending) (w' : World) : Prop := ∃ (x y : Int) (b : Bool), e = .returned (.tuple #[.agg #[.int .i64 x, .int .i64 y], .bool b]) ∧ (b = true → bts s = ptW (x, y)) ∧ (∀ p : Pt, ptOk p = true → bts s = ptW p → b = true) ∧ Below w.heap.size w w'
theorem ptOk_in {p : Pt} (h : ptOk p = true) : (-1000 ≤ p.1 ∧ p.1 ≤ 1000) ∧ (-1000 ≤ p.2 ∧ p.2 ≤ 1000) := by
  unfold ptOk inB at h
  simpa only [Bool.and_eq_true, decide_eq_true_eq] using h
theorem ptW_cut {p : Pt} {l : List UInt8} (h : l = ptW p) {w r : List UInt8} (e : l = w ++ 44 :: r) (hw : (44 : UInt8) ∉ w) : w = Lib.itoa p.1 ∧ r = Lib.itoa p.2 := by
  have h1 : (44 : UInt8) ∉ Lib.itoa p.1 := fun hc => (num_32 hc).2.1 rfl
  have e1 := cut_word r hw
  rw [← e, h] at e1
  unfold ptW at e1
  rw [cut_word _ h1] at e1
  simp only [Prod.mk.injEq, and_true] at e1
  exact ⟨e1.1.symm, e1.2.symm⟩
set_option maxHeartbeats 4000000 in
theorem l1Read_c (s : ByteArray) (w : World) (hs : s.size ≤ 1048576) :
    Calls Tryd.prog 39 #[.string s] w (PtOut s w) := by
  go_enter Tryd.func39, Tryd.ntmps39
  have HX : B2 (w.alloc (.cells #[.int .i64 0, .int .i64 0] 58)) w.heap.size 58 (.int .i64 0) (.int .i64 0) := B2.new w
  obtain ⟨x0, x1, x2, x3, x4⟩ := HX.f
  go_wp2_with fail
  refine (l12Find_c s 44 _ (by omega)).mono ?_
  rintro e w1 ⟨rfl, rfl⟩
  by_cases hm : (44 : UInt8) ∈ bts s
  · obtain ⟨a, r, e, ha⟩ := word_at hm
    have hi : Lib.index (bts s) [44] = (a.length : Nat) := by rw [e, index_word r ha]
    rw [hi]
    have hlen : a.length + 1 + r.length = s.size := by
      rw [← bts_len, e]
      simp
      omega
    have d1 : decide ((a.length : Int) < 0) = false := decide_eq_false (by omega)
    have hw : IntKind.i64.wrap ((a.length : Int) + 1) = (a.length : Int) + 1 := IntWalk.i64_in _ (by omega)
    have b1 := Lib.hid (show bts (s.extract 0 a.length) = a by rw [bts_ext, List.drop_zero, e]; simp)
    have b2 := Lib.hid (show bts (s.extract (a.length + 1) s.size) = r by
      rw [bts_ext, List.take_of_length_le (by rw [bts_len]; exact Nat.le_refl _), e]
      simp)
    have z1 : (s.extract 0 a.length).size ≤ 140737488351232 := by rw [ByteArray.size_extract]; omega
    have z2 : (s.extract (a.length + 1) s.size).size ≤ 140737488351232 := by rw [ByteArray.size_extract]; omega
    have He := Lib.hid e
    have Ha := Lib.hid ha
    clear hm hi e ha
    go_wp2_with fail
    refine (l12Num_c (s.extract 0 a.length) _ z1).mono ?_
    rintro e w2 ⟨x, bx, rfl, hx, rfl⟩
    go_wp2_with fail
    refine (l12Num_c (s.extract (a.length + 1) s.size) _ z2).mono ?_
    rintro e w3 ⟨y, bY, rfl, hy, rfl⟩
    have HR := Lib.hid (And.intro hx hy)
    clear hx hy
    have hto := Lib.hid (show ∀ p : Pt, ptOk p = true → bts s = ptW p → bx = true ∧ bY = true from fun p hp h => by
      obtain ⟨c1, c2⟩ := ptW_cut h He.out Ha.out
      have hb := ptOk_in hp
      exact ⟨HR.out.1.2 p.1 (by omega) (by omega) (by rw [b1.out, c1]), HR.out.2.2 p.2 (by omega) (by omega) (by rw [b2.out, c2])⟩)
    have hof := Lib.hid (show bx = true → bY = true → bts s = ptW (x, y) from fun h1 h2 => by
      have c1 := HR.out.1.1 h1
      have c2 := HR.out.2.1 h2
      rw [b1.out] at c1
      rw [b2.out] at c2
      rw [He.out, c1, c2]
      rfl)
    cases bx with
    | false =>
      go_wp2
      refine bodyPost_ret (v := .tuple #[.agg #[.int .i64 x, .int .i64 y], .bool false]) (by simp [results, Tryd.results39, go_sem, *]) rfl ⟨x, y, false, rfl, (fun h => by cases h), fun p hp h => (hto.out p hp h).1, (bl : Below w.heap.size w (w.alloc _)) |> fun b => by first | exact b | exact (b.setCell (by simp) _).setCell (by simp) _ | exact bl⟩
    | true =>
      go_wp2
      refine bodyPost_ret (v := .tuple #[.agg #[.int .i64 x, .int .i64 y], .bool bY]) (by simp [results, Tryd.results39, go_sem, *]) rfl ⟨x, y, bY, rfl, fun h => hof.out (by trivial) h, fun p hp h => (hto.out p hp h).2, by first | exact bl | exact ((bl : Below w.heap.size w (w.alloc _)).setCell (by simp) _).setCell (by simp) _⟩
  · have hi : Lib.index (bts s) [44] = -1 := index_no hm
    rw [hi]
    have hno := Lib.hid (show ∀ p : Pt, ptOk p = true → bts s = ptW p → false = true from fun p _ h => by
      exfalso
      rw [h] at hm
      exact hm (by unfold ptW; simp))
    clear hm hi
    go_wp2
    refine bodyPost_ret (v := .tuple #[.agg #[.int .i64 0, .int .i64 0], .bool false]) (by simp [results, Tryd.results39, go_sem, *]) rfl ⟨0, 0, false, rfl, (fun h => by cases h), hno.out, bl⟩
end Go.Proofs.YtfbhjknkofnohaaDoor
