/- Contracts: areas. -/
import Derived.Test.YtfapledohlckoaaC
namespace Go.Proofs.Ytfapledohlckoaa
open Go.RowKit Go.Proofs.YtfapledohlckoaaW.PrintWords Go.Proofs.YtfapledohlckoaaW.PrintLast
set_option linter.unusedVariables false
set_option linter.unusedSimpArgs false
theorem tmod_nxt (l : List Pt) (k : Nat) (h : 0 < l.length) : Int.tmod ((k : Int) + 1) (l.length : Int) = ((nxt l k : Nat) : Int) := by
  rw [Int.tmod_eq_emod_of_nonneg (by omega)]
  rfl
theorem nxt_lt {l : List Pt} {k : Nat} (h : 0 < l.length) : nxt l k < l.length := Nat.mod_lt _ h
theorem areaTo_succ {l : List Pt} {k : Nat} (hk : k < l.length) (hj : nxt l k < l.length) : areaTo l (k + 1) = areaTo l k + (l[k].1 * l[nxt l k].2 - l[nxt l k].1 * l[k].2) := by
  simp only [areaTo, cross, List.getD_eq_getElem?_getD, List.getElem?_eq_getElem hk, List.getElem?_eq_getElem hj, Option.getD_some]
theorem areaW {l : List Pt} (h : PtsOk l) (hle : l.length ≤ 6) {k : Nat} (hk : k < l.length) (hj : nxt l k < l.length) :
    IntKind.i64.wrap (l[k].1 * l[nxt l k].2) = l[k].1 * l[nxt l k].2 ∧ IntKind.i64.wrap (l[nxt l k].1 * l[k].2) = l[nxt l k].1 * l[k].2
    ∧ IntKind.i64.wrap (l[k].1 * l[nxt l k].2 - l[nxt l k].1 * l[k].2) = l[k].1 * l[nxt l k].2 - l[nxt l k].1 * l[k].2
    ∧ IntKind.i64.wrap (areaTo l k + (l[k].1 * l[nxt l k].2 - l[nxt l k].1 * l[k].2)) = areaTo l (k + 1)
    ∧ IntKind.i64.wrap (areaTo l k + l[k].1 * l[nxt l k].2) = areaTo l k + l[k].1 * l[nxt l k].2
    ∧ IntKind.i64.wrap (areaTo l k + l[k].1 * l[nxt l k].2 - l[nxt l k].1 * l[k].2) = areaTo l (k + 1) := by
  have n1 := near_of (h k hk hk).1
  have n2 := near_of (h (nxt l k) hj hj).1
  unfold Near at n1 n2
  have h1 := mul_le l[k].1 l[nxt l k].2 ⟨n1.1, n1.2.1⟩ ⟨n2.2.2.1, n2.2.2.2⟩
  have h2 := mul_le l[nxt l k].1 l[k].2 ⟨n2.1, n2.2.1⟩ ⟨n1.2.2.1, n1.2.2.2⟩
  have h3 := areaTo_le h k
  rw [areaTo_succ hk hj]
  generalize l[k].1 * l[nxt l k].2 = a at *
  generalize l[nxt l k].1 * l[k].2 = b at *
  generalize areaTo l k = s at *
  refine ⟨IntWalk.i64_in _ (by omega), IntWalk.i64_in _ (by omega), IntWalk.i64_in _ (by omega), IntWalk.i64_in _ (by omega), IntWalk.i64_in _ (by omega), ?_⟩
  rw [IntWalk.i64_in _ (by omega)]
  omega
def i_ShapeArea_T6 : Bool × List (List Nat × List Nat) := (true, [([], []), ([0], [0]), ([], []), ([2], [2]), ([], []), ([4], [4]), ([5], [5]), ([3, 6], [3, 6]), ([1, 7], [1, 7]), ([8], [8]), ([], []), ([10, 9, 0, 1, 2, 3, 4, 5, 6, 7, 8, 9, 10], [9, 10])])
theorem i_ShapeArea_t6 : rtab .any (opsOf Try.f27 6) = i_ShapeArea_T6 := by kernel_rfl
set_option maxHeartbeats 4000000 in
theorem iShapeArea_c (K : Int) (A : Option Addr) (c : Nat) (l : List Pt) (w : World) (hl : kPt.C w A l.length l) (hn : l.length ≤ 1048576) :
    Calls Try.prog 27 #[.agg #[.int .i64 K, .slice A l.length c]] w fun e w' => e = .returned (.int .i64 (area K l)) ∧ Below w.heap.size w w' := by
  cases hok : shapeOk K l with
  | false =>
    go_enter Try.func27, Try.ntmps27
    go_wp2_with fail
    refine (iShapeOk_c _ _ _ _ _ (Kd.C_below hl bl) hn).mono ?_
    rintro e w1 ⟨rfl, hb1⟩
    rw [hok]
    go_wp2
    go_ret
    exact ⟨ret_int (by symm; exact if_neg fun h => shapeOk_f.1 hok h.1), bl⟩
  | true =>
    have HS := Lib.hid (shapeOk_t.1 hok)
    by_cases hK : K = 3
    · have hK1 : (K == 3) = true := by simp [hK]
      have HK := Lib.hid hK
      clear hK
      have hle : l.length ≤ 6 := HS.out.le
      have h0 : 0 < l.length := by rcases HS.out.2 with h | h | h <;> omega
      go_enter Try.func27, Try.ntmps27
      go_wp2_with fail
      refine (iShapeOk_c _ _ _ _ _ (Kd.C_below hl bl) hn).mono ?_
      rintro e w1 ⟨rfl, hb1⟩
      rw [hok]
      have HC := (Cells.nil w).box hb1
      obtain ⟨a0, a1, _⟩ := HC.all
      go_wp2
      go_loopw [3, 17] (fun s i wr => ∃ k : Nat, k ≤ l.length ∧ i = .int .i64 k ∧ s = .int .i64 (areaTo l k) ∧ Aside0 (Below w1.heap.size w1 wr)) (fun _ i _ => l.length - (intOf i).toNat)
      case atStart => exact ⟨0, by omega, rfl, rfl, ⟨Below.refl _ _⟩⟩
      case round =>
        obtain ⟨k, hk, rfl, rfl, ⟨hb2⟩⟩ := hrel
        replace HC := HC.to hb2
        clear a0 a1
        obtain ⟨a0, a1, _⟩ := HC.all
        by_cases hlt : k < l.length
        · obtain ⟨ad, rfl, c0, c1⟩ := at_Pt hl k hlt
          have hj : nxt l k < l.length := nxt_lt h0
          obtain ⟨ad', e', d0, d1⟩ := at_Pt hl (nxt l k) hj
          cases e'
          replace c0 := pw_cell_below (bl : Below w.heap.size w wr) c0
          replace c1 := pw_cell_below (bl : Below w.heap.size w wr) c1
          replace d0 := pw_cell_below (bl : Below w.heap.size w wr) d0
          replace d1 := pw_cell_below (bl : Below w.heap.size w wr) d1
          have hw : IntKind.i64.wrap ((k : Int) + 1) = (k : Int) + 1 := IntWalk.i64_in _ (by omega)
          obtain ⟨m1, m2, m3, m4, m5, m6⟩ := areaW HS.out.1 hle hlt hj
          have hz : ¬ l = [] := by rintro rfl; simp at h0
          have hm := tmod_nxt l k h0
          go_wp2
          refine rgStart 12 [0, 1, 2, 3, 4, 5, 6, 7, 8, 9, 10, 11] i_ShapeArea_t6 (fun HT HS_ => ?_)
          repeat ((with_reducible refine rgGate ?_); first | refine rgP HT ?_ | refine rgL HT ?_ | refine rgG HT ?_)
          refine rgE HT ?_
          refine rgSt HT ?_
          refine rgDone HT ?_
          go_wp2
          exact ⟨⟨k + 1, by omega, rfl, rfl, ⟨bl⟩⟩, by simp [intOf]; omega⟩
        · have he : k = l.length := by omega
          have hlt2 : decide ((k : Int) < (l.length : Int)) = false := by simp; omega
          have hsl := Lib.hid he
          clear he
          go_wp2
          go_ret
          exact ⟨ret_int (by rw [hsl.out]; symm; exact if_pos ⟨HS.out, HK.out⟩), bl⟩
    · have hK1 : (K == 3) = false := by simp [hK]
      have HK := Lib.hid hK
      clear hK
      go_enter Try.func27, Try.ntmps27
      go_wp2_with fail
      refine (iShapeOk_c _ _ _ _ _ (Kd.C_below hl bl) hn).mono ?_
      rintro e w1 ⟨rfl, hb1⟩
      rw [hok]
      have HC := (Cells.nil w).box hb1
      obtain ⟨a0, a1, _⟩ := HC.all
      go_wp2
      go_ret
      exact ⟨ret_int (by symm; exact if_neg fun h => HK.out h.2), bl⟩
def s_ShapeArea_T6 : Bool × List (List Nat × List Nat) := (true, [([], []), ([0], [0]), ([], []), ([2], [2]), ([], []), ([4], [4]), ([5], [5]), ([3, 6], [3, 6]), ([1, 7], [1, 7]), ([8], [8]), ([], []), ([10, 9, 0, 1, 2, 3, 4, 5, 6, 7, 8, 9, 10], [9, 10])])
theorem s_ShapeArea_t6 : rtab .any (opsOf Try.f26 6) = s_ShapeArea_T6 := by kernel_rfl
set_option maxHeartbeats 4000000 in
theorem sShapeArea_c (K : Int) (A : Option Addr) (c : Nat) (l : List Pt) (w : World) (hl : kPt.C w A l.length l) (hn : l.length ≤ 1048576) :
    Calls Try.prog 26 #[.agg #[.int .i64 K, .slice A l.length c]] w fun e w' => e = .returned (.int .i64 (area K l)) ∧ Below w.heap.size w w' := by
  by_cases hg : ShapeOk K l ∧ K = 3
  · have HS := Lib.hid hg.1
    have HK := Lib.hid hg.2
    have hok : shapeOk K l = true := shapeOk_t.2 hg.1
    have hK1 : (K == 3) = true := by simp [hg.2]
    have hle : l.length ≤ 6 := HS.out.le
    have h0 : 0 < l.length := by rcases HS.out.2 with h | h | h <;> omega
    clear hg
    go_enter Try.func26, Try.ntmps26
    go_wp2_with fail
    have HC : Cells (w.alloc (.cells #[Value.int .i64 K, Value.slice A l.length c] 31)) _ := (Cells.nil w).box (Below.refl _ _)
    obtain ⟨a0, a1, _⟩ := HC.all
    go_loopw [3, 4] (fun s i wr => ∃ k : Nat, k ≤ l.length ∧ i = .int .i64 k ∧ s = .int .i64 (areaTo l k) ∧ Aside0 (Below (w.alloc (.cells #[Value.int .i64 K, Value.slice A l.length c] 31)).heap.size (w.alloc (.cells #[Value.int .i64 K, Value.slice A l.length c] 31)) wr)) (fun _ i _ => l.length - (intOf i).toNat)
    case atStart => exact ⟨0, by omega, rfl, rfl, ⟨Below.refl _ _⟩⟩
    case round =>
      obtain ⟨k, hk, rfl, rfl, ⟨hb2⟩⟩ := hrel
      replace HC := HC.to hb2
      clear a0 a1
      obtain ⟨a0, a1, _⟩ := HC.all
      by_cases hlt : k < l.length
      · obtain ⟨ad, rfl, c0, c1⟩ := at_Pt hl k hlt
        have hlt2 : decide ((k : Int) < (l.length : Int)) = true := by simp; omega
        have hj : nxt l k < l.length := nxt_lt h0
        obtain ⟨ad', e', d0, d1⟩ := at_Pt hl (nxt l k) hj
        cases e'
        have hw : IntKind.i64.wrap ((k : Int) + 1) = (k : Int) + 1 := IntWalk.i64_in _ (by omega)
        obtain ⟨m1, m2, m3, m4, m5, m6⟩ := areaW HS.out.1 hle hlt hj
        have hz : ¬ l = [] := by rintro rfl; simp at h0
        have hm := tmod_nxt l k h0
        go_wp2_with fail
        refine (sShapeOk_c _ _ _ _ _ (Kd.C_below hl bl) hn).mono ?_
        rintro e w3 ⟨rfl, hb3⟩
        rw [hok]
        replace HC := HC.to hb3
        clear a0 a1
        obtain ⟨a0, a1, _⟩ := HC.all
        replace c0 := pw_cell_below (bl : Below w.heap.size w w3) c0
        replace c1 := pw_cell_below (bl : Below w.heap.size w w3) c1
        replace d0 := pw_cell_below (bl : Below w.heap.size w w3) d0
        replace d1 := pw_cell_below (bl : Below w.heap.size w w3) d1
        go_wp2
        refine rgStart 12 [0, 1, 2, 3, 4, 5, 6, 7, 8, 9, 10, 11] s_ShapeArea_t6 (fun HT HS_ => ?_)
        repeat ((with_reducible refine rgGate ?_); first | refine rgP HT ?_ | refine rgL HT ?_ | refine rgG HT ?_)
        refine rgE HT ?_
        refine rgSt HT ?_
        refine rgDone HT ?_
        go_wp2
        exact ⟨⟨k + 1, by omega, rfl, rfl, ⟨bl⟩⟩, by simp [intOf]; omega⟩
      · have he : k = l.length := by omega
        have hlt2 : decide ((k : Int) < (l.length : Int)) = false := by simp; omega
        have hsl := Lib.hid he
        clear he
        go_wp2
        go_ret
        exact ⟨ret_int (by rw [hsl.out]; symm; exact if_pos ⟨HS.out, HK.out⟩), bl⟩
  · have ha := Lib.hid (show area K l = 0 from if_neg hg)
    have hg := Lib.hid hg
    go_enter Try.func26, Try.ntmps26
    go_wp2_with fail
    have HC : Cells (w.alloc (.cells #[Value.int .i64 K, Value.slice A l.length c] 31)) _ := (Cells.nil w).box (Below.refl _ _)
    obtain ⟨a0, a1, _⟩ := HC.all
    go_loopw [3, 4] (fun s i wr => i = .int .i64 0 ∧ s = .int .i64 0 ∧ Aside0 (Below (w.alloc (.cells #[Value.int .i64 K, Value.slice A l.length c] 31)).heap.size (w.alloc (.cells #[Value.int .i64 K, Value.slice A l.length c] 31)) wr)) (fun _ i _ => 0)
    case atStart => exact ⟨rfl, rfl, ⟨Below.refl _ _⟩⟩
    case round =>
      obtain ⟨rfl, rfl, ⟨hb2⟩⟩ := hrel
      replace HC := HC.to hb2
      clear a0 a1
      obtain ⟨a0, a1, _⟩ := HC.all
      by_cases hlt : 0 < l.length
      · have hlt2 : decide (0 < l.length) = true := decide_eq_true hlt
        clear hlt
        go_wp2_with fail
        refine (sShapeOk_c _ _ _ _ _ (Kd.C_below hl bl) hn).mono ?_
        rintro e w3 ⟨rfl, hb3⟩
        replace HC := HC.to hb3
        clear a0 a1
        obtain ⟨a0, a1, _⟩ := HC.all
        cases hok : shapeOk K l with
        | false =>
          go_wp2
          go_ret
          exact ⟨ret_int ha.out.symm, bl⟩
        | true =>
          have hK1 : (K == 3) = false := by
            have := hg.out
            simp only [shapeOk_t] at hok
            simp [hok] at this
            simp [this]
          go_wp2
          go_ret
          exact ⟨ret_int ha.out.symm, bl⟩
      · have hlt2 : decide (0 < l.length) = false := decide_eq_false hlt
        clear hlt
        go_wp2
        go_ret
        exact ⟨ret_int ha.out.symm, bl⟩
end Go.Proofs.Ytfapledohlckoaa
