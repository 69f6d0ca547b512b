/- Contracts: the drawer: l12Open, pick. -/
import Derived.Test.YtfbhjknkofnohaaDoorKa
namespace Go.Proofs.YtfbhjknkofnohaaDoor
open Go.RowKit Go.Proofs.YtfbhjknkofnohaaDoorW.PrintWords Go.Proofs.YtfbhjknkofnohaaDoorW.PrintLast
set_option linter.unusedVariables false
set_option linter.unusedSimpArgs false
attribute [local go_sem] cell_set_far
theorem at_u8 {w : World} {A : Option Addr} {n : Nat} {l : List Int} (h : (Kd.int .u8).C w A n l) (q : Nat) (hq : q < l.length) : ∃ ad x, A = some ad ∧ w.cell? (ad.add q) = some (.int .u8 x) ∧ x ∈ l := by
  obtain ⟨ad, c, e, hlc, hK, hc⟩ := Kd.C_get h (0 : Int) (q : Int) (by omega) (by have := h.1; omega)
  have hg : l.getD q 0 = l[q] := by rw [List.getD_eq_getElem?_getD, List.getElem?_eq_getElem hq]; rfl
  simp only [Int.toNat_natCast] at hK hc
  rw [hg] at hK
  obtain rfl : c = [.int .u8 l[q]] := hK
  refine ⟨ad, l[q], e, ?_, List.getElem_mem hq⟩
  have := hc 0 _ rfl
  simpa [Kd.int, Kd.scalar] using this
theorem xor64 (a b : Nat) (ha : a < 4611686018427387904) (hb : b < 4611686018427387904) : bits .xor .i64 (a : Int) (b : Int) = ((a ^^^ b : Nat) : Int) := by
  have h1 : (BitVec.ofInt 64 (a : Int)).toNat = a := by
    rw [BitVec.ofInt_natCast, BitVec.toNat_ofNat]; exact Nat.mod_eq_of_lt (by omega)
  have h2 : (BitVec.ofInt 64 (b : Int)).toNat = b := by
    rw [BitVec.ofInt_natCast, BitVec.toNat_ofNat]; exact Nat.mod_eq_of_lt (by omega)
  show IntKind.i64.wrap ((BitVec.ofInt 64 (a : Int) ^^^ BitVec.ofInt 64 (b : Int)).toNat : Int) = _
  rw [BitVec.toNat_xor, h1, h2]
  have h3 : a ^^^ b < 2 ^ 62 := Nat.xor_lt_two_pow (by omega) (by omega)
  exact IntWalk.i64_in _ (by omega)
theorem xor_pos (z : Int) (h0 : 0 ≤ z) (h1 : z < 4611686018427387904) : 0 ≤ bits .xor .i64 z (z / 64) := by
  obtain ⟨a, rfl⟩ : ∃ a : Nat, z = a := ⟨z.toNat, by omega⟩
  have : ((a : Int) / 64) = ((a / 64 : Nat) : Int) := rfl
  rw [this, xor64 _ _ (by omega) (by omega)]
  omega
def s_pick_T7 : Bool × List (List Nat × List Nat) := (true, [([], []), ([0], [0]), ([1], [1]), ([2], [2]), ([], []), ([], []), ([5], [5]), ([6], [6]), ([7], [7]), ([8], [8]), ([4, 9], [4, 9]), ([3, 10], [3, 10]), ([11], [11]), ([12], [12]), ([13], [13]), ([], []), ([15], [15]), ([16], [16]), ([17], [17]), ([], []), ([19], [19]), ([20], [20]), ([], []), ([22], [22]), ([23], [23]), ([24], [24]), ([25], [25]), ([21, 26], [21, 26]), ([18, 27], [18, 27]), ([28], [28]), ([29], [29]), ([30], [30]), ([14, 31], [14, 31]), ([], []), ([33], [33]), ([32, 34], [32, 34]), ([], []), ([], []), ([37], [37]), ([38], [38]), ([39], [39]), ([40], [40]), ([36, 41], [36, 41]), ([42], [42]), ([35, 43], [35, 43]), ([44, 0, 1, 2, 3, 4, 5, 6, 7, 8, 9, 10, 11, 12, 13, 14, 15, 16, 17, 18, 19, 20, 21, 22, 23, 24, 25, 26, 27, 28, 29, 30, 31, 32, 33, 34, 35, 36, 37, 38, 39, 40, 41, 42, 43, 44], [44])])
theorem s_pick_t7 : rtab .any (opsOf Tryd.f50 7) = s_pick_T7 := by kernel_rfl
set_option maxHeartbeats 4000000 in
theorem pick_c (b : Nat) (A : Option Addr) (c : Nat) (l : List Int) (p n : Int) (w0 w : World) (hl : (Kd.int .u8).C w0 A l.length l) (hby : ∀ x ∈ l, 0 ≤ x ∧ x ≤ 255) (hn : l.length ≤ 2000) (hB : Below w0.heap.size w0 w) (hb : w0.heap.size ≤ b)
    (R : B2 w b 91 (.slice A l.length c) (.int .i64 p)) (hp0 : 0 ≤ p) (hp1 : p ≤ 1099511627776) :
    Calls Tryd.prog 50 #[.pointer (some ⟨b, 0, none⟩), .int .i64 n] w fun e w' => ∃ v, e = .returned (.int .i64 v) ∧ 0 ≤ v ∧ (1 ≤ n → v < n) ∧ B2 w' b 91 (.slice A l.length c) (.int .i64 (p + 1)) ∧ Ex b (b + 1) w w' := by
  obtain ⟨a0, a1, a2, a3, a4⟩ := R.f
  have hw1 : IntKind.i64.wrap (p + 1) = p + 1 := IntWalk.i64_in _ (by omega)
  by_cases h1 : n < 1
  · have d1 : decide (n < 1) = true := decide_eq_true h1
    go_enter Tryd.func50, Tryd.ntmps50
    go_wp2
    go_ret
    exact ⟨0, rfl, by omega, by omega, R.set1 _, (Ex.refl _ _ _).set (Nat.le_refl _) (Nat.lt_succ_self _)⟩
  · have d1 : decide (n < 1) = false := decide_eq_false h1
    have R1 := R.set1 (.int .i64 (p + 1))
    have hx := (Ex.refl b (b + 1) w).set (i := 1) (v := .int .i64 (p + 1)) (Nat.le_refl _) (Nat.lt_succ_self _)
    by_cases h2 : l.length = 0
    · obtain rfl : l = [] := List.eq_nil_of_length_eq_zero h2
      go_enter Tryd.func50, Tryd.ntmps50
      go_wp2
      go_ret
      exact ⟨0, rfl, by omega, by omega, R1, hx⟩
    · have d2 : ((l.length : Int) == 0) = false := by rw [beq_eq_false_iff_ne]; omega
      have d2' : ¬ l = [] := by rintro rfl; exact h2 rfl
      have hw2 : IntKind.i64.wrap (p + 1 - 1) = p := by rw [IntWalk.i64_in _ (by omega)]; omega
      by_cases h3 : p < (l.length : Int)
      · have d3 : decide (p < (l.length : Int)) = true := decide_eq_true h3
        obtain ⟨q, rfl⟩ : ∃ q : Nat, p = q := ⟨p.toNat, by omega⟩
        obtain ⟨ad, x, rfl, c0, hxm⟩ := at_u8 hl q (by omega)
        have hxb := hby x hxm
        have e0 := pw_cell_below (hB.setCell (p := ⟨b, 1, none⟩) hb (.int .i64 ((q : Int) + 1))) c0
        have hcv : IntKind.i64.wrap x = x := IntWalk.i64_in _ (by omega)
        have d5 : ¬ n = 0 := by omega
        go_enter Tryd.func50, Tryd.ntmps50
        go_wp2
        go_ret
        exact ⟨x % n, rfl, Int.emod_nonneg _ (by omega), Int.emod_lt_of_pos _ (by omega), R1, hx⟩
      · have d3 : decide (p < (l.length : Int)) = false := decide_eq_false h3
        obtain ⟨q, rfl⟩ : ∃ q : Nat, p = q := ⟨p.toNat, by omega⟩
        have h0 : 0 < l.length := by omega
        have hm1 : Int.tmod (q : Int) (l.length : Int) = ((q % l.length : Nat) : Int) := by rw [Int.tmod_eq_emod_of_nonneg (by omega)]; rfl
        have hm2 : Int.tmod ((q : Int) * 7 + 3) (l.length : Int) = (((q * 7 + 3) % l.length : Nat) : Int) := by rw [Int.tmod_eq_emod_of_nonneg (by omega)]; rfl
        have hj1 : q % l.length < l.length := Nat.mod_lt _ h0
        have hj2 : (q * 7 + 3) % l.length < l.length := Nat.mod_lt _ h0
        have hq : Int.tdiv (q : Int) (l.length : Int) = ((q / l.length : Nat) : Int) := by rw [Int.tdiv_eq_ediv_of_nonneg (by omega)]; rfl
        have hdq : q / l.length ≤ q := Nat.div_le_self _ _
        generalize q / l.length = d at *
        generalize q % l.length = i1 at *
        generalize (q * 7 + 3) % l.length = i2 at *
        obtain ⟨ad, x, rfl, c0, hxm⟩ := at_u8 hl i1 hj1
        obtain ⟨ad', y, e', c1, hym⟩ := at_u8 hl i2 hj2
        cases e'
        have hxb := hby x hxm
        have hyb := hby y hym
        have e0 := pw_cell_below (hB.setCell (p := ⟨b, 1, none⟩) hb (.int .i64 ((q : Int) + 1))) c0
        have e1 := pw_cell_below (hB.setCell (p := ⟨b, 1, none⟩) hb (.int .i64 ((q : Int) + 1))) c1
        have hx0 := R1.f.1
        have d5 : ¬ n = 0 := by omega
        have v1 : IntKind.i64.wrap ((q : Int) * 7) = (q : Int) * 7 := IntWalk.i64_in _ (by omega)
        have v2 : IntKind.i64.wrap ((q : Int) * 7 + 3) = (q : Int) * 7 + 3 := IntWalk.i64_in _ (by omega)
        have v3 : IntKind.i64.wrap x = x := IntWalk.i64_in _ (by omega)
        have v4 : IntKind.i64.wrap y = y := IntWalk.i64_in _ (by omega)
        have v5 : IntKind.i64.wrap (x * 131) = x * 131 := IntWalk.i64_in _ (by omega)
        have v6 : IntKind.i64.wrap (y * 1117) = y * 1117 := IntWalk.i64_in _ (by omega)
        have v7 : IntKind.i64.wrap (x * 131 + y * 1117) = x * 131 + y * 1117 := IntWalk.i64_in _ (by omega)
        have v8 : IntKind.i64.wrap ((q : Int) * 29) = (q : Int) * 29 := IntWalk.i64_in _ (by omega)
        have v9 : IntKind.i64.wrap (x * 131 + y * 1117 + (q : Int) * 29) = x * 131 + y * 1117 + (q : Int) * 29 := IntWalk.i64_in _ (by omega)
        have v10 : IntKind.i64.wrap (d : Int) = (d : Int) := IntWalk.i64_in _ (by omega)
        have v11 : IntKind.i64.wrap ((d : Int) * 53) = (d : Int) * 53 := IntWalk.i64_in _ (by omega)
        have v12 : IntKind.i64.wrap (x * 131 + y * 1117 + (q : Int) * 29 + (d : Int) * 53) = x * 131 + y * 1117 + (q : Int) * 29 + (d : Int) * 53 := IntWalk.i64_in _ (by omega)
        go_enter Tryd.func50, Tryd.ntmps50
        go_wp2
        refine cgStart 46 [0, 1, 2, 3, 4, 5, 6, 7, 8, 9, 10, 11, 12, 13, 14, 15, 16, 17, 18, 19, 20, 21, 22, 23, 24, 25, 26, 27, 28, 29, 30, 31, 32, 33, 34, 35, 36, 37, 38, 39, 40, 41, 42, 43, 44, 45] [] [(⟨b, 0, none⟩, _), (ad.add i1, _), (ad.add i2, _)] s_pick_t7 ⟨hx0, e0, e1, trivial⟩ (fun HT HD => ?_)
        repeat ((with_reducible refine cgGate ?_); first | refine cgP HT ?_ | refine cgL HT ?_)
        refine cgDone HT ?_
        clear HT HD
        go_wp2
        go_ret
        have hz := xor_pos (x * 131 + y * 1117 + (q : Int) * 29 + (d : Int) * 53) (by omega) (by omega)
        generalize bits .xor .i64 (x * 131 + y * 1117 + (q : Int) * 29 + (d : Int) * 53) ((x * 131 + y * 1117 + (q : Int) * 29 + (d : Int) * 53) / 64) = z at hz ⊢
        have hm : Int.tmod z n = z % n := Int.tmod_eq_emod_of_nonneg hz
        rw [hm]
        exact ⟨z % n, rfl, Int.emod_nonneg _ (by omega), fun _ => Int.emod_lt_of_pos _ (by omega), R1, hx.drewN 1⟩
end Go.Proofs.YtfbhjknkofnohaaDoor
