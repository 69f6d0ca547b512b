/- Contracts: a drawn text of a shape, one in two torn. -/
import Derived.Test.YtfbhjknkofnohaaDoorRc
import Derived.Test.YtfbhjknkofnohaaDoorDu
import Derived.Test.YtfbhjknkofnohaaDoorDw
namespace Go.Proofs.YtfbhjknkofnohaaDoor
open Go.RowKit Go.Proofs.YtfbhjknkofnohaaDoorW.PrintWords Go.Proofs.YtfbhjknkofnohaaDoorW.PrintLast
set_option maxRecDepth 100000
set_option linter.unusedVariables false
set_option linter.unusedSimpArgs false
attribute [local go_sem] cell_set_far cell_set_off
theorem shapeT_76 (K : Int) (l : List Pt) : (shapeT K l).size ≤ 76 := by
  by_cases h : ShapeOk K l
  · rw [show shapeT K l = shText K l from if_pos h]
    exact shText_76 h
  · rw [show shapeT K l = ⟨#[]⟩ from if_neg h]
    decide
/-- A drawn text. -/
def CText (n : Nat) (w : World) (e : Ending) (w' : World) : Prop := ∃ s : ByteArray, e = .returned (.string s) ∧ s.size ≤ n ∧ Below w.heap.size w w'
def s_DrawShapeRead_T6 : Bool × List (List Nat × List Nat) := (true, [([], []), ([], []), ([0, 1], [0, 1]), ([], []), ([], []), ([3, 4], [3, 4]), ([2, 5], [2, 5]), ([], []), ([], []), ([], []), ([9, 5], [9]), ([8, 10], [8, 10]), ([7, 11], [7, 11]), ([6, 12], [6, 12]), ([13, 10, 0, 1, 2, 3, 4, 5, 6, 7, 8, 9, 10, 11, 12, 13], [13])])
theorem s_DrawShapeRead_t6 : rtab .any (opsOf Tryd.f22 6) = s_DrawShapeRead_T6 := by kernel_rfl
set_option maxHeartbeats 4000000 in
theorem DrawShapeRead_d (A : Option Addr) (c : Nat) (l : List Int) (w : World) (hl : (Kd.int .u8).C w A l.length l) (hb : ∀ x ∈ l, 0 ≤ x ∧ x ≤ 255) (hc : l.length ≤ c) (hn : l.length ≤ 1048576) :
    Calls Tryd.prog 22 #[.slice A l.length c] w (CText 1000 w) := by
  go_enter Tryd.func22, Tryd.ntmps22
  go_wp2_with fail
  refine (l12Open_d A c l _ (Kd.C_below hl bl) hb hc hn).mono ?_
  rintro e w1 ⟨b, rfl, R1, hb1, hB1⟩
  go_wp2_with fail
  refine (l1Bent_d b 0 _ _ R1 (by omega)).mono ?_
  rintro e w2 ⟨K, A2, c2, l2, rfl, hr2, hl2, _, hK0, hK4, R2, hx2⟩
  have B2_ := hx2.bel (bl : Below w.heap.size w w1) hb1
  go_wp2_with fail
  refine (sShapeT_c K A2 c2 l2 _ hr2.rd.2.2 (by omega)).mono ?_
  rintro e w3 ⟨rfl, hb3⟩
  have hz := shapeT_76 K l2
  have R3 := R2.to hb3
  have B3 := B2_.trans (hb3.mono B2_.size)
  clear hr2 R2 hx2 B2_ R1 hB1 hb3
  generalize shapeT K l2 = st at *
  by_cases h0 : st.size = 0
  · have d0 : ((st.size : Int) == 0) = true := by rw [h0]; rfl
    have hz2 : st.size ≤ 1000 := by omega
    have Hz := Lib.hid hz2
    clear h0 hz hz2
    go_wp2
    go_ret
    exact ⟨st, rfl, Hz.out, B3⟩
  · have d0 : ((st.size : Int) == 0) = false := beq_eq_false_iff_ne.mpr (by omega)
    go_wp2_with fail
    refine (pick_d b _ 2 _ _ R3 (by omega)).mono ?_
    rintro e w4 ⟨v, rfl, hv0, hv1, R4, hx4⟩
    have B4_ := hx4.bel B3 hb1
    clear hx4 R3 B3
    by_cases hv : v = 0
    · have d1 : (v == 0) = true := by rw [hv]; rfl
      have Hz := Lib.hid (show st.size ≤ 1000 by omega)
      clear h0 hz hv hv0 hv1
      go_wp2
      go_ret
      exact ⟨st, rfl, Hz.out, B4_⟩
    · have d1 : (v == 0) = false := beq_eq_false_iff_ne.mpr hv
      clear hv0 hv1
      go_wp2_with fail
      refine (pick_d b _ (st.size : Int) _ _ R4 (by omega)).mono ?_
      rintro e w5 ⟨k, rfl, hk0, hk1, R5, hx5⟩
      have B5 := hx5.bel B4_ hb1
      have hbl := R5.lt
      obtain ⟨j, rfl⟩ : ∃ j : Nat, k = j := ⟨k.toNat, by omega⟩
      have hj : j < st.size := by have := hk1 (by omega); omega
      clear hx5 R4 B4_ hk0 hk1 hv d1 d0 h0
      have hj2 : j ≤ st.size := by omega
      have ha1 : (st.extract 0 j).size ≤ 76 := by rw [ByteArray.size_extract]; omega
      go_upto_region 6 with (fail)
      refine cgStart 15 [0, 1, 2, 3, 7, 8, 9, 4, 5, 6, 10, 11, 12, 13, 14] [] [] s_DrawShapeRead_t6 trivial (fun HT HD => ?_)
      repeat ((with_reducible refine cgGate ?_); first | refine cgP HT ?_ | refine cgL HT ?_ | refine cgG HT ?_)
      refine cgE (w1 := w5.drew.alloc (.cells #[.string ⟨#[]⟩, .string ⟨#[48]⟩, .string ⟨#[44]⟩, .string ⟨#[32, 49, 44, 49]⟩, .string ⟨#[45]⟩, .string ⟨#[32]⟩, .string ⟨#[120]⟩] 9)) (v := .slice (some ⟨w5.heap.size, 0, none⟩) 7 7) HT (fun HD2 => ?_) (hrun := by first | (go_simp; done) | (go_simp; rfl)) (hS := trivial)
      repeat ((with_reducible refine cgGate ?_); first | refine cgP HT ?_ | refine cgL HT ?_ | refine cgG HT ?_)
      refine cgCall HT Tryd.func51 (of_d b w5.heap.size _ _ [⟨#[]⟩, ⟨#[48]⟩, ⟨#[44]⟩, ⟨#[32, 49, 44, 49]⟩, ⟨#[45]⟩, ⟨#[32]⟩, ⟨#[120]⟩] _ _ (R5.to bl) (by omega) (by omega) (litStrs w5.drew _ _ (by decide)) (by decide) (by decide)) ?_
      rintro e w6 ⟨x, hx, rfl, R6, hx6⟩
      have hx10 := (show ∀ v ∈ ([⟨#[]⟩, ⟨#[48]⟩, ⟨#[44]⟩, ⟨#[32, 49, 44, 49]⟩, ⟨#[45]⟩, ⟨#[32]⟩, ⟨#[120]⟩] : List ByteArray), v.size ≤ 10 by decide) x hx
      have B6 := hx6.bel (bl : Below w.heap.size w (w5.drew.alloc (.cells #[.string ⟨#[]⟩, .string ⟨#[48]⟩, .string ⟨#[44]⟩, .string ⟨#[32, 49, 44, 49]⟩, .string ⟨#[45]⟩, .string ⟨#[32]⟩, .string ⟨#[120]⟩] 9))) hb1
      refine ⟨_, rfl, trivial, cgN ?_⟩
      clear hx hx6
      repeat ((with_reducible refine cgGate ?_); first | refine cgAdd HT ?_ | refine cgP HT ?_ | refine cgL HT ?_ | refine cgG HT ?_)
      refine cgCall HT Tryd.func50 (pick_d b _ 2 _ _ R6 (by omega)) ?_
      rintro e w7 ⟨v2, rfl, hv0, hv1, R7, hx7⟩
      have B7 := hx7.bel B6 hb1
      refine ⟨_, rfl, trivial, cgN ?_⟩
      have hv2 := hv1 (by decide)
      have hw : IntKind.i64.wrap ((j : Int) + v2) = (j : Int) + v2 := IntWalk.i64_in _ (by omega)
      obtain ⟨n2, rfl⟩ : ∃ n2 : Nat, v2 = n2 := ⟨v2.toNat, by omega⟩
      have hj3 : j + n2 ≤ st.size := by omega
      have hj4 : (j : Int) + (n2 : Int) ≤ (st.size : Int) := by omega
      have hj5 : 0 ≤ (j : Int) + (n2 : Int) := by omega
      have hj6 : ((j : Int) + (n2 : Int)).toNat = j + n2 := by omega
      have ha2 : (st.extract (j + n2) st.size).size ≤ 76 := by rw [ByteArray.size_extract]; omega
      clear hx7 hv1
      repeat ((with_reducible refine cgGate ?_); first | refine cgAdd HT ?_ | refine cgP HT ?_ | refine cgL HT ?_ | refine cgG HT ?_)
      refine cgDone HT ?_
      have Hz := Lib.hid (show (st.extract 0 j ++ x ++ st.extract (j + n2) st.size).size ≤ 1000 by simp only [ByteArray.size_append]; omega)
      clear HT HD HD2 hz ha1 ha2 hx10 hw hv2 hv0 hj
      go_wp2
      go_ret
      exact ⟨_, rfl, Hz.out, B7⟩
end Go.Proofs.YtfbhjknkofnohaaDoor
