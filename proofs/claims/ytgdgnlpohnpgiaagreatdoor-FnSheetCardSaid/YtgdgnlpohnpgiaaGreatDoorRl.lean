/- Contracts: a drawn text of a map, one in two torn; two drawn maps, one or nearly. -/
import Derived.Test.YtgdgnlpohnpgiaaGreatDoorSu
import Derived.Test.YtgdgnlpohnpgiaaGreatDoorRg
import Derived.Test.YtgdgnlpohnpgiaaGreatDoorSx
namespace Go.Proofs.YtgdgnlpohnpgiaaGreatDoor
open Go.RowKit Go.Proofs.YtgdgnlpohnpgiaaGreatDoorW.PrintWords Go.Proofs.YtgdgnlpohnpgiaaGreatDoorW.PrintLast
set_option maxRecDepth 100000
set_option linter.unusedVariables false
set_option linter.unusedSimpArgs false
attribute [local go_sem] cell_set_far cell_set_off
def s_DrawSheetRead_T6 : Bool × List (List Nat × List Nat) := (true, [([], []), ([], []), ([0, 1], [0, 1]), ([], []), ([], []), ([3, 4], [3, 4]), ([2, 5], [2, 5]), ([], []), ([], []), ([], []), ([9, 5], [9]), ([8, 10], [8, 10]), ([7, 11], [7, 11]), ([6, 12], [6, 12]), ([13, 10, 0, 1, 2, 3, 4, 5, 6, 7, 8, 9, 10, 11, 12, 13], [13])])
theorem s_DrawSheetRead_t6 : rtab .any (opsOf Tryz.f24 6) = s_DrawSheetRead_T6 := by kernel_rfl
set_option maxHeartbeats 4000000 in
theorem DrawSheetRead_d (A : Option Addr) (c : Nat) (l : List Int) (w : World) (hl : (Kd.int .u8).C w A l.length l) (hb : ∀ x ∈ l, 0 ≤ x ∧ x ≤ 255) (hc : l.length ≤ c) (hn : l.length ≤ 1048576) :
    Calls Tryz.prog 24 #[.slice A l.length c] w (CText 3000 w) := by
  go_enter Tryz.func24, Tryz.ntmps24
  go_wp2_with fail
  refine (l12Open_d A c l _ (Kd.C_below hl bl) hb hc hn).mono ?_
  rintro e w1 ⟨b, rfl, R1, hb1, hB1⟩
  go_wp2_with fail
  refine (l3Bent_d b b 0 _ _ R1 (by omega) R1.lt).mono ?_
  rintro e w2 ⟨m, D, d, rfl, hdm, hC2, hsm, hlen, R2, hx2⟩
  have B2_ := hx2.bel (bl : Below w.heap.size w w1) hb1
  go_wp2_with fail
  refine (sSheetText_c D d m _ (kFeat_sub hC2 (lss_le b w2 b)) (by omega) (fun f hf => (hsm f hf).ftx (by omega))).mono ?_
  rintro e w3 ⟨rfl, hb3⟩
  have hz := sheetT_size m
  have R3 : Rdr _ w3 b 2000 := R2.to hb3
  have B3 := B2_.trans (hb3.mono B2_.size)
  clear hC2 R2 hx2 B2_ R1 hB1 hb3
  generalize sheetT m = st at *
  by_cases h0 : st.size = 0
  · have d0 : ((st.size : Int) == 0) = true := by rw [h0]; rfl
    have hz2 : st.size ≤ 3000 := by omega
    have Hz := Lib.hid hz2
    clear h0 hz hz2
    go_wp2
    go_ret
    exact ⟨st, rfl, Hz.out, B3⟩
  · have d0 : ((st.size : Int) == 0) = false := beq_eq_false_iff_ne.mpr (by omega)
    go_wp2_with fail
    refine (pick_d b _ 2 _ _ R3 (by omega)).mono ?_
    rintro e w4 ⟨v, rfl, hv0, hv1, R4, hx4⟩
    have B4_ := hx4.bel B3 hb1
    clear hx4 R3 B3
    by_cases hv : v = 0
    · have d1 : (v == 0) = true := by rw [hv]; rfl
      have Hz := Lib.hid (show st.size ≤ 3000 by omega)
      clear h0 hz hv hv0 hv1
      go_wp2
      go_ret
      exact ⟨st, rfl, Hz.out, B4_⟩
    · have d1 : (v == 0) = false := beq_eq_false_iff_ne.mpr hv
      clear hv0 hv1
      go_wp2_with fail
      refine (pick_d b _ (st.size : Int) _ _ R4 (by omega)).mono ?_
      rintro e w5 ⟨k, rfl, hk0, hk1, R5, hx5⟩
      have B5 := hx5.bel B4_ hb1
      have hbl := R5.lt
      obtain ⟨j, rfl⟩ : ∃ j : Nat, k = j := ⟨k.toNat, by omega⟩
      have hj : j < st.size := by have := hk1 (by omega); omega
      clear hx5 R4 B4_ hk0 hk1 hv d1 d0 h0
      have hj2 : j ≤ st.size := by omega
      have ha1 : (st.extract 0 j).size ≤ 1120 := by rw [ByteArray.size_extract]; omega
      go_upto_region 6 with (fail)
      refine cgStart 15 [0, 1, 2, 3, 7, 8, 9, 4, 5, 6, 10, 11, 12, 13, 14] [] [] s_DrawSheetRead_t6 trivial (fun HT HD => ?_)
      repeat ((with_reducible refine cgGate ?_); first | refine cgP HT ?_ | refine cgL HT ?_ | refine cgG HT ?_)
      refine cgE (w1 := w5.drew.alloc (.cells #[.string ⟨#[]⟩, .string ⟨#[10]⟩, .string ⟨#[32]⟩, .string ⟨#[122, 32, 100, 111, 116, 32, 49, 44, 49, 10]⟩, .string ⟨#[120]⟩, .string ⟨#[61]⟩] 9)) (v := .slice (some ⟨w5.heap.size, 0, none⟩) 6 6) HT (fun HD2 => ?_) (hrun := by first | (go_simp; done) | (go_simp; rfl)) (hS := trivial)
      repeat ((with_reducible refine cgGate ?_); first | refine cgP HT ?_ | refine cgL HT ?_ | refine cgG HT ?_)
      refine cgCall HT Tryz.func45 (of_d b w5.heap.size _ _ [⟨#[]⟩, ⟨#[10]⟩, ⟨#[32]⟩, ⟨#[122, 32, 100, 111, 116, 32, 49, 44, 49, 10]⟩, ⟨#[120]⟩, ⟨#[61]⟩] _ _ (R5.to bl) (by omega) (by omega) (litStrs w5.drew _ _ (by decide)) (by decide) (by decide)) ?_
      rintro e w6 ⟨x, hx, rfl, R6, hx6⟩
      have hx10 := (show ∀ v ∈ ([⟨#[]⟩, ⟨#[10]⟩, ⟨#[32]⟩, ⟨#[122, 32, 100, 111, 116, 32, 49, 44, 49, 10]⟩, ⟨#[120]⟩, ⟨#[61]⟩] : List ByteArray), v.size ≤ 10 by decide) x hx
      have B6 := hx6.bel (bl : Below w.heap.size w (w5.drew.alloc (.cells #[.string ⟨#[]⟩, .string ⟨#[10]⟩, .string ⟨#[32]⟩, .string ⟨#[122, 32, 100, 111, 116, 32, 49, 44, 49, 10]⟩, .string ⟨#[120]⟩, .string ⟨#[61]⟩] 9))) hb1
      refine ⟨_, rfl, trivial, cgN ?_⟩
      clear hx hx6
      repeat ((with_reducible refine cgGate ?_); first | refine cgAdd HT ?_ | refine cgP HT ?_ | refine cgL HT ?_ | refine cgG HT ?_)
      refine cgCall HT Tryz.func44 (pick_d b _ 2 _ _ R6 (by omega)) ?_
      rintro e w7 ⟨v2, rfl, hv0, hv1, R7, hx7⟩
      have B7 := hx7.bel B6 hb1
      refine ⟨_, rfl, trivial, cgN ?_⟩
      have hv2 := hv1 (by decide)
      have hw : IntKind.i64.wrap ((j : Int) + v2) = (j : Int) + v2 := IntWalk.i64_in _ (by omega)
      obtain ⟨n2, rfl⟩ : ∃ n2 : Nat, v2 = n2 := ⟨v2.toNat, by omega⟩
      have hj3 : j + n2 ≤ st.size := by omega
      have hj4 : (j : Int) + (n2 : Int) ≤ (st.size : Int) := by omega
      have hj5 : 0 ≤ (j : Int) + (n2 : Int) := by omega
      have hj6 : ((j : Int) + (n2 : Int)).toNat = j + n2 := by omega
      have ha2 : (st.extract (j + n2) st.size).size ≤ 1120 := by rw [ByteArray.size_extract]; omega
      clear hx7 hv1
      repeat ((with_reducible refine cgGate ?_); first | refine cgAdd HT ?_ | refine cgP HT ?_ | refine cgL HT ?_ | refine cgG HT ?_)
      refine cgDone HT ?_
      have Hz := Lib.hid (show (st.extract 0 j ++ x ++ st.extract (j + n2) st.size).size ≤ 3000 by simp only [ByteArray.size_append]; omega)
      clear HT HD HD2 hz ha1 ha2 hx10 hw hv2 hv0 hj
      go_wp2
      go_ret
      exact ⟨_, rfl, Hz.out, B7⟩
/-- Two maps drawn of a code. -/
def CSheet2 (w : World) (e : Ending) (w' : World) : Prop := ∃ (l : List FeatD) (D : Option Addr) (d : Nat) (m : List FeatD) (D' : Option Addr) (d' : Nat), e = .returned (.tuple #[.slice D l.length d, .slice D' m.length d']) ∧ kFeat.C w' D l.length l ∧ kFeat.C w' D' m.length m ∧ (∀ f ∈ l, FSm 4 f) ∧ (∀ f ∈ m, FSm 4 f) ∧ l.length ≤ 20 ∧ m.length ≤ 20 ∧ Below w.heap.size w w'
set_option maxHeartbeats 4000000 in
theorem DrawSheetSame_d (A : Option Addr) (c : Nat) (l : List Int) (w : World) (hl : (Kd.int .u8).C w A l.length l) (hb : ∀ x ∈ l, 0 ≤ x ∧ x ≤ 255) (hc : l.length ≤ c) (hn : l.length ≤ 1048576) :
    Calls Tryz.prog 26 #[.slice A l.length c] w (CSheet2 w) := by
  go_enter Tryz.func26, Tryz.ntmps26
  go_wp2_with fail
  refine (l12Open_d A c l _ (Kd.C_below hl bl) hb hc hn).mono ?_
  rintro e w1 ⟨b, rfl, R1, hb1, hB1⟩
  have s1 := hB1.size
  go_wp2_with fail
  refine (l3Bent_d b b 0 _ _ R1 (by omega) R1.lt).mono ?_
  rintro e w2 ⟨m, D, d, rfl, hd, hC2, hsm, hlen, R2, hx2⟩
  have B_2 := hx2.bel (bl : Below w.heap.size w w1) (by omega)
  have C2 := kFeat_sub hC2 (lss_le b w2 b)
  clear hC2 R1 R2 hx2 hB1
  go_wp2_with fail
  refine (l12Open_d A c l _ (Kd.C_below hl B_2) hb hc hn).mono ?_
  rintro e w3 ⟨b', rfl, R3, hb3, hB3⟩
  have s3 := hB3.size
  have s2 := B_2.size
  go_wp2_with fail
  refine (l3Bent_d b' b' 0 _ _ R3 (by omega) R3.lt).mono ?_
  rintro e w4 ⟨m2, D2, d2, rfl, hd2, hC4, hsm2, hlen2, R4, hx4⟩
  have B_4 := hx4.bel (B_2.trans (hB3.mono s2)) (by omega)
  have C4 := kFeat_sub hC4 (lss_le b' w4 b')
  have C24 : kFeat.C w4 D m.length m := kFeat_sub C2 (fun p v hcp => hx4.cell (pw_cell_below hB3 hcp) (Or.inl (by have := World.block_lt_of_cell? _ _ hcp; omega)))
  clear hC4 R3 R4 hx4 hB3 C2
  go_upto_region 3 with (fail)
  go_cut [26] (fun q wc => ∃ t : Bool, q = .bool t ∧ Aside0 (t = true → 0 < m2.length) ∧ wc = w4)
  case first =>
    rcases Nat.eq_zero_or_pos l.length with h0 | h0
    · have d1 : decide ((0 : Int) < (l.length : Int)) = false := decide_eq_false (by omega)
      go_wp2
      go_meet
      case rel => exact ⟨false, rfl, ⟨fun h => by cases h⟩, rfl⟩
    · have d1 : decide ((0 : Int) < (l.length : Int)) = true := decide_eq_true (by omega)
      obtain ⟨ad, x, rfl, hx, hxm⟩ := at_u8 hl 0 h0
      replace hx := pw_cell_below B_4 hx
      rw [add_zero'] at hx
      rcases Nat.eq_zero_or_pos m2.length with h2 | h2
      · have d2_ : decide ((0 : Int) < (m2.length : Int)) = false := decide_eq_false (by omega)
        have d3_ : ¬ 0 < m2.length := by omega
        clear h2
        go_wp2
        all_goals (go_meet; case rel => first | exact ⟨false, rfl, ⟨fun h => by cases h⟩, rfl⟩ | exact ⟨_, rfl, ⟨fun h => by simp_all⟩, rfl⟩)
      · have d2_ : decide ((0 : Int) < (m2.length : Int)) = true := decide_eq_true (by omega)
        go_wp2
        all_goals (go_meet; case rel => first | exact ⟨true, rfl, ⟨fun _ => h2⟩, rfl⟩ | exact ⟨false, rfl, ⟨fun h => by cases h⟩, rfl⟩ | exact ⟨_, rfl, ⟨fun _ => h2⟩, rfl⟩)
  case rest =>
    obtain ⟨t, rfl, ⟨ht⟩, rfl⟩ := hcut
    cases t
    · go_wp2
      refine bodyPost_ret (v := .tuple #[.slice D m.length d, .slice D2 m2.length d2]) (by simp [results, Tryz.results26, go_sem, *]) rfl ⟨m, D, d, m2, D2, d2, rfl, C24, C4, hsm, hsm2, hlen, hlen2, B_4⟩
    · have h2 := ht rfl
      have hD := Kd.C_drop C4 (show 1 ≤ m2.length by omega) hd2
      rw [List.length_drop] at hD
      have hcf := cut_from (P := Tryz.prog) 39 28 .i64 Tryz.underlying39 rfl kFeat.sz rfl D2 m2.length d2 (1 : Int) (by omega) (by omega)
      have e1 : ((1 : Int)).toNat = 1 := rfl
      rw [e1] at hcf
      generalize (if d2 = 1 then D2 else D2.map (·.add (1 * kFeat.sz))) = A9 at hcf hD
      have hl9 : (m2.drop 1).length = m2.length - 1 := List.length_drop
      rw [← hl9] at hD hcf
      have HD := Lib.hid hD
      have hsm9 : ∀ f ∈ m2.drop 1, FSm 4 f := fun f hf => hsm2 f (List.mem_of_mem_drop hf)
      have hlen9 : (m2.drop 1).length ≤ 20 := by omega
      clear hD hl9 ht
      go_wp2
      refine bodyPost_ret (v := .tuple #[.slice D m.length d, .slice A9 (m2.drop 1).length (d2 - 1)]) (by simp [results, Tryz.results26, go_sem, *]) rfl ⟨m, D, d, m2.drop 1, A9, d2 - 1, rfl, C24, HD.out, hsm, hsm9, hlen, hlen9, B_4⟩
end Go.Proofs.YtgdgnlpohnpgiaaGreatDoor
