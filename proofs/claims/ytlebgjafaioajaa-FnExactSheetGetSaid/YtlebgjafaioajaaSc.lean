/- Contracts: whether a map is ok. -/
import Derived.Test.YtlebgjafaioajaaSb
import Derived.Test.YtlebgjafaioajaaFe
namespace Go.Proofs.Ytlebgjafaioajaa
open Go.RowKit Go.Proofs.YtlebgjafaioajaaW.PrintWords Go.Proofs.YtlebgjafaioajaaW.PrintLast
set_option linter.unusedVariables false
set_option linter.unusedSimpArgs false
def s_SheetOk_T4 : Bool × List (List Nat × List Nat) := (true, [([], []), ([], []), ([0, 1], [0, 1]), ([2], [2]), ([3], [3]), ([4], [4]), ([5, 4], [5]), ([6], [6]), ([7, 6], [6, 7]), ([8, 6, 6], [6, 8]), ([9], [9]), ([9], [9]), ([10, 11, 9], [9, 10, 11]), ([12, 9], [9, 12]), ([13, 9], [9, 13]), ([9], [9]), ([9], [9]), ([16, 9], [9, 16]), ([15, 17, 9], [9, 15, 17]), ([18, 9], [9, 18]), ([19, 9], [9, 19]), ([14, 20, 9], [9, 14, 20]), ([9, 21, 6], [6, 9, 21]), ([6, 22], [6, 22])])
theorem s_SheetOk_t4 : rtab .any (opsOf Try.f33 4) = s_SheetOk_T4 := by kernel_rfl
set_option maxHeartbeats 4000000 in
theorem sSheetOk_c (A : Option Addr) (c : Nat) (l : List FeatD) (w : World) (hl : kFeat.C w A l.length l) (hn : l.length ≤ 1048576) (hz : ∀ f ∈ l, FTx f) :
    Calls Try.prog 33 #[.slice A l.length c] w fun e w' => e = .returned (.bool (sheetOk l)) ∧ Below w.heap.size w w' := by
  go_enter Try.func33, Try.ntmps33
  go_wp2
  go_loopw [3] (fun i wr => ∃ k : Nat, k ≤ l.length ∧ i = .int .i64 k ∧ Aside0 (∀ i, i < k → stepF l i) ∧ Aside0 (Below w.heap.size w wr)) (fun i _ => l.length - (intOf i).toNat)
  case atStart => exact ⟨0, by omega, rfl, ⟨fun i hi => absurd hi (by omega)⟩, ⟨Below.refl _ _⟩⟩
  case round =>
    obtain ⟨k, hk, rfl, he, ⟨hb1⟩⟩ := hrel
    by_cases hlt : k < l.length
    · obtain ⟨ad, A1, c1, B1, d1, rfl, e0, e1, e2, e3, hC, hT, _, _⟩ := at_Feat hl k hlt
      replace e0 := pw_cell_below hb1 e0
      replace e1 := pw_cell_below hb1 e1
      replace e2 := pw_cell_below hb1 e2
      replace e3 := pw_cell_below hb1 e3
      have hx0 := hz _ (List.getElem_mem hlt)
      cases hx : featOk l[k] with
      | false =>
        have Hno := Lib.hid (show ¬ SheetOk l from fun h => featOk_f.1 hx (h.1 k hlt hlt).1)
        generalize l[k] = f at *
        go_wp2
        refine rgStart 24 [0, 1, 2, 3, 4, 5, 6, 7, 8, 9, 10, 11, 12, 13, 14, 15, 16, 17, 18, 19, 20, 21, 22, 23] s_SheetOk_t4 (fun HT HS => ?_)
        repeat ((with_reducible refine rgGate ?_); first | refine rgP HT ?_ | refine rgL HT ?_ | refine rgG HT ?_)
        refine rgCall HT Try.func24 (sFeatOk_c f A1 c1 B1 d1 _ (Kd.C_below hC bl) (Kd.C_below hT bl) hx0) ?_
        rintro e w2 ⟨rfl, hb2⟩
        refine ⟨_, rfl, bl, rgN ?_⟩
        rw [hx]
        repeat ((with_reducible refine rgGate ?_); first | refine rgP HT ?_ | refine rgL HT ?_ | refine rgG HT ?_)
        refine rgDone HT ?_
        clear HT HS
        go_wp2
        go_ret
        exact ⟨ret_bool (sheetOk_f.2 Hno.out).symm, bl⟩
      | true =>
        have Hp := Lib.hid (featOk_t.1 hx)
        rcases Nat.eq_zero_or_pos k with h0 | h0
        · have hd : decide (0 < k) = false := by simp; omega
          have Hs := Lib.hid (show stepF l k from fun h => ⟨Hp.out, fun h1 => by omega⟩)
          clear h0
          clear Hp
          generalize l[k] = f at *
          go_wp2
          refine rgStart 24 [0, 1, 2, 3, 4, 5, 6, 7, 8, 9, 10, 11, 12, 13, 14, 15, 16, 17, 18, 19, 20, 21, 22, 23] s_SheetOk_t4 (fun HT HS => ?_)
          repeat ((with_reducible refine rgGate ?_); first | refine rgP HT ?_ | refine rgL HT ?_ | refine rgG HT ?_)
          refine rgCall HT Try.func24 (sFeatOk_c f A1 c1 B1 d1 _ (Kd.C_below hC bl) (Kd.C_below hT bl) hx0) ?_
          rintro e w2 ⟨rfl, hb2⟩
          refine ⟨_, rfl, bl, rgN ?_⟩
          rw [hx]
          repeat ((with_reducible refine rgGate ?_); first | refine rgP HT ?_ | refine rgL HT ?_ | refine rgG HT ?_)
          refine rgDone HT ?_
          clear HT HS
          go_wp2
          exact ⟨⟨k + 1, by omega, by go_num, ⟨fun i hi => if h : i = k then h ▸ Hs.out else he.out i (by omega)⟩, ⟨bl⟩⟩, by simp [intOf]; omega⟩
        · obtain ⟨j, hkj⟩ : ∃ j, k = j + 1 := ⟨k - 1, by omega⟩
          have hd : decide (0 < k) = true := by simp; omega
          have hw : IntKind.i64.wrap ((k : Int) - 1) = (j : Int) := by rw [IntWalk.i64_in _ (by omega)]; omega
          have hj : j < l.length := by omega
          obtain ⟨ad', A2, c2, B2, d2, e', g0, g1, g2, g3, _, _, _, _⟩ := at_Feat hl j hj
          cases e'
          replace g0 := pw_cell_below hb1 g0
          clear g1 g2 g3
          have Hs0 := Lib.hid (show stepF l k ↔ ltS l[j].1 l[k].1 = true by subst hkj; exact ⟨fun h => (h hlt).2 (by omega), fun hq h => ⟨Hp.out, fun _ => hq⟩⟩)
          have hle := @leS_of l[k].1 l[j].1
          clear hkj h0 Hp
          generalize l[k] = f at *
          generalize l[j] = g at *
          cases hq : ltS g.1 f.1
          all_goals
            rw [hq] at hle
            go_wp2
            refine rgStart 24 [0, 1, 2, 3, 4, 5, 6, 7, 8, 9, 10, 11, 12, 13, 14, 15, 16, 17, 18, 19, 20, 21, 22, 23] s_SheetOk_t4 (fun HT HS => ?_)
            repeat ((with_reducible refine rgGate ?_); first | refine rgP HT ?_ | refine rgL HT ?_ | refine rgG HT ?_)
            refine rgCall HT Try.func24 (sFeatOk_c f A1 c1 B1 d1 _ (Kd.C_below hC bl) (Kd.C_below hT bl) hx0) ?_
            rintro e w2 ⟨rfl, hb2⟩
            refine ⟨_, rfl, bl, rgN ?_⟩
            rw [hx]
            repeat ((with_reducible refine rgGate ?_); first | refine rgP HT ?_ | refine rgL HT ?_ | refine rgG HT ?_)
            refine rgDone HT ?_
            clear HT HS
            go_wp2
          · go_ret
            exact ⟨ret_bool (by symm; rw [sheetOk_f]; intro ho; have := Hs0.out.1 (ho.1 k hlt); rw [hq] at this; cases this), bl⟩
          · exact ⟨⟨k + 1, by omega, by go_num, ⟨fun i hi => if h : i = k then h ▸ Hs0.out.2 hq else he.out i (by omega)⟩, ⟨bl⟩⟩, by simp [intOf]; omega⟩
    · have hpts : FeatsUp l := fun i hi => he.out i (by omega)
      have HP := Lib.hid hpts
      clear hpts he
      go_wp2
      go_ret
      exact ⟨ret_bool (by rw [Bool.eq_iff_iff, sheetOk_t]; simp only [decide_eq_true_eq]; exact ⟨fun h => ⟨HP.out, by omega⟩, fun h => by have := h.2; omega⟩), bl⟩
def i_SheetOk_T4 : Bool × List (List Nat × List Nat) := (true, [([], []), ([0], [0]), ([1], [1]), ([2, 1], [2]), ([3], [3]), ([4, 3], [3, 4]), ([5, 3, 3], [3, 5]), ([6], [6]), ([6], [6]), ([8, 6], [6, 8]), ([7, 9, 6], [6, 7, 9]), ([10, 6], [6, 10]), ([11, 6], [6, 11]), ([6], [6]), ([13, 6], [6, 13]), ([12, 14, 6], [6, 12, 14]), ([6, 15, 3], [3, 6, 15]), ([3, 16], [3, 16])])
theorem i_SheetOk_t4 : rtab .any (opsOf Try.f34 4) = i_SheetOk_T4 := by kernel_rfl
set_option maxHeartbeats 4000000 in
theorem iSheetOk_c (A : Option Addr) (c : Nat) (l : List FeatD) (w : World) (hl : kFeat.C w A l.length l) (hn : l.length ≤ 1048576) (hz : ∀ f ∈ l, FTx f) :
    Calls Try.prog 34 #[.slice A l.length c] w fun e w' => e = .returned (.bool (sheetOk l)) ∧ Below w.heap.size w w' := by
  go_enter Try.func34, Try.ntmps34
  go_wp2
  go_loopw [7] (fun i wr => ∃ k : Nat, k ≤ l.length ∧ i = .int .i64 k ∧ Aside0 (∀ i, i < k → stepF l i) ∧ Aside0 (Below w.heap.size w wr)) (fun i _ => l.length - (intOf i).toNat)
  case atStart => exact ⟨0, by omega, rfl, ⟨fun i hi => absurd hi (by omega)⟩, ⟨Below.refl _ _⟩⟩
  case round =>
    obtain ⟨k, hk, rfl, he, ⟨hb1⟩⟩ := hrel
    by_cases hlt : k < l.length
    · obtain ⟨ad, A1, c1, B1, d1, rfl, e0, e1, e2, e3, hC, hT, _, _⟩ := at_Feat hl k hlt
      replace e0 := pw_cell_below hb1 e0
      replace e1 := pw_cell_below hb1 e1
      replace e2 := pw_cell_below hb1 e2
      replace e3 := pw_cell_below hb1 e3
      have hx0 := hz _ (List.getElem_mem hlt)
      cases hx : featOk l[k] with
      | false =>
        have Hno := Lib.hid (show ¬ SheetOk l from fun h => featOk_f.1 hx (h.1 k hlt hlt).1)
        generalize l[k] = f at *
        go_wp2
        refine rgStart 18 [0, 1, 2, 3, 4, 5, 6, 7, 8, 9, 10, 11, 12, 13, 14, 15, 16, 17] i_SheetOk_t4 (fun HT HS => ?_)
        repeat ((with_reducible refine rgGate ?_); first | refine rgP HT ?_ | refine rgL HT ?_ | refine rgG HT ?_)
        refine rgCall HT Try.func25 (iFeatOk_c f A1 c1 B1 d1 _ (Kd.C_below hC bl) (Kd.C_below hT bl) hx0) ?_
        rintro e w2 ⟨rfl, hb2⟩
        refine ⟨_, rfl, bl, rgN ?_⟩
        rw [hx]
        repeat ((with_reducible refine rgGate ?_); first | refine rgP HT ?_ | refine rgL HT ?_ | refine rgG HT ?_)
        refine rgDone HT ?_
        clear HT HS
        go_wp2
        go_ret
        exact ⟨ret_bool (sheetOk_f.2 Hno.out).symm, bl⟩
      | true =>
        have Hp := Lib.hid (featOk_t.1 hx)
        rcases Nat.eq_zero_or_pos k with h0 | h0
        · have hd : decide (0 < k) = false := by simp; omega
          have Hs := Lib.hid (show stepF l k from fun h => ⟨Hp.out, fun h1 => by omega⟩)
          clear h0
          clear Hp
          generalize l[k] = f at *
          go_wp2
          refine rgStart 18 [0, 1, 2, 3, 4, 5, 6, 7, 8, 9, 10, 11, 12, 13, 14, 15, 16, 17] i_SheetOk_t4 (fun HT HS => ?_)
          repeat ((with_reducible refine rgGate ?_); first | refine rgP HT ?_ | refine rgL HT ?_ | refine rgG HT ?_)
          refine rgCall HT Try.func25 (iFeatOk_c f A1 c1 B1 d1 _ (Kd.C_below hC bl) (Kd.C_below hT bl) hx0) ?_
          rintro e w2 ⟨rfl, hb2⟩
          refine ⟨_, rfl, bl, rgN ?_⟩
          rw [hx]
          repeat ((with_reducible refine rgGate ?_); first | refine rgP HT ?_ | refine rgL HT ?_ | refine rgG HT ?_)
          refine rgDone HT ?_
          clear HT HS
          go_wp2
          exact ⟨⟨k + 1, by omega, by go_num, ⟨fun i hi => if h : i = k then h ▸ Hs.out else he.out i (by omega)⟩, ⟨bl⟩⟩, by simp [intOf]; omega⟩
        · obtain ⟨j, hkj⟩ : ∃ j, k = j + 1 := ⟨k - 1, by omega⟩
          have hd : decide (0 < k) = true := by simp; omega
          have hw : IntKind.i64.wrap ((k : Int) - 1) = (j : Int) := by rw [IntWalk.i64_in _ (by omega)]; omega
          have hj : j < l.length := by omega
          obtain ⟨ad', A2, c2, B2, d2, e', g0, g1, g2, g3, _, _, _, _⟩ := at_Feat hl j hj
          cases e'
          replace g0 := pw_cell_below hb1 g0
          clear g1 g2 g3
          have Hs0 := Lib.hid (show stepF l k ↔ ltS l[j].1 l[k].1 = true by subst hkj; exact ⟨fun h => (h hlt).2 (by omega), fun hq h => ⟨Hp.out, fun _ => hq⟩⟩)
          clear hkj h0 Hp
          generalize l[k] = f at *
          generalize l[j] = g at *
          cases hq : ltS g.1 f.1
          all_goals
            have hle : Op.bytesLess g.1.toList f.1.toList = _ := hq
            go_wp2
            refine rgStart 18 [0, 1, 2, 3, 4, 5, 6, 7, 8, 9, 10, 11, 12, 13, 14, 15, 16, 17] i_SheetOk_t4 (fun HT HS => ?_)
            repeat ((with_reducible refine rgGate ?_); first | refine rgP HT ?_ | refine rgL HT ?_ | refine rgG HT ?_)
            refine rgCall HT Try.func25 (iFeatOk_c f A1 c1 B1 d1 _ (Kd.C_below hC bl) (Kd.C_below hT bl) hx0) ?_
            rintro e w2 ⟨rfl, hb2⟩
            refine ⟨_, rfl, bl, rgN ?_⟩
            rw [hx]
            repeat ((with_reducible refine rgGate ?_); first | refine rgP HT ?_ | refine rgL HT ?_ | refine rgG HT ?_)
            refine rgDone HT ?_
            clear HT HS
            go_wp2
          · go_ret
            exact ⟨ret_bool (by symm; rw [sheetOk_f]; intro ho; have := Hs0.out.1 (ho.1 k hlt); rw [hq] at this; cases this), bl⟩
          · exact ⟨⟨k + 1, by omega, by go_num, ⟨fun i hi => if h : i = k then h ▸ Hs0.out.2 hq else he.out i (by omega)⟩, ⟨bl⟩⟩, by simp [intOf]; omega⟩
    · have hpts : FeatsUp l := fun i hi => he.out i (by omega)
      have HP := Lib.hid hpts
      have d1 : decide ((k : Int) < (l.length : Int)) = false := decide_eq_false (by omega)
      clear hpts he
      go_wp2
      go_ret
      exact ⟨ret_bool (by rw [Bool.eq_iff_iff, sheetOk_t]; simp only [decide_eq_true_eq]; exact ⟨fun h => ⟨HP.out, by omega⟩, fun h => by have := h.2; omega⟩), bl⟩
end Go.Proofs.Ytlebgjafaioajaa
