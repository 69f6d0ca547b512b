/- Contracts: what is ok, in the reference. -/
import Derived.Test.YtlebgjafaioajaaB
namespace Go.Proofs.Ytlebgjafaioajaa
open Go.RowKit Go.Proofs.YtlebgjafaioajaaW.PrintWords Go.Proofs.YtlebgjafaioajaaW.PrintLast
set_option linter.unusedVariables false
set_option linter.unusedSimpArgs false
attribute [local go_sem high] eqPtOp
def s_l1Pts_T4 : Bool × List (List Nat × List Nat) := (true, [([], []), ([], []), ([0, 1], [0, 1]), ([2], [2]), ([3], [3]), ([4], [4]), ([5], [5]), ([6, 5], [6]), ([7], [7]), ([7], [7]), ([8, 9, 7], [7, 8, 9]), ([10, 7], [7, 10]), ([11, 7], [7, 11]), ([12, 7, 7], [7, 12]), ([13, 7], [7, 13]), ([7, 14], [7, 14]), ([15, 13], [15]), ([16], [16]), ([17, 16], [16, 17]), ([18, 16, 16], [16, 18]), ([19], [19]), ([19], [19]), ([20, 21, 19], [19, 20, 21]), ([22, 19], [19, 22]), ([19], [19]), ([19], [19]), ([25, 19], [19, 25]), ([24, 26, 19], [19, 24, 26]), ([27, 19], [19, 27]), ([23, 28, 19], [19, 23, 28]), ([19, 29, 16], [16, 19, 29]), ([16, 30], [16, 30])])
theorem s_l1Pts_t4 : rtab .any (opsOf Try.f107 4) = s_l1Pts_T4 := by kernel_rfl
set_option maxHeartbeats 4000000 in
theorem l1Pts_c (A : Option Addr) (c : Nat) (l : List Pt) (w : World) (hl : kPt.C w A l.length l) (hn : l.length ≤ 1048576) :
    Calls Try.prog 107 #[.slice A l.length c] w fun e w' => e = .returned (.bool (ptsB l)) ∧ Below w.heap.size w w' := by
  go_enter Try.func107, Try.ntmps107
  go_wp2
  go_loopw [3] (fun i wr => ∃ k : Nat, k ≤ l.length ∧ i = .int .i64 k ∧ Aside0 (∀ i, i < k → stepOk l i) ∧ Aside0 (Below w.heap.size w wr)) (fun i _ => l.length - (intOf i).toNat)
  case atStart => exact ⟨0, by omega, rfl, ⟨fun i hi => absurd hi (by omega)⟩, ⟨Below.refl _ _⟩⟩
  case round =>
    obtain ⟨k, hk, rfl, he, ⟨hb1⟩⟩ := hrel
    by_cases hlt : k < l.length
    · obtain ⟨ad, rfl, c0, c1⟩ := at_Pt hl k hlt
      replace c0 := pw_cell_below hb1 c0
      replace c1 := pw_cell_below hb1 c1
      cases hx : inB l[k].1 (-1000) 1000 with
      | false =>
        have Hno := Lib.hid (show ¬ PtsOk l from fun h => by have := (h k hlt hlt).1; simp [ptOk, hx] at this)
        go_wp2
        refine rgStart 32 [0, 1, 2, 3, 4, 5, 6, 7, 8, 9, 10, 11, 12, 13, 14, 15, 16, 17, 18, 19, 20, 21, 22, 23, 24, 25, 26, 27, 28, 29, 30, 31] s_l1Pts_t4 (fun HT HS => ?_)
        repeat ((with_reducible refine rgGate ?_); first | refine rgP HT ?_ | refine rgL HT ?_ | refine rgG HT ?_)
        refine rgCall HT Try.func128 (l1Num_c l[k].1 _) ?_
        rintro e w2 ⟨rfl, rfl⟩
        refine ⟨_, rfl, bl, rgN ?_⟩
        rw [hx]
        repeat ((with_reducible refine rgGate ?_); first | refine rgP HT ?_ | refine rgL HT ?_ | refine rgG HT ?_)
        refine rgDone HT ?_
        go_wp2
        go_ret
        exact ⟨ret_bool (by symm; rw [ptsB_f]; exact fun h => Hno.out h.1), bl⟩
      | true =>
        cases hy : inB l[k].2 (-1000) 1000 with
        | false =>
          have Hno := Lib.hid (show ¬ PtsOk l from fun h => by have := (h k hlt hlt).1; simp [ptOk, hy] at this)
          go_wp2
          refine rgStart 32 [0, 1, 2, 3, 4, 5, 6, 7, 8, 9, 10, 11, 12, 13, 14, 15, 16, 17, 18, 19, 20, 21, 22, 23, 24, 25, 26, 27, 28, 29, 30, 31] s_l1Pts_t4 (fun HT HS => ?_)
          repeat ((with_reducible refine rgGate ?_); first | refine rgP HT ?_ | refine rgL HT ?_ | refine rgG HT ?_)
          refine rgCall HT Try.func128 (l1Num_c l[k].1 _) ?_
          rintro e w2 ⟨rfl, rfl⟩
          refine ⟨_, rfl, bl, rgN ?_⟩
          rw [hx]
          repeat ((with_reducible refine rgGate ?_); first | refine rgP HT ?_ | refine rgL HT ?_ | refine rgG HT ?_)
          refine rgCall HT Try.func128 (l1Num_c l[k].2 _) ?_
          rintro e w2 ⟨rfl, rfl⟩
          refine ⟨_, rfl, bl, rgN ?_⟩
          rw [hy]
          repeat ((with_reducible refine rgGate ?_); first | refine rgP HT ?_ | refine rgL HT ?_ | refine rgG HT ?_)
          refine rgDone HT ?_
          go_wp2
          go_ret
          exact ⟨ret_bool (by symm; rw [ptsB_f]; exact fun h => Hno.out h.1), bl⟩
        | true =>
          have Hp := Lib.hid (show ptOk l[k] = true by simp [ptOk, hx, hy])
          rcases Nat.eq_zero_or_pos k with h0 | h0
          · have hd : decide (0 < k) = false := by simp; omega
            have Hs := Lib.hid (show stepOk l k from fun h => ⟨Hp.out, fun h1 => by omega⟩)
            clear h0
            go_wp2
            refine rgStart 32 [0, 1, 2, 3, 4, 5, 6, 7, 8, 9, 10, 11, 12, 13, 14, 15, 16, 17, 18, 19, 20, 21, 22, 23, 24, 25, 26, 27, 28, 29, 30, 31] s_l1Pts_t4 (fun HT HS => ?_)
            repeat ((with_reducible refine rgGate ?_); first | refine rgP HT ?_ | refine rgL HT ?_ | refine rgG HT ?_)
            refine rgCall HT Try.func128 (l1Num_c l[k].1 _) ?_
            rintro e w2 ⟨rfl, rfl⟩
            refine ⟨_, rfl, bl, rgN ?_⟩
            rw [hx]
            repeat ((with_reducible refine rgGate ?_); first | refine rgP HT ?_ | refine rgL HT ?_ | refine rgG HT ?_)
            refine rgCall HT Try.func128 (l1Num_c l[k].2 _) ?_
            rintro e w2 ⟨rfl, rfl⟩
            refine ⟨_, rfl, bl, rgN ?_⟩
            rw [hy]
            repeat ((with_reducible refine rgGate ?_); first | refine rgP HT ?_ | refine rgL HT ?_ | refine rgG HT ?_)
            refine rgDone HT ?_
            go_wp2
            exact ⟨⟨k + 1, by omega, by go_num, ⟨fun i hi => if h : i = k then h ▸ Hs.out else he.out i (by omega)⟩, ⟨bl⟩⟩, by simp [intOf]; omega⟩
          · obtain ⟨j, hkj⟩ : ∃ j, k = j + 1 := ⟨k - 1, by omega⟩
            have hd : decide (0 < k) = true := by simp; omega
            have hw : IntKind.i64.wrap ((k : Int) - 1) = (j : Int) := by rw [IntWalk.i64_in _ (by omega)]; omega
            have hj : j < l.length := by omega
            obtain ⟨ad', e', d0, d1⟩ := at_Pt hl j hj
            cases e'
            replace d0 := pw_cell_below hb1 d0
            replace d1 := pw_cell_below hb1 d1
            have Hs0 := Lib.hid (show (eqB (l[k].1, l[k].2) (l[j].1, l[j].2) = false → stepOk l k) ∧ (eqB (l[k].1, l[k].2) (l[j].1, l[j].2) = true → ¬ stepOk l k) by subst hkj; exact ⟨fun hq h => ⟨Hp.out, fun h1 e => eqB_f.1 hq e.symm⟩, fun hq h => (h hlt).2 (by omega) (eqB_t.1 hq).symm⟩)
            clear hkj h0
            cases hq : eqB (l[k].1, l[k].2) (l[j].1, l[j].2)
            all_goals
              go_wp2
              refine rgStart 32 [0, 1, 2, 3, 4, 5, 6, 7, 8, 9, 10, 11, 12, 13, 14, 15, 16, 17, 18, 19, 20, 21, 22, 23, 24, 25, 26, 27, 28, 29, 30, 31] s_l1Pts_t4 (fun HT HS => ?_)
              repeat ((with_reducible refine rgGate ?_); first | refine rgP HT ?_ | refine rgL HT ?_ | refine rgG HT ?_)
              refine rgCall HT Try.func128 (l1Num_c l[k].1 _) ?_
              rintro e w2 ⟨rfl, rfl⟩
              refine ⟨_, rfl, bl, rgN ?_⟩
              rw [hx]
              repeat ((with_reducible refine rgGate ?_); first | refine rgP HT ?_ | refine rgL HT ?_ | refine rgG HT ?_)
              refine rgCall HT Try.func128 (l1Num_c l[k].2 _) ?_
              rintro e w2 ⟨rfl, rfl⟩
              refine ⟨_, rfl, bl, rgN ?_⟩
              rw [hy]
              repeat ((with_reducible refine rgGate ?_); first | refine rgP HT ?_ | refine rgL HT ?_ | refine rgG HT ?_)
              refine rgDone HT ?_
              go_wp2
            · exact ⟨⟨k + 1, by omega, by go_num, ⟨fun i hi => if h : i = k then h ▸ Hs0.out.1 hq else he.out i (by omega)⟩, ⟨bl⟩⟩, by simp [intOf]; omega⟩
            · go_ret
              exact ⟨ret_bool (by symm; rw [ptsB_f]; intro ho; exact Hs0.out.2 hq (ho.1 k hlt)), bl⟩
    · have hpts : PtsOk l := fun i hi => he.out i (by omega)
      have HP := Lib.hid hpts
      clear hpts he
      go_wp2
      go_ret
      exact ⟨ret_bool (by rw [Bool.eq_iff_iff, ptsB_t]; simp only [decide_eq_true_eq]; exact ⟨fun h => ⟨HP.out, by omega⟩, fun h => by have := h.2; omega⟩), bl⟩
def s_ShapeOk_T10 : Bool × List (List Nat × List Nat) := (true, [([], []), ([0], [0]), ([1], [1]), ([2], [2]), ([3, 2], [2, 3]), ([4, 2], [2, 4]), ([5, 2], [2, 5]), ([2], [2]), ([7, 2], [2, 7]), ([2], [2]), ([9, 2], [2, 9]), ([8, 10, 2], [2, 8, 10]), ([11, 2], [2, 11]), ([6, 12, 2], [2, 6, 12]), ([2, 13], [2, 13]), ([14, 2, 0, 1, 2, 3, 4, 5, 6, 7, 8, 9, 10, 11, 12, 13, 14], [14])])
theorem s_ShapeOk_t10 : rtab .any (opsOf Try.f64 10) = s_ShapeOk_T10 := by kernel_rfl
set_option maxHeartbeats 4000000 in
theorem sShapeOk_c (K : Int) (A : Option Addr) (c : Nat) (l : List Pt) (w : World) (hl : kPt.C w A l.length l) (hn : l.length ≤ 1048576) :
    Calls Try.prog 64 #[.agg #[.int .i64 K, .slice A l.length c]] w fun e w' => e = .returned (.bool (shapeOk K l)) ∧ Below w.heap.size w w' := by
  cases hp : ptsB l with
  | false =>
    have hp2 := Lib.hid (ptsB_f.1 hp)
    go_enter Try.func64, Try.ntmps64
    go_wp2_with (go_at_call 107; refine (l1Pts_c _ _ _ _ (Kd.C_below hl bl) hn).mono ?_; rintro e w1 ⟨rfl, hb⟩; obtain ⟨h1, h2⟩ := bcell hb; have z1 : w.heap.size < w1.heap.size := by have := hb.size; simp at this; omega)
    go_ret
    exact ⟨ret_bool (by symm; rw [shapeOk_f]; exact fun h => hp2.out ⟨h.1, h.le⟩), bl⟩
  | true =>
    have HP := Lib.hid (ptsB_t.1 hp)
    have hle : l.length ≤ 6 := HP.out.2
    by_cases hK1 : K = 1
    · have t1 : (K == 1) = true := by simp [hK1]
      have HK := Lib.hid hK1
      clear hK1
      go_enter Try.func64, Try.ntmps64
      go_wp2_with (go_at_call 107; refine (l1Pts_c _ _ _ _ (Kd.C_below hl bl) hn).mono ?_; rintro e w1 ⟨rfl, hb⟩; obtain ⟨h1, h2⟩ := bcell hb; have z1 : w.heap.size < w1.heap.size := by have := hb.size; simp at this; omega)
      go_ret
      exact ⟨ret_bool (by rw [Bool.eq_iff_iff, shapeOk_t, ShapeOk, KindOk, HK.out]; have := HP.out.1; simp [this]; omega), bl⟩
    · have t1 : (K == 1) = false := by simp [hK1]
      have HK1 := Lib.hid hK1
      clear hK1
      by_cases hK2 : K = 2
      · have t2 : (K == 2) = true := by simp [hK2]
        have HK := Lib.hid hK2
        clear hK2
        go_enter Try.func64, Try.ntmps64
        go_wp2_with (go_at_call 107; refine (l1Pts_c _ _ _ _ (Kd.C_below hl bl) hn).mono ?_; rintro e w1 ⟨rfl, hb⟩; obtain ⟨h1, h2⟩ := bcell hb; have z1 : w.heap.size < w1.heap.size := by have := hb.size; simp at this; omega)
        go_ret
        exact ⟨ret_bool (by rw [Bool.eq_iff_iff, shapeOk_t, ShapeOk, KindOk, HK.out]; have := HP.out; simp [this]; omega), bl⟩
      · have t2 : (K == 2) = false := by simp [hK2]
        have HK2 := Lib.hid hK2
        clear hK2
        by_cases hK3 : K = 3
        · have t3 : (K == 3) = true := by simp [hK3]
          have HK := Lib.hid hK3
          clear hK3
          by_cases hin : 3 ≤ l.length
          · have hw : IntKind.i64.wrap ((l.length : Int) - 1) = ((l.length - 1 : Nat) : Int) := by rw [IntWalk.i64_in _ (by omega)]; omega
            have hd : decide ((3 : Int) ≤ (l.length : Int)) = true := decide_eq_true (by omega)
            have hj : l.length - 1 < l.length := by omega
            have h0 : 0 < l.length := by omega
            obtain ⟨ad, rfl, c0, c1⟩ := at_Pt0 hl h0
            obtain ⟨ad', e', d0, d1⟩ := at_Pt hl (l.length - 1) hj
            cases e'
            have HS0 := Lib.hid (show (eqB (l[0].1, l[0].2) (l[l.length - 1].1, l[l.length - 1].2) = false ↔ shapeOk K l = true) by
              rw [shapeOk_t, ShapeOk, KindOk, HK.out, eqB_f, List.getElem?_eq_getElem h0, List.getElem?_eq_getElem hj]
              constructor
              · exact fun h => ⟨HP.out.1, .inr (.inr ⟨rfl, hin, hle, fun e => h (Option.some.inj e)⟩)⟩
              · rintro ⟨_, h | h | h⟩
                · omega
                · omega
                · exact fun e => h.2.2.2 (congrArg some e))
            cases hq : eqB (l[0].1, l[0].2) (l[l.length - 1].1, l[l.length - 1].2)
            all_goals
              go_enter Try.func64, Try.ntmps64
              go_wp2_with (go_at_call 107; refine (l1Pts_c _ _ _ _ (Kd.C_below hl bl) hn).mono ?_; rintro e w1 ⟨rfl, hb⟩; obtain ⟨h1, h2⟩ := bcell hb; have z1 : w.heap.size < w1.heap.size := (by have := hb.size; simp at this; omega); replace c0 := pw_cell_below (bl : Below w.heap.size w w1) c0; replace c1 := pw_cell_below (bl : Below w.heap.size w w1) c1; replace d0 := pw_cell_below (bl : Below w.heap.size w w1) d0; replace d1 := pw_cell_below (bl : Below w.heap.size w w1) d1)
              refine rgStart 16 [0, 1, 2, 3, 4, 5, 6, 7, 8, 9, 10, 11, 12, 13, 14, 15] s_ShapeOk_t10 (fun HT HS => ?_)
              repeat ((with_reducible refine rgGate ?_); first | refine rgP HT ?_ | refine rgL HT ?_ | refine rgG HT ?_)
              refine rgDone HT ?_
              go_wp2
              go_ret
            · exact ⟨ret_bool (HS0.out.1 hq).symm, bl⟩
            · exact ⟨ret_bool (by symm; show shapeOk K l = false; cases hs : shapeOk K l with | false => rfl | true => rw [HS0.out.2 hs] at hq; cases hq), bl⟩
          · have hd : decide ((3 : Int) ≤ (l.length : Int)) = false := decide_eq_false (by omega)
            have Hin := Lib.hid hin
            clear hin
            go_enter Try.func64, Try.ntmps64
            go_wp2_with (go_at_call 107; refine (l1Pts_c _ _ _ _ (Kd.C_below hl bl) hn).mono ?_; rintro e w1 ⟨rfl, hb⟩; obtain ⟨h1, h2⟩ := bcell hb; have z1 : w.heap.size < w1.heap.size := by have := hb.size; simp at this; omega)
            refine rgStart 16 [0, 1, 2, 3, 4, 5, 6, 7, 8, 9, 10, 11, 12, 13, 14, 15] s_ShapeOk_t10 (fun HT HS => ?_)
            repeat ((with_reducible refine rgGate ?_); first | refine rgP HT ?_ | refine rgL HT ?_ | refine rgG HT ?_)
            refine rgDone HT ?_
            go_wp2
            go_ret
            exact ⟨ret_bool (by symm; rw [shapeOk_f, ShapeOk, KindOk, HK.out]; have := Hin.out; rintro ⟨_, h | h | h⟩ <;> omega), bl⟩
        · have t3 : (K == 3) = false := by simp [hK3]
          have HK3 := Lib.hid hK3
          clear hK3
          go_enter Try.func64, Try.ntmps64
          go_wp2_with (go_at_call 107; refine (l1Pts_c _ _ _ _ (Kd.C_below hl bl) hn).mono ?_; rintro e w1 ⟨rfl, hb⟩; obtain ⟨h1, h2⟩ := bcell hb; have z1 : w.heap.size < w1.heap.size := by have := hb.size; simp at this; omega)
          go_ret
          exact ⟨ret_bool (by symm; rw [shapeOk_f]; rintro ⟨_, h | h | h⟩; exact HK1.out h.1; exact HK2.out h.1; exact HK3.out h.1), bl⟩
end Go.Proofs.Ytlebgjafaioajaa
