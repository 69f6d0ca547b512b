/- Contracts: a map held; what is found in a map. -/
import Derived.Test.YtlebgjafaioajaaSi
import Derived.Test.YtlebgjafaioajaaSc
namespace Go.Proofs.Ytlebgjafaioajaa
open Go.RowKit Go.Proofs.YtlebgjafaioajaaW.PrintWords Go.Proofs.YtlebgjafaioajaaW.PrintLast
set_option maxRecDepth 100000
set_option linter.unusedVariables false
set_option linter.unusedSimpArgs false
theorem markFs_get (k : Int) (l : List FeatD) (j : Nat) (h : j < l.length) (h2 : j < (markFs k l).length) : (markFs k l)[j] = markF (mkks k (l.take j)) l[j] := by
  have e : markFs k l = markFs k (l.take (j + 1)) ++ markFs (mkks k (l.take (j + 1))) (l.drop (j + 1)) := by rw [← markFs_app, List.take_append_drop]
  have h3 : (markFs k (l.take j)).length = j := by rw [markFs_len, List.length_take]; omega
  have : (markFs k l)[j]? = some (markF (mkks k (l.take j)) l[j]) := by
    rw [e, markFs_take k l j h, List.append_assoc, List.getElem?_append_right (by omega), h3, Nat.sub_self]
    rfl
  rw [List.getElem?_eq_getElem h2] at this
  exact Option.some.inj this
def l_heldFeatS_T4 : Bool × List (List Nat × List Nat) := (true, [([], []), ([], []), ([0, 1], [0, 1]), ([2], [2]), ([3], [3]), ([], []), ([5], [5]), ([4, 6], [4, 6])])
theorem l_heldFeatS_t4 : rtab .any (opsOf Try.f45 4) = l_heldFeatS_T4 := by kernel_rfl
set_option maxHeartbeats 8000000 in
theorem heldFeatS_c (A : Option Addr) (c : Nat) (l : List FeatD) (k : Int) (w : World) (hr : kFeat.C w A l.length (markFs k l)) (hz : Few l) (hk0 : 1 ≤ k) (hk1 : k + 2 * ((l.length + featsSz l : Nat) : Int) ≤ 1073741824) :
    Calls Try.prog 45 #[.slice A l.length c, .int .i64 k] w fun e w' => e = .returned (.int .i64 (mkks k l)) ∧ Below w.heap.size w w' := by
  have n1 := hz.1
  have hat := fun j => mkks_at k l j
  go_enter Try.func45, Try.ntmps45
  go_wp2
  go_loopw [1, 5] (fun q1 q5 wr => ∃ j : Nat, j ≤ l.length ∧ q5 = .int .i64 j ∧ q1 = .int .i64 (mkks k (l.take j)) ∧ Aside0 (Below w.heap.size w wr)) (fun _ q5 _ => l.length - (intOf q5).toNat)
  case atStart => exact ⟨0, by omega, rfl, rfl, ⟨Below.refl _ _⟩⟩
  case round =>
    obtain ⟨j, hj, rfl, rfl, ⟨hb⟩⟩ := hrel
    by_cases hlt : j < l.length
    · have hjm : j < (markFs k l).length := by rw [markFs_len]; exact hlt
      obtain ⟨ad, A1, c1, B1, d1, rfl, e0, e1, e2, e3, hC, hT, hc1, hd1⟩ := at_Feat hr j hjm
      have hzj := hz.2 _ (List.getElem_mem hlt)
      have hmk := mkks_take k l j hlt
      have h1 := hat j
      have h2 := hat (j + 1)
      rw [hmk] at h2
      have hg := markFs_get k l j hlt hjm
      generalize hq : mkks k (l.take j) = q at *
      rw [hg] at e0 e1 e2 e3 hC hT
      generalize hf : l[j] = f at *
      unfold mkk at h2 hmk
      simp only [markF, markL_len, markT_len] at e0 e1 e2 e3 hC hT
      replace e0 := pw_cell_below hb e0
      replace e1 := pw_cell_below hb e1
      replace e2 := pw_cell_below hb e2
      replace e3 := pw_cell_below hb e3
      replace hC := Kd.C_below hC hb
      replace hT := Kd.C_below hT hb
      have Hmk := Lib.hid hmk
      clear hmk hq hf hat hg hc1 hd1
      have d1 : decide ((j : Int) < (l.length : Int)) = true := decide_eq_true (by omega)
      have hw0 : IntKind.i64.wrap ((j : Int) + 1) = (j : Int) + 1 := IntWalk.i64_in _ (by omega)
      have hw1 : IntKind.i64.wrap (q + 1) = q + 1 := IntWalk.i64_in _ (by omega)
      have hw2 : IntKind.i64.wrap (q + 1 + 1) = q + 2 := by rw [IntWalk.i64_in _ (by omega)]; omega
      have t1 := strB_t (rfl : mtext q.toNat = mtext q.toNat)
      have t2 : decide (q + 2 + 2 * (f.2.1.2.length : Int) < 0) = false := decide_eq_false (by omega)
      have t3 : decide (q + 2 + 2 * (f.2.1.2.length : Int) + 2 * (f.2.2.length : Int) < 0) = false := decide_eq_false (by omega)
      go_wp2
      refine rgStart 8 [0, 1, 2, 3, 4, 5, 6, 7] l_heldFeatS_t4 (fun HT HS => ?_)
      repeat ((with_reducible refine rgGate ?_); first | refine rgP HT ?_ | refine rgL HT ?_ | refine rgG HT ?_)
      refine rgCall HT Try.func81 (markText_i q _ (by omega) (by omega)) ?_
      rintro e w2 ⟨rfl, hb2⟩
      refine ⟨_, rfl, bl, rgN ?_⟩
      repeat ((with_reducible refine rgGate ?_); first | refine rgP HT ?_ | refine rgL HT ?_ | refine rgG HT ?_)
      refine rgDone HT ?_
      clear HT HS
      have hb3 : Below wr.heap.size wr w2 := bl
      replace e1 := pw_cell_below hb3 e1
      replace e2 := pw_cell_below hb3 e2
      replace e3 := pw_cell_below hb3 e3
      replace hC := Kd.C_below hC hb3
      replace hT := Kd.C_below hT hb3
      clear e0
      go_wp2_with fail
      refine (heldPtS_c A1 c1 f.2.1.2.length (q + 2) _ hC hzj.1 (by omega) (by omega)).mono ?_
      rintro e w4 ⟨rfl, hb4⟩
      replace e3 := pw_cell_below hb4 e3
      clear e1 e2
      go_wp2_with fail
      refine (heldTagS_c B1 _ f.2.2.length (q + 2 + 2 * (f.2.1.2.length : Int)) _ (Kd.C_below hT hb4) hzj.2 (by omega) (by omega)).mono ?_
      rintro e w5 ⟨rfl, hb5⟩
      go_wp2
      exact ⟨⟨j + 1, by omega, by go_num, by rw [Hmk.out], ⟨bl⟩⟩, by simp [intOf]; omega⟩
    · have d1 : decide ((j : Int) < (l.length : Int)) = false := decide_eq_false (by omega)
      obtain rfl : j = l.length := by omega
      go_wp2
      go_ret
      exact ⟨ret_int (by rw [List.take_length]), hb⟩
end Go.Proofs.Ytlebgjafaioajaa
