/- The row of FnSheetTwo: the law returns true at every input; each argument reads behind the call as before. No condition. -/
import Derived.Test.YtlebgjafaioajaaRows
import Derived.Test.YtlebgjafaioajaaOf
import Derived.Test.YtlebgjafaioajaaLFnSheetTwo
import Derived.Test.YtlebgjafaioajaaRowK
import Derived.ProofKit
import Derived.OpenShut
import Derived.ShutString
import Derived.ChangeOld
import Derived.Below
import Derived.SizedLaws
namespace Go.Proofs.Ytlebgjafaioajaa.fnSheetTwo
open Go.ChangeShapes Go.WideShapes Go.ChangeAt Go.RowKit Go.Proofs.Ytlebgjafaioajaa
open Go.ChangeMaps (open_string shut_string)
set_option linter.unusedVariables false
theorem own : ownKnob Try.prog.godebug = none := by kernel_rfl
theorem laidOut : laidOutB Try.prog = true := by kernel_rfl
set_option maxRecDepth 100000 in
theorem lifted (os : Os) (started : os.Started) (H : Type) (enc : TypeId × Value → H) :
    ReturnsInHanded {} Try.checked os 14 .any (Rows.fnSheetTwoSpec.pre6 enc Try.prog Try.f14 Rows.fnSheetTwoRow.domain false) (Rows.fnSheetTwoSpec.post enc Try.prog Try.f14 false true false false) := by
  refine returnsInHanded_of_change_sized (C := Try.checked) own started (by kernel_rfl) Try.func14
    (ChangeSpec.witness6 (enc := enc) (C := Try.checked) false ⟨#[], #[.slice none 0 0, .slice none 0 0], []⟩ 8 (by kernel_rfl) (by kernel_rfl) (by kernel_rfl) (by kernel_rfl)) ?_
  intro W base args ds gs before hval0 hW hcnd hsz0 _
  have hsz : (DataW.weightsEach Try.prog (Try.f14.params.toList ++ Rows.fnSheetTwoSpec.plain.varTypes Try.prog) (ds ++ gs)).all (· ≤ reachBytes) = true := hsz0
  have hval : ∀ (j : Nat) t v, Try.f14.params[j]? = some t → args[j]? = some v → Value.okWide Try.prog W .any base t v := hval0
  have hW' := hW
  obtain ⟨p, q, hA0, hV, rfl, hfz, hnd⟩ := hW
  have hA : DataW.TrodAll enc Try.prog W 0 (fun _ => true) true Try.f14.params.toList args.toList ds p := hA0
  rw [Try.params14] at hA hval hsz
  obtain ⟨v0, vs0, d0, ds0, p0, q0, hargs, rfl, rfl, h0, r0⟩ := trodAll_cons hA
  obtain ⟨v1, vs1, d1, ds1, p1, q1, rfl, rfl, rfl, h1, r1⟩ := trodAll_cons r0
  obtain ⟨rfl, rfl, rfl⟩ := trodAll_nil r1
  obtain rfl : args = #[v0, v1] := by cases args; simp_all
  obtain ⟨rfl, rfl⟩ := trodVars_none hV
  have k0 := h0
  have lt0 : ∀ x ∈ p0, x.block < W.heap.size := by obtain ⟨m, hm⟩ := k0; exact DataW.trod_lt m _ _ _ hm
  obtain ⟨A0, c0, l0, rfl, hC0, hn0, hb0, hc0⟩ := open_Bytes 0 hsz rfl rfl (hval 0 _ v0 rfl rfl) h0
  have k1 := h1
  have lt1 : ∀ x ∈ p1, x.block < W.heap.size := by obtain ⟨m, hm⟩ := k1; exact DataW.trod_lt m _ _ _ hm
  obtain ⟨A1, c1, l1, rfl, hC1, hn1, hb1, hc1⟩ := open_Bytes 1 hsz rfl rfl (hval 1 _ v1 rfl rfl) h1
  clear hA0 hval0 hsz0 hsz
  refine (FnSheetTwo_c A0 c0 l0 A1 c1 l1 W hC0 hn0 hb0 hc0 hC1 hn1 hb1 hc1).mono fun e W' ⟨he, bel⟩ => ?_
  subst he
  exact ⟨_, rfl, _, _, _, [], _, [], hW', trodAll_mk1 (shut_bool Try.underlying4 _), (trodAll_cons_mk (Below.trod laidOut (by kernel_rfl) (of_decide_eq_true (by kernel_rfl)) k0 bel lt0) (trodAll_cons_mk (Below.trod laidOut (by kernel_rfl) (of_decide_eq_true (by kernel_rfl)) k1 bel lt1) trodAll_mk0)), rfl, bel.frame _, fun h => by cases h⟩
set_option maxHeartbeats 4000000 in
theorem closedF : joinedFacts Try.pinned.checked.prog 14 Try.f14 Rows.fnSheetTwoSpec Rows.fnSheetTwoRow = true := by
  unfold joinedFacts
  refine RowK.and_i (RowK.and_i (RowK.and_i (RowK.and_i (RowK.and_i (RowK.and_i (RowK.and_i ?_ RowK.mayEnter) RowK.lifts) RowK.make) ?_) ?_) ?_) ?_
  repeat' (with_reducible refine RowK.and_i ?_ ?_)
  all_goals as_aux_lemma => kernel_rfl
theorem over : Rows.fnSheetTwoRow.holds Try.pinned (OpenSpec.ofChange Rows.fnSheetTwoSpec) :=
  OpenClaim.holds_of_wide 14 Try.f14 rfl rfl rfl rfl rfl rfl rfl ⟨rfl, rfl, rfl, rfl, rfl⟩ rfl rfl rfl rfl rfl (by kernel_rfl) Try.func14 closedF
    (of_decide_eq_true (by kernel_rfl)) (by unfold Func.isWrapper; first | (rw [if_pos (by decide +kernel)]; kernel_rfl) | (rw [if_neg (by decide +kernel)]; exact ⟨rfl, rfl⟩))
    (fun os started H enc _ => lifted os started H enc)
theorem proved : Rows.FnSheetTwoSaid := over
end Go.Proofs.Ytlebgjafaioajaa.fnSheetTwo
namespace Go.Proofs.Ytlebgjafaioajaa
theorem fnSheetTwo_holds : Rows.FnSheetTwoSaid := fnSheetTwo.proved
#print axioms fnSheetTwo_holds
end Go.Proofs.Ytlebgjafaioajaa
