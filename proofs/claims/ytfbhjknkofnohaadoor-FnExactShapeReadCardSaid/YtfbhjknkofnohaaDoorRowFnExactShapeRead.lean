/- The row of FnExactShapeRead: the law returns true at every input; each argument reads behind the call as before. No condition. -/
import Derived.Test.YtfbhjknkofnohaaDoorRows
import Derived.Test.YtfbhjknkofnohaaDoorOf
import Derived.Test.YtfbhjknkofnohaaDoorLShapeRead
import Derived.Test.YtfbhjknkofnohaaDoorRowKd
import Derived.Test.YtfbhjknkofnohaaDoorWr
import Derived.ProofKit
import Derived.OpenShut
import Derived.ShutString
import Derived.ChangeOld
import Derived.Below
import Derived.SizedLaws
import Derived.OpenVars
import Derived.ChangeVars
import Derived.LaidMore
import Derived.Lay
import Derived.SevenTiedAt
import Derived.Test.YtfbhjknkofnohaaDoorTie
import Derived.Test.YtfbhjknkofnohaaDoorCards
namespace Go.Proofs.YtfbhjknkofnohaaDoor.fnExactShapeRead
open Go.ChangeShapes Go.WideShapes Go.ChangeAt Go.RowKit Go.Proofs.YtfbhjknkofnohaaDoor
open Go.ChangeMaps (open_string shut_string)
set_option linter.unusedVariables false
theorem own : ownKnob Tryd.prog.godebug = none := by kernel_rfl
theorem laidOut : laidOutB Tryd.prog = true := by kernel_rfl
set_option maxRecDepth 100000 in
theorem lifted (os : Os) (started : os.Started) (H : Type) (enc : TypeId × Value → H) :
    ReturnsInHanded {} Tryd.checked os 4 .any (fun w args => (Rows.fnExactShapeReadSpec.pre enc Tryd.prog Tryd.f4 [] false w args ∧ laidMetH Tryd.prog Rows.fnExactShapeReadRow.laid w) ∧ sizedMet enc Tryd.prog Tryd.f4 (OpenSpec.ofChange Rows.fnExactShapeReadSpec) false w args)
      (Rows.fnExactShapeReadSpec.post enc Tryd.prog Tryd.f4 false true false false) := by
  refine rowLaidShaped (C := Tryd.checked) (X := fun w _ => laidMetH Tryd.prog Rows.fnExactShapeReadRow.laid w) (fun _ _ _ hh h => h.of_heap hh) own started (by kernel_rfl) Tryd.func4
    (ChangeSpec.witness_shaped (enc := enc) (C := Tryd.checked) (os := os) (X := fun w _ => laidMetH Tryd.prog Rows.fnExactShapeReadRow.laid w) false (World.laidAll Tryd.prog os Rows.fnExactShapeReadRow.laid) #[.string ByteArray.empty] 8 (World.laidAll_os _ _ _)
      (World.shaped_of_ZipB (by kernel_rfl) (by kernel_rfl)) (by kernel_rfl) (by kernel_rfl) (by kernel_rfl)
      (by rw [MakeChecks.laidMetH_plain _ _ _ (by kernel_rfl)]; exact laidMet_laidAll _ (by kernel_rfl) (by kernel_rfl))) ?_
  intro W base args ds gs before hval0 hW _ hsz0 hL hS _
  have hsz : (DataW.weightsEach Tryd.prog (Tryd.f4.params.toList ++ Rows.fnExactShapeReadSpec.plain.varTypes Tryd.prog) (ds ++ gs)).all (· ≤ reachBytes) = true := hsz0
  have hval : ∀ (j : Nat) t v, Tryd.f4.params[j]? = some t → args[j]? = some v → Value.okWide Tryd.prog W .any base t v := hval0
  have hW' := hW
  obtain ⟨p, q, hA0, hV, rfl, hfz, hnd⟩ := hW
  have hA : DataW.TrodAll enc Tryd.prog W 0 (fun _ => true) true Tryd.f4.params.toList args.toList ds p := hA0
  rw [Tryd.params4] at hA hval hsz
  obtain ⟨v0, vs0, d0, ds0, p0, q0, hargs, rfl, rfl, h0, r0⟩ := trodAll_cons hA
  obtain ⟨rfl, rfl, rfl⟩ := trodAll_nil r0
  obtain rfl : args = #[v0] := by cases args; simp_all
  obtain ⟨gv, tv, csv, fv, dv, pv, rfl, hgv, htv, hvv, hdv, eqv⟩ := trodVars_one hV
  have k0 := h0
  have lt0 : ∀ x ∈ p0, x.block < W.heap.size := by obtain ⟨m, hm⟩ := k0; exact DataW.trod_lt m _ _ _ hm
  obtain ⟨s0, rfl, hs0⟩ := open_Str 0 hsz rfl rfl (hval 0 _ v0 rfl rfl) h0
  clear hA0 hval0 hsz0 hsz
  refine (FnExactShapeRead_c s0 W hs0 hL hS).mono fun e W' ⟨he, bel⟩ => ?_
  subst he
  exact ⟨_, rfl, _, _, _, [], _, _, hW', trodAll_mk1 (shut_bool Tryd.underlying4 _), (trodAll_cons_mk (Below.trod laidOut (by kernel_rfl) (of_decide_eq_true (by kernel_rfl)) k0 bel lt0) trodAll_mk0), Below.trodVars laidOut bel (by kernel_rfl) hV, bel.frame _, fun h => by cases h⟩
set_option maxHeartbeats 4000000 in
theorem closedF : joinedFacts Tryd.pinned.checked.prog 4 Tryd.f4 Rows.fnExactShapeReadSpec Rows.fnExactShapeReadRow = true := by
  unfold joinedFacts
  refine RowKd.and_i (RowKd.and_i (RowKd.and_i (RowKd.and_i (RowKd.and_i (RowKd.and_i (RowKd.and_i ?_ RowKd.mayEnter) RowKd.lifts) RowKd.make) ?_) ?_) ?_) ?_
  repeat' (with_reducible refine RowKd.and_i ?_ ?_)
  all_goals as_aux_lemma => kernel_rfl
theorem over : Rows.fnExactShapeReadRow.holds Tryd.pinned (OpenSpec.ofChange Rows.fnExactShapeReadSpec) :=
  OpenClaim.holds_of_wide 4 Tryd.f4 rfl rfl rfl rfl rfl rfl rfl ⟨rfl, rfl, rfl, rfl, rfl⟩ rfl rfl rfl rfl rfl (by kernel_rfl) Tryd.func4 closedF
    (of_decide_eq_true (by kernel_rfl)) (by unfold Func.isWrapper; first | (rw [if_pos (by decide +kernel)]; kernel_rfl) | (rw [if_neg (by decide +kernel)]; exact ⟨rfl, rfl⟩))
    (fun os started H enc _ => lifted os started H enc)
theorem proved : Rows.FnExactShapeReadSaid := over
theorem carded : Rows.FnExactShapeReadCardSaid :=
  Claim7.holds_tied_plain_at .later [] [.data, .data, .data, .data, .sentinel, .sentinel, .widerDeep, .pinned] true (true, "eca173d89854a59429dfb2d0ae8bf2a7cc46474f1804a66809a5a72f2eb4a59a") true
    over (fun _ h => by cases h) (by kernel_rfl) (fun _ h => by cases h) fnExactShapeRead_row_tie rfl ⟨rfl, rfl⟩ (by kernel_rfl) rfl
    (fun f fn hf hfn => by
      obtain rfl : f = 4 := Option.some.inj ((show Tryd.prog.funcNamed "loop.example/townland/laws.FnExactShapeRead" = some 4 by kernel_rfl).symm.trans hf) |>.symm
      obtain rfl : fn = Tryd.f4 := (Option.some.inj (Tryd.func4.symm.trans hfn)).symm
      exact ⟨by kernel_rfl, fun j t ht => by
        rw [Tryd.params4] at ht
        have hm : t ∈ [9] := by simpa using Array.mem_of_getElem? ht
        have hall : ([9].all fun u => !Tryd.prog.wantsStandIn u) = true := by kernel_rfl
        exact (show Tryd.prog.wantsStandIn t = false by simpa using List.all_eq_true.1 hall t hm)⟩)
    (by kernel_rfl)
end Go.Proofs.YtfbhjknkofnohaaDoor.fnExactShapeRead
namespace Go.Proofs.YtfbhjknkofnohaaDoor
theorem fnExactShapeRead_holds : Rows.FnExactShapeReadCardSaid := fnExactShapeRead.carded
#print axioms fnExactShapeRead_holds
end Go.Proofs.YtfbhjknkofnohaaDoor
