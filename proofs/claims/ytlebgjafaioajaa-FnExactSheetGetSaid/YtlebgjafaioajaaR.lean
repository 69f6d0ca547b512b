/- A region that draws its order, walked in the order of its text: each step with its side proofs as default arguments. -/
import Derived.Test.YtlebgjafaioajaaV
namespace Go.Proofs.Ytlebgjafaioajaa
open Go.RowKit Go.Proofs.YtlebgjafaioajaaW.PrintWords Go.Proofs.YtlebgjafaioajaaW.PrintLast
set_option linter.unusedVariables false
set_option linter.unusedSimpArgs false
/-- Of n operations the first k of the order p have come up. -/
def lit (p : List Nat) (k n : Nat) : Array Bool := ((List.range n).map fun j => (p.take k).contains j).toArray
section
variable {P : Program} {ops : Array Oper} {Q : Exit → Act → World → Prop} {S : World → Prop} {T : Bool × List (List Nat × List Nat)} {i k n fuel : Nat} {p : List Nat} {oi : Oper} {v : Value} {a a' : Act} {w : World}
theorem rgStart {id : Nat} (n : Nat) (p : List Nat) (hT : rtab .any ops = T) (h : Aside0 (rtab .any ops = T) → Aside0 (Below w.heap.size w w.drew) → wpAnyLast P .any ops Q (fun w' => Below w.heap.size w w') [] n (lit p 0 n) a w.drew)
    (hm : P.follows .mixedOrders = true := by kernel_rfl) (hn : ops.size = n := by rfl) (hl : Array.replicate n false = lit p 0 n := by rfl) : (Code.region id ops true).wp P Q a w :=
  start_ (lit p 0 n) hm hn hl (below_drew1 (Below.refl _ _)) (fun hs => h ⟨hT⟩ ⟨hs⟩)
/-- One step: an operation that yields in every world; in every later world (S: 'what was there is as it was'); one that its guard doesn't want. -/
theorem rgP (hT : Aside0 (rtab .any ops = T)) (h : wpAnyLast P .any ops Q S [] fuel (lit p (k + 1) n) a' w) (hk : p[k]? = some i := by (try simp only [List.getElem?_cons_succ, List.getElem?_cons_zero]); rfl) (hi : ops[i]? = some oi := by (try simp only [List.getElem?_toArray, List.getElem?_cons_succ, List.getElem?_cons_zero]); rfl) (hw : Region.wanted oi (yielded ops a.tmps) = true := by rfl) (hy : ∀ w', (execOp a.eval oi).run P w' = .ok (.value v) w' := by intro w'; go_simp; with_reducible rfl)
    (ha : a.put oi.dst v = a' := by simp only [Act.put, List.setIfInBounds_toArray, List.set_cons_zero, List.set_cons_succ]; rfl) (hc : anyT T (lit p k n).toList (lit p (k + 1) n).toList i = true := by kernel_rfl) (hQ : ∀ c a w, Q (.panic c) (a.put oi.dst v) w → Q (.panic c) a w := by exact fun _ _ _ h => h) : wpAnyLast P .any ops Q S [] (fuel + 1) (lit p k n) a w :=
  pure_ (lit p (k + 1) n) hi rfl (any_of hT.out hc) hQ (Or.inl ⟨hw, hy⟩) ha h
theorem rgG (hT : Aside0 (rtab .any ops = T)) (h : wpAnyLast P .any ops Q S [] fuel (lit p (k + 1) n) a' w) (hk : p[k]? = some i := by (try simp only [List.getElem?_cons_succ, List.getElem?_cons_zero]); rfl) (hi : ops[i]? = some oi := by (try simp only [List.getElem?_toArray, List.getElem?_cons_succ, List.getElem?_cons_zero]); rfl) (hw : Region.wanted oi (yielded ops a.tmps) = false := by rfl)
    (ha : a.put oi.dst undef = a' := by simp only [Act.put, List.setIfInBounds_toArray, List.set_cons_zero, List.set_cons_succ]; rfl) (hc : anyT T (lit p k n).toList (lit p (k + 1) n).toList i = true := by kernel_rfl) (hQ : ∀ c a w, Q (.panic c) (a.put oi.dst undef) w → Q (.panic c) a w := by exact fun _ _ _ h => h) : wpAnyLast P .any ops Q S [] (fuel + 1) (lit p k n) a w :=
  pure_ (lit p (k + 1) n) hi rfl (any_of hT.out hc) hQ (Or.inr ⟨hw, rfl⟩) ha h
theorem rgL {W : World} (hT : Aside0 (rtab .any ops = T)) (h : wpAnyLast P .any ops Q (fun w' => Below W.heap.size W w') [] fuel (lit p (k + 1) n) a' w) (hS : Below W.heap.size W w := by exact bl) (hk : p[k]? = some i := by (try simp only [List.getElem?_cons_succ, List.getElem?_cons_zero]); rfl) (hi : ops[i]? = some oi := by (try simp only [List.getElem?_toArray, List.getElem?_cons_succ, List.getElem?_cons_zero]); rfl) (hw : Region.wanted oi (yielded ops a.tmps) = true := by rfl)
    (hy : ∀ w', Below W.heap.size W w' → (execOp a.eval oi).run P w' = .ok (.value v) w' := by intro w' hS_; obtain ⟨h1_, h2_⟩ := bcellS hS_; go_simp; with_reducible rfl)
    (ha : a.put oi.dst v = a' := by simp only [Act.put, List.setIfInBounds_toArray, List.set_cons_zero, List.set_cons_succ]; rfl) (hc : takeT T [] (lit p k n).toList (lit p (k + 1) n).toList i = true := by kernel_rfl) (hQ : ∀ c a w, Q (.panic c) (a.put oi.dst v) w → Q (.panic c) a w := by exact fun _ _ _ h => h) : wpAnyLast P .any ops Q (fun w' => Below W.heap.size W w') [] (fuel + 1) (lit p k n) a w :=
  take_ (lit p (k + 1) n) hi rfl (take_of hT.out hc) hQ (Or.inl ⟨hw, hy⟩) hS ha h
theorem rgGate {md : Region.Mode} {ds : List Nat} {l : Array Bool} (h : wpAnyLast P md ops Q S ds (fuel + 1) l a w) : wpAnyLast P md ops Q S ds (fuel + 1) l a w := h
/-- The act written out. -/
theorem rgN {l : Array Bool} (h : wpAnyLast P .any ops Q S [] fuel l a' w) (ha : a = a' := by simp only [Act.put, List.setIfInBounds_toArray, List.set_cons_zero, List.set_cons_succ]; rfl) : wpAnyLast P .any ops Q S [] fuel l a w := norm_ ha h
/-- A call of a Go function, by its contract, where it alone may come up. -/
theorem rgCall {f : FuncId} {fn : Func} {av : Array Operand} {ts : Array TypeId} {args : Array Value} {R : Ending → World → Prop} (hT : Aside0 (rtab .any ops = T)) (hf : P.funcs[f]? = some fn) (hcall : Calls P f args w R)
    (h : ∀ e w', R e w' → ∃ v, e = .returned v ∧ S w' ∧ wpAnyLast P .any ops Q S [] fuel (lit p (k + 1) n) (a.put oi.dst v) w')
    (hk : p[k]? = some i := by (try simp only [List.getElem?_cons_succ, List.getElem?_cons_zero]); rfl) (hi : ops[i]? = some oi := by (try simp only [List.getElem?_toArray, List.getElem?_cons_succ, List.getElem?_cons_zero]); rfl) (hop : oi.op = .call { callee := .value (.func f), args := av, argTypes := ts } := by rfl) (hc : (readyT T.2 (lit p k n).toList == [i] && (lit p k n).toList.set i true == (lit p (k + 1) n).toList) = true := by kernel_rfl)
    (hw : Region.wanted oi (yielded ops a.tmps) = true := by rfl) (hargs : av.map a.eval = args := by ((try simp only [List.map_toArray, List.map_cons, List.map_nil]); first | done | rfl))
    (hname : (fn.name == "runtime.NumGoroutine") = false := by kernel_rfl) (hb : fn.body.isSome = true := by rfl) : wpAnyLast P .any ops Q S [] (fuel + 1) (lit p k n) a w := by
  refine one_ (lit p (k + 1) n) hi rfl (one_of hT.out hc) (by simp) (fun K hK => ?_)
  refine goes_ hf hname hb args hw rfl hop hargs (hcall.mono fun e w' hr => ?_)
  obtain ⟨v, rfl, hs, hk⟩ := h e w' hr
  exact ⟨v, rfl, hK _ _ hs (fun _ => hk)⟩
/-- An operation that makes memory (alone may it come up); one that stores. -/
theorem rgE {w1 : World} (hT : Aside0 (rtab .any ops = T)) (h : wpAnyLast P .any ops Q S [] fuel (lit p (k + 1) n) a' w1) (hk : p[k]? = some i := by (try simp only [List.getElem?_cons_succ, List.getElem?_cons_zero]); rfl) (hi : ops[i]? = some oi := by (try simp only [List.getElem?_toArray, List.getElem?_cons_succ, List.getElem?_cons_zero]); rfl) (hw : Region.wanted oi (yielded ops a.tmps) = true := by rfl) (hrun : (execOp a.eval oi).run P w = .ok (.value v) w1 := by go_simp; exact ⟨rfl, rfl⟩)
    (ha : a.put oi.dst v = a' := by simp only [Act.put, List.setIfInBounds_toArray, List.set_cons_zero, List.set_cons_succ]; rfl) (hS : S w1 := by exact bl) (hc : (readyT T.2 (lit p k n).toList == [i] && (lit p k n).toList.set i true == (lit p (k + 1) n).toList) = true := by kernel_rfl) : wpAnyLast P .any ops Q S [] (fuel + 1) (lit p k n) a w := by
  refine one_ (lit p (k + 1) n) hi rfl (one_of hT.out hc) (by simp) (fun K hK => event_step hw hrun (hK _ _ hS (fun _ => ?_)))
  rw [ha]
  exact h
theorem rgSt {w1 : World} (hT : Aside0 (rtab .any ops = T)) (h : wpAnyLast P .any ops Q S [] fuel (lit p (k + 1) n) a w1) (hk : p[k]? = some i := by (try simp only [List.getElem?_cons_succ, List.getElem?_cons_zero]); rfl) (hi : ops[i]? = some oi := by (try simp only [List.getElem?_toArray, List.getElem?_cons_succ, List.getElem?_cons_zero]); rfl) (hw : Region.wanted oi (yielded ops a.tmps) = true := by rfl) (hrun : (execOp a.eval oi).run P w = .ok .skip w1 := by first | (go_simp; done) | (go_simp; with_reducible rfl))
    (hd : oi.dst = none := by rfl) (hS : S w1 := by exact bl) (hc : (readyT T.2 (lit p k n).toList == [i] && (lit p k n).toList.set i true == (lit p (k + 1) n).toList) = true := by kernel_rfl) : wpAnyLast P .any ops Q S [] (fuel + 1) (lit p k n) a w := by
  refine one_ (lit p (k + 1) n) hi rfl (one_of hT.out hc) (by simp) (fun K hK => ?_)
  rw [if_pos hw]
  unfold Oper.wp
  rw [hrun]
  show K (a.put oi.dst undef) w1
  rw [hd]
  exact hK _ _ hS (fun _ => h)
theorem rgDone (hT : Aside0 (rtab .any ops = T)) (h : Q .normal a w) (hc : (readyT T.2 (lit p n n).toList == []) = true := by kernel_rfl) : wpAnyLast P .any ops Q S [] i (lit p n n) a w := done_ (done_of hT.out hc) h
end
end Go.Proofs.Ytlebgjafaioajaa
