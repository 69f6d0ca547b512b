/- A region that draws its order, walked in the order of its text: each step with its side proofs as default arguments. -/
import Derived.Test.YtfapledohlckoaaV
namespace Go.Proofs.Ytfapledohlckoaa
open Go.RowKit Go.Proofs.YtfapledohlckoaaW.PrintWords Go.Proofs.YtfapledohlckoaaW.PrintLast
set_option linter.unusedVariables false
set_option linter.unusedSimpArgs false
/-- The first i of n operations have come up. -/
def lit (i n : Nat) : Array Bool := (List.replicate i true ++ List.replicate (n - i) false).toArray
section
variable {P : Program} {ops : Array Oper} {Q : Exit → Act → World → Prop} {S : World → Prop} {T : Bool × List (List Nat × List Nat)} {i n fuel : Nat} {oi : Oper} {v : Value} {a a' : Act} {w : World}
theorem rgStart {id : Nat} (n : Nat) (hT : rtab .any ops = T) (h : Aside0 (rtab .any ops = T) → Aside0 (Below w.heap.size w w.drew) → wpAnyLast P .any ops Q (fun w' => Below w.heap.size w w') [] n (lit 0 n) a w.drew)
    (hm : P.follows .mixedOrders = true := by kernel_rfl) (hn : ops.size = n := by rfl) (hl : Array.replicate n false = lit 0 n := by rfl) : (Code.region id ops true).wp P Q a w :=
  start_ (lit 0 n) hm hn hl (below_drew1 (Below.refl _ _)) (fun hs => h ⟨hT⟩ ⟨hs⟩)
theorem rgPure (hT : Aside0 (rtab .any ops = T)) (hi : ops[i]? = some oi) (hy : Yields P ops oi v a) (ha : a.put oi.dst v = a') (h : wpAnyLast P .any ops Q S [] fuel (lit (i + 1) n) a' w)
    (hc : anyT T (lit i n).toList (lit (i + 1) n).toList i = true := by kernel_rfl) (hQ : ∀ c a w, Q (.panic c) (a.put oi.dst v) w → Q (.panic c) a w := by exact fun _ _ _ h => h) : wpAnyLast P .any ops Q S [] (fuel + 1) (lit i n) a w :=
  pure_ (lit (i + 1) n) hi rfl (any_of hT.out hc) hQ hy ha h
theorem rgTake (hT : Aside0 (rtab .any ops = T)) (hS : S w) (hi : ops[i]? = some oi) (hy : YieldsIf P ops S oi v a) (ha : a.put oi.dst v = a') (h : wpAnyLast P .any ops Q S [] fuel (lit (i + 1) n) a' w)
    (hc : takeT T [] (lit i n).toList (lit (i + 1) n).toList i = true := by kernel_rfl) (hQ : ∀ c a w, Q (.panic c) (a.put oi.dst v) w → Q (.panic c) a w := by exact fun _ _ _ h => h) : wpAnyLast P .any ops Q S [] (fuel + 1) (lit i n) a w :=
  take_ (lit (i + 1) n) hi rfl (take_of hT.out hc) hQ hy hS ha h
theorem rgCall {f : FuncId} {fn : Func} {av : Array Operand} {ts : Array TypeId} {args : Array Value} {R : Ending → World → Prop} (hT : Aside0 (rtab .any ops = T)) (hf : P.funcs[f]? = some fn) (hcall : Calls P f args w R)
    (h : ∀ e w', R e w' → ∃ v, e = .returned v ∧ S w' ∧ (S w' → wpAnyLast P .any ops Q S [] fuel (lit (i + 1) n) (a.put oi.dst v) w'))
    (hi : ops[i]? = some oi := by (try simp only [List.getElem?_toArray, List.getElem?_cons_succ, List.getElem?_cons_zero]); rfl) (hop : oi.op = .call { callee := .value (.func f), args := av, argTypes := ts } := by rfl) (hc : (readyT T.2 (lit i n).toList == [i] && (lit i n).toList.set i true == (lit (i + 1) n).toList) = true := by kernel_rfl)
    (hw : Region.wanted oi (yielded ops a.tmps) = true := by rfl) (hargs : av.map a.eval = args := by ((try simp only [List.map_toArray, List.map_cons, List.map_nil]); first | done | rfl))
    (hname : (fn.name == "runtime.NumGoroutine") = false := by kernel_rfl) (hb : fn.body.isSome = true := by rfl) : wpAnyLast P .any ops Q S [] (fuel + 1) (lit i n) a w := by
  refine one_ (lit (i + 1) n) hi rfl (one_of hT.out hc) (by simp) (fun K hK => ?_)
  refine goes_ hf hname hb args hw rfl hop hargs (hcall.mono fun e w' hr => ?_)
  obtain ⟨v, rfl, hs, hk⟩ := h e w' hr
  exact ⟨v, rfl, hK _ _ hs hk⟩
/-- One step: an operation that yields in every world; in every later world (S: 'what was there is as it was'); one that its guard doesn't want. -/
theorem rgP (hT : Aside0 (rtab .any ops = T)) (h : wpAnyLast P .any ops Q S [] fuel (lit (i + 1) n) a' w) (hi : ops[i]? = some oi := by (try simp only [List.getElem?_toArray, List.getElem?_cons_succ, List.getElem?_cons_zero]); rfl) (hw : Region.wanted oi (yielded ops a.tmps) = true := by rfl) (hy : ∀ w', (execOp a.eval oi).run P w' = .ok (.value v) w' := by intro w'; go_simp; with_reducible rfl)
    (ha : a.put oi.dst v = a' := by simp only [Act.put, List.setIfInBounds_toArray, List.set_cons_zero, List.set_cons_succ]; rfl) (hc : anyT T (lit i n).toList (lit (i + 1) n).toList i = true := by kernel_rfl) (hQ : ∀ c a w, Q (.panic c) (a.put oi.dst v) w → Q (.panic c) a w := by exact fun _ _ _ h => h) : wpAnyLast P .any ops Q S [] (fuel + 1) (lit i n) a w :=
  pure_ (lit (i + 1) n) hi rfl (any_of hT.out hc) hQ (Or.inl ⟨hw, hy⟩) ha h
theorem rgG (hT : Aside0 (rtab .any ops = T)) (h : wpAnyLast P .any ops Q S [] fuel (lit (i + 1) n) a' w) (hi : ops[i]? = some oi := by (try simp only [List.getElem?_toArray, List.getElem?_cons_succ, List.getElem?_cons_zero]); rfl) (hw : Region.wanted oi (yielded ops a.tmps) = false := by rfl)
    (ha : a.put oi.dst undef = a' := by simp only [Act.put, List.setIfInBounds_toArray, List.set_cons_zero, List.set_cons_succ]; rfl) (hc : anyT T (lit i n).toList (lit (i + 1) n).toList i = true := by kernel_rfl) (hQ : ∀ c a w, Q (.panic c) (a.put oi.dst undef) w → Q (.panic c) a w := by exact fun _ _ _ h => h) : wpAnyLast P .any ops Q S [] (fuel + 1) (lit i n) a w :=
  pure_ (lit (i + 1) n) hi rfl (any_of hT.out hc) hQ (Or.inr ⟨hw, rfl⟩) ha h
theorem rgL {W : World} (hT : Aside0 (rtab .any ops = T)) (h : wpAnyLast P .any ops Q (fun w' => Below W.heap.size W w') [] fuel (lit (i + 1) n) a' w) (hS : Below W.heap.size W w := by exact bl) (hi : ops[i]? = some oi := by (try simp only [List.getElem?_toArray, List.getElem?_cons_succ, List.getElem?_cons_zero]); rfl) (hw : Region.wanted oi (yielded ops a.tmps) = true := by rfl)
    (hy : ∀ w', Below W.heap.size W w' → (execOp a.eval oi).run P w' = .ok (.value v) w' := by intro w' hS_; obtain ⟨h1_, h2_⟩ := bcellS hS_; go_simp; with_reducible rfl)
    (ha : a.put oi.dst v = a' := by simp only [Act.put, List.setIfInBounds_toArray, List.set_cons_zero, List.set_cons_succ]; rfl) (hc : takeT T [] (lit i n).toList (lit (i + 1) n).toList i = true := by kernel_rfl) (hQ : ∀ c a w, Q (.panic c) (a.put oi.dst v) w → Q (.panic c) a w := by exact fun _ _ _ h => h) : wpAnyLast P .any ops Q (fun w' => Below W.heap.size W w') [] (fuel + 1) (lit i n) a w :=
  take_ (lit (i + 1) n) hi rfl (take_of hT.out hc) hQ (Or.inl ⟨hw, hy⟩) hS ha h
theorem rgGate {md : Region.Mode} {ds : List Nat} {l : Array Bool} (h : wpAnyLast P md ops Q S ds (fuel + 1) l a w) : wpAnyLast P md ops Q S ds (fuel + 1) l a w := h
/-- The act written out. -/
theorem rgN {l : Array Bool} (h : wpAnyLast P .any ops Q S [] fuel l a' w) (ha : a = a' := by simp only [Act.put, List.setIfInBounds_toArray, List.set_cons_zero, List.set_cons_succ]; rfl) : wpAnyLast P .any ops Q S [] fuel l a w := norm_ ha h
theorem rgDone (hT : Aside0 (rtab .any ops = T)) (h : Q .normal a w) (hc : (readyT T.2 (lit n n).toList == []) = true := by kernel_rfl) : wpAnyLast P .any ops Q S [] i (lit n n) a w := done_ (done_of hT.out hc) h
end
end Go.Proofs.Ytfapledohlckoaa
