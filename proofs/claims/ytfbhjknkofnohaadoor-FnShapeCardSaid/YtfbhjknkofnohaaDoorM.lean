/- Drawn regions that store; marks of points; what a call keeps; two orders. -/
import Derived.Test.YtfbhjknkofnohaaDoorV
import Derived.Test.YtfbhjknkofnohaaDoorA
namespace Go.Proofs.YtfbhjknkofnohaaDoor
section
open Go.RowKit Go.Proofs.YtfbhjknkofnohaaDoorW.PrintWords Go.Proofs.YtfbhjknkofnohaaDoorW.PrintLast
set_option linter.unusedVariables false
set_option linter.unusedSimpArgs false
theorem cell_set_far (W : World) (b i b' i' : Nat) (v : Value) (h : (b == b') = false) : (W.setCell ⟨b', i', none⟩ v).cell? ⟨b, i, none⟩ = W.cell? ⟨b, i, none⟩ :=
  World.cell?_of_block (w := W) (Below.heap_setCell W _ _ _ (by simpa using h))
theorem cell_set_off (W : World) (b i j : Nat) (v : Value) (h : (j == i) = false) : (W.setCell ⟨b, i, none⟩ v).cell? ⟨b, j, none⟩ = W.cell? ⟨b, j, none⟩ :=
  World.cell?_setCell_other _ _ _ _ (by intro e; simp at e h; exact h e.symm)
theorem Cells.set {L : List (Addr × Value)} {w : World} (b i : Nat) (v : Value) : Cells w L → (L.all fun x => x.1.block != b) = true → Cells (w.setCell ⟨b, i, none⟩ v) L := by
  induction L with
  | nil => exact fun _ _ => trivial
  | cons x r ih =>
    intro h hf
    simp only [List.all_cons, Bool.and_eq_true, bne_iff_ne] at hf
    refine ⟨?_, ih h.2 hf.2⟩
    rw [← h.1]
    exact World.cell?_of_block (w := w) (Below.heap_setCell w _ _ _ hf.1)
section
variable {P : Program} {ops : Array Oper} {Q : Exit → Act → World → Prop} {S : World → Prop} {T : Bool × List (List Nat × List Nat)} {i k n fuel : Nat} {p ds : List Nat} {oi : Oper} {v : Value} {a a' : Act} {w : World} {L : List (Addr × Value)}
theorem cgStart {id : Nat} (n : Nat) (p ds : List Nat) (L : List (Addr × Value)) (hT : rtab .any ops = T) (hL : Cells w L) (h : Aside0 (rtab .any ops = T) → Cells w.drew L → wpAnyLast P .any ops Q (fun w' => Cells w' L) ds n (lit p 0 n) a w.drew)
    (hm : P.follows .mixedOrders = true := by kernel_rfl) (hn : ops.size = n := by rfl) (hl : Array.replicate n false = lit p 0 n := by rfl) : (Code.region id ops true).wp P Q a w :=
  start_ (lit p 0 n) hm hn hl (hL.to (below_drew1 (Below.refl _ _))) (fun hs => h ⟨hT⟩ hs)
theorem cgP (hT : Aside0 (rtab .any ops = T)) (h : wpAnyLast P .any ops Q S ds fuel (lit p (k + 1) n) a' w) (hk : p[k]? = some i := by (try simp only [List.getElem?_cons_succ, List.getElem?_cons_zero]); rfl) (hi : ops[i]? = some oi := by (try simp only [List.getElem?_toArray, List.getElem?_cons_succ, List.getElem?_cons_zero]); rfl) (hw : Region.wanted oi (yielded ops a.tmps) = true := by rfl) (hy : ∀ w', (execOp a.eval oi).run P w' = .ok (.value v) w' := by intro w'; go_simp; with_reducible rfl)
    (ha : a.put oi.dst v = a' := by simp only [Act.put, List.setIfInBounds_toArray, List.set_cons_zero, List.set_cons_succ]; rfl) (hc : anyT T (lit p k n).toList (lit p (k + 1) n).toList i = true := by kernel_rfl) (hQ : ∀ c a w, Q (.panic c) (a.put oi.dst v) w → Q (.panic c) a w := by exact fun _ _ _ h => h) : wpAnyLast P .any ops Q S ds (fuel + 1) (lit p k n) a w :=
  pure_ (lit p (k + 1) n) hi rfl (any_of hT.out hc) hQ (Or.inl ⟨hw, hy⟩) ha h
theorem cgG (hT : Aside0 (rtab .any ops = T)) (h : wpAnyLast P .any ops Q S ds fuel (lit p (k + 1) n) a' w) (hk : p[k]? = some i := by (try simp only [List.getElem?_cons_succ, List.getElem?_cons_zero]); rfl) (hi : ops[i]? = some oi := by (try simp only [List.getElem?_toArray, List.getElem?_cons_succ, List.getElem?_cons_zero]); rfl) (hw : Region.wanted oi (yielded ops a.tmps) = false := by rfl)
    (ha : a.put oi.dst undef = a' := by simp only [Act.put, List.setIfInBounds_toArray, List.set_cons_zero, List.set_cons_succ]; rfl) (hc : anyT T (lit p k n).toList (lit p (k + 1) n).toList i = true := by kernel_rfl) (hQ : ∀ c a w, Q (.panic c) (a.put oi.dst undef) w → Q (.panic c) a w := by exact fun _ _ _ h => h) : wpAnyLast P .any ops Q S ds (fuel + 1) (lit p k n) a w :=
  pure_ (lit p (k + 1) n) hi rfl (any_of hT.out hc) hQ (Or.inr ⟨hw, rfl⟩) ha h
theorem cgL (hT : Aside0 (rtab .any ops = T)) (h : wpAnyLast P .any ops Q (fun w' => Cells w' L) ds fuel (lit p (k + 1) n) a' w) (hS : Cells w L := by assumption) (hk : p[k]? = some i := by (try simp only [List.getElem?_cons_succ, List.getElem?_cons_zero]); rfl) (hi : ops[i]? = some oi := by (try simp only [List.getElem?_toArray, List.getElem?_cons_succ, List.getElem?_cons_zero]); rfl) (hw : Region.wanted oi (yielded ops a.tmps) = true := by rfl)
    (hy : ∀ w', Cells w' L → (execOp a.eval oi).run P w' = .ok (.value v) w' := by intro w' hS_; simp only [Cells, and_true] at hS_; go_simp; with_reducible rfl)
    (ha : a.put oi.dst v = a' := by simp only [Act.put, List.setIfInBounds_toArray, List.set_cons_zero, List.set_cons_succ]; rfl) (hc : takeT T ds (lit p k n).toList (lit p (k + 1) n).toList i = true := by kernel_rfl) (hQ : ∀ c a w, Q (.panic c) (a.put oi.dst v) w → Q (.panic c) a w := by exact fun _ _ _ h => h) : wpAnyLast P .any ops Q (fun w' => Cells w' L) ds (fuel + 1) (lit p k n) a w :=
  take_ (lit p (k + 1) n) hi rfl (take_of hT.out hc) hQ (Or.inl ⟨hw, hy⟩) hS ha h
theorem cgGate {md : Region.Mode} {l : Array Bool} (h : wpAnyLast P md ops Q S ds (fuel + 1) l a w) : wpAnyLast P md ops Q S ds (fuel + 1) l a w := h
theorem cgN {l : Array Bool} (h : wpAnyLast P .any ops Q S ds fuel l a' w) (ha : a = a' := by simp only [Act.put, List.setIfInBounds_toArray, List.set_cons_zero, List.set_cons_succ]; rfl) : wpAnyLast P .any ops Q S ds fuel l a w := norm_ ha h
theorem cgCall {f : FuncId} {fn : Func} {av : Array Operand} {ts : Array TypeId} {args : Array Value} {R : Ending → World → Prop} (hT : Aside0 (rtab .any ops = T)) (hf : P.funcs[f]? = some fn) (hcall : Calls P f args w R)
    (h : ∀ e w', R e w' → ∃ v, e = .returned v ∧ S w' ∧ wpAnyLast P .any ops Q S ds fuel (lit p (k + 1) n) (a.put oi.dst v) w')
    (hk : p[k]? = some i := by (try simp only [List.getElem?_cons_succ, List.getElem?_cons_zero]); rfl) (hi : ops[i]? = some oi := by (try simp only [List.getElem?_toArray, List.getElem?_cons_succ, List.getElem?_cons_zero]); rfl) (hop : oi.op = .call { callee := .value (.func f), args := av, argTypes := ts } := by rfl) (hc : (readyT T.2 (lit p k n).toList == [i] && (lit p k n).toList.set i true == (lit p (k + 1) n).toList) = true := by kernel_rfl) (hd : i ∉ ds := by decide)
    (hw : Region.wanted oi (yielded ops a.tmps) = true := by rfl) (hargs : av.map a.eval = args := by ((try simp only [List.map_toArray, List.map_cons, List.map_nil]); first | done | rfl))
    (hname : (fn.name == "runtime.NumGoroutine") = false := by kernel_rfl) (hb : fn.body.isSome = true := by rfl) : wpAnyLast P .any ops Q S ds (fuel + 1) (lit p k n) a w := by
  refine one_ (lit p (k + 1) n) hi rfl (one_of hT.out hc) hd (fun K hK => ?_)
  refine goes_ hf hname hb args hw rfl hop hargs (hcall.mono fun e w' hr => ?_)
  obtain ⟨v, rfl, hs, hk⟩ := h e w' hr
  exact ⟨v, rfl, hK _ _ hs (fun _ => hk)⟩
/-- Makes a value or memory, alone. -/
theorem cgE {w1 : World} (hT : Aside0 (rtab .any ops = T)) (h : Cells w1 L → wpAnyLast P .any ops Q (fun w' => Cells w' L) ds fuel (lit p (k + 1) n) a' w1) (hk : p[k]? = some i := by (try simp only [List.getElem?_cons_succ, List.getElem?_cons_zero]); rfl) (hi : ops[i]? = some oi := by (try simp only [List.getElem?_toArray, List.getElem?_cons_succ, List.getElem?_cons_zero]); rfl) (hw : Region.wanted oi (yielded ops a.tmps) = true := by rfl) (hrun : (execOp a.eval oi).run P w = .ok (.value v) w1 := by go_simp; exact ⟨rfl, rfl⟩)
    (ha : a.put oi.dst v = a' := by simp only [Act.put, List.setIfInBounds_toArray, List.set_cons_zero, List.set_cons_succ]; rfl) (hS : Cells w1 L := by first | assumption | exact Cells.to (by assumption) bl) (hd : i ∉ ds := by decide) (hc : (readyT T.2 (lit p k n).toList == [i] && (lit p k n).toList.set i true == (lit p (k + 1) n).toList) = true := by kernel_rfl) : wpAnyLast P .any ops Q (fun w' => Cells w' L) ds (fuel + 1) (lit p k n) a w := by
  refine one_ (lit p (k + 1) n) hi rfl (one_of hT.out hc) hd (fun K hK => event_step hw hrun (hK _ _ hS (fun _ => ?_)))
  rw [ha]
  exact h hS
/-- A store that S outlives; one of ds. -/
theorem cgSt {w1 : World} (hT : Aside0 (rtab .any ops = T)) (hS : Cells w1 L) (h : Cells w1 L → wpAnyLast P .any ops Q (fun w' => Cells w' L) ds fuel (lit p (k + 1) n) a w1) (hk : p[k]? = some i := by (try simp only [List.getElem?_cons_succ, List.getElem?_cons_zero]); rfl) (hi : ops[i]? = some oi := by (try simp only [List.getElem?_toArray, List.getElem?_cons_succ, List.getElem?_cons_zero]); rfl) (hw : Region.wanted oi (yielded ops a.tmps) = true := by rfl) (hrun : (execOp a.eval oi).run P w = .ok .skip w1 := by first | (go_simp; done) | (go_simp; with_reducible rfl))
    (hn : oi.dst = none := by rfl) (hd : i ∉ ds := by decide) (hc : (readyT T.2 (lit p k n).toList == [i] && (lit p k n).toList.set i true == (lit p (k + 1) n).toList) = true := by kernel_rfl) : wpAnyLast P .any ops Q (fun w' => Cells w' L) ds (fuel + 1) (lit p k n) a w := by
  refine one_ (lit p (k + 1) n) hi rfl (one_of hT.out hc) hd (fun K hK => ?_)
  rw [if_pos hw]
  unfold Oper.wp
  rw [hrun]
  show K (a.put oi.dst undef) w1
  rw [hn]
  exact hK _ _ hS (fun _ => h hS)
theorem cgLast {w1 : World} (hT : Aside0 (rtab .any ops = T)) (h : wpAnyLast P .any ops Q S ds fuel (lit p (k + 1) n) a w1) (hk : p[k]? = some i := by (try simp only [List.getElem?_cons_succ, List.getElem?_cons_zero]); rfl) (hi : ops[i]? = some oi := by (try simp only [List.getElem?_toArray, List.getElem?_cons_succ, List.getElem?_cons_zero]); rfl) (hw : Region.wanted oi (yielded ops a.tmps) = true := by rfl) (hrun : (execOp a.eval oi).run P w = .ok .skip w1 := by first | (go_simp; done) | (go_simp; with_reducible rfl))
    (hn : oi.dst = none := by rfl) (hd : i ∈ ds := by decide) (hc : (readyT T.2 (lit p k n).toList == [i] && (lit p k n).toList.set i true == (lit p (k + 1) n).toList) = true := by kernel_rfl) : wpAnyLast P .any ops Q S ds (fuel + 1) (lit p k n) a w := by
  refine last_ (lit p (k + 1) n) hi rfl (one_of hT.out hc) hd (fun K hK => ?_)
  rw [if_pos hw]
  unfold Oper.wp
  rw [hrun]
  show K (a.put oi.dst undef) w1
  rw [hn]
  exact hK _ _ h
theorem cgDone (hT : Aside0 (rtab .any ops = T)) (h : Q .normal a w) (hc : (readyT T.2 (lit p n n).toList == []) = true := by kernel_rfl) : wpAnyLast P .any ops Q S ds i (lit p n n) a w := done_ (done_of hT.out hc) h
end
/-- A block of two cells. -/
def B2 (W : World) (b : Nat) (t : TypeId) (u v : Value) : Prop := W.heap[b]? = some (.cells #[u, v] t (0, 0))
section
variable {W W1 : World} {b b' i : Nat} {t : TypeId} {u v x y : Value}
theorem B2.f (h : B2 W b t u v) : W.cell? ⟨b, 0, none⟩ = some u ∧ W.cell? ⟨b, 1, none⟩ = some v ∧ W.frozen? ⟨b, 0, none⟩ = false ∧ W.frozen? ⟨b, 1, none⟩ = false ∧ b < W.heap.size := by
  unfold B2 at h
  have hb : b < W.heap.size := by
    rcases Nat.lt_or_ge b W.heap.size with h1 | h1
    · exact h1
    · rw [Array.getElem?_eq_none h1] at h; cases h
  refine ⟨?_, ?_, ?_, ?_, hb⟩ <;> simp [World.cell?, World.frozen?, h]
theorem B2.new (w : World) : B2 (w.alloc (.cells #[u, v] t)) w.heap.size t u v := by
  unfold B2 World.alloc
  simp
theorem B2.new' (w : World) (b : Nat) (u v : Value) (t : TypeId) (hb : Below (w.alloc (.cells #[u, v] t)).heap.size (w.alloc (.cells #[u, v] t)) W := by exact bl) (h : b = w.heap.size := by first | rfl | (simp; done)) : B2 W b t u v := by
  subst h
  have := hb.block w.heap.size (by simp)
  unfold B2
  rw [this]
  exact B2.new w
theorem B2.to (h : B2 W b t u v) (hb : Below W.heap.size W W1) : B2 W1 b t u v := by
  have := hb.block b h.f.2.2.2.2
  unfold B2 at h ⊢
  rw [this, h]
theorem B2.one (h : B2 W b t u v) (hb : Below W.heap.size W W1) : B2 W1 b t u v := h.to hb
theorem B2.far (h : B2 W b t u v) (hne : (b == b') = false) : B2 (W.setCell ⟨b', i, none⟩ x) b t u v := by
  unfold B2 at h ⊢
  rw [Below.heap_setCell W _ _ _ (by simpa using hne), h]
/-- The block in a later world: stores into other blocks, new blocks, draws, calls. -/
theorem B2.tr (h : B2 W b t u v) (tr : B2 W b t u v → B2 W1 b t u v := by intro h_; repeat (with_reducible first | exact h_ | refine B2.far ?_ (by first | assumption | (simp; done) | (simp; omega)) | refine B2.one ?_ (by first | exact below_alloc (Below.refl _ _) _ | exact below_drew1 (Below.refl _ _) | exact pw_below_drewN (Below.refl _ _) _ | assumption))) : B2 W1 b t u v := tr h
theorem B2.set (h : B2 W b t u v) (x y : Value) : B2 ((W.setCell ⟨b, 0, none⟩ x).setCell ⟨b, 1, none⟩ y) b t x y := by
  unfold B2 at h ⊢
  simp [World.setCell, Array.getElem?_modify, h]
end
theorem Cells.two {w W : World} {u v u' v' : Value} {t t' : TypeId} {L : List (Addr × Value)} (h : Cells w L) (hb : Below ((w.alloc (.cells #[u, v] t)).alloc (.cells #[u', v'] t')).heap.size ((w.alloc (.cells #[u, v] t)).alloc (.cells #[u', v'] t')) W) : Cells W ((⟨w.heap.size, 0, none⟩, u) :: (⟨w.heap.size, 1, none⟩, v) :: (⟨w.heap.size + 1, 0, none⟩, u') :: (⟨w.heap.size + 1, 1, none⟩, v') :: L) := by
  have h1 : Below (w.alloc (.cells #[u, v] t)).heap.size (w.alloc (.cells #[u, v] t)) W := bl
  have h2 := cbn (w := w.alloc (.cells #[u, v] t)) 0 hb (v := u') rfl
  have h3 := cbn (w := w.alloc (.cells #[u, v] t)) 1 hb (v := v') rfl
  rw [World.size_alloc] at h2 h3
  exact ⟨cbn 0 h1 rfl, cbn 1 h1 rfl, h2, h3, h.to (below_then (below_alloc (Below.refl _ _) _) (by simp) h1)⟩
section
variable {P : Program} {ops : Array Oper} {Q : Exit → Act → World → Prop} {T : Bool × List (List Nat × List Nat)} {i k n fuel : Nat} {p ds : List Nat} {oi : Oper} {a : Act} {w : World} {L : List (Addr × Value)}
/-- Two fresh blocks of one form, in either order. -/
theorem cg2A {j : Nat} {oj : Oper} {u0 v0 : Value} {t0 : TypeId} {a2 : Value → Value → Act} (hT : Aside0 (rtab .any ops = T)) (hS : Cells w L)
    (h : ∀ bi bj w2, Below w.heap.size w w2 → w.heap.size ≤ bi → w.heap.size ≤ bj → (bi == bj) = false → (bj == bi) = false → B2 w2 bi t0 u0 v0 → B2 w2 bj t0 u0 v0 → Cells w2 L → wpAnyLast P .any ops Q (fun w' => Cells w' L) ds fuel (lit p (k + 2) n) (a2 (.pointer (some ⟨bi, 0, none⟩)) (.pointer (some ⟨bj, 0, none⟩))) w2)
    (hk : p[k]? = some i := by (try simp only [List.getElem?_cons_succ, List.getElem?_cons_zero]); rfl) (hk2 : p[k + 1]? = some j := by (try simp only [List.getElem?_cons_succ, List.getElem?_cons_zero]); rfl) (hi : ops[i]? = some oi := by (try simp only [List.getElem?_toArray, List.getElem?_cons_succ, List.getElem?_cons_zero]); rfl) (hj : ops[j]? = some oj := by (try simp only [List.getElem?_toArray, List.getElem?_cons_succ, List.getElem?_cons_zero]); rfl)
    (hw : ∀ t, Region.wanted oi t = true := by exact fun _ => rfl) (hw2 : ∀ t, Region.wanted oj t = true := by exact fun _ => rfl)
    (hri : ∀ (e : Operand → Value) w', (execOp e oi).run P w' = .ok (.value (.pointer (some ⟨w'.heap.size, 0, none⟩))) (w'.alloc (.cells #[u0, v0] t0)) := by intro e w'; go_simp; try rfl) (hrj : ∀ (e : Operand → Value) w', (execOp e oj).run P w' = .ok (.value (.pointer (some ⟨w'.heap.size, 0, none⟩))) (w'.alloc (.cells #[u0, v0] t0)) := by intro e w'; go_simp; try rfl)
    (ha : ∀ x y, (a.put oi.dst x).put oj.dst y = a2 x y := by intro x y; simp only [Act.put, List.setIfInBounds_toArray, List.set_cons_zero, List.set_cons_succ]; rfl) (ha2 : ∀ x y, (a.put oj.dst y).put oi.dst x = a2 x y := by intro x y; simp only [Act.put, List.setIfInBounds_toArray, List.set_cons_zero, List.set_cons_succ] <;> rfl)
    (hd : i ∉ ds := by decide) (hd2 : j ∉ ds := by decide)
    (hc : (readyT T.2 (lit p k n).toList == [i, j] && (lit p k n).toList.set i true == (lit p (k + 1) n).toList && (lit p k n).toList.set j true == ((lit p k n).setIfInBounds j true).toList) = true := by kernel_rfl)
    (hc1 : (readyT T.2 (lit p (k + 1) n).toList == [j] && (lit p (k + 1) n).toList.set j true == (lit p (k + 2) n).toList) = true := by kernel_rfl)
    (hc2 : (readyT T.2 ((lit p k n).setIfInBounds j true).toList == [i] && ((lit p k n).setIfInBounds j true).toList.set i true == (lit p (k + 2) n).toList) = true := by kernel_rfl) : wpAnyLast P .any ops Q (fun w' => Cells w' L) ds (fuel + 2) (lit p k n) a w := by
  let o : Obj := .cells #[u0, v0] t0
  have q0 : B2 ((w.alloc o).alloc o) w.heap.size t0 u0 v0 := B2.new' w _ _ _ _
  have q1 : B2 ((w.alloc o).alloc o) (w.heap.size + 1) t0 u0 v0 := B2.new' (w.alloc o) _ _ _ _
  have qb : Below w.heap.size w ((w.alloc o).alloc o) := bl
  have s1 : Cells (w.alloc o) L := hS.to (below_alloc (Below.refl _ _) o)
  have s2 : Cells ((w.alloc o).alloc o) L := s1.to (below_alloc (Below.refl _ _) o)
  refine two_ (lit p (k + 1) n) ((lit p k n).setIfInBounds j true) hi hj rfl rfl (two_of hT.out hc) hd hd2 (fun K hK => ?_) (fun K hK => ?_)
  · refine event_step (hw _) (hri _ _) (hK _ _ s1 (fun _ => ?_))
    refine one_ (lit p (k + 2) n) hj rfl (one_of hT.out hc1) hd2 (fun K hK => ?_)
    refine event_step (hw2 _) (hrj _ _) (hK _ _ s2 (fun _ => ?_))
    rw [ha, World.size_alloc]
    exact h _ _ _ qb (Nat.le_refl _) (Nat.le_succ _) (by simp) (by simp) q0 q1 s2
  · refine event_step (hw2 _) (hrj _ _) (hK _ _ s1 (fun _ => ?_))
    refine one_ (lit p (k + 2) n) hi rfl (one_of hT.out hc2) hd (fun K hK => ?_)
    refine event_step (hw _) (hri _ _) (hK _ _ s2 (fun _ => ?_))
    rw [ha2, World.size_alloc]
    exact h _ _ _ qb (Nat.le_succ _) (Nat.le_refl _) (by simp) (by simp) q1 q0 s2
end
end
section
open Go.RowKit Go.Proofs.YtfbhjknkofnohaaDoorW.PrintWords Go.Proofs.YtfbhjknkofnohaaDoorW.PrintLast
set_option linter.unusedVariables false
set_option linter.unusedSimpArgs false
/-- All but the blocks from lo below hi is as it was. -/
def Ex (lo hi : Nat) (w w' : World) : Prop := Below lo w w' ∧ ∀ k, hi ≤ k → k < w.heap.size → w'.heap[k]? = w.heap[k]?
theorem RI.ex {α : Type} {d : Kd α} {e lo hi lo' hi' : Nat} {w w' : World} {v : Value} {xs : List α} (h : RI d e w lo' hi' v xs) (hx : Ex lo hi w w') (hd : hi' ≤ lo ∨ hi ≤ lo') : RI d e w' lo' hi' v xs := by
  refine Kd.R_mono (Kd.R_step (Kd.R_bound h) (fun k hk hlt => ?_)) (fun _ hk => hk.1)
  rcases hd with hd | hd
  · exact hx.1.block k (Nat.lt_of_lt_of_le hk.1 hd)
  · exact hx.2 k (Nat.le_trans hd hk.2.1) hlt
theorem Ex.refl (lo hi : Nat) (w : World) : Ex lo hi w w := ⟨Below.refl _ _, fun _ _ _ => rfl⟩
theorem Ex.set {lo hi : Nat} {w w' : World} (h : Ex lo hi w w') {b i : Nat} {v : Value} (h1 : lo ≤ b) (h2 : b < hi) : Ex lo hi w (w'.setCell ⟨b, i, none⟩ v) :=
  ⟨h.1.setCell h1 _, fun k hk hlt => by rw [Below.heap_setCell _ _ _ _ (show k ≠ b by omega)]; exact h.2 k hk hlt⟩
theorem Ex.drewN {lo hi : Nat} {w w' : World} (h : Ex lo hi w w') (n : Nat) : Ex lo hi w (w'.drewN n) := ⟨⟨h.1.os, h.1.tape, h.1.output, h.1.size, h.1.block⟩, h.2⟩
def mark1 (k : Int) (i : Nat) : Pt := (k + 2 * (i : Int), k + 2 * (i : Int) + 1)
def markL (k : Int) (n : Nat) : List Pt := (List.range n).map (mark1 k)
theorem markL_len (k : Int) (n : Nat) : (markL k n).length = n := by simp [markL]
theorem markL_get (k : Int) (n i : Nat) (h : i < (markL k n).length) : (markL k n)[i] = mark1 k i := by simp [markL]
theorem mark_set (l : List Pt) (k : Int) (i : Nat) (h : i < l.length) : ((markL k l.length).take i ++ l.drop i).set i (k + 2 * (i : Int), k + 2 * (i : Int) + 1) = (markL k l.length).take (i + 1) ++ l.drop (i + 1) := by
  have hm : i < (markL k l.length).length := by rw [markL_len]; exact h
  have hl : ((markL k l.length).take i).length = i := by rw [List.length_take]; omega
  rw [List.set_append_right _ _ (by omega), hl, Nat.sub_self, List.take_succ_eq_append_getElem hm, markL_get, List.drop_eq_getElem_cons h, List.set_cons_zero, List.append_assoc]
  rfl
set_option maxHeartbeats 4000000 in
theorem markPtS_c (A : Option Addr) (c : Nat) (l : List Pt) (k : Int) (lo hi : Nat) (w : World) (hr : RI kPt 58 w lo hi (.slice A l.length c) l) (hn : l.length ≤ 1048576) (hk0 : 0 ≤ k) (hk1 : k ≤ 1099511627776) :
    Calls Tryd.prog 34 #[.slice A l.length c, .int .i64 k] w fun e w' => e = .returned (.int .i64 (k + 2 * (l.length : Int))) ∧ RI kPt 58 w' lo hi (.slice A l.length c) (markL k l.length) ∧ Ex lo hi w w' := by
  go_enter Tryd.func34, Tryd.ntmps34
  go_wp2
  go_loopw [1, 5] (fun q i wr => ∃ j : Nat, j ≤ l.length ∧ i = .int .i64 j ∧ q = .int .i64 (k + 2 * (j : Int)) ∧ Aside0 (RI kPt 58 wr lo hi (.slice A l.length c) ((markL k l.length).take j ++ l.drop j)) ∧ Aside0 (Ex lo hi w wr)) (fun _ i _ => l.length - (intOf i).toNat)
  case atStart => exact ⟨0, by omega, rfl, by simp, ⟨by simpa using hr⟩, ⟨Ex.refl _ _ _⟩⟩
  case round =>
    obtain ⟨j, hj, rfl, rfl, ⟨hr1⟩, ⟨hx⟩⟩ := hrel
    by_cases hlt : j < l.length
    · obtain ⟨g, cap, hv, hg1, hg2, _⟩ := Kd.R_form hr (by omega)
      injection hv with e1 e2 e3
      subst e1
      have hg3 : g < hi := hr.1 g (by rfl)
      obtain ⟨u, v, d0, d1, f0, f1⟩ := own_Pt' hr1 j hlt
      obtain ⟨hr2, hg4⟩ := set_Pt hr1 j hlt (k + 2 * (j : Int)) (k + 2 * (j : Int) + 1)
      rw [mark_set l k j hlt] at hr2
      have hlt2 : decide ((j : Int) < (l.length : Int)) = true := by simp; omega
      have hw : IntKind.i64.wrap ((j : Int) + 1) = (j : Int) + 1 := IntWalk.i64_in _ (by omega)
      have hw2 : IntKind.i64.wrap (k + 2 * (j : Int) + 1) = k + 2 * (j : Int) + 1 := IntWalk.i64_in _ (by omega)
      have hw3 : IntKind.i64.wrap (k + 2 * (j : Int) + 1 + 1) = k + 2 * ((j + 1 : Nat) : Int) := by rw [IntWalk.i64_in _ (by omega)]; omega
      go_wp2
      exact ⟨⟨j + 1, by omega, rfl, rfl, ⟨hr2⟩, ⟨(hx.set hg1 hg3).set hg1 hg3⟩⟩, by simp [intOf]; omega⟩
    · have he : j = l.length := by omega
      have hlt2 : decide ((j : Int) < (l.length : Int)) = false := by simp; omega
      have hsl := Lib.hid he
      clear he
      have hr2 : RI kPt 58 wr lo hi (.slice A l.length c) (markL k l.length) := by
        have := hr1
        rw [hsl.out, List.drop_length, List.append_nil, List.take_of_length_le (by rw [markL_len]; omega)] at this
        exact this
      go_wp2
      go_ret
      exact ⟨ret_int (by rw [hsl.out]), hr2, hx⟩
set_option maxHeartbeats 4000000 in
theorem heldPtS_c (A : Option Addr) (c n : Nat) (k : Int) (w : World) (hr : kPt.C w A n (markL k n)) (hn : n ≤ 1048576) (hk0 : 0 ≤ k) (hk1 : k ≤ 1099511627776) :
    Calls Tryd.prog 36 #[.slice A n c, .int .i64 k] w fun e w' => e = .returned (.int .i64 (k + 2 * (n : Int))) ∧ Below w.heap.size w w' := by
  go_enter Tryd.func36, Tryd.ntmps36
  go_wp2
  go_loopw [1, 5] (fun q i wr => ∃ j : Nat, j ≤ n ∧ i = .int .i64 j ∧ q = .int .i64 (k + 2 * (j : Int)) ∧ Aside0 (Below w.heap.size w wr)) (fun _ i _ => n - (intOf i).toNat)
  case atStart => exact ⟨0, by omega, rfl, by simp, ⟨Below.refl _ _⟩⟩
  case round =>
    obtain ⟨j, hj, rfl, rfl, ⟨hx⟩⟩ := hrel
    by_cases hlt : j < n
    · obtain ⟨ad, rfl, c0, c1⟩ := at_Pt hr j (by rw [markL_len]; exact hlt)
      rw [markL_get] at c0 c1
      replace c0 : wr.cell? (ad.add (j * 2)) = some (.int .i64 (k + 2 * (j : Int))) := pw_cell_below (bl : Below w.heap.size w wr) c0
      replace c1 : wr.cell? ⟨(ad.add (j * 2)).block, (ad.add (j * 2)).off + 1, none⟩ = some (.int .i64 (k + 2 * (j : Int) + 1)) := pw_cell_below (bl : Below w.heap.size w wr) c1
      have hlt2 : decide ((j : Int) < (n : Int)) = true := by simp; omega
      have hw : IntKind.i64.wrap ((j : Int) + 1) = (j : Int) + 1 := IntWalk.i64_in _ (by omega)
      have hw2 : IntKind.i64.wrap (k + 2 * (j : Int) + 1) = k + 2 * (j : Int) + 1 := IntWalk.i64_in _ (by omega)
      have hw3 : IntKind.i64.wrap (k + 2 * (j : Int) + 1 + 1) = k + 2 * ((j + 1 : Nat) : Int) := by rw [IntWalk.i64_in _ (by omega)]; omega
      go_wp2
      exact ⟨⟨j + 1, by omega, rfl, rfl, ⟨bl⟩⟩, by simp [intOf]; omega⟩
    · have he : j = n := by omega
      have hlt2 : decide ((j : Int) < (n : Int)) = false := by simp; omega
      have hsl := Lib.hid he
      clear he
      go_wp2
      go_ret
      exact ⟨ret_int (by rw [hsl.out]), bl⟩
end
section
open Go.RowKit Go.Proofs.YtfbhjknkofnohaaDoorW.PrintWords Go.Proofs.YtfbhjknkofnohaaDoorW.PrintLast
set_option linter.unusedVariables false
set_option linter.unusedSimpArgs false
section
variable {lo hi lo' hi' : Nat} {w w' w1 w2 : World}
theorem Ex.trans (h1 : Ex lo hi w w1) (h2 : Ex lo hi w1 w2) : Ex lo hi w w2 := ⟨h1.1.trans h2.1, fun k a b => (h2.2 k a (Nat.lt_of_lt_of_le b h1.1.size)).trans (h1.2 k a b)⟩
theorem Ex.of (h : Below w.heap.size w w1) (hl : lo ≤ w.heap.size) : Ex lo hi w w1 := ⟨h.mono hl, fun k _ b => h.block k b⟩
theorem Ex.to (h1 : Ex lo hi w w1) (h : Below w1.heap.size w1 w2) (hl : lo ≤ w.heap.size) : Ex lo hi w w2 := h1.trans (Ex.of h (Nat.le_trans hl h1.1.size))
/-- A store into a block that was new. -/
theorem Ex.setN (h : Ex lo hi w w') {b i : Nat} {v : Value} (h1 : w.heap.size ≤ b) (hl : lo ≤ w.heap.size) : Ex lo hi w (w'.setCell ⟨b, i, none⟩ v) :=
  ⟨h.1.setCell (Nat.le_trans hl h1) _, fun k hk hlt => by rw [Below.heap_setCell _ _ _ _ (show k ≠ b by omega)]; exact h.2 k hk hlt⟩
theorem Ex.grown (h : Ex lo hi w w1) {row : Option Nat} (hg : w1.grownBy w2 row) (hr : ∀ k, row = some k → w.heap.size ≤ k) (hl : lo ≤ w.heap.size) : Ex lo hi w w2 :=
  ⟨h.1.grown hg (Nat.le_trans hl h.1.size) (fun k e => Nat.le_trans hl (hr k e)), fun k hk hlt => (hg.block k (Nat.lt_of_lt_of_le hlt h.1.size) (fun e => by have := hr k e.symm; omega)).trans (h.2 k hk hlt)⟩
theorem Ex.cell (h : Ex lo hi w w1) {p : Addr} {v : Value} (hc : w.cell? p = some v) (hp : p.block < lo ∨ hi ≤ p.block) : w1.cell? p = some v := by
  rw [← hc]
  refine World.cell?_of_block (w := w) ?_
  rcases hp with h1 | h1
  · exact h.1.block _ h1
  · exact h.2 _ h1 (World.block_lt_of_cell? _ _ hc)
/-- An own row behind a call that wrote into elder blocks alone. -/
theorem R_ex {α : Type} {d : Kd α} {e base : Nat} {ok : Nat → Prop} {v : Value} {xs : List α} (h : d.R e w base ok v xs) (hx : Ex lo hi w w1) (hb : hi ≤ base) : d.R e w1 base ok v xs :=
  Kd.R_mono (Kd.R_step (Kd.R_bound h) (fun k hk hlt => hx.2 k (Nat.le_trans hb hk.2.1) hlt)) (fun _ hk => hk.1)
end
theorem Cells.ex {lo hi : Nat} {w w1 : World} (hx : Ex lo hi w w1) : ∀ {L : List (Addr × Value)}, Cells w L → (∀ x ∈ L, x.1.block < lo ∨ hi ≤ x.1.block) → Cells w1 L
  | [], _, _ => trivial
  | x :: r, h, hf => ⟨by
      rw [← h.1]
      refine World.cell?_of_block (w := w) ?_
      rcases hf x (List.mem_cons_self ..) with h1 | h1
      · exact hx.1.block _ h1
      · exact hx.2 _ h1 (World.block_lt_of_cell? _ _ h.1), h.2.ex hx (fun y hy => hf y (List.mem_cons_of_mem _ hy))⟩
theorem B2.ex {lo hi : Nat} {w w1 : World} {b : Nat} {t : TypeId} {u v : Value} (h : B2 w b t u v) (hx : Ex lo hi w w1) (hf : b < lo ∨ hi ≤ b) : B2 w1 b t u v := by
  have : w1.heap[b]? = w.heap[b]? := by
    rcases hf with h1 | h1
    · exact hx.1.block _ h1
    · exact hx.2 _ h1 h.f.2.2.2.2
  unfold B2 at h ⊢
  rw [this, h]
end
section
open Go.RowKit Go.Proofs.YtfbhjknkofnohaaDoorW.PrintWords Go.Proofs.YtfbhjknkofnohaaDoorW.PrintLast
set_option linter.unusedVariables false
set_option linter.unusedSimpArgs false
theorem Cells.grown {w w1 : World} {row : Option Nat} : ∀ {L : List (Addr × Value)}, Cells w L → w.grownBy w1 row → (∀ x ∈ L, some x.1.block ≠ row) → Cells w1 L
  | [], _, _, _ => trivial
  | x :: r, h, hg, hf => ⟨by
      rw [← h.1]
      exact World.cell?_of_block (w := w) (hg.block _ (World.block_lt_of_cell? _ _ h.1) (hf x (List.mem_cons_self ..))), h.2.grown hg (fun y hy => hf y (List.mem_cons_of_mem _ hy))⟩
theorem B2.grown {w w1 : World} {row : Option Nat} {b : Nat} {t : TypeId} {u v : Value} (h : B2 w b t u v) (hg : w.grownBy w1 row) (hf : some b ≠ row) : B2 w1 b t u v := by
  have := hg.block b h.f.2.2.2.2 hf
  unfold B2 at h ⊢
  rw [this, h]
theorem B2.set0 {w : World} {b : Nat} {t : TypeId} {u v : Value} (h : B2 w b t u v) (x : Value) : B2 (w.setCell ⟨b, 0, none⟩ x) b t x v := by
  unfold B2 at h ⊢
  simp [World.setCell, Array.getElem?_modify, h]
theorem lit0 (w : World) (base : Nat) (hb : base ≤ w.heap.size) : kPt.R 58 (w.alloc (.cells #[] 58)) base (fun _ => True) (.slice (some ⟨w.heap.size, 0, none⟩) 0 0) [] :=
  ⟨fun _ _ => trivial, [], World.ownsRow_lit (base := base) (e := 58) (size := 2) w #[] 0 hb (by decide) rfl, Reps.none _ _⟩
section
variable {ops : Array Oper} {Q : Exit → Act → World → Prop} {T : Bool × List (List Nat × List Nat)} {i k n fuel : Nat} {p ds : List Nat} {oi : Oper} {a : Act} {w : World} {L : List (Addr × Value)}
/-- append(v, ys..), alone. -/
theorem cgApp {w0 : World} {base : Nat} (s x : Operand) (v : Value) (xs ys : List Pt) (A : Option Addr) (m c : Nat) (hT : Aside0 (rtab .any ops = T)) (hC : Cells w L)
    (HO : kPt.R 58 w base (fun _ => True) v xs) (HR : kPt.C w A m ys) (HB : Below base w0 w) (hbase : base ≤ w.heap.size) (hl : (xs.length + m) * 16 ≤ 140737488355328) (hf : ∀ x ∈ L, some x.1.block ≠ v.ownBlock)
    (h : ∀ A' c' w1, kPt.R 58 w1 base (fun _ => True) (.slice A' (xs ++ ys).length c') (xs ++ ys) → Below base w0 w1 → Cells w1 L → w.grownBy w1 v.ownBlock → wpAnyLast Tryd.prog .any ops Q (fun w' => Cells w' L) ds fuel (lit p (k + 1) n) (a.put oi.dst (.slice A' (xs ++ ys).length c')) w1)
    (hk : p[k]? = some i := by (try simp only [List.getElem?_cons_succ, List.getElem?_cons_zero]); rfl) (hi : ops[i]? = some oi := by (try simp only [List.getElem?_toArray, List.getElem?_cons_succ, List.getElem?_cons_zero]); rfl)
    (ho : oi.op = .call { callee := .builtin .append, args := #[s, x], argTypes := #[28, 28] } := by rfl) (hw : Region.wanted oi (yielded ops a.tmps) = true := by rfl) (hs : a.eval s = v := by rfl) (hx : a.eval x = .slice A m c := by rfl) (hd : i ∉ ds := by decide)
    (hc : (readyT T.2 (lit p k n).toList == [i] && (lit p k n).toList.set i true == (lit p (k + 1) n).toList) = true := by kernel_rfl) : wpAnyLast Tryd.prog .any ops Q (fun w' => Cells w' L) ds (fuel + 1) (lit p k n) a w := by
  refine one_ (lit p (k + 1) n) hi rfl (one_of hT.out hc) hd (fun K hK => ?_)
  refine Kd.R_append_rows_step kPt (w0 := w0) base hw s x 28 58 (.agg #[(.int .i64 0), (.int .i64 0)]) 16 ho Tryd.underlying28 info_Pt rfl (by decide) (by omega) v xs ys A m c (fun _ => True) (fun _ => False) hs hx HO HR (fun _ _ h => h) (fun _ h => h.elim) (fun _ _ => trivial) HB hbase hl ?_
  intro v1 w1 ho1 hb1 hg1 _
  obtain ⟨A', c', rfl⟩ := Kd.R_slice ho1
  have hC1 := hC.grown hg1 hf
  exact hK _ _ hC1 (fun _ => h A' c' w1 ho1 hb1 hC1 hg1)
end
theorem markShape_c (K : Int) (A : Option Addr) (c : Nat) (l : List Pt) (k : Int) (lo hi : Nat) (w : World) (hr : RI kPt 58 w lo hi (.slice A l.length c) l) (hn : l.length ≤ 1048576) (hk0 : 0 ≤ k) (hk1 : k ≤ 1099511627776) (hlo : lo ≤ w.heap.size) :
    Calls Tryd.prog 14 #[.agg #[.int .i64 K, .slice A l.length c], .int .i64 k] w fun e w' => e = .returned (.int .i64 (k + 2 * (l.length : Int))) ∧ RI kPt 58 w' lo hi (.slice A l.length c) (markL k l.length) ∧ Ex lo hi w w' := by
  go_enter Tryd.func14, Tryd.ntmps14
  go_wp2_with fail
  refine (markPtS_c _ _ _ _ lo hi _ (RI.alloc hr _) hn hk0 hk1).mono ?_
  rintro e w1 ⟨rfl, hr1, hx1⟩
  go_wp2
  go_ret
  exact ⟨rfl, hr1, ⟨(Below.mono (below_alloc (Below.refl _ _) _) hlo).trans hx1.1, fun k h1 h2 => (hx1.2 k h1 (by simp; omega)).trans (Below.heap_alloc _ _ _ h2)⟩⟩
theorem heldShape_c (K : Int) (A : Option Addr) (c n : Nat) (k : Int) (w : World) (hr : kPt.C w A n (markL k n)) (hn : n ≤ 1048576) (hk0 : 0 ≤ k) (hk1 : k ≤ 1099511627776) :
    Calls Tryd.prog 15 #[.agg #[.int .i64 K, .slice A n c], .int .i64 k] w fun e w' => e = .returned (.int .i64 (k + 2 * (n : Int))) ∧ Below w.heap.size w w' := by
  have hneg : decide (k + 2 * (n : Int) < 0) = false := by simp; omega
  go_enter Tryd.func15, Tryd.ntmps15
  go_wp2_with fail
  refine (heldPtS_c _ _ _ _ _ (Kd.C_below hr bl) hn hk0 hk1).mono ?_
  rintro e w1 ⟨rfl, hb1⟩
  go_wp2
  go_ret
  exact ⟨rfl, bl⟩
end
section
open Go.RowKit Go.Proofs.YtfbhjknkofnohaaDoorW.PrintWords Go.Proofs.YtfbhjknkofnohaaDoorW.PrintLast
set_option linter.unusedVariables false
set_option linter.unusedSimpArgs false
theorem RI.up {α : Type} {d : Kd α} {e lo hi b : Nat} {W : World} {v : Value} {xs : List α} (h : RI d e W lo hi v xs) (hb : b ≤ lo) : d.R e W b (fun _ => True) v xs := Kd.R_lower (Kd.R_mono h (fun _ _ => trivial)) hb
section
variable {P : Program} {ops : Array Oper} {Q : Exit → Act → World → Prop} {S : World → Prop} {T : Bool × List (List Nat × List Nat)} {i j k n fuel : Nat} {p q ds : List Nat} {oi oj : Oper} {v : Value} {a a' : Act} {w : World} {L : List (Addr × Value)}
/-- What one of two operations that may come up owes. -/
def CgK (P : Program) (ops : Array Oper) (Q : Exit → Act → World → Prop) (S : World → Prop) (ds : List Nat) (fuel : Nat) (l' : Array Bool) (oi : Oper) (a : Act) (w : World) : Prop :=
  ∀ K : Act → World → Prop, Shut (∀ a' w', S w' → (S w' → wpAnyLast P .any ops Q S ds fuel l' a' w') → K a' w') → if Region.wanted oi (yielded ops a.tmps) = true then Oper.wp P oi a w K Q else K (a.put oi.dst undef) w
/-- i stands ahead of j in the text; the orders p and q part here. -/
theorem cgTwo (q : List Nat) (hT : Aside0 (rtab .any ops = T)) (h1 : CgK P ops Q S ds fuel (lit p (k + 1) n) oi a w) (h2 : CgK P ops Q S ds fuel (lit q (k + 1) n) oj a w)
    (hk : p[k]? = some i := by (try simp only [List.getElem?_cons_succ, List.getElem?_cons_zero]); rfl) (hk2 : q[k]? = some j := by (try simp only [List.getElem?_cons_succ, List.getElem?_cons_zero]); rfl) (hi : ops[i]? = some oi := by (try simp only [List.getElem?_toArray, List.getElem?_cons_succ, List.getElem?_cons_zero]); rfl) (hj : ops[j]? = some oj := by (try simp only [List.getElem?_toArray, List.getElem?_cons_succ, List.getElem?_cons_zero]); rfl)
    (hd : i ∉ ds := by decide) (hd2 : j ∉ ds := by decide)
    (hc : (readyT T.2 (lit p k n).toList == [i, j] && (lit p k n).toList.set i true == (lit p (k + 1) n).toList && (lit p k n).toList.set j true == (lit q (k + 1) n).toList) = true := by kernel_rfl) : wpAnyLast P .any ops Q S ds (fuel + 1) (lit p k n) a w :=
  two_ (lit p (k + 1) n) (lit q (k + 1) n) hi hj rfl rfl (two_of hT.out hc) hd hd2 h1 h2
theorem cgE_k {w1 : World} {l' : Array Bool} (h : Cells w1 L → wpAnyLast P .any ops Q (fun w' => Cells w' L) ds fuel l' a' w1) (hw : Region.wanted oi (yielded ops a.tmps) = true := by rfl) (hrun : (execOp a.eval oi).run P w = .ok (.value v) w1 := by go_simp; exact ⟨rfl, rfl⟩)
    (ha : a.put oi.dst v = a' := by simp only [Act.put, List.setIfInBounds_toArray, List.set_cons_zero, List.set_cons_succ]; rfl) (hS : Cells w1 L := by first | assumption | exact Cells.to (by assumption) bl) : CgK P ops Q (fun w' => Cells w' L) ds fuel l' oi a w :=
  fun K hK => event_step hw hrun (hK _ _ hS (fun _ => by rw [ha]; exact h hS))
end
section
variable {ops : Array Oper} {Q : Exit → Act → World → Prop} {i k n fuel : Nat} {p ds : List Nat} {oi : Oper} {a : Act} {w : World} {L : List (Addr × Value)}
theorem cgApp_k {w0 : World} {base : Nat} {l' : Array Bool} (s x : Operand) (v : Value) (xs ys : List Pt) (A : Option Addr) (m c : Nat) (hC : Cells w L)
    (HO : kPt.R 58 w base (fun _ => True) v xs) (HR : kPt.C w A m ys) (HB : Below base w0 w) (hbase : base ≤ w.heap.size) (hl : (xs.length + m) * 16 ≤ 140737488355328) (hf : ∀ x ∈ L, some x.1.block ≠ v.ownBlock)
    (h : ∀ A' c' w1, kPt.R 58 w1 base (fun _ => True) (.slice A' (xs ++ ys).length c') (xs ++ ys) → Below base w0 w1 → Cells w1 L → w.grownBy w1 v.ownBlock → wpAnyLast Tryd.prog .any ops Q (fun w' => Cells w' L) ds fuel l' (a.put oi.dst (.slice A' (xs ++ ys).length c')) w1)
    (ho : oi.op = .call { callee := .builtin .append, args := #[s, x], argTypes := #[28, 28] } := by rfl) (hw : Region.wanted oi (yielded ops a.tmps) = true := by rfl) (hs : a.eval s = v := by rfl) (hx : a.eval x = .slice A m c := by rfl) : CgK Tryd.prog ops Q (fun w' => Cells w' L) ds fuel l' oi a w := by
  refine fun K hK => ?_
  refine Kd.R_append_rows_step kPt (w0 := w0) base hw s x 28 58 (.agg #[(.int .i64 0), (.int .i64 0)]) 16 ho Tryd.underlying28 info_Pt rfl (by decide) (by omega) v xs ys A m c (fun _ => True) (fun _ => False) hs hx HO HR (fun _ _ h => h) (fun _ h => h.elim) (fun _ _ => trivial) HB hbase hl ?_
  intro v1 w1 ho1 hb1 hg1 _
  obtain ⟨A', c', rfl⟩ := Kd.R_slice ho1
  have hC1 := hC.grown hg1 hf
  exact hK _ _ hC1 (fun _ => h A' c' w1 ho1 hb1 hC1 hg1)
end
end
end Go.Proofs.YtfbhjknkofnohaaDoor
