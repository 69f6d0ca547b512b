/- Drawn regions that store into cells that were there: S is 'these cells hold these values'; behind the operations of ds nothing of it is shown. -/
import Derived.Test.YtlebgjafaioajaaR
namespace Go.Proofs.Ytlebgjafaioajaa
open Go.RowKit Go.Proofs.YtlebgjafaioajaaW.PrintWords Go.Proofs.YtlebgjafaioajaaW.PrintLast
set_option linter.unusedVariables false
set_option linter.unusedSimpArgs false
theorem cell_set_far (W : World) (b i b' i' : Nat) (v : Value) (h : (b == b') = false) : (W.setCell ⟨b', i', none⟩ v).cell? ⟨b, i, none⟩ = W.cell? ⟨b, i, none⟩ :=
  World.cell?_of_block (w := W) (Below.heap_setCell W _ _ _ (by simpa using h))
theorem cell_set_off (W : World) (b i j : Nat) (v : Value) (h : (j == i) = false) : (W.setCell ⟨b, i, none⟩ v).cell? ⟨b, j, none⟩ = W.cell? ⟨b, j, none⟩ :=
  World.cell?_setCell_other _ _ _ _ (by intro e; simp at e h; exact h e.symm)
theorem Cells.set {L : List (Addr × Value)} {w : World} (b i : Nat) (v : Value) : Cells w L → (L.all fun x => x.1.block != b) = true → Cells (w.setCell ⟨b, i, none⟩ v) L := by
  induction L with
  | nil => exact fun _ _ => trivial
  | cons x r ih =>
    intro h hf
    simp only [List.all_cons, Bool.and_eq_true, bne_iff_ne] at hf
    refine ⟨?_, ih h.2 hf.2⟩
    rw [← h.1]
    exact World.cell?_of_block (w := w) (Below.heap_setCell w _ _ _ hf.1)
section
variable {P : Program} {ops : Array Oper} {Q : Exit → Act → World → Prop} {S : World → Prop} {T : Bool × List (List Nat × List Nat)} {i k n fuel : Nat} {p ds : List Nat} {oi : Oper} {v : Value} {a a' : Act} {w : World} {L : List (Addr × Value)}
theorem cgStart {id : Nat} (n : Nat) (p ds : List Nat) (L : List (Addr × Value)) (hT : rtab .any ops = T) (hL : Cells w L) (h : Aside0 (rtab .any ops = T) → Cells w.drew L → wpAnyLast P .any ops Q (fun w' => Cells w' L) ds n (lit p 0 n) a w.drew)
    (hm : P.follows .mixedOrders = true := by kernel_rfl) (hn : ops.size = n := by rfl) (hl : Array.replicate n false = lit p 0 n := by rfl) : (Code.region id ops true).wp P Q a w :=
  start_ (lit p 0 n) hm hn hl (hL.to (below_drew1 (Below.refl _ _))) (fun hs => h ⟨hT⟩ hs)
theorem cgP (hT : Aside0 (rtab .any ops = T)) (h : wpAnyLast P .any ops Q S ds fuel (lit p (k + 1) n) a' w) (hk : p[k]? = some i := by (try simp only [List.getElem?_cons_succ, List.getElem?_cons_zero]); rfl) (hi : ops[i]? = some oi := by (try simp only [List.getElem?_toArray, List.getElem?_cons_succ, List.getElem?_cons_zero]); rfl) (hw : Region.wanted oi (yielded ops a.tmps) = true := by rfl) (hy : ∀ w', (execOp a.eval oi).run P w' = .ok (.value v) w' := by intro w'; go_simp; with_reducible rfl)
    (ha : a.put oi.dst v = a' := by simp only [Act.put, List.setIfInBounds_toArray, List.set_cons_zero, List.set_cons_succ]; rfl) (hc : anyT T (lit p k n).toList (lit p (k + 1) n).toList i = true := by kernel_rfl) (hQ : ∀ c a w, Q (.panic c) (a.put oi.dst v) w → Q (.panic c) a w := by exact fun _ _ _ h => h) : wpAnyLast P .any ops Q S ds (fuel + 1) (lit p k n) a w :=
  pure_ (lit p (k + 1) n) hi rfl (any_of hT.out hc) hQ (Or.inl ⟨hw, hy⟩) ha h
theorem cgG (hT : Aside0 (rtab .any ops = T)) (h : wpAnyLast P .any ops Q S ds fuel (lit p (k + 1) n) a' w) (hk : p[k]? = some i := by (try simp only [List.getElem?_cons_succ, List.getElem?_cons_zero]); rfl) (hi : ops[i]? = some oi := by (try simp only [List.getElem?_toArray, List.getElem?_cons_succ, List.getElem?_cons_zero]); rfl) (hw : Region.wanted oi (yielded ops a.tmps) = false := by rfl)
    (ha : a.put oi.dst undef = a' := by simp only [Act.put, List.setIfInBounds_toArray, List.set_cons_zero, List.set_cons_succ]; rfl) (hc : anyT T (lit p k n).toList (lit p (k + 1) n).toList i = true := by kernel_rfl) (hQ : ∀ c a w, Q (.panic c) (a.put oi.dst undef) w → Q (.panic c) a w := by exact fun _ _ _ h => h) : wpAnyLast P .any ops Q S ds (fuel + 1) (lit p k n) a w :=
  pure_ (lit p (k + 1) n) hi rfl (any_of hT.out hc) hQ (Or.inr ⟨hw, rfl⟩) ha h
theorem cgL (hT : Aside0 (rtab .any ops = T)) (h : wpAnyLast P .any ops Q (fun w' => Cells w' L) ds fuel (lit p (k + 1) n) a' w) (hS : Cells w L := by assumption) (hk : p[k]? = some i := by (try simp only [List.getElem?_cons_succ, List.getElem?_cons_zero]); rfl) (hi : ops[i]? = some oi := by (try simp only [List.getElem?_toArray, List.getElem?_cons_succ, List.getElem?_cons_zero]); rfl) (hw : Region.wanted oi (yielded ops a.tmps) = true := by rfl)
    (hy : ∀ w', Cells w' L → (execOp a.eval oi).run P w' = .ok (.value v) w' := by intro w' hS_; simp only [Cells, and_true] at hS_; go_simp; with_reducible rfl)
    (ha : a.put oi.dst v = a' := by simp only [Act.put, List.setIfInBounds_toArray, List.set_cons_zero, List.set_cons_succ]; rfl) (hc : takeT T ds (lit p k n).toList (lit p (k + 1) n).toList i = true := by kernel_rfl) (hQ : ∀ c a w, Q (.panic c) (a.put oi.dst v) w → Q (.panic c) a w := by exact fun _ _ _ h => h) : wpAnyLast P .any ops Q (fun w' => Cells w' L) ds (fuel + 1) (lit p k n) a w :=
  take_ (lit p (k + 1) n) hi rfl (take_of hT.out hc) hQ (Or.inl ⟨hw, hy⟩) hS ha h
theorem cgGate {md : Region.Mode} {l : Array Bool} (h : wpAnyLast P md ops Q S ds (fuel + 1) l a w) : wpAnyLast P md ops Q S ds (fuel + 1) l a w := h
theorem cgN {l : Array Bool} (h : wpAnyLast P .any ops Q S ds fuel l a' w) (ha : a = a' := by simp only [Act.put, List.setIfInBounds_toArray, List.set_cons_zero, List.set_cons_succ]; rfl) : wpAnyLast P .any ops Q S ds fuel l a w := norm_ ha h
theorem cgCall {f : FuncId} {fn : Func} {av : Array Operand} {ts : Array TypeId} {args : Array Value} {R : Ending → World → Prop} (hT : Aside0 (rtab .any ops = T)) (hf : P.funcs[f]? = some fn) (hcall : Calls P f args w R)
    (h : ∀ e w', R e w' → ∃ v, e = .returned v ∧ S w' ∧ wpAnyLast P .any ops Q S ds fuel (lit p (k + 1) n) (a.put oi.dst v) w')
    (hk : p[k]? = some i := by (try simp only [List.getElem?_cons_succ, List.getElem?_cons_zero]); rfl) (hi : ops[i]? = some oi := by (try simp only [List.getElem?_toArray, List.getElem?_cons_succ, List.getElem?_cons_zero]); rfl) (hop : oi.op = .call { callee := .value (.func f), args := av, argTypes := ts } := by rfl) (hc : (readyT T.2 (lit p k n).toList == [i] && (lit p k n).toList.set i true == (lit p (k + 1) n).toList) = true := by kernel_rfl) (hd : i ∉ ds := by decide)
    (hw : Region.wanted oi (yielded ops a.tmps) = true := by rfl) (hargs : av.map a.eval = args := by ((try simp only [List.map_toArray, List.map_cons, List.map_nil]); first | done | rfl))
    (hname : (fn.name == "runtime.NumGoroutine") = false := by kernel_rfl) (hb : fn.body.isSome = true := by rfl) : wpAnyLast P .any ops Q S ds (fuel + 1) (lit p k n) a w := by
  refine one_ (lit p (k + 1) n) hi rfl (one_of hT.out hc) hd (fun K hK => ?_)
  refine goes_ hf hname hb args hw rfl hop hargs (hcall.mono fun e w' hr => ?_)
  obtain ⟨v, rfl, hs, hk⟩ := h e w' hr
  exact ⟨v, rfl, hK _ _ hs (fun _ => hk)⟩
/-- Makes a value or memory, alone. -/
theorem cgE {w1 : World} (hT : Aside0 (rtab .any ops = T)) (h : Cells w1 L → wpAnyLast P .any ops Q (fun w' => Cells w' L) ds fuel (lit p (k + 1) n) a' w1) (hk : p[k]? = some i := by (try simp only [List.getElem?_cons_succ, List.getElem?_cons_zero]); rfl) (hi : ops[i]? = some oi := by (try simp only [List.getElem?_toArray, List.getElem?_cons_succ, List.getElem?_cons_zero]); rfl) (hw : Region.wanted oi (yielded ops a.tmps) = true := by rfl) (hrun : (execOp a.eval oi).run P w = .ok (.value v) w1 := by go_simp; exact ⟨rfl, rfl⟩)
    (ha : a.put oi.dst v = a' := by simp only [Act.put, List.setIfInBounds_toArray, List.set_cons_zero, List.set_cons_succ]; rfl) (hS : Cells w1 L := by first | assumption | exact Cells.to (by assumption) bl) (hd : i ∉ ds := by decide) (hc : (readyT T.2 (lit p k n).toList == [i] && (lit p k n).toList.set i true == (lit p (k + 1) n).toList) = true := by kernel_rfl) : wpAnyLast P .any ops Q (fun w' => Cells w' L) ds (fuel + 1) (lit p k n) a w := by
  refine one_ (lit p (k + 1) n) hi rfl (one_of hT.out hc) hd (fun K hK => event_step hw hrun (hK _ _ hS (fun _ => ?_)))
  rw [ha]
  exact h hS
/-- A store that S outlives; one of ds. -/
theorem cgSt {w1 : World} (hT : Aside0 (rtab .any ops = T)) (hS : Cells w1 L) (h : Cells w1 L → wpAnyLast P .any ops Q (fun w' => Cells w' L) ds fuel (lit p (k + 1) n) a w1) (hk : p[k]? = some i := by (try simp only [List.getElem?_cons_succ, List.getElem?_cons_zero]); rfl) (hi : ops[i]? = some oi := by (try simp only [List.getElem?_toArray, List.getElem?_cons_succ, List.getElem?_cons_zero]); rfl) (hw : Region.wanted oi (yielded ops a.tmps) = true := by rfl) (hrun : (execOp a.eval oi).run P w = .ok .skip w1 := by first | (go_simp; done) | (go_simp; with_reducible rfl))
    (hn : oi.dst = none := by rfl) (hd : i ∉ ds := by decide) (hc : (readyT T.2 (lit p k n).toList == [i] && (lit p k n).toList.set i true == (lit p (k + 1) n).toList) = true := by kernel_rfl) : wpAnyLast P .any ops Q (fun w' => Cells w' L) ds (fuel + 1) (lit p k n) a w := by
  refine one_ (lit p (k + 1) n) hi rfl (one_of hT.out hc) hd (fun K hK => ?_)
  rw [if_pos hw]
  unfold Oper.wp
  rw [hrun]
  show K (a.put oi.dst undef) w1
  rw [hn]
  exact hK _ _ hS (fun _ => h hS)
theorem cgLast {w1 : World} (hT : Aside0 (rtab .any ops = T)) (h : wpAnyLast P .any ops Q S ds fuel (lit p (k + 1) n) a w1) (hk : p[k]? = some i := by (try simp only [List.getElem?_cons_succ, List.getElem?_cons_zero]); rfl) (hi : ops[i]? = some oi := by (try simp only [List.getElem?_toArray, List.getElem?_cons_succ, List.getElem?_cons_zero]); rfl) (hw : Region.wanted oi (yielded ops a.tmps) = true := by rfl) (hrun : (execOp a.eval oi).run P w = .ok .skip w1 := by first | (go_simp; done) | (go_simp; with_reducible rfl))
    (hn : oi.dst = none := by rfl) (hd : i ∈ ds := by decide) (hc : (readyT T.2 (lit p k n).toList == [i] && (lit p k n).toList.set i true == (lit p (k + 1) n).toList) = true := by kernel_rfl) : wpAnyLast P .any ops Q S ds (fuel + 1) (lit p k n) a w := by
  refine last_ (lit p (k + 1) n) hi rfl (one_of hT.out hc) hd (fun K hK => ?_)
  rw [if_pos hw]
  unfold Oper.wp
  rw [hrun]
  show K (a.put oi.dst undef) w1
  rw [hn]
  exact hK _ _ h
theorem cgDone (hT : Aside0 (rtab .any ops = T)) (h : Q .normal a w) (hc : (readyT T.2 (lit p n n).toList == []) = true := by kernel_rfl) : wpAnyLast P .any ops Q S ds i (lit p n n) a w := done_ (done_of hT.out hc) h
end
/-- A block of two cells. -/
def B2 (W : World) (b : Nat) (t : TypeId) (u v : Value) : Prop := W.heap[b]? = some (.cells #[u, v] t (0, 0))
section
variable {W W1 : World} {b b' i : Nat} {t : TypeId} {u v x y : Value}
theorem B2.f (h : B2 W b t u v) : W.cell? ⟨b, 0, none⟩ = some u ∧ W.cell? ⟨b, 1, none⟩ = some v ∧ W.frozen? ⟨b, 0, none⟩ = false ∧ W.frozen? ⟨b, 1, none⟩ = false ∧ b < W.heap.size := by
  unfold B2 at h
  have hb : b < W.heap.size := by
    rcases Nat.lt_or_ge b W.heap.size with h1 | h1
    · exact h1
    · rw [Array.getElem?_eq_none h1] at h; cases h
  refine ⟨?_, ?_, ?_, ?_, hb⟩ <;> simp [World.cell?, World.frozen?, h]
theorem B2.new (w : World) : B2 (w.alloc (.cells #[u, v] t)) w.heap.size t u v := by
  unfold B2 World.alloc
  simp
theorem B2.new' (w : World) (b : Nat) (u v : Value) (t : TypeId) (hb : Below (w.alloc (.cells #[u, v] t)).heap.size (w.alloc (.cells #[u, v] t)) W := by exact bl) (h : b = w.heap.size := by first | rfl | (simp; done)) : B2 W b t u v := by
  subst h
  have := hb.block w.heap.size (by simp)
  unfold B2
  rw [this]
  exact B2.new w
theorem B2.to (h : B2 W b t u v) (hb : Below W.heap.size W W1) : B2 W1 b t u v := by
  have := hb.block b h.f.2.2.2.2
  unfold B2 at h ⊢
  rw [this, h]
theorem B2.one (h : B2 W b t u v) (hb : Below W.heap.size W W1) : B2 W1 b t u v := h.to hb
theorem B2.far (h : B2 W b t u v) (hne : (b == b') = false) : B2 (W.setCell ⟨b', i, none⟩ x) b t u v := by
  unfold B2 at h ⊢
  rw [Below.heap_setCell W _ _ _ (by simpa using hne), h]
/-- The block in a later world: stores into other blocks, new blocks, draws, calls. -/
theorem B2.tr (h : B2 W b t u v) (tr : B2 W b t u v → B2 W1 b t u v := by intro h_; repeat (with_reducible first | exact h_ | refine B2.far ?_ (by first | assumption | (simp; done) | (simp; omega)) | refine B2.one ?_ (by first | exact below_alloc (Below.refl _ _) _ | exact below_drew1 (Below.refl _ _) | exact pw_below_drewN (Below.refl _ _) _ | assumption))) : B2 W1 b t u v := tr h
theorem B2.set (h : B2 W b t u v) (x y : Value) : B2 ((W.setCell ⟨b, 0, none⟩ x).setCell ⟨b, 1, none⟩ y) b t x y := by
  unfold B2 at h ⊢
  simp [World.setCell, Array.getElem?_modify, h]
end
theorem Cells.two {w W : World} {u v u' v' : Value} {t t' : TypeId} {L : List (Addr × Value)} (h : Cells w L) (hb : Below ((w.alloc (.cells #[u, v] t)).alloc (.cells #[u', v'] t')).heap.size ((w.alloc (.cells #[u, v] t)).alloc (.cells #[u', v'] t')) W) : Cells W ((⟨w.heap.size, 0, none⟩, u) :: (⟨w.heap.size, 1, none⟩, v) :: (⟨w.heap.size + 1, 0, none⟩, u') :: (⟨w.heap.size + 1, 1, none⟩, v') :: L) := by
  have h1 : Below (w.alloc (.cells #[u, v] t)).heap.size (w.alloc (.cells #[u, v] t)) W := bl
  have h2 := cbn (w := w.alloc (.cells #[u, v] t)) 0 hb (v := u') rfl
  have h3 := cbn (w := w.alloc (.cells #[u, v] t)) 1 hb (v := v') rfl
  rw [World.size_alloc] at h2 h3
  exact ⟨cbn 0 h1 rfl, cbn 1 h1 rfl, h2, h3, h.to (below_then (below_alloc (Below.refl _ _) _) (by simp) h1)⟩
section
variable {P : Program} {ops : Array Oper} {Q : Exit → Act → World → Prop} {T : Bool × List (List Nat × List Nat)} {i k n fuel : Nat} {p ds : List Nat} {oi : Oper} {a : Act} {w : World} {L : List (Addr × Value)}
/-- Two fresh blocks of one form, in either order. -/
theorem cg2A {j : Nat} {oj : Oper} {u0 v0 : Value} {t0 : TypeId} {a2 : Value → Value → Act} (hT : Aside0 (rtab .any ops = T)) (hS : Cells w L)
    (h : ∀ bi bj w2, Below w.heap.size w w2 → w.heap.size ≤ bi → w.heap.size ≤ bj → (bi == bj) = false → (bj == bi) = false → B2 w2 bi t0 u0 v0 → B2 w2 bj t0 u0 v0 → Cells w2 L → wpAnyLast P .any ops Q (fun w' => Cells w' L) ds fuel (lit p (k + 2) n) (a2 (.pointer (some ⟨bi, 0, none⟩)) (.pointer (some ⟨bj, 0, none⟩))) w2)
    (hk : p[k]? = some i := by (try simp only [List.getElem?_cons_succ, List.getElem?_cons_zero]); rfl) (hk2 : p[k + 1]? = some j := by (try simp only [List.getElem?_cons_succ, List.getElem?_cons_zero]); rfl) (hi : ops[i]? = some oi := by (try simp only [List.getElem?_toArray, List.getElem?_cons_succ, List.getElem?_cons_zero]); rfl) (hj : ops[j]? = some oj := by (try simp only [List.getElem?_toArray, List.getElem?_cons_succ, List.getElem?_cons_zero]); rfl)
    (hw : ∀ t, Region.wanted oi t = true := by exact fun _ => rfl) (hw2 : ∀ t, Region.wanted oj t = true := by exact fun _ => rfl)
    (hri : ∀ (e : Operand → Value) w', (execOp e oi).run P w' = .ok (.value (.pointer (some ⟨w'.heap.size, 0, none⟩))) (w'.alloc (.cells #[u0, v0] t0)) := by intro e w'; go_simp; try rfl) (hrj : ∀ (e : Operand → Value) w', (execOp e oj).run P w' = .ok (.value (.pointer (some ⟨w'.heap.size, 0, none⟩))) (w'.alloc (.cells #[u0, v0] t0)) := by intro e w'; go_simp; try rfl)
    (ha : ∀ x y, (a.put oi.dst x).put oj.dst y = a2 x y := by intro x y; simp only [Act.put, List.setIfInBounds_toArray, List.set_cons_zero, List.set_cons_succ]; rfl) (ha2 : ∀ x y, (a.put oj.dst y).put oi.dst x = a2 x y := by intro x y; simp only [Act.put, List.setIfInBounds_toArray, List.set_cons_zero, List.set_cons_succ] <;> rfl)
    (hd : i ∉ ds := by decide) (hd2 : j ∉ ds := by decide)
    (hc : (readyT T.2 (lit p k n).toList == [i, j] && (lit p k n).toList.set i true == (lit p (k + 1) n).toList && (lit p k n).toList.set j true == ((lit p k n).setIfInBounds j true).toList) = true := by kernel_rfl)
    (hc1 : (readyT T.2 (lit p (k + 1) n).toList == [j] && (lit p (k + 1) n).toList.set j true == (lit p (k + 2) n).toList) = true := by kernel_rfl)
    (hc2 : (readyT T.2 ((lit p k n).setIfInBounds j true).toList == [i] && ((lit p k n).setIfInBounds j true).toList.set i true == (lit p (k + 2) n).toList) = true := by kernel_rfl) : wpAnyLast P .any ops Q (fun w' => Cells w' L) ds (fuel + 2) (lit p k n) a w := by
  let o : Obj := .cells #[u0, v0] t0
  have q0 : B2 ((w.alloc o).alloc o) w.heap.size t0 u0 v0 := B2.new' w _ _ _ _
  have q1 : B2 ((w.alloc o).alloc o) (w.heap.size + 1) t0 u0 v0 := B2.new' (w.alloc o) _ _ _ _
  have qb : Below w.heap.size w ((w.alloc o).alloc o) := bl
  have s1 : Cells (w.alloc o) L := hS.to (below_alloc (Below.refl _ _) o)
  have s2 : Cells ((w.alloc o).alloc o) L := s1.to (below_alloc (Below.refl _ _) o)
  refine two_ (lit p (k + 1) n) ((lit p k n).setIfInBounds j true) hi hj rfl rfl (two_of hT.out hc) hd hd2 (fun K hK => ?_) (fun K hK => ?_)
  · refine event_step (hw _) (hri _ _) (hK _ _ s1 (fun _ => ?_))
    refine one_ (lit p (k + 2) n) hj rfl (one_of hT.out hc1) hd2 (fun K hK => ?_)
    refine event_step (hw2 _) (hrj _ _) (hK _ _ s2 (fun _ => ?_))
    rw [ha, World.size_alloc]
    exact h _ _ _ qb (Nat.le_refl _) (Nat.le_succ _) (by simp) (by simp) q0 q1 s2
  · refine event_step (hw2 _) (hrj _ _) (hK _ _ s1 (fun _ => ?_))
    refine one_ (lit p (k + 2) n) hi rfl (one_of hT.out hc2) hd (fun K hK => ?_)
    refine event_step (hw _) (hri _ _) (hK _ _ s2 (fun _ => ?_))
    rw [ha2, World.size_alloc]
    exact h _ _ _ qb (Nat.le_succ _) (Nat.le_refl _) (by simp) (by simp) q1 q0 s2
end
end Go.Proofs.Ytlebgjafaioajaa
