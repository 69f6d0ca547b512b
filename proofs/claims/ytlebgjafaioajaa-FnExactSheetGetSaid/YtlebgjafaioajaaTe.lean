/- Drawn regions in which two operations may come up that make or write memory: each order is walked. -/
import Derived.Test.YtlebgjafaioajaaH
namespace Go.Proofs.Ytlebgjafaioajaa
open Go.RowKit Go.Proofs.YtlebgjafaioajaaW.PrintWords Go.Proofs.YtlebgjafaioajaaW.PrintLast
set_option linter.unusedVariables false
set_option linter.unusedSimpArgs false
theorem RI.up {α : Type} {d : Kd α} {e lo hi b : Nat} {W : World} {v : Value} {xs : List α} (h : RI d e W lo hi v xs) (hb : b ≤ lo) : d.R e W b (fun _ => True) v xs := Kd.R_lower (Kd.R_mono h (fun _ _ => trivial)) hb
section
variable {P : Program} {ops : Array Oper} {Q : Exit → Act → World → Prop} {S : World → Prop} {T : Bool × List (List Nat × List Nat)} {i j k n fuel : Nat} {p q ds : List Nat} {oi oj : Oper} {v : Value} {a a' : Act} {w : World} {L : List (Addr × Value)}
/-- What one of two operations that may come up owes. -/
def CgK (P : Program) (ops : Array Oper) (Q : Exit → Act → World → Prop) (S : World → Prop) (ds : List Nat) (fuel : Nat) (l' : Array Bool) (oi : Oper) (a : Act) (w : World) : Prop :=
  ∀ K : Act → World → Prop, Shut (∀ a' w', S w' → (S w' → wpAnyLast P .any ops Q S ds fuel l' a' w') → K a' w') → if Region.wanted oi (yielded ops a.tmps) = true then Oper.wp P oi a w K Q else K (a.put oi.dst undef) w
/-- i stands ahead of j in the text; the orders p and q part here. -/
theorem cgTwo (q : List Nat) (hT : Aside0 (rtab .any ops = T)) (h1 : CgK P ops Q S ds fuel (lit p (k + 1) n) oi a w) (h2 : CgK P ops Q S ds fuel (lit q (k + 1) n) oj a w)
    (hk : p[k]? = some i := by (try simp only [List.getElem?_cons_succ, List.getElem?_cons_zero]); rfl) (hk2 : q[k]? = some j := by (try simp only [List.getElem?_cons_succ, List.getElem?_cons_zero]); rfl) (hi : ops[i]? = some oi := by (try simp only [List.getElem?_toArray, List.getElem?_cons_succ, List.getElem?_cons_zero]); rfl) (hj : ops[j]? = some oj := by (try simp only [List.getElem?_toArray, List.getElem?_cons_succ, List.getElem?_cons_zero]); rfl)
    (hd : i ∉ ds := by decide) (hd2 : j ∉ ds := by decide)
    (hc : (readyT T.2 (lit p k n).toList == [i, j] && (lit p k n).toList.set i true == (lit p (k + 1) n).toList && (lit p k n).toList.set j true == (lit q (k + 1) n).toList) = true := by kernel_rfl) : wpAnyLast P .any ops Q S ds (fuel + 1) (lit p k n) a w :=
  two_ (lit p (k + 1) n) (lit q (k + 1) n) hi hj rfl rfl (two_of hT.out hc) hd hd2 h1 h2
theorem cgE_k {w1 : World} {l' : Array Bool} (h : Cells w1 L → wpAnyLast P .any ops Q (fun w' => Cells w' L) ds fuel l' a' w1) (hw : Region.wanted oi (yielded ops a.tmps) = true := by rfl) (hrun : (execOp a.eval oi).run P w = .ok (.value v) w1 := by go_simp; exact ⟨rfl, rfl⟩)
    (ha : a.put oi.dst v = a' := by simp only [Act.put, List.setIfInBounds_toArray, List.set_cons_zero, List.set_cons_succ]; rfl) (hS : Cells w1 L := by first | assumption | exact Cells.to (by assumption) bl) : CgK P ops Q (fun w' => Cells w' L) ds fuel l' oi a w :=
  fun K hK => event_step hw hrun (hK _ _ hS (fun _ => by rw [ha]; exact h hS))
end
section
variable {ops : Array Oper} {Q : Exit → Act → World → Prop} {i k n fuel : Nat} {p ds : List Nat} {oi : Oper} {a : Act} {w : World} {L : List (Addr × Value)}
theorem cgApp_k {w0 : World} {base : Nat} {l' : Array Bool} (s x : Operand) (v : Value) (xs ys : List Pt) (A : Option Addr) (m c : Nat) (hC : Cells w L)
    (HO : kPt.R 108 w base (fun _ => True) v xs) (HR : kPt.C w A m ys) (HB : Below base w0 w) (hbase : base ≤ w.heap.size) (hl : (xs.length + m) * 16 ≤ 140737488355328) (hf : ∀ x ∈ L, some x.1.block ≠ v.ownBlock)
    (h : ∀ A' c' w1, kPt.R 108 w1 base (fun _ => True) (.slice A' (xs ++ ys).length c') (xs ++ ys) → Below base w0 w1 → Cells w1 L → w.grownBy w1 v.ownBlock → wpAnyLast Try.prog .any ops Q (fun w' => Cells w' L) ds fuel l' (a.put oi.dst (.slice A' (xs ++ ys).length c')) w1)
    (ho : oi.op = .call { callee := .builtin .append, args := #[s, x], argTypes := #[30, 30] } := by rfl) (hw : Region.wanted oi (yielded ops a.tmps) = true := by rfl) (hs : a.eval s = v := by rfl) (hx : a.eval x = .slice A m c := by rfl) : CgK Try.prog ops Q (fun w' => Cells w' L) ds fuel l' oi a w := by
  refine fun K hK => ?_
  refine Kd.R_append_rows_step kPt (w0 := w0) base hw s x 30 108 (.agg #[(.int .i64 0), (.int .i64 0)]) 16 ho Try.underlying30 info_Pt rfl (by decide) (by omega) v xs ys A m c (fun _ => True) (fun _ => False) hs hx HO HR (fun _ _ h => h) (fun _ h => h.elim) (fun _ _ => trivial) HB hbase hl ?_
  intro v1 w1 ho1 hb1 hg1 _
  obtain ⟨A', c', rfl⟩ := Kd.R_slice ho1
  have hC1 := hC.grown hg1 hf
  exact hK _ _ hC1 (fun _ => h A' c' w1 ho1 hb1 hC1 hg1)
end
end Go.Proofs.Ytlebgjafaioajaa
