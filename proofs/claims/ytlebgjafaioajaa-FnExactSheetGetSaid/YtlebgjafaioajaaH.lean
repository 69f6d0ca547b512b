/- Contracts: marks of a shape; copies of a shape. -/
import Derived.Test.YtlebgjafaioajaaG
namespace Go.Proofs.Ytlebgjafaioajaa
open Go.RowKit Go.Proofs.YtlebgjafaioajaaW.PrintWords Go.Proofs.YtlebgjafaioajaaW.PrintLast
set_option linter.unusedVariables false
set_option linter.unusedSimpArgs false
theorem Cells.grown {w w1 : World} {row : Option Nat} : ∀ {L : List (Addr × Value)}, Cells w L → w.grownBy w1 row → (∀ x ∈ L, some x.1.block ≠ row) → Cells w1 L
  | [], _, _, _ => trivial
  | x :: r, h, hg, hf => ⟨by
      rw [← h.1]
      exact World.cell?_of_block (w := w) (hg.block _ (World.block_lt_of_cell? _ _ h.1) (hf x (List.mem_cons_self ..))), h.2.grown hg (fun y hy => hf y (List.mem_cons_of_mem _ hy))⟩
theorem B2.grown {w w1 : World} {row : Option Nat} {b : Nat} {t : TypeId} {u v : Value} (h : B2 w b t u v) (hg : w.grownBy w1 row) (hf : some b ≠ row) : B2 w1 b t u v := by
  have := hg.block b h.f.2.2.2.2 hf
  unfold B2 at h ⊢
  rw [this, h]
theorem B2.set0 {w : World} {b : Nat} {t : TypeId} {u v : Value} (h : B2 w b t u v) (x : Value) : B2 (w.setCell ⟨b, 0, none⟩ x) b t x v := by
  unfold B2 at h ⊢
  simp [World.setCell, Array.getElem?_modify, h]
theorem lit0 (w : World) (base : Nat) (hb : base ≤ w.heap.size) : kPt.R 108 (w.alloc (.cells #[] 108)) base (fun _ => True) (.slice (some ⟨w.heap.size, 0, none⟩) 0 0) [] :=
  ⟨fun _ _ => trivial, [], World.ownsRow_lit (base := base) (e := 108) (size := 2) w #[] 0 hb (by decide) rfl, Reps.none _ _⟩
section
variable {ops : Array Oper} {Q : Exit → Act → World → Prop} {T : Bool × List (List Nat × List Nat)} {i k n fuel : Nat} {p ds : List Nat} {oi : Oper} {a : Act} {w : World} {L : List (Addr × Value)}
/-- append(v, ys..), alone. -/
theorem cgApp {w0 : World} {base : Nat} (s x : Operand) (v : Value) (xs ys : List Pt) (A : Option Addr) (m c : Nat) (hT : Aside0 (rtab .any ops = T)) (hC : Cells w L)
    (HO : kPt.R 108 w base (fun _ => True) v xs) (HR : kPt.C w A m ys) (HB : Below base w0 w) (hbase : base ≤ w.heap.size) (hl : (xs.length + m) * 16 ≤ 140737488355328) (hf : ∀ x ∈ L, some x.1.block ≠ v.ownBlock)
    (h : ∀ A' c' w1, kPt.R 108 w1 base (fun _ => True) (.slice A' (xs ++ ys).length c') (xs ++ ys) → Below base w0 w1 → Cells w1 L → w.grownBy w1 v.ownBlock → wpAnyLast Try.prog .any ops Q (fun w' => Cells w' L) ds fuel (lit p (k + 1) n) (a.put oi.dst (.slice A' (xs ++ ys).length c')) w1)
    (hk : p[k]? = some i := by (try simp only [List.getElem?_cons_succ, List.getElem?_cons_zero]); rfl) (hi : ops[i]? = some oi := by (try simp only [List.getElem?_toArray, List.getElem?_cons_succ, List.getElem?_cons_zero]); rfl)
    (ho : oi.op = .call { callee := .builtin .append, args := #[s, x], argTypes := #[30, 30] } := by rfl) (hw : Region.wanted oi (yielded ops a.tmps) = true := by rfl) (hs : a.eval s = v := by rfl) (hx : a.eval x = .slice A m c := by rfl) (hd : i ∉ ds := by decide)
    (hc : (readyT T.2 (lit p k n).toList == [i] && (lit p k n).toList.set i true == (lit p (k + 1) n).toList) = true := by kernel_rfl) : wpAnyLast Try.prog .any ops Q (fun w' => Cells w' L) ds (fuel + 1) (lit p k n) a w := by
  refine one_ (lit p (k + 1) n) hi rfl (one_of hT.out hc) hd (fun K hK => ?_)
  refine Kd.R_append_rows_step kPt (w0 := w0) base hw s x 30 108 (.agg #[(.int .i64 0), (.int .i64 0)]) 16 ho Try.underlying30 info_Pt rfl (by decide) (by omega) v xs ys A m c (fun _ => True) (fun _ => False) hs hx HO HR (fun _ _ h => h) (fun _ h => h.elim) (fun _ _ => trivial) HB hbase hl ?_
  intro v1 w1 ho1 hb1 hg1 _
  obtain ⟨A', c', rfl⟩ := Kd.R_slice ho1
  have hC1 := hC.grown hg1 hf
  exact hK _ _ hC1 (fun _ => h A' c' w1 ho1 hb1 hC1 hg1)
end
theorem markShape_c (K : Int) (A : Option Addr) (c : Nat) (l : List Pt) (k : Int) (lo hi : Nat) (w : World) (hr : RI kPt 108 w lo hi (.slice A l.length c) l) (hn : l.length ≤ 1048576) (hk0 : 0 ≤ k) (hk1 : k ≤ 1099511627776) (hlo : lo ≤ w.heap.size) :
    Calls Try.prog 75 #[.agg #[.int .i64 K, .slice A l.length c], .int .i64 k] w fun e w' => e = .returned (.int .i64 (k + 2 * (l.length : Int))) ∧ RI kPt 108 w' lo hi (.slice A l.length c) (markL k l.length) ∧ Ex lo hi w w' := by
  go_enter Try.func75, Try.ntmps75
  go_wp2_with fail
  refine (markPtS_c _ _ _ _ lo hi _ (RI.alloc hr _) hn hk0 hk1).mono ?_
  rintro e w1 ⟨rfl, hr1, hx1⟩
  go_wp2
  go_ret
  exact ⟨rfl, hr1, ⟨(Below.mono (below_alloc (Below.refl _ _) _) hlo).trans hx1.1, fun k h1 h2 => (hx1.2 k h1 (by simp; omega)).trans (Below.heap_alloc _ _ _ h2)⟩⟩
theorem heldShape_c (K : Int) (A : Option Addr) (c n : Nat) (k : Int) (w : World) (hr : kPt.C w A n (markL k n)) (hn : n ≤ 1048576) (hk0 : 0 ≤ k) (hk1 : k ≤ 1099511627776) :
    Calls Try.prog 77 #[.agg #[.int .i64 K, .slice A n c], .int .i64 k] w fun e w' => e = .returned (.int .i64 (k + 2 * (n : Int))) ∧ Below w.heap.size w w' := by
  have hneg : decide (k + 2 * (n : Int) < 0) = false := by simp; omega
  go_enter Try.func77, Try.ntmps77
  go_wp2_with fail
  refine (heldPtS_c _ _ _ _ _ (Kd.C_below hr bl) hn hk0 hk1).mono ?_
  rintro e w1 ⟨rfl, hb1⟩
  go_wp2
  go_ret
  exact ⟨rfl, bl⟩
def i_cloneShape_T1 : Bool × List (List Nat × List Nat) := (true, [([], []), ([0], [0]), ([], []), ([], []), ([3], [3]), ([2, 4], [2, 4]), ([1, 5], [1, 5]), ([6, 5, 0, 1, 2, 3, 4, 5, 6], [6])])
theorem i_cloneShape_t1 : rtab .any (opsOf Try.f113 1) = i_cloneShape_T1 := by kernel_rfl
theorem clone_c (K : Int) (A : Option Addr) (c : Nat) (l : List Pt) (w : World) (hl : kPt.C w A l.length l) (hn : l.length ≤ 1048576) :
    Calls Try.prog 113 #[.agg #[.int .i64 K, .slice A l.length c]] w fun e w' => ∃ A' c', e = .returned (.agg #[.int .i64 K, .slice A' l.length c']) ∧ RI kPt 108 w' w.heap.size w'.heap.size (.slice A' l.length c') l ∧ Below w.heap.size w w' := by
  go_enter Try.func113, Try.ntmps113
  go_wp2
  have HC : Cells ((w.alloc (.cells #[.int .i64 K, .slice A l.length c] 32)).alloc (.cells #[.int .i64 0, .slice none 0 0] 32)) _ := (Cells.nil w).two (Below.refl _ _)
  refine cgStart 8 [0, 1, 3, 4, 2, 5, 6, 7] [7] _ i_cloneShape_t1 HC (fun HT HD => ?_)
  repeat ((with_reducible refine cgGate ?_); first | refine cgP HT ?_ | refine cgL HT ?_)
  refine cgE (w1 := ((((w.alloc (.cells #[.int .i64 K, .slice A l.length c] 32)).alloc (.cells #[.int .i64 0, .slice none 0 0] 32)).drew).alloc (.cells #[] 108))) (v := .slice (some ⟨w.heap.size + 1 + 1, 0, none⟩) 0 0) HT (fun HD2 => ?_) (hrun := by first | (go_simp; done) | (go_simp; rfl)) (hS := HD.to bl)
  have HO : kPt.R 108 ((((w.alloc (.cells #[.int .i64 K, .slice A l.length c] 32)).alloc (.cells #[.int .i64 0, .slice none 0 0] 32)).drew).alloc (.cells #[] 108)) w.heap.size (fun _ => True) (.slice (some ⟨w.heap.size + 1 + 1, 0, none⟩) 0 0) [] := by simpa using lit0 (((w.alloc (.cells #[.int .i64 K, .slice A l.length c] 32)).alloc (.cells #[.int .i64 0, .slice none 0 0] 32)).drew) w.heap.size sz
  have X2 : B2 ((((w.alloc (.cells #[.int .i64 K, .slice A l.length c] 32)).alloc (.cells #[.int .i64 0, .slice none 0 0] 32)).drew).alloc (.cells #[] 108)) (w.heap.size + 1) 32 (.int .i64 0) (.slice none 0 0) := B2.new' (w.alloc (.cells #[.int .i64 K, .slice A l.length c] 32)) _ _ _ _
  refine cgApp (w0 := w) (base := w.heap.size) (.tmp 5) (.tmp 7) _ [] l A l.length c HT HD2 HO (Kd.C_below hl bl) bl sz (by simp; omega) (by simp [Value.ownBlock]; omega) ?_
  intro A' c' w1 ho1 hb1 HD3 hg1
  refine cgN ?_
  repeat ((with_reducible refine cgGate ?_); first | refine cgP HT ?_ | refine cgL HT ?_)
  have X3 := X2.grown hg1 (by simp [Value.ownBlock])
  obtain ⟨x0, x1, x2, x3, x4⟩ := X3.f
  refine cgLast HT ?_
  refine cgDone HT ?_
  go_wp2
  have ho2 : kPt.R 108 w1 w.heap.size (fun _ => True) (.slice A' l.length c') l := ho1
  have ho3 := Kd.R_set (Kd.R_set ho2 X3 (by decide) 0 (.int .i64 K)) (X3.set0 (.int .i64 K)) (by decide) 1 (.slice A' l.length c')
  refine bodyPost_ret (v := .agg #[.int .i64 K, .slice A' l.length c']) (by simp [results, Try.results113, go_sem, *]) rfl ⟨A', c', rfl, RI.of ho3, bl⟩
def s_l1Copy_T1 : Bool × List (List Nat × List Nat) := (true, [([], []), ([0], [0]), ([], []), ([], []), ([3], [3]), ([2, 4], [2, 4]), ([1, 5], [1, 5]), ([6, 5, 0, 1, 2, 3, 4, 5, 6], [6])])
theorem s_l1Copy_t1 : rtab .any (opsOf Try.f114 1) = s_l1Copy_T1 := by kernel_rfl
theorem copy_c (K : Int) (A : Option Addr) (c : Nat) (l : List Pt) (w : World) (hl : kPt.C w A l.length l) (hn : l.length ≤ 1048576) :
    Calls Try.prog 114 #[.agg #[.int .i64 K, .slice A l.length c]] w fun e w' => ∃ A' c', e = .returned (.agg #[.int .i64 K, .slice A' l.length c']) ∧ RI kPt 108 w' w.heap.size w'.heap.size (.slice A' l.length c') l ∧ Below w.heap.size w w' := by
  go_enter Try.func114, Try.ntmps114
  go_wp2
  have HC : Cells ((w.alloc (.cells #[.int .i64 K, .slice A l.length c] 32)).alloc (.cells #[.int .i64 0, .slice none 0 0] 32)) _ := (Cells.nil w).two (Below.refl _ _)
  refine cgStart 8 [0, 1, 3, 4, 2, 5, 6, 7] [7] _ s_l1Copy_t1 HC (fun HT HD => ?_)
  repeat ((with_reducible refine cgGate ?_); first | refine cgP HT ?_ | refine cgL HT ?_)
  refine cgE (w1 := ((((w.alloc (.cells #[.int .i64 K, .slice A l.length c] 32)).alloc (.cells #[.int .i64 0, .slice none 0 0] 32)).drew).alloc (.cells #[] 108))) (v := .slice (some ⟨w.heap.size + 1 + 1, 0, none⟩) 0 0) HT (fun HD2 => ?_) (hrun := by first | (go_simp; done) | (go_simp; rfl)) (hS := HD.to bl)
  have HO : kPt.R 108 ((((w.alloc (.cells #[.int .i64 K, .slice A l.length c] 32)).alloc (.cells #[.int .i64 0, .slice none 0 0] 32)).drew).alloc (.cells #[] 108)) w.heap.size (fun _ => True) (.slice (some ⟨w.heap.size + 1 + 1, 0, none⟩) 0 0) [] := by simpa using lit0 (((w.alloc (.cells #[.int .i64 K, .slice A l.length c] 32)).alloc (.cells #[.int .i64 0, .slice none 0 0] 32)).drew) w.heap.size sz
  have X2 : B2 ((((w.alloc (.cells #[.int .i64 K, .slice A l.length c] 32)).alloc (.cells #[.int .i64 0, .slice none 0 0] 32)).drew).alloc (.cells #[] 108)) (w.heap.size + 1) 32 (.int .i64 0) (.slice none 0 0) := B2.new' (w.alloc (.cells #[.int .i64 K, .slice A l.length c] 32)) _ _ _ _
  refine cgApp (w0 := w) (base := w.heap.size) (.tmp 5) (.tmp 7) _ [] l A l.length c HT HD2 HO (Kd.C_below hl bl) bl sz (by simp; omega) (by simp [Value.ownBlock]; omega) ?_
  intro A' c' w1 ho1 hb1 HD3 hg1
  refine cgN ?_
  repeat ((with_reducible refine cgGate ?_); first | refine cgP HT ?_ | refine cgL HT ?_)
  have X3 := X2.grown hg1 (by simp [Value.ownBlock])
  obtain ⟨x0, x1, x2, x3, x4⟩ := X3.f
  refine cgLast HT ?_
  refine cgDone HT ?_
  go_wp2
  have ho2 : kPt.R 108 w1 w.heap.size (fun _ => True) (.slice A' l.length c') l := ho1
  have ho3 := Kd.R_set (Kd.R_set ho2 X3 (by decide) 0 (.int .i64 K)) (X3.set0 (.int .i64 K)) (by decide) 1 (.slice A' l.length c')
  refine bodyPost_ret (v := .agg #[.int .i64 K, .slice A' l.length c']) (by simp [results, Try.results114, go_sem, *]) rfl ⟨A', c', rfl, RI.of ho3, bl⟩
end Go.Proofs.Ytlebgjafaioajaa
