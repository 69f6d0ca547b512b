/- Contracts: copies and marks of a thing, FeatCut. -/
import Derived.Test.YtlebgjafaioajaaFa
import Derived.Test.YtlebgjafaioajaaM
import Derived.Test.YtlebgjafaioajaaFe
namespace Go.Proofs.Ytlebgjafaioajaa
section
open Go.RowKit Go.Proofs.YtlebgjafaioajaaW.PrintWords Go.Proofs.YtlebgjafaioajaaW.PrintLast
set_option maxRecDepth 100000
set_option linter.unusedVariables false
set_option linter.unusedSimpArgs false
/-- A block of four cells. -/
def B4 (W : World) (b : Nat) (t : TypeId) (p q r s : Value) : Prop := W.heap[b]? = some (.cells #[p, q, r, s] t (0, 0))
section
variable {W W1 : World} {b b' i : Nat} {t : TypeId} {p q r s x : Value}
theorem B4.lt (h : B4 W b t p q r s) : b < W.heap.size := blk_lt h
theorem B4.c (h : B4 W b t p q r s) : W.cell? ⟨b, 0, none⟩ = some p ∧ W.cell? ⟨b, 1, none⟩ = some q ∧ W.cell? ⟨b, 2, none⟩ = some r ∧ W.cell? ⟨b, 3, none⟩ = some s := ⟨blk_cell h 0, blk_cell h 1, blk_cell h 2, blk_cell h 3⟩
theorem B4.z (h : B4 W b t p q r s) : W.frozen? ⟨b, 0, none⟩ = false ∧ W.frozen? ⟨b, 1, none⟩ = false ∧ W.frozen? ⟨b, 2, none⟩ = false ∧ W.frozen? ⟨b, 3, none⟩ = false := ⟨blk_frozen h 0, blk_frozen h 1, blk_frozen h 2, blk_frozen h 3⟩
theorem B4.new (w : World) (p q r s : Value) (t : TypeId) : B4 (w.alloc (.cells #[p, q, r, s] t)) w.heap.size t p q r s := blk_new w _
theorem B4.new' (w : World) (b : Nat) (p q r s : Value) (t : TypeId) (hb : Below (w.alloc (.cells #[p, q, r, s] t)).heap.size (w.alloc (.cells #[p, q, r, s] t)) W := by exact bl) (h : b = w.heap.size := by first | rfl | (simp; done)) : B4 W b t p q r s := by
  subst h
  exact blk_below (blk_new w _) hb
theorem B4.to (h : B4 W b t p q r s) (hb : Below W.heap.size W W1) : B4 W1 b t p q r s := blk_below h hb
theorem B4.far (h : B4 W b t p q r s) (hne : (b == b') = false) : B4 (W.setCell ⟨b', i, none⟩ x) b t p q r s := blk_far h (by simpa using hne) x
theorem B4.grown {row : Option Nat} (h : B4 W b t p q r s) (hg : W.grownBy W1 row) (hf : some b ≠ row) : B4 W1 b t p q r s := blk_grown h hg hf
theorem B4.set0 (h : B4 W b t p q r s) (x : Value) : B4 (W.setCell ⟨b, 0, none⟩ x) b t x q r s := blk_set h 0 x
theorem B4.set1 (h : B4 W b t p q r s) (x : Value) : B4 (W.setCell ⟨b, 1, none⟩ x) b t p x r s := blk_set h 1 x
theorem B4.set2 (h : B4 W b t p q r s) (x : Value) : B4 (W.setCell ⟨b, 2, none⟩ x) b t p q x s := blk_set h 2 x
theorem B4.set3 (h : B4 W b t p q r s) (x : Value) : B4 (W.setCell ⟨b, 3, none⟩ x) b t p q r x := blk_set h 3 x
/-- A row of one's own of another type outlives four stores into the block. -/
theorem B4.R {α : Type} {d : Kd α} {e base : Nat} {ok : Nat → Prop} {v : Value} {xs : List α} (h : B4 W b t p q r s) (hr : d.R e W base ok v xs) (ht : ∀ q, q ∈ e :: d.E → q ≠ t) (p' q' r' s' : Value) :
    d.R e ((((W.setCell ⟨b, 0, none⟩ p').setCell ⟨b, 1, none⟩ q').setCell ⟨b, 2, none⟩ r').setCell ⟨b, 3, none⟩ s') base ok v xs :=
  Kd.R_set (Kd.R_set (Kd.R_set (Kd.R_set hr h ht 0 p') (h.set0 p') ht 1 q') ((h.set0 p').set1 q') ht 2 r') (((h.set0 p').set1 q').set2 r') ht 3 s'
end
section
variable {α : Type} {d : Kd α} {P : Program} {ops : Array Oper} {Q : Exit → Act → World → Prop} {S : World → Prop} {T : Bool × List (List Nat × List Nat)} {i k n fuel : Nat} {p ds : List Nat} {oi : Oper} {a : Act} {w : World} {L : List (Addr × Value)}
theorem cgCall_k {l' : Array Bool} {f : FuncId} {fn : Func} {av : Array Operand} {ts : Array TypeId} {args : Array Value} {R : Ending → World → Prop} (hf : P.funcs[f]? = some fn) (hcall : Calls P f args w R)
    (h : ∀ e w', R e w' → ∃ v, e = .returned v ∧ S w' ∧ wpAnyLast P .any ops Q S ds fuel l' (a.put oi.dst v) w')
    (hop : oi.op = .call { callee := .value (.func f), args := av, argTypes := ts } := by rfl)
    (hw : Region.wanted oi (yielded ops a.tmps) = true := by rfl) (hargs : av.map a.eval = args := by ((try simp only [List.map_toArray, List.map_cons, List.map_nil]); first | done | rfl))
    (hname : (fn.name == "runtime.NumGoroutine") = false := by kernel_rfl) (hb : fn.body.isSome = true := by rfl) : CgK P ops Q S ds fuel l' oi a w := by
  refine fun K hK => ?_
  refine goes_ hf hname hb args hw rfl hop hargs (hcall.mono fun e w' hr => ?_)
  obtain ⟨v, rfl, hs, hk⟩ := h e w' hr
  exact ⟨v, rfl, hK _ _ hs (fun _ => hk)⟩
/-- append(v, ys..) of rows whose elements hold no rows, alone. -/
theorem cgAppG {w0 : World} {base : Nat} (t e : TypeId) (z : Value) (bytes : Nat) (ht : P.underlying t = some (.slice e)) (hinfo : (P.info? e).map (fun i => (i.zero, i.size, i.bytes)) = some (some z, d.sz, bytes)) (hz : z.cells.size = d.sz) (hs0 : 0 < d.sz) (hb0 : 0 < bytes) (hKM : ∀ x cs, d.K w x cs → d.M w base (fun _ => False) x cs)
    (s x : Operand) (v : Value) (xs ys : List α) (A : Option Addr) (m c : Nat) (hT : Aside0 (rtab .any ops = T)) (hC : Cells w L)
    (HO : d.R e w base (fun _ => True) v xs) (HR : d.C w A m ys) (HB : Below base w0 w) (hbase : base ≤ w.heap.size) (hl : (xs.length + m) * bytes ≤ 140737488355328) (hf : ∀ x ∈ L, some x.1.block ≠ v.ownBlock)
    (h : ∀ A' c' w1, d.R e w1 base (fun _ => True) (.slice A' (xs ++ ys).length c') (xs ++ ys) → Below base w0 w1 → Cells w1 L → w.grownBy w1 v.ownBlock → wpAnyLast P .any ops Q (fun w' => Cells w' L) ds fuel (lit p (k + 1) n) (a.put oi.dst (.slice A' (xs ++ ys).length c')) w1)
    (hk : p[k]? = some i := by (try simp only [List.getElem?_cons_succ, List.getElem?_cons_zero]); rfl) (hi : ops[i]? = some oi := by (try simp only [List.getElem?_toArray, List.getElem?_cons_succ, List.getElem?_cons_zero]); rfl)
    (ho : oi.op = .call { callee := .builtin .append, args := #[s, x], argTypes := #[t, t] } := by rfl) (hw : Region.wanted oi (yielded ops a.tmps) = true := by rfl) (hs : a.eval s = v := by rfl) (hx : a.eval x = .slice A m c := by rfl) (hd : i ∉ ds := by decide)
    (hc : (readyT T.2 (lit p k n).toList == [i] && (lit p k n).toList.set i true == (lit p (k + 1) n).toList) = true := by kernel_rfl) : wpAnyLast P .any ops Q (fun w' => Cells w' L) ds (fuel + 1) (lit p k n) a w := by
  refine one_ (lit p (k + 1) n) hi rfl (one_of hT.out hc) hd (fun K hK => ?_)
  refine Kd.R_append_rows_step d (w0 := w0) base hw s x t e z bytes ho ht hinfo hz hs0 hb0 v xs ys A m c (fun _ => True) (fun _ => False) hs hx HO HR hKM (fun _ h => h.elim) (fun _ _ => trivial) HB hbase hl ?_
  intro v1 w1 ho1 hb1 hg1 _
  obtain ⟨A', c', rfl⟩ := Kd.R_slice ho1
  have hC1 := hC.grown hg1 hf
  exact hK _ _ hC1 (fun _ => h A' c' w1 ho1 hb1 hC1 hg1)
end
theorem R_grownT {α β : Type} {d : Kd α} {d2 : Kd β} {e e2 base b2 : Nat} {ok ok2 : Nat → Prop} {W W1 : World} {v v2 : Value} {xs : List α} {ys : List β} (h : d.R e W base ok v xs) (h2 : d2.R e2 W b2 ok2 v2 ys) (ht : ∀ q, q ∈ e :: d.E → q ≠ e2) (hg : W.grownBy W1 v2.ownBlock) : d.R e W1 base ok v xs := by
  cases hv : v2.ownBlock with
  | none => exact Kd.R_grown h (hv ▸ hg) (fun _ _ => by simp)
  | some k =>
    obtain ⟨inner, ho⟩ := Kd.R_own h2
    obtain ⟨cells, hb⟩ := own_typed ho k hv
    have h3 := Kd.R_types h hb ht
    rw [hv] at hg
    exact Kd.R_mono (Kd.R_grown h3 hg (fun q hq e => hq.2 (by simpa using e))) (fun _ hk => hk.1)
theorem Kd.R_block_ge {α : Type} {d : Kd α} {e base : Nat} {ok : Nat → Prop} {w : World} {A : Option Addr} {n c : Nat} {xs : List α} (h : d.R e w base ok (.slice A n c) xs) : ∀ k, (Value.slice A n c).ownBlock = some k → base ≤ k := fun k hk => by
  obtain ⟨inner, ho⟩ := Kd.R_own h
  exact own_base ho k hk
theorem litT0 (w : World) (base : Nat) (hb : base ≤ w.heap.size) : kTag.R 57 (w.alloc (.cells #[] 57)) base (fun _ => True) (.slice (some ⟨w.heap.size, 0, none⟩) 0 0) [] :=
  ⟨fun _ _ => trivial, [], World.ownsRow_lit (base := base) (e := 57) (size := 2) w #[] 0 hb (by decide) rfl, Reps.none _ _⟩
/-- A thing in new memory. -/
def NFeat (w : World) (f : FeatD) (e : Ending) (w' : World) : Prop := ∃ A c B d, e = .returned (featV f A c B d) ∧ RI kPt 108 w' w.heap.size w'.heap.size (.slice A f.2.1.2.length c) f.2.1.2 ∧ RI kTag 57 w' w.heap.size w'.heap.size (.slice B f.2.2.length d) f.2.2 ∧ Below w.heap.size w w'
def i_cloneFeat_T1 : Bool × List (List Nat × List Nat) := (true, [([], []), ([0], [0]), ([], []), ([2], [2]), ([3], [3]), ([], []), ([], []), ([6], [6]), ([5, 7, 4], [5, 7]), ([1, 4, 8], [1, 4, 8]), ([9, 8, 0, 1, 2, 3, 4, 5, 6, 7, 8, 9], [9])])
theorem i_cloneFeat_t1 : rtab .any (opsOf Try.f72 1) = i_cloneFeat_T1 := by kernel_rfl
set_option maxHeartbeats 4000000 in
theorem cloneF_c (f : FeatD) (A : Option Addr) (c : Nat) (B : Option Addr) (d : Nat) (w : World) (hl : kPt.C w A f.2.1.2.length f.2.1.2) (hm : kTag.C w B f.2.2.length f.2.2) (n1 : f.2.1.2.length ≤ 1048576) (n2 : f.2.2.length ≤ 1048576) :
    Calls Try.prog 72 #[featV f A c B d] w (NFeat w f) := by
  obtain ⟨id, ⟨K, l⟩, m⟩ := f
  simp only [featV] at hl hm n1 n2 ⊢
  have HC : Cells ((w.alloc (.cells #[.string id, .int .i64 K, .slice A l.length c, .slice B m.length d] 35)).alloc (.cells #[.string ⟨#[]⟩, .int .i64 0, .slice none 0 0, .slice none 0 0] 35)) _ := (Cells.nil w).box4 (bl : Below _ (w.alloc (.cells #[.string id, .int .i64 K, .slice A l.length c, .slice B m.length d] 35)) _)
  have X0 : B4 ((w.alloc (.cells #[.string id, .int .i64 K, .slice A l.length c, .slice B m.length d] 35)).alloc (.cells #[.string ⟨#[]⟩, .int .i64 0, .slice none 0 0, .slice none 0 0] 35)) (w.heap.size + 1) 35 (.string ⟨#[]⟩) (.int .i64 0) (.slice none 0 0) (.slice none 0 0) := B4.new' (w.alloc (.cells #[.string id, .int .i64 K, .slice A l.length c, .slice B m.length d] 35)) _ _ _ _ _ _
  have B0 : Below w.heap.size w ((w.alloc (.cells #[.string id, .int .i64 K, .slice A l.length c, .slice B m.length d] 35)).alloc (.cells #[.string ⟨#[]⟩, .int .i64 0, .slice none 0 0, .slice none 0 0] 35)) := bl
  have s0 : ((w.alloc (.cells #[.string id, .int .i64 K, .slice A l.length c, .slice B m.length d] 35)).alloc (.cells #[.string ⟨#[]⟩, .int .i64 0, .slice none 0 0, .slice none 0 0] 35)).heap.size = w.heap.size + 2 := by simp
  go_enter Try.func72, Try.ntmps72
  go_wp2
  generalize ((w.alloc (.cells #[.string id, .int .i64 K, .slice A l.length c, .slice B m.length d] 35)).alloc (.cells #[.string ⟨#[]⟩, .int .i64 0, .slice none 0 0, .slice none 0 0] 35)) = w0 at *
  refine cgStart 11 [0, 1, 2, 3, 6, 7, 4, 5, 8, 9, 10] [10] _ i_cloneFeat_t1 HC (fun HT HD => ?_)
  repeat ((with_reducible refine cgGate ?_); first | refine cgP HT ?_ | refine cgL HT ?_ | refine cgG HT ?_)
  refine cgTwo [0, 1, 2, 3, 6, 7, 5, 4, 8, 9, 10] HT ?b1 ?b2
  case' b1 =>
    refine cgCall_k Try.func113 (clone_c K A c l _ (Kd.C_below hl bl) n1) ?_
    rintro e w1 ⟨A1, c1, rfl, hr1, hb1⟩
    refine ⟨_, rfl, HD.to hb1, cgN ?_⟩
    refine cgE (w1 := w1.alloc (.cells #[] 57)) (v := .slice (some ⟨w1.heap.size, 0, none⟩) 0 0) HT (fun HD2 => ?_) (hrun := by first | (go_simp; done) | (go_simp; rfl)) (hS := (HD.to hb1).to bl)
    have HO : kTag.R 57 (w1.alloc (.cells #[] 57)) w0.heap.size (fun _ => True) (.slice (some ⟨w1.heap.size, 0, none⟩) 0 0) [] := litT0 w1 w0.heap.size hb1.size
    have hb2 : Below w0.heap.size w0 (w1.alloc (.cells #[] 57)) := bl
    have hr2 := Kd.R_below (hr1.up (b := w0.heap.size) (Nat.le_refl _)) (below_alloc (Below.refl _ _) (.cells #[] 57))
    have hgb : w0.heap.size ≤ w1.heap.size := hb1.size
    clear hr1
    generalize w1.alloc (.cells #[] 57) = w2 at *
  case' b2 =>
    refine cgE_k (w1 := w0.drew.alloc (.cells #[] 57)) (v := .slice (some ⟨w0.heap.size, 0, none⟩) 0 0) (fun HD2 => ?_) (hrun := by first | (go_simp; done) | (go_simp; rfl)) (hS := HD.to bl)
    refine cgCall HT Try.func113 (clone_c K A c l _ (Kd.C_below hl bl) n1) ?_
    rintro e w2 ⟨A1, c1, rfl, hr1, hb1⟩
    refine ⟨_, rfl, HD2.to hb1, cgN ?_⟩
    have HO : kTag.R 57 w2 w0.heap.size (fun _ => True) (.slice (some ⟨w0.heap.size, 0, none⟩) 0 0) [] := Kd.R_below (litT0 w0.drew w0.heap.size (Nat.le_refl _)) hb1
    have hb2 : Below w0.heap.size w0 w2 := bl
    have hr2 := hr1.up (b := w0.heap.size) (by simp)
    have hgb : w0.heap.size ≤ w0.heap.size := Nat.le_refl _
    replace HD2 := HD2.to hb1
    clear hr1
  all_goals
    have X2 := X0.to hb2
    refine cgAppG (d := kTag) (w0 := w0) (base := w0.heap.size) 33 57 (.agg #[(.string ByteArray.empty), (.string ByteArray.empty)]) 32 Try.underlying33 info_Tag rfl (by decide) (by omega) (fun _ _ h => h) (.tmp 8) (.tmp 10) _ [] m B m.length d HT HD2 HO (Kd.C_below hm (bl : Below w.heap.size w w2)) hb2 hb2.size (by simp; omega) (fun x hx e_ => by have := Kd.R_block_ge HO _ e_.symm; simp only [List.mem_cons, List.mem_nil_iff, or_false] at hx; rcases hx with rfl | rfl | rfl | rfl <;> simp only [] at this <;> omega) ?_
    intro B3 d3 w3 ho3 hb3 HD3 hg3
    refine cgN ?_
    repeat ((with_reducible refine cgGate ?_); first | refine cgP HT ?_ | refine cgL HT ?_ | refine cgG HT ?_)
    have X3 := X2.grown hg3 (Kd.R_ne HO X2 (by decide))
    have hr3 := R_grownT hr2 HO (by decide) hg3
    obtain ⟨x0, x1, x2, x3⟩ := X3.c
    obtain ⟨y0, y1, y2, y3⟩ := X3.z
    refine cgLast HT ?_
    refine cgDone HT ?_
    clear HT HD HD2 HD3
    go_wp2
    have Bz : Below w.heap.size w w3 := B0.trans (hb3.mono (by omega))
    have ho4 : kTag.R 57 w3 w0.heap.size (fun _ => True) (.slice B3 m.length d3) m := ho3
    refine bodyPost_ret (v := .agg #[.string id, .int .i64 K, .slice A1 l.length c1, .slice B3 m.length d3]) (by simp [results, Try.results72, go_sem, *]) rfl ⟨A1, c1, B3, d3, rfl, RI.of (Kd.R_lower (X3.R hr3 (by decide) _ _ _ _) (by omega)), RI.of (Kd.R_lower (X3.R ho4 (by decide) _ _ _ _) (by omega)), (((Bz.setCell (by simp) _).setCell (by simp) _).setCell (by simp) _).setCell (by simp) _⟩
def s_l2Copy_T1 : Bool × List (List Nat × List Nat) := (true, [([], []), ([0], [0]), ([], []), ([2], [2]), ([3], [3]), ([], []), ([], []), ([6], [6]), ([5, 7, 4], [5, 7]), ([1, 4, 8], [1, 4, 8]), ([9, 8, 0, 1, 2, 3, 4, 5, 6, 7, 8, 9], [9])])
theorem s_l2Copy_t1 : rtab .any (opsOf Try.f74 1) = s_l2Copy_T1 := by kernel_rfl
set_option maxHeartbeats 4000000 in
theorem copyF_c (f : FeatD) (A : Option Addr) (c : Nat) (B : Option Addr) (d : Nat) (w : World) (hl : kPt.C w A f.2.1.2.length f.2.1.2) (hm : kTag.C w B f.2.2.length f.2.2) (n1 : f.2.1.2.length ≤ 1048576) (n2 : f.2.2.length ≤ 1048576) :
    Calls Try.prog 74 #[featV f A c B d] w (NFeat w f) := by
  obtain ⟨id, ⟨K, l⟩, m⟩ := f
  simp only [featV] at hl hm n1 n2 ⊢
  have HC : Cells ((w.alloc (.cells #[.string id, .int .i64 K, .slice A l.length c, .slice B m.length d] 35)).alloc (.cells #[.string ⟨#[]⟩, .int .i64 0, .slice none 0 0, .slice none 0 0] 35)) _ := (Cells.nil w).box4 (bl : Below _ (w.alloc (.cells #[.string id, .int .i64 K, .slice A l.length c, .slice B m.length d] 35)) _)
  have X0 : B4 ((w.alloc (.cells #[.string id, .int .i64 K, .slice A l.length c, .slice B m.length d] 35)).alloc (.cells #[.string ⟨#[]⟩, .int .i64 0, .slice none 0 0, .slice none 0 0] 35)) (w.heap.size + 1) 35 (.string ⟨#[]⟩) (.int .i64 0) (.slice none 0 0) (.slice none 0 0) := B4.new' (w.alloc (.cells #[.string id, .int .i64 K, .slice A l.length c, .slice B m.length d] 35)) _ _ _ _ _ _
  have B0 : Below w.heap.size w ((w.alloc (.cells #[.string id, .int .i64 K, .slice A l.length c, .slice B m.length d] 35)).alloc (.cells #[.string ⟨#[]⟩, .int .i64 0, .slice none 0 0, .slice none 0 0] 35)) := bl
  have s0 : ((w.alloc (.cells #[.string id, .int .i64 K, .slice A l.length c, .slice B m.length d] 35)).alloc (.cells #[.string ⟨#[]⟩, .int .i64 0, .slice none 0 0, .slice none 0 0] 35)).heap.size = w.heap.size + 2 := by simp
  go_enter Try.func74, Try.ntmps74
  go_wp2
  generalize ((w.alloc (.cells #[.string id, .int .i64 K, .slice A l.length c, .slice B m.length d] 35)).alloc (.cells #[.string ⟨#[]⟩, .int .i64 0, .slice none 0 0, .slice none 0 0] 35)) = w0 at *
  refine cgStart 11 [0, 1, 2, 3, 6, 7, 4, 5, 8, 9, 10] [10] _ s_l2Copy_t1 HC (fun HT HD => ?_)
  repeat ((with_reducible refine cgGate ?_); first | refine cgP HT ?_ | refine cgL HT ?_ | refine cgG HT ?_)
  refine cgTwo [0, 1, 2, 3, 6, 7, 5, 4, 8, 9, 10] HT ?b1 ?b2
  case' b1 =>
    refine cgCall_k Try.func114 (copy_c K A c l _ (Kd.C_below hl bl) n1) ?_
    rintro e w1 ⟨A1, c1, rfl, hr1, hb1⟩
    refine ⟨_, rfl, HD.to hb1, cgN ?_⟩
    refine cgE (w1 := w1.alloc (.cells #[] 57)) (v := .slice (some ⟨w1.heap.size, 0, none⟩) 0 0) HT (fun HD2 => ?_) (hrun := by first | (go_simp; done) | (go_simp; rfl)) (hS := (HD.to hb1).to bl)
    have HO : kTag.R 57 (w1.alloc (.cells #[] 57)) w0.heap.size (fun _ => True) (.slice (some ⟨w1.heap.size, 0, none⟩) 0 0) [] := litT0 w1 w0.heap.size hb1.size
    have hb2 : Below w0.heap.size w0 (w1.alloc (.cells #[] 57)) := bl
    have hr2 := Kd.R_below (hr1.up (b := w0.heap.size) (Nat.le_refl _)) (below_alloc (Below.refl _ _) (.cells #[] 57))
    have hgb : w0.heap.size ≤ w1.heap.size := hb1.size
    clear hr1
    generalize w1.alloc (.cells #[] 57) = w2 at *
  case' b2 =>
    refine cgE_k (w1 := w0.drew.alloc (.cells #[] 57)) (v := .slice (some ⟨w0.heap.size, 0, none⟩) 0 0) (fun HD2 => ?_) (hrun := by first | (go_simp; done) | (go_simp; rfl)) (hS := HD.to bl)
    refine cgCall HT Try.func114 (copy_c K A c l _ (Kd.C_below hl bl) n1) ?_
    rintro e w2 ⟨A1, c1, rfl, hr1, hb1⟩
    refine ⟨_, rfl, HD2.to hb1, cgN ?_⟩
    have HO : kTag.R 57 w2 w0.heap.size (fun _ => True) (.slice (some ⟨w0.heap.size, 0, none⟩) 0 0) [] := Kd.R_below (litT0 w0.drew w0.heap.size (Nat.le_refl _)) hb1
    have hb2 : Below w0.heap.size w0 w2 := bl
    have hr2 := hr1.up (b := w0.heap.size) (by simp)
    have hgb : w0.heap.size ≤ w0.heap.size := Nat.le_refl _
    replace HD2 := HD2.to hb1
    clear hr1
  all_goals
    have X2 := X0.to hb2
    refine cgAppG (d := kTag) (w0 := w0) (base := w0.heap.size) 33 57 (.agg #[(.string ByteArray.empty), (.string ByteArray.empty)]) 32 Try.underlying33 info_Tag rfl (by decide) (by omega) (fun _ _ h => h) (.tmp 8) (.tmp 10) _ [] m B m.length d HT HD2 HO (Kd.C_below hm (bl : Below w.heap.size w w2)) hb2 hb2.size (by simp; omega) (fun x hx e_ => by have := Kd.R_block_ge HO _ e_.symm; simp only [List.mem_cons, List.mem_nil_iff, or_false] at hx; rcases hx with rfl | rfl | rfl | rfl <;> simp only [] at this <;> omega) ?_
    intro B3 d3 w3 ho3 hb3 HD3 hg3
    refine cgN ?_
    repeat ((with_reducible refine cgGate ?_); first | refine cgP HT ?_ | refine cgL HT ?_ | refine cgG HT ?_)
    have X3 := X2.grown hg3 (Kd.R_ne HO X2 (by decide))
    have hr3 := R_grownT hr2 HO (by decide) hg3
    obtain ⟨x0, x1, x2, x3⟩ := X3.c
    obtain ⟨y0, y1, y2, y3⟩ := X3.z
    refine cgLast HT ?_
    refine cgDone HT ?_
    clear HT HD HD2 HD3
    go_wp2
    have Bz : Below w.heap.size w w3 := B0.trans (hb3.mono (by omega))
    have ho4 : kTag.R 57 w3 w0.heap.size (fun _ => True) (.slice B3 m.length d3) m := ho3
    refine bodyPost_ret (v := .agg #[.string id, .int .i64 K, .slice A1 l.length c1, .slice B3 m.length d3]) (by simp [results, Try.results74, go_sem, *]) rfl ⟨A1, c1, B3, d3, rfl, RI.of (Kd.R_lower (X3.R hr3 (by decide) _ _ _ _) (by omega)), RI.of (Kd.R_lower (X3.R ho4 (by decide) _ _ _ _) (by omega)), (((Bz.setCell (by simp) _).setCell (by simp) _).setCell (by simp) _).setCell (by simp) _⟩
end
section
open Go.RowKit Go.Proofs.YtlebgjafaioajaaW.PrintWords Go.Proofs.YtlebgjafaioajaaW.PrintLast
set_option maxRecDepth 100000
set_option linter.unusedVariables false
set_option linter.unusedSimpArgs false
/-- The digits of a number ahead of a text. -/
def dgt (k : Nat) (o : ByteArray) : ByteArray := if h : k = 0 then o else dgt (k / 10) (strOfNums [48 + (k : Int) % 10] ++ o)
termination_by k
decreasing_by omega
theorem dgt_zero (o : ByteArray) : dgt 0 o = o := by rw [dgt, dif_pos rfl]
theorem dgt_succ {k : Nat} (h : 0 < k) (o : ByteArray) : dgt k o = dgt (k / 10) (strOfNums [48 + (k : Int) % 10] ++ o) := by rw [dgt, dif_neg (by omega)]
def mtext (k : Nat) : ByteArray := (⟨#[109]⟩ : ByteArray) ++ dgt k ⟨#[]⟩
theorem one_size (x : Int) : (strOfNums [x]).size = 1 := rfl
theorem pow_bound {j n : Nat} (hj : 0 < j) (h : j * 2 ^ n ≤ 2 ^ 40) : n ≤ 40 ∧ (j / 10) * 2 ^ (n + 1) ≤ 2 ^ 40 := by
  constructor
  · have h1 : 2 ^ n ≤ 2 ^ 40 := Nat.le_trans (Nat.le_mul_of_pos_left _ hj) h
    exact (Nat.pow_le_pow_iff_right (by omega)).1 h1
  · rw [Nat.pow_succ, Nat.mul_comm (2 ^ n) 2, ← Nat.mul_assoc]
    exact Nat.le_trans (Nat.mul_le_mul_right _ (by omega)) h
theorem markText_c (k : Nat) (w : World) (h1 : 1 ≤ k) (h2 : k ≤ 1099511627776) :
    Calls Try.prog 81 #[.int .i64 k] w fun e w' => e = .returned (.string (mtext k)) ∧ Below w.heap.size w w' := by
  have h0 : ¬ k = 0 := by omega
  go_enter Try.func81, Try.ntmps81
  go_wp2
  go_loopw [0, 3] (fun q o wr => ∃ (j : Nat) (s : ByteArray), j ≤ 1099511627776 ∧ q = .int .i64 j ∧ o = .string s ∧ Aside0 (dgt j s = dgt k ⟨#[]⟩) ∧ Aside0 (j * 2 ^ s.size ≤ 2 ^ 40) ∧ s.size ≤ 41 ∧ Aside0 (Below w.heap.size w wr)) (fun q _ _ => (intOf q).toNat)
  case atStart => exact ⟨k, ⟨#[]⟩, h2, rfl, rfl, ⟨rfl⟩, ⟨by show k * 2 ^ 0 ≤ 2 ^ 40; omega⟩, by decide, ⟨Below.refl _ _⟩⟩
  case round =>
    obtain ⟨j, s, hj9, rfl, rfl, he, hp, hs, ⟨hb⟩⟩ := hrel
    by_cases hj : 0 < j
    · have d2 : decide ((0 : Int) < (j : Int)) = true := decide_eq_true (by omega)
      have hpb := Lib.hid (pow_bound hj hp.out)
      have hcv := string_of_reads (P := Try.prog) (w := wr.alloc (.cells #[.int .u8 (48 + (j : Int) % 10)] 5)) (src := 51) (dst := 9) (e := 5) (A := some ⟨wr.heap.size, 0, none⟩) (n := 1) (c := 1) (xs := [48 + (j : Int) % 10]) Try.underlying51 Try.underlying5 Try.underlying9 ⟨rfl, by decide, fun _ => ⟨_, rfl, fun i hi => by
        obtain rfl : i = 0 := by omega
        rw [add_zero']
        exact cbn 0 (Below.refl _ _) rfl⟩⟩
      have hsz := one_size (48 + (j : Int) % 10)
      go_wp2
      have hs2 : (strOfNums [48 + (j : Int) % 10] ++ s).size = s.size + 1 := by rw [ByteArray.size_append, hsz]; omega
      have h40 := hpb.out.1
      exact ⟨⟨j / 10, _, by omega, rfl, rfl, ⟨by rw [← dgt_succ hj]; exact he.out⟩, ⟨by rw [hs2]; exact hpb.out.2⟩, by rw [hs2]; omega, ⟨bl⟩⟩, by simp [intOf]; omega⟩
    · obtain rfl : j = 0 := by omega
      have hd := he.out
      rw [dgt_zero] at hd
      subst hd
      go_wp2
      go_ret
      exact ⟨rfl, hb⟩
theorem markText_i (x : Int) (w : World) (h1 : 1 ≤ x) (h2 : x ≤ 1099511627776) :
    Calls Try.prog 81 #[.int .i64 x] w fun e w' => e = .returned (.string (mtext x.toNat)) ∧ Below w.heap.size w w' := by
  obtain ⟨k, rfl⟩ : ∃ k : Nat, x = k := ⟨x.toNat, by omega⟩
  exact markText_c k w (by omega) (by omega)
/-! Rows of tags marked. -/
def markT1 (k : Int) (i : Nat) : Tag := (mtext (k + 2 * (i : Int)).toNat, mtext (k + 2 * (i : Int) + 1).toNat)
def markT (k : Int) (n : Nat) : List Tag := (List.range n).map (markT1 k)
theorem markT_len (k : Int) (n : Nat) : (markT k n).length = n := by simp [markT]
theorem markT_get (k : Int) (n i : Nat) (h : i < (markT k n).length) : (markT k n)[i] = markT1 k i := by simp [markT]
theorem markT_set (l : List Tag) (k : Int) (i : Nat) (h : i < l.length) (u : ByteArray) (h2 : i < ((markT k l.length).take i ++ l.drop i).length) :
    (((markT k l.length).take i ++ l.drop i).set i (u, ((markT k l.length).take i ++ l.drop i)[i].2)).set i (mtext (k + 2 * (i : Int)).toNat, mtext (k + 2 * (i : Int) + 1).toNat) = (markT k l.length).take (i + 1) ++ l.drop (i + 1) := by
  have hm : i < (markT k l.length).length := by rw [markT_len]; exact h
  have hl : ((markT k l.length).take i).length = i := by rw [List.length_take]; omega
  rw [List.set_set, List.set_append_right _ _ (by omega), hl, Nat.sub_self, List.take_succ_eq_append_getElem hm, markT_get, List.drop_eq_getElem_cons h, List.set_cons_zero, List.append_assoc]
  rfl
theorem set_Tag0 {e base g n cap : Nat} {ok : Nat → Prop} {W : World} {xs : List Tag} (h : kTag.R e W base ok (.slice (some ⟨g, 0, none⟩) n cap) xs) (i : Nat) (hi : i < n) (hx : i < xs.length) (x : ByteArray) :
    kTag.R e (W.setCell ⟨g, i * 2, none⟩ (.string x)) base ok (.slice (some ⟨g, 0, none⟩) n cap) (xs.set i (x, xs[i].2)) := by
  obtain ⟨c, hl, hM, hc, hf⟩ := Kd.R_elem h tag0 (i : Int) (by omega) (by omega)
  have hg : xs.getD i tag0 = xs[i] := by rw [List.getD_eq_getElem?_getD, List.getElem?_eq_getElem hx]; rfl
  simp only [Int.toNat_natCast] at hM hc hf
  rw [hg] at hM
  obtain rfl := kTag_openM hM
  exact (Kd.R_seg h (i : Int) (by omega) (by omega) (seg := [.string x]) (j := 0) hl (by simpa using hc) (show 1 ≤ 2 by decide) (x' := (x, xs[i].2)) (okp := fun k => ok k ∧ k ≠ g) (kTag_mkM _ _ _ (x, xs[i].2)) (fun _ hk => hk)).1
theorem set_Tag1 {e base g n cap : Nat} {ok : Nat → Prop} {W : World} {xs : List Tag} (h : kTag.R e W base ok (.slice (some ⟨g, 0, none⟩) n cap) xs) (i : Nat) (hi : i < n) (hx : i < xs.length) (x : ByteArray) :
    kTag.R e (W.setCell ⟨g, i * 2 + 1, none⟩ (.string x)) base ok (.slice (some ⟨g, 0, none⟩) n cap) (xs.set i (xs[i].1, x)) := by
  obtain ⟨c, hl, hM, hc, hf⟩ := Kd.R_elem h tag0 (i : Int) (by omega) (by omega)
  have hg : xs.getD i tag0 = xs[i] := by rw [List.getD_eq_getElem?_getD, List.getElem?_eq_getElem hx]; rfl
  simp only [Int.toNat_natCast] at hM hc hf
  rw [hg] at hM
  obtain rfl := kTag_openM hM
  exact (Kd.R_seg h (i : Int) (by omega) (by omega) (seg := [.string x]) (j := 1) hl (by simpa using hc) (show 2 ≤ 2 by decide) (x' := (xs[i].1, x)) (okp := fun k => ok k ∧ k ≠ g) (kTag_mkM _ _ _ (xs[i].1, x)) (fun _ hk => hk)).1
set_option maxHeartbeats 4000000 in
theorem markTagS_c (A : Option Addr) (c : Nat) (l : List Tag) (k : Int) (lo hi : Nat) (w : World) (hr : RI kTag 57 w lo hi (.slice A l.length c) l) (hn : l.length ≤ 1048576) (hk0 : 1 ≤ k) (hk1 : k ≤ 1073741824) (hhi : hi ≤ w.heap.size) (hlo : lo ≤ w.heap.size) :
    Calls Try.prog 76 #[.slice A l.length c, .int .i64 k] w fun e w' => e = .returned (.int .i64 (k + 2 * (l.length : Int))) ∧ RI kTag 57 w' lo hi (.slice A l.length c) (markT k l.length) ∧ Ex lo hi w w' := by
  go_enter Try.func76, Try.ntmps76
  go_wp2
  go_loopw [1, 5] (fun q i wr => ∃ j : Nat, j ≤ l.length ∧ i = .int .i64 j ∧ q = .int .i64 (k + 2 * (j : Int)) ∧ Aside0 (RI kTag 57 wr lo hi (.slice A l.length c) ((markT k l.length).take j ++ l.drop j)) ∧ Aside0 (Ex lo hi w wr)) (fun _ i _ => l.length - (intOf i).toNat)
  case atStart => exact ⟨0, by omega, rfl, by simp, ⟨by simpa using hr⟩, ⟨Ex.refl _ _ _⟩⟩
  case round =>
    obtain ⟨j, hj, rfl, rfl, ⟨hr1⟩, ⟨hx⟩⟩ := hrel
    by_cases hlt : j < l.length
    · obtain ⟨g, cap, hv, hg1, hg2, _⟩ := Kd.R_form hr (by omega)
      injection hv with e1 e2 e3
      subst e1
      clear e2 e3
      have hg3 : g < hi := hr.1 g (by rfl)
      have hjl : j < ((markT k l.length).take j ++ l.drop j).length := by simp [markT_len]; omega
      have hst := Lib.hid (markT_set l k j hlt (mtext (k + 2 * (j : Int)).toNat) hjl)
      have hlt2 : decide ((j : Int) < (l.length : Int)) = true := by simp; omega
      have hw : IntKind.i64.wrap ((j : Int) + 1) = (j : Int) + 1 := IntWalk.i64_in _ (by omega)
      have hw2 : IntKind.i64.wrap (k + 2 * (j : Int) + 1) = k + 2 * (j : Int) + 1 := IntWalk.i64_in _ (by omega)
      have hw3 : IntKind.i64.wrap (k + 2 * (j : Int) + 1 + 1) = k + 2 * ((j + 1 : Nat) : Int) := by rw [IntWalk.i64_in _ (by omega)]; omega
      have s1 := hx.1.size
      go_wp2_with fail
      refine (markText_i (k + 2 * (j : Int)) _ (by omega) (by omega)).mono ?_
      rintro e w2 ⟨rfl, hb2⟩
      have hr2 := hr1.below hb2
      obtain ⟨d0, d1, f0, f1⟩ := own_Tag hr2 j hjl
      have hr3 := set_Tag0 hr2 j hlt hjl (mtext (k + 2 * (j : Int)).toNat)
      have hx2 : Ex lo hi w (w2.setCell ⟨g, j * 2, none⟩ (.string (mtext (k + 2 * (j : Int)).toNat))) := (hx.to hb2 hlo).set hg1 hg3
      go_wp2_with fail
      refine (markText_i (k + 2 * (j : Int) + 1) _ (by omega) (by omega)).mono ?_
      rintro e w4 ⟨rfl, hb4⟩
      have hr4 := Kd.R_below hr3 hb4
      have hjl2 : j < (((markT k l.length).take j ++ l.drop j).set j (mtext (k + 2 * (j : Int)).toNat, ((markT k l.length).take j ++ l.drop j)[j].2)).length := by rw [List.length_set]; exact hjl
      clear d0 d1 f0 f1
      obtain ⟨d0, d1, f0, f1⟩ := own_Tag hr4 j hjl2
      have hr5 := set_Tag1 hr4 j hlt hjl2 (mtext (k + 2 * (j : Int) + 1).toNat)
      have e4 : (((markT k l.length).take j ++ l.drop j).set j (mtext (k + 2 * (j : Int)).toNat, ((markT k l.length).take j ++ l.drop j)[j].2))[j].1 = mtext (k + 2 * (j : Int)).toNat := by rw [List.getElem_set_self]
      rw [e4, hst.out] at hr5
      have hx4 := (hx2.to hb4 hlo).set (i := j * 2 + 1) (v := .string (mtext (k + 2 * (j : Int) + 1).toNat)) hg1 hg3
      clear hr1 hr2 hr3 hr4 e4 hx2 hx hst
      go_wp2
      exact ⟨⟨j + 1, by omega, rfl, rfl, ⟨hr5⟩, ⟨hx4⟩⟩, by simp [intOf]; omega⟩
    · have he : j = l.length := by omega
      have hlt2 : decide ((j : Int) < (l.length : Int)) = false := by simp; omega
      have hsl := Lib.hid he
      clear he
      have hr2 : RI kTag 57 wr lo hi (.slice A l.length c) (markT k l.length) := by
        have := hr1
        rw [hsl.out, List.drop_length, List.append_nil, List.take_of_length_le (by rw [markT_len]; omega)] at this
        exact this
      go_wp2
      go_ret
      exact ⟨ret_int (by rw [hsl.out]), hr2, hx⟩
def l_heldTagS_T4 : Bool × List (List Nat × List Nat) := (true, [([], []), ([], []), ([0, 1], [0, 1]), ([2], [2]), ([3], [3]), ([], []), ([5], [5]), ([4, 6], [4, 6])])
theorem l_heldTagS_t4 : rtab .any (opsOf Try.f78 4) = l_heldTagS_T4 := by kernel_rfl
def l_heldTagS_T7 : Bool × List (List Nat × List Nat) := (true, [([], []), ([], []), ([0, 1], [0, 1]), ([2], [2]), ([3], [3]), ([], []), ([5], [5]), ([4, 6], [4, 6])])
theorem l_heldTagS_t7 : rtab .any (opsOf Try.f78 7) = l_heldTagS_T7 := by kernel_rfl
set_option maxHeartbeats 4000000 in
theorem heldTagS_c (A : Option Addr) (c n : Nat) (k : Int) (w : World) (hr : kTag.C w A n (markT k n)) (hn : n ≤ 1048576) (hk0 : 1 ≤ k) (hk1 : k ≤ 1073741824) :
    Calls Try.prog 78 #[.slice A n c, .int .i64 k] w fun e w' => e = .returned (.int .i64 (k + 2 * (n : Int))) ∧ Below w.heap.size w w' := by
  go_enter Try.func78, Try.ntmps78
  go_wp2
  go_loopw [1, 5] (fun q i wr => ∃ j : Nat, j ≤ n ∧ i = .int .i64 j ∧ q = .int .i64 (k + 2 * (j : Int)) ∧ Aside0 (Below w.heap.size w wr)) (fun _ i _ => n - (intOf i).toNat)
  case atStart => exact ⟨0, by omega, rfl, by simp, ⟨Below.refl _ _⟩⟩
  case round =>
    obtain ⟨j, hj, rfl, rfl, ⟨hx⟩⟩ := hrel
    by_cases hlt : j < n
    · obtain ⟨ad, rfl, c0, c1⟩ := at_Tag hr j (by rw [markT_len]; exact hlt)
      rw [markT_get] at c0 c1
      replace c0 : wr.cell? (ad.add (j * 2)) = some (.string (mtext (k + 2 * (j : Int)).toNat)) := pw_cell_below (bl : Below w.heap.size w wr) c0
      replace c1 : wr.cell? ⟨(ad.add (j * 2)).block, (ad.add (j * 2)).off + 1, none⟩ = some (.string (mtext (k + 2 * (j : Int) + 1).toNat)) := pw_cell_below (bl : Below w.heap.size w wr) c1
      have hlt2 : decide ((j : Int) < (n : Int)) = true := by simp; omega
      have hw : IntKind.i64.wrap ((j : Int) + 1) = (j : Int) + 1 := IntWalk.i64_in _ (by omega)
      have hw2 : IntKind.i64.wrap (k + 2 * (j : Int) + 1) = k + 2 * (j : Int) + 1 := IntWalk.i64_in _ (by omega)
      have hw3 : IntKind.i64.wrap (k + 2 * (j : Int) + 1 + 1) = k + 2 * ((j + 1 : Nat) : Int) := by rw [IntWalk.i64_in _ (by omega)]; omega
      have t1 := strB_t (rfl : mtext (k + 2 * (j : Int)).toNat = mtext (k + 2 * (j : Int)).toNat)
      have t2 := strB_t (rfl : mtext (k + 2 * (j : Int) + 1).toNat = mtext (k + 2 * (j : Int) + 1).toNat)
      go_wp2
      refine rgStart 8 [0, 1, 2, 3, 4, 5, 6, 7] l_heldTagS_t4 (fun HT HS => ?_)
      repeat ((with_reducible refine rgGate ?_); first | refine rgP HT ?_ | refine rgL HT ?_ | refine rgG HT ?_)
      refine rgCall HT Try.func81 (markText_i (k + 2 * (j : Int)) _ (by omega) (by omega)) ?_
      rintro e w2 ⟨rfl, hb2⟩
      refine ⟨_, rfl, bl, rgN ?_⟩
      repeat ((with_reducible refine rgGate ?_); first | refine rgP HT ?_ | refine rgL HT ?_ | refine rgG HT ?_)
      refine rgDone HT ?_
      clear HT HS
      replace c1 := pw_cell_below (bl : Below wr.heap.size wr w2) c1
      clear c0
      go_wp2
      refine rgStart 8 [0, 1, 2, 3, 4, 5, 6, 7] l_heldTagS_t7 (fun HT HS => ?_)
      repeat ((with_reducible refine rgGate ?_); first | refine rgP HT ?_ | refine rgL HT ?_ | refine rgG HT ?_)
      refine rgCall HT Try.func81 (markText_i (k + 2 * (j : Int) + 1) _ (by omega) (by omega)) ?_
      rintro e w3 ⟨rfl, hb3⟩
      refine ⟨_, rfl, bl, rgN ?_⟩
      repeat ((with_reducible refine rgGate ?_); first | refine rgP HT ?_ | refine rgL HT ?_ | refine rgG HT ?_)
      refine rgDone HT ?_
      clear HT HS
      go_wp2
      exact ⟨⟨j + 1, by omega, rfl, rfl, ⟨bl⟩⟩, by simp [intOf]; omega⟩
    · have he : j = n := by omega
      have hlt2 : decide ((j : Int) < (n : Int)) = false := by simp; omega
      have hsl := Lib.hid he
      clear he
      go_wp2
      go_ret
      exact ⟨ret_int (by rw [hsl.out]), bl⟩
theorem Ex.wide {a b lo hi : Nat} {w w' : World} (h : Ex a b w w') (h1 : lo ≤ a) (h2 : b ≤ hi) : Ex lo hi w w' := ⟨h.1.mono h1, fun k hk hlt => h.2 k (Nat.le_trans h2 hk) hlt⟩
/-- A row whose elements hold no rows lies in one block at most. -/
def Tight {α : Type} (d : Kd α) (e : Nat) (W : World) (lo hi : Nat) (v : Value) (xs : List α) (a b : Nat) : Prop := lo ≤ a ∧ a ≤ b ∧ b ≤ hi ∧ b ≤ a + 1 ∧ RI d e W a b v xs ∧ (a < b → ∃ cells, W.heap[a]? = some (.cells cells e (0, 0)))
theorem tight_of {α : Type} {d : Kd α} (hM : ∀ w base base' ok ok' x cs, d.M w base ok x cs → d.M w base' ok' x cs) {e lo hi : Nat} {W : World} {v : Value} {xs : List α} (h : RI d e W lo hi v xs) (hh : lo ≤ hi) : ∃ a b, Tight d e W lo hi v xs a b := by
  obtain ⟨h1, inner, ⟨ho1, ho2⟩, hr⟩ := h
  rcases ho2 with ⟨rfl, hn⟩ | ⟨g, cap, cur, rfl, hb, hg, hnc, hcm, hcs, ht⟩
  · exact ⟨lo, lo, Nat.le_refl _, Nat.le_refl _, hh, by omega, ⟨fun k hk => by simp [Value.ownBlock] at hk, inner, ⟨ho1, .inl ⟨rfl, hn⟩⟩, hr.imp_ (fun x cs hx => hM _ _ _ _ _ _ _ hx)⟩, fun h => by omega⟩
  · have hgh : g < hi := h1 g rfl
    refine ⟨g, g + 1, hb, by omega, hgh, Nat.le_refl _, ⟨fun k hk => ?_, inner, ⟨ho1, .inr ⟨g, cap, cur, rfl, Nat.le_refl _, hg, hnc, hcm, hcs, ht⟩⟩, hr.imp_ (fun x cs hx => hM _ _ _ _ _ _ _ hx)⟩, fun _ => ⟨cur, hg⟩⟩
    have : g = k := by simpa [Value.ownBlock] using hk
    show k < g + 1
    omega
theorem tight_apart {α β : Type} {d : Kd α} {d2 : Kd β} {e e2 lo hi lo2 hi2 a b a2 b2 : Nat} {W : World} {v v2 : Value} {xs : List α} {ys : List β} (h : Tight d e W lo hi v xs a b) (h2 : Tight d2 e2 W lo2 hi2 v2 ys a2 b2) (hne : e ≠ e2) : b ≤ a2 ∨ b2 ≤ a := by
  obtain ⟨_, h3, _, h4, _, h5⟩ := h
  obtain ⟨_, k3, _, k4, _, k5⟩ := h2
  by_cases hab : a < b
  · by_cases hab2 : a2 < b2
    · obtain ⟨c, hc⟩ := h5 hab
      obtain ⟨c2, hc2⟩ := k5 hab2
      have : a ≠ a2 := blk_ne hc hc2 hne
      omega
    · omega
  · omega
/-- What a thing's marks leave. -/
theorem markFeat_c (f : FeatD) (A : Option Addr) (c : Nat) (B : Option Addr) (d : Nat) (lo hi : Nat) (w : World) (hr : RI kPt 108 w lo hi (.slice A f.2.1.2.length c) f.2.1.2) (ht : RI kTag 57 w lo hi (.slice B f.2.2.length d) f.2.2) (n1 : f.2.1.2.length ≤ 1048576) (n2 : f.2.2.length ≤ 1048576) (hhi : hi ≤ w.heap.size) (hlo : lo ≤ hi) :
    Calls Try.prog 38 #[featV f A c B d, .int .i64 1] w fun e w' => e = .returned (.int .i64 (1 + 2 * (f.2.1.2.length : Int) + 2 * (f.2.2.length : Int))) ∧ kPt.C w' A f.2.1.2.length (markL 1 f.2.1.2.length) ∧ kTag.C w' B f.2.2.length (markT (1 + 2 * (f.2.1.2.length : Int)) f.2.2.length) ∧ Ex lo hi w w' := by
  obtain ⟨id, ⟨K, l⟩, m⟩ := f
  simp only [featV] at hr ht n1 n2 ⊢
  obtain ⟨a, b, tp⟩ := tight_of (fun _ _ _ _ _ _ _ h => h) hr hlo
  obtain ⟨a2, b2, tt⟩ := tight_of (fun _ _ _ _ _ _ _ h => h) ht hlo
  have hap := tight_apart tp tt (by decide)
  obtain ⟨p1, p2, p3, p4, hp, _⟩ := tp
  obtain ⟨q1, q2, q3, q4, hq, _⟩ := tt
  have HC : Cells (w.alloc (.cells #[.string id, .int .i64 K, .slice A l.length c, .slice B m.length d] 35)) _ := (Cells.nil w).box4 (Below.refl _ _)
  obtain ⟨h0, h1, h2, h3, _⟩ := HC.all
  go_enter Try.func38, Try.ntmps38
  go_wp2_with fail
  refine (markShape_c K A c l 1 a b _ (RI.alloc hp _) n1 (by omega) (by omega) (by simp; omega)).mono ?_
  rintro e w1 ⟨rfl, m1, hx1⟩
  replace HC := HC.ex hx1 (fun x hx_ => by simp only [List.mem_cons, List.mem_nil_iff, or_false] at hx_; rcases hx_ with rfl | rfl | rfl | rfl <;> simp only [] <;> omega)
  clear h0 h1 h2 h3
  obtain ⟨h0, h1, h2, h3, _⟩ := HC.all
  have hq1 : RI kTag 57 w1 a2 b2 (.slice B m.length d) m := (RI.alloc hq _).ex hx1 (by omega)
  have s1 := hx1.1.size
  simp only [World.size_alloc] at s1
  have k0 : 1 ≤ 1 + 2 * (l.length : Int) := by omega
  have k1 : 1 + 2 * (l.length : Int) ≤ 1073741824 := by omega
  go_wp2_with fail
  refine (markTagS_c B d m _ a2 b2 _ hq1 n2 k0 k1 (by omega) (by omega)).mono ?_
  rintro e w2 ⟨rfl, m2, hx2⟩
  have m1' : RI kPt 108 w2 a b (.slice A l.length c) (markL 1 l.length) := m1.ex hx2 (by omega)
  go_wp2
  go_ret
  have c1 := m1'.rd.2.2
  rw [markL_len] at c1
  have c2 := m2.rd.2.2
  rw [markT_len] at c2
  exact ⟨rfl, c1, c2, (((Ex.of (lo := lo) (hi := hi) (below_alloc (Below.refl _ _) _) (by omega)).trans (hx1.wide p1 p3)).trans (hx2.wide q1 q3))⟩
theorem heldFeat_c (f : FeatD) (A : Option Addr) (c n1 : Nat) (B : Option Addr) (d n2 : Nat) (id : ByteArray) (K : Int) (w : World) (hr : kPt.C w A n1 (markL 1 n1)) (ht : kTag.C w B n2 (markT (1 + 2 * (n1 : Int)) n2)) (z1 : n1 ≤ 1048576) (z2 : n2 ≤ 1048576) :
    Calls Try.prog 39 #[.agg #[.string id, .int .i64 K, .slice A n1 c, .slice B n2 d], .int .i64 1] w fun e w' => e = .returned (.int .i64 (1 + 2 * (n1 : Int) + 2 * (n2 : Int))) ∧ Below w.heap.size w w' := by
  have t1 : decide (1 + 2 * (n1 : Int) < 0) = false := by simp; omega
  have t2 : decide (1 + 2 * (n1 : Int) + 2 * (n2 : Int) < 0) = false := by simp; omega
  have k0 : 1 ≤ 1 + 2 * (n1 : Int) := by omega
  have k1 : 1 + 2 * (n1 : Int) ≤ 1073741824 := by omega
  have HC : Cells (w.alloc (.cells #[.string id, .int .i64 K, .slice A n1 c, .slice B n2 d] 35)) _ := (Cells.nil w).box4 (Below.refl _ _)
  go_enter Try.func39, Try.ntmps39
  go_wp2_with fail
  refine (heldShape_c K A c n1 1 _ (Kd.C_below hr bl) z1 (by omega) (by omega)).mono ?_
  rintro e w1 ⟨rfl, hb1⟩
  replace HC := HC.to hb1
  obtain ⟨h0, h1, h2, h3, _⟩ := HC.all
  go_wp2_with fail
  refine (heldTagS_c B d n2 _ _ (Kd.C_below ht bl) z2 k0 k1).mono ?_
  rintro e w2 ⟨rfl, hb2⟩
  go_wp2
  go_ret
  exact ⟨rfl, bl⟩
end
section
open Go.RowKit Go.Proofs.YtlebgjafaioajaaW.PrintWords Go.Proofs.YtlebgjafaioajaaW.PrintLast
set_option maxRecDepth 100000
set_option linter.unusedVariables false
set_option linter.unusedSimpArgs false
attribute [local go_sem] cell_set_far cell_set_off
theorem litT1 (w : World) (x : Tag) : kTag.C (w.alloc (.cells #[.string x.1, .string x.2] 57)) (some ⟨w.heap.size, 0, none⟩) 1 [x] := by
  have h : kTag.R 57 (w.alloc (.cells #[.string x.1, .string x.2] 57)) w.heap.size (fun _ => True) (.slice (some ⟨w.heap.size, 0, none⟩) 1 1) [x] :=
    ⟨fun _ _ => trivial, [.string x.1, .string x.2], World.ownsRow_lit (base := w.heap.size) (e := 57) (size := 2) w #[.string x.1, .string x.2] 1 (Nat.le_refl _) (by decide) rfl, Reps.snoc (Reps.none _ _) (kTag_mkM _ _ _ x) rfl⟩
  exact (Kd.R_reads' h).2.2
/-- A thing in new memory, and whether. -/
def NFeatB (w : World) (r : FeatD × Bool) (e : Ending) (w' : World) : Prop := ∃ A c B d, e = .returned (.tuple #[featV r.1 A c B d, .bool r.2]) ∧ RI kPt 108 w' w.heap.size w'.heap.size (.slice A r.1.2.1.2.length c) r.1.2.1.2 ∧ RI kTag 57 w' w.heap.size w'.heap.size (.slice B r.1.2.2.length d) r.1.2.2 ∧ Below w.heap.size w w'
theorem NFeatB.no {w w' : World} (h : Below w.heap.size w w') : NFeatB w (feat0, false) (.returned (.tuple #[.agg #[.string ⟨#[]⟩, .int .i64 0, .slice none 0 0, .slice none 0 0], .bool false])) w' := ⟨none, 0, none, 0, rfl, RI.of (Kd.R_nil _ _ _ _ _), RI.of (Kd.R_nil _ _ _ _ _), h⟩
theorem fget_2 {f : FeatD} {key : ByteArray} : (fget f key).2 = true ↔ FeatOk f ∧ atK f.2.2 key ≠ none := by
  unfold fget
  split
  · rename_i h
    unfold getT
    cases hh : atK f.2.2 key <;> simp [h]
  · rename_i h
    simp [h]
/-- What the loop of a cutting keeps. -/
def CL (w : World) (f : FeatD) (A : Option Addr) (c : Nat) (B : Option Addr) (d : Nat) (g : Nat) (r : List Tag) (wr : World) : Prop := ∃ A2 c2 B2 d2, B4 wr w.heap.size 35 (.string f.1) (.int .i64 f.2.1.1) (.slice A f.2.1.2.length c) (.slice B f.2.2.length d) ∧ B4 wr (w.heap.size + 1) 35 (.string ⟨#[]⟩) (.int .i64 0) (.slice none 0 0) (.slice none 0 0) ∧
  B4 wr g 35 (.string f.1) (.int .i64 f.2.1.1) (.slice A2 f.2.1.2.length c2) (.slice B2 r.length d2) ∧ kPt.R 108 wr w.heap.size (fun _ => True) (.slice A2 f.2.1.2.length c2) f.2.1.2 ∧ kTag.R 57 wr w.heap.size (fun _ => True) (.slice B2 r.length d2) r ∧ Below w.heap.size w wr
def s_FeatCut_T10 : Bool × List (List Nat × List Nat) := (true, [([], []), ([0], [0]), ([], []), ([2], [2]), ([], []), ([3, 4], [3, 4]), ([5], [5]), ([6], [6]), ([1, 7], [1, 7]), ([0, 1, 2, 3, 4, 5, 6, 7, 8], []), ([9, 8, 8, 0, 1, 2, 3, 4, 5, 6, 7, 8], [8, 9])])
theorem s_FeatCut_t10 : rtab .any (opsOf Try.f37 10) = s_FeatCut_T10 := by kernel_rfl
set_option maxHeartbeats 4000000 in
theorem sFeatCut_c (f : FeatD) (A : Option Addr) (c : Nat) (B : Option Addr) (d : Nat) (key : ByteArray) (w : World) (hl : kPt.C w A f.2.1.2.length f.2.1.2) (hm : kTag.C w B f.2.2.length f.2.2) (hF : FTx f) :
    Calls Try.prog 37 #[featV f A c B d, .string key] w (NFeatB w (fcut f key)) := by
  have n1 := hF.pts
  have n2 := hF.tags
  have hG := sFeatGet_c f A c B d key
  obtain ⟨id, ⟨K, l⟩, m⟩ := f
  simp only [featV] at hl hm n1 n2 hG ⊢
  cases hh : (fget (id, (K, l), m) key).2 with
  | false =>
    have hf : fcut (id, (K, l), m) key = (feat0, false) := if_neg fun h => by have := fget_2.2 h; rw [hh] at this; cases this
    rw [hf]
    simp only [hh] at hG
    have HG := Lib.hid hG
    clear hG hf hh
    go_enter Try.func37, Try.ntmps37
    go_wp2_with fail
    refine (HG.out _ (Kd.C_below hl bl) (Kd.C_below hm bl) hF).mono ?_
    rintro e w1 ⟨rfl, hb1⟩
    have T2 : B4 w1 (w.heap.size + 1) 35 (.string ⟨#[]⟩) (.int .i64 0) (.slice none 0 0) (.slice none 0 0) := B4.new' (w.alloc (.cells #[.string id, .int .i64 K, .slice A l.length c, .slice B m.length d] 35)) _ _ _ _ _ _
    obtain ⟨x0, x1, x2, x3⟩ := T2.c
    obtain ⟨y0, y1, y2, y3⟩ := T2.z
    go_wp2
    refine bodyPost_ret (v := .tuple #[.agg #[.string ⟨#[]⟩, .int .i64 0, .slice none 0 0, .slice none 0 0], .bool false]) (by simp [results, Try.results37, go_sem, *]) rfl (NFeatB.no ?_)
    exact ((((bl : Below w.heap.size w w1).setCell (by simp) _).setCell (by simp) _).setCell (by simp) _).setCell (by simp) _
  | true =>
    have hf : fcut (id, (K, l), m) key = ((id, (K, l), cutK m key), true) := if_pos (fget_2.1 hh)
    rw [hf]
    simp only [hh] at hG
    have HG := Lib.hid hG
    clear hG hf hh
    go_enter Try.func37, Try.ntmps37
    go_wp2_with fail
    refine (HG.out _ (Kd.C_below hl bl) (Kd.C_below hm bl) hF).mono ?_
    rintro e w1 ⟨rfl, hb1⟩
    have T1 : B4 w1 w.heap.size 35 (.string id) (.int .i64 K) (.slice A l.length c) (.slice B m.length d) := B4.new' w _ _ _ _ _ _
    have T2 : B4 w1 (w.heap.size + 1) 35 (.string ⟨#[]⟩) (.int .i64 0) (.slice none 0 0) (.slice none 0 0) := B4.new' (w.alloc (.cells #[.string id, .int .i64 K, .slice A l.length c, .slice B m.length d] 35)) _ _ _ _ _ _
    obtain ⟨x0, x1, x2, x3⟩ := T1.c
    go_wp2_with fail
    refine (copyF_c (id, (K, l), m) A c B d _ (Kd.C_below hl bl) (Kd.C_below hm bl) n1 n2).mono ?_
    rintro e w2 ⟨A2, c2, B2, d2, rfl, hr2, ht2, hb2⟩
    simp only [featV] at hr2 ht2 ⊢
    have s1 := hb1.size
    simp only [World.size_alloc] at s1
    have s2 := hb2.size
    clear x0 x1 x2 x3
    have U3 := B4.new w2 (.string id) (.int .i64 K) (.slice A2 l.length c2) (.slice B2 m.length d2) 35
    have hstart : CL w (id, (K, l), m) A c B d w2.heap.size (cutK (m.take 0) key) (w2.alloc (.cells #[.string id, .int .i64 K, .slice A2 l.length c2, .slice none 0 0] 35)) :=
      ⟨A2, c2, none, 0, (T1.to hb2).to (below_alloc (Below.refl _ _) _), (T2.to hb2).to (below_alloc (Below.refl _ _) _), B4.new w2 _ _ _ _ _, Kd.R_below (hr2.up (by omega)) (below_alloc (Below.refl _ _) _), Kd.R_nil _ _ _ _ _, bl⟩
    have hg : w.heap.size + 1 < w2.heap.size := by omega
    clear T1 T2 hr2 ht2
    obtain ⟨z0, z1, z2, z3⟩ := U3.c
    obtain ⟨v0, v1, v2, v3⟩ := U3.z
    go_wp2
    clear z0 z1 z2 z3 v0 v1 v2 v3
    go_loopw [9] (fun q wr => ∃ k : Nat, k ≤ m.length ∧ q = .int .i64 k ∧ Aside0 (CL w (id, (K, l), m) A c B d w2.heap.size (cutK (m.take k) key) wr)) (fun q _ => m.length - (intOf q).toNat)
    case atStart => exact ⟨0, by omega, rfl, ⟨hstart⟩⟩
    case round =>
      clear hstart U3
      obtain ⟨k, hk, rfl, ⟨A3, c3, B3, d3, U1, U2, U3, ho, ht, hB⟩⟩ := hrel
      simp only [] at U1 U2 U3 ho ht
      have s3 := hB.size
      have h3 := U3.lt
      by_cases hlt : k < m.length
      · have t1 : decide ((k : Int) < (m.length : Int)) = true := decide_eq_true (by omega)
        obtain ⟨ad, rfl, e0, e1⟩ := at_Tag hm k hlt
        have hadb := World.block_lt_of_cell? _ _ e0
        replace e0 := pw_cell_below hB e0
        replace e1 := pw_cell_below hB e1
        obtain ⟨x0, x1, x2, x3⟩ := U1.c
        have hct := Lib.hid (cutK_take m key k hlt)
        have hw : IntKind.i64.wrap ((k : Int) + 1) = (k : Int) + 1 := IntWalk.i64_in _ (by omega)
        by_cases hx : m[k].1 = key
        · have t2 := strB_t hx
          have Hx := Lib.hid (show cutK (m.take (k + 1)) key = cutK (m.take k) key by rw [hct.out, if_pos (eqB_t.2 hx), List.append_nil])
          clear hx
          go_wp2
          exact ⟨⟨k + 1, by omega, by go_num, ⟨by rw [Hx.out]; exact ⟨A3, c3, B3, d3, U1, U2, U3, ho, ht, hB⟩⟩⟩, by simp [intOf]; omega⟩
        · have t2 := strB_f hx
          have Hx := Lib.hid (show cutK (m.take (k + 1)) key = cutK (m.take k) key ++ [m[k]] by rw [hct.out, if_neg (by simp [eqB_f.2 hx])])
          clear hx
          have hcl : (cutK (m.take k) key).length ≤ m.length := Nat.le_trans (cutK_le _ _) (by rw [List.length_take]; omega)
          generalize cutK (m.take k) key = r at *
          generalize hmk : m[k] = t at *
          clear hmk
          obtain ⟨z0, z1, z2, z3⟩ := U3.c
          obtain ⟨v0, v1, v2, v3⟩ := U3.z
          go_wp2
          refine cgStart 11 [0, 1, 2, 3, 4, 5, 6, 7, 8, 9, 10] [10] [(⟨w2.heap.size, 3, none⟩, _), (⟨w.heap.size, 3, none⟩, _), (ad.add (k * 2), _), (⟨(ad.add (k * 2)).block, (ad.add (k * 2)).off + 1, none⟩, _)] s_FeatCut_t10 ⟨z3, x3, e0, e1, trivial⟩ (fun HT HD => ?_)
          repeat ((with_reducible refine cgGate ?_); first | refine cgP HT ?_ | refine cgL HT ?_ | refine cgG HT ?_)
          refine cgE (w1 := wr.drew.alloc (.cells #[.string t.1, .string t.2] 57)) (v := .slice (some ⟨wr.heap.size, 0, none⟩) 1 1) HT (fun HD2 => ?_) (hrun := by first | (go_simp; done) | (go_simp; rfl)) (hS := HD.to bl)
          have bw : Below wr.heap.size wr (wr.drew.alloc (.cells #[.string t.1, .string t.2] 57)) := bl
          have ht2 := Kd.R_below ht bw
          replace U1 := U1.to bw
          replace U2 := U2.to bw
          replace U3 := U3.to bw
          replace ho := Kd.R_below ho bw
          refine cgAppG (d := kTag) (w0 := w) (base := w.heap.size) 33 57 (.agg #[(.string ByteArray.empty), (.string ByteArray.empty)]) 32 Try.underlying33 info_Tag rfl (by decide) (by omega) (fun _ _ h => h) (.tmp 38) (.tmp 44) _ r [t] (some ⟨wr.heap.size, 0, none⟩) 1 1 HT HD2 ht2 (litT1 wr.drew t) bl sz (by omega) (fun x hx e_ => by
            simp only [List.mem_cons, List.mem_nil_iff, or_false] at hx
            rcases hx with rfl | rfl | rfl | rfl
            · exact Kd.R_ne ht2 U3 (by decide) e_
            · exact Kd.R_ne ht2 U1 (by decide) e_
            · have := Kd.R_block_ge ht2 _ e_.symm; simp only [] at this; omega
            · have := Kd.R_block_ge ht2 _ e_.symm; simp only [] at this; omega) ?_
          intro B5 d5 w5 ho5 hb5 HD5 hg5
          refine cgN ?_
          replace U1 := U1.grown hg5 (Kd.R_ne ht2 U1 (by decide))
          replace U2 := U2.grown hg5 (Kd.R_ne ht2 U2 (by decide))
          replace ho := R_grownT ho ht2 (by decide) hg5
          replace U3 := U3.grown hg5 (Kd.R_ne ht2 U3 (by decide))
          clear z0 z1 z2 z3 v0 v1 v2 v3
          obtain ⟨z0, z1, z2, z3⟩ := U3.c
          obtain ⟨v0, v1, v2, v3⟩ := U3.z
          have hgr := hg5.size
          simp only [World.size_alloc, World.size_drew] at hgr
          repeat ((with_reducible refine cgGate ?_); first | refine cgP HT ?_ | refine cgL HT ?_ | refine cgG HT ?_)
          refine cgLast HT ?_
          refine cgDone HT ?_
          clear HT HD HD2 HD5
          go_wp2
          exact ⟨⟨k + 1, by omega, by go_num, ⟨by rw [Hx.out]; exact ⟨A3, c3, B5, d5, U1.far (by simp; omega), U2.far (by simp; omega), (by rw [List.length_append]; exact U3.set3 _), Kd.R_set ho U3 (by decide) 3 _, Kd.R_set ho5 U3 (by decide) 3 _, hb5.setCell (by simp only []; omega) _⟩⟩⟩, by simp [intOf]; omega⟩
      · have t1 : decide ((k : Int) < (m.length : Int)) = false := decide_eq_false (by omega)
        have hkl := Lib.hid (show m.take k = m from List.take_of_length_le (by omega))
        rw [hkl.out] at ht U3
        obtain ⟨x0, x1, x2, x3⟩ := U1.c
        obtain ⟨z0, z1, z2, z3⟩ := U3.c
        obtain ⟨y0, y1, y2, y3⟩ := U2.c
        obtain ⟨q0, q1, q2, q3⟩ := U2.z
        go_wp2
        refine bodyPost_ret (v := .tuple #[.agg #[.string id, .int .i64 K, .slice A3 l.length c3, .slice B3 (cutK m key).length d3], .bool true]) (by simp [results, Try.results37, go_sem, *]) rfl ⟨A3, c3, B3, d3, rfl, RI.of (U2.R ho (by decide) _ _ _ _), RI.of (U2.R ht (by decide) _ _ _ _), (((hB.setCell (by simp) _).setCell (by simp) _).setCell (by simp) _).setCell (by simp) _⟩
end
section
open Go.RowKit Go.Proofs.YtlebgjafaioajaaW.PrintWords Go.Proofs.YtlebgjafaioajaaW.PrintLast
set_option maxRecDepth 100000
set_option linter.unusedVariables false
set_option linter.unusedSimpArgs false
attribute [local go_sem] cell_set_far cell_set_off
section
variable {α : Type} {d : Kd α} {P : Program} {ops : Array Oper} {Q : Exit → Act → World → Prop} {T : Bool × List (List Nat × List Nat)} {i k n fuel : Nat} {p ds : List Nat} {oi : Oper} {a : Act} {w : World} {L : List (Addr × Value)}
/-- append(xs[:j], xs[j+1:]..), alone. -/
theorem cgDel {w0 : World} {base : Nat} (t e : TypeId) (ht : P.underlying t = some (.slice e)) (hinfo : (P.info? e).map (·.size) = some d.sz) (s x : Operand) {g m c j m2 c2 : Nat} {A : Option Addr} {xs : List α} (hT : Aside0 (rtab .any ops = T)) (hC : Cells w L) (hf : ∀ x ∈ L, some x.1.block ≠ some g)
    (HO : d.R e w base (fun _ => True) (.slice (some ⟨g, 0, none⟩) m c) xs) (hj : j < m) (HB : Below base w0 w) (hbase : base ≤ w.heap.size) (hA : A = if c = j + 1 then some ⟨g, 0, none⟩ else (some (⟨g, 0, none⟩ : Addr)).map (·.add ((j + 1) * d.sz))) (hm : m2 = m - (j + 1))
    (h : ∀ w1, d.R e w1 base (fun _ => True) (.slice (some ⟨g, 0, none⟩) (m - 1) c) (xs.eraseIdx j) → Below base w0 w1 → w.grownBy w1 (some g) → Cells w1 L → wpAnyLast P .any ops Q (fun w' => Cells w' L) ds fuel (lit p (k + 1) n) (a.put oi.dst (.slice (some ⟨g, 0, none⟩) (m - 1) c)) w1)
    (hk : p[k]? = some i := by (try simp only [List.getElem?_cons_succ, List.getElem?_cons_zero]); rfl) (hi : ops[i]? = some oi := by (try simp only [List.getElem?_toArray, List.getElem?_cons_succ, List.getElem?_cons_zero]); rfl)
    (ho : oi.op = .call { callee := .builtin .append, args := #[s, x], argTypes := #[t, t] } := by rfl) (hw : Region.wanted oi (yielded ops a.tmps) = true := by rfl) (hs : a.eval s = .slice (some ⟨g, 0, none⟩) j c := by rfl) (hx : a.eval x = .slice A m2 c2 := by rfl) (hd : i ∉ ds := by decide)
    (hc : (readyT T.2 (lit p k n).toList == [i] && (lit p k n).toList.set i true == (lit p (k + 1) n).toList) = true := by kernel_rfl) : wpAnyLast P .any ops Q (fun w' => Cells w' L) ds (fuel + 1) (lit p k n) a w := by
  refine one_ (lit p (k + 1) n) hi rfl (one_of hT.out hc) hd (fun K hK => ?_)
  refine Kd.R_delete_step d (w0 := w0) base hw s x t e ho ht hinfo hs hx hA hm HO hj HB hbase ?_
  intro w1 ho1 hb1 hg1
  have hC1 := hC.grown hg1 hf
  exact hK _ _ hC1 (fun _ => h w1 ho1 hb1 hg1 hC1)
end
/-- Cells behind a row's length are set: the row stays. -/
theorem R_spare {α : Type} {d : Kd α} {e base g n c : Nat} {ok : Nat → Prop} {W : World} {xs : List α} (h : d.R e W base ok (.slice (some ⟨g, 0, none⟩) n c) xs) (o : Nat) (vs : List Value) (ho : n * d.sz ≤ o) (hl : o + vs.length ≤ c * d.sz) :
    d.R e (W.setCells g o vs) base ok (.slice (some ⟨g, 0, none⟩) n c) xs ∧ W.grownBy (W.setCells g o vs) (some g) := by
  obtain ⟨hok, inner, ⟨ho1, ho2⟩, hr⟩ := h
  rcases ho2 with ⟨hv, _⟩ | ⟨g', cap', cur, hv, hb, hh, hnc, hcm, hcs, ht⟩
  · cases hv
  injection hv with ha hn hc
  injection ha with ha
  injection ha with hg
  subst hg; subst hc
  obtain ⟨cur', h3, h4, h5⟩ := setCells_row vs o W cur hh (by omega)
  obtain ⟨s1, s2, s3, s4⟩ := setCells_same g vs o W
  have hfar : ∀ k, k ≠ g → (W.setCells g o vs).heap[k]? = W.heap[k]? := fun k hk => setCells_far vs _ k hk
  have hlen : cur.toList.length = c * d.sz := by rw [Array.length_toList, hcs]
  have hxo : xs.length * d.sz ≤ o := by rw [← hn]; exact ho
  refine ⟨⟨hok, inner, ⟨ho1, .inr ⟨g, c, cur', by rw [hn], hb, h3, hnc, hcm, by rw [h4, hcs], ?_⟩⟩, hr.imp_ (fun x cs hx => d.M_move (fun k hk => hfar k (fun e => hk.2 (by rw [e]; rfl))) hx)⟩, ⟨s1, s2, s3, by rw [s4]; exact Nat.le_refl _, fun k _ hk => hfar k (fun he => hk (by rw [he]))⟩⟩
  rw [← ht, h5, List.append_assoc, List.take_append_of_le_length (by rw [List.length_take, hlen]; omega), List.take_take, Nat.min_eq_left hxo]
theorem R_room {α : Type} {d : Kd α} {e base g n c : Nat} {ok : Nat → Prop} {W : World} {xs : List α} (h : d.R e W base ok (.slice (some ⟨g, 0, none⟩) n c) xs) (o : Nat) (ho : o < c * d.sz) : (W.cell? ⟨g, o, none⟩).isSome = true ∧ W.frozen? ⟨g, o, none⟩ = false := by
  obtain ⟨hok, inner, ⟨ho1, ho2⟩, hr⟩ := h
  rcases ho2 with ⟨hv, _⟩ | ⟨g', cap', cur, hv, hb, hh, hnc, hcm, hcs, ht⟩
  · cases hv
  injection hv with ha hn hc
  injection ha with ha
  injection ha with hg
  subst hg; subst hc
  refine ⟨?_, blk_frozen hh o⟩
  rw [blk_cell hh o, Array.getElem?_eq_getElem (by omega)]
  rfl
theorem tagBack {e lo hi g n c : Nat} {W : World} {xs : List Tag} (h : kTag.R e W lo (fun _ => True) (.slice (some ⟨g, 0, none⟩) n c) xs) (hg : g < hi) : RI kTag e W lo hi (.slice (some ⟨g, 0, none⟩) n c) xs :=
  ⟨fun k hk => by
    have : g = k := by simpa [Value.ownBlock] using hk
    show k < hi
    omega, h.2.imp_ (fun _ _ hx => hx)⟩
theorem Ex.ofGrown {lo hi g : Nat} {w w1 : World} (h : w.grownBy w1 (some g)) (h1 : lo ≤ g) (h2 : g < hi) (h3 : lo ≤ w.heap.size) : Ex lo hi w w1 :=
  ⟨(Below.refl lo w).grown h h3 (fun k e => by injection e with e; omega), fun k hk hlt => h.block k hlt (fun e => by injection e with e; omega)⟩
theorem clear2 (P : Program) (w : World) (t e ty : TypeId) (z : Array Value) (ht : P.underlying t = some (.slice e)) (hv : ∀ w, (zeroValue e).run P w = .ok (.agg z) w) (hz : ∀ v ∈ z.toList, v.oneCell' = true) (b o c : Nat)
    (hc : ∀ j, j < z.size → (w.cell? ⟨b, o + j, none⟩).isSome = true) (hf : ∀ j, j < z.size → w.frozen? ⟨b, o + j, none⟩ = false) :
    (Builtin.clear_ #[t] ty #[.slice (some ⟨b, o, none⟩) 1 c]).run P w = .ok (.tuple #[]) (w.setCells b o z.toList) := by
  have hzc : (Builtin.zeroCells (Value.agg z).cells 1).toList = z.toList := by
    simp [Builtin.zeroCells, Value.cells]
    apply List.ext_getElem
    · simp
    · intro i h1 h2
      simp at h1
      simp [Nat.mod_eq_of_lt h1, getElem!_pos z i h1]
  have hst := run_storeCells_cells (P := P) b o z.toList 0 w (by simpa using hc) (by simpa using hf) hz
  simp only [Nat.add_zero] at hst
  simp [Builtin.clear_, run_underlying ht, hv, hzc, hst]
theorem zeroTag (w : World) : (zeroValue 57).run Try.prog w = .ok (.agg #[.string ByteArray.empty, .string ByteArray.empty]) w := by
  have h := info_Tag
  obtain ⟨i, hi, hz⟩ := Option.map_eq_some_iff.1 h
  simp only [Prod.mk.injEq] at hz
  simp [zeroValue, typeInfo, hi, hz.1]
def g_slices_Delete_Tag_T5 : Bool × List (List Nat × List Nat) := (true, [([], []), ([], []), ([0, 1], [0, 1]), ([], []), ([], []), ([3, 4], [3, 4]), ([2, 5], [2, 5]), ([6, 6, 0, 1, 2, 3, 4, 5, 6], [0, 3, 6])])
theorem g_slices_Delete_Tag_t5 : rtab .any (opsOf Try.f73 5) = g_slices_Delete_Tag_T5 := by kernel_rfl
set_option maxHeartbeats 4000000 in
theorem DeleteTag_c (A : Option Addr) (c : Nat) (l : List Tag) (k : Nat) (lo hi : Nat) (w : World) (hr : RI kTag 57 w lo hi (.slice A l.length c) l) (hk : k < l.length) (hn : l.length ≤ 1048576) (hlo : lo ≤ w.heap.size) :
    Calls Try.prog 73 #[.slice A l.length c, .int .i64 k, .int .i64 ((k : Int) + 1)] w fun e w' => e = .returned (.slice A (l.length - 1) c) ∧ RI kTag 57 w' lo hi (.slice A (l.length - 1) c) (l.eraseIdx k) ∧ Ex lo hi w w' := by
  obtain ⟨g, cap, hv, hg1, hg2, _⟩ := Kd.R_form hr (by omega)
  injection hv with e1 e2 e3
  subst e1
  clear e2 e3
  have hg3 : g < hi := hr.1 g rfl
  have hcl : l.length ≤ c := hr.rd.2.1
  have hx1 : ((k : Int) == (k : Int) + 1) = false := by rw [beq_eq_false_iff_ne]; omega
  have hct := cut_to (P := Try.prog) 33 57 .i64 Try.underlying33 rfl (some ⟨g, 0, none⟩) l.length c (k : Int) (by omega) (by omega) hcl
  have hcf := cut_from (P := Try.prog) 33 57 .i64 Try.underlying33 rfl kTag.sz rfl (some ⟨g, 0, none⟩) l.length c ((k : Int) + 1) (by omega) (by omega)
  have ek : ((k : Int) + 1).toNat = k + 1 := by omega
  rw [ek] at hcf
  simp only [Int.toNat_natCast] at hct
  generalize hA9 : (if c = k + 1 then some (⟨g, 0, none⟩ : Addr) else (some (⟨g, 0, none⟩ : Addr)).map (·.add ((k + 1) * kTag.sz))) = A9 at hcf
  have HA9 := Lib.hid hA9.symm
  clear hA9 ek
  go_enter Try.func73, Try.ntmps73
  go_wp2
  have ho : kTag.R 57 w lo (fun _ => True) (.slice (some ⟨g, 0, none⟩) l.length c) l := Kd.R_mono hr (fun _ _ => trivial)
  refine cgStart 8 [0, 1, 2, 3, 4, 5, 6, 7] [] [] g_slices_Delete_Tag_t5 trivial (fun HT HD => ?_)
  repeat ((with_reducible refine cgGate ?_); first | refine cgP HT ?_ | refine cgL HT ?_ | refine cgG HT ?_)
  refine cgDel (d := kTag) (w0 := w) (base := lo) 33 57 Try.underlying33 (by kernel_rfl) (.tmp 22) (.tmp 25) HT HD (by simp) (Kd.R_below ho bl) hk ((bl : Below w.heap.size w w.drew).mono hlo) (by simpa using hlo) HA9.out rfl ?_
  intro w1 ho1 hb1 hgA HD1
  refine cgN ?_
  repeat ((with_reducible refine cgGate ?_); first | refine cgP HT ?_ | refine cgL HT ?_ | refine cgG HT ?_)
  refine cgDone HT ?_
  clear HT HD HD1 hct hcf HA9 hx1
  have hel : (l.eraseIdx k).length = l.length - 1 := List.length_eraseIdx_of_lt hk
  obtain ⟨m, hm⟩ : ∃ m, m = l.length - 1 := ⟨_, rfl⟩
  rw [← hm] at ho1 ⊢
  have e1 : l.length - m = 1 := by omega
  have hml : m ≤ l.length := by omega
  have hm2 : m * 2 + 2 ≤ c * 2 := by omega
  have hcl2 : ∀ ty, (Builtin.clear_ #[33] ty #[.slice (some ⟨g, m * 2, none⟩) 1 (c - m)]).run Try.prog w1 = .ok (.tuple #[]) (w1.setCells g (m * 2) [.string ByteArray.empty, .string ByteArray.empty]) := fun ty =>
    clear2 Try.prog w1 33 57 ty #[.string ByteArray.empty, .string ByteArray.empty] Try.underlying33 zeroTag (by simp [Value.oneCell']) g (m * 2) (c - m) (fun j hj => (R_room ho1 (m * 2 + j) (by show m * 2 + j < c * 2; simp at hj; omega)).1) (fun j hj => (R_room ho1 (m * 2 + j) (by show m * 2 + j < c * 2; simp at hj; omega)).2)
  obtain ⟨ho2, hg4⟩ := R_spare ho1 (m * 2) [.string ByteArray.empty, .string ByteArray.empty] (Nat.le_refl _) (by show m * 2 + 2 ≤ c * 2; exact hm2)
  have Hm := Lib.hid hm
  clear hm hm2
  go_wp2
  go_ret
  have x1 : Ex lo hi w w.drew := Ex.of (below_drew1 (Below.refl _ _)) hlo
  exact ⟨by rw [← Hm.out]; rfl, by rw [← Hm.out]; exact tagBack ho2 hg3, (x1.trans (Ex.ofGrown hgA hg1 hg3 (by simpa using hlo))).trans (Ex.ofGrown hg4 hg1 hg3 (Nat.le_trans hlo hgA.size))⟩
set_option maxHeartbeats 4000000 in
theorem iFeatCut_c (f : FeatD) (A : Option Addr) (c : Nat) (B : Option Addr) (d : Nat) (key : ByteArray) (w : World) (hl : kPt.C w A f.2.1.2.length f.2.1.2) (hm : kTag.C w B f.2.2.length f.2.2) (hF : FTx f) :
    Calls Try.prog 36 #[featV f A c B d, .string key] w (NFeatB w (fcut f key)) := by
  have n1 := hF.pts
  have n2 := hF.tags
  have hT := tag_c f A c B d key
  have hO := iFeatOk_c f A c B d
  by_cases hh : FeatOk f ∧ atK f.2.2 key ≠ none
  · have hf : fcut f key = ((f.1, f.2.1, cutK f.2.2 key), true) := if_pos hh
    rw [hf]
    obtain ⟨k, hk⟩ : ∃ k, atK f.2.2 key = some k := Option.ne_none_iff_exists'.1 hh.2
    have hkl := (atK_is hk).1
    have hcut : cutK f.2.2 key = f.2.2.eraseIdx k := by rw [cutK_at hk (up_ne hh.1.2.2.1.up), List.eraseIdx_eq_take_drop_succ]
    have hok := featOk_t.2 hh.1
    have hel : (f.2.2.eraseIdx k).length = f.2.2.length - 1 := List.length_eraseIdx_of_lt hkl
    rw [hk] at hT
    rw [hok] at hO
    rw [hcut]
    have d1 : decide ((k : Int) < 0) = false := decide_eq_false (by omega)
    simp only [optI] at hT
    have HT := Lib.hid hT
    have HO := Lib.hid hO
    clear hT hO hf hh hk hcut hok
    obtain ⟨id, ⟨K, l⟩, m⟩ := f
    simp only [featV] at hl hm n1 n2 HT HO hkl hel ⊢
    go_enter Try.func36, Try.ntmps36
    go_wp2_with fail
    refine (HT.out _ (Kd.C_below hm bl) n2).mono ?_
    rintro e w1 ⟨rfl, hb1⟩
    have T1 : B4 w1 w.heap.size 35 (.string id) (.int .i64 K) (.slice A l.length c) (.slice B m.length d) := B4.new' w _ _ _ _ _ _
    have T2 : B4 w1 (w.heap.size + 1) 35 (.string ⟨#[]⟩) (.int .i64 0) (.slice none 0 0) (.slice none 0 0) := B4.new' (w.alloc (.cells #[.string id, .int .i64 K, .slice A l.length c, .slice B m.length d] 35)) _ _ _ _ _ _
    obtain ⟨x0, x1, x2, x3⟩ := T1.c
    go_wp2_with fail
    refine (HO.out _ (Kd.C_below hl bl) (Kd.C_below hm bl) hF).mono ?_
    rintro e w2 ⟨rfl, hb2⟩
    replace T1 := T1.to hb2
    replace T2 := T2.to hb2
    clear x0 x1 x2 x3
    obtain ⟨x0, x1, x2, x3⟩ := T1.c
    go_wp2_with fail
    refine (cloneF_c (id, (K, l), m) A c B d _ (Kd.C_below hl bl) (Kd.C_below hm bl) n1 n2).mono ?_
    rintro e w3 ⟨A3, c3, B3, d3, rfl, hr3, ht3, hb3⟩
    simp only [featV] at hr3 ht3 ⊢
    have s1 := hb1.size
    simp only [World.size_alloc] at s1
    have s2 := hb2.size
    have s3 := hb3.size
    clear x0 x1 x2 x3
    replace T2 := (T2.to hb3).to (below_alloc (Below.refl _ _) (.cells #[.string id, .int .i64 K, .slice A3 l.length c3, .slice B3 m.length d3] 35))
    have T3 := B4.new w3 (.string id) (.int .i64 K) (.slice A3 l.length c3) (.slice B3 m.length d3) 35
    obtain ⟨z0, z1, z2, z3⟩ := T3.c
    have ht4 := RI.alloc ht3 (.cells #[.string id, .int .i64 K, .slice A3 l.length c3, .slice B3 m.length d3] 35)
    have hr4 := RI.alloc hr3 (.cells #[.string id, .int .i64 K, .slice A3 l.length c3, .slice B3 m.length d3] 35)
    obtain ⟨ta, tb, tt⟩ := tight_of (fun _ _ _ _ _ _ _ h => h) ht4 s3
    obtain ⟨pa, pb, tp⟩ := tight_of (fun _ _ _ _ _ _ _ h => h) hr4 s3
    have hap := tight_apart tp tt (by decide)
    obtain ⟨q1, q2, q3, q4, hq, _⟩ := tt
    obtain ⟨p1, p2, p3, p4, hp, _⟩ := tp
    go_wp2_with fail
    refine (DeleteTag_c B3 d3 m k ta tb _ hq hkl n2 (by simp; omega)).mono ?_
    rintro e w4 ⟨rfl, hd4, hx4⟩
    have hp4 := hp.ex hx4 (by omega)
    have T34 : B4 w4 w3.heap.size 35 (.string id) (.int .i64 K) (.slice A3 l.length c3) (.slice B3 m.length d3) := by
      have := hx4.2 w3.heap.size (by omega) (by simp)
      unfold B4 at T3 ⊢
      rw [this, T3]
    have T24 : B4 w4 (w.heap.size + 1) 35 (.string ⟨#[]⟩) (.int .i64 0) (.slice none 0 0) (.slice none 0 0) := by
      have := hx4.1.block (w.heap.size + 1) (by omega)
      unfold B4 at T2 ⊢
      rw [this, T2]
    clear z0 z1 z2 z3 T2 T3 hq hp ht4 hr4 hr3 ht3
    obtain ⟨z0, z1, z2, z3⟩ := T34.c
    obtain ⟨v0, v1, v2, v3⟩ := T34.z
    have s4 := hx4.1.size
    simp only [World.size_alloc] at s4
    have B4w : Below w.heap.size w w4 := (bl : Below w.heap.size w (w3.alloc (.cells #[.string id, .int .i64 K, .slice A3 l.length c3, .slice B3 m.length d3] 35))).trans (hx4.1.mono (by omega))
    have hC1 := (hp4.far (p := ⟨w3.heap.size, 3, none⟩) (Or.inr (by simp only []; omega)) (.slice B3 (m.length - 1) d3)).rd.2.2
    have hC2 := (hd4.far (p := ⟨w3.heap.size, 3, none⟩) (Or.inr (by simp only []; omega)) (.slice B3 (m.length - 1) d3)).rd.2.2
    have hcl := cloneF_c (id, (K, l), m.eraseIdx k) A3 c3 B3 d3 (w4.setCell ⟨w3.heap.size, 3, none⟩ (.slice B3 (m.length - 1) d3)) hC1 hC2 n1 (by simp only []; omega)
    simp only [featV, hel] at hcl
    have T35 := T34.set3 (.slice B3 (m.length - 1) d3)
    have T25 : B4 (w4.setCell ⟨w3.heap.size, 3, none⟩ (.slice B3 (m.length - 1) d3)) (w.heap.size + 1) 35 (.string ⟨#[]⟩) (.int .i64 0) (.slice none 0 0) (.slice none 0 0) := T24.far (by simp; omega)
    have HCL := Lib.hid hcl
    clear hcl
    obtain ⟨u0, u1, u2, u3⟩ := T35.c
    go_wp2_with fail
    refine (HCL.out).mono ?_
    rintro e w5 ⟨A5, c5, B5, d5, rfl, hr5, ht5, hb5⟩
    have T26 := T25.to hb5
    simp only [featV] at hr5 ht5 ⊢
    have s5 := hb5.size
    simp only [World.size_setCell] at s5
    have B5w : Below w.heap.size w w5 := (B4w.setCell (p := ⟨w3.heap.size, 3, none⟩) (by simp only []; omega) (.slice B3 (m.length - 1) d3)).trans (hb5.mono (by simp; omega))
    clear z0 z1 z2 z3 v0 v1 v2 v3 u0 u1 u2 u3
    obtain ⟨z0, z1, z2, z3⟩ := T26.c
    obtain ⟨v0, v1, v2, v3⟩ := T26.z
    go_wp2
    refine bodyPost_ret (v := .tuple #[.agg #[.string id, .int .i64 K, .slice A5 l.length c5, .slice B5 (m.eraseIdx k).length d5], .bool true]) (by simp [results, Try.results36, go_sem, *]) rfl ⟨A5, c5, B5, d5, rfl, RI.of (T26.R (hr5.up (by simp; omega)) (by decide) _ _ _ _), RI.of (T26.R (ht5.up (by simp; omega)) (by decide) _ _ _ _), (((B5w.setCell (by simp) _).setCell (by simp) _).setCell (by simp) _).setCell (by simp) _⟩
  · have hf : fcut f key = (feat0, false) := if_neg hh
    rw [hf]
    cases hok : featOk f
    case' false =>
      rw [hok] at hO
      have hz : ∃ z : Int, optI (atK f.2.2 key) = z := ⟨_, rfl⟩
    case' true =>
      have hz : optI (atK f.2.2 key) = -1 := by
        have : atK f.2.2 key = none := by
          cases h : atK f.2.2 key with
          | none => rfl
          | some k => exact absurd ⟨featOk_t.1 hok, by rw [h]; simp⟩ hh
        rw [this]
        rfl
      rw [hok] at hO
      rw [hz] at hT
    all_goals
      have HT := Lib.hid hT
      have HO := Lib.hid hO
      clear hT hO hf hh hok hz
      obtain ⟨id, ⟨K, l⟩, m⟩ := f
      simp only [featV] at hl hm n1 n2 HT HO ⊢
      go_enter Try.func36, Try.ntmps36
      go_wp2_with fail
      refine (HT.out _ (Kd.C_below hm bl) n2).mono ?_
      rintro e w1 ⟨rfl, hb1⟩
      have T1 : B4 w1 w.heap.size 35 (.string id) (.int .i64 K) (.slice A l.length c) (.slice B m.length d) := B4.new' w _ _ _ _ _ _
      have T2 : B4 w1 (w.heap.size + 1) 35 (.string ⟨#[]⟩) (.int .i64 0) (.slice none 0 0) (.slice none 0 0) := B4.new' (w.alloc (.cells #[.string id, .int .i64 K, .slice A l.length c, .slice B m.length d] 35)) _ _ _ _ _ _
      obtain ⟨x0, x1, x2, x3⟩ := T1.c
      go_wp2_with fail
      refine (HO.out _ (Kd.C_below hl bl) (Kd.C_below hm bl) hF).mono ?_
      rintro e w2 ⟨rfl, hb2⟩
      replace T2 := T2.to hb2
      clear x0 x1 x2 x3
      obtain ⟨x0, x1, x2, x3⟩ := T2.c
      obtain ⟨y0, y1, y2, y3⟩ := T2.z
      go_wp2
      refine bodyPost_ret (v := .tuple #[.agg #[.string ⟨#[]⟩, .int .i64 0, .slice none 0 0, .slice none 0 0], .bool false]) (by simp [results, Try.results36, go_sem, *]) rfl (NFeatB.no ?_)
      exact ((((bl : Below w.heap.size w w2).setCell (by simp) _).setCell (by simp) _).setCell (by simp) _).setCell (by simp) _
end
end Go.Proofs.Ytlebgjafaioajaa
