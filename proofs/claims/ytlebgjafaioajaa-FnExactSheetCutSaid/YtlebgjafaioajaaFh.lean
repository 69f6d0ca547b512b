/- Contracts: copies of a thing. -/
import Derived.Test.YtlebgjafaioajaaFc
import Derived.Test.YtlebgjafaioajaaTe
namespace Go.Proofs.Ytlebgjafaioajaa
open Go.RowKit Go.Proofs.YtlebgjafaioajaaW.PrintWords Go.Proofs.YtlebgjafaioajaaW.PrintLast
set_option maxRecDepth 100000
set_option linter.unusedVariables false
set_option linter.unusedSimpArgs false
/-- A block of four cells. -/
def B4 (W : World) (b : Nat) (t : TypeId) (p q r s : Value) : Prop := W.heap[b]? = some (.cells #[p, q, r, s] t (0, 0))
section
variable {W W1 : World} {b b' i : Nat} {t : TypeId} {p q r s x : Value}
theorem B4.lt (h : B4 W b t p q r s) : b < W.heap.size := blk_lt h
theorem B4.c (h : B4 W b t p q r s) : W.cell? ⟨b, 0, none⟩ = some p ∧ W.cell? ⟨b, 1, none⟩ = some q ∧ W.cell? ⟨b, 2, none⟩ = some r ∧ W.cell? ⟨b, 3, none⟩ = some s := ⟨blk_cell h 0, blk_cell h 1, blk_cell h 2, blk_cell h 3⟩
theorem B4.z (h : B4 W b t p q r s) : W.frozen? ⟨b, 0, none⟩ = false ∧ W.frozen? ⟨b, 1, none⟩ = false ∧ W.frozen? ⟨b, 2, none⟩ = false ∧ W.frozen? ⟨b, 3, none⟩ = false := ⟨blk_frozen h 0, blk_frozen h 1, blk_frozen h 2, blk_frozen h 3⟩
theorem B4.new (w : World) (p q r s : Value) (t : TypeId) : B4 (w.alloc (.cells #[p, q, r, s] t)) w.heap.size t p q r s := blk_new w _
theorem B4.new' (w : World) (b : Nat) (p q r s : Value) (t : TypeId) (hb : Below (w.alloc (.cells #[p, q, r, s] t)).heap.size (w.alloc (.cells #[p, q, r, s] t)) W := by exact bl) (h : b = w.heap.size := by first | rfl | (simp; done)) : B4 W b t p q r s := by
  subst h
  exact blk_below (blk_new w _) hb
theorem B4.to (h : B4 W b t p q r s) (hb : Below W.heap.size W W1) : B4 W1 b t p q r s := blk_below h hb
theorem B4.far (h : B4 W b t p q r s) (hne : (b == b') = false) : B4 (W.setCell ⟨b', i, none⟩ x) b t p q r s := blk_far h (by simpa using hne) x
theorem B4.grown {row : Option Nat} (h : B4 W b t p q r s) (hg : W.grownBy W1 row) (hf : some b ≠ row) : B4 W1 b t p q r s := blk_grown h hg hf
theorem B4.set0 (h : B4 W b t p q r s) (x : Value) : B4 (W.setCell ⟨b, 0, none⟩ x) b t x q r s := blk_set h 0 x
theorem B4.set1 (h : B4 W b t p q r s) (x : Value) : B4 (W.setCell ⟨b, 1, none⟩ x) b t p x r s := blk_set h 1 x
theorem B4.set2 (h : B4 W b t p q r s) (x : Value) : B4 (W.setCell ⟨b, 2, none⟩ x) b t p q x s := blk_set h 2 x
theorem B4.set3 (h : B4 W b t p q r s) (x : Value) : B4 (W.setCell ⟨b, 3, none⟩ x) b t p q r x := blk_set h 3 x
/-- A row of one's own of another type outlives four stores into the block. -/
theorem B4.R {α : Type} {d : Kd α} {e base : Nat} {ok : Nat → Prop} {v : Value} {xs : List α} (h : B4 W b t p q r s) (hr : d.R e W base ok v xs) (ht : ∀ q, q ∈ e :: d.E → q ≠ t) (p' q' r' s' : Value) :
    d.R e ((((W.setCell ⟨b, 0, none⟩ p').setCell ⟨b, 1, none⟩ q').setCell ⟨b, 2, none⟩ r').setCell ⟨b, 3, none⟩ s') base ok v xs :=
  Kd.R_set (Kd.R_set (Kd.R_set (Kd.R_set hr h ht 0 p') (h.set0 p') ht 1 q') ((h.set0 p').set1 q') ht 2 r') (((h.set0 p').set1 q').set2 r') ht 3 s'
end
section
variable {α : Type} {d : Kd α} {P : Program} {ops : Array Oper} {Q : Exit → Act → World → Prop} {S : World → Prop} {T : Bool × List (List Nat × List Nat)} {i k n fuel : Nat} {p ds : List Nat} {oi : Oper} {a : Act} {w : World} {L : List (Addr × Value)}
theorem cgCall_k {l' : Array Bool} {f : FuncId} {fn : Func} {av : Array Operand} {ts : Array TypeId} {args : Array Value} {R : Ending → World → Prop} (hf : P.funcs[f]? = some fn) (hcall : Calls P f args w R)
    (h : ∀ e w', R e w' → ∃ v, e = .returned v ∧ S w' ∧ wpAnyLast P .any ops Q S ds fuel l' (a.put oi.dst v) w')
    (hop : oi.op = .call { callee := .value (.func f), args := av, argTypes := ts } := by rfl)
    (hw : Region.wanted oi (yielded ops a.tmps) = true := by rfl) (hargs : av.map a.eval = args := by ((try simp only [List.map_toArray, List.map_cons, List.map_nil]); first | done | rfl))
    (hname : (fn.name == "runtime.NumGoroutine") = false := by kernel_rfl) (hb : fn.body.isSome = true := by rfl) : CgK P ops Q S ds fuel l' oi a w := by
  refine fun K hK => ?_
  refine goes_ hf hname hb args hw rfl hop hargs (hcall.mono fun e w' hr => ?_)
  obtain ⟨v, rfl, hs, hk⟩ := h e w' hr
  exact ⟨v, rfl, hK _ _ hs (fun _ => hk)⟩
/-- append(v, ys..) of rows whose elements hold no rows, alone. -/
theorem cgAppG {w0 : World} {base : Nat} (t e : TypeId) (z : Value) (bytes : Nat) (ht : P.underlying t = some (.slice e)) (hinfo : (P.info? e).map (fun i => (i.zero, i.size, i.bytes)) = some (some z, d.sz, bytes)) (hz : z.cells.size = d.sz) (hs0 : 0 < d.sz) (hb0 : 0 < bytes) (hKM : ∀ x cs, d.K w x cs → d.M w base (fun _ => False) x cs)
    (s x : Operand) (v : Value) (xs ys : List α) (A : Option Addr) (m c : Nat) (hT : Aside0 (rtab .any ops = T)) (hC : Cells w L)
    (HO : d.R e w base (fun _ => True) v xs) (HR : d.C w A m ys) (HB : Below base w0 w) (hbase : base ≤ w.heap.size) (hl : (xs.length + m) * bytes ≤ 140737488355328) (hf : ∀ x ∈ L, some x.1.block ≠ v.ownBlock)
    (h : ∀ A' c' w1, d.R e w1 base (fun _ => True) (.slice A' (xs ++ ys).length c') (xs ++ ys) → Below base w0 w1 → Cells w1 L → w.grownBy w1 v.ownBlock → wpAnyLast P .any ops Q (fun w' => Cells w' L) ds fuel (lit p (k + 1) n) (a.put oi.dst (.slice A' (xs ++ ys).length c')) w1)
    (hk : p[k]? = some i := by (try simp only [List.getElem?_cons_succ, List.getElem?_cons_zero]); rfl) (hi : ops[i]? = some oi := by (try simp only [List.getElem?_toArray, List.getElem?_cons_succ, List.getElem?_cons_zero]); rfl)
    (ho : oi.op = .call { callee := .builtin .append, args := #[s, x], argTypes := #[t, t] } := by rfl) (hw : Region.wanted oi (yielded ops a.tmps) = true := by rfl) (hs : a.eval s = v := by rfl) (hx : a.eval x = .slice A m c := by rfl) (hd : i ∉ ds := by decide)
    (hc : (readyT T.2 (lit p k n).toList == [i] && (lit p k n).toList.set i true == (lit p (k + 1) n).toList) = true := by kernel_rfl) : wpAnyLast P .any ops Q (fun w' => Cells w' L) ds (fuel + 1) (lit p k n) a w := by
  refine one_ (lit p (k + 1) n) hi rfl (one_of hT.out hc) hd (fun K hK => ?_)
  refine Kd.R_append_rows_step d (w0 := w0) base hw s x t e z bytes ho ht hinfo hz hs0 hb0 v xs ys A m c (fun _ => True) (fun _ => False) hs hx HO HR hKM (fun _ h => h.elim) (fun _ _ => trivial) HB hbase hl ?_
  intro v1 w1 ho1 hb1 hg1 _
  obtain ⟨A', c', rfl⟩ := Kd.R_slice ho1
  have hC1 := hC.grown hg1 hf
  exact hK _ _ hC1 (fun _ => h A' c' w1 ho1 hb1 hC1 hg1)
end
theorem R_grownT {α β : Type} {d : Kd α} {d2 : Kd β} {e e2 base b2 : Nat} {ok ok2 : Nat → Prop} {W W1 : World} {v v2 : Value} {xs : List α} {ys : List β} (h : d.R e W base ok v xs) (h2 : d2.R e2 W b2 ok2 v2 ys) (ht : ∀ q, q ∈ e :: d.E → q ≠ e2) (hg : W.grownBy W1 v2.ownBlock) : d.R e W1 base ok v xs := by
  cases hv : v2.ownBlock with
  | none => exact Kd.R_grown h (hv ▸ hg) (fun _ _ => by simp)
  | some k =>
    obtain ⟨inner, ho⟩ := Kd.R_own h2
    obtain ⟨cells, hb⟩ := own_typed ho k hv
    have h3 := Kd.R_types h hb ht
    rw [hv] at hg
    exact Kd.R_mono (Kd.R_grown h3 hg (fun q hq e => hq.2 (by simpa using e))) (fun _ hk => hk.1)
theorem Kd.R_block_ge {α : Type} {d : Kd α} {e base : Nat} {ok : Nat → Prop} {w : World} {A : Option Addr} {n c : Nat} {xs : List α} (h : d.R e w base ok (.slice A n c) xs) : ∀ k, (Value.slice A n c).ownBlock = some k → base ≤ k := fun k hk => by
  obtain ⟨inner, ho⟩ := Kd.R_own h
  exact own_base ho k hk
theorem litT0 (w : World) (base : Nat) (hb : base ≤ w.heap.size) : kTag.R 57 (w.alloc (.cells #[] 57)) base (fun _ => True) (.slice (some ⟨w.heap.size, 0, none⟩) 0 0) [] :=
  ⟨fun _ _ => trivial, [], World.ownsRow_lit (base := base) (e := 57) (size := 2) w #[] 0 hb (by decide) rfl, Reps.none _ _⟩
/-- A thing in new memory. -/
def NFeat (w : World) (f : FeatD) (e : Ending) (w' : World) : Prop := ∃ A c B d, e = .returned (featV f A c B d) ∧ RI kPt 108 w' w.heap.size w'.heap.size (.slice A f.2.1.2.length c) f.2.1.2 ∧ RI kTag 57 w' w.heap.size w'.heap.size (.slice B f.2.2.length d) f.2.2 ∧ Below w.heap.size w w'
def i_cloneFeat_T1 : Bool × List (List Nat × List Nat) := (true, [([], []), ([0], [0]), ([], []), ([2], [2]), ([3], [3]), ([], []), ([], []), ([6], [6]), ([5, 7, 4], [5, 7]), ([1, 4, 8], [1, 4, 8]), ([9, 8, 0, 1, 2, 3, 4, 5, 6, 7, 8, 9], [9])])
theorem i_cloneFeat_t1 : rtab .any (opsOf Try.f72 1) = i_cloneFeat_T1 := by kernel_rfl
set_option maxHeartbeats 4000000 in
theorem cloneF_c (f : FeatD) (A : Option Addr) (c : Nat) (B : Option Addr) (d : Nat) (w : World) (hl : kPt.C w A f.2.1.2.length f.2.1.2) (hm : kTag.C w B f.2.2.length f.2.2) (n1 : f.2.1.2.length ≤ 1048576) (n2 : f.2.2.length ≤ 1048576) :
    Calls Try.prog 72 #[featV f A c B d] w (NFeat w f) := by
  obtain ⟨id, ⟨K, l⟩, m⟩ := f
  simp only [featV] at hl hm n1 n2 ⊢
  have HC : Cells ((w.alloc (.cells #[.string id, .int .i64 K, .slice A l.length c, .slice B m.length d] 35)).alloc (.cells #[.string ⟨#[]⟩, .int .i64 0, .slice none 0 0, .slice none 0 0] 35)) _ := (Cells.nil w).box4 (bl : Below _ (w.alloc (.cells #[.string id, .int .i64 K, .slice A l.length c, .slice B m.length d] 35)) _)
  have X0 : B4 ((w.alloc (.cells #[.string id, .int .i64 K, .slice A l.length c, .slice B m.length d] 35)).alloc (.cells #[.string ⟨#[]⟩, .int .i64 0, .slice none 0 0, .slice none 0 0] 35)) (w.heap.size + 1) 35 (.string ⟨#[]⟩) (.int .i64 0) (.slice none 0 0) (.slice none 0 0) := B4.new' (w.alloc (.cells #[.string id, .int .i64 K, .slice A l.length c, .slice B m.length d] 35)) _ _ _ _ _ _
  have B0 : Below w.heap.size w ((w.alloc (.cells #[.string id, .int .i64 K, .slice A l.length c, .slice B m.length d] 35)).alloc (.cells #[.string ⟨#[]⟩, .int .i64 0, .slice none 0 0, .slice none 0 0] 35)) := bl
  have s0 : ((w.alloc (.cells #[.string id, .int .i64 K, .slice A l.length c, .slice B m.length d] 35)).alloc (.cells #[.string ⟨#[]⟩, .int .i64 0, .slice none 0 0, .slice none 0 0] 35)).heap.size = w.heap.size + 2 := by simp
  go_enter Try.func72, Try.ntmps72
  go_wp2
  generalize ((w.alloc (.cells #[.string id, .int .i64 K, .slice A l.length c, .slice B m.length d] 35)).alloc (.cells #[.string ⟨#[]⟩, .int .i64 0, .slice none 0 0, .slice none 0 0] 35)) = w0 at *
  refine cgStart 11 [0, 1, 2, 3, 6, 7, 4, 5, 8, 9, 10] [10] _ i_cloneFeat_t1 HC (fun HT HD => ?_)
  repeat ((with_reducible refine cgGate ?_); first | refine cgP HT ?_ | refine cgL HT ?_ | refine cgG HT ?_)
  refine cgTwo [0, 1, 2, 3, 6, 7, 5, 4, 8, 9, 10] HT ?b1 ?b2
  case' b1 =>
    refine cgCall_k Try.func113 (clone_c K A c l _ (Kd.C_below hl bl) n1) ?_
    rintro e w1 ⟨A1, c1, rfl, hr1, hb1⟩
    refine ⟨_, rfl, HD.to hb1, cgN ?_⟩
    refine cgE (w1 := w1.alloc (.cells #[] 57)) (v := .slice (some ⟨w1.heap.size, 0, none⟩) 0 0) HT (fun HD2 => ?_) (hrun := by first | (go_simp; done) | (go_simp; rfl)) (hS := (HD.to hb1).to bl)
    have HO : kTag.R 57 (w1.alloc (.cells #[] 57)) w0.heap.size (fun _ => True) (.slice (some ⟨w1.heap.size, 0, none⟩) 0 0) [] := litT0 w1 w0.heap.size hb1.size
    have hb2 : Below w0.heap.size w0 (w1.alloc (.cells #[] 57)) := bl
    have hr2 := Kd.R_below (hr1.up (b := w0.heap.size) (Nat.le_refl _)) (below_alloc (Below.refl _ _) (.cells #[] 57))
    have hgb : w0.heap.size ≤ w1.heap.size := hb1.size
    clear hr1
    generalize w1.alloc (.cells #[] 57) = w2 at *
  case' b2 =>
    refine cgE_k (w1 := w0.drew.alloc (.cells #[] 57)) (v := .slice (some ⟨w0.heap.size, 0, none⟩) 0 0) (fun HD2 => ?_) (hrun := by first | (go_simp; done) | (go_simp; rfl)) (hS := HD.to bl)
    refine cgCall HT Try.func113 (clone_c K A c l _ (Kd.C_below hl bl) n1) ?_
    rintro e w2 ⟨A1, c1, rfl, hr1, hb1⟩
    refine ⟨_, rfl, HD2.to hb1, cgN ?_⟩
    have HO : kTag.R 57 w2 w0.heap.size (fun _ => True) (.slice (some ⟨w0.heap.size, 0, none⟩) 0 0) [] := Kd.R_below (litT0 w0.drew w0.heap.size (Nat.le_refl _)) hb1
    have hb2 : Below w0.heap.size w0 w2 := bl
    have hr2 := hr1.up (b := w0.heap.size) (by simp)
    have hgb : w0.heap.size ≤ w0.heap.size := Nat.le_refl _
    replace HD2 := HD2.to hb1
    clear hr1
  all_goals
    have X2 := X0.to hb2
    refine cgAppG (d := kTag) (w0 := w0) (base := w0.heap.size) 33 57 (.agg #[(.string ByteArray.empty), (.string ByteArray.empty)]) 32 Try.underlying33 info_Tag rfl (by decide) (by omega) (fun _ _ h => h) (.tmp 8) (.tmp 10) _ [] m B m.length d HT HD2 HO (Kd.C_below hm (bl : Below w.heap.size w w2)) hb2 hb2.size (by simp; omega) (fun x hx e_ => by have := Kd.R_block_ge HO _ e_.symm; simp only [List.mem_cons, List.mem_nil_iff, or_false] at hx; rcases hx with rfl | rfl | rfl | rfl <;> simp only [] at this <;> omega) ?_
    intro B3 d3 w3 ho3 hb3 HD3 hg3
    refine cgN ?_
    repeat ((with_reducible refine cgGate ?_); first | refine cgP HT ?_ | refine cgL HT ?_ | refine cgG HT ?_)
    have X3 := X2.grown hg3 (Kd.R_ne HO X2 (by decide))
    have hr3 := R_grownT hr2 HO (by decide) hg3
    obtain ⟨x0, x1, x2, x3⟩ := X3.c
    obtain ⟨y0, y1, y2, y3⟩ := X3.z
    refine cgLast HT ?_
    refine cgDone HT ?_
    clear HT HD HD2 HD3
    go_wp2
    have Bz : Below w.heap.size w w3 := B0.trans (hb3.mono (by omega))
    have ho4 : kTag.R 57 w3 w0.heap.size (fun _ => True) (.slice B3 m.length d3) m := ho3
    refine bodyPost_ret (v := .agg #[.string id, .int .i64 K, .slice A1 l.length c1, .slice B3 m.length d3]) (by simp [results, Try.results72, go_sem, *]) rfl ⟨A1, c1, B3, d3, rfl, RI.of (Kd.R_lower (X3.R hr3 (by decide) _ _ _ _) (by omega)), RI.of (Kd.R_lower (X3.R ho4 (by decide) _ _ _ _) (by omega)), (((Bz.setCell (by simp) _).setCell (by simp) _).setCell (by simp) _).setCell (by simp) _⟩
def s_l2Copy_T1 : Bool × List (List Nat × List Nat) := (true, [([], []), ([0], [0]), ([], []), ([2], [2]), ([3], [3]), ([], []), ([], []), ([6], [6]), ([5, 7, 4], [5, 7]), ([1, 4, 8], [1, 4, 8]), ([9, 8, 0, 1, 2, 3, 4, 5, 6, 7, 8, 9], [9])])
theorem s_l2Copy_t1 : rtab .any (opsOf Try.f74 1) = s_l2Copy_T1 := by kernel_rfl
set_option maxHeartbeats 4000000 in
theorem copyF_c (f : FeatD) (A : Option Addr) (c : Nat) (B : Option Addr) (d : Nat) (w : World) (hl : kPt.C w A f.2.1.2.length f.2.1.2) (hm : kTag.C w B f.2.2.length f.2.2) (n1 : f.2.1.2.length ≤ 1048576) (n2 : f.2.2.length ≤ 1048576) :
    Calls Try.prog 74 #[featV f A c B d] w (NFeat w f) := by
  obtain ⟨id, ⟨K, l⟩, m⟩ := f
  simp only [featV] at hl hm n1 n2 ⊢
  have HC : Cells ((w.alloc (.cells #[.string id, .int .i64 K, .slice A l.length c, .slice B m.length d] 35)).alloc (.cells #[.string ⟨#[]⟩, .int .i64 0, .slice none 0 0, .slice none 0 0] 35)) _ := (Cells.nil w).box4 (bl : Below _ (w.alloc (.cells #[.string id, .int .i64 K, .slice A l.length c, .slice B m.length d] 35)) _)
  have X0 : B4 ((w.alloc (.cells #[.string id, .int .i64 K, .slice A l.length c, .slice B m.length d] 35)).alloc (.cells #[.string ⟨#[]⟩, .int .i64 0, .slice none 0 0, .slice none 0 0] 35)) (w.heap.size + 1) 35 (.string ⟨#[]⟩) (.int .i64 0) (.slice none 0 0) (.slice none 0 0) := B4.new' (w.alloc (.cells #[.string id, .int .i64 K, .slice A l.length c, .slice B m.length d] 35)) _ _ _ _ _ _
  have B0 : Below w.heap.size w ((w.alloc (.cells #[.string id, .int .i64 K, .slice A l.length c, .slice B m.length d] 35)).alloc (.cells #[.string ⟨#[]⟩, .int .i64 0, .slice none 0 0, .slice none 0 0] 35)) := bl
  have s0 : ((w.alloc (.cells #[.string id, .int .i64 K, .slice A l.length c, .slice B m.length d] 35)).alloc (.cells #[.string ⟨#[]⟩, .int .i64 0, .slice none 0 0, .slice none 0 0] 35)).heap.size = w.heap.size + 2 := by simp
  go_enter Try.func74, Try.ntmps74
  go_wp2
  generalize ((w.alloc (.cells #[.string id, .int .i64 K, .slice A l.length c, .slice B m.length d] 35)).alloc (.cells #[.string ⟨#[]⟩, .int .i64 0, .slice none 0 0, .slice none 0 0] 35)) = w0 at *
  refine cgStart 11 [0, 1, 2, 3, 6, 7, 4, 5, 8, 9, 10] [10] _ s_l2Copy_t1 HC (fun HT HD => ?_)
  repeat ((with_reducible refine cgGate ?_); first | refine cgP HT ?_ | refine cgL HT ?_ | refine cgG HT ?_)
  refine cgTwo [0, 1, 2, 3, 6, 7, 5, 4, 8, 9, 10] HT ?b1 ?b2
  case' b1 =>
    refine cgCall_k Try.func114 (copy_c K A c l _ (Kd.C_below hl bl) n1) ?_
    rintro e w1 ⟨A1, c1, rfl, hr1, hb1⟩
    refine ⟨_, rfl, HD.to hb1, cgN ?_⟩
    refine cgE (w1 := w1.alloc (.cells #[] 57)) (v := .slice (some ⟨w1.heap.size, 0, none⟩) 0 0) HT (fun HD2 => ?_) (hrun := by first | (go_simp; done) | (go_simp; rfl)) (hS := (HD.to hb1).to bl)
    have HO : kTag.R 57 (w1.alloc (.cells #[] 57)) w0.heap.size (fun _ => True) (.slice (some ⟨w1.heap.size, 0, none⟩) 0 0) [] := litT0 w1 w0.heap.size hb1.size
    have hb2 : Below w0.heap.size w0 (w1.alloc (.cells #[] 57)) := bl
    have hr2 := Kd.R_below (hr1.up (b := w0.heap.size) (Nat.le_refl _)) (below_alloc (Below.refl _ _) (.cells #[] 57))
    have hgb : w0.heap.size ≤ w1.heap.size := hb1.size
    clear hr1
    generalize w1.alloc (.cells #[] 57) = w2 at *
  case' b2 =>
    refine cgE_k (w1 := w0.drew.alloc (.cells #[] 57)) (v := .slice (some ⟨w0.heap.size, 0, none⟩) 0 0) (fun HD2 => ?_) (hrun := by first | (go_simp; done) | (go_simp; rfl)) (hS := HD.to bl)
    refine cgCall HT Try.func114 (copy_c K A c l _ (Kd.C_below hl bl) n1) ?_
    rintro e w2 ⟨A1, c1, rfl, hr1, hb1⟩
    refine ⟨_, rfl, HD2.to hb1, cgN ?_⟩
    have HO : kTag.R 57 w2 w0.heap.size (fun _ => True) (.slice (some ⟨w0.heap.size, 0, none⟩) 0 0) [] := Kd.R_below (litT0 w0.drew w0.heap.size (Nat.le_refl _)) hb1
    have hb2 : Below w0.heap.size w0 w2 := bl
    have hr2 := hr1.up (b := w0.heap.size) (by simp)
    have hgb : w0.heap.size ≤ w0.heap.size := Nat.le_refl _
    replace HD2 := HD2.to hb1
    clear hr1
  all_goals
    have X2 := X0.to hb2
    refine cgAppG (d := kTag) (w0 := w0) (base := w0.heap.size) 33 57 (.agg #[(.string ByteArray.empty), (.string ByteArray.empty)]) 32 Try.underlying33 info_Tag rfl (by decide) (by omega) (fun _ _ h => h) (.tmp 8) (.tmp 10) _ [] m B m.length d HT HD2 HO (Kd.C_below hm (bl : Below w.heap.size w w2)) hb2 hb2.size (by simp; omega) (fun x hx e_ => by have := Kd.R_block_ge HO _ e_.symm; simp only [List.mem_cons, List.mem_nil_iff, or_false] at hx; rcases hx with rfl | rfl | rfl | rfl <;> simp only [] at this <;> omega) ?_
    intro B3 d3 w3 ho3 hb3 HD3 hg3
    refine cgN ?_
    repeat ((with_reducible refine cgGate ?_); first | refine cgP HT ?_ | refine cgL HT ?_ | refine cgG HT ?_)
    have X3 := X2.grown hg3 (Kd.R_ne HO X2 (by decide))
    have hr3 := R_grownT hr2 HO (by decide) hg3
    obtain ⟨x0, x1, x2, x3⟩ := X3.c
    obtain ⟨y0, y1, y2, y3⟩ := X3.z
    refine cgLast HT ?_
    refine cgDone HT ?_
    clear HT HD HD2 HD3
    go_wp2
    have Bz : Below w.heap.size w w3 := B0.trans (hb3.mono (by omega))
    have ho4 : kTag.R 57 w3 w0.heap.size (fun _ => True) (.slice B3 m.length d3) m := ho3
    refine bodyPost_ret (v := .agg #[.string id, .int .i64 K, .slice A1 l.length c1, .slice B3 m.length d3]) (by simp [results, Try.results74, go_sem, *]) rfl ⟨A1, c1, B3, d3, rfl, RI.of (Kd.R_lower (X3.R hr3 (by decide) _ _ _ _) (by omega)), RI.of (Kd.R_lower (X3.R ho4 (by decide) _ _ _ _) (by omega)), (((Bz.setCell (by simp) _).setCell (by simp) _).setCell (by simp) _).setCell (by simp) _⟩
end Go.Proofs.Ytlebgjafaioajaa
