/- Contracts: copies and marks of a thing, FeatCut. -/
import Derived.Test.YtfbhjknkofnohaaDoorFa
import Derived.Test.YtfbhjknkofnohaaDoorM
import Derived.Test.YtfbhjknkofnohaaDoorFe
namespace Go.Proofs.YtfbhjknkofnohaaDoor
section
open Go.RowKit Go.Proofs.YtfbhjknkofnohaaDoorW.PrintWords Go.Proofs.YtfbhjknkofnohaaDoorW.PrintLast
set_option maxRecDepth 100000
set_option linter.unusedVariables false
set_option linter.unusedSimpArgs false
/-- A block of four cells. -/
def B4 (W : World) (b : Nat) (t : TypeId) (p q r s : Value) : Prop := W.heap[b]? = some (.cells #[p, q, r, s] t (0, 0))
section
variable {W W1 : World} {b b' i : Nat} {t : TypeId} {p q r s x : Value}
theorem B4.lt (h : B4 W b t p q r s) : b < W.heap.size := blk_lt h
theorem B4.c (h : B4 W b t p q r s) : W.cell? ⟨b, 0, none⟩ = some p ∧ W.cell? ⟨b, 1, none⟩ = some q ∧ W.cell? ⟨b, 2, none⟩ = some r ∧ W.cell? ⟨b, 3, none⟩ = some s := ⟨blk_cell h 0, blk_cell h 1, blk_cell h 2, blk_cell h 3⟩
theorem B4.z (h : B4 W b t p q r s) : W.frozen? ⟨b, 0, none⟩ = false ∧ W.frozen? ⟨b, 1, none⟩ = false ∧ W.frozen? ⟨b, 2, none⟩ = false ∧ W.frozen? ⟨b, 3, none⟩ = false := ⟨blk_frozen h 0, blk_frozen h 1, blk_frozen h 2, blk_frozen h 3⟩
theorem B4.new (w : World) (p q r s : Value) (t : TypeId) : B4 (w.alloc (.cells #[p, q, r, s] t)) w.heap.size t p q r s := blk_new w _
theorem B4.new' (w : World) (b : Nat) (p q r s : Value) (t : TypeId) (hb : Below (w.alloc (.cells #[p, q, r, s] t)).heap.size (w.alloc (.cells #[p, q, r, s] t)) W := by exact bl) (h : b = w.heap.size := by first | rfl | (simp; done)) : B4 W b t p q r s := by
  subst h
  exact blk_below (blk_new w _) hb
theorem B4.to (h : B4 W b t p q r s) (hb : Below W.heap.size W W1) : B4 W1 b t p q r s := blk_below h hb
theorem B4.far (h : B4 W b t p q r s) (hne : (b == b') = false) : B4 (W.setCell ⟨b', i, none⟩ x) b t p q r s := blk_far h (by simpa using hne) x
theorem B4.grown {row : Option Nat} (h : B4 W b t p q r s) (hg : W.grownBy W1 row) (hf : some b ≠ row) : B4 W1 b t p q r s := blk_grown h hg hf
theorem B4.set0 (h : B4 W b t p q r s) (x : Value) : B4 (W.setCell ⟨b, 0, none⟩ x) b t x q r s := blk_set h 0 x
theorem B4.set1 (h : B4 W b t p q r s) (x : Value) : B4 (W.setCell ⟨b, 1, none⟩ x) b t p x r s := blk_set h 1 x
theorem B4.set2 (h : B4 W b t p q r s) (x : Value) : B4 (W.setCell ⟨b, 2, none⟩ x) b t p q x s := blk_set h 2 x
theorem B4.set3 (h : B4 W b t p q r s) (x : Value) : B4 (W.setCell ⟨b, 3, none⟩ x) b t p q r x := blk_set h 3 x
/-- A row of one's own of another type outlives four stores into the block. -/
theorem B4.R {α : Type} {d : Kd α} {e base : Nat} {ok : Nat → Prop} {v : Value} {xs : List α} (h : B4 W b t p q r s) (hr : d.R e W base ok v xs) (ht : ∀ q, q ∈ e :: d.E → q ≠ t) (p' q' r' s' : Value) :
    d.R e ((((W.setCell ⟨b, 0, none⟩ p').setCell ⟨b, 1, none⟩ q').setCell ⟨b, 2, none⟩ r').setCell ⟨b, 3, none⟩ s') base ok v xs :=
  Kd.R_set (Kd.R_set (Kd.R_set (Kd.R_set hr h ht 0 p') (h.set0 p') ht 1 q') ((h.set0 p').set1 q') ht 2 r') (((h.set0 p').set1 q').set2 r') ht 3 s'
end
section
variable {α : Type} {d : Kd α} {P : Program} {ops : Array Oper} {Q : Exit → Act → World → Prop} {S : World → Prop} {T : Bool × List (List Nat × List Nat)} {i k n fuel : Nat} {p ds : List Nat} {oi : Oper} {a : Act} {w : World} {L : List (Addr × Value)}
theorem cgCall_k {l' : Array Bool} {f : FuncId} {fn : Func} {av : Array Operand} {ts : Array TypeId} {args : Array Value} {R : Ending → World → Prop} (hf : P.funcs[f]? = some fn) (hcall : Calls P f args w R)
    (h : ∀ e w', R e w' → ∃ v, e = .returned v ∧ S w' ∧ wpAnyLast P .any ops Q S ds fuel l' (a.put oi.dst v) w')
    (hop : oi.op = .call { callee := .value (.func f), args := av, argTypes := ts } := by rfl)
    (hw : Region.wanted oi (yielded ops a.tmps) = true := by rfl) (hargs : av.map a.eval = args := by ((try simp only [List.map_toArray, List.map_cons, List.map_nil]); first | done | rfl))
    (hname : (fn.name == "runtime.NumGoroutine") = false := by kernel_rfl) (hb : fn.body.isSome = true := by rfl) : CgK P ops Q S ds fuel l' oi a w := by
  refine fun K hK => ?_
  refine goes_ hf hname hb args hw rfl hop hargs (hcall.mono fun e w' hr => ?_)
  obtain ⟨v, rfl, hs, hk⟩ := h e w' hr
  exact ⟨v, rfl, hK _ _ hs (fun _ => hk)⟩
/-- append(v, ys..) of rows whose elements hold no rows, alone. -/
theorem cgAppG {w0 : World} {base : Nat} (t e : TypeId) (z : Value) (bytes : Nat) (ht : P.underlying t = some (.slice e)) (hinfo : (P.info? e).map (fun i => (i.zero, i.size, i.bytes)) = some (some z, d.sz, bytes)) (hz : z.cells.size = d.sz) (hs0 : 0 < d.sz) (hb0 : 0 < bytes) (hKM : ∀ x cs, d.K w x cs → d.M w base (fun _ => False) x cs)
    (s x : Operand) (v : Value) (xs ys : List α) (A : Option Addr) (m c : Nat) (hT : Aside0 (rtab .any ops = T)) (hC : Cells w L)
    (HO : d.R e w base (fun _ => True) v xs) (HR : d.C w A m ys) (HB : Below base w0 w) (hbase : base ≤ w.heap.size) (hl : (xs.length + m) * bytes ≤ 140737488355328) (hf : ∀ x ∈ L, some x.1.block ≠ v.ownBlock)
    (h : ∀ A' c' w1, d.R e w1 base (fun _ => True) (.slice A' (xs ++ ys).length c') (xs ++ ys) → Below base w0 w1 → Cells w1 L → w.grownBy w1 v.ownBlock → wpAnyLast P .any ops Q (fun w' => Cells w' L) ds fuel (lit p (k + 1) n) (a.put oi.dst (.slice A' (xs ++ ys).length c')) w1)
    (hk : p[k]? = some i := by (try simp only [List.getElem?_cons_succ, List.getElem?_cons_zero]); rfl) (hi : ops[i]? = some oi := by (try simp only [List.getElem?_toArray, List.getElem?_cons_succ, List.getElem?_cons_zero]); rfl)
    (ho : oi.op = .call { callee := .builtin .append, args := #[s, x], argTypes := #[t, t] } := by rfl) (hw : Region.wanted oi (yielded ops a.tmps) = true := by rfl) (hs : a.eval s = v := by rfl) (hx : a.eval x = .slice A m c := by rfl) (hd : i ∉ ds := by decide)
    (hc : (readyT T.2 (lit p k n).toList == [i] && (lit p k n).toList.set i true == (lit p (k + 1) n).toList) = true := by kernel_rfl) : wpAnyLast P .any ops Q (fun w' => Cells w' L) ds (fuel + 1) (lit p k n) a w := by
  refine one_ (lit p (k + 1) n) hi rfl (one_of hT.out hc) hd (fun K hK => ?_)
  refine Kd.R_append_rows_step d (w0 := w0) base hw s x t e z bytes ho ht hinfo hz hs0 hb0 v xs ys A m c (fun _ => True) (fun _ => False) hs hx HO HR hKM (fun _ h => h.elim) (fun _ _ => trivial) HB hbase hl ?_
  intro v1 w1 ho1 hb1 hg1 _
  obtain ⟨A', c', rfl⟩ := Kd.R_slice ho1
  have hC1 := hC.grown hg1 hf
  exact hK _ _ hC1 (fun _ => h A' c' w1 ho1 hb1 hC1 hg1)
end
theorem R_grownT {α β : Type} {d : Kd α} {d2 : Kd β} {e e2 base b2 : Nat} {ok ok2 : Nat → Prop} {W W1 : World} {v v2 : Value} {xs : List α} {ys : List β} (h : d.R e W base ok v xs) (h2 : d2.R e2 W b2 ok2 v2 ys) (ht : ∀ q, q ∈ e :: d.E → q ≠ e2) (hg : W.grownBy W1 v2.ownBlock) : d.R e W1 base ok v xs := by
  cases hv : v2.ownBlock with
  | none => exact Kd.R_grown h (hv ▸ hg) (fun _ _ => by simp)
  | some k =>
    obtain ⟨inner, ho⟩ := Kd.R_own h2
    obtain ⟨cells, hb⟩ := own_typed ho k hv
    have h3 := Kd.R_types h hb ht
    rw [hv] at hg
    exact Kd.R_mono (Kd.R_grown h3 hg (fun q hq e => hq.2 (by simpa using e))) (fun _ hk => hk.1)
theorem Kd.R_block_ge {α : Type} {d : Kd α} {e base : Nat} {ok : Nat → Prop} {w : World} {A : Option Addr} {n c : Nat} {xs : List α} (h : d.R e w base ok (.slice A n c) xs) : ∀ k, (Value.slice A n c).ownBlock = some k → base ≤ k := fun k hk => by
  obtain ⟨inner, ho⟩ := Kd.R_own h
  exact own_base ho k hk
theorem litT0 (w : World) (base : Nat) (hb : base ≤ w.heap.size) : kTag.R 75 (w.alloc (.cells #[] 75)) base (fun _ => True) (.slice (some ⟨w.heap.size, 0, none⟩) 0 0) [] :=
  ⟨fun _ _ => trivial, [], World.ownsRow_lit (base := base) (e := 75) (size := 2) w #[] 0 hb (by decide) rfl, Reps.none _ _⟩
/-- A thing in new memory. -/
def NFeat (w : World) (f : FeatD) (e : Ending) (w' : World) : Prop := ∃ A c B d, e = .returned (featV f A c B d) ∧ RI kPt 58 w' w.heap.size w'.heap.size (.slice A f.2.1.2.length c) f.2.1.2 ∧ RI kTag 75 w' w.heap.size w'.heap.size (.slice B f.2.2.length d) f.2.2 ∧ Below w.heap.size w w'
end
section
open Go.RowKit Go.Proofs.YtfbhjknkofnohaaDoorW.PrintWords Go.Proofs.YtfbhjknkofnohaaDoorW.PrintLast
set_option maxRecDepth 100000
set_option linter.unusedVariables false
set_option linter.unusedSimpArgs false
/-- The digits of a number ahead of a text. -/
def dgt (k : Nat) (o : ByteArray) : ByteArray := if h : k = 0 then o else dgt (k / 10) (strOfNums [48 + (k : Int) % 10] ++ o)
termination_by k
decreasing_by omega
theorem dgt_zero (o : ByteArray) : dgt 0 o = o := by rw [dgt, dif_pos rfl]
theorem dgt_succ {k : Nat} (h : 0 < k) (o : ByteArray) : dgt k o = dgt (k / 10) (strOfNums [48 + (k : Int) % 10] ++ o) := by rw [dgt, dif_neg (by omega)]
def mtext (k : Nat) : ByteArray := (⟨#[109]⟩ : ByteArray) ++ dgt k ⟨#[]⟩
theorem one_size (x : Int) : (strOfNums [x]).size = 1 := rfl
theorem pow_bound {j n : Nat} (hj : 0 < j) (h : j * 2 ^ n ≤ 2 ^ 40) : n ≤ 40 ∧ (j / 10) * 2 ^ (n + 1) ≤ 2 ^ 40 := by
  constructor
  · have h1 : 2 ^ n ≤ 2 ^ 40 := Nat.le_trans (Nat.le_mul_of_pos_left _ hj) h
    exact (Nat.pow_le_pow_iff_right (by omega)).1 h1
  · rw [Nat.pow_succ, Nat.mul_comm (2 ^ n) 2, ← Nat.mul_assoc]
    exact Nat.le_trans (Nat.mul_le_mul_right _ (by omega)) h
theorem markText_c (k : Nat) (w : World) (h1 : 1 ≤ k) (h2 : k ≤ 1099511627776) :
    Calls Tryd.prog 33 #[.int .i64 k] w fun e w' => e = .returned (.string (mtext k)) ∧ Below w.heap.size w w' := by
  have h0 : ¬ k = 0 := by omega
  go_enter Tryd.func33, Tryd.ntmps33
  go_wp2
  go_loopw [0, 3] (fun q o wr => ∃ (j : Nat) (s : ByteArray), j ≤ 1099511627776 ∧ q = .int .i64 j ∧ o = .string s ∧ Aside0 (dgt j s = dgt k ⟨#[]⟩) ∧ Aside0 (j * 2 ^ s.size ≤ 2 ^ 40) ∧ s.size ≤ 41 ∧ Aside0 (Below w.heap.size w wr)) (fun q _ _ => (intOf q).toNat)
  case atStart => exact ⟨k, ⟨#[]⟩, h2, rfl, rfl, ⟨rfl⟩, ⟨by show k * 2 ^ 0 ≤ 2 ^ 40; omega⟩, by decide, ⟨Below.refl _ _⟩⟩
  case round =>
    obtain ⟨j, s, hj9, rfl, rfl, he, hp, hs, ⟨hb⟩⟩ := hrel
    by_cases hj : 0 < j
    · have d2 : decide ((0 : Int) < (j : Int)) = true := decide_eq_true (by omega)
      have hpb := Lib.hid (pow_bound hj hp.out)
      have hcv := string_of_reads (P := Tryd.prog) (w := wr.alloc (.cells #[.int .u8 (48 + (j : Int) % 10)] 5)) (src := 35) (dst := 9) (e := 5) (A := some ⟨wr.heap.size, 0, none⟩) (n := 1) (c := 1) (xs := [48 + (j : Int) % 10]) Tryd.underlying35 Tryd.underlying5 Tryd.underlying9 ⟨rfl, by decide, fun _ => ⟨_, rfl, fun i hi => by
        obtain rfl : i = 0 := by omega
        rw [add_zero']
        exact cbn 0 (Below.refl _ _) rfl⟩⟩
      have hsz := one_size (48 + (j : Int) % 10)
      go_wp2
      have hs2 : (strOfNums [48 + (j : Int) % 10] ++ s).size = s.size + 1 := by rw [ByteArray.size_append, hsz]; omega
      have h40 := hpb.out.1
      exact ⟨⟨j / 10, _, by omega, rfl, rfl, ⟨by rw [← dgt_succ hj]; exact he.out⟩, ⟨by rw [hs2]; exact hpb.out.2⟩, by rw [hs2]; omega, ⟨bl⟩⟩, by simp [intOf]; omega⟩
    · obtain rfl : j = 0 := by omega
      have hd := he.out
      rw [dgt_zero] at hd
      subst hd
      go_wp2
      go_ret
      exact ⟨rfl, hb⟩
theorem markText_i (x : Int) (w : World) (h1 : 1 ≤ x) (h2 : x ≤ 1099511627776) :
    Calls Tryd.prog 33 #[.int .i64 x] w fun e w' => e = .returned (.string (mtext x.toNat)) ∧ Below w.heap.size w w' := by
  obtain ⟨k, rfl⟩ : ∃ k : Nat, x = k := ⟨x.toNat, by omega⟩
  exact markText_c k w (by omega) (by omega)
/-! Rows of tags marked. -/
def markT1 (k : Int) (i : Nat) : Tag := (mtext (k + 2 * (i : Int)).toNat, mtext (k + 2 * (i : Int) + 1).toNat)
def markT (k : Int) (n : Nat) : List Tag := (List.range n).map (markT1 k)
theorem markT_len (k : Int) (n : Nat) : (markT k n).length = n := by simp [markT]
theorem markT_get (k : Int) (n i : Nat) (h : i < (markT k n).length) : (markT k n)[i] = markT1 k i := by simp [markT]
theorem markT_set (l : List Tag) (k : Int) (i : Nat) (h : i < l.length) (u : ByteArray) (h2 : i < ((markT k l.length).take i ++ l.drop i).length) :
    (((markT k l.length).take i ++ l.drop i).set i (u, ((markT k l.length).take i ++ l.drop i)[i].2)).set i (mtext (k + 2 * (i : Int)).toNat, mtext (k + 2 * (i : Int) + 1).toNat) = (markT k l.length).take (i + 1) ++ l.drop (i + 1) := by
  have hm : i < (markT k l.length).length := by rw [markT_len]; exact h
  have hl : ((markT k l.length).take i).length = i := by rw [List.length_take]; omega
  rw [List.set_set, List.set_append_right _ _ (by omega), hl, Nat.sub_self, List.take_succ_eq_append_getElem hm, markT_get, List.drop_eq_getElem_cons h, List.set_cons_zero, List.append_assoc]
  rfl
theorem set_Tag0 {e base g n cap : Nat} {ok : Nat → Prop} {W : World} {xs : List Tag} (h : kTag.R e W base ok (.slice (some ⟨g, 0, none⟩) n cap) xs) (i : Nat) (hi : i < n) (hx : i < xs.length) (x : ByteArray) :
    kTag.R e (W.setCell ⟨g, i * 2, none⟩ (.string x)) base ok (.slice (some ⟨g, 0, none⟩) n cap) (xs.set i (x, xs[i].2)) := by
  obtain ⟨c, hl, hM, hc, hf⟩ := Kd.R_elem h tag0 (i : Int) (by omega) (by omega)
  have hg : xs.getD i tag0 = xs[i] := by rw [List.getD_eq_getElem?_getD, List.getElem?_eq_getElem hx]; rfl
  simp only [Int.toNat_natCast] at hM hc hf
  rw [hg] at hM
  obtain rfl := kTag_openM hM
  exact (Kd.R_seg h (i : Int) (by omega) (by omega) (seg := [.string x]) (j := 0) hl (by simpa using hc) (show 1 ≤ 2 by decide) (x' := (x, xs[i].2)) (okp := fun k => ok k ∧ k ≠ g) (kTag_mkM _ _ _ (x, xs[i].2)) (fun _ hk => hk)).1
theorem set_Tag1 {e base g n cap : Nat} {ok : Nat → Prop} {W : World} {xs : List Tag} (h : kTag.R e W base ok (.slice (some ⟨g, 0, none⟩) n cap) xs) (i : Nat) (hi : i < n) (hx : i < xs.length) (x : ByteArray) :
    kTag.R e (W.setCell ⟨g, i * 2 + 1, none⟩ (.string x)) base ok (.slice (some ⟨g, 0, none⟩) n cap) (xs.set i (xs[i].1, x)) := by
  obtain ⟨c, hl, hM, hc, hf⟩ := Kd.R_elem h tag0 (i : Int) (by omega) (by omega)
  have hg : xs.getD i tag0 = xs[i] := by rw [List.getD_eq_getElem?_getD, List.getElem?_eq_getElem hx]; rfl
  simp only [Int.toNat_natCast] at hM hc hf
  rw [hg] at hM
  obtain rfl := kTag_openM hM
  exact (Kd.R_seg h (i : Int) (by omega) (by omega) (seg := [.string x]) (j := 1) hl (by simpa using hc) (show 2 ≤ 2 by decide) (x' := (xs[i].1, x)) (okp := fun k => ok k ∧ k ≠ g) (kTag_mkM _ _ _ (xs[i].1, x)) (fun _ hk => hk)).1
set_option maxHeartbeats 4000000 in
theorem markTagS_c (A : Option Addr) (c : Nat) (l : List Tag) (k : Int) (lo hi : Nat) (w : World) (hr : RI kTag 75 w lo hi (.slice A l.length c) l) (hn : l.length ≤ 1048576) (hk0 : 1 ≤ k) (hk1 : k ≤ 1073741824) (hhi : hi ≤ w.heap.size) (hlo : lo ≤ w.heap.size) :
    Calls Tryd.prog 35 #[.slice A l.length c, .int .i64 k] w fun e w' => e = .returned (.int .i64 (k + 2 * (l.length : Int))) ∧ RI kTag 75 w' lo hi (.slice A l.length c) (markT k l.length) ∧ Ex lo hi w w' := by
  go_enter Tryd.func35, Tryd.ntmps35
  go_wp2
  go_loopw [1, 5] (fun q i wr => ∃ j : Nat, j ≤ l.length ∧ i = .int .i64 j ∧ q = .int .i64 (k + 2 * (j : Int)) ∧ Aside0 (RI kTag 75 wr lo hi (.slice A l.length c) ((markT k l.length).take j ++ l.drop j)) ∧ Aside0 (Ex lo hi w wr)) (fun _ i _ => l.length - (intOf i).toNat)
  case atStart => exact ⟨0, by omega, rfl, by simp, ⟨by simpa using hr⟩, ⟨Ex.refl _ _ _⟩⟩
  case round =>
    obtain ⟨j, hj, rfl, rfl, ⟨hr1⟩, ⟨hx⟩⟩ := hrel
    by_cases hlt : j < l.length
    · obtain ⟨g, cap, hv, hg1, hg2, _⟩ := Kd.R_form hr (by omega)
      injection hv with e1 e2 e3
      subst e1
      clear e2 e3
      have hg3 : g < hi := hr.1 g (by rfl)
      have hjl : j < ((markT k l.length).take j ++ l.drop j).length := by simp [markT_len]; omega
      have hst := Lib.hid (markT_set l k j hlt (mtext (k + 2 * (j : Int)).toNat) hjl)
      have hlt2 : decide ((j : Int) < (l.length : Int)) = true := by simp; omega
      have hw : IntKind.i64.wrap ((j : Int) + 1) = (j : Int) + 1 := IntWalk.i64_in _ (by omega)
      have hw2 : IntKind.i64.wrap (k + 2 * (j : Int) + 1) = k + 2 * (j : Int) + 1 := IntWalk.i64_in _ (by omega)
      have hw3 : IntKind.i64.wrap (k + 2 * (j : Int) + 1 + 1) = k + 2 * ((j + 1 : Nat) : Int) := by rw [IntWalk.i64_in _ (by omega)]; omega
      have s1 := hx.1.size
      go_wp2_with fail
      refine (markText_i (k + 2 * (j : Int)) _ (by omega) (by omega)).mono ?_
      rintro e w2 ⟨rfl, hb2⟩
      have hr2 := hr1.below hb2
      obtain ⟨d0, d1, f0, f1⟩ := own_Tag hr2 j hjl
      have hr3 := set_Tag0 hr2 j hlt hjl (mtext (k + 2 * (j : Int)).toNat)
      have hx2 : Ex lo hi w (w2.setCell ⟨g, j * 2, none⟩ (.string (mtext (k + 2 * (j : Int)).toNat))) := (hx.to hb2 hlo).set hg1 hg3
      go_wp2_with fail
      refine (markText_i (k + 2 * (j : Int) + 1) _ (by omega) (by omega)).mono ?_
      rintro e w4 ⟨rfl, hb4⟩
      have hr4 := Kd.R_below hr3 hb4
      have hjl2 : j < (((markT k l.length).take j ++ l.drop j).set j (mtext (k + 2 * (j : Int)).toNat, ((markT k l.length).take j ++ l.drop j)[j].2)).length := by rw [List.length_set]; exact hjl
      clear d0 d1 f0 f1
      obtain ⟨d0, d1, f0, f1⟩ := own_Tag hr4 j hjl2
      have hr5 := set_Tag1 hr4 j hlt hjl2 (mtext (k + 2 * (j : Int) + 1).toNat)
      have e4 : (((markT k l.length).take j ++ l.drop j).set j (mtext (k + 2 * (j : Int)).toNat, ((markT k l.length).take j ++ l.drop j)[j].2))[j].1 = mtext (k + 2 * (j : Int)).toNat := by rw [List.getElem_set_self]
      rw [e4, hst.out] at hr5
      have hx4 := (hx2.to hb4 hlo).set (i := j * 2 + 1) (v := .string (mtext (k + 2 * (j : Int) + 1).toNat)) hg1 hg3
      clear hr1 hr2 hr3 hr4 e4 hx2 hx hst
      go_wp2
      exact ⟨⟨j + 1, by omega, rfl, rfl, ⟨hr5⟩, ⟨hx4⟩⟩, by simp [intOf]; omega⟩
    · have he : j = l.length := by omega
      have hlt2 : decide ((j : Int) < (l.length : Int)) = false := by simp; omega
      have hsl := Lib.hid he
      clear he
      have hr2 : RI kTag 75 wr lo hi (.slice A l.length c) (markT k l.length) := by
        have := hr1
        rw [hsl.out, List.drop_length, List.append_nil, List.take_of_length_le (by rw [markT_len]; omega)] at this
        exact this
      go_wp2
      go_ret
      exact ⟨ret_int (by rw [hsl.out]), hr2, hx⟩
def l_heldTagS_T4 : Bool × List (List Nat × List Nat) := (true, [([], []), ([], []), ([0, 1], [0, 1]), ([2], [2]), ([3], [3]), ([], []), ([5], [5]), ([4, 6], [4, 6])])
theorem l_heldTagS_t4 : rtab .any (opsOf Tryd.f37 4) = l_heldTagS_T4 := by kernel_rfl
def l_heldTagS_T7 : Bool × List (List Nat × List Nat) := (true, [([], []), ([], []), ([0, 1], [0, 1]), ([2], [2]), ([3], [3]), ([], []), ([5], [5]), ([4, 6], [4, 6])])
theorem l_heldTagS_t7 : rtab .any (opsOf Tryd.f37 7) = l_heldTagS_T7 := by kernel_rfl
set_option maxHeartbeats 4000000 in
theorem heldTagS_c (A : Option Addr) (c n : Nat) (k : Int) (w : World) (hr : kTag.C w A n (markT k n)) (hn : n ≤ 1048576) (hk0 : 1 ≤ k) (hk1 : k ≤ 1073741824) :
    Calls Tryd.prog 37 #[.slice A n c, .int .i64 k] w fun e w' => e = .returned (.int .i64 (k + 2 * (n : Int))) ∧ Below w.heap.size w w' := by
  go_enter Tryd.func37, Tryd.ntmps37
  go_wp2
  go_loopw [1, 5] (fun q i wr => ∃ j : Nat, j ≤ n ∧ i = .int .i64 j ∧ q = .int .i64 (k + 2 * (j : Int)) ∧ Aside0 (Below w.heap.size w wr)) (fun _ i _ => n - (intOf i).toNat)
  case atStart => exact ⟨0, by omega, rfl, by simp, ⟨Below.refl _ _⟩⟩
  case round =>
    obtain ⟨j, hj, rfl, rfl, ⟨hx⟩⟩ := hrel
    by_cases hlt : j < n
    · obtain ⟨ad, rfl, c0, c1⟩ := at_Tag hr j (by rw [markT_len]; exact hlt)
      rw [markT_get] at c0 c1
      replace c0 : wr.cell? (ad.add (j * 2)) = some (.string (mtext (k + 2 * (j : Int)).toNat)) := pw_cell_below (bl : Below w.heap.size w wr) c0
      replace c1 : wr.cell? ⟨(ad.add (j * 2)).block, (ad.add (j * 2)).off + 1, none⟩ = some (.string (mtext (k + 2 * (j : Int) + 1).toNat)) := pw_cell_below (bl : Below w.heap.size w wr) c1
      have hlt2 : decide ((j : Int) < (n : Int)) = true := by simp; omega
      have hw : IntKind.i64.wrap ((j : Int) + 1) = (j : Int) + 1 := IntWalk.i64_in _ (by omega)
      have hw2 : IntKind.i64.wrap (k + 2 * (j : Int) + 1) = k + 2 * (j : Int) + 1 := IntWalk.i64_in _ (by omega)
      have hw3 : IntKind.i64.wrap (k + 2 * (j : Int) + 1 + 1) = k + 2 * ((j + 1 : Nat) : Int) := by rw [IntWalk.i64_in _ (by omega)]; omega
      have t1 := strB_t (rfl : mtext (k + 2 * (j : Int)).toNat = mtext (k + 2 * (j : Int)).toNat)
      have t2 := strB_t (rfl : mtext (k + 2 * (j : Int) + 1).toNat = mtext (k + 2 * (j : Int) + 1).toNat)
      go_wp2
      refine rgStart 8 [0, 1, 2, 3, 4, 5, 6, 7] l_heldTagS_t4 (fun HT HS => ?_)
      repeat ((with_reducible refine rgGate ?_); first | refine rgP HT ?_ | refine rgL HT ?_ | refine rgG HT ?_)
      refine rgCall HT Tryd.func33 (markText_i (k + 2 * (j : Int)) _ (by omega) (by omega)) ?_
      rintro e w2 ⟨rfl, hb2⟩
      refine ⟨_, rfl, bl, rgN ?_⟩
      repeat ((with_reducible refine rgGate ?_); first | refine rgP HT ?_ | refine rgL HT ?_ | refine rgG HT ?_)
      refine rgDone HT ?_
      clear HT HS
      replace c1 := pw_cell_below (bl : Below wr.heap.size wr w2) c1
      clear c0
      go_wp2
      refine rgStart 8 [0, 1, 2, 3, 4, 5, 6, 7] l_heldTagS_t7 (fun HT HS => ?_)
      repeat ((with_reducible refine rgGate ?_); first | refine rgP HT ?_ | refine rgL HT ?_ | refine rgG HT ?_)
      refine rgCall HT Tryd.func33 (markText_i (k + 2 * (j : Int) + 1) _ (by omega) (by omega)) ?_
      rintro e w3 ⟨rfl, hb3⟩
      refine ⟨_, rfl, bl, rgN ?_⟩
      repeat ((with_reducible refine rgGate ?_); first | refine rgP HT ?_ | refine rgL HT ?_ | refine rgG HT ?_)
      refine rgDone HT ?_
      clear HT HS
      go_wp2
      exact ⟨⟨j + 1, by omega, rfl, rfl, ⟨bl⟩⟩, by simp [intOf]; omega⟩
    · have he : j = n := by omega
      have hlt2 : decide ((j : Int) < (n : Int)) = false := by simp; omega
      have hsl := Lib.hid he
      clear he
      go_wp2
      go_ret
      exact ⟨ret_int (by rw [hsl.out]), bl⟩
theorem Ex.wide {a b lo hi : Nat} {w w' : World} (h : Ex a b w w') (h1 : lo ≤ a) (h2 : b ≤ hi) : Ex lo hi w w' := ⟨h.1.mono h1, fun k hk hlt => h.2 k (Nat.le_trans h2 hk) hlt⟩
/-- A row whose elements hold no rows lies in one block at most. -/
def Tight {α : Type} (d : Kd α) (e : Nat) (W : World) (lo hi : Nat) (v : Value) (xs : List α) (a b : Nat) : Prop := lo ≤ a ∧ a ≤ b ∧ b ≤ hi ∧ b ≤ a + 1 ∧ RI d e W a b v xs ∧ (a < b → ∃ cells, W.heap[a]? = some (.cells cells e (0, 0)))
theorem tight_of {α : Type} {d : Kd α} (hM : ∀ w base base' ok ok' x cs, d.M w base ok x cs → d.M w base' ok' x cs) {e lo hi : Nat} {W : World} {v : Value} {xs : List α} (h : RI d e W lo hi v xs) (hh : lo ≤ hi) : ∃ a b, Tight d e W lo hi v xs a b := by
  obtain ⟨h1, inner, ⟨ho1, ho2⟩, hr⟩ := h
  rcases ho2 with ⟨rfl, hn⟩ | ⟨g, cap, cur, rfl, hb, hg, hnc, hcm, hcs, ht⟩
  · exact ⟨lo, lo, Nat.le_refl _, Nat.le_refl _, hh, by omega, ⟨fun k hk => by simp [Value.ownBlock] at hk, inner, ⟨ho1, .inl ⟨rfl, hn⟩⟩, hr.imp_ (fun x cs hx => hM _ _ _ _ _ _ _ hx)⟩, fun h => by omega⟩
  · have hgh : g < hi := h1 g rfl
    refine ⟨g, g + 1, hb, by omega, hgh, Nat.le_refl _, ⟨fun k hk => ?_, inner, ⟨ho1, .inr ⟨g, cap, cur, rfl, Nat.le_refl _, hg, hnc, hcm, hcs, ht⟩⟩, hr.imp_ (fun x cs hx => hM _ _ _ _ _ _ _ hx)⟩, fun _ => ⟨cur, hg⟩⟩
    have : g = k := by simpa [Value.ownBlock] using hk
    show k < g + 1
    omega
theorem tight_apart {α β : Type} {d : Kd α} {d2 : Kd β} {e e2 lo hi lo2 hi2 a b a2 b2 : Nat} {W : World} {v v2 : Value} {xs : List α} {ys : List β} (h : Tight d e W lo hi v xs a b) (h2 : Tight d2 e2 W lo2 hi2 v2 ys a2 b2) (hne : e ≠ e2) : b ≤ a2 ∨ b2 ≤ a := by
  obtain ⟨_, h3, _, h4, _, h5⟩ := h
  obtain ⟨_, k3, _, k4, _, k5⟩ := h2
  by_cases hab : a < b
  · by_cases hab2 : a2 < b2
    · obtain ⟨c, hc⟩ := h5 hab
      obtain ⟨c2, hc2⟩ := k5 hab2
      have : a ≠ a2 := blk_ne hc hc2 hne
      omega
    · omega
  · omega
end
section
open Go.RowKit Go.Proofs.YtfbhjknkofnohaaDoorW.PrintWords Go.Proofs.YtfbhjknkofnohaaDoorW.PrintLast
set_option maxRecDepth 100000
set_option linter.unusedVariables false
set_option linter.unusedSimpArgs false
attribute [local go_sem] cell_set_far cell_set_off
theorem litT1 (w : World) (x : Tag) : kTag.C (w.alloc (.cells #[.string x.1, .string x.2] 75)) (some ⟨w.heap.size, 0, none⟩) 1 [x] := by
  have h : kTag.R 75 (w.alloc (.cells #[.string x.1, .string x.2] 75)) w.heap.size (fun _ => True) (.slice (some ⟨w.heap.size, 0, none⟩) 1 1) [x] :=
    ⟨fun _ _ => trivial, [.string x.1, .string x.2], World.ownsRow_lit (base := w.heap.size) (e := 75) (size := 2) w #[.string x.1, .string x.2] 1 (Nat.le_refl _) (by decide) rfl, Reps.snoc (Reps.none _ _) (kTag_mkM _ _ _ x) rfl⟩
  exact (Kd.R_reads' h).2.2
/-- A thing in new memory, and whether. -/
def NFeatB (w : World) (r : FeatD × Bool) (e : Ending) (w' : World) : Prop := ∃ A c B d, e = .returned (.tuple #[featV r.1 A c B d, .bool r.2]) ∧ RI kPt 58 w' w.heap.size w'.heap.size (.slice A r.1.2.1.2.length c) r.1.2.1.2 ∧ RI kTag 75 w' w.heap.size w'.heap.size (.slice B r.1.2.2.length d) r.1.2.2 ∧ Below w.heap.size w w'
theorem NFeatB.no {w w' : World} (h : Below w.heap.size w w') : NFeatB w (feat0, false) (.returned (.tuple #[.agg #[.string ⟨#[]⟩, .int .i64 0, .slice none 0 0, .slice none 0 0], .bool false])) w' := ⟨none, 0, none, 0, rfl, RI.of (Kd.R_nil _ _ _ _ _), RI.of (Kd.R_nil _ _ _ _ _), h⟩
theorem fget_2 {f : FeatD} {key : ByteArray} : (fget f key).2 = true ↔ FeatOk f ∧ atK f.2.2 key ≠ none := by
  unfold fget
  split
  · rename_i h
    unfold getT
    cases hh : atK f.2.2 key <;> simp [h]
  · rename_i h
    simp [h]
/-- What the loop of a cutting keeps. -/
def CL (w : World) (f : FeatD) (A : Option Addr) (c : Nat) (B : Option Addr) (d : Nat) (g : Nat) (r : List Tag) (wr : World) : Prop := ∃ A2 c2 B2 d2, B4 wr w.heap.size 47 (.string f.1) (.int .i64 f.2.1.1) (.slice A f.2.1.2.length c) (.slice B f.2.2.length d) ∧ B4 wr (w.heap.size + 1) 47 (.string ⟨#[]⟩) (.int .i64 0) (.slice none 0 0) (.slice none 0 0) ∧
  B4 wr g 47 (.string f.1) (.int .i64 f.2.1.1) (.slice A2 f.2.1.2.length c2) (.slice B2 r.length d2) ∧ kPt.R 58 wr w.heap.size (fun _ => True) (.slice A2 f.2.1.2.length c2) f.2.1.2 ∧ kTag.R 75 wr w.heap.size (fun _ => True) (.slice B2 r.length d2) r ∧ Below w.heap.size w wr
end
section
open Go.RowKit Go.Proofs.YtfbhjknkofnohaaDoorW.PrintWords Go.Proofs.YtfbhjknkofnohaaDoorW.PrintLast
set_option maxRecDepth 100000
set_option linter.unusedVariables false
set_option linter.unusedSimpArgs false
attribute [local go_sem] cell_set_far cell_set_off
section
variable {α : Type} {d : Kd α} {P : Program} {ops : Array Oper} {Q : Exit → Act → World → Prop} {T : Bool × List (List Nat × List Nat)} {i k n fuel : Nat} {p ds : List Nat} {oi : Oper} {a : Act} {w : World} {L : List (Addr × Value)}
/-- append(xs[:j], xs[j+1:]..), alone. -/
theorem cgDel {w0 : World} {base : Nat} (t e : TypeId) (ht : P.underlying t = some (.slice e)) (hinfo : (P.info? e).map (·.size) = some d.sz) (s x : Operand) {g m c j m2 c2 : Nat} {A : Option Addr} {xs : List α} (hT : Aside0 (rtab .any ops = T)) (hC : Cells w L) (hf : ∀ x ∈ L, some x.1.block ≠ some g)
    (HO : d.R e w base (fun _ => True) (.slice (some ⟨g, 0, none⟩) m c) xs) (hj : j < m) (HB : Below base w0 w) (hbase : base ≤ w.heap.size) (hA : A = if c = j + 1 then some ⟨g, 0, none⟩ else (some (⟨g, 0, none⟩ : Addr)).map (·.add ((j + 1) * d.sz))) (hm : m2 = m - (j + 1))
    (h : ∀ w1, d.R e w1 base (fun _ => True) (.slice (some ⟨g, 0, none⟩) (m - 1) c) (xs.eraseIdx j) → Below base w0 w1 → w.grownBy w1 (some g) → Cells w1 L → wpAnyLast P .any ops Q (fun w' => Cells w' L) ds fuel (lit p (k + 1) n) (a.put oi.dst (.slice (some ⟨g, 0, none⟩) (m - 1) c)) w1)
    (hk : p[k]? = some i := by (try simp only [List.getElem?_cons_succ, List.getElem?_cons_zero]); rfl) (hi : ops[i]? = some oi := by (try simp only [List.getElem?_toArray, List.getElem?_cons_succ, List.getElem?_cons_zero]); rfl)
    (ho : oi.op = .call { callee := .builtin .append, args := #[s, x], argTypes := #[t, t] } := by rfl) (hw : Region.wanted oi (yielded ops a.tmps) = true := by rfl) (hs : a.eval s = .slice (some ⟨g, 0, none⟩) j c := by rfl) (hx : a.eval x = .slice A m2 c2 := by rfl) (hd : i ∉ ds := by decide)
    (hc : (readyT T.2 (lit p k n).toList == [i] && (lit p k n).toList.set i true == (lit p (k + 1) n).toList) = true := by kernel_rfl) : wpAnyLast P .any ops Q (fun w' => Cells w' L) ds (fuel + 1) (lit p k n) a w := by
  refine one_ (lit p (k + 1) n) hi rfl (one_of hT.out hc) hd (fun K hK => ?_)
  refine Kd.R_delete_step d (w0 := w0) base hw s x t e ho ht hinfo hs hx hA hm HO hj HB hbase ?_
  intro w1 ho1 hb1 hg1
  have hC1 := hC.grown hg1 hf
  exact hK _ _ hC1 (fun _ => h w1 ho1 hb1 hg1 hC1)
end
/-- Cells behind a row's length are set: the row stays. -/
theorem R_spare {α : Type} {d : Kd α} {e base g n c : Nat} {ok : Nat → Prop} {W : World} {xs : List α} (h : d.R e W base ok (.slice (some ⟨g, 0, none⟩) n c) xs) (o : Nat) (vs : List Value) (ho : n * d.sz ≤ o) (hl : o + vs.length ≤ c * d.sz) :
    d.R e (W.setCells g o vs) base ok (.slice (some ⟨g, 0, none⟩) n c) xs ∧ W.grownBy (W.setCells g o vs) (some g) := by
  obtain ⟨hok, inner, ⟨ho1, ho2⟩, hr⟩ := h
  rcases ho2 with ⟨hv, _⟩ | ⟨g', cap', cur, hv, hb, hh, hnc, hcm, hcs, ht⟩
  · cases hv
  injection hv with ha hn hc
  injection ha with ha
  injection ha with hg
  subst hg; subst hc
  obtain ⟨cur', h3, h4, h5⟩ := setCells_row vs o W cur hh (by omega)
  obtain ⟨s1, s2, s3, s4⟩ := setCells_same g vs o W
  have hfar : ∀ k, k ≠ g → (W.setCells g o vs).heap[k]? = W.heap[k]? := fun k hk => setCells_far vs _ k hk
  have hlen : cur.toList.length = c * d.sz := by rw [Array.length_toList, hcs]
  have hxo : xs.length * d.sz ≤ o := by rw [← hn]; exact ho
  refine ⟨⟨hok, inner, ⟨ho1, .inr ⟨g, c, cur', by rw [hn], hb, h3, hnc, hcm, by rw [h4, hcs], ?_⟩⟩, hr.imp_ (fun x cs hx => d.M_move (fun k hk => hfar k (fun e => hk.2 (by rw [e]; rfl))) hx)⟩, ⟨s1, s2, s3, by rw [s4]; exact Nat.le_refl _, fun k _ hk => hfar k (fun he => hk (by rw [he]))⟩⟩
  rw [← ht, h5, List.append_assoc, List.take_append_of_le_length (by rw [List.length_take, hlen]; omega), List.take_take, Nat.min_eq_left hxo]
theorem R_room {α : Type} {d : Kd α} {e base g n c : Nat} {ok : Nat → Prop} {W : World} {xs : List α} (h : d.R e W base ok (.slice (some ⟨g, 0, none⟩) n c) xs) (o : Nat) (ho : o < c * d.sz) : (W.cell? ⟨g, o, none⟩).isSome = true ∧ W.frozen? ⟨g, o, none⟩ = false := by
  obtain ⟨hok, inner, ⟨ho1, ho2⟩, hr⟩ := h
  rcases ho2 with ⟨hv, _⟩ | ⟨g', cap', cur, hv, hb, hh, hnc, hcm, hcs, ht⟩
  · cases hv
  injection hv with ha hn hc
  injection ha with ha
  injection ha with hg
  subst hg; subst hc
  refine ⟨?_, blk_frozen hh o⟩
  rw [blk_cell hh o, Array.getElem?_eq_getElem (by omega)]
  rfl
theorem tagBack {e lo hi g n c : Nat} {W : World} {xs : List Tag} (h : kTag.R e W lo (fun _ => True) (.slice (some ⟨g, 0, none⟩) n c) xs) (hg : g < hi) : RI kTag e W lo hi (.slice (some ⟨g, 0, none⟩) n c) xs :=
  ⟨fun k hk => by
    have : g = k := by simpa [Value.ownBlock] using hk
    show k < hi
    omega, h.2.imp_ (fun _ _ hx => hx)⟩
theorem Ex.ofGrown {lo hi g : Nat} {w w1 : World} (h : w.grownBy w1 (some g)) (h1 : lo ≤ g) (h2 : g < hi) (h3 : lo ≤ w.heap.size) : Ex lo hi w w1 :=
  ⟨(Below.refl lo w).grown h h3 (fun k e => by injection e with e; omega), fun k hk hlt => h.block k hlt (fun e => by injection e with e; omega)⟩
theorem clear2 (P : Program) (w : World) (t e ty : TypeId) (z : Array Value) (ht : P.underlying t = some (.slice e)) (hv : ∀ w, (zeroValue e).run P w = .ok (.agg z) w) (hz : ∀ v ∈ z.toList, v.oneCell' = true) (b o c : Nat)
    (hc : ∀ j, j < z.size → (w.cell? ⟨b, o + j, none⟩).isSome = true) (hf : ∀ j, j < z.size → w.frozen? ⟨b, o + j, none⟩ = false) :
    (Builtin.clear_ #[t] ty #[.slice (some ⟨b, o, none⟩) 1 c]).run P w = .ok (.tuple #[]) (w.setCells b o z.toList) := by
  have hzc : (Builtin.zeroCells (Value.agg z).cells 1).toList = z.toList := by
    simp [Builtin.zeroCells, Value.cells]
    apply List.ext_getElem
    · simp
    · intro i h1 h2
      simp at h1
      simp [Nat.mod_eq_of_lt h1, getElem!_pos z i h1]
  have hst := run_storeCells_cells (P := P) b o z.toList 0 w (by simpa using hc) (by simpa using hf) hz
  simp only [Nat.add_zero] at hst
  simp [Builtin.clear_, run_underlying ht, hv, hzc, hst]
theorem zeroTag (w : World) : (zeroValue 75).run Tryd.prog w = .ok (.agg #[.string ByteArray.empty, .string ByteArray.empty]) w := by
  have h := info_Tag
  obtain ⟨i, hi, hz⟩ := Option.map_eq_some_iff.1 h
  simp only [Prod.mk.injEq] at hz
  simp [zeroValue, typeInfo, hi, hz.1]
end
end Go.Proofs.YtfbhjknkofnohaaDoor
