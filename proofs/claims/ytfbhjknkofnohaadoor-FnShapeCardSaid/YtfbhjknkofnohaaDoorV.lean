/- Vocabulary: kinds of values, rows in an interval of blocks, what a call keeps; drawn regions that read. -/
import Derived.Test.YtfbhjknkofnohaaDoorProg
import Derived.Test.YtfbhjknkofnohaaDoorWTab
import Derived.Test.YtfbhjknkofnohaaDoorWEqStruct
import Derived.WalkKit
import Derived.IntWalk
import Derived.Lib.Hide
namespace Go.Proofs.YtfbhjknkofnohaaDoor
section
open Go.RowKit Go.Proofs.YtfbhjknkofnohaaDoorW.PrintWords Go.Proofs.YtfbhjknkofnohaaDoorW.PrintLast
set_option linter.unusedVariables false
set_option linter.unusedSimpArgs false

theorem ret_int {k : IntKind} {a b : Int} (h : a = b) : Ending.returned (.int k a) = .returned (.int k b) := by rw [h]
theorem ret_bool {a b : Bool} (h : a = b) : Ending.returned (.bool a) = .returned (.bool b) := by rw [h]
abbrev Pt := Int × Int
/-- Equality told as a Bool that the walk doesn't open. -/
def eqB {α : Type} [DecidableEq α] (x y : α) : Bool := decide (x = y)
theorem eqB_t {α : Type} [DecidableEq α] {x y : α} : eqB x y = true ↔ x = y := by simp [eqB]
theorem eqB_f {α : Type} [DecidableEq α] {x y : α} : eqB x y = false ↔ x ≠ y := by simp [eqB]
abbrev kPt : Kd Pt := Kd.pair (Kd.int .i64) (Kd.int .i64)
theorem kPt_open {w : World} {x : Pt} {cs : List Value} (h : kPt.K w x cs) : cs = [.int .i64 x.1, .int .i64 x.2] := by
  obtain ⟨_, _, rfl, rfl, rfl⟩ := h
  exact rfl
theorem kPt_openM {w : World} {base : Nat} {ok : Nat → Prop} {x : Pt} {cs : List Value} (h : kPt.M w base ok x cs) : cs = [.int .i64 x.1, .int .i64 x.2] := by
  obtain ⟨_, _, rfl, rfl, rfl⟩ := h
  exact rfl
theorem kPt_mkM (w : World) (base : Nat) (ok : Nat → Prop) (x : Pt) : kPt.M w base ok x [.int .i64 x.1, .int .i64 x.2] := ⟨[.int .i64 x.1], [.int .i64 x.2], rfl, rfl, rfl⟩
theorem kPt_mk (w : World) (x : Pt) : kPt.K w x [.int .i64 x.1, .int .i64 x.2] := ⟨[.int .i64 x.1], [.int .i64 x.2], rfl, rfl, rfl⟩
/-- An element of a row of points that is read. -/
theorem at_Pt {w : World} {A : Option Addr} {n : Nat} {xs : List Pt} (h : kPt.C w A n xs) (i : Nat) (h1 : i < xs.length) : ∃ ad, A = some ad ∧ w.cell? (ad.add (i * 2)) = some (.int .i64 xs[i].1) ∧ w.cell? ⟨(ad.add (i * 2)).block, (ad.add (i * 2)).off + 1, none⟩ = some (.int .i64 xs[i].2) := by
  obtain ⟨ad, c, e, hl, hK, hc⟩ := Kd.C_get h (0, 0) (i : Int) (by omega) (by have := h.1; omega)
  have hg : xs.getD i (0, 0) = xs[i] := by rw [List.getD_eq_getElem?_getD, List.getElem?_eq_getElem h1]; rfl
  simp only [Int.toNat_natCast] at hK hc
  rw [hg] at hK
  obtain rfl := kPt_open hK
  exact ⟨ad, e, hc 0 _ rfl, by rw [← add_field _ _ 1 (by omega)]; exact hc 1 _ rfl⟩
theorem add_zero' (ad : Addr) : ad.add 0 = ad := by unfold Addr.add; split <;> simp_all
theorem at_Pt0 {w : World} {A : Option Addr} {n : Nat} {xs : List Pt} (h : kPt.C w A n xs) (h1 : 0 < xs.length) : ∃ ad, A = some ad ∧ w.cell? ad = some (.int .i64 xs[0].1) ∧ w.cell? ⟨ad.block, ad.off + 1, none⟩ = some (.int .i64 xs[0].2) := by
  obtain ⟨ad, e, c0, c1⟩ := at_Pt h 0 h1
  rw [Nat.zero_mul, add_zero'] at c0 c1
  exact ⟨ad, e, c0, c1⟩
/-- An element of a row of points of one's own. -/
theorem own_Pt {e base g n cap : Nat} {ok : Nat → Prop} {W : World} {xs : List Pt} (h : kPt.R e W base ok (.slice (some ⟨g, 0, none⟩) n cap) xs) (i : Nat) (hi : i < xs.length) :
    W.cell? ⟨g, i * 2, none⟩ = some (.int .i64 xs[i].1) ∧ W.cell? ⟨g, i * 2 + 1, none⟩ = some (.int .i64 xs[i].2) ∧ W.frozen? ⟨g, i * 2, none⟩ = false ∧ W.frozen? ⟨g, i * 2 + 1, none⟩ = false := by
  have hn := (Kd.R_reads' h).1
  obtain ⟨c, hl, hM, hc, hf⟩ := Kd.R_elem h (0, 0) (i : Int) (by omega) (by omega)
  have hg : xs.getD i (0, 0) = xs[i] := by rw [List.getD_eq_getElem?_getD, List.getElem?_eq_getElem hi]; rfl
  simp only [Int.toNat_natCast] at hM hc hf
  rw [hg] at hM
  obtain rfl := kPt_openM hM
  exact ⟨hc 0 _ rfl, hc 1 _ rfl, hf 0, hf 1⟩
theorem own_Pt' {e base g n cap : Nat} {ok : Nat → Prop} {W : World} {xs : List Pt} (h : kPt.R e W base ok (.slice (some ⟨g, 0, none⟩) n cap) xs) (i : Nat) (hi : i < n) :
    ∃ u v, W.cell? ⟨g, i * 2, none⟩ = some u ∧ W.cell? ⟨g, i * 2 + 1, none⟩ = some v ∧ W.frozen? ⟨g, i * 2, none⟩ = false ∧ W.frozen? ⟨g, i * 2 + 1, none⟩ = false := by
  have hn := (Kd.R_reads' h).1
  exact ⟨_, _, own_Pt h i (by omega)⟩
theorem set_Pt {e base g n cap : Nat} {ok : Nat → Prop} {W : World} {xs : List Pt} (h : kPt.R e W base ok (.slice (some ⟨g, 0, none⟩) n cap) xs) (i : Nat) (hi : i < n) (x y : Int) :
    kPt.R e ((W.setCell ⟨g, i * 2, none⟩ (.int .i64 x)).setCell ⟨g, i * 2 + 1, none⟩ (.int .i64 y)) base ok (.slice (some ⟨g, 0, none⟩) n cap) (xs.set i (x, y)) ∧
      W.grownBy ((W.setCell ⟨g, i * 2, none⟩ (.int .i64 x)).setCell ⟨g, i * 2 + 1, none⟩ (.int .i64 y)) (some g) := by
  obtain ⟨c, hl, hM, hc, hf⟩ := Kd.R_elem h (0, 0) (i : Int) (by omega) (by omega)
  have hl2 : c.length = 2 := hl
  have he : c.take 0 ++ [Value.int .i64 x, .int .i64 y] ++ c.drop (0 + 2) = [.int .i64 x, .int .i64 y] := by rw [List.drop_of_length_le (by omega)]; rfl
  exact Kd.R_seg h (i : Int) (by omega) (by omega) (seg := [.int .i64 x, .int .i64 y]) (j := 0) hl hc (show 2 ≤ 2 by decide) (x' := (x, y)) (okp := fun k => ok k ∧ k ≠ g) (by
    show kPt.M W base _ (x, y) (c.take 0 ++ [Value.int .i64 x, .int .i64 y] ++ c.drop (0 + 2))
    rw [he]; exact kPt_mkM _ _ _ (x, y)) (fun _ hk => hk)
/-- The form of a row that has a block. -/
theorem R_formed {α : Type} {d : Kd α} {e base B : Nat} {ok : Nat → Prop} {W : World} {v : Value} {xs : List α} (h : d.R e W base ok v xs) (hv : ∃ b, v.ownBlock = some b ∧ B ≤ b) :
    ∃ g cap, v = .slice (some ⟨g, 0, none⟩) xs.length cap ∧ B ≤ g := by
  obtain ⟨b, hb, hB⟩ := hv
  obtain ⟨_, inner, ho, _⟩ := h
  rcases ho.2 with ⟨rfl, _⟩ | ⟨g, cap, cur, rfl, _⟩
  · simp [Value.ownBlock] at hb
  · have : g = b := by simpa [Value.ownBlock] using hb
    subst this
    exact ⟨g, cap, rfl, hB⟩
theorem fill_set {α : Type} (l : List α) (z : α) (k : Nat) (h : k < l.length) : (l.take k ++ List.replicate (l.length - k) z).set k l[k] = l.take (k + 1) ++ List.replicate (l.length - (k + 1)) z := by
  have e : l.length - k = (l.length - (k + 1)) + 1 := by omega
  have hl : (l.take k).length = k := by rw [List.length_take]; omega
  rw [e, List.replicate_succ, List.set_append_right _ _ (by omega), List.take_succ_eq_append_getElem h, hl, Nat.sub_self, List.set_cons_zero, List.append_assoc]
  rfl
/-- An inequality of sizes of heaps. -/
theorem sz {p : Prop} (h : p := by first | omega | (simp; done) | (simp; omega) | (simp only [World.size_alloc, World.size_setCell, World.size_drew] at *; omega)) : p := h
/-- What was there is as it was: new blocks, draws, stores into new blocks, calls. -/
theorem bl {w W : World} (h : Below w.heap.size w W := by repeat (with_reducible first | exact Below.refl _ _ | assumption | apply below_alloc | apply pw_below_drewN | apply below_drew1 | refine below_set ?_ sz | refine below_step ?_ (by assumption))) : Below w.heap.size w W := h
/-- A row of one's own (elements of type e) whose blocks lie from lo on, below hi. -/
def RI {α : Type} (d : Kd α) (e : Nat) (W : World) (lo hi : Nat) (v : Value) (xs : List α) : Prop := d.R e W lo (fun k => k < hi) v xs
section
variable {α : Type} {d : Kd α} {e lo hi lo' hi' : Nat} {w W W1 : World} {v : Value} {xs : List α}
theorem RI.of (h : d.R e W lo (fun _ => True) v xs) : RI d e W lo W.heap.size v xs := Kd.R_mono (Kd.R_bound h) (fun _ hk => hk.2.2.1)
theorem RI.wide (h : RI d e W lo hi v xs) (a : lo' ≤ lo) (b : hi ≤ hi') : RI d e W lo' hi' v xs := Kd.R_lower (Kd.R_mono h (fun _ hk => Nat.lt_of_lt_of_le hk b)) a
theorem RI.far (h : RI d e W lo hi v xs) {p : Addr} (hp : p.block < lo ∨ hi ≤ p.block) (u : Value) : RI d e (W.setCell p u) lo hi v xs :=
  Kd.R_mono (Kd.R_far (p := p) (Kd.R_bound h) (fun k hk => by have := hk.1; have := hk.2.1; omega) u) (fun _ hk => hk.1)
theorem RI.alloc (h : RI d e W lo hi v xs) (o : Obj) : RI d e (W.alloc o) lo hi v xs := Kd.R_below h (below_alloc (Below.refl _ _) o)
theorem RI.drew (h : RI d e W lo hi v xs) : RI d e W.drew lo hi v xs := Kd.R_below h (below_drew1 (Below.refl _ _))
theorem RI.drewN (h : RI d e W lo hi v xs) (n : Nat) : RI d e (W.drewN n) lo hi v xs := Kd.R_below h (pw_below_drewN (Below.refl _ _) n)
theorem RI.below (h : RI d e W lo hi v xs) (hb : Below W.heap.size W W1) : RI d e W1 lo hi v xs := Kd.R_below h hb
theorem RI.form (h : RI d e W lo hi v xs) : ∃ A c, v = .slice A xs.length c ∧ xs.length ≤ c ∧ d.C W A xs.length xs := Kd.R_reads h
theorem RI.rd {A : Option Addr} {n c : Nat} (h : RI d e W lo hi (.slice A n c) xs) : n = xs.length ∧ n ≤ c ∧ d.C W A xs.length xs := Kd.R_reads' h
/-- The same row in a later world. -/
theorem rk (h : RI d e W lo hi v xs) (t : RI d e W lo hi v xs → RI d e W1 lo hi v xs := by intro h_; repeat (with_reducible first | exact h_ | refine RI.alloc ?_ _ | refine RI.drew ?_ | refine RI.drewN ?_ _ | refine RI.far ?_ sz _ | refine RI.below ?_ (by assumption)))
    (a : lo' ≤ lo := by exact sz) (b : hi ≤ hi' := by exact sz) : RI d e W1 lo' hi' v xs := (t h).wide a b
end
theorem bcell {w w1 : World} (hb : Below w.heap.size w w1) : (∀ b o, b < w.heap.size → w1.cell? ⟨b, o, none⟩ = w.cell? ⟨b, o, none⟩) ∧ (∀ b o, b < w.heap.size → w1.frozen? ⟨b, o, none⟩ = w.frozen? ⟨b, o, none⟩) :=
  ⟨fun b o h => hb.cell (p := ⟨b, o, none⟩) h, fun b o h => hb.frozen (p := ⟨b, o, none⟩) h⟩
/-- The same for the first n blocks behind an elder world. -/
theorem bcn {w W w1 : World} (n : Nat) (hb : Below W.heap.size W w1) (hz : w.heap.size + n ≤ W.heap.size := by exact sz) :
    (∀ b o, b < w.heap.size + n → w1.cell? ⟨b, o, none⟩ = W.cell? ⟨b, o, none⟩) ∧ (∀ b o, b < w.heap.size + n → w1.frozen? ⟨b, o, none⟩ = W.frozen? ⟨b, o, none⟩) ∧ w.heap.size + n ≤ w1.heap.size :=
  ⟨fun b o h => (bcell hb).1 b o (Nat.lt_of_lt_of_le h hz), fun b o h => (bcell hb).2 b o (Nat.lt_of_lt_of_le h hz), Nat.le_trans hz hb.size⟩
/-- What a later world reads: as before, where there was a cell. -/
theorem bcellS {w w1 : World} (hb : Below w.heap.size w w1) : (∀ p, (w.cell? p).isSome = true → w1.cell? p = w.cell? p) ∧ (∀ p, (w.cell? p).isSome = true → w1.frozen? p = w.frozen? p) := by
  have key : ∀ p, (w.cell? p).isSome = true → p.block < w.heap.size := fun p h => by
    obtain ⟨v, hv⟩ := Option.isSome_iff_exists.1 h
    exact World.block_lt_of_cell? w p hv
  exact ⟨fun p h => hb.cell (key p h), fun p h => hb.frozen (key p h)⟩
/-- A cell that is there is there behind a new block. -/
theorem cell_alloc_some {w : World} {p : Addr} (o : Obj) (h : (w.cell? p).isSome = true) : (w.alloc o).cell? p = w.cell? p := by
  obtain ⟨v, hv⟩ := Option.isSome_iff_exists.1 h
  rw [hv]
  exact pw_cell_below bl hv
attribute [go_sem] cell_alloc_some
/-- Cells that hold known values: carried to a later world in one step. -/
def Cells (W : World) : List (Addr × Value) → Prop
  | [] => True
  | x :: r => W.cell? x.1 = some x.2 ∧ Cells W r
theorem Cells.to {w W : World} : ∀ {L : List (Addr × Value)}, Cells w L → Below w.heap.size w W → Cells W L
  | [], _, _ => trivial
  | _ :: _, h, hb => ⟨pw_cell_below hb h.1, h.2.to hb⟩
/-- A cell of a block that was new. -/
theorem cbn {w W : World} {cs : Array Value} {t : TypeId} {v : Value} (j : Nat) (h : Below (w.alloc (.cells cs t)).heap.size (w.alloc (.cells cs t)) W) (e : cs[j]? = some v) : W.cell? ⟨w.heap.size, j, none⟩ = some v := by
  refine pw_cell_below h ?_
  rw [blk_cell (blk_new w _) j]
  exact e
theorem Cells.box {w W : World} {u v : Value} {t : TypeId} {L : List (Addr × Value)} (h : Cells w L) (hb : Below (w.alloc (.cells #[u, v] t)).heap.size (w.alloc (.cells #[u, v] t)) W) : Cells W ((⟨w.heap.size, 0, none⟩, u) :: (⟨w.heap.size, 1, none⟩, v) :: L) :=
  ⟨cbn 0 hb rfl, cbn 1 hb rfl, h.to (below_then (below_alloc (Below.refl _ _) _) (by simp) hb)⟩
theorem Cells.all {w : World} {L : List (Addr × Value)} (h : Cells w L) : Cells w L := h
theorem Cells.nil (w : World) : Cells w [] := trivial
set_option maxRecDepth 100000 in
/-- == of two points. -/
theorem eqPtOp (d : Nat) (w : World) (x0 y0 : Int) (x1 y1 : Int) : (Op.equalIn (d + 2) 58 (.agg #[.int .i64 x0, .int .i64 x1]) (.agg #[.int .i64 y0, .int .i64 y1])).run Tryd.prog w = .ok (eqB (x0, x1) (y0, y1)) w := by
  have : (Op.equalIn (d + 2) 58 (.agg #[.int .i64 x0, .int .i64 x1]) (.agg #[.int .i64 y0, .int .i64 y1])).run Tryd.prog w = .ok (x0 == y0 && (x1 == y1)) w := by
    refine eqA_of Tryd.underlying58 (by kernel_rfl) ?_
    refine eqf_cons (by rfl) (by go_simp; rfl) (by go_simp; rfl) (by go_simp) ?_
    exact eqf_last (by rfl) (by go_simp; rfl) (by go_simp; rfl) (by go_simp)
  rw [this]
  congr 1
  rw [Bool.eq_iff_iff]
  simp [eqB]
end
section
open Go.RowKit Go.Proofs.YtfbhjknkofnohaaDoorW.PrintWords Go.Proofs.YtfbhjknkofnohaaDoorW.PrintLast
set_option linter.unusedVariables false
set_option linter.unusedSimpArgs false
/-- Of n operations the first k of the order p have come up. -/
def lit (p : List Nat) (k n : Nat) : Array Bool := ((List.range n).map fun j => (p.take k).contains j).toArray
section
variable {P : Program} {ops : Array Oper} {Q : Exit → Act → World → Prop} {S : World → Prop} {T : Bool × List (List Nat × List Nat)} {i k n fuel : Nat} {p : List Nat} {oi : Oper} {v : Value} {a a' : Act} {w : World}
theorem rgStart {id : Nat} (n : Nat) (p : List Nat) (hT : rtab .any ops = T) (h : Aside0 (rtab .any ops = T) → Aside0 (Below w.heap.size w w.drew) → wpAnyLast P .any ops Q (fun w' => Below w.heap.size w w') [] n (lit p 0 n) a w.drew)
    (hm : P.follows .mixedOrders = true := by kernel_rfl) (hn : ops.size = n := by rfl) (hl : Array.replicate n false = lit p 0 n := by rfl) : (Code.region id ops true).wp P Q a w :=
  start_ (lit p 0 n) hm hn hl (below_drew1 (Below.refl _ _)) (fun hs => h ⟨hT⟩ ⟨hs⟩)
/-- One step: an operation that yields in every world; in every later world (S: 'what was there is as it was'); one that its guard doesn't want. -/
theorem rgP (hT : Aside0 (rtab .any ops = T)) (h : wpAnyLast P .any ops Q S [] fuel (lit p (k + 1) n) a' w) (hk : p[k]? = some i := by (try simp only [List.getElem?_cons_succ, List.getElem?_cons_zero]); rfl) (hi : ops[i]? = some oi := by (try simp only [List.getElem?_toArray, List.getElem?_cons_succ, List.getElem?_cons_zero]); rfl) (hw : Region.wanted oi (yielded ops a.tmps) = true := by rfl) (hy : ∀ w', (execOp a.eval oi).run P w' = .ok (.value v) w' := by intro w'; go_simp; with_reducible rfl)
    (ha : a.put oi.dst v = a' := by simp only [Act.put, List.setIfInBounds_toArray, List.set_cons_zero, List.set_cons_succ]; rfl) (hc : anyT T (lit p k n).toList (lit p (k + 1) n).toList i = true := by kernel_rfl) (hQ : ∀ c a w, Q (.panic c) (a.put oi.dst v) w → Q (.panic c) a w := by exact fun _ _ _ h => h) : wpAnyLast P .any ops Q S [] (fuel + 1) (lit p k n) a w :=
  pure_ (lit p (k + 1) n) hi rfl (any_of hT.out hc) hQ (Or.inl ⟨hw, hy⟩) ha h
theorem rgG (hT : Aside0 (rtab .any ops = T)) (h : wpAnyLast P .any ops Q S [] fuel (lit p (k + 1) n) a' w) (hk : p[k]? = some i := by (try simp only [List.getElem?_cons_succ, List.getElem?_cons_zero]); rfl) (hi : ops[i]? = some oi := by (try simp only [List.getElem?_toArray, List.getElem?_cons_succ, List.getElem?_cons_zero]); rfl) (hw : Region.wanted oi (yielded ops a.tmps) = false := by rfl)
    (ha : a.put oi.dst undef = a' := by simp only [Act.put, List.setIfInBounds_toArray, List.set_cons_zero, List.set_cons_succ]; rfl) (hc : anyT T (lit p k n).toList (lit p (k + 1) n).toList i = true := by kernel_rfl) (hQ : ∀ c a w, Q (.panic c) (a.put oi.dst undef) w → Q (.panic c) a w := by exact fun _ _ _ h => h) : wpAnyLast P .any ops Q S [] (fuel + 1) (lit p k n) a w :=
  pure_ (lit p (k + 1) n) hi rfl (any_of hT.out hc) hQ (Or.inr ⟨hw, rfl⟩) ha h
theorem rgL {W : World} (hT : Aside0 (rtab .any ops = T)) (h : wpAnyLast P .any ops Q (fun w' => Below W.heap.size W w') [] fuel (lit p (k + 1) n) a' w) (hS : Below W.heap.size W w := by exact bl) (hk : p[k]? = some i := by (try simp only [List.getElem?_cons_succ, List.getElem?_cons_zero]); rfl) (hi : ops[i]? = some oi := by (try simp only [List.getElem?_toArray, List.getElem?_cons_succ, List.getElem?_cons_zero]); rfl) (hw : Region.wanted oi (yielded ops a.tmps) = true := by rfl)
    (hy : ∀ w', Below W.heap.size W w' → (execOp a.eval oi).run P w' = .ok (.value v) w' := by intro w' hS_; obtain ⟨h1_, h2_⟩ := bcellS hS_; go_simp; with_reducible rfl)
    (ha : a.put oi.dst v = a' := by simp only [Act.put, List.setIfInBounds_toArray, List.set_cons_zero, List.set_cons_succ]; rfl) (hc : takeT T [] (lit p k n).toList (lit p (k + 1) n).toList i = true := by kernel_rfl) (hQ : ∀ c a w, Q (.panic c) (a.put oi.dst v) w → Q (.panic c) a w := by exact fun _ _ _ h => h) : wpAnyLast P .any ops Q (fun w' => Below W.heap.size W w') [] (fuel + 1) (lit p k n) a w :=
  take_ (lit p (k + 1) n) hi rfl (take_of hT.out hc) hQ (Or.inl ⟨hw, hy⟩) hS ha h
theorem rgGate {md : Region.Mode} {ds : List Nat} {l : Array Bool} (h : wpAnyLast P md ops Q S ds (fuel + 1) l a w) : wpAnyLast P md ops Q S ds (fuel + 1) l a w := h
/-- The act written out. -/
theorem rgN {l : Array Bool} (h : wpAnyLast P .any ops Q S [] fuel l a' w) (ha : a = a' := by simp only [Act.put, List.setIfInBounds_toArray, List.set_cons_zero, List.set_cons_succ]; rfl) : wpAnyLast P .any ops Q S [] fuel l a w := norm_ ha h
/-- A call of a Go function, by its contract, where it alone may come up. -/
theorem rgCall {f : FuncId} {fn : Func} {av : Array Operand} {ts : Array TypeId} {args : Array Value} {R : Ending → World → Prop} (hT : Aside0 (rtab .any ops = T)) (hf : P.funcs[f]? = some fn) (hcall : Calls P f args w R)
    (h : ∀ e w', R e w' → ∃ v, e = .returned v ∧ S w' ∧ wpAnyLast P .any ops Q S [] fuel (lit p (k + 1) n) (a.put oi.dst v) w')
    (hk : p[k]? = some i := by (try simp only [List.getElem?_cons_succ, List.getElem?_cons_zero]); rfl) (hi : ops[i]? = some oi := by (try simp only [List.getElem?_toArray, List.getElem?_cons_succ, List.getElem?_cons_zero]); rfl) (hop : oi.op = .call { callee := .value (.func f), args := av, argTypes := ts } := by rfl) (hc : (readyT T.2 (lit p k n).toList == [i] && (lit p k n).toList.set i true == (lit p (k + 1) n).toList) = true := by kernel_rfl)
    (hw : Region.wanted oi (yielded ops a.tmps) = true := by rfl) (hargs : av.map a.eval = args := by ((try simp only [List.map_toArray, List.map_cons, List.map_nil]); first | done | rfl))
    (hname : (fn.name == "runtime.NumGoroutine") = false := by kernel_rfl) (hb : fn.body.isSome = true := by rfl) : wpAnyLast P .any ops Q S [] (fuel + 1) (lit p k n) a w := by
  refine one_ (lit p (k + 1) n) hi rfl (one_of hT.out hc) (by simp) (fun K hK => ?_)
  refine goes_ hf hname hb args hw rfl hop hargs (hcall.mono fun e w' hr => ?_)
  obtain ⟨v, rfl, hs, hk⟩ := h e w' hr
  exact ⟨v, rfl, hK _ _ hs (fun _ => hk)⟩
/-- An operation that makes memory (alone may it come up); one that stores. -/
theorem rgE {w1 : World} (hT : Aside0 (rtab .any ops = T)) (h : wpAnyLast P .any ops Q S [] fuel (lit p (k + 1) n) a' w1) (hk : p[k]? = some i := by (try simp only [List.getElem?_cons_succ, List.getElem?_cons_zero]); rfl) (hi : ops[i]? = some oi := by (try simp only [List.getElem?_toArray, List.getElem?_cons_succ, List.getElem?_cons_zero]); rfl) (hw : Region.wanted oi (yielded ops a.tmps) = true := by rfl) (hrun : (execOp a.eval oi).run P w = .ok (.value v) w1 := by go_simp; exact ⟨rfl, rfl⟩)
    (ha : a.put oi.dst v = a' := by simp only [Act.put, List.setIfInBounds_toArray, List.set_cons_zero, List.set_cons_succ]; rfl) (hS : S w1 := by exact bl) (hc : (readyT T.2 (lit p k n).toList == [i] && (lit p k n).toList.set i true == (lit p (k + 1) n).toList) = true := by kernel_rfl) : wpAnyLast P .any ops Q S [] (fuel + 1) (lit p k n) a w := by
  refine one_ (lit p (k + 1) n) hi rfl (one_of hT.out hc) (by simp) (fun K hK => event_step hw hrun (hK _ _ hS (fun _ => ?_)))
  rw [ha]
  exact h
theorem rgSt {w1 : World} (hT : Aside0 (rtab .any ops = T)) (h : wpAnyLast P .any ops Q S [] fuel (lit p (k + 1) n) a w1) (hk : p[k]? = some i := by (try simp only [List.getElem?_cons_succ, List.getElem?_cons_zero]); rfl) (hi : ops[i]? = some oi := by (try simp only [List.getElem?_toArray, List.getElem?_cons_succ, List.getElem?_cons_zero]); rfl) (hw : Region.wanted oi (yielded ops a.tmps) = true := by rfl) (hrun : (execOp a.eval oi).run P w = .ok .skip w1 := by first | (go_simp; done) | (go_simp; with_reducible rfl))
    (hd : oi.dst = none := by rfl) (hS : S w1 := by exact bl) (hc : (readyT T.2 (lit p k n).toList == [i] && (lit p k n).toList.set i true == (lit p (k + 1) n).toList) = true := by kernel_rfl) : wpAnyLast P .any ops Q S [] (fuel + 1) (lit p k n) a w := by
  refine one_ (lit p (k + 1) n) hi rfl (one_of hT.out hc) (by simp) (fun K hK => ?_)
  rw [if_pos hw]
  unfold Oper.wp
  rw [hrun]
  show K (a.put oi.dst undef) w1
  rw [hd]
  exact hK _ _ hS (fun _ => h)
theorem rgDone (hT : Aside0 (rtab .any ops = T)) (h : Q .normal a w) (hc : (readyT T.2 (lit p n n).toList == []) = true := by kernel_rfl) : wpAnyLast P .any ops Q S [] i (lit p n n) a w := done_ (done_of hT.out hc) h
end
end
end Go.Proofs.YtfbhjknkofnohaaDoor
