/- Contracts: tags put, the sort of tags, FeatPut. -/
import Derived.Test.YtfbhjknkofnohaaDoorFp
import Derived.Test.YtfbhjknkofnohaaDoorFh
namespace Go.Proofs.YtfbhjknkofnohaaDoor
section
open Go.RowKit Go.Proofs.YtfbhjknkofnohaaDoorW.PrintWords Go.Proofs.YtfbhjknkofnohaaDoorW.PrintLast
set_option maxRecDepth 100000
set_option linter.unusedVariables false
set_option linter.unusedSimpArgs false
/-- append(v, x) of one element without rows inside, where the order is the text's. -/
theorem appOne {α : Type} {d : Kd α} {P : Program} {ops : Array Oper} {rest : List Oper} {o : Oper} {a : Act} {Q : Exit → Act → World → Prop} {w0 W : World} {base : Nat} (t e : TypeId) (z : Value) (bytes : Nat) (ht : P.underlying t = some (.slice e)) (hinfo : (P.info? e).map (fun i => (i.zero, i.size, i.bytes)) = some (some z, d.sz, bytes)) (hz : z.cells.size = d.sz) (hs0 : 0 < d.sz) (hb0 : 0 < bytes)
    (s x : Operand) (v : Value) (xs : List α) (p : α) (cs : List Value) (hp : d.M W base (fun _ => False) p cs)
    (HO : d.R e W base (fun _ => True) v xs) (HB : Below base w0 W) (hbase : base ≤ W.heap.size) (hl : (xs.length + 1) * bytes ≤ 140737488355328)
    (h : ∀ A' c' w1, d.R e w1 base (fun _ => True) (.slice A' (xs ++ [p]).length c') (xs ++ [p]) → Below base w0 w1 → W.grownBy w1 v.ownBlock → wpList P ops Q rest (a.put o.dst (.slice A' (xs ++ [p]).length c')) w1)
    (hgd : o.guard = none := by rfl) (ho : o.op = .call { callee := .builtin .append, args := #[s, x], argTypes := #[t, t] } := by rfl) (hs : a.eval s = v := by rfl) (hx : a.eval x = .slice (some ⟨W.heap.size, 0, none⟩) 1 1 := by rfl) :
    wpList P ops Q (o :: rest) a (W.alloc (.cells cs.toArray e)) := by
  refine Kd.R_append d (w0 := w0) base hgd s x t e z bytes ho ht hinfo hz hs0 hb0 v xs p cs (fun _ => True) (fun _ => False) hs hx hp (fun _ hk => hk.elim) (fun _ _ => trivial) HO HB hbase hl ?_
  intro v1 w1 ho1 hb1 hg1 _
  obtain ⟨A', c', rfl⟩ := Kd.R_slice ho1
  exact h A' c' w1 ho1 hb1 hg1
abbrev z0Tag : Value := .agg #[(.string ByteArray.empty), (.string ByteArray.empty)]
/-- What the loop of a putting keeps. -/
def PL (w : World) (x : Tag) (l : List Tag) (k : Nat) (B : Option Addr) (d : Nat) (wr : World) : Prop :=
  kTag.R 75 wr w.heap.size (fun _ => True) (.slice B (putS x (l.take k)).1.length d) (putS x (l.take k)).1 ∧ Below w.heap.size w wr
/-- A row of tags in new memory. -/
def NTags (w : World) (l : List Tag) (e : Ending) (w' : World) : Prop := ∃ B d, e = .returned (.slice B l.length d) ∧ RI kTag 75 w' w.heap.size w'.heap.size (.slice B l.length d) l ∧ Below w.heap.size w w'
end
section
open Go.RowKit Go.Proofs.YtfbhjknkofnohaaDoorW.PrintWords Go.Proofs.YtfbhjknkofnohaaDoorW.PrintLast
set_option maxRecDepth 100000
set_option linter.unusedVariables false
set_option linter.unusedSimpArgs false
/-- How two texts stand. -/
def cmpS (x y : ByteArray) : Int := if ltS x y = true then -1 else if ltS y x = true then 1 else 0
theorem cmpS_lt (x y : ByteArray) : decide (cmpS x y < 0) = ltS x y := by
  unfold cmpS
  cases h : ltS x y with
  | true => simp
  | false => cases h2 : ltS y x <;> simp
end
section
open Go.RowKit Go.Proofs.YtfbhjknkofnohaaDoorW.PrintWords Go.Proofs.YtfbhjknkofnohaaDoorW.PrintLast
set_option maxRecDepth 100000
set_option linter.unusedVariables false
set_option linter.unusedSimpArgs false
section
variable {P : Program} {ops : Array Oper} {Q : Exit → Act → World → Prop} {S : World → Prop} {T : Bool × List (List Nat × List Nat)} {i k n fuel : Nat} {p : List Nat} {oi : Oper} {a : Act} {w : World}
/-- A function value without captured variables called, where it alone may come up. -/
theorem rgCallV {f : FuncId} {fn : Func} {c : Operand} {av : Array Operand} {ts : Array TypeId} {args : Array Value} {R : Ending → World → Prop} (hT : Aside0 (rtab .any ops = T)) (hf : P.funcs[f]? = some fn) (hcall : Calls P f args w R)
    (h : ∀ e w', R e w' → ∃ v, e = .returned v ∧ S w' ∧ wpAnyLast P .any ops Q S [] fuel (lit p (k + 1) n) (a.put oi.dst v) w')
    (hk : p[k]? = some i := by (try simp only [List.getElem?_cons_succ, List.getElem?_cons_zero]); rfl) (hi : ops[i]? = some oi := by (try simp only [List.getElem?_toArray, List.getElem?_cons_succ, List.getElem?_cons_zero]); rfl) (hop : oi.op = .call { callee := .value c, args := av, argTypes := ts } := by rfl) (hcv : a.eval c = .func (.func f) #[] #[] := by rfl) (hc : (readyT T.2 (lit p k n).toList == [i] && (lit p k n).toList.set i true == (lit p (k + 1) n).toList) = true := by kernel_rfl)
    (hw : Region.wanted oi (yielded ops a.tmps) = true := by rfl) (hargs : av.map a.eval = args := by ((try simp only [List.map_toArray, List.map_cons, List.map_nil]); first | done | rfl))
    (hname : (fn.name == "runtime.NumGoroutine") = false := by kernel_rfl) (hb : fn.body.isSome = true := by rfl) : wpAnyLast P .any ops Q S [] (fuel + 1) (lit p k n) a w := by
  refine one_ (lit p (k + 1) n) hi rfl (one_of hT.out hc) (by simp) (fun K hK => ?_)
  refine call_ f args hw rfl ?_ (hcall.mono fun e w' hr => ?_)
  · have he := enters_ hf hname hb args w
    unfold execOp
    simp [hop, resolve, Deferred.ofValue, hcv, invoke, hargs, he]
  · obtain ⟨v, rfl, hs, hk⟩ := h e w' hr
    exact ⟨v, rfl, hK _ _ hs (fun _ => hk)⟩
end
section
variable {α : Type}
/-- Where the sort's inner walk stands: round i, place j, the last one now at q. -/
def InsI (m p i j q : Nat) : Prop := (i < m ∧ q = m ∧ j = i) ∨ (i = m ∧ q = j ∧ p ≤ j ∧ j ≤ m)
theorem ins_step {l : List (ByteArray × α)} {x : ByteArray × α} {p : Nat} (hu : KUp l) (h1 : ∀ i, (hi : i < l.length) → i < p → ltS l[i].1 x.1 = true) (h2 : ∀ i, (hi : i < l.length) → p ≤ i → ltS x.1 l[i].1 = true)
    {i j q : Nat} (H : InsI l.length p i j q) (hj : 0 < j) : ∃ u v, (insK l x q)[j]? = some u ∧ (insK l x q)[j - 1]? = some v ∧
      (ltS u.1 v.1 = true → InsI l.length p i (j - 1) (j - 1) ∧ ((insK l x q).set j v).set (j - 1) u = insK l x (j - 1)) ∧ (ltS u.1 v.1 = false → (i < l.length ∧ q = l.length) ∨ (i = l.length ∧ q = p)) := by
  rcases H with ⟨a, rfl, rfl⟩ | ⟨rfl, rfl, b, c⟩
  · have hlt : ltS l[j - 1].1 l[j].1 = true := List.pairwise_iff_getElem.1 hu (j - 1) j (by omega) a (by omega)
    refine ⟨l[j], l[j - 1], ?_, ?_, fun h => ?_, fun _ => .inl ⟨a, rfl⟩⟩
    · rw [insK_get _ _ _ _ (Nat.le_refl _), if_pos a, List.getElem?_eq_getElem a]
    · rw [insK_get _ _ _ _ (Nat.le_refl _), if_pos (by omega), List.getElem?_eq_getElem (by omega)]
    · rw [ltS_asymm hlt] at h; cases h
  · have hj1 : q - 1 < l.length := by omega
    refine ⟨x, l[q - 1], ?_, ?_, fun h => ⟨.inr ⟨rfl, rfl, ?_, by omega⟩, ?_⟩, fun h => .inr ⟨rfl, ?_⟩⟩
    · rw [insK_get _ _ _ _ c, if_neg (by omega), if_pos rfl]
    · rw [insK_get _ _ _ _ c, if_pos (by omega), List.getElem?_eq_getElem hj1]
    · rcases Nat.lt_or_ge (q - 1) p with hp | hp
      · rw [ltS_asymm (h1 _ hj1 hp)] at h; cases h
      · exact hp
    · have := insK_swap l x (q - 1) hj1
      rw [show q - 1 + 1 = q by omega] at this
      exact this
    · rcases Nat.lt_or_ge (q - 1) p with hp | hp
      · omega
      · rw [h2 _ hj1 hp] at h; cases h
end
end
section
open Go.RowKit Go.Proofs.YtfbhjknkofnohaaDoorW.PrintWords Go.Proofs.YtfbhjknkofnohaaDoorW.PrintLast
set_option maxRecDepth 100000
set_option linter.unusedVariables false
set_option linter.unusedSimpArgs false
attribute [local go_sem] cell_set_far cell_set_off
end
section
open Go.RowKit Go.Proofs.YtfbhjknkofnohaaDoorW.PrintWords Go.Proofs.YtfbhjknkofnohaaDoorW.PrintLast
set_option maxRecDepth 100000
set_option linter.unusedVariables false
set_option linter.unusedSimpArgs false
attribute [local go_sem] cell_set_far cell_set_off
/-- The thing that a putting makes, ahead of the test. -/
abbrev fput0 (f : FeatD) (key val : ByteArray) : FeatD := (f.1, f.2.1, putK f.2.2 (key, val))
theorem putK_mem {α : Type} {l : List (ByteArray × α)} {x t : ByteArray × α} (h : t ∈ putK l x) : t = x ∨ t ∈ l := by
  rw [putK_eq] at h
  induction l with
  | nil => simp [putR] at h; exact .inl h
  | cons u l ih =>
    rw [putR] at h
    split at h
    · rcases List.mem_cons.1 h with h | h
      · exact .inr (h ▸ List.mem_cons_self)
      · rcases ih h with h | h
        · exact .inl h
        · exact .inr (List.mem_cons_of_mem _ h)
    · rcases List.mem_cons.1 h with h | h
      · exact .inl h
      · exact .inr (List.mem_filter.1 h).1
theorem ftx_put {f : FeatD} {key val : ByteArray} (hF : FTx f) (ho : FeatOk f) (hk : key.size ≤ 140737488351232) (hv : val.size ≤ 140737488351232) : FTx (fput0 f key val) := by
  refine ⟨hF.id, hF.pts, ?_, fun t ht => ?_⟩
  · have h1 := ho.2.2.2
    have h2 := putK_le f.2.2 (key, val)
    exact Nat.le_trans h2 (by have : f.2.2.length ≤ 4 := h1; omega)
  · rcases putK_mem ht with rfl | ht
    · exact ⟨hk, hv⟩
    · exact hF.txt t ht
theorem fput_no {f : FeatD} {key val : ByteArray} (h : ¬ (FeatOk f ∧ FeatOk (fput0 f key val))) : fput f key val = (feat0, false) := if_neg h
theorem fput_yes {f : FeatD} {key val : ByteArray} (h : FeatOk f ∧ FeatOk (fput0 f key val)) : fput f key val = (fput0 f key val, true) := if_pos h
end
section
open Go.RowKit Go.Proofs.YtfbhjknkofnohaaDoorW.PrintWords Go.Proofs.YtfbhjknkofnohaaDoorW.PrintLast
set_option maxRecDepth 100000
set_option linter.unusedVariables false
set_option linter.unusedSimpArgs false
attribute [local go_sem] cell_set_far cell_set_off
theorem Tight.ne {α : Type} {d : Kd α} {e lo hi a b g t : Nat} {W : World} {v : Value} {xs : List α} {cs : Array Value} (h : Tight d e W lo hi v xs a b) (hg : W.heap[g]? = some (.cells cs t (0, 0))) (ht : e ≠ t) : g < a ∨ b ≤ g := by
  obtain ⟨_, h3, _, h4, _, h5⟩ := h
  by_cases hab : a < b
  · obtain ⟨c, hc⟩ := h5 hab
    have : a ≠ g := blk_ne hc hg ht
    omega
  · omega
theorem B4.exb {W W1 : World} {b lo hi : Nat} {t : TypeId} {p q r s : Value} (h : B4 W b t p q r s) (hx : Ex lo hi W W1) (hf : b < lo ∨ hi ≤ b) : B4 W1 b t p q r s := by
  have : W1.heap[b]? = W.heap[b]? := by
    rcases hf with h1 | h1
    · exact hx.1.block _ h1
    · exact hx.2 _ h1 h.lt
  unfold B4 at h ⊢
  rw [this, h]
end
end Go.Proofs.YtfbhjknkofnohaaDoor
