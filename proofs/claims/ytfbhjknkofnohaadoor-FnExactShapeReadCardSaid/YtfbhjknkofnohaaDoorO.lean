/- Arguments opened: what can be read as data of a type is a value of its kind, no longer than the reach. -/
import Derived.Test.YtfbhjknkofnohaaDoorV
import Derived.SizedLaws
import Derived.ChangeArms
import Derived.Deep.Slices
import Derived.ProofKit
namespace Go.Proofs.YtfbhjknkofnohaaDoor
open Go.RowKit Go.Proofs.YtfbhjknkofnohaaDoorW.PrintWords Go.Proofs.YtfbhjknkofnohaaDoorW.PrintLast
set_option maxRecDepth 100000
set_option linter.unusedVariables false
set_option linter.unusedSimpArgs false
/-- Type t opens as d; F: what is known of the data. -/
structure Op {α : Type} (P : Program) (t : TypeId) (d : Kd α) (F : α → Prop) : Prop where
  open_ : ∀ {H : Type} {enc : TypeId × Value → H} {w : World} {base : Nat} {spare : Nat → Bool} {held : Bool} {fuel : Nat} {cs : List Value} {x : DataW H × List MemPlace},
    DataW.trod enc P w base spare held fuel t cs = some x → (x.1.weights P t).all (· ≤ reachBytes) = true → ∃ a, d.K w a cs ∧ F a
section
variable {P : Program} {t e : TypeId} {α β γ : Type} {d : Kd α} {d1 : Kd β} {d2 : Kd γ} {F : α → Prop} {F1 : β → Prop} {F2 : γ → Prop}
theorem Op.int {k : IntKind} (ht : P.underlying t = some (.int k)) : Op P t (Kd.int k) (fun n => (Lit.int k n).wf = true) := ⟨fun h _ => by
  obtain ⟨n, rfl, rfl, hw⟩ := DataW.trod_int ht h
  exact ⟨n, rfl, hw⟩⟩
theorem Op.string (ht : P.underlying t = some .string) : Op P t Kd.string (fun s => s.size ≤ 140737488351232) := ⟨fun h hw => by
  obtain ⟨s, rfl, rfl, hs⟩ := DataW.trod_string ht h
  refine ⟨s, rfl, ?_⟩
  have h2 := List.all_eq_true.1 hw s.data.toList.length (by simp [DataW.weights])
  have h3 : s.data.toList.length ≤ reachBytes := by simpa using h2
  unfold reachBytes at h3
  simpa using h3⟩
theorem Op.slice {B : Nat} (o : Op P e d F) (ht : P.underlying t = some (.slice e)) (hc : P.cellsOf e = d.sz) (hB : P.bytesOf e = B) : Op P t (Kd.slice e d) (fun l => l.length * B ≤ 140737488351232 ∧ ∀ a ∈ l, F a) := ⟨fun {H enc w base spare held fuel cs x} h hw => by
  rcases DataW.trod_slice ht h with ⟨rfl, rfl⟩ | ⟨a, len, cap, elems, rest, n, _, rfl, rfl, hb, hl, hm, hlen, hel, _, _⟩
  · exact ⟨[], ⟨none, 0, rfl, Nat.le_refl _, Kd.C_nil d w⟩, by simp, by simp⟩
  · simp only [DataW.weights, ht, List.all_cons, Bool.and_eq_true, decide_eq_true_eq, List.all_append, List.length_map] at hw
    obtain ⟨hw1, hw2, _⟩ := hw
    have hwe : ∀ (l : List (DataW H)), (DataW.weightsAll P e l).all (· ≤ reachBytes) = true → ∀ y ∈ l, (y.weights P e).all (· ≤ reachBytes) = true := by
      intro l
      induction l with
      | nil => intro _ y hy; cases hy
      | cons z l ih =>
        intro hz y hy
        rw [DataW.weightsAll, List.all_append, Bool.and_eq_true] at hz
        rcases List.mem_cons.1 hy with rfl | hy
        · exact hz.1
        · exact ih hz.2 y hy
    have key : ∀ i : Fin len, ∃ p : α, F p ∧ ∃ c, c.length = d.sz ∧ d.K w p c ∧ ∀ j u, c[j]? = some u → w.cell? (a.add (i.1 * d.sz + j)) = some u := by
      intro i
      have h1 := hel i.1 i.2
      have hi : i.1 < elems.length := by have := i.2; omega
      rw [List.getElem?_eq_getElem hi] at h1
      cases hcs : w.cells? base (a.add (i.1 * P.cellsOf e)) (P.cellsOf e) with
      | none => rw [hcs] at h1; cases h1
      | some c =>
        rw [hcs] at h1
        obtain ⟨p, hp, hF⟩ := o.open_ h1 (hwe _ hw2 _ (List.mem_map.2 ⟨elems[i.1], List.getElem_mem hi, rfl⟩))
        obtain ⟨_, hcl, hat⟩ := World.cells?_some hcs
        refine ⟨p, hF, c, d.K_len hp, hp, fun j u hu => ?_⟩
        have hj : j < c.length := (List.getElem?_eq_some_iff.1 hu).1
        have := hat j (by omega)
        rw [hu, hc] at this
        rwa [← Go.Deep.add_add]
    refine ⟨List.ofFn fun i => Classical.choose (key i), ⟨some a, cap, by rw [List.length_ofFn], by rw [List.length_ofFn]; exact hl, ?_⟩, ?_, ?_⟩
    · rw [List.length_ofFn]
      refine ⟨List.length_ofFn, by unfold maxLen at hm; omega, fun _ => ⟨a, rfl, fun j p hj => ?_⟩⟩
      rw [List.getElem?_ofFn] at hj
      split at hj
      · rename_i hjl
        injection hj with hj
        subst hj
        exact (Classical.choose_spec (key ⟨j, hjl⟩)).2
      · cases hj
    · rw [List.length_ofFn, ← hlen, ← hB]
      unfold reachBytes at hw1
      exact Nat.le_trans (Nat.mul_le_mul_right _ (Nat.le_add_right _ _)) hw1
    · intro y hy
      obtain ⟨i, rfl⟩ := List.mem_ofFn.1 hy
      exact (Classical.choose_spec (key i)).1⟩
theorem Op.iso {f : β → α} {g : α → β} (o : Op P t d F) (hf : ∀ a, f (g a) = a) : Op P t (Kd.iso d f) (fun b => F (f b)) := ⟨fun h hw => by
  obtain ⟨a, hK, hF⟩ := o.open_ h hw
  exact ⟨g a, by show d.K _ (f (g a)) _; rw [hf]; exact hK, by rw [hf]; exact hF⟩⟩
theorem Op.pair {f0 f1 : Field} (ht : P.underlying t = some (.struct #[f0, f1])) (o0 : Op P f0.type d F) (o1 : Op P f1.type d1 F1) (h0 : f0.offset = 0) (h1 : f1.offset = d.sz) (c0 : P.cellsOf f0.type = d.sz) (c1 : P.cellsOf f1.type = d1.sz) (hC : P.cellsOf t = d.sz + d1.sz) :
    Op P t (Kd.pair d d1) (fun p => F p.1 ∧ F1 p.2) := ⟨fun {H enc w base spare held fuel cs x} h hw => by
  obtain ⟨xs, n, _, rfl, hl, hx, hf⟩ := DataW.trod_struct ht h
  match xs, hx with
  | [y0, y1], _ =>
    have g0 := hf 0 f0 rfl
    have g1 := hf 1 f1 rfl
    simp only [DataW.weights, ht] at hw
    have w0 := List.all_eq_true.2 (fun n hn => List.all_eq_true.1 hw n (DataW.weights_mem_each (j := 0) (t := f0.type) (d := y0.1) rfl rfl n hn))
    have w1 := List.all_eq_true.2 (fun n hn => List.all_eq_true.1 hw n (DataW.weights_mem_each (j := 1) (t := f1.type) (d := y1.1) rfl rfl n hn))
    rw [h0, c0] at g0
    rw [h1, c1] at g1
    obtain ⟨a, hK, hF⟩ := o0.open_ g0 w0
    obtain ⟨b, hK1, hF1⟩ := o1.open_ g1 w1
    refine ⟨(a, b), ⟨_, _, ?_, hK, hK1⟩, hF, hF1⟩
    rw [List.drop_zero]
    have : (cs.drop d.sz).take d1.sz = cs.drop d.sz := List.take_of_length_le (by rw [List.length_drop]; omega)
    rw [this, List.take_append_drop]⟩
theorem Op.trip {f0 f1 f2 : Field} (ht : P.underlying t = some (.struct #[f0, f1, f2])) (o0 : Op P f0.type d F) (o1 : Op P f1.type d1 F1) (o2 : Op P f2.type d2 F2) (h0 : f0.offset = 0) (h1 : f1.offset = d.sz) (h2 : f2.offset = d.sz + d1.sz)
    (c0 : P.cellsOf f0.type = d.sz) (c1 : P.cellsOf f1.type = d1.sz) (c2 : P.cellsOf f2.type = d2.sz) (hC : P.cellsOf t = d.sz + (d1.sz + d2.sz)) :
    Op P t (Kd.pair d (Kd.pair d1 d2)) (fun p => F p.1 ∧ F1 p.2.1 ∧ F2 p.2.2) := ⟨fun {H enc w base spare held fuel cs x} h hw => by
  obtain ⟨xs, n, _, rfl, hl, hx, hf⟩ := DataW.trod_struct ht h
  match xs, hx with
  | [y0, y1, y2], _ =>
    have g0 := hf 0 f0 rfl
    have g1 := hf 1 f1 rfl
    have g2 := hf 2 f2 rfl
    simp only [DataW.weights, ht] at hw
    have w0 := List.all_eq_true.2 (fun n hn => List.all_eq_true.1 hw n (DataW.weights_mem_each (j := 0) (t := f0.type) (d := y0.1) rfl rfl n hn))
    have w1 := List.all_eq_true.2 (fun n hn => List.all_eq_true.1 hw n (DataW.weights_mem_each (j := 1) (t := f1.type) (d := y1.1) rfl rfl n hn))
    have w2 := List.all_eq_true.2 (fun n hn => List.all_eq_true.1 hw n (DataW.weights_mem_each (j := 2) (t := f2.type) (d := y2.1) rfl rfl n hn))
    rw [h0, c0] at g0
    rw [h1, c1] at g1
    rw [h2, c2] at g2
    obtain ⟨a, hK, hF⟩ := o0.open_ g0 w0
    obtain ⟨b, hK1, hF1⟩ := o1.open_ g1 w1
    obtain ⟨c, hK2, hF2⟩ := o2.open_ g2 w2
    refine ⟨(a, b, c), ⟨_, _, ?_, hK, _, _, rfl, hK1, hK2⟩, hF, hF1, hF2⟩
    rw [List.drop_zero]
    have e2 : (cs.drop (d.sz + d1.sz)).take d2.sz = cs.drop (d.sz + d1.sz) := List.take_of_length_le (by rw [List.length_drop]; omega)
    have e1 : (cs.drop d.sz).take d1.sz ++ cs.drop (d.sz + d1.sz) = cs.drop d.sz := by rw [← List.drop_drop, List.take_append_drop]
    rw [e2, e1, List.take_append_drop]⟩
/-- An argument of a call, opened. -/
theorem Op.arg {H : Type} {enc : TypeId × Value → H} {w : World} {base : Nat} {spare : Nat → Bool} {held : Bool} {v : Value} {dd : DataW H} {ps : List MemPlace} {ts : List TypeId} {ds : List (DataW H)} (o : Op P t d F) (j : Nat)
    (hsz : (DataW.weightsEach P ts ds).all (· ≤ reachBytes) = true) (ht : ts[j]? = some t) (hd : ds[j]? = some dd) (h : DataW.Trod enc P w base spare held t v dd ps) : ∃ a, d.K w a v.cells.toList ∧ F a := by
  obtain ⟨fuel, hf⟩ := h
  exact o.open_ hf (List.all_eq_true.2 fun n hn => List.all_eq_true.1 hsz n (DataW.weights_mem_each ht hd n hn))
end
/-! The types of the laws' arguments. -/
def FPt (p : Pt) : Prop := (Lit.int .i64 p.1).wf = true ∧ (Lit.int .i64 p.2).wf = true
def FPts (l : List Pt) : Prop := l.length * 16 ≤ 140737488351232 ∧ ∀ a ∈ l, FPt a
section
variable {H : Type} {enc : TypeId × Value → H} {w : World} {base b0 : Nat} {r : Reach} {spare : Nat → Bool} {held : Bool} {v : Value} {dd : DataW H} {ps : List MemPlace} {ts : List TypeId} {ds : List (DataW H)}
open Go.WideShapes
theorem open_Int (j : Nat) (hsz : (DataW.weightsEach Tryd.prog ts ds).all (· ≤ reachBytes) = true) (ht : ts[j]? = some 3) (hd : ds[j]? = some dd) (hv : Value.okWide Tryd.prog w r b0 3 v) (h : DataW.Trod enc Tryd.prog w base spare held 3 v dd ps) :
    ∃ n : Int, v = .int .i64 n ∧ (Lit.int .i64 n).wf = true := by
  obtain ⟨n, rfl, _, _, hw⟩ := Go.ChangeShapes.open_int Tryd.underlying3 hv h
  exact ⟨n, rfl, hw⟩
theorem open_Str (j : Nat) (hsz : (DataW.weightsEach Tryd.prog ts ds).all (· ≤ reachBytes) = true) (ht : ts[j]? = some 9) (hd : ds[j]? = some dd) (hv : Value.okWide Tryd.prog w r b0 9 v) (h : DataW.Trod enc Tryd.prog w base spare held 9 v dd ps) :
    ∃ s : ByteArray, v = .string s ∧ s.size ≤ 140737488351232 := by
  obtain ⟨s, rfl, rfl, rfl, _⟩ := Go.ChangeMaps.open_string Tryd.underlying9 hv h
  have z := sized_string hsz ht hd
  rw [Array.length_toList] at z
  exact ⟨s, rfl, z⟩
theorem oBytes : Op Tryd.prog 35 (Kd.slice 5 (Kd.int .u8)) (fun l => l.length * 1 ≤ 140737488351232 ∧ ∀ a ∈ l, (Lit.int .u8 a).wf = true) := Op.slice (B := 1) (Op.int Tryd.underlying5) Tryd.underlying35 (by kernel_rfl) (by kernel_rfl)
theorem open_Bytes (j : Nat) (hsz : (DataW.weightsEach Tryd.prog ts ds).all (· ≤ reachBytes) = true) (ht : ts[j]? = some 35) (hd : ds[j]? = some dd) (hv : Value.okWide Tryd.prog w r b0 35 v) (h : DataW.Trod enc Tryd.prog w base spare held 35 v dd ps) :
    ∃ (A : Option Addr) (c : Nat) (l : List Int), v = .slice A l.length c ∧ (Kd.int .u8).C w A l.length l ∧ (l.length : Int) ≤ 140737488351232 ∧ (∀ a ∈ l, 0 ≤ a ∧ a ≤ 255) ∧ l.length ≤ c := by
  obtain ⟨A, len, c, rfl⟩ := okWide_slice Tryd.underlying35 hv
  obtain ⟨l, ⟨A', c', hcs, hle, hC⟩, hF, hw⟩ := oBytes.arg j hsz ht hd h
  have hcs : [Value.slice A len c] = [Value.slice A' l.length c'] := hcs
  injection hcs with hcs
  injection hcs with e1 e2 e3
  subst e1; subst e2; subst e3
  refine ⟨A, c, l, rfl, hC, by omega, fun a ha => ?_, hle⟩
  have := hw a ha
  simp only [Lit.wf, Bool.and_eq_true, decide_eq_true_eq] at this
  exact this
end
end Go.Proofs.YtfbhjknkofnohaaDoor
