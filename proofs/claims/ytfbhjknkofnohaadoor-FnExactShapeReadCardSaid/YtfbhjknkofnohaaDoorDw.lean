/- Contracts: what is drawn: texts, things. -/
import Derived.Test.YtfbhjknkofnohaaDoorDt
import Derived.Test.YtfbhjknkofnohaaDoorFm
namespace Go.Proofs.YtfbhjknkofnohaaDoor
open Go.RowKit Go.Proofs.YtfbhjknkofnohaaDoorW.PrintWords Go.Proofs.YtfbhjknkofnohaaDoorW.PrintLast
set_option maxRecDepth 100000
set_option linter.unusedVariables false
set_option linter.unusedSimpArgs false
attribute [local go_sem] cell_set_far cell_set_off
/-- A list of texts, written out. -/
theorem litStrs (w : World) (t : TypeId) (xs : List ByteArray) (hn : xs.length ≤ 1000) : Kd.string.C (w.alloc (.cells (xs.map Value.string).toArray t)) (some ⟨w.heap.size, 0, none⟩) xs.length xs := by
  refine ⟨rfl, by omega, fun _ => ⟨_, rfl, fun j p hj => ⟨[.string p], rfl, rfl, fun i u hu => ?_⟩⟩⟩
  cases i with
  | zero =>
    obtain rfl : Value.string p = u := by simpa using hu
    have : (⟨w.heap.size, 0, none⟩ : Addr).add (j * Kd.string.sz + 0) = ⟨w.heap.size, j, none⟩ := by
      have e : j * Kd.string.sz + 0 = j := by show j * 1 + 0 = j; omega
      rw [e]; unfold Addr.add; split <;> simp_all
    rw [this, blk_cell (blk_new w _) j]
    simp [hj]
  | succ i => simp at hu
theorem of_d (b g N c : Nat) (lst : List ByteArray) (w0 w : World) (R : Rdr w0 w b N) (hN : N ≤ 1073741824) (hg : b < g) (hC : Kd.string.C w (some ⟨g, 0, none⟩) lst.length lst) (h1 : 1 ≤ lst.length) (hm : lst.length ≤ 1000) :
    Calls Tryd.prog 51 #[.pointer (some ⟨b, 0, none⟩), .slice (some ⟨g, 0, none⟩) lst.length c] w fun e w' => ∃ v, v ∈ lst ∧ e = .returned (.string v) ∧ Rdr w0 w' b (N + 1) ∧ Ex b (b + 1) w w' := by
  go_enter Tryd.func51, Tryd.ntmps51
  go_wp2_with fail
  refine (pick_d b N _ w0 _ R hN).mono ?_
  rintro e w1 ⟨v, rfl, hv0, hv1, R1, hx⟩
  obtain ⟨j, rfl⟩ : ∃ j : Nat, v = j := ⟨v.toNat, by omega⟩
  have hj : j < lst.length := by have := hv1 (by omega); omega
  clear hv0 hv1
  obtain ⟨ad, c, e, hlc, hK, hc⟩ := Kd.C_get hC ByteArray.empty (j : Int) (by omega) (by omega)
  have hgd : lst.getD j ByteArray.empty = lst[j] := by rw [List.getD_eq_getElem?_getD, List.getElem?_eq_getElem hj]; rfl
  simp only [Int.toNat_natCast] at hK hc
  rw [hgd] at hK
  cases e
  obtain rfl : c = [.string lst[j]] := hK
  have c0 := hx.cell (hc 0 _ rfl) (Or.inr (by unfold Addr.add; split <;> simp <;> omega))
  have c1 : w1.cell? (Addr.add ⟨g, 0, none⟩ j) = some (.string lst[j]) := by simpa [Kd.string, Kd.scalar] using c0
  have c2 : w1.cell? ⟨g, j, none⟩ = some (.string lst[j]) := by
    have e : (Addr.add ⟨g, 0, none⟩ j) = ⟨g, j, none⟩ := by unfold Addr.add; split <;> simp_all
    rwa [e] at c1
  clear c0 hc hlc hgd c1
  go_wp2
  go_ret
  exact ⟨lst[j], List.getElem_mem hj, rfl, R1, hx⟩
/-- A drawn text. -/
def DStr (w0 w : World) (b N : Nat) (e : Ending) (w' : World) : Prop := ∃ s : ByteArray, e = .returned (.string s) ∧ s.size ≤ 10 ∧ Rdr w0 w' b (N + 1) ∧ Ex b (b + 1) w w'
/-- A small thing. -/
structure FSm (n : Nat) (f : FeatD) : Prop where
  id : f.1.size ≤ 10
  pts : f.2.1.2.length ≤ 16
  tags : f.2.2.length ≤ n
  txt : ∀ t ∈ f.2.2, t.1.size ≤ 10 ∧ t.2.size ≤ 10
theorem FSm.ftx {n : Nat} {f : FeatD} (h : FSm n f) (hn : n ≤ 100) : FTx f := ⟨by have := h.id; omega, by have := h.pts; omega, by have := h.tags; omega, fun t ht => by have := h.txt t ht; omega⟩
/-- A drawn thing: its rows lie in new memory. -/
def DFeat (w0 w : World) (b N n : Nat) (e : Ending) (w' : World) : Prop := ∃ (f : FeatD) (A : Option Addr) (c : Nat) (B : Option Addr) (d : Nat), e = .returned (featV f A c B d) ∧ RI kPt 58 w' w.heap.size w'.heap.size (.slice A f.2.1.2.length c) f.2.1.2 ∧ RI kTag 75 w' w.heap.size w'.heap.size (.slice B f.2.2.length d) f.2.2 ∧ FSm n f ∧ Rdr w0 w' b N ∧ Ex b (b + 1) w w'
/-- What the loop of l2Feat keeps: block g1 is the result's, block g2 the thing's. -/
structure LF (w0 w : World) (b M : Nat) (id : ByteArray) (K : Int) (A : Option Addr) (c : Nat) (l : List Pt) (g1 g2 : Nat) (B : Option Addr) (d n : Nat) (m : List Tag) (wr : World) : Prop where
  thing : B4 wr g2 47 (.string id) (.int .i64 K) (.slice A l.length c) (.slice B n d)
  res : B4 wr g1 47 (.string ⟨#[]⟩) (.int .i64 0) (.slice none 0 0) (.slice none 0 0)
  pts : kPt.R 58 wr w.heap.size (fun _ => True) (.slice A l.length c) l
  tags : kTag.R 75 wr w.heap.size (fun _ => True) (.slice B n d) m
  rdr : Rdr w0 wr b M
  ex : Ex b (b + 1) w wr
  txt : ∀ t ∈ m, t.1.size ≤ 10 ∧ t.2.size ≤ 10
  len : n = m.length
end Go.Proofs.YtfbhjknkofnohaaDoor
