/- Plain: what is bent is not ok: maps. -/
import Derived.Test.YtlipjhmcgdmhlaaDoorPs
import Derived.Test.YtlipjhmcgdmhlaaDoorPb
namespace Go.Proofs.YtlipjhmcgdmhlaaDoor
set_option linter.unusedVariables false
set_option linter.unusedSimpArgs false
theorem sheet_up {l : List FeatD} (h : SheetOk l) {i j : Nat} (hij : i < j) (hj : j < l.length) : ltS (l[i]'(by omega)).1 l[j].1 = true :=
  List.pairwise_iff_getElem.1 (featsUp_kup h.1) i j (by omega) hj hij
theorem bent_twice {l : List FeatD} (h : SheetOk l) : sheetOk (l ++ l) = decide (l.length = 0) := by
  by_cases h0 : l.length = 0
  · obtain rfl : l = [] := List.length_eq_zero_iff.1 h0
    rw [decide_eq_true h0, sheetOk_t]
    exact h
  · rw [decide_eq_false h0, sheetOk_f]
    intro h2
    have h3 := sheet_up h2 (i := 0) (j := l.length) (by omega) (by simp; omega)
    rw [List.getElem_append_left (by omega), List.getElem_append_right (Nat.le_refl _)] at h3
    simp only [Nat.sub_self, ltS_irr] at h3
    cases h3
theorem bent_zz (l : List FeatD) (id : ByteArray) : sheetOk (l ++ [(id, (0, []), [])]) = false := sheetOk_f.2 fun h => by
  have h1 := featsUp_ok h.1 (id, (0, []), []) (by simp)
  rcases h1.2.1.2 with h | h | h <;> simp at h
theorem bent_rev {l : List FeatD} (h : SheetOk l) : sheetOk l.reverse = decide (l.length < 2) := by
  by_cases h0 : l.length < 2
  · rw [decide_eq_true h0, sheetOk_t]
    have : l.reverse = l := by
      match l, h0 with
      | [], _ => rfl
      | [x], _ => rfl
    rw [this]
    exact h
  · rw [decide_eq_false h0, sheetOk_f]
    intro h2
    have h3 := sheet_up h2 (i := 0) (j := 1) (by omega) (by simp; omega)
    have h4 := sheet_up h (i := l.length - 2) (j := l.length - 1) (by omega) (by omega)
    simp only [List.getElem_reverse] at h3
    have h5 := ltS_trans h3 (show ltS (l[l.length - 1 - 1]'(by omega)).1 (l[l.length - 1 - 0]'(by omega)).1 = true from h4)
    rw [ltS_irr] at h5
    cases h5
theorem bent_less {l : List FeatD} (h : SheetOk l) (i : Nat) : SheetOk (l.take i ++ l.drop (i + 1)) := by
  have hs : List.Sublist (l.take i ++ l.drop (i + 1)) l := by
    conv => rhs; rw [← List.take_append_drop i l]
    exact List.Sublist.append (List.Sublist.refl _) (List.drop_sublist_drop_left l (Nat.le_succ i))
  exact ⟨featsUp_of ((featsUp_kup h.1).sublist hs) (fun f hf => featsUp_ok h.1 f (hs.subset hf)), Nat.le_trans hs.length_le h.2⟩
end Go.Proofs.YtlipjhmcgdmhlaaDoor
