/- Plain: what is bent is not ok: things, shapes. -/
import Derived.Test.YtlipjhmcgdmhlaaDoorFp
namespace Go.Proofs.YtlipjhmcgdmhlaaDoor
set_option linter.unusedVariables false
set_option linter.unusedSimpArgs false
theorem word_A : ¬ WordOk ⟨#[65]⟩ := fun h => by
  have h1 := (h.2 0 (by decide) (by decide)).1
  revert h1
  decide
theorem bent_id (x : (Int × List Pt) × List Tag) : featOk (⟨#[65]⟩, x) = false := featOk_f.2 fun h => word_A h.1
theorem bent_two (id : ByteArray) (x : Int × List Pt) (l : List Tag) (k u v : ByteArray) : featOk (id, x, l ++ [(k, u), (k, v)]) = false := featOk_f.2 fun h => by
  have h1 := (h.2.2.1 (l.length + 1) (by simp) (by simp)).2.2 (by omega)
  simp only [Nat.add_sub_cancel, List.getElem_append_right (Nat.le_refl l.length), List.getElem_append_right (Nat.le_succ l.length), Nat.sub_self, Nat.add_sub_cancel_left, Nat.succ_eq_add_one, List.getElem_cons_zero, List.getElem_cons_succ] at h1
  have h2 : ltS k k = true := h1
  rw [ltS_irr] at h2
  cases h2
theorem bent_many (id : ByteArray) (x : Int × List Pt) (l : List Tag) (h : 4 < l.length) : featOk (id, x, l) = false := featOk_f.2 fun h2 => by
  have h3 : l.length ≤ 4 := h2.2.2.2
  omega
theorem bent_x {K : Int} {l : List Pt} {i : Nat} (h : i < l.length) (y : Int) : shapeOk K (l.set i (1001, y)) = false := shapeOk_f.2 fun h2 => by
  have h1 := (h2.1 i (by simpa using h) (by simpa using h)).1
  rw [List.getElem_set_self] at h1
  revert h1
  simp [ptOk, inB]
theorem bent_last {K : Int} {l : List Pt} (h0 : 0 < l.length) : shapeOk K (l ++ [l[l.length - 1]]) = false := shapeOk_f.2 fun h2 => by
  have h1 := (h2.1 l.length (by simp) (by simp)).2 h0
  apply h1
  rw [List.getElem_append_left (by omega), List.getElem_append_right (Nat.le_refl _)]
  simp
theorem bent_kind (l : List Pt) : shapeOk 4 l = false := shapeOk_f.2 fun h => by
  rcases h.2 with h | h | h <;> omega
theorem bent_ring {l : List Pt} (h0 : 0 < l.length) : shapeOk 3 (l ++ [l[0]]) = false := shapeOk_f.2 fun h => by
  rcases h.2 with h | h | h
  · omega
  · omega
  · apply h.2.2.2
    rw [List.getElem?_append_left h0]
    simp
end Go.Proofs.YtlipjhmcgdmhlaaDoor
