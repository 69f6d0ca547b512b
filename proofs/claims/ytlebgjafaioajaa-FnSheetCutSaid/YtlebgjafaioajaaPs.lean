/- Plain: maps: what is cut and put. -/
import Derived.Test.YtlebgjafaioajaaPg
import Derived.Test.YtlebgjafaioajaaSl
namespace Go.Proofs.Ytlebgjafaioajaa
theorem featsUp_kup {l : List FeatD} (h : FeatsUp l) : KUp l := kup (fun i hi h0 => h.up i hi h0)
theorem featsUp_of {l : List FeatD} (h : KUp l) (hw : ∀ f ∈ l, FeatOk f) : FeatsUp l := fun i hi hl =>
  ⟨hw _ (List.getElem_mem hl), fun h0 => List.pairwise_iff_getElem.1 h (i - 1) i (by omega) hl (by omega)⟩
theorem featsUp_ok {l : List FeatD} (h : FeatsUp l) : ∀ f ∈ l, FeatOk f := fun f hf => by
  obtain ⟨i, hi, rfl⟩ := List.getElem_of_mem hf
  exact (h i hi hi).1
theorem sheetOk_cut {l : List FeatD} (h : SheetOk l) (id : ByteArray) : SheetOk (cutK l id) :=
  ⟨featsUp_of ((featsUp_kup h.1).cut id) (fun f hf => featsUp_ok h.1 f (List.mem_filter.1 hf).1), Nat.le_trans (cutK_le _ _) h.2⟩
theorem sheetOk_put {l : List FeatD} {f : FeatD} (h : SheetOk l) (hf : FeatOk f) (h8 : (putK l f).length ≤ 8) : SheetOk (putK l f) :=
  ⟨featsUp_of ((featsUp_kup h.1).put f) (fun g hg => by
    rcases putK_mem hg with rfl | hg
    · exact hf
    · exact featsUp_ok h.1 g hg), h8⟩
theorem sget_no {l : List FeatD} {id : ByteArray} (h : look l id = none) : sget l id = (feat0, false) := by
  rw [look_none] at h
  unfold sget
  rw [h]
  split <;> rfl
theorem sget_look {l : List FeatD} {id : ByteArray} {v : (Int × List Pt) × List Tag} (ho : SheetOk l) (h : look l id = some v) : sget l id = ((id, v), true) := by
  have h1 : atK l id ≠ none := fun e => by rw [look_none.2 e] at h; cases h
  obtain ⟨k, hk⟩ := Option.ne_none_iff_exists'.1 h1
  obtain ⟨hl, he, _⟩ := atK_is hk
  rw [look_some hk hl] at h
  injection h with h
  unfold sget
  rw [if_pos ho, hk]
  simp only [List.getD_eq_getElem?_getD, List.getElem?_eq_getElem hl, Option.getD_some]
  rw [← he, ← h]
theorem sput_yes {l : List FeatD} {f : FeatD} (h : SheetOk l) (hf : FeatOk f) (h8 : (putK l f).length ≤ 8) : sput l f = (putK l f, true) := if_pos ⟨h, hf, h8⟩
theorem scut_yes {l : List FeatD} {id : ByteArray} (h : SheetOk l) (hl : look l id ≠ none) : scut l id = (cutK l id, true) := if_pos ⟨h, fun e => hl (look_none.2 e)⟩
theorem look_in {l : List FeatD} {id : ByteArray} {v : (Int × List Pt) × List Tag} (h : look l id = some v) : (id, v) ∈ l := by
  have h1 : atK l id ≠ none := fun e => by rw [look_none.2 e] at h; cases h
  obtain ⟨k, hk⟩ := Option.ne_none_iff_exists'.1 h1
  obtain ⟨hl, he, _⟩ := atK_is hk
  rw [look_some hk hl] at h
  injection h with h
  have := List.getElem_mem hl
  rwa [show l[k] = (id, v) from by rw [← he, ← h]] at this
theorem cutS_cases (l : List FeatD) (id : ByteArray) : (scut l id = ([], false) ∧ sget l id = (feat0, false)) ∨ (∃ f, f ∈ l ∧ SheetOk l ∧ scut l id = (cutK l id, true) ∧ sget l id = (f, true) ∧ (cutK l id).length + 1 = l.length ∧ SheetOk (cutK l id) ∧ sget (cutK l id) id = (feat0, false) ∧ sput (cutK l id) f = (l, true)) := by
  by_cases h : SheetOk l
  · cases hl : look l id with
    | none => exact .inl ⟨if_neg (fun q => q.2 (look_none.1 hl)), sget_no hl⟩
    | some v =>
      have hu := featsUp_kup h.1
      have hb := cut_put hu hl
      have hm := look_in hl
      refine .inr ⟨(id, v), hm, h, scut_yes h (by rw [hl]; exact fun e => by cases e), sget_look h hl, cut_len hu hl, sheetOk_cut h id, sget_no (by rw [look_cut, if_pos rfl]), ?_⟩
      rw [sput_yes (sheetOk_cut h id) (featsUp_ok h.1 _ hm) (by rw [hb]; exact h.2), hb]
  · exact .inl ⟨if_neg (fun q => h q.1), if_neg h⟩
end Go.Proofs.Ytlebgjafaioajaa
