/- Plain: a thing's text with one word more: read just if the word is a further tag's. -/
import Derived.Test.YtgdgnlpohnpgiaaDoorFz
import Derived.Test.YtgdgnlpohnpgiaaDoorRh
namespace Go.Proofs.YtgdgnlpohnpgiaaDoor
open Go Go.RowKit
set_option linter.unusedVariables false
set_option linter.unusedSimpArgs false
theorem words_more {f : FeatD} (h : FeatOk f) {w : List UInt8} (hw : (32 : UInt8) ∉ w) {s : ByteArray} (e : bts s = bts (fullT f) ++ 32 :: w) : splitL 32 (bts s) = wordsF f ++ [w] := by
  rw [e, fullT_words, ← joinL_snoc 32 w (by simp [wordsF]), split_join _ (by simp)]
  intro u hu
  rcases List.mem_append.1 hu with hu | hu
  · exact wordsF_32 h u hu
  · rw [List.mem_singleton] at hu
    rw [hu]
    exact hw
theorem more_full {f g : FeatD} (hf : FeatOk f) (hg : FeatOk g) {w : List UInt8} (hw : (32 : UInt8) ∉ w) {s : ByteArray} (e : bts s = bts (fullT f) ++ 32 :: w) (h : s = fullT g) : wordsF g = wordsF f ++ [w] := by
  rw [← words_more hf hw e, h, fullT_words, split_join _ (by simp [wordsF]) (wordsF_32 hg)]
theorem bts_pos {s : ByteArray} (h : WordOk s) : bts s ≠ [] := fun e => by
  have h1 := bts_len s
  rw [e] at h1
  have h2 := h.1.1
  simp at h1
  omega
theorem wordsF_mem {g : FeatD} (hg : FeatOk g) {w : List UInt8} (h : w ∈ wordsF g) : w ≠ [] ∧ ((61 : UInt8) ∈ w → ∃ t : Tag, (WordOk t.1 ∧ WordOk t.2) ∧ w = tagW t) := by
  unfold wordsF at h
  rcases List.mem_cons.1 h with rfl | h
  · exact ⟨bts_pos hg.1, fun hc => absurd hc (word_61 hg.1)⟩
  · rcases List.mem_cons.1 h with rfl | h
    · refine ⟨?_, fun hc => absurd hc (kindW_32 hg.2.1.kind).2⟩
      rcases hg.2.1.kind with e | e | e <;> (rw [e]; decide)
    · rcases List.mem_append.1 h with h | h
      · obtain ⟨p, _, rfl⟩ := List.mem_map.1 h
        exact ⟨by unfold ptW; simp, fun hc => absurd rfl (ptW_no hc).2⟩
      · obtain ⟨t, ht, rfl⟩ := List.mem_map.1 h
        exact ⟨by unfold tagW; simp, fun _ => ⟨t, hg.words t ht, rfl⟩⟩
/-- The text and ' =a'. -/
theorem more_eq {f g : FeatD} (hf : FeatOk f) (hg : FeatOk g) : fullT f ++ ⟨#[32, 61, 97]⟩ ≠ fullT g := by
  intro h
  have e := more_full hf hg (w := [61, 97]) (by decide) (by rw [bts_app] <;> rfl) h
  obtain ⟨t, ht, e2⟩ := (wordsF_mem hg (w := [61, 97]) (by rw [e]; simp)).2 (by decide)
  have h1 := bts_pos ht.1
  unfold tagW at e2
  cases hb : bts t.1 with
  | nil => exact h1 hb
  | cons x r =>
    rw [hb, List.cons_append] at e2
    injection e2 with e3 _
    have := word_no ht.1 (c := x) (by rw [hb]; exact List.mem_cons_self)
    rw [← e3] at this
    revert this
    decide
/-- The text and ' '. -/
theorem more_sp {f g : FeatD} (hf : FeatOk f) (hg : FeatOk g) : fullT f ++ ⟨#[32]⟩ ≠ fullT g := by
  intro h
  have e := more_full hf hg (w := []) (by decide) (by rw [bts_app] <;> rfl) h
  exact (wordsF_mem hg (w := []) (by rw [e]; simp)).1 rfl
abbrev zzT : Tag := (⟨#[122, 122]⟩, ⟨#[97]⟩)
/-- The text and ' zz=a': as many tags and one. -/
theorem more_zz {f g : FeatD} (hf : FeatOk f) (hg : FeatOk g) (h : fullT f ++ ⟨#[32, 122, 122, 61, 97]⟩ = fullT g) : g.2.2.length = f.2.2.length + 1 := by
  have e := more_full hf hg (w := tagW zzT) (by decide) (by rw [bts_app] <;> rfl) h
  unfold wordsF at e
  simp only [List.cons_append, List.cons.injEq] at e
  have e2 := congrArg (fun l => (l.filter (fun w => decide ((61 : UInt8) ∈ w))).length) e.2.2
  simp only [List.filter_append, List.length_append] at e2
  have t1 := (filt_61 g.2.1.2 g.2.2).1
  have t2 := (filt_61 f.2.1.2 f.2.2).1
  rw [List.filter_append] at t1 t2
  have t3 := congrArg List.length t1
  have t4 := congrArg List.length t2
  rw [List.length_append, List.length_map] at t3 t4
  have t5 : ([tagW zzT].filter (fun w => decide ((61 : UInt8) ∈ w))).length = 1 := by decide
  omega
theorem zz_word : WordOk zzT.1 ∧ WordOk zzT.2 := by
  constructor
  · refine ⟨by decide, fun i hi => ?_⟩
    have hi : i < 2 := hi
    match i, hi with
    | 0, _ => intro h; exact ⟨(by decide : (97 : Int) ≤ ((122 : UInt8).toNat : Int)), (by decide : ((122 : UInt8).toNat : Int) ≤ 122)⟩
    | 1, _ => intro h; exact ⟨(by decide : (97 : Int) ≤ ((122 : UInt8).toNat : Int)), (by decide : ((122 : UInt8).toNat : Int) ≤ 122)⟩
  · refine ⟨by decide, fun i hi => ?_⟩
    have hi : i < 1 := hi
    match i, hi with
    | 0, _ => intro h; exact ⟨(by decide : (97 : Int) ≤ ((97 : UInt8).toNat : Int)), (by decide : ((97 : UInt8).toNat : Int) ≤ 122)⟩
/-- The thing with the further tag. -/
theorem ok_zz {f : FeatD} (hf : FeatOk f) (hz : ∀ t ∈ f.2.2, TgZ t) (h4 : f.2.2.length < 4) : FeatOk (f.1, f.2.1, f.2.2 ++ [zzT]) := by
  refine ⟨hf.1, hf.2.1, fun i hi h => ?_, by simp only [List.length_append, List.length_cons, List.length_nil]; omega⟩
  simp only [List.length_append, List.length_cons, List.length_nil] at h
  by_cases hl : i < f.2.2.length
  · have h1 := hf.2.2.1 i hl hl
    refine ⟨?_, ?_, fun h0 => ?_⟩
    · rw [List.getElem_append_left hl]; exact h1.1
    · rw [List.getElem_append_left hl]; exact h1.2.1
    · rw [List.getElem_append_left hl, List.getElem_append_left (by omega)]; exact h1.2.2 h0
  · obtain rfl : i = f.2.2.length := by omega
    refine ⟨?_, ?_, fun h0 => ?_⟩
    · rw [List.getElem_append_right (Nat.le_refl _)]; simp only [Nat.sub_self, List.getElem_cons_zero]; exact zz_word.1
    · rw [List.getElem_append_right (Nat.le_refl _)]; simp only [Nat.sub_self, List.getElem_cons_zero]; exact zz_word.2
    · rw [List.getElem_append_right (Nat.le_refl _), List.getElem_append_left (by omega)]
      simp only [Nat.sub_self, List.getElem_cons_zero]
      have hm : f.2.2[f.2.2.length - 1] ∈ f.2.2 := List.getElem_mem (by omega)
      exact (hz _ hm).2 (hf.words _ hm).2
theorem full_zz (f : FeatD) : fullT f ++ ⟨#[32, 122, 122, 61, 97]⟩ = fullT (f.1, f.2.1, f.2.2 ++ [zzT]) := by
  apply bts_inj
  rw [bts_app]
  unfold fullT
  rw [tagsT_flat, tagsT_flat]
  simp only [List.map_append, List.flatten_append, List.append_assoc]
  rfl
theorem head_take (f : FeatD) : (fullT f).extract 0 (headT f).size = headT f := by
  apply bts_inj
  have e : bts ((fullT f).extract 0 (headT f).size) = (bts (fullT f)).take (headT f).size := by
    show ((fullT f).extract 0 (headT f).size).data.toList = (fullT f).data.toList.take (headT f).size
    rw [ByteArray.data_extract, Array.toList_extract]
    simp
  rw [e]
  unfold fullT
  rw [tagsT_flat, List.take_left' (bts_len _)]
theorem head_le (f : FeatD) : (headT f).size ≤ (fullT f).size := by
  rw [← bts_len, ← bts_len]
  unfold fullT
  rw [tagsT_flat, List.length_append]
  omega
theorem bare_ok {f : FeatD} (hf : FeatOk f) : FeatOk (f.1, f.2.1, []) := ⟨hf.1, hf.2.1, fun i hi => absurd hi (Nat.not_lt_zero i), Nat.zero_le _⟩
theorem bare_t {f : FeatD} (hf : FeatOk f) : featT (f.1, f.2.1, []) = headT f := (featT_of (bare_ok hf)).trans rfl
end Go.Proofs.YtgdgnlpohnpgiaaDoor
