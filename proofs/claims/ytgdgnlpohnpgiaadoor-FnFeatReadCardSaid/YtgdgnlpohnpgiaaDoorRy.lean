/- Plain: the words of a thing's text, cut apart. -/
import Derived.Test.YtgdgnlpohnpgiaaDoorRd
import Derived.Test.YtgdgnlpohnpgiaaDoorTz
namespace Go.Proofs.YtgdgnlpohnpgiaaDoor
open Go Go.RowKit
set_option linter.unusedVariables false
set_option linter.unusedSimpArgs false
theorem full_words {s : ByteArray} {ws : List ByteArray} (h : ws.map bts = splitL 32 (bts s)) {f : FeatD} (hok : FeatOk f) : s = fullT f ↔ ws.map bts = wordsF f := by
  constructor
  · intro e
    rw [h, e, fullT_words, split_join _ (by simp [wordsF]) (wordsF_32 hok)]
  · intro e
    apply bts_inj
    rw [fullT_words, ← e, h, join_split]
theorem wordsF_split (f : FeatD) : wordsF f = (bts f.1 :: bts (kindW f.2.1.1) :: f.2.1.2.map ptW) ++ f.2.2.map tagW := rfl
theorem wordsF_no {f : FeatD} (h : FeatOk f) {i : Nat} (hi : i < 2 + f.2.1.2.length) {w : List UInt8} (e : (wordsF f)[i]? = some w) : (61 : UInt8) ∉ w := by
  rw [wordsF_split, List.getElem?_append_left (by simp; omega)] at e
  have hm := List.mem_of_getElem? e
  rcases List.mem_cons.1 hm with rfl | hm
  · exact fun hc => by have := word_no h.1 hc; simp at this
  · rcases List.mem_cons.1 hm with rfl | hm
    · exact (kindW_32 h.2.1.kind).2
    · obtain ⟨p, _, rfl⟩ := List.mem_map.1 hm
      exact fun hc => (ptW_no hc).2 rfl
theorem wordsF_in {f : FeatD} {i : Nat} (hi : 2 + f.2.1.2.length ≤ i) {w : List UInt8} (e : (wordsF f)[i]? = some w) : (61 : UInt8) ∈ w := by
  rw [wordsF_split, List.getElem?_append_right (by simp; omega)] at e
  obtain ⟨t, _, rfl⟩ := List.mem_map.1 (List.mem_of_getElem? e)
  exact tagW_61 t
theorem wordsF_len (f : FeatD) : (wordsF f).length = 2 + f.2.1.2.length + f.2.2.length := by
  rw [wordsF_split]
  simp
  omega
theorem wordsF_mid (f : FeatD) : ((wordsF f).take (2 + f.2.1.2.length)).drop 1 = bts (kindW f.2.1.1) :: f.2.1.2.map ptW := by
  rw [wordsF_split, List.take_append_of_le_length (by simp; omega), List.take_of_length_le (by simp; omega)]
  rfl
theorem wordsF_end (f : FeatD) : (wordsF f).drop (2 + f.2.1.2.length) = f.2.2.map tagW := by
  rw [wordsF_split, List.drop_append_of_le_length (by simp; omega), List.drop_of_length_le (by simp; omega), List.nil_append]
theorem at_words {ws : List ByteArray} {f : FeatD} (e : ws.map bts = wordsF f) {i : Nat} (hi : i < ws.length) : (wordsF f)[i]? = some (bts ws[i]) := by
  rw [← e, List.getElem?_map, List.getElem?_eq_getElem hi]
  rfl
theorem words_len {ws : List ByteArray} {f : FeatD} (e : ws.map bts = wordsF f) : ws.length = 2 + f.2.1.2.length + f.2.2.length := by
  rw [← wordsF_len, ← e, List.length_map]
/-- The first word with a mark. -/
theorem first_k {ws : List ByteArray} {f : FeatD} (hok : FeatOk f) (e : ws.map bts = wordsF f) {k : Nat} (hk : k ≤ ws.length) (h1 : ∀ i, i < k → (hi : i < ws.length) → (61 : UInt8) ∉ bts ws[i]) (h2 : (h : k < ws.length) → (61 : UInt8) ∈ bts ws[k]) : k = 2 + f.2.1.2.length := by
  have hl := words_len e
  rcases Nat.lt_trichotomy k (2 + f.2.1.2.length) with h | h | h
  · exact absurd (h2 (by omega)) (wordsF_no hok h (at_words e (by omega)))
  · exact h
  · exact absurd (wordsF_in (Nat.le_refl _) (at_words e (by omega))) (h1 _ h (by omega))
/-- The end of the words without a mark, from behind. -/
theorem last_k {ws : List ByteArray} {f : FeatD} (hok : FeatOk f) (e : ws.map bts = wordsF f) {k : Nat} (h2 : 2 ≤ k) (hk : k ≤ ws.length) (h1 : ∀ i, k ≤ i → (hi : i < ws.length) → (61 : UInt8) ∈ bts ws[i]) (h3 : k = 2 ∨ ((h : k - 1 < ws.length) → (61 : UInt8) ∉ bts ws[k - 1])) : k = 2 + f.2.1.2.length := by
  have hl := words_len e
  have hp : 1 ≤ f.2.1.2.length := by
    rcases hok.2.1.2 with h | h | h <;> omega
  rcases Nat.lt_trichotomy k (2 + f.2.1.2.length) with h | h | h
  · exact absurd (h1 k (Nat.le_refl _) (by omega)) (wordsF_no hok h (at_words e (by omega)))
  · exact h
  · rcases h3 with h3 | h3
    · omega
    · exact absurd (wordsF_in (by omega) (at_words e (by omega))) (h3 (by omega))
theorem mid_words {ws : List ByteArray} {f : FeatD} (e : ws.map bts = wordsF f) : ((ws.take (2 + f.2.1.2.length)).drop 1).map bts = bts (kindW f.2.1.1) :: f.2.1.2.map ptW := by
  rw [List.map_drop, List.map_take, e, wordsF_mid]
theorem end_words {ws : List ByteArray} {f : FeatD} (e : ws.map bts = wordsF f) : (ws.drop (2 + f.2.1.2.length)).map bts = f.2.2.map tagW := by
  rw [List.map_drop, e, wordsF_end]
/-- Tags of words: each the tag, if the word is one's. -/
def TagsR (us : List ByteArray) (l : List Tag) : Prop := l.length = us.length ∧ ∀ (i : Nat) (t : Tag), WordOk t.1 ∧ WordOk t.2 → us[i]?.map bts = some (tagW t) → l[i]? = some t
theorem TagsR.nil : TagsR [] [] := ⟨rfl, fun i p _ h => by simp at h⟩
theorem TagsR.snoc {us : List ByteArray} {l : List Tag} {u : ByteArray} {x : Tag} (h : TagsR us l) (hx : ∀ t : Tag, WordOk t.1 ∧ WordOk t.2 → bts u = tagW t → x = t) : TagsR (us ++ [u]) (l ++ [x]) := by
  refine ⟨by simp [h.1], fun i p hp e => ?_⟩
  rcases Nat.lt_trichotomy i us.length with hi | hi | hi
  · rw [List.getElem?_append_left hi] at e
    rw [List.getElem?_append_left (by rw [h.1]; exact hi)]
    exact h.2 i p hp e
  · subst hi
    rw [List.getElem?_append_right (Nat.le_refl _)] at e
    rw [List.getElem?_append_right (by rw [h.1]; exact Nat.le_refl _), h.1]
    simp at e ⊢
    exact hx p hp e
  · rw [List.getElem?_eq_none (by simp; omega)] at e
    cases e
theorem TagsR.eq {us : List ByteArray} {l l' : List Tag} (h : TagsR us l) (hl : ∀ t ∈ l', WordOk t.1 ∧ WordOk t.2) (e : us.map bts = l'.map tagW) : l = l' := by
  have hlen : us.length = l'.length := by
    have := congrArg List.length e
    simpa using this
  apply List.ext_getElem?
  intro i
  by_cases hi : i < l'.length
  · rw [List.getElem?_eq_getElem hi]
    apply h.2 i _ (hl _ (List.getElem_mem hi))
    rw [← List.getElem?_map, e, List.getElem?_map, List.getElem?_eq_getElem hi]
    rfl
  · rw [List.getElem?_eq_none (by rw [h.1]; omega), List.getElem?_eq_none (by omega)]
theorem word_61 {s : ByteArray} (h : WordOk s) : (61 : UInt8) ∉ bts s := fun hc => by have := word_no h hc; simp at this
/-- A tag's word, cut at its first mark. -/
theorem tagW_cut {u : ByteArray} {t : Tag} (h : WordOk t.1 ∧ WordOk t.2) (e : bts u = tagW t) : (cutA u 61, cutB u 61) = t := by
  unfold cutA cutB
  rw [e]
  unfold tagW
  rw [cut_word _ (word_61 h.1)]
theorem fullT_139 {f : FeatD} (h : FeatOk f) : (fullT f).size ≤ 139 := by
  have hm : ∀ t ∈ f.2.2, (tagW t).length ≤ 13 := fun t ht => by
    have h1 := (h.words t ht).1.1
    have h2 := (h.words t ht).2.1
    unfold tagW
    rw [List.length_append, List.length_cons, bts_len, bts_len]
    omega
  have key : ∀ l : List Tag, (∀ t ∈ l, (tagW t).length ≤ 13) → (((l.map tagW).map (32 :: ·)).flatten).length ≤ 14 * l.length := by
    intro l
    induction l with
    | nil => intro _; simp
    | cons t l ih =>
      intro h
      have h1 := ih (fun q hq => h q (List.mem_cons_of_mem _ hq))
      have h2 := h t List.mem_cons_self
      simp only [List.map_cons, List.flatten_cons, List.length_append, List.length_cons] at h1 ⊢
      omega
  have h1 := shText_76 h.2.1
  have h2 := key _ hm
  have h3 := h.1.1
  rw [← bts_len]
  unfold fullT headT
  rw [tagsT_flat, List.length_append, bts_len, ByteArray.size_append, ByteArray.size_append]
  have : (⟨#[32]⟩ : ByteArray).size = 1 := rfl
  have h5 : f.2.2.length ≤ 4 := h.2.2.2
  omega
end Go.Proofs.YtgdgnlpohnpgiaaDoor
