/- Plain: what a putting of a tag finds. -/
import Derived.Test.YtgdgnlpohnpgiaaGreatDoorPf
namespace Go.Proofs.YtgdgnlpohnpgiaaGreatDoor
set_option linter.unusedVariables false
set_option linter.unusedSimpArgs false
theorem mem_put {α : Type} (l : List (ByteArray × α)) (x : ByteArray × α) : x ∈ putK l x := by
  rw [putK_eq]
  induction l with
  | nil => exact List.mem_cons_self
  | cons t l ih =>
    rw [putR]
    split
    · exact List.mem_cons_of_mem _ ih
    · exact List.mem_cons_self
theorem featOk_put_iff {f : FeatD} (h : FeatOk f) (key val : ByteArray) : FeatOk (fput0 f key val) ↔ WordOk key ∧ WordOk val ∧ (putK f.2.2 (key, val)).length ≤ 4 := by
  constructor
  · intro q
    have hw := tagsUp_word q.2.2.1 (key, val) (mem_put f.2.2 (key, val))
    exact ⟨hw.1, hw.2, q.2.2.2⟩
  · rintro ⟨h1, h2, h3⟩
    refine ⟨h.1, h.2.1, tagsUp_of ((tagsUp_kup h.2.2.1).put (key, val)) (fun t ht => ?_), h3⟩
    rcases putK_mem ht with rfl | ht
    · exact ⟨h1, h2⟩
    · exact tagsUp_word h.2.2.1 t ht
theorem put_cases (f : FeatD) (key val : ByteArray) : fput f key val = (feat0, false) ∧ ¬ (FeatOk f ∧ FeatOk (fput0 f key val)) ∨ FeatOk f ∧ FeatOk (fput0 f key val) ∧ fput f key val = (fput0 f key val, true) := by
  by_cases h : FeatOk f ∧ FeatOk (fput0 f key val)
  · exact .inr ⟨h.1, h.2, fput_yes h⟩
  · exact .inl ⟨fput_no h, h⟩
theorem ftx00 : FTx feat0 := ⟨by decide, by decide, by decide, fun t ht => by cases ht⟩
theorem fput_ftx {f : FeatD} (h : FTx f) {key val : ByteArray} (h1 : key.size ≤ 140737488351232) (h2 : val.size ≤ 140737488351232) : FTx (fput f key val).1 := by
  rcases put_cases f key val with ⟨e, _⟩ | ⟨ho, _, e⟩
  · rw [e]; exact ftx00
  · rw [e]; exact ftx_put h ho h1 h2
theorem fput_same {f : FeatD} {key v v2 : ByteArray} (h : FeatOk f) (h2 : FeatOk (fput0 f key v)) : fput (fput0 f key v) key v2 = fput f key v2 := by
  have hup := tagsUp_kup h.2.2.1
  have e : fput0 (fput0 f key v) key v2 = fput0 f key v2 := by
    show (f.1, f.2.1, putK (putK f.2.2 (key, v)) (key, v2)) = (f.1, f.2.1, putK f.2.2 (key, v2))
    rw [put_put hup (x := (key, v)) (y := (key, v2)) rfl]
  rcases put_cases f key v2 with ⟨e1, n1⟩ | ⟨_, o1, e1⟩
  · rw [e1]
    exact fput_no (fun q => n1 ⟨h, by rw [← e]; exact q.2⟩)
  · rw [e1, fput_yes ⟨h2, by rw [e]; exact o1⟩, e]
theorem fput_comm {f : FeatD} {k1 v1 k2 v2 : ByteArray} (h : FeatOk f) (h1 : FeatOk (fput0 f k1 v1)) (hne : k1 ≠ k2) (h2 : FeatOk (fput0 (fput0 f k1 v1) k2 v2)) :
    FeatOk (fput0 f k2 v2) ∧ FeatOk (fput0 (fput0 f k2 v2) k1 v1) ∧ fput0 (fput0 f k2 v2) k1 v1 = fput0 (fput0 f k1 v1) k2 v2 := by
  have hup := tagsUp_kup h.2.2.1
  have e : fput0 (fput0 f k2 v2) k1 v1 = fput0 (fput0 f k1 v1) k2 v2 := by
    show (f.1, f.2.1, putK (putK f.2.2 (k2, v2)) (k1, v1)) = (f.1, f.2.1, putK (putK f.2.2 (k1, v1)) (k2, v2))
    rw [put_two hup (x := (k2, v2)) (y := (k1, v1)) (fun e => hne e.symm)]
  obtain ⟨a, b, c⟩ := (featOk_put_iff h1 k2 v2).1 h2
  have hl : (putK f.2.2 (k2, v2)).length ≤ 4 := by
    have h3 := put_len (hup.put (k2, v2)) (x := (k1, v1))
    have h4 : (putK (putK f.2.2 (k2, v2)) (k1, v1)).length ≤ 4 := by rw [put_two hup (x := (k2, v2)) (y := (k1, v1)) (fun e => hne e.symm)]; exact c
    split at h3 <;> omega
  exact ⟨(featOk_put_iff h k2 v2).2 ⟨a, b, hl⟩, by rw [e]; exact h2, e⟩
end Go.Proofs.YtgdgnlpohnpgiaaGreatDoor
