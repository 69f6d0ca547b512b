/- Plain: the text of a map, line by line; what is read of its lines is one's just if its text is. -/
import Derived.Test.YtgdgnlpohnpgiaaGreatDoorRy
import Derived.Test.YtgdgnlpohnpgiaaGreatDoorTx
namespace Go.Proofs.YtgdgnlpohnpgiaaGreatDoor
open Go Go.RowKit
set_option linter.unusedVariables false
set_option linter.unusedSimpArgs false
theorem mem_join {c x : UInt8} : ∀ {ws : List (List UInt8)}, x ∈ joinL c ws → x = c ∨ ∃ w ∈ ws, x ∈ w
  | [], h => by simp [joinL] at h
  | [w], h => Or.inr ⟨w, by simp, h⟩
  | w :: v :: r, h => by
    have h' : x ∈ w ++ c :: joinL c (v :: r) := h
    rcases List.mem_append.1 h' with h | h
    · exact Or.inr ⟨w, by simp, h⟩
    · rcases List.mem_cons.1 h with h | h
      · exact Or.inl h
      · rcases mem_join h with h | ⟨u, hu, hx⟩
        · exact Or.inl h
        · exact Or.inr ⟨u, List.mem_cons_of_mem _ hu, hx⟩
theorem ptW_nl {p : Pt} : (10 : UInt8) ∉ ptW p := by
  intro h
  unfold ptW at h
  rcases List.mem_append.1 h with h | h
  · have := dec_mem h; simp at this
  · rcases List.mem_cons.1 h with h | h
    · revert h; decide
    · have := dec_mem h; simp at this
theorem tagW_nl {t : Tag} (h1 : WordOk t.1) (h2 : WordOk t.2) : (10 : UInt8) ∉ tagW t := by
  intro h
  unfold tagW at h
  rcases List.mem_append.1 h with h | h
  · have := word_no h1 h; simp at this
  · rcases List.mem_cons.1 h with h | h
    · revert h; decide
    · have := word_no h2 h; simp at this
theorem fullT_nl {f : FeatD} (h : FeatOk f) : (10 : UInt8) ∉ bts (fullT f) := by
  intro hx
  rw [fullT_words] at hx
  rcases mem_join hx with e | ⟨w, hw, hx⟩
  · revert e; decide
  · unfold wordsF at hw
    rcases List.mem_cons.1 hw with rfl | hw
    · have := word_no h.1 hx; simp at this
    · rcases List.mem_cons.1 hw with rfl | hw
      · rcases h.2.1.kind with e | e | e <;> (rw [e] at hx; revert hx; decide)
      · rcases List.mem_append.1 hw with hw | hw
        · obtain ⟨p, _, rfl⟩ := List.mem_map.1 hw
          exact ptW_nl hx
        · obtain ⟨t, ht, rfl⟩ := List.mem_map.1 hw
          exact tagW_nl (h.words t ht).1 (h.words t ht).2 hx
theorem featT_of {f : FeatD} (h : FeatOk f) : featT f = fullT f := if_pos h
theorem featT_139 (f : FeatD) : (featT f).size ≤ 139 := by
  by_cases h : FeatOk f
  · rw [featT_of h]
    exact fullT_139 h
  · rw [show featT f = ⟨#[]⟩ from if_neg h]
    decide
theorem SheetOk.all {l : List FeatD} (h : SheetOk l) : ∀ f ∈ l, FeatOk f := fun f hf => by
  obtain ⟨i, hi, rfl⟩ := List.getElem_of_mem hf
  exact (h.1 i hi hi).1
/-- The lines of things, each with its end. -/
theorem linesT_bts (l : List FeatD) : bts (linesT l) = (l.map (fun f => bts (featT f) ++ [10])).flatten := by
  have : ∀ (l : List FeatD) (o : ByteArray), bts (l.foldl (fun o f => o ++ (featT f ++ ⟨#[10]⟩)) o) = bts o ++ (l.map (fun f => bts (featT f) ++ [10])).flatten := by
    intro l
    induction l with
    | nil => intro o; simp
    | cons f l ih =>
      intro o
      rw [List.foldl_cons, ih, bts_app, bts_app]
      have e : bts (⟨#[10]⟩ : ByteArray) = [10] := rfl
      rw [e]
      simp
  exact this l ⟨#[]⟩
theorem split_lines {c : UInt8} : ∀ (ws : List (List UInt8)), (∀ w ∈ ws, c ∉ w) → splitL c ((ws.map (· ++ [c])).flatten) = ws ++ [[]]
  | [], _ => rfl
  | w :: r, h => by
    have ih := split_lines r (fun u hu => h u (List.mem_cons_of_mem _ hu))
    have e : splitL c (c :: (r.map (· ++ [c])).flatten) = [] :: (r ++ [[]]) := by rw [splitL_hit, ih]
    have := splitL_word w (h w List.mem_cons_self) _ _ _ e
    simpa using this
/-- The lines of an ok map's text. -/
theorem sheet_lines {s : ByteArray} {l : List FeatD} (h : SheetOk l) (e : s = sheetT l) : splitL 10 (bts s) = l.map (fun f => bts (fullT f)) ++ [[]] := by
  rw [e, show sheetT l = linesT l from if_pos h, linesT_bts]
  have e1 : l.map (fun f => bts (featT f) ++ [10]) = (l.map (fun f => bts (fullT f))).map (· ++ [10]) := by
    rw [List.map_map]
    exact List.map_congr_left fun f hf => by rw [featT_of (h.all f hf)]; rfl
  rw [e1]
  exact split_lines _ (fun w hw => by
    obtain ⟨f, hf, rfl⟩ := List.mem_map.1 hw
    exact fullT_nl (h.all f hf))
theorem sheetT_size (l : List FeatD) : (sheetT l).size ≤ 1120 := by
  by_cases h : SheetOk l
  · rw [show sheetT l = linesT l from if_pos h, ← bts_len, linesT_bts]
    have key : ∀ l : List FeatD, ((l.map (fun f => bts (featT f) ++ [10])).flatten).length ≤ 140 * l.length := by
      intro l
      induction l with
      | nil => simp
      | cons f l ih =>
        have h2 := featT_139 f
        rw [← bts_len] at h2
        simp only [List.map_cons, List.flatten_cons, List.length_append, List.length_cons, List.length_nil] at ih ⊢
        omega
    have h1 := key l
    have h2 : l.length ≤ 8 := h.2
    omega
  · rw [show sheetT l = ⟨#[]⟩ from if_neg h]
    decide
theorem sheetT_nil : sheetT [] = ⟨#[]⟩ := by
  unfold sheetT
  split <;> rfl
theorem sheetOk_nil : SheetOk [] := ⟨fun i hi => absurd hi (Nat.not_lt_zero i), Nat.zero_le _⟩
/-- What is read of the first lines. -/
def LinesR (us : List ByteArray) (l : List FeatD) : Prop := l.length = us.length ∧ ∀ i, (h : i < us.length) → (h2 : i < l.length) → FeatOk l[i] ∧ us[i] = fullT l[i]
theorem LinesR.nil : LinesR [] [] := ⟨rfl, fun i h => absurd h (Nat.not_lt_zero i)⟩
theorem LinesR.snoc {us : List ByteArray} {l : List FeatD} {u : ByteArray} {f : FeatD} (h : LinesR us l) (hf : FeatOk f ∧ u = fullT f) : LinesR (us ++ [u]) (l ++ [f]) := by
  refine ⟨by simp [h.1], fun i h1 h2 => ?_⟩
  by_cases hi : i < us.length
  · have hl : i < l.length := by rw [h.1]; exact hi
    rw [List.getElem_append_left hi, List.getElem_append_left hl]
    exact h.2 i hi hl
  · have e : i = us.length := by simp at h1; omega
    subst e
    rw [List.getElem_append_right (Nat.le_refl _), List.getElem_append_right (by rw [h.1]; exact Nat.le_refl _)]
    simp only [h.1, Nat.sub_self, List.getElem_cons_zero]
    exact hf
theorem LinesR.map {us : List ByteArray} {l : List FeatD} (h : LinesR us l) : us.map bts = l.map (fun f => bts (featT f)) := by
  apply List.ext_getElem (by simp [h.1])
  intro i h1 h2
  rw [List.length_map] at h1 h2
  rw [List.getElem_map, List.getElem_map, (h.2 i h1 h2).2, featT_of (h.2 i h1 h2).1]
/-- All lines but the last, which is empty: if the things are one's, the text is. -/
theorem lines_yes {s : ByteArray} {us : List ByteArray} {l : List FeatD} (h : LinesR us l) (hs : splitL 10 (bts s) = us.map bts ++ [[]]) (hok : SheetOk l) : s = sheetT l := by
  apply bts_inj
  rw [show sheetT l = linesT l from if_pos hok, linesT_bts, ← join_split (c := 10) (bts s), hs, h.map]
  have key : ∀ ws : List (List UInt8), joinL 10 (ws ++ [[]]) = (ws.map (· ++ [10])).flatten := by
    intro ws
    induction ws with
    | nil => rfl
    | cons w r ih =>
      rw [List.cons_append, join_cons _ (by simp), ih]
      simp
  rw [key, List.map_map]
  rfl
/-- If the text is an ok map's, its lines are read as its things. -/
theorem lines_eq {s : ByteArray} {us : List ByteArray} {l l' : List FeatD} (h : LinesR us l) (k : Nat) (hk : k = us.length) (hs : (splitL 10 (bts s)).take k = us.map bts) (hl : k = (splitL 10 (bts s)).length - 1) (hok : SheetOk l') (e : s = sheetT l') : l = l' := by
  rw [sheet_lines hok e] at hs hl
  simp only [List.length_append, List.length_map, List.length_cons, List.length_nil] at hl
  have hkl : k = l'.length := by omega
  rw [List.take_left' (by rw [List.length_map]; exact hkl.symm)] at hs
  apply List.ext_getElem (by rw [h.1]; omega)
  intro i h1 h2
  have hi : i < us.length := by omega
  obtain ⟨q1, q2⟩ := h.2 i hi h1
  have e1 := congrArg (fun x => x[i]?) hs
  simp only [List.getElem?_map, List.getElem?_eq_getElem h2, List.getElem?_eq_getElem hi, Option.map_some, Option.some.injEq] at e1
  have e2 := bts_inj e1
  exact fullT_inj q1 (hok.all _ (List.getElem_mem h2)) (q2.symm.trans e2.symm)
/-- A line that is none of a thing's: the text is none of a map's. -/
theorem lines_no {s u : ByteArray} {i : Nat} (hi : (splitL 10 (bts s))[i]? = some (bts u)) (hk : i + 1 < (splitL 10 (bts s)).length) (hno : ∀ f, FeatOk f → u ≠ fullT f) : ∀ l, SheetOk l → s ≠ sheetT l := by
  intro l hok e
  rw [sheet_lines hok e] at hi hk
  simp only [List.length_append, List.length_map, List.length_cons, List.length_nil] at hk
  have hl : i < l.length := by omega
  rw [List.getElem?_append_left (by rw [List.length_map]; exact hl), List.getElem?_map, List.getElem?_eq_getElem hl] at hi
  simp only [Option.map_some, Option.some.injEq] at hi
  exact hno _ (hok.all _ (List.getElem_mem hl)) (bts_inj hi).symm
/-- The text without its last byte, which ends a line. -/
theorem split_cutlast {c : UInt8} : ∀ (t : List UInt8), splitL c (t ++ [c]) = splitL c t ++ [[]]
  | [] => by simp [splitL]
  | x :: t => by
    have ih := split_cutlast (c := c) t
    by_cases hx : x = c
    · subst hx
      rw [List.cons_append, splitL_hit, splitL_hit, ih]
      rfl
    · cases hr : splitL c t with
      | nil => exact absurd hr (splitL_ne c t)
      | cons w r =>
        rw [List.cons_append, splitL_step hx hr, splitL_step hx (w := w) (r := r ++ [[]]) (by rw [ih, hr]; rfl)]
        rfl
theorem lines_last {s : ByteArray} (h : 0 < s.size) (hl : s[s.size - 1] = 10) : bts s = bts (s.extract 0 (s.size - 1)) ++ [10] := by
  have e : bts (s.extract 0 (s.size - 1)) = (bts s).take (s.size - 1) := by
    show (s.extract 0 (s.size - 1)).data.toList = s.data.toList.take (s.size - 1)
    rw [ByteArray.data_extract, Array.toList_extract]
    simp
  have hz := bts_len s
  have hlt : s.size - 1 < (bts s).length := by omega
  have e2 : (bts s).drop (s.size - 1) = [10] := by
    rw [List.drop_eq_getElem_cons hlt, List.drop_of_length_le (by omega)]
    rw [bts_at s (s.size - 1) (by omega), hl]
  rw [e, ← e2, List.take_append_drop]
/-- A text of an ok map that is not empty ends a line. -/
theorem sheet_last {s : ByteArray} {l : List FeatD} (hok : SheetOk l) (e : s = sheetT l) (h : 0 < s.size) : s[s.size - 1] = 10 := by
  have hz := bts_len s
  rw [show sheetT l = linesT l from if_pos hok] at e
  rcases List.eq_nil_or_concat l with h0 | ⟨l', f, rfl⟩
  · subst h0
    rw [e] at h
    exact absurd h (by decide)
  · rw [List.concat_eq_append, linesT_snoc] at e
    have e1 : bts s = (bts (linesT l') ++ bts (featT f)) ++ [10] := by
      rw [e, bts_app, bts_app]
      have : bts (⟨#[10]⟩ : ByteArray) = [10] := rfl
      rw [this, List.append_assoc]
    have hlt : s.size - 1 < (bts s).length := by omega
    rw [← bts_at s (s.size - 1) (by omega)]
    have h2 : (bts s)[s.size - 1]? = some 10 := by
      rw [e1, List.getElem?_append_right (by rw [← hz, e1]; simp)]
      rw [← hz, e1]
      simp
    rw [List.getElem?_eq_getElem hlt] at h2
    exact Option.some.inj h2
theorem sheetT_inj {l l' : List FeatD} (h : SheetOk l) (h2 : SheetOk l') (e : sheetT l = sheetT l') : l = l' := by
  have e1 := (sheet_lines h rfl).symm.trans (sheet_lines h2 e)
  have e2 := List.append_cancel_right e1
  have hl := congrArg List.length e2
  rw [List.length_map, List.length_map] at hl
  apply List.ext_getElem hl
  intro i h3 h4
  have e3 := congrArg (fun x => x[i]?) e2
  simp only [List.getElem?_map, List.getElem?_eq_getElem h3, List.getElem?_eq_getElem h4, Option.map_some, Option.some.injEq] at e3
  exact fullT_inj (h.all _ (List.getElem_mem h3)) (h2.all _ (List.getElem_mem h4)) (bts_inj e3)
/-- Two readers of things agree. -/
theorem ft_agree2 {s : ByteArray} {f f' : FeatD} {b b' : Bool} (h1 : b = true → FeatOk f ∧ s = fullT f) (h2 : b = false → f = (⟨#[]⟩, (0, []), []) ∧ ∀ g, FeatOk g → s ≠ fullT g)
    (h1' : b' = true → FeatOk f' ∧ s = fullT f') (h2' : b' = false → f' = (⟨#[]⟩, (0, []), []) ∧ ∀ g, FeatOk g → s ≠ fullT g) : f = f' ∧ b = b' := by
  cases b <;> cases b'
  · exact ⟨(h2 rfl).1.trans (h2' rfl).1.symm, rfl⟩
  · exact absurd (h1' rfl).2 ((h2 rfl).2 _ (h1' rfl).1)
  · exact absurd (h1 rfl).2 ((h2' rfl).2 _ (h1 rfl).1)
  · exact ⟨fullT_inj (h1 rfl).1 (h1' rfl).1 ((h1 rfl).2.symm.trans (h1' rfl).2), rfl⟩
end Go.Proofs.YtgdgnlpohnpgiaaGreatDoor
