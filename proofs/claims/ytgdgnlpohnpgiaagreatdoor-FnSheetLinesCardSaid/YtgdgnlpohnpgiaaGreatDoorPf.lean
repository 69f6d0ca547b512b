/- Plain: rows in the order of their keys: what is found, put, cut; two such rows that find alike are one. -/
import Derived.Test.YtgdgnlpohnpgiaaGreatDoorFm
namespace Go.Proofs.YtgdgnlpohnpgiaaGreatDoor
set_option linter.unusedVariables false
set_option linter.unusedSimpArgs false
section
variable {α : Type}
/-- What is found at a key. -/
def look : List (ByteArray × α) → ByteArray → Option α
  | [], _ => none
  | t :: l, key => if t.1 = key then some t.2 else look l key
theorem look_atK : ∀ (l : List (ByteArray × α)) (key : ByteArray), look l key = (atK l key).bind fun k => l[k]?.map (·.2)
  | [], _ => by simp [look, atK]
  | t :: l, key => by
    rw [look, atK]
    split
    · rfl
    · rw [look_atK l key]
      cases h : atK l key with
      | none => rfl
      | some k => simp
theorem look_none {l : List (ByteArray × α)} {key : ByteArray} : look l key = none ↔ atK l key = none := by
  rw [look_atK]
  cases h : atK l key with
  | none => simp
  | some k => obtain ⟨hk, _⟩ := atK_is h; simp [hk]
theorem look_some {l : List (ByteArray × α)} {key : ByteArray} {k : Nat} (h : atK l key = some k) (hk : k < l.length) : look l key = some l[k].2 := by
  rw [look_atK, h]; simp [hk]
theorem look_not {l : List (ByteArray × α)} {key : ByteArray} (h : ∀ t ∈ l, t.1 ≠ key) : look l key = none := by
  induction l with
  | nil => rfl
  | cons t l ih => rw [look, if_neg (h t List.mem_cons_self)]; exact ih (fun u hu => h u (List.mem_cons_of_mem _ hu))
theorem KUp.head {t : ByteArray × α} {l : List (ByteArray × α)} (h : KUp (t :: l)) : ∀ u ∈ l, ltS t.1 u.1 = true := (List.pairwise_cons.1 h).1
theorem KUp.tail {t : ByteArray × α} {l : List (ByteArray × α)} (h : KUp (t :: l)) : KUp l := (List.pairwise_cons.1 h).2
theorem look_mem {l : List (ByteArray × α)} (hu : KUp l) {t : ByteArray × α} (ht : t ∈ l) : look l t.1 = some t.2 := by
  induction l with
  | nil => cases ht
  | cons u l ih =>
    rw [look]
    rcases List.mem_cons.1 ht with rfl | ht
    · rw [if_pos rfl]
    · rw [if_neg (ltS_ne (hu.head t ht))]
      exact ih hu.tail ht
theorem look_ext : ∀ {l m : List (ByteArray × α)}, KUp l → KUp m → (∀ k, look l k = look m k) → l = m
  | [], [], _, _, _ => rfl
  | [], s :: m, _, _, h => by have := h s.1; rw [look, look, if_pos rfl] at this; cases this
  | t :: l, [], _, _, h => by have := h t.1; simp [look] at this
  | t :: l, s :: m, hl, hm, h => by
    have e1 : t.1 = s.1 := by
      cases h1 : ltS t.1 s.1 with
      | true =>
        have h2 := h t.1
        rw [look, if_pos rfl, look_not (l := s :: m)] at h2
        · cases h2
        · intro u hu
          rcases List.mem_cons.1 hu with rfl | hu
          · exact fun e => ltS_ne h1 e.symm
          · exact fun e => ltS_ne (ltS_trans h1 (hm.head u hu)) e.symm
      | false =>
        cases h3 : ltS s.1 t.1 with
        | true =>
          have h2 := h s.1
          rw [look_not (l := t :: l), look, if_pos rfl] at h2
          · cases h2
          · intro u hu
            rcases List.mem_cons.1 hu with rfl | hu
            · exact fun e => ltS_ne h3 e.symm
            · exact fun e => ltS_ne (ltS_trans h3 (hl.head u hu)) e.symm
        | false => exact ltS_eq h1 h3
    have e2 : t.2 = s.2 := by
      have h2 := h t.1
      rw [look, if_pos rfl, look, if_pos e1.symm] at h2
      exact Option.some.inj h2
    have e : t = s := Prod.ext e1 e2
    subst e
    rw [look_ext hl.tail hm.tail (fun k => ?_)]
    by_cases hk : t.1 = k
    · subst hk
      rw [look_not (fun u hu => fun e => ltS_ne (hl.head u hu) e.symm), look_not (fun u hu => fun e => ltS_ne (hm.head u hu) e.symm)]
    · have h2 := h k
      rw [look, if_neg hk, look, if_neg hk] at h2
      exact h2
theorem KUp.cut {l : List (ByteArray × α)} (h : KUp l) (key : ByteArray) : KUp (cutK l key) := List.Pairwise.filter _ h
theorem look_cut (l : List (ByteArray × α)) (key k : ByteArray) : look (cutK l key) k = if k = key then none else look l k := by
  induction l with
  | nil => simp [look, cutK]
  | cons t l ih =>
    have e : cutK (t :: l) key = (if eqB t.1 key = true then cutK l key else t :: cutK l key) := by
      unfold cutK
      rw [List.filter_cons]
      cases eqB t.1 key <;> simp
    rw [e]
    by_cases ht : t.1 = key
    · rw [if_pos (eqB_t.2 ht), ih, look]
      by_cases hk : k = key
      · rw [if_pos hk, if_pos hk]
      · rw [if_neg hk, if_neg hk, if_neg (fun e => hk (e.symm.trans ht))]
    · rw [if_neg (by simp [eqB_f.2 ht]), look, look, ih]
      by_cases hk : k = key
      · rw [if_pos hk, if_pos hk]
        rw [if_neg (fun e => ht (e.trans hk))]
      · rw [if_neg hk, if_neg hk]
theorem KUp.put {l : List (ByteArray × α)} (h : KUp l) (x : ByteArray × α) : KUp (putK l x) := by
  rw [putK_eq]
  induction l with
  | nil => exact List.pairwise_singleton _ _
  | cons t l ih =>
    rw [putR]
    split
    · rename_i hlt
      refine List.pairwise_cons.2 ⟨fun u hu => ?_, ih h.tail⟩
      have : u ∈ putK l x := by rw [putK_eq]; exact hu
      rcases putK_mem this with rfl | hu
      · exact hlt
      · exact h.head u hu
    · rename_i hlt
      have hlt2 : ltS t.1 x.1 = false := by simpa using hlt
      refine List.pairwise_cons.2 ⟨fun u hu => ?_, h.cut x.1⟩
      have hu1 := List.mem_filter.1 hu
      have hne : u.1 ≠ x.1 := by
        have := hu1.2
        simp only [Bool.not_eq_true'] at this
        exact eqB_f.1 this
      have hge : ltS u.1 x.1 = false := by
        rcases List.mem_cons.1 hu1.1 with rfl | hm
        · exact hlt2
        · cases hc : ltS u.1 x.1 with
          | false => rfl
          | true => rw [ltS_trans (h.head u hm) hc] at hlt2; cases hlt2
      cases hc : ltS x.1 u.1 with
      | true => rfl
      | false => exact absurd (ltS_eq hge hc) hne
theorem look_put {l : List (ByteArray × α)} (h : KUp l) (x : ByteArray × α) (k : ByteArray) : look (putK l x) k = if k = x.1 then some x.2 else look l k := by
  rw [putK_eq]
  induction l with
  | nil =>
    rw [putR, look, look]
    by_cases hk : k = x.1
    · rw [if_pos hk.symm, if_pos hk]
    · rw [if_neg (fun e => hk e.symm), if_neg hk]
      rfl
  | cons t l ih =>
    rw [putR]
    split
    · rename_i hlt
      rw [look, ih h.tail, look]
      by_cases ht : t.1 = k
      · rw [if_pos ht, if_pos ht, if_neg (fun e => ltS_ne hlt (ht.trans e))]
      · rw [if_neg ht, if_neg ht]
    · rw [look, look_cut]
      by_cases hk : k = x.1
      · rw [if_pos hk.symm, if_pos hk]
      · rw [if_neg (fun e => hk e.symm), if_neg hk, if_neg hk]
theorem put_two {l : List (ByteArray × α)} (h : KUp l) {x y : ByteArray × α} (hne : x.1 ≠ y.1) : putK (putK l x) y = putK (putK l y) x :=
  look_ext ((h.put x).put y) ((h.put y).put x) (fun k => by
    rw [look_put (h.put x), look_put h, look_put (h.put y), look_put h]
    by_cases h1 : k = y.1
    · rw [if_pos h1, if_neg (fun e => hne (e.symm.trans h1)), if_pos h1]
    · rw [if_neg h1, if_neg h1])
theorem put_put {l : List (ByteArray × α)} (h : KUp l) {x y : ByteArray × α} (he : x.1 = y.1) : putK (putK l x) y = putK l y :=
  look_ext ((h.put x).put y) (h.put y) (fun k => by
    rw [look_put (h.put x), look_put h, look_put h]
    by_cases h1 : k = y.1
    · rw [if_pos h1, if_pos h1]
    · rw [if_neg h1, if_neg h1, if_neg (fun e => h1 (e.trans he))])
theorem put_back {l : List (ByteArray × α)} (h : KUp l) {x : ByteArray × α} {v : α} (ho : look l x.1 = some v) : putK (putK l x) (x.1, v) = l :=
  look_ext ((h.put x).put _) h (fun k => by
    rw [look_put (h.put x), look_put h]
    by_cases h1 : k = x.1
    · rw [if_pos h1, h1, ho]
    · rw [if_neg h1, if_neg h1])
theorem put_cut {l : List (ByteArray × α)} (h : KUp l) {x : ByteArray × α} (ho : look l x.1 = none) : cutK (putK l x) x.1 = l :=
  look_ext ((h.put x).cut _) h (fun k => by
    rw [look_cut, look_put h]
    by_cases h1 : k = x.1
    · rw [if_pos h1, h1, ho]
    · rw [if_neg h1, if_neg h1])
theorem cut_put {l : List (ByteArray × α)} (h : KUp l) {key : ByteArray} {v : α} (ho : look l key = some v) : putK (cutK l key) (key, v) = l :=
  look_ext ((h.cut key).put _) h (fun k => by
    rw [look_put (h.cut key), look_cut]
    by_cases h1 : k = key
    · rw [if_pos h1, h1, ho]
    · rw [if_neg h1, if_neg h1])
theorem cut_len {l : List (ByteArray × α)} (h : KUp l) {key : ByteArray} {v : α} (ho : look l key = some v) : (cutK l key).length + 1 = l.length := by
  have h1 : atK l key ≠ none := fun e => by rw [look_none.2 e] at ho; cases ho
  obtain ⟨k, hk⟩ := Option.ne_none_iff_exists'.1 h1
  have hkl := (atK_is hk).1
  have hd : ∀ i j, (hi : i < l.length) → (hj : j < l.length) → i ≠ j → l[i].1 ≠ l[j].1 := fun i j hi hj hne => by
    rcases Nat.lt_or_ge i j with q | q
    · exact ltS_ne (List.pairwise_iff_getElem.1 h i j hi hj q)
    · exact fun e => ltS_ne (List.pairwise_iff_getElem.1 h j i hj hi (by omega)) e.symm
  rw [cutK_at hk hd, List.length_append, List.length_take, List.length_drop]
  omega
theorem put_len {l : List (ByteArray × α)} (h : KUp l) {x : ByteArray × α} : (putK l x).length = if look l x.1 = none then l.length + 1 else l.length := by
  cases ho : look l x.1 with
  | none =>
    have h1 := cut_len (h.put x) (key := x.1) (v := x.2) (by rw [look_put h, if_pos rfl])
    rw [put_cut h ho] at h1
    simp; omega
  | some v =>
    have h1 : atK l x.1 ≠ none := fun e => by rw [look_none.2 e] at ho; cases ho
    obtain ⟨k, hk⟩ := Option.ne_none_iff_exists'.1 h1
    rw [putK_eq, putR_at h hk]
    simp
end
theorem getT_look (l : List Tag) (key : ByteArray) : getT l key = match look l key with | some v => (v, true) | none => (ByteArray.empty, false) := by
  cases h : atK l key with
  | none => rw [getT_none h, look_none.2 h]
  | some k => obtain ⟨hk, _⟩ := atK_is h; rw [getT_some h hk, look_some h hk]
theorem tagsUp_kup {l : List Tag} (h : TagsUp l) : KUp l := kup (fun i hi h0 => h.up i hi h0)
theorem tagsUp_of {l : List Tag} (h : KUp l) (hw : ∀ t ∈ l, WordOk t.1 ∧ WordOk t.2) : TagsUp l := fun i hi hl =>
  ⟨(hw _ (List.getElem_mem hl)).1, (hw _ (List.getElem_mem hl)).2, fun h0 => List.pairwise_iff_getElem.1 h (i - 1) i (by omega) hl (by omega)⟩
theorem tagsUp_word {l : List Tag} (h : TagsUp l) : ∀ t ∈ l, WordOk t.1 ∧ WordOk t.2 := fun t ht => by
  obtain ⟨i, hi, rfl⟩ := List.getElem_of_mem ht
  exact ⟨(h i hi hi).1, (h i hi hi).2.1⟩
theorem featOk_cut {f : FeatD} (h : FeatOk f) (key : ByteArray) : FeatOk (f.1, f.2.1, cutK f.2.2 key) :=
  ⟨h.1, h.2.1, tagsUp_of ((tagsUp_kup h.2.2.1).cut key) (fun t ht => tagsUp_word h.2.2.1 t (List.mem_filter.1 ht).1), Nat.le_trans (cutK_le _ _) h.2.2.2⟩
end Go.Proofs.YtgdgnlpohnpgiaaGreatDoor
