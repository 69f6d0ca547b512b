/- Plain: rows of pairs with a text ahead: where a key stands, what is put, what is cut. -/
import Derived.Test.YtlebgjafaioajaaFp
namespace Go.Proofs.Ytlebgjafaioajaa
set_option linter.unusedVariables false
set_option linter.unusedSimpArgs false
section
variable {α : Type}
/-- The first place of a key. -/
def atK : List (ByteArray × α) → ByteArray → Option Nat
  | [], _ => none
  | t :: l, key => if t.1 = key then some 0 else (atK l key).map (· + 1)
def optI : Option Nat → Int
  | some k => k
  | none => -1
theorem atK_some : ∀ {l : List (ByteArray × α)} {key : ByteArray} (k : Nat) (h : k < l.length), l[k].1 = key → (∀ i, (hi : i < k) → (l[i]'(by omega)).1 ≠ key) → atK l key = some k
  | t :: l, key, 0, h, he, hn => by rw [atK, if_pos (show t.1 = key from he)]
  | t :: l, key, k + 1, h, he, hn => by
    rw [atK, if_neg (show t.1 ≠ key from hn 0 (by omega)), atK_some k (by simpa using h) he (fun i hi => hn (i + 1) (by omega))]
    rfl
theorem atK_none : ∀ {l : List (ByteArray × α)} {key : ByteArray}, (∀ i, (hi : i < l.length) → l[i].1 ≠ key) → atK l key = none
  | [], _, _ => rfl
  | t :: l, key, hn => by
    rw [atK, if_neg (show t.1 ≠ key from hn 0 (by simp)), atK_none (fun i hi => hn (i + 1) (by simpa using hi))]
    rfl
theorem atK_is : ∀ {l : List (ByteArray × α)} {key : ByteArray} {k : Nat}, atK l key = some k → ∃ h : k < l.length, l[k].1 = key ∧ ∀ i, (hi : i < k) → (l[i]'(by omega)).1 ≠ key
  | [], _, _, h => by simp [atK] at h
  | t :: l, key, k, h => by
    rw [atK] at h
    split at h
    · rename_i he
      injection h with h
      subst h
      exact ⟨by simp, he, fun i hi => by omega⟩
    · rename_i hne
      cases hh : atK l key with
      | none => rw [hh] at h; cases h
      | some j =>
        rw [hh] at h
        obtain rfl : j + 1 = k := by simpa using h
        obtain ⟨h1, h2, h3⟩ := atK_is hh
        refine ⟨by simpa using h1, h2, fun i hi => ?_⟩
        match i, hi with
        | 0, _ => exact hne
        | i + 1, hi => exact h3 i (by omega)
theorem atK_no : ∀ {l : List (ByteArray × α)} {key : ByteArray}, atK l key = none → ∀ i, (hi : i < l.length) → l[i].1 ≠ key
  | [], _, _, i, hi => by simp at hi
  | t :: l, key, h, i, hi => by
    rw [atK] at h
    split at h
    · cases h
    · rename_i hne
      cases hh : atK l key with
      | some j => rw [hh] at h; cases h
      | none =>
        match i, hi with
        | 0, _ => exact hne
        | i + 1, hi => exact atK_no hh i (by simpa using hi)
end
/-- All but a key. -/
def cutK {α : Type} (l : List (ByteArray × α)) (key : ByteArray) : List (ByteArray × α) := l.filter fun t => !eqB t.1 key
theorem cutK_take {α : Type} (l : List (ByteArray × α)) (key : ByteArray) (k : Nat) (h : k < l.length) : cutK (l.take (k + 1)) key = cutK (l.take k) key ++ (if eqB l[k].1 key = true then [] else [l[k]]) := by
  unfold cutK
  rw [List.take_succ_eq_append_getElem h, List.filter_append]
  congr 1
  cases hx : eqB l[k].1 key <;> simp [List.filter_cons, hx]
theorem cutK_le {α : Type} (l : List (ByteArray × α)) (key : ByteArray) : (cutK l key).length ≤ l.length := List.length_filter_le _ _
/-- Where the keys go up, one place is cut. -/
theorem cutK_at {α : Type} {l : List (ByteArray × α)} {key : ByteArray} {k : Nat} (h : atK l key = some k) (hd : ∀ i j, (hi : i < l.length) → (hj : j < l.length) → i ≠ j → l[i].1 ≠ l[j].1) : cutK l key = l.take k ++ l.drop (k + 1) := by
  obtain ⟨hk, h1, h2⟩ := atK_is h
  have h3 : ∀ i, (hi : i < l.length) → i ≠ k → l[i].1 ≠ key := fun i hi hne e => hd i k hi hk hne (e.trans h1.symm)
  have e : l = l.take k ++ (l[k] :: l.drop (k + 1)) := by rw [← List.drop_eq_getElem_cons hk, List.take_append_drop]
  have f1 : (l.take k).filter (fun t => !eqB t.1 key) = l.take k := by
    rw [List.filter_eq_self]
    intro t ht
    obtain ⟨i, hi, rfl⟩ := List.getElem_of_mem ht
    have hik : i < k := by rw [List.length_take] at hi; omega
    rw [List.getElem_take]
    simp [eqB_f.2 (h3 i (by omega) (by omega))]
  have f2 : (l.drop (k + 1)).filter (fun t => !eqB t.1 key) = l.drop (k + 1) := by
    rw [List.filter_eq_self]
    intro t ht
    obtain ⟨i, hi, rfl⟩ := List.getElem_of_mem ht
    rw [List.length_drop] at hi
    rw [List.getElem_drop]
    simp [eqB_f.2 (h3 (k + 1 + i) (by omega) (by omega))]
  have f3 : eqB l[k].1 key = true := eqB_t.2 h1
  unfold cutK
  conv => lhs; rw [e]
  rw [List.filter_append, f1, List.filter_cons, if_neg (by simp [f3]), f2]
/-- What is got at a key. -/
def getT (l : List Tag) (key : ByteArray) : ByteArray × Bool := match atK l key with
  | some k => ((l.getD k tag0).2, true)
  | none => (ByteArray.empty, false)
open Classical in
noncomputable def fget (f : FeatD) (key : ByteArray) : ByteArray × Bool := if FeatOk f then getT f.2.2 key else (ByteArray.empty, false)
theorem getT_some {l : List Tag} {key : ByteArray} {k : Nat} (h : atK l key = some k) (hk : k < l.length) : getT l key = (l[k].2, true) := by
  unfold getT
  rw [h]
  simp only [List.getD_eq_getElem?_getD, List.getElem?_eq_getElem hk, Option.getD_some]
theorem getT_none {l : List Tag} {key : ByteArray} (h : atK l key = none) : getT l key = (ByteArray.empty, false) := by
  unfold getT
  rw [h]
open Classical in
noncomputable def fcut (f : FeatD) (key : ByteArray) : FeatD × Bool := if FeatOk f ∧ atK f.2.2 key ≠ none then ((f.1, f.2.1, cutK f.2.2 key), true) else (feat0, false)
theorem fcut_le (f : FeatD) (key : ByteArray) (h1 : f.2.1.2.length ≤ 1048576) (h2 : f.2.2.length ≤ 1048576) : (fcut f key).1.2.1.2.length ≤ 1048576 ∧ (fcut f key).1.2.2.length ≤ 1048576 := by
  unfold fcut
  split
  · exact ⟨h1, Nat.le_trans (cutK_le _ _) h2⟩
  · exact ⟨by simp, by simp⟩
/-- Keys that go up are apart. -/
theorem up_lt {α : Type} {l : List (ByteArray × α)} (h : ∀ i, (hi : i < l.length) → 0 < i → ltS (l[i - 1]'(by omega)).1 l[i].1 = true) : ∀ j, (hj : j < l.length) → ∀ i, (hi : i < j) → ltS (l[i]'(by omega)).1 l[j].1 = true
  | 0, _, i, hi => by omega
  | j + 1, hj, i, hi => by
    have h1 := h (j + 1) hj (by omega)
    simp only [Nat.add_sub_cancel] at h1
    rcases Nat.lt_or_ge i j with h2 | h2
    · exact ltS_trans (up_lt h j (by omega) i h2) h1
    · obtain rfl : i = j := by omega
      exact h1
theorem up_ne {α : Type} {l : List (ByteArray × α)} (h : ∀ i, (hi : i < l.length) → 0 < i → ltS (l[i - 1]'(by omega)).1 l[i].1 = true) (i j : Nat) (hi : i < l.length) (hj : j < l.length) (hne : i ≠ j) : l[i].1 ≠ l[j].1 := by
  rcases Nat.lt_or_ge i j with h1 | h1
  · exact ltS_ne (up_lt h j hj i h1)
  · exact (ltS_ne (up_lt h i hi j (by omega))).symm
theorem TagsUp.up {l : List Tag} (h : TagsUp l) : ∀ i, (hi : i < l.length) → 0 < i → ltS (l[i - 1]'(by omega)).1 l[i].1 = true := fun i hi h0 => (h i hi hi).2.2 h0
theorem FeatsUp.up {l : List FeatD} (h : FeatsUp l) : ∀ i, (hi : i < l.length) → 0 < i → ltS (l[i - 1]'(by omega)).1 l[i].1 = true := fun i hi h0 => (h i hi hi).2 h0
end Go.Proofs.Ytlebgjafaioajaa
