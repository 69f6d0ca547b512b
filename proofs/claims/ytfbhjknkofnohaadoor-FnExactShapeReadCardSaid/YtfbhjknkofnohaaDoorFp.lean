/- Plain: order of texts, tags, things, maps; places of keys; what is put. -/
import Derived.Test.YtfbhjknkofnohaaDoorFa
import Derived.Test.YtfbhjknkofnohaaDoorA
import Derived.Test.YtfbhjknkofnohaaDoorB
namespace Go.Proofs.YtfbhjknkofnohaaDoor
section
set_option linter.unusedVariables false
set_option linter.unusedSimpArgs false
theorem less_irr : ∀ a : List UInt8, Op.bytesLess a a = false
  | [] => rfl
  | x :: a => by simp only [Op.bytesLess, less_irr a, Bool.and_false, Bool.or_false, decide_eq_false_iff_not]; exact UInt8.lt_irrefl x
theorem less_trans : ∀ {a b c : List UInt8}, Op.bytesLess a b = true → Op.bytesLess b c = true → Op.bytesLess a c = true
  | x :: a, y :: b, z :: c, h, k => by
    simp only [Op.bytesLess, Bool.or_eq_true, decide_eq_true_eq, Bool.and_eq_true, beq_iff_eq] at h k ⊢
    rcases h with h | ⟨h, h2⟩
    · rcases k with k | ⟨k, k2⟩
      · exact .inl (UInt8.lt_trans h k)
      · subst k; exact .inl h
    · subst h
      rcases k with k | ⟨k, k2⟩
      · exact .inl k
      · exact .inr ⟨k, less_trans h2 k2⟩
  | [], y :: b, z :: c, h, k => rfl
  | [], [], z :: c, h, k => rfl
  | [], y :: b, [], h, k => by simp [Op.bytesLess] at k
  | [], [], [], h, k => h
  | x :: a, [], _, h, k => by simp [Op.bytesLess] at h
  | x :: a, y :: b, [], h, k => by simp [Op.bytesLess] at k
theorem less_eq : ∀ {a b : List UInt8}, Op.bytesLess a b = false → Op.bytesLess b a = false → a = b
  | x :: a, y :: b, h, k => by
    simp only [Op.bytesLess, Bool.or_eq_false_iff, decide_eq_false_iff_not, Bool.and_eq_false_iff, beq_eq_false_iff_ne] at h k
    have e : x = y := UInt8.le_antisymm (UInt8.not_lt.1 k.1) (UInt8.not_lt.1 h.1)
    subst e
    have h2 : Op.bytesLess a b = false := by rcases h.2 with h | h; exact absurd rfl h; exact h
    have k2 : Op.bytesLess b a = false := by rcases k.2 with h | h; exact absurd rfl h; exact h
    rw [less_eq h2 k2]
  | [], [], _, _ => rfl
  | [], y :: b, h, k => by simp [Op.bytesLess] at h
  | x :: a, [], h, k => by simp [Op.bytesLess] at k
/-- One text ahead of another. -/
def ltS (a b : ByteArray) : Bool := Op.bytesLess a.toList b.toList
theorem ltS_irr (a : ByteArray) : ltS a a = false := less_irr _
theorem ltS_trans {a b c : ByteArray} (h : ltS a b = true) (k : ltS b c = true) : ltS a c = true := less_trans h k
theorem ltS_eq {a b : ByteArray} (h : ltS a b = false) (k : ltS b a = false) : a = b := bytes_eq (less_eq h k)
theorem ltS_asymm {a b : ByteArray} (h : ltS a b = true) : ltS b a = false := by
  cases k : ltS b a with
  | false => rfl
  | true => have := ltS_trans h k; rw [ltS_irr] at this; cases this
theorem ltS_ne {a b : ByteArray} (h : ltS a b = true) : a ≠ b := by rintro rfl; rw [ltS_irr] at h; cases h
/-- Not ahead: the other one is, or they are one. -/
theorem leS_of {a b : ByteArray} : (Op.bytesLess a.toList b.toList || a.toList == b.toList) = !ltS b a := by
  cases h : ltS b a with
  | true =>
    have h1 : Op.bytesLess a.toList b.toList = false := ltS_asymm h
    rw [h1, strB_f (fun e => ltS_ne h e.symm)]; rfl
  | false =>
    cases h1 : ltS a b with
    | true => have h2 : Op.bytesLess a.toList b.toList = true := h1; rw [h2]; rfl
    | false => rw [strB_t (ltS_eq h1 h)]; simp
/-! Tags. -/
def stepT (l : List Tag) (i : Nat) : Prop := ∀ h : i < l.length, WordOk l[i].1 ∧ WordOk l[i].2 ∧ (0 < i → ltS (l[i - 1]'(by omega)).1 l[i].1 = true)
def TagsUp (l : List Tag) : Prop := ∀ i, i < l.length → stepT l i
def TagsOk (l : List Tag) : Prop := TagsUp l ∧ l.length ≤ 4
open Classical in
noncomputable def tagsOk (l : List Tag) : Bool := decide (TagsOk l)
theorem tagsOk_t {l : List Tag} : tagsOk l = true ↔ TagsOk l := by simp [tagsOk]
theorem tagsOk_f {l : List Tag} : tagsOk l = false ↔ ¬ TagsOk l := by simp [tagsOk]
def FeatOk (f : FeatD) : Prop := WordOk f.1 ∧ ShapeOk f.2.1.1 f.2.1.2 ∧ TagsOk f.2.2
open Classical in
noncomputable def featOk (f : FeatD) : Bool := decide (FeatOk f)
theorem featOk_t {f : FeatD} : featOk f = true ↔ FeatOk f := by simp [featOk]
theorem featOk_f {f : FeatD} : featOk f = false ↔ ¬ FeatOk f := by simp [featOk]
/-! Maps. -/
def stepF (l : List FeatD) (i : Nat) : Prop := ∀ h : i < l.length, FeatOk l[i] ∧ (0 < i → ltS (l[i - 1]'(by omega)).1 l[i].1 = true)
def FeatsUp (l : List FeatD) : Prop := ∀ i, i < l.length → stepF l i
def SheetOk (l : List FeatD) : Prop := FeatsUp l ∧ l.length ≤ 8
open Classical in
noncomputable def sheetOk (l : List FeatD) : Bool := decide (SheetOk l)
theorem sheetOk_t {l : List FeatD} : sheetOk l = true ↔ SheetOk l := by simp [sheetOk]
theorem sheetOk_f {l : List FeatD} : sheetOk l = false ↔ ¬ SheetOk l := by simp [sheetOk]
end
section
set_option linter.unusedVariables false
set_option linter.unusedSimpArgs false
section
variable {α : Type}
/-- The first place of a key. -/
def atK : List (ByteArray × α) → ByteArray → Option Nat
  | [], _ => none
  | t :: l, key => if t.1 = key then some 0 else (atK l key).map (· + 1)
def optI : Option Nat → Int
  | some k => k
  | none => -1
theorem atK_some : ∀ {l : List (ByteArray × α)} {key : ByteArray} (k : Nat) (h : k < l.length), l[k].1 = key → (∀ i, (hi : i < k) → (l[i]'(by omega)).1 ≠ key) → atK l key = some k
  | t :: l, key, 0, h, he, hn => by rw [atK, if_pos (show t.1 = key from he)]
  | t :: l, key, k + 1, h, he, hn => by
    rw [atK, if_neg (show t.1 ≠ key from hn 0 (by omega)), atK_some k (by simpa using h) he (fun i hi => hn (i + 1) (by omega))]
    rfl
theorem atK_none : ∀ {l : List (ByteArray × α)} {key : ByteArray}, (∀ i, (hi : i < l.length) → l[i].1 ≠ key) → atK l key = none
  | [], _, _ => rfl
  | t :: l, key, hn => by
    rw [atK, if_neg (show t.1 ≠ key from hn 0 (by simp)), atK_none (fun i hi => hn (i + 1) (by simpa using hi))]
    rfl
theorem atK_is : ∀ {l : List (ByteArray × α)} {key : ByteArray} {k : Nat}, atK l key = some k → ∃ h : k < l.length, l[k].1 = key ∧ ∀ i, (hi : i < k) → (l[i]'(by omega)).1 ≠ key
  | [], _, _, h => by simp [atK] at h
  | t :: l, key, k, h => by
    rw [atK] at h
    split at h
    · rename_i he
      injection h with h
      subst h
      exact ⟨by simp, he, fun i hi => by omega⟩
    · rename_i hne
      cases hh : atK l key with
      | none => rw [hh] at h; cases h
      | some j =>
        rw [hh] at h
        obtain rfl : j + 1 = k := by simpa using h
        obtain ⟨h1, h2, h3⟩ := atK_is hh
        refine ⟨by simpa using h1, h2, fun i hi => ?_⟩
        match i, hi with
        | 0, _ => exact hne
        | i + 1, hi => exact h3 i (by omega)
theorem atK_no : ∀ {l : List (ByteArray × α)} {key : ByteArray}, atK l key = none → ∀ i, (hi : i < l.length) → l[i].1 ≠ key
  | [], _, _, i, hi => by simp at hi
  | t :: l, key, h, i, hi => by
    rw [atK] at h
    split at h
    · cases h
    · rename_i hne
      cases hh : atK l key with
      | some j => rw [hh] at h; cases h
      | none =>
        match i, hi with
        | 0, _ => exact hne
        | i + 1, hi => exact atK_no hh i (by simpa using hi)
end
/-- All but a key. -/
def cutK {α : Type} (l : List (ByteArray × α)) (key : ByteArray) : List (ByteArray × α) := l.filter fun t => !eqB t.1 key
theorem cutK_take {α : Type} (l : List (ByteArray × α)) (key : ByteArray) (k : Nat) (h : k < l.length) : cutK (l.take (k + 1)) key = cutK (l.take k) key ++ (if eqB l[k].1 key = true then [] else [l[k]]) := by
  unfold cutK
  rw [List.take_succ_eq_append_getElem h, List.filter_append]
  congr 1
  cases hx : eqB l[k].1 key <;> simp [List.filter_cons, hx]
theorem cutK_le {α : Type} (l : List (ByteArray × α)) (key : ByteArray) : (cutK l key).length ≤ l.length := List.length_filter_le _ _
/-- Where the keys go up, one place is cut. -/
theorem cutK_at {α : Type} {l : List (ByteArray × α)} {key : ByteArray} {k : Nat} (h : atK l key = some k) (hd : ∀ i j, (hi : i < l.length) → (hj : j < l.length) → i ≠ j → l[i].1 ≠ l[j].1) : cutK l key = l.take k ++ l.drop (k + 1) := by
  obtain ⟨hk, h1, h2⟩ := atK_is h
  have h3 : ∀ i, (hi : i < l.length) → i ≠ k → l[i].1 ≠ key := fun i hi hne e => hd i k hi hk hne (e.trans h1.symm)
  have e : l = l.take k ++ (l[k] :: l.drop (k + 1)) := by rw [← List.drop_eq_getElem_cons hk, List.take_append_drop]
  have f1 : (l.take k).filter (fun t => !eqB t.1 key) = l.take k := by
    rw [List.filter_eq_self]
    intro t ht
    obtain ⟨i, hi, rfl⟩ := List.getElem_of_mem ht
    have hik : i < k := by rw [List.length_take] at hi; omega
    rw [List.getElem_take]
    simp [eqB_f.2 (h3 i (by omega) (by omega))]
  have f2 : (l.drop (k + 1)).filter (fun t => !eqB t.1 key) = l.drop (k + 1) := by
    rw [List.filter_eq_self]
    intro t ht
    obtain ⟨i, hi, rfl⟩ := List.getElem_of_mem ht
    rw [List.length_drop] at hi
    rw [List.getElem_drop]
    simp [eqB_f.2 (h3 (k + 1 + i) (by omega) (by omega))]
  have f3 : eqB l[k].1 key = true := eqB_t.2 h1
  unfold cutK
  conv => lhs; rw [e]
  rw [List.filter_append, f1, List.filter_cons, if_neg (by simp [f3]), f2]
/-- What is got at a key. -/
def getT (l : List Tag) (key : ByteArray) : ByteArray × Bool := match atK l key with
  | some k => ((l.getD k tag0).2, true)
  | none => (ByteArray.empty, false)
open Classical in
noncomputable def fget (f : FeatD) (key : ByteArray) : ByteArray × Bool := if FeatOk f then getT f.2.2 key else (ByteArray.empty, false)
theorem getT_some {l : List Tag} {key : ByteArray} {k : Nat} (h : atK l key = some k) (hk : k < l.length) : getT l key = (l[k].2, true) := by
  unfold getT
  rw [h]
  simp only [List.getD_eq_getElem?_getD, List.getElem?_eq_getElem hk, Option.getD_some]
theorem getT_none {l : List Tag} {key : ByteArray} (h : atK l key = none) : getT l key = (ByteArray.empty, false) := by
  unfold getT
  rw [h]
open Classical in
noncomputable def fcut (f : FeatD) (key : ByteArray) : FeatD × Bool := if FeatOk f ∧ atK f.2.2 key ≠ none then ((f.1, f.2.1, cutK f.2.2 key), true) else (feat0, false)
theorem fcut_le (f : FeatD) (key : ByteArray) (h1 : f.2.1.2.length ≤ 1048576) (h2 : f.2.2.length ≤ 1048576) : (fcut f key).1.2.1.2.length ≤ 1048576 ∧ (fcut f key).1.2.2.length ≤ 1048576 := by
  unfold fcut
  split
  · exact ⟨h1, Nat.le_trans (cutK_le _ _) h2⟩
  · exact ⟨by simp, by simp⟩
/-- Keys that go up are apart. -/
theorem up_lt {α : Type} {l : List (ByteArray × α)} (h : ∀ i, (hi : i < l.length) → 0 < i → ltS (l[i - 1]'(by omega)).1 l[i].1 = true) : ∀ j, (hj : j < l.length) → ∀ i, (hi : i < j) → ltS (l[i]'(by omega)).1 l[j].1 = true
  | 0, _, i, hi => by omega
  | j + 1, hj, i, hi => by
    have h1 := h (j + 1) hj (by omega)
    simp only [Nat.add_sub_cancel] at h1
    rcases Nat.lt_or_ge i j with h2 | h2
    · exact ltS_trans (up_lt h j (by omega) i h2) h1
    · obtain rfl : i = j := by omega
      exact h1
theorem up_ne {α : Type} {l : List (ByteArray × α)} (h : ∀ i, (hi : i < l.length) → 0 < i → ltS (l[i - 1]'(by omega)).1 l[i].1 = true) (i j : Nat) (hi : i < l.length) (hj : j < l.length) (hne : i ≠ j) : l[i].1 ≠ l[j].1 := by
  rcases Nat.lt_or_ge i j with h1 | h1
  · exact ltS_ne (up_lt h j hj i h1)
  · exact (ltS_ne (up_lt h i hi j (by omega))).symm
theorem TagsUp.up {l : List Tag} (h : TagsUp l) : ∀ i, (hi : i < l.length) → 0 < i → ltS (l[i - 1]'(by omega)).1 l[i].1 = true := fun i hi h0 => (h i hi hi).2.2 h0
theorem FeatsUp.up {l : List FeatD} (h : FeatsUp l) : ∀ i, (hi : i < l.length) → 0 < i → ltS (l[i - 1]'(by omega)).1 l[i].1 = true := fun i hi h0 => (h i hi hi).2 h0
end
section
set_option linter.unusedVariables false
set_option linter.unusedSimpArgs false
section
variable {α : Type}
/-- One step of a putting. -/
def stepP (x : ByteArray × α) (s : List (ByteArray × α) × Bool) (t : ByteArray × α) : List (ByteArray × α) × Bool :=
  ((if !s.2 && !ltS t.1 x.1 then s.1 ++ [x] else s.1) ++ (if eqB t.1 x.1 = true then [] else [t]), s.2 || !ltS t.1 x.1)
def putS (x : ByteArray × α) (l : List (ByteArray × α)) : List (ByteArray × α) × Bool := l.foldl (stepP x) ([], false)
/-- A row with a pair put. -/
def putK (l : List (ByteArray × α)) (x : ByteArray × α) : List (ByteArray × α) := if (putS x l).2 = true then (putS x l).1 else (putS x l).1 ++ [x]
theorem putS_take (x : ByteArray × α) (l : List (ByteArray × α)) (k : Nat) (h : k < l.length) : putS x (l.take (k + 1)) = stepP x (putS x (l.take k)) l[k] := by
  unfold putS
  rw [List.take_succ_eq_append_getElem h, List.foldl_append]
  rfl
theorem stepP_le (x t : ByteArray × α) (s : List (ByteArray × α) × Bool) : (stepP x s t).1.length + (!(stepP x s t).2).toNat ≤ s.1.length + 1 + (!s.2).toNat := by
  obtain ⟨a, b⟩ := s
  unfold stepP
  cases b <;> cases ltS t.1 x.1 <;> cases eqB t.1 x.1 <;> simp
theorem foldP_le (x : ByteArray × α) : ∀ (l : List (ByteArray × α)) (s : List (ByteArray × α) × Bool), (l.foldl (stepP x) s).1.length + (!(l.foldl (stepP x) s).2).toNat ≤ s.1.length + l.length + (!s.2).toNat
  | [], s => by simp
  | t :: l, s => by
    have h1 := foldP_le x l (stepP x s t)
    have h2 := stepP_le x t s
    simp only [List.foldl_cons, List.length_cons]
    omega
theorem putS_le (x : ByteArray × α) (l : List (ByteArray × α)) : (putS x l).1.length + (!(putS x l).2).toNat ≤ l.length + 1 := by
  have := foldP_le x l ([], false)
  unfold putS
  simpa using this
theorem putK_le (l : List (ByteArray × α)) (x : ByteArray × α) : (putK l x).length ≤ l.length + 1 := by
  have := putS_le x l
  unfold putK
  cases h : (putS x l).2 <;> rw [h] at this <;> simp at this ⊢ <;> omega
/-- The same from the front. -/
def putR (x : ByteArray × α) : List (ByteArray × α) → List (ByteArray × α)
  | [] => [x]
  | t :: l => if ltS t.1 x.1 = true then t :: putR x l else x :: cutK (t :: l) x.1
theorem foldP_done (x : ByteArray × α) : ∀ (l acc : List (ByteArray × α)), l.foldl (stepP x) (acc, true) = (acc ++ cutK l x.1, true)
  | [], acc => by simp [cutK]
  | t :: l, acc => by
    have h : stepP x (acc, true) t = (acc ++ (if eqB t.1 x.1 = true then [] else [t]), true) := by simp [stepP]
    rw [List.foldl_cons, h, foldP_done x l]
    cases hx : eqB t.1 x.1 <;> simp [cutK, List.filter_cons, hx]
theorem foldP_not (x : ByteArray × α) : ∀ (l acc : List (ByteArray × α)), (if (l.foldl (stepP x) (acc, false)).2 = true then (l.foldl (stepP x) (acc, false)).1 else (l.foldl (stepP x) (acc, false)).1 ++ [x]) = acc ++ putR x l
  | [], acc => by simp [putR]
  | t :: l, acc => by
    rw [List.foldl_cons]
    cases h : ltS t.1 x.1 with
    | true =>
      have hs : stepP x (acc, false) t = (acc ++ [t], false) := by simp [stepP, h, eqB_f.2 (ltS_ne h)]
      rw [hs, foldP_not x l, putR, if_pos h]
      simp
    | false =>
      have hs : stepP x (acc, false) t = (acc ++ [x] ++ (if eqB t.1 x.1 = true then [] else [t]), true) := by simp [stepP, h]
      rw [hs, foldP_done]
      simp only [if_pos]
      have e : putR x (t :: l) = x :: cutK (t :: l) x.1 := by rw [putR]; exact if_neg (by simp [h])
      rw [e]
      cases hx : eqB t.1 x.1 <;> simp [cutK, List.filter_cons, hx]
theorem putK_eq (l : List (ByteArray × α)) (x : ByteArray × α) : putK l x = putR x l := by
  unfold putK putS
  exact (foldP_not x l []).trans (List.nil_append _)
abbrev KUp (l : List (ByteArray × α)) : Prop := l.Pairwise fun a b => ltS a.1 b.1 = true
theorem kup {l : List (ByteArray × α)} (h : ∀ i, (hi : i < l.length) → 0 < i → ltS (l[i - 1]'(by omega)).1 l[i].1 = true) : KUp l :=
  List.pairwise_iff_getElem.2 fun i j hi hj hij => up_lt h j hj i hij
theorem cutK_none {l : List (ByteArray × α)} {key : ByteArray} (h : ∀ t ∈ l, t.1 ≠ key) : cutK l key = l := by
  unfold cutK
  rw [List.filter_eq_self]
  intro t ht
  simp [eqB_f.2 (h t ht)]
/-- No such key: one place is left. -/
theorem putR_ins {x : ByteArray × α} : ∀ {l : List (ByteArray × α)}, KUp l → (∀ t ∈ l, t.1 ≠ x.1) → ∃ p, p ≤ l.length ∧ putR x l = l.take p ++ x :: l.drop p ∧ (∀ i, (hi : i < l.length) → i < p → ltS l[i].1 x.1 = true) ∧ (∀ i, (hi : i < l.length) → p ≤ i → ltS x.1 l[i].1 = true)
  | [], _, _ => ⟨0, by simp, rfl, fun i hi => by simp at hi, fun i hi => by simp at hi⟩
  | t :: l, hu, hn => by
    have hu2 := List.pairwise_cons.1 hu
    cases h : ltS t.1 x.1 with
    | true =>
      obtain ⟨p, h1, h2, h3, h4⟩ := putR_ins hu2.2 (fun u hu => hn u (List.mem_cons_of_mem _ hu))
      refine ⟨p + 1, by simpa using h1, by rw [putR, if_pos h, h2]; rfl, fun i hi hp => ?_, fun i hi hp => ?_⟩
      · match i, hp with
        | 0, _ => exact h
        | i + 1, hp => exact h3 i (by simpa using hi) (by omega)
      · match i, hp with
        | 0, hp => omega
        | i + 1, hp => exact h4 i (by simpa using hi) (by omega)
    | false =>
      have hx : ltS x.1 t.1 = true := by
        cases hx : ltS x.1 t.1 with
        | true => rfl
        | false => exact absurd (ltS_eq h hx) (hn t (List.mem_cons_self))
      refine ⟨0, by simp, by rw [putR, if_neg (by simp [h]), cutK_none hn]; rfl, fun i hi hp => by omega, fun i hi hp => ?_⟩
      match i, hi with
      | 0, _ => exact hx
      | i + 1, hi => exact ltS_trans hx (hu2.1 _ (List.getElem_mem (by simpa using hi)))
/-- A key that is there. -/
theorem putR_at {x : ByteArray × α} : ∀ {l : List (ByteArray × α)} {k : Nat}, KUp l → atK l x.1 = some k → putR x l = l.set k x
  | [], k, _, h => by simp [atK] at h
  | t :: l, k, hu, h => by
    have hu2 := List.pairwise_cons.1 hu
    rw [atK] at h
    split at h
    · rename_i he
      injection h with h
      subst h
      rw [putR, if_neg (by rw [he, ltS_irr]; simp)]
      have hc : cutK (t :: l) x.1 = l := by
        have : cutK (t :: l) x.1 = cutK l x.1 := by unfold cutK; rw [List.filter_cons, if_neg (by simp [eqB_t.2 he])]
        rw [this, cutK_none (fun u hm => fun e => ltS_ne (hu2.1 u hm) (he.trans e.symm))]
      rw [hc]
      rfl
    · rename_i hne
      cases hh : atK l x.1 with
      | none => rw [hh] at h; cases h
      | some j =>
        rw [hh] at h
        obtain rfl : j + 1 = k := by simpa using h
        obtain ⟨hj, hj1, _⟩ := atK_is hh
        have hlt : ltS t.1 x.1 = true := by rw [← hj1]; exact hu2.1 _ (List.getElem_mem hj)
        rw [putR, if_pos hlt, putR_at hu2.2 hh]
        rfl
/-! A row with a pair at a place: what insertion does. -/
def insK (l : List (ByteArray × α)) (x : ByteArray × α) (p : Nat) : List (ByteArray × α) := l.take p ++ x :: l.drop p
theorem insK_len (l : List (ByteArray × α)) (x : ByteArray × α) (p : Nat) (h : p ≤ l.length) : (insK l x p).length = l.length + 1 := by
  unfold insK; simp; omega
theorem insK_end (l : List (ByteArray × α)) (x : ByteArray × α) : insK l x l.length = l ++ [x] := by simp [insK]
theorem insK_get (l : List (ByteArray × α)) (x : ByteArray × α) (p i : Nat) (h : p ≤ l.length) : (insK l x p)[i]? = if i < p then l[i]? else if i = p then some x else l[i - 1]? := by
  unfold insK
  rw [List.getElem?_append, List.length_take, Nat.min_eq_left h]
  split
  · rw [List.getElem?_take_of_lt (by assumption)]
  · split
    · rename_i h2; subst h2; simp
    · rw [List.getElem?_cons, if_neg (by omega), List.getElem?_drop]
      congr 1
      omega
/-- Two neighbours are exchanged. -/
theorem insK_swap (l : List (ByteArray × α)) (x : ByteArray × α) (p : Nat) (h : p < l.length) : ((insK l x (p + 1)).set (p + 1) l[p]).set p x = insK l x p := by
  apply List.ext_getElem?
  intro i
  have h1 : (insK l x (p + 1)).length = l.length + 1 := insK_len _ _ _ (by omega)
  rw [List.getElem?_set, List.length_set, h1, List.getElem?_set, h1, insK_get _ _ _ _ (by omega), insK_get _ _ _ _ (by omega)]
  by_cases h2 : p = i
  · subst h2
    rw [if_pos rfl, if_pos (by omega), if_neg (by omega), if_pos rfl]
  · rw [if_neg h2]
    by_cases h3 : p + 1 = i
    · subst h3
      rw [if_pos rfl, if_pos (by omega), if_neg (by omega), if_neg (by omega)]
      simp [h]
    · rw [if_neg h3]
      by_cases h4 : i < p
      · rw [if_pos (by omega), if_pos h4]
      · rw [if_neg (by omega), if_neg (by omega), if_neg (by omega), if_neg (by omega)]
end
open Classical in
/-- A thing with a tag put. -/
noncomputable def fput (f : FeatD) (key val : ByteArray) : FeatD × Bool := if FeatOk f ∧ FeatOk (f.1, f.2.1, putK f.2.2 (key, val)) then ((f.1, f.2.1, putK f.2.2 (key, val)), true) else (feat0, false)
theorem fput_le (f : FeatD) (key val : ByteArray) (h1 : f.2.1.2.length ≤ 1048576) (h2 : f.2.2.length ≤ 1048576) : (fput f key val).1.2.1.2.length ≤ 1048576 ∧ (fput f key val).1.2.2.length ≤ 1048576 := by
  unfold fput
  split
  · rename_i h
    exact ⟨h1, Nat.le_trans h.2.2.2.2 (by decide)⟩
  · exact ⟨by simp, by simp⟩
end
end Go.Proofs.YtfbhjknkofnohaaDoor
