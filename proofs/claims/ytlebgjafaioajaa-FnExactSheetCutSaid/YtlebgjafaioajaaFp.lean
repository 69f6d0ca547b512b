/- Plain: which text comes first; what it is for tags, for a thing, for a map to be ok. -/
import Derived.Test.YtlebgjafaioajaaFa
import Derived.Test.YtlebgjafaioajaaP
import Derived.Test.YtlebgjafaioajaaW2
namespace Go.Proofs.Ytlebgjafaioajaa
set_option linter.unusedVariables false
set_option linter.unusedSimpArgs false
theorem less_irr : ∀ a : List UInt8, Op.bytesLess a a = false
  | [] => rfl
  | x :: a => by simp only [Op.bytesLess, less_irr a, Bool.and_false, Bool.or_false, decide_eq_false_iff_not]; exact UInt8.lt_irrefl x
theorem less_trans : ∀ {a b c : List UInt8}, Op.bytesLess a b = true → Op.bytesLess b c = true → Op.bytesLess a c = true
  | x :: a, y :: b, z :: c, h, k => by
    simp only [Op.bytesLess, Bool.or_eq_true, decide_eq_true_eq, Bool.and_eq_true, beq_iff_eq] at h k ⊢
    rcases h with h | ⟨h, h2⟩
    · rcases k with k | ⟨k, k2⟩
      · exact .inl (UInt8.lt_trans h k)
      · subst k; exact .inl h
    · subst h
      rcases k with k | ⟨k, k2⟩
      · exact .inl k
      · exact .inr ⟨k, less_trans h2 k2⟩
  | [], y :: b, z :: c, h, k => rfl
  | [], [], z :: c, h, k => rfl
  | [], y :: b, [], h, k => by simp [Op.bytesLess] at k
  | [], [], [], h, k => h
  | x :: a, [], _, h, k => by simp [Op.bytesLess] at h
  | x :: a, y :: b, [], h, k => by simp [Op.bytesLess] at k
theorem less_eq : ∀ {a b : List UInt8}, Op.bytesLess a b = false → Op.bytesLess b a = false → a = b
  | x :: a, y :: b, h, k => by
    simp only [Op.bytesLess, Bool.or_eq_false_iff, decide_eq_false_iff_not, Bool.and_eq_false_iff, beq_eq_false_iff_ne] at h k
    have e : x = y := UInt8.le_antisymm (UInt8.not_lt.1 k.1) (UInt8.not_lt.1 h.1)
    subst e
    have h2 : Op.bytesLess a b = false := by rcases h.2 with h | h; exact absurd rfl h; exact h
    have k2 : Op.bytesLess b a = false := by rcases k.2 with h | h; exact absurd rfl h; exact h
    rw [less_eq h2 k2]
  | [], [], _, _ => rfl
  | [], y :: b, h, k => by simp [Op.bytesLess] at h
  | x :: a, [], h, k => by simp [Op.bytesLess] at k
/-- One text ahead of another. -/
def ltS (a b : ByteArray) : Bool := Op.bytesLess a.toList b.toList
theorem ltS_irr (a : ByteArray) : ltS a a = false := less_irr _
theorem ltS_trans {a b c : ByteArray} (h : ltS a b = true) (k : ltS b c = true) : ltS a c = true := less_trans h k
theorem ltS_eq {a b : ByteArray} (h : ltS a b = false) (k : ltS b a = false) : a = b := bytes_eq (less_eq h k)
theorem ltS_asymm {a b : ByteArray} (h : ltS a b = true) : ltS b a = false := by
  cases k : ltS b a with
  | false => rfl
  | true => have := ltS_trans h k; rw [ltS_irr] at this; cases this
theorem ltS_ne {a b : ByteArray} (h : ltS a b = true) : a ≠ b := by rintro rfl; rw [ltS_irr] at h; cases h
/-- Not ahead: the other one is, or they are one. -/
theorem leS_of {a b : ByteArray} : (Op.bytesLess a.toList b.toList || a.toList == b.toList) = !ltS b a := by
  cases h : ltS b a with
  | true =>
    have h1 : Op.bytesLess a.toList b.toList = false := ltS_asymm h
    rw [h1, strB_f (fun e => ltS_ne h e.symm)]; rfl
  | false =>
    cases h1 : ltS a b with
    | true => have h2 : Op.bytesLess a.toList b.toList = true := h1; rw [h2]; rfl
    | false => rw [strB_t (ltS_eq h1 h)]; simp
/-! Tags. -/
def stepT (l : List Tag) (i : Nat) : Prop := ∀ h : i < l.length, WordOk l[i].1 ∧ WordOk l[i].2 ∧ (0 < i → ltS (l[i - 1]'(by omega)).1 l[i].1 = true)
def TagsUp (l : List Tag) : Prop := ∀ i, i < l.length → stepT l i
def TagsOk (l : List Tag) : Prop := TagsUp l ∧ l.length ≤ 4
open Classical in
noncomputable def tagsOk (l : List Tag) : Bool := decide (TagsOk l)
theorem tagsOk_t {l : List Tag} : tagsOk l = true ↔ TagsOk l := by simp [tagsOk]
theorem tagsOk_f {l : List Tag} : tagsOk l = false ↔ ¬ TagsOk l := by simp [tagsOk]
def FeatOk (f : FeatD) : Prop := WordOk f.1 ∧ ShapeOk f.2.1.1 f.2.1.2 ∧ TagsOk f.2.2
open Classical in
noncomputable def featOk (f : FeatD) : Bool := decide (FeatOk f)
theorem featOk_t {f : FeatD} : featOk f = true ↔ FeatOk f := by simp [featOk]
theorem featOk_f {f : FeatD} : featOk f = false ↔ ¬ FeatOk f := by simp [featOk]
/-! Maps. -/
def stepF (l : List FeatD) (i : Nat) : Prop := ∀ h : i < l.length, FeatOk l[i] ∧ (0 < i → ltS (l[i - 1]'(by omega)).1 l[i].1 = true)
def FeatsUp (l : List FeatD) : Prop := ∀ i, i < l.length → stepF l i
def SheetOk (l : List FeatD) : Prop := FeatsUp l ∧ l.length ≤ 8
open Classical in
noncomputable def sheetOk (l : List FeatD) : Bool := decide (SheetOk l)
theorem sheetOk_t {l : List FeatD} : sheetOk l = true ↔ SheetOk l := by simp [sheetOk]
theorem sheetOk_f {l : List FeatD} : sheetOk l = false ↔ ¬ SheetOk l := by simp [sheetOk]
end Go.Proofs.Ytlebgjafaioajaa
