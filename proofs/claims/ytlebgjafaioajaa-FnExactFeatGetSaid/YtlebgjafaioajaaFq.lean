/- Plain: rows of pairs with a text ahead: where a key stands, what is put, what is cut. -/
import Derived.Test.YtlebgjafaioajaaFp
namespace Go.Proofs.Ytlebgjafaioajaa
set_option linter.unusedVariables false
section
variable {α : Type}
/-- The first place of a key. -/
def atK : List (ByteArray × α) → ByteArray → Option Nat
  | [], _ => none
  | t :: l, key => if t.1 = key then some 0 else (atK l key).map (· + 1)
def optI : Option Nat → Int
  | some k => k
  | none => -1
theorem atK_some : ∀ {l : List (ByteArray × α)} {key : ByteArray} (k : Nat) (h : k < l.length), l[k].1 = key → (∀ i, (hi : i < k) → (l[i]'(by omega)).1 ≠ key) → atK l key = some k
  | t :: l, key, 0, h, he, hn => by rw [atK, if_pos (show t.1 = key from he)]
  | t :: l, key, k + 1, h, he, hn => by
    rw [atK, if_neg (show t.1 ≠ key from hn 0 (by omega)), atK_some k (by simpa using h) he (fun i hi => hn (i + 1) (by omega))]
    rfl
theorem atK_none : ∀ {l : List (ByteArray × α)} {key : ByteArray}, (∀ i, (hi : i < l.length) → l[i].1 ≠ key) → atK l key = none
  | [], _, _ => rfl
  | t :: l, key, hn => by
    rw [atK, if_neg (show t.1 ≠ key from hn 0 (by simp)), atK_none (fun i hi => hn (i + 1) (by simpa using hi))]
    rfl
theorem atK_is : ∀ {l : List (ByteArray × α)} {key : ByteArray} {k : Nat}, atK l key = some k → ∃ h : k < l.length, l[k].1 = key ∧ ∀ i, (hi : i < k) → (l[i]'(by omega)).1 ≠ key
  | [], _, _, h => by simp [atK] at h
  | t :: l, key, k, h => by
    rw [atK] at h
    split at h
    · rename_i he
      injection h with h
      subst h
      exact ⟨by simp, he, fun i hi => by omega⟩
    · rename_i hne
      cases hh : atK l key with
      | none => rw [hh] at h; cases h
      | some j =>
        rw [hh] at h
        obtain rfl : j + 1 = k := by simpa using h
        obtain ⟨h1, h2, h3⟩ := atK_is hh
        refine ⟨by simpa using h1, h2, fun i hi => ?_⟩
        match i, hi with
        | 0, _ => exact hne
        | i + 1, hi => exact h3 i (by omega)
theorem atK_no : ∀ {l : List (ByteArray × α)} {key : ByteArray}, atK l key = none → ∀ i, (hi : i < l.length) → l[i].1 ≠ key
  | [], _, _, i, hi => by simp at hi
  | t :: l, key, h, i, hi => by
    rw [atK] at h
    split at h
    · cases h
    · rename_i hne
      cases hh : atK l key with
      | some j => rw [hh] at h; cases h
      | none =>
        match i, hi with
        | 0, _ => exact hne
        | i + 1, hi => exact atK_no hh i (by simpa using hi)
end
/-- What is got at a key. -/
def getT (l : List Tag) (key : ByteArray) : ByteArray × Bool := match atK l key with
  | some k => ((l.getD k tag0).2, true)
  | none => (ByteArray.empty, false)
open Classical in
noncomputable def fget (f : FeatD) (key : ByteArray) : ByteArray × Bool := if FeatOk f then getT f.2.2 key else (ByteArray.empty, false)
theorem getT_some {l : List Tag} {key : ByteArray} {k : Nat} (h : atK l key = some k) (hk : k < l.length) : getT l key = (l[k].2, true) := by
  unfold getT
  rw [h]
  simp only [List.getD_eq_getElem?_getD, List.getElem?_eq_getElem hk, Option.getD_some]
theorem getT_none {l : List Tag} {key : ByteArray} (h : atK l key = none) : getT l key = (ByteArray.empty, false) := by
  unfold getT
  rw [h]
end Go.Proofs.Ytlebgjafaioajaa
