/- Plain: what is put at a key: in the order of a walk, at the place of the key, at the one place that order leaves. -/
import Derived.Test.YtlebgjafaioajaaFq
namespace Go.Proofs.Ytlebgjafaioajaa
set_option linter.unusedVariables false
set_option linter.unusedSimpArgs false
section
variable {α : Type}
/-- One step of a putting. -/
def stepP (x : ByteArray × α) (s : List (ByteArray × α) × Bool) (t : ByteArray × α) : List (ByteArray × α) × Bool :=
  ((if !s.2 && !ltS t.1 x.1 then s.1 ++ [x] else s.1) ++ (if eqB t.1 x.1 = true then [] else [t]), s.2 || !ltS t.1 x.1)
def putS (x : ByteArray × α) (l : List (ByteArray × α)) : List (ByteArray × α) × Bool := l.foldl (stepP x) ([], false)
/-- A row with a pair put. -/
def putK (l : List (ByteArray × α)) (x : ByteArray × α) : List (ByteArray × α) := if (putS x l).2 = true then (putS x l).1 else (putS x l).1 ++ [x]
theorem putS_take (x : ByteArray × α) (l : List (ByteArray × α)) (k : Nat) (h : k < l.length) : putS x (l.take (k + 1)) = stepP x (putS x (l.take k)) l[k] := by
  unfold putS
  rw [List.take_succ_eq_append_getElem h, List.foldl_append]
  rfl
theorem stepP_le (x t : ByteArray × α) (s : List (ByteArray × α) × Bool) : (stepP x s t).1.length + (!(stepP x s t).2).toNat ≤ s.1.length + 1 + (!s.2).toNat := by
  obtain ⟨a, b⟩ := s
  unfold stepP
  cases b <;> cases ltS t.1 x.1 <;> cases eqB t.1 x.1 <;> simp
theorem foldP_le (x : ByteArray × α) : ∀ (l : List (ByteArray × α)) (s : List (ByteArray × α) × Bool), (l.foldl (stepP x) s).1.length + (!(l.foldl (stepP x) s).2).toNat ≤ s.1.length + l.length + (!s.2).toNat
  | [], s => by simp
  | t :: l, s => by
    have h1 := foldP_le x l (stepP x s t)
    have h2 := stepP_le x t s
    simp only [List.foldl_cons, List.length_cons]
    omega
theorem putS_le (x : ByteArray × α) (l : List (ByteArray × α)) : (putS x l).1.length + (!(putS x l).2).toNat ≤ l.length + 1 := by
  have := foldP_le x l ([], false)
  unfold putS
  simpa using this
theorem putK_le (l : List (ByteArray × α)) (x : ByteArray × α) : (putK l x).length ≤ l.length + 1 := by
  have := putS_le x l
  unfold putK
  cases h : (putS x l).2 <;> rw [h] at this <;> simp at this ⊢ <;> omega
/-- The same from the front. -/
def putR (x : ByteArray × α) : List (ByteArray × α) → List (ByteArray × α)
  | [] => [x]
  | t :: l => if ltS t.1 x.1 = true then t :: putR x l else x :: cutK (t :: l) x.1
theorem foldP_done (x : ByteArray × α) : ∀ (l acc : List (ByteArray × α)), l.foldl (stepP x) (acc, true) = (acc ++ cutK l x.1, true)
  | [], acc => by simp [cutK]
  | t :: l, acc => by
    have h : stepP x (acc, true) t = (acc ++ (if eqB t.1 x.1 = true then [] else [t]), true) := by simp [stepP]
    rw [List.foldl_cons, h, foldP_done x l]
    cases hx : eqB t.1 x.1 <;> simp [cutK, List.filter_cons, hx]
theorem foldP_not (x : ByteArray × α) : ∀ (l acc : List (ByteArray × α)), (if (l.foldl (stepP x) (acc, false)).2 = true then (l.foldl (stepP x) (acc, false)).1 else (l.foldl (stepP x) (acc, false)).1 ++ [x]) = acc ++ putR x l
  | [], acc => by simp [putR]
  | t :: l, acc => by
    rw [List.foldl_cons]
    cases h : ltS t.1 x.1 with
    | true =>
      have hs : stepP x (acc, false) t = (acc ++ [t], false) := by simp [stepP, h, eqB_f.2 (ltS_ne h)]
      rw [hs, foldP_not x l, putR, if_pos h]
      simp
    | false =>
      have hs : stepP x (acc, false) t = (acc ++ [x] ++ (if eqB t.1 x.1 = true then [] else [t]), true) := by simp [stepP, h]
      rw [hs, foldP_done]
      simp only [if_pos]
      have e : putR x (t :: l) = x :: cutK (t :: l) x.1 := by rw [putR]; exact if_neg (by simp [h])
      rw [e]
      cases hx : eqB t.1 x.1 <;> simp [cutK, List.filter_cons, hx]
theorem putK_eq (l : List (ByteArray × α)) (x : ByteArray × α) : putK l x = putR x l := by
  unfold putK putS
  exact (foldP_not x l []).trans (List.nil_append _)
abbrev KUp (l : List (ByteArray × α)) : Prop := l.Pairwise fun a b => ltS a.1 b.1 = true
theorem kup {l : List (ByteArray × α)} (h : ∀ i, (hi : i < l.length) → 0 < i → ltS (l[i - 1]'(by omega)).1 l[i].1 = true) : KUp l :=
  List.pairwise_iff_getElem.2 fun i j hi hj hij => up_lt h j hj i hij
theorem cutK_none {l : List (ByteArray × α)} {key : ByteArray} (h : ∀ t ∈ l, t.1 ≠ key) : cutK l key = l := by
  unfold cutK
  rw [List.filter_eq_self]
  intro t ht
  simp [eqB_f.2 (h t ht)]
/-- No such key: one place is left. -/
theorem putR_ins {x : ByteArray × α} : ∀ {l : List (ByteArray × α)}, KUp l → (∀ t ∈ l, t.1 ≠ x.1) → ∃ p, p ≤ l.length ∧ putR x l = l.take p ++ x :: l.drop p ∧ (∀ i, (hi : i < l.length) → i < p → ltS l[i].1 x.1 = true) ∧ (∀ i, (hi : i < l.length) → p ≤ i → ltS x.1 l[i].1 = true)
  | [], _, _ => ⟨0, by simp, rfl, fun i hi => by simp at hi, fun i hi => by simp at hi⟩
  | t :: l, hu, hn => by
    have hu2 := List.pairwise_cons.1 hu
    cases h : ltS t.1 x.1 with
    | true =>
      obtain ⟨p, h1, h2, h3, h4⟩ := putR_ins hu2.2 (fun u hu => hn u (List.mem_cons_of_mem _ hu))
      refine ⟨p + 1, by simpa using h1, by rw [putR, if_pos h, h2]; rfl, fun i hi hp => ?_, fun i hi hp => ?_⟩
      · match i, hp with
        | 0, _ => exact h
        | i + 1, hp => exact h3 i (by simpa using hi) (by omega)
      · match i, hp with
        | 0, hp => omega
        | i + 1, hp => exact h4 i (by simpa using hi) (by omega)
    | false =>
      have hx : ltS x.1 t.1 = true := by
        cases hx : ltS x.1 t.1 with
        | true => rfl
        | false => exact absurd (ltS_eq h hx) (hn t (List.mem_cons_self))
      refine ⟨0, by simp, by rw [putR, if_neg (by simp [h]), cutK_none hn]; rfl, fun i hi hp => by omega, fun i hi hp => ?_⟩
      match i, hi with
      | 0, _ => exact hx
      | i + 1, hi => exact ltS_trans hx (hu2.1 _ (List.getElem_mem (by simpa using hi)))
/-- A key that is there. -/
theorem putR_at {x : ByteArray × α} : ∀ {l : List (ByteArray × α)} {k : Nat}, KUp l → atK l x.1 = some k → putR x l = l.set k x
  | [], k, _, h => by simp [atK] at h
  | t :: l, k, hu, h => by
    have hu2 := List.pairwise_cons.1 hu
    rw [atK] at h
    split at h
    · rename_i he
      injection h with h
      subst h
      rw [putR, if_neg (by rw [he, ltS_irr]; simp)]
      have hc : cutK (t :: l) x.1 = l := by
        have : cutK (t :: l) x.1 = cutK l x.1 := by unfold cutK; rw [List.filter_cons, if_neg (by simp [eqB_t.2 he])]
        rw [this, cutK_none (fun u hm => fun e => ltS_ne (hu2.1 u hm) (he.trans e.symm))]
      rw [hc]
      rfl
    · rename_i hne
      cases hh : atK l x.1 with
      | none => rw [hh] at h; cases h
      | some j =>
        rw [hh] at h
        obtain rfl : j + 1 = k := by simpa using h
        obtain ⟨hj, hj1, _⟩ := atK_is hh
        have hlt : ltS t.1 x.1 = true := by rw [← hj1]; exact hu2.1 _ (List.getElem_mem hj)
        rw [putR, if_pos hlt, putR_at hu2.2 hh]
        rfl
/-! A row with a pair at a place: what insertion does. -/
def insK (l : List (ByteArray × α)) (x : ByteArray × α) (p : Nat) : List (ByteArray × α) := l.take p ++ x :: l.drop p
theorem insK_len (l : List (ByteArray × α)) (x : ByteArray × α) (p : Nat) (h : p ≤ l.length) : (insK l x p).length = l.length + 1 := by
  unfold insK; simp; omega
theorem insK_end (l : List (ByteArray × α)) (x : ByteArray × α) : insK l x l.length = l ++ [x] := by simp [insK]
theorem insK_get (l : List (ByteArray × α)) (x : ByteArray × α) (p i : Nat) (h : p ≤ l.length) : (insK l x p)[i]? = if i < p then l[i]? else if i = p then some x else l[i - 1]? := by
  unfold insK
  rw [List.getElem?_append, List.length_take, Nat.min_eq_left h]
  split
  · rw [List.getElem?_take_of_lt (by assumption)]
  · split
    · rename_i h2; subst h2; simp
    · rw [List.getElem?_cons, if_neg (by omega), List.getElem?_drop]
      congr 1
      omega
/-- Two neighbours are exchanged. -/
theorem insK_swap (l : List (ByteArray × α)) (x : ByteArray × α) (p : Nat) (h : p < l.length) : ((insK l x (p + 1)).set (p + 1) l[p]).set p x = insK l x p := by
  apply List.ext_getElem?
  intro i
  have h1 : (insK l x (p + 1)).length = l.length + 1 := insK_len _ _ _ (by omega)
  rw [List.getElem?_set, List.length_set, h1, List.getElem?_set, h1, insK_get _ _ _ _ (by omega), insK_get _ _ _ _ (by omega)]
  by_cases h2 : p = i
  · subst h2
    rw [if_pos rfl, if_pos (by omega), if_neg (by omega), if_pos rfl]
  · rw [if_neg h2]
    by_cases h3 : p + 1 = i
    · subst h3
      rw [if_pos rfl, if_pos (by omega), if_neg (by omega), if_neg (by omega)]
      simp [h]
    · rw [if_neg h3]
      by_cases h4 : i < p
      · rw [if_pos (by omega), if_pos h4]
      · rw [if_neg (by omega), if_neg (by omega), if_neg (by omega), if_neg (by omega)]
end
open Classical in
/-- A thing with a tag put. -/
noncomputable def fput (f : FeatD) (key val : ByteArray) : FeatD × Bool := if FeatOk f ∧ FeatOk (f.1, f.2.1, putK f.2.2 (key, val)) then ((f.1, f.2.1, putK f.2.2 (key, val)), true) else (feat0, false)
theorem fput_le (f : FeatD) (key val : ByteArray) (h1 : f.2.1.2.length ≤ 1048576) (h2 : f.2.2.length ≤ 1048576) : (fput f key val).1.2.1.2.length ≤ 1048576 ∧ (fput f key val).1.2.2.length ≤ 1048576 := by
  unfold fput
  split
  · rename_i h
    exact ⟨h1, Nat.le_trans h.2.2.2.2 (by decide)⟩
  · exact ⟨by simp, by simp⟩
end Go.Proofs.Ytlebgjafaioajaa
