/- Plain: rings from another of their points on: which comes first, what is ok, areas. -/
import Derived.Test.YtfapledohlckoaaQc
namespace Go.Proofs.Ytfapledohlckoaa
def lessPt (a b : Pt) : Bool := decide (a.1 < b.1 ∨ a.1 = b.1 ∧ a.2 < b.2)
theorem lessPt_t {a b : Pt} : lessPt a b = true ↔ (a.1 < b.1 ∨ a.1 = b.1 ∧ a.2 < b.2) := by simp [lessPt]
theorem lessPt_irr (a : Pt) : lessPt a a = false := by simp [lessPt]
theorem lessPt_trans {a b c : Pt} (h : lessPt a b = true) (k : lessPt b c = true) : lessPt a c = true := by
  rw [lessPt_t] at *; omega
theorem lessPt_ne {a b : Pt} (h : lessPt a b = false) (k : lessPt b a = false) : a = b := by
  have h1 : ¬ lessPt a b = true := by simp [h]
  have k1 : ¬ lessPt b a = true := by simp [k]
  rw [lessPt_t] at h1 k1
  exact Prod.ext (by omega) (by omega)
def aheadL : List Pt → List Pt → Bool
  | x :: a, y :: b => if x = y then aheadL a b else lessPt x y
  | [], _ :: _ => true
  | [], [] => false
  | _ :: _, [] => false
theorem aheadL_irr : ∀ a : List Pt, aheadL a a = false
  | [] => rfl
  | x :: a => by rw [aheadL, if_pos rfl]; exact aheadL_irr a
theorem aheadL_trans : ∀ {a b c : List Pt}, aheadL a b = true → aheadL b c = true → aheadL a c = true
  | x :: a, y :: b, z :: c, h, k => by
    rw [aheadL] at h k ⊢
    by_cases e : x = y
    · subst e
      rw [if_pos rfl] at h
      by_cases e2 : x = z
      · rw [if_pos e2] at k ⊢
        exact aheadL_trans h k
      · rw [if_neg e2] at k ⊢
        exact k
    · rw [if_neg e] at h
      by_cases e2 : y = z
      · subst e2
        rw [if_neg e]
        exact h
      · rw [if_neg e2] at k
        by_cases e3 : x = z
        · subst e3
          have := lessPt_trans h k
          rw [lessPt_irr] at this
          cases this
        · rw [if_neg e3]
          exact lessPt_trans h k
  | [], y :: b, z :: c, h, k => rfl
  | [], [], z :: c, h, k => rfl
  | [], y :: b, [], h, k => by simp [aheadL] at k
  | [], [], [], h, k => h
  | x :: a, [], _, h, k => by simp [aheadL] at h
  | x :: a, y :: b, [], h, k => by simp [aheadL] at k
theorem aheadL_eq : ∀ {a b : List Pt}, aheadL a b = false → aheadL b a = false → a = b
  | x :: a, y :: b, h, k => by
    rw [aheadL] at h k
    by_cases e : x = y
    · subst e
      rw [if_pos rfl] at h k
      rw [aheadL_eq h k]
    · rw [if_neg e] at h
      rw [if_neg (fun e2 => e e2.symm)] at k
      exact absurd (lessPt_ne h k) e
  | [], [], _, _ => rfl
  | [], y :: b, h, k => by simp [aheadL] at h
  | x :: a, [], h, k => by simp [aheadL] at k
/-- The first place where two rows part. -/
theorem aheadL_part : ∀ (k : Nat) (a b : List Pt) (ha : k < a.length) (hb : k < b.length), a.take k = b.take k → a[k] ≠ b[k] → aheadL a b = lessPt a[k] b[k]
  | 0, x :: a, y :: b, _, _, _, hne => by rw [aheadL]; exact if_neg hne
  | k + 1, x :: a, y :: b, ha, hb, he, hne => by
    simp only [List.take_succ_cons, List.cons.injEq] at he
    rw [aheadL, if_pos he.1]
    exact aheadL_part k a b (by simpa using ha) (by simpa using hb) he.2 hne
theorem aheadL_short : ∀ (a b : List Pt), a.take b.length = b.take a.length → aheadL a b = decide (a.length < b.length)
  | [], [], _ => rfl
  | [], _ :: _, _ => rfl
  | _ :: _, [], _ => rfl
  | x :: a, y :: b, h => by
    simp only [List.length_cons, List.take_succ_cons, List.cons.injEq] at h
    rw [aheadL, if_pos h.1, aheadL_short a b h.2]
    simp
def rot (l : List Pt) (k : Nat) : List Pt := l.drop k ++ l.take k
theorem rot_zero (l : List Pt) : rot l 0 = l := by simp [rot]
theorem rot_len {l : List Pt} {k : Nat} : (rot l k).length = l.length := by simp [rot]; omega
theorem rot_full (l : List Pt) : rot l l.length = l := by simp [rot]
theorem rot_rot {l : List Pt} {k j : Nat} (h : k + j ≤ l.length) : rot (rot l k) j = rot l (k + j) := by
  have hl : (l.drop k).length = l.length - k := List.length_drop
  unfold rot
  rw [List.drop_append_of_le_length (by omega), List.take_append_of_le_length (by omega), List.drop_drop, List.append_assoc, ← List.take_add]
theorem rot_back {l : List Pt} {k : Nat} (h : k ≤ l.length) : rot (rot l k) (l.length - k) = l := by
  rw [rot_rot (by omega), Nat.add_sub_of_le h, rot_full]
def Rt (l m : List Pt) : Prop := ∃ k, k ≤ l.length ∧ m = rot l k
theorem Rt.len {l m : List Pt} (h : Rt l m) : m.length = l.length := by obtain ⟨k, _, rfl⟩ := h; exact rot_len
theorem Rt.refl (l : List Pt) : Rt l l := ⟨0, by omega, (rot_zero l).symm⟩
theorem Rt.symm {l m : List Pt} (h : Rt l m) : Rt m l := by
  obtain ⟨k, hk, rfl⟩ := h
  exact ⟨l.length - k, by rw [rot_len]; omega, (rot_back hk).symm⟩
theorem Rt.trans {l m n : List Pt} (h : Rt l m) (h2 : Rt m n) : Rt l n := by
  obtain ⟨k, hk, rfl⟩ := h
  obtain ⟨j, hj, rfl⟩ := h2
  rw [rot_len] at hj
  rcases Nat.le_total (k + j) l.length with h | h
  · exact ⟨k + j, h, rot_rot h⟩
  · refine ⟨j - (l.length - k), by omega, ?_⟩
    have e : j = (l.length - k) + (j - (l.length - k)) := by omega
    rw [e, ← rot_rot (by rw [rot_len]; omega), rot_back hk]
    congr 1
    omega
theorem Rt.mem {l m : List Pt} (h : Rt l m) (x : Pt) : x ∈ l ↔ x ∈ m := by
  obtain ⟨k, hk, rfl⟩ := h
  unfold rot
  rw [List.mem_append, or_comm, ← List.mem_append, List.take_append_drop]
theorem Rt.ind {P : List Pt → Prop} {l m : List Pt} (h : Rt l m) (h0 : P l) (hs : ∀ x r, r.length + 1 = l.length → P (x :: r) → P (r ++ [x])) : P m := by
  obtain ⟨k, hk, rfl⟩ := h
  induction k with
  | zero => rw [rot_zero]; exact h0
  | succ k ih =>
    have h1 := ih (by omega)
    rw [← rot_rot hk]
    have hl : (rot l k).length = l.length := rot_len
    generalize rot l k = q at *
    match q, hl with
    | x :: r, hl =>
      show P (List.drop 1 (x :: r) ++ List.take 1 (x :: r))
      exact hs x r (by simpa using hl) h1
    | [], hl => simp at hl; omega
theorem ptsOk_cons (a b : Pt) (l : List Pt) : PtsOk (a :: b :: l) ↔ ptOk a = true ∧ a ≠ b ∧ PtsOk (b :: l) := by
  constructor
  · intro h
    refine ⟨(h 0 (by simp) (by simp)).1, ?_, fun i hi hi2 => ?_⟩
    · have := (h 1 (by simp) (by simp)).2 (by omega)
      simpa using this
    · have := h (i + 1) (by simpa using hi) (by simpa using hi)
      refine ⟨by simpa using this.1, fun h0 => ?_⟩
      have h3 := this.2 (by omega)
      obtain ⟨j, rfl⟩ : ∃ j, i = j + 1 := ⟨i - 1, by omega⟩
      simpa using h3
  · rintro ⟨h1, h2, h3⟩ i hi hi2
    match i, hi with
    | 0, _ => exact ⟨h1, fun h => by omega⟩
    | 1, _ => exact ⟨(h3 0 (by simp) (by simp)).1, fun _ => h2⟩
    | i + 2, hi =>
      have := h3 (i + 1) (by simpa using hi) (by simpa using hi)
      exact ⟨this.1, fun _ => this.2 (by omega)⟩
theorem ptsOk_one (a : Pt) : PtsOk [a] ↔ ptOk a = true := by
  constructor
  · intro h; exact (h 0 (by simp) (by simp)).1
  · intro h i hi hi2
    have : i = 0 := by simp at hi; omega
    subst this
    exact ⟨h, fun h => by omega⟩
theorem ptsOk_rot (x : Pt) (r : List Pt) (h3 : 3 ≤ (x :: r).length) (h6 : (x :: r).length ≤ 6) (h : PtsOk (x :: r)) (hc : (x :: r)[0]? ≠ (x :: r)[(x :: r).length - 1]?) : PtsOk (r ++ [x]) ∧ (r ++ [x])[0]? ≠ (r ++ [x])[(r ++ [x]).length - 1]? := by
  match r, h3, h6 with
  | [b, c], _, _ => simp [ptsOk_cons, ptsOk_one] at h hc ⊢; exact ⟨⟨h.2.2.1, h.2.2.2.1, h.2.2.2.2, fun e => hc e.symm, h.1⟩, fun e => h.2.1 e.symm⟩
  | [b, c, d], _, _ => simp [ptsOk_cons, ptsOk_one] at h hc ⊢; exact ⟨⟨h.2.2.1, h.2.2.2.1, h.2.2.2.2.1, h.2.2.2.2.2.1, h.2.2.2.2.2.2, fun e => hc e.symm, h.1⟩, fun e => h.2.1 e.symm⟩
  | [b, c, d, e], _, _ => simp [ptsOk_cons, ptsOk_one] at h hc ⊢; exact ⟨⟨h.2.2.1, h.2.2.2.1, h.2.2.2.2.1, h.2.2.2.2.2.1, h.2.2.2.2.2.2.1, h.2.2.2.2.2.2.2.1, h.2.2.2.2.2.2.2.2, fun e => hc e.symm, h.1⟩, fun e => h.2.1 e.symm⟩
  | [b, c, d, e, f], _, _ => simp [ptsOk_cons, ptsOk_one] at h hc ⊢; exact ⟨⟨h.2.2.1, h.2.2.2.1, h.2.2.2.2.1, h.2.2.2.2.2.1, h.2.2.2.2.2.2.1, h.2.2.2.2.2.2.2.1, h.2.2.2.2.2.2.2.2.1, h.2.2.2.2.2.2.2.2.2.1, h.2.2.2.2.2.2.2.2.2.2, fun e => hc e.symm, h.1⟩, fun e => h.2.1 e.symm⟩
  | _ :: _ :: _ :: _ :: _ :: _ :: _, _, h => simp only [List.length_cons] at h; omega
theorem Rt.ok {l m : List Pt} (h : Rt l m) (hl : ShapeOk 3 l) : ShapeOk 3 m := by
  refine h.ind (P := ShapeOk 3) hl ?_
  intro x r _ hr
  have h2 : 3 ≤ (x :: r).length ∧ (x :: r).length ≤ 6 ∧ (x :: r)[0]? ≠ (x :: r)[(x :: r).length - 1]? := by
    rcases hr.2 with h | h | h
    · omega
    · omega
    · exact h.2
  have h3 := ptsOk_rot x r h2.1 h2.2.1 hr.1 h2.2.2
  refine ⟨h3.1, .inr (.inr ⟨rfl, ?_, ?_, h3.2⟩)⟩
  · have := h2.1; simp only [List.length_append, List.length_cons, List.length_nil] at this ⊢; omega
  · have := h2.2.1; simp only [List.length_append, List.length_cons, List.length_nil] at this ⊢; omega
theorem areaTo_rot (x : Pt) (r : List Pt) (h3 : 3 ≤ (x :: r).length) (h6 : (x :: r).length ≤ 6) : areaTo (r ++ [x]) (r ++ [x]).length = areaTo (x :: r) (x :: r).length := by
  match r, h3, h6 with
  | [b, c], _, _ => show areaTo [b, c, x] 3 = areaTo [x, b, c] 3; rw [area3, area3]; omega
  | [b, c, d], _, _ => show areaTo [b, c, d, x] 4 = areaTo [x, b, c, d] 4; rw [area4, area4]; omega
  | [b, c, d, e], _, _ => show areaTo [b, c, d, e, x] 5 = areaTo [x, b, c, d, e] 5; rw [area5, area5]; omega
  | [b, c, d, e, f], _, _ => show areaTo [b, c, d, e, f, x] 6 = areaTo [x, b, c, d, e, f] 6; rw [area6, area6]; omega
  | _ :: _ :: _ :: _ :: _ :: _ :: _, _, h => simp only [List.length_cons] at h; omega
theorem Rt.area {l m : List Pt} (h : Rt l m) (hl : ShapeOk 3 l) : area 3 m = area 3 l := by
  have h2 : 3 ≤ l.length ∧ l.length ≤ 6 := by rcases hl.2 with h | h | h <;> omega
  have key : areaTo m m.length = areaTo l l.length := by
    refine h.ind (P := fun m => areaTo m m.length = areaTo l l.length) rfl ?_
    intro x r hr he
    rw [← he]
    exact areaTo_rot x r (by simp only [List.length_cons]; omega) (by simp only [List.length_cons]; omega)
  unfold Go.Proofs.Ytfapledohlckoaa.area
  rw [if_pos ⟨h.ok hl, rfl⟩, if_pos ⟨hl, rfl⟩, key]
/-- The least of the first n ways round (n is at least 1). -/
def best (l : List Pt) : Nat → List Pt
  | 0 => l
  | k + 1 => if aheadL (rot l k) (best l k) = true then rot l k else best l k
theorem best_one (l : List Pt) : best l 1 = l := by simp [best, rot_zero]
theorem best_rt (l : List Pt) : ∀ n, n ≤ l.length → Rt l (best l n)
  | 0, _ => Rt.refl l
  | n + 1, h => by
    rw [best]
    split
    · exact ⟨n, by omega, rfl⟩
    · exact best_rt l n (by omega)
theorem best_len (l : List Pt) (n : Nat) (h : n ≤ l.length) : (best l n).length = l.length := (best_rt l n h).len
theorem best_le (l : List Pt) : ∀ n, ∀ j, j < n → aheadL (rot l j) (best l n) = false
  | 0, j, h => by omega
  | n + 1, j, h => by
    rw [best]
    split
    · rename_i h1
      rcases Nat.lt_or_ge j n with h2 | h2
      · have ih := best_le l n j h2
        cases hh : aheadL (rot l j) (rot l n) with
        | false => rfl
        | true => rw [aheadL_trans hh h1] at ih; cases ih
      · obtain rfl : j = n := by omega
        exact aheadL_irr _
    · rename_i h1
      rcases Nat.lt_or_ge j n with h2 | h2
      · exact best_le l n j h2
      · obtain rfl : j = n := by omega
        simpa using h1
theorem best_least {l m : List Pt} (h : Rt l m) (h0 : 0 < l.length) : aheadL m (best l l.length) = false := by
  obtain ⟨k, hk, rfl⟩ := h
  rcases Nat.lt_or_ge k l.length with h1 | h1
  · exact best_le l l.length k h1
  · obtain rfl : k = l.length := by omega
    rw [rot_full]
    have := best_le l l.length 0 h0
    rwa [rot_zero] at this
/-- From wherever a ring begins, it is turned to the same. -/
theorem best_same {l m : List Pt} (h : Rt l m) (h0 : 0 < l.length) : best m m.length = best l l.length := by
  have h1 : 0 < m.length := by rw [h.len]; exact h0
  exact aheadL_eq (best_least (h.trans (best_rt m m.length (Nat.le_refl _))) h0) (best_least (h.symm.trans (best_rt l l.length (Nat.le_refl _))) h1)
theorem best_first (l : List Pt) (h0 : 0 < l.length) (hb : 0 < (best l l.length).length) (i : Nat) (hi : i < (best l l.length).length) : lessPt (best l l.length)[i] (best l l.length)[0] = false := by
  have hr := best_rt l l.length (Nat.le_refl _)
  have h2 := best_least (hr.trans ⟨i, by omega, rfl⟩) h0
  generalize best l l.length = b at *
  by_cases e : b[i] = b[0]
  · rw [e]; exact lessPt_irr _
  · have hl : (rot b i).length = b.length := rot_len
    have e0 : (rot b i)[0]'(by omega) = b[i] := by
      simp only [rot]
      rw [List.getElem_append_left (by rw [List.length_drop]; omega), List.getElem_drop]
      simp
    rw [aheadL_part 0 (rot b i) b (by omega) hb (by simp) (by rw [e0]; exact e), e0] at h2
    exact h2
open Classical in
noncomputable def turn (K : Int) (l : List Pt) : Int × List Pt := if ShapeOk K l then (K, if K = 3 then best l l.length else l) else (0, [])
theorem turn_no {K : Int} {l : List Pt} (h : shapeOk K l = false) : turn K l = (0, []) := if_neg (shapeOk_f.1 h)
theorem turn_plain {K : Int} {l : List Pt} (h : shapeOk K l = true) (hK : K ≠ 3) : turn K l = (K, l) := by rw [turn, if_pos (shapeOk_t.1 h), if_neg hK]
theorem turn_ring {K : Int} {l : List Pt} (h : shapeOk K l = true) (hK : K = 3) : turn K l = (K, best l l.length) := by rw [turn, if_pos (shapeOk_t.1 h), if_pos hK]
theorem turn_len (K : Int) (l : List Pt) : (turn K l).2.length ≤ l.length := by
  unfold turn
  split
  · split
    · rw [best_len _ _ (Nat.le_refl _)]; exact Nat.le_refl _
    · exact Nat.le_refl _
  · simp
end Go.Proofs.Ytfapledohlckoaa
