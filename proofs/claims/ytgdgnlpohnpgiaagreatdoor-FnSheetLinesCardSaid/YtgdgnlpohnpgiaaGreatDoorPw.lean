/- Plain: words; library functions on words. -/
import Derived.Lib.ItoaNum
import Derived.Lib.ItoaMem
import Derived.Lib.Split
import Derived.Lib.AtoiAll
namespace Go.Proofs.YtgdgnlpohnpgiaaGreatDoor
section
open Go
/-! Words: rows of bytes put together with one byte between, and cut at it. -/
def joinL (c : UInt8) : List (List UInt8) → List UInt8
  | [] => []
  | [w] => w
  | w :: v :: r => w ++ c :: joinL c (v :: r)
def splitL (c : UInt8) : List UInt8 → List (List UInt8)
  | [] => [[]]
  | x :: s => if x = c then [] :: splitL c s else match splitL c s with
    | [] => [[x]]
    | w :: r => (x :: w) :: r
theorem splitL_ne (c : UInt8) (s : List UInt8) : splitL c s ≠ [] := by
  cases s with
  | nil => simp [splitL]
  | cons x s =>
    rw [splitL]
    split
    · simp
    · split <;> simp
theorem splitL_hit (c : UInt8) (s : List UInt8) : splitL c (c :: s) = [] :: splitL c s := by rw [splitL, if_pos rfl]
theorem splitL_step {c x : UInt8} (h : x ≠ c) {s w : List UInt8} {r : List (List UInt8)} (e : splitL c s = w :: r) : splitL c (x :: s) = (x :: w) :: r := by
  rw [splitL, if_neg h, e]
theorem splitL_word {c : UInt8} : ∀ (w : List UInt8), c ∉ w → ∀ s v r, splitL c s = v :: r → splitL c (w ++ s) = (w ++ v) :: r
  | [], _, s, v, r, e => e
  | x :: w, h, s, v, r, e => by
    have h1 : x ≠ c := fun e => h (e ▸ List.mem_cons_self)
    exact splitL_step h1 (splitL_word w (fun e => h (List.mem_cons_of_mem _ e)) s v r e)
theorem split_one {c : UInt8} {w : List UInt8} (h : c ∉ w) : splitL c w = [w] := by
  have := splitL_word w h [] [] [] rfl
  simpa using this
theorem split_join {c : UInt8} : ∀ (ws : List (List UInt8)), ws ≠ [] → (∀ w ∈ ws, c ∉ w) → splitL c (joinL c ws) = ws
  | [], h, _ => absurd rfl h
  | [w], _, h => split_one (h w List.mem_cons_self)
  | w :: v :: r, _, h => by
    have ih := split_join (v :: r) (by simp) (fun u hu => h u (List.mem_cons_of_mem _ hu))
    show splitL c (w ++ c :: joinL c (v :: r)) = _
    have e : splitL c (c :: joinL c (v :: r)) = [] :: v :: r := by rw [splitL_hit, ih]
    have := splitL_word w (h w List.mem_cons_self) _ _ _ e
    simpa using this
theorem join_cons {c : UInt8} (w : List UInt8) {ws : List (List UInt8)} (h : ws ≠ []) : joinL c (w :: ws) = w ++ c :: joinL c ws := by
  cases ws with
  | nil => exact absurd rfl h
  | cons v r => rfl
theorem join_split {c : UInt8} : ∀ s : List UInt8, joinL c (splitL c s) = s
  | [] => rfl
  | x :: s => by
    have ih := join_split (c := c) s
    rw [splitL]
    split
    · rename_i h
      rw [join_cons _ (splitL_ne c s), ih, h]
      rfl
    · split
      · rename_i h
        exact absurd h (splitL_ne c s)
      · rename_i h1 w r h
        rw [h] at ih
        cases r with
        | nil => simp only [joinL] at ih ⊢; rw [ih]
        | cons v r => simp only [joinL, List.cons_append] at ih ⊢; rw [ih]
theorem split_mem {c : UInt8} : ∀ (s : List UInt8), ∀ w ∈ splitL c s, c ∉ w
  | [], w, h => by simp [splitL] at h; subst h; simp
  | x :: s, w, h => by
    have ih := split_mem (c := c) s
    rw [splitL] at h
    split at h
    · rcases List.mem_cons.1 h with rfl | h
      · simp
      · exact ih w h
    · rename_i hx
      split at h
      · rename_i h1
        exact absurd h1 (splitL_ne c s)
      · rename_i v r h1
        rw [h1] at ih
        rcases List.mem_cons.1 h with rfl | h
        · intro hc
          rcases List.mem_cons.1 hc with rfl | hc
          · exact hx rfl
          · exact ih v List.mem_cons_self hc
        · exact ih w (List.mem_cons_of_mem _ h)
theorem join_inj {c : UInt8} {ws vs : List (List UInt8)} (h1 : ws ≠ []) (h2 : vs ≠ []) (k1 : ∀ w ∈ ws, c ∉ w) (k2 : ∀ w ∈ vs, c ∉ w) (h : joinL c ws = joinL c vs) : ws = vs := by
  rw [← split_join ws h1 k1, ← split_join vs h2 k2, h]
/-! Numerals. -/
theorem digit_bound {u : Nat} : ∀ x ∈ Lib.decDigits u, 48 ≤ x.toNat ∧ x.toNat ≤ 57 := by
  induction u using Nat.strongRecOn with
  | _ u ih =>
    intro x hx
    rw [Lib.decDigits] at hx
    split at hx
    · rename_i h
      simp only [List.mem_singleton] at hx
      subst hx
      simp; omega
    · rename_i h
      rcases List.mem_append.1 hx with hx | hx
      · exact ih (u / 10) (by omega) x hx
      · simp only [List.mem_singleton] at hx
        subst hx
        have : u % 10 < 10 := Nat.mod_lt _ (by omega)
        simp; omega
theorem dec_mem {n : Int} {x : UInt8} (h : x ∈ Lib.itoa n) : x.toNat = 45 ∨ (48 ≤ x.toNat ∧ x.toNat ≤ 57) := by
  unfold Lib.itoa at h
  split at h
  · rcases List.mem_cons.1 h with rfl | h
    · exact .inl rfl
    · exact .inr (digit_bound x h)
  · exact .inr (digit_bound x h)
theorem dec_ne (u : Nat) : Lib.decDigits u ≠ [] := by
  rw [Lib.decDigits]; split <;> simp
theorem ofNat_inj {a b : Nat} (ha : a < 256) (hb : b < 256) (h : UInt8.ofNat a = UInt8.ofNat b) : a = b := by
  have := congrArg UInt8.toNat h
  simp at this
  omega
theorem dd_small {u : Nat} (h : u < 10) : Lib.decDigits u = [UInt8.ofNat (48 + u)] := by rw [Lib.decDigits, dif_pos h]
theorem dd_big {u : Nat} (h : ¬ u < 10) : Lib.decDigits u = Lib.decDigits (u / 10) ++ [UInt8.ofNat (48 + u % 10)] := by rw [Lib.decDigits, dif_neg h]
theorem decDigits_inj : ∀ {u v : Nat}, Lib.decDigits u = Lib.decDigits v → u = v := by
  intro u
  induction u using Nat.strongRecOn with
  | _ u ih =>
    intro v h
    by_cases hu : u < 10
    · by_cases hv : v < 10
      · rw [dd_small hu, dd_small hv] at h
        injection h with h
        have := ofNat_inj (by omega) (by omega) h
        omega
      · rw [dd_small hu, dd_big hv] at h
        have h3 := congrArg List.length h
        have h2 := List.length_pos_iff.2 (dec_ne (v / 10))
        rw [List.length_append, List.length_singleton, List.length_singleton] at h3
        omega
    · by_cases hv : v < 10
      · rw [dd_big hu, dd_small hv] at h
        have h3 := congrArg List.length h
        have h2 := List.length_pos_iff.2 (dec_ne (u / 10))
        rw [List.length_append, List.length_singleton, List.length_singleton] at h3
        omega
      · rw [dd_big hu, dd_big hv] at h
        obtain ⟨h1, h2⟩ := List.append_inj' h rfl
        have h3 := ih (u / 10) (by omega) h1
        injection h2 with h2
        have h4 := ofNat_inj (by omega) (by omega) h2
        omega
theorem itoa_inj {m n : Int} (h : Lib.itoa m = Lib.itoa n) : m = n := by
  have key : ∀ a b : Int, a < 0 → ¬ b < 0 → Lib.itoa a ≠ Lib.itoa b := by
    intro a b ha hb h
    unfold Lib.itoa at h
    rw [if_pos ha, if_neg hb] at h
    have := digit_bound (u := b.toNat) 45 (by rw [← h]; exact List.mem_cons_self)
    simp at this
  by_cases h1 : m < 0
  · by_cases h2 : n < 0
    · unfold Lib.itoa at h
      rw [if_pos h1, if_pos h2] at h
      injection h with _ h
      have := decDigits_inj h
      omega
    · exact absurd h (key m n h1 h2)
  · by_cases h2 : n < 0
    · exact absurd h.symm (key n m h2 h1)
    · unfold Lib.itoa at h
      rw [if_neg h1, if_neg h2] at h
      have := decDigits_inj h
      omega
end
section
open Go
set_option linter.unusedVariables false
set_option linter.unusedSimpArgs false
theorem pre_one (c b : UInt8) (l : List UInt8) : [c].isPrefixOf (b :: l) = (c == b) := by simp [List.isPrefixOf]
theorem index_no {c : UInt8} : ∀ {l : List UInt8}, c ∉ l → Lib.index l [c] = -1
  | [], _ => rfl
  | b :: l, h => by
    have h1 : (c == b) = false := by
      rw [beq_eq_false_iff_ne]
      rintro rfl
      exact h List.mem_cons_self
    have h2 := index_no (fun e => h (List.mem_cons_of_mem _ e))
    rw [Lib.index, pre_one, h1, h2]
    rfl
theorem index_word {c : UInt8} : ∀ {w : List UInt8} (r : List UInt8), c ∉ w → Lib.index (w ++ c :: r) [c] = w.length
  | [], r, _ => by
    show Lib.index (c :: r) [c] = 0
    rw [Lib.index, pre_one]
    simp
  | b :: w, r, h => by
    have h1 : (c == b) = false := by
      rw [beq_eq_false_iff_ne]
      rintro rfl
      exact h List.mem_cons_self
    have h2 := index_word r (fun e => h (List.mem_cons_of_mem _ e))
    show Lib.index (b :: (w ++ c :: r)) [c] = _
    rw [Lib.index, pre_one, h1, h2]
    have h3 : ((w.length : Int) == -1) = false := by rw [beq_eq_false_iff_ne]; omega
    simp [h3]
theorem cut_word {c : UInt8} {w : List UInt8} (r : List UInt8) (h : c ∉ w) : Lib.cut (w ++ c :: r) [c] = (w, r, true) := by
  unfold Lib.cut
  rw [index_word r h]
  simp
theorem cut_none {c : UInt8} {l : List UInt8} (h : c ∉ l) : Lib.cut l [c] = (l, [], false) := by
  unfold Lib.cut
  rw [index_no h]
  simp
theorem word_at {c : UInt8} {l : List UInt8} (h : c ∈ l) : ∃ w r, l = w ++ c :: r ∧ c ∉ w := by
  induction l with
  | nil => cases h
  | cons b l ih =>
    by_cases e : b = c
    · exact ⟨[], l, by rw [e]; rfl, by simp⟩
    · obtain ⟨w, r, h1, h2⟩ := ih ((List.mem_cons.1 h).resolve_left (fun x => e x.symm))
      exact ⟨b :: w, r, by rw [h1]; rfl, fun hc => (List.mem_cons.1 hc).elim (fun x => e x.symm) h2⟩
theorem contains_iff {c : UInt8} {l : List UInt8} : Lib.contains l [c] = decide (c ∈ l) := by
  unfold Lib.contains
  by_cases h : c ∈ l
  · obtain ⟨w, r, rfl, h2⟩ := word_at h
    rw [index_word r h2]
    simp
  · rw [index_no h]
    simp [h]
theorem split_words {c : UInt8} : ∀ (ws : List (List UInt8)), ws ≠ [] → (∀ w ∈ ws, c ∉ w) → Lib.count (joinL c ws) [c] + 1 = ws.length ∧ Lib.splitK [c] 0 (ws.length - 1) (joinL c ws) = ws
  | [], h, _ => absurd rfl h
  | [w], _, h => by
    have h1 := index_no (h w List.mem_cons_self)
    exact ⟨by rw [show joinL c [w] = w from rfl, Lib.count_miss h1]; rfl, rfl⟩
  | w :: v :: r, _, h => by
    obtain ⟨i1, i2⟩ := split_words (v :: r) (by simp) (fun u hu => h u (List.mem_cons_of_mem _ hu))
    have hw := h w List.mem_cons_self
    have e : joinL c (w :: v :: r) = w ++ c :: joinL c (v :: r) := rfl
    have h1 : Lib.index (joinL c (w :: v :: r)) [c] = (w.length : Nat) := by rw [e, index_word _ hw]
    have hd : (joinL c (w :: v :: r)).drop (w.length + 1) = joinL c (v :: r) := by rw [e]; simp
    have ht : (joinL c (w :: v :: r)).take w.length = w := by rw [e]; simp
    refine ⟨?_, ?_⟩
    · rw [Lib.count_hit (by simp) h1]
      simp only [List.length_singleton, hd]
      rw [List.length_cons, ← i1]
      omega
    · show Lib.splitK [c] 0 ((v :: r).length) (joinL c (w :: v :: r)) = _
      have h3 : ((w.length : Int) == -1) = false := by rw [beq_eq_false_iff_ne]; omega
      rw [List.length_cons, Lib.splitK, h1, if_neg (by simp [h3])]
      simp only [Int.toNat_natCast, Nat.add_zero, List.length_singleton, hd, ht]
      rw [show r.length = (v :: r).length - 1 from rfl, i2]
theorem split_all (c : UInt8) (s : List UInt8) : Lib.splitK [c] 0 (Lib.count s [c]) s = splitL c s ∧ Lib.count s [c] + 1 = (splitL c s).length := by
  obtain ⟨h1, h2⟩ := split_words (splitL c s) (splitL_ne c s) (split_mem s)
  rw [join_split] at h1 h2
  refine ⟨?_, h1⟩
  rw [show Lib.count s [c] = (splitL c s).length - 1 by omega]
  exact h2
/-! Numerals read. -/
theorem parse_snoc {d : UInt8} (hd : 48 ≤ d.toNat ∧ d.toNat ≤ 57) {v : Nat} (hv : v ≤ 1000000000000000) : ∀ {l : List UInt8} {acc : Nat}, Lib.parseUint10 acc l = .ok v → Lib.parseUint10 acc (l ++ [d]) = .ok (v * 10 + (d.toNat - 48))
  | [], acc, h => by
    simp only [Lib.parseUint10] at h
    injection h with h
    subst h
    show Lib.parseUint10 acc [d] = _
    simp only [Lib.parseUint10]
    rw [if_pos hd, if_neg (by omega), if_neg (by omega)]
  | c :: l, acc, h => by
    show Lib.parseUint10 acc (c :: (l ++ [d])) = _
    simp only [Lib.parseUint10] at h ⊢
    split at h
    · rename_i h1
      rw [if_pos h1]
      split at h
      · cases h
      · rename_i h2
        rw [if_neg h2]
        split at h
        · cases h
        · rename_i h3
          rw [if_neg h3]
          exact parse_snoc hd hv h
    · cases h
theorem parse_dec : ∀ {u : Nat}, u ≤ 1000000000000000 → Lib.parseUint10 0 (Lib.decDigits u) = .ok u := by
  intro u
  induction u using Nat.strongRecOn with
  | _ u ih =>
    intro h
    by_cases hu : u < 10
    · rw [dd_small hu]
      have e : (UInt8.ofNat (48 + u)).toNat = 48 + u := by simp; omega
      simp only [Lib.parseUint10, e]
      rw [if_pos (by omega), if_neg (by omega), if_neg (by omega)]
      congr 1
      omega
    · rw [dd_big hu]
      have e : (UInt8.ofNat (48 + u % 10)).toNat = 48 + u % 10 := by simp; omega
      have := parse_snoc (d := UInt8.ofNat (48 + u % 10)) (by rw [e]; omega) (v := u / 10) (by omega) (ih (u / 10) (by omega) (by omega))
      rw [this, e]
      congr 1
      omega
theorem atoi_dec {n : Int} (h0 : -1000000 ≤ n) (h1 : n ≤ 1000000) : Lib.atoiAll (Lib.itoa n) = .ok n := by
  unfold Lib.itoa
  split
  · rename_i hn
    have hp := parse_dec (u := n.natAbs) (by omega)
    have hm : Lib.parseMag (Lib.decDigits n.natAbs) = .ok n.natAbs := by
      unfold Lib.parseMag
      rw [if_neg (dec_ne _), hp]
    unfold Lib.atoiAll
    have e : (45 : UInt8).toNat = 45 := rfl
    simp only [e]
    rw [if_pos (.inr trivial), hm]
    simp only [not_true_eq_false, false_and, if_false, true_and]
    rw [if_neg (by omega)]
    simp
    omega
  · rename_i hn
    have hp := parse_dec (u := n.toNat) (by omega)
    have hm : Lib.parseMag (Lib.decDigits n.toNat) = .ok n.toNat := by
      unfold Lib.parseMag
      rw [if_neg (dec_ne _), hp]
    cases hl : Lib.decDigits n.toNat with
    | nil => exact absurd hl (dec_ne _)
    | cons c r =>
      have hc := digit_bound (u := n.toNat) c (by rw [hl]; exact List.mem_cons_self)
      rw [hl] at hm
      unfold Lib.atoiAll
      simp only []
      rw [if_neg (by omega), hm]
      simp only []
      rw [if_neg (by omega), if_neg (by omega), if_neg (by omega)]
      congr 1
      omega
/-- Digits put together spell themselves. -/
theorem dd_step {v d : Nat} (hv : 1 ≤ v) (hd : d < 10) : Lib.decDigits (v * 10 + d) = Lib.decDigits v ++ [UInt8.ofNat (48 + d)] := by
  rw [dd_big (by omega)]
  rw [show (v * 10 + d) / 10 = v by omega, show (v * 10 + d) % 10 = d by omega]
theorem dd_head {u : Nat} (h : 1 ≤ u) : ∀ c r, Lib.decDigits u = c :: r → c.toNat ≠ 48 := by
  induction u using Nat.strongRecOn with
  | _ u ih =>
    intro c r e
    by_cases hu : u < 10
    · rw [dd_small hu] at e
      injection e with e1 e2
      subst e1
      simp
      omega
    · rw [dd_big hu] at e
      cases h2 : Lib.decDigits (u / 10) with
      | nil => exact absurd h2 (dec_ne _)
      | cons c2 r2 =>
        rw [h2] at e
        injection e with e1 e2
        subst e1
        exact ih (u / 10) (by omega) (by omega) c2 r2 h2
end
end Go.Proofs.YtgdgnlpohnpgiaaGreatDoor
