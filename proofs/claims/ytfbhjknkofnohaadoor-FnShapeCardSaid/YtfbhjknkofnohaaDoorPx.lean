/- Plain: the library's Index, Cut, Split, Atoi on words and numerals. -/
import Derived.Test.YtfbhjknkofnohaaDoorPw
import Derived.Lib.Split
import Derived.Lib.AtoiAll
namespace Go.Proofs.YtfbhjknkofnohaaDoor
open Go
set_option linter.unusedVariables false
set_option linter.unusedSimpArgs false
theorem pre_one (c b : UInt8) (l : List UInt8) : [c].isPrefixOf (b :: l) = (c == b) := by simp [List.isPrefixOf]
theorem index_no {c : UInt8} : ∀ {l : List UInt8}, c ∉ l → Lib.index l [c] = -1
  | [], _ => rfl
  | b :: l, h => by
    have h1 : (c == b) = false := by
      rw [beq_eq_false_iff_ne]
      rintro rfl
      exact h List.mem_cons_self
    have h2 := index_no (fun e => h (List.mem_cons_of_mem _ e))
    rw [Lib.index, pre_one, h1, h2]
    rfl
theorem index_word {c : UInt8} : ∀ {w : List UInt8} (r : List UInt8), c ∉ w → Lib.index (w ++ c :: r) [c] = w.length
  | [], r, _ => by
    show Lib.index (c :: r) [c] = 0
    rw [Lib.index, pre_one]
    simp
  | b :: w, r, h => by
    have h1 : (c == b) = false := by
      rw [beq_eq_false_iff_ne]
      rintro rfl
      exact h List.mem_cons_self
    have h2 := index_word r (fun e => h (List.mem_cons_of_mem _ e))
    show Lib.index (b :: (w ++ c :: r)) [c] = _
    rw [Lib.index, pre_one, h1, h2]
    have h3 : ((w.length : Int) == -1) = false := by rw [beq_eq_false_iff_ne]; omega
    simp [h3]
theorem cut_word {c : UInt8} {w : List UInt8} (r : List UInt8) (h : c ∉ w) : Lib.cut (w ++ c :: r) [c] = (w, r, true) := by
  unfold Lib.cut
  rw [index_word r h]
  simp
theorem cut_none {c : UInt8} {l : List UInt8} (h : c ∉ l) : Lib.cut l [c] = (l, [], false) := by
  unfold Lib.cut
  rw [index_no h]
  simp
theorem word_at {c : UInt8} {l : List UInt8} (h : c ∈ l) : ∃ w r, l = w ++ c :: r ∧ c ∉ w := by
  induction l with
  | nil => cases h
  | cons b l ih =>
    by_cases e : b = c
    · exact ⟨[], l, by rw [e]; rfl, by simp⟩
    · obtain ⟨w, r, h1, h2⟩ := ih ((List.mem_cons.1 h).resolve_left (fun x => e x.symm))
      exact ⟨b :: w, r, by rw [h1]; rfl, fun hc => (List.mem_cons.1 hc).elim (fun x => e x.symm) h2⟩
theorem contains_iff {c : UInt8} {l : List UInt8} : Lib.contains l [c] = decide (c ∈ l) := by
  unfold Lib.contains
  by_cases h : c ∈ l
  · obtain ⟨w, r, rfl, h2⟩ := word_at h
    rw [index_word r h2]
    simp
  · rw [index_no h]
    simp [h]
theorem split_words {c : UInt8} : ∀ (ws : List (List UInt8)), ws ≠ [] → (∀ w ∈ ws, c ∉ w) → Lib.count (joinL c ws) [c] + 1 = ws.length ∧ Lib.splitK [c] 0 (ws.length - 1) (joinL c ws) = ws
  | [], h, _ => absurd rfl h
  | [w], _, h => by
    have h1 := index_no (h w List.mem_cons_self)
    exact ⟨by rw [show joinL c [w] = w from rfl, Lib.count_miss h1]; rfl, rfl⟩
  | w :: v :: r, _, h => by
    obtain ⟨i1, i2⟩ := split_words (v :: r) (by simp) (fun u hu => h u (List.mem_cons_of_mem _ hu))
    have hw := h w List.mem_cons_self
    have e : joinL c (w :: v :: r) = w ++ c :: joinL c (v :: r) := rfl
    have h1 : Lib.index (joinL c (w :: v :: r)) [c] = (w.length : Nat) := by rw [e, index_word _ hw]
    have hd : (joinL c (w :: v :: r)).drop (w.length + 1) = joinL c (v :: r) := by rw [e]; simp
    have ht : (joinL c (w :: v :: r)).take w.length = w := by rw [e]; simp
    refine ⟨?_, ?_⟩
    · rw [Lib.count_hit (by simp) h1]
      simp only [List.length_singleton, hd]
      rw [List.length_cons, ← i1]
      omega
    · show Lib.splitK [c] 0 ((v :: r).length) (joinL c (w :: v :: r)) = _
      have h3 : ((w.length : Int) == -1) = false := by rw [beq_eq_false_iff_ne]; omega
      rw [List.length_cons, Lib.splitK, h1, if_neg (by simp [h3])]
      simp only [Int.toNat_natCast, Nat.add_zero, List.length_singleton, hd, ht]
      rw [show r.length = (v :: r).length - 1 from rfl, i2]
theorem split_all (c : UInt8) (s : List UInt8) : Lib.splitK [c] 0 (Lib.count s [c]) s = splitL c s ∧ Lib.count s [c] + 1 = (splitL c s).length := by
  obtain ⟨h1, h2⟩ := split_words (splitL c s) (splitL_ne c s) (split_mem s)
  rw [join_split] at h1 h2
  refine ⟨?_, h1⟩
  rw [show Lib.count s [c] = (splitL c s).length - 1 by omega]
  exact h2
/-! Numerals read. -/
theorem parse_snoc {d : UInt8} (hd : 48 ≤ d.toNat ∧ d.toNat ≤ 57) {v : Nat} (hv : v ≤ 1000000000000000) : ∀ {l : List UInt8} {acc : Nat}, Lib.parseUint10 acc l = .ok v → Lib.parseUint10 acc (l ++ [d]) = .ok (v * 10 + (d.toNat - 48))
  | [], acc, h => by
    simp only [Lib.parseUint10] at h
    injection h with h
    subst h
    show Lib.parseUint10 acc [d] = _
    simp only [Lib.parseUint10]
    rw [if_pos hd, if_neg (by omega), if_neg (by omega)]
  | c :: l, acc, h => by
    show Lib.parseUint10 acc (c :: (l ++ [d])) = _
    simp only [Lib.parseUint10] at h ⊢
    split at h
    · rename_i h1
      rw [if_pos h1]
      split at h
      · cases h
      · rename_i h2
        rw [if_neg h2]
        split at h
        · cases h
        · rename_i h3
          rw [if_neg h3]
          exact parse_snoc hd hv h
    · cases h
theorem parse_dec : ∀ {u : Nat}, u ≤ 1000000000000000 → Lib.parseUint10 0 (Lib.decDigits u) = .ok u := by
  intro u
  induction u using Nat.strongRecOn with
  | _ u ih =>
    intro h
    by_cases hu : u < 10
    · rw [dd_small hu]
      have e : (UInt8.ofNat (48 + u)).toNat = 48 + u := by simp; omega
      simp only [Lib.parseUint10, e]
      rw [if_pos (by omega), if_neg (by omega), if_neg (by omega)]
      congr 1
      omega
    · rw [dd_big hu]
      have e : (UInt8.ofNat (48 + u % 10)).toNat = 48 + u % 10 := by simp; omega
      have := parse_snoc (d := UInt8.ofNat (48 + u % 10)) (by rw [e]; omega) (v := u / 10) (by omega) (ih (u / 10) (by omega) (by omega))
      rw [this, e]
      congr 1
      omega
theorem atoi_dec {n : Int} (h0 : -1000000 ≤ n) (h1 : n ≤ 1000000) : Lib.atoiAll (Lib.itoa n) = .ok n := by
  unfold Lib.itoa
  split
  · rename_i hn
    have hp := parse_dec (u := n.natAbs) (by omega)
    have hm : Lib.parseMag (Lib.decDigits n.natAbs) = .ok n.natAbs := by
      unfold Lib.parseMag
      rw [if_neg (dec_ne _), hp]
    unfold Lib.atoiAll
    have e : (45 : UInt8).toNat = 45 := rfl
    simp only [e]
    rw [if_pos (.inr trivial), hm]
    simp only [not_true_eq_false, false_and, if_false, true_and]
    rw [if_neg (by omega)]
    simp
    omega
  · rename_i hn
    have hp := parse_dec (u := n.toNat) (by omega)
    have hm : Lib.parseMag (Lib.decDigits n.toNat) = .ok n.toNat := by
      unfold Lib.parseMag
      rw [if_neg (dec_ne _), hp]
    cases hl : Lib.decDigits n.toNat with
    | nil => exact absurd hl (dec_ne _)
    | cons c r =>
      have hc := digit_bound (u := n.toNat) c (by rw [hl]; exact List.mem_cons_self)
      rw [hl] at hm
      unfold Lib.atoiAll
      simp only []
      rw [if_neg (by omega), hm]
      simp only []
      rw [if_neg (by omega), if_neg (by omega), if_neg (by omega)]
      congr 1
      omega
/-- Digits put together spell themselves. -/
theorem dd_step {v d : Nat} (hv : 1 ≤ v) (hd : d < 10) : Lib.decDigits (v * 10 + d) = Lib.decDigits v ++ [UInt8.ofNat (48 + d)] := by
  rw [dd_big (by omega)]
  rw [show (v * 10 + d) / 10 = v by omega, show (v * 10 + d) % 10 = d by omega]
theorem dd_head {u : Nat} (h : 1 ≤ u) : ∀ c r, Lib.decDigits u = c :: r → c.toNat ≠ 48 := by
  induction u using Nat.strongRecOn with
  | _ u ih =>
    intro c r e
    by_cases hu : u < 10
    · rw [dd_small hu] at e
      injection e with e1 e2
      subst e1
      simp
      omega
    · rw [dd_big hu] at e
      cases h2 : Lib.decDigits (u / 10) with
      | nil => exact absurd h2 (dec_ne _)
      | cons c2 r2 =>
        rw [h2] at e
        injection e with e1 e2
        subst e1
        exact ih (u / 10) (by omega) (by omega) c2 r2 h2
end Go.Proofs.YtfbhjknkofnohaaDoor
