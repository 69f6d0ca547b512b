/- Plain: words with one byte between them, cut and put together; numerals are apart. -/
import Derived.Lib.ItoaNum
import Derived.Lib.ItoaMem
namespace Go.Proofs.YtfbhjknkofnohaaDoor
open Go
/-! Words: rows of bytes put together with one byte between, and cut at it. -/
def joinL (c : UInt8) : List (List UInt8) → List UInt8
  | [] => []
  | [w] => w
  | w :: v :: r => w ++ c :: joinL c (v :: r)
def splitL (c : UInt8) : List UInt8 → List (List UInt8)
  | [] => [[]]
  | x :: s => if x = c then [] :: splitL c s else match splitL c s with
    | [] => [[x]]
    | w :: r => (x :: w) :: r
theorem splitL_ne (c : UInt8) (s : List UInt8) : splitL c s ≠ [] := by
  cases s with
  | nil => simp [splitL]
  | cons x s =>
    rw [splitL]
    split
    · simp
    · split <;> simp
theorem splitL_hit (c : UInt8) (s : List UInt8) : splitL c (c :: s) = [] :: splitL c s := by rw [splitL, if_pos rfl]
theorem splitL_step {c x : UInt8} (h : x ≠ c) {s w : List UInt8} {r : List (List UInt8)} (e : splitL c s = w :: r) : splitL c (x :: s) = (x :: w) :: r := by
  rw [splitL, if_neg h, e]
theorem splitL_word {c : UInt8} : ∀ (w : List UInt8), c ∉ w → ∀ s v r, splitL c s = v :: r → splitL c (w ++ s) = (w ++ v) :: r
  | [], _, s, v, r, e => e
  | x :: w, h, s, v, r, e => by
    have h1 : x ≠ c := fun e => h (e ▸ List.mem_cons_self)
    exact splitL_step h1 (splitL_word w (fun e => h (List.mem_cons_of_mem _ e)) s v r e)
theorem split_one {c : UInt8} {w : List UInt8} (h : c ∉ w) : splitL c w = [w] := by
  have := splitL_word w h [] [] [] rfl
  simpa using this
theorem split_join {c : UInt8} : ∀ (ws : List (List UInt8)), ws ≠ [] → (∀ w ∈ ws, c ∉ w) → splitL c (joinL c ws) = ws
  | [], h, _ => absurd rfl h
  | [w], _, h => split_one (h w List.mem_cons_self)
  | w :: v :: r, _, h => by
    have ih := split_join (v :: r) (by simp) (fun u hu => h u (List.mem_cons_of_mem _ hu))
    show splitL c (w ++ c :: joinL c (v :: r)) = _
    have e : splitL c (c :: joinL c (v :: r)) = [] :: v :: r := by rw [splitL_hit, ih]
    have := splitL_word w (h w List.mem_cons_self) _ _ _ e
    simpa using this
theorem join_cons {c : UInt8} (w : List UInt8) {ws : List (List UInt8)} (h : ws ≠ []) : joinL c (w :: ws) = w ++ c :: joinL c ws := by
  cases ws with
  | nil => exact absurd rfl h
  | cons v r => rfl
theorem join_split {c : UInt8} : ∀ s : List UInt8, joinL c (splitL c s) = s
  | [] => rfl
  | x :: s => by
    have ih := join_split (c := c) s
    rw [splitL]
    split
    · rename_i h
      rw [join_cons _ (splitL_ne c s), ih, h]
      rfl
    · split
      · rename_i h
        exact absurd h (splitL_ne c s)
      · rename_i h1 w r h
        rw [h] at ih
        cases r with
        | nil => simp only [joinL] at ih ⊢; rw [ih]
        | cons v r => simp only [joinL, List.cons_append] at ih ⊢; rw [ih]
theorem split_mem {c : UInt8} : ∀ (s : List UInt8), ∀ w ∈ splitL c s, c ∉ w
  | [], w, h => by simp [splitL] at h; subst h; simp
  | x :: s, w, h => by
    have ih := split_mem (c := c) s
    rw [splitL] at h
    split at h
    · rcases List.mem_cons.1 h with rfl | h
      · simp
      · exact ih w h
    · rename_i hx
      split at h
      · rename_i h1
        exact absurd h1 (splitL_ne c s)
      · rename_i v r h1
        rw [h1] at ih
        rcases List.mem_cons.1 h with rfl | h
        · intro hc
          rcases List.mem_cons.1 hc with rfl | hc
          · exact hx rfl
          · exact ih v List.mem_cons_self hc
        · exact ih w (List.mem_cons_of_mem _ h)
theorem join_inj {c : UInt8} {ws vs : List (List UInt8)} (h1 : ws ≠ []) (h2 : vs ≠ []) (k1 : ∀ w ∈ ws, c ∉ w) (k2 : ∀ w ∈ vs, c ∉ w) (h : joinL c ws = joinL c vs) : ws = vs := by
  rw [← split_join ws h1 k1, ← split_join vs h2 k2, h]
/-! Numerals. -/
theorem digit_bound {u : Nat} : ∀ x ∈ Lib.decDigits u, 48 ≤ x.toNat ∧ x.toNat ≤ 57 := by
  induction u using Nat.strongRecOn with
  | _ u ih =>
    intro x hx
    rw [Lib.decDigits] at hx
    split at hx
    · rename_i h
      simp only [List.mem_singleton] at hx
      subst hx
      simp; omega
    · rename_i h
      rcases List.mem_append.1 hx with hx | hx
      · exact ih (u / 10) (by omega) x hx
      · simp only [List.mem_singleton] at hx
        subst hx
        have : u % 10 < 10 := Nat.mod_lt _ (by omega)
        simp; omega
theorem dec_mem {n : Int} {x : UInt8} (h : x ∈ Lib.itoa n) : x.toNat = 45 ∨ (48 ≤ x.toNat ∧ x.toNat ≤ 57) := by
  unfold Lib.itoa at h
  split at h
  · rcases List.mem_cons.1 h with rfl | h
    · exact .inl rfl
    · exact .inr (digit_bound x h)
  · exact .inr (digit_bound x h)
theorem dec_ne (u : Nat) : Lib.decDigits u ≠ [] := by
  rw [Lib.decDigits]; split <;> simp
theorem ofNat_inj {a b : Nat} (ha : a < 256) (hb : b < 256) (h : UInt8.ofNat a = UInt8.ofNat b) : a = b := by
  have := congrArg UInt8.toNat h
  simp at this
  omega
theorem dd_small {u : Nat} (h : u < 10) : Lib.decDigits u = [UInt8.ofNat (48 + u)] := by rw [Lib.decDigits, dif_pos h]
theorem dd_big {u : Nat} (h : ¬ u < 10) : Lib.decDigits u = Lib.decDigits (u / 10) ++ [UInt8.ofNat (48 + u % 10)] := by rw [Lib.decDigits, dif_neg h]
theorem decDigits_inj : ∀ {u v : Nat}, Lib.decDigits u = Lib.decDigits v → u = v := by
  intro u
  induction u using Nat.strongRecOn with
  | _ u ih =>
    intro v h
    by_cases hu : u < 10
    · by_cases hv : v < 10
      · rw [dd_small hu, dd_small hv] at h
        injection h with h
        have := ofNat_inj (by omega) (by omega) h
        omega
      · rw [dd_small hu, dd_big hv] at h
        have h3 := congrArg List.length h
        have h2 := List.length_pos_iff.2 (dec_ne (v / 10))
        rw [List.length_append, List.length_singleton, List.length_singleton] at h3
        omega
    · by_cases hv : v < 10
      · rw [dd_big hu, dd_small hv] at h
        have h3 := congrArg List.length h
        have h2 := List.length_pos_iff.2 (dec_ne (u / 10))
        rw [List.length_append, List.length_singleton, List.length_singleton] at h3
        omega
      · rw [dd_big hu, dd_big hv] at h
        obtain ⟨h1, h2⟩ := List.append_inj' h rfl
        have h3 := ih (u / 10) (by omega) h1
        injection h2 with h2
        have h4 := ofNat_inj (by omega) (by omega) h2
        omega
theorem itoa_inj {m n : Int} (h : Lib.itoa m = Lib.itoa n) : m = n := by
  have key : ∀ a b : Int, a < 0 → ¬ b < 0 → Lib.itoa a ≠ Lib.itoa b := by
    intro a b ha hb h
    unfold Lib.itoa at h
    rw [if_pos ha, if_neg hb] at h
    have := digit_bound (u := b.toNat) 45 (by rw [← h]; exact List.mem_cons_self)
    simp at this
  by_cases h1 : m < 0
  · by_cases h2 : n < 0
    · unfold Lib.itoa at h
      rw [if_pos h1, if_pos h2] at h
      injection h with _ h
      have := decDigits_inj h
      omega
    · exact absurd h (key m n h1 h2)
  · by_cases h2 : n < 0
    · exact absurd h.symm (key n m h2 h1)
    · unfold Lib.itoa at h
      rw [if_neg h1, if_neg h2] at h
      have := decDigits_inj h
      omega
end Go.Proofs.YtfbhjknkofnohaaDoor
