/- Contracts: words. -/
import Derived.Test.YtlebgjafaioajaaB
namespace Go.Proofs.Ytlebgjafaioajaa
open Go.RowKit Go.Proofs.YtlebgjafaioajaaW.PrintWords Go.Proofs.YtlebgjafaioajaaW.PrintLast
set_option linter.unusedVariables false
set_option linter.unusedSimpArgs false
def LetAt (s : ByteArray) (i : Nat) : Prop := ∀ h : i < s.size, (97 : Int) ≤ s[i].toNat ∧ (s[i].toNat : Int) ≤ 122
def WordOk (s : ByteArray) : Prop := (1 ≤ s.size ∧ s.size ≤ 6) ∧ ∀ i, i < s.size → LetAt s i
open Classical in
noncomputable def wordOk (s : ByteArray) : Bool := decide (WordOk s)
theorem wordOk_t {s : ByteArray} : wordOk s = true ↔ WordOk s := by simp [wordOk]
theorem wordOk_f {s : ByteArray} : wordOk s = false ↔ ¬ WordOk s := by simp [wordOk]
theorem sWordOk_c (s : ByteArray) (w : World) (hs : s.size ≤ 140737488351232) :
    Calls Try.prog 63 #[.string s] w fun e w' => e = .returned (.bool (wordOk s)) ∧ w' = w := by
  go_enter Try.func63, Try.ntmps63
  go_wp2
  go_loop [3] (fun i => ∃ k : Nat, k ≤ s.size ∧ i = .int .i64 k ∧ Aside0 (∀ i, i < k → LetAt s i)) (fun i => s.size - (intOf i).toNat)
  case atStart => exact ⟨0, Nat.zero_le _, rfl, ⟨fun i hi => absurd hi (by omega)⟩⟩
  case round =>
    obtain ⟨k, hk, rfl, he⟩ := hrel
    by_cases hlt : k < s.size
    · by_cases h1 : (s[k].toNat : Int) < 97
      · have Hno := Lib.hid (show ¬ WordOk s from fun h => by have := (h.2 k hlt hlt).1; omega)
        have d1 : decide ((s[k].toNat : Int) < 97) = true := decide_eq_true h1
        go_wp2
        go_ret
        exact ⟨ret_bool (wordOk_f.2 Hno.out).symm, rfl⟩
      · have d1 : decide ((s[k].toNat : Int) < 97) = false := decide_eq_false h1
        by_cases h2 : 122 < (s[k].toNat : Int)
        · have Hno := Lib.hid (show ¬ WordOk s from fun h => by have := (h.2 k hlt hlt).2; omega)
          have d2 : decide (122 < (s[k].toNat : Int)) = true := decide_eq_true h2
          go_wp2
          go_ret
          exact ⟨ret_bool (wordOk_f.2 Hno.out).symm, rfl⟩
        · have d2 : decide (122 < (s[k].toNat : Int)) = false := decide_eq_false h2
          have Hs := Lib.hid (show LetAt s k from fun h => ⟨by omega, by omega⟩)
          go_wp2
          exact ⟨⟨k + 1, by omega, by go_num, ⟨fun i hi => if h : i = k then h ▸ Hs.out else he.out i (by omega)⟩⟩, by simp [intOf]; omega⟩
    · have HP := Lib.hid (show ∀ i, i < s.size → LetAt s i from fun i hi => he.out i (by omega))
      clear he
      by_cases h1 : 1 ≤ (s.size : Int)
      · have d1 : decide (1 ≤ (s.size : Int)) = true := decide_eq_true h1
        go_wp2
        go_ret
        exact ⟨ret_bool (by rw [Bool.eq_iff_iff, wordOk_t]; simp only [decide_eq_true_eq]; exact ⟨fun h => ⟨⟨by omega, by omega⟩, HP.out⟩, fun h => by have := h.1.2; omega⟩), rfl⟩
      · have d1 : decide (1 ≤ (s.size : Int)) = false := decide_eq_false h1
        go_wp2
        go_ret
        exact ⟨ret_bool (wordOk_f.2 fun h => by have := h.1.1; omega).symm, rfl⟩
theorem iWordOk_c (s : ByteArray) (w : World) (hs : s.size ≤ 140737488351232) :
    Calls Try.prog 66 #[.string s] w fun e w' => e = .returned (.bool (wordOk s)) ∧ w' = w := by
  go_enter Try.func66, Try.ntmps66
  go_wp2
  go_loop [6] (fun i => ∃ k : Nat, k ≤ s.size ∧ i = .int .i64 k ∧ Aside0 (∀ i, i < k → LetAt s i)) (fun i => s.size - (intOf i).toNat)
  case atStart => exact ⟨0, Nat.zero_le _, rfl, ⟨fun i hi => absurd hi (by omega)⟩⟩
  case round =>
    obtain ⟨k, hk, rfl, he⟩ := hrel
    by_cases hlt : k < s.size
    · by_cases h1 : (s[k].toNat : Int) < 97
      · have Hno := Lib.hid (show ¬ WordOk s from fun h => by have := (h.2 k hlt hlt).1; omega)
        have d1 : decide ((s[k].toNat : Int) < 97) = true := decide_eq_true h1
        go_wp2
        go_ret
        exact ⟨ret_bool (wordOk_f.2 Hno.out).symm, rfl⟩
      · have d1 : decide ((s[k].toNat : Int) < 97) = false := decide_eq_false h1
        by_cases h2 : 122 < (s[k].toNat : Int)
        · have Hno := Lib.hid (show ¬ WordOk s from fun h => by have := (h.2 k hlt hlt).2; omega)
          have d2 : decide (122 < (s[k].toNat : Int)) = true := decide_eq_true h2
          go_wp2
          go_ret
          exact ⟨ret_bool (wordOk_f.2 Hno.out).symm, rfl⟩
        · have d2 : decide (122 < (s[k].toNat : Int)) = false := decide_eq_false h2
          have Hs := Lib.hid (show LetAt s k from fun h => ⟨by omega, by omega⟩)
          go_wp2
          exact ⟨⟨k + 1, by omega, by go_num, ⟨fun i hi => if h : i = k then h ▸ Hs.out else he.out i (by omega)⟩⟩, by simp [intOf]; omega⟩
    · have HP := Lib.hid (show ∀ i, i < s.size → LetAt s i from fun i hi => he.out i (by omega))
      clear he
      go_wp2_with (go_at_call 108; refine (within_c _ _ _ _).mono ?_; rintro e w' ⟨rfl, rfl⟩)
      go_ret
      exact ⟨ret_bool (by rw [Bool.eq_iff_iff, wordOk_t]; simp only [inB, decide_eq_true_eq]; exact ⟨fun h => ⟨⟨by omega, by omega⟩, HP.out⟩, fun h => by have := h.1; omega⟩), rfl⟩
end Go.Proofs.Ytlebgjafaioajaa
