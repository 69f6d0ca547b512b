/- Contracts: comparing of texts, the number of bits of a small number, a function value called in a drawn region. -/
import Derived.Test.YtlebgjafaioajaaFm
import Derived.Test.YtlebgjafaioajaaFk
namespace Go.Proofs.Ytlebgjafaioajaa
open Go.RowKit Go.Proofs.YtlebgjafaioajaaW.PrintWords Go.Proofs.YtlebgjafaioajaaW.PrintLast
set_option maxRecDepth 100000
set_option linter.unusedVariables false
set_option linter.unusedSimpArgs false
/-- How two texts stand. -/
def cmpS (x y : ByteArray) : Int := if ltS x y = true then -1 else if ltS y x = true then 1 else 0
theorem cmpS_lt (x y : ByteArray) : decide (cmpS x y < 0) = ltS x y := by
  unfold cmpS
  cases h : ltS x y with
  | true => simp
  | false => cases h2 : ltS y x <;> simp
theorem cmpStr_c (x y : ByteArray) (w : World) :
    Calls Try.prog 92 #[.string x, .string y] w fun e w' => e = .returned (.int .i64 (cmpS x y)) ∧ Below w.heap.size w w' := by
  cases h : ltS x y with
  | true =>
    have hc : cmpS x y = -1 := by unfold cmpS; rw [if_pos h]
    have t1 : Op.bytesLess x.toList y.toList = true := h
    have Hc := Lib.hid hc
    clear hc h
    go_enter Try.func92, Try.ntmps92
    go_wp2
    go_ret
    exact ⟨ret_int Hc.out.symm, bl⟩
  | false =>
    have t1 : Op.bytesLess x.toList y.toList = false := h
    cases h2 : ltS y x with
    | true =>
      have hc : cmpS x y = 1 := by unfold cmpS; rw [if_neg (by simp [h]), if_pos h2]
      have t2 : (x.toList == y.toList) = false := strB_f (fun e => ltS_ne h2 e.symm)
      have Hc := Lib.hid hc
      clear hc h h2
      go_enter Try.func92, Try.ntmps92
      go_wp2
      go_ret
      exact ⟨ret_int Hc.out.symm, bl⟩
    | false =>
      have hc : cmpS x y = 0 := by unfold cmpS; rw [if_neg (by simp [h]), if_neg (by simp [h2])]
      have t2 : (x.toList == y.toList) = true := strB_t (ltS_eq h h2)
      have Hc := Lib.hid hc
      clear hc h h2
      go_enter Try.func92, Try.ntmps92
      go_wp2
      go_ret
      exact ⟨ret_int Hc.out.symm, bl⟩
theorem cmpTag_c (x y : Tag) (w : World) :
    Calls Try.prog 91 #[.agg #[.string x.1, .string x.2], .agg #[.string y.1, .string y.2]] w fun e w' => e = .returned (.int .i64 (cmpS x.1 y.1)) ∧ Below w.heap.size w w' := by
  go_enter Try.func91, Try.ntmps91
  go_wp2_with fail
  refine (cmpStr_c x.1 y.1 _).mono ?_
  rintro e w1 ⟨rfl, hb1⟩
  go_wp2
  go_ret
  exact ⟨rfl, bl⟩
theorem lenBits_c (n : Nat) (hn : n ≤ 12) (w : World) : Calls Try.prog 122 #[.int .u64 n] w fun e w' => (∃ z : Int, e = .returned (.int .i64 z)) ∧ Below w.heap.size w w' := by
  have d1 : decide ((4294967296 : Int) ≤ (n : Int)) = false := decide_eq_false (by omega)
  have d2 : decide ((65536 : Int) ≤ (n : Int)) = false := decide_eq_false (by omega)
  have d3 : decide ((256 : Int) ≤ (n : Int)) = false := decide_eq_false (by omega)
  go_enter Try.func122, Try.ntmps122
  go_wp2
  go_ret
  exact ⟨⟨_, rfl⟩, bl⟩
end Go.Proofs.Ytlebgjafaioajaa
