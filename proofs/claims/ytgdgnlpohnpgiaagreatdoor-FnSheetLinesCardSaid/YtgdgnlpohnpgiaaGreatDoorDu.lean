/- Contracts: what is drawn of a code: shapes. -/
import Derived.Test.YtgdgnlpohnpgiaaGreatDoorDt
namespace Go.Proofs.YtgdgnlpohnpgiaaGreatDoor
open Go.RowKit Go.Proofs.YtgdgnlpohnpgiaaGreatDoorW.PrintWords Go.Proofs.YtgdgnlpohnpgiaaGreatDoorW.PrintLast
set_option linter.unusedVariables false
set_option linter.unusedSimpArgs false
attribute [local go_sem] cell_set_far cell_set_off
theorem l12Open_d (A : Option Addr) (c : Nat) (l : List Int) (w : World) (hl : (Kd.int .u8).C w A l.length l) (hb : ∀ x ∈ l, 0 ≤ x ∧ x ≤ 255) (hc : l.length ≤ c) (hn : l.length ≤ 1048576) :
    Calls Tryz.prog 30 #[.slice A l.length c] w fun e w' => ∃ b, e = .returned (.pointer (some ⟨b, 0, none⟩)) ∧ Rdr w w' b 0 ∧ w.heap.size ≤ b ∧ Below w.heap.size w w' := by
  by_cases h : l.length ≤ 2000
  · have hd : decide ((2000 : Int) < (l.length : Int)) = false := decide_eq_false (by omega)
    go_enter Tryz.func30, Tryz.ntmps30
    go_wp2
    go_ret
    exact ⟨_, rfl, ⟨A, c, l, 0, hl, hb, h, Nat.le_refl _, bl, B2.new w, Nat.le_refl _⟩, Nat.le_refl _, bl⟩
  · have hd : decide ((2000 : Int) < (l.length : Int)) = true := decide_eq_true (by omega)
    have ht : (l.take 2000).length = 2000 := by rw [List.length_take]; omega
    have Ht := Lib.hid ht
    clear ht
    have hlt := Kd.C_take hl (show 2000 ≤ l.length by omega)
    have hcap : 2000 ≤ c := by omega
    go_enter Tryz.func30, Tryz.ntmps30
    go_wp2
    go_ret
    exact ⟨_, rfl, ⟨A, c, l.take 2000, 0, hlt, fun x hx => hb x (List.mem_of_mem_take hx), by rw [Ht.out]; omega, Nat.le_refl _, bl, by rw [Ht.out]; exact B2.new w, Nat.le_refl _⟩, Nat.le_refl _, bl⟩
/-- A shape drawn of a code. -/
def CShape (w : World) (e : Ending) (w' : World) : Prop := ∃ (K : Int) (A : Option Addr) (c : Nat) (l : List Pt), e = .returned (.agg #[.int .i64 K, .slice A l.length c]) ∧ RI kPt 84 w' w.heap.size w'.heap.size (.slice A l.length c) l ∧ l.length ≤ 16 ∧ 0 ≤ K ∧ K ≤ 4 ∧ Below w.heap.size w w'
theorem Ex.bel {lo hi : Nat} {w w1 w2 : World} (h : Ex lo hi w1 w2) (hb : Below w.heap.size w w1) (hl : w.heap.size ≤ lo) : Below w.heap.size w w2 := hb.trans (h.1.mono hl)
end Go.Proofs.YtgdgnlpohnpgiaaGreatDoor
