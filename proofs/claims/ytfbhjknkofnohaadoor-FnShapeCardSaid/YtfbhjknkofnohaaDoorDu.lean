/- Contracts: what is drawn of a code: shapes. -/
import Derived.Test.YtfbhjknkofnohaaDoorDt
namespace Go.Proofs.YtfbhjknkofnohaaDoor
open Go.RowKit Go.Proofs.YtfbhjknkofnohaaDoorW.PrintWords Go.Proofs.YtfbhjknkofnohaaDoorW.PrintLast
set_option linter.unusedVariables false
set_option linter.unusedSimpArgs false
attribute [local go_sem] cell_set_far cell_set_off
theorem l12Open_d (A : Option Addr) (c : Nat) (l : List Int) (w : World) (hl : (Kd.int .u8).C w A l.length l) (hb : ∀ x ∈ l, 0 ≤ x ∧ x ≤ 255) (hc : l.length ≤ c) (hn : l.length ≤ 1048576) :
    Calls Tryd.prog 43 #[.slice A l.length c] w fun e w' => ∃ b, e = .returned (.pointer (some ⟨b, 0, none⟩)) ∧ Rdr w w' b 0 ∧ w.heap.size ≤ b ∧ Below w.heap.size w w' := by
  by_cases h : l.length ≤ 2000
  · have hd : decide ((2000 : Int) < (l.length : Int)) = false := decide_eq_false (by omega)
    go_enter Tryd.func43, Tryd.ntmps43
    go_wp2
    go_ret
    exact ⟨_, rfl, ⟨A, c, l, 0, hl, hb, h, Nat.le_refl _, bl, B2.new w, Nat.le_refl _⟩, Nat.le_refl _, bl⟩
  · have hd : decide ((2000 : Int) < (l.length : Int)) = true := decide_eq_true (by omega)
    have ht : (l.take 2000).length = 2000 := by rw [List.length_take]; omega
    have Ht := Lib.hid ht
    clear ht
    have hlt := Kd.C_take hl (show 2000 ≤ l.length by omega)
    have hcap : 2000 ≤ c := by omega
    go_enter Tryd.func43, Tryd.ntmps43
    go_wp2
    go_ret
    exact ⟨_, rfl, ⟨A, c, l.take 2000, 0, hlt, fun x hx => hb x (List.mem_of_mem_take hx), by rw [Ht.out]; omega, Nat.le_refl _, bl, by rw [Ht.out]; exact B2.new w, Nat.le_refl _⟩, Nat.le_refl _, bl⟩
/-- A shape drawn of a code. -/
def CShape (w : World) (e : Ending) (w' : World) : Prop := ∃ (K : Int) (A : Option Addr) (c : Nat) (l : List Pt), e = .returned (.agg #[.int .i64 K, .slice A l.length c]) ∧ RI kPt 58 w' w.heap.size w'.heap.size (.slice A l.length c) l ∧ l.length ≤ 16 ∧ 0 ≤ K ∧ K ≤ 4 ∧ Below w.heap.size w w'
theorem Ex.bel {lo hi : Nat} {w w1 w2 : World} (h : Ex lo hi w1 w2) (hb : Below w.heap.size w w1) (hl : w.heap.size ≤ lo) : Below w.heap.size w w2 := hb.trans (h.1.mono hl)
theorem DrawShapeText_d (A : Option Addr) (c : Nat) (l : List Int) (w : World) (hl : (Kd.int .u8).C w A l.length l) (hb : ∀ x ∈ l, 0 ≤ x ∧ x ≤ 255) (hc : l.length ≤ c) (hn : l.length ≤ 1048576) : Calls Tryd.prog 16 #[.slice A l.length c] w (CShape w) := by
  go_enter Tryd.func16, Tryd.ntmps16
  go_wp2_with fail
  refine (l12Open_d A c l _ (Kd.C_below hl bl) hb hc hn).mono ?_
  rintro e w1 ⟨b, rfl, R1, hb1, hB1⟩
  have s1 := hB1.size
  simp only [World.size_alloc] at s1 hb1
  go_wp2_with fail
  refine (l1Bent_d b 0 _ _ R1 (by omega)).mono ?_
  rintro e w2 ⟨K, A2, c2, l2, rfl, hr2, hl2, _, hK0, hK4, R2, hx2⟩
  have T := (B2.new' (W := w1) w w.heap.size (.int .i64 0) (.slice none 0 0) 30).ex hx2 (Or.inl (by omega))
  obtain ⟨a0, a1, a2, a3, a4⟩ := T.f
  have B2_ := hx2.bel (bl : Below w.heap.size w w1) (by omega)
  go_wp2
  refine bodyPost_ret (v := .agg #[.int .i64 K, .slice A2 l2.length c2]) (by simp [results, Tryd.results16, go_sem, *]) rfl ⟨K, A2, c2, l2, rfl, ?_, by omega, hK0, hK4, (B2_.setCell (by simp) _).setCell (by simp) _⟩
  exact ((hr2.far (Or.inl (by simp only []; omega)) _).far (Or.inl (by simp only []; omega)) _).wide (by omega) (by simp only [World.size_setCell]; omega)
end Go.Proofs.YtfbhjknkofnohaaDoor
