/- Contracts: what is drawn: a map alone; the text of a map that is not ok. -/
import Derived.Test.YtlipjhmcgdmhlaaDoorSz
namespace Go.Proofs.YtlipjhmcgdmhlaaDoor
open Go.RowKit Go.Proofs.YtlipjhmcgdmhlaaDoorW.PrintWords Go.Proofs.YtlipjhmcgdmhlaaDoorW.PrintLast
set_option maxRecDepth 100000
set_option linter.unusedVariables false
set_option linter.unusedSimpArgs false
/-- A map drawn of a code. -/
def CSheet (w : World) (e : Ending) (w' : World) : Prop := ∃ (l : List FeatD) (D : Option Addr) (d : Nat), e = .returned (.slice D l.length d) ∧ l.length ≤ d ∧ kFeat.C w' D l.length l ∧ (∀ f ∈ l, FSm 4 f) ∧ l.length ≤ 20 ∧ Below w.heap.size w w'
theorem DrawSheetOk_d (A : Option Addr) (c : Nat) (l : List Int) (w : World) (hl : (Kd.int .u8).C w A l.length l) (hb : ∀ x ∈ l, 0 ≤ x ∧ x ≤ 255) (hc : l.length ≤ c) (hn : l.length ≤ 1048576) :
    Calls Tryd.prog 17 #[.slice A l.length c] w (CSheet w) := by
  go_enter Tryd.func17, Tryd.ntmps17
  go_wp2_with fail
  refine (l12Open_d A c l _ (Kd.C_below hl bl) hb hc hn).mono ?_
  rintro e w1 ⟨b, rfl, R1, hb1, hB1⟩
  have s1 := hB1.size
  go_wp2_with fail
  refine (l3Bent_d b b 0 _ _ R1 (by omega) R1.lt).mono ?_
  rintro e w2 ⟨m, D, d, rfl, hd, hC2, hsm, hlen, R2, hx2⟩
  have B_2 := hx2.bel (bl : Below w.heap.size w w1) (by omega)
  go_wp2
  go_ret
  exact ⟨m, D, d, rfl, hd, kFeat_sub hC2 (lss_le b w2 b), hsm, hlen, B_2⟩
theorem iSheetText_no (l : List FeatD) (A : Option Addr) (c : Nat) (w : World) (hl : kFeat.C w A l.length l) (hn : l.length ≤ 1048576) (X : ∀ f ∈ l, FTx f) (hno : sheetOk l = false) :
    Calls Tryd.prog 20 #[.slice A l.length c] w fun e w' => e = .returned (.string ⟨#[]⟩) ∧ Below w.heap.size w w' := by
  have hO := iSheetOk_c A c l
  rw [hno] at hO
  have HO := Lib.hid hO
  clear hO
  go_enter Tryd.func20, Tryd.ntmps20
  go_wp2_with fail
  refine (HO.out _ (Kd.C_below hl bl) hn X).mono ?_
  rintro e w1 ⟨rfl, hb1⟩
  go_wp2
  go_ret
  exact ⟨rfl, bl⟩
end Go.Proofs.YtlipjhmcgdmhlaaDoor
