/- Contracts: what is drawn of a code: a map and a name, a map and a thing. -/
import Derived.Test.YtlebgjafaioajaaSy
namespace Go.Proofs.Ytlebgjafaioajaa
open Go.RowKit Go.Proofs.YtlebgjafaioajaaW.PrintWords Go.Proofs.YtlebgjafaioajaaW.PrintLast
set_option maxRecDepth 100000
set_option linter.unusedVariables false
set_option linter.unusedSimpArgs false
attribute [local go_sem] cell_set_far cell_set_off
def CSheetK (w : World) (e : Ending) (w' : World) : Prop := ∃ (l : List FeatD) (D : Option Addr) (d : Nat) (id : ByteArray), e = .returned (.tuple #[.slice D l.length d, .string id]) ∧ l.length ≤ d ∧ kFeat.C w' D l.length l ∧ (∀ f ∈ l, FSm 4 f) ∧ l.length ≤ 20 ∧ id.size ≤ 10 ∧ Below w.heap.size w w'
def CSheetP (w : World) (e : Ending) (w' : World) : Prop := ∃ (l : List FeatD) (D : Option Addr) (d : Nat) (f : FeatD) (A : Option Addr) (c : Nat) (B : Option Addr) (d2 : Nat), e = .returned (.tuple #[.slice D l.length d, featV f A c B d2]) ∧ l.length ≤ d ∧ kFeat.C w' D l.length l ∧ (∀ f ∈ l, FSm 4 f) ∧ l.length ≤ 20 ∧ kPt.C w' A f.2.1.2.length f.2.1.2 ∧ kTag.C w' B f.2.2.length f.2.2 ∧ f.2.1.2.length ≤ c ∧ f.2.2.length ≤ d2 ∧ FSm 4 f ∧ Below w.heap.size w w'
theorem DrawSheetGet_d (A : Option Addr) (c : Nat) (l : List Int) (w : World) (hl : (Kd.int .u8).C w A l.length l) (hb : ∀ x ∈ l, 0 ≤ x ∧ x ≤ 255) (hc : l.length ≤ c) (hn : l.length ≤ 1048576) :
    Calls Try.prog 99 #[.slice A l.length c] w (CSheetK w) := by
  go_enter Try.func99, Try.ntmps99
  go_wp2_with fail
  refine (l12Open_d A c l _ (Kd.C_below hl bl) hb hc hn).mono ?_
  rintro e w1 ⟨b, rfl, R1, hb1, hB1⟩
  have s1 := hB1.size
  go_wp2_with fail
  refine (l3Bent_d b 0 _ _ R1 (by omega)).mono ?_
  rintro e w2 ⟨m, D, d, rfl, hd, hC2, hsm, hlen, R2, hx2⟩
  have s2 := hx2.1.size
  have B_2 := hx2.bel (bl : Below w.heap.size w w1) (by omega)
  go_wp2_with fail
  refine (l2Id_d b _ _ _ R2 (by omega)).mono ?_
  rintro e w3 ⟨id, rfl, hid, R3, hx3⟩
  have B_3 := hx3.bel B_2 (by omega)
  go_wp2
  refine bodyPost_ret (v := .tuple #[.slice D m.length d, .string id]) (by simp [results, Try.results99, go_sem, *]) rfl ⟨m, D, d, id, rfl, hd, kFeat_sub hC2 ((less_ex hx3).trans (less_le w3 b)), hsm, hlen, hid, B_3⟩
theorem DrawSheetCut_d (A : Option Addr) (c : Nat) (l : List Int) (w : World) (hl : (Kd.int .u8).C w A l.length l) (hb : ∀ x ∈ l, 0 ≤ x ∧ x ≤ 255) (hc : l.length ≤ c) (hn : l.length ≤ 1048576) :
    Calls Try.prog 53 #[.slice A l.length c] w (CSheetK w) := by
  go_enter Try.func53, Try.ntmps53
  go_wp2_with fail
  refine (DrawSheetGet_d A c l _ (Kd.C_below hl bl) hb hc hn).mono ?_
  rintro e w1 ⟨m, D, d, id, rfl, hd, hC, hsm, hlen, hid, hb1⟩
  go_wp2
  refine bodyPost_ret (v := .tuple #[.slice D m.length d, .string id]) (by simp [results, Try.results53, go_sem, *]) rfl ⟨m, D, d, id, rfl, hd, hC, hsm, hlen, hid, hb1⟩
end Go.Proofs.Ytlebgjafaioajaa
