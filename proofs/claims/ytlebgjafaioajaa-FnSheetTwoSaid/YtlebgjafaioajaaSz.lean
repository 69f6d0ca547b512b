/- Contracts: what is drawn of a code: a map and a name, a map and a thing. -/
import Derived.Test.YtlebgjafaioajaaSy
namespace Go.Proofs.Ytlebgjafaioajaa
open Go.RowKit Go.Proofs.YtlebgjafaioajaaW.PrintWords Go.Proofs.YtlebgjafaioajaaW.PrintLast
set_option maxRecDepth 100000
set_option linter.unusedVariables false
set_option linter.unusedSimpArgs false
attribute [local go_sem] cell_set_far cell_set_off
def CSheetK (w : World) (e : Ending) (w' : World) : Prop := ∃ (l : List FeatD) (D : Option Addr) (d : Nat) (id : ByteArray), e = .returned (.tuple #[.slice D l.length d, .string id]) ∧ l.length ≤ d ∧ kFeat.C w' D l.length l ∧ (∀ f ∈ l, FSm 4 f) ∧ l.length ≤ 20 ∧ id.size ≤ 10 ∧ Below w.heap.size w w'
def CSheetP (w : World) (e : Ending) (w' : World) : Prop := ∃ (l : List FeatD) (D : Option Addr) (d : Nat) (f : FeatD) (A : Option Addr) (c : Nat) (B : Option Addr) (d2 : Nat), e = .returned (.tuple #[.slice D l.length d, featV f A c B d2]) ∧ l.length ≤ d ∧ kFeat.C w' D l.length l ∧ (∀ f ∈ l, FSm 4 f) ∧ l.length ≤ 20 ∧ kPt.C w' A f.2.1.2.length f.2.1.2 ∧ kTag.C w' B f.2.2.length f.2.2 ∧ f.2.1.2.length ≤ c ∧ f.2.2.length ≤ d2 ∧ FSm 4 f ∧ Below w.heap.size w w'
theorem DrawSheetGet_d (A : Option Addr) (c : Nat) (l : List Int) (w : World) (hl : (Kd.int .u8).C w A l.length l) (hb : ∀ x ∈ l, 0 ≤ x ∧ x ≤ 255) (hc : l.length ≤ c) (hn : l.length ≤ 1048576) :
    Calls Try.prog 99 #[.slice A l.length c] w (CSheetK w) := by
  go_enter Try.func99, Try.ntmps99
  go_wp2_with fail
  refine (l12Open_d A c l _ (Kd.C_below hl bl) hb hc hn).mono ?_
  rintro e w1 ⟨b, rfl, R1, hb1, hB1⟩
  have s1 := hB1.size
  go_wp2_with fail
  refine (l3Bent_d b b 0 _ _ R1 (by omega) R1.lt).mono ?_
  rintro e w2 ⟨m, D, d, rfl, hd, hC2, hsm, hlen, R2, hx2⟩
  have s2 := hx2.1.size
  have B_2 := hx2.bel (bl : Below w.heap.size w w1) (by omega)
  go_wp2_with fail
  refine (l2Id_d b _ _ _ R2 (by omega)).mono ?_
  rintro e w3 ⟨id, rfl, hid, R3, hx3⟩
  have B_3 := hx3.bel B_2 (by omega)
  go_wp2
  refine bodyPost_ret (v := .tuple #[.slice D m.length d, .string id]) (by simp [results, Try.results99, go_sem, *]) rfl ⟨m, D, d, id, rfl, hd, kFeat_sub hC2 ((lss_ex hx3).trans (lss_le b w3 b)), hsm, hlen, hid, B_3⟩
theorem DrawSheetCut_d (A : Option Addr) (c : Nat) (l : List Int) (w : World) (hl : (Kd.int .u8).C w A l.length l) (hb : ∀ x ∈ l, 0 ≤ x ∧ x ≤ 255) (hc : l.length ≤ c) (hn : l.length ≤ 1048576) :
    Calls Try.prog 53 #[.slice A l.length c] w (CSheetK w) := by
  go_enter Try.func53, Try.ntmps53
  go_wp2_with fail
  refine (DrawSheetGet_d A c l _ (Kd.C_below hl bl) hb hc hn).mono ?_
  rintro e w1 ⟨m, D, d, id, rfl, hd, hC, hsm, hlen, hid, hb1⟩
  go_wp2
  refine bodyPost_ret (v := .tuple #[.slice D m.length d, .string id]) (by simp [results, Try.results53, go_sem, *]) rfl ⟨m, D, d, id, rfl, hd, hC, hsm, hlen, hid, hb1⟩
set_option maxHeartbeats 1000000 in
theorem DrawSheetPut_d (A : Option Addr) (c : Nat) (l : List Int) (w : World) (hl : (Kd.int .u8).C w A l.length l) (hb : ∀ x ∈ l, 0 ≤ x ∧ x ≤ 255) (hc : l.length ≤ c) (hn : l.length ≤ 1048576) :
    Calls Try.prog 50 #[.slice A l.length c] w (CSheetP w) := by
  go_enter Try.func50, Try.ntmps50
  go_wp2_with fail
  refine (l12Open_d A c l _ (Kd.C_below hl bl) hb hc hn).mono ?_
  rintro e w1 ⟨b, rfl, R1, hb1, hB1⟩
  have s1 := hB1.size
  simp only [World.size_alloc] at s1 hb1
  go_wp2_with fail
  refine (l3Bent_d w.heap.size b 0 _ _ R1 (by omega) (by omega)).mono ?_
  rintro e w2 ⟨m, D, d, rfl, hd, hC2, hsm, hlen, R2, hx2⟩
  have s2 := hx2.1.size
  have B_2 := hx2.bel (bl : Below w.heap.size w w1) (by omega)
  have T2 := (B4.new' (W := w1) w w.heap.size (.string ⟨#[]⟩) (.int .i64 0) (.slice none 0 0) (.slice none 0 0) 35).exb hx2 (Or.inl (by omega))
  go_wp2_with fail
  refine (l2Bent_d b _ _ _ R2 (by omega)).mono ?_
  rintro e w3 ⟨f, A3, c3, B3, d3, rfl, hp3, ht3, hS3, R3, hx3⟩
  have s3 := hx3.1.size
  have B_3 := hx3.bel B_2 (by omega)
  have T3 := T2.exb hx3 (Or.inl (by omega))
  obtain ⟨a0, a1, a2, a3⟩ := T3.c
  obtain ⟨z0, z1, z2, z3⟩ := T3.z
  have H3 := Lib.hid (And.intro hp3 ht3)
  have hC3 : Sub (lss w.heap.size w2 b) (lss w.heap.size w3 b) := lss_ex hx3
  have HC2 := Lib.hid (And.intro hC2 hC3)
  clear hp3 ht3 hC2 hC3
  go_wp2
  refine bodyPost_ret (v := .tuple #[.slice D m.length d, .agg #[.string f.1, .int .i64 f.2.1.1, .slice A3 f.2.1.2.length c3, .slice B3 f.2.2.length d3]]) (by simp [results, Try.results50, go_sem, *]) rfl ⟨m, D, d, f, A3, c3, B3, d3, rfl, hd, kFeat_sub HC2.out.1 (HC2.out.2.trans fun p u hc => ?_), hsm, hlen, ?_, ?_, ?_, ?_, hS3, (((B_3.setCell (by simp) _).setCell (by simp) _).setCell (by simp) _).setCell (by simp) _⟩
  · obtain ⟨h1, h2, h3⟩ := lss_iff.1 hc
    have key : ∀ (W : World) (k : Nat) (v : Value), (W.setCell ⟨w.heap.size, k, none⟩ v).heap[p.block]? = W.heap[p.block]? := fun W k v => Below.heap_setCell W _ _ _ (by simpa using h2)
    rw [World.cell?_of_block (w := w3) (((key _ _ _).trans (key _ _ _)).trans ((key _ _ _).trans (key _ _ _)))]
    exact h3
  · exact ((((H3.out.1.far (Or.inl (by simp only []; omega)) _).far (Or.inl (by simp only []; omega)) _).far (Or.inl (by simp only []; omega)) _).far (Or.inl (by simp only []; omega)) _).rd.2.2
  · exact ((((H3.out.2.far (Or.inl (by simp only []; omega)) _).far (Or.inl (by simp only []; omega)) _).far (Or.inl (by simp only []; omega)) _).far (Or.inl (by simp only []; omega)) _).rd.2.2
  · exact H3.out.1.rd.2.1
  · exact H3.out.2.rd.2.1
end Go.Proofs.Ytlebgjafaioajaa
