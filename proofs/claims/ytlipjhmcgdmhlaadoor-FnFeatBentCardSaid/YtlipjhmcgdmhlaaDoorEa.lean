/- Contracts: what is drawn: a thing alone, a word; the text of a thing that is not ok. -/
import Derived.Test.YtlipjhmcgdmhlaaDoorDx
import Derived.Test.YtlipjhmcgdmhlaaDoorDu
namespace Go.Proofs.YtlipjhmcgdmhlaaDoor
open Go.RowKit Go.Proofs.YtlipjhmcgdmhlaaDoorW.PrintWords Go.Proofs.YtlipjhmcgdmhlaaDoorW.PrintLast
set_option maxRecDepth 100000
set_option linter.unusedVariables false
set_option linter.unusedSimpArgs false
attribute [local go_sem] cell_set_far cell_set_off
/-- A thing drawn of a code. -/
def CFeat (w : World) (e : Ending) (w' : World) : Prop := ∃ (f : FeatD) (A : Option Addr) (c : Nat) (B : Option Addr) (d : Nat), e = .returned (featV f A c B d) ∧ RI kPt 30 w' w.heap.size w'.heap.size (.slice A f.2.1.2.length c) f.2.1.2 ∧ RI kTag 41 w' w.heap.size w'.heap.size (.slice B f.2.2.length d) f.2.2 ∧ FSm 4 f ∧ Below w.heap.size w w'
set_option maxHeartbeats 1000000 in
theorem DrawFeatOk_d (A : Option Addr) (c : Nat) (l : List Int) (w : World) (hl : (Kd.int .u8).C w A l.length l) (hb : ∀ x ∈ l, 0 ≤ x ∧ x ≤ 255) (hc : l.length ≤ c) (hn : l.length ≤ 1048576) :
    Calls Tryd.prog 10 #[.slice A l.length c] w (CFeat w) := by
  go_enter Tryd.func10, Tryd.ntmps10
  go_wp2_with fail
  refine (l12Open_d A c l _ (Kd.C_below hl bl) hb hc hn).mono ?_
  rintro e w1 ⟨b, rfl, R1, hb1, hB1⟩
  have s1 := hB1.size
  simp only [World.size_alloc] at s1 hb1
  go_wp2_with fail
  refine (l2Bent_d b 0 _ _ R1 (by omega)).mono ?_
  rintro e w3 ⟨f, A3, c3, B3, d3, rfl, hp3, ht3, hS3, R3, hx3⟩
  have s3 := hx3.1.size
  have B_3 := hx3.bel (bl : Below w.heap.size w w1) (by omega)
  have T3 := (B4.new' (W := w1) w w.heap.size (.string ⟨#[]⟩) (.int .i64 0) (.slice none 0 0) (.slice none 0 0) 34).exb hx3 (Or.inl (by omega))
  obtain ⟨a0, a1, a2, a3⟩ := T3.c
  obtain ⟨z0, z1, z2, z3⟩ := T3.z
  have H3 := Lib.hid (And.intro hp3 ht3)
  clear hp3 ht3
  go_wp2
  refine bodyPost_ret (v := .agg #[.string f.1, .int .i64 f.2.1.1, .slice A3 f.2.1.2.length c3, .slice B3 f.2.2.length d3]) (by simp [results, Tryd.results10, go_sem, *]) rfl ⟨f, A3, c3, B3, d3, rfl, ?_, ?_, hS3, (((B_3.setCell (by simp) _).setCell (by simp) _).setCell (by simp) _).setCell (by simp) _⟩
  · exact ((((H3.out.1.far (Or.inl (by simp only []; omega)) _).far (Or.inl (by simp only []; omega)) _).far (Or.inl (by simp only []; omega)) _).far (Or.inl (by simp only []; omega)) _).wide (by omega) (by simp only [World.size_setCell]; omega)
  · exact ((((H3.out.2.far (Or.inl (by simp only []; omega)) _).far (Or.inl (by simp only []; omega)) _).far (Or.inl (by simp only []; omega)) _).far (Or.inl (by simp only []; omega)) _).wide (by omega) (by simp only [World.size_setCell]; omega)
theorem DrawWordOk_d (A : Option Addr) (c : Nat) (l : List Int) (w : World) (hl : (Kd.int .u8).C w A l.length l) (hb : ∀ x ∈ l, 0 ≤ x ∧ x ≤ 255) (hc : l.length ≤ c) (hn : l.length ≤ 1048576) :
    Calls Tryd.prog 11 #[.slice A l.length c] w fun e w' => ∃ s : ByteArray, s.size ≤ 10 ∧ e = .returned (.string s) ∧ Below w.heap.size w w' := by
  go_enter Tryd.func11, Tryd.ntmps11
  go_wp2_with fail
  refine (l12Open_d A c l _ (Kd.C_below hl bl) hb hc hn).mono ?_
  rintro e w1 ⟨b, rfl, R1, hb1, hB1⟩
  have hbw := R1.lt
  go_wp2_with fail
  refine (of_d b w1.heap.size _ _ [⟨#[97]⟩, ⟨#[111, 97, 107]⟩, ⟨#[]⟩, ⟨#[97, 98, 99, 100, 101, 102]⟩, ⟨#[97, 98, 99, 100, 101, 102, 103]⟩, ⟨#[65]⟩, ⟨#[97, 32, 98]⟩, ⟨#[120, 49]⟩] _ _ (R1.to bl) (by omega) hbw (litStrs w1 _ _ (by decide)) (by decide) (by decide)).mono ?_
  rintro e w2 ⟨v, hv, rfl, R2, hx2⟩
  have B_2 := hx2.bel (bl : Below w.heap.size w _) (by omega)
  go_wp2
  go_ret
  exact ⟨v, (show ∀ v ∈ ([⟨#[97]⟩, ⟨#[111, 97, 107]⟩, ⟨#[]⟩, ⟨#[97, 98, 99, 100, 101, 102]⟩, ⟨#[97, 98, 99, 100, 101, 102, 103]⟩, ⟨#[65]⟩, ⟨#[97, 32, 98]⟩, ⟨#[120, 49]⟩] : List ByteArray), v.size ≤ 10 by decide) v hv, rfl, B_2⟩
theorem iFeatText_no (f : FeatD) (A : Option Addr) (c : Nat) (B : Option Addr) (d : Nat) (w : World) (hl : kPt.C w A f.2.1.2.length f.2.1.2) (hm : kTag.C w B f.2.2.length f.2.2) (X : FTx f) (hno : featOk f = false) :
    Calls Tryd.prog 16 #[featV f A c B d] w fun e w' => e = .returned (.string ⟨#[]⟩) ∧ Below w.heap.size w w' := by
  have hO := iFeatOk_c f A c B d
  rw [hno] at hO
  have HO := Lib.hid hO
  clear hO
  go_enter Tryd.func16, Tryd.ntmps16
  have T1 : B4 (w.alloc (.cells #[.string f.1, .int .i64 f.2.1.1, .slice A f.2.1.2.length c, .slice B f.2.2.length d] 34)) w.heap.size 34 (.string f.1) (.int .i64 f.2.1.1) (.slice A f.2.1.2.length c) (.slice B f.2.2.length d) := B4.new w _ _ _ _ _
  go_wp2_with fail
  refine (HO.out _ (Kd.C_below hl bl) (Kd.C_below hm bl) X).mono ?_
  rintro e w1 ⟨rfl, hb1⟩
  go_wp2
  go_ret
  exact ⟨rfl, bl⟩
end Go.Proofs.YtlipjhmcgdmhlaaDoor
