/- Contracts: what is drawn of a code: a thing and texts. -/
import Derived.Test.YtlebgjafaioajaaDx
import Derived.Test.YtlebgjafaioajaaDu
namespace Go.Proofs.Ytlebgjafaioajaa
open Go.RowKit Go.Proofs.YtlebgjafaioajaaW.PrintWords Go.Proofs.YtlebgjafaioajaaW.PrintLast
set_option maxRecDepth 100000
set_option linter.unusedVariables false
set_option linter.unusedSimpArgs false
attribute [local go_sem] cell_set_far cell_set_off
/-- A thing and a text drawn of a code. -/
def CFeatK (w : World) (e : Ending) (w' : World) : Prop := ∃ (f : FeatD) (A : Option Addr) (c : Nat) (B : Option Addr) (d : Nat) (key : ByteArray), e = .returned (.tuple #[featV f A c B d, .string key]) ∧ RI kPt 108 w' w.heap.size w'.heap.size (.slice A f.2.1.2.length c) f.2.1.2 ∧ RI kTag 57 w' w.heap.size w'.heap.size (.slice B f.2.2.length d) f.2.2 ∧ FSm 4 f ∧ key.size ≤ 10 ∧ Below w.heap.size w w'
def CFeatP (w : World) (e : Ending) (w' : World) : Prop := ∃ (f : FeatD) (A : Option Addr) (c : Nat) (B : Option Addr) (d : Nat) (key val : ByteArray), e = .returned (.tuple #[featV f A c B d, .string key, .string val]) ∧ RI kPt 108 w' w.heap.size w'.heap.size (.slice A f.2.1.2.length c) f.2.1.2 ∧ RI kTag 57 w' w.heap.size w'.heap.size (.slice B f.2.2.length d) f.2.2 ∧ FSm 4 f ∧ key.size ≤ 10 ∧ val.size ≤ 10 ∧ Below w.heap.size w w'
def s_DrawFeatGet_T3 : Bool × List (List Nat × List Nat) := (true, [([], []), ([], []), ([1], [1]), ([0, 2, 0], [0]), ([2, 3, 0, 1, 2, 3], [2])])
theorem s_DrawFeatGet_t3 : rtab .any (opsOf Try.f71 3) = s_DrawFeatGet_T3 := by kernel_rfl
set_option maxHeartbeats 2000000 in
theorem DrawFeatGet_d (A : Option Addr) (c : Nat) (l : List Int) (w : World) (hl : (Kd.int .u8).C w A l.length l) (hb : ∀ x ∈ l, 0 ≤ x ∧ x ≤ 255) (hc : l.length ≤ c) (hn : l.length ≤ 1048576) :
    Calls Try.prog 71 #[.slice A l.length c] w (CFeatK w) := by
  go_enter Try.func71, Try.ntmps71
  go_wp2_with fail
  refine (l12Open_d A c l _ (Kd.C_below hl bl) hb hc hn).mono ?_
  rintro e w1 ⟨b, rfl, R1, hb1, hB1⟩
  have s1 := hB1.size
  simp only [World.size_alloc] at s1 hb1
  go_wp2_with fail
  refine (l2Bent_d b 0 _ _ R1 (by omega)).mono ?_
  rintro e w2 ⟨f, A2, c2, B2, d2, rfl, hr2, ht2, hS, R2, hx2⟩
  have s2 := hx2.1.size
  have T2 := (B4.new' (W := w1) w w.heap.size (.string ⟨#[]⟩) (.int .i64 0) (.slice none 0 0) (.slice none 0 0) 35).exb hx2 (Or.inl (by omega))
  have B_2 := hx2.bel (bl : Below w.heap.size w w1) (by omega)
  have X2 := B4.new w2 (.string f.1) (.int .i64 f.2.1.1) (.slice A2 f.2.1.2.length c2) (.slice B2 f.2.2.length d2) 35
  have hbl := R2.lt
  have hbl1 := R1.lt
  obtain ⟨a0, a1, a2, a3⟩ := X2.c
  go_wp2
  refine cgStart 5 [0, 1, 2, 3, 4] [3] [(⟨w2.heap.size, 0, none⟩, _), (⟨w2.heap.size, 1, none⟩, _), (⟨w2.heap.size, 2, none⟩, _), (⟨w2.heap.size, 3, none⟩, _)] s_DrawFeatGet_t3 ⟨a0, a1, a2, a3, trivial⟩ (fun HT HD => ?_)
  repeat ((with_reducible refine cgGate ?_); first | refine cgP HT ?_ | refine cgL HT ?_ | refine cgG HT ?_)
  refine cgCall HT Try.func112 (l2Key_d b _ _ _ (R2.to bl) (by omega)) ?_
  rintro e w3 ⟨kk, rfl, hkk, R3, hx3⟩
  have s3 := hx3.1.size
  simp only [World.size_alloc, World.size_drew] at s3
  have b23 : Below w2.heap.size w2 (w2.alloc (.cells #[.string f.1, .int .i64 f.2.1.1, .slice A2 f.2.1.2.length c2, .slice B2 f.2.2.length d2] 35)).drew := bl
  have T3 := (T2.to b23).exb hx3 (Or.inl (by omega))
  have X3 := (X2.to (below_drew1 (Below.refl _ _))).exb hx3 (Or.inr (by omega))
  have B_3 := hx3.bel (B_2.trans (b23.mono (by omega))) (by omega)
  have r3 : RI kPt 108 w3 w1.heap.size w2.heap.size (.slice A2 f.2.1.2.length c2) f.2.1.2 := (hr2.below b23).ex hx3 (Or.inr (by omega))
  have t3 : RI kTag 57 w3 w1.heap.size w2.heap.size (.slice B2 f.2.2.length d2) f.2.2 := (ht2.below b23).ex hx3 (Or.inr (by omega))
  refine ⟨_, rfl, ⟨X3.c.1, X3.c.2.1, X3.c.2.2.1, X3.c.2.2.2, trivial⟩, cgN ?_⟩
  clear a0 a1 a2 a3
  obtain ⟨a0, a1, a2, a3⟩ := T3.c
  obtain ⟨z0, z1, z2, z3⟩ := T3.z
  repeat ((with_reducible refine cgGate ?_); first | refine cgP HT ?_ | refine cgL HT ?_ | refine cgG HT ?_)
  refine cgLast HT ?_
  repeat ((with_reducible refine cgGate ?_); first | refine cgP HT ?_ | refine cgL HT ?_ | refine cgG HT ?_)
  refine cgDone HT ?_
  clear HT HD
  go_wp2
  refine bodyPost_ret (v := .tuple #[.agg #[.string f.1, .int .i64 f.2.1.1, .slice A2 f.2.1.2.length c2, .slice B2 f.2.2.length d2], .string kk]) (by simp [results, Try.results71, go_sem, *]) rfl ⟨f, A2, c2, B2, d2, kk, rfl, ?_, ?_, hS, hkk, (((B_3.setCell (by simp) _).setCell (by simp) _).setCell (by simp) _).setCell (by simp) _⟩
  · exact ((((r3.far (Or.inl (by simp only []; omega)) _).far (Or.inl (by simp only []; omega)) _).far (Or.inl (by simp only []; omega)) _).far (Or.inl (by simp only []; omega)) _).wide (by omega) (by simp only [World.size_setCell]; omega)
  · exact ((((t3.far (Or.inl (by simp only []; omega)) _).far (Or.inl (by simp only []; omega)) _).far (Or.inl (by simp only []; omega)) _).far (Or.inl (by simp only []; omega)) _).wide (by omega) (by simp only [World.size_setCell]; omega)
theorem DrawFeatCut_d (A : Option Addr) (c : Nat) (l : List Int) (w : World) (hl : (Kd.int .u8).C w A l.length l) (hb : ∀ x ∈ l, 0 ≤ x ∧ x ≤ 255) (hc : l.length ≤ c) (hn : l.length ≤ 1048576) :
    Calls Try.prog 35 #[.slice A l.length c] w (CFeatK w) := by
  go_enter Try.func35, Try.ntmps35
  go_wp2_with fail
  refine (DrawFeatGet_d A c l _ (Kd.C_below hl bl) hb hc hn).mono ?_
  rintro e w1 ⟨f, A2, c2, B2, d2, key, rfl, hr1, ht1, hS, hk, hb1⟩
  have s1 := hb1.size
  simp only [World.size_alloc] at s1 hr1 ht1
  have T1 : B4 w1 w.heap.size 35 (.string ⟨#[]⟩) (.int .i64 0) (.slice none 0 0) (.slice none 0 0) := B4.new' w _ _ _ _ _ _
  obtain ⟨a0, a1, a2, a3⟩ := T1.c
  obtain ⟨z0, z1, z2, z3⟩ := T1.z
  go_wp2
  have B_1 : Below w.heap.size w w1 := bl
  refine bodyPost_ret (v := .tuple #[.agg #[.string f.1, .int .i64 f.2.1.1, .slice A2 f.2.1.2.length c2, .slice B2 f.2.2.length d2], .string key]) (by simp [results, Try.results35, go_sem, *]) rfl ⟨f, A2, c2, B2, d2, key, rfl, ?_, ?_, hS, hk, (((B_1.setCell (by simp) _).setCell (by simp) _).setCell (by simp) _).setCell (by simp) _⟩
  · exact ((((hr1.far (Or.inl (by simp only []; omega)) _).far (Or.inl (by simp only []; omega)) _).far (Or.inl (by simp only []; omega)) _).far (Or.inl (by simp only []; omega)) _).wide (by omega) (by simp only [World.size_setCell]; omega)
  · exact ((((ht1.far (Or.inl (by simp only []; omega)) _).far (Or.inl (by simp only []; omega)) _).far (Or.inl (by simp only []; omega)) _).far (Or.inl (by simp only []; omega)) _).wide (by omega) (by simp only [World.size_setCell]; omega)
end Go.Proofs.Ytlebgjafaioajaa
