/- Contracts: what is drawn of a code: a thing, a key and a value. -/
import Derived.Test.YtlebgjafaioajaaDy
namespace Go.Proofs.Ytlebgjafaioajaa
open Go.RowKit Go.Proofs.YtlebgjafaioajaaW.PrintWords Go.Proofs.YtlebgjafaioajaaW.PrintLast
set_option maxRecDepth 100000
set_option linter.unusedVariables false
set_option linter.unusedSimpArgs false
attribute [local go_sem] cell_set_far cell_set_off
def s_DrawFeatPut_T4 : Bool × List (List Nat × List Nat) := (true, [([], []), ([], []), ([], []), ([], []), ([2, 3], [2, 3]), ([0, 4, 0], [0]), ([1, 5, 0, 1, 5], [1]), ([4, 6, 0, 1, 2, 3, 4, 5, 6], [4])])
theorem s_DrawFeatPut_t4 : rtab .any (opsOf Try.f46 4) = s_DrawFeatPut_T4 := by kernel_rfl
set_option maxHeartbeats 2000000 in
theorem DrawFeatPut_d (A : Option Addr) (c : Nat) (l : List Int) (w : World) (hl : (Kd.int .u8).C w A l.length l) (hb : ∀ x ∈ l, 0 ≤ x ∧ x ≤ 255) (hc : l.length ≤ c) (hn : l.length ≤ 1048576) :
    Calls Try.prog 46 #[.slice A l.length c] w (CFeatP w) := by
  go_enter Try.func46, Try.ntmps46
  go_wp2_with fail
  refine (l12Open_d A c l _ (Kd.C_below hl bl) hb hc hn).mono ?_
  rintro e w1 ⟨b, rfl, R1, hb1, hB1⟩
  have s1 := hB1.size
  simp only [World.size_alloc] at s1 hb1
  go_wp2_with fail
  refine (l2Bent_d b 0 _ _ R1 (by omega)).mono ?_
  rintro e w2 ⟨f, A2, c2, B2, d2, rfl, hr2, ht2, hS, R2, hx2⟩
  have s2 := hx2.1.size
  have T2 := (B4.new' (W := w1) w w.heap.size (.string ⟨#[]⟩) (.int .i64 0) (.slice none 0 0) (.slice none 0 0) 35).exb hx2 (Or.inl (by omega))
  have B_2 := hx2.bel (bl : Below w.heap.size w w1) (by omega)
  have X2 := B4.new w2 (.string f.1) (.int .i64 f.2.1.1) (.slice A2 f.2.1.2.length c2) (.slice B2 f.2.2.length d2) 35
  have hbl := R2.lt
  have hbl1 := R1.lt
  go_wp2_with fail
  refine (of_d b (w2.heap.size + 1) _ _ [⟨#[110, 97, 109, 101]⟩, ⟨#[107, 105, 110, 100]⟩, ⟨#[117, 115, 101]⟩, ⟨#[116, 111, 110, 101]⟩, ⟨#[110, 101, 119]⟩, ⟨#[]⟩, ⟨#[75]⟩] _ _ (R2.to bl) (by omega) (by omega) (by simpa using litStrs (w2.alloc (.cells #[.string f.1, .int .i64 f.2.1.1, .slice A2 f.2.1.2.length c2, .slice B2 f.2.2.length d2] 35)) _ [⟨#[110, 97, 109, 101]⟩, ⟨#[107, 105, 110, 100]⟩, ⟨#[117, 115, 101]⟩, ⟨#[116, 111, 110, 101]⟩, ⟨#[110, 101, 119]⟩, ⟨#[]⟩, ⟨#[75]⟩] (by decide)) (by decide) (by decide)).mono ?_
  rintro e w3 ⟨kk, hkk, rfl, R3, hx3⟩
  have hk10 := (show ∀ v ∈ ([⟨#[110, 97, 109, 101]⟩, ⟨#[107, 105, 110, 100]⟩, ⟨#[117, 115, 101]⟩, ⟨#[116, 111, 110, 101]⟩, ⟨#[110, 101, 119]⟩, ⟨#[]⟩, ⟨#[75]⟩] : List ByteArray), v.size ≤ 10 by decide) kk hkk
  have s3 := hx3.1.size
  simp only [World.size_alloc] at s3
  have b23 : Below w2.heap.size w2 ((w2.alloc (.cells #[.string f.1, .int .i64 f.2.1.1, .slice A2 f.2.1.2.length c2, .slice B2 f.2.2.length d2] 35)).alloc (.cells #[.string ⟨#[110, 97, 109, 101]⟩, .string ⟨#[107, 105, 110, 100]⟩, .string ⟨#[117, 115, 101]⟩, .string ⟨#[116, 111, 110, 101]⟩, .string ⟨#[110, 101, 119]⟩, .string ⟨#[]⟩, .string ⟨#[75]⟩] 9)) := bl
  have T3 := (T2.to b23).exb hx3 (Or.inl (by omega))
  have X3 := (X2.to (below_alloc (Below.refl _ _) _)).exb hx3 (Or.inr (by omega))
  have B_3 := hx3.bel (B_2.trans (b23.mono (by omega))) (by omega)
  have r3 : RI kPt 108 w3 w1.heap.size w2.heap.size (.slice A2 f.2.1.2.length c2) f.2.1.2 := (hr2.below b23).ex hx3 (Or.inr (by omega))
  have t3 : RI kTag 57 w3 w1.heap.size w2.heap.size (.slice B2 f.2.2.length d2) f.2.2 := (ht2.below b23).ex hx3 (Or.inr (by omega))
  clear T2 X2 hr2 ht2
  obtain ⟨a0, a1, a2, a3⟩ := X3.c
  go_wp2
  refine cgStart 8 [0, 1, 2, 3, 4, 5, 6, 7] [5] [(⟨w2.heap.size, 0, none⟩, _), (⟨w2.heap.size, 1, none⟩, _), (⟨w2.heap.size, 2, none⟩, _), (⟨w2.heap.size, 3, none⟩, _)] s_DrawFeatPut_t4 ⟨a0, a1, a2, a3, trivial⟩ (fun HT HD => ?_)
  repeat ((with_reducible refine cgGate ?_); first | refine cgP HT ?_ | refine cgL HT ?_ | refine cgG HT ?_)
  refine cgE (w1 := w3.drew.alloc (.cells #[.string ⟨#[97]⟩, .string ⟨#[111, 97, 107]⟩, .string ⟨#[]⟩, .string ⟨#[86]⟩] 9)) (v := .slice (some ⟨w3.heap.size, 0, none⟩) 4 4) HT (fun HD2 => ?_) (hrun := by first | (go_simp; done) | (go_simp; rfl)) (hS := HD.to bl)
  repeat ((with_reducible refine cgGate ?_); first | refine cgP HT ?_ | refine cgL HT ?_ | refine cgG HT ?_)
  refine cgCall HT Try.func89 (of_d b w3.heap.size _ _ [⟨#[97]⟩, ⟨#[111, 97, 107]⟩, ⟨#[]⟩, ⟨#[86]⟩] _ _ (R3.to bl) (by omega) (by omega) (litStrs w3.drew _ [⟨#[97]⟩, ⟨#[111, 97, 107]⟩, ⟨#[]⟩, ⟨#[86]⟩] (by decide)) (by decide) (by decide)) ?_
  rintro e w4 ⟨vv, hvv, rfl, R4, hx4⟩
  have hv10 := (show ∀ v ∈ ([⟨#[97]⟩, ⟨#[111, 97, 107]⟩, ⟨#[]⟩, ⟨#[86]⟩] : List ByteArray), v.size ≤ 10 by decide) vv hvv
  have s4 := hx4.1.size
  simp only [World.size_alloc, World.size_drew] at s4
  have b34 : Below w3.heap.size w3 (w3.drew.alloc (.cells #[.string ⟨#[97]⟩, .string ⟨#[111, 97, 107]⟩, .string ⟨#[]⟩, .string ⟨#[86]⟩] 9)) := bl
  have T4 := (T3.to b34).exb hx4 (Or.inl (by omega))
  have X4 := (X3.to b34).exb hx4 (Or.inr (by omega))
  have B_4 := hx4.bel (B_3.trans (b34.mono (by omega))) (by omega)
  have r4 : RI kPt 108 w4 w1.heap.size w2.heap.size (.slice A2 f.2.1.2.length c2) f.2.1.2 := (r3.below b34).ex hx4 (Or.inr (by omega))
  have t4 : RI kTag 57 w4 w1.heap.size w2.heap.size (.slice B2 f.2.2.length d2) f.2.2 := (t3.below b34).ex hx4 (Or.inr (by omega))
  refine ⟨_, rfl, ⟨X4.c.1, X4.c.2.1, X4.c.2.2.1, X4.c.2.2.2, trivial⟩, cgN ?_⟩
  clear a0 a1 a2 a3
  obtain ⟨a0, a1, a2, a3⟩ := T4.c
  obtain ⟨z0, z1, z2, z3⟩ := T4.z
  repeat ((with_reducible refine cgGate ?_); first | refine cgP HT ?_ | refine cgL HT ?_ | refine cgG HT ?_)
  refine cgLast HT ?_
  repeat ((with_reducible refine cgGate ?_); first | refine cgP HT ?_ | refine cgL HT ?_ | refine cgG HT ?_)
  refine cgDone HT ?_
  clear HT HD HD2
  go_wp2
  refine bodyPost_ret (v := .tuple #[.agg #[.string f.1, .int .i64 f.2.1.1, .slice A2 f.2.1.2.length c2, .slice B2 f.2.2.length d2], .string kk, .string vv]) (by simp [results, Try.results46, go_sem, *]) rfl ⟨f, A2, c2, B2, d2, kk, vv, rfl, ?_, ?_, hS, hk10, hv10, (((B_4.setCell (by simp) _).setCell (by simp) _).setCell (by simp) _).setCell (by simp) _⟩
  · exact ((((r4.far (Or.inl (by simp only []; omega)) _).far (Or.inl (by simp only []; omega)) _).far (Or.inl (by simp only []; omega)) _).far (Or.inl (by simp only []; omega)) _).wide (by omega) (by simp only [World.size_setCell]; omega)
  · exact ((((t4.far (Or.inl (by simp only []; omega)) _).far (Or.inl (by simp only []; omega)) _).far (Or.inl (by simp only []; omega)) _).far (Or.inl (by simp only []; omega)) _).wide (by omega) (by simp only [World.size_setCell]; omega)
end Go.Proofs.Ytlebgjafaioajaa
