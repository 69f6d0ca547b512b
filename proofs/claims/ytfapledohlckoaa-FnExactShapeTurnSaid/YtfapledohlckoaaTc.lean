/- Contracts: a ring from another of its points on; what is turned, in the reference. -/
import Derived.Test.YtfapledohlckoaaTb
import Derived.Test.YtfapledohlckoaaC
import Derived.Test.YtfapledohlckoaaK
namespace Go.Proofs.Ytfapledohlckoaa
open Go.RowKit Go.Proofs.YtfapledohlckoaaW.PrintWords Go.Proofs.YtfapledohlckoaaW.PrintLast
set_option linter.unusedVariables false
set_option linter.unusedSimpArgs false
attribute [local go_sem] cell_set_far
def s_l1From_T1 : Bool × List (List Nat × List Nat) := (true, [([], []), ([], []), ([], []), ([1, 2], [1, 2]), ([0, 3], [0, 3]), ([], []), ([], []), ([5, 6], [5, 6]), ([4, 7, 4], [4, 7]), ([8, 8, 0, 1, 2, 3, 4, 5, 6, 7, 8], [8])])
theorem s_l1From_t1 : rtab .any (opsOf Try.f64 1) = s_l1From_T1 := by kernel_rfl
set_option maxHeartbeats 1000000 in
theorem l1From_c (A : Option Addr) (c : Nat) (l : List Pt) (k : Nat) (w : World) (hl : kPt.C w A l.length l) (hc : l.length ≤ c) (hn : l.length ≤ 1048576) (hk : k ≤ l.length) :
    Calls Try.prog 64 #[.slice A l.length c, .int .i64 k] w fun e w' => ∃ A' c', e = .returned (.slice A' l.length c') ∧ RI kPt 40 w' w.heap.size w'.heap.size (.slice A' l.length c') (rot l k) ∧ Below w.heap.size w w' := by
  have hD := Kd.C_drop hl hk hc
  rw [List.length_drop] at hD
  have hT := Kd.C_take hl hk
  have hk2 : (l.take k).length = k := by rw [List.length_take]; omega
  rw [hk2] at hT
  have hcf := cut_from (P := Try.prog) 29 40 .i64 Try.underlying29 rfl kPt.sz rfl A l.length c (k : Int) (by omega) (by omega)
  have hct := cut_to (P := Try.prog) 29 40 .i64 Try.underlying29 rfl A l.length c (k : Int) (by omega) (by omega) hc
  simp only [Int.toNat_natCast] at hcf hct
  generalize (if c = k then A else A.map (·.add (k * kPt.sz))) = A1 at hcf hD
  have HL := Lib.hid hk2
  clear hk2
  go_enter Try.func64, Try.ntmps64
  go_wp2
  refine cgStart 10 [1, 2, 3, 5, 6, 7, 0, 4, 8, 9] [] [] s_l1From_t1 trivial (fun HT HD => ?_)
  repeat ((with_reducible refine cgGate ?_); first | refine cgP HT ?_ | refine cgL HT ?_ | refine cgG HT ?_)
  refine cgE (w1 := w.drew.alloc (.cells #[] 40)) (v := .slice (some ⟨w.heap.size, 0, none⟩) 0 0) HT (fun HD2 => ?_) (hrun := by first | (go_simp; done) | (go_simp; rfl)) (hS := trivial)
  have HO : kPt.R 40 (w.drew.alloc (.cells #[] 40)) w.heap.size (fun _ => True) (.slice (some ⟨w.heap.size, 0, none⟩) 0 0) [] := lit0 w.drew w.heap.size sz
  refine cgApp (w0 := w) (base := w.heap.size) (.tmp 5) (.tmp 8) _ [] (l.drop k) A1 (l.length - k) (c - k) HT HD2 HO (Kd.C_below hD bl) bl sz (by simp; omega) (by simp) ?_
  intro A2 c2 w1 ho1 hb1 HD3 hg1
  refine cgN ?_
  refine cgApp (w0 := w) (base := w.heap.size) (.tmp 9) (.tmp 12) _ ([] ++ l.drop k) (l.take k) A k c HT HD3 ho1 (Kd.C_below hT hb1) hb1 hb1.size (by simp; omega) (by simp) ?_
  intro A3 c3 w2 ho2 hb2 HD4 hg2
  refine cgN ?_
  repeat ((with_reducible refine cgGate ?_); first | refine cgP HT ?_ | refine cgL HT ?_ | refine cgG HT ?_)
  refine cgDone HT ?_
  clear HT HD HD2 HD3 HD4
  go_wp2
  go_ret
  have e : (([] ++ l.drop k) ++ l.take k).length = l.length := rot_len
  rw [e] at ho2
  exact ⟨A3, c3, rfl, RI.of ho2, hb2⟩
/-- What the loop of a turning keeps. -/
def TL (w : World) (K : Int) (A : Option Addr) (c : Nat) (l : List Pt) (g : Nat) (m : List Pt) (wr : World) : Prop := ∃ Ao co, B2 wr w.heap.size 31 (.int .i64 K) (.slice A l.length c) ∧ B2 wr (w.heap.size + 1) 31 (.int .i64 0) (.slice none 0 0) ∧ B2 wr g 31 (.int .i64 K) (.slice Ao l.length co) ∧ kPt.R 40 wr w.heap.size (fun _ => True) (.slice Ao l.length co) m ∧ Below w.heap.size w wr
theorem RI.up {α : Type} {d : Kd α} {e lo hi b : Nat} {W : World} {v : Value} {xs : List α} (h : RI d e W lo hi v xs) (hb : b ≤ lo) : d.R e W b (fun _ => True) v xs := Kd.R_lower (Kd.R_mono h (fun _ _ => trivial)) hb
theorem best_yes {l : List Pt} {k : Nat} (h : aheadL (rot l k) (best l k) = true) : best l (k + 1) = rot l k := by rw [best, if_pos h]
theorem best_no {l : List Pt} {k : Nat} (h : aheadL (rot l k) (best l k) = false) : best l (k + 1) = best l k := by rw [best, if_neg (by simp [h])]
set_option maxHeartbeats 4000000 in
theorem sShapeTurn_c (K : Int) (A : Option Addr) (c : Nat) (l : List Pt) (w : World) (hl : kPt.C w A l.length l) (hc : l.length ≤ c) (hn : l.length ≤ 1048576) :
    Calls Try.prog 43 #[.agg #[.int .i64 K, .slice A l.length c]] w fun e w' => ∃ A' c', e = .returned (.agg #[.int .i64 (turn K l).1, .slice A' (turn K l).2.length c']) ∧ RI kPt 40 w' w.heap.size w'.heap.size (.slice A' (turn K l).2.length c') (turn K l).2 ∧ Below w.heap.size w w' := by
  go_enter Try.func43, Try.ntmps43
  go_wp2_with fail
  refine (sShapeOk_c K A c l _ (Kd.C_below hl bl) hn).mono ?_
  rintro e w1 ⟨rfl, hb1⟩
  have T1 : B2 w1 w.heap.size 31 (.int .i64 K) (.slice A l.length c) := B2.new' w _ _ _ _
  have T2 : B2 w1 (w.heap.size + 1) 31 (.int .i64 0) (.slice none 0 0) := B2.new' (w.alloc (.cells #[.int .i64 K, .slice A l.length c] 31)) _ _ _ _
  cases hok : shapeOk K l with
  | false =>
    obtain ⟨b0, b1, b2, b3, b4⟩ := T2.f
    go_wp2
    rw [turn_no hok]
    refine bodyPost_ret (v := .agg #[.int .i64 0, .slice none 0 0]) (by simp [results, Try.results43, go_sem, *]) rfl ⟨none, 0, rfl, RI.of (Kd.R_nil _ _ _ _ _), bl⟩
  | true =>
    obtain ⟨a0, a1, a2, a3, a4⟩ := T1.f
    go_wp2_with fail
    refine (copy_c K A c l _ (Kd.C_below hl bl) hn).mono ?_
    rintro e w2 ⟨A2, c2, rfl, hr2, hb2⟩
    have s1 := hb1.size
    simp only [World.size_alloc] at s1
    have s2 := hb2.size
    clear a0 a1 a2 a3 a4
    have U1 := (T1.to hb2).to (below_alloc (Below.refl _ _) (.cells #[.int .i64 K, .slice A2 l.length c2] 31))
    have U2 := (T2.to hb2).to (below_alloc (Below.refl _ _) (.cells #[.int .i64 K, .slice A2 l.length c2] 31))
    have U3 := B2.new (u := .int .i64 K) (v := .slice A2 l.length c2) (t := 31) w2
    have hstart : TL w K A c l w2.heap.size l (w2.alloc (.cells #[.int .i64 K, .slice A2 l.length c2] 31)) := ⟨A2, c2, U1, U2, U3, (RI.alloc hr2 _).up (by omega), bl⟩
    have hg : w.heap.size + 1 < w2.heap.size := by omega
    clear U1 U2 U3 T1 T2 hr2
    have Hok := Lib.hid hok
    by_cases hK : K = 3
    · have t3 : (K == 3) = true := by simp [hK]
      have hle : 3 ≤ l.length ∧ l.length ≤ 6 := by rcases (shapeOk_t.1 hok).2 with h | h | h <;> omega
      have HK := Lib.hid hK
      clear hK hok
      go_wp2
      go_loopw [4] (fun q wr => ∃ k : Nat, 1 ≤ k ∧ k ≤ l.length ∧ q = .int .i64 k ∧ Aside0 (TL w K A c l w2.heap.size (best l k) wr)) (fun q _ => l.length - (intOf q).toNat)
      case atStart => exact ⟨1, by omega, by omega, rfl, ⟨by rw [best_one]; exact hstart⟩⟩
      case round =>
        clear hstart
        obtain ⟨k, hk1, hk, rfl, ⟨Ao, co, U1, U2, U3, ho, hB⟩⟩ := hrel
        have s3 := hB.size
        have h3 := U3.f.2.2.2.2
        by_cases hlt : k < l.length
        · have t1 : decide ((k : Int) < (l.length : Int)) = true := decide_eq_true (by omega)
          obtain ⟨a0, a1, a2, a3, a4⟩ := U1.f
          go_wp2_with fail
          refine (l1From_c A c l k _ (Kd.C_below hl bl) hc hn hk).mono ?_
          rintro e w3 ⟨A3, c3, rfl, hr3, hb3⟩
          replace U1 := U1.to hb3
          replace U2 := U2.to hb3
          replace U3 := U3.to hb3
          replace ho := Kd.R_below ho hb3
          clear a0 a1 a2 a3 a4
          obtain ⟨b0, b1, b2, b3, b4⟩ := U3.f
          have hA := l1Ahead_c A3 Ao c3 co (rot l k) (best l k) w3 hr3.rd.2.2 (Kd.R_reads' ho).2.2 (by rw [rot_len]; exact hn) (by rw [best_len _ _ hk]; exact hn)
          rw [rot_len, best_len _ _ hk] at hA
          have HA := Lib.hid hA
          clear hA
          go_wp2_with fail
          refine (HA.out).mono ?_
          rintro e w4 ⟨rfl, hb4⟩
          clear b0 b1 b2 b3 b4
          replace U1 := U1.to hb4
          replace U2 := U2.to hb4
          replace U3 := U3.to hb4
          replace ho := Kd.R_below ho hb4
          replace hr3 := (hr3.below hb4).up (b := w.heap.size) (by omega)
          obtain ⟨b0, b1, b2, b3, b4⟩ := U3.f
          have hw : IntKind.i64.wrap ((k : Int) + 1) = (k : Int) + 1 := IntWalk.i64_in _ (by omega)
          cases ha : aheadL (rot l k) (best l k) with
          | true =>
            have Hy := Lib.hid (best_yes ha)
            go_wp2
            exact ⟨⟨k + 1, by omega, by omega, by go_num, ⟨by rw [Hy.out]; exact ⟨A3, c3, U1.far (by simp; omega), U2.far (by simp; omega), U3.set1 _, Kd.R_set hr3 U3 (by decide) 1 _, (bl : Below w.heap.size w w4).setCell (by simp only []; omega) _⟩⟩⟩, by simp [intOf]; omega⟩
          | false =>
            have Hn := Lib.hid (best_no ha)
            go_wp2
            exact ⟨⟨k + 1, by omega, by omega, by go_num, ⟨by rw [Hn.out]; exact ⟨Ao, co, U1, U2, U3, ho, bl⟩⟩⟩, by simp [intOf]; omega⟩
        · have t1 : decide ((k : Int) < (l.length : Int)) = false := decide_eq_false (by omega)
          have hkl := Lib.hid (show k = l.length by omega)
          have hbl := best_len l l.length (Nat.le_refl _)
          rw [hkl.out] at ho
          obtain ⟨b0, b1, b2, b3, b4⟩ := U3.f
          obtain ⟨d0, d1, d2, d3, d4⟩ := U2.f
          obtain ⟨a0, a1, a2, a3, a4⟩ := U1.f
          have HF := Lib.hid (turn_ring Hok.out HK.out)
          go_wp2
          rw [HF.out]
          refine bodyPost_ret (v := .agg #[.int .i64 K, .slice Ao l.length co]) (by simp [results, Try.results43, go_sem, *]) rfl ⟨Ao, co, by rw [hbl], ?_, (hB.setCell (by simp) _).setCell (by simp) _⟩
          simp only [hbl]
          exact RI.of (Kd.R_set (Kd.R_set ho U2 (by decide) 0 _) (U2.set0 _) (by decide) 1 _)
    · have t3 : (K == 3) = false := by simp [hK]
      have HK := Lib.hid hK
      clear hK hok
      go_wp2
      go_loopw [4] (fun q wr => q = .int .i64 1 ∧ Aside0 (TL w K A c l w2.heap.size l wr)) (fun q _ => 0)
      case atStart => exact ⟨rfl, ⟨hstart⟩⟩
      case round =>
        clear hstart
        obtain ⟨rfl, ⟨Ao, co, U1, U2, U3, ho, hB⟩⟩ := hrel
        have s3 := hB.size
        have h3 := U3.f.2.2.2.2
        obtain ⟨b0, b1, b2, b3, b4⟩ := U3.f
        obtain ⟨d0, d1, d2, d3, d4⟩ := U2.f
        obtain ⟨a0, a1, a2, a3, a4⟩ := U1.f
        have HF := Lib.hid (turn_plain Hok.out HK.out)
        by_cases hlt : 1 < l.length
        all_goals
          go_wp2
          rw [HF.out]
          refine bodyPost_ret (v := .agg #[.int .i64 K, .slice Ao l.length co]) (by simp [results, Try.results43, go_sem, *]) rfl ⟨Ao, co, rfl, ?_, (hB.setCell (by simp) _).setCell (by simp) _⟩
          exact RI.of (Kd.R_set (Kd.R_set ho U2 (by decide) 0 _) (U2.set0 _) (by decide) 1 _)
end Go.Proofs.Ytfapledohlckoaa
