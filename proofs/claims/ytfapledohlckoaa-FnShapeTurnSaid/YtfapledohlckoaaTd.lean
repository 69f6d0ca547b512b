/- Contracts: what is turned, in the program. -/
import Derived.Test.YtfapledohlckoaaTc
import Derived.Test.YtfapledohlckoaaE
namespace Go.Proofs.Ytfapledohlckoaa
open Go.RowKit Go.Proofs.YtfapledohlckoaaW.PrintWords Go.Proofs.YtfapledohlckoaaW.PrintLast
set_option linter.unusedVariables false
set_option linter.unusedSimpArgs false
attribute [local go_sem] cell_set_far
theorem Kd.R_block_ge {α : Type} {d : Kd α} {e base : Nat} {ok : Nat → Prop} {w : World} {A : Option Addr} {n c : Nat} {xs : List α} (h : d.R e w base ok (.slice A n c) xs) : ∀ k, (Value.slice A n c).ownBlock = some k → base ≤ k := fun k hk => by
  obtain ⟨inner, ho⟩ := Kd.R_own h
  exact own_base ho k hk
def i_ShapeTurn_T7 : Bool × List (List Nat × List Nat) := (true, [([], []), ([], []), ([1], [1]), ([], []), ([2, 3], [2, 3]), ([0, 4], [0, 4]), ([], []), ([6], [6]), ([], []), ([7, 8], [7, 8]), ([5, 9, 5], [5, 9]), ([10, 10, 0, 1, 2, 3, 4, 5, 6, 7, 8, 9, 10], [10])])
theorem i_ShapeTurn_t7 : rtab .any (opsOf Try.f42 7) = i_ShapeTurn_T7 := by kernel_rfl
set_option maxHeartbeats 4000000 in
theorem iShapeTurn_c (K : Int) (A : Option Addr) (c : Nat) (l : List Pt) (w : World) (hl : kPt.C w A l.length l) (hc : l.length ≤ c) (hn : l.length ≤ 1048576) :
    Calls Try.prog 42 #[.agg #[.int .i64 K, .slice A l.length c]] w fun e w' => ∃ A' c', e = .returned (.agg #[.int .i64 (turn K l).1, .slice A' (turn K l).2.length c']) ∧ RI kPt 40 w' w.heap.size w'.heap.size (.slice A' (turn K l).2.length c') (turn K l).2 ∧ Below w.heap.size w w' := by
  go_enter Try.func42, Try.ntmps42
  go_wp2_with fail
  refine (iShapeOk_c K A c l _ (Kd.C_below hl bl) hn).mono ?_
  rintro e w1 ⟨rfl, hb1⟩
  have T1 : B2 w1 w.heap.size 31 (.int .i64 K) (.slice A l.length c) := B2.new' w _ _ _ _
  have T2 : B2 w1 (w.heap.size + 1) 31 (.int .i64 0) (.slice none 0 0) := B2.new' (w.alloc (.cells #[.int .i64 K, .slice A l.length c] 31)) _ _ _ _
  cases hok : shapeOk K l with
  | false =>
    obtain ⟨b0, b1, b2, b3, b4⟩ := T2.f
    go_wp2
    rw [turn_no hok]
    refine bodyPost_ret (v := .agg #[.int .i64 0, .slice none 0 0]) (by simp [results, Try.results42, go_sem, *]) rfl ⟨none, 0, rfl, RI.of (Kd.R_nil _ _ _ _ _), bl⟩
  | true =>
    obtain ⟨a0, a1, a2, a3, a4⟩ := T1.f
    go_wp2_with fail
    refine (clone_c K A c l _ (Kd.C_below hl bl) hn).mono ?_
    rintro e w2 ⟨A2, c2, rfl, hr2, hb2⟩
    have s1 := hb1.size
    simp only [World.size_alloc] at s1
    have s2 := hb2.size
    clear a0 a1 a2 a3 a4
    have U1 := (T1.to hb2).to (below_alloc (Below.refl _ _) (.cells #[.int .i64 K, .slice A2 l.length c2] 31))
    have U2 := (T2.to hb2).to (below_alloc (Below.refl _ _) (.cells #[.int .i64 K, .slice A2 l.length c2] 31))
    have U3 := B2.new (u := .int .i64 K) (v := .slice A2 l.length c2) (t := 31) w2
    have hstart : TL w K A c l w2.heap.size l (w2.alloc (.cells #[.int .i64 K, .slice A2 l.length c2] 31)) := ⟨A2, c2, U1, U2, U3, (RI.alloc hr2 _).up (by omega), bl⟩
    have hg : w.heap.size + 1 < w2.heap.size := by omega
    clear U1 U2 U3 T1 T2 hr2
    have Hok := Lib.hid hok
    by_cases hK : K = 3
    · have t3 : (K == 3) = true := by simp [hK]
      have hle : 3 ≤ l.length ∧ l.length ≤ 6 := by rcases (shapeOk_t.1 hok).2 with h | h | h <;> omega
      have HK := Lib.hid hK
      clear hK hok
      go_wp2
      go_loopw [4] (fun q wr => ∃ k : Nat, 1 ≤ k ∧ k ≤ l.length ∧ q = .int .i64 k ∧ Aside0 (TL w K A c l w2.heap.size (best l k) wr)) (fun q _ => l.length - (intOf q).toNat)
      case atStart => exact ⟨1, by omega, by omega, rfl, ⟨by rw [best_one]; exact hstart⟩⟩
      case round =>
        clear hstart
        obtain ⟨k, hk1, hk, rfl, ⟨Ao, co, U1, U2, U3, ho, hB⟩⟩ := hrel
        have s3 := hB.size
        have h3 := U3.f.2.2.2.2
        by_cases hlt : k < l.length
        · have t1 : decide ((k : Int) < (l.length : Int)) = true := decide_eq_true (by omega)
          have hD := Kd.C_drop hl hk hc
          rw [List.length_drop] at hD
          have hT := Kd.C_take hl hk
          have hk2 : (l.take k).length = k := by rw [List.length_take]; omega
          rw [hk2] at hT
          clear hk2
          have hcf := cut_from (P := Try.prog) 29 40 .i64 Try.underlying29 rfl kPt.sz rfl A l.length c (k : Int) (by omega) (by omega)
          have hct := cut_to (P := Try.prog) 29 40 .i64 Try.underlying29 rfl A l.length c (k : Int) (by omega) (by omega) hc
          simp only [Int.toNat_natCast] at hcf hct
          generalize (if c = k then A else A.map (·.add (k * kPt.sz))) = A1 at hcf hD
          obtain ⟨a0, a1, a2, a3, a4⟩ := U1.f
          go_wp2
          refine cgStart 12 [1, 2, 3, 4, 6, 7, 8, 9, 0, 5, 10, 11] [] [(⟨w.heap.size, 1, none⟩, _)] i_ShapeTurn_t7 ⟨a1, trivial⟩ (fun HT HD => ?_)
          repeat ((with_reducible refine cgGate ?_); first | refine cgP HT ?_ | refine cgL HT ?_ | refine cgG HT ?_)
          refine cgE (w1 := wr.drew.alloc (.cells #[] 40)) (v := .slice (some ⟨wr.heap.size, 0, none⟩) 0 0) HT (fun HD2 => ?_) (hrun := by first | (go_simp; done) | (go_simp; rfl)) (hS := HD.to bl)
          have HO : kPt.R 40 (wr.drew.alloc (.cells #[] 40)) wr.heap.size (fun _ => True) (.slice (some ⟨wr.heap.size, 0, none⟩) 0 0) [] := lit0 wr.drew wr.heap.size sz
          refine cgApp (w0 := wr) (base := wr.heap.size) (.tmp 24) (.tmp 28) _ [] (l.drop k) A1 (l.length - k) (c - k) HT HD2 HO (Kd.C_below hD bl) bl sz (by simp; omega) (by simp [Value.ownBlock]; omega) ?_
          intro A2 c2 w3 ho1 hb1 HD3 hg1
          refine cgN ?_
          refine cgApp (w0 := wr) (base := wr.heap.size) (.tmp 29) (.tmp 33) _ ([] ++ l.drop k) (l.take k) A k c HT HD3 ho1 (Kd.C_below hT (bl : Below w.heap.size w w3)) hb1 hb1.size (by simp; omega) (fun x hx e => by obtain rfl := List.mem_singleton.1 hx; have := Kd.R_block_ge ho1 _ e.symm; simp only [] at this; omega) ?_
          intro A3 c3 w3 ho2 hb3 HD4 hg2
          refine cgN ?_
          repeat ((with_reducible refine cgGate ?_); first | refine cgP HT ?_ | refine cgL HT ?_ | refine cgG HT ?_)
          refine cgDone HT ?_
          clear HT HD HD2 HD3 HD4 hg1 hg2 ho1
          have e : (([] ++ l.drop k) ++ l.take k).length = l.length := rot_len
          rw [e] at ho2
          have hr3 : RI kPt 40 w3 wr.heap.size w3.heap.size (.slice A3 l.length c3) (rot l k) := RI.of ho2
          clear ho2 e
          replace U1 := U1.to hb3
          replace U2 := U2.to hb3
          replace U3 := U3.to hb3
          replace ho := Kd.R_below ho hb3
          clear a0 a1 a2 a3 a4
          obtain ⟨b0, b1, b2, b3, b4⟩ := U3.f
          have hso := shapeOk_t.1 Hok.out
          rw [HK.out] at hso
          have hA := Compare_c A3 Ao c3 co (rot l k) (best l k) w3 hr3.rd.2.2 (Kd.R_reads' ho).2.2 (by rw [rot_len]; exact hn) (by rw [best_len _ _ hk]; exact hn) (Rt.ok ⟨k, hk, rfl⟩ hso).1.near ((best_rt l k hk).ok hso).1.near (by rw [rot_len, best_len _ _ hk])
          rw [rot_len, best_len _ _ hk] at hA
          have HA := Lib.hid hA
          clear hA hso
          go_wp2_with fail
          refine (HA.out).mono ?_
          rintro e w4 ⟨z, rfl, hz, hb4⟩
          clear b0 b1 b2 b3 b4
          replace U1 := U1.to hb4
          replace U2 := U2.to hb4
          replace U3 := U3.to hb4
          replace ho := Kd.R_below ho hb4
          replace hr3 := (hr3.below hb4).up (b := w.heap.size) (by omega)
          obtain ⟨b0, b1, b2, b3, b4⟩ := U3.f
          have hw : IntKind.i64.wrap ((k : Int) + 1) = (k : Int) + 1 := IntWalk.i64_in _ (by omega)
          cases ha : aheadL (rot l k) (best l k) with
          | true =>
            have Hy := Lib.hid (best_yes ha)
            rw [ha] at hz
            go_wp2
            exact ⟨⟨k + 1, by omega, by omega, by go_num, ⟨by rw [Hy.out]; exact ⟨A3, c3, U1.far (by simp; omega), U2.far (by simp; omega), U3.set1 _, Kd.R_set hr3 U3 (by decide) 1 _, (bl : Below w.heap.size w w4).setCell (by simp only []; omega) _⟩⟩⟩, by simp [intOf]; omega⟩
          | false =>
            have Hn := Lib.hid (best_no ha)
            rw [ha] at hz
            go_wp2
            exact ⟨⟨k + 1, by omega, by omega, by go_num, ⟨by rw [Hn.out]; exact ⟨Ao, co, U1, U2, U3, ho, bl⟩⟩⟩, by simp [intOf]; omega⟩
        · have t1 : decide ((k : Int) < (l.length : Int)) = false := decide_eq_false (by omega)
          have hkl := Lib.hid (show k = l.length by omega)
          have hbl := best_len l l.length (Nat.le_refl _)
          rw [hkl.out] at ho
          obtain ⟨b0, b1, b2, b3, b4⟩ := U3.f
          obtain ⟨d0, d1, d2, d3, d4⟩ := U2.f
          obtain ⟨a0, a1, a2, a3, a4⟩ := U1.f
          have HF := Lib.hid (turn_ring Hok.out HK.out)
          have hCl := clone_c K Ao co (best l l.length) wr (Kd.R_reads' ho).2.2 (by rw [hbl]; exact hn)
          rw [hbl] at hCl
          have HCl := Lib.hid hCl
          clear hCl
          go_wp2_with fail
          refine (HCl.out).mono ?_
          rintro e w5 ⟨A5, c5, rfl, hr5, hb5⟩
          replace U2 := U2.to hb5
          have s5 := hb5.size
          have hB5 : Below w.heap.size w w5 := bl
          replace hr5 := hr5.up (b := w.heap.size) s3
          clear b0 b1 b2 b3 b4 d0 d1 d2 d3 d4 a0 a1 a2 a3 a4
          obtain ⟨d0, d1, d2, d3, d4⟩ := U2.f
          go_wp2
          rw [HF.out]
          refine bodyPost_ret (v := .agg #[.int .i64 K, .slice A5 l.length c5]) (by simp [results, Try.results42, go_sem, *]) rfl ⟨A5, c5, by rw [hbl], ?_, (hB5.setCell (by simp) _).setCell (by simp) _⟩
          simp only [hbl]
          exact RI.of (Kd.R_set (Kd.R_set hr5 U2 (by decide) 0 _) (U2.set0 _) (by decide) 1 _)
    · have t3 : (K == 3) = false := by simp [hK]
      have HK := Lib.hid hK
      clear hK hok
      go_wp2
      go_loopw [4] (fun q wr => q = .int .i64 1 ∧ Aside0 (TL w K A c l w2.heap.size l wr)) (fun q _ => 0)
      case atStart => exact ⟨rfl, ⟨hstart⟩⟩
      case round =>
        clear hstart
        obtain ⟨rfl, ⟨Ao, co, U1, U2, U3, ho, hB⟩⟩ := hrel
        have s3 := hB.size
        have h3 := U3.f.2.2.2.2
        obtain ⟨b0, b1, b2, b3, b4⟩ := U3.f
        obtain ⟨d0, d1, d2, d3, d4⟩ := U2.f
        obtain ⟨a0, a1, a2, a3, a4⟩ := U1.f
        have HF := Lib.hid (turn_plain Hok.out HK.out)
        by_cases hlt : 1 < l.length
        all_goals
          go_wp2_with fail
          refine (clone_c K Ao co l wr (Kd.R_reads' ho).2.2 hn).mono ?_
          rintro e w5 ⟨A5, c5, rfl, hr5, hb5⟩
          replace U2 := U2.to hb5
          have s5 := hb5.size
          have hB5 : Below w.heap.size w w5 := bl
          replace hr5 := hr5.up (b := w.heap.size) s3
          clear b0 b1 b2 b3 b4 d0 d1 d2 d3 d4 a0 a1 a2 a3 a4
          obtain ⟨d0, d1, d2, d3, d4⟩ := U2.f
          go_wp2
          rw [HF.out]
          refine bodyPost_ret (v := .agg #[.int .i64 K, .slice A5 l.length c5]) (by simp [results, Try.results42, go_sem, *]) rfl ⟨A5, c5, rfl, ?_, (hB5.setCell (by simp) _).setCell (by simp) _⟩
          exact RI.of (Kd.R_set (Kd.R_set hr5 U2 (by decide) 0 _) (U2.set0 _) (by decide) 1 _)
end Go.Proofs.Ytfapledohlckoaa
