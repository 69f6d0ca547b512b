/- Law: a drawn ring turned begins at its least point, has the same points in the same order round, and the same area; from wherever it begins it is turned to the same. -/
import Derived.Test.YtfapledohlckoaaS
import Derived.Test.YtfapledohlckoaaD
import Derived.Test.YtfapledohlckoaaTd
import Derived.Test.YtfapledohlckoaaTe
import Derived.Test.YtfapledohlckoaaDu
namespace Go.Proofs.Ytfapledohlckoaa
open Go.RowKit Go.Proofs.YtfapledohlckoaaW.PrintWords Go.Proofs.YtfapledohlckoaaW.PrintLast
set_option linter.unusedVariables false
set_option linter.unusedSimpArgs false
attribute [local go_sem high] eqPtOp
theorem Cells.cons {W : World} {p : Addr} {v : Value} {L : List (Addr × Value)} (h : W.cell? p = some v) (hL : Cells W L) : Cells W ((p, v) :: L) := ⟨h, hL⟩
attribute [local go_sem] cell_set_far
def l_FnShapeTurn_T5 : Bool × List (List Nat × List Nat) := (true, [([], []), ([], []), ([1], [1]), ([0, 2, 2], [0, 2]), ([3], [3])])
theorem l_FnShapeTurn_t5 : rtab .any (opsOf Try.f15 5) = l_FnShapeTurn_T5 := by kernel_rfl
def l_FnShapeTurn_T12 : Bool × List (List Nat × List Nat) := (true, [([], []), ([0], [0]), ([], []), ([], []), ([3], [3]), ([], []), ([4, 5], [4, 5]), ([2, 6], [2, 6]), ([], []), ([8], [8]), ([], []), ([9, 10], [9, 10]), ([7, 11, 7], [7, 11]), ([1, 12], [1, 12]), ([], []), ([14, 13, 12, 0, 1, 2, 3, 4, 5, 6, 7, 8, 9, 10, 11, 12, 13, 14], [13, 14])])
theorem l_FnShapeTurn_t12 : rtab .any (opsOf Try.f15 12) = l_FnShapeTurn_T12 := by kernel_rfl
def l_FnShapeTurn_T16 : Bool × List (List Nat × List Nat) := (true, [([], []), ([0], [0]), ([], []), ([1, 2], [1, 2]), ([3], [3]), ([4], [4]), ([], []), ([6], [6]), ([7], [7]), ([8], [8]), ([9], [9]), ([5, 10], [5, 10]), ([11], [11]), ([12], [12]), ([13, 12], [12, 13]), ([12], [12]), ([14, 15, 12], [12, 14, 15]), ([16, 12], [12, 16]), ([17, 12], [12, 17]), ([12], [12]), ([19, 12], [12, 19]), ([20, 12], [12, 20]), ([21, 12], [12, 21]), ([22, 12], [12, 22]), ([18, 23, 12], [12, 18, 23]), ([24, 12, 12], [12, 24]), ([25], [25]), ([26, 25], [25, 26]), ([25], [25]), ([27, 28, 25], [25, 27, 28]), ([29, 25], [25, 29]), ([30, 25], [25, 30]), ([25], [25]), ([32, 25], [25, 32]), ([33, 25], [25, 33]), ([34, 25], [25, 34]), ([35, 25], [25, 35]), ([31, 36, 25], [25, 31, 36]), ([25, 37, 12], [12, 25, 37]), ([12, 38], [12, 38])])
theorem l_FnShapeTurn_t16 : rtab .any (opsOf Try.f15 16) = l_FnShapeTurn_T16 := by kernel_rfl
def l_FnShapeTurn_T18 : Bool × List (List Nat × List Nat) := (true, [([], []), ([0], [0]), ([1, 1], [1]), ([2], [2]), ([3, 2, 2], [2, 3]), ([2], [2]), ([4, 5, 4, 2], [2, 4, 5]), ([2, 6], [2, 6]), ([7, 6], [7]), ([8], [8]), ([9, 8, 8], [8, 9]), ([8], [8]), ([10, 11, 10, 8], [8, 10, 11]), ([8, 12], [8, 12]), ([13, 12], [13]), ([14], [14]), ([15, 14, 14], [14, 15]), ([14], [14]), ([17, 16, 14], [14, 17]), ([16, 18, 14], [14, 16, 18]), ([14, 19], [14, 19]), ([20, 18], [20]), ([21], [21]), ([22, 21, 21], [21, 22]), ([21], [21]), ([24, 23, 21], [21, 24]), ([23, 25, 21], [21, 23, 25]), ([21, 26], [21, 26]), ([27, 25, 0, 1, 2, 3, 4, 5, 6, 7, 8, 9, 10, 11, 12, 13, 14, 15, 16, 17, 18, 19, 20, 21, 22, 23, 24, 25, 26, 27], [27])])
theorem l_FnShapeTurn_t18 : rtab .any (opsOf Try.f15 18) = l_FnShapeTurn_T18 := by kernel_rfl
set_option maxRecDepth 100000 in
set_option maxHeartbeats 16000000 in
theorem FnShapeTurn_c (A : Option Addr) (c : Nat) (l : List Int) (B : Option Addr) (d : Nat) (m : List Int) (w : World) (hl : (Kd.int .u8).C w A l.length l) (hn : (l.length : Int) ≤ 140737488351232) (hb : ∀ x ∈ l, 0 ≤ x ∧ x ≤ 255) (hc : l.length ≤ c) (hm : (Kd.int .u8).C w B m.length m) (hn2 : (m.length : Int) ≤ 140737488351232) (hb2 : ∀ x ∈ m, 0 ≤ x ∧ x ≤ 255) (hc2 : m.length ≤ d) :
    Calls Try.prog 15 #[.slice A l.length c, .slice B m.length d] w fun e w' => e = .returned (.bool true) ∧ Below w.heap.size w w' := by
  by_cases hs : (l.length : Int) ≤ 1048576
  · have hd : decide ((1048576 : Int) < (l.length : Int)) = false := decide_eq_false (by omega)
    by_cases hs2 : (m.length : Int) ≤ 1048576
    · have hd2 : decide ((1048576 : Int) < (m.length : Int)) = false := decide_eq_false (by omega)
      clear hm hb2 hc2
      go_enter Try.func15, Try.ntmps15
      go_wp2_with fail
      refine (DrawShapeTurn_d A c l _ (Kd.C_below hl bl) hb hc (by omega)).mono ?_
      rintro e w1 ⟨K, A1, c1, p, rfl, hr1, hp16, hK0, hK4, hb1⟩
      have hpc : p.length ≤ c1 := hr1.rd.2.1
      have HC : Cells (w1.alloc (.cells #[.int .i64 K, .slice A1 p.length c1] 31)) _ := (Cells.nil w1).box (Below.refl _ _)
      obtain ⟨h0, h1, _⟩ := HC.all
      have hTi := fun w hl => iShapeTurn_c K A1 c1 p w hl hpc (by omega)
      have hTs := fun w hl => sShapeTurn_c K A1 c1 p w hl hpc (by omega)
      cases hok : shapeOk K p with
      | false =>
        simp only [turn_no hok] at hTi hTs
        have HTi := Lib.hid hTi
        have HTs := Lib.hid hTs
        clear hTi hTs
        go_wp2_with fail
        refine (HTi.out _ (Kd.C_below hr1.rd.2.2 bl)).mono ?_
        rintro e w2 ⟨A2, c2, rfl, hr2, hb2⟩
        replace HC : Cells (w2.alloc (.cells #[.int .i64 0, .slice A2 0 c2] 31)) _ := (HC.to hb2).box (Below.refl _ _)
        clear h0 h1
        obtain ⟨h0, h1, h2, h3, _⟩ := HC.all
        go_wp2
        refine rgStart 5 [0, 1, 2, 3, 4] l_FnShapeTurn_t5 (fun HT HS => ?_)
        repeat ((with_reducible refine rgGate ?_); first | refine rgP HT ?_ | refine rgL HT ?_ | refine rgG HT ?_)
        refine rgCall HT Try.func43 (HTs.out _ (Kd.C_below hr1.rd.2.2 bl)) ?_
        rintro e w3 ⟨A3, c3, rfl, hr3, hb3⟩
        refine ⟨_, rfl, bl, rgN ?_⟩
        repeat ((with_reducible refine rgGate ?_); first | refine rgP HT ?_ | refine rgL HT ?_ | refine rgG HT ?_)
        refine rgCall HT Try.func22 (iShapeSame_c 0 0 A2 A3 c2 c3 [] [] _ (Kd.C_below hr2.rd.2.2 bl) hr3.rd.2.2 (by simp) (by simp)) ?_
        rintro e w4 ⟨rfl, hb4⟩
        refine ⟨_, rfl, bl, rgN ?_⟩
        rw [eqB_t.2 rfl]
        repeat ((with_reducible refine rgGate ?_); first | refine rgP HT ?_ | refine rgL HT ?_ | refine rgG HT ?_)
        refine rgDone HT ?_
        clear HT HS
        replace HC := HC.to (bl : Below (w2.alloc (.cells #[.int .i64 0, .slice A2 0 c2] 31)).heap.size (w2.alloc (.cells #[.int .i64 0, .slice A2 0 c2] 31)) w4)
        clear h0 h1 h2 h3
        obtain ⟨h0, h1, h2, h3, _⟩ := HC.all
        go_wp2_with fail
        refine (sShapeOk_c K A1 c1 p _ (Kd.C_below hr1.rd.2.2 bl) (by omega)).mono ?_
        rintro e w7 ⟨rfl, hb7⟩
        replace HC := HC.to hb7
        clear h0 h1 h2 h3
        obtain ⟨h0, h1, h2, h3, _⟩ := HC.all
        go_wp2
        go_ret
        exact ⟨rfl, bl⟩
      | true =>
        have hn17 : p.length ≤ 1048576 := by omega
        by_cases hK : K = 3
        · have t3 : (K != 3) = false := by simp [hK]
          have hso : ShapeOk 3 p := hK ▸ shapeOk_t.1 hok
          have HK := Lib.hid hK
          have hp6 : 3 ≤ p.length ∧ p.length ≤ 6 := by rcases hso.2 with h | h | h <;> omega
          have key : ∃ q : List Pt, turn K p = (K, q) ∧ q.length = p.length ∧ area K q = area K p ∧ turn K q = (K, q) ∧ (∀ i (hi : i < q.length) (h0 : 0 < q.length), lessPt q[i] q[0] = false) ∧ (∀ k, k ≤ p.length → shapeOk K (rot p k) = true ∧ area K (rot p k) = area K p ∧ turn K (rot p k) = (K, q)) := by
            have hrt := best_rt p p.length (Nat.le_refl _)
            refine ⟨best p p.length, turn_ring hok hK, best_len _ _ (Nat.le_refl _), by rw [hK]; exact hrt.area hso, ?_, fun i hi h0 => best_first p (by omega) h0 i hi, fun k hk => ?_⟩
            · rw [turn_ring (by rw [shapeOk_t, hK]; exact hrt.ok hso) hK, best_same hrt (by omega)]
            · have h1 : Rt p (rot p k) := ⟨k, hk, rfl⟩
              have h2 := h1.ok hso
              refine ⟨by rw [shapeOk_t, hK]; exact h2, by rw [hK]; exact h1.area hso, ?_⟩
              rw [turn_ring (by rw [shapeOk_t, hK]; exact h2) hK, best_same h1 (by omega)]
          obtain ⟨q, hq0, hql, hqa, hqt, hqf, hrk⟩ := key
          simp only [hq0, hql] at hTi hTs
          have HQA := Lib.hid hqa
          have HQT := Lib.hid hqt
          have HQF := Lib.hid hqf
          have HRK := Lib.hid hrk
          clear hq0 hqa hqt hqf hrk
          have HTi := Lib.hid hTi
          have HTs := Lib.hid hTs
          clear hTi hTs hK hso
          have HQL := Lib.hid hql
          have hnq : q.length ≤ 1048576 := by omega
          go_wp2_with fail
          refine (HTi.out _ (Kd.C_below hr1.rd.2.2 bl)).mono ?_
          rintro e w2 ⟨A2, c2, rfl, hr2, hb2⟩
          have hqc : p.length ≤ c2 := hr2.rd.2.1
          have hq2 : kPt.C w2 A2 p.length q := by have := hr2.rd.2.2; rwa [hql] at this
          clear hql
          replace HC : Cells (w2.alloc (.cells #[.int .i64 K, .slice A2 p.length c2] 31)) _ := (HC.to hb2).box (Below.refl _ _)
          clear h0 h1
          obtain ⟨h0, h1, h2, h3, _⟩ := HC.all
          go_wp2
          refine rgStart 5 [0, 1, 2, 3, 4] l_FnShapeTurn_t5 (fun HT HS => ?_)
          repeat ((with_reducible refine rgGate ?_); first | refine rgP HT ?_ | refine rgL HT ?_ | refine rgG HT ?_)
          refine rgCall HT Try.func43 (HTs.out _ (Kd.C_below hr1.rd.2.2 bl)) ?_
          rintro e w3 ⟨A3, c3, rfl, hr3, hb3⟩
          refine ⟨_, rfl, bl, rgN ?_⟩
          repeat ((with_reducible refine rgGate ?_); first | refine rgP HT ?_ | refine rgL HT ?_ | refine rgG HT ?_)
          have hSm := iShapeSame_c K K A2 A3 c2 c3 q q w3 (by rw [HQL.out]; exact Kd.C_below hq2 bl) hr3.rd.2.2 hnq hnq
          rw [HQL.out] at hSm
          refine rgCall HT Try.func22 (hSm) ?_
          rintro e w4 ⟨rfl, hb4⟩
          refine ⟨_, rfl, bl, rgN ?_⟩
          rw [eqB_t.2 rfl]
          clear hSm
          repeat ((with_reducible refine rgGate ?_); first | refine rgP HT ?_ | refine rgL HT ?_ | refine rgG HT ?_)
          refine rgDone HT ?_
          clear HT HS
          replace HC := HC.to (bl : Below (w2.alloc (.cells #[.int .i64 K, .slice A2 p.length c2] 31)).heap.size (w2.alloc (.cells #[.int .i64 K, .slice A2 p.length c2] 31)) w4)
          clear h0 h1 h2 h3
          obtain ⟨h0, h1, h2, h3, _⟩ := HC.all
          go_wp2_with fail
          refine (sShapeOk_c K A1 c1 p _ (Kd.C_below hr1.rd.2.2 bl) (by omega)).mono ?_
          rintro e w5 ⟨rfl, hb5⟩
          replace HC := HC.to hb5
          clear h0 h1 h2 h3
          obtain ⟨h0, h1, h2, h3, _⟩ := HC.all
          have hdm : Int.tmod (m.length : Int) (p.length : Int) = ((m.length % p.length : Nat) : Int) := by rw [Int.tmod_eq_emod_of_nonneg (by omega)]; rfl
          have hp0 : ¬ (p.length : Int) = 0 := by omega
          have hkl : m.length % p.length < p.length := Nat.mod_lt _ (by omega)
          generalize m.length % p.length = k at *
          obtain ⟨hk1, hk2, hk3⟩ := HRK.out k (by omega)
          have Hk2 := Lib.hid hk2
          have hD := Kd.C_drop hr1.rd.2.2 (show k ≤ p.length by omega) hpc
          rw [List.length_drop] at hD
          have hT := Kd.C_take hr1.rd.2.2 (show k ≤ p.length by omega)
          have hk4 : (p.take k).length = k := by rw [List.length_take]; omega
          rw [hk4] at hT
          have hcf := cut_from (P := Try.prog) 29 40 .i64 Try.underlying29 rfl kPt.sz rfl A1 p.length c1 (k : Int) (by omega) (by omega)
          have hct := cut_to (P := Try.prog) 29 40 .i64 Try.underlying29 rfl A1 p.length c1 (k : Int) (by omega) (by omega) hpc
          simp only [Int.toNat_natCast] at hcf hct
          have hTu := fun A c w hl hc => iShapeTurn_c K A c (rot p k) w hl hc (by rw [rot_len]; exact hn17)
          have hTt := fun A c w hl hc => iShapeTurn_c K A c q w hl hc hnq
          have hAu := fun A c w hl => iShapeArea_c K A c (rot p k) w hl (by rw [rot_len]; exact hn17)
          have hAt := fun A c w hl => iShapeArea_c K A c q w hl hnq
          have hOu := fun A c w hl => iShapeOk_c K A c (rot p k) w hl (by rw [rot_len]; exact hn17)
          simp only [hk3, HQT.out, rot_len, HQL.out, hk2, HQA.out, hk1] at hTu hTt hAu hAt hOu
          have HTu := Lib.hid hTu
          have HTt := Lib.hid hTt
          have HAu := Lib.hid hAu
          have HAt := Lib.hid hAt
          have HOu := Lib.hid hOu
          clear hTu hTt hAu hAt hOu hk1 hk2 hk3 hk4
          generalize (if c1 = k then A1 else A1.map (·.add (k * kPt.sz))) = A9 at hcf hD
          have z5 : w1.heap.size < w5.heap.size ∧ w2.heap.size < w5.heap.size ∧ w.heap.size ≤ w5.heap.size := by
            have := hb1.size; have := hb2.size; have := hb3.size; have := hb4.size; have := hb5.size
            simp only [World.size_alloc, World.size_drew] at *
            omega
          go_upto_region 12 with (fail)
          go_cut [8] (fun q8 wc => ∃ (g : Nat) (A7 : Option Addr) (c7 : Nat), q8 = .pointer (some ⟨g, 0, none⟩) ∧ Aside0 (kPt.C wc A7 p.length (rot p k)) ∧ p.length ≤ c7 ∧ Aside0 (Cells wc ((⟨g, 0, none⟩, .int .i64 K) :: (⟨g, 1, none⟩, .slice A7 p.length c7) :: [(⟨w2.heap.size, 0, none⟩, .int .i64 K), (⟨w2.heap.size, 1, none⟩, .slice A2 p.length c2), (⟨w1.heap.size, 0, none⟩, .int .i64 K), (⟨w1.heap.size, 1, none⟩, .slice A1 p.length c1)])) ∧ Aside0 (Below w5.heap.size w5 wc))
          case first =>
            refine cgStart 16 [0, 1, 3, 4, 5, 6, 8, 9, 10, 11, 2, 7, 12, 13, 14, 15] [15] _ l_FnShapeTurn_t12 HC (fun HT HD => ?_)
            repeat ((with_reducible refine cgGate ?_); first | refine cgP HT ?_ | refine cgL HT ?_ | refine cgG HT ?_)
            refine cgTwo [0, 1, 3, 4, 5, 6, 8, 9, 10, 11, 14, 2, 7, 12, 13, 15] HT ?x1a ?x1b
            case' x1a =>
              refine cgE_k (w1 := w5.drew.alloc (.cells #[] 40)) (v := .slice (some ⟨w5.drew.heap.size, 0, none⟩) 0 0) (fun HD2 => ?_) (hrun := by first | (go_simp; done) | (go_simp; rfl)) (hS := HD.to bl)
              have HO : kPt.R 40 (w5.drew.alloc (.cells #[] 40)) w5.heap.size (fun _ => True) (.slice (some ⟨w5.heap.size, 0, none⟩) 0 0) [] := lit0 w5.drew w5.heap.size sz
              refine cgTwo [0, 1, 3, 4, 5, 6, 8, 9, 10, 11, 2, 14, 7, 12, 13, 15] HT ?x2a ?x2b
              case' x2a =>
                refine cgApp_k (w0 := w5) (base := w5.heap.size) (.tmp 48) (.tmp 52) _ [] (p.drop k) A9 (p.length - k) (c1 - k) HD2 HO (Kd.C_below hD bl) bl sz (by simp; omega) (fun x hx e_ => by have := Kd.R_block_ge HO _ e_.symm; simp only [List.mem_cons, List.mem_nil_iff, or_false] at hx; rcases hx with rfl | rfl | rfl | rfl <;> simp only [] at this <;> omega) ?_
                intro A6 c6 w6 ho6 hb6 HD3 hg6
                refine cgN ?_
                refine cgTwo [0, 1, 3, 4, 5, 6, 8, 9, 10, 11, 2, 7, 14, 12, 13, 15] HT ?x3a ?x3b
                case' x3a =>
                  refine cgApp_k (w0 := w5) (base := w5.heap.size) (.tmp 53) (.tmp 57) _ ([] ++ p.drop k) (p.take k) A1 k c1 HD3 ho6 (Kd.C_below hT bl) hb6 hb6.size (by simp; omega) (fun x hx e_ => by have := Kd.R_block_ge ho6 _ e_.symm; simp only [List.mem_cons, List.mem_nil_iff, or_false] at hx; rcases hx with rfl | rfl | rfl | rfl <;> simp only [] at this <;> omega) ?_
                  intro A7 c7 w7 ho7 hb7 HD4 hg7
                  refine cgN ?_
                  repeat ((with_reducible refine cgGate ?_); first | refine cgP HT ?_ | refine cgL HT ?_ | refine cgG HT ?_)
                  refine cgE (w1 := w7.alloc (.cells #[.int .i64 0, .slice none 0 0] 31)) (v := .pointer (some ⟨w7.heap.size, 0, none⟩)) HT (fun HD9 => ?_) (hrun := by first | (go_simp; done) | (go_simp; rfl)) (hS := HD4.to bl)
                  have fg := B2.new (u := .int .i64 0) (v := .slice none 0 0) (t := 31) w7
                  have ho8 := Kd.R_below ho7 (below_alloc (Below.refl _ _) (.cells #[.int .i64 0, .slice none 0 0] 31))
                  have hb8 : Below w5.heap.size w5 (w7.alloc (.cells #[.int .i64 0, .slice none 0 0] 31)) := bl
                  have hgw : w5.heap.size ≤ w7.heap.size := hb7.size
                  generalize w7.alloc (.cells #[.int .i64 0, .slice none 0 0] 31) = w8 at *
                  generalize w7.heap.size = g at *
                  clear hb7 ho7 HD4 HD3 HD2 hg7 hg6 hb6 ho6 HO
                case' x3b =>
                  refine cgE_k (w1 := w6.alloc (.cells #[.int .i64 0, .slice none 0 0] 31)) (v := .pointer (some ⟨w6.heap.size, 0, none⟩)) (fun HD9 => ?_) (hrun := by first | (go_simp; done) | (go_simp; rfl)) (hS := HD3.to bl)
                  have fg := B2.new (u := .int .i64 0) (v := .slice none 0 0) (t := 31) w6
                  have ho9 := Kd.R_below ho6 (below_alloc (Below.refl _ _) (.cells #[.int .i64 0, .slice none 0 0] 31))
                  have hgw : w5.heap.size ≤ w6.heap.size := hb6.size
                  refine cgApp (w0 := w5) (base := w5.heap.size) (.tmp 53) (.tmp 57) _ ([] ++ p.drop k) (p.take k) A1 k c1 HT HD9 ho9 (Kd.C_below hT bl) bl sz (by simp; omega) (fun x hx e_ => by have := Kd.R_block_ge ho9 _ e_.symm; simp only [List.mem_cons, List.mem_nil_iff, or_false] at hx; rcases hx with rfl | rfl | rfl | rfl <;> simp only [] at this <;> omega) ?_
                  intro A7 c7 w8 ho8 hb8 HD8 hg8
                  refine cgN ?_
                  replace fg := fg.grown hg8 (Kd.R_ne ho9 fg (by decide))
                  replace HD9 := HD8
                  clear HD8 HD3 HD2 hg8 hg6 ho9 ho6 HO
                  generalize w6.heap.size = g at *
              case' x2b =>
                refine cgE_k (w1 := (w5.drew.alloc (.cells #[] 40)).alloc (.cells #[.int .i64 0, .slice none 0 0] 31)) (v := .pointer (some ⟨(w5.drew.alloc (.cells #[] 40)).heap.size, 0, none⟩)) (fun HD9 => ?_) (hrun := by first | (go_simp; done) | (go_simp; rfl)) (hS := HD2.to bl)
                have fg := B2.new (u := .int .i64 0) (v := .slice none 0 0) (t := 31) (w5.drew.alloc (.cells #[] 40))
                have ho9 := Kd.R_below HO (below_alloc (Below.refl _ _) (.cells #[.int .i64 0, .slice none 0 0] 31))
                have hgw : w5.heap.size ≤ (w5.drew.alloc (.cells #[] 40)).heap.size := sz
                refine cgApp (w0 := w5) (base := w5.heap.size) (.tmp 48) (.tmp 52) _ [] (p.drop k) A9 (p.length - k) (c1 - k) HT HD9 ho9 (Kd.C_below hD bl) bl sz (by simp; omega) (fun x hx e_ => by have := Kd.R_block_ge ho9 _ e_.symm; simp only [List.mem_cons, List.mem_nil_iff, or_false] at hx; rcases hx with rfl | rfl | rfl | rfl <;> simp only [] at this <;> omega) ?_
                intro A6 c6 w6 ho6 hb6 HD3 hg6
                refine cgN ?_
                replace fg := fg.grown hg6 (Kd.R_ne ho9 fg (by decide))
                refine cgApp (w0 := w5) (base := w5.heap.size) (.tmp 53) (.tmp 57) _ ([] ++ p.drop k) (p.take k) A1 k c1 HT HD3 ho6 (Kd.C_below hT bl) hb6 hb6.size (by simp; omega) (fun x hx e_ => by have := Kd.R_block_ge ho6 _ e_.symm; simp only [List.mem_cons, List.mem_nil_iff, or_false] at hx; rcases hx with rfl | rfl | rfl | rfl <;> simp only [] at this <;> omega) ?_
                intro A7 c7 w8 ho8 hb8 HD8 hg8
                refine cgN ?_
                replace fg := fg.grown hg8 (Kd.R_ne ho6 fg (by decide))
                replace HD9 := HD8
                clear HD8 HD3 HD2 hg8 hg6 ho9 ho6 HO
                generalize (w5.drew.alloc (.cells #[] 40)).heap.size = g at *
            case' x1b =>
              refine cgE_k (w1 := w5.drew.alloc (.cells #[.int .i64 0, .slice none 0 0] 31)) (v := .pointer (some ⟨w5.drew.heap.size, 0, none⟩)) (fun HD9 => ?_) (hrun := by first | (go_simp; done) | (go_simp; rfl)) (hS := HD.to bl)
              have fg := B2.new (u := .int .i64 0) (v := .slice none 0 0) (t := 31) w5.drew
              have hgw : w5.heap.size ≤ w5.drew.heap.size := sz
              refine cgE (w1 := (w5.drew.alloc (.cells #[.int .i64 0, .slice none 0 0] 31)).alloc (.cells #[] 40)) (v := .slice (some ⟨(w5.drew.alloc (.cells #[.int .i64 0, .slice none 0 0] 31)).heap.size, 0, none⟩) 0 0) HT (fun HD2 => ?_) (hrun := by first | (go_simp; done) | (go_simp; rfl)) (hS := HD9.to bl)
              have HO : kPt.R 40 ((w5.drew.alloc (.cells #[.int .i64 0, .slice none 0 0] 31)).alloc (.cells #[] 40)) w5.heap.size (fun _ => True) (.slice (some ⟨(w5.drew.alloc (.cells #[.int .i64 0, .slice none 0 0] 31)).heap.size, 0, none⟩) 0 0) [] := lit0 (w5.drew.alloc (.cells #[.int .i64 0, .slice none 0 0] 31)) w5.heap.size sz
              replace fg := fg.to (below_alloc (Below.refl _ _) (.cells #[] 40))
              refine cgApp (w0 := w5) (base := w5.heap.size) (.tmp 48) (.tmp 52) _ [] (p.drop k) A9 (p.length - k) (c1 - k) HT HD2 HO (Kd.C_below hD bl) bl sz (by simp; omega) (fun x hx e_ => by have := Kd.R_block_ge HO _ e_.symm; simp only [List.mem_cons, List.mem_nil_iff, or_false] at hx; rcases hx with rfl | rfl | rfl | rfl <;> simp only [] at this <;> omega) ?_
              intro A6 c6 w6 ho6 hb6 HD3 hg6
              refine cgN ?_
              replace fg := fg.grown hg6 (Kd.R_ne HO fg (by decide))
              refine cgApp (w0 := w5) (base := w5.heap.size) (.tmp 53) (.tmp 57) _ ([] ++ p.drop k) (p.take k) A1 k c1 HT HD3 ho6 (Kd.C_below hT bl) hb6 hb6.size (by simp; omega) (fun x hx e_ => by have := Kd.R_block_ge ho6 _ e_.symm; simp only [List.mem_cons, List.mem_nil_iff, or_false] at hx; rcases hx with rfl | rfl | rfl | rfl <;> simp only [] at this <;> omega) ?_
              intro A7 c7 w8 ho8 hb8 HD8 hg8
              refine cgN ?_
              replace fg := fg.grown hg8 (Kd.R_ne ho6 fg (by decide))
              replace HD9 := HD8
              clear HD8 HD3 HD2 hg8 hg6 ho6 HO
              generalize w5.drew.heap.size = g at *
            all_goals
              have e : (([] ++ p.drop k) ++ p.take k).length = p.length := rot_len
              rw [e] at ho8
              have e2 : p.length - k + min k p.length = p.length := by omega
              obtain ⟨f0, f1, f2, f3, f4⟩ := fg.f
              repeat ((with_reducible refine cgGate ?_); first | refine cgP HT ?_ | refine cgL HT ?_ | refine cgG HT ?_)
              refine cgLast HT ?_
              refine cgDone HT ?_
              have hgn : ∀ b, b < w5.heap.size → (b != g) = true := fun b h => by simp; omega
              have U := fg.set (.int .i64 K) (.slice A7 p.length c7)
              have ho9 := Kd.R_set (Kd.R_set ho8 fg (by decide) 0 (.int .i64 K)) (fg.set0 (.int .i64 K)) (by decide) 1 (.slice A7 p.length c7)
              have HC9 : Cells ((w8.setCell ⟨g, 0, none⟩ (.int .i64 K)).setCell ⟨g, 1, none⟩ (.slice A7 p.length c7)) _ := (HD9.set g 0 (.int .i64 K) (by simp only [List.all_cons, List.all_nil, hgn _ z5.1, hgn _ z5.2.1, Bool.and_self])).set g 1 (.slice A7 p.length c7) (by simp only [List.all_cons, List.all_nil, hgn _ z5.1, hgn _ z5.2.1, Bool.and_self])
              have B59 : Below w5.heap.size w5 ((w8.setCell ⟨g, 0, none⟩ (.int .i64 K)).setCell ⟨g, 1, none⟩ (.slice A7 p.length c7)) := (hb8.setCell hgw _).setCell hgw _
              have ku := (Kd.R_reads' ho9).2.2
              rw [e] at ku
              have hc7 : p.length ≤ c7 := (Kd.R_reads' ho9).2.1
              have HC10 := Cells.cons U.f.1 (Cells.cons U.f.2.1 HC9)
              go_wp2
              go_meet
              case rel => exact ⟨g, A7, c7, rfl, ⟨ku⟩, hc7, ⟨HC10⟩, ⟨B59⟩⟩
          case rest =>
            obtain ⟨g, A7, c7, rfl, ⟨ku⟩, hc7, ⟨HC10⟩, ⟨B59⟩⟩ := hcut
            have Bw : Below w.heap.size w wc := below_then (bl : Below w.heap.size w w5) z5.2.2 B59
            have kp : kPt.C wc A1 p.length p := Kd.C_below hr1.rd.2.2 (below_then (bl : Below w1.heap.size w1 w5) (Nat.le_of_lt z5.1) B59)
            have kq : kPt.C wc A2 p.length q := Kd.C_below hq2 (below_then (bl : Below w2.heap.size w2 w5) (Nat.le_of_lt z5.2.1) B59)
            clear h0 h1 h2 h3 hcf hct
            clear B59 hr1 hr2 hr3 HC hb1 hb2 hb3 hb4 hb5 hD hT
            go_wp2
            go_loopw [9] (fun x wr => ∃ i : Nat, i ≤ p.length ∧ x = .int .i64 i ∧ Aside0 (Below wc.heap.size wc wr)) (fun x _ => p.length - (intOf x).toNat)
            case atStart => exact ⟨0, by omega, rfl, ⟨Below.refl _ _⟩⟩
            case round =>
              obtain ⟨i, hi, rfl, ⟨hbr⟩⟩ := hrel
              have HCr := HC10.to hbr
              obtain ⟨g0, g1, g2, g3, g4, g5, _⟩ := HCr.all
              by_cases hlt : i < p.length
              · have t1 : decide ((i : Int) < (p.length : Int)) = true := decide_eq_true (by omega)
                have hiq : i < q.length := by have := HQL.out; omega
                have h0q : 0 < q.length := by omega
                have h0p : 0 < p.length := by omega
                obtain ⟨ad, e1, c0, c1_⟩ := at_Pt kq i hiq
                obtain ⟨ad', e2, d0, d1⟩ := at_Pt0 kq h0q
                rw [e1] at e2
                cases e2
                subst e1
                have hf := HQF.out i hiq h0q
                have hle : ¬ lessPt q[i] q[0] = true := by simp [hf]
                rw [lessPt_t] at hle
                replace c0 := pw_cell_below hbr c0
                replace c1_ := pw_cell_below hbr c1_
                replace d0 := pw_cell_below hbr d0
                replace d1 := pw_cell_below hbr d1
                have hw : IntKind.i64.wrap ((i : Int) + 1) = (i : Int) + 1 := IntWalk.i64_in _ (by omega)
                clear hf
                generalize q[i] = x at *
                generalize q[0] = y at *
                have u1 : decide (x.1 < y.1) = false := decide_eq_false (by omega)
                by_cases hx : x.1 = y.1
                · have u2 : (x.1 == y.1) = true := by simp [hx]
                  have u3 : decide (x.2 < y.2) = false := decide_eq_false (by omega)
                  clear hle hx
                  go_wp2
                  refine cgStart 40 [0, 1, 2, 3, 4, 5, 6, 7, 8, 9, 10, 11, 12, 13, 14, 15, 16, 17, 18, 19, 20, 21, 22, 23, 24, 25, 26, 27, 28, 29, 30, 31, 32, 33, 34, 35, 36, 37, 38, 39] [] [(⟨w2.heap.size, 1, none⟩, _), (ad.add (i * 2), _), (⟨(ad.add (i * 2)).block, (ad.add (i * 2)).off + 1, none⟩, _), (ad, _), (⟨ad.block, ad.off + 1, none⟩, _)] l_FnShapeTurn_t16 ⟨g3, c0, c1_, d0, d1, trivial⟩ (fun HT HD => ?_)
                  repeat ((with_reducible refine cgGate ?_); first | refine cgP HT ?_ | refine cgL HT ?_ | refine cgG HT ?_)
                  refine cgDone HT ?_
                  clear HT HD
                  go_wp2
                  exact ⟨⟨i + 1, by omega, by go_num, ⟨bl⟩⟩, by simp [intOf]; omega⟩
                · have u2 : (x.1 == y.1) = false := by simp [hx]
                  clear hle hx
                  go_wp2
                  refine cgStart 40 [0, 1, 2, 3, 4, 5, 6, 7, 8, 9, 10, 11, 12, 13, 14, 15, 16, 17, 18, 19, 20, 21, 22, 23, 24, 25, 26, 27, 28, 29, 30, 31, 32, 33, 34, 35, 36, 37, 38, 39] [] [(⟨w2.heap.size, 1, none⟩, _), (ad.add (i * 2), _), (⟨(ad.add (i * 2)).block, (ad.add (i * 2)).off + 1, none⟩, _), (ad, _), (⟨ad.block, ad.off + 1, none⟩, _)] l_FnShapeTurn_t16 ⟨g3, c0, c1_, d0, d1, trivial⟩ (fun HT HD => ?_)
                  repeat ((with_reducible refine cgGate ?_); first | refine cgP HT ?_ | refine cgL HT ?_ | refine cgG HT ?_)
                  refine cgDone HT ?_
                  clear HT HD
                  go_wp2
                  exact ⟨⟨i + 1, by omega, by go_num, ⟨bl⟩⟩, by simp [intOf]; omega⟩
              · have t1 : decide ((i : Int) < (p.length : Int)) = false := decide_eq_false (by omega)
                have hSm := fun A B c d w hl hm => iShapeSame_c K K A B c d q q w hl hm hnq hnq
                simp only [HQL.out] at hSm
                have HSm := Lib.hid hSm
                clear hSm
                go_wp2
                refine rgStart 29 [0, 1, 2, 3, 5, 4, 6, 7, 8, 9, 11, 10, 12, 13, 14, 15, 17, 16, 18, 19, 20, 21, 22, 24, 23, 25, 26, 27, 28] l_FnShapeTurn_t18 (fun HT HS => ?_)
                repeat ((with_reducible refine rgGate ?_); first | refine rgP HT ?_ | refine rgL HT ?_ | refine rgG HT ?_)
                refine rgCall HT Try.func25 (HOu.out _ _ _ (Kd.C_below ku bl)) ?_
                rintro e w10 ⟨rfl, hb10⟩
                refine ⟨_, rfl, bl, rgN ?_⟩
                repeat ((with_reducible refine rgGate ?_); first | refine rgP HT ?_ | refine rgL HT ?_ | refine rgG HT ?_)
                refine rgCall HT Try.func42 (HTu.out _ _ _ (Kd.C_below ku bl) hc7) ?_
                rintro e w11 ⟨A11, c11, rfl, hr11, hb11⟩
                refine ⟨_, rfl, bl, rgN ?_⟩
                repeat ((with_reducible refine rgGate ?_); first | refine rgP HT ?_ | refine rgL HT ?_ | refine rgG HT ?_)
                refine rgCall HT Try.func22 (HSm.out _ _ _ _ _ (by have := hr11.rd.2.2; rwa [HQL.out] at this) (Kd.C_below kq bl)) ?_
                rintro e w12 ⟨rfl, hb12⟩
                refine ⟨_, rfl, bl, rgN ?_⟩
                rw [eqB_t.2 rfl]
                repeat ((with_reducible refine rgGate ?_); first | refine rgP HT ?_ | refine rgL HT ?_ | refine rgG HT ?_)
                refine rgCall HT Try.func42 (HTt.out _ _ _ (Kd.C_below kq bl) hqc) ?_
                rintro e w13 ⟨A13, c13, rfl, hr13, hb13⟩
                refine ⟨_, rfl, bl, rgN ?_⟩
                repeat ((with_reducible refine rgGate ?_); first | refine rgP HT ?_ | refine rgL HT ?_ | refine rgG HT ?_)
                refine rgCall HT Try.func22 (HSm.out _ _ _ _ _ (by have := hr13.rd.2.2; rwa [HQL.out] at this) (Kd.C_below kq bl)) ?_
                rintro e w14 ⟨rfl, hb14⟩
                refine ⟨_, rfl, bl, rgN ?_⟩
                rw [eqB_t.2 rfl]
                repeat ((with_reducible refine rgGate ?_); first | refine rgP HT ?_ | refine rgL HT ?_ | refine rgG HT ?_)
                refine rgCall HT Try.func27 (HAt.out _ _ _ (Kd.C_below kq bl)) ?_
                rintro e w15 ⟨rfl, hb15⟩
                refine ⟨_, rfl, bl, rgN ?_⟩
                repeat ((with_reducible refine rgGate ?_); first | refine rgP HT ?_ | refine rgL HT ?_ | refine rgG HT ?_)
                refine rgCall HT Try.func27 (iShapeArea_c K A1 c1 p _ (Kd.C_below kp bl) hn17) ?_
                rintro e w16 ⟨rfl, hb16⟩
                refine ⟨_, rfl, bl, rgN ?_⟩
                repeat ((with_reducible refine rgGate ?_); first | refine rgP HT ?_ | refine rgL HT ?_ | refine rgG HT ?_)
                refine rgCall HT Try.func27 (HAu.out _ _ _ (Kd.C_below ku bl)) ?_
                rintro e w17 ⟨rfl, hb17⟩
                refine ⟨_, rfl, bl, rgN ?_⟩
                repeat ((with_reducible refine rgGate ?_); first | refine rgP HT ?_ | refine rgL HT ?_ | refine rgG HT ?_)
                refine rgCall HT Try.func27 (iShapeArea_c K A1 c1 p _ (Kd.C_below kp bl) hn17) ?_
                rintro e w18 ⟨rfl, hb18⟩
                refine ⟨_, rfl, bl, rgN ?_⟩
                repeat ((with_reducible refine rgGate ?_); first | refine rgP HT ?_ | refine rgL HT ?_ | refine rgG HT ?_)
                refine rgDone HT ?_
                clear HT HS
                go_wp2
                go_ret
                exact ⟨rfl, bl⟩
        · have t3 : (K != 3) = true := by simp [hK]
          simp only [turn_plain hok hK] at hTi hTs
          have HTi := Lib.hid hTi
          have HTs := Lib.hid hTs
          clear hTi hTs hK
          go_wp2_with fail
          refine (HTi.out _ (Kd.C_below hr1.rd.2.2 bl)).mono ?_
          rintro e w2 ⟨A2, c2, rfl, hr2, hb2⟩
          replace HC : Cells (w2.alloc (.cells #[.int .i64 K, .slice A2 p.length c2] 31)) _ := (HC.to hb2).box (Below.refl _ _)
          clear h0 h1
          obtain ⟨h0, h1, h2, h3, _⟩ := HC.all
          go_wp2
          refine rgStart 5 [0, 1, 2, 3, 4] l_FnShapeTurn_t5 (fun HT HS => ?_)
          repeat ((with_reducible refine rgGate ?_); first | refine rgP HT ?_ | refine rgL HT ?_ | refine rgG HT ?_)
          refine rgCall HT Try.func43 (HTs.out _ (Kd.C_below hr1.rd.2.2 bl)) ?_
          rintro e w3 ⟨A3, c3, rfl, hr3, hb3⟩
          refine ⟨_, rfl, bl, rgN ?_⟩
          repeat ((with_reducible refine rgGate ?_); first | refine rgP HT ?_ | refine rgL HT ?_ | refine rgG HT ?_)
          refine rgCall HT Try.func22 (iShapeSame_c K K A2 A3 c2 c3 p p _ (Kd.C_below hr2.rd.2.2 bl) hr3.rd.2.2 hn17 hn17) ?_
          rintro e w4 ⟨rfl, hb4⟩
          refine ⟨_, rfl, bl, rgN ?_⟩
          rw [eqB_t.2 rfl]
          repeat ((with_reducible refine rgGate ?_); first | refine rgP HT ?_ | refine rgL HT ?_ | refine rgG HT ?_)
          refine rgDone HT ?_
          clear HT HS
          replace HC := HC.to (bl : Below (w2.alloc (.cells #[.int .i64 K, .slice A2 p.length c2] 31)).heap.size (w2.alloc (.cells #[.int .i64 K, .slice A2 p.length c2] 31)) w4)
          clear h0 h1 h2 h3
          obtain ⟨h0, h1, h2, h3, _⟩ := HC.all
          go_wp2_with fail
          refine (sShapeOk_c K A1 c1 p _ (Kd.C_below hr1.rd.2.2 bl) (by omega)).mono ?_
          rintro e w7 ⟨rfl, hb7⟩
          replace HC := HC.to hb7
          clear h0 h1 h2 h3
          obtain ⟨h0, h1, h2, h3, _⟩ := HC.all
          go_wp2_with fail
          refine (iShapeSame_c K K A2 A1 c2 c1 p p _ (Kd.C_below hr2.rd.2.2 bl) (Kd.C_below hr1.rd.2.2 bl) hn17 hn17).mono ?_
          rintro e w8 ⟨rfl, hb8⟩
          rw [eqB_t.2 rfl]
          go_wp2
          go_ret
          exact ⟨rfl, bl⟩
    · have hd2 : decide ((1048576 : Int) < (m.length : Int)) = true := decide_eq_true (by omega)
      go_enter Try.func15, Try.ntmps15
      go_wp2
      go_ret
      exact ⟨rfl, bl⟩
  · have hd : decide ((1048576 : Int) < (l.length : Int)) = true := decide_eq_true (by omega)
    go_enter Try.func15, Try.ntmps15
    go_wp2
    go_ret
    exact ⟨rfl, bl⟩
end Go.Proofs.Ytfapledohlckoaa
