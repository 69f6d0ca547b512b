/- Contracts: the drawer's shapes. -/
import Derived.Test.YtfbhjknkofnohaaDoorDr
namespace Go.Proofs.YtfbhjknkofnohaaDoor
open Go.RowKit Go.Proofs.YtfbhjknkofnohaaDoorW.PrintWords Go.Proofs.YtfbhjknkofnohaaDoorW.PrintLast
set_option linter.unusedVariables false
set_option linter.unusedSimpArgs false
attribute [local go_sem] cell_set_far
attribute [local go_sem high] eqPtOp
/-- append(v, p) of one point, where the order is the text's. -/
theorem appPt {ops : Array Oper} {rest : List Oper} {o : Oper} {a : Act} {Q : Exit → Act → World → Prop} {w0 W : World} (base : Nat) (s x : Operand) (v : Value) (xs : List Pt) (p : Pt)
    (HO : kPt.R 58 W base (fun _ => True) v xs) (HB : Below base w0 W) (hbase : base ≤ W.heap.size) (hl : (xs.length + 1) * 16 ≤ 140737488355328)
    (h : ∀ A' c' w1, kPt.R 58 w1 base (fun _ => True) (.slice A' (xs ++ [p]).length c') (xs ++ [p]) → Below base w0 w1 → W.grownBy w1 v.ownBlock → wpList Tryd.prog ops Q rest (a.put o.dst (.slice A' (xs ++ [p]).length c')) w1)
    (hgd : o.guard = none := by rfl) (ho : o.op = .call { callee := .builtin .append, args := #[s, x], argTypes := #[28, 28] } := by rfl) (hs : a.eval s = v := by rfl) (hx : a.eval x = .slice (some ⟨W.heap.size, 0, none⟩) 1 1 := by rfl) :
    wpList Tryd.prog ops Q (o :: rest) a (W.alloc (.cells #[.int .i64 p.1, .int .i64 p.2] 58)) := by
  refine Kd.R_append kPt (w0 := w0) base hgd s x 28 58 (.agg #[(.int .i64 0), (.int .i64 0)]) 16 ho Tryd.underlying28 info_Pt rfl (by decide) (by omega) v xs p [.int .i64 p.1, .int .i64 p.2] (fun _ => True) (fun _ => False) hs hx (kPt_mkM _ _ _ p) (fun _ hk => hk.elim) (fun _ _ => trivial) HO HB hbase hl ?_
  intro v1 w1 ho1 hb1 hg1 _
  obtain ⟨A', c', rfl⟩ := Kd.R_slice ho1
  exact h A' c' w1 ho1 hb1 hg1
/-- A drawn shape: its points lie in new memory. -/
def DShape (w0 w : World) (b N m : Nat) (e : Ending) (w' : World) : Prop := ∃ (K : Int) (A : Option Addr) (c : Nat) (l : List Pt), e = .returned (.agg #[.int .i64 K, .slice A l.length c]) ∧ RI kPt 58 w' w.heap.size w'.heap.size (.slice A l.length c) l ∧ l.length + m ≤ 16 ∧ m ≤ l.length ∧ 0 ≤ K ∧ K ≤ 4 ∧ Rdr w0 w' b (N + 50) ∧ Ex b (b + 1) w w'
theorem ShapeOk.pos {K : Int} {l : List Pt} (h : ShapeOk K l) : 1 ≤ l.length := by
  rcases h.2 with h | h | h <;> omega
/-- What the loop of l1Shape keeps: block g1 is the result's, block g2 the shape's. -/
def LS (w0 w : World) (b M k : Nat) (K : Int) (g1 g2 : Nat) (wr : World) : Prop := ∃ (Ao : Option Addr) (co : Nat) (l : List Pt), l.length ≤ k ∧ B2 wr g2 30 (.int .i64 K) (.slice Ao l.length co) ∧ kPt.R 58 wr w.heap.size (fun _ => True) (.slice Ao l.length co) l ∧ B2 wr g1 30 (.int .i64 0) (.slice none 0 0) ∧ Rdr w0 wr b M ∧ Ex b (b + 1) w wr
theorem litR1 (w : World) (x : Pt) : kPt.R 58 (w.alloc (.cells #[.int .i64 x.1, .int .i64 x.2] 58)) w.heap.size (fun _ => True) (.slice (some ⟨w.heap.size, 0, none⟩) 1 1) [x] :=
  ⟨fun _ _ => trivial, [.int .i64 x.1, .int .i64 x.2], World.ownsRow_lit (base := w.heap.size) (e := 58) (size := 2) w #[.int .i64 x.1, .int .i64 x.2] 1 (Nat.le_refl _) (by decide) rfl, Reps.snoc (Reps.none _ _) (kPt_mkM _ _ _ x) rfl⟩
def s_l1Shape_T2 : Bool × List (List Nat × List Nat) := (true, [([], []), ([0], [0]), ([], []), ([2], [2]), ([1, 3], [1, 3]), ([4, 3, 0, 1, 2, 3, 4], [4])])
theorem s_l1Shape_t2 : rtab .any (opsOf Tryd.f67 2) = s_l1Shape_T2 := by kernel_rfl
def s_l1Shape_T6 : Bool × List (List Nat × List Nat) := (true, [([], []), ([0], [0]), ([1], [1]), ([2], [2]), ([3, 2], [2, 3]), ([4, 2], [2, 4]), ([2], [2]), ([6, 2, 2], [2, 6]), ([5, 7, 2], [2, 5, 7]), ([2, 8], [2, 8])])
theorem s_l1Shape_t6 : rtab .any (opsOf Tryd.f67 6) = s_l1Shape_T6 := by kernel_rfl
def s_l1Shape_T10 : Bool × List (List Nat × List Nat) := (true, [([], []), ([0], [0]), ([1], [1]), ([2], [2]), ([3, 2], [2, 3]), ([2], [2]), ([5, 2], [2, 5]), ([4, 6, 2], [2, 4, 6]), ([7, 2], [2, 7]), ([2], [2]), ([8, 9, 2], [2, 8, 9]), ([10, 2, 2], [2, 10]), ([11], [11]), ([12, 11], [11, 12]), ([13, 11], [11, 13]), ([14, 11, 11], [11, 14]), ([15], [15]), ([16, 15], [15, 16]), ([17, 15], [15, 17]), ([18, 15], [15, 18]), ([15], [15]), ([19, 20, 15], [15, 19, 20]), ([15, 21, 11], [11, 15, 21]), ([11, 22, 2], [2, 11, 22]), ([2, 23], [2, 23])])
theorem s_l1Shape_t10 : rtab .any (opsOf Tryd.f67 10) = s_l1Shape_T10 := by kernel_rfl
set_option maxHeartbeats 8000000 in
theorem l1Shape_d (b N : Nat) (w0 w : World) (R : Rdr w0 w b N) (hN : N ≤ 990000) : Calls Tryd.prog 67 #[.pointer (some ⟨b, 0, none⟩)] w (DShape w0 w b N 1) := by
  have hbw := R.lt
  go_enter Tryd.func67, Tryd.ntmps67
  go_wp2_with fail
  refine (num_d b (w.heap.size + 1) N _ [1, 2, 2, 3, 3] w0 _ (R.to bl) (by omega) (by omega) (by simpa using litInts (w.alloc (.cells #[.int .i64 0, .slice none 0 0] 30)) _ [1, 2, 2, 3, 3] (by decide)) (by decide) (by decide)).mono ?_
  rintro e w1 ⟨K, hK, rfl, R1, hx1⟩
  have hK3 : 1 ≤ K ∧ K ≤ 3 := by simp only [List.mem_cons, List.mem_nil_iff, or_false] at hK; omega
  clear hK
  have s1 := hx1.1.size
  simp only [World.size_alloc] at s1
  have T1 : B2 w1 w.heap.size 30 (.int .i64 0) (.slice none 0 0) := (B2.new' w _ _ _ _ : B2 ((w.alloc (.cells #[.int .i64 0, .slice none 0 0] 30)).alloc _) w.heap.size 30 (.int .i64 0) (.slice none 0 0)).ex hx1 (Or.inr (by omega))
  have hX1 : Ex b (b + 1) w w1 := (Ex.of bl (by omega)).trans hx1
  clear hx1
  have T2 := B2.new (u := .int .i64 K) (v := .slice none 0 0) (t := 30) w1
  obtain ⟨a0, a1, a2, a3, a4⟩ := T2.f
  have hwr : IntKind.i64.wrap (K + 0) = K + 0 := IntWalk.i64_in _ (by omega)
  clear hwr
  go_wp2
  refine cgStart 6 [0, 1, 2, 3, 4, 5] [] [(⟨w1.heap.size, 0, none⟩, _)] s_l1Shape_t2 ⟨a0, trivial⟩ (fun HT HD => ?_)
  repeat ((with_reducible refine cgGate ?_); first | refine cgP HT ?_ | refine cgL HT ?_)
  refine cgCall HT Tryd.func50 (pick_d b (N + 1) _ w0 _ (R1.to bl) (by omega)) ?_
  rintro e w2 ⟨v, rfl, hv0, hv1, R2, hx2⟩
  have hv4 := hv1 (by decide)
  clear hv1
  have s2 := hx2.1.size
  simp only [World.size_alloc, World.size_drew] at s2
  have U2 : B2 w2 w1.heap.size 30 (.int .i64 K) (.slice none 0 0) := (T2.to (below_drew1 (Below.refl _ _))).ex hx2 (Or.inr (by omega))
  have U1 : B2 w2 w.heap.size 30 (.int .i64 0) (.slice none 0 0) := ((T1.to (below_alloc (Below.refl _ _) _)).to (below_drew1 (Below.refl _ _))).ex hx2 (Or.inr (by omega))
  have hX2 : Ex b (b + 1) w w2 := (hX1.to bl (by omega)).trans hx2
  have hwr : IntKind.i64.wrap (K + v) = K + v := IntWalk.i64_in _ (by omega)
  refine ⟨_, rfl, ⟨U2.f.1, trivial⟩, cgN ?_⟩
  repeat ((with_reducible refine cgGate ?_); first | refine cgP HT ?_ | refine cgL HT ?_)
  refine cgDone HT ?_
  clear HT HD a0 a1 a2 a3 a4 hx2
  obtain ⟨a0, a1, a2, a3, a4⟩ := U2.f
  go_upto_if 19 with (fail)
  go_cut [4] (fun q wc => ∃ W4 : Int, q = .int .i64 W4 ∧ LS w0 w b (N + 2) 0 K w.heap.size w1.heap.size wc)
  case first =>
    cases t1 : (K == 1)
    all_goals
      go_wp2
      go_meet
      case rel => exact ⟨_, rfl, none, 0, [], by simp, U2, Kd.R_nil _ _ _ _ _, U1, R2, hX2⟩
  case rest =>
    obtain ⟨W4, rfl, hI⟩ := hcut
    clear a0 a1 a2 a3 a4 U1 U2 R2 hX2 T1 T2 R1 hX1
    go_wp2
    go_loopw [5] (fun q wr => ∃ k : Nat, k ≤ 12 ∧ q = .int .i64 k ∧ LS w0 w b (N + 2 + 2 * k) k K w.heap.size w1.heap.size wr) (fun q _ => 12 - (intOf q).toNat)
    case atStart => exact ⟨0, by omega, rfl, hI⟩
    case round =>
      clear hI
      obtain ⟨k, hk, rfl, hI⟩ := hrel
      go_upto_region 6 with (fail)
      go_cut [29] (fun q wc => ∃ t : Bool, q = .bool t ∧ Aside0 (t = true → k < 12) ∧ LS w0 w b (N + 2 + 2 * k) k K w.heap.size w1.heap.size wc)
      case first =>
        obtain ⟨Ao, co, l, hlk, V2, hrow, V1, R3, hX3⟩ := hI
        obtain ⟨a0, a1, a2, a3, a4⟩ := V2.f
        by_cases h12 : k < 12
        · have d12 : decide ((k : Int) < 12) = true := decide_eq_true (by omega)
          try go_wp2
          refine cgStart 10 [0, 1, 2, 3, 4, 5, 6, 7, 8, 9] [] [(⟨w1.heap.size, 1, none⟩, _)] s_l1Shape_t6 ⟨a1, trivial⟩ (fun HT HD => ?_)
          repeat ((with_reducible refine cgGate ?_); first | refine cgP HT ?_ | refine cgL HT ?_)
          refine cgCall HT Tryd.func80 (l1Min_c _ _ _) ?_
          rintro e w2 ⟨rfl, hb2⟩
          refine ⟨_, rfl, HD.to hb2, cgN ?_⟩
          repeat ((with_reducible refine cgGate ?_); first | refine cgP HT ?_ | refine cgL HT ?_)
          refine cgDone HT ?_
          clear HT HD
          go_wp2
          go_meet
          case rel => exact ⟨_, rfl, ⟨fun _ => h12⟩, Ao, co, l, hlk, V2.to bl, Kd.R_below hrow bl, V1.to bl, R3.to bl, hX3.to bl (by omega)⟩
        · have d12 : decide ((k : Int) < 12) = false := decide_eq_false (by omega)
          try go_wp2
          refine cgStart 10 [0, 1, 2, 3, 4, 5, 6, 7, 8, 9] [] [(⟨w1.heap.size, 1, none⟩, _)] s_l1Shape_t6 ⟨a1, trivial⟩ (fun HT HD => ?_)
          repeat ((with_reducible refine cgGate ?_); first | refine cgP HT ?_ | refine cgL HT ?_ | refine cgG HT ?_)
          refine cgDone HT ?_
          clear HT HD
          go_wp2
          go_meet
          case rel => exact ⟨_, rfl, ⟨fun h => by cases h⟩, Ao, co, l, hlk, V2.to bl, Kd.R_below hrow bl, V1.to bl, R3.to bl, hX3.to bl (by omega)⟩
      case rest =>
        obtain ⟨t, rfl, ht, hI⟩ := hcut
        obtain ⟨Ao, co, l, hlk, V2, hrow, V1, R3, hX3⟩ := hI
        obtain ⟨a0, a1, a2, a3, a4⟩ := V2.f
        cases t with
        | false =>
          clear ht
          go_wp2_with fail
          refine (sShapeOk_c K Ao co l _ (Kd.R_reads' hrow).2.2 (by omega)).mono ?_
          rintro e w5 ⟨rfl, hb5⟩
          have Y1 := V1.to hb5
          have Y2 := V2.to hb5
          have hr5 := Kd.R_below hrow hb5
          have R5 := R3.to hb5
          have hX5 := hX3.to hb5 (by omega)
          clear a0 a1 a2 a3 a4
          cases hok : shapeOk K l with
          | true =>
            have hne := (shapeOk_t.1 hok).pos
            obtain ⟨a0, a1, a2, a3, a4⟩ := Y2.f
            obtain ⟨z0, z1, z2, z3, z4⟩ := Y1.f
            go_wp2
            have hr6 := Kd.R_set (Kd.R_set hr5 Y1 (by decide) 0 (.int .i64 K)) (Y1.set0 (.int .i64 K)) (by decide) 1 (.slice Ao l.length co)
            refine bodyPost_ret (v := .agg #[.int .i64 K, .slice Ao l.length co]) (by simp [results, Tryd.results67, go_sem, *]) rfl ⟨K, Ao, co, l, rfl, RI.of hr6, by omega, hne, by omega, by omega, ((R5.set hbw).set hbw).up (by omega), (hX5.setN (Nat.le_refl _) (by omega)).setN (Nat.le_refl _) (by omega)⟩
          | false =>
            go_wp2_with fail
            refine (l1Pt_d b _ w0 _ R5 (by omega)).mono ?_
            rintro e w6 ⟨x, y, rfl, hx, hy, R6, hx6⟩
            have Z1 := Y1.ex hx6 (Or.inr (by omega))
            have hX6 := hX5.trans hx6
            have hlr := litR1 ((w6.setCell ⟨w.heap.size, 0, none⟩ (.int .i64 1)).setCell ⟨w.heap.size, 1, none⟩ (.slice (some ⟨w6.heap.size, 0, none⟩) 1 1)) (x, y)
            simp only [World.size_setCell] at hlr
            have s6 := hX6.1.size
            obtain ⟨z0, z1, z2, z3, z4⟩ := Z1.f
            go_wp2
            refine bodyPost_ret (v := .agg #[.int .i64 1, .slice (some ⟨w6.heap.size, 0, none⟩) 1 1]) (by simp [results, Tryd.results67, go_sem, *]) rfl ⟨1, _, 1, [(x, y)], rfl, (RI.of hlr).wide s6 (Nat.le_refl _), by simp, by simp, by omega, by omega, (((R6.set hbw).set hbw).to bl).up (by omega), ((hX6.setN (Nat.le_refl _) (by omega)).setN (Nat.le_refl _) (by omega)).to bl (by omega)⟩
        | true =>
          have h12 := ht.out rfl
          clear ht
          go_upto_region 10 with (go_at_call 81; refine (l1Pt_d b _ w0 _ R3 (by omega)).mono ?_; rintro e w3 ⟨x, y, rfl, hx, hy, R4, hx4⟩; have W2 := V2.ex hx4 (Or.inr (by omega)); obtain ⟨d0, d1, d2, d3, d4⟩ := W2.f)
          go_cut [6, 61] (fun p q wc => ∃ (t : Bool) (g6 : Nat) (x y : Int), p = .pointer (some ⟨g6, 0, none⟩) ∧ q = .bool t ∧ LS w0 w b (N + 2 + 2 * k + 2) k K w.heap.size w1.heap.size wc ∧ B2 wc g6 58 (.int .i64 x) (.int .i64 y))
          case first =>
            clear d0 d1 d2 d3 d4
            have W1 := V1.ex hx4 (Or.inr (by omega))
            have hr4 := R_ex hrow hx4 (by omega)
            have hX4 := hX3.trans hx4
            clear V2 V1 hrow hX3 hx4 R3 a0 a1 a2 a3 a4
            have P6 := B2.new (u := .int .i64 x) (v := .int .i64 y) (t := 58) w3
            have hC := (Kd.R_reads' hr4).2.2
            obtain ⟨a0, a1, a2, a3, a4⟩ := W2.f
            have T2 := W2.to (below_alloc (Below.refl _ _) (.cells #[.int .i64 x, .int .i64 y] 58))
            obtain ⟨p0, p1, p2, p3, p4⟩ := P6.f
            obtain ⟨b0, b1, b2, b3, b4⟩ := T2.f
            rcases Nat.eq_zero_or_pos l.length with h0 | h0
            · have n0 : ((l.length : Int) == 0) = true := beq_iff_eq.mpr (by omega)
              have H0 := Lib.hid h0
              clear h0
              go_wp2
              refine cgStart 25 [0, 1, 2, 3, 4, 5, 6, 7, 8, 9, 10, 11, 12, 13, 14, 15, 16, 17, 18, 19, 20, 21, 22, 23, 24] [] [(⟨w1.heap.size, 1, none⟩, _)] s_l1Shape_t10 ⟨b1, trivial⟩ (fun HT HD => ?_)
              repeat ((with_reducible refine cgGate ?_); first | refine cgP HT ?_ | refine cgL HT ?_ | refine cgG HT ?_)
              refine cgDone HT ?_
              clear HT HD
              go_wp2
              go_meet
              case rel => exact ⟨_, _, _, _, rfl, rfl, ⟨Ao, co, l, hlk, T2.to bl, Kd.R_below hr4 bl, W1.to bl, (R4.to bl).up (by omega), hX4.to bl (by omega)⟩, P6.to bl⟩
            · have n0 : ((l.length : Int) == 0) = false := beq_eq_false_iff_ne.mpr (by omega)
              have hj : l.length - 1 < l.length := by omega
              have hw : IntKind.i64.wrap ((l.length : Int) - 1) = ((l.length - 1 : Nat) : Int) := by rw [IntWalk.i64_in _ (by omega)]; omega
              obtain ⟨ad, rfl, c0, c1⟩ := at_Pt hC (l.length - 1) hj
              obtain ⟨ad', e', d0, d1⟩ := at_Pt0 hC h0
              cases e'
              have hB6 : Below w3.heap.size w3 (w3.alloc (.cells #[.int .i64 x, .int .i64 y] 58)) := bl
              replace c0 := pw_cell_below hB6 c0
              replace c1 := pw_cell_below hB6 c1
              replace d0 := pw_cell_below hB6 d0
              replace d1 := pw_cell_below hB6 d1
              rcases (show (eqB (l[l.length - 1].1, l[l.length - 1].2) (x, y) = true) ∨ (eqB (l[l.length - 1].1, l[l.length - 1].2) (x, y) = false ∧ (K != 3) = true) ∨ (eqB (l[l.length - 1].1, l[l.length - 1].2) (x, y) = false ∧ (K != 3) = false ∧ eqB (l[0].1, l[0].2) (x, y) = true) ∨ (eqB (l[l.length - 1].1, l[l.length - 1].2) (x, y) = false ∧ (K != 3) = false ∧ eqB (l[0].1, l[0].2) (x, y) = false) from by
                cases eqB (l[l.length - 1].1, l[l.length - 1].2) (x, y) <;> cases (K != 3) <;> cases eqB (l[0].1, l[0].2) (x, y) <;> simp) with q1 | ⟨q1, q2⟩ | ⟨q1, q2, q3⟩ | ⟨q1, q2, q3⟩
              all_goals
                go_wp2
                refine cgStart 25 [0, 1, 2, 3, 4, 5, 6, 7, 8, 9, 10, 11, 12, 13, 14, 15, 16, 17, 18, 19, 20, 21, 22, 23, 24] [] [(⟨w1.heap.size, 0, none⟩, _), (⟨w1.heap.size, 1, none⟩, _), (ad.add ((l.length - 1) * 2), _), (⟨(ad.add ((l.length - 1) * 2)).block, (ad.add ((l.length - 1) * 2)).off + 1, none⟩, _), (ad, _), (⟨ad.block, ad.off + 1, none⟩, _), (⟨w3.heap.size, 0, none⟩, _), (⟨w3.heap.size, 1, none⟩, _)] s_l1Shape_t10 ⟨b0, b1, c0, c1, d0, d1, p0, p1, trivial⟩ (fun HT HD => ?_)
                repeat ((with_reducible refine cgGate ?_); first | refine cgP HT ?_ | refine cgL HT ?_ | refine cgG HT ?_)
                refine cgDone HT ?_
                clear HT HD
                go_wp2
                go_meet
                case rel => exact ⟨_, _, _, _, rfl, rfl, ⟨_, co, l, hlk, T2.to bl, Kd.R_below hr4 bl, W1.to bl, (R4.to bl).up (by omega), hX4.to bl (by omega)⟩, P6.to bl⟩
          case rest =>
            clear V2 V1 hrow hX3 R3 hlk a0 a1 a2 a3 a4 d0 d1 d2 d3 d4 W2 hx4 R4
            obtain ⟨t, g6, x, y, rfl, rfl, ⟨A2, c2, l2, hlk, V2, hrow, V1, R3, hX3⟩, P6⟩ := hcut
            obtain ⟨a0, a1, a2, a3, a4⟩ := V2.f
            obtain ⟨p0, p1, p2, p3, p4⟩ := P6.f
            have hw : IntKind.i64.wrap ((k : Int) + 1) = (k : Int) + 1 := IntWalk.i64_in _ (by omega)
            cases t with
            | false =>
              go_wp2
              exact ⟨⟨k + 1, by omega, rfl, A2, c2, l2, by omega, V2, hrow, V1, R3.up (by omega), hX3⟩, by simp [intOf]; omega⟩
            | true =>
              have f2 := Kd.R_ne hrow V2 (by decide)
              have f1 := Kd.R_ne hrow V1 (by decide)
              have fb : ∀ k, (Value.slice A2 l2.length c2).ownBlock = some k → w.heap.size ≤ k := fun k hk => Kd.R_base hrow _ hk
              go_wp2_with (at_builtin; refine appPt (w0 := wc) w.heap.size (.tmp 63) (.tmp 65) _ l2 (x, y) hrow (Below.refl _ _) hX3.1.size (by omega) ?_; intro A' c' w5 ho5 hb5 hg5; have Y2 := V2.grown hg5 f2; have Y1 := V1.grown hg5 f1; have R5 := R3.grown hg5 (fun k e => by have := fb k e; omega); have hX5 := hX3.grown hg5 fb (by omega); clear a0 a1 a2 a3 a4; obtain ⟨a0, a1, a2, a3, a4⟩ := Y2.f)
              have hlen : (l2 ++ [(x, y)]).length = l2.length + 1 := by simp
              rw [hlen] at ho5
              exact ⟨⟨k + 1, by omega, rfl, A', c', l2 ++ [(x, y)], by omega, by rw [hlen]; exact Y2.set1 _, by rw [hlen]; exact Kd.R_set ho5 Y2 (by decide) 1 _, Y1.far (by simp; omega), (R5.set (by omega)).up (by omega), hX5.setN (by omega) (by omega)⟩, by simp [intOf]; omega⟩
end Go.Proofs.YtfbhjknkofnohaaDoor
