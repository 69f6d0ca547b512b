/- Contracts: the drawer's shapes, some bent. -/
import Derived.Test.YtfbhjknkofnohaaDoorDs
namespace Go.Proofs.YtfbhjknkofnohaaDoor
open Go.RowKit Go.Proofs.YtfbhjknkofnohaaDoorW.PrintWords Go.Proofs.YtfbhjknkofnohaaDoorW.PrintLast
set_option linter.unusedVariables false
set_option linter.unusedSimpArgs false
attribute [local go_sem] cell_set_far cell_set_off
section
variable {ops : Array Oper} {Q : Exit → Act → World → Prop} {S : World → Prop} {T : Bool × List (List Nat × List Nat)} {i k n fuel : Nat} {p ds : List Nat} {oi : Oper} {a : Act} {w : World}
/-- append(v, ys..), alone; one of ds. -/
theorem cgAppL {w0 : World} {base : Nat} (s x : Operand) (v : Value) (xs ys : List Pt) (A : Option Addr) (m c : Nat) (hT : Aside0 (rtab .any ops = T))
    (HO : kPt.R 58 w base (fun _ => True) v xs) (HR : kPt.C w A m ys) (HB : Below base w0 w) (hbase : base ≤ w.heap.size) (hl : (xs.length + m) * 16 ≤ 140737488355328)
    (h : ∀ A' c' w1, kPt.R 58 w1 base (fun _ => True) (.slice A' (xs ++ ys).length c') (xs ++ ys) → Below base w0 w1 → w.grownBy w1 v.ownBlock → wpAnyLast Tryd.prog .any ops Q S ds fuel (lit p (k + 1) n) (a.put oi.dst (.slice A' (xs ++ ys).length c')) w1)
    (hk : p[k]? = some i := by (try simp only [List.getElem?_cons_succ, List.getElem?_cons_zero]); rfl) (hi : ops[i]? = some oi := by (try simp only [List.getElem?_toArray, List.getElem?_cons_succ, List.getElem?_cons_zero]); rfl)
    (ho : oi.op = .call { callee := .builtin .append, args := #[s, x], argTypes := #[28, 28] } := by rfl) (hw : Region.wanted oi (yielded ops a.tmps) = true := by rfl) (hs : a.eval s = v := by rfl) (hx : a.eval x = .slice A m c := by rfl) (hd : i ∈ ds := by decide)
    (hc : (readyT T.2 (lit p k n).toList == [i] && (lit p k n).toList.set i true == (lit p (k + 1) n).toList) = true := by kernel_rfl) : wpAnyLast Tryd.prog .any ops Q S ds (fuel + 1) (lit p k n) a w := by
  refine last_ (lit p (k + 1) n) hi rfl (one_of hT.out hc) hd (fun K hK => ?_)
  refine Kd.R_append_rows_step kPt (w0 := w0) base hw s x 28 58 (.agg #[(.int .i64 0), (.int .i64 0)]) 16 ho Tryd.underlying28 info_Pt rfl (by decide) (by omega) v xs ys A m c (fun _ => True) (fun _ => False) hs hx HO HR (fun _ _ h => h) (fun _ h => h.elim) (fun _ _ => trivial) HB hbase hl ?_
  intro v1 w1 ho1 hb1 hg1 _
  obtain ⟨A', c', rfl⟩ := Kd.R_slice ho1
  exact hK _ _ (h A' c' w1 ho1 hb1 hg1)
end
/-- A store into the first cell of a point. -/
theorem set_PtX {e base g n cap : Nat} {ok : Nat → Prop} {W : World} {xs : List Pt} (h : kPt.R e W base ok (.slice (some ⟨g, 0, none⟩) n cap) xs) (i : Nat) (hi : i < n) (x : Int) :
    ∃ y, kPt.R e (W.setCell ⟨g, i * 2, none⟩ (.int .i64 x)) base ok (.slice (some ⟨g, 0, none⟩) n cap) (xs.set i (x, y)) ∧ W.grownBy (W.setCell ⟨g, i * 2, none⟩ (.int .i64 x)) (some g) := by
  obtain ⟨c, hl, hM, hc, hf⟩ := Kd.R_elem h (0, 0) (i : Int) (by omega) (by omega)
  have hl2 : c.length = 2 := hl
  obtain rfl := kPt_openM hM
  refine ⟨(xs.getD (i : Int).toNat (0, 0)).2, ?_⟩
  exact Kd.R_seg h (i : Int) (by omega) (by omega) (seg := [.int .i64 x]) (j := 0) hl hc (show 1 ≤ 2 by decide) (x' := (x, (xs.getD (i : Int).toNat (0, 0)).2)) (okp := fun k => ok k ∧ k ≠ g) (kPt_mkM _ _ _ (x, (xs.getD (i : Int).toNat (0, 0)).2)) (fun _ hk => hk)
def s_l1Bent_T7 : Bool × List (List Nat × List Nat) := (true, [([], []), ([0], [0]), ([], []), ([], []), ([], []), ([3, 4], [3, 4]), ([1, 2, 0, 1, 2, 3, 4, 5], [1, 2]), ([6, 0, 1, 2, 3, 4, 5], [6]), ([7, 5, 5, 0, 1, 2, 3, 4, 5], [5, 7])])
theorem s_l1Bent_t7 : rtab .any (opsOf Tryd.f42 7) = s_l1Bent_T7 := by kernel_rfl
def s_l1Bent_T9 : Bool × List (List Nat × List Nat) := (true, [([], []), ([0], [0]), ([], []), ([2], [2]), ([], []), ([4], [4]), ([5], [5]), ([6], [6]), ([3, 7], [3, 7]), ([8], [8]), ([9], [9]), ([1, 10], [1, 10]), ([0, 1, 2, 3, 4, 5, 6, 7, 8, 9, 10, 11], []), ([12, 11, 11, 0, 1, 2, 3, 4, 5, 6, 7, 8, 9, 10, 11], [11, 12])])
theorem s_l1Bent_t9 : rtab .any (opsOf Tryd.f42 9) = s_l1Bent_T9 := by kernel_rfl
set_option maxHeartbeats 8000000 in
theorem l1Bent_d (b N : Nat) (w0 w : World) (R : Rdr w0 w b N) (hN : N ≤ 900000) : Calls Tryd.prog 42 #[.pointer (some ⟨b, 0, none⟩)] w (DShape w0 w b (N + 10) 0) := by
  have hbw := R.lt
  go_enter Tryd.func42, Tryd.ntmps42
  go_wp2_with fail
  refine (l1Shape_d b N w0 _ (R.to bl) (by omega)).mono ?_
  rintro e w1 ⟨K, A, c, l, rfl, hr1, hl16, hl1, hK0, hK4, R1, hx1⟩
  have s1 := hx1.1.size
  simp only [World.size_alloc] at s1 hr1
  have T1 : B2 w1 w.heap.size 30 (.int .i64 0) (.slice none 0 0) := (B2.new w).ex hx1 (Or.inr (by omega))
  have hX1 : Ex b (b + 1) w w1 := (Ex.of bl (by omega)).trans hx1
  have hro : kPt.R 58 w1 w.heap.size (fun _ => True) (.slice A l.length c) l := Kd.R_lower (Kd.R_mono hr1 (fun _ _ => trivial)) (by omega)
  clear hx1 hr1
  have T2 := B2.new (u := .int .i64 K) (v := .slice A l.length c) (t := 30) w1
  obtain ⟨a0, a1, a2, a3, a4⟩ := T2.f
  go_wp2_with fail
  refine (pick_d b _ _ w0 _ (R1.to bl) (by omega)).mono ?_
  rintro e w2 ⟨kk, rfl, hk0, hk1, R2, hx2⟩
  obtain ⟨k, rfl⟩ : ∃ k : Nat, kk = k := ⟨kk.toNat, by omega⟩
  have hkl : k < l.length := by have := hk1 (by omega); omega
  clear hk0 hk1
  have U2 := T2.ex hx2 (Or.inr (by omega))
  have U1 := (T1.to (below_alloc (Below.refl _ _) _)).ex hx2 (Or.inr (by omega))
  have hr2 := R_ex (Kd.R_alloc hro _) hx2 (by omega)
  have hX2 := (hX1.to bl (by omega)).trans hx2
  clear hx2 a0 a1 a2 a3 a4 T2 T1 hro hX1 R1
  go_wp2_with fail
  refine (pick_d b _ _ w0 _ R2 (by omega)).mono ?_
  rintro e w3 ⟨v, rfl, hv0, hv1, R3, hx3⟩
  clear hv1
  have V2 := U2.ex hx3 (Or.inr (by omega))
  have V1 := U1.ex hx3 (Or.inr (by omega))
  have hr3 := R_ex hr2 hx3 (by omega)
  have hX3 := hX2.trans hx3
  clear hx3 U2 U1 hr2 hX2 R2
  have s3 := hX3.1.size
  obtain ⟨a0, a1, a2, a3, a4⟩ := V2.f
  obtain ⟨z0, z1, z2, z3, z4⟩ := V1.f
  rcases (show (v = 0) ∨ (v = 1) ∨ (v = 2) ∨ (v = 3) ∨ (4 ≤ v) by omega) with rfl | rfl | rfl | rfl | hv
  · go_wp2_with fail
    refine (num_d b w3.heap.size _ _ [0, 4, 1, 2, 3] w0 _ (R3.to bl) (by omega) (by omega) (litInts w3 _ [0, 4, 1, 2, 3] (by decide)) (by decide) (by decide)).mono ?_
    rintro e w4 ⟨K2, hK2, rfl, R4, hx4⟩
    have hK3 : 0 ≤ K2 ∧ K2 ≤ 4 := by simp only [List.mem_cons, List.mem_nil_iff, or_false] at hK2; omega
    clear hK2
    have X2 := (V2.to (below_alloc (Below.refl _ _) _)).ex hx4 (Or.inr (by omega))
    have X1 := (V1.to (below_alloc (Below.refl _ _) _)).ex hx4 (Or.inr (by omega))
    have hr4 := R_ex (Kd.R_alloc hr3 _) hx4 (by omega)
    have hX4 := (hX3.to bl (by omega)).trans hx4
    clear a0 a1 a2 a3 a4 z0 z1 z2 z3 z4
    have Y2 := X2.set0 (.int .i64 K2)
    have Y1 := X1.far (b' := w1.heap.size) (i := 0) (x := .int .i64 K2) (by simp; omega)
    obtain ⟨a0, a1, a2, a3, a4⟩ := X2.f
    obtain ⟨z0, z1, z2, z3, z4⟩ := X1.f
    obtain ⟨y0, y1, y2, y3, y4⟩ := Y2.f
    go_wp2
    have hr5 := Kd.R_set (Kd.R_set (Kd.R_set hr4 X2 (by decide) 0 (.int .i64 K2)) Y1 (by decide) 0 (.int .i64 K2)) (Y1.set0 (.int .i64 K2)) (by decide) 1 (.slice A l.length c)
    refine bodyPost_ret (v := .agg #[.int .i64 K2, .slice A l.length c]) (by simp [results, Tryd.results42, go_sem, *]) rfl ⟨K2, A, c, l, rfl, RI.of hr5, by omega, by omega, by omega, by omega, (((R4.set (by omega)).set hbw).set hbw).up (by omega), ((hX4.setN (by omega) (by omega)).setN (Nat.le_refl _) (by omega)).setN (Nat.le_refl _) (by omega)⟩
  · obtain ⟨g, cap, hv, hg1, hg2, _⟩ := Kd.R_form hr3 (by omega)
    injection hv with e1 e2 e3
    subst e1
    clear e2 e3
    go_wp2
    refine cgStart 9 [0, 1, 2, 3, 4, 5, 6, 7, 8] [8] [(⟨w1.heap.size, 1, none⟩, _)] s_l1Bent_t7 ⟨a1, trivial⟩ (fun HT HD => ?_)
    repeat ((with_reducible refine cgGate ?_); first | refine cgP HT ?_ | refine cgL HT ?_)
    refine cgE (w1 := w3.drew.alloc (.cells #[.int .i64 1000, .int .i64 1001, .int .i64 (-1001)] 3)) (v := .slice (some ⟨w3.heap.size, 0, none⟩) 3 3) HT (fun HD2 => ?_) (hrun := by first | (go_simp; done) | (go_simp; rfl)) (hS := HD.to bl)
    repeat ((with_reducible refine cgGate ?_); first | refine cgP HT ?_ | refine cgL HT ?_)
    refine cgCall HT Tryd.func68 (num_d b w3.heap.size _ _ [1000, 1001, -1001] w0 _ (R3.to bl) (by omega) (by omega) (litInts w3.drew _ [1000, 1001, -1001] (by decide)) (by decide) (by decide)) ?_
    rintro e w4 ⟨x, hx, rfl, R4, hx4⟩
    have X2 := ((V2.to (below_drew1 (Below.refl _ _))).to (below_alloc (Below.refl _ _) _)).ex hx4 (Or.inr (by omega))
    have X1 := ((V1.to (below_drew1 (Below.refl _ _))).to (below_alloc (Below.refl _ _) _)).ex hx4 (Or.inr (by omega))
    have hr4 := R_ex (Kd.R_alloc (Kd.R_drew hr3) _) hx4 (by omega)
    have hX4 := (hX3.to bl (by omega)).trans hx4
    refine ⟨_, rfl, ⟨X2.f.2.1, trivial⟩, cgN ?_⟩
    repeat ((with_reducible refine cgGate ?_); first | refine cgP HT ?_ | refine cgL HT ?_)
    obtain ⟨u, v, d0, d1, f0, f1⟩ := own_Pt' hr4 k hkl
    obtain ⟨y, hr5, hg5⟩ := set_PtX hr4 k hkl x
    refine cgLast HT ?_
    refine cgDone HT ?_
    clear HT HD HD2 a0 a1 a2 a3 a4 z0 z1 z2 z3 z4
    have n1 : (w1.heap.size == g) = false := by
      have := Kd.R_ne hr4 X2 (by decide)
      simp [Value.ownBlock] at this ⊢
      exact this
    have n2 : (w.heap.size == g) = false := by
      have := Kd.R_ne hr4 X1 (by decide)
      simp [Value.ownBlock] at this ⊢
      exact this
    have Y2 := X2.far (i := k * 2) (x := .int .i64 x) n1
    have Y1 := X1.far (i := k * 2) (x := .int .i64 x) n2
    obtain ⟨a0, a1, a2, a3, a4⟩ := Y2.f
    obtain ⟨z0, z1, z2, z3, z4⟩ := Y1.f
    go_wp2
    have hr6 := Kd.R_set (Kd.R_set hr5 Y1 (by decide) 0 (.int .i64 K)) (Y1.set0 (.int .i64 K)) (by decide) 1 (.slice (some ⟨g, 0, none⟩) l.length c)
    refine bodyPost_ret (v := .agg #[.int .i64 K, .slice (some ⟨g, 0, none⟩) l.length c]) (by simp [results, Tryd.results42, go_sem, *]) rfl ⟨K, _, c, l.set k (x, y), by rw [List.length_set], by rw [List.length_set]; exact RI.of hr6, by rw [List.length_set]; omega, by omega, by omega, by omega, (((R4.set (by omega)).set hbw).set hbw).up (by omega), ((hX4.setN (by omega) (by omega)).setN (Nat.le_refl _) (by omega)).setN (Nat.le_refl _) (by omega)⟩
  · have hj : l.length - 1 < l.length := by omega
    have hw : IntKind.i64.wrap ((l.length : Int) - 1) = ((l.length - 1 : Nat) : Int) := by rw [IntWalk.i64_in _ (by omega)]; omega
    obtain ⟨ad, rfl, d0, d1⟩ := at_Pt (Kd.R_reads' hr3).2.2 (l.length - 1) hj
    go_wp2
    refine cgStart 14 [0, 1, 2, 3, 4, 5, 6, 7, 8, 9, 10, 11, 12, 13] [11, 13] [(⟨w1.heap.size, 1, none⟩, _), (ad.add ((l.length - 1) * 2), _), (⟨(ad.add ((l.length - 1) * 2)).block, (ad.add ((l.length - 1) * 2)).off + 1, none⟩, _)] s_l1Bent_t9 ⟨a1, d0, d1, trivial⟩ (fun HT HD => ?_)
    repeat ((with_reducible refine cgGate ?_); first | refine cgP HT ?_ | refine cgL HT ?_)
    refine cgE (w1 := w3.drew.alloc (.cells #[.int .i64 l[l.length - 1].1, .int .i64 l[l.length - 1].2] 58)) (v := .slice (some ⟨w3.heap.size, 0, none⟩) 1 1) HT (fun HD2 => ?_) (hrun := by first | (go_simp; done) | (go_simp; rfl)) (hS := HD.to bl)
    have hr4 := Kd.R_alloc (Kd.R_drew hr3) (.cells #[.int .i64 l[l.length - 1].1, .int .i64 l[l.length - 1].2] 58)
    have X2 : B2 (w3.drew.alloc (.cells #[.int .i64 l[l.length - 1].1, .int .i64 l[l.length - 1].2] 58)) _ _ _ _ := V2.to bl
    have X1 : B2 (w3.drew.alloc (.cells #[.int .i64 l[l.length - 1].1, .int .i64 l[l.length - 1].2] 58)) _ _ _ _ := V1.to bl
    have R4 : Rdr w0 (w3.drew.alloc (.cells #[.int .i64 l[l.length - 1].1, .int .i64 l[l.length - 1].2] 58)) b _ := R3.to bl
    have hX4 : Ex b (b + 1) w (w3.drew.alloc (.cells #[.int .i64 l[l.length - 1].1, .int .i64 l[l.length - 1].2] 58)) := hX3.to bl (by omega)
    have f2 := Kd.R_ne hr4 X2 (by decide)
    have f1 := Kd.R_ne hr4 X1 (by decide)
    have fb : ∀ k, (Value.slice (some ad) l.length c).ownBlock = some k → w.heap.size ≤ k := fun k hk => Kd.R_base hr4 _ hk
    repeat ((with_reducible refine cgGate ?_); first | refine cgP HT ?_ | refine cgL HT ?_)
    refine cgAppL (w0 := w3.drew.alloc (.cells #[.int .i64 l[l.length - 1].1, .int .i64 l[l.length - 1].2] 58)) (base := w.heap.size) (.tmp 33) (.tmp 42) _ l [l[l.length - 1]] (some ⟨w3.heap.size, 0, none⟩) 1 1 HT hr4 (lit1 w3.drew l[l.length - 1]) (Below.refl _ _) hX4.1.size (by omega) ?_
    intro A' c' w5 ho5 hb5 hg5
    have Y2 := X2.grown hg5 f2
    have Y1 := X1.grown hg5 f1
    have R5 := R4.grown hg5 (fun k e => by have := fb k e; omega)
    have hX5 := hX4.grown hg5 fb (by omega)
    clear a0 a1 a2 a3 a4 z0 z1 z2 z3 z4
    obtain ⟨a0, a1, a2, a3, a4⟩ := Y2.f
    have hlen : (l ++ [l[l.length - 1]]).length = l.length + 1 := by simp
    rw [hlen] at ho5 ⊢
    refine cgN ?_
    repeat ((with_reducible refine cgGate ?_); first | refine cgP HT ?_ | refine cgL HT ?_)
    refine cgLast HT ?_
    refine cgDone HT ?_
    clear HT HD HD2 a0 a1 a2 a3 a4
    have Q2 := Y2.set1 (.slice A' (l.length + 1) c')
    have Q1 := Y1.far (b' := w1.heap.size) (i := 1) (x := .slice A' (l.length + 1) c') (by simp; omega)
    obtain ⟨a0, a1, a2, a3, a4⟩ := Q2.f
    obtain ⟨z0, z1, z2, z3, z4⟩ := Q1.f
    go_wp2
    have hr6 := Kd.R_set (Kd.R_set (Kd.R_set ho5 Y2 (by decide) 1 (.slice A' (l.length + 1) c')) Q1 (by decide) 0 (.int .i64 K)) (Q1.set0 (.int .i64 K)) (by decide) 1 (.slice A' (l.length + 1) c')
    refine bodyPost_ret (v := .agg #[.int .i64 K, .slice A' (l.length + 1) c']) (by simp [results, Tryd.results42, go_sem, *]) rfl ⟨K, A', c', l ++ [l[l.length - 1]], by rw [hlen], by rw [hlen]; exact RI.of hr6, by omega, by omega, by omega, by omega, (((R5.set (by omega)).set hbw).set hbw).up (by omega), ((hX5.setN (by omega) (by omega)).setN (Nat.le_refl _) (by omega)).setN (Nat.le_refl _) (by omega)⟩
  · have hle := (Kd.R_reads' hr3).2.1
    have ht : (l.take k).length = k := by rw [List.length_take]; omega
    have Ht := Lib.hid ht
    clear ht
    have Q2 := V2.set1 (.slice A k c)
    have Q1 := V1.far (b' := w1.heap.size) (i := 1) (x := .slice A k c) (by simp; omega)
    obtain ⟨b0, b1, b2, b3, b4⟩ := Q2.f
    obtain ⟨y0, y1, y2, y3, y4⟩ := Q1.f
    have hr4 := Kd.R_take hr3 (m := k) (by omega)
    go_wp2
    have hr6 := Kd.R_set (Kd.R_set (Kd.R_set hr4 V2 (by decide) 1 (.slice A k c)) Q1 (by decide) 0 (.int .i64 K)) (Q1.set0 (.int .i64 K)) (by decide) 1 (.slice A k c)
    refine bodyPost_ret (v := .agg #[.int .i64 K, .slice A k c]) (by simp [results, Tryd.results42, go_sem, *]) rfl ⟨K, A, c, l.take k, by rw [Ht.out], by rw [Ht.out]; exact RI.of hr6, by rw [Ht.out]; omega, by omega, by omega, by omega, (((R3.set (by omega)).set hbw).set hbw).up (by omega), ((hX3.setN (by omega) (by omega)).setN (Nat.le_refl _) (by omega)).setN (Nat.le_refl _) (by omega)⟩
  · have t0 : (v == 0) = false := beq_eq_false_iff_ne.mpr (by omega)
    have t1 : (v == 1) = false := beq_eq_false_iff_ne.mpr (by omega)
    have t2 : (v == 2) = false := beq_eq_false_iff_ne.mpr (by omega)
    have t3 : (v == 3) = false := beq_eq_false_iff_ne.mpr (by omega)
    go_wp2
    have hr5 := Kd.R_set (Kd.R_set hr3 V1 (by decide) 0 (.int .i64 K)) (V1.set0 (.int .i64 K)) (by decide) 1 (.slice A l.length c)
    refine bodyPost_ret (v := .agg #[.int .i64 K, .slice A l.length c]) (by simp [results, Tryd.results42, go_sem, *]) rfl ⟨K, A, c, l, rfl, RI.of hr5, by omega, by omega, by omega, by omega, ((R3.set hbw).set hbw).up (by omega), (hX3.setN (Nat.le_refl _) (by omega)).setN (Nat.le_refl _) (by omega)⟩
end Go.Proofs.YtfbhjknkofnohaaDoor
