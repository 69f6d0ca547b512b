/- Contracts: a map marked and held. -/
import Derived.Test.YtlebgjafaioajaaSh
namespace Go.Proofs.Ytlebgjafaioajaa
open Go.RowKit Go.Proofs.YtlebgjafaioajaaW.PrintWords Go.Proofs.YtlebgjafaioajaaW.PrintLast
set_option maxRecDepth 100000
set_option linter.unusedVariables false
set_option linter.unusedSimpArgs false
theorem Ex.at {a b : Nat} {w w' : World} (h : Ex a b w w') {k : Nat} (hk : k < w.heap.size) (ho : k < a ∨ b ≤ k) : w'.heap[k]? = w.heap[k]? := by
  rcases ho with ho | ho
  · exact h.1.block _ ho
  · exact h.2 _ ho hk
theorem set_set_raw (xs : List RawF) (j : Nat) (h : j < xs.length) (s : ByteArray) (z : Int) (h2 : j < (xs.set j (s, xs[j].2)).length) : (xs.set j (s, xs[j].2)).set j ((xs.set j (s, xs[j].2))[j].1, z, (xs.set j (s, xs[j].2))[j].2.2) = xs.set j (s, z, xs[j].2.2) := by
  rw [List.set_set, List.getElem_set_self]
set_option maxHeartbeats 8000000 in
theorem markFeatS_c (A : Option Addr) (c : Nat) (l : List FeatD) (k : Int) (lo hi : Nat) (w : World) (hs : Sep w lo hi (.slice A l.length c) l) (hz : Few l) (hk0 : 1 ≤ k) (hk1 : k + 2 * ((l.length + featsSz l : Nat) : Int) ≤ 1073741824) (hhi : hi ≤ w.heap.size) (hlo : lo ≤ hi) :
    Calls Try.prog 42 #[.slice A l.length c, .int .i64 k] w fun e w' => e = .returned (.int .i64 (mkks k l)) ∧ kFeat.C w' A l.length (markFs k l) ∧ Ex lo hi w w' := by
  have n1 := hz.1
  have hat := fun j => mkks_at k l j
  go_enter Try.func42, Try.ntmps42
  go_wp2
  go_loopw [1, 5] (fun q1 q5 wr => ∃ j : Nat, j ≤ l.length ∧ q5 = .int .i64 j ∧ q1 = .int .i64 (mkks k (l.take j)) ∧ Aside0 (Sep wr lo hi (.slice A l.length c) (midF k l j)) ∧ Aside0 (Ex lo hi w wr)) (fun _ q5 _ => l.length - (intOf q5).toNat)
  case atStart => exact ⟨0, by omega, rfl, rfl, ⟨by simpa [midF, markFs] using hs⟩, ⟨Ex.refl _ _ _⟩⟩
  case round =>
    clear hs
    obtain ⟨j, hj, rfl, rfl, ⟨xs, I, J, hS⟩, ⟨hx⟩⟩ := hrel
    by_cases hlt : j < l.length
    · have hjm : j < (midF k l j).length := by rw [midF_len _ _ _ hj]; exact hlt
      have hjx : j < xs.length := by rw [hS.len]; exact hjm
      obtain ⟨g, cap, hv, _, _, _⟩ := Kd.R_form hS.row (by omega)
      injection hv with e1 e2 e3
      subst e1
      clear e2 e3
      obtain ⟨hg1, hg3, hg2, _⟩ := hS.row.own1
      have hbd := hS.bnd j hjm
      have hgj := hbd.2.2.2 g rfl
      have hin := hS.inn j hjm hjx
      rw [midF_get k l j hlt hjm] at hin
      have hzj := hz.2 _ (List.getElem_mem hlt)
      have hst := midF_set k l j hlt
      have hmk := mkks_take k l j hlt
      have h1 := hat j
      have h2 := hat (j + 1)
      rw [hmk] at h2
      generalize hq : mkks k (l.take j) = q at *
      generalize hf : l[j] = f at *
      unfold mkk at h2 hmk
      have Hst := Lib.hid hst
      have Hmk := Lib.hid hmk
      have Hq := Lib.hid hq
      clear hst hmk hq hf hat
      have d1 : decide ((j : Int) < (l.length : Int)) = true := decide_eq_true (by omega)
      have hw0 : IntKind.i64.wrap ((j : Int) + 1) = (j : Int) + 1 := IntWalk.i64_in _ (by omega)
      have hw1 : IntKind.i64.wrap (q + 1) = q + 1 := IntWalk.i64_in _ (by omega)
      have hw2 : IntKind.i64.wrap (q + 1 + 1) = q + 2 := by rw [IntWalk.i64_in _ (by omega)]; omega
      have s1 := hx.1.size
      have hbj := hbd.1
      have hbj2 := hbd.2.1
      have hbj3 := hbd.2.2.1
      have hrow0 := hS.row
      obtain ⟨A1, c1, eu, hc1, hC1⟩ := hin.2.2.1.form
      obtain ⟨B1, d1', ev, hd1, hD1⟩ := hin.2.2.2.form
      have Hin := Lib.hid hin
      have HS := Lib.hid hS
      clear hS hin hbd
      go_wp2_with fail
      refine (markText_i q _ (by omega) (by omega)).mono ?_
      rintro e w2 ⟨rfl, hb2⟩
      have hr2 := hrow0.below hb2
      have hin2 := Hin.out.below hb2
      obtain ⟨c0, cc1, c2, c3, f0, f1, f2, f3⟩ := own_V hr2 j hjx
      have hr3 : RI kV 35 (w2.setCell ⟨g, j * 4, none⟩ (.string (mtext q.toNat))) lo hi (.slice (some ⟨g, 0, none⟩) l.length c) (xs.set j (mtext q.toNat, xs[j].2)) := set_V0 hr2 j hjx (mtext q.toNat)
      have hjx3 : j < (xs.set j (mtext q.toNat, xs[j].2)).length := by rw [List.length_set]; exact hjx
      obtain ⟨c4, c5, c6, c7, f4, f5, f6, f7⟩ := own_V hr3 j hjx3
      have hr4 : RI kV 35 ((w2.setCell ⟨g, j * 4, none⟩ (.string (mtext q.toNat))).setCell ⟨g, j * 4 + 1, none⟩ (.int .i64 (q + 1))) lo hi (.slice (some ⟨g, 0, none⟩) l.length c) (xs.set j (mtext q.toNat, q + 1, xs[j].2.2)) := by
        rw [← set_set_raw xs j hjx (mtext q.toNat) (q + 1) hjx3]
        exact set_V1 hr3 j hjx3 (q + 1)
      have hjx4 : j < (xs.set j (mtext q.toNat, q + 1, xs[j].2.2)).length := by rw [List.length_set]; exact hjx
      obtain ⟨c8, c9, c10, c11, _, _, _, _⟩ := own_V hr4 j hjx4
      rw [List.getElem_set_self] at c10 c11
      simp only [] at c10 c11
      rw [eu] at c10
      rw [ev] at c11
      have hin4 := (hin2.far (p := ⟨g, j * 4, none⟩) hgj (.string (mtext q.toNat))).far (p := ⟨g, j * 4 + 1, none⟩) hgj (.int .i64 (q + 1))
      have hPr := hin4.2.2.1
      have hTr := hin4.2.2.2
      rw [eu] at hPr
      rw [ev] at hTr
      obtain ⟨pa, pb, tp⟩ := tight_of (fun _ _ _ _ _ _ _ h => h) hPr hbj2
      obtain ⟨ta, tb, tt⟩ := tight_of (fun _ _ _ _ _ _ _ h => h) hTr hbj2
      have hap := tight_apart tp tt (by decide)
      obtain ⟨p1, p2, p3, p4, hPt, _⟩ := tp
      obtain ⟨t1, t2, t3, t4, hTt, _⟩ := tt
      have s2 := hb2.size
      have fr4 : ∀ k, k < wr.heap.size → k ≠ g → ((w2.setCell ⟨g, j * 4, none⟩ (.string (mtext q.toNat))).setCell ⟨g, j * 4 + 1, none⟩ (.int .i64 (q + 1))).heap[k]? = wr.heap[k]? := fun k h1 h2 => by
        rw [Below.heap_setCell _ _ _ _ h2, Below.heap_setCell _ _ _ _ h2]
        exact hb2.block k h1
      have hx4 : Ex lo hi w ((w2.setCell ⟨g, j * 4, none⟩ (.string (mtext q.toNat))).setCell ⟨g, j * 4 + 1, none⟩ (.int .i64 (q + 1))) := ((hx.to hb2 (by omega)).set hg1 hg3).set hg1 hg3
      have hrow4 := hr4.own1.2.2.2
      have hc4 := Lib.hid (And.intro hin2 (And.intro hin4 (And.intro hr2 (And.intro hr3 fr4))))
      have Eu := Lib.hid eu
      have Ev := Lib.hid ev
      clear hin2 hin4 hr2 hr3 hPr hTr fr4 hrow0 hx c2 c3 c6 c7 c8 c9 f2 f3 f6 f7 eu ev hC1 hD1 hc1 hd1
      go_wp2_with fail
      refine (markPtS_c A1 c1 f.2.1.2 (q + 2) pa pb _ hPt hzj.1 (by omega) (by omega)).mono ?_
      rintro e w5 ⟨rfl, m5, hx5⟩
      have hgp : g + 1 ≤ pa ∨ pb ≤ g := by omega
      have hgt : g + 1 ≤ ta ∨ tb ≤ g := by omega
      have hrow5 := hrow4.ex hx5 hgp
      obtain ⟨_, _, _, c12, _, _, _, _⟩ := own_V hrow5 j hjx4
      rw [List.getElem_set_self] at c12
      simp only [] at c12
      rw [Ev.out] at c12
      have s5 := hx5.1.size
      simp only [World.size_setCell] at s5
      have hTt5 := hTt.ex hx5 (by omega)
      clear c10 c11 c0 cc1 c4 c5 f0 f1 f4 f5 hPt hTt
      go_wp2_with fail
      refine (markTagS_c B1 d1' f.2.2 (q + 2 + 2 * (f.2.1.2.length : Int)) ta tb _ hTt5 hzj.2 (by omega) (by omega) (by omega) (by omega)).mono ?_
      rintro e w6 ⟨rfl, m6, hx6⟩
      have s6 := hx6.1.size
      have m5' := m5.ex hx6 (by omega)
      have hrow6 : RI kV 35 w6 lo hi (.slice (some ⟨g, 0, none⟩) l.length c) (xs.set j (mtext q.toNat, q + 1, xs[j].2.2)) := (hrow5.ex hx6 hgt).wide (by omega) (by omega)
      have hS6 : FSep w6 lo hi (.slice (some ⟨g, 0, none⟩) l.length c) (midF k l (j + 1)) (xs.set j (mtext q.toNat, q + 1, xs[j].2.2)) I J := by
        rw [← Hst.out]
        refine FSep.upd HS.out hjm (fun i h1 h2 h3 => ?_) hrow6 ⟨rfl, rfl, ?_, ?_⟩
        · refine (hx6.at (by omega) (by omega)).trans ((hx5.at (by simp; omega) (by omega)).trans (hc4.out.2.2.2.2 i h1 h2))
        · show RI kPt _ w6 (I j) (J j) xs[j].2.2.1 (markL (q + 2) f.2.1.2.length)
          rw [Eu.out]
          exact m5'.wide (by omega) (by omega)
        · show RI kTag _ w6 (I j) (J j) xs[j].2.2.2 (markT (q + 2 + 2 * (f.2.1.2.length : Int)) f.2.2.length)
          rw [Ev.out]
          exact m6.wide (by omega) (by omega)
      have hx7 : Ex lo hi w w6 := (hx4.trans (hx5.wide (by omega) (by omega))).trans (hx6.wide (by omega) (by omega))
      clear m5 m6 m5' hrow4 hrow5 hrow6 hx4 hx5 hx6 hTt5 c12
      go_wp2
      exact ⟨⟨j + 1, by omega, by go_num, by rw [Hmk.out], ⟨⟨_, I, J, hS6⟩⟩, ⟨hx7⟩⟩, by simp [intOf]; omega⟩
    · have d1 : decide ((j : Int) < (l.length : Int)) = false := decide_eq_false (by omega)
      obtain rfl : j = l.length := by omega
      have hm : midF k l l.length = markFs k l := by unfold midF; rw [List.take_length, List.drop_length, List.append_nil]
      rw [hm] at hS
      obtain ⟨e, _, hC⟩ := hS.C
      rw [markFs_len] at hC
      go_wp2
      go_ret
      exact ⟨ret_int (by rw [List.take_length]), hC, hx⟩
end Go.Proofs.Ytlebgjafaioajaa
