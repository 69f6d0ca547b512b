/- Contracts: what is drawn: a thing, one in ten bent. -/
import Derived.Test.YtgdgnlpohnpgiaaGreatDoorDw
namespace Go.Proofs.YtgdgnlpohnpgiaaGreatDoor
open Go.RowKit Go.Proofs.YtgdgnlpohnpgiaaGreatDoorW.PrintWords Go.Proofs.YtgdgnlpohnpgiaaGreatDoorW.PrintLast
set_option maxRecDepth 100000
set_option linter.unusedVariables false
set_option linter.unusedSimpArgs false
attribute [local go_sem] cell_set_far cell_set_off
def s_l2Bent_T10 : Bool × List (List Nat × List Nat) := (true, [([], []), ([0], [0]), ([], []), ([], []), ([2, 3], [2, 3]), ([4], [4]), ([5], [5]), ([1, 6, 4], [1, 6]), ([0, 1, 2, 3, 4, 5, 6, 7], []), ([8, 7, 7, 0, 1, 2, 3, 4, 5, 6, 7], [7, 8])])
theorem s_l2Bent_t10 : rtab .any (opsOf Tryz.f29 10) = s_l2Bent_T10 := by kernel_rfl
set_option maxHeartbeats 8000000 in
theorem l2Bent_d (b N : Nat) (w0 w : World) (R : Rdr w0 w b N) (hN : N ≤ 800000) : Calls Tryz.prog 29 #[.pointer (some ⟨b, 0, none⟩)] w (DFeat w0 w b (N + 200) 4) := by
  have hbw := R.lt
  go_enter Tryz.func29, Tryz.ntmps29
  go_wp2_with fail
  refine (l2Id_d b N w0 _ (R.to bl) (by omega)).mono ?_
  rintro e w1 ⟨i0, rfl, hi0, R1, hx1⟩
  have s1 := hx1.1.size
  simp only [World.size_alloc] at s1
  have T1 : B4 w1 w.heap.size 28 (.string ⟨#[]⟩) (.int .i64 0) (.slice none 0 0) (.slice none 0 0) := (B4.new w _ _ _ _ _).exb hx1 (Or.inr (by omega))
  have hX1 : Ex b (b + 1) w w1 := (Ex.of bl (by omega)).trans hx1
  go_wp2_with fail
  refine (l2Feat_d b (N + 1) i0 w0 _ R1 (by omega) hi0).mono ?_
  rintro e w2 ⟨f, A, c, B, d, rfl, hr2, ht2, hS, R2, hx2⟩
  have s2 := hx2.1.size
  have T12 := T1.exb hx2 (Or.inr (by omega))
  have hX2 := hX1.trans hx2
  clear hx1 hx2 hX1 T1 R1
  go_wp2_with fail
  refine (pick_d b _ _ w0 _ (R2.to bl) (by omega)).mono ?_
  rintro e w3 ⟨v, rfl, hv0, hv1, R3, hx3⟩
  clear hv1
  have s3 := hx3.1.size
  simp only [World.size_alloc] at s3
  obtain ⟨id, ⟨K, l⟩, m⟩ := f
  simp only [] at hr2 ht2 hS hx3 R3 hX2
  have sI := hS.id
  have sP := hS.pts
  have sT := hS.tags
  have sX := hS.txt
  simp only [] at sI sP sT sX
  have S : LF w0 w b (N + 102) id K A c l w.heap.size w2.heap.size B d m.length m w3 :=
    ⟨(B4.new w2 _ _ _ _ _).exb hx3 (Or.inr (by omega)), (T12.to (below_alloc (Below.refl _ _) _)).exb hx3 (Or.inr (by omega)), R_ex (Kd.R_alloc (hr2.up (by omega)) _) hx3 (by omega), R_ex (Kd.R_alloc (ht2.up (by omega)) _) hx3 (by omega), R3, (hX2.to bl (by omega)).trans hx3, sX, rfl⟩
  clear T12 hX2 hx3 R2 R3 hr2 ht2
  have sr := S.ex.1.size
  have rl := S.rdr.lt
  have rg := S.thing.lt
  have hne1 : (w.heap.size == w2.heap.size) = false := by simp; omega
  rcases (show (v = 0) ∨ (v = 1) ∨ (v = 2) ∨ (v = 3) ∨ (4 ≤ v) by omega) with rfl | rfl | rfl | rfl | hv
  · go_wp2_with fail
    refine (of_d b w3.heap.size _ _ [⟨#[]⟩, ⟨#[65]⟩, ⟨#[97, 98, 99, 100, 101, 102, 103]⟩] w0 _ (S.rdr.to bl) (by omega) (by omega) (litStrs w3 _ _ (by decide)) (by decide) (by decide)).mono ?_
    rintro e w4 ⟨i9, hi9, rfl, R4, hx4⟩
    have hi10 := (show ∀ v ∈ ([⟨#[]⟩, ⟨#[65]⟩, ⟨#[97, 98, 99, 100, 101, 102, 103]⟩] : List ByteArray), v.size ≤ 10 by decide) i9 hi9
    have s4 := hx4.1.size
    simp only [World.size_alloc] at s4
    have X2 := (S.thing.to (below_alloc (Below.refl _ _) _)).exb hx4 (Or.inr (by omega))
    have X1 := (S.res.to (below_alloc (Below.refl _ _) _)).exb hx4 (Or.inr (by omega))
    have S4 : LF w0 w b (N + 103) i9 K A c l w.heap.size w2.heap.size B d m.length m (w4.setCell ⟨w2.heap.size, 0, none⟩ (.string i9)) :=
      ⟨X2.set0 _, X1.far hne1, Kd.R_set (R_ex (Kd.R_alloc S.pts _) hx4 (by omega)) X2 (by decide) 0 _, Kd.R_set (R_ex (Kd.R_alloc S.tags _) hx4 (by omega)) X2 (by decide) 0 _, R4.set (by omega), ((S.ex.to bl (by omega)).trans hx4).setN (by omega) (by omega), sX, rfl⟩
    obtain ⟨b0, b1, b2, b3⟩ := X2.c
    obtain ⟨c0, c1, c2, c3⟩ := X2.z
    clear S X1
    have S := S4
    clear S4 X2
    obtain ⟨a0, a1, a2, a3⟩ := S.thing.c
    obtain ⟨y0, y1, y2, y3⟩ := S.res.c
    obtain ⟨z0, z1, z2, z3⟩ := S.res.z
    go_wp2
    refine bodyPost_ret (v := .agg #[.string i9, .int .i64 K, .slice A l.length c, .slice B m.length d]) (by simp [results, Tryz.results29, go_sem, *]) rfl ⟨(i9, (K, l), m), A, c, B, d, rfl, RI.of (S.res.R S.pts (by decide) _ _ _ _), RI.of (S.res.R S.tags (by decide) _ _ _ _), ⟨hi10, sP, Nat.le_succ_of_le sT, sX⟩, ((((S.rdr.set hbw).set hbw).set hbw).set hbw).up (by omega), (((S.ex.setN (Nat.le_refl _) (by omega)).setN (Nat.le_refl _) (by omega)).setN (Nat.le_refl _) (by omega)).setN (Nat.le_refl _) (by omega)⟩
  · go_wp2_with fail
    refine (l1Bent_d b _ w0 _ S.rdr (by omega)).mono ?_
    rintro e w4 ⟨K9, A9, c9, l9, rfl, hr9, hl9, _, _, _, R4, hx4⟩
    have s4 := hx4.1.size
    have X2 := S.thing.exb hx4 (Or.inr (by omega))
    have X1 := S.res.exb hx4 (Or.inr (by omega))
    have S4 : LF w0 w b (N + 162) id K9 A9 c9 l9 w.heap.size w2.heap.size B d m.length m ((w4.setCell ⟨w2.heap.size, 1, none⟩ (.int .i64 K9)).setCell ⟨w2.heap.size, 2, none⟩ (.slice A9 l9.length c9)) :=
      ⟨(X2.set1 _).set2 _, (X1.far hne1).far hne1, Kd.R_set (Kd.R_set (hr9.up (by omega)) X2 (by decide) 1 _) (X2.set1 _) (by decide) 2 _, Kd.R_set (Kd.R_set (R_ex S.tags hx4 (by omega)) X2 (by decide) 1 _) (X2.set1 _) (by decide) 2 _, (R4.set (by omega)).set (by omega), ((S.ex.trans hx4).setN (by omega) (by omega)).setN (by omega) (by omega), sX, rfl⟩
    obtain ⟨b0, b1, b2, b3⟩ := X2.c
    obtain ⟨c0, c1, c2, c3⟩ := X2.z
    clear S X1
    have S := S4
    clear S4 X2
    obtain ⟨a0, a1, a2, a3⟩ := S.thing.c
    obtain ⟨y0, y1, y2, y3⟩ := S.res.c
    obtain ⟨z0, z1, z2, z3⟩ := S.res.z
    go_wp2
    refine bodyPost_ret (v := .agg #[.string id, .int .i64 K9, .slice A9 l9.length c9, .slice B m.length d]) (by simp [results, Tryz.results29, go_sem, *]) rfl ⟨(id, (K9, l9), m), A9, c9, B, d, rfl, RI.of (S.res.R S.pts (by decide) _ _ _ _), RI.of (S.res.R S.tags (by decide) _ _ _ _), ⟨sI, by simp only []; omega, Nat.le_succ_of_le sT, sX⟩, ((((S.rdr.set hbw).set hbw).set hbw).set hbw).up (by omega), (((S.ex.setN (Nat.le_refl _) (by omega)).setN (Nat.le_refl _) (by omega)).setN (Nat.le_refl _) (by omega)).setN (Nat.le_refl _) (by omega)⟩
  · obtain ⟨b0, b1, b2, b3⟩ := S.thing.c
    obtain ⟨c0, c1, c2, c3⟩ := S.thing.z
    go_wp2_with (at_builtin; refine appOne (d := kTag) (w0 := w3) (base := w.heap.size) 26 54 z0Tag 32 Tryz.underlying26 info_Tag rfl (by decide) (by omega) (.tmp 24) (.tmp 26) _ m ((⟨#[97]⟩, ⟨#[98]⟩) : Tag) [.string ⟨#[97]⟩, .string ⟨#[98]⟩] (kTag_mkM _ _ _ ((⟨#[97]⟩, ⟨#[98]⟩) : Tag)) S.tags (Below.refl _ _) sr (by omega) ?_; intro B9 d9 w4 ho4 hb4 hg4; replace ho4 := (show kTag.R 54 w4 w.heap.size (fun _ => True) (.slice B9 (m.length + 1) d9) (m ++ [((⟨#[97]⟩, ⟨#[98]⟩) : Tag)]) by have h_ := ho4; rwa [List.length_append] at h_); have X2 := S.thing.grown hg4 (Kd.R_ne S.tags S.thing (by decide)); have X1 := S.res.grown hg4 (Kd.R_ne S.tags S.res (by decide)); clear b0 b1 b2 b3 c0 c1 c2 c3; obtain ⟨b0, b1, b2, b3⟩ := X2.c; obtain ⟨c0, c1, c2, c3⟩ := X2.z; have hbs := (fun k hk => Kd.R_base S.tags k hk); have Hlen := Lib.hid (show (m ++ [((⟨#[97]⟩, ⟨#[98]⟩) : Tag)]).length = m.length + 1 by simp); have S4 : LF w0 w b (N + 102) id K A c l w.heap.size w2.heap.size B9 d9 (m.length + 1) (m ++ [((⟨#[97]⟩, ⟨#[98]⟩) : Tag)]) (w4.setCell ⟨w2.heap.size, 3, none⟩ (.slice B9 (m.length + 1) d9)) := ⟨X2.set3 _, X1.far hne1, Kd.R_set (R_grownT S.pts S.tags (by decide) hg4) X2 (by decide) 3 _, Kd.R_set ho4 X2 (by decide) 3 _, (S.rdr.grown hg4 (fun k e => by have := hbs k e; omega)).set (by omega), (S.ex.grown hg4 hbs (by omega)).setN (by omega) (by omega), (fun t ht => (List.mem_append.1 ht).elim (sX t) (fun h => by rw [List.mem_singleton.1 h]; exact ⟨by decide, by decide⟩)), Hlen.out.symm⟩; clear S X1; have S := S4; clear S4; obtain ⟨a0, a1, a2, a3⟩ := S.thing.c; obtain ⟨y0, y1, y2, y3⟩ := S.res.c; obtain ⟨z0, z1, z2, z3⟩ := S.res.z)
    refine bodyPost_ret (v := .agg #[.string id, .int .i64 K, .slice A l.length c, .slice B9 (m.length + 1) d9]) (by simp [results, Tryz.results29, go_sem, *]) rfl ⟨(id, (K, l), m ++ [((⟨#[97]⟩, ⟨#[98]⟩) : Tag)]), A, c, B9, d9, by simp only [featV, Hlen.out], RI.of (S.res.R S.pts (by decide) _ _ _ _), by rw [Hlen.out]; exact RI.of (S.res.R S.tags (by decide) _ _ _ _), ⟨sI, sP, by simp only [Hlen.out]; omega, S.txt⟩, ((((S.rdr.set hbw).set hbw).set hbw).set hbw).up (by omega), (((S.ex.setN (Nat.le_refl _) (by omega)).setN (Nat.le_refl _) (by omega)).setN (Nat.le_refl _) (by omega)).setN (Nat.le_refl _) (by omega)⟩
  · obtain ⟨b0, b1, b2, b3⟩ := S.thing.c
    go_wp2
    refine cgStart 10 [0, 1, 2, 3, 4, 5, 6, 7, 8, 9] [9] [(⟨w2.heap.size, 3, none⟩, _)] s_l2Bent_t10 ⟨b3, trivial⟩ (fun HT HD => ?_)
    repeat ((with_reducible refine cgGate ?_); first | refine cgP HT ?_ | refine cgL HT ?_ | refine cgG HT ?_)
    refine cgE (w1 := w3.drew.alloc (.cells #[.string ⟨#[]⟩, .string ⟨#[66]⟩] 9)) (v := .slice (some ⟨w3.heap.size, 0, none⟩) 2 2) HT (fun HD2 => ?_) (hrun := by first | (go_simp; done) | (go_simp; rfl)) (hS := HD.to bl)
    repeat ((with_reducible refine cgGate ?_); first | refine cgP HT ?_ | refine cgL HT ?_ | refine cgG HT ?_)
    refine cgCall HT Tryz.func45 (of_d b w3.heap.size _ _ [⟨#[]⟩, ⟨#[66]⟩] w0 _ (S.rdr.to bl) (by omega) (by omega) (litStrs w3.drew _ _ (by decide)) (by decide) (by decide)) ?_
    rintro e w4 ⟨vv, hvv, rfl, R4, hx4⟩
    have hv10 := (show ∀ v ∈ ([⟨#[]⟩, ⟨#[66]⟩] : List ByteArray), v.size ≤ 10 by decide) vv hvv
    have s4 := hx4.1.size
    simp only [World.size_alloc, World.size_drew] at s4
    have b34 : Below w3.heap.size w3 (w3.drew.alloc (.cells #[.string ⟨#[]⟩, .string ⟨#[66]⟩] 9)) := bl
    have S4 : LF w0 w b (N + 103) id K A c l w.heap.size w2.heap.size B d m.length m w4 :=
      ⟨(S.thing.to b34).exb hx4 (Or.inr (by omega)), (S.res.to b34).exb hx4 (Or.inr (by omega)), R_ex (Kd.R_below S.pts b34) hx4 (by omega), R_ex (Kd.R_below S.tags b34) hx4 (by omega), R4, (S.ex.to b34 (by omega)).trans hx4, sX, rfl⟩
    refine ⟨_, rfl, ⟨S4.thing.c.2.2.2, trivial⟩, cgN ?_⟩
    repeat ((with_reducible refine cgGate ?_); first | refine cgP HT ?_ | refine cgL HT ?_ | refine cgG HT ?_)
    refine cgE (w1 := w4.alloc (.cells #[.string ⟨#[122, 122]⟩, .string vv] 54)) (v := .slice (some ⟨w4.heap.size, 0, none⟩) 1 1) HT (fun HD3 => ?_) (hrun := by first | (go_simp; done) | (go_simp; rfl)) (hS := ⟨pw_cell_below (below_alloc (Below.refl _ _) _) S4.thing.c.2.2.2, trivial⟩)
    have b45 : Below w4.heap.size w4 (w4.alloc (.cells #[.string ⟨#[122, 122]⟩, .string vv] 54)) := below_alloc (Below.refl _ _) _
    have S5 : LF w0 w b (N + 103) id K A c l w.heap.size w2.heap.size B d m.length m (w4.alloc (.cells #[.string ⟨#[122, 122]⟩, .string vv] 54)) :=
      ⟨S4.thing.to b45, S4.res.to b45, Kd.R_below S4.pts b45, Kd.R_below S4.tags b45, S4.rdr.to b45, S4.ex.to b45 (by omega), sX, rfl⟩
    have hbs := fun k hk => Kd.R_base S5.tags k hk
    have Hlen := Lib.hid (show (m ++ [((⟨#[122, 122]⟩, vv) : Tag)]).length = m.length + 1 by simp)
    refine cgAppG (d := kTag) (w0 := (w4.alloc (.cells #[.string ⟨#[122, 122]⟩, .string vv] 54))) (base := w.heap.size) 26 54 (.agg #[(.string ByteArray.empty), (.string ByteArray.empty)]) 32 Tryz.underlying26 info_Tag rfl (by decide) (by omega) (fun _ _ h => h) (.tmp 32) (.tmp 37) _ m [((⟨#[122, 122]⟩, vv) : Tag)] (some ⟨w4.heap.size, 0, none⟩) 1 1 HT HD3 S5.tags (litT1 w4 ((⟨#[122, 122]⟩, vv) : Tag)) (Below.refl _ _) S5.ex.1.size (by omega) (fun x hx e_ => by
      simp only [List.mem_cons, List.mem_nil_iff, or_false] at hx
      subst hx
      exact Kd.R_ne S5.tags S5.thing (by decide) e_) ?_
    intro B9 d9 w6 ho6 hb6 HD6 hg6
    rw [Hlen.out] at ho6 ⊢
    refine cgN ?_
    have X2 := S5.thing.grown hg6 (Kd.R_ne S5.tags S5.thing (by decide))
    have X1 := S5.res.grown hg6 (Kd.R_ne S5.tags S5.res (by decide))
    have S7 : LF w0 w b (N + 103) id K A c l w.heap.size w2.heap.size B9 d9 (m.length + 1) (m ++ [((⟨#[122, 122]⟩, vv) : Tag)]) (w6.setCell ⟨w2.heap.size, 3, none⟩ (.slice B9 (m.length + 1) d9)) :=
      ⟨X2.set3 _, X1.far hne1, Kd.R_set (R_grownT S5.pts S5.tags (by decide) hg6) X2 (by decide) 3 _, Kd.R_set ho6 X2 (by decide) 3 _, (S5.rdr.grown hg6 (fun k e => by have := hbs k e; omega)).set (by omega), (S5.ex.grown hg6 hbs (by omega)).setN (by omega) (by omega), (fun t ht => (List.mem_append.1 ht).elim (sX t) (fun h => by rw [List.mem_singleton.1 h]; exact ⟨show (⟨#[122, 122]⟩ : ByteArray).size ≤ 10 by decide, hv10⟩)), Hlen.out.symm⟩
    clear b0 b1 b2 b3
    obtain ⟨b0, b1, b2, b3⟩ := X2.c
    obtain ⟨c0, c1, c2, c3⟩ := X2.z
    repeat ((with_reducible refine cgGate ?_); first | refine cgP HT ?_ | refine cgL HT ?_ | refine cgG HT ?_)
    refine cgLast HT ?_
    refine cgDone HT ?_
    clear HT HD HD2 HD3 HD6 S S4 S5 X1
    have S := S7
    clear S7
    obtain ⟨a0, a1, a2, a3⟩ := S.thing.c
    obtain ⟨y0, y1, y2, y3⟩ := S.res.c
    obtain ⟨z0, z1, z2, z3⟩ := S.res.z
    go_wp2
    refine bodyPost_ret (v := .agg #[.string id, .int .i64 K, .slice A l.length c, .slice B9 (m.length + 1) d9]) (by simp [results, Tryz.results29, go_sem, *]) rfl ⟨(id, (K, l), m ++ [((⟨#[122, 122]⟩, vv) : Tag)]), A, c, B9, d9, by simp only [featV, Hlen.out], RI.of (S.res.R S.pts (by decide) _ _ _ _), by rw [Hlen.out]; exact RI.of (S.res.R S.tags (by decide) _ _ _ _), ⟨sI, sP, by simp only [Hlen.out]; omega, S.txt⟩, ((((S.rdr.set hbw).set hbw).set hbw).set hbw).up (by omega), (((S.ex.setN (Nat.le_refl _) (by omega)).setN (Nat.le_refl _) (by omega)).setN (Nat.le_refl _) (by omega)).setN (Nat.le_refl _) (by omega)⟩
  · have t0 : (v == 0) = false := beq_eq_false_iff_ne.mpr (by omega)
    have t1 : (v == 1) = false := beq_eq_false_iff_ne.mpr (by omega)
    have t2 : (v == 2) = false := beq_eq_false_iff_ne.mpr (by omega)
    have t3 : (v == 3) = false := beq_eq_false_iff_ne.mpr (by omega)
    obtain ⟨a0, a1, a2, a3⟩ := S.thing.c
    obtain ⟨y0, y1, y2, y3⟩ := S.res.c
    obtain ⟨z0, z1, z2, z3⟩ := S.res.z
    go_wp2
    refine bodyPost_ret (v := .agg #[.string id, .int .i64 K, .slice A l.length c, .slice B m.length d]) (by simp [results, Tryz.results29, go_sem, *]) rfl ⟨(id, (K, l), m), A, c, B, d, rfl, RI.of (S.res.R S.pts (by decide) _ _ _ _), RI.of (S.res.R S.tags (by decide) _ _ _ _), ⟨sI, sP, Nat.le_succ_of_le sT, sX⟩, ((((S.rdr.set hbw).set hbw).set hbw).set hbw).up (by omega), (((S.ex.setN (Nat.le_refl _) (by omega)).setN (Nat.le_refl _) (by omega)).setN (Nat.le_refl _) (by omega)).setN (Nat.le_refl _) (by omega)⟩
end Go.Proofs.YtgdgnlpohnpgiaaGreatDoor
