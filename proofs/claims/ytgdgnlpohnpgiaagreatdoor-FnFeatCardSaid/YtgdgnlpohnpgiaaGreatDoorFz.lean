/- Contracts: a drawn thing and its keys: those that are words stand ahead of zz. -/
import Derived.Test.YtgdgnlpohnpgiaaGreatDoorEa
import Derived.Test.YtgdgnlpohnpgiaaGreatDoorSu
namespace Go.Proofs.YtgdgnlpohnpgiaaGreatDoor
open Go.RowKit Go.Proofs.YtgdgnlpohnpgiaaGreatDoorW.PrintWords Go.Proofs.YtgdgnlpohnpgiaaGreatDoorW.PrintLast
set_option maxRecDepth 100000
set_option linter.unusedVariables false
set_option linter.unusedSimpArgs false
attribute [local go_sem] cell_set_far cell_set_off
/-- A drawn tag: small, and ahead of zz if its value is a word. -/
def TgZ (t : Tag) : Prop := (t.1.size ≤ 10 ∧ t.2.size ≤ 10) ∧ (WordOk t.2 → ltS t.1 ⟨#[122, 122]⟩ = true)
theorem toList_bts (s : ByteArray) : s.toList = bts s := ByteArray.toList_eq s
theorem ltS_lit {a : ByteArray} (h : Op.bytesLess (bts a) [122, 122] = true) : ltS a ⟨#[122, 122]⟩ = true := by
  unfold ltS
  rw [toList_bts, toList_bts]
  exact h
theorem noWord_nil : ¬ WordOk ⟨#[]⟩ := fun h => absurd h.1.1 (by decide)
theorem noWord_B : ¬ WordOk ⟨#[66]⟩ := fun h => by
  have := word_no h (c := 66) (by decide)
  revert this; decide
/-- A drawn text. -/
def DStrZ (w0 w : World) (b N : Nat) (e : Ending) (w' : World) : Prop := ∃ s : ByteArray, e = .returned (.string s) ∧ (s.size ≤ 10 ∧ ltS s ⟨#[122, 122]⟩ = true) ∧ Rdr w0 w' b (N + 1) ∧ Ex b (b + 1) w w'
theorem l2Key_z (b N : Nat) (w0 w : World) (R : Rdr w0 w b N) (hN : N ≤ 1073741824) : Calls Tryz.prog 81 #[.pointer (some ⟨b, 0, none⟩)] w (DStrZ w0 w b N) := by
  have hbw := R.lt
  go_enter Tryz.func81, Tryz.ntmps81
  go_wp2_with fail
  refine (of_d b w.heap.size _ _ [⟨#[110, 97, 109, 101]⟩, ⟨#[107, 105, 110, 100]⟩, ⟨#[117, 115, 101]⟩, ⟨#[116, 111, 110, 101]⟩] w0 _ (R.to bl) (by omega) hbw (litStrs w _ _ (by decide)) (by decide) (by decide)).mono ?_
  rintro e w1 ⟨v, hv, rfl, R1, hx1⟩
  go_wp2
  go_ret
  exact ⟨v, rfl, (by
    simp only [List.mem_cons, List.mem_nil_iff, or_false] at hv
    rcases hv with rfl | rfl | rfl | rfl <;> exact ⟨by decide, ltS_lit (by decide)⟩), R1, (Ex.of bl (by omega)).trans hx1⟩
/-- A small thing. -/
structure FSz (n : Nat) (f : FeatD) : Prop where
  id : f.1.size ≤ 10
  pts : f.2.1.2.length ≤ 16
  tags : f.2.2.length ≤ n
  txt : ∀ t ∈ f.2.2, TgZ t
theorem FSz.ftx {n : Nat} {f : FeatD} (h : FSz n f) (hn : n ≤ 100) : FTx f := ⟨by have := h.id; omega, by have := h.pts; omega, by have := h.tags; omega, fun t ht => by have := (h.txt t ht).1; omega⟩
/-- A drawn thing: its rows lie in new memory. -/
def DFeatZ (w0 w : World) (b N n : Nat) (e : Ending) (w' : World) : Prop := ∃ (f : FeatD) (A : Option Addr) (c : Nat) (B : Option Addr) (d : Nat), e = .returned (featV f A c B d) ∧ RI kPt 84 w' w.heap.size w'.heap.size (.slice A f.2.1.2.length c) f.2.1.2 ∧ RI kTag 54 w' w.heap.size w'.heap.size (.slice B f.2.2.length d) f.2.2 ∧ FSz n f ∧ Rdr w0 w' b N ∧ Ex b (b + 1) w w'
/-- What the loop of l2Feat keeps: block g1 is the result's, block g2 the thing's. -/
structure LFz (w0 w : World) (b M : Nat) (id : ByteArray) (K : Int) (A : Option Addr) (c : Nat) (l : List Pt) (g1 g2 : Nat) (B : Option Addr) (d n : Nat) (m : List Tag) (wr : World) : Prop where
  thing : B4 wr g2 28 (.string id) (.int .i64 K) (.slice A l.length c) (.slice B n d)
  res : B4 wr g1 28 (.string ⟨#[]⟩) (.int .i64 0) (.slice none 0 0) (.slice none 0 0)
  pts : kPt.R 84 wr w.heap.size (fun _ => True) (.slice A l.length c) l
  tags : kTag.R 54 wr w.heap.size (fun _ => True) (.slice B n d) m
  rdr : Rdr w0 wr b M
  ex : Ex b (b + 1) w wr
  txt : ∀ t ∈ m, TgZ t
  len : n = m.length
set_option maxHeartbeats 4000000 in
theorem l2Feat_z (b N : Nat) (id : ByteArray) (w0 w : World) (R : Rdr w0 w b N) (hN : N ≤ 900000) (hid : id.size ≤ 10) : Calls Tryz.prog 57 #[.pointer (some ⟨b, 0, none⟩), .string id] w (DFeatZ w0 w b (N + 100) 3) := by
  have hbw := R.lt
  go_enter Tryz.func57, Tryz.ntmps57
  go_wp2_with fail
  refine (l1Shape_d b N w0 _ (R.to bl) (by omega)).mono ?_
  rintro e w1 ⟨K, A, c, l, rfl, hr1, hl16, hl1, hK0, hK4, R1, hx1⟩
  have s1 := hx1.1.size
  simp only [World.size_alloc] at s1 hr1
  have T1 : B4 w1 w.heap.size 28 (.string ⟨#[]⟩) (.int .i64 0) (.slice none 0 0) (.slice none 0 0) := (B4.new w _ _ _ _ _).exb hx1 (Or.inr (by omega))
  have hX1 : Ex b (b + 1) w w1 := (Ex.of bl (by omega)).trans hx1
  clear hx1
  go_wp2_with fail
  refine (pick_d b _ _ w0 _ (R1.to bl) (by omega)).mono ?_
  rintro e w2 ⟨v, rfl, hv0, hv1, R2, hx2⟩
  have hv4 := hv1 (by decide)
  clear hv1
  have s2 := hx2.1.size
  simp only [World.size_alloc] at s2
  obtain ⟨n, rfl⟩ : ∃ n : Nat, v = n := ⟨v.toNat, by omega⟩
  have hstart : LFz w0 w b (N + 51) id K A c l w.heap.size w1.heap.size none 0 0 [] w2 :=
    ⟨(B4.new w1 _ _ _ _ _).exb hx2 (Or.inr (by omega)), (T1.to (below_alloc (Below.refl _ _) _)).exb hx2 (Or.inr (by omega)), R_ex (Kd.R_alloc (hr1.up (by omega)) _) hx2 (by omega), Kd.R_nil _ _ _ _ _, R2, (hX1.to bl (by omega)).trans hx2, fun t ht => by simp at ht, rfl⟩
  clear T1 hX1 hx2 R1 R2 hr1
  go_wp2
  go_loopw [6] (fun q wr => ∃ (i : Nat) (B : Option Addr) (d : Nat) (m : List Tag), i ≤ 3 ∧ q = .int .i64 i ∧ m.length + i ≤ 3 ∧ Aside0 (LFz w0 w b (N + 51 + 2 * (3 - i)) id K A c l w.heap.size w1.heap.size B d m.length m wr)) (fun q _ => (intOf q).toNat)
  case atStart => exact ⟨n, none, 0, [], by omega, rfl, by simp; omega, ⟨⟨hstart.thing, hstart.res, hstart.pts, hstart.tags, hstart.rdr.up (by omega), hstart.ex, hstart.txt, rfl⟩⟩⟩
  case round =>
    clear hstart
    obtain ⟨i, B, d, m, hi3, rfl, hmi, ⟨hL⟩⟩ := hrel
    have sr := hL.ex.1.size
    have rl := hL.rdr.lt
    have rg := hL.thing.lt
    by_cases hi : 0 < i
    · have d1 : decide ((0 : Int) < (i : Int)) = true := decide_eq_true (by omega)
      obtain ⟨j, hj⟩ : ∃ j, j + 1 = i := ⟨i - 1, by omega⟩
      have hw : IntKind.i64.wrap ((i : Int) - 1) = (j : Int) := by rw [IntWalk.i64_in _ (by omega)]; omega
      obtain ⟨a0, a1, a2, a3⟩ := hL.thing.c
      go_wp2
      refine cgStart 9 [0, 1, 2, 4, 3, 5, 6, 7, 8] [8] [(⟨w1.heap.size, 3, none⟩, _)] s_l2Feat_t5 ⟨a3, trivial⟩ (fun HT HD => ?_)
      repeat ((with_reducible refine cgGate ?_); first | refine cgP HT ?_ | refine cgL HT ?_ | refine cgG HT ?_)
      refine cgCall HT Tryz.func81 (l2Key_z b _ w0 _ (hL.rdr.to bl) (by omega)) ?_
      rintro e w3 ⟨kk, rfl, hkk, R3, hx3⟩
      have s3 := hx3.1.size
      simp only [World.size_drew] at s3
      have L3 : LFz w0 w b (N + 51 + 2 * (3 - i) + 1) id K A c l w.heap.size w1.heap.size B d m.length m w3 :=
        ⟨(hL.thing.to (below_drew1 (Below.refl _ _))).exb hx3 (Or.inr (by omega)), (hL.res.to (below_drew1 (Below.refl _ _))).exb hx3 (Or.inr (by omega)), R_ex (Kd.R_drew hL.pts) hx3 (by omega), R_ex (Kd.R_drew hL.tags) hx3 (by omega), R3, (hL.ex.to bl (by omega)).trans hx3, hL.txt, rfl⟩
      refine ⟨_, rfl, ⟨L3.thing.c.2.2.2, trivial⟩, cgN ?_⟩
      repeat ((with_reducible refine cgGate ?_); first | refine cgP HT ?_ | refine cgL HT ?_ | refine cgG HT ?_)
      refine cgCall HT Tryz.func82 (l2Val_d b _ w0 _ R3 (by omega)) ?_
      rintro e w4 ⟨vv, rfl, hvv, R4, hx4⟩
      have s4 := hx4.1.size
      have L4 : LFz w0 w b (N + 51 + 2 * (3 - i) + 1 + 1) id K A c l w.heap.size w1.heap.size B d m.length m w4 :=
        ⟨L3.thing.exb hx4 (Or.inr (by omega)), L3.res.exb hx4 (Or.inr (by omega)), R_ex L3.pts hx4 (by omega), R_ex L3.tags hx4 (by omega), R4, L3.ex.trans hx4, hL.txt, rfl⟩
      refine ⟨_, rfl, ⟨L4.thing.c.2.2.2, trivial⟩, cgN ?_⟩
      repeat ((with_reducible refine cgGate ?_); first | refine cgP HT ?_ | refine cgL HT ?_ | refine cgG HT ?_)
      refine cgCall HT Tryz.func80 (l2Put_c B d m kk vv _ (Kd.R_reads' L4.tags).2.2 (by omega)) ?_
      rintro e w5 ⟨B5, d5, rfl, ht5, hb5⟩
      have s5 := hb5.size
      have T5 := L4.thing.to hb5
      refine ⟨_, rfl, ⟨T5.c.2.2.2, trivial⟩, cgN ?_⟩
      obtain ⟨z0, z1, z2, z3⟩ := T5.z
      obtain ⟨y0, y1, y2, y3⟩ := T5.c
      repeat ((with_reducible refine cgGate ?_); first | refine cgP HT ?_ | refine cgL HT ?_ | refine cgG HT ?_)
      refine cgLast HT ?_
      refine cgDone HT ?_
      clear HT HD
      have hpl := putK_le m (kk, vv)
      have hne1 : (w.heap.size == w1.heap.size) = false := by simp; omega
      have L6 : LFz w0 w b (N + 51 + 2 * (3 - j)) id K A c l w.heap.size w1.heap.size B5 d5 (putK m (kk, vv)).length (putK m (kk, vv)) (w5.setCell ⟨w1.heap.size, 3, none⟩ (.slice B5 (putK m (kk, vv)).length d5)) :=
        ⟨T5.set3 _, (L4.res.to hb5).far hne1, Kd.R_set (Kd.R_below L4.pts hb5) T5 (by decide) 3 _, Kd.R_set (ht5.up (by omega)) T5 (by decide) 3 _, ((R4.to hb5).set (by omega)).up (by omega), (L4.ex.to hb5 (by omega)).setN (by omega) (by omega), fun t ht => by
          rcases putK_mem ht with rfl | ht
          · exact ⟨⟨hkk.1, hvv⟩, fun _ => hkk.2⟩
          · exact hL.txt t ht, rfl⟩
      have HL6 := Lib.hid L6
      have Hpl := Lib.hid hpl
      clear L6 hpl L3 L4 T5 a0 a1 a2 a3 z0 z1 z2 z3 y0 y1 y2 y3 ht5 hL
      go_wp2
      exact ⟨⟨j, B5, d5, putK m (kk, vv), by omega, rfl, by have := Hpl.out; omega, ⟨HL6.out⟩⟩, by simp [intOf]; omega⟩
    · have d1 : decide ((0 : Int) < (i : Int)) = false := decide_eq_false (by omega)
      obtain ⟨a0, a1, a2, a3⟩ := hL.thing.c
      obtain ⟨y0, y1, y2, y3⟩ := hL.res.c
      obtain ⟨z0, z1, z2, z3⟩ := hL.res.z
      go_wp2
      refine bodyPost_ret (v := .agg #[.string id, .int .i64 K, .slice A l.length c, .slice B m.length d]) (by simp [results, Tryz.results57, go_sem, *]) rfl ⟨(id, (K, l), m), A, c, B, d, rfl, RI.of (hL.res.R hL.pts (by decide) _ _ _ _), RI.of (hL.res.R hL.tags (by decide) _ _ _ _), ⟨hid, by simp only []; omega, by simp only []; omega, hL.txt⟩, ((((hL.rdr.set hbw).set hbw).set hbw).set hbw).up (by omega), (((hL.ex.setN (Nat.le_refl _) (by omega)).setN (Nat.le_refl _) (by omega)).setN (Nat.le_refl _) (by omega)).setN (Nat.le_refl _) (by omega)⟩
set_option maxHeartbeats 8000000 in
theorem l2Bent_z (b N : Nat) (w0 w : World) (R : Rdr w0 w b N) (hN : N ≤ 800000) : Calls Tryz.prog 29 #[.pointer (some ⟨b, 0, none⟩)] w (DFeatZ w0 w b (N + 200) 4) := by
  have hbw := R.lt
  go_enter Tryz.func29, Tryz.ntmps29
  go_wp2_with fail
  refine (l2Id_d b N w0 _ (R.to bl) (by omega)).mono ?_
  rintro e w1 ⟨i0, rfl, hi0, R1, hx1⟩
  have s1 := hx1.1.size
  simp only [World.size_alloc] at s1
  have T1 : B4 w1 w.heap.size 28 (.string ⟨#[]⟩) (.int .i64 0) (.slice none 0 0) (.slice none 0 0) := (B4.new w _ _ _ _ _).exb hx1 (Or.inr (by omega))
  have hX1 : Ex b (b + 1) w w1 := (Ex.of bl (by omega)).trans hx1
  go_wp2_with fail
  refine (l2Feat_z b (N + 1) i0 w0 _ R1 (by omega) hi0).mono ?_
  rintro e w2 ⟨f, A, c, B, d, rfl, hr2, ht2, hS, R2, hx2⟩
  have s2 := hx2.1.size
  have T12 := T1.exb hx2 (Or.inr (by omega))
  have hX2 := hX1.trans hx2
  clear hx1 hx2 hX1 T1 R1
  go_wp2_with fail
  refine (pick_d b _ _ w0 _ (R2.to bl) (by omega)).mono ?_
  rintro e w3 ⟨v, rfl, hv0, hv1, R3, hx3⟩
  clear hv1
  have s3 := hx3.1.size
  simp only [World.size_alloc] at s3
  obtain ⟨id, ⟨K, l⟩, m⟩ := f
  simp only [] at hr2 ht2 hS hx3 R3 hX2
  have sI := hS.id
  have sP := hS.pts
  have sT := hS.tags
  have sX := hS.txt
  simp only [] at sI sP sT sX
  have S : LFz w0 w b (N + 102) id K A c l w.heap.size w2.heap.size B d m.length m w3 :=
    ⟨(B4.new w2 _ _ _ _ _).exb hx3 (Or.inr (by omega)), (T12.to (below_alloc (Below.refl _ _) _)).exb hx3 (Or.inr (by omega)), R_ex (Kd.R_alloc (hr2.up (by omega)) _) hx3 (by omega), R_ex (Kd.R_alloc (ht2.up (by omega)) _) hx3 (by omega), R3, (hX2.to bl (by omega)).trans hx3, sX, rfl⟩
  clear T12 hX2 hx3 R2 R3 hr2 ht2
  have sr := S.ex.1.size
  have rl := S.rdr.lt
  have rg := S.thing.lt
  have hne1 : (w.heap.size == w2.heap.size) = false := by simp; omega
  rcases (show (v = 0) ∨ (v = 1) ∨ (v = 2) ∨ (v = 3) ∨ (4 ≤ v) by omega) with rfl | rfl | rfl | rfl | hv
  · go_wp2_with fail
    refine (of_d b w3.heap.size _ _ [⟨#[]⟩, ⟨#[65]⟩, ⟨#[97, 98, 99, 100, 101, 102, 103]⟩] w0 _ (S.rdr.to bl) (by omega) (by omega) (litStrs w3 _ _ (by decide)) (by decide) (by decide)).mono ?_
    rintro e w4 ⟨i9, hi9, rfl, R4, hx4⟩
    have hi10 := (show ∀ v ∈ ([⟨#[]⟩, ⟨#[65]⟩, ⟨#[97, 98, 99, 100, 101, 102, 103]⟩] : List ByteArray), v.size ≤ 10 by decide) i9 hi9
    have s4 := hx4.1.size
    simp only [World.size_alloc] at s4
    have X2 := (S.thing.to (below_alloc (Below.refl _ _) _)).exb hx4 (Or.inr (by omega))
    have X1 := (S.res.to (below_alloc (Below.refl _ _) _)).exb hx4 (Or.inr (by omega))
    have S4 : LFz w0 w b (N + 103) i9 K A c l w.heap.size w2.heap.size B d m.length m (w4.setCell ⟨w2.heap.size, 0, none⟩ (.string i9)) :=
      ⟨X2.set0 _, X1.far hne1, Kd.R_set (R_ex (Kd.R_alloc S.pts _) hx4 (by omega)) X2 (by decide) 0 _, Kd.R_set (R_ex (Kd.R_alloc S.tags _) hx4 (by omega)) X2 (by decide) 0 _, R4.set (by omega), ((S.ex.to bl (by omega)).trans hx4).setN (by omega) (by omega), sX, rfl⟩
    obtain ⟨b0, b1, b2, b3⟩ := X2.c
    obtain ⟨c0, c1, c2, c3⟩ := X2.z
    clear S X1
    have S := S4
    clear S4 X2
    obtain ⟨a0, a1, a2, a3⟩ := S.thing.c
    obtain ⟨y0, y1, y2, y3⟩ := S.res.c
    obtain ⟨z0, z1, z2, z3⟩ := S.res.z
    go_wp2
    refine bodyPost_ret (v := .agg #[.string i9, .int .i64 K, .slice A l.length c, .slice B m.length d]) (by simp [results, Tryz.results29, go_sem, *]) rfl ⟨(i9, (K, l), m), A, c, B, d, rfl, RI.of (S.res.R S.pts (by decide) _ _ _ _), RI.of (S.res.R S.tags (by decide) _ _ _ _), ⟨hi10, sP, Nat.le_succ_of_le sT, sX⟩, ((((S.rdr.set hbw).set hbw).set hbw).set hbw).up (by omega), (((S.ex.setN (Nat.le_refl _) (by omega)).setN (Nat.le_refl _) (by omega)).setN (Nat.le_refl _) (by omega)).setN (Nat.le_refl _) (by omega)⟩
  · go_wp2_with fail
    refine (l1Bent_d b _ w0 _ S.rdr (by omega)).mono ?_
    rintro e w4 ⟨K9, A9, c9, l9, rfl, hr9, hl9, _, _, _, R4, hx4⟩
    have s4 := hx4.1.size
    have X2 := S.thing.exb hx4 (Or.inr (by omega))
    have X1 := S.res.exb hx4 (Or.inr (by omega))
    have S4 : LFz w0 w b (N + 162) id K9 A9 c9 l9 w.heap.size w2.heap.size B d m.length m ((w4.setCell ⟨w2.heap.size, 1, none⟩ (.int .i64 K9)).setCell ⟨w2.heap.size, 2, none⟩ (.slice A9 l9.length c9)) :=
      ⟨(X2.set1 _).set2 _, (X1.far hne1).far hne1, Kd.R_set (Kd.R_set (hr9.up (by omega)) X2 (by decide) 1 _) (X2.set1 _) (by decide) 2 _, Kd.R_set (Kd.R_set (R_ex S.tags hx4 (by omega)) X2 (by decide) 1 _) (X2.set1 _) (by decide) 2 _, (R4.set (by omega)).set (by omega), ((S.ex.trans hx4).setN (by omega) (by omega)).setN (by omega) (by omega), sX, rfl⟩
    obtain ⟨b0, b1, b2, b3⟩ := X2.c
    obtain ⟨c0, c1, c2, c3⟩ := X2.z
    clear S X1
    have S := S4
    clear S4 X2
    obtain ⟨a0, a1, a2, a3⟩ := S.thing.c
    obtain ⟨y0, y1, y2, y3⟩ := S.res.c
    obtain ⟨z0, z1, z2, z3⟩ := S.res.z
    go_wp2
    refine bodyPost_ret (v := .agg #[.string id, .int .i64 K9, .slice A9 l9.length c9, .slice B m.length d]) (by simp [results, Tryz.results29, go_sem, *]) rfl ⟨(id, (K9, l9), m), A9, c9, B, d, rfl, RI.of (S.res.R S.pts (by decide) _ _ _ _), RI.of (S.res.R S.tags (by decide) _ _ _ _), ⟨sI, by simp only []; omega, Nat.le_succ_of_le sT, sX⟩, ((((S.rdr.set hbw).set hbw).set hbw).set hbw).up (by omega), (((S.ex.setN (Nat.le_refl _) (by omega)).setN (Nat.le_refl _) (by omega)).setN (Nat.le_refl _) (by omega)).setN (Nat.le_refl _) (by omega)⟩
  · obtain ⟨b0, b1, b2, b3⟩ := S.thing.c
    obtain ⟨c0, c1, c2, c3⟩ := S.thing.z
    go_wp2_with (at_builtin; refine appOne (d := kTag) (w0 := w3) (base := w.heap.size) 26 54 z0Tag 32 Tryz.underlying26 info_Tag rfl (by decide) (by omega) (.tmp 24) (.tmp 26) _ m ((⟨#[97]⟩, ⟨#[98]⟩) : Tag) [.string ⟨#[97]⟩, .string ⟨#[98]⟩] (kTag_mkM _ _ _ ((⟨#[97]⟩, ⟨#[98]⟩) : Tag)) S.tags (Below.refl _ _) sr (by omega) ?_; intro B9 d9 w4 ho4 hb4 hg4; replace ho4 := (show kTag.R 54 w4 w.heap.size (fun _ => True) (.slice B9 (m.length + 1) d9) (m ++ [((⟨#[97]⟩, ⟨#[98]⟩) : Tag)]) by have h_ := ho4; rwa [List.length_append] at h_); have X2 := S.thing.grown hg4 (Kd.R_ne S.tags S.thing (by decide)); have X1 := S.res.grown hg4 (Kd.R_ne S.tags S.res (by decide)); clear b0 b1 b2 b3 c0 c1 c2 c3; obtain ⟨b0, b1, b2, b3⟩ := X2.c; obtain ⟨c0, c1, c2, c3⟩ := X2.z; have hbs := (fun k hk => Kd.R_base S.tags k hk); have Hlen := Lib.hid (show (m ++ [((⟨#[97]⟩, ⟨#[98]⟩) : Tag)]).length = m.length + 1 by simp); have S4 : LFz w0 w b (N + 102) id K A c l w.heap.size w2.heap.size B9 d9 (m.length + 1) (m ++ [((⟨#[97]⟩, ⟨#[98]⟩) : Tag)]) (w4.setCell ⟨w2.heap.size, 3, none⟩ (.slice B9 (m.length + 1) d9)) := ⟨X2.set3 _, X1.far hne1, Kd.R_set (R_grownT S.pts S.tags (by decide) hg4) X2 (by decide) 3 _, Kd.R_set ho4 X2 (by decide) 3 _, (S.rdr.grown hg4 (fun k e => by have := hbs k e; omega)).set (by omega), (S.ex.grown hg4 hbs (by omega)).setN (by omega) (by omega), (fun t ht => (List.mem_append.1 ht).elim (sX t) (fun h => by rw [List.mem_singleton.1 h]; exact ⟨⟨by decide, by decide⟩, fun _ => ltS_lit (by decide)⟩)), Hlen.out.symm⟩; clear S X1; have S := S4; clear S4; obtain ⟨a0, a1, a2, a3⟩ := S.thing.c; obtain ⟨y0, y1, y2, y3⟩ := S.res.c; obtain ⟨z0, z1, z2, z3⟩ := S.res.z)
    refine bodyPost_ret (v := .agg #[.string id, .int .i64 K, .slice A l.length c, .slice B9 (m.length + 1) d9]) (by simp [results, Tryz.results29, go_sem, *]) rfl ⟨(id, (K, l), m ++ [((⟨#[97]⟩, ⟨#[98]⟩) : Tag)]), A, c, B9, d9, by simp only [featV, Hlen.out], RI.of (S.res.R S.pts (by decide) _ _ _ _), by rw [Hlen.out]; exact RI.of (S.res.R S.tags (by decide) _ _ _ _), ⟨sI, sP, by simp only [Hlen.out]; omega, S.txt⟩, ((((S.rdr.set hbw).set hbw).set hbw).set hbw).up (by omega), (((S.ex.setN (Nat.le_refl _) (by omega)).setN (Nat.le_refl _) (by omega)).setN (Nat.le_refl _) (by omega)).setN (Nat.le_refl _) (by omega)⟩
  · obtain ⟨b0, b1, b2, b3⟩ := S.thing.c
    go_wp2
    refine cgStart 10 [0, 1, 2, 3, 4, 5, 6, 7, 8, 9] [9] [(⟨w2.heap.size, 3, none⟩, _)] s_l2Bent_t10 ⟨b3, trivial⟩ (fun HT HD => ?_)
    repeat ((with_reducible refine cgGate ?_); first | refine cgP HT ?_ | refine cgL HT ?_ | refine cgG HT ?_)
    refine cgE (w1 := w3.drew.alloc (.cells #[.string ⟨#[]⟩, .string ⟨#[66]⟩] 9)) (v := .slice (some ⟨w3.heap.size, 0, none⟩) 2 2) HT (fun HD2 => ?_) (hrun := by first | (go_simp; done) | (go_simp; rfl)) (hS := HD.to bl)
    repeat ((with_reducible refine cgGate ?_); first | refine cgP HT ?_ | refine cgL HT ?_ | refine cgG HT ?_)
    refine cgCall HT Tryz.func45 (of_d b w3.heap.size _ _ [⟨#[]⟩, ⟨#[66]⟩] w0 _ (S.rdr.to bl) (by omega) (by omega) (litStrs w3.drew _ _ (by decide)) (by decide) (by decide)) ?_
    rintro e w4 ⟨vv, hvv, rfl, R4, hx4⟩
    have hv10 := (show ∀ v ∈ ([⟨#[]⟩, ⟨#[66]⟩] : List ByteArray), v.size ≤ 10 by decide) vv hvv
    have hvz : ¬ WordOk vv := by
      simp only [List.mem_cons, List.mem_nil_iff, or_false] at hvv
      rcases hvv with rfl | rfl
      · exact noWord_nil
      · exact noWord_B
    have s4 := hx4.1.size
    simp only [World.size_alloc, World.size_drew] at s4
    have b34 : Below w3.heap.size w3 (w3.drew.alloc (.cells #[.string ⟨#[]⟩, .string ⟨#[66]⟩] 9)) := bl
    have S4 : LFz w0 w b (N + 103) id K A c l w.heap.size w2.heap.size B d m.length m w4 :=
      ⟨(S.thing.to b34).exb hx4 (Or.inr (by omega)), (S.res.to b34).exb hx4 (Or.inr (by omega)), R_ex (Kd.R_below S.pts b34) hx4 (by omega), R_ex (Kd.R_below S.tags b34) hx4 (by omega), R4, (S.ex.to b34 (by omega)).trans hx4, sX, rfl⟩
    refine ⟨_, rfl, ⟨S4.thing.c.2.2.2, trivial⟩, cgN ?_⟩
    repeat ((with_reducible refine cgGate ?_); first | refine cgP HT ?_ | refine cgL HT ?_ | refine cgG HT ?_)
    refine cgE (w1 := w4.alloc (.cells #[.string ⟨#[122, 122]⟩, .string vv] 54)) (v := .slice (some ⟨w4.heap.size, 0, none⟩) 1 1) HT (fun HD3 => ?_) (hrun := by first | (go_simp; done) | (go_simp; rfl)) (hS := ⟨pw_cell_below (below_alloc (Below.refl _ _) _) S4.thing.c.2.2.2, trivial⟩)
    have b45 : Below w4.heap.size w4 (w4.alloc (.cells #[.string ⟨#[122, 122]⟩, .string vv] 54)) := below_alloc (Below.refl _ _) _
    have S5 : LFz w0 w b (N + 103) id K A c l w.heap.size w2.heap.size B d m.length m (w4.alloc (.cells #[.string ⟨#[122, 122]⟩, .string vv] 54)) :=
      ⟨S4.thing.to b45, S4.res.to b45, Kd.R_below S4.pts b45, Kd.R_below S4.tags b45, S4.rdr.to b45, S4.ex.to b45 (by omega), sX, rfl⟩
    have hbs := fun k hk => Kd.R_base S5.tags k hk
    have Hlen := Lib.hid (show (m ++ [((⟨#[122, 122]⟩, vv) : Tag)]).length = m.length + 1 by simp)
    refine cgAppG (d := kTag) (w0 := (w4.alloc (.cells #[.string ⟨#[122, 122]⟩, .string vv] 54))) (base := w.heap.size) 26 54 (.agg #[(.string ByteArray.empty), (.string ByteArray.empty)]) 32 Tryz.underlying26 info_Tag rfl (by decide) (by omega) (fun _ _ h => h) (.tmp 32) (.tmp 37) _ m [((⟨#[122, 122]⟩, vv) : Tag)] (some ⟨w4.heap.size, 0, none⟩) 1 1 HT HD3 S5.tags (litT1 w4 ((⟨#[122, 122]⟩, vv) : Tag)) (Below.refl _ _) S5.ex.1.size (by omega) (fun x hx e_ => by
      simp only [List.mem_cons, List.mem_nil_iff, or_false] at hx
      subst hx
      exact Kd.R_ne S5.tags S5.thing (by decide) e_) ?_
    intro B9 d9 w6 ho6 hb6 HD6 hg6
    rw [Hlen.out] at ho6 ⊢
    refine cgN ?_
    have X2 := S5.thing.grown hg6 (Kd.R_ne S5.tags S5.thing (by decide))
    have X1 := S5.res.grown hg6 (Kd.R_ne S5.tags S5.res (by decide))
    have S7 : LFz w0 w b (N + 103) id K A c l w.heap.size w2.heap.size B9 d9 (m.length + 1) (m ++ [((⟨#[122, 122]⟩, vv) : Tag)]) (w6.setCell ⟨w2.heap.size, 3, none⟩ (.slice B9 (m.length + 1) d9)) :=
      ⟨X2.set3 _, X1.far hne1, Kd.R_set (R_grownT S5.pts S5.tags (by decide) hg6) X2 (by decide) 3 _, Kd.R_set ho6 X2 (by decide) 3 _, (S5.rdr.grown hg6 (fun k e => by have := hbs k e; omega)).set (by omega), (S5.ex.grown hg6 hbs (by omega)).setN (by omega) (by omega), (fun t ht => (List.mem_append.1 ht).elim (sX t) (fun h => by rw [List.mem_singleton.1 h]; exact ⟨⟨show (⟨#[122, 122]⟩ : ByteArray).size ≤ 10 by decide, hv10⟩, fun h => absurd h hvz⟩)), Hlen.out.symm⟩
    clear b0 b1 b2 b3
    obtain ⟨b0, b1, b2, b3⟩ := X2.c
    obtain ⟨c0, c1, c2, c3⟩ := X2.z
    repeat ((with_reducible refine cgGate ?_); first | refine cgP HT ?_ | refine cgL HT ?_ | refine cgG HT ?_)
    refine cgLast HT ?_
    refine cgDone HT ?_
    clear HT HD HD2 HD3 HD6 S S4 S5 X1
    have S := S7
    clear S7
    obtain ⟨a0, a1, a2, a3⟩ := S.thing.c
    obtain ⟨y0, y1, y2, y3⟩ := S.res.c
    obtain ⟨z0, z1, z2, z3⟩ := S.res.z
    go_wp2
    refine bodyPost_ret (v := .agg #[.string id, .int .i64 K, .slice A l.length c, .slice B9 (m.length + 1) d9]) (by simp [results, Tryz.results29, go_sem, *]) rfl ⟨(id, (K, l), m ++ [((⟨#[122, 122]⟩, vv) : Tag)]), A, c, B9, d9, by simp only [featV, Hlen.out], RI.of (S.res.R S.pts (by decide) _ _ _ _), by rw [Hlen.out]; exact RI.of (S.res.R S.tags (by decide) _ _ _ _), ⟨sI, sP, by simp only [Hlen.out]; omega, S.txt⟩, ((((S.rdr.set hbw).set hbw).set hbw).set hbw).up (by omega), (((S.ex.setN (Nat.le_refl _) (by omega)).setN (Nat.le_refl _) (by omega)).setN (Nat.le_refl _) (by omega)).setN (Nat.le_refl _) (by omega)⟩
  · have t0 : (v == 0) = false := beq_eq_false_iff_ne.mpr (by omega)
    have t1 : (v == 1) = false := beq_eq_false_iff_ne.mpr (by omega)
    have t2 : (v == 2) = false := beq_eq_false_iff_ne.mpr (by omega)
    have t3 : (v == 3) = false := beq_eq_false_iff_ne.mpr (by omega)
    obtain ⟨a0, a1, a2, a3⟩ := S.thing.c
    obtain ⟨y0, y1, y2, y3⟩ := S.res.c
    obtain ⟨z0, z1, z2, z3⟩ := S.res.z
    go_wp2
    refine bodyPost_ret (v := .agg #[.string id, .int .i64 K, .slice A l.length c, .slice B m.length d]) (by simp [results, Tryz.results29, go_sem, *]) rfl ⟨(id, (K, l), m), A, c, B, d, rfl, RI.of (S.res.R S.pts (by decide) _ _ _ _), RI.of (S.res.R S.tags (by decide) _ _ _ _), ⟨sI, sP, Nat.le_succ_of_le sT, sX⟩, ((((S.rdr.set hbw).set hbw).set hbw).set hbw).up (by omega), (((S.ex.setN (Nat.le_refl _) (by omega)).setN (Nat.le_refl _) (by omega)).setN (Nat.le_refl _) (by omega)).setN (Nat.le_refl _) (by omega)⟩
/-- A thing drawn of a code, its keys known. -/
def CFeatZ (w : World) (e : Ending) (w' : World) : Prop := ∃ (f : FeatD) (A : Option Addr) (c : Nat) (B : Option Addr) (d : Nat), e = .returned (featV f A c B d) ∧ RI kPt 84 w' w.heap.size w'.heap.size (.slice A f.2.1.2.length c) f.2.1.2 ∧ RI kTag 54 w' w.heap.size w'.heap.size (.slice B f.2.2.length d) f.2.2 ∧ FSz 4 f ∧ Below w.heap.size w w'
set_option maxHeartbeats 1000000 in
theorem DrawFeatText_z (A : Option Addr) (c : Nat) (l : List Int) (w : World) (hl : (Kd.int .u8).C w A l.length l) (hb : ∀ x ∈ l, 0 ≤ x ∧ x ≤ 255) (hc : l.length ≤ c) (hn : l.length ≤ 1048576) :
    Calls Tryz.prog 6 #[.slice A l.length c] w (CFeatZ w) := by
  go_enter Tryz.func6, Tryz.ntmps6
  go_wp2_with fail
  refine (l12Open_d A c l _ (Kd.C_below hl bl) hb hc hn).mono ?_
  rintro e w1 ⟨b, rfl, R1, hb1, hB1⟩
  have s1 := hB1.size
  simp only [World.size_alloc] at s1 hb1
  go_wp2_with fail
  refine (l2Bent_z b 0 _ _ R1 (by omega)).mono ?_
  rintro e w3 ⟨f, A3, c3, B3, d3, rfl, hp3, ht3, hS3, R3, hx3⟩
  have s3 := hx3.1.size
  have B_3 := hx3.bel (bl : Below w.heap.size w w1) (by omega)
  have T3 := (B4.new' (W := w1) w w.heap.size (.string ⟨#[]⟩) (.int .i64 0) (.slice none 0 0) (.slice none 0 0) 28).exb hx3 (Or.inl (by omega))
  obtain ⟨a0, a1, a2, a3⟩ := T3.c
  obtain ⟨z0, z1, z2, z3⟩ := T3.z
  have H3 := Lib.hid (And.intro hp3 ht3)
  clear hp3 ht3
  go_wp2
  refine bodyPost_ret (v := .agg #[.string f.1, .int .i64 f.2.1.1, .slice A3 f.2.1.2.length c3, .slice B3 f.2.2.length d3]) (by simp [results, Tryz.results6, go_sem, *]) rfl ⟨f, A3, c3, B3, d3, rfl, ?_, ?_, hS3, (((B_3.setCell (by simp) _).setCell (by simp) _).setCell (by simp) _).setCell (by simp) _⟩
  · exact ((((H3.out.1.far (Or.inl (by simp only []; omega)) _).far (Or.inl (by simp only []; omega)) _).far (Or.inl (by simp only []; omega)) _).far (Or.inl (by simp only []; omega)) _).wide (by omega) (by simp only [World.size_setCell]; omega)
  · exact ((((H3.out.2.far (Or.inl (by simp only []; omega)) _).far (Or.inl (by simp only []; omega)) _).far (Or.inl (by simp only []; omega)) _).far (Or.inl (by simp only []; omega)) _).wide (by omega) (by simp only [World.size_setCell]; omega)
end Go.Proofs.YtgdgnlpohnpgiaaGreatDoor
