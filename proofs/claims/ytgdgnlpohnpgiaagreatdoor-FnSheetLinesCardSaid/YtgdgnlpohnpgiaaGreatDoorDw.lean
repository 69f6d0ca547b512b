/- Contracts: what is drawn: texts, things. -/
import Derived.Test.YtgdgnlpohnpgiaaGreatDoorDt
import Derived.Test.YtgdgnlpohnpgiaaGreatDoorFm
namespace Go.Proofs.YtgdgnlpohnpgiaaGreatDoor
open Go.RowKit Go.Proofs.YtgdgnlpohnpgiaaGreatDoorW.PrintWords Go.Proofs.YtgdgnlpohnpgiaaGreatDoorW.PrintLast
set_option maxRecDepth 100000
set_option linter.unusedVariables false
set_option linter.unusedSimpArgs false
attribute [local go_sem] cell_set_far cell_set_off
/-- A list of texts, written out. -/
theorem litStrs (w : World) (t : TypeId) (xs : List ByteArray) (hn : xs.length ≤ 1000) : Kd.string.C (w.alloc (.cells (xs.map Value.string).toArray t)) (some ⟨w.heap.size, 0, none⟩) xs.length xs := by
  refine ⟨rfl, by omega, fun _ => ⟨_, rfl, fun j p hj => ⟨[.string p], rfl, rfl, fun i u hu => ?_⟩⟩⟩
  cases i with
  | zero =>
    obtain rfl : Value.string p = u := by simpa using hu
    have : (⟨w.heap.size, 0, none⟩ : Addr).add (j * Kd.string.sz + 0) = ⟨w.heap.size, j, none⟩ := by
      have e : j * Kd.string.sz + 0 = j := by show j * 1 + 0 = j; omega
      rw [e]; unfold Addr.add; split <;> simp_all
    rw [this, blk_cell (blk_new w _) j]
    simp [hj]
  | succ i => simp at hu
theorem of_d (b g N c : Nat) (lst : List ByteArray) (w0 w : World) (R : Rdr w0 w b N) (hN : N ≤ 1073741824) (hg : b < g) (hC : Kd.string.C w (some ⟨g, 0, none⟩) lst.length lst) (h1 : 1 ≤ lst.length) (hm : lst.length ≤ 1000) :
    Calls Tryz.prog 45 #[.pointer (some ⟨b, 0, none⟩), .slice (some ⟨g, 0, none⟩) lst.length c] w fun e w' => ∃ v, v ∈ lst ∧ e = .returned (.string v) ∧ Rdr w0 w' b (N + 1) ∧ Ex b (b + 1) w w' := by
  go_enter Tryz.func45, Tryz.ntmps45
  go_wp2_with fail
  refine (pick_d b N _ w0 _ R hN).mono ?_
  rintro e w1 ⟨v, rfl, hv0, hv1, R1, hx⟩
  obtain ⟨j, rfl⟩ : ∃ j : Nat, v = j := ⟨v.toNat, by omega⟩
  have hj : j < lst.length := by have := hv1 (by omega); omega
  clear hv0 hv1
  obtain ⟨ad, c, e, hlc, hK, hc⟩ := Kd.C_get hC ByteArray.empty (j : Int) (by omega) (by omega)
  have hgd : lst.getD j ByteArray.empty = lst[j] := by rw [List.getD_eq_getElem?_getD, List.getElem?_eq_getElem hj]; rfl
  simp only [Int.toNat_natCast] at hK hc
  rw [hgd] at hK
  cases e
  obtain rfl : c = [.string lst[j]] := hK
  have c0 := hx.cell (hc 0 _ rfl) (Or.inr (by unfold Addr.add; split <;> simp <;> omega))
  have c1 : w1.cell? (Addr.add ⟨g, 0, none⟩ j) = some (.string lst[j]) := by simpa [Kd.string, Kd.scalar] using c0
  have c2 : w1.cell? ⟨g, j, none⟩ = some (.string lst[j]) := by
    have e : (Addr.add ⟨g, 0, none⟩ j) = ⟨g, j, none⟩ := by unfold Addr.add; split <;> simp_all
    rwa [e] at c1
  clear c0 hc hlc hgd c1
  go_wp2
  go_ret
  exact ⟨lst[j], List.getElem_mem hj, rfl, R1, hx⟩
/-- A drawn text. -/
def DStr (w0 w : World) (b N : Nat) (e : Ending) (w' : World) : Prop := ∃ s : ByteArray, e = .returned (.string s) ∧ s.size ≤ 10 ∧ Rdr w0 w' b (N + 1) ∧ Ex b (b + 1) w w'
theorem l2Key_d (b N : Nat) (w0 w : World) (R : Rdr w0 w b N) (hN : N ≤ 1073741824) : Calls Tryz.prog 81 #[.pointer (some ⟨b, 0, none⟩)] w (DStr w0 w b N) := by
  have hbw := R.lt
  go_enter Tryz.func81, Tryz.ntmps81
  go_wp2_with fail
  refine (of_d b w.heap.size _ _ [⟨#[110, 97, 109, 101]⟩, ⟨#[107, 105, 110, 100]⟩, ⟨#[117, 115, 101]⟩, ⟨#[116, 111, 110, 101]⟩] w0 _ (R.to bl) (by omega) hbw (litStrs w _ _ (by decide)) (by decide) (by decide)).mono ?_
  rintro e w1 ⟨v, hv, rfl, R1, hx1⟩
  go_wp2
  go_ret
  exact ⟨v, rfl, (show ∀ v ∈ ([⟨#[110, 97, 109, 101]⟩, ⟨#[107, 105, 110, 100]⟩, ⟨#[117, 115, 101]⟩, ⟨#[116, 111, 110, 101]⟩] : List ByteArray), v.size ≤ 10 by decide) v hv, R1, (Ex.of bl (by omega)).trans hx1⟩
theorem l2Val_d (b N : Nat) (w0 w : World) (R : Rdr w0 w b N) (hN : N ≤ 1073741824) : Calls Tryz.prog 82 #[.pointer (some ⟨b, 0, none⟩)] w (DStr w0 w b N) := by
  have hbw := R.lt
  go_enter Tryz.func82, Tryz.ntmps82
  go_wp2_with fail
  refine (of_d b w.heap.size _ _ [⟨#[97]⟩, ⟨#[98]⟩, ⟨#[111, 97, 107]⟩, ⟨#[97, 115, 104]⟩, ⟨#[114, 111, 97, 100]⟩] w0 _ (R.to bl) (by omega) hbw (litStrs w _ _ (by decide)) (by decide) (by decide)).mono ?_
  rintro e w1 ⟨v, hv, rfl, R1, hx1⟩
  go_wp2
  go_ret
  exact ⟨v, rfl, (show ∀ v ∈ ([⟨#[97]⟩, ⟨#[98]⟩, ⟨#[111, 97, 107]⟩, ⟨#[97, 115, 104]⟩, ⟨#[114, 111, 97, 100]⟩] : List ByteArray), v.size ≤ 10 by decide) v hv, R1, (Ex.of bl (by omega)).trans hx1⟩
theorem l2Id_d (b N : Nat) (w0 w : World) (R : Rdr w0 w b N) (hN : N ≤ 1073741824) : Calls Tryz.prog 58 #[.pointer (some ⟨b, 0, none⟩)] w (DStr w0 w b N) := by
  have hbw := R.lt
  go_enter Tryz.func58, Tryz.ntmps58
  go_wp2_with fail
  refine (of_d b w.heap.size _ _ [⟨#[97]⟩, ⟨#[98]⟩, ⟨#[99]⟩, ⟨#[100]⟩, ⟨#[101]⟩] w0 _ (R.to bl) (by omega) hbw (litStrs w _ _ (by decide)) (by decide) (by decide)).mono ?_
  rintro e w1 ⟨v, hv, rfl, R1, hx1⟩
  go_wp2
  go_ret
  exact ⟨v, rfl, (show ∀ v ∈ ([⟨#[97]⟩, ⟨#[98]⟩, ⟨#[99]⟩, ⟨#[100]⟩, ⟨#[101]⟩] : List ByteArray), v.size ≤ 10 by decide) v hv, R1, (Ex.of bl (by omega)).trans hx1⟩
/-- A small thing. -/
structure FSm (n : Nat) (f : FeatD) : Prop where
  id : f.1.size ≤ 10
  pts : f.2.1.2.length ≤ 16
  tags : f.2.2.length ≤ n
  txt : ∀ t ∈ f.2.2, t.1.size ≤ 10 ∧ t.2.size ≤ 10
theorem FSm.ftx {n : Nat} {f : FeatD} (h : FSm n f) (hn : n ≤ 100) : FTx f := ⟨by have := h.id; omega, by have := h.pts; omega, by have := h.tags; omega, fun t ht => by have := h.txt t ht; omega⟩
/-- A drawn thing: its rows lie in new memory. -/
def DFeat (w0 w : World) (b N n : Nat) (e : Ending) (w' : World) : Prop := ∃ (f : FeatD) (A : Option Addr) (c : Nat) (B : Option Addr) (d : Nat), e = .returned (featV f A c B d) ∧ RI kPt 84 w' w.heap.size w'.heap.size (.slice A f.2.1.2.length c) f.2.1.2 ∧ RI kTag 54 w' w.heap.size w'.heap.size (.slice B f.2.2.length d) f.2.2 ∧ FSm n f ∧ Rdr w0 w' b N ∧ Ex b (b + 1) w w'
/-- What the loop of l2Feat keeps: block g1 is the result's, block g2 the thing's. -/
structure LF (w0 w : World) (b M : Nat) (id : ByteArray) (K : Int) (A : Option Addr) (c : Nat) (l : List Pt) (g1 g2 : Nat) (B : Option Addr) (d n : Nat) (m : List Tag) (wr : World) : Prop where
  thing : B4 wr g2 28 (.string id) (.int .i64 K) (.slice A l.length c) (.slice B n d)
  res : B4 wr g1 28 (.string ⟨#[]⟩) (.int .i64 0) (.slice none 0 0) (.slice none 0 0)
  pts : kPt.R 84 wr w.heap.size (fun _ => True) (.slice A l.length c) l
  tags : kTag.R 54 wr w.heap.size (fun _ => True) (.slice B n d) m
  rdr : Rdr w0 wr b M
  ex : Ex b (b + 1) w wr
  txt : ∀ t ∈ m, t.1.size ≤ 10 ∧ t.2.size ≤ 10
  len : n = m.length
def s_l2Feat_T5 : Bool × List (List Nat × List Nat) := (true, [([], []), ([0], [0]), ([], []), ([2], [2]), ([], []), ([4, 3], [4]), ([1, 3, 5, 5], [1, 3, 5]), ([0, 1, 2, 3, 4, 5, 6], []), ([7, 6, 6, 0, 1, 2, 3, 4, 5, 6], [6, 7])])
theorem s_l2Feat_t5 : rtab .any (opsOf Tryz.f57 5) = s_l2Feat_T5 := by kernel_rfl
set_option maxHeartbeats 4000000 in
theorem l2Feat_d (b N : Nat) (id : ByteArray) (w0 w : World) (R : Rdr w0 w b N) (hN : N ≤ 900000) (hid : id.size ≤ 10) : Calls Tryz.prog 57 #[.pointer (some ⟨b, 0, none⟩), .string id] w (DFeat w0 w b (N + 100) 3) := by
  have hbw := R.lt
  go_enter Tryz.func57, Tryz.ntmps57
  go_wp2_with fail
  refine (l1Shape_d b N w0 _ (R.to bl) (by omega)).mono ?_
  rintro e w1 ⟨K, A, c, l, rfl, hr1, hl16, hl1, hK0, hK4, R1, hx1⟩
  have s1 := hx1.1.size
  simp only [World.size_alloc] at s1 hr1
  have T1 : B4 w1 w.heap.size 28 (.string ⟨#[]⟩) (.int .i64 0) (.slice none 0 0) (.slice none 0 0) := (B4.new w _ _ _ _ _).exb hx1 (Or.inr (by omega))
  have hX1 : Ex b (b + 1) w w1 := (Ex.of bl (by omega)).trans hx1
  clear hx1
  go_wp2_with fail
  refine (pick_d b _ _ w0 _ (R1.to bl) (by omega)).mono ?_
  rintro e w2 ⟨v, rfl, hv0, hv1, R2, hx2⟩
  have hv4 := hv1 (by decide)
  clear hv1
  have s2 := hx2.1.size
  simp only [World.size_alloc] at s2
  obtain ⟨n, rfl⟩ : ∃ n : Nat, v = n := ⟨v.toNat, by omega⟩
  have hstart : LF w0 w b (N + 51) id K A c l w.heap.size w1.heap.size none 0 0 [] w2 :=
    ⟨(B4.new w1 _ _ _ _ _).exb hx2 (Or.inr (by omega)), (T1.to (below_alloc (Below.refl _ _) _)).exb hx2 (Or.inr (by omega)), R_ex (Kd.R_alloc (hr1.up (by omega)) _) hx2 (by omega), Kd.R_nil _ _ _ _ _, R2, (hX1.to bl (by omega)).trans hx2, fun t ht => by simp at ht, rfl⟩
  clear T1 hX1 hx2 R1 R2 hr1
  go_wp2
  go_loopw [6] (fun q wr => ∃ (i : Nat) (B : Option Addr) (d : Nat) (m : List Tag), i ≤ 3 ∧ q = .int .i64 i ∧ m.length + i ≤ 3 ∧ Aside0 (LF w0 w b (N + 51 + 2 * (3 - i)) id K A c l w.heap.size w1.heap.size B d m.length m wr)) (fun q _ => (intOf q).toNat)
  case atStart => exact ⟨n, none, 0, [], by omega, rfl, by simp; omega, ⟨⟨hstart.thing, hstart.res, hstart.pts, hstart.tags, hstart.rdr.up (by omega), hstart.ex, hstart.txt, rfl⟩⟩⟩
  case round =>
    clear hstart
    obtain ⟨i, B, d, m, hi3, rfl, hmi, ⟨hL⟩⟩ := hrel
    have sr := hL.ex.1.size
    have rl := hL.rdr.lt
    have rg := hL.thing.lt
    by_cases hi : 0 < i
    · have d1 : decide ((0 : Int) < (i : Int)) = true := decide_eq_true (by omega)
      obtain ⟨j, hj⟩ : ∃ j, j + 1 = i := ⟨i - 1, by omega⟩
      have hw : IntKind.i64.wrap ((i : Int) - 1) = (j : Int) := by rw [IntWalk.i64_in _ (by omega)]; omega
      obtain ⟨a0, a1, a2, a3⟩ := hL.thing.c
      go_wp2
      refine cgStart 9 [0, 1, 2, 4, 3, 5, 6, 7, 8] [8] [(⟨w1.heap.size, 3, none⟩, _)] s_l2Feat_t5 ⟨a3, trivial⟩ (fun HT HD => ?_)
      repeat ((with_reducible refine cgGate ?_); first | refine cgP HT ?_ | refine cgL HT ?_ | refine cgG HT ?_)
      refine cgCall HT Tryz.func81 (l2Key_d b _ w0 _ (hL.rdr.to bl) (by omega)) ?_
      rintro e w3 ⟨kk, rfl, hkk, R3, hx3⟩
      have s3 := hx3.1.size
      simp only [World.size_drew] at s3
      have L3 : LF w0 w b (N + 51 + 2 * (3 - i) + 1) id K A c l w.heap.size w1.heap.size B d m.length m w3 :=
        ⟨(hL.thing.to (below_drew1 (Below.refl _ _))).exb hx3 (Or.inr (by omega)), (hL.res.to (below_drew1 (Below.refl _ _))).exb hx3 (Or.inr (by omega)), R_ex (Kd.R_drew hL.pts) hx3 (by omega), R_ex (Kd.R_drew hL.tags) hx3 (by omega), R3, (hL.ex.to bl (by omega)).trans hx3, hL.txt, rfl⟩
      refine ⟨_, rfl, ⟨L3.thing.c.2.2.2, trivial⟩, cgN ?_⟩
      repeat ((with_reducible refine cgGate ?_); first | refine cgP HT ?_ | refine cgL HT ?_ | refine cgG HT ?_)
      refine cgCall HT Tryz.func82 (l2Val_d b _ w0 _ R3 (by omega)) ?_
      rintro e w4 ⟨vv, rfl, hvv, R4, hx4⟩
      have s4 := hx4.1.size
      have L4 : LF w0 w b (N + 51 + 2 * (3 - i) + 1 + 1) id K A c l w.heap.size w1.heap.size B d m.length m w4 :=
        ⟨L3.thing.exb hx4 (Or.inr (by omega)), L3.res.exb hx4 (Or.inr (by omega)), R_ex L3.pts hx4 (by omega), R_ex L3.tags hx4 (by omega), R4, L3.ex.trans hx4, hL.txt, rfl⟩
      refine ⟨_, rfl, ⟨L4.thing.c.2.2.2, trivial⟩, cgN ?_⟩
      repeat ((with_reducible refine cgGate ?_); first | refine cgP HT ?_ | refine cgL HT ?_ | refine cgG HT ?_)
      refine cgCall HT Tryz.func80 (l2Put_c B d m kk vv _ (Kd.R_reads' L4.tags).2.2 (by omega)) ?_
      rintro e w5 ⟨B5, d5, rfl, ht5, hb5⟩
      have s5 := hb5.size
      have T5 := L4.thing.to hb5
      refine ⟨_, rfl, ⟨T5.c.2.2.2, trivial⟩, cgN ?_⟩
      obtain ⟨z0, z1, z2, z3⟩ := T5.z
      obtain ⟨y0, y1, y2, y3⟩ := T5.c
      repeat ((with_reducible refine cgGate ?_); first | refine cgP HT ?_ | refine cgL HT ?_ | refine cgG HT ?_)
      refine cgLast HT ?_
      refine cgDone HT ?_
      clear HT HD
      have hpl := putK_le m (kk, vv)
      have hne1 : (w.heap.size == w1.heap.size) = false := by simp; omega
      have L6 : LF w0 w b (N + 51 + 2 * (3 - j)) id K A c l w.heap.size w1.heap.size B5 d5 (putK m (kk, vv)).length (putK m (kk, vv)) (w5.setCell ⟨w1.heap.size, 3, none⟩ (.slice B5 (putK m (kk, vv)).length d5)) :=
        ⟨T5.set3 _, (L4.res.to hb5).far hne1, Kd.R_set (Kd.R_below L4.pts hb5) T5 (by decide) 3 _, Kd.R_set (ht5.up (by omega)) T5 (by decide) 3 _, ((R4.to hb5).set (by omega)).up (by omega), (L4.ex.to hb5 (by omega)).setN (by omega) (by omega), fun t ht => by
          rcases putK_mem ht with rfl | ht
          · exact ⟨hkk, hvv⟩
          · exact hL.txt t ht, rfl⟩
      have HL6 := Lib.hid L6
      have Hpl := Lib.hid hpl
      clear L6 hpl L3 L4 T5 a0 a1 a2 a3 z0 z1 z2 z3 y0 y1 y2 y3 ht5 hL
      go_wp2
      exact ⟨⟨j, B5, d5, putK m (kk, vv), by omega, rfl, by have := Hpl.out; omega, ⟨HL6.out⟩⟩, by simp [intOf]; omega⟩
    · have d1 : decide ((0 : Int) < (i : Int)) = false := decide_eq_false (by omega)
      obtain ⟨a0, a1, a2, a3⟩ := hL.thing.c
      obtain ⟨y0, y1, y2, y3⟩ := hL.res.c
      obtain ⟨z0, z1, z2, z3⟩ := hL.res.z
      go_wp2
      refine bodyPost_ret (v := .agg #[.string id, .int .i64 K, .slice A l.length c, .slice B m.length d]) (by simp [results, Tryz.results57, go_sem, *]) rfl ⟨(id, (K, l), m), A, c, B, d, rfl, RI.of (hL.res.R hL.pts (by decide) _ _ _ _), RI.of (hL.res.R hL.tags (by decide) _ _ _ _), ⟨hid, by simp only []; omega, by simp only []; omega, hL.txt⟩, ((((hL.rdr.set hbw).set hbw).set hbw).set hbw).up (by omega), (((hL.ex.setN (Nat.le_refl _) (by omega)).setN (Nat.le_refl _) (by omega)).setN (Nat.le_refl _) (by omega)).setN (Nat.le_refl _) (by omega)⟩
end Go.Proofs.YtgdgnlpohnpgiaaGreatDoor
