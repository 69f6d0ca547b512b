/- Contracts: drawn maps. -/
import Derived.Test.YtgdgnlpohnpgiaaGreatDoorSl
import Derived.Test.YtgdgnlpohnpgiaaGreatDoorDx
import Derived.Test.YtgdgnlpohnpgiaaGreatDoorDu
namespace Go.Proofs.YtgdgnlpohnpgiaaGreatDoor
section
open Go.RowKit Go.Proofs.YtgdgnlpohnpgiaaGreatDoorW.PrintWords Go.Proofs.YtgdgnlpohnpgiaaGreatDoorW.PrintLast
set_option maxRecDepth 100000
set_option linter.unusedVariables false
set_option linter.unusedSimpArgs false
attribute [local go_sem] cell_set_far cell_set_off
theorem less_iff {W : World} {b : Nat} {p : Addr} {u : Value} : (World.less W b).cell? p = some u ↔ p.block ≠ b ∧ W.cell? p = some u := by
  constructor
  · intro hc
    have hne : p.block ≠ b := fun e => less_self W b p e u hc
    exact ⟨hne, by rwa [less_cell W b p hne] at hc⟩
  · rintro ⟨h1, h3⟩
    rw [less_cell W b p h1]; exact h3
/-- What is read without two blocks: one more and the drawer's. -/
def lss (g : Nat) (W : World) (b : Nat) : World := World.less (World.less W g) b
theorem lss_iff {g : Nat} {W : World} {b : Nat} {p : Addr} {u : Value} : (lss g W b).cell? p = some u ↔ p.block ≠ b ∧ p.block ≠ g ∧ W.cell? p = some u := by
  unfold lss
  rw [less_iff, less_iff]
theorem lss_heap (g : Nat) (W : World) (b k : Nat) (h : k ≠ b) (h2 : k ≠ g) : (lss g W b).heap[k]? = W.heap[k]? := (less_heap _ b k h).trans (less_heap W g k h2)
theorem lss_le (g : Nat) (W : World) (b : Nat) : Sub (lss g W b) W := fun p u hc => (lss_iff.1 hc).2.2
theorem lss_ex {g : Nat} {W W1 : World} {b : Nat} (hx : Ex b (b + 1) W W1) : Sub (lss g W b) (lss g W1 b) := fun p u hc => by
  obtain ⟨h1, h2, h3⟩ := lss_iff.1 hc
  exact lss_iff.2 ⟨h1, h2, hx.cell h3 (by omega)⟩
/-- What is read without those and a row's. -/
def less2 (g : Nat) (W : World) (b : Nat) (v : Value) : World := lessV (lss g W b) v
theorem less2_cell {g : Nat} {W : World} {b : Nat} {v : Value} {p : Addr} {u : Value} : (less2 g W b v).cell? p = some u ↔ p.block ≠ b ∧ p.block ≠ g ∧ (∀ k, v.ownBlock = some k → p.block ≠ k) ∧ W.cell? p = some u := by
  constructor
  · intro hc
    obtain ⟨h1, h2, h3⟩ := lss_iff.1 (lessV_le _ _ p u hc)
    refine ⟨h1, h2, fun k hg e => ?_, h3⟩
    unfold less2 lessV at hc
    rw [hg] at hc
    exact less_self _ k p e u hc
  · rintro ⟨h1, h2, h3, h4⟩
    unfold less2 lessV
    cases hv : v.ownBlock with
    | none => exact lss_iff.2 ⟨h1, h2, h4⟩
    | some k => simp only; rw [less_cell _ k p (h3 k hv)]; exact lss_iff.2 ⟨h1, h2, h4⟩
theorem less2_ex {g : Nat} {W W1 : World} {b : Nat} {v : Value} (hx : Ex b (b + 1) W W1) : Sub (less2 g W b v) (less2 g W1 b v) := fun p u hc => by
  obtain ⟨h1, h2, h3, h4⟩ := less2_cell.1 hc
  exact less2_cell.2 ⟨h1, h2, h3, hx.cell h4 (by omega)⟩
theorem less2_le {g : Nat} {W : World} {b : Nat} {v : Value} : Sub (less2 g W b v) (lss g W b) := fun p u hc => by
  obtain ⟨h1, h2, h3, h4⟩ := less2_cell.1 hc
  exact lss_iff.2 ⟨h1, h2, h4⟩
theorem less2_new {g : Nat} {W W1 : World} {b : Nat} {v : Value} (hb : Below W.heap.size W W1) (hg : ∀ k, v.ownBlock = some k → W.heap.size ≤ k) : Sub (lss g W b) (less2 g W1 b v) := fun p u hc => by
  obtain ⟨h1, h2, h3⟩ := lss_iff.1 hc
  have hlt := World.block_lt_of_cell? _ _ h3
  exact less2_cell.2 ⟨h1, h2, fun k e => by have := hg k e; omega, pw_cell_below hb h3⟩
theorem less2_grown {g : Nat} {W W1 : World} {b : Nat} {v : Value} (hg : W.grownBy W1 v.ownBlock) : Sub (less2 g W b v) (lss g W1 b) := fun p u hc => by
  obtain ⟨h1, h2, h3, h4⟩ := less2_cell.1 hc
  have hlt := World.block_lt_of_cell? _ _ h4
  refine lss_iff.2 ⟨h1, h2, ?_⟩
  rw [World.cell?_of_block (w := W) (hg.block _ hlt (fun e => h3 _ e.symm rfl))]
  exact h4
theorem Inn.less1 {W : World} {a b' b : Nat} {f : FeatD} {x : RawF} (h : Inn W a b' f x) (hb : b < a ∨ b' ≤ b) : Inn (World.less W b) a b' f x := Inn.less (v := .slice (some ⟨b, 0, none⟩) 1 1) h (fun g e => (show b = g by simpa [Value.ownBlock] using e) ▸ hb)
theorem Inn.lss {W : World} {a b' b : Nat} {f : FeatD} {x : RawF} (g : Nat) (h : Inn W a b' f x) (hb : b < a ∨ b' ≤ b) (hg : g < a ∨ b' ≤ g) : Inn (lss g W b) a b' f x := (h.less1 hg).less1 hb
/-- A drawn map: a row of one's own, its things read beside the drawer's block and the row's own. -/
def DS (g : Nat) (w0 w : World) (b M : Nat) (n : Nat) (l : List FeatD) (D : Option Addr) (e : Nat) (wr : World) : Prop := ∃ W0, (kRaw W0).R 28 wr w.heap.size (fun _ => True) (.slice D l.length e) l ∧ Sub W0 (less2 g wr b (.slice D l.length e)) ∧ (∀ f ∈ l, FSm 4 f) ∧ l.length ≤ n ∧ Rdr w0 wr b M ∧ Ex b (b + 1) w wr
theorem FSm.up {n m : Nat} {f : FeatD} (h : FSm n f) (hm : n ≤ m) : FSm m f := ⟨h.id, h.pts, Nat.le_trans h.tags hm, h.txt⟩
set_option maxHeartbeats 4000000 in
theorem l3Sheet_d (g b N : Nat) (w0 w : World) (R : Rdr w0 w b N) (hN : N ≤ 700000) (hgw : g < w.heap.size) : Calls Tryz.prog 74 #[.pointer (some ⟨b, 0, none⟩)] w fun e w' => ∃ (l : List FeatD) (D : Option Addr) (d : Nat), e = .returned (.slice D l.length d) ∧ DS g w0 w b (N + 1000) 4 l D d w' := by
  have hbw := R.lt
  go_enter Tryz.func74, Tryz.ntmps74
  go_wp2_with fail
  refine (pick_d b N _ w0 _ (R.to bl) (by omega)).mono ?_
  rintro e w1 ⟨v, rfl, hv0, hv1, R1, hx1⟩
  have hv5 := hv1 (by decide)
  clear hv1
  obtain ⟨n, rfl⟩ : ∃ n : Nat, v = n := ⟨v.toNat, by omega⟩
  have hstart : DS g w0 w b (N + 1) 0 [] (some ⟨w.heap.size, 0, none⟩) 0 w1 :=
    ⟨lss g (w.alloc (.cells #[] 28)) b |> fun W => lessV W (.slice (some ⟨w.heap.size, 0, none⟩) 0 0), R_ex (litK (kRaw _) 28 w w.heap.size (Nat.le_refl _)) hx1 (by omega), less2_ex hx1, (fun f hf => by cases hf), Nat.le_refl _, R1, (Ex.of bl (by omega)).trans hx1⟩
  clear R1 hx1
  go_wp2
  go_loopw [3, 4] (fun q3 q4 wr => ∃ (i : Nat) (l : List FeatD) (D : Option Addr) (d : Nat), i ≤ 4 ∧ q4 = .int .i64 i ∧ q3 = .slice D l.length d ∧ Aside0 (DS g w0 w b (N + 1 + 200 * (4 - i)) (4 - i) l D d wr)) (fun _ q4 _ => (intOf q4).toNat)
  case atStart => exact ⟨n, [], _, 0, by omega, rfl, rfl, ⟨by obtain ⟨W0, h1, h2, h3, h4, h5, h6⟩ := hstart; exact ⟨W0, h1, h2, h3, by simp, h5.up (by omega), h6⟩⟩⟩
  case round =>
    clear hstart
    obtain ⟨i, l, D, d, hi4, rfl, rfl, ⟨W0, hrow, hsub, hsm, hlen, hR, hX⟩⟩ := hrel
    have sr := hX.1.size
    have rl := hR.lt
    by_cases hi : 0 < i
    · have d1 : decide ((0 : Int) < (i : Int)) = true := decide_eq_true (by omega)
      obtain ⟨j, hj⟩ : ∃ j, j + 1 = i := ⟨i - 1, by omega⟩
      have hw : IntKind.i64.wrap ((i : Int) - 1) = (j : Int) := by rw [IntWalk.i64_in _ (by omega)]; omega
      go_wp2_with fail
      refine (l2Id_d b _ w0 _ hR (by omega)).mono ?_
      rintro e w2 ⟨id, rfl, hid, R2, hx2⟩
      go_wp2_with fail
      refine (l2Feat_d b _ id w0 _ R2 (by omega) hid).mono ?_
      rintro e w3 ⟨f, A3, c3, B3, d3, rfl, hp3, ht3, hS3, R3, hx3⟩
      have s2 := hx2.1.size
      have s3 := hx3.1.size
      have hx23 := hx2.trans hx3
      have hrow3 := R_ex hrow hx23 (by omega)
      have hsub3 : Sub W0 (lss g w3 b) := (hsub.trans less2_le).trans (lss_ex hx23)
      have hC3 : (kRaw (lss g w3 b)).C w3 D l.length l := ReadsRow.sub (R' := kFeat.K (lss g w3 b)) (Kd.R_reads' hrow3).2.2 (Sub.refl w3) (fun _ _ hk => kFeat_subK hk hsub3)
      have hI3 : Inn w3 w2.heap.size w3.heap.size f (f.1, f.2.1.1, .slice A3 f.2.1.2.length c3, .slice B3 f.2.2.length d3) := ⟨rfl, rfl, hp3, ht3⟩
      have hK3 := (hI3.lss (b := b) g (Or.inl (by omega)) (Or.inl (by omega))).K
      go_wp2_with fail
      refine (l3Put_g (lss g w3 b) D d l f A3 c3 B3 d3 _ hC3 (lss_le g w3 b) (by omega) hK3).mono ?_
      rintro e w4 ⟨D4, d4, rfl, hr4, hb4⟩
      have hpl := putK_le l f
      have hS4 : DS g w0 w b (N + 1 + 200 * (4 - j)) (4 - j) (putK l f) D4 d4 w4 :=
        ⟨lss g w3 b, Kd.R_lower hr4 (by omega), less2_new hb4 (fun k e => (kRaw_lt hr4 k e).1), fun f' hg => by
          rcases putK_mem hg with rfl | hg
          · exact hS3.up (by omega)
          · exact hsm f' hg, by omega, (R3.to hb4).up (by omega), (hX.trans hx23).to hb4 (by omega)⟩
      clear hrow hrow3 hsub3 hC3 hI3 hK3 hp3 ht3 hr4
      go_wp2
      exact ⟨⟨j, putK l f, D4, d4, by omega, rfl, rfl, ⟨hS4⟩⟩, by simp [intOf]; omega⟩
    · have d1 : decide ((0 : Int) < (i : Int)) = false := decide_eq_false (by omega)
      go_wp2
      go_ret
      exact ⟨l, D, d, rfl, W0, hrow, hsub, hsm, by omega, hR.up (by omega), hX⟩
end
section
open Go.RowKit Go.Proofs.YtgdgnlpohnpgiaaGreatDoorW.PrintWords Go.Proofs.YtgdgnlpohnpgiaaGreatDoorW.PrintLast
set_option maxRecDepth 100000
set_option linter.unusedVariables false
set_option linter.unusedSimpArgs false
attribute [local go_sem] cell_set_far cell_set_off
/-- A drawn map, read beside the drawer's block. -/
def BSheet (g : Nat) (w0 w : World) (b M : Nat) (e : Ending) (w' : World) : Prop := ∃ (l : List FeatD) (D : Option Addr) (d : Nat), e = .returned (.slice D l.length d) ∧ l.length ≤ d ∧ kFeat.C (lss g w' b) D l.length l ∧ (∀ f ∈ l, FSm 4 f) ∧ l.length ≤ 20 ∧ Rdr w0 w' b M ∧ Ex b (b + 1) w w'
theorem raw_less {W0 w wr : World} {g b n e : Nat} {D : Option Addr} {l : List FeatD} (h : (kRaw W0).R 28 wr w.heap.size (fun _ => True) (.slice D n e) l) (hb : b < w.heap.size) (hg : g < w.heap.size) (hs : Sub W0 (lss g wr b)) : n ≤ e ∧ kFeat.C (lss g wr b) D n l := by
  have h2 := Kd.R_step (w1 := lss g wr b) (Kd.R_bound h) (fun k hk _ => lss_heap g wr b k (by have := hk.2.1; omega) (by have := hk.2.1; omega))
  obtain ⟨hn, hle, hC⟩ := Kd.R_reads' h2
  exact ⟨hle, kRaw_C (hn ▸ hC) hs⟩
theorem DS.fin {w0 w wr : World} {g b M n e : Nat} {D : Option Addr} {l : List FeatD} (h : DS g w0 w b M n l D e wr) (hb : b < w.heap.size) (hg : g < w.heap.size) : l.length ≤ e ∧ kFeat.C (lss g wr b) D l.length l := by
  obtain ⟨W0, h1, h2, _⟩ := h
  exact raw_less h1 hb hg (h2.trans less2_le)
abbrev dot0 (s : ByteArray) : FeatD := (s, (1, [(0, 0)]), [])
theorem dotK (w : World) (g b : Nat) (hb : b < w.heap.size) (hg : g < w.heap.size) (s : ByteArray) : kFeat.K (lss g (w.alloc (.cells #[.int .i64 0, .int .i64 0] 84)) b) (dot0 s) [.string s, .int .i64 1, .slice (some ⟨w.heap.size, 0, none⟩) 1 1, .slice none 0 0] := by
  have h1 := RI.of (litR1 w (0, 0))
  have hI : Inn (w.alloc (.cells #[.int .i64 0, .int .i64 0] 84)) w.heap.size (w.alloc (.cells #[.int .i64 0, .int .i64 0] 84)).heap.size (dot0 s) (s, 1, .slice (some ⟨w.heap.size, 0, none⟩) 1 1, .slice none 0 0) := ⟨rfl, rfl, h1, RI.of (Kd.R_nil _ _ _ _ _) |>.wide (Nat.le_refl _) (Nat.le_refl _)⟩
  exact (hI.lss (b := b) g (Or.inl hb) (Or.inl hg)).K
set_option maxHeartbeats 8000000 in
theorem l3Bent_d (g b N : Nat) (w0 w : World) (R : Rdr w0 w b N) (hN : N ≤ 600000) (hgw : g < w.heap.size) : Calls Tryz.prog 53 #[.pointer (some ⟨b, 0, none⟩)] w (BSheet g w0 w b (N + 2000)) := by
  have hbw := R.lt
  go_enter Tryz.func53, Tryz.ntmps53
  go_wp2_with fail
  refine (l3Sheet_d g b N w0 _ R (by omega) (by omega)).mono ?_
  rintro e w1 ⟨l, D, d, rfl, W1, hrow1, hsub1, hsm, hlen, R1, hX1⟩
  go_wp2_with fail
  refine (pick_d b _ _ w0 _ R1 (by omega)).mono ?_
  rintro e w2 ⟨v, rfl, hv0, hv1, R2, hx2⟩
  clear hv1
  have hrow := R_ex hrow1 hx2 (by omega)
  have hsub := hsub1.trans (less2_ex hx2)
  have hX := hX1.trans hx2
  have s2 := hX.1.size
  clear hrow1 hsub1 hX1 hx2 R1
  rcases (show (v = 0) ∨ (v = 1) ∨ (v = 2) ∨ (3 ≤ v) by omega) with rfl | rfl | rfl | hv
  · go_wp2_with fail
    refine (l2Bent_d b _ w0 _ R2 (by omega)).mono ?_
    rintro e w3 ⟨f, A3, c3, B3, d3, rfl, hp3, ht3, hS3, R3, hx3⟩
    have s3 := hx3.1.size
    have hlt := kRaw_lt hrow
    have hrow3 := kRaw_up (R_ex hrow hx3 (by omega)) (hsub.trans (less2_ex hx3))
    have hI3 : Inn w3 w2.heap.size w3.heap.size f (f.1, f.2.1.1, .slice A3 f.2.1.2.length c3, .slice B3 f.2.2.length d3) := ⟨rfl, rfl, hp3, ht3⟩
    have hK3 := ((hI3.lss (b := b) g (Or.inl (by omega)) (Or.inl (by omega))).less (v := .slice D l.length d) (fun k e => Or.inl (hlt k e).2)).K
    have hX3 := hX.trans hx3
    have HR := Lib.hid (And.intro hK3 hrow3)
    clear hK3 hrow3 hI3
    go_wp2_with (at_builtin; refine appRaw (W0 := less2 g w3 b (.slice D l.length d)) (w0 := w3) (base := w.heap.size) (.tmp 11) (.tmp 14) _ l l.length rfl f [.string f.1, .int .i64 f.2.1.1, .slice A3 f.2.1.2.length c3, .slice B3 f.2.2.length d3] HR.out.1 HR.out.2 (Below.refl _ _) (by omega) (by omega) ?_; intro g4 c4 w4 ho4 hb4 hg4 hat4)
    go_ret
    have hl4 : (l ++ [f]).length = l.length + 1 := by simp
    obtain ⟨q1, q2⟩ := raw_less ho4 hbw hgw (less2_grown hg4)
    refine ⟨l ++ [f], some ⟨g4, 0, none⟩, c4, by rw [hl4]; rfl, by rw [hl4]; exact q1, by rw [hl4]; exact q2, fun f' hg => (List.mem_append.1 hg).elim (hsm f') (fun h => by rw [List.mem_singleton.1 h]; exact hS3), by omega, (R3.grown hg4 (fun k e => by have := (hlt k e).1; omega)).up (by omega), hX3.grown hg4 (fun k e => (hlt k e).1) (by omega)⟩
  · have hlt := kRaw_lt hrow
    have hrow2 := kRaw_up hrow hsub
    have hC2 := (Kd.R_reads' hrow2).2.2
    have HR := Lib.hid (And.intro hrow2 hC2)
    clear hrow2 hC2
    go_wp2_with ((with_reducible refine gate_dst (N := 20) rfl ?_); refine Kd.R_append_rows (kRaw (less2 g w2 b (.slice D l.length d))) (Rr := (kRaw (less2 g w2 b (.slice D l.length d))).K w2) (w0 := w2) w.heap.size rfl (.tmp 18) (.tmp 19) 39 28 z0Feat 72 rfl Tryz.underlying39 info_Feat rfl (show 0 < 4 by decide) (by omega) _ l l D l.length d (fun _ => True) (fun _ => False) rfl rfl HR.out.1 HR.out.2 (fun _ _ h => h) (fun _ h => h.elim) (fun _ _ => trivial) (Below.refl _ _) (by omega) (by omega) ?_; intro v4 w4 ho4 hb4 hg4 hat4; obtain ⟨D4, d4, rfl⟩ := Kd.R_slice ho4)
    go_ret
    obtain ⟨q1, q2⟩ := raw_less ho4 hbw hgw (less2_grown hg4)
    have hl4 : (l ++ l).length = l.length + l.length := by simp
    exact ⟨l ++ l, D4, d4, by rw [hl4]; rfl, q1, q2, fun f' hg => (List.mem_append.1 hg).elim (hsm f') (hsm f'), by simp; omega, (R2.grown hg4 (fun k e => by have := (hlt k e).1; omega)).up (by omega), hX.grown hg4 (fun k e => (hlt k e).1) (by omega)⟩
  · go_wp2
    go_loopw [3, 4] (fun q3 q4 wr => ∃ (k : Nat) (l : List FeatD) (D : Option Addr) (d : Nat), k ≤ 9 ∧ q4 = .int .i64 k ∧ q3 = .slice D l.length d ∧ Aside0 (DS g w0 w b (N + 1001) (4 + k) l D d wr)) (fun _ q4 _ => 9 - (intOf q4).toNat)
    case atStart => exact ⟨0, l, D, d, by omega, rfl, rfl, ⟨W1, hrow, hsub, hsm, hlen, R2, hX⟩⟩
    case round =>
      clear hrow hsub hsm hlen R2 hX
      obtain ⟨k, l, D, d, hk9, rfl, rfl, ⟨W0, hrow, hsub, hsm, hlen, hR, hX⟩⟩ := hrel
      have sr := hX.1.size
      have rl := hR.lt
      by_cases hk : k ≤ 8
      · have d1 : decide ((k : Int) ≤ 8) = true := decide_eq_true (by omega)
        have hw : IntKind.i64.wrap ((k : Int) + 1) = (k : Int) + 1 := IntWalk.i64_in _ (by omega)
        have hsl : ∀ W : World, (Instr.slice 9 (.string (⟨#[113, 114, 115, 116, 117, 118, 119, 120, 121, 122]⟩ : ByteArray)) (some (.int .i64 (k : Int))) (some (.int .i64 ((k : Int) + 1))) none).run Tryz.prog W = .ok (.string ((⟨#[113, 114, 115, 116, 117, 118, 119, 120, 121, 122]⟩ : ByteArray).extract k (k + 1))) W := fun W => run_slice_string (P := Tryz.prog) W 9 (⟨#[113, 114, 115, 116, 117, 118, 119, 120, 121, 122]⟩ : ByteArray) .i64 .i64 k ((k : Int) + 1) Tryz.underlying9 (by omega) (by omega) (by show (k : Int) + 1 ≤ 10; omega)
        have hs10 : ((⟨#[113, 114, 115, 116, 117, 118, 119, 120, 121, 122]⟩ : ByteArray).extract k (k + 1)).size ≤ 10 := by rw [ByteArray.size_extract]; omega
        generalize (⟨#[113, 114, 115, 116, 117, 118, 119, 120, 121, 122]⟩ : ByteArray).extract k (k + 1) = sx at *
        have bA : Below wr.heap.size wr (wr.alloc (.cells #[.int .i64 0, .int .i64 0] 84)) := bl
        have xA : Ex b (b + 1) wr (wr.alloc (.cells #[.int .i64 0, .int .i64 0] 84)) := Ex.of bA (by omega)
        have hrow3 := Kd.R_below hrow bA
        have hsub3 : Sub W0 (lss g (wr.alloc (.cells #[.int .i64 0, .int .i64 0] 84)) b) := (hsub.trans less2_le).trans (lss_ex xA)
        have hC3 : (kRaw (lss g (wr.alloc (.cells #[.int .i64 0, .int .i64 0] 84)) b)).C (wr.alloc (.cells #[.int .i64 0, .int .i64 0] 84)) D l.length l := ReadsRow.sub (R' := kFeat.K (lss g (wr.alloc (.cells #[.int .i64 0, .int .i64 0] 84)) b)) (Kd.R_reads' hrow3).2.2 (Sub.refl _) (fun _ _ hk => kFeat_subK hk hsub3)
        go_wp2_with fail
        refine (l3Put_g (lss g (wr.alloc (.cells #[.int .i64 0, .int .i64 0] 84)) b) D d l (dot0 sx) (some ⟨wr.heap.size, 0, none⟩) 1 none 0 _ hC3 (lss_le g _ b) (by omega) (dotK wr g b rl (by omega) sx)).mono ?_
        rintro e w4 ⟨D4, d4, rfl, hr4, hb4⟩
        simp only [World.size_alloc] at hr4
        have hpl := putK_le l (dot0 sx)
        have hS4 : DS g w0 w b (N + 1001) (4 + (k + 1)) (putK l (dot0 sx)) D4 d4 w4 :=
          ⟨_, Kd.R_lower hr4 (by omega), less2_new hb4 (fun k e => by have := (kRaw_lt hr4 k e).1; simp; omega), fun f' hg => by
            rcases putK_mem hg with rfl | hg
            · exact ⟨hs10, show 1 ≤ 16 by decide, show 0 ≤ 4 by decide, fun t ht => by cases ht⟩
            · exact hsm f' hg, by omega, (hR.to bA).to hb4, (hX.to bA (by omega)).to hb4 (by omega)⟩
        clear hrow hrow3 hsub3 hC3 hr4 hsl
        go_wp2
        exact ⟨⟨k + 1, putK l (dot0 sx), D4, d4, by omega, by go_num, rfl, ⟨hS4⟩⟩, by simp [intOf]; omega⟩
      · have d1 : decide ((k : Int) ≤ 8) = false := decide_eq_false (by omega)
        go_wp2
        go_ret
        obtain ⟨q1, q2⟩ := raw_less hrow hbw hgw (hsub.trans less2_le)
        exact ⟨l, D, d, rfl, q1, q2, hsm, by omega, hR.up (by omega), hX⟩
  · have t0 : (v == 0) = false := beq_eq_false_iff_ne.mpr (by omega)
    have t1 : (v == 1) = false := beq_eq_false_iff_ne.mpr (by omega)
    have t2 : (v == 2) = false := beq_eq_false_iff_ne.mpr (by omega)
    go_wp2
    go_ret
    obtain ⟨q1, q2⟩ := raw_less hrow hbw hgw (hsub.trans less2_le)
    exact ⟨l, D, d, rfl, q1, q2, hsm, by omega, R2.up (by omega), hX⟩
end
section
open Go.RowKit Go.Proofs.YtgdgnlpohnpgiaaGreatDoorW.PrintWords Go.Proofs.YtgdgnlpohnpgiaaGreatDoorW.PrintLast
set_option maxRecDepth 100000
set_option linter.unusedVariables false
set_option linter.unusedSimpArgs false
attribute [local go_sem] cell_set_far cell_set_off
def CSheetK (w : World) (e : Ending) (w' : World) : Prop := ∃ (l : List FeatD) (D : Option Addr) (d : Nat) (id : ByteArray), e = .returned (.tuple #[.slice D l.length d, .string id]) ∧ l.length ≤ d ∧ kFeat.C w' D l.length l ∧ (∀ f ∈ l, FSm 4 f) ∧ l.length ≤ 20 ∧ id.size ≤ 10 ∧ Below w.heap.size w w'
def CSheetP (w : World) (e : Ending) (w' : World) : Prop := ∃ (l : List FeatD) (D : Option Addr) (d : Nat) (f : FeatD) (A : Option Addr) (c : Nat) (B : Option Addr) (d2 : Nat), e = .returned (.tuple #[.slice D l.length d, featV f A c B d2]) ∧ l.length ≤ d ∧ kFeat.C w' D l.length l ∧ (∀ f ∈ l, FSm 4 f) ∧ l.length ≤ 20 ∧ kPt.C w' A f.2.1.2.length f.2.1.2 ∧ kTag.C w' B f.2.2.length f.2.2 ∧ f.2.1.2.length ≤ c ∧ f.2.2.length ≤ d2 ∧ FSm 4 f ∧ Below w.heap.size w w'
end
section
open Go.RowKit Go.Proofs.YtgdgnlpohnpgiaaGreatDoorW.PrintWords Go.Proofs.YtgdgnlpohnpgiaaGreatDoorW.PrintLast
set_option maxRecDepth 100000
set_option linter.unusedVariables false
set_option linter.unusedSimpArgs false
/-- A map drawn of a code. -/
def CSheet (w : World) (e : Ending) (w' : World) : Prop := ∃ (l : List FeatD) (D : Option Addr) (d : Nat), e = .returned (.slice D l.length d) ∧ l.length ≤ d ∧ kFeat.C w' D l.length l ∧ (∀ f ∈ l, FSm 4 f) ∧ l.length ≤ 20 ∧ Below w.heap.size w w'
theorem DrawSheetText_d (A : Option Addr) (c : Nat) (l : List Int) (w : World) (hl : (Kd.int .u8).C w A l.length l) (hb : ∀ x ∈ l, 0 ≤ x ∧ x ≤ 255) (hc : l.length ≤ c) (hn : l.length ≤ 1048576) :
    Calls Tryz.prog 17 #[.slice A l.length c] w (CSheet w) := by
  go_enter Tryz.func17, Tryz.ntmps17
  go_wp2_with fail
  refine (l12Open_d A c l _ (Kd.C_below hl bl) hb hc hn).mono ?_
  rintro e w1 ⟨b, rfl, R1, hb1, hB1⟩
  have s1 := hB1.size
  go_wp2_with fail
  refine (l3Bent_d b b 0 _ _ R1 (by omega) R1.lt).mono ?_
  rintro e w2 ⟨m, D, d, rfl, hd, hC2, hsm, hlen, R2, hx2⟩
  have B_2 := hx2.bel (bl : Below w.heap.size w w1) (by omega)
  go_wp2
  go_ret
  exact ⟨m, D, d, rfl, hd, kFeat_sub hC2 (lss_le b w2 b), hsm, hlen, B_2⟩
theorem iSheetText_no (l : List FeatD) (A : Option Addr) (c : Nat) (w : World) (hl : kFeat.C w A l.length l) (hn : l.length ≤ 1048576) (X : ∀ f ∈ l, FTx f) (hno : sheetOk l = false) :
    Calls Tryz.prog 18 #[.slice A l.length c] w fun e w' => e = .returned (.string ⟨#[]⟩) ∧ Below w.heap.size w w' := by
  have hO := iSheetOk_c A c l
  rw [hno] at hO
  have HO := Lib.hid hO
  clear hO
  go_enter Tryz.func18, Tryz.ntmps18
  go_wp2_with fail
  refine (HO.out _ (Kd.C_below hl bl) hn X).mono ?_
  rintro e w1 ⟨rfl, hb1⟩
  go_wp2
  go_ret
  exact ⟨rfl, bl⟩
end
end Go.Proofs.YtgdgnlpohnpgiaaGreatDoor
