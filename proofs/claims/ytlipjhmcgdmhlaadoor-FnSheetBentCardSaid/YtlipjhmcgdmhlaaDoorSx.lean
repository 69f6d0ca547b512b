/- Contracts: what is drawn: a map. -/
import Derived.Test.YtlipjhmcgdmhlaaDoorSl
import Derived.Test.YtlipjhmcgdmhlaaDoorDx
namespace Go.Proofs.YtlipjhmcgdmhlaaDoor
open Go.RowKit Go.Proofs.YtlipjhmcgdmhlaaDoorW.PrintWords Go.Proofs.YtlipjhmcgdmhlaaDoorW.PrintLast
set_option maxRecDepth 100000
set_option linter.unusedVariables false
set_option linter.unusedSimpArgs false
attribute [local go_sem] cell_set_far cell_set_off
theorem less_iff {W : World} {b : Nat} {p : Addr} {u : Value} : (World.less W b).cell? p = some u ↔ p.block ≠ b ∧ W.cell? p = some u := by
  constructor
  · intro hc
    have hne : p.block ≠ b := fun e => less_self W b p e u hc
    exact ⟨hne, by rwa [less_cell W b p hne] at hc⟩
  · rintro ⟨h1, h3⟩
    rw [less_cell W b p h1]; exact h3
/-- What is read without two blocks: one more and the drawer's. -/
def lss (g : Nat) (W : World) (b : Nat) : World := World.less (World.less W g) b
theorem lss_iff {g : Nat} {W : World} {b : Nat} {p : Addr} {u : Value} : (lss g W b).cell? p = some u ↔ p.block ≠ b ∧ p.block ≠ g ∧ W.cell? p = some u := by
  unfold lss
  rw [less_iff, less_iff]
theorem lss_heap (g : Nat) (W : World) (b k : Nat) (h : k ≠ b) (h2 : k ≠ g) : (lss g W b).heap[k]? = W.heap[k]? := (less_heap _ b k h).trans (less_heap W g k h2)
theorem lss_le (g : Nat) (W : World) (b : Nat) : Sub (lss g W b) W := fun p u hc => (lss_iff.1 hc).2.2
theorem lss_ex {g : Nat} {W W1 : World} {b : Nat} (hx : Ex b (b + 1) W W1) : Sub (lss g W b) (lss g W1 b) := fun p u hc => by
  obtain ⟨h1, h2, h3⟩ := lss_iff.1 hc
  exact lss_iff.2 ⟨h1, h2, hx.cell h3 (by omega)⟩
/-- What is read without those and a row's. -/
def less2 (g : Nat) (W : World) (b : Nat) (v : Value) : World := lessV (lss g W b) v
theorem less2_cell {g : Nat} {W : World} {b : Nat} {v : Value} {p : Addr} {u : Value} : (less2 g W b v).cell? p = some u ↔ p.block ≠ b ∧ p.block ≠ g ∧ (∀ k, v.ownBlock = some k → p.block ≠ k) ∧ W.cell? p = some u := by
  constructor
  · intro hc
    obtain ⟨h1, h2, h3⟩ := lss_iff.1 (lessV_le _ _ p u hc)
    refine ⟨h1, h2, fun k hg e => ?_, h3⟩
    unfold less2 lessV at hc
    rw [hg] at hc
    exact less_self _ k p e u hc
  · rintro ⟨h1, h2, h3, h4⟩
    unfold less2 lessV
    cases hv : v.ownBlock with
    | none => exact lss_iff.2 ⟨h1, h2, h4⟩
    | some k => simp only; rw [less_cell _ k p (h3 k hv)]; exact lss_iff.2 ⟨h1, h2, h4⟩
theorem less2_ex {g : Nat} {W W1 : World} {b : Nat} {v : Value} (hx : Ex b (b + 1) W W1) : Sub (less2 g W b v) (less2 g W1 b v) := fun p u hc => by
  obtain ⟨h1, h2, h3, h4⟩ := less2_cell.1 hc
  exact less2_cell.2 ⟨h1, h2, h3, hx.cell h4 (by omega)⟩
theorem less2_le {g : Nat} {W : World} {b : Nat} {v : Value} : Sub (less2 g W b v) (lss g W b) := fun p u hc => by
  obtain ⟨h1, h2, h3, h4⟩ := less2_cell.1 hc
  exact lss_iff.2 ⟨h1, h2, h4⟩
theorem less2_new {g : Nat} {W W1 : World} {b : Nat} {v : Value} (hb : Below W.heap.size W W1) (hg : ∀ k, v.ownBlock = some k → W.heap.size ≤ k) : Sub (lss g W b) (less2 g W1 b v) := fun p u hc => by
  obtain ⟨h1, h2, h3⟩ := lss_iff.1 hc
  have hlt := World.block_lt_of_cell? _ _ h3
  exact less2_cell.2 ⟨h1, h2, fun k e => by have := hg k e; omega, pw_cell_below hb h3⟩
theorem less2_grown {g : Nat} {W W1 : World} {b : Nat} {v : Value} (hg : W.grownBy W1 v.ownBlock) : Sub (less2 g W b v) (lss g W1 b) := fun p u hc => by
  obtain ⟨h1, h2, h3, h4⟩ := less2_cell.1 hc
  have hlt := World.block_lt_of_cell? _ _ h4
  refine lss_iff.2 ⟨h1, h2, ?_⟩
  rw [World.cell?_of_block (w := W) (hg.block _ hlt (fun e => h3 _ e.symm rfl))]
  exact h4
theorem Inn.less1 {W : World} {a b' b : Nat} {f : FeatD} {x : RawF} (h : Inn W a b' f x) (hb : b < a ∨ b' ≤ b) : Inn (World.less W b) a b' f x := Inn.less (v := .slice (some ⟨b, 0, none⟩) 1 1) h (fun g e => (show b = g by simpa [Value.ownBlock] using e) ▸ hb)
theorem Inn.lss {W : World} {a b' b : Nat} {f : FeatD} {x : RawF} (g : Nat) (h : Inn W a b' f x) (hb : b < a ∨ b' ≤ b) (hg : g < a ∨ b' ≤ g) : Inn (lss g W b) a b' f x := (h.less1 hg).less1 hb
/-- A drawn map: a row of one's own, its things read beside the drawer's block and the row's own. -/
def DS (g : Nat) (w0 w : World) (b M : Nat) (n : Nat) (l : List FeatD) (D : Option Addr) (e : Nat) (wr : World) : Prop := ∃ W0, (kRaw W0).R 34 wr w.heap.size (fun _ => True) (.slice D l.length e) l ∧ Sub W0 (less2 g wr b (.slice D l.length e)) ∧ (∀ f ∈ l, FSm 4 f) ∧ l.length ≤ n ∧ Rdr w0 wr b M ∧ Ex b (b + 1) w wr
theorem FSm.up {n m : Nat} {f : FeatD} (h : FSm n f) (hm : n ≤ m) : FSm m f := ⟨h.id, h.pts, Nat.le_trans h.tags hm, h.txt⟩
set_option maxHeartbeats 4000000 in
theorem l3Sheet_d (g b N : Nat) (w0 w : World) (R : Rdr w0 w b N) (hN : N ≤ 700000) (hgw : g < w.heap.size) : Calls Tryd.prog 38 #[.pointer (some ⟨b, 0, none⟩)] w fun e w' => ∃ (l : List FeatD) (D : Option Addr) (d : Nat), e = .returned (.slice D l.length d) ∧ DS g w0 w b (N + 1000) 4 l D d w' := by
  have hbw := R.lt
  go_enter Tryd.func38, Tryd.ntmps38
  go_wp2_with fail
  refine (pick_d b N _ w0 _ (R.to bl) (by omega)).mono ?_
  rintro e w1 ⟨v, rfl, hv0, hv1, R1, hx1⟩
  have hv5 := hv1 (by decide)
  clear hv1
  obtain ⟨n, rfl⟩ : ∃ n : Nat, v = n := ⟨v.toNat, by omega⟩
  have hstart : DS g w0 w b (N + 1) 0 [] (some ⟨w.heap.size, 0, none⟩) 0 w1 :=
    ⟨lss g (w.alloc (.cells #[] 34)) b |> fun W => lessV W (.slice (some ⟨w.heap.size, 0, none⟩) 0 0), R_ex (litK (kRaw _) 34 w w.heap.size (Nat.le_refl _)) hx1 (by omega), less2_ex hx1, (fun f hf => by cases hf), Nat.le_refl _, R1, (Ex.of bl (by omega)).trans hx1⟩
  clear R1 hx1
  go_wp2
  go_loopw [3, 4] (fun q3 q4 wr => ∃ (i : Nat) (l : List FeatD) (D : Option Addr) (d : Nat), i ≤ 4 ∧ q4 = .int .i64 i ∧ q3 = .slice D l.length d ∧ Aside0 (DS g w0 w b (N + 1 + 200 * (4 - i)) (4 - i) l D d wr)) (fun _ q4 _ => (intOf q4).toNat)
  case atStart => exact ⟨n, [], _, 0, by omega, rfl, rfl, ⟨by obtain ⟨W0, h1, h2, h3, h4, h5, h6⟩ := hstart; exact ⟨W0, h1, h2, h3, by simp, h5.up (by omega), h6⟩⟩⟩
  case round =>
    clear hstart
    obtain ⟨i, l, D, d, hi4, rfl, rfl, ⟨W0, hrow, hsub, hsm, hlen, hR, hX⟩⟩ := hrel
    have sr := hX.1.size
    have rl := hR.lt
    by_cases hi : 0 < i
    · have d1 : decide ((0 : Int) < (i : Int)) = true := decide_eq_true (by omega)
      obtain ⟨j, hj⟩ : ∃ j, j + 1 = i := ⟨i - 1, by omega⟩
      have hw : IntKind.i64.wrap ((i : Int) - 1) = (j : Int) := by rw [IntWalk.i64_in _ (by omega)]; omega
      go_wp2_with fail
      refine (l2Id_d b _ w0 _ hR (by omega)).mono ?_
      rintro e w2 ⟨id, rfl, hid, R2, hx2⟩
      go_wp2_with fail
      refine (l2Feat_d b _ id w0 _ R2 (by omega) hid).mono ?_
      rintro e w3 ⟨f, A3, c3, B3, d3, rfl, hp3, ht3, hS3, R3, hx3⟩
      have s2 := hx2.1.size
      have s3 := hx3.1.size
      have hx23 := hx2.trans hx3
      have hrow3 := R_ex hrow hx23 (by omega)
      have hsub3 : Sub W0 (lss g w3 b) := (hsub.trans less2_le).trans (lss_ex hx23)
      have hC3 : (kRaw (lss g w3 b)).C w3 D l.length l := ReadsRow.sub (R' := kFeat.K (lss g w3 b)) (Kd.R_reads' hrow3).2.2 (Sub.refl w3) (fun _ _ hk => kFeat_subK hk hsub3)
      have hI3 : Inn w3 w2.heap.size w3.heap.size f (f.1, f.2.1.1, .slice A3 f.2.1.2.length c3, .slice B3 f.2.2.length d3) := ⟨rfl, rfl, hp3, ht3⟩
      have hK3 := (hI3.lss (b := b) g (Or.inl (by omega)) (Or.inl (by omega))).K
      go_wp2_with fail
      refine (l3Put_g (lss g w3 b) D d l f A3 c3 B3 d3 _ hC3 (lss_le g w3 b) (by omega) hK3).mono ?_
      rintro e w4 ⟨D4, d4, rfl, hr4, hb4⟩
      have hpl := putK_le l f
      have hS4 : DS g w0 w b (N + 1 + 200 * (4 - j)) (4 - j) (putK l f) D4 d4 w4 :=
        ⟨lss g w3 b, Kd.R_lower hr4 (by omega), less2_new hb4 (fun k e => (kRaw_lt hr4 k e).1), fun f' hg => by
          rcases putK_mem hg with rfl | hg
          · exact hS3.up (by omega)
          · exact hsm f' hg, by omega, (R3.to hb4).up (by omega), (hX.trans hx23).to hb4 (by omega)⟩
      clear hrow hrow3 hsub3 hC3 hI3 hK3 hp3 ht3 hr4
      go_wp2
      exact ⟨⟨j, putK l f, D4, d4, by omega, rfl, rfl, ⟨hS4⟩⟩, by simp [intOf]; omega⟩
    · have d1 : decide ((0 : Int) < (i : Int)) = false := decide_eq_false (by omega)
      go_wp2
      go_ret
      exact ⟨l, D, d, rfl, W0, hrow, hsub, hsm, by omega, hR.up (by omega), hX⟩
end Go.Proofs.YtlipjhmcgdmhlaaDoor
