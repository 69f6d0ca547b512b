/- Contracts: what is drawn: a map, one in ten bent; of a code. -/
import Derived.Test.YtlipjhmcgdmhlaaDoorSx
import Derived.Test.YtlipjhmcgdmhlaaDoorDu
namespace Go.Proofs.YtlipjhmcgdmhlaaDoor
open Go.RowKit Go.Proofs.YtlipjhmcgdmhlaaDoorW.PrintWords Go.Proofs.YtlipjhmcgdmhlaaDoorW.PrintLast
set_option maxRecDepth 100000
set_option linter.unusedVariables false
set_option linter.unusedSimpArgs false
attribute [local go_sem] cell_set_far cell_set_off
/-- A drawn map, read beside the drawer's block. -/
def BSheet (g : Nat) (w0 w : World) (b M : Nat) (e : Ending) (w' : World) : Prop := ∃ (l : List FeatD) (D : Option Addr) (d : Nat), e = .returned (.slice D l.length d) ∧ l.length ≤ d ∧ kFeat.C (lss g w' b) D l.length l ∧ (∀ f ∈ l, FSm 4 f) ∧ l.length ≤ 20 ∧ Rdr w0 w' b M ∧ Ex b (b + 1) w w'
theorem raw_less {W0 w wr : World} {g b n e : Nat} {D : Option Addr} {l : List FeatD} (h : (kRaw W0).R 34 wr w.heap.size (fun _ => True) (.slice D n e) l) (hb : b < w.heap.size) (hg : g < w.heap.size) (hs : Sub W0 (lss g wr b)) : n ≤ e ∧ kFeat.C (lss g wr b) D n l := by
  have h2 := Kd.R_step (w1 := lss g wr b) (Kd.R_bound h) (fun k hk _ => lss_heap g wr b k (by have := hk.2.1; omega) (by have := hk.2.1; omega))
  obtain ⟨hn, hle, hC⟩ := Kd.R_reads' h2
  exact ⟨hle, kRaw_C (hn ▸ hC) hs⟩
theorem DS.fin {w0 w wr : World} {g b M n e : Nat} {D : Option Addr} {l : List FeatD} (h : DS g w0 w b M n l D e wr) (hb : b < w.heap.size) (hg : g < w.heap.size) : l.length ≤ e ∧ kFeat.C (lss g wr b) D l.length l := by
  obtain ⟨W0, h1, h2, _⟩ := h
  exact raw_less h1 hb hg (h2.trans less2_le)
abbrev dot0 (s : ByteArray) : FeatD := (s, (1, [(0, 0)]), [])
theorem dotK (w : World) (g b : Nat) (hb : b < w.heap.size) (hg : g < w.heap.size) (s : ByteArray) : kFeat.K (lss g (w.alloc (.cells #[.int .i64 0, .int .i64 0] 30)) b) (dot0 s) [.string s, .int .i64 1, .slice (some ⟨w.heap.size, 0, none⟩) 1 1, .slice none 0 0] := by
  have h1 := RI.of (litR1 w (0, 0))
  have hI : Inn (w.alloc (.cells #[.int .i64 0, .int .i64 0] 30)) w.heap.size (w.alloc (.cells #[.int .i64 0, .int .i64 0] 30)).heap.size (dot0 s) (s, 1, .slice (some ⟨w.heap.size, 0, none⟩) 1 1, .slice none 0 0) := ⟨rfl, rfl, h1, RI.of (Kd.R_nil _ _ _ _ _) |>.wide (Nat.le_refl _) (Nat.le_refl _)⟩
  exact (hI.lss (b := b) g (Or.inl hb) (Or.inl hg)).K
set_option maxHeartbeats 8000000 in
theorem l3Bent_d (g b N : Nat) (w0 w : World) (R : Rdr w0 w b N) (hN : N ≤ 600000) (hgw : g < w.heap.size) : Calls Tryd.prog 30 #[.pointer (some ⟨b, 0, none⟩)] w (BSheet g w0 w b (N + 2000)) := by
  have hbw := R.lt
  go_enter Tryd.func30, Tryd.ntmps30
  go_wp2_with fail
  refine (l3Sheet_d g b N w0 _ R (by omega) (by omega)).mono ?_
  rintro e w1 ⟨l, D, d, rfl, W1, hrow1, hsub1, hsm, hlen, R1, hX1⟩
  go_wp2_with fail
  refine (pick_d b _ _ w0 _ R1 (by omega)).mono ?_
  rintro e w2 ⟨v, rfl, hv0, hv1, R2, hx2⟩
  clear hv1
  have hrow := R_ex hrow1 hx2 (by omega)
  have hsub := hsub1.trans (less2_ex hx2)
  have hX := hX1.trans hx2
  have s2 := hX.1.size
  clear hrow1 hsub1 hX1 hx2 R1
  rcases (show (v = 0) ∨ (v = 1) ∨ (v = 2) ∨ (3 ≤ v) by omega) with rfl | rfl | rfl | hv
  · go_wp2_with fail
    refine (l2Bent_d b _ w0 _ R2 (by omega)).mono ?_
    rintro e w3 ⟨f, A3, c3, B3, d3, rfl, hp3, ht3, hS3, R3, hx3⟩
    have s3 := hx3.1.size
    have hlt := kRaw_lt hrow
    have hrow3 := kRaw_up (R_ex hrow hx3 (by omega)) (hsub.trans (less2_ex hx3))
    have hI3 : Inn w3 w2.heap.size w3.heap.size f (f.1, f.2.1.1, .slice A3 f.2.1.2.length c3, .slice B3 f.2.2.length d3) := ⟨rfl, rfl, hp3, ht3⟩
    have hK3 := ((hI3.lss (b := b) g (Or.inl (by omega)) (Or.inl (by omega))).less (v := .slice D l.length d) (fun k e => Or.inl (hlt k e).2)).K
    have hX3 := hX.trans hx3
    have HR := Lib.hid (And.intro hK3 hrow3)
    clear hK3 hrow3 hI3
    go_wp2_with (at_builtin; refine appRaw (W0 := less2 g w3 b (.slice D l.length d)) (w0 := w3) (base := w.heap.size) (.tmp 11) (.tmp 14) _ l l.length rfl f [.string f.1, .int .i64 f.2.1.1, .slice A3 f.2.1.2.length c3, .slice B3 f.2.2.length d3] HR.out.1 HR.out.2 (Below.refl _ _) (by omega) (by omega) ?_; intro g4 c4 w4 ho4 hb4 hg4 hat4)
    go_ret
    have hl4 : (l ++ [f]).length = l.length + 1 := by simp
    obtain ⟨q1, q2⟩ := raw_less ho4 hbw hgw (less2_grown hg4)
    refine ⟨l ++ [f], some ⟨g4, 0, none⟩, c4, by rw [hl4]; rfl, by rw [hl4]; exact q1, by rw [hl4]; exact q2, fun f' hg => (List.mem_append.1 hg).elim (hsm f') (fun h => by rw [List.mem_singleton.1 h]; exact hS3), by omega, (R3.grown hg4 (fun k e => by have := (hlt k e).1; omega)).up (by omega), hX3.grown hg4 (fun k e => (hlt k e).1) (by omega)⟩
  · have hlt := kRaw_lt hrow
    have hrow2 := kRaw_up hrow hsub
    have hC2 := (Kd.R_reads' hrow2).2.2
    have HR := Lib.hid (And.intro hrow2 hC2)
    clear hrow2 hC2
    go_wp2_with ((with_reducible refine gate_dst (N := 20) rfl ?_); refine Kd.R_append_rows (kRaw (less2 g w2 b (.slice D l.length d))) (Rr := (kRaw (less2 g w2 b (.slice D l.length d))).K w2) (w0 := w2) w.heap.size rfl (.tmp 18) (.tmp 19) 42 34 z0Feat 72 rfl Tryd.underlying42 info_Feat rfl (show 0 < 4 by decide) (by omega) _ l l D l.length d (fun _ => True) (fun _ => False) rfl rfl HR.out.1 HR.out.2 (fun _ _ h => h) (fun _ h => h.elim) (fun _ _ => trivial) (Below.refl _ _) (by omega) (by omega) ?_; intro v4 w4 ho4 hb4 hg4 hat4; obtain ⟨D4, d4, rfl⟩ := Kd.R_slice ho4)
    go_ret
    obtain ⟨q1, q2⟩ := raw_less ho4 hbw hgw (less2_grown hg4)
    have hl4 : (l ++ l).length = l.length + l.length := by simp
    exact ⟨l ++ l, D4, d4, by rw [hl4]; rfl, q1, q2, fun f' hg => (List.mem_append.1 hg).elim (hsm f') (hsm f'), by simp; omega, (R2.grown hg4 (fun k e => by have := (hlt k e).1; omega)).up (by omega), hX.grown hg4 (fun k e => (hlt k e).1) (by omega)⟩
  · go_wp2
    go_loopw [3, 4] (fun q3 q4 wr => ∃ (k : Nat) (l : List FeatD) (D : Option Addr) (d : Nat), k ≤ 9 ∧ q4 = .int .i64 k ∧ q3 = .slice D l.length d ∧ Aside0 (DS g w0 w b (N + 1001) (4 + k) l D d wr)) (fun _ q4 _ => 9 - (intOf q4).toNat)
    case atStart => exact ⟨0, l, D, d, by omega, rfl, rfl, ⟨W1, hrow, hsub, hsm, hlen, R2, hX⟩⟩
    case round =>
      clear hrow hsub hsm hlen R2 hX
      obtain ⟨k, l, D, d, hk9, rfl, rfl, ⟨W0, hrow, hsub, hsm, hlen, hR, hX⟩⟩ := hrel
      have sr := hX.1.size
      have rl := hR.lt
      by_cases hk : k ≤ 8
      · have d1 : decide ((k : Int) ≤ 8) = true := decide_eq_true (by omega)
        have hw : IntKind.i64.wrap ((k : Int) + 1) = (k : Int) + 1 := IntWalk.i64_in _ (by omega)
        have hsl : ∀ W : World, (Instr.slice 9 (.string (⟨#[113, 114, 115, 116, 117, 118, 119, 120, 121, 122]⟩ : ByteArray)) (some (.int .i64 (k : Int))) (some (.int .i64 ((k : Int) + 1))) none).run Tryd.prog W = .ok (.string ((⟨#[113, 114, 115, 116, 117, 118, 119, 120, 121, 122]⟩ : ByteArray).extract k (k + 1))) W := fun W => run_slice_string (P := Tryd.prog) W 9 (⟨#[113, 114, 115, 116, 117, 118, 119, 120, 121, 122]⟩ : ByteArray) .i64 .i64 k ((k : Int) + 1) Tryd.underlying9 (by omega) (by omega) (by show (k : Int) + 1 ≤ 10; omega)
        have hs10 : ((⟨#[113, 114, 115, 116, 117, 118, 119, 120, 121, 122]⟩ : ByteArray).extract k (k + 1)).size ≤ 10 := by rw [ByteArray.size_extract]; omega
        generalize (⟨#[113, 114, 115, 116, 117, 118, 119, 120, 121, 122]⟩ : ByteArray).extract k (k + 1) = sx at *
        have bA : Below wr.heap.size wr (wr.alloc (.cells #[.int .i64 0, .int .i64 0] 30)) := bl
        have xA : Ex b (b + 1) wr (wr.alloc (.cells #[.int .i64 0, .int .i64 0] 30)) := Ex.of bA (by omega)
        have hrow3 := Kd.R_below hrow bA
        have hsub3 : Sub W0 (lss g (wr.alloc (.cells #[.int .i64 0, .int .i64 0] 30)) b) := (hsub.trans less2_le).trans (lss_ex xA)
        have hC3 : (kRaw (lss g (wr.alloc (.cells #[.int .i64 0, .int .i64 0] 30)) b)).C (wr.alloc (.cells #[.int .i64 0, .int .i64 0] 30)) D l.length l := ReadsRow.sub (R' := kFeat.K (lss g (wr.alloc (.cells #[.int .i64 0, .int .i64 0] 30)) b)) (Kd.R_reads' hrow3).2.2 (Sub.refl _) (fun _ _ hk => kFeat_subK hk hsub3)
        go_wp2_with fail
        refine (l3Put_g (lss g (wr.alloc (.cells #[.int .i64 0, .int .i64 0] 30)) b) D d l (dot0 sx) (some ⟨wr.heap.size, 0, none⟩) 1 none 0 _ hC3 (lss_le g _ b) (by omega) (dotK wr g b rl (by omega) sx)).mono ?_
        rintro e w4 ⟨D4, d4, rfl, hr4, hb4⟩
        simp only [World.size_alloc] at hr4
        have hpl := putK_le l (dot0 sx)
        have hS4 : DS g w0 w b (N + 1001) (4 + (k + 1)) (putK l (dot0 sx)) D4 d4 w4 :=
          ⟨_, Kd.R_lower hr4 (by omega), less2_new hb4 (fun k e => by have := (kRaw_lt hr4 k e).1; simp; omega), fun f' hg => by
            rcases putK_mem hg with rfl | hg
            · exact ⟨hs10, show 1 ≤ 16 by decide, show 0 ≤ 4 by decide, fun t ht => by cases ht⟩
            · exact hsm f' hg, by omega, (hR.to bA).to hb4, (hX.to bA (by omega)).to hb4 (by omega)⟩
        clear hrow hrow3 hsub3 hC3 hr4 hsl
        go_wp2
        exact ⟨⟨k + 1, putK l (dot0 sx), D4, d4, by omega, by go_num, rfl, ⟨hS4⟩⟩, by simp [intOf]; omega⟩
      · have d1 : decide ((k : Int) ≤ 8) = false := decide_eq_false (by omega)
        go_wp2
        go_ret
        obtain ⟨q1, q2⟩ := raw_less hrow hbw hgw (hsub.trans less2_le)
        exact ⟨l, D, d, rfl, q1, q2, hsm, by omega, hR.up (by omega), hX⟩
  · have t0 : (v == 0) = false := beq_eq_false_iff_ne.mpr (by omega)
    have t1 : (v == 1) = false := beq_eq_false_iff_ne.mpr (by omega)
    have t2 : (v == 2) = false := beq_eq_false_iff_ne.mpr (by omega)
    go_wp2
    go_ret
    obtain ⟨q1, q2⟩ := raw_less hrow hbw hgw (hsub.trans less2_le)
    exact ⟨l, D, d, rfl, q1, q2, hsm, by omega, R2.up (by omega), hX⟩
end Go.Proofs.YtlipjhmcgdmhlaaDoor
