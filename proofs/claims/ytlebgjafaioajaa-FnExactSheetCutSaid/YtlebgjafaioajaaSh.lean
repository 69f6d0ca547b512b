/- Contracts: a map copied by the law, marked and held. -/
import Derived.Test.YtlebgjafaioajaaSg
namespace Go.Proofs.Ytlebgjafaioajaa
open Go.RowKit Go.Proofs.YtlebgjafaioajaaW.PrintWords Go.Proofs.YtlebgjafaioajaaW.PrintLast
set_option maxRecDepth 100000
set_option linter.unusedVariables false
set_option linter.unusedSimpArgs false
/-- What the loop of a copying keeps. -/
structure TSs (w wr : World) (g n cap k : Nat) (l : List FeatD) (xs : List RawF) (I J : Nat → Nat) : Prop where
  len : xs.length = k
  row : kV.R 35 wr w.heap.size (fun _ => True) (.slice (some ⟨g, 0, none⟩) n cap) (xs ++ List.replicate (n - k) raw0)
  bnd : ∀ i, i < k → g < I i ∧ I i ≤ J i ∧ J i ≤ wr.heap.size
  ord : ∀ i j, i < j → j < k → J i ≤ I j
  inn : ∀ i, (h : i < k) → (h1 : i < l.length) → (h2 : i < xs.length) → Inn wr (I i) (J i) l[i] xs[i]
  bel : Below w.heap.size w wr
  gsz : g < wr.heap.size
theorem TSs.step {w wr w2 : World} {g n cap k : Nat} {l : List FeatD} {xs : List RawF} {I J : Nat → Nat} {f : FeatD} {r : RawF} (h : TSs w wr g n cap k l xs I J) (hk : k < n) (hl : k < l.length) (hf : l[k] = f) (hg : w.heap.size ≤ g) (hb : Below wr.heap.size wr w2) (hi : Inn w2 wr.heap.size w2.heap.size f r) :
    TSs w ((((w2.setCell ⟨g, k * 4, none⟩ (.string r.1)).setCell ⟨g, k * 4 + 1, none⟩ (.int .i64 r.2.1)).setCell ⟨g, k * 4 + 2, none⟩ r.2.2.1).setCell ⟨g, k * 4 + 3, none⟩ r.2.2.2) g n cap (k + 1) l (xs ++ [r]) (fun i => if i = k then wr.heap.size else I i) (fun i => if i = k then w2.heap.size else J i) := by
  have hgs := h.gsz
  have hs := hb.size
  have hn := h.len
  have far4 : ∀ {a b : Nat} {f : FeatD} {x : RawF}, Inn w2 a b f x → g < a → Inn ((((w2.setCell ⟨g, k * 4, none⟩ (.string r.1)).setCell ⟨g, k * 4 + 1, none⟩ (.int .i64 r.2.1)).setCell ⟨g, k * 4 + 2, none⟩ r.2.2.1).setCell ⟨g, k * 4 + 3, none⟩ r.2.2.2) a b f x :=
    fun h hga => (((h.far (p := ⟨g, k * 4, none⟩) (.inl hga) _).far (p := ⟨g, k * 4 + 1, none⟩) (.inl hga) _).far (p := ⟨g, k * 4 + 2, none⟩) (.inl hga) _).far (p := ⟨g, k * 4 + 3, none⟩) (.inl hga) _
  refine ⟨by simp [hn], ?_, fun i hi_ => ?_, fun i j hij hj => ?_, fun i h1 h2 h3 => ?_, ?_, by simp; omega⟩
  · have h1 := set_V (Kd.R_below h.row hb) k hk r hi.one.1 hi.one.2
    have e : (xs ++ List.replicate (n - k) raw0).set k r = xs ++ [r] ++ List.replicate (n - (k + 1)) raw0 := by
      rw [List.set_append_right _ _ (by omega), hn, Nat.sub_self, show n - k = (n - (k + 1)) + 1 by omega, List.replicate_succ, List.set_cons_zero, List.append_assoc]
      rfl
    rw [e] at h1
    exact h1
  · by_cases e : i = k
    · simp only [e, if_true]; simp; omega
    · simp only [if_neg e]
      have := h.bnd i (by omega)
      simp; omega
  · have e1 : i ≠ k := by omega
    simp only [if_neg e1]
    by_cases e : j = k
    · simp only [e, if_true]; exact (h.bnd i (by omega)).2.2
    · simp only [if_neg e]; exact h.ord i j hij (by omega)
  · by_cases e : i = k
    · subst e
      simp only [if_true]
      rw [List.getElem_append_right (by omega)]
      simp only [hn, Nat.sub_self, List.getElem_cons_zero]
      rw [hf]
      exact far4 hi hgs
    · simp only [if_neg e]
      rw [List.getElem_append_left (by omega)]
      exact far4 ((h.inn i (by omega) h2 (by omega)).below hb) (h.bnd i (by omega)).1
  · exact ((((h.bel.trans (hb.mono h.bel.size)).setCell hg _).setCell hg _).setCell hg _).setCell hg _
theorem raw0_M (w : World) (base : Nat) (ok : Nat → Prop) : kV.M w base ok raw0 [.string ByteArray.empty, .int .i64 0, .slice none 0 0, .slice none 0 0] := ⟨rfl, rfl, rfl⟩
set_option maxHeartbeats 4000000 in
theorem toFeatS_s (A : Option Addr) (c : Nat) (l : List FeatD) (w : World) (hl : kFeat.C w A l.length l) (hn : Few l) :
    Calls Try.prog 28 #[.slice A l.length c] w (NSep w l) := by
  have n1 := hn.1
  go_enter Try.func28, Try.ntmps28
  go_wp2_with ((with_reducible refine gate_dst (N := 7) rfl ?_); refine Kd.R_make kV w.heap.size 35 rfl (N := 7) rfl 43 _ _ rfl (l.length : Int) rfl rfl Try.underlying43 (.agg #[.string ByteArray.empty, .int .i64 0, .slice none 0 0, .slice none 0 0]) 72 info_Feat rfl (by decide) (by omega) raw0 (ok := fun _ => True) (okp := fun _ => True) (raw0_M _ _ _) (fun _ hk => hk) trivial (by omega) (by simp; omega) (Below.refl _ _) (Nat.le_refl _) ?_; intro v w1 hr hb hg hv; clear hg)
  obtain ⟨g, cap, rfl, hg⟩ := R_formed hr hv
  simp only [Int.toNat_natCast, List.length_replicate] at hr ⊢
  clear hv
  have hgw : g < w1.heap.size := by
    obtain ⟨inner, ho⟩ := Kd.R_own hr
    exact own_lt ho g rfl
  go_loopw [4] (fun i wr => ∃ (k : Nat) (xs : List RawF) (I J : Nat → Nat), k ≤ l.length ∧ i = .int .i64 k ∧ Aside0 (TSs w wr g l.length cap k l xs I J)) (fun i _ => l.length - (intOf i).toNat)
  case atStart => exact ⟨0, [], fun _ => 0, fun _ => 0, by omega, rfl, ⟨⟨rfl, by simpa using hr, fun i h => by omega, fun i j _ h => by omega, fun i h => by omega, hb, hgw⟩⟩⟩
  case round =>
    obtain ⟨k, xs, I, J, hk, rfl, ⟨hS⟩⟩ := hrel
    clear hr hb
    have hb1 := hS.bel
    by_cases hlt : k < l.length
    · obtain ⟨ad, A1, c1, B1, d1, rfl, e0, e1, e2, e3, hC, hT, hc1, hd1⟩ := at_Feat hl k hlt
      replace e0 := pw_cell_below hb1 e0
      replace e1 := pw_cell_below hb1 e1
      replace e2 := pw_cell_below hb1 e2
      replace e3 := pw_cell_below hb1 e3
      have hzk := hn.2 _ (List.getElem_mem hlt)
      have Hstep := Lib.hid (fun (f : FeatD) (w2 : World) (r : RawF) (hf : l[k] = f) (hb : Below wr.heap.size wr w2) (hi : Inn w2 wr.heap.size w2.heap.size f r) => hS.step hlt hlt hf hg hb hi)
      have hkx : k < (xs ++ List.replicate (l.length - k) raw0).length := by simp [hS.len]; omega
      generalize hf : l[k] = f at *
      have hr0 := hS.row
      clear hS hf
      go_wp2_with fail
      refine (toFeat_c f A1 c1 B1 d1 _ (Kd.C_below hC hb1) (Kd.C_below hT hb1) hzk.1 hzk.2).mono ?_
      rintro e w2 ⟨A2, c2, B2, d2, rfl, hp2, ht2, hb2⟩
      obtain ⟨x0, x1, x2, x3, y0, y1, y2, y3⟩ := own_V (Kd.R_below hr0 hb2) k hkx
      have hS2 := Hstep.out f w2 (f.1, f.2.1.1, .slice A2 f.2.1.2.length c2, .slice B2 f.2.2.length d2) rfl hb2 ⟨rfl, rfl, hp2, ht2⟩
      clear hr0 Hstep hp2 ht2
      go_wp2
      exact ⟨⟨k + 1, _, _, _, by omega, by go_num, ⟨hS2⟩⟩, by simp [intOf]; omega⟩
    · go_wp2
      go_ret
      obtain rfl : k = l.length := by omega
      have hrow := hS.row
      rw [Nat.sub_self, List.replicate_zero, List.append_nil] at hrow
      exact ⟨_, _, rfl, ⟨xs, I, J, ⟨RI.of hrow, hS.len, fun i hi => ⟨by have := (hS.bnd i hi).1; omega, (hS.bnd i hi).2.1, (hS.bnd i hi).2.2, fun g' e => by injection e with e; subst e; exact .inl (hS.bnd i hi).1⟩, hS.ord, fun i h1 h2 => hS.inn i h1 h1 h2⟩⟩, hb1⟩
end Go.Proofs.Ytlebgjafaioajaa
