/- Contracts: copies of a map, things' rows apart. -/
import Derived.Test.YtlebgjafaioajaaSe
namespace Go.Proofs.Ytlebgjafaioajaa
open Go.RowKit Go.Proofs.YtlebgjafaioajaaW.PrintWords Go.Proofs.YtlebgjafaioajaaW.PrintLast
set_option maxRecDepth 100000
set_option linter.unusedVariables false
set_option linter.unusedSimpArgs false
abbrev z0Feat : Value := .agg #[.string ByteArray.empty, .int .i64 0, .slice none 0 0, .slice none 0 0]
/-- A row of no elements, written out. -/
theorem litK {α : Type} (d : Kd α) (e : Nat) (w : World) (base : Nat) (hb : base ≤ w.heap.size) : d.R e (w.alloc (.cells #[] e)) base (fun _ => True) (.slice (some ⟨w.heap.size, 0, none⟩) 0 0) [] :=
  ⟨fun _ _ => trivial, [], World.ownsRow_lit (base := base) (e := e) (size := d.sz) w #[] 0 hb (by decide) (by simp), Reps.none _ _⟩
theorem Sep.lit0 (w : World) (base : Nat) (hb : base ≤ w.heap.size) : Sep (w.alloc (.cells #[] 35)) base (w.alloc (.cells #[] 35)).heap.size (.slice (some ⟨w.heap.size, 0, none⟩) 0 0) [] :=
  ⟨[], fun _ => 0, fun _ => 0, ⟨RI.of (litK kV _ w base hb), rfl, fun i h => by simp at h, fun i j _ h => by simp at h, fun i h => by simp at h⟩⟩
section
variable {ops : Array Oper} {rest : List Oper} {o : Oper} {a : Act} {Q : Exit → Act → World → Prop}
/-- append(v, f): a thing of one's own, behind all rows so far. -/
theorem appSep {w0 W : World} {base : Nat} (s x : Operand) (v : Value) {l : List FeatD} {xs : List RawF} {I J : Nat → Nat} (f : FeatD) (r : RawF) (cs : List Value) (hcs : cs = rawL r) {p q : Nat} (h : FSep W base W.heap.size v l xs I J) (hpq : p ≤ q) (hq : q ≤ W.heap.size) (hI : Inn W p q f r) (hba : base ≤ p) (hJ : ∀ i, i < l.length → J i ≤ p) (hv : ∀ g, v.ownBlock = some g → g < p ∨ q ≤ g)
    (HB : Below base w0 W) (hl : l.length ≤ 1048577)
    (hk : ∀ A' c' w1, Sep w1 base w1.heap.size (.slice A' (l.length + 1) c') (l ++ [f]) → Below base w0 w1 → wpList Try.prog ops Q rest (a.put o.dst (.slice A' (l.length + 1) c')) w1)
    (hgd : o.guard = none := by rfl) (ho : o.op = .call { callee := .builtin .append, args := #[s, x], argTypes := #[43, 43] } := by rfl) (hs : a.eval s = v := by rfl) (hx : a.eval x = .slice (some ⟨W.heap.size, 0, none⟩) 1 1 := by rfl) :
    wpList Try.prog ops Q (o :: rest) a (W.alloc (.cells cs.toArray 35)) := by
  subst hcs
  have hn := h.len
  refine Kd.R_append kV (w0 := w0) base hgd s x 43 35 z0Feat 72 ho Try.underlying43 info_Feat rfl (by decide) (by omega) v xs r (rawL r) (fun _ => True) (fun _ => False) hs hx ⟨rfl, hI.one⟩ (fun _ hk => hk.elim) (fun _ _ => trivial) (h.row.up (Nat.le_refl _)) HB (by omega) (by omega) ?_
  intro v1 w1 ho1 hb1 hg1 hat
  have hs1 := FSep.snoc h hpq hq hI hba hJ hv ho1 hg1 hat
  obtain ⟨A', c', rfl⟩ := Kd.R_slice ho1
  have e : (xs ++ [r]).length = l.length + 1 := by rw [List.length_append, hn]; rfl
  rw [e] at hs1 ⊢
  exact hk A' c' w1 hs1 hb1
end
/-- A map in new memory, its things' rows apart. -/
def NSep (w : World) (l : List FeatD) (e : Ending) (w' : World) : Prop := ∃ A c, e = .returned (.slice A l.length c) ∧ Sep w' w.heap.size w'.heap.size (.slice A l.length c) l ∧ Below w.heap.size w w'
set_option maxHeartbeats 4000000 in
theorem cloneSheet_c (A : Option Addr) (c : Nat) (l : List FeatD) (w : World) (hl : kFeat.C w A l.length l) (hn : Few l) :
    Calls Try.prog 85 #[.slice A l.length c] w (NSep w l) := by
  have n1 := hn.1
  go_enter Try.func85, Try.ntmps85
  go_wp2
  go_loopw [3, 9] (fun q3 q9 wr => ∃ (k : Nat) (B : Option Addr) (d : Nat), k ≤ l.length ∧ q9 = .int .i64 k ∧ q3 = .slice B k d ∧ Aside0 (Sep wr w.heap.size wr.heap.size (.slice B k d) (l.take k)) ∧ Aside0 (Below w.heap.size w wr)) (fun _ q9 _ => l.length - (intOf q9).toNat)
  case atStart => exact ⟨0, _, _, by omega, rfl, rfl, ⟨Sep.lit0 w w.heap.size (Nat.le_refl _)⟩, ⟨bl⟩⟩
  case round =>
    obtain ⟨k, B, d, hk, rfl, rfl, ⟨hsep⟩, ⟨hb⟩⟩ := hrel
    by_cases hlt : k < l.length
    · obtain ⟨ad, A1, c1, B1, d1, rfl, e0, e1, e2, e3, hC, hT, _, _⟩ := at_Feat hl k hlt
      replace e0 := pw_cell_below hb e0
      replace e1 := pw_cell_below hb e1
      replace e2 := pw_cell_below hb e2
      replace e3 := pw_cell_below hb e3
      have z1 := hn.2 _ (List.getElem_mem hlt)
      have d1' : decide ((k : Int) < (l.length : Int)) = true := decide_eq_true (by omega)
      have hst := Lib.hid (List.take_succ_eq_append_getElem hlt)
      have htl : (l.take k).length = k := by rw [List.length_take]; omega
      obtain ⟨xs, I, J, hS⟩ := hsep
      generalize l[k] = f at *
      generalize l.take k = lk at *
      generalize hl1 : l.take (k + 1) = lk1 at *
      have Hl1 := Lib.hid hl1
      clear hl1
      have Htl := Lib.hid htl
      have s0 := hb.size
      clear htl
      go_wp2_with fail
      refine (cloneF_c f A1 c1 B1 d1 _ (Kd.C_below hC bl) (Kd.C_below hT bl) z1.1 z1.2).mono ?_
      rintro e w2 ⟨A2, c2, B2, d2, rfl, hp2, ht2, hb2⟩
      have s2 := hb2.size
      simp only [World.size_alloc] at s2 hp2 ht2
      have hb3 : Below wr.heap.size wr w2 := bl
      have hB : Below w.heap.size w w2 := bl
      have hS2 := (hS.below hb3).wide (Nat.le_refl _) hb3.size
      have hJ : ∀ i, i < lk.length → J i ≤ wr.heap.size + 1 := fun i hi => by have := (hS.bnd i hi).2.2.1; omega
      have hv : ∀ g, (Value.slice B k d).ownBlock = some g → g < wr.heap.size + 1 ∨ w2.heap.size ≤ g := fun g hg => by have : g < wr.heap.size := hS.row.1 g hg; omega
      have hk9 : lk.length ≤ 1048577 := by have := Htl.out; omega
      have HK := Lib.hid (And.intro hS2 (And.intro hJ hv))
      clear hS hS2 hJ hv e0 e1 e2 e3
      go_wp2_with (at_builtin; refine appSep (w0 := w) (base := w.heap.size) (.tmp 13) (.tmp 16) _ f (f.1, f.2.1.1, .slice A2 f.2.1.2.length c2, .slice B2 f.2.2.length d2) [.string f.1, .int .i64 f.2.1.1, .slice A2 f.2.1.2.length c2, .slice B2 f.2.2.length d2] rfl HK.out.1 (by omega) (Nat.le_refl _) ⟨rfl, rfl, hp2, ht2⟩ (by omega) HK.out.2.1 HK.out.2.2 hB hk9 ?_; intro B5 d5 w5 hs5 hb5; replace hs5 := (show Sep w5 w.heap.size w5.heap.size (.slice B5 (k + 1) d5) lk1 by rw [hst.out]; have h_ := hs5; rwa [Htl.out] at h_); rw [Htl.out])
      exact ⟨⟨k + 1, B5, d5, by omega, by go_num, rfl, ⟨by rw [Hl1.out]; exact hs5⟩, ⟨hb5⟩⟩, by simp [intOf]; omega⟩
    · have d1 : decide ((k : Int) < (l.length : Int)) = false := decide_eq_false (by omega)
      obtain rfl : k = l.length := by omega
      rw [List.take_length] at hsep
      go_wp2
      go_ret
      exact ⟨B, d, rfl, hsep, hb⟩
set_option maxHeartbeats 4000000 in
theorem l3Copy_c (A : Option Addr) (c : Nat) (l : List FeatD) (w : World) (hl : kFeat.C w A l.length l) (hn : Few l) :
    Calls Try.prog 83 #[.slice A l.length c] w (NSep w l) := by
  have n1 := hn.1
  go_enter Try.func83, Try.ntmps83
  go_wp2
  go_loopw [3, 4] (fun q3 q9 wr => ∃ (k : Nat) (B : Option Addr) (d : Nat), k ≤ l.length ∧ q9 = .int .i64 k ∧ q3 = .slice B k d ∧ Aside0 (Sep wr w.heap.size wr.heap.size (.slice B k d) (l.take k)) ∧ Aside0 (Below w.heap.size w wr)) (fun _ q9 _ => l.length - (intOf q9).toNat)
  case atStart => exact ⟨0, _, _, by omega, rfl, rfl, ⟨Sep.lit0 w w.heap.size (Nat.le_refl _)⟩, ⟨bl⟩⟩
  case round =>
    obtain ⟨k, B, d, hk, rfl, rfl, ⟨hsep⟩, ⟨hb⟩⟩ := hrel
    by_cases hlt : k < l.length
    · obtain ⟨ad, A1, c1, B1, d1, rfl, e0, e1, e2, e3, hC, hT, _, _⟩ := at_Feat hl k hlt
      replace e0 := pw_cell_below hb e0
      replace e1 := pw_cell_below hb e1
      replace e2 := pw_cell_below hb e2
      replace e3 := pw_cell_below hb e3
      have z1 := hn.2 _ (List.getElem_mem hlt)
      have d1' : decide ((k : Int) < (l.length : Int)) = true := decide_eq_true (by omega)
      have hw : IntKind.i64.wrap ((k : Int) + 1) = (k : Int) + 1 := IntWalk.i64_in _ (by omega)
      have hst := Lib.hid (List.take_succ_eq_append_getElem hlt)
      have htl : (l.take k).length = k := by rw [List.length_take]; omega
      obtain ⟨xs, I, J, hS⟩ := hsep
      generalize l[k] = f at *
      generalize l.take k = lk at *
      generalize hl1 : l.take (k + 1) = lk1 at *
      have Hl1 := Lib.hid hl1
      clear hl1
      have Htl := Lib.hid htl
      have s0 := hb.size
      clear htl
      go_wp2_with fail
      refine (copyF_c f A1 c1 B1 d1 _ (Kd.C_below hC bl) (Kd.C_below hT bl) z1.1 z1.2).mono ?_
      rintro e w2 ⟨A2, c2, B2, d2, rfl, hp2, ht2, hb2⟩
      have s2 := hb2.size
      have hb3 : Below wr.heap.size wr w2 := bl
      have hB : Below w.heap.size w w2 := bl
      have hS2 := (hS.below hb3).wide (Nat.le_refl _) hb3.size
      have hJ : ∀ i, i < lk.length → J i ≤ wr.heap.size := fun i hi => by have := (hS.bnd i hi).2.2.1; omega
      have hv : ∀ g, (Value.slice B k d).ownBlock = some g → g < wr.heap.size ∨ w2.heap.size ≤ g := fun g hg => by have : g < wr.heap.size := hS.row.1 g hg; omega
      have hk9 : lk.length ≤ 1048577 := by have := Htl.out; omega
      have HK := Lib.hid (And.intro hS2 (And.intro hJ hv))
      clear hS hS2 hJ hv e0 e1 e2 e3
      go_wp2_with (at_builtin; refine appSep (w0 := w) (base := w.heap.size) (.tmp 12) (.tmp 18) _ f (f.1, f.2.1.1, .slice A2 f.2.1.2.length c2, .slice B2 f.2.2.length d2) [.string f.1, .int .i64 f.2.1.1, .slice A2 f.2.1.2.length c2, .slice B2 f.2.2.length d2] rfl HK.out.1 (by omega) (Nat.le_refl _) ⟨rfl, rfl, hp2, ht2⟩ (by omega) HK.out.2.1 HK.out.2.2 hB hk9 ?_; intro B5 d5 w5 hs5 hb5; replace hs5 := (show Sep w5 w.heap.size w5.heap.size (.slice B5 (k + 1) d5) lk1 by rw [hst.out]; have h_ := hs5; rwa [Htl.out] at h_); rw [Htl.out])
      exact ⟨⟨k + 1, B5, d5, by omega, by go_num, rfl, ⟨by rw [Hl1.out]; exact hs5⟩, ⟨hb5⟩⟩, by simp [intOf]; omega⟩
    · have d1 : decide ((k : Int) < (l.length : Int)) = false := decide_eq_false (by omega)
      obtain rfl : k = l.length := by omega
      rw [List.take_length] at hsep
      go_wp2
      go_ret
      exact ⟨B, d, rfl, hsep, hb⟩
end Go.Proofs.Ytlebgjafaioajaa
