/- Maps whose things' rows lie apart: copies, marks; SheetGet. -/
import Derived.Test.YtfbhjknkofnohaaDoorSa
import Derived.Test.YtfbhjknkofnohaaDoorM
import Derived.Test.YtfbhjknkofnohaaDoorFm
namespace Go.Proofs.YtfbhjknkofnohaaDoor
section
open Go.RowKit Go.Proofs.YtfbhjknkofnohaaDoorW.PrintWords Go.Proofs.YtfbhjknkofnohaaDoorW.PrintLast
set_option linter.unusedVariables false
set_option linter.unusedSimpArgs false
/-- Every cell of the one world is so in the other. -/
def Sub (W W1 : World) : Prop := ∀ p v, W.cell? p = some v → W1.cell? p = some v
theorem Sub.refl (W : World) : Sub W W := fun _ _ h => h
theorem Sub.trans {W W1 W2 : World} (h : Sub W W1) (h1 : Sub W1 W2) : Sub W W2 := fun p v hc => h1 p v (h p v hc)
theorem Sub.of {W W1 : World} (h : Below W.heap.size W W1) : Sub W W1 := fun _ _ hc => pw_cell_below h hc
theorem ReadsRow.sub {α : Type} {R R' : α → List Value → Prop} {size : Nat} {w w1 : World} {A : Option Addr} {n : Nat} {ps : List α} (h : ReadsRow R size w A n ps) (hb : Sub w w1) (hR : ∀ p c, R p c → R' p c) : ReadsRow R' size w1 A n ps :=
  ⟨h.1, h.2.1, fun hn => by
    obtain ⟨ad, e, hc⟩ := h.2.2 hn
    refine ⟨ad, e, fun j p hj => ?_⟩
    obtain ⟨c, hs, hr, hcell⟩ := hc j p hj
    exact ⟨c, hs, hR _ _ hr, fun i u hu => hb _ _ (hcell i u hu)⟩⟩
theorem kPt_sub {w w1 : World} {A : Option Addr} {n : Nat} {xs : List Pt} (h : kPt.C w A n xs) (hb : Sub w w1) : kPt.C w1 A n xs := ReadsRow.sub h hb (fun _ _ h => h)
theorem kTag_sub {w w1 : World} {A : Option Addr} {n : Nat} {xs : List Tag} (h : kTag.C w A n xs) (hb : Sub w w1) : kTag.C w1 A n xs := ReadsRow.sub h hb (fun _ _ h => h)
theorem kFeat_subK {w w1 : World} {x : FeatD} {cs : List Value} (h : kFeat.K w x cs) (hb : Sub w w1) : kFeat.K w1 x cs := by
  obtain ⟨A, c, B, d, rfl, g1, g2, g3, g4⟩ := kFeat_open h
  exact kFeat_mk w1 x A B c d g1 g2 (kPt_sub g3 hb) (kTag_sub g4 hb)
theorem kFeat_sub {w w1 : World} {A : Option Addr} {n : Nat} {xs : List FeatD} (h : kFeat.C w A n xs) (hb : Sub w w1) : kFeat.C w1 A n xs := ReadsRow.sub h hb (fun _ _ h => kFeat_subK h hb)
/-- A thing whose rows are read in the world W. -/
def kRaw (W : World) : Kd FeatD where
  sz := 4
  E := []
  K := fun _ x cs => kFeat.K W x cs
  M := fun _ _ _ x cs => kFeat.K W x cs
  K_len := fun h => kFeat.K_len h
  K_one := fun h => kFeat.K_one h
  K_below := fun _ h => h
  K_of_M := fun h => h
  M_mono := fun _ h => h
  M_bound := fun h => h
  M_move := fun _ h => h
  M_lower := fun _ h => h
theorem kRaw_C {W w : World} {A : Option Addr} {n : Nat} {xs : List FeatD} (h : (kRaw W).C w A n xs) (hs : Sub W w) : kFeat.C w A n xs := ReadsRow.sub (R' := kFeat.K w) h (Sub.refl w) (fun _ _ hk => kFeat_subK hk hs)
theorem kRaw_up {W W1 w : World} {e base : Nat} {ok : Nat → Prop} {v : Value} {xs : List FeatD} (h : (kRaw W).R e w base ok v xs) (hs : Sub W W1) : (kRaw W1).R e w base ok v xs :=
  ⟨h.1, h.2.imp_ (R' := (kRaw W1).M w base (fun k => ok k ∧ some k ≠ v.ownBlock)) (fun _ _ hk => kFeat_subK hk hs)⟩
/-- The world without a block. -/
def World.less (W : World) (g : Nat) : World := { W with heap := W.heap.modify g (fun _ => .cells #[] 0 (0, 0)) }
theorem less_heap (W : World) (g k : Nat) (h : k ≠ g) : (World.less W g).heap[k]? = W.heap[k]? := by
  unfold World.less
  simp only [Array.getElem?_modify]
  rw [if_neg (fun e => h e.symm)]
theorem less_size (W : World) (g : Nat) : (World.less W g).heap.size = W.heap.size := by unfold World.less; simp
theorem less_cell (W : World) (g : Nat) (p : Addr) (h : p.block ≠ g) : (World.less W g).cell? p = W.cell? p := World.cell?_of_block (w := W) (less_heap W g _ h)
theorem less_self (W : World) (g : Nat) (p : Addr) (h : p.block = g) (v : Value) : (World.less W g).cell? p ≠ some v := by
  intro hc
  have : (World.less W g).heap[p.block]? = (W.heap[p.block]?).map (fun _ => .cells #[] 0 (0, 0)) := by
    unfold World.less
    simp only [Array.getElem?_modify, h]
    simp
  unfold World.cell? at hc
  rw [this] at hc
  cases hh : W.heap[p.block]? with
  | none => rw [hh] at hc; simp at hc
  | some o => rw [hh] at hc; simp at hc
end
section
open Go.RowKit Go.Proofs.YtfbhjknkofnohaaDoorW.PrintWords Go.Proofs.YtfbhjknkofnohaaDoorW.PrintLast
set_option linter.unusedVariables false
set_option linter.unusedSimpArgs false
abbrev RawF := ByteArray × Int × Value × Value
def rawL (x : RawF) : List Value := [.string x.1, .int .i64 x.2.1, x.2.2.1, x.2.2.2]
/-- Four cells as they are. -/
def kV : Kd RawF where
  sz := 4
  E := []
  K := fun _ x cs => cs = rawL x ∧ x.2.2.1.oneCell' = true ∧ x.2.2.2.oneCell' = true
  M := fun _ _ _ x cs => cs = rawL x ∧ x.2.2.1.oneCell' = true ∧ x.2.2.2.oneCell' = true
  K_len := by rintro w x cs ⟨rfl, _⟩; rfl
  K_one := by
    rintro w x cs ⟨rfl, h1, h2⟩ u hu
    simp only [rawL, List.mem_cons, List.mem_nil_iff, or_false] at hu
    rcases hu with rfl | rfl | rfl | rfl
    · rfl
    · rfl
    · exact h1
    · exact h2
  K_below := fun _ h => h
  K_of_M := fun h => h
  M_mono := fun _ h => h
  M_bound := fun h => h
  M_move := fun _ h => h
  M_lower := fun _ h => h
abbrev raw0 : RawF := (ByteArray.empty, 0, .slice none 0 0, .slice none 0 0)
/-- A thing's rows lie from a on below b. -/
def Inn (w : World) (a b : Nat) (f : FeatD) (x : RawF) : Prop := x.1 = f.1 ∧ x.2.1 = f.2.1.1 ∧ RI kPt 58 w a b x.2.2.1 f.2.1.2 ∧ RI kTag 75 w a b x.2.2.2 f.2.2
theorem Inn.K {w : World} {a b : Nat} {f : FeatD} {x : RawF} (h : Inn w a b f x) : kFeat.K w f (rawL x) := by
  obtain ⟨x1, x2, u, v⟩ := x
  obtain ⟨h1, h2, h3, h4⟩ := h
  simp only at h1 h2 h3 h4
  subst h1; subst h2
  exact kFeat.K_of_M (show kFeat.M w 0 (fun _ => True) f (rawL (f.1, f.2.1.1, u, v)) from kFeat_mkM f (Kd.R_lower (Kd.R_mono h3 (fun _ _ => trivial)) (Nat.zero_le _)) (Kd.R_lower (Kd.R_mono h4 (fun _ _ => trivial)) (Nat.zero_le _)))
theorem Inn.below {w w1 : World} {a b : Nat} {f : FeatD} {x : RawF} (h : Inn w a b f x) (hb : Below w.heap.size w w1) : Inn w1 a b f x := ⟨h.1, h.2.1, h.2.2.1.below hb, h.2.2.2.below hb⟩
theorem Inn.ex {w w1 : World} {a b lo hi : Nat} {f : FeatD} {x : RawF} (h : Inn w a b f x) (hx : Ex lo hi w w1) (hd : b ≤ lo ∨ hi ≤ a) : Inn w1 a b f x := ⟨h.1, h.2.1, h.2.2.1.ex hx hd, h.2.2.2.ex hx hd⟩
theorem Inn.far {w : World} {a b : Nat} {f : FeatD} {x : RawF} (h : Inn w a b f x) {p : Addr} (hp : p.block < a ∨ b ≤ p.block) (u : Value) : Inn (w.setCell p u) a b f x := ⟨h.1, h.2.1, h.2.2.1.far hp u, h.2.2.2.far hp u⟩
theorem Inn.grown {w w1 : World} {a b : Nat} {f : FeatD} {x : RawF} {row : Option Nat} (h : Inn w a b f x) (hg : w.grownBy w1 row) (hd : ∀ g, row = some g → g < a ∨ b ≤ g) : Inn w1 a b f x := by
  have key : ∀ {α : Type} {d : Kd α} {e : Nat} {v : Value} {xs : List α}, RI d e w a b v xs → RI d e w1 a b v xs := fun h =>
    Kd.R_mono (Kd.R_grown (Kd.R_bound h) hg (fun k hk e => by have h1 := hk.1; have h2 := hk.2.1; have := hd k e.symm; omega)) (fun _ hk => hk.1)
  exact ⟨h.1, h.2.1, key h.2.2.1, key h.2.2.2⟩
theorem Inn.wide {w : World} {a b a' b' : Nat} {f : FeatD} {x : RawF} (h : Inn w a b f x) (h1 : a' ≤ a) (h2 : b ≤ b') : Inn w a' b' f x := ⟨h.1, h.2.1, h.2.2.1.wide h1 h2, h.2.2.2.wide h1 h2⟩
theorem Inn.one {w : World} {a b : Nat} {f : FeatD} {x : RawF} (h : Inn w a b f x) : x.2.2.1.oneCell' = true ∧ x.2.2.2.oneCell' = true := by
  obtain ⟨A, c, e1, _⟩ := h.2.2.1.form
  obtain ⟨B, d, e2, _⟩ := h.2.2.2.form
  rw [e1, e2]
  exact ⟨rfl, rfl⟩
/-- A row of one's own, its things' rows apart. -/
structure FSep (w : World) (lo hi : Nat) (v : Value) (l : List FeatD) (xs : List RawF) (I J : Nat → Nat) : Prop where
  row : RI kV 47 w lo hi v xs
  len : xs.length = l.length
  bnd : ∀ i, i < l.length → lo ≤ I i ∧ I i ≤ J i ∧ J i ≤ hi ∧ ∀ g, v.ownBlock = some g → g < I i ∨ J i ≤ g
  ord : ∀ i j, i < j → j < l.length → J i ≤ I j ∨ J j ≤ I i
  inn : ∀ i, (h : i < l.length) → (h2 : i < xs.length) → Inn w (I i) (J i) l[i] xs[i]
def Sep (w : World) (lo hi : Nat) (v : Value) (l : List FeatD) : Prop := ∃ xs I J, FSep w lo hi v l xs I J
section
variable {w w1 : World} {lo hi lo' hi' : Nat} {v : Value} {l : List FeatD} {xs : List RawF} {I J : Nat → Nat}
theorem FSep.C {A : Option Addr} {n c : Nat} (h : FSep w lo hi (.slice A n c) l xs I J) : n = l.length ∧ n ≤ c ∧ kFeat.C w A l.length l := by
  obtain ⟨h1, h2, h3⟩ := h.row.rd
  have hl := h.len
  refine ⟨by omega, h2, ?_⟩
  rw [hl] at h3
  refine ⟨rfl, h3.2.1, fun hn => ?_⟩
  obtain ⟨ad, e, hc⟩ := h3.2.2 hn
  refine ⟨ad, e, fun j p hj => ?_⟩
  obtain ⟨hj1, hj2⟩ := List.getElem?_eq_some_iff.1 hj
  have hjx : j < xs.length := by omega
  obtain ⟨cs, hs, ⟨hr, _⟩, hcell⟩ := hc j xs[j] (List.getElem?_eq_getElem hjx)
  have hk := (h.inn j hj1 hjx).K
  rw [hj2, ← hr] at hk
  exact ⟨cs, hs, hk, hcell⟩
theorem FSep.below (h : FSep w lo hi v l xs I J) (hb : Below w.heap.size w w1) : FSep w1 lo hi v l xs I J := ⟨h.row.below hb, h.len, h.bnd, h.ord, fun i h1 h2 => (h.inn i h1 h2).below hb⟩
theorem FSep.ex (h : FSep w lo hi v l xs I J) (hx : Ex lo' hi' w w1) (hd : hi ≤ lo' ∨ hi' ≤ lo) : FSep w1 lo hi v l xs I J :=
  ⟨h.row.ex hx hd, h.len, h.bnd, h.ord, fun i h1 h2 => (h.inn i h1 h2).ex hx (by have := h.bnd i h1; omega)⟩
theorem FSep.wide (h : FSep w lo hi v l xs I J) (a : lo' ≤ lo) (b : hi ≤ hi') : FSep w lo' hi' v l xs I J :=
  ⟨h.row.wide a b, h.len, fun i hi_ => by obtain ⟨h1, h2, h3, h4⟩ := h.bnd i hi_; exact ⟨by omega, h2, by omega, h4⟩, h.ord, h.inn⟩
theorem Sep.C {A : Option Addr} {n c : Nat} (h : Sep w lo hi (.slice A n c) l) : n = l.length ∧ n ≤ c ∧ kFeat.C w A l.length l := by
  obtain ⟨_, _, _, h⟩ := h
  exact h.C
theorem Sep.below (h : Sep w lo hi v l) (hb : Below w.heap.size w w1) : Sep w1 lo hi v l := by
  obtain ⟨_, _, _, h⟩ := h
  exact ⟨_, _, _, h.below hb⟩
theorem Sep.ex (h : Sep w lo hi v l) (hx : Ex lo' hi' w w1) (hd : hi ≤ lo' ∨ hi' ≤ lo) : Sep w1 lo hi v l := by
  obtain ⟨_, _, _, h⟩ := h
  exact ⟨_, _, _, h.ex hx hd⟩
theorem Sep.wide (h : Sep w lo hi v l) (a : lo' ≤ lo) (b : hi ≤ hi') : Sep w lo' hi' v l := by
  obtain ⟨_, _, _, h⟩ := h
  exact ⟨_, _, _, h.wide a b⟩
theorem Sep.nil (w : World) (lo hi : Nat) : Sep w lo hi (.slice none 0 0) [] := ⟨[], fun _ => 0, fun _ => 0, ⟨⟨fun k hk => by simp [Value.ownBlock] at hk, (Kd.R_nil kV _ w lo (fun _ => True)).2.imp_ (fun _ _ h => h)⟩, rfl, fun i h => by simp at h, fun i j _ h => by simp at h, fun i h => by simp at h⟩⟩
/-- One thing more, behind. -/
theorem FSep.snoc {W : World} {v1 : Value} {f : FeatD} {x : RawF} {a b base : Nat} (h : FSep W base W.heap.size v l xs I J) (hb : a ≤ b) (hbw : b ≤ W.heap.size) (hI : Inn W a b f x) (hba : base ≤ a) (hJ : ∀ i, i < l.length → J i ≤ a) (hv : ∀ g, v.ownBlock = some g → g < a ∨ b ≤ g)
    (hr : kV.R 47 w1 base (fun _ => True) v1 (xs ++ [x])) (hg : W.grownBy w1 v.ownBlock) (hat : v1.ownBlock = v.ownBlock ∨ ∃ g, v1.ownBlock = some g ∧ W.heap.size ≤ g) :
    Sep w1 base w1.heap.size v1 (l ++ [f]) := by
  have hn := h.len
  refine ⟨xs ++ [x], fun i => if i = l.length then a else I i, fun i => if i = l.length then b else J i, ⟨RI.of hr, by simp [hn], fun i hi => ?_, fun i j hij hj => ?_, fun i h1 h2 => ?_⟩⟩
  · have hs := hg.size
    have key : ∀ p q, q ≤ W.heap.size → (∀ g, v.ownBlock = some g → g < p ∨ q ≤ g) → ∀ g, v1.ownBlock = some g → g < p ∨ q ≤ g := by
      intro p q hq h g hg1
      rcases hat with e | ⟨g', e, hle⟩
      · exact h g (by rw [← e]; exact hg1)
      · rw [e] at hg1
        injection hg1 with hg1
        right; omega
    by_cases e : i = l.length
    · simp only [e, if_true]
      exact ⟨by omega, hb, by omega, key _ _ (by omega) hv⟩
    · simp only [if_neg e]
      rw [List.length_append, List.length_singleton] at hi
      obtain ⟨b1, b2, b3, b4⟩ := h.bnd i (by omega)
      exact ⟨b1, b2, by omega, key _ _ (by omega) b4⟩
  · rw [List.length_append, List.length_singleton] at hj
    have e1 : i ≠ l.length := by omega
    simp only [if_neg e1]
    by_cases e : j = l.length
    · simp only [e, if_true]; exact .inl (hJ i (by omega))
    · simp only [if_neg e]; exact h.ord i j hij (by omega)
  · rw [List.length_append, List.length_singleton] at h1
    by_cases e : i = l.length
    · subst e
      simp only [if_true]
      rw [List.getElem_append_right (Nat.le_refl _), List.getElem_append_right (by omega)]
      simp only [hn, Nat.sub_self, List.getElem_cons_zero]
      exact hI.grown hg (fun g e => hv g e)
    · simp only [if_neg e]
      rw [List.getElem_append_left (by omega), List.getElem_append_left (by omega)]
      exact (h.inn i (by omega) (by omega)).grown hg (fun g e => (h.bnd i (by omega)).2.2.2 g e)
end
end
section
open Go.RowKit Go.Proofs.YtfbhjknkofnohaaDoorW.PrintWords Go.Proofs.YtfbhjknkofnohaaDoorW.PrintLast
set_option maxRecDepth 100000
set_option linter.unusedVariables false
set_option linter.unusedSimpArgs false
abbrev z0Feat : Value := .agg #[.string ByteArray.empty, .int .i64 0, .slice none 0 0, .slice none 0 0]
/-- A row of no elements, written out. -/
theorem litK {α : Type} (d : Kd α) (e : Nat) (w : World) (base : Nat) (hb : base ≤ w.heap.size) : d.R e (w.alloc (.cells #[] e)) base (fun _ => True) (.slice (some ⟨w.heap.size, 0, none⟩) 0 0) [] :=
  ⟨fun _ _ => trivial, [], World.ownsRow_lit (base := base) (e := e) (size := d.sz) w #[] 0 hb (by decide) (by simp), Reps.none _ _⟩
theorem Sep.lit0 (w : World) (base : Nat) (hb : base ≤ w.heap.size) : Sep (w.alloc (.cells #[] 47)) base (w.alloc (.cells #[] 47)).heap.size (.slice (some ⟨w.heap.size, 0, none⟩) 0 0) [] :=
  ⟨[], fun _ => 0, fun _ => 0, ⟨RI.of (litK kV _ w base hb), rfl, fun i h => by simp at h, fun i j _ h => by simp at h, fun i h => by simp at h⟩⟩
section
variable {ops : Array Oper} {rest : List Oper} {o : Oper} {a : Act} {Q : Exit → Act → World → Prop}
/-- append(v, f): a thing of one's own, behind all rows so far. -/
theorem appSep {w0 W : World} {base : Nat} (s x : Operand) (v : Value) {l : List FeatD} {xs : List RawF} {I J : Nat → Nat} (f : FeatD) (r : RawF) (cs : List Value) (hcs : cs = rawL r) {p q : Nat} (h : FSep W base W.heap.size v l xs I J) (hpq : p ≤ q) (hq : q ≤ W.heap.size) (hI : Inn W p q f r) (hba : base ≤ p) (hJ : ∀ i, i < l.length → J i ≤ p) (hv : ∀ g, v.ownBlock = some g → g < p ∨ q ≤ g)
    (HB : Below base w0 W) (hl : l.length ≤ 1048577)
    (hk : ∀ A' c' w1, Sep w1 base w1.heap.size (.slice A' (l.length + 1) c') (l ++ [f]) → Below base w0 w1 → wpList Tryd.prog ops Q rest (a.put o.dst (.slice A' (l.length + 1) c')) w1)
    (hgd : o.guard = none := by rfl) (ho : o.op = .call { callee := .builtin .append, args := #[s, x], argTypes := #[22, 22] } := by rfl) (hs : a.eval s = v := by rfl) (hx : a.eval x = .slice (some ⟨W.heap.size, 0, none⟩) 1 1 := by rfl) :
    wpList Tryd.prog ops Q (o :: rest) a (W.alloc (.cells cs.toArray 47)) := by
  subst hcs
  have hn := h.len
  refine Kd.R_append kV (w0 := w0) base hgd s x 22 47 z0Feat 72 ho Tryd.underlying22 info_Feat rfl (by decide) (by omega) v xs r (rawL r) (fun _ => True) (fun _ => False) hs hx ⟨rfl, hI.one⟩ (fun _ hk => hk.elim) (fun _ _ => trivial) (h.row.up (Nat.le_refl _)) HB (by omega) (by omega) ?_
  intro v1 w1 ho1 hb1 hg1 hat
  have hs1 := FSep.snoc h hpq hq hI hba hJ hv ho1 hg1 hat
  obtain ⟨A', c', rfl⟩ := Kd.R_slice ho1
  have e : (xs ++ [r]).length = l.length + 1 := by rw [List.length_append, hn]; rfl
  rw [e] at hs1 ⊢
  exact hk A' c' w1 hs1 hb1
end
/-- A map in new memory, its things' rows apart. -/
def NSep (w : World) (l : List FeatD) (e : Ending) (w' : World) : Prop := ∃ A c, e = .returned (.slice A l.length c) ∧ Sep w' w.heap.size w'.heap.size (.slice A l.length c) l ∧ Below w.heap.size w w'
end
section
open Go.RowKit Go.Proofs.YtfbhjknkofnohaaDoorW.PrintWords Go.Proofs.YtfbhjknkofnohaaDoorW.PrintLast
set_option maxRecDepth 100000
set_option linter.unusedVariables false
set_option linter.unusedSimpArgs false
theorem kV_M {W : World} {base : Nat} {ok : Nat → Prop} {x : RawF} {cs : List Value} (h : kV.M W base ok x cs) : cs = rawL x ∧ x.2.2.1.oneCell' = true ∧ x.2.2.2.oneCell' = true := h
theorem own_V {e base g n cap : Nat} {ok : Nat → Prop} {W : World} {xs : List RawF} (h : kV.R e W base ok (.slice (some ⟨g, 0, none⟩) n cap) xs) (i : Nat) (hi : i < xs.length) :
    W.cell? ⟨g, i * 4, none⟩ = some (.string xs[i].1) ∧ W.cell? ⟨g, i * 4 + 1, none⟩ = some (.int .i64 xs[i].2.1) ∧ W.cell? ⟨g, i * 4 + 2, none⟩ = some xs[i].2.2.1 ∧ W.cell? ⟨g, i * 4 + 3, none⟩ = some xs[i].2.2.2 ∧
      W.frozen? ⟨g, i * 4, none⟩ = false ∧ W.frozen? ⟨g, i * 4 + 1, none⟩ = false ∧ W.frozen? ⟨g, i * 4 + 2, none⟩ = false ∧ W.frozen? ⟨g, i * 4 + 3, none⟩ = false := by
  have hn := (Kd.R_reads' h).1
  obtain ⟨c, hl, hM, hc, hf⟩ := Kd.R_elem h raw0 (i : Int) (by omega) (by omega)
  have hg : xs.getD i raw0 = xs[i] := by rw [List.getD_eq_getElem?_getD, List.getElem?_eq_getElem hi]; rfl
  simp only [Int.toNat_natCast] at hM hc hf
  rw [hg] at hM
  obtain ⟨rfl, _⟩ := kV_M hM
  exact ⟨hc 0 _ rfl, hc 1 _ rfl, hc 2 _ rfl, hc 3 _ rfl, hf 0, hf 1, hf 2, hf 3⟩
theorem set_V {e base g n cap : Nat} {ok : Nat → Prop} {W : World} {xs : List RawF} (h : kV.R e W base ok (.slice (some ⟨g, 0, none⟩) n cap) xs) (i : Nat) (hi : i < n) (r : RawF) (h1 : r.2.2.1.oneCell' = true) (h2 : r.2.2.2.oneCell' = true) :
    kV.R e ((((W.setCell ⟨g, i * 4, none⟩ (.string r.1)).setCell ⟨g, i * 4 + 1, none⟩ (.int .i64 r.2.1)).setCell ⟨g, i * 4 + 2, none⟩ r.2.2.1).setCell ⟨g, i * 4 + 3, none⟩ r.2.2.2) base ok (.slice (some ⟨g, 0, none⟩) n cap) (xs.set i r) := by
  obtain ⟨c, hl, hM, hc, hf⟩ := Kd.R_elem h raw0 (i : Int) (by omega) (by omega)
  have hl2 : c.length = 4 := hl
  have he : c.take 0 ++ rawL r ++ c.drop (0 + 4) = rawL r := by rw [List.drop_of_length_le (by omega)]; simp
  exact (Kd.R_seg h (i : Int) (by omega) (by omega) (seg := rawL r) (j := 0) hl hc (show 4 ≤ 4 by decide) (x' := r) (okp := fun k => ok k ∧ k ≠ g) (by
    show kV.M W base _ r (c.take 0 ++ rawL r ++ c.drop (0 + 4))
    rw [he]; exact ⟨rfl, h1, h2⟩) (fun _ hk => hk)).1
theorem set_V0 {e base g n cap : Nat} {ok : Nat → Prop} {W : World} {xs : List RawF} (h : kV.R e W base ok (.slice (some ⟨g, 0, none⟩) n cap) xs) (i : Nat) (hi : i < xs.length) (s : ByteArray) :
    kV.R e (W.setCell ⟨g, i * 4, none⟩ (.string s)) base ok (.slice (some ⟨g, 0, none⟩) n cap) (xs.set i (s, xs[i].2)) := by
  have hn := (Kd.R_reads' h).1
  obtain ⟨c, hl, hM, hc, hf⟩ := Kd.R_elem h raw0 (i : Int) (by omega) (by omega)
  have hg : xs.getD i raw0 = xs[i] := by rw [List.getD_eq_getElem?_getD, List.getElem?_eq_getElem hi]; rfl
  simp only [Int.toNat_natCast] at hM hc hf
  rw [hg] at hM
  obtain ⟨rfl, h1, h2⟩ := kV_M hM
  exact (Kd.R_seg h (i : Int) (by omega) (by omega) (seg := [.string s]) (j := 0) hl (by simpa using hc) (show 1 ≤ 4 by decide) (x' := (s, xs[i].2)) (okp := fun k => ok k ∧ k ≠ g) (show kV.M W base _ (s, xs[i].2) _ from ⟨rfl, h1, h2⟩) (fun _ hk => hk)).1
theorem set_V1 {e base g n cap : Nat} {ok : Nat → Prop} {W : World} {xs : List RawF} (h : kV.R e W base ok (.slice (some ⟨g, 0, none⟩) n cap) xs) (i : Nat) (hi : i < xs.length) (z : Int) :
    kV.R e (W.setCell ⟨g, i * 4 + 1, none⟩ (.int .i64 z)) base ok (.slice (some ⟨g, 0, none⟩) n cap) (xs.set i (xs[i].1, z, xs[i].2.2)) := by
  have hn := (Kd.R_reads' h).1
  obtain ⟨c, hl, hM, hc, hf⟩ := Kd.R_elem h raw0 (i : Int) (by omega) (by omega)
  have hg : xs.getD i raw0 = xs[i] := by rw [List.getD_eq_getElem?_getD, List.getElem?_eq_getElem hi]; rfl
  simp only [Int.toNat_natCast] at hM hc hf
  rw [hg] at hM
  obtain ⟨rfl, h1, h2⟩ := kV_M hM
  exact (Kd.R_seg h (i : Int) (by omega) (by omega) (seg := [.int .i64 z]) (j := 1) hl (by simpa using hc) (show 2 ≤ 4 by decide) (x' := (xs[i].1, z, xs[i].2.2)) (okp := fun k => ok k ∧ k ≠ g) (show kV.M W base _ (xs[i].1, z, xs[i].2.2) _ from ⟨rfl, h1, h2⟩) (fun _ hk => hk)).1
theorem RI.own1 {e lo hi g n c : Nat} {W : World} {xs : List RawF} (h : RI kV e W lo hi (.slice (some ⟨g, 0, none⟩) n c) xs) : lo ≤ g ∧ g < hi ∧ g < W.heap.size ∧ RI kV e W g (g + 1) (.slice (some ⟨g, 0, none⟩) n c) xs := by
  obtain ⟨h1, inner, ⟨ho1, ho2⟩, hr⟩ := h
  rcases ho2 with ⟨hv, _⟩ | ⟨g', cap', cur, hv, hb, hh, hnc, hcm, hcs, ht⟩
  · cases hv
  injection hv with ha hn hc
  injection ha with ha
  injection ha with hg
  subst hg; subst hc
  have hg3 : g < hi := h1 g rfl
  refine ⟨hb, hg3, blk_lt hh, fun k hk => ?_, inner, ⟨ho1, .inr ⟨g, c, cur, by rw [hn], Nat.le_refl _, hh, hnc, hcm, hcs, ht⟩⟩, hr.imp_ (fun _ _ hx => hx)⟩
  have : g = k := by simpa [Value.ownBlock] using hk
  show k < g + 1
  omega
theorem RI.wid {α : Type} {d : Kd α} {e lo hi lo' hi' : Nat} {W : World} {v : Value} {xs : List α} (h : RI d e W lo hi v xs) (h1 : lo' ≤ lo) (h2 : hi ≤ hi') : RI d e W lo' hi' v xs := h.wide h1 h2
/-- One thing has been written anew: its cells, and what lies in its interval. -/
theorem FSep.upd {w w6 : World} {lo hi g n c j : Nat} {l : List FeatD} {xs : List RawF} {I J : Nat → Nat} {f : FeatD} {r : RawF} (h : FSep w lo hi (.slice (some ⟨g, 0, none⟩) n c) l xs I J) (hj : j < l.length) (hf : ∀ k, k < w.heap.size → k ≠ g → (k < I j ∨ J j ≤ k) → w6.heap[k]? = w.heap[k]?)
    (hr : RI kV 47 w6 lo hi (.slice (some ⟨g, 0, none⟩) n c) (xs.set j r)) (hi6 : Inn w6 (I j) (J j) f r) : FSep w6 lo hi (.slice (some ⟨g, 0, none⟩) n c) (l.set j f) (xs.set j r) I J := by
  refine ⟨hr, by simp [h.len], fun i hi_ => h.bnd i (by simpa using hi_), fun i k hik hk => h.ord i k hik (by simpa using hk), fun i h1 h2 => ?_⟩
  rw [List.length_set] at h1 h2
  by_cases e : j = i
  · subst e
    rw [List.getElem_set_self, List.getElem_set_self]
    exact hi6
  · rw [List.getElem_set_ne e, List.getElem_set_ne e]
    have hb := h.bnd i h1
    have hgi := hb.2.2.2 g rfl
    have key : ∀ {α : Type} {d : Kd α} {e : Nat} {v : Value} {xs : List α}, RI d e w (I i) (J i) v xs → RI d e w6 (I i) (J i) v xs := fun hh =>
      Kd.R_mono (Kd.R_step (Kd.R_bound hh) (fun k hk hlt => by
        have h3 : k < J i := hk.1
        have h4 := hk.2.1
        refine hf k hlt (by omega) ?_
        rcases Nat.lt_or_ge i j with q | q
        · have := h.ord i j q hj; omega
        · have := h.ord j i (by omega) h1; omega)) (fun _ hk => hk.1)
    have hi2 := h.inn i h1 h2
    exact ⟨hi2.1, hi2.2.1, key hi2.2.2.1, key hi2.2.2.2⟩
/-! Marks of a map. -/
def markF (k : Int) (f : FeatD) : FeatD := (mtext k.toNat, (k + 1, markL (k + 2) f.2.1.2.length), markT (k + 2 + 2 * (f.2.1.2.length : Int)) f.2.2.length)
def mkk (k : Int) (f : FeatD) : Int := k + 2 + 2 * (f.2.1.2.length : Int) + 2 * (f.2.2.length : Int)
def markFs : Int → List FeatD → List FeatD
  | _, [] => []
  | k, f :: l => markF k f :: markFs (mkk k f) l
def mkks : Int → List FeatD → Int
  | k, [] => k
  | k, f :: l => mkks (mkk k f) l
theorem markFs_len : ∀ (k : Int) (l : List FeatD), (markFs k l).length = l.length
  | _, [] => rfl
  | k, f :: l => by simp [markFs, markFs_len (mkk k f) l]
theorem markFs_app : ∀ (k : Int) (l m : List FeatD), markFs k (l ++ m) = markFs k l ++ markFs (mkks k l) m
  | _, [], _ => rfl
  | k, f :: l, m => by simp [markFs, mkks, markFs_app (mkk k f) l m]
theorem mkks_app : ∀ (k : Int) (l m : List FeatD), mkks k (l ++ m) = mkks (mkks k l) m
  | _, [], _ => rfl
  | k, f :: l, m => by simp [mkks, mkks_app (mkk k f) l m]
theorem mkks_le : ∀ (k : Int) (l : List FeatD), k ≤ mkks k l ∧ mkks k l ≤ k + 2 * ((l.length + featsSz l : Nat) : Int)
  | k, [] => by simp [mkks, featsSz]
  | k, f :: l => by
    have h := mkks_le (mkk k f) l
    have h2 : f.2.1.2.length + f.2.2.length ≤ featSz f := by unfold featSz; omega
    simp only [mkks, featsSz, List.length_cons]
    unfold mkk at h ⊢
    omega
theorem markFs_take (k : Int) (l : List FeatD) (j : Nat) (h : j < l.length) : markFs k (l.take (j + 1)) = markFs k (l.take j) ++ [markF (mkks k (l.take j)) l[j]] := by
  rw [List.take_succ_eq_append_getElem h, markFs_app]; rfl
theorem mkks_take (k : Int) (l : List FeatD) (j : Nat) (h : j < l.length) : mkks k (l.take (j + 1)) = mkk (mkks k (l.take j)) l[j] := by
  rw [List.take_succ_eq_append_getElem h, mkks_app]; rfl
theorem mkks_at (k : Int) (l : List FeatD) (j : Nat) : k ≤ mkks k (l.take j) ∧ mkks k (l.take j) ≤ k + 2 * ((l.length + featsSz l : Nat) : Int) := by
  have h := mkks_le k (l.take j)
  have h2 := featsSz_le l j
  have h3 : (l.take j).length ≤ l.length := by rw [List.length_take]; omega
  omega
/-- The list in the midst of the marking. -/
def midF (k : Int) (l : List FeatD) (j : Nat) : List FeatD := markFs k (l.take j) ++ l.drop j
theorem midF_len (k : Int) (l : List FeatD) (j : Nat) (h : j ≤ l.length) : (midF k l j).length = l.length := by
  unfold midF; rw [List.length_append, markFs_len, List.length_take, List.length_drop]; omega
theorem midF_get (k : Int) (l : List FeatD) (j : Nat) (h : j < l.length) (h2 : j < (midF k l j).length) : (midF k l j)[j] = l[j] := by
  have hl : (markFs k (l.take j)).length = j := by rw [markFs_len, List.length_take]; omega
  have : (midF k l j)[j]? = some l[j] := by
    unfold midF
    rw [List.getElem?_append_right (by omega), hl, Nat.sub_self, List.getElem?_drop, Nat.add_zero, List.getElem?_eq_getElem h]
  rw [List.getElem?_eq_getElem h2] at this
  exact Option.some.inj this
theorem midF_set (k : Int) (l : List FeatD) (j : Nat) (h : j < l.length) : (midF k l j).set j (markF (mkks k (l.take j)) l[j]) = midF k l (j + 1) := by
  have hl : (markFs k (l.take j)).length = j := by rw [markFs_len, List.length_take]; omega
  unfold midF
  rw [List.set_append_right _ _ (by omega), hl, Nat.sub_self, markFs_take k l j h, List.drop_eq_getElem_cons h, List.set_cons_zero, List.append_assoc]
  rfl
end
section
open Go.RowKit Go.Proofs.YtfbhjknkofnohaaDoorW.PrintWords Go.Proofs.YtfbhjknkofnohaaDoorW.PrintLast
set_option maxRecDepth 100000
set_option linter.unusedVariables false
set_option linter.unusedSimpArgs false
/-- What the loop of a copying keeps. -/
structure TSs (w wr : World) (g n cap k : Nat) (l : List FeatD) (xs : List RawF) (I J : Nat → Nat) : Prop where
  len : xs.length = k
  row : kV.R 47 wr w.heap.size (fun _ => True) (.slice (some ⟨g, 0, none⟩) n cap) (xs ++ List.replicate (n - k) raw0)
  bnd : ∀ i, i < k → g < I i ∧ I i ≤ J i ∧ J i ≤ wr.heap.size
  ord : ∀ i j, i < j → j < k → J i ≤ I j
  inn : ∀ i, (h : i < k) → (h1 : i < l.length) → (h2 : i < xs.length) → Inn wr (I i) (J i) l[i] xs[i]
  bel : Below w.heap.size w wr
  gsz : g < wr.heap.size
theorem TSs.step {w wr w2 : World} {g n cap k : Nat} {l : List FeatD} {xs : List RawF} {I J : Nat → Nat} {f : FeatD} {r : RawF} (h : TSs w wr g n cap k l xs I J) (hk : k < n) (hl : k < l.length) (hf : l[k] = f) (hg : w.heap.size ≤ g) (hb : Below wr.heap.size wr w2) (hi : Inn w2 wr.heap.size w2.heap.size f r) :
    TSs w ((((w2.setCell ⟨g, k * 4, none⟩ (.string r.1)).setCell ⟨g, k * 4 + 1, none⟩ (.int .i64 r.2.1)).setCell ⟨g, k * 4 + 2, none⟩ r.2.2.1).setCell ⟨g, k * 4 + 3, none⟩ r.2.2.2) g n cap (k + 1) l (xs ++ [r]) (fun i => if i = k then wr.heap.size else I i) (fun i => if i = k then w2.heap.size else J i) := by
  have hgs := h.gsz
  have hs := hb.size
  have hn := h.len
  have far4 : ∀ {a b : Nat} {f : FeatD} {x : RawF}, Inn w2 a b f x → g < a → Inn ((((w2.setCell ⟨g, k * 4, none⟩ (.string r.1)).setCell ⟨g, k * 4 + 1, none⟩ (.int .i64 r.2.1)).setCell ⟨g, k * 4 + 2, none⟩ r.2.2.1).setCell ⟨g, k * 4 + 3, none⟩ r.2.2.2) a b f x :=
    fun h hga => (((h.far (p := ⟨g, k * 4, none⟩) (.inl hga) _).far (p := ⟨g, k * 4 + 1, none⟩) (.inl hga) _).far (p := ⟨g, k * 4 + 2, none⟩) (.inl hga) _).far (p := ⟨g, k * 4 + 3, none⟩) (.inl hga) _
  refine ⟨by simp [hn], ?_, fun i hi_ => ?_, fun i j hij hj => ?_, fun i h1 h2 h3 => ?_, ?_, by simp; omega⟩
  · have h1 := set_V (Kd.R_below h.row hb) k hk r hi.one.1 hi.one.2
    have e : (xs ++ List.replicate (n - k) raw0).set k r = xs ++ [r] ++ List.replicate (n - (k + 1)) raw0 := by
      rw [List.set_append_right _ _ (by omega), hn, Nat.sub_self, show n - k = (n - (k + 1)) + 1 by omega, List.replicate_succ, List.set_cons_zero, List.append_assoc]
      rfl
    rw [e] at h1
    exact h1
  · by_cases e : i = k
    · simp only [e, if_true]; simp; omega
    · simp only [if_neg e]
      have := h.bnd i (by omega)
      simp; omega
  · have e1 : i ≠ k := by omega
    simp only [if_neg e1]
    by_cases e : j = k
    · simp only [e, if_true]; exact (h.bnd i (by omega)).2.2
    · simp only [if_neg e]; exact h.ord i j hij (by omega)
  · by_cases e : i = k
    · subst e
      simp only [if_true]
      rw [List.getElem_append_right (by omega)]
      simp only [hn, Nat.sub_self, List.getElem_cons_zero]
      rw [hf]
      exact far4 hi hgs
    · simp only [if_neg e]
      rw [List.getElem_append_left (by omega)]
      exact far4 ((h.inn i (by omega) h2 (by omega)).below hb) (h.bnd i (by omega)).1
  · exact ((((h.bel.trans (hb.mono h.bel.size)).setCell hg _).setCell hg _).setCell hg _).setCell hg _
theorem raw0_M (w : World) (base : Nat) (ok : Nat → Prop) : kV.M w base ok raw0 [.string ByteArray.empty, .int .i64 0, .slice none 0 0, .slice none 0 0] := ⟨rfl, rfl, rfl⟩
end
section
open Go.RowKit Go.Proofs.YtfbhjknkofnohaaDoorW.PrintWords Go.Proofs.YtfbhjknkofnohaaDoorW.PrintLast
set_option maxRecDepth 100000
set_option linter.unusedVariables false
set_option linter.unusedSimpArgs false
theorem Ex.at {a b : Nat} {w w' : World} (h : Ex a b w w') {k : Nat} (hk : k < w.heap.size) (ho : k < a ∨ b ≤ k) : w'.heap[k]? = w.heap[k]? := by
  rcases ho with ho | ho
  · exact h.1.block _ ho
  · exact h.2 _ ho hk
theorem set_set_raw (xs : List RawF) (j : Nat) (h : j < xs.length) (s : ByteArray) (z : Int) (h2 : j < (xs.set j (s, xs[j].2)).length) : (xs.set j (s, xs[j].2)).set j ((xs.set j (s, xs[j].2))[j].1, z, (xs.set j (s, xs[j].2))[j].2.2) = xs.set j (s, z, xs[j].2.2) := by
  rw [List.set_set, List.getElem_set_self]
set_option maxHeartbeats 8000000 in
theorem markFeatS_c (A : Option Addr) (c : Nat) (l : List FeatD) (k : Int) (lo hi : Nat) (w : World) (hs : Sep w lo hi (.slice A l.length c) l) (hz : Few l) (hk0 : 1 ≤ k) (hk1 : k + 2 * ((l.length + featsSz l : Nat) : Int) ≤ 1073741824) (hhi : hi ≤ w.heap.size) (hlo : lo ≤ hi) :
    Calls Tryd.prog 9 #[.slice A l.length c, .int .i64 k] w fun e w' => e = .returned (.int .i64 (mkks k l)) ∧ kFeat.C w' A l.length (markFs k l) ∧ Ex lo hi w w' := by
  have n1 := hz.1
  have hat := fun j => mkks_at k l j
  go_enter Tryd.func9, Tryd.ntmps9
  go_wp2
  go_loopw [1, 5] (fun q1 q5 wr => ∃ j : Nat, j ≤ l.length ∧ q5 = .int .i64 j ∧ q1 = .int .i64 (mkks k (l.take j)) ∧ Aside0 (Sep wr lo hi (.slice A l.length c) (midF k l j)) ∧ Aside0 (Ex lo hi w wr)) (fun _ q5 _ => l.length - (intOf q5).toNat)
  case atStart => exact ⟨0, by omega, rfl, rfl, ⟨by simpa [midF, markFs] using hs⟩, ⟨Ex.refl _ _ _⟩⟩
  case round =>
    clear hs
    obtain ⟨j, hj, rfl, rfl, ⟨xs, I, J, hS⟩, ⟨hx⟩⟩ := hrel
    by_cases hlt : j < l.length
    · have hjm : j < (midF k l j).length := by rw [midF_len _ _ _ hj]; exact hlt
      have hjx : j < xs.length := by rw [hS.len]; exact hjm
      obtain ⟨g, cap, hv, _, _, _⟩ := Kd.R_form hS.row (by omega)
      injection hv with e1 e2 e3
      subst e1
      clear e2 e3
      obtain ⟨hg1, hg3, hg2, _⟩ := hS.row.own1
      have hbd := hS.bnd j hjm
      have hgj := hbd.2.2.2 g rfl
      have hin := hS.inn j hjm hjx
      rw [midF_get k l j hlt hjm] at hin
      have hzj := hz.2 _ (List.getElem_mem hlt)
      have hst := midF_set k l j hlt
      have hmk := mkks_take k l j hlt
      have h1 := hat j
      have h2 := hat (j + 1)
      rw [hmk] at h2
      generalize hq : mkks k (l.take j) = q at *
      generalize hf : l[j] = f at *
      unfold mkk at h2 hmk
      have Hst := Lib.hid hst
      have Hmk := Lib.hid hmk
      have Hq := Lib.hid hq
      clear hst hmk hq hf hat
      have d1 : decide ((j : Int) < (l.length : Int)) = true := decide_eq_true (by omega)
      have hw0 : IntKind.i64.wrap ((j : Int) + 1) = (j : Int) + 1 := IntWalk.i64_in _ (by omega)
      have hw1 : IntKind.i64.wrap (q + 1) = q + 1 := IntWalk.i64_in _ (by omega)
      have hw2 : IntKind.i64.wrap (q + 1 + 1) = q + 2 := by rw [IntWalk.i64_in _ (by omega)]; omega
      have s1 := hx.1.size
      have hbj := hbd.1
      have hbj2 := hbd.2.1
      have hbj3 := hbd.2.2.1
      have hrow0 := hS.row
      obtain ⟨A1, c1, eu, hc1, hC1⟩ := hin.2.2.1.form
      obtain ⟨B1, d1', ev, hd1, hD1⟩ := hin.2.2.2.form
      have Hin := Lib.hid hin
      have HS := Lib.hid hS
      clear hS hin hbd
      go_wp2_with fail
      refine (markText_i q _ (by omega) (by omega)).mono ?_
      rintro e w2 ⟨rfl, hb2⟩
      have hr2 := hrow0.below hb2
      have hin2 := Hin.out.below hb2
      obtain ⟨c0, cc1, c2, c3, f0, f1, f2, f3⟩ := own_V hr2 j hjx
      have hr3 : RI kV 47 (w2.setCell ⟨g, j * 4, none⟩ (.string (mtext q.toNat))) lo hi (.slice (some ⟨g, 0, none⟩) l.length c) (xs.set j (mtext q.toNat, xs[j].2)) := set_V0 hr2 j hjx (mtext q.toNat)
      have hjx3 : j < (xs.set j (mtext q.toNat, xs[j].2)).length := by rw [List.length_set]; exact hjx
      obtain ⟨c4, c5, c6, c7, f4, f5, f6, f7⟩ := own_V hr3 j hjx3
      have hr4 : RI kV 47 ((w2.setCell ⟨g, j * 4, none⟩ (.string (mtext q.toNat))).setCell ⟨g, j * 4 + 1, none⟩ (.int .i64 (q + 1))) lo hi (.slice (some ⟨g, 0, none⟩) l.length c) (xs.set j (mtext q.toNat, q + 1, xs[j].2.2)) := by
        rw [← set_set_raw xs j hjx (mtext q.toNat) (q + 1) hjx3]
        exact set_V1 hr3 j hjx3 (q + 1)
      have hjx4 : j < (xs.set j (mtext q.toNat, q + 1, xs[j].2.2)).length := by rw [List.length_set]; exact hjx
      obtain ⟨c8, c9, c10, c11, _, _, _, _⟩ := own_V hr4 j hjx4
      rw [List.getElem_set_self] at c10 c11
      simp only [] at c10 c11
      rw [eu] at c10
      rw [ev] at c11
      have hin4 := (hin2.far (p := ⟨g, j * 4, none⟩) hgj (.string (mtext q.toNat))).far (p := ⟨g, j * 4 + 1, none⟩) hgj (.int .i64 (q + 1))
      have hPr := hin4.2.2.1
      have hTr := hin4.2.2.2
      rw [eu] at hPr
      rw [ev] at hTr
      obtain ⟨pa, pb, tp⟩ := tight_of (fun _ _ _ _ _ _ _ h => h) hPr hbj2
      obtain ⟨ta, tb, tt⟩ := tight_of (fun _ _ _ _ _ _ _ h => h) hTr hbj2
      have hap := tight_apart tp tt (by decide)
      obtain ⟨p1, p2, p3, p4, hPt, _⟩ := tp
      obtain ⟨t1, t2, t3, t4, hTt, _⟩ := tt
      have s2 := hb2.size
      have fr4 : ∀ k, k < wr.heap.size → k ≠ g → ((w2.setCell ⟨g, j * 4, none⟩ (.string (mtext q.toNat))).setCell ⟨g, j * 4 + 1, none⟩ (.int .i64 (q + 1))).heap[k]? = wr.heap[k]? := fun k h1 h2 => by
        rw [Below.heap_setCell _ _ _ _ h2, Below.heap_setCell _ _ _ _ h2]
        exact hb2.block k h1
      have hx4 : Ex lo hi w ((w2.setCell ⟨g, j * 4, none⟩ (.string (mtext q.toNat))).setCell ⟨g, j * 4 + 1, none⟩ (.int .i64 (q + 1))) := ((hx.to hb2 (by omega)).set hg1 hg3).set hg1 hg3
      have hrow4 := hr4.own1.2.2.2
      have hc4 := Lib.hid (And.intro hin2 (And.intro hin4 (And.intro hr2 (And.intro hr3 fr4))))
      have Eu := Lib.hid eu
      have Ev := Lib.hid ev
      clear hin2 hin4 hr2 hr3 hPr hTr fr4 hrow0 hx c2 c3 c6 c7 c8 c9 f2 f3 f6 f7 eu ev hC1 hD1 hc1 hd1
      go_wp2_with fail
      refine (markPtS_c A1 c1 f.2.1.2 (q + 2) pa pb _ hPt hzj.1 (by omega) (by omega)).mono ?_
      rintro e w5 ⟨rfl, m5, hx5⟩
      have hgp : g + 1 ≤ pa ∨ pb ≤ g := by omega
      have hgt : g + 1 ≤ ta ∨ tb ≤ g := by omega
      have hrow5 := hrow4.ex hx5 hgp
      obtain ⟨_, _, _, c12, _, _, _, _⟩ := own_V hrow5 j hjx4
      rw [List.getElem_set_self] at c12
      simp only [] at c12
      rw [Ev.out] at c12
      have s5 := hx5.1.size
      simp only [World.size_setCell] at s5
      have hTt5 := hTt.ex hx5 (by omega)
      clear c10 c11 c0 cc1 c4 c5 f0 f1 f4 f5 hPt hTt
      go_wp2_with fail
      refine (markTagS_c B1 d1' f.2.2 (q + 2 + 2 * (f.2.1.2.length : Int)) ta tb _ hTt5 hzj.2 (by omega) (by omega) (by omega) (by omega)).mono ?_
      rintro e w6 ⟨rfl, m6, hx6⟩
      have s6 := hx6.1.size
      have m5' := m5.ex hx6 (by omega)
      have hrow6 : RI kV 47 w6 lo hi (.slice (some ⟨g, 0, none⟩) l.length c) (xs.set j (mtext q.toNat, q + 1, xs[j].2.2)) := (hrow5.ex hx6 hgt).wide (by omega) (by omega)
      have hS6 : FSep w6 lo hi (.slice (some ⟨g, 0, none⟩) l.length c) (midF k l (j + 1)) (xs.set j (mtext q.toNat, q + 1, xs[j].2.2)) I J := by
        rw [← Hst.out]
        refine FSep.upd HS.out hjm (fun i h1 h2 h3 => ?_) hrow6 ⟨rfl, rfl, ?_, ?_⟩
        · refine (hx6.at (by omega) (by omega)).trans ((hx5.at (by simp; omega) (by omega)).trans (hc4.out.2.2.2.2 i h1 h2))
        · show RI kPt _ w6 (I j) (J j) xs[j].2.2.1 (markL (q + 2) f.2.1.2.length)
          rw [Eu.out]
          exact m5'.wide (by omega) (by omega)
        · show RI kTag _ w6 (I j) (J j) xs[j].2.2.2 (markT (q + 2 + 2 * (f.2.1.2.length : Int)) f.2.2.length)
          rw [Ev.out]
          exact m6.wide (by omega) (by omega)
      have hx7 : Ex lo hi w w6 := (hx4.trans (hx5.wide (by omega) (by omega))).trans (hx6.wide (by omega) (by omega))
      clear m5 m6 m5' hrow4 hrow5 hrow6 hx4 hx5 hx6 hTt5 c12
      go_wp2
      exact ⟨⟨j + 1, by omega, by go_num, by rw [Hmk.out], ⟨⟨_, I, J, hS6⟩⟩, ⟨hx7⟩⟩, by simp [intOf]; omega⟩
    · have d1 : decide ((j : Int) < (l.length : Int)) = false := decide_eq_false (by omega)
      obtain rfl : j = l.length := by omega
      have hm : midF k l l.length = markFs k l := by unfold midF; rw [List.take_length, List.drop_length, List.append_nil]
      rw [hm] at hS
      obtain ⟨e, _, hC⟩ := hS.C
      rw [markFs_len] at hC
      go_wp2
      go_ret
      exact ⟨ret_int (by rw [List.take_length]), hC, hx⟩
end
section
open Go.RowKit Go.Proofs.YtfbhjknkofnohaaDoorW.PrintWords Go.Proofs.YtfbhjknkofnohaaDoorW.PrintLast
set_option maxRecDepth 100000
set_option linter.unusedVariables false
set_option linter.unusedSimpArgs false
theorem markFs_get (k : Int) (l : List FeatD) (j : Nat) (h : j < l.length) (h2 : j < (markFs k l).length) : (markFs k l)[j] = markF (mkks k (l.take j)) l[j] := by
  have e : markFs k l = markFs k (l.take (j + 1)) ++ markFs (mkks k (l.take (j + 1))) (l.drop (j + 1)) := by rw [← markFs_app, List.take_append_drop]
  have h3 : (markFs k (l.take j)).length = j := by rw [markFs_len, List.length_take]; omega
  have : (markFs k l)[j]? = some (markF (mkks k (l.take j)) l[j]) := by
    rw [e, markFs_take k l j h, List.append_assoc, List.getElem?_append_right (by omega), h3, Nat.sub_self]
    rfl
  rw [List.getElem?_eq_getElem h2] at this
  exact Option.some.inj this
def l_heldFeatS_T4 : Bool × List (List Nat × List Nat) := (true, [([], []), ([], []), ([0, 1], [0, 1]), ([2], [2]), ([3], [3]), ([], []), ([5], [5]), ([4, 6], [4, 6])])
theorem l_heldFeatS_t4 : rtab .any (opsOf Tryd.f10 4) = l_heldFeatS_T4 := by kernel_rfl
set_option maxHeartbeats 8000000 in
theorem heldFeatS_c (A : Option Addr) (c : Nat) (l : List FeatD) (k : Int) (w : World) (hr : kFeat.C w A l.length (markFs k l)) (hz : Few l) (hk0 : 1 ≤ k) (hk1 : k + 2 * ((l.length + featsSz l : Nat) : Int) ≤ 1073741824) :
    Calls Tryd.prog 10 #[.slice A l.length c, .int .i64 k] w fun e w' => e = .returned (.int .i64 (mkks k l)) ∧ Below w.heap.size w w' := by
  have n1 := hz.1
  have hat := fun j => mkks_at k l j
  go_enter Tryd.func10, Tryd.ntmps10
  go_wp2
  go_loopw [1, 5] (fun q1 q5 wr => ∃ j : Nat, j ≤ l.length ∧ q5 = .int .i64 j ∧ q1 = .int .i64 (mkks k (l.take j)) ∧ Aside0 (Below w.heap.size w wr)) (fun _ q5 _ => l.length - (intOf q5).toNat)
  case atStart => exact ⟨0, by omega, rfl, rfl, ⟨Below.refl _ _⟩⟩
  case round =>
    obtain ⟨j, hj, rfl, rfl, ⟨hb⟩⟩ := hrel
    by_cases hlt : j < l.length
    · have hjm : j < (markFs k l).length := by rw [markFs_len]; exact hlt
      obtain ⟨ad, A1, c1, B1, d1, rfl, e0, e1, e2, e3, hC, hT, hc1, hd1⟩ := at_Feat hr j hjm
      have hzj := hz.2 _ (List.getElem_mem hlt)
      have hmk := mkks_take k l j hlt
      have h1 := hat j
      have h2 := hat (j + 1)
      rw [hmk] at h2
      have hg := markFs_get k l j hlt hjm
      generalize hq : mkks k (l.take j) = q at *
      rw [hg] at e0 e1 e2 e3 hC hT
      generalize hf : l[j] = f at *
      unfold mkk at h2 hmk
      simp only [markF, markL_len, markT_len] at e0 e1 e2 e3 hC hT
      replace e0 := pw_cell_below hb e0
      replace e1 := pw_cell_below hb e1
      replace e2 := pw_cell_below hb e2
      replace e3 := pw_cell_below hb e3
      replace hC := Kd.C_below hC hb
      replace hT := Kd.C_below hT hb
      have Hmk := Lib.hid hmk
      clear hmk hq hf hat hg hc1 hd1
      have d1 : decide ((j : Int) < (l.length : Int)) = true := decide_eq_true (by omega)
      have hw0 : IntKind.i64.wrap ((j : Int) + 1) = (j : Int) + 1 := IntWalk.i64_in _ (by omega)
      have hw1 : IntKind.i64.wrap (q + 1) = q + 1 := IntWalk.i64_in _ (by omega)
      have hw2 : IntKind.i64.wrap (q + 1 + 1) = q + 2 := by rw [IntWalk.i64_in _ (by omega)]; omega
      have t1 := strB_t (rfl : mtext q.toNat = mtext q.toNat)
      have t2 : decide (q + 2 + 2 * (f.2.1.2.length : Int) < 0) = false := decide_eq_false (by omega)
      have t3 : decide (q + 2 + 2 * (f.2.1.2.length : Int) + 2 * (f.2.2.length : Int) < 0) = false := decide_eq_false (by omega)
      go_wp2
      refine rgStart 8 [0, 1, 2, 3, 4, 5, 6, 7] l_heldFeatS_t4 (fun HT HS => ?_)
      repeat ((with_reducible refine rgGate ?_); first | refine rgP HT ?_ | refine rgL HT ?_ | refine rgG HT ?_)
      refine rgCall HT Tryd.func33 (markText_i q _ (by omega) (by omega)) ?_
      rintro e w2 ⟨rfl, hb2⟩
      refine ⟨_, rfl, bl, rgN ?_⟩
      repeat ((with_reducible refine rgGate ?_); first | refine rgP HT ?_ | refine rgL HT ?_ | refine rgG HT ?_)
      refine rgDone HT ?_
      clear HT HS
      have hb3 : Below wr.heap.size wr w2 := bl
      replace e1 := pw_cell_below hb3 e1
      replace e2 := pw_cell_below hb3 e2
      replace e3 := pw_cell_below hb3 e3
      replace hC := Kd.C_below hC hb3
      replace hT := Kd.C_below hT hb3
      clear e0
      go_wp2_with fail
      refine (heldPtS_c A1 c1 f.2.1.2.length (q + 2) _ hC hzj.1 (by omega) (by omega)).mono ?_
      rintro e w4 ⟨rfl, hb4⟩
      replace e3 := pw_cell_below hb4 e3
      clear e1 e2
      go_wp2_with fail
      refine (heldTagS_c B1 _ f.2.2.length (q + 2 + 2 * (f.2.1.2.length : Int)) _ (Kd.C_below hT hb4) hzj.2 (by omega) (by omega)).mono ?_
      rintro e w5 ⟨rfl, hb5⟩
      go_wp2
      exact ⟨⟨j + 1, by omega, by go_num, by rw [Hmk.out], ⟨bl⟩⟩, by simp [intOf]; omega⟩
    · have d1 : decide ((j : Int) < (l.length : Int)) = false := decide_eq_false (by omega)
      obtain rfl : j = l.length := by omega
      go_wp2
      go_ret
      exact ⟨ret_int (by rw [List.take_length]), hb⟩
end
section
open Go.RowKit Go.Proofs.YtfbhjknkofnohaaDoorW.PrintWords Go.Proofs.YtfbhjknkofnohaaDoorW.PrintLast
set_option maxRecDepth 100000
set_option linter.unusedVariables false
set_option linter.unusedSimpArgs false
attribute [local go_sem] cell_set_far cell_set_off
open Classical in
/-- A thing of a map by its name, and whether there is one. -/
noncomputable def sget (l : List FeatD) (id : ByteArray) : FeatD × Bool := if SheetOk l then (match atK l id with | some k => (l.getD k feat0, true) | none => (feat0, false)) else (feat0, false)
theorem sget_cases (l : List FeatD) (id : ByteArray) : (sheetOk l = false ∧ sget l id = (feat0, false)) ∨ (sheetOk l = true ∧ atK l id = none ∧ sget l id = (feat0, false)) ∨ (∃ k, sheetOk l = true ∧ atK l id = some k ∧ ∃ h : k < l.length, l[k].1 = id ∧ sget l id = (l[k], true)) := by
  unfold sget
  cases h : sheetOk l with
  | false => exact .inl ⟨rfl, if_neg (sheetOk_f.1 h)⟩
  | true =>
    rw [if_pos (sheetOk_t.1 h)]
    cases ha : atK l id with
    | none => exact .inr (.inl ⟨rfl, rfl, rfl⟩)
    | some k =>
      obtain ⟨hk, he, _⟩ := atK_is ha
      refine .inr (.inr ⟨k, rfl, rfl, hk, he, ?_⟩)
      simp only [List.getD_eq_getElem?_getD, List.getElem?_eq_getElem hk, Option.getD_some]
end
end Go.Proofs.YtfbhjknkofnohaaDoor
