/- Maps whose things' rows lie apart: copies, marks; SheetGet. -/
import Derived.Test.YtgdgnlpohnpgiaaGreatDoorSa
import Derived.Test.YtgdgnlpohnpgiaaGreatDoorM
import Derived.Test.YtgdgnlpohnpgiaaGreatDoorFm
namespace Go.Proofs.YtgdgnlpohnpgiaaGreatDoor
section
open Go.RowKit Go.Proofs.YtgdgnlpohnpgiaaGreatDoorW.PrintWords Go.Proofs.YtgdgnlpohnpgiaaGreatDoorW.PrintLast
set_option linter.unusedVariables false
set_option linter.unusedSimpArgs false
/-- Every cell of the one world is so in the other. -/
def Sub (W W1 : World) : Prop := ∀ p v, W.cell? p = some v → W1.cell? p = some v
theorem Sub.refl (W : World) : Sub W W := fun _ _ h => h
theorem Sub.trans {W W1 W2 : World} (h : Sub W W1) (h1 : Sub W1 W2) : Sub W W2 := fun p v hc => h1 p v (h p v hc)
theorem Sub.of {W W1 : World} (h : Below W.heap.size W W1) : Sub W W1 := fun _ _ hc => pw_cell_below h hc
theorem ReadsRow.sub {α : Type} {R R' : α → List Value → Prop} {size : Nat} {w w1 : World} {A : Option Addr} {n : Nat} {ps : List α} (h : ReadsRow R size w A n ps) (hb : Sub w w1) (hR : ∀ p c, R p c → R' p c) : ReadsRow R' size w1 A n ps :=
  ⟨h.1, h.2.1, fun hn => by
    obtain ⟨ad, e, hc⟩ := h.2.2 hn
    refine ⟨ad, e, fun j p hj => ?_⟩
    obtain ⟨c, hs, hr, hcell⟩ := hc j p hj
    exact ⟨c, hs, hR _ _ hr, fun i u hu => hb _ _ (hcell i u hu)⟩⟩
theorem kPt_sub {w w1 : World} {A : Option Addr} {n : Nat} {xs : List Pt} (h : kPt.C w A n xs) (hb : Sub w w1) : kPt.C w1 A n xs := ReadsRow.sub h hb (fun _ _ h => h)
theorem kTag_sub {w w1 : World} {A : Option Addr} {n : Nat} {xs : List Tag} (h : kTag.C w A n xs) (hb : Sub w w1) : kTag.C w1 A n xs := ReadsRow.sub h hb (fun _ _ h => h)
theorem kFeat_subK {w w1 : World} {x : FeatD} {cs : List Value} (h : kFeat.K w x cs) (hb : Sub w w1) : kFeat.K w1 x cs := by
  obtain ⟨A, c, B, d, rfl, g1, g2, g3, g4⟩ := kFeat_open h
  exact kFeat_mk w1 x A B c d g1 g2 (kPt_sub g3 hb) (kTag_sub g4 hb)
theorem kFeat_sub {w w1 : World} {A : Option Addr} {n : Nat} {xs : List FeatD} (h : kFeat.C w A n xs) (hb : Sub w w1) : kFeat.C w1 A n xs := ReadsRow.sub h hb (fun _ _ h => kFeat_subK h hb)
/-- A thing whose rows are read in the world W. -/
def kRaw (W : World) : Kd FeatD where
  sz := 4
  E := []
  K := fun _ x cs => kFeat.K W x cs
  M := fun _ _ _ x cs => kFeat.K W x cs
  K_len := fun h => kFeat.K_len h
  K_one := fun h => kFeat.K_one h
  K_below := fun _ h => h
  K_of_M := fun h => h
  M_mono := fun _ h => h
  M_bound := fun h => h
  M_move := fun _ h => h
  M_lower := fun _ h => h
theorem kRaw_C {W w : World} {A : Option Addr} {n : Nat} {xs : List FeatD} (h : (kRaw W).C w A n xs) (hs : Sub W w) : kFeat.C w A n xs := ReadsRow.sub (R' := kFeat.K w) h (Sub.refl w) (fun _ _ hk => kFeat_subK hk hs)
theorem kRaw_up {W W1 w : World} {e base : Nat} {ok : Nat → Prop} {v : Value} {xs : List FeatD} (h : (kRaw W).R e w base ok v xs) (hs : Sub W W1) : (kRaw W1).R e w base ok v xs :=
  ⟨h.1, h.2.imp_ (R' := (kRaw W1).M w base (fun k => ok k ∧ some k ≠ v.ownBlock)) (fun _ _ hk => kFeat_subK hk hs)⟩
/-- The world without a block. -/
def World.less (W : World) (g : Nat) : World := { W with heap := W.heap.modify g (fun _ => .cells #[] 0 (0, 0)) }
theorem less_heap (W : World) (g k : Nat) (h : k ≠ g) : (World.less W g).heap[k]? = W.heap[k]? := by
  unfold World.less
  simp only [Array.getElem?_modify]
  rw [if_neg (fun e => h e.symm)]
theorem less_size (W : World) (g : Nat) : (World.less W g).heap.size = W.heap.size := by unfold World.less; simp
theorem less_cell (W : World) (g : Nat) (p : Addr) (h : p.block ≠ g) : (World.less W g).cell? p = W.cell? p := World.cell?_of_block (w := W) (less_heap W g _ h)
theorem less_self (W : World) (g : Nat) (p : Addr) (h : p.block = g) (v : Value) : (World.less W g).cell? p ≠ some v := by
  intro hc
  have : (World.less W g).heap[p.block]? = (W.heap[p.block]?).map (fun _ => .cells #[] 0 (0, 0)) := by
    unfold World.less
    simp only [Array.getElem?_modify, h]
    simp
  unfold World.cell? at hc
  rw [this] at hc
  cases hh : W.heap[p.block]? with
  | none => rw [hh] at hc; simp at hc
  | some o => rw [hh] at hc; simp at hc
end
section
open Go.RowKit Go.Proofs.YtgdgnlpohnpgiaaGreatDoorW.PrintWords Go.Proofs.YtgdgnlpohnpgiaaGreatDoorW.PrintLast
set_option linter.unusedVariables false
set_option linter.unusedSimpArgs false
abbrev RawF := ByteArray × Int × Value × Value
def rawL (x : RawF) : List Value := [.string x.1, .int .i64 x.2.1, x.2.2.1, x.2.2.2]
/-- Four cells as they are. -/
def kV : Kd RawF where
  sz := 4
  E := []
  K := fun _ x cs => cs = rawL x ∧ x.2.2.1.oneCell' = true ∧ x.2.2.2.oneCell' = true
  M := fun _ _ _ x cs => cs = rawL x ∧ x.2.2.1.oneCell' = true ∧ x.2.2.2.oneCell' = true
  K_len := by rintro w x cs ⟨rfl, _⟩; rfl
  K_one := by
    rintro w x cs ⟨rfl, h1, h2⟩ u hu
    simp only [rawL, List.mem_cons, List.mem_nil_iff, or_false] at hu
    rcases hu with rfl | rfl | rfl | rfl
    · rfl
    · rfl
    · exact h1
    · exact h2
  K_below := fun _ h => h
  K_of_M := fun h => h
  M_mono := fun _ h => h
  M_bound := fun h => h
  M_move := fun _ h => h
  M_lower := fun _ h => h
abbrev raw0 : RawF := (ByteArray.empty, 0, .slice none 0 0, .slice none 0 0)
/-- A thing's rows lie from a on below b. -/
def Inn (w : World) (a b : Nat) (f : FeatD) (x : RawF) : Prop := x.1 = f.1 ∧ x.2.1 = f.2.1.1 ∧ RI kPt 84 w a b x.2.2.1 f.2.1.2 ∧ RI kTag 54 w a b x.2.2.2 f.2.2
theorem Inn.K {w : World} {a b : Nat} {f : FeatD} {x : RawF} (h : Inn w a b f x) : kFeat.K w f (rawL x) := by
  obtain ⟨x1, x2, u, v⟩ := x
  obtain ⟨h1, h2, h3, h4⟩ := h
  simp only at h1 h2 h3 h4
  subst h1; subst h2
  exact kFeat.K_of_M (show kFeat.M w 0 (fun _ => True) f (rawL (f.1, f.2.1.1, u, v)) from kFeat_mkM f (Kd.R_lower (Kd.R_mono h3 (fun _ _ => trivial)) (Nat.zero_le _)) (Kd.R_lower (Kd.R_mono h4 (fun _ _ => trivial)) (Nat.zero_le _)))
theorem Inn.below {w w1 : World} {a b : Nat} {f : FeatD} {x : RawF} (h : Inn w a b f x) (hb : Below w.heap.size w w1) : Inn w1 a b f x := ⟨h.1, h.2.1, h.2.2.1.below hb, h.2.2.2.below hb⟩
theorem Inn.ex {w w1 : World} {a b lo hi : Nat} {f : FeatD} {x : RawF} (h : Inn w a b f x) (hx : Ex lo hi w w1) (hd : b ≤ lo ∨ hi ≤ a) : Inn w1 a b f x := ⟨h.1, h.2.1, h.2.2.1.ex hx hd, h.2.2.2.ex hx hd⟩
theorem Inn.far {w : World} {a b : Nat} {f : FeatD} {x : RawF} (h : Inn w a b f x) {p : Addr} (hp : p.block < a ∨ b ≤ p.block) (u : Value) : Inn (w.setCell p u) a b f x := ⟨h.1, h.2.1, h.2.2.1.far hp u, h.2.2.2.far hp u⟩
theorem Inn.grown {w w1 : World} {a b : Nat} {f : FeatD} {x : RawF} {row : Option Nat} (h : Inn w a b f x) (hg : w.grownBy w1 row) (hd : ∀ g, row = some g → g < a ∨ b ≤ g) : Inn w1 a b f x := by
  have key : ∀ {α : Type} {d : Kd α} {e : Nat} {v : Value} {xs : List α}, RI d e w a b v xs → RI d e w1 a b v xs := fun h =>
    Kd.R_mono (Kd.R_grown (Kd.R_bound h) hg (fun k hk e => by have h1 := hk.1; have h2 := hk.2.1; have := hd k e.symm; omega)) (fun _ hk => hk.1)
  exact ⟨h.1, h.2.1, key h.2.2.1, key h.2.2.2⟩
theorem Inn.wide {w : World} {a b a' b' : Nat} {f : FeatD} {x : RawF} (h : Inn w a b f x) (h1 : a' ≤ a) (h2 : b ≤ b') : Inn w a' b' f x := ⟨h.1, h.2.1, h.2.2.1.wide h1 h2, h.2.2.2.wide h1 h2⟩
theorem Inn.one {w : World} {a b : Nat} {f : FeatD} {x : RawF} (h : Inn w a b f x) : x.2.2.1.oneCell' = true ∧ x.2.2.2.oneCell' = true := by
  obtain ⟨A, c, e1, _⟩ := h.2.2.1.form
  obtain ⟨B, d, e2, _⟩ := h.2.2.2.form
  rw [e1, e2]
  exact ⟨rfl, rfl⟩
/-- A row of one's own, its things' rows apart. -/
structure FSep (w : World) (lo hi : Nat) (v : Value) (l : List FeatD) (xs : List RawF) (I J : Nat → Nat) : Prop where
  row : RI kV 28 w lo hi v xs
  len : xs.length = l.length
  bnd : ∀ i, i < l.length → lo ≤ I i ∧ I i ≤ J i ∧ J i ≤ hi ∧ ∀ g, v.ownBlock = some g → g < I i ∨ J i ≤ g
  ord : ∀ i j, i < j → j < l.length → J i ≤ I j ∨ J j ≤ I i
  inn : ∀ i, (h : i < l.length) → (h2 : i < xs.length) → Inn w (I i) (J i) l[i] xs[i]
def Sep (w : World) (lo hi : Nat) (v : Value) (l : List FeatD) : Prop := ∃ xs I J, FSep w lo hi v l xs I J
section
variable {w w1 : World} {lo hi lo' hi' : Nat} {v : Value} {l : List FeatD} {xs : List RawF} {I J : Nat → Nat}
theorem FSep.C {A : Option Addr} {n c : Nat} (h : FSep w lo hi (.slice A n c) l xs I J) : n = l.length ∧ n ≤ c ∧ kFeat.C w A l.length l := by
  obtain ⟨h1, h2, h3⟩ := h.row.rd
  have hl := h.len
  refine ⟨by omega, h2, ?_⟩
  rw [hl] at h3
  refine ⟨rfl, h3.2.1, fun hn => ?_⟩
  obtain ⟨ad, e, hc⟩ := h3.2.2 hn
  refine ⟨ad, e, fun j p hj => ?_⟩
  obtain ⟨hj1, hj2⟩ := List.getElem?_eq_some_iff.1 hj
  have hjx : j < xs.length := by omega
  obtain ⟨cs, hs, ⟨hr, _⟩, hcell⟩ := hc j xs[j] (List.getElem?_eq_getElem hjx)
  have hk := (h.inn j hj1 hjx).K
  rw [hj2, ← hr] at hk
  exact ⟨cs, hs, hk, hcell⟩
theorem FSep.below (h : FSep w lo hi v l xs I J) (hb : Below w.heap.size w w1) : FSep w1 lo hi v l xs I J := ⟨h.row.below hb, h.len, h.bnd, h.ord, fun i h1 h2 => (h.inn i h1 h2).below hb⟩
theorem FSep.ex (h : FSep w lo hi v l xs I J) (hx : Ex lo' hi' w w1) (hd : hi ≤ lo' ∨ hi' ≤ lo) : FSep w1 lo hi v l xs I J :=
  ⟨h.row.ex hx hd, h.len, h.bnd, h.ord, fun i h1 h2 => (h.inn i h1 h2).ex hx (by have := h.bnd i h1; omega)⟩
theorem FSep.wide (h : FSep w lo hi v l xs I J) (a : lo' ≤ lo) (b : hi ≤ hi') : FSep w lo' hi' v l xs I J :=
  ⟨h.row.wide a b, h.len, fun i hi_ => by obtain ⟨h1, h2, h3, h4⟩ := h.bnd i hi_; exact ⟨by omega, h2, by omega, h4⟩, h.ord, h.inn⟩
theorem Sep.C {A : Option Addr} {n c : Nat} (h : Sep w lo hi (.slice A n c) l) : n = l.length ∧ n ≤ c ∧ kFeat.C w A l.length l := by
  obtain ⟨_, _, _, h⟩ := h
  exact h.C
theorem Sep.below (h : Sep w lo hi v l) (hb : Below w.heap.size w w1) : Sep w1 lo hi v l := by
  obtain ⟨_, _, _, h⟩ := h
  exact ⟨_, _, _, h.below hb⟩
theorem Sep.ex (h : Sep w lo hi v l) (hx : Ex lo' hi' w w1) (hd : hi ≤ lo' ∨ hi' ≤ lo) : Sep w1 lo hi v l := by
  obtain ⟨_, _, _, h⟩ := h
  exact ⟨_, _, _, h.ex hx hd⟩
theorem Sep.wide (h : Sep w lo hi v l) (a : lo' ≤ lo) (b : hi ≤ hi') : Sep w lo' hi' v l := by
  obtain ⟨_, _, _, h⟩ := h
  exact ⟨_, _, _, h.wide a b⟩
theorem Sep.nil (w : World) (lo hi : Nat) : Sep w lo hi (.slice none 0 0) [] := ⟨[], fun _ => 0, fun _ => 0, ⟨⟨fun k hk => by simp [Value.ownBlock] at hk, (Kd.R_nil kV _ w lo (fun _ => True)).2.imp_ (fun _ _ h => h)⟩, rfl, fun i h => by simp at h, fun i j _ h => by simp at h, fun i h => by simp at h⟩⟩
/-- One thing more, behind. -/
theorem FSep.snoc {W : World} {v1 : Value} {f : FeatD} {x : RawF} {a b base : Nat} (h : FSep W base W.heap.size v l xs I J) (hb : a ≤ b) (hbw : b ≤ W.heap.size) (hI : Inn W a b f x) (hba : base ≤ a) (hJ : ∀ i, i < l.length → J i ≤ a) (hv : ∀ g, v.ownBlock = some g → g < a ∨ b ≤ g)
    (hr : kV.R 28 w1 base (fun _ => True) v1 (xs ++ [x])) (hg : W.grownBy w1 v.ownBlock) (hat : v1.ownBlock = v.ownBlock ∨ ∃ g, v1.ownBlock = some g ∧ W.heap.size ≤ g) :
    Sep w1 base w1.heap.size v1 (l ++ [f]) := by
  have hn := h.len
  refine ⟨xs ++ [x], fun i => if i = l.length then a else I i, fun i => if i = l.length then b else J i, ⟨RI.of hr, by simp [hn], fun i hi => ?_, fun i j hij hj => ?_, fun i h1 h2 => ?_⟩⟩
  · have hs := hg.size
    have key : ∀ p q, q ≤ W.heap.size → (∀ g, v.ownBlock = some g → g < p ∨ q ≤ g) → ∀ g, v1.ownBlock = some g → g < p ∨ q ≤ g := by
      intro p q hq h g hg1
      rcases hat with e | ⟨g', e, hle⟩
      · exact h g (by rw [← e]; exact hg1)
      · rw [e] at hg1
        injection hg1 with hg1
        right; omega
    by_cases e : i = l.length
    · simp only [e, if_true]
      exact ⟨by omega, hb, by omega, key _ _ (by omega) hv⟩
    · simp only [if_neg e]
      rw [List.length_append, List.length_singleton] at hi
      obtain ⟨b1, b2, b3, b4⟩ := h.bnd i (by omega)
      exact ⟨b1, b2, by omega, key _ _ (by omega) b4⟩
  · rw [List.length_append, List.length_singleton] at hj
    have e1 : i ≠ l.length := by omega
    simp only [if_neg e1]
    by_cases e : j = l.length
    · simp only [e, if_true]; exact .inl (hJ i (by omega))
    · simp only [if_neg e]; exact h.ord i j hij (by omega)
  · rw [List.length_append, List.length_singleton] at h1
    by_cases e : i = l.length
    · subst e
      simp only [if_true]
      rw [List.getElem_append_right (Nat.le_refl _), List.getElem_append_right (by omega)]
      simp only [hn, Nat.sub_self, List.getElem_cons_zero]
      exact hI.grown hg (fun g e => hv g e)
    · simp only [if_neg e]
      rw [List.getElem_append_left (by omega), List.getElem_append_left (by omega)]
      exact (h.inn i (by omega) (by omega)).grown hg (fun g e => (h.bnd i (by omega)).2.2.2 g e)
end
end
section
open Go.RowKit Go.Proofs.YtgdgnlpohnpgiaaGreatDoorW.PrintWords Go.Proofs.YtgdgnlpohnpgiaaGreatDoorW.PrintLast
set_option maxRecDepth 100000
set_option linter.unusedVariables false
set_option linter.unusedSimpArgs false
abbrev z0Feat : Value := .agg #[.string ByteArray.empty, .int .i64 0, .slice none 0 0, .slice none 0 0]
/-- A row of no elements, written out. -/
theorem litK {α : Type} (d : Kd α) (e : Nat) (w : World) (base : Nat) (hb : base ≤ w.heap.size) : d.R e (w.alloc (.cells #[] e)) base (fun _ => True) (.slice (some ⟨w.heap.size, 0, none⟩) 0 0) [] :=
  ⟨fun _ _ => trivial, [], World.ownsRow_lit (base := base) (e := e) (size := d.sz) w #[] 0 hb (by decide) (by simp), Reps.none _ _⟩
theorem Sep.lit0 (w : World) (base : Nat) (hb : base ≤ w.heap.size) : Sep (w.alloc (.cells #[] 28)) base (w.alloc (.cells #[] 28)).heap.size (.slice (some ⟨w.heap.size, 0, none⟩) 0 0) [] :=
  ⟨[], fun _ => 0, fun _ => 0, ⟨RI.of (litK kV _ w base hb), rfl, fun i h => by simp at h, fun i j _ h => by simp at h, fun i h => by simp at h⟩⟩
section
variable {ops : Array Oper} {rest : List Oper} {o : Oper} {a : Act} {Q : Exit → Act → World → Prop}
/-- append(v, f): a thing of one's own, behind all rows so far. -/
theorem appSep {w0 W : World} {base : Nat} (s x : Operand) (v : Value) {l : List FeatD} {xs : List RawF} {I J : Nat → Nat} (f : FeatD) (r : RawF) (cs : List Value) (hcs : cs = rawL r) {p q : Nat} (h : FSep W base W.heap.size v l xs I J) (hpq : p ≤ q) (hq : q ≤ W.heap.size) (hI : Inn W p q f r) (hba : base ≤ p) (hJ : ∀ i, i < l.length → J i ≤ p) (hv : ∀ g, v.ownBlock = some g → g < p ∨ q ≤ g)
    (HB : Below base w0 W) (hl : l.length ≤ 1048577)
    (hk : ∀ A' c' w1, Sep w1 base w1.heap.size (.slice A' (l.length + 1) c') (l ++ [f]) → Below base w0 w1 → wpList Tryz.prog ops Q rest (a.put o.dst (.slice A' (l.length + 1) c')) w1)
    (hgd : o.guard = none := by rfl) (ho : o.op = .call { callee := .builtin .append, args := #[s, x], argTypes := #[39, 39] } := by rfl) (hs : a.eval s = v := by rfl) (hx : a.eval x = .slice (some ⟨W.heap.size, 0, none⟩) 1 1 := by rfl) :
    wpList Tryz.prog ops Q (o :: rest) a (W.alloc (.cells cs.toArray 28)) := by
  subst hcs
  have hn := h.len
  refine Kd.R_append kV (w0 := w0) base hgd s x 39 28 z0Feat 72 ho Tryz.underlying39 info_Feat rfl (by decide) (by omega) v xs r (rawL r) (fun _ => True) (fun _ => False) hs hx ⟨rfl, hI.one⟩ (fun _ hk => hk.elim) (fun _ _ => trivial) (h.row.up (Nat.le_refl _)) HB (by omega) (by omega) ?_
  intro v1 w1 ho1 hb1 hg1 hat
  have hs1 := FSep.snoc h hpq hq hI hba hJ hv ho1 hg1 hat
  obtain ⟨A', c', rfl⟩ := Kd.R_slice ho1
  have e : (xs ++ [r]).length = l.length + 1 := by rw [List.length_append, hn]; rfl
  rw [e] at hs1 ⊢
  exact hk A' c' w1 hs1 hb1
end
/-- A map in new memory, its things' rows apart. -/
def NSep (w : World) (l : List FeatD) (e : Ending) (w' : World) : Prop := ∃ A c, e = .returned (.slice A l.length c) ∧ Sep w' w.heap.size w'.heap.size (.slice A l.length c) l ∧ Below w.heap.size w w'
set_option maxHeartbeats 4000000 in
theorem cloneSheet_c (A : Option Addr) (c : Nat) (l : List FeatD) (w : World) (hl : kFeat.C w A l.length l) (hn : Few l) :
    Calls Tryz.prog 56 #[.slice A l.length c] w (NSep w l) := by
  have n1 := hn.1
  go_enter Tryz.func56, Tryz.ntmps56
  go_wp2
  go_loopw [3, 9] (fun q3 q9 wr => ∃ (k : Nat) (B : Option Addr) (d : Nat), k ≤ l.length ∧ q9 = .int .i64 k ∧ q3 = .slice B k d ∧ Aside0 (Sep wr w.heap.size wr.heap.size (.slice B k d) (l.take k)) ∧ Aside0 (Below w.heap.size w wr)) (fun _ q9 _ => l.length - (intOf q9).toNat)
  case atStart => exact ⟨0, _, _, by omega, rfl, rfl, ⟨Sep.lit0 w w.heap.size (Nat.le_refl _)⟩, ⟨bl⟩⟩
  case round =>
    obtain ⟨k, B, d, hk, rfl, rfl, ⟨hsep⟩, ⟨hb⟩⟩ := hrel
    by_cases hlt : k < l.length
    · obtain ⟨ad, A1, c1, B1, d1, rfl, e0, e1, e2, e3, hC, hT, _, _⟩ := at_Feat hl k hlt
      replace e0 := pw_cell_below hb e0
      replace e1 := pw_cell_below hb e1
      replace e2 := pw_cell_below hb e2
      replace e3 := pw_cell_below hb e3
      have z1 := hn.2 _ (List.getElem_mem hlt)
      have d1' : decide ((k : Int) < (l.length : Int)) = true := decide_eq_true (by omega)
      have hst := Lib.hid (List.take_succ_eq_append_getElem hlt)
      have htl : (l.take k).length = k := by rw [List.length_take]; omega
      obtain ⟨xs, I, J, hS⟩ := hsep
      generalize l[k] = f at *
      generalize l.take k = lk at *
      generalize hl1 : l.take (k + 1) = lk1 at *
      have Hl1 := Lib.hid hl1
      clear hl1
      have Htl := Lib.hid htl
      have s0 := hb.size
      clear htl
      go_wp2_with fail
      refine (cloneF_c f A1 c1 B1 d1 _ (Kd.C_below hC bl) (Kd.C_below hT bl) z1.1 z1.2).mono ?_
      rintro e w2 ⟨A2, c2, B2, d2, rfl, hp2, ht2, hb2⟩
      have s2 := hb2.size
      simp only [World.size_alloc] at s2 hp2 ht2
      have hb3 : Below wr.heap.size wr w2 := bl
      have hB : Below w.heap.size w w2 := bl
      have hS2 := (hS.below hb3).wide (Nat.le_refl _) hb3.size
      have hJ : ∀ i, i < lk.length → J i ≤ wr.heap.size + 1 := fun i hi => by have := (hS.bnd i hi).2.2.1; omega
      have hv : ∀ g, (Value.slice B k d).ownBlock = some g → g < wr.heap.size + 1 ∨ w2.heap.size ≤ g := fun g hg => by have : g < wr.heap.size := hS.row.1 g hg; omega
      have hk9 : lk.length ≤ 1048577 := by have := Htl.out; omega
      have HK := Lib.hid (And.intro hS2 (And.intro hJ hv))
      clear hS hS2 hJ hv e0 e1 e2 e3
      go_wp2_with (at_builtin; refine appSep (w0 := w) (base := w.heap.size) (.tmp 13) (.tmp 16) _ f (f.1, f.2.1.1, .slice A2 f.2.1.2.length c2, .slice B2 f.2.2.length d2) [.string f.1, .int .i64 f.2.1.1, .slice A2 f.2.1.2.length c2, .slice B2 f.2.2.length d2] rfl HK.out.1 (by omega) (Nat.le_refl _) ⟨rfl, rfl, hp2, ht2⟩ (by omega) HK.out.2.1 HK.out.2.2 hB hk9 ?_; intro B5 d5 w5 hs5 hb5; replace hs5 := (show Sep w5 w.heap.size w5.heap.size (.slice B5 (k + 1) d5) lk1 by rw [hst.out]; have h_ := hs5; rwa [Htl.out] at h_); rw [Htl.out])
      exact ⟨⟨k + 1, B5, d5, by omega, by go_num, rfl, ⟨by rw [Hl1.out]; exact hs5⟩, ⟨hb5⟩⟩, by simp [intOf]; omega⟩
    · have d1 : decide ((k : Int) < (l.length : Int)) = false := decide_eq_false (by omega)
      obtain rfl : k = l.length := by omega
      rw [List.take_length] at hsep
      go_wp2
      go_ret
      exact ⟨B, d, rfl, hsep, hb⟩
end
section
open Go.RowKit Go.Proofs.YtgdgnlpohnpgiaaGreatDoorW.PrintWords Go.Proofs.YtgdgnlpohnpgiaaGreatDoorW.PrintLast
set_option maxRecDepth 100000
set_option linter.unusedVariables false
set_option linter.unusedSimpArgs false
theorem kV_M {W : World} {base : Nat} {ok : Nat → Prop} {x : RawF} {cs : List Value} (h : kV.M W base ok x cs) : cs = rawL x ∧ x.2.2.1.oneCell' = true ∧ x.2.2.2.oneCell' = true := h
theorem own_V {e base g n cap : Nat} {ok : Nat → Prop} {W : World} {xs : List RawF} (h : kV.R e W base ok (.slice (some ⟨g, 0, none⟩) n cap) xs) (i : Nat) (hi : i < xs.length) :
    W.cell? ⟨g, i * 4, none⟩ = some (.string xs[i].1) ∧ W.cell? ⟨g, i * 4 + 1, none⟩ = some (.int .i64 xs[i].2.1) ∧ W.cell? ⟨g, i * 4 + 2, none⟩ = some xs[i].2.2.1 ∧ W.cell? ⟨g, i * 4 + 3, none⟩ = some xs[i].2.2.2 ∧
      W.frozen? ⟨g, i * 4, none⟩ = false ∧ W.frozen? ⟨g, i * 4 + 1, none⟩ = false ∧ W.frozen? ⟨g, i * 4 + 2, none⟩ = false ∧ W.frozen? ⟨g, i * 4 + 3, none⟩ = false := by
  have hn := (Kd.R_reads' h).1
  obtain ⟨c, hl, hM, hc, hf⟩ := Kd.R_elem h raw0 (i : Int) (by omega) (by omega)
  have hg : xs.getD i raw0 = xs[i] := by rw [List.getD_eq_getElem?_getD, List.getElem?_eq_getElem hi]; rfl
  simp only [Int.toNat_natCast] at hM hc hf
  rw [hg] at hM
  obtain ⟨rfl, _⟩ := kV_M hM
  exact ⟨hc 0 _ rfl, hc 1 _ rfl, hc 2 _ rfl, hc 3 _ rfl, hf 0, hf 1, hf 2, hf 3⟩
theorem set_V {e base g n cap : Nat} {ok : Nat → Prop} {W : World} {xs : List RawF} (h : kV.R e W base ok (.slice (some ⟨g, 0, none⟩) n cap) xs) (i : Nat) (hi : i < n) (r : RawF) (h1 : r.2.2.1.oneCell' = true) (h2 : r.2.2.2.oneCell' = true) :
    kV.R e ((((W.setCell ⟨g, i * 4, none⟩ (.string r.1)).setCell ⟨g, i * 4 + 1, none⟩ (.int .i64 r.2.1)).setCell ⟨g, i * 4 + 2, none⟩ r.2.2.1).setCell ⟨g, i * 4 + 3, none⟩ r.2.2.2) base ok (.slice (some ⟨g, 0, none⟩) n cap) (xs.set i r) := by
  obtain ⟨c, hl, hM, hc, hf⟩ := Kd.R_elem h raw0 (i : Int) (by omega) (by omega)
  have hl2 : c.length = 4 := hl
  have he : c.take 0 ++ rawL r ++ c.drop (0 + 4) = rawL r := by rw [List.drop_of_length_le (by omega)]; simp
  exact (Kd.R_seg h (i : Int) (by omega) (by omega) (seg := rawL r) (j := 0) hl hc (show 4 ≤ 4 by decide) (x' := r) (okp := fun k => ok k ∧ k ≠ g) (by
    show kV.M W base _ r (c.take 0 ++ rawL r ++ c.drop (0 + 4))
    rw [he]; exact ⟨rfl, h1, h2⟩) (fun _ hk => hk)).1
theorem set_V0 {e base g n cap : Nat} {ok : Nat → Prop} {W : World} {xs : List RawF} (h : kV.R e W base ok (.slice (some ⟨g, 0, none⟩) n cap) xs) (i : Nat) (hi : i < xs.length) (s : ByteArray) :
    kV.R e (W.setCell ⟨g, i * 4, none⟩ (.string s)) base ok (.slice (some ⟨g, 0, none⟩) n cap) (xs.set i (s, xs[i].2)) := by
  have hn := (Kd.R_reads' h).1
  obtain ⟨c, hl, hM, hc, hf⟩ := Kd.R_elem h raw0 (i : Int) (by omega) (by omega)
  have hg : xs.getD i raw0 = xs[i] := by rw [List.getD_eq_getElem?_getD, List.getElem?_eq_getElem hi]; rfl
  simp only [Int.toNat_natCast] at hM hc hf
  rw [hg] at hM
  obtain ⟨rfl, h1, h2⟩ := kV_M hM
  exact (Kd.R_seg h (i : Int) (by omega) (by omega) (seg := [.string s]) (j := 0) hl (by simpa using hc) (show 1 ≤ 4 by decide) (x' := (s, xs[i].2)) (okp := fun k => ok k ∧ k ≠ g) (show kV.M W base _ (s, xs[i].2) _ from ⟨rfl, h1, h2⟩) (fun _ hk => hk)).1
theorem set_V1 {e base g n cap : Nat} {ok : Nat → Prop} {W : World} {xs : List RawF} (h : kV.R e W base ok (.slice (some ⟨g, 0, none⟩) n cap) xs) (i : Nat) (hi : i < xs.length) (z : Int) :
    kV.R e (W.setCell ⟨g, i * 4 + 1, none⟩ (.int .i64 z)) base ok (.slice (some ⟨g, 0, none⟩) n cap) (xs.set i (xs[i].1, z, xs[i].2.2)) := by
  have hn := (Kd.R_reads' h).1
  obtain ⟨c, hl, hM, hc, hf⟩ := Kd.R_elem h raw0 (i : Int) (by omega) (by omega)
  have hg : xs.getD i raw0 = xs[i] := by rw [List.getD_eq_getElem?_getD, List.getElem?_eq_getElem hi]; rfl
  simp only [Int.toNat_natCast] at hM hc hf
  rw [hg] at hM
  obtain ⟨rfl, h1, h2⟩ := kV_M hM
  exact (Kd.R_seg h (i : Int) (by omega) (by omega) (seg := [.int .i64 z]) (j := 1) hl (by simpa using hc) (show 2 ≤ 4 by decide) (x' := (xs[i].1, z, xs[i].2.2)) (okp := fun k => ok k ∧ k ≠ g) (show kV.M W base _ (xs[i].1, z, xs[i].2.2) _ from ⟨rfl, h1, h2⟩) (fun _ hk => hk)).1
theorem RI.own1 {e lo hi g n c : Nat} {W : World} {xs : List RawF} (h : RI kV e W lo hi (.slice (some ⟨g, 0, none⟩) n c) xs) : lo ≤ g ∧ g < hi ∧ g < W.heap.size ∧ RI kV e W g (g + 1) (.slice (some ⟨g, 0, none⟩) n c) xs := by
  obtain ⟨h1, inner, ⟨ho1, ho2⟩, hr⟩ := h
  rcases ho2 with ⟨hv, _⟩ | ⟨g', cap', cur, hv, hb, hh, hnc, hcm, hcs, ht⟩
  · cases hv
  injection hv with ha hn hc
  injection ha with ha
  injection ha with hg
  subst hg; subst hc
  have hg3 : g < hi := h1 g rfl
  refine ⟨hb, hg3, blk_lt hh, fun k hk => ?_, inner, ⟨ho1, .inr ⟨g, c, cur, by rw [hn], Nat.le_refl _, hh, hnc, hcm, hcs, ht⟩⟩, hr.imp_ (fun _ _ hx => hx)⟩
  have : g = k := by simpa [Value.ownBlock] using hk
  show k < g + 1
  omega
theorem RI.wid {α : Type} {d : Kd α} {e lo hi lo' hi' : Nat} {W : World} {v : Value} {xs : List α} (h : RI d e W lo hi v xs) (h1 : lo' ≤ lo) (h2 : hi ≤ hi') : RI d e W lo' hi' v xs := h.wide h1 h2
/-- One thing has been written anew: its cells, and what lies in its interval. -/
theorem FSep.upd {w w6 : World} {lo hi g n c j : Nat} {l : List FeatD} {xs : List RawF} {I J : Nat → Nat} {f : FeatD} {r : RawF} (h : FSep w lo hi (.slice (some ⟨g, 0, none⟩) n c) l xs I J) (hj : j < l.length) (hf : ∀ k, k < w.heap.size → k ≠ g → (k < I j ∨ J j ≤ k) → w6.heap[k]? = w.heap[k]?)
    (hr : RI kV 28 w6 lo hi (.slice (some ⟨g, 0, none⟩) n c) (xs.set j r)) (hi6 : Inn w6 (I j) (J j) f r) : FSep w6 lo hi (.slice (some ⟨g, 0, none⟩) n c) (l.set j f) (xs.set j r) I J := by
  refine ⟨hr, by simp [h.len], fun i hi_ => h.bnd i (by simpa using hi_), fun i k hik hk => h.ord i k hik (by simpa using hk), fun i h1 h2 => ?_⟩
  rw [List.length_set] at h1 h2
  by_cases e : j = i
  · subst e
    rw [List.getElem_set_self, List.getElem_set_self]
    exact hi6
  · rw [List.getElem_set_ne e, List.getElem_set_ne e]
    have hb := h.bnd i h1
    have hgi := hb.2.2.2 g rfl
    have key : ∀ {α : Type} {d : Kd α} {e : Nat} {v : Value} {xs : List α}, RI d e w (I i) (J i) v xs → RI d e w6 (I i) (J i) v xs := fun hh =>
      Kd.R_mono (Kd.R_step (Kd.R_bound hh) (fun k hk hlt => by
        have h3 : k < J i := hk.1
        have h4 := hk.2.1
        refine hf k hlt (by omega) ?_
        rcases Nat.lt_or_ge i j with q | q
        · have := h.ord i j q hj; omega
        · have := h.ord j i (by omega) h1; omega)) (fun _ hk => hk.1)
    have hi2 := h.inn i h1 h2
    exact ⟨hi2.1, hi2.2.1, key hi2.2.2.1, key hi2.2.2.2⟩
/-! Marks of a map. -/
def markF (k : Int) (f : FeatD) : FeatD := (mtext k.toNat, (k + 1, markL (k + 2) f.2.1.2.length), markT (k + 2 + 2 * (f.2.1.2.length : Int)) f.2.2.length)
def mkk (k : Int) (f : FeatD) : Int := k + 2 + 2 * (f.2.1.2.length : Int) + 2 * (f.2.2.length : Int)
def markFs : Int → List FeatD → List FeatD
  | _, [] => []
  | k, f :: l => markF k f :: markFs (mkk k f) l
def mkks : Int → List FeatD → Int
  | k, [] => k
  | k, f :: l => mkks (mkk k f) l
theorem markFs_len : ∀ (k : Int) (l : List FeatD), (markFs k l).length = l.length
  | _, [] => rfl
  | k, f :: l => by simp [markFs, markFs_len (mkk k f) l]
theorem markFs_app : ∀ (k : Int) (l m : List FeatD), markFs k (l ++ m) = markFs k l ++ markFs (mkks k l) m
  | _, [], _ => rfl
  | k, f :: l, m => by simp [markFs, mkks, markFs_app (mkk k f) l m]
theorem mkks_app : ∀ (k : Int) (l m : List FeatD), mkks k (l ++ m) = mkks (mkks k l) m
  | _, [], _ => rfl
  | k, f :: l, m => by simp [mkks, mkks_app (mkk k f) l m]
theorem mkks_le : ∀ (k : Int) (l : List FeatD), k ≤ mkks k l ∧ mkks k l ≤ k + 2 * ((l.length + featsSz l : Nat) : Int)
  | k, [] => by simp [mkks, featsSz]
  | k, f :: l => by
    have h := mkks_le (mkk k f) l
    have h2 : f.2.1.2.length + f.2.2.length ≤ featSz f := by unfold featSz; omega
    simp only [mkks, featsSz, List.length_cons]
    unfold mkk at h ⊢
    omega
theorem markFs_take (k : Int) (l : List FeatD) (j : Nat) (h : j < l.length) : markFs k (l.take (j + 1)) = markFs k (l.take j) ++ [markF (mkks k (l.take j)) l[j]] := by
  rw [List.take_succ_eq_append_getElem h, markFs_app]; rfl
theorem mkks_take (k : Int) (l : List FeatD) (j : Nat) (h : j < l.length) : mkks k (l.take (j + 1)) = mkk (mkks k (l.take j)) l[j] := by
  rw [List.take_succ_eq_append_getElem h, mkks_app]; rfl
theorem mkks_at (k : Int) (l : List FeatD) (j : Nat) : k ≤ mkks k (l.take j) ∧ mkks k (l.take j) ≤ k + 2 * ((l.length + featsSz l : Nat) : Int) := by
  have h := mkks_le k (l.take j)
  have h2 := featsSz_le l j
  have h3 : (l.take j).length ≤ l.length := by rw [List.length_take]; omega
  omega
/-- The list in the midst of the marking. -/
def midF (k : Int) (l : List FeatD) (j : Nat) : List FeatD := markFs k (l.take j) ++ l.drop j
theorem midF_len (k : Int) (l : List FeatD) (j : Nat) (h : j ≤ l.length) : (midF k l j).length = l.length := by
  unfold midF; rw [List.length_append, markFs_len, List.length_take, List.length_drop]; omega
theorem midF_get (k : Int) (l : List FeatD) (j : Nat) (h : j < l.length) (h2 : j < (midF k l j).length) : (midF k l j)[j] = l[j] := by
  have hl : (markFs k (l.take j)).length = j := by rw [markFs_len, List.length_take]; omega
  have : (midF k l j)[j]? = some l[j] := by
    unfold midF
    rw [List.getElem?_append_right (by omega), hl, Nat.sub_self, List.getElem?_drop, Nat.add_zero, List.getElem?_eq_getElem h]
  rw [List.getElem?_eq_getElem h2] at this
  exact Option.some.inj this
theorem midF_set (k : Int) (l : List FeatD) (j : Nat) (h : j < l.length) : (midF k l j).set j (markF (mkks k (l.take j)) l[j]) = midF k l (j + 1) := by
  have hl : (markFs k (l.take j)).length = j := by rw [markFs_len, List.length_take]; omega
  unfold midF
  rw [List.set_append_right _ _ (by omega), hl, Nat.sub_self, markFs_take k l j h, List.drop_eq_getElem_cons h, List.set_cons_zero, List.append_assoc]
  rfl
end
section
open Go.RowKit Go.Proofs.YtgdgnlpohnpgiaaGreatDoorW.PrintWords Go.Proofs.YtgdgnlpohnpgiaaGreatDoorW.PrintLast
set_option maxRecDepth 100000
set_option linter.unusedVariables false
set_option linter.unusedSimpArgs false
/-- What the loop of a copying keeps. -/
structure TSs (w wr : World) (g n cap k : Nat) (l : List FeatD) (xs : List RawF) (I J : Nat → Nat) : Prop where
  len : xs.length = k
  row : kV.R 28 wr w.heap.size (fun _ => True) (.slice (some ⟨g, 0, none⟩) n cap) (xs ++ List.replicate (n - k) raw0)
  bnd : ∀ i, i < k → g < I i ∧ I i ≤ J i ∧ J i ≤ wr.heap.size
  ord : ∀ i j, i < j → j < k → J i ≤ I j
  inn : ∀ i, (h : i < k) → (h1 : i < l.length) → (h2 : i < xs.length) → Inn wr (I i) (J i) l[i] xs[i]
  bel : Below w.heap.size w wr
  gsz : g < wr.heap.size
theorem TSs.step {w wr w2 : World} {g n cap k : Nat} {l : List FeatD} {xs : List RawF} {I J : Nat → Nat} {f : FeatD} {r : RawF} (h : TSs w wr g n cap k l xs I J) (hk : k < n) (hl : k < l.length) (hf : l[k] = f) (hg : w.heap.size ≤ g) (hb : Below wr.heap.size wr w2) (hi : Inn w2 wr.heap.size w2.heap.size f r) :
    TSs w ((((w2.setCell ⟨g, k * 4, none⟩ (.string r.1)).setCell ⟨g, k * 4 + 1, none⟩ (.int .i64 r.2.1)).setCell ⟨g, k * 4 + 2, none⟩ r.2.2.1).setCell ⟨g, k * 4 + 3, none⟩ r.2.2.2) g n cap (k + 1) l (xs ++ [r]) (fun i => if i = k then wr.heap.size else I i) (fun i => if i = k then w2.heap.size else J i) := by
  have hgs := h.gsz
  have hs := hb.size
  have hn := h.len
  have far4 : ∀ {a b : Nat} {f : FeatD} {x : RawF}, Inn w2 a b f x → g < a → Inn ((((w2.setCell ⟨g, k * 4, none⟩ (.string r.1)).setCell ⟨g, k * 4 + 1, none⟩ (.int .i64 r.2.1)).setCell ⟨g, k * 4 + 2, none⟩ r.2.2.1).setCell ⟨g, k * 4 + 3, none⟩ r.2.2.2) a b f x :=
    fun h hga => (((h.far (p := ⟨g, k * 4, none⟩) (.inl hga) _).far (p := ⟨g, k * 4 + 1, none⟩) (.inl hga) _).far (p := ⟨g, k * 4 + 2, none⟩) (.inl hga) _).far (p := ⟨g, k * 4 + 3, none⟩) (.inl hga) _
  refine ⟨by simp [hn], ?_, fun i hi_ => ?_, fun i j hij hj => ?_, fun i h1 h2 h3 => ?_, ?_, by simp; omega⟩
  · have h1 := set_V (Kd.R_below h.row hb) k hk r hi.one.1 hi.one.2
    have e : (xs ++ List.replicate (n - k) raw0).set k r = xs ++ [r] ++ List.replicate (n - (k + 1)) raw0 := by
      rw [List.set_append_right _ _ (by omega), hn, Nat.sub_self, show n - k = (n - (k + 1)) + 1 by omega, List.replicate_succ, List.set_cons_zero, List.append_assoc]
      rfl
    rw [e] at h1
    exact h1
  · by_cases e : i = k
    · simp only [e, if_true]; simp; omega
    · simp only [if_neg e]
      have := h.bnd i (by omega)
      simp; omega
  · have e1 : i ≠ k := by omega
    simp only [if_neg e1]
    by_cases e : j = k
    · simp only [e, if_true]; exact (h.bnd i (by omega)).2.2
    · simp only [if_neg e]; exact h.ord i j hij (by omega)
  · by_cases e : i = k
    · subst e
      simp only [if_true]
      rw [List.getElem_append_right (by omega)]
      simp only [hn, Nat.sub_self, List.getElem_cons_zero]
      rw [hf]
      exact far4 hi hgs
    · simp only [if_neg e]
      rw [List.getElem_append_left (by omega)]
      exact far4 ((h.inn i (by omega) h2 (by omega)).below hb) (h.bnd i (by omega)).1
  · exact ((((h.bel.trans (hb.mono h.bel.size)).setCell hg _).setCell hg _).setCell hg _).setCell hg _
theorem raw0_M (w : World) (base : Nat) (ok : Nat → Prop) : kV.M w base ok raw0 [.string ByteArray.empty, .int .i64 0, .slice none 0 0, .slice none 0 0] := ⟨rfl, rfl, rfl⟩
end
section
open Go.RowKit Go.Proofs.YtgdgnlpohnpgiaaGreatDoorW.PrintWords Go.Proofs.YtgdgnlpohnpgiaaGreatDoorW.PrintLast
set_option maxRecDepth 100000
set_option linter.unusedVariables false
set_option linter.unusedSimpArgs false
theorem Ex.at {a b : Nat} {w w' : World} (h : Ex a b w w') {k : Nat} (hk : k < w.heap.size) (ho : k < a ∨ b ≤ k) : w'.heap[k]? = w.heap[k]? := by
  rcases ho with ho | ho
  · exact h.1.block _ ho
  · exact h.2 _ ho hk
theorem set_set_raw (xs : List RawF) (j : Nat) (h : j < xs.length) (s : ByteArray) (z : Int) (h2 : j < (xs.set j (s, xs[j].2)).length) : (xs.set j (s, xs[j].2)).set j ((xs.set j (s, xs[j].2))[j].1, z, (xs.set j (s, xs[j].2))[j].2.2) = xs.set j (s, z, xs[j].2.2) := by
  rw [List.set_set, List.getElem_set_self]
end
section
open Go.RowKit Go.Proofs.YtgdgnlpohnpgiaaGreatDoorW.PrintWords Go.Proofs.YtgdgnlpohnpgiaaGreatDoorW.PrintLast
set_option maxRecDepth 100000
set_option linter.unusedVariables false
set_option linter.unusedSimpArgs false
theorem markFs_get (k : Int) (l : List FeatD) (j : Nat) (h : j < l.length) (h2 : j < (markFs k l).length) : (markFs k l)[j] = markF (mkks k (l.take j)) l[j] := by
  have e : markFs k l = markFs k (l.take (j + 1)) ++ markFs (mkks k (l.take (j + 1))) (l.drop (j + 1)) := by rw [← markFs_app, List.take_append_drop]
  have h3 : (markFs k (l.take j)).length = j := by rw [markFs_len, List.length_take]; omega
  have : (markFs k l)[j]? = some (markF (mkks k (l.take j)) l[j]) := by
    rw [e, markFs_take k l j h, List.append_assoc, List.getElem?_append_right (by omega), h3, Nat.sub_self]
    rfl
  rw [List.getElem?_eq_getElem h2] at this
  exact Option.some.inj this
end
section
open Go.RowKit Go.Proofs.YtgdgnlpohnpgiaaGreatDoorW.PrintWords Go.Proofs.YtgdgnlpohnpgiaaGreatDoorW.PrintLast
set_option maxRecDepth 100000
set_option linter.unusedVariables false
set_option linter.unusedSimpArgs false
attribute [local go_sem] cell_set_far cell_set_off
theorem featAt1_c (f : FeatD) (A B : Option Addr) (c d : Nat) (key : ByteArray) (b : Nat) (w : World) (hc : w.cell? ⟨b, 0, none⟩ = some (.string key)) :
    Calls Tryz.prog 77 #[.agg #[.string f.1, .int .i64 f.2.1.1, .slice A f.2.1.2.length c, .slice B f.2.2.length d], .pointer (some ⟨b, 0, none⟩)] w fun e w' => e = .returned (.bool (eqB f.1 key)) ∧ Below w.heap.size w w' := by
  have hc2 := pw_cell_below (bl : Below w.heap.size w (w.alloc (.cells #[.string f.1, .int .i64 f.2.1.1, .slice A f.2.1.2.length c, .slice B f.2.2.length d] 28))) hc
  by_cases h : f.1 = key
  · have t := strB_t h
    have H := Lib.hid h
    clear h
    go_enter Tryz.func77, Tryz.ntmps77
    go_wp2
    go_ret
    exact ⟨ret_bool (eqB_t.2 H.out).symm, bl⟩
  · have t := strB_f h
    have H := Lib.hid h
    clear h
    go_enter Tryz.func77, Tryz.ntmps77
    go_wp2
    go_ret
    exact ⟨ret_bool (eqB_f.2 H.out).symm, bl⟩
set_option maxHeartbeats 1000000 in
theorem IndexFeat_c (A : Option Addr) (c : Nat) (l : List FeatD) (key : ByteArray) (b : Nat) (w : World) (hl : kFeat.C w A l.length l) (hn : l.length ≤ 1048576) (hc : w.cell? ⟨b, 0, none⟩ = some (.string key)) :
    Calls Tryz.prog 76 #[.slice A l.length c, .func (.func 77) #[] #[.pointer (some ⟨b, 0, none⟩)]] w fun e w' => e = .returned (.int .i64 (optI (atK l key))) ∧ Below w.heap.size w w' := by
  go_enter Tryz.func76, Tryz.ntmps76
  go_wp2
  go_loopw [8] (fun i wr => ∃ k : Nat, k ≤ l.length ∧ i = .int .i64 k ∧ Aside0 (∀ i, (hi : i < k) → (hj : i < l.length) → l[i].1 ≠ key) ∧ Aside0 (Below w.heap.size w wr)) (fun i _ => l.length - (intOf i).toNat)
  case atStart => exact ⟨0, by omega, rfl, ⟨fun i hi => absurd hi (by omega)⟩, ⟨Below.refl _ _⟩⟩
  case round =>
    obtain ⟨k, hk, rfl, he, ⟨hb1⟩⟩ := hrel
    by_cases hlt : k < l.length
    · obtain ⟨ad, A1, c1, B1, d1', rfl, e0, e1, e2, e3, hC, hT, _, _⟩ := at_Feat hl k hlt
      replace e0 := pw_cell_below hb1 e0
      replace e1 := pw_cell_below hb1 e1
      replace e2 := pw_cell_below hb1 e2
      replace e3 := pw_cell_below hb1 e3
      have d1 : decide ((k : Int) < (l.length : Int)) = true := decide_eq_true (by omega)
      cases hx : eqB l[k].1 key with
      | true =>
        have Hx := Lib.hid (show optI (atK l key) = k by rw [atK_some k hlt (eqB_t.1 hx) (fun i hi => he.out i hi (by omega))]; rfl)
        go_wp2_with fail
        refine (featAt1_c l[k] A1 B1 c1 d1' key b _ (pw_cell_below hb1 hc)).mono ?_
        rintro e w2 ⟨rfl, hb2⟩
        rw [hx]
        go_wp2
        go_ret
        exact ⟨ret_int Hx.out.symm, bl⟩
      | false =>
        have Hx := Lib.hid (eqB_f.1 hx)
        go_wp2_with fail
        refine (featAt1_c l[k] A1 B1 c1 d1' key b _ (pw_cell_below hb1 hc)).mono ?_
        rintro e w2 ⟨rfl, hb2⟩
        rw [hx]
        go_wp2
        exact ⟨⟨k + 1, by omega, by go_num, ⟨fun i hi hj => if h : i = k then h ▸ Hx.out else he.out i (by omega) hj⟩, ⟨bl⟩⟩, by simp [intOf]; omega⟩
    · have Hx := Lib.hid (show optI (atK l key) = -1 by rw [atK_none (fun i hi => he.out i (by omega) hi)]; rfl)
      have d1 : decide ((k : Int) < (l.length : Int)) = false := decide_eq_false (by omega)
      go_wp2
      go_ret
      exact ⟨ret_int Hx.out.symm, bl⟩
theorem featAt_c (A : Option Addr) (c : Nat) (l : List FeatD) (key : ByteArray) (w : World) (hl : kFeat.C w A l.length l) (hn : l.length ≤ 1048576) :
    Calls Tryz.prog 55 #[.slice A l.length c, .string key] w fun e w' => e = .returned (.int .i64 (optI (atK l key))) ∧ Below w.heap.size w w' := by
  go_enter Tryz.func55, Tryz.ntmps55
  go_wp2_with fail
  refine (IndexFeat_c A c l key w.heap.size _ (Kd.C_below hl bl) hn (by simp)).mono ?_
  rintro e w2 ⟨rfl, hb2⟩
  go_wp2
  go_ret
  exact ⟨rfl, bl⟩
open Classical in
/-- A thing of a map by its name, and whether there is one. -/
noncomputable def sget (l : List FeatD) (id : ByteArray) : FeatD × Bool := if SheetOk l then (match atK l id with | some k => (l.getD k feat0, true) | none => (feat0, false)) else (feat0, false)
theorem sget_cases (l : List FeatD) (id : ByteArray) : (sheetOk l = false ∧ sget l id = (feat0, false)) ∨ (sheetOk l = true ∧ atK l id = none ∧ sget l id = (feat0, false)) ∨ (∃ k, sheetOk l = true ∧ atK l id = some k ∧ ∃ h : k < l.length, l[k].1 = id ∧ sget l id = (l[k], true)) := by
  unfold sget
  cases h : sheetOk l with
  | false => exact .inl ⟨rfl, if_neg (sheetOk_f.1 h)⟩
  | true =>
    rw [if_pos (sheetOk_t.1 h)]
    cases ha : atK l id with
    | none => exact .inr (.inl ⟨rfl, rfl, rfl⟩)
    | some k =>
      obtain ⟨hk, he, _⟩ := atK_is ha
      refine .inr (.inr ⟨k, rfl, rfl, hk, he, ?_⟩)
      simp only [List.getD_eq_getElem?_getD, List.getElem?_eq_getElem hk, Option.getD_some]
end
end Go.Proofs.YtgdgnlpohnpgiaaGreatDoor
