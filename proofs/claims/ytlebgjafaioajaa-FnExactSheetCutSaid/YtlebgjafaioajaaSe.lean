/- Rows of things of one's own whose inner rows lie apart from one another: the row's cells as raw values, the inner rows in intervals. -/
import Derived.Test.YtlebgjafaioajaaSd
import Derived.Test.YtlebgjafaioajaaFt
namespace Go.Proofs.Ytlebgjafaioajaa
open Go.RowKit Go.Proofs.YtlebgjafaioajaaW.PrintWords Go.Proofs.YtlebgjafaioajaaW.PrintLast
set_option linter.unusedVariables false
set_option linter.unusedSimpArgs false
abbrev RawF := ByteArray × Int × Value × Value
def rawL (x : RawF) : List Value := [.string x.1, .int .i64 x.2.1, x.2.2.1, x.2.2.2]
/-- Four cells as they are. -/
def kV : Kd RawF where
  sz := 4
  E := []
  K := fun _ x cs => cs = rawL x ∧ x.2.2.1.oneCell' = true ∧ x.2.2.2.oneCell' = true
  M := fun _ _ _ x cs => cs = rawL x ∧ x.2.2.1.oneCell' = true ∧ x.2.2.2.oneCell' = true
  K_len := by rintro w x cs ⟨rfl, _⟩; rfl
  K_one := by
    rintro w x cs ⟨rfl, h1, h2⟩ u hu
    simp only [rawL, List.mem_cons, List.mem_nil_iff, or_false] at hu
    rcases hu with rfl | rfl | rfl | rfl
    · rfl
    · rfl
    · exact h1
    · exact h2
  K_below := fun _ h => h
  K_of_M := fun h => h
  M_mono := fun _ h => h
  M_bound := fun h => h
  M_move := fun _ h => h
  M_lower := fun _ h => h
abbrev raw0 : RawF := (ByteArray.empty, 0, .slice none 0 0, .slice none 0 0)
/-- A thing's rows lie from a on below b. -/
def Inn (w : World) (a b : Nat) (f : FeatD) (x : RawF) : Prop := x.1 = f.1 ∧ x.2.1 = f.2.1.1 ∧ RI kPt 108 w a b x.2.2.1 f.2.1.2 ∧ RI kTag 57 w a b x.2.2.2 f.2.2
theorem Inn.K {w : World} {a b : Nat} {f : FeatD} {x : RawF} (h : Inn w a b f x) : kFeat.K w f (rawL x) := by
  obtain ⟨x1, x2, u, v⟩ := x
  obtain ⟨h1, h2, h3, h4⟩ := h
  simp only at h1 h2 h3 h4
  subst h1; subst h2
  exact kFeat.K_of_M (show kFeat.M w 0 (fun _ => True) f (rawL (f.1, f.2.1.1, u, v)) from kFeat_mkM f (Kd.R_lower (Kd.R_mono h3 (fun _ _ => trivial)) (Nat.zero_le _)) (Kd.R_lower (Kd.R_mono h4 (fun _ _ => trivial)) (Nat.zero_le _)))
theorem Inn.below {w w1 : World} {a b : Nat} {f : FeatD} {x : RawF} (h : Inn w a b f x) (hb : Below w.heap.size w w1) : Inn w1 a b f x := ⟨h.1, h.2.1, h.2.2.1.below hb, h.2.2.2.below hb⟩
theorem Inn.ex {w w1 : World} {a b lo hi : Nat} {f : FeatD} {x : RawF} (h : Inn w a b f x) (hx : Ex lo hi w w1) (hd : b ≤ lo ∨ hi ≤ a) : Inn w1 a b f x := ⟨h.1, h.2.1, h.2.2.1.ex hx hd, h.2.2.2.ex hx hd⟩
theorem Inn.far {w : World} {a b : Nat} {f : FeatD} {x : RawF} (h : Inn w a b f x) {p : Addr} (hp : p.block < a ∨ b ≤ p.block) (u : Value) : Inn (w.setCell p u) a b f x := ⟨h.1, h.2.1, h.2.2.1.far hp u, h.2.2.2.far hp u⟩
theorem Inn.grown {w w1 : World} {a b : Nat} {f : FeatD} {x : RawF} {row : Option Nat} (h : Inn w a b f x) (hg : w.grownBy w1 row) (hd : ∀ g, row = some g → g < a ∨ b ≤ g) : Inn w1 a b f x := by
  have key : ∀ {α : Type} {d : Kd α} {e : Nat} {v : Value} {xs : List α}, RI d e w a b v xs → RI d e w1 a b v xs := fun h =>
    Kd.R_mono (Kd.R_grown (Kd.R_bound h) hg (fun k hk e => by have h1 := hk.1; have h2 := hk.2.1; have := hd k e.symm; omega)) (fun _ hk => hk.1)
  exact ⟨h.1, h.2.1, key h.2.2.1, key h.2.2.2⟩
theorem Inn.wide {w : World} {a b a' b' : Nat} {f : FeatD} {x : RawF} (h : Inn w a b f x) (h1 : a' ≤ a) (h2 : b ≤ b') : Inn w a' b' f x := ⟨h.1, h.2.1, h.2.2.1.wide h1 h2, h.2.2.2.wide h1 h2⟩
theorem Inn.one {w : World} {a b : Nat} {f : FeatD} {x : RawF} (h : Inn w a b f x) : x.2.2.1.oneCell' = true ∧ x.2.2.2.oneCell' = true := by
  obtain ⟨A, c, e1, _⟩ := h.2.2.1.form
  obtain ⟨B, d, e2, _⟩ := h.2.2.2.form
  rw [e1, e2]
  exact ⟨rfl, rfl⟩
/-- A row of one's own, its things' rows apart. -/
structure FSep (w : World) (lo hi : Nat) (v : Value) (l : List FeatD) (xs : List RawF) (I J : Nat → Nat) : Prop where
  row : RI kV 35 w lo hi v xs
  len : xs.length = l.length
  bnd : ∀ i, i < l.length → lo ≤ I i ∧ I i ≤ J i ∧ J i ≤ hi ∧ ∀ g, v.ownBlock = some g → g < I i ∨ J i ≤ g
  ord : ∀ i j, i < j → j < l.length → J i ≤ I j
  inn : ∀ i, (h : i < l.length) → (h2 : i < xs.length) → Inn w (I i) (J i) l[i] xs[i]
def Sep (w : World) (lo hi : Nat) (v : Value) (l : List FeatD) : Prop := ∃ xs I J, FSep w lo hi v l xs I J
section
variable {w w1 : World} {lo hi lo' hi' : Nat} {v : Value} {l : List FeatD} {xs : List RawF} {I J : Nat → Nat}
theorem FSep.C {A : Option Addr} {n c : Nat} (h : FSep w lo hi (.slice A n c) l xs I J) : n = l.length ∧ n ≤ c ∧ kFeat.C w A l.length l := by
  obtain ⟨h1, h2, h3⟩ := h.row.rd
  have hl := h.len
  refine ⟨by omega, h2, ?_⟩
  rw [hl] at h3
  refine ⟨rfl, h3.2.1, fun hn => ?_⟩
  obtain ⟨ad, e, hc⟩ := h3.2.2 hn
  refine ⟨ad, e, fun j p hj => ?_⟩
  obtain ⟨hj1, hj2⟩ := List.getElem?_eq_some_iff.1 hj
  have hjx : j < xs.length := by omega
  obtain ⟨cs, hs, ⟨hr, _⟩, hcell⟩ := hc j xs[j] (List.getElem?_eq_getElem hjx)
  have hk := (h.inn j hj1 hjx).K
  rw [hj2, ← hr] at hk
  exact ⟨cs, hs, hk, hcell⟩
theorem FSep.below (h : FSep w lo hi v l xs I J) (hb : Below w.heap.size w w1) : FSep w1 lo hi v l xs I J := ⟨h.row.below hb, h.len, h.bnd, h.ord, fun i h1 h2 => (h.inn i h1 h2).below hb⟩
theorem FSep.ex (h : FSep w lo hi v l xs I J) (hx : Ex lo' hi' w w1) (hd : hi ≤ lo' ∨ hi' ≤ lo) : FSep w1 lo hi v l xs I J :=
  ⟨h.row.ex hx hd, h.len, h.bnd, h.ord, fun i h1 h2 => (h.inn i h1 h2).ex hx (by have := h.bnd i h1; omega)⟩
theorem FSep.wide (h : FSep w lo hi v l xs I J) (a : lo' ≤ lo) (b : hi ≤ hi') : FSep w lo' hi' v l xs I J :=
  ⟨h.row.wide a b, h.len, fun i hi_ => by obtain ⟨h1, h2, h3, h4⟩ := h.bnd i hi_; exact ⟨by omega, h2, by omega, h4⟩, h.ord, h.inn⟩
theorem Sep.C {A : Option Addr} {n c : Nat} (h : Sep w lo hi (.slice A n c) l) : n = l.length ∧ n ≤ c ∧ kFeat.C w A l.length l := by
  obtain ⟨_, _, _, h⟩ := h
  exact h.C
theorem Sep.below (h : Sep w lo hi v l) (hb : Below w.heap.size w w1) : Sep w1 lo hi v l := by
  obtain ⟨_, _, _, h⟩ := h
  exact ⟨_, _, _, h.below hb⟩
theorem Sep.ex (h : Sep w lo hi v l) (hx : Ex lo' hi' w w1) (hd : hi ≤ lo' ∨ hi' ≤ lo) : Sep w1 lo hi v l := by
  obtain ⟨_, _, _, h⟩ := h
  exact ⟨_, _, _, h.ex hx hd⟩
theorem Sep.wide (h : Sep w lo hi v l) (a : lo' ≤ lo) (b : hi ≤ hi') : Sep w lo' hi' v l := by
  obtain ⟨_, _, _, h⟩ := h
  exact ⟨_, _, _, h.wide a b⟩
theorem Sep.nil (w : World) (lo hi : Nat) : Sep w lo hi (.slice none 0 0) [] := ⟨[], fun _ => 0, fun _ => 0, ⟨⟨fun k hk => by simp [Value.ownBlock] at hk, (Kd.R_nil kV _ w lo (fun _ => True)).2.imp_ (fun _ _ h => h)⟩, rfl, fun i h => by simp at h, fun i j _ h => by simp at h, fun i h => by simp at h⟩⟩
/-- One thing more, behind. -/
theorem FSep.snoc {W : World} {v1 : Value} {f : FeatD} {x : RawF} {a b base : Nat} (h : FSep W base W.heap.size v l xs I J) (hb : a ≤ b) (hbw : b ≤ W.heap.size) (hI : Inn W a b f x) (hba : base ≤ a) (hJ : ∀ i, i < l.length → J i ≤ a) (hv : ∀ g, v.ownBlock = some g → g < a ∨ b ≤ g)
    (hr : kV.R 35 w1 base (fun _ => True) v1 (xs ++ [x])) (hg : W.grownBy w1 v.ownBlock) (hat : v1.ownBlock = v.ownBlock ∨ ∃ g, v1.ownBlock = some g ∧ W.heap.size ≤ g) :
    Sep w1 base w1.heap.size v1 (l ++ [f]) := by
  have hn := h.len
  refine ⟨xs ++ [x], fun i => if i = l.length then a else I i, fun i => if i = l.length then b else J i, ⟨RI.of hr, by simp [hn], fun i hi => ?_, fun i j hij hj => ?_, fun i h1 h2 => ?_⟩⟩
  · have hs := hg.size
    have key : ∀ p q, q ≤ W.heap.size → (∀ g, v.ownBlock = some g → g < p ∨ q ≤ g) → ∀ g, v1.ownBlock = some g → g < p ∨ q ≤ g := by
      intro p q hq h g hg1
      rcases hat with e | ⟨g', e, hle⟩
      · exact h g (by rw [← e]; exact hg1)
      · rw [e] at hg1
        injection hg1 with hg1
        right; omega
    by_cases e : i = l.length
    · simp only [e, if_true]
      exact ⟨by omega, hb, by omega, key _ _ (by omega) hv⟩
    · simp only [if_neg e]
      rw [List.length_append, List.length_singleton] at hi
      obtain ⟨b1, b2, b3, b4⟩ := h.bnd i (by omega)
      exact ⟨b1, b2, by omega, key _ _ (by omega) b4⟩
  · rw [List.length_append, List.length_singleton] at hj
    have e1 : i ≠ l.length := by omega
    simp only [if_neg e1]
    by_cases e : j = l.length
    · simp only [e, if_true]; exact hJ i (by omega)
    · simp only [if_neg e]; exact h.ord i j hij (by omega)
  · rw [List.length_append, List.length_singleton] at h1
    by_cases e : i = l.length
    · subst e
      simp only [if_true]
      rw [List.getElem_append_right (Nat.le_refl _), List.getElem_append_right (by omega)]
      simp only [hn, Nat.sub_self, List.getElem_cons_zero]
      exact hI.grown hg (fun g e => hv g e)
    · simp only [if_neg e]
      rw [List.getElem_append_left (by omega), List.getElem_append_left (by omega)]
      exact (h.inn i (by omega) (by omega)).grown hg (fun g e => (h.bnd i (by omega)).2.2.2 g e)
end
end Go.Proofs.Ytlebgjafaioajaa
