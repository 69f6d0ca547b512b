/- Things whose rows lie elsewhere: a row of one's own whose elements are read in a fixed elder world. -/
import Derived.Test.YtlebgjafaioajaaSa
import Derived.Test.YtlebgjafaioajaaExx
namespace Go.Proofs.Ytlebgjafaioajaa
open Go.RowKit Go.Proofs.YtlebgjafaioajaaW.PrintWords Go.Proofs.YtlebgjafaioajaaW.PrintLast
set_option linter.unusedVariables false
set_option linter.unusedSimpArgs false
/-- Every cell of the one world is so in the other. -/
def Sub (W W1 : World) : Prop := ∀ p v, W.cell? p = some v → W1.cell? p = some v
theorem Sub.refl (W : World) : Sub W W := fun _ _ h => h
theorem Sub.trans {W W1 W2 : World} (h : Sub W W1) (h1 : Sub W1 W2) : Sub W W2 := fun p v hc => h1 p v (h p v hc)
theorem Sub.of {W W1 : World} (h : Below W.heap.size W W1) : Sub W W1 := fun _ _ hc => pw_cell_below h hc
theorem ReadsRow.sub {α : Type} {R R' : α → List Value → Prop} {size : Nat} {w w1 : World} {A : Option Addr} {n : Nat} {ps : List α} (h : ReadsRow R size w A n ps) (hb : Sub w w1) (hR : ∀ p c, R p c → R' p c) : ReadsRow R' size w1 A n ps :=
  ⟨h.1, h.2.1, fun hn => by
    obtain ⟨ad, e, hc⟩ := h.2.2 hn
    refine ⟨ad, e, fun j p hj => ?_⟩
    obtain ⟨c, hs, hr, hcell⟩ := hc j p hj
    exact ⟨c, hs, hR _ _ hr, fun i u hu => hb _ _ (hcell i u hu)⟩⟩
theorem kPt_sub {w w1 : World} {A : Option Addr} {n : Nat} {xs : List Pt} (h : kPt.C w A n xs) (hb : Sub w w1) : kPt.C w1 A n xs := ReadsRow.sub h hb (fun _ _ h => h)
theorem kTag_sub {w w1 : World} {A : Option Addr} {n : Nat} {xs : List Tag} (h : kTag.C w A n xs) (hb : Sub w w1) : kTag.C w1 A n xs := ReadsRow.sub h hb (fun _ _ h => h)
theorem kFeat_subK {w w1 : World} {x : FeatD} {cs : List Value} (h : kFeat.K w x cs) (hb : Sub w w1) : kFeat.K w1 x cs := by
  obtain ⟨A, c, B, d, rfl, g1, g2, g3, g4⟩ := kFeat_open h
  exact kFeat_mk w1 x A B c d g1 g2 (kPt_sub g3 hb) (kTag_sub g4 hb)
theorem kFeat_sub {w w1 : World} {A : Option Addr} {n : Nat} {xs : List FeatD} (h : kFeat.C w A n xs) (hb : Sub w w1) : kFeat.C w1 A n xs := ReadsRow.sub h hb (fun _ _ h => kFeat_subK h hb)
/-- A thing whose rows are read in the world W. -/
def kRaw (W : World) : Kd FeatD where
  sz := 4
  E := []
  K := fun _ x cs => kFeat.K W x cs
  M := fun _ _ _ x cs => kFeat.K W x cs
  K_len := fun h => kFeat.K_len h
  K_one := fun h => kFeat.K_one h
  K_below := fun _ h => h
  K_of_M := fun h => h
  M_mono := fun _ h => h
  M_bound := fun h => h
  M_move := fun _ h => h
  M_lower := fun _ h => h
theorem kRaw_C {W w : World} {A : Option Addr} {n : Nat} {xs : List FeatD} (h : (kRaw W).C w A n xs) (hs : Sub W w) : kFeat.C w A n xs := ReadsRow.sub (R' := kFeat.K w) h (Sub.refl w) (fun _ _ hk => kFeat_subK hk hs)
theorem kRaw_up {W W1 w : World} {e base : Nat} {ok : Nat → Prop} {v : Value} {xs : List FeatD} (h : (kRaw W).R e w base ok v xs) (hs : Sub W W1) : (kRaw W1).R e w base ok v xs :=
  ⟨h.1, h.2.imp_ (R' := (kRaw W1).M w base (fun k => ok k ∧ some k ≠ v.ownBlock)) (fun _ _ hk => kFeat_subK hk hs)⟩
/-- The world without a block. -/
def World.less (W : World) (g : Nat) : World := { W with heap := W.heap.modify g (fun _ => .cells #[] 0 (0, 0)) }
theorem less_heap (W : World) (g k : Nat) (h : k ≠ g) : (World.less W g).heap[k]? = W.heap[k]? := by
  unfold World.less
  simp only [Array.getElem?_modify]
  rw [if_neg (fun e => h e.symm)]
theorem less_size (W : World) (g : Nat) : (World.less W g).heap.size = W.heap.size := by unfold World.less; simp
theorem less_cell (W : World) (g : Nat) (p : Addr) (h : p.block ≠ g) : (World.less W g).cell? p = W.cell? p := World.cell?_of_block (w := W) (less_heap W g _ h)
theorem less_self (W : World) (g : Nat) (p : Addr) (h : p.block = g) (v : Value) : (World.less W g).cell? p ≠ some v := by
  intro hc
  have : (World.less W g).heap[p.block]? = (W.heap[p.block]?).map (fun _ => .cells #[] 0 (0, 0)) := by
    unfold World.less
    simp only [Array.getElem?_modify, h]
    simp
  unfold World.cell? at hc
  rw [this] at hc
  cases hh : W.heap[p.block]? with
  | none => rw [hh] at hc; simp at hc
  | some o => rw [hh] at hc; simp at hc
end Go.Proofs.Ytlebgjafaioajaa
