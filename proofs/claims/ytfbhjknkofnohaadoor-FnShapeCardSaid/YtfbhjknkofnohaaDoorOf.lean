/- Arguments opened: things, and rows of things. -/
import Derived.Test.YtfbhjknkofnohaaDoorO
import Derived.Test.YtfbhjknkofnohaaDoorFa
namespace Go.Proofs.YtfbhjknkofnohaaDoor
open Go.RowKit Go.Proofs.YtfbhjknkofnohaaDoorW.PrintWords Go.Proofs.YtfbhjknkofnohaaDoorW.PrintLast
set_option maxRecDepth 100000
set_option linter.unusedVariables false
set_option linter.unusedSimpArgs false
def FTag (t : Tag) : Prop := t.1.size ≤ 140737488351232 ∧ t.2.size ≤ 140737488351232
def FTags (l : List Tag) : Prop := l.length * 32 ≤ 140737488351232 ∧ ∀ a ∈ l, FTag a
theorem oStr : Op Tryd.prog 9 Kd.string (fun s => s.size ≤ 140737488351232) := Op.string Tryd.underlying9
theorem fin_of {f : FeatD} (h1 : f.1.size ≤ 140737488351232) (h2 : FPts f.2.1.2) (h3 : FTags f.2.2) : FIn f :=
  ⟨by omega, by have := h2.1; omega, by have := h3.1; omega, fun t ht => by have := h3.2 t ht; unfold FTag at this; omega⟩
section
variable {H : Type} {enc : TypeId × Value → H} {w : World} {base b0 : Nat} {r : Reach} {spare : Nat → Bool} {held : Bool} {v : Value} {dd : DataW H} {ps : List MemPlace} {ts : List TypeId} {ds : List (DataW H)}
open Go.WideShapes
end
end Go.Proofs.YtfbhjknkofnohaaDoor
