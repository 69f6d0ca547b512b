/- Contracts: what is drawn of a code: a map and a name, a map and a thing. -/
import Derived.Test.YtlipjhmcgdmhlaaDoorSy
namespace Go.Proofs.YtlipjhmcgdmhlaaDoor
open Go.RowKit Go.Proofs.YtlipjhmcgdmhlaaDoorW.PrintWords Go.Proofs.YtlipjhmcgdmhlaaDoorW.PrintLast
set_option maxRecDepth 100000
set_option linter.unusedVariables false
set_option linter.unusedSimpArgs false
attribute [local go_sem] cell_set_far cell_set_off
def CSheetK (w : World) (e : Ending) (w' : World) : Prop := ∃ (l : List FeatD) (D : Option Addr) (d : Nat) (id : ByteArray), e = .returned (.tuple #[.slice D l.length d, .string id]) ∧ l.length ≤ d ∧ kFeat.C w' D l.length l ∧ (∀ f ∈ l, FSm 4 f) ∧ l.length ≤ 20 ∧ id.size ≤ 10 ∧ Below w.heap.size w w'
def CSheetP (w : World) (e : Ending) (w' : World) : Prop := ∃ (l : List FeatD) (D : Option Addr) (d : Nat) (f : FeatD) (A : Option Addr) (c : Nat) (B : Option Addr) (d2 : Nat), e = .returned (.tuple #[.slice D l.length d, featV f A c B d2]) ∧ l.length ≤ d ∧ kFeat.C w' D l.length l ∧ (∀ f ∈ l, FSm 4 f) ∧ l.length ≤ 20 ∧ kPt.C w' A f.2.1.2.length f.2.1.2 ∧ kTag.C w' B f.2.2.length f.2.2 ∧ f.2.1.2.length ≤ c ∧ f.2.2.length ≤ d2 ∧ FSm 4 f ∧ Below w.heap.size w w'
end Go.Proofs.YtlipjhmcgdmhlaaDoor
