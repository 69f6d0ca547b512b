/- Arguments opened: things, and rows of things. -/
import Derived.Test.YtenpaemaiapapaaDoorO
import Derived.Test.YtenpaemaiapapaaDoorFa
namespace Go.Proofs.YtenpaemaiapapaaDoor
open Go.RowKit Go.Proofs.YtenpaemaiapapaaDoorW.PrintWords Go.Proofs.YtenpaemaiapapaaDoorW.PrintLast
set_option maxRecDepth 100000
set_option linter.unusedVariables false
set_option linter.unusedSimpArgs false
def FTag (t : Tag) : Prop := t.1.size ≤ 140737488351232 ∧ t.2.size ≤ 140737488351232
def FTags (l : List Tag) : Prop := l.length * 32 ≤ 140737488351232 ∧ ∀ a ∈ l, FTag a
theorem oStr : Op Tryd.prog 9 Kd.string (fun s => s.size ≤ 140737488351232) := Op.string Tryd.underlying9
theorem oTag : Op Tryd.prog 123 kTag FTag := Op.pair Tryd.underlying123 oStr oStr rfl rfl (by kernel_rfl) (by kernel_rfl) (by kernel_rfl)
theorem oTags : Op Tryd.prog 59 (Kd.slice 123 kTag) FTags := Op.slice (B := 32) oTag Tryd.underlying59 (by kernel_rfl) (by kernel_rfl)
theorem oFeat : Op Tryd.prog 61 (Kd.pair Kd.string (Kd.pair (Kd.pair (Kd.int .i64) (Kd.slice 113 kPt)) (Kd.slice 123 kTag))) (fun p => p.1.size ≤ 140737488351232 ∧ ((Lit.int .i64 p.2.1.1).wf = true ∧ FPts p.2.1.2) ∧ FTags p.2.2) :=
  Op.trip Tryd.underlying61 oStr oShape oTags rfl rfl rfl (by kernel_rfl) (by kernel_rfl) (by kernel_rfl) (by kernel_rfl)
theorem fin_of {f : FeatD} (h1 : f.1.size ≤ 140737488351232) (h2 : FPts f.2.1.2) (h3 : FTags f.2.2) : FIn f :=
  ⟨by omega, by have := h2.1; omega, by have := h3.1; omega, fun t ht => by have := h3.2 t ht; unfold FTag at this; omega⟩
section
variable {H : Type} {enc : TypeId × Value → H} {w : World} {base b0 : Nat} {r : Reach} {spare : Nat → Bool} {held : Bool} {v : Value} {dd : DataW H} {ps : List MemPlace} {ts : List TypeId} {ds : List (DataW H)}
open Go.WideShapes
theorem open_Feat (j : Nat) (hsz : (DataW.weightsEach Tryd.prog ts ds).all (· ≤ reachBytes) = true) (ht : ts[j]? = some 61) (hd : ds[j]? = some dd) (hv : Value.okWide Tryd.prog w r b0 61 v) (h : DataW.Trod enc Tryd.prog w base spare held 61 v dd ps) :
    ∃ (f : FeatD) (A : Option Addr) (c : Nat) (B : Option Addr) (d : Nat), v = featV f A c B d ∧ kPt.C w A f.2.1.2.length f.2.1.2 ∧ kTag.C w B f.2.2.length f.2.2 ∧ FIn f := by
  obtain ⟨f, hK, h1, ⟨_, h2⟩, h3⟩ := oFeat.arg j hsz ht hd h
  obtain ⟨cs, rfl, _⟩ := okWide_struct Tryd.underlying61 hv
  obtain ⟨A, c, B, d, hcs, _, _, hC, hT⟩ := kFeat_open (x := f) hK
  obtain ⟨cl⟩ := cs
  have hcs : cl = [.string f.1, .int .i64 f.2.1.1, .slice A f.2.1.2.length c, .slice B f.2.2.length d] := hcs
  subst hcs
  exact ⟨f, A, c, B, d, rfl, hC, hT, fin_of h1 h2 h3⟩
theorem oFeats : Op Tryd.prog 65 (Kd.slice 61 (Kd.pair Kd.string (Kd.pair (Kd.pair (Kd.int .i64) (Kd.slice 113 kPt)) (Kd.slice 123 kTag)))) (fun l => l.length * 72 ≤ 140737488351232 ∧ ∀ p ∈ l, p.1.size ≤ 140737488351232 ∧ ((Lit.int .i64 p.2.1.1).wf = true ∧ FPts p.2.1.2) ∧ FTags p.2.2) :=
  Op.slice (B := 72) oFeat Tryd.underlying65 (by kernel_rfl) (by kernel_rfl)
/-- What is known of a row of things that came in. -/
def FsIn (l : List FeatD) : Prop := (l.length : Int) ≤ 140737488351232 ∧ ∀ f ∈ l, FIn f
theorem open_Feats (j : Nat) (hsz : (DataW.weightsEach Tryd.prog ts ds).all (· ≤ reachBytes) = true) (ht : ts[j]? = some 65) (hd : ds[j]? = some dd) (hv : Value.okWide Tryd.prog w r b0 65 v) (h : DataW.Trod enc Tryd.prog w base spare held 65 v dd ps) :
    ∃ (A : Option Addr) (c : Nat) (l : List FeatD), v = .slice A l.length c ∧ kFeat.C w A l.length l ∧ FsIn l := by
  obtain ⟨A, len, c, rfl⟩ := okWide_slice Tryd.underlying65 hv
  obtain ⟨l, ⟨A', c', hcs, hle, hC⟩, hF, hw⟩ := oFeats.arg j hsz ht hd h
  have hcs : [Value.slice A len c] = [Value.slice A' l.length c'] := hcs
  injection hcs with hcs
  injection hcs with e1 e2 e3
  subst e1; subst e2; subst e3
  exact ⟨A, c, l, rfl, hC, by omega, fun f hf => by obtain ⟨h1, ⟨_, h2⟩, h3⟩ := hw f hf; exact fin_of h1 h2 h3⟩
end
end Go.Proofs.YtenpaemaiapapaaDoor
