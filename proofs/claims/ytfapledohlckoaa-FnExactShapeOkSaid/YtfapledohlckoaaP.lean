/- Plain: what it is for a shape to be ok. -/
import Derived.Test.YtfapledohlckoaaV
namespace Go.Proofs.Ytfapledohlckoaa
def inB (n lo hi : Int) : Bool := decide (lo ≤ n ∧ n ≤ hi)
def ptOk (p : Pt) : Bool := inB p.1 (-1000) 1000 && inB p.2 (-1000) 1000
/-- Point i is one, and not the one before. -/
def stepOk (l : List Pt) (i : Nat) : Prop := ∀ h : i < l.length, ptOk l[i] = true ∧ (0 < i → l[i - 1]'(by omega) ≠ l[i])
def PtsOk (l : List Pt) : Prop := ∀ i, i < l.length → stepOk l i
def KindOk (K : Int) (l : List Pt) : Prop := (K = 1 ∧ l.length = 1) ∨ (K = 2 ∧ 2 ≤ l.length ∧ l.length ≤ 6) ∨ (K = 3 ∧ 3 ≤ l.length ∧ l.length ≤ 6 ∧ l[0]? ≠ l[l.length - 1]?)
def ShapeOk (K : Int) (l : List Pt) : Prop := PtsOk l ∧ KindOk K l
open Classical in
noncomputable def shapeOk (K : Int) (l : List Pt) : Bool := decide (ShapeOk K l)
theorem shapeOk_t {K : Int} {l : List Pt} : shapeOk K l = true ↔ ShapeOk K l := by simp [shapeOk]
theorem shapeOk_f {K : Int} {l : List Pt} : shapeOk K l = false ↔ ¬ ShapeOk K l := by simp [shapeOk]
theorem ShapeOk.le {K : Int} {l : List Pt} (h : ShapeOk K l) : l.length ≤ 6 := by
  rcases h.2 with h | h | h <;> omega
open Classical in
noncomputable def ptsB (l : List Pt) : Bool := decide (PtsOk l ∧ l.length ≤ 6)
theorem ptsB_t {l : List Pt} : ptsB l = true ↔ PtsOk l ∧ l.length ≤ 6 := by simp [ptsB]
theorem ptsB_f {l : List Pt} : ptsB l = false ↔ ¬ (PtsOk l ∧ l.length ≤ 6) := by simp [ptsB]
end Go.Proofs.Ytfapledohlckoaa
