/- Contracts of the laws' own helpers over shapes; plain facts. -/
import Derived.Test.YtgdgnlpohnpgiaaGreatDoorV
namespace Go.Proofs.YtgdgnlpohnpgiaaGreatDoor
section
open Go.RowKit Go.Proofs.YtgdgnlpohnpgiaaGreatDoorW.PrintWords Go.Proofs.YtgdgnlpohnpgiaaGreatDoorW.PrintLast
set_option linter.unusedVariables false
set_option linter.unusedSimpArgs false


theorem info_Pt : (Tryz.prog.info? 84).map (fun i => (i.zero, i.size, i.bytes)) = some (some (.agg #[(.int .i64 0), (.int .i64 0)]), 2, 16) := by kernel_rfl
/-- What is left of a size. -/
def lef (a : Int) : Int := if a < 0 then -1 else a
theorem lef_neg {a : Int} (h : a < 0) : lef a = -1 := if_pos h
theorem lef_pos {a : Int} (h : 0 ≤ a) : lef a = a := if_neg (by omega)
end
section
def inB (n lo hi : Int) : Bool := decide (lo ≤ n ∧ n ≤ hi)
def ptOk (p : Pt) : Bool := inB p.1 (-1000) 1000 && inB p.2 (-1000) 1000
/-- Point i is one, and not the one before. -/
def stepOk (l : List Pt) (i : Nat) : Prop := ∀ h : i < l.length, ptOk l[i] = true ∧ (0 < i → l[i - 1]'(by omega) ≠ l[i])
def PtsOk (l : List Pt) : Prop := ∀ i, i < l.length → stepOk l i
def KindOk (K : Int) (l : List Pt) : Prop := (K = 1 ∧ l.length = 1) ∨ (K = 2 ∧ 2 ≤ l.length ∧ l.length ≤ 6) ∨ (K = 3 ∧ 3 ≤ l.length ∧ l.length ≤ 6 ∧ l[0]? ≠ l[l.length - 1]?)
def ShapeOk (K : Int) (l : List Pt) : Prop := PtsOk l ∧ KindOk K l
open Classical in
noncomputable def shapeOk (K : Int) (l : List Pt) : Bool := decide (ShapeOk K l)
theorem shapeOk_t {K : Int} {l : List Pt} : shapeOk K l = true ↔ ShapeOk K l := by simp [shapeOk]
theorem shapeOk_f {K : Int} {l : List Pt} : shapeOk K l = false ↔ ¬ ShapeOk K l := by simp [shapeOk]
theorem ShapeOk.le {K : Int} {l : List Pt} (h : ShapeOk K l) : l.length ≤ 6 := by
  rcases h.2 with h | h | h <;> omega
open Classical in
noncomputable def ptsB (l : List Pt) : Bool := decide (PtsOk l ∧ l.length ≤ 6)
theorem ptsB_t {l : List Pt} : ptsB l = true ↔ PtsOk l ∧ l.length ≤ 6 := by simp [ptsB]
theorem ptsB_f {l : List Pt} : ptsB l = false ↔ ¬ (PtsOk l ∧ l.length ≤ 6) := by simp [ptsB]
/-! Areas. -/
def cross (p q : Pt) : Int := p.1 * q.2 - q.1 * p.2
def nxt (l : List Pt) (i : Nat) : Nat := (i + 1) % l.length
def areaTo (l : List Pt) : Nat → Int
  | 0 => 0
  | k + 1 => areaTo l k + cross (l.getD k (0, 0)) (l.getD (nxt l k) (0, 0))
open Classical in
noncomputable def area (K : Int) (l : List Pt) : Int := if ShapeOk K l ∧ K = 3 then areaTo l l.length else 0
def Near (p : Pt) : Prop := -1000 ≤ p.1 ∧ p.1 ≤ 1000 ∧ -1000 ≤ p.2 ∧ p.2 ≤ 1000
theorem near_of {p : Pt} (h : ptOk p = true) : Near p := by simp [ptOk, inB] at h; unfold Near; omega
theorem PtsOk.near {l : List Pt} (h : PtsOk l) (i : Nat) : Near (l.getD i (0, 0)) := by
  rw [List.getD_eq_getElem?_getD]
  rcases Nat.lt_or_ge i l.length with hi | hi
  · rw [List.getElem?_eq_getElem hi]; exact near_of (h i hi hi).1
  · rw [List.getElem?_eq_none hi]; simp [Near]
theorem mul_le (a b : Int) (ha : -1000 ≤ a ∧ a ≤ 1000) (hb : -1000 ≤ b ∧ b ≤ 1000) : -1000000 ≤ a * b ∧ a * b ≤ 1000000 := by
  have h1 : a.natAbs ≤ 1000 := by omega
  have h2 : b.natAbs ≤ 1000 := by omega
  have h3 : (a * b).natAbs ≤ 1000000 := by rw [Int.natAbs_mul]; exact Nat.le_trans (Nat.mul_le_mul h1 h2) (by omega)
  omega
theorem cross_le {p q : Pt} (hp : Near p) (hq : Near q) : -2000000 ≤ cross p q ∧ cross p q ≤ 2000000 := by
  unfold Near at hp hq
  have h1 := mul_le p.1 q.2 ⟨hp.1, hp.2.1⟩ ⟨hq.2.2.1, hq.2.2.2⟩
  have h2 := mul_le q.1 p.2 ⟨hq.1, hq.2.1⟩ ⟨hp.2.2.1, hp.2.2.2⟩
  unfold cross
  omega
theorem areaTo_le {l : List Pt} (h : PtsOk l) : ∀ k : Nat, -2000000 * (k : Int) ≤ areaTo l k ∧ areaTo l k ≤ 2000000 * (k : Int)
  | 0 => by simp [areaTo]
  | k + 1 => by
    have h1 := areaTo_le h k
    have h2 := cross_le (h.near k) (h.near (nxt l k))
    simp only [areaTo]
    omega
end
end Go.Proofs.YtgdgnlpohnpgiaaGreatDoor
