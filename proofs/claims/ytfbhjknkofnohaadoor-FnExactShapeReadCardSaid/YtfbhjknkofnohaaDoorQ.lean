/- Plain: boxes. -/
import Derived.Test.YtfbhjknkofnohaaDoorA
namespace Go.Proofs.YtfbhjknkofnohaaDoor
def pmin (p q : Pt) : Pt := (min p.1 q.1, min p.2 q.2)
def pmax (p q : Pt) : Pt := (max p.1 q.1, max p.2 q.2)
def lo (l : List Pt) : Nat → Pt
  | 0 => l.getD 0 (0, 0)
  | k + 1 => pmin (lo l k) (l.getD k (0, 0))
def hi (l : List Pt) : Nat → Pt
  | 0 => l.getD 0 (0, 0)
  | k + 1 => pmax (hi l k) (l.getD k (0, 0))
theorem lo_one (l : List Pt) : lo l 1 = l.getD 0 (0, 0) := by simp [lo, pmin]
theorem hi_one (l : List Pt) : hi l 1 = l.getD 0 (0, 0) := by simp [hi, pmax]
theorem lo_succ {l : List Pt} {k : Nat} (h : k < l.length) : lo l (k + 1) = (min (lo l k).1 l[k].1, min (lo l k).2 l[k].2) := by
  simp only [lo, pmin, List.getD_eq_getElem?_getD, List.getElem?_eq_getElem h, Option.getD_some]
theorem hi_succ {l : List Pt} {k : Nat} (h : k < l.length) : hi l (k + 1) = (max (hi l k).1 l[k].1, max (hi l k).2 l[k].2) := by
  simp only [hi, pmax, List.getD_eq_getElem?_getD, List.getElem?_eq_getElem h, Option.getD_some]
theorem getD0 {l : List Pt} (h : 0 < l.length) : l.getD 0 (0, 0) = l[0] := by
  simp only [List.getD_eq_getElem?_getD, List.getElem?_eq_getElem h, Option.getD_some]
theorem min_if (x y : Int) : (if y < x then y else x) = min x y := by
  split <;> omega
theorem max_if (x y : Int) : (if x < y then y else x) = max x y := by
  split <;> omega
open Classical in
noncomputable def box (K : Int) (l : List Pt) : Pt × Pt := if ShapeOk K l then (lo l l.length, hi l l.length) else ((0, 0), (0, 0))
abbrev ptV (p : Pt) : Value := .agg #[.int .i64 p.1, .int .i64 p.2]
end Go.Proofs.YtfbhjknkofnohaaDoor
