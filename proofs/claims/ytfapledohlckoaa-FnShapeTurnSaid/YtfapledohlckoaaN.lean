/- Plain: a shape moved; one step of a fill. -/
import Derived.Test.YtfapledohlckoaaP
namespace Go.Proofs.Ytfapledohlckoaa
def movePt (dx dy : Int) (p : Pt) : Pt := (p.1 + dx, p.2 + dy)
def InR (dx dy : Int) : Prop := (-2000 ≤ dx ∧ dx ≤ 2000) ∧ (-2000 ≤ dy ∧ dy ≤ 2000)
open Classical in
noncomputable def mv (K : Int) (l : List Pt) (dx dy : Int) : (Int × List Pt) × Bool :=
  if (ShapeOk K l ∧ InR dx dy) ∧ ShapeOk K (l.map (movePt dx dy)) then ((K, l.map (movePt dx dy)), true) else ((0, []), false)
theorem mv_len (K : Int) (l : List Pt) (dx dy : Int) : (mv K l dx dy).1.2.length ≤ l.length := by
  unfold mv
  split <;> simp
theorem set_step {α : Type} (l m : List α) (hm : m.length = l.length) (k : Nat) (h : k < l.length) : (m.take k ++ l.drop k).set k (m[k]'(by omega)) = m.take (k + 1) ++ l.drop (k + 1) := by
  have hk : k < m.length := by omega
  have hl : (m.take k).length = k := by rw [List.length_take]; omega
  rw [List.set_append_right _ _ (by omega), hl, Nat.sub_self, List.take_succ_eq_append_getElem hk, List.drop_eq_getElem_cons h, List.set_cons_zero, List.append_assoc]
  rfl
theorem get_step {α : Type} (l m : List α) (hm : m.length = l.length) (k : Nat) (h : k < l.length) (h2 : k < (m.take k ++ l.drop k).length) : (m.take k ++ l.drop k)[k] = l[k] := by
  have hl : (m.take k).length = k := by rw [List.length_take]; omega
  rw [List.getElem_append_right (by omega), List.getElem_drop]
  simp only [hl, Nat.sub_self, Nat.add_zero]
end Go.Proofs.Ytfapledohlckoaa
