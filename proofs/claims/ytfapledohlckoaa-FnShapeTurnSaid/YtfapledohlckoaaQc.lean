/- Plain: shapes reversed and moved: whether they are ok, their areas, their boxes. -/
import Derived.Test.YtfapledohlckoaaQ
import Derived.Test.YtfapledohlckoaaN
namespace Go.Proofs.Ytfapledohlckoaa
theorem getDk' (l : List Pt) {k : Nat} (h : k < l.length) : l.getD k (0, 0) = l[k] := by rw [List.getD_eq_getElem?_getD, List.getElem?_eq_getElem h]; rfl
theorem lo_le (l : List Pt) : ∀ n, n ≤ l.length → ∀ i, (h : i < l.length) → i < n → (lo l n).1 ≤ l[i].1 ∧ (lo l n).2 ≤ l[i].2
  | 0, _, i, h, hi => by omega
  | n + 1, hn, i, h, hi => by
    simp only [lo, pmin, getDk' l (show n < l.length by omega)]
    rcases Nat.lt_or_ge i n with h1 | h1
    · have := lo_le l n (by omega) i h h1; omega
    · obtain rfl : i = n := by omega
      omega
theorem hi_le (l : List Pt) : ∀ n, n ≤ l.length → ∀ i, (h : i < l.length) → i < n → l[i].1 ≤ (hi l n).1 ∧ l[i].2 ≤ (hi l n).2
  | 0, _, i, h, hi => by omega
  | n + 1, hn, i, h, hj => by
    simp only [hi, pmax, getDk' l (show n < l.length by omega)]
    rcases Nat.lt_or_ge i n with h1 | h1
    · have := hi_le l n (by omega) i h h1; omega
    · obtain rfl : i = n := by omega
      omega
theorem lo_at (l : List Pt) (h0 : 0 < l.length) : ∀ n, n ≤ l.length → (∃ i, ∃ h : i < l.length, l[i].1 = (lo l n).1) ∧ (∃ i, ∃ h : i < l.length, l[i].2 = (lo l n).2)
  | 0, _ => ⟨⟨0, h0, by simp only [lo, getDk' l h0]⟩, ⟨0, h0, by simp only [lo, getDk' l h0]⟩⟩
  | n + 1, hn => by
    obtain ⟨⟨i, hi, h1⟩, ⟨j, hj, h2⟩⟩ := lo_at l h0 n (by omega)
    simp only [lo, pmin, getDk' l (show n < l.length by omega)]
    constructor
    · rcases Int.le_total (lo l n).1 l[n].1 with h | h
      · exact ⟨i, hi, by omega⟩
      · exact ⟨n, by omega, by omega⟩
    · rcases Int.le_total (lo l n).2 l[n].2 with h | h
      · exact ⟨j, hj, by omega⟩
      · exact ⟨n, by omega, by omega⟩
theorem hi_at (l : List Pt) (h0 : 0 < l.length) : ∀ n, n ≤ l.length → (∃ i, ∃ h : i < l.length, l[i].1 = (hi l n).1) ∧ (∃ i, ∃ h : i < l.length, l[i].2 = (hi l n).2)
  | 0, _ => ⟨⟨0, h0, by simp only [hi, getDk' l h0]⟩, ⟨0, h0, by simp only [hi, getDk' l h0]⟩⟩
  | n + 1, hn => by
    obtain ⟨⟨i, hi_, h1⟩, ⟨j, hj, h2⟩⟩ := hi_at l h0 n (by omega)
    simp only [hi, pmax, getDk' l (show n < l.length by omega)]
    constructor
    · rcases Int.le_total (hi l n).1 l[n].1 with h | h
      · exact ⟨n, by omega, by omega⟩
      · exact ⟨i, hi_, by omega⟩
    · rcases Int.le_total (hi l n).2 l[n].2 with h | h
      · exact ⟨n, by omega, by omega⟩
      · exact ⟨j, hj, by omega⟩
theorem PtsOk.rev {l : List Pt} (h : PtsOk l) : PtsOk l.reverse := by
  intro i hi hi2
  have hl : l.reverse.length = l.length := List.length_reverse
  have hlt : l.length - 1 - i < l.length := by omega
  refine ⟨by rw [List.getElem_reverse]; exact (h _ hlt hlt).1, fun h0 => ?_⟩
  rw [List.getElem_reverse, List.getElem_reverse]
  have hlt2 : l.length - 1 - (i - 1) < l.length := by omega
  have h3 := (h _ hlt2 hlt2).2 (by omega)
  have e : l.length - 1 - (i - 1) - 1 = l.length - 1 - i := by omega
  simp only [e] at h3
  exact fun e => h3 e.symm
theorem ShapeOk.rev {K : Int} {l : List Pt} (h : ShapeOk K l) : ShapeOk K l.reverse := by
  refine ⟨h.1.rev, ?_⟩
  unfold KindOk
  rw [List.length_reverse]
  rcases h.2 with h2 | h2 | h2
  · exact .inl h2
  · exact .inr (.inl h2)
  · refine .inr (.inr ⟨h2.1, h2.2.1, h2.2.2.1, ?_⟩)
    rw [List.getElem?_reverse (by omega), List.getElem?_reverse (by omega)]
    have e : l.length - 1 - (l.length - 1) = 0 := by omega
    rw [e, Nat.sub_zero]
    exact fun e => h2.2.2.2 e.symm
theorem cross_swap (p q : Pt) : cross p q = - cross q p := by unfold cross; omega
theorem ring_cases {C : List Pt → Prop} (l : List Pt) (h3 : 3 ≤ l.length) (h6 : l.length ≤ 6) (c3 : ∀ a b c, C [a, b, c]) (c4 : ∀ a b c d, C [a, b, c, d]) (c5 : ∀ a b c d e, C [a, b, c, d, e]) (c6 : ∀ a b c d e f, C [a, b, c, d, e, f]) : C l := by
  match l, h3, h6 with
  | [a, b, c], _, _ => exact c3 a b c
  | [a, b, c, d], _, _ => exact c4 a b c d
  | [a, b, c, d, e], _, _ => exact c5 a b c d e
  | [a, b, c, d, e, f], _, _ => exact c6 a b c d e f
  | _ :: _ :: _ :: _ :: _ :: _ :: _ :: _, _, h => simp only [List.length_cons] at h; omega
theorem area3 (a b c : Pt) : areaTo [a, b, c] 3 = 0 + cross a b + cross b c + cross c a := by simp [areaTo, nxt]
theorem area4 (a b c d : Pt) : areaTo [a, b, c, d] 4 = 0 + cross a b + cross b c + cross c d + cross d a := by simp [areaTo, nxt]
theorem area5 (a b c d e : Pt) : areaTo [a, b, c, d, e] 5 = 0 + cross a b + cross b c + cross c d + cross d e + cross e a := by simp [areaTo, nxt]
theorem area6 (a b c d e f : Pt) : areaTo [a, b, c, d, e, f] 6 = 0 + cross a b + cross b c + cross c d + cross d e + cross e f + cross f a := by simp [areaTo, nxt]
theorem areaTo_rev (l : List Pt) (h3 : 3 ≤ l.length) (h6 : l.length ≤ 6) : areaTo l.reverse l.reverse.length = - areaTo l l.length := by
  refine ring_cases (C := fun l => areaTo l.reverse l.reverse.length = - areaTo l l.length) l h3 h6 ?_ ?_ ?_ ?_
  · intro a b c
    show areaTo [c, b, a] 3 = - areaTo [a, b, c] 3
    rw [area3, area3, cross_swap c b, cross_swap b a, cross_swap a c]
    generalize cross a b = x1; generalize cross b c = x2; generalize cross c a = x3
    omega
  · intro a b c d
    show areaTo [d, c, b, a] 4 = - areaTo [a, b, c, d] 4
    rw [area4, area4, cross_swap d c, cross_swap c b, cross_swap b a, cross_swap a d]
    generalize cross a b = x1; generalize cross b c = x2; generalize cross c d = x3; generalize cross d a = x4
    omega
  · intro a b c d e
    show areaTo [e, d, c, b, a] 5 = - areaTo [a, b, c, d, e] 5
    rw [area5, area5, cross_swap e d, cross_swap d c, cross_swap c b, cross_swap b a, cross_swap a e]
    generalize cross a b = x1; generalize cross b c = x2; generalize cross c d = x3; generalize cross d e = x4; generalize cross e a = x5
    omega
  · intro a b c d e f
    show areaTo [f, e, d, c, b, a] 6 = - areaTo [a, b, c, d, e, f] 6
    rw [area6, area6, cross_swap f e, cross_swap e d, cross_swap d c, cross_swap c b, cross_swap b a, cross_swap a f]
    generalize cross a b = x1; generalize cross b c = x2; generalize cross c d = x3; generalize cross d e = x4; generalize cross e f = x5; generalize cross f a = x6
    omega
theorem area_rev {K : Int} {l : List Pt} (h : ShapeOk K l) : area K l.reverse = - area K l := by
  unfold area
  by_cases hK : K = 3
  · rw [if_pos ⟨h.rev, hK⟩, if_pos ⟨h, hK⟩]
    have h3 : 3 ≤ l.length ∧ l.length ≤ 6 := by rcases h.2 with h | h | h <;> omega
    exact areaTo_rev l h3.1 h3.2
  · rw [if_neg fun h => hK h.2, if_neg fun h => hK h.2]
    rfl
/-- Two rows with the same points have one box. -/
theorem lohi_same (l m : List Pt) (h0 : 0 < l.length) (h1 : 0 < m.length) (h : ∀ x, x ∈ l ↔ x ∈ m) : lo l l.length = lo m m.length ∧ hi l l.length = hi m m.length := by
  have key : ∀ (l m : List Pt), 0 < l.length → 0 < m.length → (∀ x, x ∈ l → x ∈ m) → (lo m m.length).1 ≤ (lo l l.length).1 ∧ (lo m m.length).2 ≤ (lo l l.length).2 ∧ (hi l l.length).1 ≤ (hi m m.length).1 ∧ (hi l l.length).2 ≤ (hi m m.length).2 := by
    intro l m h0 h1 h
    have lw : ∀ i, (hi_ : i < l.length) → (lo m m.length).1 ≤ l[i].1 ∧ (lo m m.length).2 ≤ l[i].2 ∧ l[i].1 ≤ (hi m m.length).1 ∧ l[i].2 ≤ (hi m m.length).2 := by
      intro i hi_
      obtain ⟨j, hj, e⟩ := List.getElem_of_mem (h _ (List.getElem_mem hi_))
      have a := lo_le m m.length (Nat.le_refl _) j hj hj
      have b := hi_le m m.length (Nat.le_refl _) j hj hj
      rw [e] at a b
      exact ⟨a.1, a.2, b.1, b.2⟩
    obtain ⟨⟨i1, j1, e1⟩, ⟨i2, j2, e2⟩⟩ := lo_at l h0 l.length (Nat.le_refl _)
    obtain ⟨⟨i3, j3, e3⟩, ⟨i4, j4, e4⟩⟩ := hi_at l h0 l.length (Nat.le_refl _)
    rw [← e1, ← e2, ← e3, ← e4]
    exact ⟨(lw i1 j1).1, (lw i2 j2).2.1, (lw i3 j3).2.2.1, (lw i4 j4).2.2.2⟩
  have a := key l m h0 h1 (fun x => (h x).1)
  have b := key m l h1 h0 (fun x => (h x).2)
  exact ⟨Prod.ext (by omega) (by omega), Prod.ext (by omega) (by omega)⟩
theorem ShapeOk.pos' {K : Int} {l : List Pt} (h : ShapeOk K l) : 1 ≤ l.length := by
  rcases h.2 with h | h | h <;> omega
theorem box_rev {K : Int} {l : List Pt} (h : ShapeOk K l) : box K l.reverse = box K l := by
  have e := lohi_same l.reverse l (by rw [List.length_reverse]; exact h.pos') h.pos' (fun x => List.mem_reverse)
  unfold box
  rw [if_pos h.rev, if_pos h, e.1, e.2]
theorem area_le {K : Int} {l : List Pt} : -12000000 ≤ area K l ∧ area K l ≤ 12000000 := by
  unfold area
  split
  · rename_i h
    have h1 := areaTo_le h.1.1 l.length
    have h2 := h.1.le
    omega
  · omega
/-! Moved. -/
theorem lo_map (l : List Pt) (dx dy : Int) (h0 : 0 < l.length) : ∀ n, n ≤ l.length → lo (l.map (movePt dx dy)) n = movePt dx dy (lo l n) ∧ hi (l.map (movePt dx dy)) n = movePt dx dy (hi l n)
  | 0, _ => by
    have h1 : 0 < (l.map (movePt dx dy)).length := by simpa using h0
    simp only [lo, hi, getDk' _ h0, getDk' _ h1, List.getElem_map, and_self]
  | n + 1, hn => by
    have ih := lo_map l dx dy h0 n (by omega)
    have h1 : n < (l.map (movePt dx dy)).length := by simp; omega
    simp only [lo, hi, ih.1, ih.2, getDk' _ (show n < l.length by omega), getDk' _ h1, List.getElem_map, pmin, pmax, movePt]
    exact ⟨Prod.ext (by simp only []; omega) (by simp only []; omega), Prod.ext (by simp only []; omega) (by simp only []; omega)⟩
def slant (dx dy : Int) (p : Pt) : Int := p.1 * dy - p.2 * dx
theorem cross_mv (dx dy : Int) (p q : Pt) : cross (movePt dx dy p) (movePt dx dy q) = cross p q + slant dx dy p - slant dx dy q := by
  unfold cross movePt slant
  simp only [Int.add_mul, Int.mul_add]
  rw [Int.mul_comm dx q.2, Int.mul_comm dx p.2]
  generalize p.1 * q.2 = x1; generalize q.1 * p.2 = x2; generalize p.1 * dy = x3; generalize q.1 * dy = x4; generalize q.2 * dx = x5; generalize p.2 * dx = x6; generalize dx * dy = x7
  omega
theorem areaTo_mv (dx dy : Int) (l : List Pt) (h3 : 3 ≤ l.length) (h6 : l.length ≤ 6) : areaTo (l.map (movePt dx dy)) (l.map (movePt dx dy)).length = areaTo l l.length := by
  refine ring_cases (C := fun l => areaTo (l.map (movePt dx dy)) (l.map (movePt dx dy)).length = areaTo l l.length) l h3 h6 ?_ ?_ ?_ ?_
  · intro a b c
    show areaTo [movePt dx dy a, movePt dx dy b, movePt dx dy c] 3 = areaTo [a, b, c] 3
    simp only [area3, cross_mv]
    omega
  · intro a b c d
    show areaTo [movePt dx dy a, movePt dx dy b, movePt dx dy c, movePt dx dy d] 4 = areaTo [a, b, c, d] 4
    simp only [area4, cross_mv]
    omega
  · intro a b c d e
    show areaTo [movePt dx dy a, movePt dx dy b, movePt dx dy c, movePt dx dy d, movePt dx dy e] 5 = areaTo [a, b, c, d, e] 5
    simp only [area5, cross_mv]
    omega
  · intro a b c d e f
    show areaTo [movePt dx dy a, movePt dx dy b, movePt dx dy c, movePt dx dy d, movePt dx dy e, movePt dx dy f] 6 = areaTo [a, b, c, d, e, f] 6
    simp only [area6, cross_mv]
    omega
theorem area_mv {K dx dy : Int} {l : List Pt} (h : ShapeOk K l) (h2 : ShapeOk K (l.map (movePt dx dy))) : area K (l.map (movePt dx dy)) = area K l := by
  unfold area
  by_cases hK : K = 3
  · rw [if_pos ⟨h2, hK⟩, if_pos ⟨h, hK⟩]
    have h3 : 3 ≤ l.length ∧ l.length ≤ 6 := by rcases h.2 with h | h | h <;> omega
    exact areaTo_mv dx dy l h3.1 h3.2
  · rw [if_neg fun h => hK h.2, if_neg fun h => hK h.2]
theorem box_mv {K dx dy : Int} {l : List Pt} (h : ShapeOk K l) (h2 : ShapeOk K (l.map (movePt dx dy))) : box K (l.map (movePt dx dy)) = (movePt dx dy (box K l).1, movePt dx dy (box K l).2) := by
  have e := lo_map l dx dy h.pos' l.length (Nat.le_refl _)
  unfold box
  rw [if_pos h2, if_pos h, List.length_map, e.1, e.2]
theorem map_back (dx dy : Int) (l : List Pt) : (l.map (movePt dx dy)).map (movePt (-dx) (-dy)) = l := by
  rw [List.map_map]
  have : (movePt (-dx) (-dy) ∘ movePt dx dy) = id := by
    funext p
    exact Prod.ext (by simp [movePt]; omega) (by simp [movePt]; omega)
  rw [this, List.map_id]
theorem mv_back {K dx dy : Int} {l : List Pt} (h : ShapeOk K l) (h2 : ShapeOk K (l.map (movePt dx dy))) (hr : InR dx dy) : mv K (l.map (movePt dx dy)) (-dx) (-dy) = ((K, l), true) := by
  have hr2 : InR (-dx) (-dy) := by unfold InR at hr ⊢; omega
  unfold mv
  rw [map_back, if_pos ⟨⟨h2, hr2⟩, h⟩]
end Go.Proofs.Ytfapledohlckoaa
