/- Contracts of the laws' own helpers over shapes; plain facts. -/
import Derived.Test.YtfbhjknkofnohaaDoorV
namespace Go.Proofs.YtfbhjknkofnohaaDoor
section
open Go.RowKit Go.Proofs.YtfbhjknkofnohaaDoorW.PrintWords Go.Proofs.YtfbhjknkofnohaaDoorW.PrintLast
set_option linter.unusedVariables false
set_option linter.unusedSimpArgs false


theorem info_Pt : (Tryd.prog.info? 58).map (fun i => (i.zero, i.size, i.bytes)) = some (some (.agg #[(.int .i64 0), (.int .i64 0)]), 2, 16) := by kernel_rfl
theorem eqPt_c (x y : Pt) (w : World) :
    Calls Tryd.prog 66 #[.agg #[.int .i64 x.1, .int .i64 x.2], .agg #[.int .i64 y.1, .int .i64 y.2]] w fun e w' => e = .returned (.bool (eqB x y)) ∧ Below w.heap.size w w' := by
  obtain ⟨x1, x2⟩ := x
  obtain ⟨y1, y2⟩ := y
  by_cases h : x1 = y1 <;> by_cases h2 : x2 = y2
  all_goals
    go_enter Tryd.func66, Tryd.ntmps66
    go_wp2
    go_ret
    exact ⟨by simp [eqB, h, h2], bl⟩
def l_eqPtS_T6 : Bool × List (List Nat × List Nat) := (true, [([], []), ([], []), ([0, 1], [0, 1]), ([2], [2]), ([], []), ([], []), ([4, 5], [4, 5]), ([6], [6]), ([3, 7], [3, 7]), ([8], [8])])
theorem l_eqPtS_t6 : rtab .any (opsOf Tryd.f41 6) = l_eqPtS_T6 := by kernel_rfl
set_option maxHeartbeats 4000000 in
theorem eqPtS_c (A B : Option Addr) (c d : Nat) (l m : List Pt) (w : World) (hl : kPt.C w A l.length l) (hm : kPt.C w B m.length m) (hn : l.length ≤ 1048576) (hn2 : m.length ≤ 1048576) :
    Calls Tryd.prog 41 #[.slice A l.length c, .slice B m.length d] w fun e w' => e = .returned (.bool (eqB l m)) ∧ Below w.heap.size w w' := by
  by_cases hlen : l.length = m.length
  · have hne : ((l.length : Int) != (m.length : Int)) = false := by simp [hlen]
    have Hlen := Lib.hid hlen
    clear hlen
    go_enter Tryd.func41, Tryd.ntmps41
    go_wp2
    go_loopw [5] (fun i wr => ∃ k : Nat, k ≤ l.length ∧ i = .int .i64 k ∧ Aside0 (l.take k = m.take k) ∧ Aside0 (Below w.heap.size w wr)) (fun i _ => l.length - (intOf i).toNat)
    case atStart => exact ⟨0, by omega, rfl, ⟨by simp⟩, ⟨Below.refl _ _⟩⟩
    case round =>
      obtain ⟨k, hk, rfl, he, ⟨hb1⟩⟩ := hrel
      by_cases hlt : k < l.length
      · have hlt2 : k < m.length := by have := Hlen.out; omega
        obtain ⟨ad, rfl, c0, c1⟩ := at_Pt hl k hlt
        obtain ⟨bd, rfl, d0, d1⟩ := at_Pt hm k hlt2
        replace c0 := pw_cell_below hb1 c0
        replace c1 := pw_cell_below hb1 c1
        replace d0 := pw_cell_below hb1 d0
        replace d1 := pw_cell_below hb1 d1
        go_wp2
        refine rgStart 10 [0, 1, 2, 3, 4, 5, 6, 7, 8, 9] l_eqPtS_t6 (fun HT HS => ?_)
        repeat ((with_reducible refine rgGate ?_); first | refine rgP HT ?_ | refine rgL HT ?_)
        refine rgCall HT Tryd.func66 (eqPt_c l[k] m[k] _) ?_
        rintro e w2 ⟨rfl, hb2⟩
        refine ⟨_, rfl, bl, rgN ?_⟩
        repeat ((with_reducible refine rgGate ?_); first | refine rgP HT ?_ | refine rgL HT ?_)
        refine rgDone HT ?_
        cases hd : eqB l[k] m[k] with
        | true =>
          have Hd := Lib.hid (eqB_t.1 hd)
          go_wp2
          exact ⟨⟨k + 1, by omega, by go_num, ⟨by rw [List.take_succ_eq_append_getElem hlt, List.take_succ_eq_append_getElem hlt2, he.out, Hd.out]⟩, ⟨bl⟩⟩, by simp [intOf]; omega⟩
        | false =>
          have Hd := Lib.hid (eqB_f.1 hd)
          go_wp2
          go_ret
          exact ⟨ret_bool (by symm; rw [eqB_f]; rintro rfl; exact Hd.out rfl), bl⟩
      · go_wp2
        go_ret
        have := he.out
        have h2 := Hlen.out
        exact ⟨ret_bool (by symm; rw [eqB_t]; rwa [List.take_of_length_le (by omega), List.take_of_length_le (by omega)] at this), bl⟩
  · have hne : ((l.length : Int) != (m.length : Int)) = true := by simp; omega
    have Hlen := Lib.hid hlen
    clear hlen
    go_enter Tryd.func41, Tryd.ntmps41
    go_wp2
    go_ret
    exact ⟨ret_bool (by symm; rw [eqB_f]; rintro rfl; exact Hlen.out rfl), bl⟩
theorem eqShape_c (K L : Int) (A B : Option Addr) (c d : Nat) (l m : List Pt) (w : World) (hl : kPt.C w A l.length l) (hm : kPt.C w B m.length m) (hn : l.length ≤ 1048576) (hn2 : m.length ≤ 1048576) :
    Calls Tryd.prog 13 #[.agg #[.int .i64 K, .slice A l.length c], .agg #[.int .i64 L, .slice B m.length d]] w fun e w' => e = .returned (.bool (eqB (K, l) (L, m))) ∧ Below w.heap.size w w' := by
  by_cases hK : K = L
  · have hK1 : (K != L) = false := by simp [hK]
    have HK := Lib.hid hK
    clear hK
    cases h : eqB l m with
    | true =>
      have Hd := Lib.hid (eqB_t.1 h)
      go_enter Tryd.func13, Tryd.ntmps13
      go_wp2_with (go_at_call 41; refine (eqPtS_c _ _ _ _ _ _ _ (Kd.C_below hl bl) (Kd.C_below hm bl) hn hn2).mono ?_; rintro e w1 ⟨rfl, hb⟩; obtain ⟨h1, h2⟩ := bcell hb)
      go_ret
      exact ⟨ret_bool (by symm; rw [eqB_t, HK.out, Hd.out]), bl⟩
    | false =>
      have Hd := Lib.hid (eqB_f.1 h)
      go_enter Tryd.func13, Tryd.ntmps13
      go_wp2_with (go_at_call 41; refine (eqPtS_c _ _ _ _ _ _ _ (Kd.C_below hl bl) (Kd.C_below hm bl) hn hn2).mono ?_; rintro e w1 ⟨rfl, hb⟩; obtain ⟨h1, h2⟩ := bcell hb)
      go_ret
      exact ⟨ret_bool (by symm; rw [eqB_f]; intro he; injection he with _ he; exact Hd.out he), bl⟩
  · have hK1 : (K != L) = true := by simp [hK]
    have HK := Lib.hid hK
    clear hK
    go_enter Tryd.func13, Tryd.ntmps13
    go_wp2
    go_ret
    exact ⟨ret_bool (by symm; rw [eqB_f]; intro he; injection he with he; exact HK.out he), bl⟩
/-- What is left of a size. -/
def lef (a : Int) : Int := if a < 0 then -1 else a
theorem lef_neg {a : Int} (h : a < 0) : lef a = -1 := if_pos h
theorem lef_pos {a : Int} (h : 0 ≤ a) : lef a = a := if_neg (by omega)
end
section
def inB (n lo hi : Int) : Bool := decide (lo ≤ n ∧ n ≤ hi)
def ptOk (p : Pt) : Bool := inB p.1 (-1000) 1000 && inB p.2 (-1000) 1000
/-- Point i is one, and not the one before. -/
def stepOk (l : List Pt) (i : Nat) : Prop := ∀ h : i < l.length, ptOk l[i] = true ∧ (0 < i → l[i - 1]'(by omega) ≠ l[i])
def PtsOk (l : List Pt) : Prop := ∀ i, i < l.length → stepOk l i
def KindOk (K : Int) (l : List Pt) : Prop := (K = 1 ∧ l.length = 1) ∨ (K = 2 ∧ 2 ≤ l.length ∧ l.length ≤ 6) ∨ (K = 3 ∧ 3 ≤ l.length ∧ l.length ≤ 6 ∧ l[0]? ≠ l[l.length - 1]?)
def ShapeOk (K : Int) (l : List Pt) : Prop := PtsOk l ∧ KindOk K l
open Classical in
noncomputable def shapeOk (K : Int) (l : List Pt) : Bool := decide (ShapeOk K l)
theorem shapeOk_t {K : Int} {l : List Pt} : shapeOk K l = true ↔ ShapeOk K l := by simp [shapeOk]
theorem shapeOk_f {K : Int} {l : List Pt} : shapeOk K l = false ↔ ¬ ShapeOk K l := by simp [shapeOk]
theorem ShapeOk.le {K : Int} {l : List Pt} (h : ShapeOk K l) : l.length ≤ 6 := by
  rcases h.2 with h | h | h <;> omega
open Classical in
noncomputable def ptsB (l : List Pt) : Bool := decide (PtsOk l ∧ l.length ≤ 6)
theorem ptsB_t {l : List Pt} : ptsB l = true ↔ PtsOk l ∧ l.length ≤ 6 := by simp [ptsB]
theorem ptsB_f {l : List Pt} : ptsB l = false ↔ ¬ (PtsOk l ∧ l.length ≤ 6) := by simp [ptsB]
/-! Areas. -/
def cross (p q : Pt) : Int := p.1 * q.2 - q.1 * p.2
def nxt (l : List Pt) (i : Nat) : Nat := (i + 1) % l.length
def areaTo (l : List Pt) : Nat → Int
  | 0 => 0
  | k + 1 => areaTo l k + cross (l.getD k (0, 0)) (l.getD (nxt l k) (0, 0))
open Classical in
noncomputable def area (K : Int) (l : List Pt) : Int := if ShapeOk K l ∧ K = 3 then areaTo l l.length else 0
def Near (p : Pt) : Prop := -1000 ≤ p.1 ∧ p.1 ≤ 1000 ∧ -1000 ≤ p.2 ∧ p.2 ≤ 1000
theorem near_of {p : Pt} (h : ptOk p = true) : Near p := by simp [ptOk, inB] at h; unfold Near; omega
theorem PtsOk.near {l : List Pt} (h : PtsOk l) (i : Nat) : Near (l.getD i (0, 0)) := by
  rw [List.getD_eq_getElem?_getD]
  rcases Nat.lt_or_ge i l.length with hi | hi
  · rw [List.getElem?_eq_getElem hi]; exact near_of (h i hi hi).1
  · rw [List.getElem?_eq_none hi]; simp [Near]
theorem mul_le (a b : Int) (ha : -1000 ≤ a ∧ a ≤ 1000) (hb : -1000 ≤ b ∧ b ≤ 1000) : -1000000 ≤ a * b ∧ a * b ≤ 1000000 := by
  have h1 : a.natAbs ≤ 1000 := by omega
  have h2 : b.natAbs ≤ 1000 := by omega
  have h3 : (a * b).natAbs ≤ 1000000 := by rw [Int.natAbs_mul]; exact Nat.le_trans (Nat.mul_le_mul h1 h2) (by omega)
  omega
theorem cross_le {p q : Pt} (hp : Near p) (hq : Near q) : -2000000 ≤ cross p q ∧ cross p q ≤ 2000000 := by
  unfold Near at hp hq
  have h1 := mul_le p.1 q.2 ⟨hp.1, hp.2.1⟩ ⟨hq.2.2.1, hq.2.2.2⟩
  have h2 := mul_le q.1 p.2 ⟨hq.1, hq.2.1⟩ ⟨hp.2.2.1, hp.2.2.2⟩
  unfold cross
  omega
theorem areaTo_le {l : List Pt} (h : PtsOk l) : ∀ k : Nat, -2000000 * (k : Int) ≤ areaTo l k ∧ areaTo l k ≤ 2000000 * (k : Int)
  | 0 => by simp [areaTo]
  | k + 1 => by
    have h1 := areaTo_le h k
    have h2 := cross_le (h.near k) (h.near (nxt l k))
    simp only [areaTo]
    omega
end
end Go.Proofs.YtfbhjknkofnohaaDoor
