/- Contracts of the laws' own helpers over shapes; plain facts. -/
import Derived.Test.YtenpaemaiapapaaDoorV
namespace Go.Proofs.YtenpaemaiapapaaDoor
section
open Go.RowKit Go.Proofs.YtenpaemaiapapaaDoorW.PrintWords Go.Proofs.YtenpaemaiapapaaDoorW.PrintLast
set_option linter.unusedVariables false
set_option linter.unusedSimpArgs false

theorem toPt_c (x y : Int) (w : World) :
    Calls Tryd.prog 99 #[.agg #[.int .i64 x, .int .i64 y]] w fun e w' => e = .returned (.agg #[.int .i64 x, .int .i64 y]) ∧ Below w.heap.size w w' := by
  go_enter Tryd.func99, Tryd.ntmps99
  go_wp2
  refine bodyPost_ret (v := .agg #[.int .i64 x, .int .i64 y]) (by simp [results, Tryd.results99, go_sem]) rfl ⟨rfl, ?_⟩
  exact bl

theorem info_Pt : (Tryd.prog.info? 45).map (fun i => (i.zero, i.size, i.bytes)) = some (some (.agg #[(.int .i64 0), (.int .i64 0)]), 2, 16) := by kernel_rfl
set_option maxHeartbeats 400000 in
theorem toPtS_c (A : Option Addr) (c : Nat) (l : List Pt) (w : World) (hl : kPt.C w A l.length l) (hn : l.length ≤ 1048576) :
    Calls Tryd.prog 68 #[.slice A l.length c] w fun e w' => ∃ A' c', e = .returned (.slice A' l.length c') ∧ RI kPt 45 w' w.heap.size w'.heap.size (.slice A' l.length c') l ∧ Below w.heap.size w w' := by
  go_enter Tryd.func68, Tryd.ntmps68
  go_wp2_with ((with_reducible refine gate_dst (N := 7) rfl ?_); refine Kd.R_make kPt w.heap.size 45 rfl (N := 7) rfl 33 _ _ rfl (l.length : Int) rfl rfl Tryd.underlying33 (.agg #[(.int .i64 0), (.int .i64 0)]) 16 info_Pt rfl (by decide) (by omega) (0, 0) (ok := fun _ => True) (okp := fun _ => True) (kPt_mkM _ _ _ (0, 0)) (fun _ hk => hk) trivial (by omega) (by simp; omega) (Below.refl _ _) (Nat.le_refl _) ?_; intro v w1 hr hb hg hv; clear hg)
  obtain ⟨g, cap, rfl, hg⟩ := R_formed hr hv
  simp only [Int.toNat_natCast, List.length_replicate] at hr ⊢
  clear hv
  go_loopw [4] (fun i wr => ∃ k : Nat, k ≤ l.length ∧ i = .int .i64 k ∧ Aside0 (kPt.R 45 wr w.heap.size (fun _ => True) (.slice (some ⟨g, 0, none⟩) l.length cap) (l.take k ++ List.replicate (l.length - k) (0, 0))) ∧ Aside0 (Below w.heap.size w wr)) (fun i _ => l.length - (intOf i).toNat)
  case atStart => exact ⟨0, by omega, rfl, ⟨by simpa using hr⟩, ⟨hb⟩⟩
  case round =>
    obtain ⟨k, hk, rfl, ⟨hr1⟩, ⟨hb1⟩⟩ := hrel
    by_cases hlt : k < l.length
    · obtain ⟨ad, rfl, c0, c1⟩ := at_Pt hl k hlt
      replace c0 := pw_cell_below hb1 c0
      replace c1 := pw_cell_below hb1 c1
      go_wp2_with (go_at_call 99; refine (toPt_c _ _ _).mono ?_; rintro e w2 ⟨rfl, hb2⟩; have hr2 := Kd.R_below hr1 hb2; obtain ⟨u, v, d0, d1, f0, f1⟩ := own_Pt' hr2 k hlt)
      obtain ⟨hr3, hg3⟩ := set_Pt hr2 k hlt l[k].1 l[k].2
      go_roundw
      case rel => exact ⟨k + 1, by omega, by go_num, ⟨fill_set l (0, 0) k hlt ▸ hr3⟩, ⟨below_set (below_set (below_step hb1 hb2) hg) hg⟩⟩
      case measure => simp [intOf]; omega
    · go_wp2
      go_ret
      obtain rfl : k = l.length := by omega
      exact ⟨_, _, rfl, RI.of (by simpa using hr1), hb1⟩
theorem toShape_c (K : Int) (A : Option Addr) (c : Nat) (l : List Pt) (w : World) (hl : kPt.C w A l.length l) (hn : l.length ≤ 1048576) :
    Calls Tryd.prog 21 #[.agg #[.int .i64 K, .slice A l.length c]] w fun e w' => ∃ A' c', e = .returned (.agg #[.int .i64 K, .slice A' l.length c']) ∧ RI kPt 45 w' w.heap.size w'.heap.size (.slice A' l.length c') l ∧ Below w.heap.size w w' := by
  go_enter Tryd.func21, Tryd.ntmps21
  go_wp2_with (go_at_call 68; refine (toPtS_c _ _ _ _ (Kd.C_below hl bl) hn).mono ?_; rintro e w1 ⟨A', c', rfl, hr, hb⟩; obtain ⟨h1, h2⟩ := bcell hb)
  refine bodyPost_ret (v := .agg #[.int .i64 K, .slice A' l.length c']) (by simp [results, Tryd.results21, go_sem, *]) rfl ⟨A', c', rfl, rk hr, bl⟩
theorem eqPt_c (x y : Pt) (w : World) :
    Calls Tryd.prog 101 #[.agg #[.int .i64 x.1, .int .i64 x.2], .agg #[.int .i64 y.1, .int .i64 y.2]] w fun e w' => e = .returned (.bool (eqB x y)) ∧ Below w.heap.size w w' := by
  obtain ⟨x1, x2⟩ := x
  obtain ⟨y1, y2⟩ := y
  by_cases h : x1 = y1 <;> by_cases h2 : x2 = y2
  all_goals
    go_enter Tryd.func101, Tryd.ntmps101
    go_wp2
    go_ret
    exact ⟨by simp [eqB, h, h2], bl⟩
def l_eqPtS_T6 : Bool × List (List Nat × List Nat) := (true, [([], []), ([], []), ([0, 1], [0, 1]), ([2], [2]), ([], []), ([], []), ([4, 5], [4, 5]), ([6], [6]), ([3, 7], [3, 7]), ([8], [8])])
theorem l_eqPtS_t6 : rtab .any (opsOf Tryd.f70 6) = l_eqPtS_T6 := by kernel_rfl
set_option maxHeartbeats 4000000 in
theorem eqPtS_c (A B : Option Addr) (c d : Nat) (l m : List Pt) (w : World) (hl : kPt.C w A l.length l) (hm : kPt.C w B m.length m) (hn : l.length ≤ 1048576) (hn2 : m.length ≤ 1048576) :
    Calls Tryd.prog 70 #[.slice A l.length c, .slice B m.length d] w fun e w' => e = .returned (.bool (eqB l m)) ∧ Below w.heap.size w w' := by
  by_cases hlen : l.length = m.length
  · have hne : ((l.length : Int) != (m.length : Int)) = false := by simp [hlen]
    have Hlen := Lib.hid hlen
    clear hlen
    go_enter Tryd.func70, Tryd.ntmps70
    go_wp2
    go_loopw [5] (fun i wr => ∃ k : Nat, k ≤ l.length ∧ i = .int .i64 k ∧ Aside0 (l.take k = m.take k) ∧ Aside0 (Below w.heap.size w wr)) (fun i _ => l.length - (intOf i).toNat)
    case atStart => exact ⟨0, by omega, rfl, ⟨by simp⟩, ⟨Below.refl _ _⟩⟩
    case round =>
      obtain ⟨k, hk, rfl, he, ⟨hb1⟩⟩ := hrel
      by_cases hlt : k < l.length
      · have hlt2 : k < m.length := by have := Hlen.out; omega
        obtain ⟨ad, rfl, c0, c1⟩ := at_Pt hl k hlt
        obtain ⟨bd, rfl, d0, d1⟩ := at_Pt hm k hlt2
        replace c0 := pw_cell_below hb1 c0
        replace c1 := pw_cell_below hb1 c1
        replace d0 := pw_cell_below hb1 d0
        replace d1 := pw_cell_below hb1 d1
        go_wp2
        refine rgStart 10 [0, 1, 2, 3, 4, 5, 6, 7, 8, 9] l_eqPtS_t6 (fun HT HS => ?_)
        repeat ((with_reducible refine rgGate ?_); first | refine rgP HT ?_ | refine rgL HT ?_)
        refine rgCall HT Tryd.func101 (eqPt_c l[k] m[k] _) ?_
        rintro e w2 ⟨rfl, hb2⟩
        refine ⟨_, rfl, bl, rgN ?_⟩
        repeat ((with_reducible refine rgGate ?_); first | refine rgP HT ?_ | refine rgL HT ?_)
        refine rgDone HT ?_
        cases hd : eqB l[k] m[k] with
        | true =>
          have Hd := Lib.hid (eqB_t.1 hd)
          go_wp2
          exact ⟨⟨k + 1, by omega, by go_num, ⟨by rw [List.take_succ_eq_append_getElem hlt, List.take_succ_eq_append_getElem hlt2, he.out, Hd.out]⟩, ⟨bl⟩⟩, by simp [intOf]; omega⟩
        | false =>
          have Hd := Lib.hid (eqB_f.1 hd)
          go_wp2
          go_ret
          exact ⟨ret_bool (by symm; rw [eqB_f]; rintro rfl; exact Hd.out rfl), bl⟩
      · go_wp2
        go_ret
        have := he.out
        have h2 := Hlen.out
        exact ⟨ret_bool (by symm; rw [eqB_t]; rwa [List.take_of_length_le (by omega), List.take_of_length_le (by omega)] at this), bl⟩
  · have hne : ((l.length : Int) != (m.length : Int)) = true := by simp; omega
    have Hlen := Lib.hid hlen
    clear hlen
    go_enter Tryd.func70, Tryd.ntmps70
    go_wp2
    go_ret
    exact ⟨ret_bool (by symm; rw [eqB_f]; rintro rfl; exact Hlen.out rfl), bl⟩
theorem eqShape_c (K L : Int) (A B : Option Addr) (c d : Nat) (l m : List Pt) (w : World) (hl : kPt.C w A l.length l) (hm : kPt.C w B m.length m) (hn : l.length ≤ 1048576) (hn2 : m.length ≤ 1048576) :
    Calls Tryd.prog 23 #[.agg #[.int .i64 K, .slice A l.length c], .agg #[.int .i64 L, .slice B m.length d]] w fun e w' => e = .returned (.bool (eqB (K, l) (L, m))) ∧ Below w.heap.size w w' := by
  by_cases hK : K = L
  · have hK1 : (K != L) = false := by simp [hK]
    have HK := Lib.hid hK
    clear hK
    cases h : eqB l m with
    | true =>
      have Hd := Lib.hid (eqB_t.1 h)
      go_enter Tryd.func23, Tryd.ntmps23
      go_wp2_with (go_at_call 70; refine (eqPtS_c _ _ _ _ _ _ _ (Kd.C_below hl bl) (Kd.C_below hm bl) hn hn2).mono ?_; rintro e w1 ⟨rfl, hb⟩; obtain ⟨h1, h2⟩ := bcell hb)
      go_ret
      exact ⟨ret_bool (by symm; rw [eqB_t, HK.out, Hd.out]), bl⟩
    | false =>
      have Hd := Lib.hid (eqB_f.1 h)
      go_enter Tryd.func23, Tryd.ntmps23
      go_wp2_with (go_at_call 70; refine (eqPtS_c _ _ _ _ _ _ _ (Kd.C_below hl bl) (Kd.C_below hm bl) hn hn2).mono ?_; rintro e w1 ⟨rfl, hb⟩; obtain ⟨h1, h2⟩ := bcell hb)
      go_ret
      exact ⟨ret_bool (by symm; rw [eqB_f]; intro he; injection he with _ he; exact Hd.out he), bl⟩
  · have hK1 : (K != L) = true := by simp [hK]
    have HK := Lib.hid hK
    clear hK
    go_enter Tryd.func23, Tryd.ntmps23
    go_wp2
    go_ret
    exact ⟨ret_bool (by symm; rw [eqB_f]; intro he; injection he with he; exact HK.out he), bl⟩
/-- What is left of a size. -/
def lef (a : Int) : Int := if a < 0 then -1 else a
theorem lef_neg {a : Int} (h : a < 0) : lef a = -1 := if_pos h
theorem lef_pos {a : Int} (h : 0 ≤ a) : lef a = a := if_neg (by omega)
theorem szPtS_c (A : Option Addr) (n c : Nat) (a : Int) (w : World) (hn : (n : Int) ≤ 140737488351232) (h0 : 0 ≤ a) (h1 : a ≤ 1048576) :
    Calls Tryd.prog 65 #[.slice A n c, .int .i64 a] w fun e w' => e = .returned (.int .i64 (lef (a - n))) ∧ w' = w := by
  by_cases h : a - n < 0
  · go_enter Tryd.func65, Tryd.ntmps65
    go_wp2
    go_ret
    exact ⟨ret_int (by rw [lef, if_pos h]), rfl⟩
  · go_enter Tryd.func65, Tryd.ntmps65
    go_wp2
    go_ret
    exact ⟨ret_int (by rw [lef, if_neg (by omega)]), rfl⟩
theorem szShape_c (K : Int) (A : Option Addr) (n c : Nat) (a : Int) (w : World) (hn : (n : Int) ≤ 140737488351232) (h0 : 0 ≤ a) (h1 : a ≤ 1048576) :
    Calls Tryd.prog 19 #[.agg #[.int .i64 K, .slice A n c], .int .i64 a] w fun e w' => e = .returned (.int .i64 (lef (a - n))) ∧ Below w.heap.size w w' := by
  have hl : lef (a - n) = -1 ∨ 0 ≤ lef (a - n) := by unfold lef; split <;> omega
  rcases hl with hl | hl
  · have Hl := Lib.hid hl
    clear hl
    go_enter Tryd.func19, Tryd.ntmps19
    go_wp2_with (go_at_call 65; refine (szPtS_c _ _ _ _ _ hn h0 h1).mono ?_; rintro e w' ⟨rfl, rfl⟩; rw [Hl.out])
    go_ret
    exact ⟨ret_int (by rw [Hl.out]), bl⟩
  · go_enter Tryd.func19, Tryd.ntmps19
    go_wp2_with (go_at_call 65; refine (szPtS_c _ _ _ _ _ hn h0 h1).mono ?_; rintro e w' ⟨rfl, rfl⟩)
    go_ret
    exact ⟨rfl, bl⟩
end
section
def inB (n lo hi : Int) : Bool := decide (lo ≤ n ∧ n ≤ hi)
def ptOk (p : Pt) : Bool := inB p.1 (-1000) 1000 && inB p.2 (-1000) 1000
/-- Point i is one, and not the one before. -/
def stepOk (l : List Pt) (i : Nat) : Prop := ∀ h : i < l.length, ptOk l[i] = true ∧ (0 < i → l[i - 1]'(by omega) ≠ l[i])
def PtsOk (l : List Pt) : Prop := ∀ i, i < l.length → stepOk l i
def KindOk (K : Int) (l : List Pt) : Prop := (K = 1 ∧ l.length = 1) ∨ (K = 2 ∧ 2 ≤ l.length ∧ l.length ≤ 6) ∨ (K = 3 ∧ 3 ≤ l.length ∧ l.length ≤ 6 ∧ l[0]? ≠ l[l.length - 1]?)
def ShapeOk (K : Int) (l : List Pt) : Prop := PtsOk l ∧ KindOk K l
open Classical in
noncomputable def shapeOk (K : Int) (l : List Pt) : Bool := decide (ShapeOk K l)
theorem shapeOk_t {K : Int} {l : List Pt} : shapeOk K l = true ↔ ShapeOk K l := by simp [shapeOk]
theorem shapeOk_f {K : Int} {l : List Pt} : shapeOk K l = false ↔ ¬ ShapeOk K l := by simp [shapeOk]
theorem ShapeOk.le {K : Int} {l : List Pt} (h : ShapeOk K l) : l.length ≤ 6 := by
  rcases h.2 with h | h | h <;> omega
open Classical in
noncomputable def ptsB (l : List Pt) : Bool := decide (PtsOk l ∧ l.length ≤ 6)
theorem ptsB_t {l : List Pt} : ptsB l = true ↔ PtsOk l ∧ l.length ≤ 6 := by simp [ptsB]
theorem ptsB_f {l : List Pt} : ptsB l = false ↔ ¬ (PtsOk l ∧ l.length ≤ 6) := by simp [ptsB]
/-! Areas. -/
def cross (p q : Pt) : Int := p.1 * q.2 - q.1 * p.2
def nxt (l : List Pt) (i : Nat) : Nat := (i + 1) % l.length
def areaTo (l : List Pt) : Nat → Int
  | 0 => 0
  | k + 1 => areaTo l k + cross (l.getD k (0, 0)) (l.getD (nxt l k) (0, 0))
open Classical in
noncomputable def area (K : Int) (l : List Pt) : Int := if ShapeOk K l ∧ K = 3 then areaTo l l.length else 0
def Near (p : Pt) : Prop := -1000 ≤ p.1 ∧ p.1 ≤ 1000 ∧ -1000 ≤ p.2 ∧ p.2 ≤ 1000
theorem near_of {p : Pt} (h : ptOk p = true) : Near p := by simp [ptOk, inB] at h; unfold Near; omega
theorem PtsOk.near {l : List Pt} (h : PtsOk l) (i : Nat) : Near (l.getD i (0, 0)) := by
  rw [List.getD_eq_getElem?_getD]
  rcases Nat.lt_or_ge i l.length with hi | hi
  · rw [List.getElem?_eq_getElem hi]; exact near_of (h i hi hi).1
  · rw [List.getElem?_eq_none hi]; simp [Near]
theorem mul_le (a b : Int) (ha : -1000 ≤ a ∧ a ≤ 1000) (hb : -1000 ≤ b ∧ b ≤ 1000) : -1000000 ≤ a * b ∧ a * b ≤ 1000000 := by
  have h1 : a.natAbs ≤ 1000 := by omega
  have h2 : b.natAbs ≤ 1000 := by omega
  have h3 : (a * b).natAbs ≤ 1000000 := by rw [Int.natAbs_mul]; exact Nat.le_trans (Nat.mul_le_mul h1 h2) (by omega)
  omega
theorem cross_le {p q : Pt} (hp : Near p) (hq : Near q) : -2000000 ≤ cross p q ∧ cross p q ≤ 2000000 := by
  unfold Near at hp hq
  have h1 := mul_le p.1 q.2 ⟨hp.1, hp.2.1⟩ ⟨hq.2.2.1, hq.2.2.2⟩
  have h2 := mul_le q.1 p.2 ⟨hq.1, hq.2.1⟩ ⟨hp.2.2.1, hp.2.2.2⟩
  unfold cross
  omega
theorem areaTo_le {l : List Pt} (h : PtsOk l) : ∀ k : Nat, -2000000 * (k : Int) ≤ areaTo l k ∧ areaTo l k ≤ 2000000 * (k : Int)
  | 0 => by simp [areaTo]
  | k + 1 => by
    have h1 := areaTo_le h k
    have h2 := cross_le (h.near k) (h.near (nxt l k))
    simp only [areaTo]
    omega
end
end Go.Proofs.YtenpaemaiapapaaDoor
