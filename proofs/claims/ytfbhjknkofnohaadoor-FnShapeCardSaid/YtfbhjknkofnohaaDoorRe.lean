/- Contracts: the program's shapeRead, ShapeRead. -/
import Derived.Test.YtfbhjknkofnohaaDoorRd
import Derived.Test.YtfbhjknkofnohaaDoorFh
namespace Go.Proofs.YtfbhjknkofnohaaDoor
open Go.RowKit Go.Proofs.YtfbhjknkofnohaaDoorW.PrintWords Go.Proofs.YtfbhjknkofnohaaDoorW.PrintLast
set_option maxRecDepth 100000
set_option linter.unusedVariables false
set_option linter.unusedSimpArgs false
attribute [local go_sem] cell_set_far cell_set_off
section
variable {P : Program} {ops : Array Oper} {Q : Exit → Act → World → Prop} {S : World → Prop} {T : Bool × List (List Nat × List Nat)} {i j m k n fuel : Nat} {p ds : List Nat} {oi oj om : Oper} {a : Act} {w : World}
/-- Three operations may come up. -/
theorem cgThree (q r : List Nat) (hT : Aside0 (rtab .any ops = T)) (h1 : CgK P ops Q S ds fuel (lit p (k + 1) n) oi a w) (h2 : CgK P ops Q S ds fuel (lit q (k + 1) n) oj a w) (h3 : CgK P ops Q S ds fuel (lit r (k + 1) n) om a w)
    (hk : p[k]? = some i := by (try simp only [List.getElem?_cons_succ, List.getElem?_cons_zero]); rfl) (hk2 : q[k]? = some j := by (try simp only [List.getElem?_cons_succ, List.getElem?_cons_zero]); rfl) (hk3 : r[k]? = some m := by (try simp only [List.getElem?_cons_succ, List.getElem?_cons_zero]); rfl) (hi : ops[i]? = some oi := by (try simp only [List.getElem?_toArray, List.getElem?_cons_succ, List.getElem?_cons_zero]); rfl) (hj : ops[j]? = some oj := by (try simp only [List.getElem?_toArray, List.getElem?_cons_succ, List.getElem?_cons_zero]); rfl) (hm : ops[m]? = some om := by (try simp only [List.getElem?_toArray, List.getElem?_cons_succ, List.getElem?_cons_zero]); rfl)
    (hd : i ∉ ds := by decide) (hd2 : j ∉ ds := by decide) (hd3 : m ∉ ds := by decide)
    (hc : (readyT T.2 (lit p k n).toList == [i, j, m] && (lit p k n).toList.set i true == (lit p (k + 1) n).toList && (lit p k n).toList.set j true == (lit q (k + 1) n).toList && (lit p k n).toList.set m true == (lit r (k + 1) n).toList) = true := by kernel_rfl) : wpAnyLast P .any ops Q S ds (fuel + 1) (lit p k n) a w :=
  three_ (lit p (k + 1) n) (lit q (k + 1) n) (lit r (k + 1) n) hi hj hm rfl rfl rfl (three_of hT.out hc) hd hd2 hd3 h1 h2 h3
end
/-- Points of words: each the point, if the word is one's. -/
def PtsR (us : List ByteArray) (l : List Pt) : Prop := l.length = us.length ∧ ∀ (i : Nat) (p : Pt), ptOk p = true → us[i]?.map bts = some (ptW p) → l[i]? = some p
theorem PtsR.nil : PtsR [] [] := ⟨rfl, fun i p _ h => by simp at h⟩
theorem PtsR.snoc {us : List ByteArray} {l : List Pt} {u : ByteArray} {x : Pt} (h : PtsR us l) (hx : ∀ p : Pt, ptOk p = true → bts u = ptW p → x = p) : PtsR (us ++ [u]) (l ++ [x]) := by
  refine ⟨by simp [h.1], fun i p hp e => ?_⟩
  rcases Nat.lt_trichotomy i us.length with hi | hi | hi
  · rw [List.getElem?_append_left hi] at e
    rw [List.getElem?_append_left (by rw [h.1]; exact hi)]
    exact h.2 i p hp e
  · subst hi
    rw [List.getElem?_append_right (Nat.le_refl _)] at e
    rw [List.getElem?_append_right (by rw [h.1]; exact Nat.le_refl _), h.1]
    simp at e ⊢
    exact hx p hp e
  · rw [List.getElem?_eq_none (by simp; omega)] at e
    cases e
theorem PtsR.eq {us : List ByteArray} {l l' : List Pt} (h : PtsR us l) (hl : ∀ p ∈ l', ptOk p = true) (e : us.map bts = l'.map ptW) : l = l' := by
  have hlen : us.length = l'.length := by
    have := congrArg List.length e
    simpa using this
  apply List.ext_getElem?
  intro i
  by_cases hi : i < l'.length
  · rw [List.getElem?_eq_getElem hi]
    apply h.2 i _ (hl _ (List.getElem_mem hi))
    rw [← List.getElem?_map, e, List.getElem?_map, List.getElem?_eq_getElem hi]
    rfl
  · rw [List.getElem?_eq_none (by rw [h.1]; omega), List.getElem?_eq_none (by omega)]
/-- A shape of words. -/
def ShIn (ws : List ByteArray) (w : World) (e : Ending) (w' : World) : Prop := ∃ (K : Int) (A : Option Addr) (c : Nat) (l : List Pt), e = .returned (.agg #[.int .i64 K, .slice A l.length c]) ∧ RI kPt 58 w' w.heap.size w'.heap.size (.slice A l.length c) l ∧ Below w.heap.size w w' ∧ l.length + 1 = ws.length ∧ ∀ K' l', ShapeOk K' l' → ws.map bts = bts (kindW K') :: l'.map ptW → K = K' ∧ l = l'
def i_shapeRead_T1 : Bool × List (List Nat × List Nat) := (true, [([], []), ([], []), ([1], [1]), ([2], [2]), ([0, 3], [0, 3]), ([], []), ([4, 5], [4, 5]), ([], []), ([7, 6, 4, 0, 1, 2, 3, 4, 5, 6, 7], [6, 7])])
theorem i_shapeRead_t1 : rtab .any (opsOf Tryd.f40 1) = i_shapeRead_T1 := by kernel_rfl
def i_shapeRead_T5 : Bool × List (List Nat × List Nat) := (true, [([], []), ([0], [0]), ([], []), ([2], [2]), ([3], [3]), ([1, 4, 3], [1, 4]), ([0, 1, 2, 3, 4, 5], []), ([6, 5, 5, 0, 1, 2, 3, 4, 5], [5, 6])])
theorem i_shapeRead_t5 : rtab .any (opsOf Tryd.f40 5) = i_shapeRead_T5 := by kernel_rfl
set_option maxHeartbeats 8000000 in
theorem shapeRead_c (A0 : Option Addr) (d : Nat) (ws : List ByteArray) (w : World) (hC : Kd.string.C w A0 ws.length ws) (hd : ws.length ≤ d) (hpos : 0 < ws.length) (hn : ws.length ≤ 1048576) (hz : ∀ u ∈ ws, u.size ≤ 1048576) (T : TiedR w) :
    Calls Tryd.prog 40 #[.slice A0 ws.length d] w (ShIn ws w) := by
  have hD := Kd.C_drop hC (show 1 ≤ ws.length from hpos) hd
  have hcf := cut_from (P := Tryd.prog) 43 9 .i64 Tryd.underlying43 rfl Kd.string.sz rfl A0 ws.length d (1 : Int) (by omega) (by omega)
  have ek : ((1 : Int)).toNat = 1 := rfl
  rw [ek] at hcf
  generalize (if d = 1 then A0 else A0.map (·.add (1 * Kd.string.sz))) = A9 at hcf hD
  have hvz : ∀ u ∈ ws.drop 1, u.size ≤ 1048576 := fun u hu => hz u (List.mem_of_mem_drop hu)
  have hvl : (ws.drop 1).length = ws.length - 1 := List.length_drop
  obtain ⟨ad, rfl, u0⟩ := at_str hC 0 hpos
  rw [add_zero'] at u0
  have hws0 := Lib.hid (show ws.map bts = bts ws[0] :: (ws.drop 1).map bts by
    cases ws with
    | nil => simp at hpos
    | cons a b => rfl)
  generalize ws[0] = u at *
  generalize ws.drop 1 = vs at *
  obtain ⟨a, cc, hc4, g0, g1⟩ := T.td.nm
  have zad := World.block_lt_of_cell? _ _ u0
  have zg0 := World.block_lt_of_cell? _ _ g0
  go_enter Tryd.func40, Tryd.ntmps40
  have b0 := below_alloc (Below.refl w.heap.size w) (.cells #[.int .i64 0, .slice none 0 0] 30)
  have X0 : B2 (w.alloc (.cells #[.int .i64 0, .slice none 0 0] 30)) w.heap.size 30 (.int .i64 0) (.slice none 0 0) := B2.new w
  have h0 := pw_cell_below b0 g0
  have h1 := pw_cell_below b0 u0
  have HG := Lib.hid (fun i hi => pw_cell_below b0 (g1 i hi))
  have HCv := Lib.hid (Kd.C_below hD b0)
  have Tq := T.to b0
  have hsz := b0.size
  clear g0 g1 u0 hC hD hz T hc4
  go_upto_region 1 with (fail)
  have HB0 := Lib.hid b0
  have hltq : w.heap.size < (w.alloc (.cells #[.int .i64 0, .slice none 0 0] 30)).heap.size := by simp
  clear b0
  generalize w.alloc (.cells #[.int .i64 0, .slice none 0 0] 30) = wq at *
  go_cut [3] (fun q3 wc => ∃ (g b : Nat) (K : Int), q3 = .pointer (some ⟨g, 0, none⟩) ∧ Aside0 (KdR u K) ∧ Aside0 (B2 wc g 30 (.int .i64 K) (.slice (some ⟨b, 0, none⟩) 0 0)) ∧ Aside0 (kPt.R 58 wc wq.heap.size (fun _ => True) (.slice (some ⟨b, 0, none⟩) 0 0) []) ∧ Aside0 (Below wq.heap.size wq wc) ∧ wq.heap.size ≤ g)
  case first =>
      refine cgStart 9 [0, 1, 2, 3, 4, 5, 6, 7, 8] [8] [(⟨0, 0, none⟩, _), (ad, _)] i_shapeRead_t1 ⟨h0, h1, trivial⟩ (fun HT HDs => ?_)
      have hBs : Below wq.heap.size wq wq.drew := below_drew1 (Below.refl _ _)
      repeat ((with_reducible refine cgGate ?_); first | refine cgP HT ?_ | refine cgL HT ?_ | refine cgG HT ?_)
      refine cgThree [0, 1, 2, 3, 5, 4, 6, 7, 8] [0, 1, 2, 3, 7, 4, 5, 6, 8] HT ?b0_0 ?b0_1 ?b0_2
      case b0_0 =>
        refine cgCall_k Tryd.func64 (Index_c a cc u _ (fun i hi => pw_cell_below hBs (HG.out i hi))) ?_
        rintro e wz1 ⟨⟨K, rfl, HKd⟩, hbk1⟩
        have HD1 := HDs.to hbk1
        have HK1 := Lib.hid HKd
        clear HKd
        refine ⟨_, rfl, HD1, cgN ?_⟩
        have hB1 := hBs.trans (hbk1.mono hBs.size)
        refine cgTwo [0, 1, 2, 3, 4, 7, 5, 6, 8] HT ?b2_0 ?b2_1
        case b2_0 =>
          refine cgE_k (w1 := (wz1.alloc (.cells #[] 58))) (v := .slice (some ⟨wz1.heap.size, 0, none⟩) 0 0) (fun HD3 => ?_) (hrun := by first | (go_simp; done) | (go_simp; rfl)) (hS := HD1.to bl)
          have bn3 := below_alloc (Below.refl wz1.heap.size wz1) (.cells #[] 58)
          have hB3 := hB1.trans (bn3.mono hB1.size)
          have hO3 : kPt.R 58 (wz1.alloc (.cells #[] 58)) wq.heap.size (fun _ => True) (.slice (some ⟨wz1.heap.size, 0, none⟩) 0 0) [] := lit0 wz1 wq.heap.size hB1.size
          generalize (wz1.alloc (.cells #[] 58)) = wz3 at *
          generalize wz1.heap.size = gg3 at *
          repeat ((with_reducible refine cgGate ?_); first | refine cgP HT ?_ | refine cgL HT ?_ | refine cgG HT ?_)
          refine cgE (w1 := (wz3.alloc (.cells #[.int .i64 0, .slice none 0 0] 30))) (v := .pointer (some ⟨wz3.heap.size, 0, none⟩)) HT (fun HD4 => ?_) (hrun := by first | (go_simp; done) | (go_simp; rfl)) (hS := HD3.to bl)
          have bn4 := below_alloc (Below.refl wz3.heap.size wz3) (.cells #[.int .i64 0, .slice none 0 0] 30)
          have hB4 := hB3.trans (bn4.mono hB3.size)
          have hO4 := Kd.R_below hO3 bn4
          have fg4 : B2 (wz3.alloc (.cells #[.int .i64 0, .slice none 0 0] 30)) wz3.heap.size 30 (.int .i64 0) (.slice none 0 0) := B2.new wz3
          have hg4 : wq.heap.size ≤ wz3.heap.size := hB3.size
          generalize (wz3.alloc (.cells #[.int .i64 0, .slice none 0 0] 30)) = wz4 at *
          generalize wz3.heap.size = gg4 at *
          obtain ⟨f0, f1, f2, f3, f4⟩ := fg4.f
          refine cgLast HT ?_
          refine cgDone HT ?_
          have ho9 := Kd.R_set (Kd.R_set hO4 fg4 (by decide) 0 (.int .i64 K)) (fg4.set0 (.int .i64 K)) (by decide) 1 (.slice (some ⟨gg3, 0, none⟩) 0 0)
          have U9 := fg4.set (.int .i64 K) (.slice (some ⟨gg3, 0, none⟩) 0 0)
          have B9 : Below wq.heap.size wq ((wz4.setCell ⟨gg4, 0, none⟩ (.int .i64 K)).setCell ⟨gg4, 1, none⟩ (.slice (some ⟨gg3, 0, none⟩) 0 0)) := (hB4.setCell hg4 _).setCell hg4 _
          go_wp2
          go_meet
          case rel => exact ⟨_, _, K, rfl, ⟨HK1.out⟩, ⟨U9⟩, ⟨ho9⟩, ⟨B9⟩, hg4⟩
        case b2_1 =>
          refine cgE_k (w1 := (wz1.alloc (.cells #[.int .i64 0, .slice none 0 0] 30))) (v := .pointer (some ⟨wz1.heap.size, 0, none⟩)) (fun HD5 => ?_) (hrun := by first | (go_simp; done) | (go_simp; rfl)) (hS := HD1.to bl)
          have bn5 := below_alloc (Below.refl wz1.heap.size wz1) (.cells #[.int .i64 0, .slice none 0 0] 30)
          have hB5 := hB1.trans (bn5.mono hB1.size)
          have fg5 : B2 (wz1.alloc (.cells #[.int .i64 0, .slice none 0 0] 30)) wz1.heap.size 30 (.int .i64 0) (.slice none 0 0) := B2.new wz1
          have hg5 : wq.heap.size ≤ wz1.heap.size := hB1.size
          generalize (wz1.alloc (.cells #[.int .i64 0, .slice none 0 0] 30)) = wz5 at *
          generalize wz1.heap.size = gg5 at *
          refine cgE (w1 := (wz5.alloc (.cells #[] 58))) (v := .slice (some ⟨wz5.heap.size, 0, none⟩) 0 0) HT (fun HD6 => ?_) (hrun := by first | (go_simp; done) | (go_simp; rfl)) (hS := HD5.to bl)
          have bn6 := below_alloc (Below.refl wz5.heap.size wz5) (.cells #[] 58)
          have hB6 := hB5.trans (bn6.mono hB5.size)
          have fg6 := fg5.to bn6
          have hO6 : kPt.R 58 (wz5.alloc (.cells #[] 58)) wq.heap.size (fun _ => True) (.slice (some ⟨wz5.heap.size, 0, none⟩) 0 0) [] := lit0 wz5 wq.heap.size hB5.size
          generalize (wz5.alloc (.cells #[] 58)) = wz6 at *
          generalize wz5.heap.size = gg6 at *
          repeat ((with_reducible refine cgGate ?_); first | refine cgP HT ?_ | refine cgL HT ?_ | refine cgG HT ?_)
          obtain ⟨f0, f1, f2, f3, f4⟩ := fg6.f
          refine cgLast HT ?_
          refine cgDone HT ?_
          have ho9 := Kd.R_set (Kd.R_set hO6 fg6 (by decide) 0 (.int .i64 K)) (fg6.set0 (.int .i64 K)) (by decide) 1 (.slice (some ⟨gg6, 0, none⟩) 0 0)
          have U9 := fg6.set (.int .i64 K) (.slice (some ⟨gg6, 0, none⟩) 0 0)
          have B9 : Below wq.heap.size wq ((wz6.setCell ⟨gg5, 0, none⟩ (.int .i64 K)).setCell ⟨gg5, 1, none⟩ (.slice (some ⟨gg6, 0, none⟩) 0 0)) := (hB6.setCell hg5 _).setCell hg5 _
          go_wp2
          go_meet
          case rel => exact ⟨_, _, K, rfl, ⟨HK1.out⟩, ⟨U9⟩, ⟨ho9⟩, ⟨B9⟩, hg5⟩
      case b0_1 =>
        refine cgE_k (w1 := (wq.drew.alloc (.cells #[] 58))) (v := .slice (some ⟨wq.drew.heap.size, 0, none⟩) 0 0) (fun HD7 => ?_) (hrun := by first | (go_simp; done) | (go_simp; rfl)) (hS := HDs.to bl)
        have bn7 := below_alloc (Below.refl wq.drew.heap.size wq.drew) (.cells #[] 58)
        have hB7 := hBs.trans (bn7.mono hBs.size)
        have hO7 : kPt.R 58 (wq.drew.alloc (.cells #[] 58)) wq.heap.size (fun _ => True) (.slice (some ⟨wq.drew.heap.size, 0, none⟩) 0 0) [] := lit0 wq.drew wq.heap.size hBs.size
        generalize (wq.drew.alloc (.cells #[] 58)) = wz7 at *
        generalize wq.drew.heap.size = gg7 at *
        refine cgTwo [0, 1, 2, 3, 5, 7, 4, 6, 8] HT ?b8_0 ?b8_1
        case b8_0 =>
          refine cgCall_k Tryd.func64 (Index_c a cc u _ (fun i hi => pw_cell_below hB7 (HG.out i hi))) ?_
          rintro e wz9 ⟨⟨K, rfl, HKd⟩, hbk9⟩
          have HD9 := HD7.to hbk9
          have HK9 := Lib.hid HKd
          clear HKd
          refine ⟨_, rfl, HD9, cgN ?_⟩
          have hB9 := hB7.trans (hbk9.mono hB7.size)
          have hO9 := Kd.R_below hO7 hbk9
          repeat ((with_reducible refine cgGate ?_); first | refine cgP HT ?_ | refine cgL HT ?_ | refine cgG HT ?_)
          refine cgE (w1 := (wz9.alloc (.cells #[.int .i64 0, .slice none 0 0] 30))) (v := .pointer (some ⟨wz9.heap.size, 0, none⟩)) HT (fun HD10 => ?_) (hrun := by first | (go_simp; done) | (go_simp; rfl)) (hS := HD9.to bl)
          have bn10 := below_alloc (Below.refl wz9.heap.size wz9) (.cells #[.int .i64 0, .slice none 0 0] 30)
          have hB10 := hB9.trans (bn10.mono hB9.size)
          have hO10 := Kd.R_below hO9 bn10
          have fg10 : B2 (wz9.alloc (.cells #[.int .i64 0, .slice none 0 0] 30)) wz9.heap.size 30 (.int .i64 0) (.slice none 0 0) := B2.new wz9
          have hg10 : wq.heap.size ≤ wz9.heap.size := hB9.size
          generalize (wz9.alloc (.cells #[.int .i64 0, .slice none 0 0] 30)) = wz10 at *
          generalize wz9.heap.size = gg10 at *
          obtain ⟨f0, f1, f2, f3, f4⟩ := fg10.f
          refine cgLast HT ?_
          refine cgDone HT ?_
          have ho9 := Kd.R_set (Kd.R_set hO10 fg10 (by decide) 0 (.int .i64 K)) (fg10.set0 (.int .i64 K)) (by decide) 1 (.slice (some ⟨gg7, 0, none⟩) 0 0)
          have U9 := fg10.set (.int .i64 K) (.slice (some ⟨gg7, 0, none⟩) 0 0)
          have B9 : Below wq.heap.size wq ((wz10.setCell ⟨gg10, 0, none⟩ (.int .i64 K)).setCell ⟨gg10, 1, none⟩ (.slice (some ⟨gg7, 0, none⟩) 0 0)) := (hB10.setCell hg10 _).setCell hg10 _
          go_wp2
          go_meet
          case rel => exact ⟨_, _, K, rfl, ⟨HK9.out⟩, ⟨U9⟩, ⟨ho9⟩, ⟨B9⟩, hg10⟩
        case b8_1 =>
          refine cgE_k (w1 := (wz7.alloc (.cells #[.int .i64 0, .slice none 0 0] 30))) (v := .pointer (some ⟨wz7.heap.size, 0, none⟩)) (fun HD11 => ?_) (hrun := by first | (go_simp; done) | (go_simp; rfl)) (hS := HD7.to bl)
          have bn11 := below_alloc (Below.refl wz7.heap.size wz7) (.cells #[.int .i64 0, .slice none 0 0] 30)
          have hB11 := hB7.trans (bn11.mono hB7.size)
          have hO11 := Kd.R_below hO7 bn11
          have fg11 : B2 (wz7.alloc (.cells #[.int .i64 0, .slice none 0 0] 30)) wz7.heap.size 30 (.int .i64 0) (.slice none 0 0) := B2.new wz7
          have hg11 : wq.heap.size ≤ wz7.heap.size := hB7.size
          generalize (wz7.alloc (.cells #[.int .i64 0, .slice none 0 0] 30)) = wz11 at *
          generalize wz7.heap.size = gg11 at *
          refine cgCall HT Tryd.func64 (Index_c a cc u _ (fun i hi => pw_cell_below hB11 (HG.out i hi))) ?_
          rintro e wz12 ⟨⟨K, rfl, HKd⟩, hbk12⟩
          have HD12 := HD11.to hbk12
          have HK12 := Lib.hid HKd
          clear HKd
          refine ⟨_, rfl, HD12, cgN ?_⟩
          have hB12 := hB11.trans (hbk12.mono hB11.size)
          have hO12 := Kd.R_below hO11 hbk12
          have fg12 := fg11.to hbk12
          repeat ((with_reducible refine cgGate ?_); first | refine cgP HT ?_ | refine cgL HT ?_ | refine cgG HT ?_)
          obtain ⟨f0, f1, f2, f3, f4⟩ := fg12.f
          refine cgLast HT ?_
          refine cgDone HT ?_
          have ho9 := Kd.R_set (Kd.R_set hO12 fg12 (by decide) 0 (.int .i64 K)) (fg12.set0 (.int .i64 K)) (by decide) 1 (.slice (some ⟨gg7, 0, none⟩) 0 0)
          have U9 := fg12.set (.int .i64 K) (.slice (some ⟨gg7, 0, none⟩) 0 0)
          have B9 : Below wq.heap.size wq ((wz12.setCell ⟨gg11, 0, none⟩ (.int .i64 K)).setCell ⟨gg11, 1, none⟩ (.slice (some ⟨gg7, 0, none⟩) 0 0)) := (hB12.setCell hg11 _).setCell hg11 _
          go_wp2
          go_meet
          case rel => exact ⟨_, _, K, rfl, ⟨HK12.out⟩, ⟨U9⟩, ⟨ho9⟩, ⟨B9⟩, hg11⟩
      case b0_2 =>
        refine cgE_k (w1 := (wq.drew.alloc (.cells #[.int .i64 0, .slice none 0 0] 30))) (v := .pointer (some ⟨wq.drew.heap.size, 0, none⟩)) (fun HD13 => ?_) (hrun := by first | (go_simp; done) | (go_simp; rfl)) (hS := HDs.to bl)
        have bn13 := below_alloc (Below.refl wq.drew.heap.size wq.drew) (.cells #[.int .i64 0, .slice none 0 0] 30)
        have hB13 := hBs.trans (bn13.mono hBs.size)
        have fg13 : B2 (wq.drew.alloc (.cells #[.int .i64 0, .slice none 0 0] 30)) wq.drew.heap.size 30 (.int .i64 0) (.slice none 0 0) := B2.new wq.drew
        have hg13 : wq.heap.size ≤ wq.drew.heap.size := hBs.size
        generalize (wq.drew.alloc (.cells #[.int .i64 0, .slice none 0 0] 30)) = wz13 at *
        generalize wq.drew.heap.size = gg13 at *
        refine cgTwo [0, 1, 2, 3, 7, 5, 4, 6, 8] HT ?b14_0 ?b14_1
        case b14_0 =>
          refine cgCall_k Tryd.func64 (Index_c a cc u _ (fun i hi => pw_cell_below hB13 (HG.out i hi))) ?_
          rintro e wz15 ⟨⟨K, rfl, HKd⟩, hbk15⟩
          have HD15 := HD13.to hbk15
          have HK15 := Lib.hid HKd
          clear HKd
          refine ⟨_, rfl, HD15, cgN ?_⟩
          have hB15 := hB13.trans (hbk15.mono hB13.size)
          have fg15 := fg13.to hbk15
          refine cgE (w1 := (wz15.alloc (.cells #[] 58))) (v := .slice (some ⟨wz15.heap.size, 0, none⟩) 0 0) HT (fun HD16 => ?_) (hrun := by first | (go_simp; done) | (go_simp; rfl)) (hS := HD15.to bl)
          have bn16 := below_alloc (Below.refl wz15.heap.size wz15) (.cells #[] 58)
          have hB16 := hB15.trans (bn16.mono hB15.size)
          have fg16 := fg15.to bn16
          have hO16 : kPt.R 58 (wz15.alloc (.cells #[] 58)) wq.heap.size (fun _ => True) (.slice (some ⟨wz15.heap.size, 0, none⟩) 0 0) [] := lit0 wz15 wq.heap.size hB15.size
          generalize (wz15.alloc (.cells #[] 58)) = wz16 at *
          generalize wz15.heap.size = gg16 at *
          repeat ((with_reducible refine cgGate ?_); first | refine cgP HT ?_ | refine cgL HT ?_ | refine cgG HT ?_)
          obtain ⟨f0, f1, f2, f3, f4⟩ := fg16.f
          refine cgLast HT ?_
          refine cgDone HT ?_
          have ho9 := Kd.R_set (Kd.R_set hO16 fg16 (by decide) 0 (.int .i64 K)) (fg16.set0 (.int .i64 K)) (by decide) 1 (.slice (some ⟨gg16, 0, none⟩) 0 0)
          have U9 := fg16.set (.int .i64 K) (.slice (some ⟨gg16, 0, none⟩) 0 0)
          have B9 : Below wq.heap.size wq ((wz16.setCell ⟨gg13, 0, none⟩ (.int .i64 K)).setCell ⟨gg13, 1, none⟩ (.slice (some ⟨gg16, 0, none⟩) 0 0)) := (hB16.setCell hg13 _).setCell hg13 _
          go_wp2
          go_meet
          case rel => exact ⟨_, _, K, rfl, ⟨HK15.out⟩, ⟨U9⟩, ⟨ho9⟩, ⟨B9⟩, hg13⟩
        case b14_1 =>
          refine cgE_k (w1 := (wz13.alloc (.cells #[] 58))) (v := .slice (some ⟨wz13.heap.size, 0, none⟩) 0 0) (fun HD17 => ?_) (hrun := by first | (go_simp; done) | (go_simp; rfl)) (hS := HD13.to bl)
          have bn17 := below_alloc (Below.refl wz13.heap.size wz13) (.cells #[] 58)
          have hB17 := hB13.trans (bn17.mono hB13.size)
          have fg17 := fg13.to bn17
          have hO17 : kPt.R 58 (wz13.alloc (.cells #[] 58)) wq.heap.size (fun _ => True) (.slice (some ⟨wz13.heap.size, 0, none⟩) 0 0) [] := lit0 wz13 wq.heap.size hB13.size
          generalize (wz13.alloc (.cells #[] 58)) = wz17 at *
          generalize wz13.heap.size = gg17 at *
          refine cgCall HT Tryd.func64 (Index_c a cc u _ (fun i hi => pw_cell_below hB17 (HG.out i hi))) ?_
          rintro e wz18 ⟨⟨K, rfl, HKd⟩, hbk18⟩
          have HD18 := HD17.to hbk18
          have HK18 := Lib.hid HKd
          clear HKd
          refine ⟨_, rfl, HD18, cgN ?_⟩
          have hB18 := hB17.trans (hbk18.mono hB17.size)
          have hO18 := Kd.R_below hO17 hbk18
          have fg18 := fg17.to hbk18
          repeat ((with_reducible refine cgGate ?_); first | refine cgP HT ?_ | refine cgL HT ?_ | refine cgG HT ?_)
          obtain ⟨f0, f1, f2, f3, f4⟩ := fg18.f
          refine cgLast HT ?_
          refine cgDone HT ?_
          have ho9 := Kd.R_set (Kd.R_set hO18 fg18 (by decide) 0 (.int .i64 K)) (fg18.set0 (.int .i64 K)) (by decide) 1 (.slice (some ⟨gg17, 0, none⟩) 0 0)
          have U9 := fg18.set (.int .i64 K) (.slice (some ⟨gg17, 0, none⟩) 0 0)
          have B9 : Below wq.heap.size wq ((wz18.setCell ⟨gg13, 0, none⟩ (.int .i64 K)).setCell ⟨gg13, 1, none⟩ (.slice (some ⟨gg17, 0, none⟩) 0 0)) := (hB18.setCell hg13 _).setCell hg13 _
          go_wp2
          go_meet
          case rel => exact ⟨_, _, K, rfl, ⟨HK18.out⟩, ⟨U9⟩, ⟨ho9⟩, ⟨B9⟩, hg13⟩
  case rest =>
      obtain ⟨g, b, K, rfl, ⟨HK⟩, ⟨X1⟩, ⟨hO⟩, ⟨B1⟩, hg⟩ := hcut
      have X0c := X0.to B1
      have hne : (w.heap.size == g) = false := by rw [beq_eq_false_iff_ne]; omega
      have hne2 : (g == w.heap.size) = false := by rw [beq_eq_false_iff_ne]; omega
      clear h0 h1 X0 HG
      go_wp2
      go_loopw [16] (fun q16 wr => ∃ (i : Nat) (l : List Pt) (A : Option Addr) (c : Nat), l.length = i ∧ i ≤ vs.length ∧ q16 = .int .i64 i ∧ Aside0 (B2 wr g 30 (.int .i64 K) (.slice A l.length c)) ∧ Aside0 (B2 wr w.heap.size 30 (.int .i64 0) (.slice none 0 0)) ∧ Aside0 (kPt.R 58 wr wq.heap.size (fun _ => True) (.slice A l.length c) l) ∧ Aside0 (Below wq.heap.size wq wr) ∧ Aside0 (PtsR (vs.take i) l)) (fun q16 _ => vs.length - (intOf q16).toNat)
      case atStart => exact ⟨0, [], _, 0, rfl, by omega, rfl, ⟨X1⟩, ⟨X0c⟩, ⟨hO⟩, ⟨B1⟩, ⟨PtsR.nil⟩⟩
      case round =>
        clear X1 X0c hO B1
        obtain ⟨i, l, A, c, hli, hiw, rfl, ⟨HX⟩, ⟨HT_⟩, ⟨hR⟩, ⟨hbr⟩, ⟨hm⟩⟩ := hrel
        have hbz := hbr.size
        obtain ⟨y0, y1, y2, y3, y4⟩ := HX.f
        by_cases hlt : i < vs.length
        · have d1 : decide ((i : Int) < ((ws.length - 1 : Nat) : Int)) = true := decide_eq_true (by omega)
          have hw : IntKind.i64.wrap ((i : Int) + 1) = (i : Int) + 1 := IntWalk.i64_in _ (by omega)
          obtain ⟨ad2, e2, ui⟩ := at_str HCv.out i hlt
          subst e2
          replace ui := pw_cell_below hbr ui
          have hz := hvz _ (List.getElem_mem hlt)
          have Htk := Lib.hid (show vs.take (i + 1) = vs.take i ++ [vs[i]] from List.take_succ_eq_append_getElem hlt)
          generalize vs[i] = v at *
          have l8 : l.length ≤ 1048577 := by omega
          have Hm := Lib.hid hm
          have Hli := Lib.hid hli
          clear hm hli
          go_upto_region 5 with (fail)
          refine cgStart 8 [0, 1, 2, 3, 4, 5, 6, 7] [7] [(⟨g, 1, none⟩, _)] i_shapeRead_t5 ⟨y1, trivial⟩ (fun HT HDs => ?_)
          repeat ((with_reducible refine cgGate ?_); first | refine cgP HT ?_ | refine cgL HT ?_ | refine cgG HT ?_)
          refine cgCall HT Tryd.func65 (ptRead_c v _ hz (Tq.to ((bl : Below wr.heap.size wr wr.drew) |> fun h => hbr.trans (h.mono hbz)))) ?_
          rintro e w5 ⟨x, y, rfl, hpt, hb5⟩
          have b5 : Below wr.heap.size wr w5 := bl
          have HD5 := HDs.to hb5
          refine ⟨_, rfl, HD5, cgN ?_⟩
          repeat ((with_reducible refine cgGate ?_); first | refine cgP HT ?_ | refine cgL HT ?_ | refine cgG HT ?_)
          have HX5 := HX.to b5
          have HT5 := HT_.to b5
          have hR5 := Kd.R_below hR b5
          have B15 := hbr.trans (b5.mono hbz)
          refine cgE (w1 := w5.alloc (.cells #[.int .i64 x, .int .i64 y] 58)) (v := .slice (some ⟨w5.heap.size, 0, none⟩) 1 1) HT (fun HD6 => ?_) (hrun := by first | (go_simp; done) | (go_simp; rfl)) (hS := HD5.to bl)
          have a6 := below_alloc (Below.refl w5.heap.size w5) (.cells #[.int .i64 x, .int .i64 y] 58)
          have HX6 := HX5.to a6
          have HT6 := HT5.to a6
          have hR6 := Kd.R_below hR5 a6
          have B16 := B15.trans (a6.mono B15.size)
          have l6 : kPt.C (w5.alloc (.cells #[.int .i64 x, .int .i64 y] 58)) (some ⟨w5.heap.size, 0, none⟩) 1 [(x, y)] := (RI.of (litR1 w5 (x, y))).rd.2.2
          generalize w5.alloc (.cells #[.int .i64 x, .int .i64 y] 58) = w6 at *
          refine cgApp (w0 := wq) (base := wq.heap.size) (.tmp 21) (.tmp 24) _ l [(x, y)] (some ⟨w5.heap.size, 0, none⟩) 1 1 HT HD6 hR6 l6 B16 B16.size (by omega) (fun z hz_ e_ => by have := Kd.R_ne hR6 HX6 (by decide); simp only [List.mem_cons, List.mem_nil_iff, or_false] at hz_; rcases hz_ with rfl; exact this e_) ?_
          intro A7 c7 w7 ho7 hb7 HD7 hg7
          have hll : (l ++ [((x, y) : Pt)]).length = l.length + 1 := List.length_append
          rw [hll] at ho7 ⊢
          have Hll := Lib.hid hll
          clear hll
          refine cgN ?_
          repeat ((with_reducible refine cgGate ?_); first | refine cgP HT ?_ | refine cgL HT ?_ | refine cgG HT ?_)
          have HX7 := HX6.grown hg7 (Kd.R_ne hR6 HX6 (by decide))
          have HT7 := HT6.grown hg7 (Kd.R_ne hR6 HT6 (by decide))
          clear y0 y1 y2 y3 y4
          obtain ⟨y0, y1, y2, y3, y4⟩ := HX7.f
          refine cgLast HT ?_
          refine cgDone HT ?_
          have HU := HX7.set1 (.slice A7 (l.length + 1) c7)
          have ho8 := Kd.R_set ho7 HX7 (by decide) 1 (.slice A7 (l.length + 1) c7)
          have HT8 : B2 (w7.setCell ⟨g, 1, none⟩ (.slice A7 (l.length + 1) c7)) w.heap.size 30 (.int .i64 0) (.slice none 0 0) := HT7.far hne
          have B8 := hb7.setCell (p := ⟨g, 1, none⟩) hg (.slice A7 (l.length + 1) c7)
          have HP := Lib.hid (show PtsR (vs.take (i + 1)) (l ++ [(x, y)]) by rw [Htk.out]; exact Hm.out.snoc hpt)
          clear hpt
          generalize w7.setCell ⟨g, 1, none⟩ (.slice A7 (l.length + 1) c7) = w8 at *
          clear y0 y1 y2 y3 y4
          go_wp2
          exact ⟨⟨i + 1, l ++ [(x, y)], A7, c7, by rw [Hll.out, Hli.out], by omega, by go_num, ⟨by rw [Hll.out]; exact HU⟩, ⟨HT8⟩, ⟨by rw [Hll.out]; exact ho8⟩, ⟨B8⟩, ⟨HP.out⟩⟩, by simp [intOf]; omega⟩
        · have d1 : decide ((i : Int) < ((ws.length - 1 : Nat) : Int)) = false := decide_eq_false (by omega)
          rw [List.take_of_length_le (by omega)] at hm
          have Hm := Lib.hid hm
          have Hli := Lib.hid hli
          clear hm hli
          obtain ⟨x0, x1, x2, x3, x4⟩ := HT_.f
          have hU := HT_.set (.int .i64 K) (.slice A l.length c)
          have hRf := Kd.R_set (Kd.R_set hR HT_ (by decide) 0 (.int .i64 K)) (HT_.set0 (.int .i64 K)) (by decide) 1 (.slice A l.length c)
          have Bf : Below w.heap.size w ((wr.setCell ⟨w.heap.size, 0, none⟩ (.int .i64 K)).setCell ⟨w.heap.size, 1, none⟩ (.slice A l.length c)) := ((HB0.out.trans (hbr.mono (Nat.le_of_lt hltq))).setCell (Nat.le_refl _) _).setCell (Nat.le_refl _) _
          obtain ⟨z0, z1, z2, z3, z4⟩ := hU.f
          go_upto_region 7 with (fail)
          go_wp2
          refine bodyPost_ret (v := .agg #[.int .i64 K, .slice A l.length c]) (by simp [results, Tryd.results40, go_sem, *]) rfl ⟨K, A, c, l, rfl, (RI.of hRf).wide (Nat.le_of_lt hltq) (Nat.le_refl _), Bf, by have := Hli.out; omega, fun K' l' hok e => by
            rw [hws0.out] at e
            simp only [List.cons.injEq] at e
            exact ⟨HK K' hok.kind e.1, Hm.out.eq hok.1.all e.2⟩⟩
end Go.Proofs.YtfbhjknkofnohaaDoor
