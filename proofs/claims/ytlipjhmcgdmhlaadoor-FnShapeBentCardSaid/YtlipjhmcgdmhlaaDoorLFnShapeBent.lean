/- Law: a drawn shape that is ok is not with a point too far off, its last point twice, a kind that is none, as a ring that ends where it began. -/
import Derived.Test.YtlipjhmcgdmhlaaDoorPb
import Derived.Test.YtlipjhmcgdmhlaaDoorDu
namespace Go.Proofs.YtlipjhmcgdmhlaaDoor
open Go.RowKit Go.Proofs.YtlipjhmcgdmhlaaDoorW.PrintWords Go.Proofs.YtlipjhmcgdmhlaaDoorW.PrintLast
set_option maxRecDepth 100000
set_option linter.unusedVariables false
set_option linter.unusedSimpArgs false
attribute [local go_sem] cell_set_far cell_set_off
section
variable {P : Program} {ops : Array Oper} {Q : Exit → Act → World → Prop} {S : World → Prop} {T : Bool × List (List Nat × List Nat)} {i j m k n fuel : Nat} {p ds : List Nat} {oi oj om : Oper} {a : Act} {w : World}
/-- Three operations may come up. -/
theorem cgThree (q r : List Nat) (hT : Aside0 (rtab .any ops = T)) (h1 : CgK P ops Q S ds fuel (lit p (k + 1) n) oi a w) (h2 : CgK P ops Q S ds fuel (lit q (k + 1) n) oj a w) (h3 : CgK P ops Q S ds fuel (lit r (k + 1) n) om a w)
    (hk : p[k]? = some i := by (try simp only [List.getElem?_cons_succ, List.getElem?_cons_zero]); rfl) (hk2 : q[k]? = some j := by (try simp only [List.getElem?_cons_succ, List.getElem?_cons_zero]); rfl) (hk3 : r[k]? = some m := by (try simp only [List.getElem?_cons_succ, List.getElem?_cons_zero]); rfl) (hi : ops[i]? = some oi := by (try simp only [List.getElem?_toArray, List.getElem?_cons_succ, List.getElem?_cons_zero]); rfl) (hj : ops[j]? = some oj := by (try simp only [List.getElem?_toArray, List.getElem?_cons_succ, List.getElem?_cons_zero]); rfl) (hm : ops[m]? = some om := by (try simp only [List.getElem?_toArray, List.getElem?_cons_succ, List.getElem?_cons_zero]); rfl)
    (hd : i ∉ ds := by decide) (hd2 : j ∉ ds := by decide) (hd3 : m ∉ ds := by decide)
    (hc : (readyT T.2 (lit p k n).toList == [i, j, m] && (lit p k n).toList.set i true == (lit p (k + 1) n).toList && (lit p k n).toList.set j true == (lit q (k + 1) n).toList && (lit p k n).toList.set m true == (lit r (k + 1) n).toList) = true := by kernel_rfl) : wpAnyLast P .any ops Q S ds (fuel + 1) (lit p k n) a w :=
  three_ (lit p (k + 1) n) (lit q (k + 1) n) (lit r (k + 1) n) hi hj hm rfl rfl rfl (three_of hT.out hc) hd hd2 hd3 h1 h2 h3
end
theorem RI_grown {α : Type} {d : Kd α} {e : Nat} {w w1 : World} {a b : Nat} {v : Value} {xs : List α} {row : Option Nat} (h : RI d e w a b v xs) (hg : w.grownBy w1 row) (hd : ∀ g, row = some g → g < a ∨ b ≤ g) : RI d e w1 a b v xs :=
  Kd.R_mono (Kd.R_grown (Kd.R_bound h) hg (fun k hk e => by have h1 := hk.1; have h2 := hk.2.1; have := hd k e.symm; omega)) (fun _ hk => hk.1)
theorem iShapeText_no (K : Int) (A : Option Addr) (c : Nat) (l : List Pt) (w : World) (hl : kPt.C w A l.length l) (hn : l.length ≤ 1048576) (hno : shapeOk K l = false) :
    Calls Tryd.prog 9 #[.agg #[.int .i64 K, .slice A l.length c]] w fun e w' => e = .returned (.string ⟨#[]⟩) ∧ Below w.heap.size w w' := by
  have hO := fun w h => iShapeOk_c K A c l w h hn
  rw [hno] at hO
  have HO := Lib.hid hO
  clear hO
  go_enter Tryd.func9, Tryd.ntmps9
  go_wp2_with fail
  refine (HO.out _ (Kd.C_below hl bl)).mono ?_
  rintro e w1 ⟨rfl, hb1⟩
  go_wp2
  go_ret
  exact ⟨rfl, bl⟩
theorem bent_lastI {K : Int} {l : List Pt} {i : Nat} (h : i + 1 = l.length) (hl : i < l.length) : shapeOk K (l ++ [l[i]'hl]) = false := by
  have h2 := bent_last (K := K) (l := l) (by omega)
  have e : i = l.length - 1 := by omega
  subst e
  exact h2
def l_FnShapeBent_T4 : Bool × List (List Nat × List Nat) := (true, [([], []), ([0], [0]), ([], []), ([2, 1], [2]), ([1, 3], [1, 3]), ([4, 3], [4]), ([5], [5]), ([6, 5, 5], [5, 6]), ([7, 5], [5, 7]), ([5, 8], [5, 8])])
theorem l_FnShapeBent_t4 : rtab .any (opsOf Tryd.f3 4) = l_FnShapeBent_T4 := by kernel_rfl
def l_FnShapeBent_T5 : Bool × List (List Nat × List Nat) := (true, [([], []), ([0], [0]), ([], []), ([2, 1], [2]), ([1, 3], [1, 3]), ([4, 3], [4]), ([5], [5]), ([6, 5, 5], [5, 6]), ([7, 7, 5], [5, 7]), ([8], [8]), ([9, 8, 8], [8, 9]), ([10, 8], [8, 10]), ([8, 11, 5], [5, 8, 11]), ([5, 12], [5, 12]), ([13, 10, 0, 1, 2, 3, 4, 5, 6, 7, 8, 9, 10, 11, 12, 13], [13])])
theorem l_FnShapeBent_t5 : rtab .any (opsOf Tryd.f3 5) = l_FnShapeBent_T5 := by kernel_rfl
def l_FnShapeBent_T7 : Bool × List (List Nat × List Nat) := (true, [([], []), ([0], [0]), ([], []), ([], []), ([3], [3]), ([2, 4], [2, 4]), ([1, 5], [1, 5]), ([], []), ([7, 6, 5, 0, 1, 2, 3, 4, 5, 6, 7], [6, 7])])
theorem l_FnShapeBent_t7 : rtab .any (opsOf Tryd.f3 7) = l_FnShapeBent_T7 := by kernel_rfl
def l_FnShapeBent_T9 : Bool × List (List Nat × List Nat) := (true, [([], []), ([0], [0]), ([], []), ([], []), ([3], [3]), ([2, 4], [2, 4]), ([], []), ([6], [6]), ([], []), ([7, 8], [7, 8]), ([9], [9]), ([10], [10]), ([5, 11, 5], [5, 11]), ([1, 12], [1, 12]), ([], []), ([14, 13, 12, 0, 1, 2, 3, 4, 5, 6, 7, 8, 9, 10, 11, 12, 13, 14], [13, 14])])
theorem l_FnShapeBent_t9 : rtab .any (opsOf Tryd.f3 9) = l_FnShapeBent_T9 := by kernel_rfl
def l_FnShapeBent_T11 : Bool × List (List Nat × List Nat) := (true, [([], []), ([], []), ([1], [1]), ([0, 2], [0, 2]), ([], []), ([4], [4]), ([5], [5]), ([6], [6]), ([7], [7]), ([3, 8, 3], [3, 8]), ([9], [9]), ([], []), ([11, 10, 9, 0, 1, 2, 3, 4, 5, 6, 7, 8, 9, 10, 11], [10, 11])])
theorem l_FnShapeBent_t11 : rtab .any (opsOf Tryd.f3 11) = l_FnShapeBent_T11 := by kernel_rfl
set_option maxHeartbeats 80000000 in
theorem FnShapeBent_c (A : Option Addr) (c : Nat) (l : List Int) (w : World) (hl : (Kd.int .u8).C w A l.length l) (hn : (l.length : Int) ≤ 140737488351232) (hb : ∀ x ∈ l, 0 ≤ x ∧ x ≤ 255) (hc : l.length ≤ c) :
    Calls Tryd.prog 3 #[.slice A l.length c] w fun e w' => e = .returned (.bool true) ∧ Below w.heap.size w w' := by
  by_cases hs : (l.length : Int) ≤ 1048576
  · have hd : decide ((1048576 : Int) < (l.length : Int)) = false := decide_eq_false (by omega)
    go_enter Tryd.func3, Tryd.ntmps3
    go_wp2_with fail
    refine (DrawShapeOk_d A c l _ (Kd.C_below hl bl) hb hc (by omega)).mono ?_
    rintro e w1 ⟨K, A1, c1, p, rfl, hr1, hp16, hK0, hK4, hb1⟩
    have HC : Cells (w1.alloc (.cells #[.int .i64 K, .slice A1 p.length c1] 25)) _ := (Cells.nil w1).box (Below.refl _ _)
    obtain ⟨h0, h1, _⟩ := HC.all
    have np : p.length ≤ 1048576 := by omega
    have hI := fun w h => iShapeOk_c K A1 c1 p w h np
    have hR := fun w h => sShapeOk_c K A1 c1 p w h np
    cases hok : shapeOk K p with
    | false =>
      have hT := fun w h => iShapeText_no K A1 c1 p w h np hok
      rw [hok] at hI hR
      have HI := Lib.hid hI
      have HR := Lib.hid hR
      have HX := Lib.hid hT
      clear hI hR hT hok
      go_wp2
      refine rgStart 10 [0, 2, 1, 3, 4, 5, 6, 7, 8, 9] l_FnShapeBent_t4 (fun HT HS => ?_)
      repeat ((with_reducible refine rgGate ?_); first | refine rgP HT ?_ | refine rgL HT ?_ | refine rgG HT ?_)
      refine rgCall HT Tryd.func7 (HI.out _ (Kd.C_below hr1.rd.2.2 bl)) ?_
      rintro e q1 ⟨rfl, hq1⟩
      refine ⟨_, rfl, bl, rgN ?_⟩
      repeat ((with_reducible refine rgGate ?_); first | refine rgP HT ?_ | refine rgL HT ?_ | refine rgG HT ?_)
      refine rgCall HT Tryd.func8 (HR.out _ (Kd.C_below hr1.rd.2.2 bl)) ?_
      rintro e q2 ⟨rfl, hq2⟩
      refine ⟨_, rfl, bl, rgN ?_⟩
      repeat ((with_reducible refine rgGate ?_); first | refine rgP HT ?_ | refine rgL HT ?_ | refine rgG HT ?_)
      refine rgCall HT Tryd.func8 (HR.out _ (Kd.C_below hr1.rd.2.2 bl)) ?_
      rintro e q3 ⟨rfl, hq3⟩
      refine ⟨_, rfl, bl, rgN ?_⟩
      repeat ((with_reducible refine rgGate ?_); first | refine rgP HT ?_ | refine rgL HT ?_ | refine rgG HT ?_)
      refine rgDone HT ?_
      clear HT HS
      replace HC := HC.to (bl : Below (w1.alloc (.cells #[.int .i64 K, .slice A1 p.length c1] 25)).heap.size (w1.alloc (.cells #[.int .i64 K, .slice A1 p.length c1] 25)) q3)
      clear h0 h1
      obtain ⟨h0, h1, _⟩ := HC.all
      go_wp2
      refine rgStart 15 [0, 2, 1, 3, 4, 5, 6, 7, 8, 9, 10, 11, 12, 13, 14] l_FnShapeBent_t5 (fun HT HS => ?_)
      repeat ((with_reducible refine rgGate ?_); first | refine rgP HT ?_ | refine rgL HT ?_ | refine rgG HT ?_)
      refine rgCall HT Tryd.func7 (HI.out _ (Kd.C_below hr1.rd.2.2 bl)) ?_
      rintro e q4 ⟨rfl, hq4⟩
      refine ⟨_, rfl, bl, rgN ?_⟩
      repeat ((with_reducible refine rgGate ?_); first | refine rgP HT ?_ | refine rgL HT ?_ | refine rgG HT ?_)
      refine rgCall HT Tryd.func8 (HR.out _ (Kd.C_below hr1.rd.2.2 bl)) ?_
      rintro e q5 ⟨rfl, hq5⟩
      refine ⟨_, rfl, bl, rgN ?_⟩
      repeat ((with_reducible refine rgGate ?_); first | refine rgP HT ?_ | refine rgL HT ?_ | refine rgG HT ?_)
      refine rgCall HT Tryd.func8 (HR.out _ (Kd.C_below hr1.rd.2.2 bl)) ?_
      rintro e q6 ⟨rfl, hq6⟩
      refine ⟨_, rfl, bl, rgN ?_⟩
      repeat ((with_reducible refine rgGate ?_); first | refine rgP HT ?_ | refine rgL HT ?_ | refine rgG HT ?_)
      refine rgCall HT Tryd.func9 (HX.out _ (Kd.C_below hr1.rd.2.2 bl)) ?_
      rintro e q7 ⟨rfl, hq7⟩
      refine ⟨_, rfl, bl, rgN ?_⟩
      repeat ((with_reducible refine rgGate ?_); first | refine rgP HT ?_ | refine rgL HT ?_ | refine rgG HT ?_)
      refine rgDone HT ?_
      clear HT HS
      go_wp2
      go_ret
      exact ⟨rfl, bl⟩
    | true =>
      rw [hok] at hI hR
      have HI := Lib.hid hI
      have HR := Lib.hid hR
      have Hok := Lib.hid (shapeOk_t.1 hok)
      clear hI hR hok
      go_wp2
      refine rgStart 10 [0, 2, 1, 3, 4, 5, 6, 7, 8, 9] l_FnShapeBent_t4 (fun HT HS => ?_)
      repeat ((with_reducible refine rgGate ?_); first | refine rgP HT ?_ | refine rgL HT ?_ | refine rgG HT ?_)
      refine rgCall HT Tryd.func7 (HI.out _ (Kd.C_below hr1.rd.2.2 bl)) ?_
      rintro e q1 ⟨rfl, hq1⟩
      refine ⟨_, rfl, bl, rgN ?_⟩
      repeat ((with_reducible refine rgGate ?_); first | refine rgP HT ?_ | refine rgL HT ?_ | refine rgG HT ?_)
      refine rgCall HT Tryd.func8 (HR.out _ (Kd.C_below hr1.rd.2.2 bl)) ?_
      rintro e q2 ⟨rfl, hq2⟩
      refine ⟨_, rfl, bl, rgN ?_⟩
      repeat ((with_reducible refine rgGate ?_); first | refine rgP HT ?_ | refine rgL HT ?_ | refine rgG HT ?_)
      refine rgCall HT Tryd.func8 (HR.out _ (Kd.C_below hr1.rd.2.2 bl)) ?_
      rintro e q ⟨rfl, hq3⟩
      refine ⟨_, rfl, bl, rgN ?_⟩
      repeat ((with_reducible refine rgGate ?_); first | refine rgP HT ?_ | refine rgL HT ?_ | refine rgG HT ?_)
      refine rgDone HT ?_
      clear HT HS
      have hBw : Below (w1.alloc (.cells #[.int .i64 K, .slice A1 p.length c1] 25)).heap.size (w1.alloc (.cells #[.int .i64 K, .slice A1 p.length c1] 25)) q := bl
      replace HC := HC.to hBw
      clear h0 h1
      obtain ⟨h0, h1, _⟩ := HC.all
      have Bq : Below w.heap.size w q := by have b1 : Below w.heap.size w (w1.alloc (.cells #[.int .i64 K, .slice A1 p.length c1] 25)) := bl; exact b1.trans (hBw.mono b1.size)
      have hC_ : kPt.C q A1 p.length p := Kd.C_below (Kd.C_below hr1.rd.2.2 (below_alloc (Below.refl _ _) _)) hBw
      have hpos : 0 < p.length := by rcases Hok.out.2 with h | h | h <;> omega
      have hp6 : p.length ≤ 6 := Hok.out.le
      obtain ⟨i, hi⟩ : ∃ i, i + 1 = p.length := ⟨p.length - 1, by omega⟩
      have hil : i < p.length := by omega
      have hwi : IntKind.i64.wrap ((p.length : Int) - 1) = (i : Int) := by rw [IntWalk.i64_in _ (by omega)]; omega
      have EP := Lib.hid (show ([] ++ p).length = p.length from rfl)
      have z1 : w1.heap.size < q.heap.size := World.block_lt_of_cell? _ _ h0
      have bx := bent_x (K := K) hil
      have bla := bent_lastI (K := K) hi hil
      have bki := bent_kind p
      have bri := bent_ring hpos
      have BX := Lib.hid bx
      have BL := Lib.hid bla
      have BK := Lib.hid bki
      have BR := Lib.hid bri
      clear bx bla bki bri hq1 hq2 hq3 hr1 hb1 hBw
      go_upto_region 7 with (fail)
      go_cut [5] (fun q5 wc => ∃ (g : Nat) (A7 : Option Addr) (c7 : Nat), q5 = .pointer (some ⟨g, 0, none⟩) ∧ Aside0 (kPt.R 30 wc q.heap.size (fun _ => True) (.slice A7 p.length c7) p) ∧ Aside0 (B2 wc g 25 (.int .i64 K) (.slice A7 p.length c7)) ∧ Aside0 (Below q.heap.size q wc) ∧ q.heap.size ≤ g)
      case first =>
        refine cgStart 9 [0, 1, 3, 4, 2, 5, 6, 7, 8] [8] [(⟨w1.heap.size, 0, none⟩, _), (⟨w1.heap.size, 1, none⟩, _)] l_FnShapeBent_t7 ⟨h0, h1, trivial⟩ (fun HT HDs => ?_)
        have hBs : Below q.heap.size q q.drew := below_drew1 (Below.refl _ _)
        repeat ((with_reducible refine cgGate ?_); first | refine cgP HT ?_ | refine cgL HT ?_ | refine cgG HT ?_)
        refine cgTwo [0, 1, 3, 4, 7, 2, 5, 6, 8] HT ?b0_0 ?b0_1
        case b0_0 =>
          refine cgE_k (w1 := (q.drew.alloc (.cells #[] 30))) (v := .slice (some ⟨q.drew.heap.size, 0, none⟩) 0 0) (fun HD1 => ?_) (hrun := by first | (go_simp; done) | (go_simp; rfl)) (hS := HDs.to bl)
          have bn1 := below_alloc (Below.refl q.drew.heap.size q.drew) (.cells #[] 30)
          have hB1 := hBs.trans (bn1.mono hBs.size)
          have hO1 : kPt.R 30 (q.drew.alloc (.cells #[] 30)) q.heap.size (fun _ => True) (.slice (some ⟨q.drew.heap.size, 0, none⟩) 0 0) [] := lit0 q.drew q.heap.size hBs.size
          have sz1 : q.drew.heap.size < (q.drew.alloc (.cells #[] 30)).heap.size := by simp
          generalize (q.drew.alloc (.cells #[] 30)) = wz1 at *
          refine cgTwo [0, 1, 3, 4, 2, 7, 5, 6, 8] HT ?b2_0 ?b2_1
          case b2_0 =>
            refine cgApp_k (w0 := q) (base := q.heap.size) (.tmp 44) (.tmp 46) _ [] p A1 p.length c1 HD1 hO1 (Kd.C_below hC_ hB1) hB1 hB1.size (by simp; omega) (fun x hx e_ => by have := Kd.R_base hO1 _ e_.symm; simp only [List.mem_cons, List.mem_nil_iff, or_false] at hx; rcases hx with rfl | rfl <;> simp only [] at this <;> omega) ?_
            intro A3_ c3_ u3 hO3 hB3 HD3 hgr3
            rw [EP.out] at hO3 ⊢
            refine cgN ?_
            repeat ((with_reducible refine cgGate ?_); first | refine cgP HT ?_ | refine cgL HT ?_ | refine cgG HT ?_)
            refine cgE (w1 := (u3.alloc (.cells #[.int .i64 0, .slice none 0 0] 25))) (v := .pointer (some ⟨u3.heap.size, 0, none⟩)) HT (fun HD4 => ?_) (hrun := by first | (go_simp; done) | (go_simp; rfl)) (hS := HD3.to bl)
            have bn4 := below_alloc (Below.refl u3.heap.size u3) (.cells #[.int .i64 0, .slice none 0 0] 25)
            have hB4 := hB3.trans (bn4.mono hB3.size)
            have hO4 := Kd.R_below hO3 bn4
            have fg4 : B2 (u3.alloc (.cells #[.int .i64 0, .slice none 0 0] 25)) u3.heap.size 25 (.int .i64 0) (.slice none 0 0) := B2.new u3
            have hg4 : q.heap.size ≤ u3.heap.size := hB3.size
            have sz4 : u3.heap.size < (u3.alloc (.cells #[.int .i64 0, .slice none 0 0] 25)).heap.size := by simp
            generalize (u3.alloc (.cells #[.int .i64 0, .slice none 0 0] 25)) = wz4 at *
            generalize u3.heap.size = gg4 at *
            obtain ⟨f0, f1, f2, f3, f4⟩ := fg4.f
            refine cgLast HT ?_
            refine cgDone HT ?_
            have ho9 := Kd.R_set (Kd.R_set hO4 fg4 (by decide) 0 (.int .i64 K)) (fg4.set0 (.int .i64 K)) (by decide) 1 (.slice A3_ p.length c3_)
            have U9 := fg4.set (.int .i64 K) (.slice A3_ p.length c3_)
            have B9 : Below q.heap.size q ((wz4.setCell ⟨gg4, 0, none⟩ (.int .i64 K)).setCell ⟨gg4, 1, none⟩ (.slice A3_ p.length c3_)) := (hB4.setCell hg4 _).setCell hg4 _
            have ku := ho9
            go_wp2
            go_meet
            case rel => exact ⟨_, A3_, c3_, rfl, ⟨ku⟩, ⟨U9⟩, ⟨B9⟩, hg4⟩
          case b2_1 =>
            refine cgE_k (w1 := (wz1.alloc (.cells #[.int .i64 0, .slice none 0 0] 25))) (v := .pointer (some ⟨wz1.heap.size, 0, none⟩)) (fun HD5 => ?_) (hrun := by first | (go_simp; done) | (go_simp; rfl)) (hS := HD1.to bl)
            have bn5 := below_alloc (Below.refl wz1.heap.size wz1) (.cells #[.int .i64 0, .slice none 0 0] 25)
            have hB5 := hB1.trans (bn5.mono hB1.size)
            have hO5 := Kd.R_below hO1 bn5
            have fg5 : B2 (wz1.alloc (.cells #[.int .i64 0, .slice none 0 0] 25)) wz1.heap.size 25 (.int .i64 0) (.slice none 0 0) := B2.new wz1
            have hg5 : q.heap.size ≤ wz1.heap.size := hB1.size
            have sz5 : wz1.heap.size < (wz1.alloc (.cells #[.int .i64 0, .slice none 0 0] 25)).heap.size := by simp
            generalize (wz1.alloc (.cells #[.int .i64 0, .slice none 0 0] 25)) = wz5 at *
            generalize wz1.heap.size = gg5 at *
            refine cgApp (w0 := q) (base := q.heap.size) (.tmp 44) (.tmp 46) _ [] p A1 p.length c1 HT HD5 hO5 (Kd.C_below hC_ hB5) hB5 hB5.size (by simp; omega) (fun x hx e_ => by have := Kd.R_base hO5 _ e_.symm; simp only [List.mem_cons, List.mem_nil_iff, or_false] at hx; rcases hx with rfl | rfl <;> simp only [] at this <;> omega) ?_
            intro A6_ c6_ u6 hO6 hB6 HD6 hgr6
            rw [EP.out] at hO6 ⊢
            refine cgN ?_
            have fg6 := fg5.grown hgr6 (Kd.R_ne hO5 fg5 (by decide))
            repeat ((with_reducible refine cgGate ?_); first | refine cgP HT ?_ | refine cgL HT ?_ | refine cgG HT ?_)
            obtain ⟨f0, f1, f2, f3, f4⟩ := fg6.f
            refine cgLast HT ?_
            refine cgDone HT ?_
            have ho9 := Kd.R_set (Kd.R_set hO6 fg6 (by decide) 0 (.int .i64 K)) (fg6.set0 (.int .i64 K)) (by decide) 1 (.slice A6_ p.length c6_)
            have U9 := fg6.set (.int .i64 K) (.slice A6_ p.length c6_)
            have B9 : Below q.heap.size q ((u6.setCell ⟨gg5, 0, none⟩ (.int .i64 K)).setCell ⟨gg5, 1, none⟩ (.slice A6_ p.length c6_)) := (hB6.setCell hg5 _).setCell hg5 _
            have ku := ho9
            go_wp2
            go_meet
            case rel => exact ⟨_, A6_, c6_, rfl, ⟨ku⟩, ⟨U9⟩, ⟨B9⟩, hg5⟩
        case b0_1 =>
          refine cgE_k (w1 := (q.drew.alloc (.cells #[.int .i64 0, .slice none 0 0] 25))) (v := .pointer (some ⟨q.drew.heap.size, 0, none⟩)) (fun HD7 => ?_) (hrun := by first | (go_simp; done) | (go_simp; rfl)) (hS := HDs.to bl)
          have bn7 := below_alloc (Below.refl q.drew.heap.size q.drew) (.cells #[.int .i64 0, .slice none 0 0] 25)
          have hB7 := hBs.trans (bn7.mono hBs.size)
          have fg7 : B2 (q.drew.alloc (.cells #[.int .i64 0, .slice none 0 0] 25)) q.drew.heap.size 25 (.int .i64 0) (.slice none 0 0) := B2.new q.drew
          have hg7 : q.heap.size ≤ q.drew.heap.size := hBs.size
          have sz7 : q.drew.heap.size < (q.drew.alloc (.cells #[.int .i64 0, .slice none 0 0] 25)).heap.size := by simp
          generalize (q.drew.alloc (.cells #[.int .i64 0, .slice none 0 0] 25)) = wz7 at *
          generalize q.drew.heap.size = gg7 at *
          refine cgE (w1 := (wz7.alloc (.cells #[] 30))) (v := .slice (some ⟨wz7.heap.size, 0, none⟩) 0 0) HT (fun HD8 => ?_) (hrun := by first | (go_simp; done) | (go_simp; rfl)) (hS := HD7.to bl)
          have bn8 := below_alloc (Below.refl wz7.heap.size wz7) (.cells #[] 30)
          have hB8 := hB7.trans (bn8.mono hB7.size)
          have fg8 := fg7.to bn8
          have hO8 : kPt.R 30 (wz7.alloc (.cells #[] 30)) q.heap.size (fun _ => True) (.slice (some ⟨wz7.heap.size, 0, none⟩) 0 0) [] := lit0 wz7 q.heap.size hB7.size
          have sz8 : wz7.heap.size < (wz7.alloc (.cells #[] 30)).heap.size := by simp
          generalize (wz7.alloc (.cells #[] 30)) = wz8 at *
          refine cgApp (w0 := q) (base := q.heap.size) (.tmp 44) (.tmp 46) _ [] p A1 p.length c1 HT HD8 hO8 (Kd.C_below hC_ hB8) hB8 hB8.size (by simp; omega) (fun x hx e_ => by have := Kd.R_base hO8 _ e_.symm; simp only [List.mem_cons, List.mem_nil_iff, or_false] at hx; rcases hx with rfl | rfl <;> simp only [] at this <;> omega) ?_
          intro A9_ c9_ u9 hO9 hB9 HD9 hgr9
          rw [EP.out] at hO9 ⊢
          refine cgN ?_
          have fg9 := fg8.grown hgr9 (Kd.R_ne hO8 fg8 (by decide))
          repeat ((with_reducible refine cgGate ?_); first | refine cgP HT ?_ | refine cgL HT ?_ | refine cgG HT ?_)
          obtain ⟨f0, f1, f2, f3, f4⟩ := fg9.f
          refine cgLast HT ?_
          refine cgDone HT ?_
          have ho9 := Kd.R_set (Kd.R_set hO9 fg9 (by decide) 0 (.int .i64 K)) (fg9.set0 (.int .i64 K)) (by decide) 1 (.slice A9_ p.length c9_)
          have U9 := fg9.set (.int .i64 K) (.slice A9_ p.length c9_)
          have B9 : Below q.heap.size q ((u9.setCell ⟨gg7, 0, none⟩ (.int .i64 K)).setCell ⟨gg7, 1, none⟩ (.slice A9_ p.length c9_)) := (hB9.setCell hg7 _).setCell hg7 _
          have ku := ho9
          go_wp2
          go_meet
          case rel => exact ⟨_, A9_, c9_, rfl, ⟨ku⟩, ⟨U9⟩, ⟨B9⟩, hg7⟩
      case rest =>
        obtain ⟨ga, Aa, ca, rfl, ⟨ra⟩, ⟨ba⟩, ⟨Bqa⟩, hga⟩ := hcut
        obtain ⟨g7, cap7, hv7, hg71, hg72, _⟩ := Kd.R_form ra hpos
        injection hv7 with v1 v2 v3
        subst v1
        clear v3
        obtain ⟨u_, v_, d0, d1, f0, f1⟩ := own_Pt' ra i hil
        obtain ⟨y, ra2, _⟩ := set_PtX ra i hil 1001
        have hne : (ga == g7) = false := by
          have := Kd.R_ne ra ba (by decide)
          simp [Value.ownBlock] at this ⊢
          exact this
        have ba2 := ba.far (i := i * 2) (x := .int .i64 1001) hne
        have Bqb : Below q.heap.size q (wc.setCell ⟨g7, i * 2, none⟩ (.int .i64 1001)) := Bqa.setCell hg71 _
        have ka := (Kd.R_reads' ra2).2.2
        obtain ⟨a0, a1, a2, a3, a4⟩ := ba.f
        clear h0 h1
        replace HC := HC.to Bqb
        have hC8 := Kd.C_below hC_ Bqb
        obtain ⟨h0, h1, _⟩ := HC.all
        go_upto_region 9 with (fail)
        generalize wc.setCell ⟨g7, i * 2, none⟩ (.int .i64 1001) = v8 at *
        clear hC_ ra ra2 ba a0 a1 a2 a3 a4 d0 d1 f0 f1 Bqa hg71 hg72
        have hC_ := hC8
        clear hC8
        have Bw8 : Below w.heap.size w v8 := Bq.trans (Bqb.mono Bq.size)
        rw [List.length_set] at ka
        have z8 : w1.heap.size < v8.heap.size := World.block_lt_of_cell? _ _ h0
        clear Bqb Bq z1
        obtain ⟨ad, rfl, e0, e1⟩ := at_Pt hC_ i hil
        have zad : (ad.add (i * 2)).block < v8.heap.size := World.block_lt_of_cell? _ _ e0
        have EX := Lib.hid (show (([] ++ p) ++ [p[i]]).length = p.length + 1 from List.length_append)
        generalize p[i] = x at *
        go_cut [6] (fun q6 wc => ∃ (g : Nat) (A9 : Option Addr) (c9 : Nat), q6 = .pointer (some ⟨g, 0, none⟩) ∧ Aside0 (kPt.C wc A9 (p.length + 1) (p ++ [x])) ∧ Aside0 (B2 wc g 25 (.int .i64 K) (.slice A9 (p.length + 1) c9)) ∧ Aside0 (Below v8.heap.size v8 wc))
        case first =>
          refine cgStart 16 [0, 1, 3, 4, 6, 7, 8, 9, 10, 2, 5, 11, 12, 13, 14, 15] [15] [(⟨w1.heap.size, 0, none⟩, _), (⟨w1.heap.size, 1, none⟩, _), (ad.add (i * 2), _), (⟨(ad.add (i * 2)).block, (ad.add (i * 2)).off + 1, none⟩, _)] l_FnShapeBent_t9 ⟨h0, h1, e0, e1, trivial⟩ (fun HT HDs => ?_)
          have hBs : Below v8.heap.size v8 v8.drew := below_drew1 (Below.refl _ _)
          repeat ((with_reducible refine cgGate ?_); first | refine cgP HT ?_ | refine cgL HT ?_ | refine cgG HT ?_)
          refine cgThree [0, 1, 3, 4, 6, 7, 8, 9, 10, 11, 2, 5, 12, 13, 14, 15] [0, 1, 3, 4, 6, 7, 8, 9, 10, 14, 2, 5, 11, 12, 13, 15] HT ?b10_0 ?b10_1 ?b10_2
          case b10_0 =>
            refine cgE_k (w1 := (v8.drew.alloc (.cells #[] 30))) (v := .slice (some ⟨v8.drew.heap.size, 0, none⟩) 0 0) (fun HD11 => ?_) (hrun := by first | (go_simp; done) | (go_simp; rfl)) (hS := HDs.to bl)
            have bn11 := below_alloc (Below.refl v8.drew.heap.size v8.drew) (.cells #[] 30)
            have hB11 := hBs.trans (bn11.mono hBs.size)
            have hO11 : kPt.R 30 (v8.drew.alloc (.cells #[] 30)) v8.heap.size (fun _ => True) (.slice (some ⟨v8.drew.heap.size, 0, none⟩) 0 0) [] := lit0 v8.drew v8.heap.size hBs.size
            have sz11 : v8.drew.heap.size < (v8.drew.alloc (.cells #[] 30)).heap.size := by simp
            generalize (v8.drew.alloc (.cells #[] 30)) = wz11 at *
            refine cgThree [0, 1, 3, 4, 6, 7, 8, 9, 10, 2, 11, 5, 12, 13, 14, 15] [0, 1, 3, 4, 6, 7, 8, 9, 10, 2, 14, 5, 11, 12, 13, 15] HT ?b12_0 ?b12_1 ?b12_2
            case b12_0 =>
              refine cgApp_k (w0 := v8) (base := v8.heap.size) (.tmp 56) (.tmp 58) _ [] p (some ad) p.length c1 HD11 hO11 (Kd.C_below hC_ hB11) hB11 hB11.size (by simp; omega) (fun x hx e_ => by have := Kd.R_base hO11 _ e_.symm; simp only [List.mem_cons, List.mem_nil_iff, or_false] at hx; rcases hx with rfl | rfl | rfl | rfl <;> simp only [] at this <;> omega) ?_
              intro A13_ c13_ u13 hO13 hB13 HD13 hgr13
              rw [EP.out] at hO13 ⊢
              refine cgN ?_
              refine cgTwo [0, 1, 3, 4, 6, 7, 8, 9, 10, 2, 5, 14, 11, 12, 13, 15] HT ?b14_0 ?b14_1
              case b14_0 =>
                refine cgE_k (w1 := (u13.alloc (.cells #[.int .i64 x.1, .int .i64 x.2] 30))) (v := .slice (some ⟨u13.heap.size, 0, none⟩) 1 1) (fun HD15 => ?_) (hrun := by first | (go_simp; done) | (go_simp; rfl)) (hS := HD13.to bl)
                have bn15 := below_alloc (Below.refl u13.heap.size u13) (.cells #[.int .i64 x.1, .int .i64 x.2] 30)
                have hB15 := hB13.trans (bn15.mono hB13.size)
                have hO15 := Kd.R_below hO13 bn15
                have h815 : RI kPt 30 (u13.alloc (.cells #[.int .i64 x.1, .int .i64 x.2] 30)) u13.heap.size (u13.alloc (.cells #[.int .i64 x.1, .int .i64 x.2] 30)).heap.size (.slice (some ⟨u13.heap.size, 0, none⟩) 1 1) [x] := RI.of (litR1 u13 x)
                have sz15 : u13.heap.size < (u13.alloc (.cells #[.int .i64 x.1, .int .i64 x.2] 30)).heap.size := by simp
                generalize (u13.alloc (.cells #[.int .i64 x.1, .int .i64 x.2] 30)) = wz15 at *
                refine cgTwo [0, 1, 3, 4, 6, 7, 8, 9, 10, 2, 5, 11, 14, 12, 13, 15] HT ?b16_0 ?b16_1
                case b16_0 =>
                  refine cgApp_k (w0 := v8) (base := v8.heap.size) (.tmp 59) (.tmp 65) _ ([] ++ p) [x] (some ⟨u13.heap.size, 0, none⟩) 1 1 HD15 hO15 h815.rd.2.2 hB15 hB15.size (by simp; omega) (fun x hx e_ => by have := Kd.R_base hO15 _ e_.symm; simp only [List.mem_cons, List.mem_nil_iff, or_false] at hx; rcases hx with rfl | rfl | rfl | rfl <;> simp only [] at this <;> omega) ?_
                  intro A17_ c17_ u17 hO17 hB17 HD17 hgr17
                  rw [EX.out] at hO17 ⊢
                  refine cgN ?_
                  repeat ((with_reducible refine cgGate ?_); first | refine cgP HT ?_ | refine cgL HT ?_ | refine cgG HT ?_)
                  refine cgE (w1 := (u17.alloc (.cells #[.int .i64 0, .slice none 0 0] 25))) (v := .pointer (some ⟨u17.heap.size, 0, none⟩)) HT (fun HD18 => ?_) (hrun := by first | (go_simp; done) | (go_simp; rfl)) (hS := HD17.to bl)
                  have bn18 := below_alloc (Below.refl u17.heap.size u17) (.cells #[.int .i64 0, .slice none 0 0] 25)
                  have hB18 := hB17.trans (bn18.mono hB17.size)
                  have hO18 := Kd.R_below hO17 bn18
                  have fg18 : B2 (u17.alloc (.cells #[.int .i64 0, .slice none 0 0] 25)) u17.heap.size 25 (.int .i64 0) (.slice none 0 0) := B2.new u17
                  have hg18 : v8.heap.size ≤ u17.heap.size := hB17.size
                  have sz18 : u17.heap.size < (u17.alloc (.cells #[.int .i64 0, .slice none 0 0] 25)).heap.size := by simp
                  generalize (u17.alloc (.cells #[.int .i64 0, .slice none 0 0] 25)) = wz18 at *
                  generalize u17.heap.size = gg18 at *
                  obtain ⟨f0, f1, f2, f3, f4⟩ := fg18.f
                  refine cgLast HT ?_
                  refine cgDone HT ?_
                  have ho9 := Kd.R_set (Kd.R_set hO18 fg18 (by decide) 0 (.int .i64 K)) (fg18.set0 (.int .i64 K)) (by decide) 1 (.slice A17_ (p.length + 1) c17_)
                  have U9 := fg18.set (.int .i64 K) (.slice A17_ (p.length + 1) c17_)
                  have B9 : Below v8.heap.size v8 ((wz18.setCell ⟨gg18, 0, none⟩ (.int .i64 K)).setCell ⟨gg18, 1, none⟩ (.slice A17_ (p.length + 1) c17_)) := (hB18.setCell hg18 _).setCell hg18 _
                  have ku := (Kd.R_reads' ho9).2.2
                  rw [EX.out] at ku
                  go_wp2
                  go_meet
                  case rel => exact ⟨_, A17_, c17_, rfl, ⟨ku⟩, ⟨U9⟩, ⟨B9⟩⟩
                case b16_1 =>
                  refine cgE_k (w1 := (wz15.alloc (.cells #[.int .i64 0, .slice none 0 0] 25))) (v := .pointer (some ⟨wz15.heap.size, 0, none⟩)) (fun HD19 => ?_) (hrun := by first | (go_simp; done) | (go_simp; rfl)) (hS := HD15.to bl)
                  have bn19 := below_alloc (Below.refl wz15.heap.size wz15) (.cells #[.int .i64 0, .slice none 0 0] 25)
                  have hB19 := hB15.trans (bn19.mono hB15.size)
                  have hO19 := Kd.R_below hO15 bn19
                  have h819 := h815.below bn19
                  have fg19 : B2 (wz15.alloc (.cells #[.int .i64 0, .slice none 0 0] 25)) wz15.heap.size 25 (.int .i64 0) (.slice none 0 0) := B2.new wz15
                  have hg19 : v8.heap.size ≤ wz15.heap.size := hB15.size
                  have sz19 : wz15.heap.size < (wz15.alloc (.cells #[.int .i64 0, .slice none 0 0] 25)).heap.size := by simp
                  generalize (wz15.alloc (.cells #[.int .i64 0, .slice none 0 0] 25)) = wz19 at *
                  generalize wz15.heap.size = gg19 at *
                  refine cgApp (w0 := v8) (base := v8.heap.size) (.tmp 59) (.tmp 65) _ ([] ++ p) [x] (some ⟨u13.heap.size, 0, none⟩) 1 1 HT HD19 hO19 h819.rd.2.2 hB19 hB19.size (by simp; omega) (fun x hx e_ => by have := Kd.R_base hO19 _ e_.symm; simp only [List.mem_cons, List.mem_nil_iff, or_false] at hx; rcases hx with rfl | rfl | rfl | rfl <;> simp only [] at this <;> omega) ?_
                  intro A20_ c20_ u20 hO20 hB20 HD20 hgr20
                  rw [EX.out] at hO20 ⊢
                  refine cgN ?_
                  have fg20 := fg19.grown hgr20 (Kd.R_ne hO19 fg19 (by decide))
                  repeat ((with_reducible refine cgGate ?_); first | refine cgP HT ?_ | refine cgL HT ?_ | refine cgG HT ?_)
                  obtain ⟨f0, f1, f2, f3, f4⟩ := fg20.f
                  refine cgLast HT ?_
                  refine cgDone HT ?_
                  have ho9 := Kd.R_set (Kd.R_set hO20 fg20 (by decide) 0 (.int .i64 K)) (fg20.set0 (.int .i64 K)) (by decide) 1 (.slice A20_ (p.length + 1) c20_)
                  have U9 := fg20.set (.int .i64 K) (.slice A20_ (p.length + 1) c20_)
                  have B9 : Below v8.heap.size v8 ((u20.setCell ⟨gg19, 0, none⟩ (.int .i64 K)).setCell ⟨gg19, 1, none⟩ (.slice A20_ (p.length + 1) c20_)) := (hB20.setCell hg19 _).setCell hg19 _
                  have ku := (Kd.R_reads' ho9).2.2
                  rw [EX.out] at ku
                  go_wp2
                  go_meet
                  case rel => exact ⟨_, A20_, c20_, rfl, ⟨ku⟩, ⟨U9⟩, ⟨B9⟩⟩
              case b14_1 =>
                refine cgE_k (w1 := (u13.alloc (.cells #[.int .i64 0, .slice none 0 0] 25))) (v := .pointer (some ⟨u13.heap.size, 0, none⟩)) (fun HD21 => ?_) (hrun := by first | (go_simp; done) | (go_simp; rfl)) (hS := HD13.to bl)
                have bn21 := below_alloc (Below.refl u13.heap.size u13) (.cells #[.int .i64 0, .slice none 0 0] 25)
                have hB21 := hB13.trans (bn21.mono hB13.size)
                have hO21 := Kd.R_below hO13 bn21
                have fg21 : B2 (u13.alloc (.cells #[.int .i64 0, .slice none 0 0] 25)) u13.heap.size 25 (.int .i64 0) (.slice none 0 0) := B2.new u13
                have hg21 : v8.heap.size ≤ u13.heap.size := hB13.size
                have sz21 : u13.heap.size < (u13.alloc (.cells #[.int .i64 0, .slice none 0 0] 25)).heap.size := by simp
                generalize (u13.alloc (.cells #[.int .i64 0, .slice none 0 0] 25)) = wz21 at *
                generalize u13.heap.size = gg21 at *
                refine cgE (w1 := (wz21.alloc (.cells #[.int .i64 x.1, .int .i64 x.2] 30))) (v := .slice (some ⟨wz21.heap.size, 0, none⟩) 1 1) HT (fun HD22 => ?_) (hrun := by first | (go_simp; done) | (go_simp; rfl)) (hS := HD21.to bl)
                have bn22 := below_alloc (Below.refl wz21.heap.size wz21) (.cells #[.int .i64 x.1, .int .i64 x.2] 30)
                have hB22 := hB21.trans (bn22.mono hB21.size)
                have hO22 := Kd.R_below hO21 bn22
                have fg22 := fg21.to bn22
                have h822 : RI kPt 30 (wz21.alloc (.cells #[.int .i64 x.1, .int .i64 x.2] 30)) wz21.heap.size (wz21.alloc (.cells #[.int .i64 x.1, .int .i64 x.2] 30)).heap.size (.slice (some ⟨wz21.heap.size, 0, none⟩) 1 1) [x] := RI.of (litR1 wz21 x)
                have sz22 : wz21.heap.size < (wz21.alloc (.cells #[.int .i64 x.1, .int .i64 x.2] 30)).heap.size := by simp
                generalize (wz21.alloc (.cells #[.int .i64 x.1, .int .i64 x.2] 30)) = wz22 at *
                refine cgApp (w0 := v8) (base := v8.heap.size) (.tmp 59) (.tmp 65) _ ([] ++ p) [x] (some ⟨wz21.heap.size, 0, none⟩) 1 1 HT HD22 hO22 h822.rd.2.2 hB22 hB22.size (by simp; omega) (fun x hx e_ => by have := Kd.R_base hO22 _ e_.symm; simp only [List.mem_cons, List.mem_nil_iff, or_false] at hx; rcases hx with rfl | rfl | rfl | rfl <;> simp only [] at this <;> omega) ?_
                intro A23_ c23_ u23 hO23 hB23 HD23 hgr23
                rw [EX.out] at hO23 ⊢
                refine cgN ?_
                have fg23 := fg22.grown hgr23 (Kd.R_ne hO22 fg22 (by decide))
                repeat ((with_reducible refine cgGate ?_); first | refine cgP HT ?_ | refine cgL HT ?_ | refine cgG HT ?_)
                obtain ⟨f0, f1, f2, f3, f4⟩ := fg23.f
                refine cgLast HT ?_
                refine cgDone HT ?_
                have ho9 := Kd.R_set (Kd.R_set hO23 fg23 (by decide) 0 (.int .i64 K)) (fg23.set0 (.int .i64 K)) (by decide) 1 (.slice A23_ (p.length + 1) c23_)
                have U9 := fg23.set (.int .i64 K) (.slice A23_ (p.length + 1) c23_)
                have B9 : Below v8.heap.size v8 ((u23.setCell ⟨gg21, 0, none⟩ (.int .i64 K)).setCell ⟨gg21, 1, none⟩ (.slice A23_ (p.length + 1) c23_)) := (hB23.setCell hg21 _).setCell hg21 _
                have ku := (Kd.R_reads' ho9).2.2
                rw [EX.out] at ku
                go_wp2
                go_meet
                case rel => exact ⟨_, A23_, c23_, rfl, ⟨ku⟩, ⟨U9⟩, ⟨B9⟩⟩
            case b12_1 =>
              refine cgE_k (w1 := (wz11.alloc (.cells #[.int .i64 x.1, .int .i64 x.2] 30))) (v := .slice (some ⟨wz11.heap.size, 0, none⟩) 1 1) (fun HD24 => ?_) (hrun := by first | (go_simp; done) | (go_simp; rfl)) (hS := HD11.to bl)
              have bn24 := below_alloc (Below.refl wz11.heap.size wz11) (.cells #[.int .i64 x.1, .int .i64 x.2] 30)
              have hB24 := hB11.trans (bn24.mono hB11.size)
              have hO24 := Kd.R_below hO11 bn24
              have h824 : RI kPt 30 (wz11.alloc (.cells #[.int .i64 x.1, .int .i64 x.2] 30)) wz11.heap.size (wz11.alloc (.cells #[.int .i64 x.1, .int .i64 x.2] 30)).heap.size (.slice (some ⟨wz11.heap.size, 0, none⟩) 1 1) [x] := RI.of (litR1 wz11 x)
              have ne24 : v8.drew.heap.size < wz11.heap.size := by first | omega | (simp; done) | (simp; omega) | (simp at *; omega)
              have sz24 : wz11.heap.size < (wz11.alloc (.cells #[.int .i64 x.1, .int .i64 x.2] 30)).heap.size := by simp
              generalize (wz11.alloc (.cells #[.int .i64 x.1, .int .i64 x.2] 30)) = wz24 at *
              refine cgTwo [0, 1, 3, 4, 6, 7, 8, 9, 10, 2, 11, 14, 5, 12, 13, 15] HT ?b25_0 ?b25_1
              case b25_0 =>
                refine cgApp_k (w0 := v8) (base := v8.heap.size) (.tmp 56) (.tmp 58) _ [] p (some ad) p.length c1 HD24 hO24 (Kd.C_below hC_ hB24) hB24 hB24.size (by simp; omega) (fun x hx e_ => by have := Kd.R_base hO24 _ e_.symm; simp only [List.mem_cons, List.mem_nil_iff, or_false] at hx; rcases hx with rfl | rfl | rfl | rfl <;> simp only [] at this <;> omega) ?_
                intro A26_ c26_ u26 hO26 hB26 HD26 hgr26
                rw [EP.out] at hO26 ⊢
                refine cgN ?_
                have h826 := RI_grown h824 hgr26 (fun g_ e_ => by have e2 : v8.drew.heap.size = g_ := (by simpa [Value.ownBlock] using e_); subst e2; exact Or.inl ne24)
                refine cgTwo [0, 1, 3, 4, 6, 7, 8, 9, 10, 2, 11, 5, 14, 12, 13, 15] HT ?b27_0 ?b27_1
                case b27_0 =>
                  refine cgApp_k (w0 := v8) (base := v8.heap.size) (.tmp 59) (.tmp 65) _ ([] ++ p) [x] (some ⟨wz11.heap.size, 0, none⟩) 1 1 HD26 hO26 h826.rd.2.2 hB26 hB26.size (by simp; omega) (fun x hx e_ => by have := Kd.R_base hO26 _ e_.symm; simp only [List.mem_cons, List.mem_nil_iff, or_false] at hx; rcases hx with rfl | rfl | rfl | rfl <;> simp only [] at this <;> omega) ?_
                  intro A28_ c28_ u28 hO28 hB28 HD28 hgr28
                  rw [EX.out] at hO28 ⊢
                  refine cgN ?_
                  repeat ((with_reducible refine cgGate ?_); first | refine cgP HT ?_ | refine cgL HT ?_ | refine cgG HT ?_)
                  refine cgE (w1 := (u28.alloc (.cells #[.int .i64 0, .slice none 0 0] 25))) (v := .pointer (some ⟨u28.heap.size, 0, none⟩)) HT (fun HD29 => ?_) (hrun := by first | (go_simp; done) | (go_simp; rfl)) (hS := HD28.to bl)
                  have bn29 := below_alloc (Below.refl u28.heap.size u28) (.cells #[.int .i64 0, .slice none 0 0] 25)
                  have hB29 := hB28.trans (bn29.mono hB28.size)
                  have hO29 := Kd.R_below hO28 bn29
                  have fg29 : B2 (u28.alloc (.cells #[.int .i64 0, .slice none 0 0] 25)) u28.heap.size 25 (.int .i64 0) (.slice none 0 0) := B2.new u28
                  have hg29 : v8.heap.size ≤ u28.heap.size := hB28.size
                  have sz29 : u28.heap.size < (u28.alloc (.cells #[.int .i64 0, .slice none 0 0] 25)).heap.size := by simp
                  generalize (u28.alloc (.cells #[.int .i64 0, .slice none 0 0] 25)) = wz29 at *
                  generalize u28.heap.size = gg29 at *
                  obtain ⟨f0, f1, f2, f3, f4⟩ := fg29.f
                  refine cgLast HT ?_
                  refine cgDone HT ?_
                  have ho9 := Kd.R_set (Kd.R_set hO29 fg29 (by decide) 0 (.int .i64 K)) (fg29.set0 (.int .i64 K)) (by decide) 1 (.slice A28_ (p.length + 1) c28_)
                  have U9 := fg29.set (.int .i64 K) (.slice A28_ (p.length + 1) c28_)
                  have B9 : Below v8.heap.size v8 ((wz29.setCell ⟨gg29, 0, none⟩ (.int .i64 K)).setCell ⟨gg29, 1, none⟩ (.slice A28_ (p.length + 1) c28_)) := (hB29.setCell hg29 _).setCell hg29 _
                  have ku := (Kd.R_reads' ho9).2.2
                  rw [EX.out] at ku
                  go_wp2
                  go_meet
                  case rel => exact ⟨_, A28_, c28_, rfl, ⟨ku⟩, ⟨U9⟩, ⟨B9⟩⟩
                case b27_1 =>
                  refine cgE_k (w1 := (u26.alloc (.cells #[.int .i64 0, .slice none 0 0] 25))) (v := .pointer (some ⟨u26.heap.size, 0, none⟩)) (fun HD30 => ?_) (hrun := by first | (go_simp; done) | (go_simp; rfl)) (hS := HD26.to bl)
                  have bn30 := below_alloc (Below.refl u26.heap.size u26) (.cells #[.int .i64 0, .slice none 0 0] 25)
                  have hB30 := hB26.trans (bn30.mono hB26.size)
                  have hO30 := Kd.R_below hO26 bn30
                  have h830 := h826.below bn30
                  have fg30 : B2 (u26.alloc (.cells #[.int .i64 0, .slice none 0 0] 25)) u26.heap.size 25 (.int .i64 0) (.slice none 0 0) := B2.new u26
                  have hg30 : v8.heap.size ≤ u26.heap.size := hB26.size
                  have sz30 : u26.heap.size < (u26.alloc (.cells #[.int .i64 0, .slice none 0 0] 25)).heap.size := by simp
                  generalize (u26.alloc (.cells #[.int .i64 0, .slice none 0 0] 25)) = wz30 at *
                  generalize u26.heap.size = gg30 at *
                  refine cgApp (w0 := v8) (base := v8.heap.size) (.tmp 59) (.tmp 65) _ ([] ++ p) [x] (some ⟨wz11.heap.size, 0, none⟩) 1 1 HT HD30 hO30 h830.rd.2.2 hB30 hB30.size (by simp; omega) (fun x hx e_ => by have := Kd.R_base hO30 _ e_.symm; simp only [List.mem_cons, List.mem_nil_iff, or_false] at hx; rcases hx with rfl | rfl | rfl | rfl <;> simp only [] at this <;> omega) ?_
                  intro A31_ c31_ u31 hO31 hB31 HD31 hgr31
                  rw [EX.out] at hO31 ⊢
                  refine cgN ?_
                  have fg31 := fg30.grown hgr31 (Kd.R_ne hO30 fg30 (by decide))
                  repeat ((with_reducible refine cgGate ?_); first | refine cgP HT ?_ | refine cgL HT ?_ | refine cgG HT ?_)
                  obtain ⟨f0, f1, f2, f3, f4⟩ := fg31.f
                  refine cgLast HT ?_
                  refine cgDone HT ?_
                  have ho9 := Kd.R_set (Kd.R_set hO31 fg31 (by decide) 0 (.int .i64 K)) (fg31.set0 (.int .i64 K)) (by decide) 1 (.slice A31_ (p.length + 1) c31_)
                  have U9 := fg31.set (.int .i64 K) (.slice A31_ (p.length + 1) c31_)
                  have B9 : Below v8.heap.size v8 ((u31.setCell ⟨gg30, 0, none⟩ (.int .i64 K)).setCell ⟨gg30, 1, none⟩ (.slice A31_ (p.length + 1) c31_)) := (hB31.setCell hg30 _).setCell hg30 _
                  have ku := (Kd.R_reads' ho9).2.2
                  rw [EX.out] at ku
                  go_wp2
                  go_meet
                  case rel => exact ⟨_, A31_, c31_, rfl, ⟨ku⟩, ⟨U9⟩, ⟨B9⟩⟩
              case b25_1 =>
                refine cgE_k (w1 := (wz24.alloc (.cells #[.int .i64 0, .slice none 0 0] 25))) (v := .pointer (some ⟨wz24.heap.size, 0, none⟩)) (fun HD32 => ?_) (hrun := by first | (go_simp; done) | (go_simp; rfl)) (hS := HD24.to bl)
                have bn32 := below_alloc (Below.refl wz24.heap.size wz24) (.cells #[.int .i64 0, .slice none 0 0] 25)
                have hB32 := hB24.trans (bn32.mono hB24.size)
                have hO32 := Kd.R_below hO24 bn32
                have h832 := h824.below bn32
                have fg32 : B2 (wz24.alloc (.cells #[.int .i64 0, .slice none 0 0] 25)) wz24.heap.size 25 (.int .i64 0) (.slice none 0 0) := B2.new wz24
                have hg32 : v8.heap.size ≤ wz24.heap.size := hB24.size
                have sz32 : wz24.heap.size < (wz24.alloc (.cells #[.int .i64 0, .slice none 0 0] 25)).heap.size := by simp
                generalize (wz24.alloc (.cells #[.int .i64 0, .slice none 0 0] 25)) = wz32 at *
                generalize wz24.heap.size = gg32 at *
                refine cgApp (w0 := v8) (base := v8.heap.size) (.tmp 56) (.tmp 58) _ [] p (some ad) p.length c1 HT HD32 hO32 (Kd.C_below hC_ hB32) hB32 hB32.size (by simp; omega) (fun x hx e_ => by have := Kd.R_base hO32 _ e_.symm; simp only [List.mem_cons, List.mem_nil_iff, or_false] at hx; rcases hx with rfl | rfl | rfl | rfl <;> simp only [] at this <;> omega) ?_
                intro A33_ c33_ u33 hO33 hB33 HD33 hgr33
                rw [EP.out] at hO33 ⊢
                refine cgN ?_
                have h833 := RI_grown h832 hgr33 (fun g_ e_ => by have e2 : v8.drew.heap.size = g_ := (by simpa [Value.ownBlock] using e_); subst e2; exact Or.inl ne24)
                have fg33 := fg32.grown hgr33 (Kd.R_ne hO32 fg32 (by decide))
                refine cgApp (w0 := v8) (base := v8.heap.size) (.tmp 59) (.tmp 65) _ ([] ++ p) [x] (some ⟨wz11.heap.size, 0, none⟩) 1 1 HT HD33 hO33 h833.rd.2.2 hB33 hB33.size (by simp; omega) (fun x hx e_ => by have := Kd.R_base hO33 _ e_.symm; simp only [List.mem_cons, List.mem_nil_iff, or_false] at hx; rcases hx with rfl | rfl | rfl | rfl <;> simp only [] at this <;> omega) ?_
                intro A34_ c34_ u34 hO34 hB34 HD34 hgr34
                rw [EX.out] at hO34 ⊢
                refine cgN ?_
                have fg34 := fg33.grown hgr34 (Kd.R_ne hO33 fg33 (by decide))
                repeat ((with_reducible refine cgGate ?_); first | refine cgP HT ?_ | refine cgL HT ?_ | refine cgG HT ?_)
                obtain ⟨f0, f1, f2, f3, f4⟩ := fg34.f
                refine cgLast HT ?_
                refine cgDone HT ?_
                have ho9 := Kd.R_set (Kd.R_set hO34 fg34 (by decide) 0 (.int .i64 K)) (fg34.set0 (.int .i64 K)) (by decide) 1 (.slice A34_ (p.length + 1) c34_)
                have U9 := fg34.set (.int .i64 K) (.slice A34_ (p.length + 1) c34_)
                have B9 : Below v8.heap.size v8 ((u34.setCell ⟨gg32, 0, none⟩ (.int .i64 K)).setCell ⟨gg32, 1, none⟩ (.slice A34_ (p.length + 1) c34_)) := (hB34.setCell hg32 _).setCell hg32 _
                have ku := (Kd.R_reads' ho9).2.2
                rw [EX.out] at ku
                go_wp2
                go_meet
                case rel => exact ⟨_, A34_, c34_, rfl, ⟨ku⟩, ⟨U9⟩, ⟨B9⟩⟩
            case b12_2 =>
              refine cgE_k (w1 := (wz11.alloc (.cells #[.int .i64 0, .slice none 0 0] 25))) (v := .pointer (some ⟨wz11.heap.size, 0, none⟩)) (fun HD35 => ?_) (hrun := by first | (go_simp; done) | (go_simp; rfl)) (hS := HD11.to bl)
              have bn35 := below_alloc (Below.refl wz11.heap.size wz11) (.cells #[.int .i64 0, .slice none 0 0] 25)
              have hB35 := hB11.trans (bn35.mono hB11.size)
              have hO35 := Kd.R_below hO11 bn35
              have fg35 : B2 (wz11.alloc (.cells #[.int .i64 0, .slice none 0 0] 25)) wz11.heap.size 25 (.int .i64 0) (.slice none 0 0) := B2.new wz11
              have hg35 : v8.heap.size ≤ wz11.heap.size := hB11.size
              have sz35 : wz11.heap.size < (wz11.alloc (.cells #[.int .i64 0, .slice none 0 0] 25)).heap.size := by simp
              generalize (wz11.alloc (.cells #[.int .i64 0, .slice none 0 0] 25)) = wz35 at *
              generalize wz11.heap.size = gg35 at *
              refine cgTwo [0, 1, 3, 4, 6, 7, 8, 9, 10, 2, 14, 11, 5, 12, 13, 15] HT ?b36_0 ?b36_1
              case b36_0 =>
                refine cgApp_k (w0 := v8) (base := v8.heap.size) (.tmp 56) (.tmp 58) _ [] p (some ad) p.length c1 HD35 hO35 (Kd.C_below hC_ hB35) hB35 hB35.size (by simp; omega) (fun x hx e_ => by have := Kd.R_base hO35 _ e_.symm; simp only [List.mem_cons, List.mem_nil_iff, or_false] at hx; rcases hx with rfl | rfl | rfl | rfl <;> simp only [] at this <;> omega) ?_
                intro A37_ c37_ u37 hO37 hB37 HD37 hgr37
                rw [EP.out] at hO37 ⊢
                refine cgN ?_
                have fg37 := fg35.grown hgr37 (Kd.R_ne hO35 fg35 (by decide))
                refine cgE (w1 := (u37.alloc (.cells #[.int .i64 x.1, .int .i64 x.2] 30))) (v := .slice (some ⟨u37.heap.size, 0, none⟩) 1 1) HT (fun HD38 => ?_) (hrun := by first | (go_simp; done) | (go_simp; rfl)) (hS := HD37.to bl)
                have bn38 := below_alloc (Below.refl u37.heap.size u37) (.cells #[.int .i64 x.1, .int .i64 x.2] 30)
                have hB38 := hB37.trans (bn38.mono hB37.size)
                have hO38 := Kd.R_below hO37 bn38
                have fg38 := fg37.to bn38
                have h838 : RI kPt 30 (u37.alloc (.cells #[.int .i64 x.1, .int .i64 x.2] 30)) u37.heap.size (u37.alloc (.cells #[.int .i64 x.1, .int .i64 x.2] 30)).heap.size (.slice (some ⟨u37.heap.size, 0, none⟩) 1 1) [x] := RI.of (litR1 u37 x)
                have sz38 : u37.heap.size < (u37.alloc (.cells #[.int .i64 x.1, .int .i64 x.2] 30)).heap.size := by simp
                generalize (u37.alloc (.cells #[.int .i64 x.1, .int .i64 x.2] 30)) = wz38 at *
                refine cgApp (w0 := v8) (base := v8.heap.size) (.tmp 59) (.tmp 65) _ ([] ++ p) [x] (some ⟨u37.heap.size, 0, none⟩) 1 1 HT HD38 hO38 h838.rd.2.2 hB38 hB38.size (by simp; omega) (fun x hx e_ => by have := Kd.R_base hO38 _ e_.symm; simp only [List.mem_cons, List.mem_nil_iff, or_false] at hx; rcases hx with rfl | rfl | rfl | rfl <;> simp only [] at this <;> omega) ?_
                intro A39_ c39_ u39 hO39 hB39 HD39 hgr39
                rw [EX.out] at hO39 ⊢
                refine cgN ?_
                have fg39 := fg38.grown hgr39 (Kd.R_ne hO38 fg38 (by decide))
                repeat ((with_reducible refine cgGate ?_); first | refine cgP HT ?_ | refine cgL HT ?_ | refine cgG HT ?_)
                obtain ⟨f0, f1, f2, f3, f4⟩ := fg39.f
                refine cgLast HT ?_
                refine cgDone HT ?_
                have ho9 := Kd.R_set (Kd.R_set hO39 fg39 (by decide) 0 (.int .i64 K)) (fg39.set0 (.int .i64 K)) (by decide) 1 (.slice A39_ (p.length + 1) c39_)
                have U9 := fg39.set (.int .i64 K) (.slice A39_ (p.length + 1) c39_)
                have B9 : Below v8.heap.size v8 ((u39.setCell ⟨gg35, 0, none⟩ (.int .i64 K)).setCell ⟨gg35, 1, none⟩ (.slice A39_ (p.length + 1) c39_)) := (hB39.setCell hg35 _).setCell hg35 _
                have ku := (Kd.R_reads' ho9).2.2
                rw [EX.out] at ku
                go_wp2
                go_meet
                case rel => exact ⟨_, A39_, c39_, rfl, ⟨ku⟩, ⟨U9⟩, ⟨B9⟩⟩
              case b36_1 =>
                refine cgE_k (w1 := (wz35.alloc (.cells #[.int .i64 x.1, .int .i64 x.2] 30))) (v := .slice (some ⟨wz35.heap.size, 0, none⟩) 1 1) (fun HD40 => ?_) (hrun := by first | (go_simp; done) | (go_simp; rfl)) (hS := HD35.to bl)
                have bn40 := below_alloc (Below.refl wz35.heap.size wz35) (.cells #[.int .i64 x.1, .int .i64 x.2] 30)
                have hB40 := hB35.trans (bn40.mono hB35.size)
                have hO40 := Kd.R_below hO35 bn40
                have fg40 := fg35.to bn40
                have h840 : RI kPt 30 (wz35.alloc (.cells #[.int .i64 x.1, .int .i64 x.2] 30)) wz35.heap.size (wz35.alloc (.cells #[.int .i64 x.1, .int .i64 x.2] 30)).heap.size (.slice (some ⟨wz35.heap.size, 0, none⟩) 1 1) [x] := RI.of (litR1 wz35 x)
                have ne40 : v8.drew.heap.size < wz35.heap.size := by first | omega | (simp; done) | (simp; omega) | (simp at *; omega)
                have sz40 : wz35.heap.size < (wz35.alloc (.cells #[.int .i64 x.1, .int .i64 x.2] 30)).heap.size := by simp
                generalize (wz35.alloc (.cells #[.int .i64 x.1, .int .i64 x.2] 30)) = wz40 at *
                refine cgApp (w0 := v8) (base := v8.heap.size) (.tmp 56) (.tmp 58) _ [] p (some ad) p.length c1 HT HD40 hO40 (Kd.C_below hC_ hB40) hB40 hB40.size (by simp; omega) (fun x hx e_ => by have := Kd.R_base hO40 _ e_.symm; simp only [List.mem_cons, List.mem_nil_iff, or_false] at hx; rcases hx with rfl | rfl | rfl | rfl <;> simp only [] at this <;> omega) ?_
                intro A41_ c41_ u41 hO41 hB41 HD41 hgr41
                rw [EP.out] at hO41 ⊢
                refine cgN ?_
                have h841 := RI_grown h840 hgr41 (fun g_ e_ => by have e2 : v8.drew.heap.size = g_ := (by simpa [Value.ownBlock] using e_); subst e2; exact Or.inl ne40)
                have fg41 := fg40.grown hgr41 (Kd.R_ne hO40 fg40 (by decide))
                refine cgApp (w0 := v8) (base := v8.heap.size) (.tmp 59) (.tmp 65) _ ([] ++ p) [x] (some ⟨wz35.heap.size, 0, none⟩) 1 1 HT HD41 hO41 h841.rd.2.2 hB41 hB41.size (by simp; omega) (fun x hx e_ => by have := Kd.R_base hO41 _ e_.symm; simp only [List.mem_cons, List.mem_nil_iff, or_false] at hx; rcases hx with rfl | rfl | rfl | rfl <;> simp only [] at this <;> omega) ?_
                intro A42_ c42_ u42 hO42 hB42 HD42 hgr42
                rw [EX.out] at hO42 ⊢
                refine cgN ?_
                have fg42 := fg41.grown hgr42 (Kd.R_ne hO41 fg41 (by decide))
                repeat ((with_reducible refine cgGate ?_); first | refine cgP HT ?_ | refine cgL HT ?_ | refine cgG HT ?_)
                obtain ⟨f0, f1, f2, f3, f4⟩ := fg42.f
                refine cgLast HT ?_
                refine cgDone HT ?_
                have ho9 := Kd.R_set (Kd.R_set hO42 fg42 (by decide) 0 (.int .i64 K)) (fg42.set0 (.int .i64 K)) (by decide) 1 (.slice A42_ (p.length + 1) c42_)
                have U9 := fg42.set (.int .i64 K) (.slice A42_ (p.length + 1) c42_)
                have B9 : Below v8.heap.size v8 ((u42.setCell ⟨gg35, 0, none⟩ (.int .i64 K)).setCell ⟨gg35, 1, none⟩ (.slice A42_ (p.length + 1) c42_)) := (hB42.setCell hg35 _).setCell hg35 _
                have ku := (Kd.R_reads' ho9).2.2
                rw [EX.out] at ku
                go_wp2
                go_meet
                case rel => exact ⟨_, A42_, c42_, rfl, ⟨ku⟩, ⟨U9⟩, ⟨B9⟩⟩
          case b10_1 =>
            refine cgE_k (w1 := (v8.drew.alloc (.cells #[.int .i64 x.1, .int .i64 x.2] 30))) (v := .slice (some ⟨v8.drew.heap.size, 0, none⟩) 1 1) (fun HD43 => ?_) (hrun := by first | (go_simp; done) | (go_simp; rfl)) (hS := HDs.to bl)
            have bn43 := below_alloc (Below.refl v8.drew.heap.size v8.drew) (.cells #[.int .i64 x.1, .int .i64 x.2] 30)
            have hB43 := hBs.trans (bn43.mono hBs.size)
            have h843 : RI kPt 30 (v8.drew.alloc (.cells #[.int .i64 x.1, .int .i64 x.2] 30)) v8.drew.heap.size (v8.drew.alloc (.cells #[.int .i64 x.1, .int .i64 x.2] 30)).heap.size (.slice (some ⟨v8.drew.heap.size, 0, none⟩) 1 1) [x] := RI.of (litR1 v8.drew x)
            have sz43 : v8.drew.heap.size < (v8.drew.alloc (.cells #[.int .i64 x.1, .int .i64 x.2] 30)).heap.size := by simp
            generalize (v8.drew.alloc (.cells #[.int .i64 x.1, .int .i64 x.2] 30)) = wz43 at *
            refine cgTwo [0, 1, 3, 4, 6, 7, 8, 9, 10, 11, 14, 2, 5, 12, 13, 15] HT ?b44_0 ?b44_1
            case b44_0 =>
              refine cgE_k (w1 := (wz43.alloc (.cells #[] 30))) (v := .slice (some ⟨wz43.heap.size, 0, none⟩) 0 0) (fun HD45 => ?_) (hrun := by first | (go_simp; done) | (go_simp; rfl)) (hS := HD43.to bl)
              have bn45 := below_alloc (Below.refl wz43.heap.size wz43) (.cells #[] 30)
              have hB45 := hB43.trans (bn45.mono hB43.size)
              have h845 := h843.below bn45
              have hO45 : kPt.R 30 (wz43.alloc (.cells #[] 30)) v8.heap.size (fun _ => True) (.slice (some ⟨wz43.heap.size, 0, none⟩) 0 0) [] := lit0 wz43 v8.heap.size hB43.size
              have ne45 : wz43.heap.size ≤ wz43.heap.size := by first | omega | (simp; done) | (simp; omega) | (simp at *; omega)
              have sz45 : wz43.heap.size < (wz43.alloc (.cells #[] 30)).heap.size := by simp
              generalize (wz43.alloc (.cells #[] 30)) = wz45 at *
              refine cgTwo [0, 1, 3, 4, 6, 7, 8, 9, 10, 11, 2, 14, 5, 12, 13, 15] HT ?b46_0 ?b46_1
              case b46_0 =>
                refine cgApp_k (w0 := v8) (base := v8.heap.size) (.tmp 56) (.tmp 58) _ [] p (some ad) p.length c1 HD45 hO45 (Kd.C_below hC_ hB45) hB45 hB45.size (by simp; omega) (fun x hx e_ => by have := Kd.R_base hO45 _ e_.symm; simp only [List.mem_cons, List.mem_nil_iff, or_false] at hx; rcases hx with rfl | rfl | rfl | rfl <;> simp only [] at this <;> omega) ?_
                intro A47_ c47_ u47 hO47 hB47 HD47 hgr47
                rw [EP.out] at hO47 ⊢
                refine cgN ?_
                have h847 := RI_grown h845 hgr47 (fun g_ e_ => by have e2 : wz43.heap.size = g_ := (by simpa [Value.ownBlock] using e_); subst e2; exact Or.inr ne45)
                refine cgTwo [0, 1, 3, 4, 6, 7, 8, 9, 10, 11, 2, 5, 14, 12, 13, 15] HT ?b48_0 ?b48_1
                case b48_0 =>
                  refine cgApp_k (w0 := v8) (base := v8.heap.size) (.tmp 59) (.tmp 65) _ ([] ++ p) [x] (some ⟨v8.drew.heap.size, 0, none⟩) 1 1 HD47 hO47 h847.rd.2.2 hB47 hB47.size (by simp; omega) (fun x hx e_ => by have := Kd.R_base hO47 _ e_.symm; simp only [List.mem_cons, List.mem_nil_iff, or_false] at hx; rcases hx with rfl | rfl | rfl | rfl <;> simp only [] at this <;> omega) ?_
                  intro A49_ c49_ u49 hO49 hB49 HD49 hgr49
                  rw [EX.out] at hO49 ⊢
                  refine cgN ?_
                  repeat ((with_reducible refine cgGate ?_); first | refine cgP HT ?_ | refine cgL HT ?_ | refine cgG HT ?_)
                  refine cgE (w1 := (u49.alloc (.cells #[.int .i64 0, .slice none 0 0] 25))) (v := .pointer (some ⟨u49.heap.size, 0, none⟩)) HT (fun HD50 => ?_) (hrun := by first | (go_simp; done) | (go_simp; rfl)) (hS := HD49.to bl)
                  have bn50 := below_alloc (Below.refl u49.heap.size u49) (.cells #[.int .i64 0, .slice none 0 0] 25)
                  have hB50 := hB49.trans (bn50.mono hB49.size)
                  have hO50 := Kd.R_below hO49 bn50
                  have fg50 : B2 (u49.alloc (.cells #[.int .i64 0, .slice none 0 0] 25)) u49.heap.size 25 (.int .i64 0) (.slice none 0 0) := B2.new u49
                  have hg50 : v8.heap.size ≤ u49.heap.size := hB49.size
                  have sz50 : u49.heap.size < (u49.alloc (.cells #[.int .i64 0, .slice none 0 0] 25)).heap.size := by simp
                  generalize (u49.alloc (.cells #[.int .i64 0, .slice none 0 0] 25)) = wz50 at *
                  generalize u49.heap.size = gg50 at *
                  obtain ⟨f0, f1, f2, f3, f4⟩ := fg50.f
                  refine cgLast HT ?_
                  refine cgDone HT ?_
                  have ho9 := Kd.R_set (Kd.R_set hO50 fg50 (by decide) 0 (.int .i64 K)) (fg50.set0 (.int .i64 K)) (by decide) 1 (.slice A49_ (p.length + 1) c49_)
                  have U9 := fg50.set (.int .i64 K) (.slice A49_ (p.length + 1) c49_)
                  have B9 : Below v8.heap.size v8 ((wz50.setCell ⟨gg50, 0, none⟩ (.int .i64 K)).setCell ⟨gg50, 1, none⟩ (.slice A49_ (p.length + 1) c49_)) := (hB50.setCell hg50 _).setCell hg50 _
                  have ku := (Kd.R_reads' ho9).2.2
                  rw [EX.out] at ku
                  go_wp2
                  go_meet
                  case rel => exact ⟨_, A49_, c49_, rfl, ⟨ku⟩, ⟨U9⟩, ⟨B9⟩⟩
                case b48_1 =>
                  refine cgE_k (w1 := (u47.alloc (.cells #[.int .i64 0, .slice none 0 0] 25))) (v := .pointer (some ⟨u47.heap.size, 0, none⟩)) (fun HD51 => ?_) (hrun := by first | (go_simp; done) | (go_simp; rfl)) (hS := HD47.to bl)
                  have bn51 := below_alloc (Below.refl u47.heap.size u47) (.cells #[.int .i64 0, .slice none 0 0] 25)
                  have hB51 := hB47.trans (bn51.mono hB47.size)
                  have hO51 := Kd.R_below hO47 bn51
                  have h851 := h847.below bn51
                  have fg51 : B2 (u47.alloc (.cells #[.int .i64 0, .slice none 0 0] 25)) u47.heap.size 25 (.int .i64 0) (.slice none 0 0) := B2.new u47
                  have hg51 : v8.heap.size ≤ u47.heap.size := hB47.size
                  have sz51 : u47.heap.size < (u47.alloc (.cells #[.int .i64 0, .slice none 0 0] 25)).heap.size := by simp
                  generalize (u47.alloc (.cells #[.int .i64 0, .slice none 0 0] 25)) = wz51 at *
                  generalize u47.heap.size = gg51 at *
                  refine cgApp (w0 := v8) (base := v8.heap.size) (.tmp 59) (.tmp 65) _ ([] ++ p) [x] (some ⟨v8.drew.heap.size, 0, none⟩) 1 1 HT HD51 hO51 h851.rd.2.2 hB51 hB51.size (by simp; omega) (fun x hx e_ => by have := Kd.R_base hO51 _ e_.symm; simp only [List.mem_cons, List.mem_nil_iff, or_false] at hx; rcases hx with rfl | rfl | rfl | rfl <;> simp only [] at this <;> omega) ?_
                  intro A52_ c52_ u52 hO52 hB52 HD52 hgr52
                  rw [EX.out] at hO52 ⊢
                  refine cgN ?_
                  have fg52 := fg51.grown hgr52 (Kd.R_ne hO51 fg51 (by decide))
                  repeat ((with_reducible refine cgGate ?_); first | refine cgP HT ?_ | refine cgL HT ?_ | refine cgG HT ?_)
                  obtain ⟨f0, f1, f2, f3, f4⟩ := fg52.f
                  refine cgLast HT ?_
                  refine cgDone HT ?_
                  have ho9 := Kd.R_set (Kd.R_set hO52 fg52 (by decide) 0 (.int .i64 K)) (fg52.set0 (.int .i64 K)) (by decide) 1 (.slice A52_ (p.length + 1) c52_)
                  have U9 := fg52.set (.int .i64 K) (.slice A52_ (p.length + 1) c52_)
                  have B9 : Below v8.heap.size v8 ((u52.setCell ⟨gg51, 0, none⟩ (.int .i64 K)).setCell ⟨gg51, 1, none⟩ (.slice A52_ (p.length + 1) c52_)) := (hB52.setCell hg51 _).setCell hg51 _
                  have ku := (Kd.R_reads' ho9).2.2
                  rw [EX.out] at ku
                  go_wp2
                  go_meet
                  case rel => exact ⟨_, A52_, c52_, rfl, ⟨ku⟩, ⟨U9⟩, ⟨B9⟩⟩
              case b46_1 =>
                refine cgE_k (w1 := (wz45.alloc (.cells #[.int .i64 0, .slice none 0 0] 25))) (v := .pointer (some ⟨wz45.heap.size, 0, none⟩)) (fun HD53 => ?_) (hrun := by first | (go_simp; done) | (go_simp; rfl)) (hS := HD45.to bl)
                have bn53 := below_alloc (Below.refl wz45.heap.size wz45) (.cells #[.int .i64 0, .slice none 0 0] 25)
                have hB53 := hB45.trans (bn53.mono hB45.size)
                have hO53 := Kd.R_below hO45 bn53
                have h853 := h845.below bn53
                have fg53 : B2 (wz45.alloc (.cells #[.int .i64 0, .slice none 0 0] 25)) wz45.heap.size 25 (.int .i64 0) (.slice none 0 0) := B2.new wz45
                have hg53 : v8.heap.size ≤ wz45.heap.size := hB45.size
                have sz53 : wz45.heap.size < (wz45.alloc (.cells #[.int .i64 0, .slice none 0 0] 25)).heap.size := by simp
                generalize (wz45.alloc (.cells #[.int .i64 0, .slice none 0 0] 25)) = wz53 at *
                generalize wz45.heap.size = gg53 at *
                refine cgApp (w0 := v8) (base := v8.heap.size) (.tmp 56) (.tmp 58) _ [] p (some ad) p.length c1 HT HD53 hO53 (Kd.C_below hC_ hB53) hB53 hB53.size (by simp; omega) (fun x hx e_ => by have := Kd.R_base hO53 _ e_.symm; simp only [List.mem_cons, List.mem_nil_iff, or_false] at hx; rcases hx with rfl | rfl | rfl | rfl <;> simp only [] at this <;> omega) ?_
                intro A54_ c54_ u54 hO54 hB54 HD54 hgr54
                rw [EP.out] at hO54 ⊢
                refine cgN ?_
                have h854 := RI_grown h853 hgr54 (fun g_ e_ => by have e2 : wz43.heap.size = g_ := (by simpa [Value.ownBlock] using e_); subst e2; exact Or.inr ne45)
                have fg54 := fg53.grown hgr54 (Kd.R_ne hO53 fg53 (by decide))
                refine cgApp (w0 := v8) (base := v8.heap.size) (.tmp 59) (.tmp 65) _ ([] ++ p) [x] (some ⟨v8.drew.heap.size, 0, none⟩) 1 1 HT HD54 hO54 h854.rd.2.2 hB54 hB54.size (by simp; omega) (fun x hx e_ => by have := Kd.R_base hO54 _ e_.symm; simp only [List.mem_cons, List.mem_nil_iff, or_false] at hx; rcases hx with rfl | rfl | rfl | rfl <;> simp only [] at this <;> omega) ?_
                intro A55_ c55_ u55 hO55 hB55 HD55 hgr55
                rw [EX.out] at hO55 ⊢
                refine cgN ?_
                have fg55 := fg54.grown hgr55 (Kd.R_ne hO54 fg54 (by decide))
                repeat ((with_reducible refine cgGate ?_); first | refine cgP HT ?_ | refine cgL HT ?_ | refine cgG HT ?_)
                obtain ⟨f0, f1, f2, f3, f4⟩ := fg55.f
                refine cgLast HT ?_
                refine cgDone HT ?_
                have ho9 := Kd.R_set (Kd.R_set hO55 fg55 (by decide) 0 (.int .i64 K)) (fg55.set0 (.int .i64 K)) (by decide) 1 (.slice A55_ (p.length + 1) c55_)
                have U9 := fg55.set (.int .i64 K) (.slice A55_ (p.length + 1) c55_)
                have B9 : Below v8.heap.size v8 ((u55.setCell ⟨gg53, 0, none⟩ (.int .i64 K)).setCell ⟨gg53, 1, none⟩ (.slice A55_ (p.length + 1) c55_)) := (hB55.setCell hg53 _).setCell hg53 _
                have ku := (Kd.R_reads' ho9).2.2
                rw [EX.out] at ku
                go_wp2
                go_meet
                case rel => exact ⟨_, A55_, c55_, rfl, ⟨ku⟩, ⟨U9⟩, ⟨B9⟩⟩
            case b44_1 =>
              refine cgE_k (w1 := (wz43.alloc (.cells #[.int .i64 0, .slice none 0 0] 25))) (v := .pointer (some ⟨wz43.heap.size, 0, none⟩)) (fun HD56 => ?_) (hrun := by first | (go_simp; done) | (go_simp; rfl)) (hS := HD43.to bl)
              have bn56 := below_alloc (Below.refl wz43.heap.size wz43) (.cells #[.int .i64 0, .slice none 0 0] 25)
              have hB56 := hB43.trans (bn56.mono hB43.size)
              have h856 := h843.below bn56
              have fg56 : B2 (wz43.alloc (.cells #[.int .i64 0, .slice none 0 0] 25)) wz43.heap.size 25 (.int .i64 0) (.slice none 0 0) := B2.new wz43
              have hg56 : v8.heap.size ≤ wz43.heap.size := hB43.size
              have sz56 : wz43.heap.size < (wz43.alloc (.cells #[.int .i64 0, .slice none 0 0] 25)).heap.size := by simp
              generalize (wz43.alloc (.cells #[.int .i64 0, .slice none 0 0] 25)) = wz56 at *
              generalize wz43.heap.size = gg56 at *
              refine cgE (w1 := (wz56.alloc (.cells #[] 30))) (v := .slice (some ⟨wz56.heap.size, 0, none⟩) 0 0) HT (fun HD57 => ?_) (hrun := by first | (go_simp; done) | (go_simp; rfl)) (hS := HD56.to bl)
              have bn57 := below_alloc (Below.refl wz56.heap.size wz56) (.cells #[] 30)
              have hB57 := hB56.trans (bn57.mono hB56.size)
              have h857 := h856.below bn57
              have fg57 := fg56.to bn57
              have hO57 : kPt.R 30 (wz56.alloc (.cells #[] 30)) v8.heap.size (fun _ => True) (.slice (some ⟨wz56.heap.size, 0, none⟩) 0 0) [] := lit0 wz56 v8.heap.size hB56.size
              have ne57 : gg56 ≤ wz56.heap.size := by first | omega | (simp; done) | (simp; omega) | (simp at *; omega)
              have sz57 : wz56.heap.size < (wz56.alloc (.cells #[] 30)).heap.size := by simp
              generalize (wz56.alloc (.cells #[] 30)) = wz57 at *
              refine cgApp (w0 := v8) (base := v8.heap.size) (.tmp 56) (.tmp 58) _ [] p (some ad) p.length c1 HT HD57 hO57 (Kd.C_below hC_ hB57) hB57 hB57.size (by simp; omega) (fun x hx e_ => by have := Kd.R_base hO57 _ e_.symm; simp only [List.mem_cons, List.mem_nil_iff, or_false] at hx; rcases hx with rfl | rfl | rfl | rfl <;> simp only [] at this <;> omega) ?_
              intro A58_ c58_ u58 hO58 hB58 HD58 hgr58
              rw [EP.out] at hO58 ⊢
              refine cgN ?_
              have h858 := RI_grown h857 hgr58 (fun g_ e_ => by have e2 : wz56.heap.size = g_ := (by simpa [Value.ownBlock] using e_); subst e2; exact Or.inr ne57)
              have fg58 := fg57.grown hgr58 (Kd.R_ne hO57 fg57 (by decide))
              refine cgApp (w0 := v8) (base := v8.heap.size) (.tmp 59) (.tmp 65) _ ([] ++ p) [x] (some ⟨v8.drew.heap.size, 0, none⟩) 1 1 HT HD58 hO58 h858.rd.2.2 hB58 hB58.size (by simp; omega) (fun x hx e_ => by have := Kd.R_base hO58 _ e_.symm; simp only [List.mem_cons, List.mem_nil_iff, or_false] at hx; rcases hx with rfl | rfl | rfl | rfl <;> simp only [] at this <;> omega) ?_
              intro A59_ c59_ u59 hO59 hB59 HD59 hgr59
              rw [EX.out] at hO59 ⊢
              refine cgN ?_
              have fg59 := fg58.grown hgr59 (Kd.R_ne hO58 fg58 (by decide))
              repeat ((with_reducible refine cgGate ?_); first | refine cgP HT ?_ | refine cgL HT ?_ | refine cgG HT ?_)
              obtain ⟨f0, f1, f2, f3, f4⟩ := fg59.f
              refine cgLast HT ?_
              refine cgDone HT ?_
              have ho9 := Kd.R_set (Kd.R_set hO59 fg59 (by decide) 0 (.int .i64 K)) (fg59.set0 (.int .i64 K)) (by decide) 1 (.slice A59_ (p.length + 1) c59_)
              have U9 := fg59.set (.int .i64 K) (.slice A59_ (p.length + 1) c59_)
              have B9 : Below v8.heap.size v8 ((u59.setCell ⟨gg56, 0, none⟩ (.int .i64 K)).setCell ⟨gg56, 1, none⟩ (.slice A59_ (p.length + 1) c59_)) := (hB59.setCell hg56 _).setCell hg56 _
              have ku := (Kd.R_reads' ho9).2.2
              rw [EX.out] at ku
              go_wp2
              go_meet
              case rel => exact ⟨_, A59_, c59_, rfl, ⟨ku⟩, ⟨U9⟩, ⟨B9⟩⟩
          case b10_2 =>
            refine cgE_k (w1 := (v8.drew.alloc (.cells #[.int .i64 0, .slice none 0 0] 25))) (v := .pointer (some ⟨v8.drew.heap.size, 0, none⟩)) (fun HD60 => ?_) (hrun := by first | (go_simp; done) | (go_simp; rfl)) (hS := HDs.to bl)
            have bn60 := below_alloc (Below.refl v8.drew.heap.size v8.drew) (.cells #[.int .i64 0, .slice none 0 0] 25)
            have hB60 := hBs.trans (bn60.mono hBs.size)
            have fg60 : B2 (v8.drew.alloc (.cells #[.int .i64 0, .slice none 0 0] 25)) v8.drew.heap.size 25 (.int .i64 0) (.slice none 0 0) := B2.new v8.drew
            have hg60 : v8.heap.size ≤ v8.drew.heap.size := hBs.size
            have sz60 : v8.drew.heap.size < (v8.drew.alloc (.cells #[.int .i64 0, .slice none 0 0] 25)).heap.size := by simp
            generalize (v8.drew.alloc (.cells #[.int .i64 0, .slice none 0 0] 25)) = wz60 at *
            generalize v8.drew.heap.size = gg60 at *
            refine cgTwo [0, 1, 3, 4, 6, 7, 8, 9, 10, 14, 11, 2, 5, 12, 13, 15] HT ?b61_0 ?b61_1
            case b61_0 =>
              refine cgE_k (w1 := (wz60.alloc (.cells #[] 30))) (v := .slice (some ⟨wz60.heap.size, 0, none⟩) 0 0) (fun HD62 => ?_) (hrun := by first | (go_simp; done) | (go_simp; rfl)) (hS := HD60.to bl)
              have bn62 := below_alloc (Below.refl wz60.heap.size wz60) (.cells #[] 30)
              have hB62 := hB60.trans (bn62.mono hB60.size)
              have fg62 := fg60.to bn62
              have hO62 : kPt.R 30 (wz60.alloc (.cells #[] 30)) v8.heap.size (fun _ => True) (.slice (some ⟨wz60.heap.size, 0, none⟩) 0 0) [] := lit0 wz60 v8.heap.size hB60.size
              have sz62 : wz60.heap.size < (wz60.alloc (.cells #[] 30)).heap.size := by simp
              generalize (wz60.alloc (.cells #[] 30)) = wz62 at *
              refine cgTwo [0, 1, 3, 4, 6, 7, 8, 9, 10, 14, 2, 11, 5, 12, 13, 15] HT ?b63_0 ?b63_1
              case b63_0 =>
                refine cgApp_k (w0 := v8) (base := v8.heap.size) (.tmp 56) (.tmp 58) _ [] p (some ad) p.length c1 HD62 hO62 (Kd.C_below hC_ hB62) hB62 hB62.size (by simp; omega) (fun x hx e_ => by have := Kd.R_base hO62 _ e_.symm; simp only [List.mem_cons, List.mem_nil_iff, or_false] at hx; rcases hx with rfl | rfl | rfl | rfl <;> simp only [] at this <;> omega) ?_
                intro A64_ c64_ u64 hO64 hB64 HD64 hgr64
                rw [EP.out] at hO64 ⊢
                refine cgN ?_
                have fg64 := fg62.grown hgr64 (Kd.R_ne hO62 fg62 (by decide))
                refine cgE (w1 := (u64.alloc (.cells #[.int .i64 x.1, .int .i64 x.2] 30))) (v := .slice (some ⟨u64.heap.size, 0, none⟩) 1 1) HT (fun HD65 => ?_) (hrun := by first | (go_simp; done) | (go_simp; rfl)) (hS := HD64.to bl)
                have bn65 := below_alloc (Below.refl u64.heap.size u64) (.cells #[.int .i64 x.1, .int .i64 x.2] 30)
                have hB65 := hB64.trans (bn65.mono hB64.size)
                have hO65 := Kd.R_below hO64 bn65
                have fg65 := fg64.to bn65
                have h865 : RI kPt 30 (u64.alloc (.cells #[.int .i64 x.1, .int .i64 x.2] 30)) u64.heap.size (u64.alloc (.cells #[.int .i64 x.1, .int .i64 x.2] 30)).heap.size (.slice (some ⟨u64.heap.size, 0, none⟩) 1 1) [x] := RI.of (litR1 u64 x)
                have sz65 : u64.heap.size < (u64.alloc (.cells #[.int .i64 x.1, .int .i64 x.2] 30)).heap.size := by simp
                generalize (u64.alloc (.cells #[.int .i64 x.1, .int .i64 x.2] 30)) = wz65 at *
                refine cgApp (w0 := v8) (base := v8.heap.size) (.tmp 59) (.tmp 65) _ ([] ++ p) [x] (some ⟨u64.heap.size, 0, none⟩) 1 1 HT HD65 hO65 h865.rd.2.2 hB65 hB65.size (by simp; omega) (fun x hx e_ => by have := Kd.R_base hO65 _ e_.symm; simp only [List.mem_cons, List.mem_nil_iff, or_false] at hx; rcases hx with rfl | rfl | rfl | rfl <;> simp only [] at this <;> omega) ?_
                intro A66_ c66_ u66 hO66 hB66 HD66 hgr66
                rw [EX.out] at hO66 ⊢
                refine cgN ?_
                have fg66 := fg65.grown hgr66 (Kd.R_ne hO65 fg65 (by decide))
                repeat ((with_reducible refine cgGate ?_); first | refine cgP HT ?_ | refine cgL HT ?_ | refine cgG HT ?_)
                obtain ⟨f0, f1, f2, f3, f4⟩ := fg66.f
                refine cgLast HT ?_
                refine cgDone HT ?_
                have ho9 := Kd.R_set (Kd.R_set hO66 fg66 (by decide) 0 (.int .i64 K)) (fg66.set0 (.int .i64 K)) (by decide) 1 (.slice A66_ (p.length + 1) c66_)
                have U9 := fg66.set (.int .i64 K) (.slice A66_ (p.length + 1) c66_)
                have B9 : Below v8.heap.size v8 ((u66.setCell ⟨gg60, 0, none⟩ (.int .i64 K)).setCell ⟨gg60, 1, none⟩ (.slice A66_ (p.length + 1) c66_)) := (hB66.setCell hg60 _).setCell hg60 _
                have ku := (Kd.R_reads' ho9).2.2
                rw [EX.out] at ku
                go_wp2
                go_meet
                case rel => exact ⟨_, A66_, c66_, rfl, ⟨ku⟩, ⟨U9⟩, ⟨B9⟩⟩
              case b63_1 =>
                refine cgE_k (w1 := (wz62.alloc (.cells #[.int .i64 x.1, .int .i64 x.2] 30))) (v := .slice (some ⟨wz62.heap.size, 0, none⟩) 1 1) (fun HD67 => ?_) (hrun := by first | (go_simp; done) | (go_simp; rfl)) (hS := HD62.to bl)
                have bn67 := below_alloc (Below.refl wz62.heap.size wz62) (.cells #[.int .i64 x.1, .int .i64 x.2] 30)
                have hB67 := hB62.trans (bn67.mono hB62.size)
                have hO67 := Kd.R_below hO62 bn67
                have fg67 := fg62.to bn67
                have h867 : RI kPt 30 (wz62.alloc (.cells #[.int .i64 x.1, .int .i64 x.2] 30)) wz62.heap.size (wz62.alloc (.cells #[.int .i64 x.1, .int .i64 x.2] 30)).heap.size (.slice (some ⟨wz62.heap.size, 0, none⟩) 1 1) [x] := RI.of (litR1 wz62 x)
                have ne67 : wz60.heap.size < wz62.heap.size := by first | omega | (simp; done) | (simp; omega) | (simp at *; omega)
                have sz67 : wz62.heap.size < (wz62.alloc (.cells #[.int .i64 x.1, .int .i64 x.2] 30)).heap.size := by simp
                generalize (wz62.alloc (.cells #[.int .i64 x.1, .int .i64 x.2] 30)) = wz67 at *
                refine cgApp (w0 := v8) (base := v8.heap.size) (.tmp 56) (.tmp 58) _ [] p (some ad) p.length c1 HT HD67 hO67 (Kd.C_below hC_ hB67) hB67 hB67.size (by simp; omega) (fun x hx e_ => by have := Kd.R_base hO67 _ e_.symm; simp only [List.mem_cons, List.mem_nil_iff, or_false] at hx; rcases hx with rfl | rfl | rfl | rfl <;> simp only [] at this <;> omega) ?_
                intro A68_ c68_ u68 hO68 hB68 HD68 hgr68
                rw [EP.out] at hO68 ⊢
                refine cgN ?_
                have h868 := RI_grown h867 hgr68 (fun g_ e_ => by have e2 : wz60.heap.size = g_ := (by simpa [Value.ownBlock] using e_); subst e2; exact Or.inl ne67)
                have fg68 := fg67.grown hgr68 (Kd.R_ne hO67 fg67 (by decide))
                refine cgApp (w0 := v8) (base := v8.heap.size) (.tmp 59) (.tmp 65) _ ([] ++ p) [x] (some ⟨wz62.heap.size, 0, none⟩) 1 1 HT HD68 hO68 h868.rd.2.2 hB68 hB68.size (by simp; omega) (fun x hx e_ => by have := Kd.R_base hO68 _ e_.symm; simp only [List.mem_cons, List.mem_nil_iff, or_false] at hx; rcases hx with rfl | rfl | rfl | rfl <;> simp only [] at this <;> omega) ?_
                intro A69_ c69_ u69 hO69 hB69 HD69 hgr69
                rw [EX.out] at hO69 ⊢
                refine cgN ?_
                have fg69 := fg68.grown hgr69 (Kd.R_ne hO68 fg68 (by decide))
                repeat ((with_reducible refine cgGate ?_); first | refine cgP HT ?_ | refine cgL HT ?_ | refine cgG HT ?_)
                obtain ⟨f0, f1, f2, f3, f4⟩ := fg69.f
                refine cgLast HT ?_
                refine cgDone HT ?_
                have ho9 := Kd.R_set (Kd.R_set hO69 fg69 (by decide) 0 (.int .i64 K)) (fg69.set0 (.int .i64 K)) (by decide) 1 (.slice A69_ (p.length + 1) c69_)
                have U9 := fg69.set (.int .i64 K) (.slice A69_ (p.length + 1) c69_)
                have B9 : Below v8.heap.size v8 ((u69.setCell ⟨gg60, 0, none⟩ (.int .i64 K)).setCell ⟨gg60, 1, none⟩ (.slice A69_ (p.length + 1) c69_)) := (hB69.setCell hg60 _).setCell hg60 _
                have ku := (Kd.R_reads' ho9).2.2
                rw [EX.out] at ku
                go_wp2
                go_meet
                case rel => exact ⟨_, A69_, c69_, rfl, ⟨ku⟩, ⟨U9⟩, ⟨B9⟩⟩
            case b61_1 =>
              refine cgE_k (w1 := (wz60.alloc (.cells #[.int .i64 x.1, .int .i64 x.2] 30))) (v := .slice (some ⟨wz60.heap.size, 0, none⟩) 1 1) (fun HD70 => ?_) (hrun := by first | (go_simp; done) | (go_simp; rfl)) (hS := HD60.to bl)
              have bn70 := below_alloc (Below.refl wz60.heap.size wz60) (.cells #[.int .i64 x.1, .int .i64 x.2] 30)
              have hB70 := hB60.trans (bn70.mono hB60.size)
              have fg70 := fg60.to bn70
              have h870 : RI kPt 30 (wz60.alloc (.cells #[.int .i64 x.1, .int .i64 x.2] 30)) wz60.heap.size (wz60.alloc (.cells #[.int .i64 x.1, .int .i64 x.2] 30)).heap.size (.slice (some ⟨wz60.heap.size, 0, none⟩) 1 1) [x] := RI.of (litR1 wz60 x)
              have sz70 : wz60.heap.size < (wz60.alloc (.cells #[.int .i64 x.1, .int .i64 x.2] 30)).heap.size := by simp
              generalize (wz60.alloc (.cells #[.int .i64 x.1, .int .i64 x.2] 30)) = wz70 at *
              refine cgE (w1 := (wz70.alloc (.cells #[] 30))) (v := .slice (some ⟨wz70.heap.size, 0, none⟩) 0 0) HT (fun HD71 => ?_) (hrun := by first | (go_simp; done) | (go_simp; rfl)) (hS := HD70.to bl)
              have bn71 := below_alloc (Below.refl wz70.heap.size wz70) (.cells #[] 30)
              have hB71 := hB70.trans (bn71.mono hB70.size)
              have h871 := h870.below bn71
              have fg71 := fg70.to bn71
              have hO71 : kPt.R 30 (wz70.alloc (.cells #[] 30)) v8.heap.size (fun _ => True) (.slice (some ⟨wz70.heap.size, 0, none⟩) 0 0) [] := lit0 wz70 v8.heap.size hB70.size
              have ne71 : wz70.heap.size ≤ wz70.heap.size := by first | omega | (simp; done) | (simp; omega) | (simp at *; omega)
              have sz71 : wz70.heap.size < (wz70.alloc (.cells #[] 30)).heap.size := by simp
              generalize (wz70.alloc (.cells #[] 30)) = wz71 at *
              refine cgApp (w0 := v8) (base := v8.heap.size) (.tmp 56) (.tmp 58) _ [] p (some ad) p.length c1 HT HD71 hO71 (Kd.C_below hC_ hB71) hB71 hB71.size (by simp; omega) (fun x hx e_ => by have := Kd.R_base hO71 _ e_.symm; simp only [List.mem_cons, List.mem_nil_iff, or_false] at hx; rcases hx with rfl | rfl | rfl | rfl <;> simp only [] at this <;> omega) ?_
              intro A72_ c72_ u72 hO72 hB72 HD72 hgr72
              rw [EP.out] at hO72 ⊢
              refine cgN ?_
              have h872 := RI_grown h871 hgr72 (fun g_ e_ => by have e2 : wz70.heap.size = g_ := (by simpa [Value.ownBlock] using e_); subst e2; exact Or.inr ne71)
              have fg72 := fg71.grown hgr72 (Kd.R_ne hO71 fg71 (by decide))
              refine cgApp (w0 := v8) (base := v8.heap.size) (.tmp 59) (.tmp 65) _ ([] ++ p) [x] (some ⟨wz60.heap.size, 0, none⟩) 1 1 HT HD72 hO72 h872.rd.2.2 hB72 hB72.size (by simp; omega) (fun x hx e_ => by have := Kd.R_base hO72 _ e_.symm; simp only [List.mem_cons, List.mem_nil_iff, or_false] at hx; rcases hx with rfl | rfl | rfl | rfl <;> simp only [] at this <;> omega) ?_
              intro A73_ c73_ u73 hO73 hB73 HD73 hgr73
              rw [EX.out] at hO73 ⊢
              refine cgN ?_
              have fg73 := fg72.grown hgr73 (Kd.R_ne hO72 fg72 (by decide))
              repeat ((with_reducible refine cgGate ?_); first | refine cgP HT ?_ | refine cgL HT ?_ | refine cgG HT ?_)
              obtain ⟨f0, f1, f2, f3, f4⟩ := fg73.f
              refine cgLast HT ?_
              refine cgDone HT ?_
              have ho9 := Kd.R_set (Kd.R_set hO73 fg73 (by decide) 0 (.int .i64 K)) (fg73.set0 (.int .i64 K)) (by decide) 1 (.slice A73_ (p.length + 1) c73_)
              have U9 := fg73.set (.int .i64 K) (.slice A73_ (p.length + 1) c73_)
              have B9 : Below v8.heap.size v8 ((u73.setCell ⟨gg60, 0, none⟩ (.int .i64 K)).setCell ⟨gg60, 1, none⟩ (.slice A73_ (p.length + 1) c73_)) := (hB73.setCell hg60 _).setCell hg60 _
              have ku := (Kd.R_reads' ho9).2.2
              rw [EX.out] at ku
              go_wp2
              go_meet
              case rel => exact ⟨_, A73_, c73_, rfl, ⟨ku⟩, ⟨U9⟩, ⟨B9⟩⟩
        case rest =>
          obtain ⟨gb, Ab, cb, rfl, ⟨kb⟩, ⟨bb⟩, ⟨B89⟩⟩ := hcut
          generalize wc = v9 at *
          replace HC := HC.to B89
          clear h0 h1 e0 e1
          obtain ⟨h0, h1, _⟩ := HC.all
          have hC9 := Kd.C_below hC_ B89
          have ka9 := Kd.C_below ka B89
          have ba9 := ba2.to B89
          have Bw9 : Below w.heap.size w v9 := Bw8.trans (B89.mono Bw8.size)
          clear hC_ ka ba2 B89 Bw8 z8 zad EX
          go_upto_region 11 with (fail)
          have b10 : Below v9.heap.size v9 (v9.alloc (.cells #[.int .i64 4, .slice (some ad) p.length c1] 25)) := below_alloc (Below.refl _ _) _
          have bc : B2 (v9.alloc (.cells #[.int .i64 4, .slice (some ad) p.length c1] 25)) v9.heap.size 25 (.int .i64 4) (.slice (some ad) p.length c1) := B2.new v9
          replace HC := HC.to b10
          have hC_ := Kd.C_below hC9 b10
          have ka := Kd.C_below ka9 b10
          have kb2 := Kd.C_below kb b10
          have ba2 := ba9.to b10
          have bb2 := bb.to b10
          have Bw10 := Bw9.trans (b10.mono Bw9.size)
          clear hC9 ka9 kb ba9 bb b10 Bw9
          generalize v9.alloc (.cells #[.int .i64 4, .slice (some ad) p.length c1] 25) = v10 at *
          clear h0 h1
          obtain ⟨h0, h1, _⟩ := HC.all
          have z8 : w1.heap.size < v10.heap.size := World.block_lt_of_cell? _ _ h0
          obtain ⟨ad2, e2, e0, e1⟩ := at_Pt0 hC_ hpos
          cases e2
          have zad : ad.block < v10.heap.size := World.block_lt_of_cell? _ _ e0
          generalize x = xl at *
          clear x
          have EX := Lib.hid (show (([] ++ p) ++ [p[0]]).length = p.length + 1 from List.length_append)
          generalize p[0] = x at *
          go_cut [8] (fun q8 wc => ∃ (g : Nat) (A9 : Option Addr) (c9 : Nat), q8 = .pointer (some ⟨g, 0, none⟩) ∧ Aside0 (kPt.C wc A9 (p.length + 1) (p ++ [x])) ∧ Aside0 (B2 wc g 25 (.int .i64 3) (.slice A9 (p.length + 1) c9)) ∧ Aside0 (Below v10.heap.size v10 wc))
          case first =>
            refine cgStart 13 [1, 2, 4, 5, 6, 7, 0, 3, 8, 9, 10, 11, 12] [12] [(⟨w1.heap.size, 1, none⟩, _), (ad, _), (⟨ad.block, ad.off + 1, none⟩, _)] l_FnShapeBent_t11 ⟨h1, e0, e1, trivial⟩ (fun HT HDs => ?_)
            have hBs : Below v10.heap.size v10 v10.drew := below_drew1 (Below.refl _ _)
            repeat ((with_reducible refine cgGate ?_); first | refine cgP HT ?_ | refine cgL HT ?_ | refine cgG HT ?_)
            refine cgThree [1, 2, 4, 5, 6, 7, 8, 0, 3, 9, 10, 11, 12] [1, 2, 4, 5, 6, 7, 11, 0, 3, 8, 9, 10, 12] HT ?b74_0 ?b74_1 ?b74_2
            case b74_0 =>
              refine cgE_k (w1 := (v10.drew.alloc (.cells #[] 30))) (v := .slice (some ⟨v10.drew.heap.size, 0, none⟩) 0 0) (fun HD75 => ?_) (hrun := by first | (go_simp; done) | (go_simp; rfl)) (hS := HDs.to bl)
              have bn75 := below_alloc (Below.refl v10.drew.heap.size v10.drew) (.cells #[] 30)
              have hB75 := hBs.trans (bn75.mono hBs.size)
              have hO75 : kPt.R 30 (v10.drew.alloc (.cells #[] 30)) v10.heap.size (fun _ => True) (.slice (some ⟨v10.drew.heap.size, 0, none⟩) 0 0) [] := lit0 v10.drew v10.heap.size hBs.size
              have sz75 : v10.drew.heap.size < (v10.drew.alloc (.cells #[] 30)).heap.size := by simp
              generalize (v10.drew.alloc (.cells #[] 30)) = wz75 at *
              refine cgThree [1, 2, 4, 5, 6, 7, 0, 8, 3, 9, 10, 11, 12] [1, 2, 4, 5, 6, 7, 0, 11, 3, 8, 9, 10, 12] HT ?b76_0 ?b76_1 ?b76_2
              case b76_0 =>
                refine cgApp_k (w0 := v10) (base := v10.heap.size) (.tmp 71) (.tmp 73) _ [] p (some ad) p.length c1 HD75 hO75 (Kd.C_below hC_ hB75) hB75 hB75.size (by simp; omega) (fun x hx e_ => by have := Kd.R_base hO75 _ e_.symm; simp only [List.mem_cons, List.mem_nil_iff, or_false] at hx; rcases hx with rfl | rfl | rfl <;> simp only [] at this <;> omega) ?_
                intro A77_ c77_ u77 hO77 hB77 HD77 hgr77
                rw [EP.out] at hO77 ⊢
                refine cgN ?_
                refine cgTwo [1, 2, 4, 5, 6, 7, 0, 3, 11, 8, 9, 10, 12] HT ?b78_0 ?b78_1
                case b78_0 =>
                  refine cgE_k (w1 := (u77.alloc (.cells #[.int .i64 x.1, .int .i64 x.2] 30))) (v := .slice (some ⟨u77.heap.size, 0, none⟩) 1 1) (fun HD79 => ?_) (hrun := by first | (go_simp; done) | (go_simp; rfl)) (hS := HD77.to bl)
                  have bn79 := below_alloc (Below.refl u77.heap.size u77) (.cells #[.int .i64 x.1, .int .i64 x.2] 30)
                  have hB79 := hB77.trans (bn79.mono hB77.size)
                  have hO79 := Kd.R_below hO77 bn79
                  have h879 : RI kPt 30 (u77.alloc (.cells #[.int .i64 x.1, .int .i64 x.2] 30)) u77.heap.size (u77.alloc (.cells #[.int .i64 x.1, .int .i64 x.2] 30)).heap.size (.slice (some ⟨u77.heap.size, 0, none⟩) 1 1) [x] := RI.of (litR1 u77 x)
                  have sz79 : u77.heap.size < (u77.alloc (.cells #[.int .i64 x.1, .int .i64 x.2] 30)).heap.size := by simp
                  generalize (u77.alloc (.cells #[.int .i64 x.1, .int .i64 x.2] 30)) = wz79 at *
                  refine cgTwo [1, 2, 4, 5, 6, 7, 0, 3, 8, 11, 9, 10, 12] HT ?b80_0 ?b80_1
                  case b80_0 =>
                    refine cgApp_k (w0 := v10) (base := v10.heap.size) (.tmp 74) (.tmp 79) _ ([] ++ p) [x] (some ⟨u77.heap.size, 0, none⟩) 1 1 HD79 hO79 h879.rd.2.2 hB79 hB79.size (by simp; omega) (fun x hx e_ => by have := Kd.R_base hO79 _ e_.symm; simp only [List.mem_cons, List.mem_nil_iff, or_false] at hx; rcases hx with rfl | rfl | rfl <;> simp only [] at this <;> omega) ?_
                    intro A81_ c81_ u81 hO81 hB81 HD81 hgr81
                    rw [EX.out] at hO81 ⊢
                    refine cgN ?_
                    repeat ((with_reducible refine cgGate ?_); first | refine cgP HT ?_ | refine cgL HT ?_ | refine cgG HT ?_)
                    refine cgE (w1 := (u81.alloc (.cells #[.int .i64 0, .slice none 0 0] 25))) (v := .pointer (some ⟨u81.heap.size, 0, none⟩)) HT (fun HD82 => ?_) (hrun := by first | (go_simp; done) | (go_simp; rfl)) (hS := HD81.to bl)
                    have bn82 := below_alloc (Below.refl u81.heap.size u81) (.cells #[.int .i64 0, .slice none 0 0] 25)
                    have hB82 := hB81.trans (bn82.mono hB81.size)
                    have hO82 := Kd.R_below hO81 bn82
                    have fg82 : B2 (u81.alloc (.cells #[.int .i64 0, .slice none 0 0] 25)) u81.heap.size 25 (.int .i64 0) (.slice none 0 0) := B2.new u81
                    have hg82 : v10.heap.size ≤ u81.heap.size := hB81.size
                    have sz82 : u81.heap.size < (u81.alloc (.cells #[.int .i64 0, .slice none 0 0] 25)).heap.size := by simp
                    generalize (u81.alloc (.cells #[.int .i64 0, .slice none 0 0] 25)) = wz82 at *
                    generalize u81.heap.size = gg82 at *
                    obtain ⟨f0, f1, f2, f3, f4⟩ := fg82.f
                    refine cgLast HT ?_
                    refine cgDone HT ?_
                    have ho9 := Kd.R_set (Kd.R_set hO82 fg82 (by decide) 0 (.int .i64 3)) (fg82.set0 (.int .i64 3)) (by decide) 1 (.slice A81_ (p.length + 1) c81_)
                    have U9 := fg82.set (.int .i64 3) (.slice A81_ (p.length + 1) c81_)
                    have B9 : Below v10.heap.size v10 ((wz82.setCell ⟨gg82, 0, none⟩ (.int .i64 3)).setCell ⟨gg82, 1, none⟩ (.slice A81_ (p.length + 1) c81_)) := (hB82.setCell hg82 _).setCell hg82 _
                    have ku := (Kd.R_reads' ho9).2.2
                    rw [EX.out] at ku
                    go_wp2
                    go_meet
                    case rel => exact ⟨_, A81_, c81_, rfl, ⟨ku⟩, ⟨U9⟩, ⟨B9⟩⟩
                  case b80_1 =>
                    refine cgE_k (w1 := (wz79.alloc (.cells #[.int .i64 0, .slice none 0 0] 25))) (v := .pointer (some ⟨wz79.heap.size, 0, none⟩)) (fun HD83 => ?_) (hrun := by first | (go_simp; done) | (go_simp; rfl)) (hS := HD79.to bl)
                    have bn83 := below_alloc (Below.refl wz79.heap.size wz79) (.cells #[.int .i64 0, .slice none 0 0] 25)
                    have hB83 := hB79.trans (bn83.mono hB79.size)
                    have hO83 := Kd.R_below hO79 bn83
                    have h883 := h879.below bn83
                    have fg83 : B2 (wz79.alloc (.cells #[.int .i64 0, .slice none 0 0] 25)) wz79.heap.size 25 (.int .i64 0) (.slice none 0 0) := B2.new wz79
                    have hg83 : v10.heap.size ≤ wz79.heap.size := hB79.size
                    have sz83 : wz79.heap.size < (wz79.alloc (.cells #[.int .i64 0, .slice none 0 0] 25)).heap.size := by simp
                    generalize (wz79.alloc (.cells #[.int .i64 0, .slice none 0 0] 25)) = wz83 at *
                    generalize wz79.heap.size = gg83 at *
                    refine cgApp (w0 := v10) (base := v10.heap.size) (.tmp 74) (.tmp 79) _ ([] ++ p) [x] (some ⟨u77.heap.size, 0, none⟩) 1 1 HT HD83 hO83 h883.rd.2.2 hB83 hB83.size (by simp; omega) (fun x hx e_ => by have := Kd.R_base hO83 _ e_.symm; simp only [List.mem_cons, List.mem_nil_iff, or_false] at hx; rcases hx with rfl | rfl | rfl <;> simp only [] at this <;> omega) ?_
                    intro A84_ c84_ u84 hO84 hB84 HD84 hgr84
                    rw [EX.out] at hO84 ⊢
                    refine cgN ?_
                    have fg84 := fg83.grown hgr84 (Kd.R_ne hO83 fg83 (by decide))
                    repeat ((with_reducible refine cgGate ?_); first | refine cgP HT ?_ | refine cgL HT ?_ | refine cgG HT ?_)
                    obtain ⟨f0, f1, f2, f3, f4⟩ := fg84.f
                    refine cgLast HT ?_
                    refine cgDone HT ?_
                    have ho9 := Kd.R_set (Kd.R_set hO84 fg84 (by decide) 0 (.int .i64 3)) (fg84.set0 (.int .i64 3)) (by decide) 1 (.slice A84_ (p.length + 1) c84_)
                    have U9 := fg84.set (.int .i64 3) (.slice A84_ (p.length + 1) c84_)
                    have B9 : Below v10.heap.size v10 ((u84.setCell ⟨gg83, 0, none⟩ (.int .i64 3)).setCell ⟨gg83, 1, none⟩ (.slice A84_ (p.length + 1) c84_)) := (hB84.setCell hg83 _).setCell hg83 _
                    have ku := (Kd.R_reads' ho9).2.2
                    rw [EX.out] at ku
                    go_wp2
                    go_meet
                    case rel => exact ⟨_, A84_, c84_, rfl, ⟨ku⟩, ⟨U9⟩, ⟨B9⟩⟩
                case b78_1 =>
                  refine cgE_k (w1 := (u77.alloc (.cells #[.int .i64 0, .slice none 0 0] 25))) (v := .pointer (some ⟨u77.heap.size, 0, none⟩)) (fun HD85 => ?_) (hrun := by first | (go_simp; done) | (go_simp; rfl)) (hS := HD77.to bl)
                  have bn85 := below_alloc (Below.refl u77.heap.size u77) (.cells #[.int .i64 0, .slice none 0 0] 25)
                  have hB85 := hB77.trans (bn85.mono hB77.size)
                  have hO85 := Kd.R_below hO77 bn85
                  have fg85 : B2 (u77.alloc (.cells #[.int .i64 0, .slice none 0 0] 25)) u77.heap.size 25 (.int .i64 0) (.slice none 0 0) := B2.new u77
                  have hg85 : v10.heap.size ≤ u77.heap.size := hB77.size
                  have sz85 : u77.heap.size < (u77.alloc (.cells #[.int .i64 0, .slice none 0 0] 25)).heap.size := by simp
                  generalize (u77.alloc (.cells #[.int .i64 0, .slice none 0 0] 25)) = wz85 at *
                  generalize u77.heap.size = gg85 at *
                  refine cgE (w1 := (wz85.alloc (.cells #[.int .i64 x.1, .int .i64 x.2] 30))) (v := .slice (some ⟨wz85.heap.size, 0, none⟩) 1 1) HT (fun HD86 => ?_) (hrun := by first | (go_simp; done) | (go_simp; rfl)) (hS := HD85.to bl)
                  have bn86 := below_alloc (Below.refl wz85.heap.size wz85) (.cells #[.int .i64 x.1, .int .i64 x.2] 30)
                  have hB86 := hB85.trans (bn86.mono hB85.size)
                  have hO86 := Kd.R_below hO85 bn86
                  have fg86 := fg85.to bn86
                  have h886 : RI kPt 30 (wz85.alloc (.cells #[.int .i64 x.1, .int .i64 x.2] 30)) wz85.heap.size (wz85.alloc (.cells #[.int .i64 x.1, .int .i64 x.2] 30)).heap.size (.slice (some ⟨wz85.heap.size, 0, none⟩) 1 1) [x] := RI.of (litR1 wz85 x)
                  have sz86 : wz85.heap.size < (wz85.alloc (.cells #[.int .i64 x.1, .int .i64 x.2] 30)).heap.size := by simp
                  generalize (wz85.alloc (.cells #[.int .i64 x.1, .int .i64 x.2] 30)) = wz86 at *
                  refine cgApp (w0 := v10) (base := v10.heap.size) (.tmp 74) (.tmp 79) _ ([] ++ p) [x] (some ⟨wz85.heap.size, 0, none⟩) 1 1 HT HD86 hO86 h886.rd.2.2 hB86 hB86.size (by simp; omega) (fun x hx e_ => by have := Kd.R_base hO86 _ e_.symm; simp only [List.mem_cons, List.mem_nil_iff, or_false] at hx; rcases hx with rfl | rfl | rfl <;> simp only [] at this <;> omega) ?_
                  intro A87_ c87_ u87 hO87 hB87 HD87 hgr87
                  rw [EX.out] at hO87 ⊢
                  refine cgN ?_
                  have fg87 := fg86.grown hgr87 (Kd.R_ne hO86 fg86 (by decide))
                  repeat ((with_reducible refine cgGate ?_); first | refine cgP HT ?_ | refine cgL HT ?_ | refine cgG HT ?_)
                  obtain ⟨f0, f1, f2, f3, f4⟩ := fg87.f
                  refine cgLast HT ?_
                  refine cgDone HT ?_
                  have ho9 := Kd.R_set (Kd.R_set hO87 fg87 (by decide) 0 (.int .i64 3)) (fg87.set0 (.int .i64 3)) (by decide) 1 (.slice A87_ (p.length + 1) c87_)
                  have U9 := fg87.set (.int .i64 3) (.slice A87_ (p.length + 1) c87_)
                  have B9 : Below v10.heap.size v10 ((u87.setCell ⟨gg85, 0, none⟩ (.int .i64 3)).setCell ⟨gg85, 1, none⟩ (.slice A87_ (p.length + 1) c87_)) := (hB87.setCell hg85 _).setCell hg85 _
                  have ku := (Kd.R_reads' ho9).2.2
                  rw [EX.out] at ku
                  go_wp2
                  go_meet
                  case rel => exact ⟨_, A87_, c87_, rfl, ⟨ku⟩, ⟨U9⟩, ⟨B9⟩⟩
              case b76_1 =>
                refine cgE_k (w1 := (wz75.alloc (.cells #[.int .i64 x.1, .int .i64 x.2] 30))) (v := .slice (some ⟨wz75.heap.size, 0, none⟩) 1 1) (fun HD88 => ?_) (hrun := by first | (go_simp; done) | (go_simp; rfl)) (hS := HD75.to bl)
                have bn88 := below_alloc (Below.refl wz75.heap.size wz75) (.cells #[.int .i64 x.1, .int .i64 x.2] 30)
                have hB88 := hB75.trans (bn88.mono hB75.size)
                have hO88 := Kd.R_below hO75 bn88
                have h888 : RI kPt 30 (wz75.alloc (.cells #[.int .i64 x.1, .int .i64 x.2] 30)) wz75.heap.size (wz75.alloc (.cells #[.int .i64 x.1, .int .i64 x.2] 30)).heap.size (.slice (some ⟨wz75.heap.size, 0, none⟩) 1 1) [x] := RI.of (litR1 wz75 x)
                have ne88 : v10.drew.heap.size < wz75.heap.size := by first | omega | (simp; done) | (simp; omega) | (simp at *; omega)
                have sz88 : wz75.heap.size < (wz75.alloc (.cells #[.int .i64 x.1, .int .i64 x.2] 30)).heap.size := by simp
                generalize (wz75.alloc (.cells #[.int .i64 x.1, .int .i64 x.2] 30)) = wz88 at *
                refine cgTwo [1, 2, 4, 5, 6, 7, 0, 8, 11, 3, 9, 10, 12] HT ?b89_0 ?b89_1
                case b89_0 =>
                  refine cgApp_k (w0 := v10) (base := v10.heap.size) (.tmp 71) (.tmp 73) _ [] p (some ad) p.length c1 HD88 hO88 (Kd.C_below hC_ hB88) hB88 hB88.size (by simp; omega) (fun x hx e_ => by have := Kd.R_base hO88 _ e_.symm; simp only [List.mem_cons, List.mem_nil_iff, or_false] at hx; rcases hx with rfl | rfl | rfl <;> simp only [] at this <;> omega) ?_
                  intro A90_ c90_ u90 hO90 hB90 HD90 hgr90
                  rw [EP.out] at hO90 ⊢
                  refine cgN ?_
                  have h890 := RI_grown h888 hgr90 (fun g_ e_ => by have e2 : v10.drew.heap.size = g_ := (by simpa [Value.ownBlock] using e_); subst e2; exact Or.inl ne88)
                  refine cgTwo [1, 2, 4, 5, 6, 7, 0, 8, 3, 11, 9, 10, 12] HT ?b91_0 ?b91_1
                  case b91_0 =>
                    refine cgApp_k (w0 := v10) (base := v10.heap.size) (.tmp 74) (.tmp 79) _ ([] ++ p) [x] (some ⟨wz75.heap.size, 0, none⟩) 1 1 HD90 hO90 h890.rd.2.2 hB90 hB90.size (by simp; omega) (fun x hx e_ => by have := Kd.R_base hO90 _ e_.symm; simp only [List.mem_cons, List.mem_nil_iff, or_false] at hx; rcases hx with rfl | rfl | rfl <;> simp only [] at this <;> omega) ?_
                    intro A92_ c92_ u92 hO92 hB92 HD92 hgr92
                    rw [EX.out] at hO92 ⊢
                    refine cgN ?_
                    repeat ((with_reducible refine cgGate ?_); first | refine cgP HT ?_ | refine cgL HT ?_ | refine cgG HT ?_)
                    refine cgE (w1 := (u92.alloc (.cells #[.int .i64 0, .slice none 0 0] 25))) (v := .pointer (some ⟨u92.heap.size, 0, none⟩)) HT (fun HD93 => ?_) (hrun := by first | (go_simp; done) | (go_simp; rfl)) (hS := HD92.to bl)
                    have bn93 := below_alloc (Below.refl u92.heap.size u92) (.cells #[.int .i64 0, .slice none 0 0] 25)
                    have hB93 := hB92.trans (bn93.mono hB92.size)
                    have hO93 := Kd.R_below hO92 bn93
                    have fg93 : B2 (u92.alloc (.cells #[.int .i64 0, .slice none 0 0] 25)) u92.heap.size 25 (.int .i64 0) (.slice none 0 0) := B2.new u92
                    have hg93 : v10.heap.size ≤ u92.heap.size := hB92.size
                    have sz93 : u92.heap.size < (u92.alloc (.cells #[.int .i64 0, .slice none 0 0] 25)).heap.size := by simp
                    generalize (u92.alloc (.cells #[.int .i64 0, .slice none 0 0] 25)) = wz93 at *
                    generalize u92.heap.size = gg93 at *
                    obtain ⟨f0, f1, f2, f3, f4⟩ := fg93.f
                    refine cgLast HT ?_
                    refine cgDone HT ?_
                    have ho9 := Kd.R_set (Kd.R_set hO93 fg93 (by decide) 0 (.int .i64 3)) (fg93.set0 (.int .i64 3)) (by decide) 1 (.slice A92_ (p.length + 1) c92_)
                    have U9 := fg93.set (.int .i64 3) (.slice A92_ (p.length + 1) c92_)
                    have B9 : Below v10.heap.size v10 ((wz93.setCell ⟨gg93, 0, none⟩ (.int .i64 3)).setCell ⟨gg93, 1, none⟩ (.slice A92_ (p.length + 1) c92_)) := (hB93.setCell hg93 _).setCell hg93 _
                    have ku := (Kd.R_reads' ho9).2.2
                    rw [EX.out] at ku
                    go_wp2
                    go_meet
                    case rel => exact ⟨_, A92_, c92_, rfl, ⟨ku⟩, ⟨U9⟩, ⟨B9⟩⟩
                  case b91_1 =>
                    refine cgE_k (w1 := (u90.alloc (.cells #[.int .i64 0, .slice none 0 0] 25))) (v := .pointer (some ⟨u90.heap.size, 0, none⟩)) (fun HD94 => ?_) (hrun := by first | (go_simp; done) | (go_simp; rfl)) (hS := HD90.to bl)
                    have bn94 := below_alloc (Below.refl u90.heap.size u90) (.cells #[.int .i64 0, .slice none 0 0] 25)
                    have hB94 := hB90.trans (bn94.mono hB90.size)
                    have hO94 := Kd.R_below hO90 bn94
                    have h894 := h890.below bn94
                    have fg94 : B2 (u90.alloc (.cells #[.int .i64 0, .slice none 0 0] 25)) u90.heap.size 25 (.int .i64 0) (.slice none 0 0) := B2.new u90
                    have hg94 : v10.heap.size ≤ u90.heap.size := hB90.size
                    have sz94 : u90.heap.size < (u90.alloc (.cells #[.int .i64 0, .slice none 0 0] 25)).heap.size := by simp
                    generalize (u90.alloc (.cells #[.int .i64 0, .slice none 0 0] 25)) = wz94 at *
                    generalize u90.heap.size = gg94 at *
                    refine cgApp (w0 := v10) (base := v10.heap.size) (.tmp 74) (.tmp 79) _ ([] ++ p) [x] (some ⟨wz75.heap.size, 0, none⟩) 1 1 HT HD94 hO94 h894.rd.2.2 hB94 hB94.size (by simp; omega) (fun x hx e_ => by have := Kd.R_base hO94 _ e_.symm; simp only [List.mem_cons, List.mem_nil_iff, or_false] at hx; rcases hx with rfl | rfl | rfl <;> simp only [] at this <;> omega) ?_
                    intro A95_ c95_ u95 hO95 hB95 HD95 hgr95
                    rw [EX.out] at hO95 ⊢
                    refine cgN ?_
                    have fg95 := fg94.grown hgr95 (Kd.R_ne hO94 fg94 (by decide))
                    repeat ((with_reducible refine cgGate ?_); first | refine cgP HT ?_ | refine cgL HT ?_ | refine cgG HT ?_)
                    obtain ⟨f0, f1, f2, f3, f4⟩ := fg95.f
                    refine cgLast HT ?_
                    refine cgDone HT ?_
                    have ho9 := Kd.R_set (Kd.R_set hO95 fg95 (by decide) 0 (.int .i64 3)) (fg95.set0 (.int .i64 3)) (by decide) 1 (.slice A95_ (p.length + 1) c95_)
                    have U9 := fg95.set (.int .i64 3) (.slice A95_ (p.length + 1) c95_)
                    have B9 : Below v10.heap.size v10 ((u95.setCell ⟨gg94, 0, none⟩ (.int .i64 3)).setCell ⟨gg94, 1, none⟩ (.slice A95_ (p.length + 1) c95_)) := (hB95.setCell hg94 _).setCell hg94 _
                    have ku := (Kd.R_reads' ho9).2.2
                    rw [EX.out] at ku
                    go_wp2
                    go_meet
                    case rel => exact ⟨_, A95_, c95_, rfl, ⟨ku⟩, ⟨U9⟩, ⟨B9⟩⟩
                case b89_1 =>
                  refine cgE_k (w1 := (wz88.alloc (.cells #[.int .i64 0, .slice none 0 0] 25))) (v := .pointer (some ⟨wz88.heap.size, 0, none⟩)) (fun HD96 => ?_) (hrun := by first | (go_simp; done) | (go_simp; rfl)) (hS := HD88.to bl)
                  have bn96 := below_alloc (Below.refl wz88.heap.size wz88) (.cells #[.int .i64 0, .slice none 0 0] 25)
                  have hB96 := hB88.trans (bn96.mono hB88.size)
                  have hO96 := Kd.R_below hO88 bn96
                  have h896 := h888.below bn96
                  have fg96 : B2 (wz88.alloc (.cells #[.int .i64 0, .slice none 0 0] 25)) wz88.heap.size 25 (.int .i64 0) (.slice none 0 0) := B2.new wz88
                  have hg96 : v10.heap.size ≤ wz88.heap.size := hB88.size
                  have sz96 : wz88.heap.size < (wz88.alloc (.cells #[.int .i64 0, .slice none 0 0] 25)).heap.size := by simp
                  generalize (wz88.alloc (.cells #[.int .i64 0, .slice none 0 0] 25)) = wz96 at *
                  generalize wz88.heap.size = gg96 at *
                  refine cgApp (w0 := v10) (base := v10.heap.size) (.tmp 71) (.tmp 73) _ [] p (some ad) p.length c1 HT HD96 hO96 (Kd.C_below hC_ hB96) hB96 hB96.size (by simp; omega) (fun x hx e_ => by have := Kd.R_base hO96 _ e_.symm; simp only [List.mem_cons, List.mem_nil_iff, or_false] at hx; rcases hx with rfl | rfl | rfl <;> simp only [] at this <;> omega) ?_
                  intro A97_ c97_ u97 hO97 hB97 HD97 hgr97
                  rw [EP.out] at hO97 ⊢
                  refine cgN ?_
                  have h897 := RI_grown h896 hgr97 (fun g_ e_ => by have e2 : v10.drew.heap.size = g_ := (by simpa [Value.ownBlock] using e_); subst e2; exact Or.inl ne88)
                  have fg97 := fg96.grown hgr97 (Kd.R_ne hO96 fg96 (by decide))
                  refine cgApp (w0 := v10) (base := v10.heap.size) (.tmp 74) (.tmp 79) _ ([] ++ p) [x] (some ⟨wz75.heap.size, 0, none⟩) 1 1 HT HD97 hO97 h897.rd.2.2 hB97 hB97.size (by simp; omega) (fun x hx e_ => by have := Kd.R_base hO97 _ e_.symm; simp only [List.mem_cons, List.mem_nil_iff, or_false] at hx; rcases hx with rfl | rfl | rfl <;> simp only [] at this <;> omega) ?_
                  intro A98_ c98_ u98 hO98 hB98 HD98 hgr98
                  rw [EX.out] at hO98 ⊢
                  refine cgN ?_
                  have fg98 := fg97.grown hgr98 (Kd.R_ne hO97 fg97 (by decide))
                  repeat ((with_reducible refine cgGate ?_); first | refine cgP HT ?_ | refine cgL HT ?_ | refine cgG HT ?_)
                  obtain ⟨f0, f1, f2, f3, f4⟩ := fg98.f
                  refine cgLast HT ?_
                  refine cgDone HT ?_
                  have ho9 := Kd.R_set (Kd.R_set hO98 fg98 (by decide) 0 (.int .i64 3)) (fg98.set0 (.int .i64 3)) (by decide) 1 (.slice A98_ (p.length + 1) c98_)
                  have U9 := fg98.set (.int .i64 3) (.slice A98_ (p.length + 1) c98_)
                  have B9 : Below v10.heap.size v10 ((u98.setCell ⟨gg96, 0, none⟩ (.int .i64 3)).setCell ⟨gg96, 1, none⟩ (.slice A98_ (p.length + 1) c98_)) := (hB98.setCell hg96 _).setCell hg96 _
                  have ku := (Kd.R_reads' ho9).2.2
                  rw [EX.out] at ku
                  go_wp2
                  go_meet
                  case rel => exact ⟨_, A98_, c98_, rfl, ⟨ku⟩, ⟨U9⟩, ⟨B9⟩⟩
              case b76_2 =>
                refine cgE_k (w1 := (wz75.alloc (.cells #[.int .i64 0, .slice none 0 0] 25))) (v := .pointer (some ⟨wz75.heap.size, 0, none⟩)) (fun HD99 => ?_) (hrun := by first | (go_simp; done) | (go_simp; rfl)) (hS := HD75.to bl)
                have bn99 := below_alloc (Below.refl wz75.heap.size wz75) (.cells #[.int .i64 0, .slice none 0 0] 25)
                have hB99 := hB75.trans (bn99.mono hB75.size)
                have hO99 := Kd.R_below hO75 bn99
                have fg99 : B2 (wz75.alloc (.cells #[.int .i64 0, .slice none 0 0] 25)) wz75.heap.size 25 (.int .i64 0) (.slice none 0 0) := B2.new wz75
                have hg99 : v10.heap.size ≤ wz75.heap.size := hB75.size
                have sz99 : wz75.heap.size < (wz75.alloc (.cells #[.int .i64 0, .slice none 0 0] 25)).heap.size := by simp
                generalize (wz75.alloc (.cells #[.int .i64 0, .slice none 0 0] 25)) = wz99 at *
                generalize wz75.heap.size = gg99 at *
                refine cgTwo [1, 2, 4, 5, 6, 7, 0, 11, 8, 3, 9, 10, 12] HT ?b100_0 ?b100_1
                case b100_0 =>
                  refine cgApp_k (w0 := v10) (base := v10.heap.size) (.tmp 71) (.tmp 73) _ [] p (some ad) p.length c1 HD99 hO99 (Kd.C_below hC_ hB99) hB99 hB99.size (by simp; omega) (fun x hx e_ => by have := Kd.R_base hO99 _ e_.symm; simp only [List.mem_cons, List.mem_nil_iff, or_false] at hx; rcases hx with rfl | rfl | rfl <;> simp only [] at this <;> omega) ?_
                  intro A101_ c101_ u101 hO101 hB101 HD101 hgr101
                  rw [EP.out] at hO101 ⊢
                  refine cgN ?_
                  have fg101 := fg99.grown hgr101 (Kd.R_ne hO99 fg99 (by decide))
                  refine cgE (w1 := (u101.alloc (.cells #[.int .i64 x.1, .int .i64 x.2] 30))) (v := .slice (some ⟨u101.heap.size, 0, none⟩) 1 1) HT (fun HD102 => ?_) (hrun := by first | (go_simp; done) | (go_simp; rfl)) (hS := HD101.to bl)
                  have bn102 := below_alloc (Below.refl u101.heap.size u101) (.cells #[.int .i64 x.1, .int .i64 x.2] 30)
                  have hB102 := hB101.trans (bn102.mono hB101.size)
                  have hO102 := Kd.R_below hO101 bn102
                  have fg102 := fg101.to bn102
                  have h8102 : RI kPt 30 (u101.alloc (.cells #[.int .i64 x.1, .int .i64 x.2] 30)) u101.heap.size (u101.alloc (.cells #[.int .i64 x.1, .int .i64 x.2] 30)).heap.size (.slice (some ⟨u101.heap.size, 0, none⟩) 1 1) [x] := RI.of (litR1 u101 x)
                  have sz102 : u101.heap.size < (u101.alloc (.cells #[.int .i64 x.1, .int .i64 x.2] 30)).heap.size := by simp
                  generalize (u101.alloc (.cells #[.int .i64 x.1, .int .i64 x.2] 30)) = wz102 at *
                  refine cgApp (w0 := v10) (base := v10.heap.size) (.tmp 74) (.tmp 79) _ ([] ++ p) [x] (some ⟨u101.heap.size, 0, none⟩) 1 1 HT HD102 hO102 h8102.rd.2.2 hB102 hB102.size (by simp; omega) (fun x hx e_ => by have := Kd.R_base hO102 _ e_.symm; simp only [List.mem_cons, List.mem_nil_iff, or_false] at hx; rcases hx with rfl | rfl | rfl <;> simp only [] at this <;> omega) ?_
                  intro A103_ c103_ u103 hO103 hB103 HD103 hgr103
                  rw [EX.out] at hO103 ⊢
                  refine cgN ?_
                  have fg103 := fg102.grown hgr103 (Kd.R_ne hO102 fg102 (by decide))
                  repeat ((with_reducible refine cgGate ?_); first | refine cgP HT ?_ | refine cgL HT ?_ | refine cgG HT ?_)
                  obtain ⟨f0, f1, f2, f3, f4⟩ := fg103.f
                  refine cgLast HT ?_
                  refine cgDone HT ?_
                  have ho9 := Kd.R_set (Kd.R_set hO103 fg103 (by decide) 0 (.int .i64 3)) (fg103.set0 (.int .i64 3)) (by decide) 1 (.slice A103_ (p.length + 1) c103_)
                  have U9 := fg103.set (.int .i64 3) (.slice A103_ (p.length + 1) c103_)
                  have B9 : Below v10.heap.size v10 ((u103.setCell ⟨gg99, 0, none⟩ (.int .i64 3)).setCell ⟨gg99, 1, none⟩ (.slice A103_ (p.length + 1) c103_)) := (hB103.setCell hg99 _).setCell hg99 _
                  have ku := (Kd.R_reads' ho9).2.2
                  rw [EX.out] at ku
                  go_wp2
                  go_meet
                  case rel => exact ⟨_, A103_, c103_, rfl, ⟨ku⟩, ⟨U9⟩, ⟨B9⟩⟩
                case b100_1 =>
                  refine cgE_k (w1 := (wz99.alloc (.cells #[.int .i64 x.1, .int .i64 x.2] 30))) (v := .slice (some ⟨wz99.heap.size, 0, none⟩) 1 1) (fun HD104 => ?_) (hrun := by first | (go_simp; done) | (go_simp; rfl)) (hS := HD99.to bl)
                  have bn104 := below_alloc (Below.refl wz99.heap.size wz99) (.cells #[.int .i64 x.1, .int .i64 x.2] 30)
                  have hB104 := hB99.trans (bn104.mono hB99.size)
                  have hO104 := Kd.R_below hO99 bn104
                  have fg104 := fg99.to bn104
                  have h8104 : RI kPt 30 (wz99.alloc (.cells #[.int .i64 x.1, .int .i64 x.2] 30)) wz99.heap.size (wz99.alloc (.cells #[.int .i64 x.1, .int .i64 x.2] 30)).heap.size (.slice (some ⟨wz99.heap.size, 0, none⟩) 1 1) [x] := RI.of (litR1 wz99 x)
                  have ne104 : v10.drew.heap.size < wz99.heap.size := by first | omega | (simp; done) | (simp; omega) | (simp at *; omega)
                  have sz104 : wz99.heap.size < (wz99.alloc (.cells #[.int .i64 x.1, .int .i64 x.2] 30)).heap.size := by simp
                  generalize (wz99.alloc (.cells #[.int .i64 x.1, .int .i64 x.2] 30)) = wz104 at *
                  refine cgApp (w0 := v10) (base := v10.heap.size) (.tmp 71) (.tmp 73) _ [] p (some ad) p.length c1 HT HD104 hO104 (Kd.C_below hC_ hB104) hB104 hB104.size (by simp; omega) (fun x hx e_ => by have := Kd.R_base hO104 _ e_.symm; simp only [List.mem_cons, List.mem_nil_iff, or_false] at hx; rcases hx with rfl | rfl | rfl <;> simp only [] at this <;> omega) ?_
                  intro A105_ c105_ u105 hO105 hB105 HD105 hgr105
                  rw [EP.out] at hO105 ⊢
                  refine cgN ?_
                  have h8105 := RI_grown h8104 hgr105 (fun g_ e_ => by have e2 : v10.drew.heap.size = g_ := (by simpa [Value.ownBlock] using e_); subst e2; exact Or.inl ne104)
                  have fg105 := fg104.grown hgr105 (Kd.R_ne hO104 fg104 (by decide))
                  refine cgApp (w0 := v10) (base := v10.heap.size) (.tmp 74) (.tmp 79) _ ([] ++ p) [x] (some ⟨wz99.heap.size, 0, none⟩) 1 1 HT HD105 hO105 h8105.rd.2.2 hB105 hB105.size (by simp; omega) (fun x hx e_ => by have := Kd.R_base hO105 _ e_.symm; simp only [List.mem_cons, List.mem_nil_iff, or_false] at hx; rcases hx with rfl | rfl | rfl <;> simp only [] at this <;> omega) ?_
                  intro A106_ c106_ u106 hO106 hB106 HD106 hgr106
                  rw [EX.out] at hO106 ⊢
                  refine cgN ?_
                  have fg106 := fg105.grown hgr106 (Kd.R_ne hO105 fg105 (by decide))
                  repeat ((with_reducible refine cgGate ?_); first | refine cgP HT ?_ | refine cgL HT ?_ | refine cgG HT ?_)
                  obtain ⟨f0, f1, f2, f3, f4⟩ := fg106.f
                  refine cgLast HT ?_
                  refine cgDone HT ?_
                  have ho9 := Kd.R_set (Kd.R_set hO106 fg106 (by decide) 0 (.int .i64 3)) (fg106.set0 (.int .i64 3)) (by decide) 1 (.slice A106_ (p.length + 1) c106_)
                  have U9 := fg106.set (.int .i64 3) (.slice A106_ (p.length + 1) c106_)
                  have B9 : Below v10.heap.size v10 ((u106.setCell ⟨gg99, 0, none⟩ (.int .i64 3)).setCell ⟨gg99, 1, none⟩ (.slice A106_ (p.length + 1) c106_)) := (hB106.setCell hg99 _).setCell hg99 _
                  have ku := (Kd.R_reads' ho9).2.2
                  rw [EX.out] at ku
                  go_wp2
                  go_meet
                  case rel => exact ⟨_, A106_, c106_, rfl, ⟨ku⟩, ⟨U9⟩, ⟨B9⟩⟩
            case b74_1 =>
              refine cgE_k (w1 := (v10.drew.alloc (.cells #[.int .i64 x.1, .int .i64 x.2] 30))) (v := .slice (some ⟨v10.drew.heap.size, 0, none⟩) 1 1) (fun HD107 => ?_) (hrun := by first | (go_simp; done) | (go_simp; rfl)) (hS := HDs.to bl)
              have bn107 := below_alloc (Below.refl v10.drew.heap.size v10.drew) (.cells #[.int .i64 x.1, .int .i64 x.2] 30)
              have hB107 := hBs.trans (bn107.mono hBs.size)
              have h8107 : RI kPt 30 (v10.drew.alloc (.cells #[.int .i64 x.1, .int .i64 x.2] 30)) v10.drew.heap.size (v10.drew.alloc (.cells #[.int .i64 x.1, .int .i64 x.2] 30)).heap.size (.slice (some ⟨v10.drew.heap.size, 0, none⟩) 1 1) [x] := RI.of (litR1 v10.drew x)
              have sz107 : v10.drew.heap.size < (v10.drew.alloc (.cells #[.int .i64 x.1, .int .i64 x.2] 30)).heap.size := by simp
              generalize (v10.drew.alloc (.cells #[.int .i64 x.1, .int .i64 x.2] 30)) = wz107 at *
              refine cgTwo [1, 2, 4, 5, 6, 7, 8, 11, 0, 3, 9, 10, 12] HT ?b108_0 ?b108_1
              case b108_0 =>
                refine cgE_k (w1 := (wz107.alloc (.cells #[] 30))) (v := .slice (some ⟨wz107.heap.size, 0, none⟩) 0 0) (fun HD109 => ?_) (hrun := by first | (go_simp; done) | (go_simp; rfl)) (hS := HD107.to bl)
                have bn109 := below_alloc (Below.refl wz107.heap.size wz107) (.cells #[] 30)
                have hB109 := hB107.trans (bn109.mono hB107.size)
                have h8109 := h8107.below bn109
                have hO109 : kPt.R 30 (wz107.alloc (.cells #[] 30)) v10.heap.size (fun _ => True) (.slice (some ⟨wz107.heap.size, 0, none⟩) 0 0) [] := lit0 wz107 v10.heap.size hB107.size
                have ne109 : wz107.heap.size ≤ wz107.heap.size := by first | omega | (simp; done) | (simp; omega) | (simp at *; omega)
                have sz109 : wz107.heap.size < (wz107.alloc (.cells #[] 30)).heap.size := by simp
                generalize (wz107.alloc (.cells #[] 30)) = wz109 at *
                refine cgTwo [1, 2, 4, 5, 6, 7, 8, 0, 11, 3, 9, 10, 12] HT ?b110_0 ?b110_1
                case b110_0 =>
                  refine cgApp_k (w0 := v10) (base := v10.heap.size) (.tmp 71) (.tmp 73) _ [] p (some ad) p.length c1 HD109 hO109 (Kd.C_below hC_ hB109) hB109 hB109.size (by simp; omega) (fun x hx e_ => by have := Kd.R_base hO109 _ e_.symm; simp only [List.mem_cons, List.mem_nil_iff, or_false] at hx; rcases hx with rfl | rfl | rfl <;> simp only [] at this <;> omega) ?_
                  intro A111_ c111_ u111 hO111 hB111 HD111 hgr111
                  rw [EP.out] at hO111 ⊢
                  refine cgN ?_
                  have h8111 := RI_grown h8109 hgr111 (fun g_ e_ => by have e2 : wz107.heap.size = g_ := (by simpa [Value.ownBlock] using e_); subst e2; exact Or.inr ne109)
                  refine cgTwo [1, 2, 4, 5, 6, 7, 8, 0, 3, 11, 9, 10, 12] HT ?b112_0 ?b112_1
                  case b112_0 =>
                    refine cgApp_k (w0 := v10) (base := v10.heap.size) (.tmp 74) (.tmp 79) _ ([] ++ p) [x] (some ⟨v10.drew.heap.size, 0, none⟩) 1 1 HD111 hO111 h8111.rd.2.2 hB111 hB111.size (by simp; omega) (fun x hx e_ => by have := Kd.R_base hO111 _ e_.symm; simp only [List.mem_cons, List.mem_nil_iff, or_false] at hx; rcases hx with rfl | rfl | rfl <;> simp only [] at this <;> omega) ?_
                    intro A113_ c113_ u113 hO113 hB113 HD113 hgr113
                    rw [EX.out] at hO113 ⊢
                    refine cgN ?_
                    repeat ((with_reducible refine cgGate ?_); first | refine cgP HT ?_ | refine cgL HT ?_ | refine cgG HT ?_)
                    refine cgE (w1 := (u113.alloc (.cells #[.int .i64 0, .slice none 0 0] 25))) (v := .pointer (some ⟨u113.heap.size, 0, none⟩)) HT (fun HD114 => ?_) (hrun := by first | (go_simp; done) | (go_simp; rfl)) (hS := HD113.to bl)
                    have bn114 := below_alloc (Below.refl u113.heap.size u113) (.cells #[.int .i64 0, .slice none 0 0] 25)
                    have hB114 := hB113.trans (bn114.mono hB113.size)
                    have hO114 := Kd.R_below hO113 bn114
                    have fg114 : B2 (u113.alloc (.cells #[.int .i64 0, .slice none 0 0] 25)) u113.heap.size 25 (.int .i64 0) (.slice none 0 0) := B2.new u113
                    have hg114 : v10.heap.size ≤ u113.heap.size := hB113.size
                    have sz114 : u113.heap.size < (u113.alloc (.cells #[.int .i64 0, .slice none 0 0] 25)).heap.size := by simp
                    generalize (u113.alloc (.cells #[.int .i64 0, .slice none 0 0] 25)) = wz114 at *
                    generalize u113.heap.size = gg114 at *
                    obtain ⟨f0, f1, f2, f3, f4⟩ := fg114.f
                    refine cgLast HT ?_
                    refine cgDone HT ?_
                    have ho9 := Kd.R_set (Kd.R_set hO114 fg114 (by decide) 0 (.int .i64 3)) (fg114.set0 (.int .i64 3)) (by decide) 1 (.slice A113_ (p.length + 1) c113_)
                    have U9 := fg114.set (.int .i64 3) (.slice A113_ (p.length + 1) c113_)
                    have B9 : Below v10.heap.size v10 ((wz114.setCell ⟨gg114, 0, none⟩ (.int .i64 3)).setCell ⟨gg114, 1, none⟩ (.slice A113_ (p.length + 1) c113_)) := (hB114.setCell hg114 _).setCell hg114 _
                    have ku := (Kd.R_reads' ho9).2.2
                    rw [EX.out] at ku
                    go_wp2
                    go_meet
                    case rel => exact ⟨_, A113_, c113_, rfl, ⟨ku⟩, ⟨U9⟩, ⟨B9⟩⟩
                  case b112_1 =>
                    refine cgE_k (w1 := (u111.alloc (.cells #[.int .i64 0, .slice none 0 0] 25))) (v := .pointer (some ⟨u111.heap.size, 0, none⟩)) (fun HD115 => ?_) (hrun := by first | (go_simp; done) | (go_simp; rfl)) (hS := HD111.to bl)
                    have bn115 := below_alloc (Below.refl u111.heap.size u111) (.cells #[.int .i64 0, .slice none 0 0] 25)
                    have hB115 := hB111.trans (bn115.mono hB111.size)
                    have hO115 := Kd.R_below hO111 bn115
                    have h8115 := h8111.below bn115
                    have fg115 : B2 (u111.alloc (.cells #[.int .i64 0, .slice none 0 0] 25)) u111.heap.size 25 (.int .i64 0) (.slice none 0 0) := B2.new u111
                    have hg115 : v10.heap.size ≤ u111.heap.size := hB111.size
                    have sz115 : u111.heap.size < (u111.alloc (.cells #[.int .i64 0, .slice none 0 0] 25)).heap.size := by simp
                    generalize (u111.alloc (.cells #[.int .i64 0, .slice none 0 0] 25)) = wz115 at *
                    generalize u111.heap.size = gg115 at *
                    refine cgApp (w0 := v10) (base := v10.heap.size) (.tmp 74) (.tmp 79) _ ([] ++ p) [x] (some ⟨v10.drew.heap.size, 0, none⟩) 1 1 HT HD115 hO115 h8115.rd.2.2 hB115 hB115.size (by simp; omega) (fun x hx e_ => by have := Kd.R_base hO115 _ e_.symm; simp only [List.mem_cons, List.mem_nil_iff, or_false] at hx; rcases hx with rfl | rfl | rfl <;> simp only [] at this <;> omega) ?_
                    intro A116_ c116_ u116 hO116 hB116 HD116 hgr116
                    rw [EX.out] at hO116 ⊢
                    refine cgN ?_
                    have fg116 := fg115.grown hgr116 (Kd.R_ne hO115 fg115 (by decide))
                    repeat ((with_reducible refine cgGate ?_); first | refine cgP HT ?_ | refine cgL HT ?_ | refine cgG HT ?_)
                    obtain ⟨f0, f1, f2, f3, f4⟩ := fg116.f
                    refine cgLast HT ?_
                    refine cgDone HT ?_
                    have ho9 := Kd.R_set (Kd.R_set hO116 fg116 (by decide) 0 (.int .i64 3)) (fg116.set0 (.int .i64 3)) (by decide) 1 (.slice A116_ (p.length + 1) c116_)
                    have U9 := fg116.set (.int .i64 3) (.slice A116_ (p.length + 1) c116_)
                    have B9 : Below v10.heap.size v10 ((u116.setCell ⟨gg115, 0, none⟩ (.int .i64 3)).setCell ⟨gg115, 1, none⟩ (.slice A116_ (p.length + 1) c116_)) := (hB116.setCell hg115 _).setCell hg115 _
                    have ku := (Kd.R_reads' ho9).2.2
                    rw [EX.out] at ku
                    go_wp2
                    go_meet
                    case rel => exact ⟨_, A116_, c116_, rfl, ⟨ku⟩, ⟨U9⟩, ⟨B9⟩⟩
                case b110_1 =>
                  refine cgE_k (w1 := (wz109.alloc (.cells #[.int .i64 0, .slice none 0 0] 25))) (v := .pointer (some ⟨wz109.heap.size, 0, none⟩)) (fun HD117 => ?_) (hrun := by first | (go_simp; done) | (go_simp; rfl)) (hS := HD109.to bl)
                  have bn117 := below_alloc (Below.refl wz109.heap.size wz109) (.cells #[.int .i64 0, .slice none 0 0] 25)
                  have hB117 := hB109.trans (bn117.mono hB109.size)
                  have hO117 := Kd.R_below hO109 bn117
                  have h8117 := h8109.below bn117
                  have fg117 : B2 (wz109.alloc (.cells #[.int .i64 0, .slice none 0 0] 25)) wz109.heap.size 25 (.int .i64 0) (.slice none 0 0) := B2.new wz109
                  have hg117 : v10.heap.size ≤ wz109.heap.size := hB109.size
                  have sz117 : wz109.heap.size < (wz109.alloc (.cells #[.int .i64 0, .slice none 0 0] 25)).heap.size := by simp
                  generalize (wz109.alloc (.cells #[.int .i64 0, .slice none 0 0] 25)) = wz117 at *
                  generalize wz109.heap.size = gg117 at *
                  refine cgApp (w0 := v10) (base := v10.heap.size) (.tmp 71) (.tmp 73) _ [] p (some ad) p.length c1 HT HD117 hO117 (Kd.C_below hC_ hB117) hB117 hB117.size (by simp; omega) (fun x hx e_ => by have := Kd.R_base hO117 _ e_.symm; simp only [List.mem_cons, List.mem_nil_iff, or_false] at hx; rcases hx with rfl | rfl | rfl <;> simp only [] at this <;> omega) ?_
                  intro A118_ c118_ u118 hO118 hB118 HD118 hgr118
                  rw [EP.out] at hO118 ⊢
                  refine cgN ?_
                  have h8118 := RI_grown h8117 hgr118 (fun g_ e_ => by have e2 : wz107.heap.size = g_ := (by simpa [Value.ownBlock] using e_); subst e2; exact Or.inr ne109)
                  have fg118 := fg117.grown hgr118 (Kd.R_ne hO117 fg117 (by decide))
                  refine cgApp (w0 := v10) (base := v10.heap.size) (.tmp 74) (.tmp 79) _ ([] ++ p) [x] (some ⟨v10.drew.heap.size, 0, none⟩) 1 1 HT HD118 hO118 h8118.rd.2.2 hB118 hB118.size (by simp; omega) (fun x hx e_ => by have := Kd.R_base hO118 _ e_.symm; simp only [List.mem_cons, List.mem_nil_iff, or_false] at hx; rcases hx with rfl | rfl | rfl <;> simp only [] at this <;> omega) ?_
                  intro A119_ c119_ u119 hO119 hB119 HD119 hgr119
                  rw [EX.out] at hO119 ⊢
                  refine cgN ?_
                  have fg119 := fg118.grown hgr119 (Kd.R_ne hO118 fg118 (by decide))
                  repeat ((with_reducible refine cgGate ?_); first | refine cgP HT ?_ | refine cgL HT ?_ | refine cgG HT ?_)
                  obtain ⟨f0, f1, f2, f3, f4⟩ := fg119.f
                  refine cgLast HT ?_
                  refine cgDone HT ?_
                  have ho9 := Kd.R_set (Kd.R_set hO119 fg119 (by decide) 0 (.int .i64 3)) (fg119.set0 (.int .i64 3)) (by decide) 1 (.slice A119_ (p.length + 1) c119_)
                  have U9 := fg119.set (.int .i64 3) (.slice A119_ (p.length + 1) c119_)
                  have B9 : Below v10.heap.size v10 ((u119.setCell ⟨gg117, 0, none⟩ (.int .i64 3)).setCell ⟨gg117, 1, none⟩ (.slice A119_ (p.length + 1) c119_)) := (hB119.setCell hg117 _).setCell hg117 _
                  have ku := (Kd.R_reads' ho9).2.2
                  rw [EX.out] at ku
                  go_wp2
                  go_meet
                  case rel => exact ⟨_, A119_, c119_, rfl, ⟨ku⟩, ⟨U9⟩, ⟨B9⟩⟩
              case b108_1 =>
                refine cgE_k (w1 := (wz107.alloc (.cells #[.int .i64 0, .slice none 0 0] 25))) (v := .pointer (some ⟨wz107.heap.size, 0, none⟩)) (fun HD120 => ?_) (hrun := by first | (go_simp; done) | (go_simp; rfl)) (hS := HD107.to bl)
                have bn120 := below_alloc (Below.refl wz107.heap.size wz107) (.cells #[.int .i64 0, .slice none 0 0] 25)
                have hB120 := hB107.trans (bn120.mono hB107.size)
                have h8120 := h8107.below bn120
                have fg120 : B2 (wz107.alloc (.cells #[.int .i64 0, .slice none 0 0] 25)) wz107.heap.size 25 (.int .i64 0) (.slice none 0 0) := B2.new wz107
                have hg120 : v10.heap.size ≤ wz107.heap.size := hB107.size
                have sz120 : wz107.heap.size < (wz107.alloc (.cells #[.int .i64 0, .slice none 0 0] 25)).heap.size := by simp
                generalize (wz107.alloc (.cells #[.int .i64 0, .slice none 0 0] 25)) = wz120 at *
                generalize wz107.heap.size = gg120 at *
                refine cgE (w1 := (wz120.alloc (.cells #[] 30))) (v := .slice (some ⟨wz120.heap.size, 0, none⟩) 0 0) HT (fun HD121 => ?_) (hrun := by first | (go_simp; done) | (go_simp; rfl)) (hS := HD120.to bl)
                have bn121 := below_alloc (Below.refl wz120.heap.size wz120) (.cells #[] 30)
                have hB121 := hB120.trans (bn121.mono hB120.size)
                have h8121 := h8120.below bn121
                have fg121 := fg120.to bn121
                have hO121 : kPt.R 30 (wz120.alloc (.cells #[] 30)) v10.heap.size (fun _ => True) (.slice (some ⟨wz120.heap.size, 0, none⟩) 0 0) [] := lit0 wz120 v10.heap.size hB120.size
                have ne121 : gg120 ≤ wz120.heap.size := by first | omega | (simp; done) | (simp; omega) | (simp at *; omega)
                have sz121 : wz120.heap.size < (wz120.alloc (.cells #[] 30)).heap.size := by simp
                generalize (wz120.alloc (.cells #[] 30)) = wz121 at *
                refine cgApp (w0 := v10) (base := v10.heap.size) (.tmp 71) (.tmp 73) _ [] p (some ad) p.length c1 HT HD121 hO121 (Kd.C_below hC_ hB121) hB121 hB121.size (by simp; omega) (fun x hx e_ => by have := Kd.R_base hO121 _ e_.symm; simp only [List.mem_cons, List.mem_nil_iff, or_false] at hx; rcases hx with rfl | rfl | rfl <;> simp only [] at this <;> omega) ?_
                intro A122_ c122_ u122 hO122 hB122 HD122 hgr122
                rw [EP.out] at hO122 ⊢
                refine cgN ?_
                have h8122 := RI_grown h8121 hgr122 (fun g_ e_ => by have e2 : wz120.heap.size = g_ := (by simpa [Value.ownBlock] using e_); subst e2; exact Or.inr ne121)
                have fg122 := fg121.grown hgr122 (Kd.R_ne hO121 fg121 (by decide))
                refine cgApp (w0 := v10) (base := v10.heap.size) (.tmp 74) (.tmp 79) _ ([] ++ p) [x] (some ⟨v10.drew.heap.size, 0, none⟩) 1 1 HT HD122 hO122 h8122.rd.2.2 hB122 hB122.size (by simp; omega) (fun x hx e_ => by have := Kd.R_base hO122 _ e_.symm; simp only [List.mem_cons, List.mem_nil_iff, or_false] at hx; rcases hx with rfl | rfl | rfl <;> simp only [] at this <;> omega) ?_
                intro A123_ c123_ u123 hO123 hB123 HD123 hgr123
                rw [EX.out] at hO123 ⊢
                refine cgN ?_
                have fg123 := fg122.grown hgr123 (Kd.R_ne hO122 fg122 (by decide))
                repeat ((with_reducible refine cgGate ?_); first | refine cgP HT ?_ | refine cgL HT ?_ | refine cgG HT ?_)
                obtain ⟨f0, f1, f2, f3, f4⟩ := fg123.f
                refine cgLast HT ?_
                refine cgDone HT ?_
                have ho9 := Kd.R_set (Kd.R_set hO123 fg123 (by decide) 0 (.int .i64 3)) (fg123.set0 (.int .i64 3)) (by decide) 1 (.slice A123_ (p.length + 1) c123_)
                have U9 := fg123.set (.int .i64 3) (.slice A123_ (p.length + 1) c123_)
                have B9 : Below v10.heap.size v10 ((u123.setCell ⟨gg120, 0, none⟩ (.int .i64 3)).setCell ⟨gg120, 1, none⟩ (.slice A123_ (p.length + 1) c123_)) := (hB123.setCell hg120 _).setCell hg120 _
                have ku := (Kd.R_reads' ho9).2.2
                rw [EX.out] at ku
                go_wp2
                go_meet
                case rel => exact ⟨_, A123_, c123_, rfl, ⟨ku⟩, ⟨U9⟩, ⟨B9⟩⟩
            case b74_2 =>
              refine cgE_k (w1 := (v10.drew.alloc (.cells #[.int .i64 0, .slice none 0 0] 25))) (v := .pointer (some ⟨v10.drew.heap.size, 0, none⟩)) (fun HD124 => ?_) (hrun := by first | (go_simp; done) | (go_simp; rfl)) (hS := HDs.to bl)
              have bn124 := below_alloc (Below.refl v10.drew.heap.size v10.drew) (.cells #[.int .i64 0, .slice none 0 0] 25)
              have hB124 := hBs.trans (bn124.mono hBs.size)
              have fg124 : B2 (v10.drew.alloc (.cells #[.int .i64 0, .slice none 0 0] 25)) v10.drew.heap.size 25 (.int .i64 0) (.slice none 0 0) := B2.new v10.drew
              have hg124 : v10.heap.size ≤ v10.drew.heap.size := hBs.size
              have sz124 : v10.drew.heap.size < (v10.drew.alloc (.cells #[.int .i64 0, .slice none 0 0] 25)).heap.size := by simp
              generalize (v10.drew.alloc (.cells #[.int .i64 0, .slice none 0 0] 25)) = wz124 at *
              generalize v10.drew.heap.size = gg124 at *
              refine cgTwo [1, 2, 4, 5, 6, 7, 11, 8, 0, 3, 9, 10, 12] HT ?b125_0 ?b125_1
              case b125_0 =>
                refine cgE_k (w1 := (wz124.alloc (.cells #[] 30))) (v := .slice (some ⟨wz124.heap.size, 0, none⟩) 0 0) (fun HD126 => ?_) (hrun := by first | (go_simp; done) | (go_simp; rfl)) (hS := HD124.to bl)
                have bn126 := below_alloc (Below.refl wz124.heap.size wz124) (.cells #[] 30)
                have hB126 := hB124.trans (bn126.mono hB124.size)
                have fg126 := fg124.to bn126
                have hO126 : kPt.R 30 (wz124.alloc (.cells #[] 30)) v10.heap.size (fun _ => True) (.slice (some ⟨wz124.heap.size, 0, none⟩) 0 0) [] := lit0 wz124 v10.heap.size hB124.size
                have sz126 : wz124.heap.size < (wz124.alloc (.cells #[] 30)).heap.size := by simp
                generalize (wz124.alloc (.cells #[] 30)) = wz126 at *
                refine cgTwo [1, 2, 4, 5, 6, 7, 11, 0, 8, 3, 9, 10, 12] HT ?b127_0 ?b127_1
                case b127_0 =>
                  refine cgApp_k (w0 := v10) (base := v10.heap.size) (.tmp 71) (.tmp 73) _ [] p (some ad) p.length c1 HD126 hO126 (Kd.C_below hC_ hB126) hB126 hB126.size (by simp; omega) (fun x hx e_ => by have := Kd.R_base hO126 _ e_.symm; simp only [List.mem_cons, List.mem_nil_iff, or_false] at hx; rcases hx with rfl | rfl | rfl <;> simp only [] at this <;> omega) ?_
                  intro A128_ c128_ u128 hO128 hB128 HD128 hgr128
                  rw [EP.out] at hO128 ⊢
                  refine cgN ?_
                  have fg128 := fg126.grown hgr128 (Kd.R_ne hO126 fg126 (by decide))
                  refine cgE (w1 := (u128.alloc (.cells #[.int .i64 x.1, .int .i64 x.2] 30))) (v := .slice (some ⟨u128.heap.size, 0, none⟩) 1 1) HT (fun HD129 => ?_) (hrun := by first | (go_simp; done) | (go_simp; rfl)) (hS := HD128.to bl)
                  have bn129 := below_alloc (Below.refl u128.heap.size u128) (.cells #[.int .i64 x.1, .int .i64 x.2] 30)
                  have hB129 := hB128.trans (bn129.mono hB128.size)
                  have hO129 := Kd.R_below hO128 bn129
                  have fg129 := fg128.to bn129
                  have h8129 : RI kPt 30 (u128.alloc (.cells #[.int .i64 x.1, .int .i64 x.2] 30)) u128.heap.size (u128.alloc (.cells #[.int .i64 x.1, .int .i64 x.2] 30)).heap.size (.slice (some ⟨u128.heap.size, 0, none⟩) 1 1) [x] := RI.of (litR1 u128 x)
                  have sz129 : u128.heap.size < (u128.alloc (.cells #[.int .i64 x.1, .int .i64 x.2] 30)).heap.size := by simp
                  generalize (u128.alloc (.cells #[.int .i64 x.1, .int .i64 x.2] 30)) = wz129 at *
                  refine cgApp (w0 := v10) (base := v10.heap.size) (.tmp 74) (.tmp 79) _ ([] ++ p) [x] (some ⟨u128.heap.size, 0, none⟩) 1 1 HT HD129 hO129 h8129.rd.2.2 hB129 hB129.size (by simp; omega) (fun x hx e_ => by have := Kd.R_base hO129 _ e_.symm; simp only [List.mem_cons, List.mem_nil_iff, or_false] at hx; rcases hx with rfl | rfl | rfl <;> simp only [] at this <;> omega) ?_
                  intro A130_ c130_ u130 hO130 hB130 HD130 hgr130
                  rw [EX.out] at hO130 ⊢
                  refine cgN ?_
                  have fg130 := fg129.grown hgr130 (Kd.R_ne hO129 fg129 (by decide))
                  repeat ((with_reducible refine cgGate ?_); first | refine cgP HT ?_ | refine cgL HT ?_ | refine cgG HT ?_)
                  obtain ⟨f0, f1, f2, f3, f4⟩ := fg130.f
                  refine cgLast HT ?_
                  refine cgDone HT ?_
                  have ho9 := Kd.R_set (Kd.R_set hO130 fg130 (by decide) 0 (.int .i64 3)) (fg130.set0 (.int .i64 3)) (by decide) 1 (.slice A130_ (p.length + 1) c130_)
                  have U9 := fg130.set (.int .i64 3) (.slice A130_ (p.length + 1) c130_)
                  have B9 : Below v10.heap.size v10 ((u130.setCell ⟨gg124, 0, none⟩ (.int .i64 3)).setCell ⟨gg124, 1, none⟩ (.slice A130_ (p.length + 1) c130_)) := (hB130.setCell hg124 _).setCell hg124 _
                  have ku := (Kd.R_reads' ho9).2.2
                  rw [EX.out] at ku
                  go_wp2
                  go_meet
                  case rel => exact ⟨_, A130_, c130_, rfl, ⟨ku⟩, ⟨U9⟩, ⟨B9⟩⟩
                case b127_1 =>
                  refine cgE_k (w1 := (wz126.alloc (.cells #[.int .i64 x.1, .int .i64 x.2] 30))) (v := .slice (some ⟨wz126.heap.size, 0, none⟩) 1 1) (fun HD131 => ?_) (hrun := by first | (go_simp; done) | (go_simp; rfl)) (hS := HD126.to bl)
                  have bn131 := below_alloc (Below.refl wz126.heap.size wz126) (.cells #[.int .i64 x.1, .int .i64 x.2] 30)
                  have hB131 := hB126.trans (bn131.mono hB126.size)
                  have hO131 := Kd.R_below hO126 bn131
                  have fg131 := fg126.to bn131
                  have h8131 : RI kPt 30 (wz126.alloc (.cells #[.int .i64 x.1, .int .i64 x.2] 30)) wz126.heap.size (wz126.alloc (.cells #[.int .i64 x.1, .int .i64 x.2] 30)).heap.size (.slice (some ⟨wz126.heap.size, 0, none⟩) 1 1) [x] := RI.of (litR1 wz126 x)
                  have ne131 : wz124.heap.size < wz126.heap.size := by first | omega | (simp; done) | (simp; omega) | (simp at *; omega)
                  have sz131 : wz126.heap.size < (wz126.alloc (.cells #[.int .i64 x.1, .int .i64 x.2] 30)).heap.size := by simp
                  generalize (wz126.alloc (.cells #[.int .i64 x.1, .int .i64 x.2] 30)) = wz131 at *
                  refine cgApp (w0 := v10) (base := v10.heap.size) (.tmp 71) (.tmp 73) _ [] p (some ad) p.length c1 HT HD131 hO131 (Kd.C_below hC_ hB131) hB131 hB131.size (by simp; omega) (fun x hx e_ => by have := Kd.R_base hO131 _ e_.symm; simp only [List.mem_cons, List.mem_nil_iff, or_false] at hx; rcases hx with rfl | rfl | rfl <;> simp only [] at this <;> omega) ?_
                  intro A132_ c132_ u132 hO132 hB132 HD132 hgr132
                  rw [EP.out] at hO132 ⊢
                  refine cgN ?_
                  have h8132 := RI_grown h8131 hgr132 (fun g_ e_ => by have e2 : wz124.heap.size = g_ := (by simpa [Value.ownBlock] using e_); subst e2; exact Or.inl ne131)
                  have fg132 := fg131.grown hgr132 (Kd.R_ne hO131 fg131 (by decide))
                  refine cgApp (w0 := v10) (base := v10.heap.size) (.tmp 74) (.tmp 79) _ ([] ++ p) [x] (some ⟨wz126.heap.size, 0, none⟩) 1 1 HT HD132 hO132 h8132.rd.2.2 hB132 hB132.size (by simp; omega) (fun x hx e_ => by have := Kd.R_base hO132 _ e_.symm; simp only [List.mem_cons, List.mem_nil_iff, or_false] at hx; rcases hx with rfl | rfl | rfl <;> simp only [] at this <;> omega) ?_
                  intro A133_ c133_ u133 hO133 hB133 HD133 hgr133
                  rw [EX.out] at hO133 ⊢
                  refine cgN ?_
                  have fg133 := fg132.grown hgr133 (Kd.R_ne hO132 fg132 (by decide))
                  repeat ((with_reducible refine cgGate ?_); first | refine cgP HT ?_ | refine cgL HT ?_ | refine cgG HT ?_)
                  obtain ⟨f0, f1, f2, f3, f4⟩ := fg133.f
                  refine cgLast HT ?_
                  refine cgDone HT ?_
                  have ho9 := Kd.R_set (Kd.R_set hO133 fg133 (by decide) 0 (.int .i64 3)) (fg133.set0 (.int .i64 3)) (by decide) 1 (.slice A133_ (p.length + 1) c133_)
                  have U9 := fg133.set (.int .i64 3) (.slice A133_ (p.length + 1) c133_)
                  have B9 : Below v10.heap.size v10 ((u133.setCell ⟨gg124, 0, none⟩ (.int .i64 3)).setCell ⟨gg124, 1, none⟩ (.slice A133_ (p.length + 1) c133_)) := (hB133.setCell hg124 _).setCell hg124 _
                  have ku := (Kd.R_reads' ho9).2.2
                  rw [EX.out] at ku
                  go_wp2
                  go_meet
                  case rel => exact ⟨_, A133_, c133_, rfl, ⟨ku⟩, ⟨U9⟩, ⟨B9⟩⟩
              case b125_1 =>
                refine cgE_k (w1 := (wz124.alloc (.cells #[.int .i64 x.1, .int .i64 x.2] 30))) (v := .slice (some ⟨wz124.heap.size, 0, none⟩) 1 1) (fun HD134 => ?_) (hrun := by first | (go_simp; done) | (go_simp; rfl)) (hS := HD124.to bl)
                have bn134 := below_alloc (Below.refl wz124.heap.size wz124) (.cells #[.int .i64 x.1, .int .i64 x.2] 30)
                have hB134 := hB124.trans (bn134.mono hB124.size)
                have fg134 := fg124.to bn134
                have h8134 : RI kPt 30 (wz124.alloc (.cells #[.int .i64 x.1, .int .i64 x.2] 30)) wz124.heap.size (wz124.alloc (.cells #[.int .i64 x.1, .int .i64 x.2] 30)).heap.size (.slice (some ⟨wz124.heap.size, 0, none⟩) 1 1) [x] := RI.of (litR1 wz124 x)
                have sz134 : wz124.heap.size < (wz124.alloc (.cells #[.int .i64 x.1, .int .i64 x.2] 30)).heap.size := by simp
                generalize (wz124.alloc (.cells #[.int .i64 x.1, .int .i64 x.2] 30)) = wz134 at *
                refine cgE (w1 := (wz134.alloc (.cells #[] 30))) (v := .slice (some ⟨wz134.heap.size, 0, none⟩) 0 0) HT (fun HD135 => ?_) (hrun := by first | (go_simp; done) | (go_simp; rfl)) (hS := HD134.to bl)
                have bn135 := below_alloc (Below.refl wz134.heap.size wz134) (.cells #[] 30)
                have hB135 := hB134.trans (bn135.mono hB134.size)
                have h8135 := h8134.below bn135
                have fg135 := fg134.to bn135
                have hO135 : kPt.R 30 (wz134.alloc (.cells #[] 30)) v10.heap.size (fun _ => True) (.slice (some ⟨wz134.heap.size, 0, none⟩) 0 0) [] := lit0 wz134 v10.heap.size hB134.size
                have ne135 : wz134.heap.size ≤ wz134.heap.size := by first | omega | (simp; done) | (simp; omega) | (simp at *; omega)
                have sz135 : wz134.heap.size < (wz134.alloc (.cells #[] 30)).heap.size := by simp
                generalize (wz134.alloc (.cells #[] 30)) = wz135 at *
                refine cgApp (w0 := v10) (base := v10.heap.size) (.tmp 71) (.tmp 73) _ [] p (some ad) p.length c1 HT HD135 hO135 (Kd.C_below hC_ hB135) hB135 hB135.size (by simp; omega) (fun x hx e_ => by have := Kd.R_base hO135 _ e_.symm; simp only [List.mem_cons, List.mem_nil_iff, or_false] at hx; rcases hx with rfl | rfl | rfl <;> simp only [] at this <;> omega) ?_
                intro A136_ c136_ u136 hO136 hB136 HD136 hgr136
                rw [EP.out] at hO136 ⊢
                refine cgN ?_
                have h8136 := RI_grown h8135 hgr136 (fun g_ e_ => by have e2 : wz134.heap.size = g_ := (by simpa [Value.ownBlock] using e_); subst e2; exact Or.inr ne135)
                have fg136 := fg135.grown hgr136 (Kd.R_ne hO135 fg135 (by decide))
                refine cgApp (w0 := v10) (base := v10.heap.size) (.tmp 74) (.tmp 79) _ ([] ++ p) [x] (some ⟨wz124.heap.size, 0, none⟩) 1 1 HT HD136 hO136 h8136.rd.2.2 hB136 hB136.size (by simp; omega) (fun x hx e_ => by have := Kd.R_base hO136 _ e_.symm; simp only [List.mem_cons, List.mem_nil_iff, or_false] at hx; rcases hx with rfl | rfl | rfl <;> simp only [] at this <;> omega) ?_
                intro A137_ c137_ u137 hO137 hB137 HD137 hgr137
                rw [EX.out] at hO137 ⊢
                refine cgN ?_
                have fg137 := fg136.grown hgr137 (Kd.R_ne hO136 fg136 (by decide))
                repeat ((with_reducible refine cgGate ?_); first | refine cgP HT ?_ | refine cgL HT ?_ | refine cgG HT ?_)
                obtain ⟨f0, f1, f2, f3, f4⟩ := fg137.f
                refine cgLast HT ?_
                refine cgDone HT ?_
                have ho9 := Kd.R_set (Kd.R_set hO137 fg137 (by decide) 0 (.int .i64 3)) (fg137.set0 (.int .i64 3)) (by decide) 1 (.slice A137_ (p.length + 1) c137_)
                have U9 := fg137.set (.int .i64 3) (.slice A137_ (p.length + 1) c137_)
                have B9 : Below v10.heap.size v10 ((u137.setCell ⟨gg124, 0, none⟩ (.int .i64 3)).setCell ⟨gg124, 1, none⟩ (.slice A137_ (p.length + 1) c137_)) := (hB137.setCell hg124 _).setCell hg124 _
                have ku := (Kd.R_reads' ho9).2.2
                rw [EX.out] at ku
                go_wp2
                go_meet
                case rel => exact ⟨_, A137_, c137_, rfl, ⟨ku⟩, ⟨U9⟩, ⟨B9⟩⟩
          case rest =>
            obtain ⟨gd, Ad, cd, rfl, ⟨kd⟩, ⟨bd⟩, ⟨Bd⟩⟩ := hcut
            have la : (p ++ [xl]).length = p.length + 1 := List.length_append
            have ld : (p ++ [x]).length = p.length + 1 := List.length_append
            have hA := iShapeOk_c K (some ⟨g7, 0, none⟩) ca (p.set i (1001, y))
            have hB := iShapeOk_c K Ab cb (p ++ [xl])
            have hC2 := iShapeOk_c 4 (some ad) c1 p
            have hD := iShapeOk_c 3 Ad cd (p ++ [x])
            rw [BX.out, List.length_set] at hA
            rw [BL.out, la] at hB
            rw [BK.out] at hC2
            rw [BR.out, ld] at hD
            have HA := Lib.hid hA
            have HBB := Lib.hid hB
            have HCC := Lib.hid hC2
            have HDD := Lib.hid hD
            have kaz := Kd.C_below ka Bd
            have kbz := Kd.C_below kb2 Bd
            have kcz := Kd.C_below hC_ Bd
            have baz := ba2.to Bd
            have bbz := bb2.to Bd
            have bcz := bc.to Bd
            have Bwz := Bw10.trans (Bd.mono Bw10.size)
            have np1 : p.length + 1 ≤ 1048576 := by omega
            clear hA hB hC2 hD la ld ka kb2 hC_ ba2 bb2 bc Bd Bw10 h0 h1 e0 e1
            obtain ⟨a0, a1, a2, a3, a4⟩ := baz.f
            go_wp2_with fail
            refine (HA.out _ kaz np).mono ?_
            rintro e r1 ⟨rfl, hr1⟩
            clear a0 a1 a2 a3 a4
            obtain ⟨a0, a1, a2, a3, a4⟩ := (bbz.to hr1).f
            go_wp2_with fail
            refine (HBB.out _ (Kd.C_below kbz bl) np1).mono ?_
            rintro e r2 ⟨rfl, hr2⟩
            clear a0 a1 a2 a3 a4
            obtain ⟨a0, a1, a2, a3, a4⟩ := ((bcz.to hr1).to hr2).f
            go_wp2_with fail
            refine (HCC.out _ (Kd.C_below kcz bl) np).mono ?_
            rintro e r3 ⟨rfl, hr3⟩
            clear a0 a1 a2 a3 a4
            obtain ⟨a0, a1, a2, a3, a4⟩ := (((bd.to hr1).to hr2).to hr3).f
            go_wp2_with fail
            refine (HDD.out _ (Kd.C_below kd bl) np1).mono ?_
            rintro e r4 ⟨rfl, hr4⟩
            go_wp2
            go_ret
            exact ⟨rfl, bl⟩
  · have hd : decide ((1048576 : Int) < (l.length : Int)) = true := decide_eq_true (by omega)
    go_enter Tryd.func3, Tryd.ntmps3
    go_wp2
    go_ret
    exact ⟨rfl, bl⟩
end Go.Proofs.YtlipjhmcgdmhlaaDoor
