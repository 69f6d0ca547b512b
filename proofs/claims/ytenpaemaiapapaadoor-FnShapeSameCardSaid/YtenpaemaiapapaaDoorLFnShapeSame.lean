/- Law: two drawn shapes that are ok are one just if their texts are; a shape from behind is as from ahead just if it reads alike both ways. -/
import Derived.Test.YtenpaemaiapapaaDoorPv
import Derived.Test.YtenpaemaiapapaaDoorEc
import Derived.Test.YtenpaemaiapapaaDoorJ
namespace Go.Proofs.YtenpaemaiapapaaDoor
open Go.RowKit Go.Proofs.YtenpaemaiapapaaDoorW.PrintWords Go.Proofs.YtenpaemaiapapaaDoorW.PrintLast
set_option maxRecDepth 100000
set_option linter.unusedVariables false
set_option linter.unusedSimpArgs false
attribute [local go_sem high] eqPtOp
theorem fnShapeSame_tied {w : World} (h : laidMetH Tryd.prog Rows.fnShapeSameRow.laid w) : Tied w := by
  rw [MakeChecks.laidMetH_plain _ _ _ (by kernel_rfl)] at h
  exact Tied.of h (by first | exact List.mem_of_getElem? (i := 0) rfl | exact List.mem_of_getElem? (i := 1) rfl | exact List.mem_of_getElem? (i := 2) rfl | exact List.mem_of_getElem? (i := 3) rfl | exact List.mem_of_getElem? (i := 4) rfl | exact List.mem_of_getElem? (i := 5) rfl | exact List.mem_of_getElem? (i := 6) rfl | exact List.mem_of_getElem? (i := 7) rfl | exact List.mem_of_getElem? (i := 8) rfl) (by first | exact List.mem_of_getElem? (i := 0) rfl | exact List.mem_of_getElem? (i := 1) rfl | exact List.mem_of_getElem? (i := 2) rfl | exact List.mem_of_getElem? (i := 3) rfl | exact List.mem_of_getElem? (i := 4) rfl | exact List.mem_of_getElem? (i := 5) rfl | exact List.mem_of_getElem? (i := 6) rfl | exact List.mem_of_getElem? (i := 7) rfl | exact List.mem_of_getElem? (i := 8) rfl)
/-- The first k points are those from behind. -/
def pal (l : List Pt) (k : Nat) : Bool := decide (∀ i, i < k → l[i]? = l[l.length - 1 - i]?)
theorem pal_succ {l : List Pt} {k j : Nat} (hk : k < l.length) (hj : j < l.length) (e : k + j + 1 = l.length) : pal l (k + 1) = (pal l k && eqB l[k] l[j]) := by
  have hj2 : l.length - 1 - k = j := by omega
  rw [Bool.eq_iff_iff]
  simp only [pal, Bool.and_eq_true, decide_eq_true_eq, eqB_t]
  constructor
  · intro h
    refine ⟨fun i hi => h i (by omega), ?_⟩
    have := h k (by omega)
    rw [hj2, List.getElem?_eq_getElem hk, List.getElem?_eq_getElem hj] at this
    exact Option.some.inj this
  · rintro ⟨h, h2⟩ i hi
    rcases Nat.lt_or_ge i k with h3 | h3
    · exact h i h3
    · obtain rfl : i = k := by omega
      rw [hj2, List.getElem?_eq_getElem hk, List.getElem?_eq_getElem hj, h2]
theorem pal_all (K : Int) (l : List Pt) : eqB ((K, l.reverse) : Int × List Pt) (K, l) = pal l l.length := by
  rw [Bool.eq_iff_iff, eqB_t]
  simp only [pal, decide_eq_true_eq, Prod.mk.injEq, true_and]
  constructor
  · intro h i hi
    have h2 : l.reverse[i]? = l[i]? := by rw [h]
    rw [List.getElem?_reverse hi] at h2
    exact h2.symm
  · intro h
    apply List.ext_getElem?
    intro i
    rcases Nat.lt_or_ge i l.length with h3 | h3
    · rw [List.getElem?_reverse h3]
      exact (h i h3).symm
    · rw [List.getElem?_eq_none (by simpa using h3), List.getElem?_eq_none h3]
def l_FnShapeSame_T5 : Bool × List (List Nat × List Nat) := (true, [([], []), ([], []), ([0, 1], [0, 1]), ([], []), ([], []), ([3, 4, 2], [3, 4]), ([2, 5], [2, 5]), ([6, 5], [6]), ([7], [7]), ([7], [7]), ([8, 9, 7, 7], [7, 8, 9]), ([7], [7]), ([7], [7]), ([11, 12, 10, 7], [7, 11, 12]), ([10, 13, 7], [7, 10, 13]), ([7, 14], [7, 14])])
theorem l_FnShapeSame_t5 : rtab .any (opsOf Tryd.f5 5) = l_FnShapeSame_T5 := by kernel_rfl
def l_FnShapeSame_T13 : Bool × List (List Nat × List Nat) := (true, [([], []), ([0], [0]), ([1], [1]), ([2, 1], [1, 2]), ([1], [1]), ([3, 4, 1], [1, 3, 4]), ([5, 1], [1, 5]), ([1], [1]), ([7, 1], [1, 7]), ([1], [1]), ([9, 1], [1, 9]), ([10, 1], [1, 10]), ([11, 1], [1, 11]), ([1], [1]), ([12, 13, 1], [1, 12, 13]), ([8, 14, 1], [1, 8, 14]), ([15, 1], [1, 15]), ([6, 16, 1], [1, 6, 16]), ([1, 17], [1, 17]), ([18, 1, 0, 1, 2, 3, 4, 5, 6, 7, 8, 9, 10, 11, 12, 13, 14, 15, 16, 17, 18], [0, 18])])
theorem l_FnShapeSame_t13 : rtab .any (opsOf Tryd.f5 13) = l_FnShapeSame_T13 := by kernel_rfl
def l_FnShapeSame_T14 : Bool × List (List Nat × List Nat) := (true, [([], []), ([], []), ([0, 1], [0, 1]), ([], []), ([3, 2], [3]), ([], []), ([5, 4], [5]), ([4, 6], [4, 6]), ([2, 7], [2, 7]), ([8, 6], [8]), ([9], [9]), ([9], [9]), ([10, 11, 9, 9], [9, 10, 11]), ([9], [9]), ([13, 12, 9], [9, 13]), ([9], [9]), ([15, 14, 9], [9, 15]), ([14, 16, 9], [9, 14, 16]), ([12, 17, 9], [9, 12, 17]), ([9, 18], [9, 18]), ([19, 16], [19]), ([20], [20]), ([21, 20, 20], [20, 21]), ([20], [20]), ([22, 23, 22, 20], [20, 22, 23]), ([20], [20]), ([24, 25, 20], [20, 24, 25]), ([20, 26], [20, 26]), ([27, 24, 0, 1, 2, 3, 4, 5, 6, 7, 8, 9, 10, 11, 12, 13, 14, 15, 16, 17, 18, 19, 20, 21, 22, 23, 24, 25, 26, 27], [27])])
theorem l_FnShapeSame_t14 : rtab .any (opsOf Tryd.f5 14) = l_FnShapeSame_T14 := by kernel_rfl
set_option maxHeartbeats 8000000 in
theorem FnShapeSame_c (A : Option Addr) (c : Nat) (l : List Int) (B : Option Addr) (d : Nat) (m : List Int) (w : World) (hl : (Kd.int .u8).C w A l.length l) (hn : (l.length : Int) ≤ 140737488351232) (hb : ∀ x ∈ l, 0 ≤ x ∧ x ≤ 255) (hc : l.length ≤ c)
    (hl' : (Kd.int .u8).C w B m.length m) (hn' : (m.length : Int) ≤ 140737488351232) (hb' : ∀ x ∈ m, 0 ≤ x ∧ x ≤ 255) (hc' : m.length ≤ d) (hL : laidMetH Tryd.prog Rows.fnShapeSameRow.laid w) :
    Calls Tryd.prog 5 #[.slice A l.length c, .slice B m.length d] w fun e w' => e = .returned (.bool true) ∧ Below w.heap.size w w' := by
  have T := fnShapeSame_tied hL
  clear hL
  by_cases hs : (l.length : Int) ≤ 1048576
  · have hd : decide ((1048576 : Int) < (l.length : Int)) = false := decide_eq_false (by omega)
    by_cases hs2 : (m.length : Int) ≤ 1048576
    · have hd2 : decide ((1048576 : Int) < (m.length : Int)) = false := decide_eq_false (by omega)
      go_enter Tryd.func5, Tryd.ntmps5
      go_wp2_with fail
      refine (DrawShapeSame_d A c l _ (Kd.C_below hl bl) hb hc (by omega)).mono ?_
      rintro e w1 ⟨K, A1, c1, p, K2, A2, c2, p2, rfl, P1, P2, hp1, hp2, hb1⟩
      have HC : Cells ((w1.alloc (.cells #[.int .i64 K, .slice A1 p.length c1] 35)).alloc (.cells #[.int .i64 K2, .slice A2 p2.length c2] 35)) _ := ((Cells.nil w1).box bl).box (Below.refl _ _)
      simp only [World.size_alloc] at HC
      obtain ⟨h0, h1, h2, h3, _⟩ := HC.all
      go_wp2_with fail
      refine (DrawShapeText_d B d m _ (Kd.C_below hl' bl) hb' hc' (by omega)).mono ?_
      rintro e w2 ⟨K3, A3, c3, p3, rfl, hr3, hp3, hK30, hK34, hb2⟩
      have B12 : Below w1.heap.size w1 w2 := bl
      replace HC : Cells (w2.alloc (.cells #[.int .i64 K3, .slice A3 p3.length c3] 35)) _ := (HC.to hb2).box (Below.refl _ _)
      clear h0 h1 h2 h3
      obtain ⟨h0, h1, h2, h3, h4, h5, _⟩ := HC.all
      have b23 : Below w2.heap.size w2 (w2.alloc (.cells #[.int .i64 K3, .slice A3 p3.length c3] 35)) := below_alloc (Below.refl _ _) _
      have B13 := B12.trans (b23.mono B12.size)
      have Pa := Kd.C_below P1 B13
      have Pb := Kd.C_below P2 B13
      have Pc := Kd.C_below hr3.rd.2.2 b23
      have Bw := hb1.trans (B13.mono hb1.size)
      have Tw := T.to Bw
      clear P1 P2 hr3 B12 B13 hb2 T hl hl' b23 hb1
      go_upto_region 5 with (fail)
      generalize w2.alloc (.cells #[.int .i64 K3, .slice A3 p3.length c3] 35) = w3 at *
      have n1 : p.length ≤ 1048576 := by omega
      have n2 : p2.length ≤ 1048576 := by omega
      have n3 : p3.length ≤ 1048576 := by omega
      have iab := fun w h h' => iShapeSame_c K K2 A1 A2 c1 c2 p p2 w h h' n1 n2
      have sab := fun w h h' => sShapeSame_c K K2 A1 A2 c1 c2 p p2 w h h' n1 n2
      have iac := fun w h h' => iShapeSame_c K K3 A1 A3 c1 c3 p p3 w h h' n1 n3
      have ica := fun w h h' => iShapeSame_c K3 K A3 A1 c3 c1 p3 p w h h' n3 n1
      obtain ⟨b1, e1⟩ : ∃ b, eqB ((K, p) : Int × List Pt) (K2, p2) = b := ⟨_, rfl⟩
      obtain ⟨b2, e2⟩ : ∃ b, eqB ((K, p) : Int × List Pt) (K3, p3) = b := ⟨_, rfl⟩
      have e3 : eqB ((K3, p3) : Int × List Pt) (K, p) = b2 := by
        rw [← e2, Bool.eq_iff_iff, eqB_t, eqB_t]
        exact ⟨fun e => e.symm, fun e => e.symm⟩
      rw [e1] at iab sab
      rw [e2] at iac
      rw [e3] at ica
      have IAB := Lib.hid iab
      have SAB := Lib.hid sab
      have IAC := Lib.hid iac
      have ICA := Lib.hid ica
      have E1 := Lib.hid e1
      have E2 := Lib.hid e2
      clear iab sab iac ica e1 e2 e3
      have t1 : (b1 != b1) = false := by cases b1 <;> rfl
      have t2 : (b2 != b2) = false := by cases b2 <;> rfl
      have t3 : (b1 == b1) = true := by cases b1 <;> rfl
      have t4 : (b2 == b2) = true := by cases b2 <;> rfl
      refine rgStart 16 [0, 1, 3, 4, 2, 5, 6, 7, 8, 9, 11, 12, 10, 13, 14, 15] l_FnShapeSame_t5 (fun HT HS => ?_)
      repeat ((with_reducible refine rgGate ?_); first | refine rgP HT ?_ | refine rgL HT ?_ | refine rgG HT ?_)
      refine rgCall HT Tryd.func26 (IAB.out _ (Kd.C_below Pa bl) (Kd.C_below Pb bl)) ?_
      rintro e q1 ⟨rfl, hq1⟩
      refine ⟨_, rfl, bl, rgN ?_⟩
      repeat ((with_reducible refine rgGate ?_); first | refine rgP HT ?_ | refine rgL HT ?_ | refine rgG HT ?_)
      refine rgCall HT Tryd.func27 (SAB.out _ (Kd.C_below Pa bl) (Kd.C_below Pb bl)) ?_
      rintro e q2 ⟨rfl, hq2⟩
      refine ⟨_, rfl, bl, rgN ?_⟩
      repeat ((with_reducible refine rgGate ?_); first | refine rgP HT ?_ | refine rgL HT ?_ | refine rgG HT ?_)
      refine rgCall HT Tryd.func26 (IAC.out _ (Kd.C_below Pa bl) (Kd.C_below Pc bl)) ?_
      rintro e q3 ⟨rfl, hq3⟩
      refine ⟨_, rfl, bl, rgN ?_⟩
      repeat ((with_reducible refine rgGate ?_); first | refine rgP HT ?_ | refine rgL HT ?_ | refine rgG HT ?_)
      refine rgCall HT Tryd.func26 (ICA.out _ (Kd.C_below Pc bl) (Kd.C_below Pa bl)) ?_
      rintro e q4 ⟨rfl, hq4⟩
      refine ⟨_, rfl, bl, rgN ?_⟩
      repeat ((with_reducible refine rgGate ?_); first | refine rgP HT ?_ | refine rgL HT ?_ | refine rgG HT ?_)
      refine rgDone HT ?_
      clear HT HS
      have B34 : Below w3.heap.size w3 q4 := bl
      replace HC := HC.to B34
      clear h0 h1 h2 h3 h4 h5
      obtain ⟨h0, h1, h2, h3, h4, h5, _⟩ := HC.all
      clear hq1 hq2 hq3 hq4
      have Pa4 := Kd.C_below Pa B34
      have Pb4 := Kd.C_below Pb B34
      have Pc4 := Kd.C_below Pc B34
      have T4 := Tw.to B34
      have Bw4 := Bw.trans (B34.mono Bw.size)
      clear Pa Pb Pc Tw Bw B34
      have oa := fun w h => sShapeOk_c K A1 c1 p w h n1
      have ob := fun w h => sShapeOk_c K2 A2 c2 p2 w h n2
      have oc := fun w h => sShapeOk_c K3 A3 c3 p3 w h n3
      cases ha : shapeOk K p
      case' false =>
        rw [ha] at oa
        have OA := Lib.hid oa
        clear oa ob oc ha
        go_wp2_with fail
        refine (OA.out _ (Kd.C_below Pa4 bl)).mono ?_
        rintro e r1 ⟨rfl, hr1⟩
        go_wp2
        go_ret
        exact ⟨rfl, bl⟩
      rw [ha] at oa
      have OA := Lib.hid oa
      have HA := Lib.hid (shapeOk_t.1 ha)
      clear oa ha
      go_wp2_with fail
      refine (OA.out _ (Kd.C_below Pa4 bl)).mono ?_
      rintro e r1 ⟨rfl, hr1⟩
      replace HC := HC.to hr1
      clear h0 h1 h2 h3 h4 h5
      obtain ⟨h0, h1, h2, h3, h4, h5, _⟩ := HC.all
      cases hbk : shapeOk K2 p2
      case' false =>
        rw [hbk] at ob
        have OB := Lib.hid ob
        clear ob oc hbk
        go_wp2_with fail
        refine (OB.out _ (Kd.C_below Pb4 bl)).mono ?_
        rintro e r2 ⟨rfl, hr2⟩
        go_wp2
        go_ret
        exact ⟨rfl, bl⟩
      rw [hbk] at ob
      have OB := Lib.hid ob
      have HB := Lib.hid (shapeOk_t.1 hbk)
      clear ob hbk
      go_wp2_with fail
      refine (OB.out _ (Kd.C_below Pb4 bl)).mono ?_
      rintro e r2 ⟨rfl, hr2⟩
      replace HC := HC.to hr2
      clear h0 h1 h2 h3 h4 h5
      obtain ⟨h0, h1, h2, h3, h4, h5, _⟩ := HC.all
      cases hck : shapeOk K3 p3
      case' false =>
        rw [hck] at oc
        have OC := Lib.hid oc
        clear oc hck
        go_wp2_with fail
        refine (OC.out _ (Kd.C_below Pc4 bl)).mono ?_
        rintro e r3 ⟨rfl, hr3⟩
        go_wp2
        go_ret
        exact ⟨rfl, bl⟩
      rw [hck] at oc
      have OC := Lib.hid oc
      have HCk := Lib.hid (shapeOk_t.1 hck)
      clear oc hck
      go_wp2_with fail
      refine (OC.out _ (Kd.C_below Pc4 bl)).mono ?_
      rintro e r3 ⟨rfl, hr3⟩
      replace HC := HC.to hr3
      clear h0 h1 h2 h3 h4 h5
      obtain ⟨h0, h1, h2, h3, h4, h5, _⟩ := HC.all
      have Br := hr1.trans ((hr2.trans (hr3.mono hr2.size)).mono hr1.size)
      have Pa5 := Kd.C_below Pa4 Br
      have Pb5 := Kd.C_below Pb4 Br
      have Pc5 := Kd.C_below Pc4 Br
      have T5 := T4.to Br
      have Bw5 := Bw4.trans (Br.mono Bw4.size)
      clear Pa4 Pb4 Pc4 T4 Bw4 Br hr1 hr2 hr3 OA OB OC
      have hpos : 0 < p.length := by rcases HA.out.2 with h | h | h <;> omega
      have hw0 : IntKind.i64.wrap ((p.length : Int) - 1) = (p.length : Int) - 1 := IntWalk.i64_in _ (by omega)
      go_wp2
      go_loopw [8, 9] (fun q8 q9 wr => ∃ k : Nat, k ≤ p.length ∧ q9 = .int .i64 k ∧ q8 = .bool (pal p k) ∧ Aside0 (Below r3.heap.size r3 wr)) (fun _ q9 _ => p.length - (intOf q9).toNat)
      case atStart => exact ⟨0, by omega, rfl, by simp [pal], ⟨Below.refl _ _⟩⟩
      case round =>
        obtain ⟨k, hk, rfl, rfl, ⟨hbr⟩⟩ := hrel
        replace HC := HC.to hbr
        clear h0 h1 h2 h3 h4 h5
        obtain ⟨h0, h1, h2, h3, h4, h5, _⟩ := HC.all
        by_cases hlt : k < p.length
        · have d1 : decide ((k : Int) < (p.length : Int)) = true := decide_eq_true (by omega)
          have hw : IntKind.i64.wrap ((k : Int) + 1) = (k : Int) + 1 := IntWalk.i64_in _ (by omega)
          obtain ⟨j, hj⟩ : ∃ j, k + j + 1 = p.length := ⟨p.length - 1 - k, by omega⟩
          have hjl : j < p.length := by omega
          have hwj : IntKind.i64.wrap ((p.length : Int) - 1 - (k : Int)) = (j : Int) := by rw [IntWalk.i64_in _ (by omega)]; omega
          have HP := Lib.hid (pal_succ hlt hjl hj)
          obtain ⟨ad, rfl, e0, e1⟩ := at_Pt Pa5 k hlt
          obtain ⟨ad2, e2, g0, g1⟩ := at_Pt Pa5 j hjl
          cases e2
          replace e0 := pw_cell_below hbr e0
          replace e1 := pw_cell_below hbr e1
          replace g0 := pw_cell_below hbr g0
          replace g1 := pw_cell_below hbr g1
          generalize p[k] = x at *
          generalize p[j] = y at *
          cases hpk : pal p k
          · have HP2 := Lib.hid (show pal p (k + 1) = false by rw [HP.out, hpk]; rfl)
            go_wp2
            refine rgStart 20 [0, 1, 2, 3, 4, 5, 6, 7, 8, 9, 10, 11, 12, 13, 14, 15, 16, 17, 18, 19] l_FnShapeSame_t13 (fun HT HS => ?_)
            repeat ((with_reducible refine rgGate ?_); first | refine rgP HT ?_ | refine rgL HT ?_ | refine rgG HT ?_)
            refine rgDone HT ?_
            clear HT HS
            go_wp2
            exact ⟨⟨k + 1, by omega, by go_num, by rw [HP2.out], ⟨bl⟩⟩, by simp [intOf]; omega⟩
          · have HP2 := Lib.hid (show pal p (k + 1) = eqB x y by rw [HP.out, hpk]; rfl)
            go_wp2
            refine rgStart 20 [0, 1, 2, 3, 4, 5, 6, 7, 8, 9, 10, 11, 12, 13, 14, 15, 16, 17, 18, 19] l_FnShapeSame_t13 (fun HT HS => ?_)
            repeat ((with_reducible refine rgGate ?_); first | refine rgP HT ?_ | refine rgL HT ?_ | refine rgG HT ?_)
            refine rgDone HT ?_
            clear HT HS
            go_wp2
            exact ⟨⟨k + 1, by omega, by go_num, by rw [HP2.out], ⟨bl⟩⟩, by simp [intOf]; omega⟩
        · have d1 : decide ((k : Int) < (p.length : Int)) = false := decide_eq_false (by omega)
          obtain rfl : k = p.length := by omega
          have i1 := shapeT_iff HA.out HB.out
          have i2 := shapeT_iff HA.out HCk.out
          have s1 : ((shapeT K p).toList == (shapeT K2 p2).toList) = b1 := by
            rw [← E1.out]
            by_cases e : (K, p) = (K2, p2)
            · rw [eqB_t.2 e, strB_t (i1.2 e)]
            · rw [eqB_f.2 e, strB_f (fun h => e (i1.1 h))]
          have s2 : ((shapeT K p).toList == (shapeT K3 p3).toList) = b2 := by
            rw [← E2.out]
            by_cases e : (K, p) = (K3, p3)
            · rw [eqB_t.2 e, strB_t (i2.2 e)]
            · rw [eqB_f.2 e, strB_f (fun h => e (i2.1 h))]
          have ta := iShapeT_c K A1 c1 p
          have tb := iShapeT_c K2 A2 c2 p2
          have tc := iShapeT_c K3 A3 c3 p3
          have bk := iShapeBack_c K A1 c1 p
          rw [show back K p = (K, p.reverse) from if_pos HA.out] at bk
          simp only [List.length_reverse] at bk
          have sa := fun A c w h h' => iShapeSame_c K K A A1 c c1 p.reverse p w h h' (by rw [List.length_reverse]; exact n1) n1
          rw [pal_all] at sa
          simp only [List.length_reverse] at sa
          have TA := Lib.hid ta
          have TB := Lib.hid tb
          have TC := Lib.hid tc
          have BK := Lib.hid bk
          have SA := Lib.hid sa
          have t5 : (pal p p.length == pal p p.length) = true := by cases pal p p.length <;> rfl
          have Bwr := Bw5.trans (hbr.mono Bw5.size)
          have Par := Kd.C_below Pa5 hbr
          have Pbr := Kd.C_below Pb5 hbr
          have Pcr := Kd.C_below Pc5 hbr
          have Tr := T5.to hbr
          clear ta tb tc bk sa i1 i2 hbr Pa5 Pb5 Pc5 T5 Bw5
          generalize shapeT K p = sA at *
          generalize shapeT K2 p2 = sB at *
          generalize shapeT K3 p3 = sC at *
          generalize pal p p.length = pp at *
          go_wp2
          refine rgStart 29 [0, 1, 3, 5, 2, 4, 6, 7, 8, 9, 10, 11, 13, 15, 12, 14, 16, 17, 18, 19, 20, 21, 23, 25, 22, 24, 26, 27, 28] l_FnShapeSame_t14 (fun HT HS => ?_)
          repeat ((with_reducible refine rgGate ?_); first | refine rgP HT ?_ | refine rgL HT ?_ | refine rgG HT ?_)
          refine rgCall HT Tryd.func26 (IAB.out _ (Kd.C_below Par bl) (Kd.C_below Pbr bl)) ?_
          rintro e z1 ⟨rfl, hz1⟩
          refine ⟨_, rfl, bl, rgN ?_⟩
          repeat ((with_reducible refine rgGate ?_); first | refine rgP HT ?_ | refine rgL HT ?_ | refine rgG HT ?_)
          refine rgCall HT Tryd.func22 (TA.out _ (Kd.C_below Par bl) n1 (Tr.to bl)) ?_
          rintro e z2 ⟨rfl, hz2⟩
          refine ⟨_, rfl, bl, rgN ?_⟩
          repeat ((with_reducible refine rgGate ?_); first | refine rgP HT ?_ | refine rgL HT ?_ | refine rgG HT ?_)
          refine rgCall HT Tryd.func22 (TB.out _ (Kd.C_below Pbr bl) n2 (Tr.to bl)) ?_
          rintro e z3 ⟨rfl, hz3⟩
          refine ⟨_, rfl, bl, rgN ?_⟩
          repeat ((with_reducible refine rgGate ?_); first | refine rgP HT ?_ | refine rgL HT ?_ | refine rgG HT ?_)
          refine rgCall HT Tryd.func26 (IAC.out _ (Kd.C_below Par bl) (Kd.C_below Pcr bl)) ?_
          rintro e z4 ⟨rfl, hz4⟩
          refine ⟨_, rfl, bl, rgN ?_⟩
          repeat ((with_reducible refine rgGate ?_); first | refine rgP HT ?_ | refine rgL HT ?_ | refine rgG HT ?_)
          refine rgCall HT Tryd.func22 (TA.out _ (Kd.C_below Par bl) n1 (Tr.to bl)) ?_
          rintro e z5 ⟨rfl, hz5⟩
          refine ⟨_, rfl, bl, rgN ?_⟩
          repeat ((with_reducible refine rgGate ?_); first | refine rgP HT ?_ | refine rgL HT ?_ | refine rgG HT ?_)
          refine rgCall HT Tryd.func22 (TC.out _ (Kd.C_below Pcr bl) n3 (Tr.to bl)) ?_
          rintro e z6 ⟨rfl, hz6⟩
          refine ⟨_, rfl, bl, rgN ?_⟩
          repeat ((with_reducible refine rgGate ?_); first | refine rgP HT ?_ | refine rgL HT ?_ | refine rgG HT ?_)
          refine rgCall HT Tryd.func29 (BK.out _ (Kd.C_below Par bl) n1) ?_
          rintro e z7 ⟨A7, c7, rfl, hr7, hz7⟩
          refine ⟨_, rfl, bl, rgN ?_⟩
          repeat ((with_reducible refine rgGate ?_); first | refine rgP HT ?_ | refine rgL HT ?_ | refine rgG HT ?_)
          refine rgCall HT Tryd.func26 (SA.out A7 c7 _ (by have h_ := hr7.rd.2.2; rwa [List.length_reverse] at h_) (Kd.C_below Par bl)) ?_
          rintro e z8 ⟨rfl, hz8⟩
          refine ⟨_, rfl, bl, rgN ?_⟩
          repeat ((with_reducible refine rgGate ?_); first | refine rgP HT ?_ | refine rgL HT ?_ | refine rgG HT ?_)
          refine rgDone HT ?_
          clear HT HS
          go_wp2
          go_ret
          exact ⟨rfl, bl⟩
    · have hd2 : decide ((1048576 : Int) < (m.length : Int)) = true := decide_eq_true (by omega)
      go_enter Tryd.func5, Tryd.ntmps5
      go_wp2
      go_ret
      exact ⟨rfl, bl⟩
  · have hd : decide ((1048576 : Int) < (l.length : Int)) = true := decide_eq_true (by omega)
    go_enter Tryd.func5, Tryd.ntmps5
    go_wp2
    go_ret
    exact ⟨rfl, bl⟩
end Go.Proofs.YtenpaemaiapapaaDoor
