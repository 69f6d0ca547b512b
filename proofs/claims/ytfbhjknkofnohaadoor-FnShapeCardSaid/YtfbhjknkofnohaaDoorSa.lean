/- Contracts of the laws' own helpers over maps; SheetSame, SheetOk. -/
import Derived.Test.YtfbhjknkofnohaaDoorFa
import Derived.Test.YtfbhjknkofnohaaDoorFe
namespace Go.Proofs.YtfbhjknkofnohaaDoor
section
open Go.RowKit Go.Proofs.YtfbhjknkofnohaaDoorW.PrintWords Go.Proofs.YtfbhjknkofnohaaDoorW.PrintLast
set_option linter.unusedVariables false
set_option linter.unusedSimpArgs false
instance decFeat : DecidableEq FeatD := inferInstanceAs (DecidableEq (ByteArray × (Int × List (Int × Int)) × List (ByteArray × ByteArray)))
theorem info_Feat : (Tryd.prog.info? 47).map (fun i => (i.zero, i.size, i.bytes)) = some (some (.agg #[.string ByteArray.empty, .int .i64 0, .slice none 0 0, .slice none 0 0]), 4, 72) := by kernel_rfl
theorem feat0_M (w : World) (base : Nat) (ok : Nat → Prop) : kFeat.M w base ok feat0 [.string ByteArray.empty, .int .i64 0, .slice none 0 0, .slice none 0 0] := kFeat_mkM feat0 (Kd.R_nil _ _ _ _ _) (Kd.R_nil _ _ _ _ _)
theorem own_Feat {e base g n cap : Nat} {ok : Nat → Prop} {W : World} {xs : List FeatD} (h : kFeat.R e W base ok (.slice (some ⟨g, 0, none⟩) n cap) xs) (i : Nat) (hi : i < xs.length) :
    ∃ u v, W.cell? ⟨g, i * 4, none⟩ = some (.string xs[i].1) ∧ W.cell? ⟨g, i * 4 + 1, none⟩ = some (.int .i64 xs[i].2.1.1) ∧ W.cell? ⟨g, i * 4 + 2, none⟩ = some u ∧ W.cell? ⟨g, i * 4 + 3, none⟩ = some v ∧
      W.frozen? ⟨g, i * 4, none⟩ = false ∧ W.frozen? ⟨g, i * 4 + 1, none⟩ = false ∧ W.frozen? ⟨g, i * 4 + 2, none⟩ = false ∧ W.frozen? ⟨g, i * 4 + 3, none⟩ = false ∧
      kPt.R 58 W base (fun k => ok k ∧ k ≠ g) u xs[i].2.1.2 ∧ kTag.R 75 W base (fun k => ok k ∧ k ≠ g) v xs[i].2.2 := by
  have hn := (Kd.R_reads' h).1
  obtain ⟨c, hl, hM, hc, hf⟩ := Kd.R_elem h feat0 (i : Int) (by omega) (by omega)
  have hg : xs.getD i feat0 = xs[i] := by rw [List.getD_eq_getElem?_getD, List.getElem?_eq_getElem hi]; rfl
  simp only [Int.toNat_natCast] at hM hc hf
  rw [hg] at hM
  obtain ⟨u, v, rfl, h1, h2⟩ := kFeat_openM hM
  exact ⟨u, v, hc 0 _ rfl, hc 1 _ rfl, hc 2 _ rfl, hc 3 _ rfl, hf 0, hf 1, hf 2, hf 3, h1, h2⟩
theorem set_Feat {e base g n cap : Nat} {ok : Nat → Prop} {W : World} {xs : List FeatD} (h : kFeat.R e W base ok (.slice (some ⟨g, 0, none⟩) n cap) xs) (i : Nat) (hi : i < n) (f : FeatD) {u v : Value} (h1 : kPt.R 58 W base (fun k => ok k ∧ k ≠ g) u f.2.1.2) (h2 : kTag.R 75 W base (fun k => ok k ∧ k ≠ g) v f.2.2) :
    kFeat.R e ((((W.setCell ⟨g, i * 4, none⟩ (.string f.1)).setCell ⟨g, i * 4 + 1, none⟩ (.int .i64 f.2.1.1)).setCell ⟨g, i * 4 + 2, none⟩ u).setCell ⟨g, i * 4 + 3, none⟩ v) base ok (.slice (some ⟨g, 0, none⟩) n cap) (xs.set i f) ∧
      W.grownBy ((((W.setCell ⟨g, i * 4, none⟩ (.string f.1)).setCell ⟨g, i * 4 + 1, none⟩ (.int .i64 f.2.1.1)).setCell ⟨g, i * 4 + 2, none⟩ u).setCell ⟨g, i * 4 + 3, none⟩ v) (some g) := by
  obtain ⟨c, hl, hM, hc, hf⟩ := Kd.R_elem h feat0 (i : Int) (by omega) (by omega)
  have hl2 : c.length = 4 := hl
  have he : c.take 0 ++ [Value.string f.1, .int .i64 f.2.1.1, u, v] ++ c.drop (0 + 4) = [.string f.1, .int .i64 f.2.1.1, u, v] := by rw [List.drop_of_length_le (by omega)]; rfl
  exact Kd.R_seg h (i : Int) (by omega) (by omega) (seg := [.string f.1, .int .i64 f.2.1.1, u, v]) (j := 0) hl hc (show 4 ≤ 4 by decide) (x' := f) (okp := fun k => ok k ∧ k ≠ g) (by
    show kFeat.M W base _ f (c.take 0 ++ [Value.string f.1, .int .i64 f.2.1.1, u, v] ++ c.drop (0 + 4))
    rw [he]; exact kFeat_mkM f h1 h2) (fun _ hk => hk)
theorem RI.off {α : Type} {d : Kd α} {e lo hi b g : Nat} {W : World} {v : Value} {xs : List α} (h : RI d e W lo hi v xs) (hb : b ≤ lo) (hg : g < lo) : d.R e W b (fun k => True ∧ k ≠ g) v xs :=
  Kd.R_lower (Kd.R_mono (Kd.R_bound h) (fun k hk => ⟨trivial, by have := hk.2.1; omega⟩)) hb
/-- Rows in a row of things are no longer than a million. -/
def Few (l : List FeatD) : Prop := l.length ≤ 1048576 ∧ ∀ f ∈ l, f.2.1.2.length ≤ 1048576 ∧ f.2.2.length ≤ 1048576
def l_eqFeatS_T6 : Bool × List (List Nat × List Nat) := (true, [([], []), ([], []), ([0, 1], [0, 1]), ([2], [2]), ([], []), ([], []), ([4, 5], [4, 5]), ([6], [6]), ([3, 7], [3, 7]), ([8], [8])])
theorem l_eqFeatS_t6 : rtab .any (opsOf Tryd.f8 6) = l_eqFeatS_T6 := by kernel_rfl
set_option maxHeartbeats 4000000 in
theorem eqFeatS_c (A B : Option Addr) (c d : Nat) (l m : List FeatD) (w : World) (hl : kFeat.C w A l.length l) (hm : kFeat.C w B m.length m) (hn : Few l) (hn2 : Few m) :
    Calls Tryd.prog 8 #[.slice A l.length c, .slice B m.length d] w fun e w' => e = .returned (.bool (eqB l m)) ∧ Below w.heap.size w w' := by
  have n1 := hn.1
  have n2 := hn2.1
  by_cases hlen : l.length = m.length
  · have hne : ((l.length : Int) != (m.length : Int)) = false := by simp [hlen]
    have Hlen := Lib.hid hlen
    clear hlen
    go_enter Tryd.func8, Tryd.ntmps8
    go_wp2
    go_loopw [5] (fun i wr => ∃ k : Nat, k ≤ l.length ∧ i = .int .i64 k ∧ Aside0 (l.take k = m.take k) ∧ Aside0 (Below w.heap.size w wr)) (fun i _ => l.length - (intOf i).toNat)
    case atStart => exact ⟨0, by omega, rfl, ⟨by simp⟩, ⟨Below.refl _ _⟩⟩
    case round =>
      obtain ⟨k, hk, rfl, he, ⟨hb1⟩⟩ := hrel
      by_cases hlt : k < l.length
      · have hlt2 : k < m.length := by have := Hlen.out; omega
        obtain ⟨ad, A1, c1, B1, d1, rfl, e0, e1, e2, e3, hC, hT, _, _⟩ := at_Feat hl k hlt
        obtain ⟨bd, A2, c2, B2, d2, rfl, f0, f1, f2, f3, hC2, hT2, _, _⟩ := at_Feat hm k hlt2
        replace e0 := pw_cell_below hb1 e0
        replace e1 := pw_cell_below hb1 e1
        replace e2 := pw_cell_below hb1 e2
        replace e3 := pw_cell_below hb1 e3
        replace f0 := pw_cell_below hb1 f0
        replace f1 := pw_cell_below hb1 f1
        replace f2 := pw_cell_below hb1 f2
        replace f3 := pw_cell_below hb1 f3
        have z1 := hn.2 _ (List.getElem_mem hlt)
        have z2 := hn2.2 _ (List.getElem_mem hlt2)
        have hst := Lib.hid (show l[k] = m[k] → l.take (k + 1) = m.take (k + 1) from fun h => by
          rw [List.take_succ_eq_append_getElem hlt, List.take_succ_eq_append_getElem hlt2, he.out, h])
        have hpt := Lib.hid (show l = m → l[k] = m[k] from fun e => by subst e; rfl)
        generalize l[k] = f at *
        generalize m[k] = g at *
        go_wp2
        refine rgStart 10 [0, 1, 2, 3, 4, 5, 6, 7, 8, 9] l_eqFeatS_t6 (fun HT HS => ?_)
        repeat ((with_reducible refine rgGate ?_); first | refine rgP HT ?_ | refine rgL HT ?_ | refine rgG HT ?_)
        refine rgCall HT Tryd.func32 (eqFeat_c f g A1 c1 B1 d1 A2 c2 B2 d2 _ (Kd.C_below hC bl) (Kd.C_below hT bl) (Kd.C_below hC2 bl) (Kd.C_below hT2 bl) z1.1 z1.2 z2.1 z2.2) ?_
        rintro e w2 ⟨rfl, hb2⟩
        refine ⟨_, rfl, bl, rgN ?_⟩
        repeat ((with_reducible refine rgGate ?_); first | refine rgP HT ?_ | refine rgL HT ?_ | refine rgG HT ?_)
        refine rgDone HT ?_
        clear HT HS
        cases hd : eqB f g with
        | true =>
          have Hd := Lib.hid (eqB_t.1 hd)
          go_wp2
          exact ⟨⟨k + 1, by omega, by go_num, ⟨hst.out Hd.out⟩, ⟨bl⟩⟩, by simp [intOf]; omega⟩
        | false =>
          have Hd := Lib.hid (eqB_f.1 hd)
          go_wp2
          go_ret
          exact ⟨ret_bool (by symm; rw [eqB_f]; intro e; exact Hd.out (hpt.out e)), bl⟩
      · go_wp2
        go_ret
        have := he.out
        have h2 := Hlen.out
        exact ⟨ret_bool (by symm; rw [eqB_t]; rwa [List.take_of_length_le (by omega), List.take_of_length_le (by omega)] at this), bl⟩
  · have hne : ((l.length : Int) != (m.length : Int)) = true := by simp; omega
    have Hlen := Lib.hid hlen
    clear hlen
    go_enter Tryd.func8, Tryd.ntmps8
    go_wp2
    go_ret
    exact ⟨ret_bool (by symm; rw [eqB_f]; rintro rfl; exact Hlen.out rfl), bl⟩
end
section
open Go.RowKit Go.Proofs.YtfbhjknkofnohaaDoorW.PrintWords Go.Proofs.YtfbhjknkofnohaaDoorW.PrintLast
set_option linter.unusedVariables false
set_option linter.unusedSimpArgs false
end
section
open Go.RowKit Go.Proofs.YtfbhjknkofnohaaDoorW.PrintWords Go.Proofs.YtfbhjknkofnohaaDoorW.PrintLast
set_option linter.unusedVariables false
set_option linter.unusedSimpArgs false
def s_SheetOk_T4 : Bool × List (List Nat × List Nat) := (true, [([], []), ([], []), ([0, 1], [0, 1]), ([2], [2]), ([3], [3]), ([4], [4]), ([5, 4], [5]), ([6], [6]), ([7, 6], [6, 7]), ([8, 6, 6], [6, 8]), ([9], [9]), ([9], [9]), ([10, 11, 9], [9, 10, 11]), ([12, 9], [9, 12]), ([13, 9], [9, 13]), ([9], [9]), ([9], [9]), ([16, 9], [9, 16]), ([15, 17, 9], [9, 15, 17]), ([18, 9], [9, 18]), ([19, 9], [9, 19]), ([14, 20, 9], [9, 14, 20]), ([9, 21, 6], [6, 9, 21]), ([6, 22], [6, 22])])
theorem s_SheetOk_t4 : rtab .any (opsOf Tryd.f27 4) = s_SheetOk_T4 := by kernel_rfl
set_option maxHeartbeats 4000000 in
theorem sSheetOk_c (A : Option Addr) (c : Nat) (l : List FeatD) (w : World) (hl : kFeat.C w A l.length l) (hn : l.length ≤ 1048576) (hz : ∀ f ∈ l, FTx f) :
    Calls Tryd.prog 27 #[.slice A l.length c] w fun e w' => e = .returned (.bool (sheetOk l)) ∧ Below w.heap.size w w' := by
  go_enter Tryd.func27, Tryd.ntmps27
  go_wp2
  go_loopw [3] (fun i wr => ∃ k : Nat, k ≤ l.length ∧ i = .int .i64 k ∧ Aside0 (∀ i, i < k → stepF l i) ∧ Aside0 (Below w.heap.size w wr)) (fun i _ => l.length - (intOf i).toNat)
  case atStart => exact ⟨0, by omega, rfl, ⟨fun i hi => absurd hi (by omega)⟩, ⟨Below.refl _ _⟩⟩
  case round =>
    obtain ⟨k, hk, rfl, he, ⟨hb1⟩⟩ := hrel
    by_cases hlt : k < l.length
    · obtain ⟨ad, A1, c1, B1, d1, rfl, e0, e1, e2, e3, hC, hT, _, _⟩ := at_Feat hl k hlt
      replace e0 := pw_cell_below hb1 e0
      replace e1 := pw_cell_below hb1 e1
      replace e2 := pw_cell_below hb1 e2
      replace e3 := pw_cell_below hb1 e3
      have hx0 := hz _ (List.getElem_mem hlt)
      cases hx : featOk l[k] with
      | false =>
        have Hno := Lib.hid (show ¬ SheetOk l from fun h => featOk_f.1 hx (h.1 k hlt hlt).1)
        generalize l[k] = f at *
        go_wp2
        refine rgStart 24 [0, 1, 2, 3, 4, 5, 6, 7, 8, 9, 10, 11, 12, 13, 14, 15, 16, 17, 18, 19, 20, 21, 22, 23] s_SheetOk_t4 (fun HT HS => ?_)
        repeat ((with_reducible refine rgGate ?_); first | refine rgP HT ?_ | refine rgL HT ?_ | refine rgG HT ?_)
        refine rgCall HT Tryd.func56 (sFeatOk_c f A1 c1 B1 d1 _ (Kd.C_below hC bl) (Kd.C_below hT bl) hx0) ?_
        rintro e w2 ⟨rfl, hb2⟩
        refine ⟨_, rfl, bl, rgN ?_⟩
        rw [hx]
        repeat ((with_reducible refine rgGate ?_); first | refine rgP HT ?_ | refine rgL HT ?_ | refine rgG HT ?_)
        refine rgDone HT ?_
        clear HT HS
        go_wp2
        go_ret
        exact ⟨ret_bool (sheetOk_f.2 Hno.out).symm, bl⟩
      | true =>
        have Hp := Lib.hid (featOk_t.1 hx)
        rcases Nat.eq_zero_or_pos k with h0 | h0
        · have hd : decide (0 < k) = false := by simp; omega
          have Hs := Lib.hid (show stepF l k from fun h => ⟨Hp.out, fun h1 => by omega⟩)
          clear h0
          clear Hp
          generalize l[k] = f at *
          go_wp2
          refine rgStart 24 [0, 1, 2, 3, 4, 5, 6, 7, 8, 9, 10, 11, 12, 13, 14, 15, 16, 17, 18, 19, 20, 21, 22, 23] s_SheetOk_t4 (fun HT HS => ?_)
          repeat ((with_reducible refine rgGate ?_); first | refine rgP HT ?_ | refine rgL HT ?_ | refine rgG HT ?_)
          refine rgCall HT Tryd.func56 (sFeatOk_c f A1 c1 B1 d1 _ (Kd.C_below hC bl) (Kd.C_below hT bl) hx0) ?_
          rintro e w2 ⟨rfl, hb2⟩
          refine ⟨_, rfl, bl, rgN ?_⟩
          rw [hx]
          repeat ((with_reducible refine rgGate ?_); first | refine rgP HT ?_ | refine rgL HT ?_ | refine rgG HT ?_)
          refine rgDone HT ?_
          clear HT HS
          go_wp2
          exact ⟨⟨k + 1, by omega, by go_num, ⟨fun i hi => if h : i = k then h ▸ Hs.out else he.out i (by omega)⟩, ⟨bl⟩⟩, by simp [intOf]; omega⟩
        · obtain ⟨j, hkj⟩ : ∃ j, k = j + 1 := ⟨k - 1, by omega⟩
          have hd : decide (0 < k) = true := by simp; omega
          have hw : IntKind.i64.wrap ((k : Int) - 1) = (j : Int) := by rw [IntWalk.i64_in _ (by omega)]; omega
          have hj : j < l.length := by omega
          obtain ⟨ad', A2, c2, B2, d2, e', g0, g1, g2, g3, _, _, _, _⟩ := at_Feat hl j hj
          cases e'
          replace g0 := pw_cell_below hb1 g0
          clear g1 g2 g3
          have Hs0 := Lib.hid (show stepF l k ↔ ltS l[j].1 l[k].1 = true by subst hkj; exact ⟨fun h => (h hlt).2 (by omega), fun hq h => ⟨Hp.out, fun _ => hq⟩⟩)
          have hle := @leS_of l[k].1 l[j].1
          clear hkj h0 Hp
          generalize l[k] = f at *
          generalize l[j] = g at *
          cases hq : ltS g.1 f.1
          all_goals
            rw [hq] at hle
            go_wp2
            refine rgStart 24 [0, 1, 2, 3, 4, 5, 6, 7, 8, 9, 10, 11, 12, 13, 14, 15, 16, 17, 18, 19, 20, 21, 22, 23] s_SheetOk_t4 (fun HT HS => ?_)
            repeat ((with_reducible refine rgGate ?_); first | refine rgP HT ?_ | refine rgL HT ?_ | refine rgG HT ?_)
            refine rgCall HT Tryd.func56 (sFeatOk_c f A1 c1 B1 d1 _ (Kd.C_below hC bl) (Kd.C_below hT bl) hx0) ?_
            rintro e w2 ⟨rfl, hb2⟩
            refine ⟨_, rfl, bl, rgN ?_⟩
            rw [hx]
            repeat ((with_reducible refine rgGate ?_); first | refine rgP HT ?_ | refine rgL HT ?_ | refine rgG HT ?_)
            refine rgDone HT ?_
            clear HT HS
            go_wp2
          · go_ret
            exact ⟨ret_bool (by symm; rw [sheetOk_f]; intro ho; have := Hs0.out.1 (ho.1 k hlt); rw [hq] at this; cases this), bl⟩
          · exact ⟨⟨k + 1, by omega, by go_num, ⟨fun i hi => if h : i = k then h ▸ Hs0.out.2 hq else he.out i (by omega)⟩, ⟨bl⟩⟩, by simp [intOf]; omega⟩
    · have hpts : FeatsUp l := fun i hi => he.out i (by omega)
      have HP := Lib.hid hpts
      clear hpts he
      go_wp2
      go_ret
      exact ⟨ret_bool (by rw [Bool.eq_iff_iff, sheetOk_t]; simp only [decide_eq_true_eq]; exact ⟨fun h => ⟨HP.out, by omega⟩, fun h => by have := h.2; omega⟩), bl⟩
def i_SheetOk_T4 : Bool × List (List Nat × List Nat) := (true, [([], []), ([0], [0]), ([1], [1]), ([2, 1], [2]), ([3], [3]), ([4, 3], [3, 4]), ([5, 3, 3], [3, 5]), ([6], [6]), ([6], [6]), ([8, 6], [6, 8]), ([7, 9, 6], [6, 7, 9]), ([10, 6], [6, 10]), ([11, 6], [6, 11]), ([6], [6]), ([13, 6], [6, 13]), ([12, 14, 6], [6, 12, 14]), ([6, 15, 3], [3, 6, 15]), ([3, 16], [3, 16])])
theorem i_SheetOk_t4 : rtab .any (opsOf Tryd.f30 4) = i_SheetOk_T4 := by kernel_rfl
set_option maxHeartbeats 4000000 in
theorem iSheetOk_c (A : Option Addr) (c : Nat) (l : List FeatD) (w : World) (hl : kFeat.C w A l.length l) (hn : l.length ≤ 1048576) (hz : ∀ f ∈ l, FTx f) :
    Calls Tryd.prog 30 #[.slice A l.length c] w fun e w' => e = .returned (.bool (sheetOk l)) ∧ Below w.heap.size w w' := by
  go_enter Tryd.func30, Tryd.ntmps30
  go_wp2
  go_loopw [7] (fun i wr => ∃ k : Nat, k ≤ l.length ∧ i = .int .i64 k ∧ Aside0 (∀ i, i < k → stepF l i) ∧ Aside0 (Below w.heap.size w wr)) (fun i _ => l.length - (intOf i).toNat)
  case atStart => exact ⟨0, by omega, rfl, ⟨fun i hi => absurd hi (by omega)⟩, ⟨Below.refl _ _⟩⟩
  case round =>
    obtain ⟨k, hk, rfl, he, ⟨hb1⟩⟩ := hrel
    by_cases hlt : k < l.length
    · obtain ⟨ad, A1, c1, B1, d1, rfl, e0, e1, e2, e3, hC, hT, _, _⟩ := at_Feat hl k hlt
      replace e0 := pw_cell_below hb1 e0
      replace e1 := pw_cell_below hb1 e1
      replace e2 := pw_cell_below hb1 e2
      replace e3 := pw_cell_below hb1 e3
      have hx0 := hz _ (List.getElem_mem hlt)
      cases hx : featOk l[k] with
      | false =>
        have Hno := Lib.hid (show ¬ SheetOk l from fun h => featOk_f.1 hx (h.1 k hlt hlt).1)
        generalize l[k] = f at *
        go_wp2
        refine rgStart 18 [0, 1, 2, 3, 4, 5, 6, 7, 8, 9, 10, 11, 12, 13, 14, 15, 16, 17] i_SheetOk_t4 (fun HT HS => ?_)
        repeat ((with_reducible refine rgGate ?_); first | refine rgP HT ?_ | refine rgL HT ?_ | refine rgG HT ?_)
        refine rgCall HT Tryd.func61 (iFeatOk_c f A1 c1 B1 d1 _ (Kd.C_below hC bl) (Kd.C_below hT bl) hx0) ?_
        rintro e w2 ⟨rfl, hb2⟩
        refine ⟨_, rfl, bl, rgN ?_⟩
        rw [hx]
        repeat ((with_reducible refine rgGate ?_); first | refine rgP HT ?_ | refine rgL HT ?_ | refine rgG HT ?_)
        refine rgDone HT ?_
        clear HT HS
        go_wp2
        go_ret
        exact ⟨ret_bool (sheetOk_f.2 Hno.out).symm, bl⟩
      | true =>
        have Hp := Lib.hid (featOk_t.1 hx)
        rcases Nat.eq_zero_or_pos k with h0 | h0
        · have hd : decide (0 < k) = false := by simp; omega
          have Hs := Lib.hid (show stepF l k from fun h => ⟨Hp.out, fun h1 => by omega⟩)
          clear h0
          clear Hp
          generalize l[k] = f at *
          go_wp2
          refine rgStart 18 [0, 1, 2, 3, 4, 5, 6, 7, 8, 9, 10, 11, 12, 13, 14, 15, 16, 17] i_SheetOk_t4 (fun HT HS => ?_)
          repeat ((with_reducible refine rgGate ?_); first | refine rgP HT ?_ | refine rgL HT ?_ | refine rgG HT ?_)
          refine rgCall HT Tryd.func61 (iFeatOk_c f A1 c1 B1 d1 _ (Kd.C_below hC bl) (Kd.C_below hT bl) hx0) ?_
          rintro e w2 ⟨rfl, hb2⟩
          refine ⟨_, rfl, bl, rgN ?_⟩
          rw [hx]
          repeat ((with_reducible refine rgGate ?_); first | refine rgP HT ?_ | refine rgL HT ?_ | refine rgG HT ?_)
          refine rgDone HT ?_
          clear HT HS
          go_wp2
          exact ⟨⟨k + 1, by omega, by go_num, ⟨fun i hi => if h : i = k then h ▸ Hs.out else he.out i (by omega)⟩, ⟨bl⟩⟩, by simp [intOf]; omega⟩
        · obtain ⟨j, hkj⟩ : ∃ j, k = j + 1 := ⟨k - 1, by omega⟩
          have hd : decide (0 < k) = true := by simp; omega
          have hw : IntKind.i64.wrap ((k : Int) - 1) = (j : Int) := by rw [IntWalk.i64_in _ (by omega)]; omega
          have hj : j < l.length := by omega
          obtain ⟨ad', A2, c2, B2, d2, e', g0, g1, g2, g3, _, _, _, _⟩ := at_Feat hl j hj
          cases e'
          replace g0 := pw_cell_below hb1 g0
          clear g1 g2 g3
          have Hs0 := Lib.hid (show stepF l k ↔ ltS l[j].1 l[k].1 = true by subst hkj; exact ⟨fun h => (h hlt).2 (by omega), fun hq h => ⟨Hp.out, fun _ => hq⟩⟩)
          clear hkj h0 Hp
          generalize l[k] = f at *
          generalize l[j] = g at *
          cases hq : ltS g.1 f.1
          all_goals
            have hle : Op.bytesLess g.1.toList f.1.toList = _ := hq
            go_wp2
            refine rgStart 18 [0, 1, 2, 3, 4, 5, 6, 7, 8, 9, 10, 11, 12, 13, 14, 15, 16, 17] i_SheetOk_t4 (fun HT HS => ?_)
            repeat ((with_reducible refine rgGate ?_); first | refine rgP HT ?_ | refine rgL HT ?_ | refine rgG HT ?_)
            refine rgCall HT Tryd.func61 (iFeatOk_c f A1 c1 B1 d1 _ (Kd.C_below hC bl) (Kd.C_below hT bl) hx0) ?_
            rintro e w2 ⟨rfl, hb2⟩
            refine ⟨_, rfl, bl, rgN ?_⟩
            rw [hx]
            repeat ((with_reducible refine rgGate ?_); first | refine rgP HT ?_ | refine rgL HT ?_ | refine rgG HT ?_)
            refine rgDone HT ?_
            clear HT HS
            go_wp2
          · go_ret
            exact ⟨ret_bool (by symm; rw [sheetOk_f]; intro ho; have := Hs0.out.1 (ho.1 k hlt); rw [hq] at this; cases this), bl⟩
          · exact ⟨⟨k + 1, by omega, by go_num, ⟨fun i hi => if h : i = k then h ▸ Hs0.out.2 hq else he.out i (by omega)⟩, ⟨bl⟩⟩, by simp [intOf]; omega⟩
    · have hpts : FeatsUp l := fun i hi => he.out i (by omega)
      have HP := Lib.hid hpts
      have d1 : decide ((k : Int) < (l.length : Int)) = false := decide_eq_false (by omega)
      clear hpts he
      go_wp2
      go_ret
      exact ⟨ret_bool (by rw [Bool.eq_iff_iff, sheetOk_t]; simp only [decide_eq_true_eq]; exact ⟨fun h => ⟨HP.out, by omega⟩, fun h => by have := h.2; omega⟩), bl⟩
end
end Go.Proofs.YtfbhjknkofnohaaDoor
