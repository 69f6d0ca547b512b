/- Contracts: the reference's l2First, l2Join; what is known of a thing while it is read. -/
import Derived.Test.YtgdgnlpohnpgiaaDoorRy
import Derived.Test.YtgdgnlpohnpgiaaDoorDw
namespace Go.Proofs.YtgdgnlpohnpgiaaDoor
open Go.RowKit Go.Proofs.YtgdgnlpohnpgiaaDoorW.PrintWords Go.Proofs.YtgdgnlpohnpgiaaDoorW.PrintLast
set_option maxRecDepth 100000
set_option linter.unusedVariables false
set_option linter.unusedSimpArgs false
/-- The first word with a mark. -/
def FirstR (ws : List ByteArray) (c : UInt8) (k : Nat) : Prop := k ≤ ws.length ∧ (∀ i, i < k → (hi : i < ws.length) → c ∉ bts ws[i]) ∧ ((h : k < ws.length) → c ∈ bts ws[k])
set_option maxHeartbeats 1000000 in
theorem l2First_c (A : Option Addr) (d : Nat) (ws : List ByteArray) (c : UInt8) (w : World) (hC : Kd.string.C w A ws.length ws) (hn : ws.length ≤ 1048576) (hz : ∀ u ∈ ws, u.size ≤ 1048576) :
    Calls Tryd.prog 47 #[.slice A ws.length d, .int .u8 c.toNat] w fun e w' => ∃ k : Nat, e = .returned (.int .i64 k) ∧ FirstR ws c k ∧ Below w.heap.size w w' := by
  go_enter Tryd.func47, Tryd.ntmps47
  go_wp2
  go_loopw [5] (fun q wr => ∃ k : Nat, k ≤ ws.length ∧ q = .int .i64 k ∧ Aside0 (∀ i, i < k → (hi : i < ws.length) → c ∉ bts ws[i]) ∧ Aside0 (Below w.heap.size w wr)) (fun q _ => ws.length - (intOf q).toNat)
  case atStart => exact ⟨0, by omega, rfl, ⟨fun i hi => absurd hi (by omega)⟩, ⟨Below.refl _ _⟩⟩
  case round =>
    obtain ⟨k, hk, rfl, ⟨he⟩, ⟨hb1⟩⟩ := hrel
    by_cases hlt : k < ws.length
    · have d1 : decide ((k : Int) < (ws.length : Int)) = true := decide_eq_true (by omega)
      have hw : IntKind.i64.wrap ((k : Int) + 1) = (k : Int) + 1 := IntWalk.i64_in _ (by omega)
      obtain ⟨ad, rfl, u0⟩ := at_str hC k hlt
      replace u0 := pw_cell_below hb1 u0
      have hzk := hz _ (List.getElem_mem hlt)
      have cF := l12Find_c ws[k] c
      by_cases hm : c ∈ bts ws[k]
      · have Hf := Lib.hid (show FirstR ws c k from ⟨hk, he, fun _ => hm⟩)
        obtain ⟨a, r, e, ha⟩ := word_at hm
        rw [show Lib.index (bts ws[k]) [c] = (a.length : Nat) by rw [e, index_word r ha]] at cF
        have CF := Lib.hid cF
        have t1 : decide ((0 : Int) ≤ (a.length : Int)) = true := decide_eq_true (by omega)
        clear cF hm e ha he
        generalize ws[k] = v at *
        go_wp2_with fail
        refine (CF.out _ (by omega)).mono ?_
        rintro e w2 ⟨rfl, rfl⟩
        go_wp2
        go_ret
        exact ⟨k, rfl, Hf.out, bl⟩
      · rw [index_no hm] at cF
        have CF := Lib.hid cF
        have He := Lib.hid (show ∀ i, i < k + 1 → (hi : i < ws.length) → c ∉ bts ws[i] from fun i hi hi2 => if h : i = k then by subst h; exact hm else he i (by omega) hi2)
        clear cF hm he
        generalize ws[k] = v at *
        go_wp2_with fail
        refine (CF.out _ (by omega)).mono ?_
        rintro e w2 ⟨rfl, rfl⟩
        go_wp2
        exact ⟨⟨k + 1, by omega, by go_num, ⟨He.out⟩, ⟨bl⟩⟩, by simp [intOf]; omega⟩
    · have d1 : decide ((k : Int) < (ws.length : Int)) = false := decide_eq_false (by omega)
      obtain rfl : k = ws.length := by omega
      have Hf := Lib.hid (show FirstR ws c ws.length from ⟨hk, he, fun h => absurd h (by omega)⟩)
      clear he
      go_wp2
      go_ret
      exact ⟨ws.length, rfl, Hf.out, bl⟩
theorem joinL_snoc (c : UInt8) : ∀ {ws : List (List UInt8)} (w : List UInt8), ws ≠ [] → joinL c (ws ++ [w]) = joinL c ws ++ c :: w
  | [], _, h => absurd rfl h
  | v :: r, w, _ => by
    rw [List.cons_append, join_flat, join_flat]
    simp
set_option maxHeartbeats 1000000 in
theorem l2Join_c (A : Option Addr) (d : Nat) (ws : List ByteArray) (w : World) (hC : Kd.string.C w A ws.length ws) (hn : ws.length ≤ 1000) (hz : ∀ u ∈ ws, u.size ≤ 1000) :
    Calls Tryd.prog 49 #[.slice A ws.length d] w fun e w' => ∃ s : ByteArray, e = .returned (.string s) ∧ bts s = joinL 32 (ws.map bts) ∧ s.size ≤ 1001 * ws.length ∧ Below w.heap.size w w' := by
  go_enter Tryd.func49, Tryd.ntmps49
  go_wp2
  go_loopw [3, 4] (fun o q wr => ∃ (k : Nat) (s : ByteArray), k ≤ ws.length ∧ o = .string s ∧ q = .int .i64 k ∧ Aside0 (bts s = joinL 32 ((ws.take k).map bts)) ∧ s.size ≤ 1001 * k ∧ Aside0 (Below w.heap.size w wr)) (fun _ q _ => ws.length - (intOf q).toNat)
  case atStart => exact ⟨0, ⟨#[]⟩, by omega, rfl, rfl, ⟨rfl⟩, by decide, ⟨Below.refl _ _⟩⟩
  case round =>
    obtain ⟨k, s, hk, rfl, rfl, ⟨he⟩, hs, ⟨hb1⟩⟩ := hrel
    by_cases hlt : k < ws.length
    · have d1 : decide ((k : Int) < (ws.length : Int)) = true := decide_eq_true (by omega)
      have hw : IntKind.i64.wrap ((k : Int) + 1) = (k : Int) + 1 := IntWalk.i64_in _ (by omega)
      obtain ⟨ad, rfl, u0⟩ := at_str hC k hlt
      replace u0 := pw_cell_below hb1 u0
      have hzk := hz _ (List.getElem_mem hlt)
      have htk : (ws.take (k + 1)).map bts = (ws.take k).map bts ++ [bts ws[k]] := by rw [List.take_succ_eq_append_getElem hlt, List.map_append]; rfl
      have zsp : (⟨#[32]⟩ : ByteArray).size = 1 := rfl
      by_cases h0 : k = 0
      · have d2 : decide ((0 : Int) < (k : Int)) = false := decide_eq_false (by omega)
        have d3 : ¬ 0 < k := by omega
        have h00 : (ws.take k).map bts = [] := by rw [h0]; rfl
        rw [h00] at he htk
        obtain rfl : s = ⟨#[]⟩ := bts_inj he
        have He := Lib.hid (show bts ((⟨#[]⟩ : ByteArray) ++ ws[k]) = joinL 32 ((ws.take (k + 1)).map bts) by rw [htk, bts_app]; rfl)
        have He2 := Lib.hid (show bts (ws[k]) = joinL 32 ((ws.take (k + 1)).map bts) by rw [htk]; rfl)
        have Hsz := Lib.hid (show ((⟨#[]⟩ : ByteArray) ++ ws[k]).size ≤ 1001 * (k + 1) by rw [ByteArray.size_append]; have : (⟨#[]⟩ : ByteArray).size = 0 := rfl; omega)
        have Hsz2 := Lib.hid (show ws[k].size ≤ 1001 * (k + 1) by omega)
        clear htk he h00 h0 hs
        generalize ws[k] = v at *
        go_wp2
        exact ⟨⟨k + 1, _, by omega, rfl, by go_num, ⟨by first | exact He.out | exact He2.out⟩, by first | exact Hsz.out | exact Hsz2.out, ⟨bl⟩⟩, by simp [intOf]; omega⟩
      · have d2 : decide ((0 : Int) < (k : Int)) = true := decide_eq_true (by omega)
        have d3 : 0 < k := by omega
        have He := Lib.hid (show bts ((s ++ ⟨#[32]⟩) ++ ws[k]) = joinL 32 ((ws.take (k + 1)).map bts) by
          rw [htk, joinL_snoc _ _ (fun e => by
            have := congrArg List.length e
            rw [List.length_map, List.length_take] at this
            simp only [List.length_nil] at this
            omega), bts_app, bts_app, he]
          have : bts (⟨#[32]⟩ : ByteArray) = [32] := rfl
          rw [this]
          simp)
        have hsz : ((s ++ ⟨#[32]⟩) ++ ws[k]).size ≤ 1001 * (k + 1) := by
          rw [ByteArray.size_append, ByteArray.size_append]
          omega
        have Hsz := Lib.hid hsz
        clear htk he hsz
        generalize ws[k] = v at *
        go_wp2
        exact ⟨⟨k + 1, _, by omega, rfl, by go_num, ⟨He.out⟩, Hsz.out, ⟨bl⟩⟩, by simp [intOf]; omega⟩
    · have d1 : decide ((k : Int) < (ws.length : Int)) = false := decide_eq_false (by omega)
      obtain rfl : k = ws.length := by omega
      rw [List.take_length] at he
      have He := Lib.hid he
      have Hs := Lib.hid hs
      clear he hs
      go_wp2
      go_ret
      exact ⟨s, rfl, He.out, Hs.out, bl⟩
/-- What is known of a thing while it is read: its block g (new since w2, as its tags' row: not before q); the result's block; its rows. -/
structure FR (w w2 : World) (q : Nat) (id : ByteArray) (K : Int) (A : Option Addr) (c : Nat) (l : List Pt) (g : Nat) (B : Option Addr) (d n : Nat) (m : List Tag) (W : World) : Prop where
  thing : B4 W g 34 (.string id) (.int .i64 K) (.slice A l.length c) (.slice B n d)
  res : B4 W w.heap.size 34 (.string ⟨#[]⟩) (.int .i64 0) (.slice none 0 0) (.slice none 0 0)
  pts : kPt.R 76 W w.heap.size (fun _ => True) (.slice A l.length c) l
  tags : kTag.R 46 W q (fun _ => True) (.slice B n d) m
  bel : Below w.heap.size w W
  belg : Below q w2 W
  ne : w.heap.size < q
  hq : q ≤ g
section
variable {w w2 W W1 : World} {id : ByteArray} {K : Int} {A : Option Addr} {c : Nat} {l : List Pt} {q g : Nat} {B B' : Option Addr} {d n d' n' : Nat} {m m' : List Tag}
theorem FR.to (h : FR w w2 q id K A c l g B d n m W) (hb : Below W.heap.size W W1) : FR w w2 q id K A c l g B d n m W1 :=
  ⟨h.thing.to hb, h.res.to hb, Kd.R_below h.pts hb, Kd.R_below h.tags hb, h.bel.trans (hb.mono h.bel.size), h.belg.trans (hb.mono (Nat.le_trans h.hq (Nat.le_of_lt h.thing.lt))), h.ne, h.hq⟩
/-- Its tags' row is grown, the new row put into it. -/
theorem FR.put (h : FR w w2 q id K A c l g B d n m W) (hg : W.grownBy W1 (Value.slice B n d).ownBlock) (ho : kTag.R 46 W1 q (fun _ => True) (.slice B' n' d') m') (hb : Below q w2 W1) :
    FR w w2 q id K A c l g B' d' n' m' (W1.setCell ⟨g, 3, none⟩ (.slice B' n' d')) := by
  have X2 := h.thing.grown hg (Kd.R_ne h.tags h.thing (by decide))
  have X1 := h.res.grown hg (Kd.R_ne h.tags h.res (by decide))
  have hne : (w.heap.size == g) = false := by rw [beq_eq_false_iff_ne]; have := h.ne; have := h.hq; omega
  exact ⟨X2.set3 _, X1.far hne, Kd.R_set (R_grownT h.pts h.tags (by decide) hg) X2 (by decide) 3 _, Kd.R_set ho X2 (by decide) 3 _,
    (h.bel.grown hg h.bel.size (fun k e => Nat.le_trans (Nat.le_of_lt h.ne) (Kd.R_base h.tags k e))).setCell (Nat.le_trans (Nat.le_of_lt h.ne) h.hq) _, hb.setCell h.hq _, h.ne, h.hq⟩
theorem FR.grown (h : FR w w2 q id K A c l g B d n m W) (hg : W.grownBy W1 (Value.slice B n d).ownBlock) : B4 W1 g 34 (.string id) (.int .i64 K) (.slice A l.length c) (.slice B n d) :=
  h.thing.grown hg (Kd.R_ne h.tags h.thing (by decide))
end
/-- A thing read of a text: just if it is one's. -/
def FtOut (s : ByteArray) (w : World) (e : Ending) (w' : World) : Prop := ∃ (f : FeatD) (A : Option Addr) (c : Nat) (B : Option Addr) (d : Nat) (b : Bool), e = .returned (.tuple #[featV f A c B d, .bool b]) ∧ RI kPt 76 w' w.heap.size w'.heap.size (.slice A f.2.1.2.length c) f.2.1.2 ∧ RI kTag 46 w' w.heap.size w'.heap.size (.slice B f.2.2.length d) f.2.2 ∧ Below w.heap.size w w' ∧ FTx f ∧ (b = true → FeatOk f ∧ s = fullT f) ∧ (b = false → f = (⟨#[]⟩, (0, []), []) ∧ ∀ f', FeatOk f' → s ≠ fullT f')
theorem FtOut.no {s : ByteArray} {w w' : World} (hb : Below w.heap.size w w') (h : ∀ f', FeatOk f' → s ≠ fullT f') : FtOut s w (.returned (.tuple #[.agg #[.string ⟨#[]⟩, .int .i64 0, .slice none 0 0, .slice none 0 0], .bool false])) w' :=
  ⟨(⟨#[]⟩, (0, []), []), none, 0, none, 0, false, rfl, RI.of (Kd.R_nil _ _ _ _ _) |>.wide (Nat.le_refl _) (Nat.le_refl _), RI.of (Kd.R_nil _ _ _ _ _) |>.wide (Nat.le_refl _) (Nat.le_refl _), hb, ⟨by decide, by simp, by simp, fun t ht => by cases ht⟩, (fun h => by cases h), fun _ => ⟨rfl, h⟩⟩
end Go.Proofs.YtgdgnlpohnpgiaaDoor
