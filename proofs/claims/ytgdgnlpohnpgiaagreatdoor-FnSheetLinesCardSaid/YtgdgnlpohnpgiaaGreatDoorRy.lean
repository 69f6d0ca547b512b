/- Plain: the words of a thing's text; contracts: the reference's l2First, l2Join. -/
import Derived.Test.YtgdgnlpohnpgiaaGreatDoorRd
import Derived.Test.YtgdgnlpohnpgiaaGreatDoorTx
import Derived.Test.YtgdgnlpohnpgiaaGreatDoorDw
namespace Go.Proofs.YtgdgnlpohnpgiaaGreatDoor
section
open Go Go.RowKit
set_option linter.unusedVariables false
set_option linter.unusedSimpArgs false
theorem full_words {s : ByteArray} {ws : List ByteArray} (h : ws.map bts = splitL 32 (bts s)) {f : FeatD} (hok : FeatOk f) : s = fullT f ↔ ws.map bts = wordsF f := by
  constructor
  · intro e
    rw [h, e, fullT_words, split_join _ (by simp [wordsF]) (wordsF_32 hok)]
  · intro e
    apply bts_inj
    rw [fullT_words, ← e, h, join_split]
theorem wordsF_split (f : FeatD) : wordsF f = (bts f.1 :: bts (kindW f.2.1.1) :: f.2.1.2.map ptW) ++ f.2.2.map tagW := rfl
theorem wordsF_no {f : FeatD} (h : FeatOk f) {i : Nat} (hi : i < 2 + f.2.1.2.length) {w : List UInt8} (e : (wordsF f)[i]? = some w) : (61 : UInt8) ∉ w := by
  rw [wordsF_split, List.getElem?_append_left (by simp; omega)] at e
  have hm := List.mem_of_getElem? e
  rcases List.mem_cons.1 hm with rfl | hm
  · exact fun hc => by have := word_no h.1 hc; simp at this
  · rcases List.mem_cons.1 hm with rfl | hm
    · exact (kindW_32 h.2.1.kind).2
    · obtain ⟨p, _, rfl⟩ := List.mem_map.1 hm
      exact fun hc => (ptW_no hc).2 rfl
theorem wordsF_in {f : FeatD} {i : Nat} (hi : 2 + f.2.1.2.length ≤ i) {w : List UInt8} (e : (wordsF f)[i]? = some w) : (61 : UInt8) ∈ w := by
  rw [wordsF_split, List.getElem?_append_right (by simp; omega)] at e
  obtain ⟨t, _, rfl⟩ := List.mem_map.1 (List.mem_of_getElem? e)
  exact tagW_61 t
theorem wordsF_len (f : FeatD) : (wordsF f).length = 2 + f.2.1.2.length + f.2.2.length := by
  rw [wordsF_split]
  simp
  omega
theorem wordsF_mid (f : FeatD) : ((wordsF f).take (2 + f.2.1.2.length)).drop 1 = bts (kindW f.2.1.1) :: f.2.1.2.map ptW := by
  rw [wordsF_split, List.take_append_of_le_length (by simp; omega), List.take_of_length_le (by simp; omega)]
  rfl
theorem wordsF_end (f : FeatD) : (wordsF f).drop (2 + f.2.1.2.length) = f.2.2.map tagW := by
  rw [wordsF_split, List.drop_append_of_le_length (by simp; omega), List.drop_of_length_le (by simp; omega), List.nil_append]
theorem at_words {ws : List ByteArray} {f : FeatD} (e : ws.map bts = wordsF f) {i : Nat} (hi : i < ws.length) : (wordsF f)[i]? = some (bts ws[i]) := by
  rw [← e, List.getElem?_map, List.getElem?_eq_getElem hi]
  rfl
theorem words_len {ws : List ByteArray} {f : FeatD} (e : ws.map bts = wordsF f) : ws.length = 2 + f.2.1.2.length + f.2.2.length := by
  rw [← wordsF_len, ← e, List.length_map]
/-- The first word with a mark. -/
theorem first_k {ws : List ByteArray} {f : FeatD} (hok : FeatOk f) (e : ws.map bts = wordsF f) {k : Nat} (hk : k ≤ ws.length) (h1 : ∀ i, i < k → (hi : i < ws.length) → (61 : UInt8) ∉ bts ws[i]) (h2 : (h : k < ws.length) → (61 : UInt8) ∈ bts ws[k]) : k = 2 + f.2.1.2.length := by
  have hl := words_len e
  rcases Nat.lt_trichotomy k (2 + f.2.1.2.length) with h | h | h
  · exact absurd (h2 (by omega)) (wordsF_no hok h (at_words e (by omega)))
  · exact h
  · exact absurd (wordsF_in (Nat.le_refl _) (at_words e (by omega))) (h1 _ h (by omega))
/-- The end of the words without a mark, from behind. -/
theorem last_k {ws : List ByteArray} {f : FeatD} (hok : FeatOk f) (e : ws.map bts = wordsF f) {k : Nat} (h2 : 2 ≤ k) (hk : k ≤ ws.length) (h1 : ∀ i, k ≤ i → (hi : i < ws.length) → (61 : UInt8) ∈ bts ws[i]) (h3 : k = 2 ∨ ((h : k - 1 < ws.length) → (61 : UInt8) ∉ bts ws[k - 1])) : k = 2 + f.2.1.2.length := by
  have hl := words_len e
  have hp : 1 ≤ f.2.1.2.length := by
    rcases hok.2.1.2 with h | h | h <;> omega
  rcases Nat.lt_trichotomy k (2 + f.2.1.2.length) with h | h | h
  · exact absurd (h1 k (Nat.le_refl _) (by omega)) (wordsF_no hok h (at_words e (by omega)))
  · exact h
  · rcases h3 with h3 | h3
    · omega
    · exact absurd (wordsF_in (by omega) (at_words e (by omega))) (h3 (by omega))
theorem mid_words {ws : List ByteArray} {f : FeatD} (e : ws.map bts = wordsF f) : ((ws.take (2 + f.2.1.2.length)).drop 1).map bts = bts (kindW f.2.1.1) :: f.2.1.2.map ptW := by
  rw [List.map_drop, List.map_take, e, wordsF_mid]
theorem end_words {ws : List ByteArray} {f : FeatD} (e : ws.map bts = wordsF f) : (ws.drop (2 + f.2.1.2.length)).map bts = f.2.2.map tagW := by
  rw [List.map_drop, e, wordsF_end]
/-- Tags of words: each the tag, if the word is one's. -/
def TagsR (us : List ByteArray) (l : List Tag) : Prop := l.length = us.length ∧ ∀ (i : Nat) (t : Tag), WordOk t.1 ∧ WordOk t.2 → us[i]?.map bts = some (tagW t) → l[i]? = some t
theorem TagsR.nil : TagsR [] [] := ⟨rfl, fun i p _ h => by simp at h⟩
theorem TagsR.snoc {us : List ByteArray} {l : List Tag} {u : ByteArray} {x : Tag} (h : TagsR us l) (hx : ∀ t : Tag, WordOk t.1 ∧ WordOk t.2 → bts u = tagW t → x = t) : TagsR (us ++ [u]) (l ++ [x]) := by
  refine ⟨by simp [h.1], fun i p hp e => ?_⟩
  rcases Nat.lt_trichotomy i us.length with hi | hi | hi
  · rw [List.getElem?_append_left hi] at e
    rw [List.getElem?_append_left (by rw [h.1]; exact hi)]
    exact h.2 i p hp e
  · subst hi
    rw [List.getElem?_append_right (Nat.le_refl _)] at e
    rw [List.getElem?_append_right (by rw [h.1]; exact Nat.le_refl _), h.1]
    simp at e ⊢
    exact hx p hp e
  · rw [List.getElem?_eq_none (by simp; omega)] at e
    cases e
theorem TagsR.eq {us : List ByteArray} {l l' : List Tag} (h : TagsR us l) (hl : ∀ t ∈ l', WordOk t.1 ∧ WordOk t.2) (e : us.map bts = l'.map tagW) : l = l' := by
  have hlen : us.length = l'.length := by
    have := congrArg List.length e
    simpa using this
  apply List.ext_getElem?
  intro i
  by_cases hi : i < l'.length
  · rw [List.getElem?_eq_getElem hi]
    apply h.2 i _ (hl _ (List.getElem_mem hi))
    rw [← List.getElem?_map, e, List.getElem?_map, List.getElem?_eq_getElem hi]
    rfl
  · rw [List.getElem?_eq_none (by rw [h.1]; omega), List.getElem?_eq_none (by omega)]
theorem word_61 {s : ByteArray} (h : WordOk s) : (61 : UInt8) ∉ bts s := fun hc => by have := word_no h hc; simp at this
/-- A tag's word, cut at its first mark. -/
theorem tagW_cut {u : ByteArray} {t : Tag} (h : WordOk t.1 ∧ WordOk t.2) (e : bts u = tagW t) : (cutA u 61, cutB u 61) = t := by
  unfold cutA cutB
  rw [e]
  unfold tagW
  rw [cut_word _ (word_61 h.1)]
theorem fullT_139 {f : FeatD} (h : FeatOk f) : (fullT f).size ≤ 139 := by
  have hm : ∀ t ∈ f.2.2, (tagW t).length ≤ 13 := fun t ht => by
    have h1 := (h.words t ht).1.1
    have h2 := (h.words t ht).2.1
    unfold tagW
    rw [List.length_append, List.length_cons, bts_len, bts_len]
    omega
  have key : ∀ l : List Tag, (∀ t ∈ l, (tagW t).length ≤ 13) → (((l.map tagW).map (32 :: ·)).flatten).length ≤ 14 * l.length := by
    intro l
    induction l with
    | nil => intro _; simp
    | cons t l ih =>
      intro h
      have h1 := ih (fun q hq => h q (List.mem_cons_of_mem _ hq))
      have h2 := h t List.mem_cons_self
      simp only [List.map_cons, List.flatten_cons, List.length_append, List.length_cons] at h1 ⊢
      omega
  have h1 := shText_76 h.2.1
  have h2 := key _ hm
  have h3 := h.1.1
  rw [← bts_len]
  unfold fullT headT
  rw [tagsT_flat, List.length_append, bts_len, ByteArray.size_append, ByteArray.size_append]
  have : (⟨#[32]⟩ : ByteArray).size = 1 := rfl
  have h5 : f.2.2.length ≤ 4 := h.2.2.2
  omega
end
section
open Go.RowKit Go.Proofs.YtgdgnlpohnpgiaaGreatDoorW.PrintWords Go.Proofs.YtgdgnlpohnpgiaaGreatDoorW.PrintLast
set_option maxRecDepth 100000
set_option linter.unusedVariables false
set_option linter.unusedSimpArgs false
/-- The first word with a mark. -/
def FirstR (ws : List ByteArray) (c : UInt8) (k : Nat) : Prop := k ≤ ws.length ∧ (∀ i, i < k → (hi : i < ws.length) → c ∉ bts ws[i]) ∧ ((h : k < ws.length) → c ∈ bts ws[k])
set_option maxHeartbeats 1000000 in
theorem l2First_c (A : Option Addr) (d : Nat) (ws : List ByteArray) (c : UInt8) (w : World) (hC : Kd.string.C w A ws.length ws) (hn : ws.length ≤ 1048576) (hz : ∀ u ∈ ws, u.size ≤ 1048576) :
    Calls Tryz.prog 47 #[.slice A ws.length d, .int .u8 c.toNat] w fun e w' => ∃ k : Nat, e = .returned (.int .i64 k) ∧ FirstR ws c k ∧ Below w.heap.size w w' := by
  go_enter Tryz.func47, Tryz.ntmps47
  go_wp2
  go_loopw [5] (fun q wr => ∃ k : Nat, k ≤ ws.length ∧ q = .int .i64 k ∧ Aside0 (∀ i, i < k → (hi : i < ws.length) → c ∉ bts ws[i]) ∧ Aside0 (Below w.heap.size w wr)) (fun q _ => ws.length - (intOf q).toNat)
  case atStart => exact ⟨0, by omega, rfl, ⟨fun i hi => absurd hi (by omega)⟩, ⟨Below.refl _ _⟩⟩
  case round =>
    obtain ⟨k, hk, rfl, ⟨he⟩, ⟨hb1⟩⟩ := hrel
    by_cases hlt : k < ws.length
    · have d1 : decide ((k : Int) < (ws.length : Int)) = true := decide_eq_true (by omega)
      have hw : IntKind.i64.wrap ((k : Int) + 1) = (k : Int) + 1 := IntWalk.i64_in _ (by omega)
      obtain ⟨ad, rfl, u0⟩ := at_str hC k hlt
      replace u0 := pw_cell_below hb1 u0
      have hzk := hz _ (List.getElem_mem hlt)
      have cF := l12Find_c ws[k] c
      by_cases hm : c ∈ bts ws[k]
      · have Hf := Lib.hid (show FirstR ws c k from ⟨hk, he, fun _ => hm⟩)
        obtain ⟨a, r, e, ha⟩ := word_at hm
        rw [show Lib.index (bts ws[k]) [c] = (a.length : Nat) by rw [e, index_word r ha]] at cF
        have CF := Lib.hid cF
        have t1 : decide ((0 : Int) ≤ (a.length : Int)) = true := decide_eq_true (by omega)
        clear cF hm e ha he
        generalize ws[k] = v at *
        go_wp2_with fail
        refine (CF.out _ (by omega)).mono ?_
        rintro e w2 ⟨rfl, rfl⟩
        go_wp2
        go_ret
        exact ⟨k, rfl, Hf.out, bl⟩
      · rw [index_no hm] at cF
        have CF := Lib.hid cF
        have He := Lib.hid (show ∀ i, i < k + 1 → (hi : i < ws.length) → c ∉ bts ws[i] from fun i hi hi2 => if h : i = k then by subst h; exact hm else he i (by omega) hi2)
        clear cF hm he
        generalize ws[k] = v at *
        go_wp2_with fail
        refine (CF.out _ (by omega)).mono ?_
        rintro e w2 ⟨rfl, rfl⟩
        go_wp2
        exact ⟨⟨k + 1, by omega, by go_num, ⟨He.out⟩, ⟨bl⟩⟩, by simp [intOf]; omega⟩
    · have d1 : decide ((k : Int) < (ws.length : Int)) = false := decide_eq_false (by omega)
      obtain rfl : k = ws.length := by omega
      have Hf := Lib.hid (show FirstR ws c ws.length from ⟨hk, he, fun h => absurd h (by omega)⟩)
      clear he
      go_wp2
      go_ret
      exact ⟨ws.length, rfl, Hf.out, bl⟩
theorem joinL_snoc (c : UInt8) : ∀ {ws : List (List UInt8)} (w : List UInt8), ws ≠ [] → joinL c (ws ++ [w]) = joinL c ws ++ c :: w
  | [], _, h => absurd rfl h
  | v :: r, w, _ => by
    rw [List.cons_append, join_flat, join_flat]
    simp
set_option maxHeartbeats 1000000 in
theorem l2Join_c (A : Option Addr) (d : Nat) (ws : List ByteArray) (w : World) (hC : Kd.string.C w A ws.length ws) (hn : ws.length ≤ 1000) (hz : ∀ u ∈ ws, u.size ≤ 1000) :
    Calls Tryz.prog 49 #[.slice A ws.length d] w fun e w' => ∃ s : ByteArray, e = .returned (.string s) ∧ bts s = joinL 32 (ws.map bts) ∧ s.size ≤ 1001 * ws.length ∧ Below w.heap.size w w' := by
  go_enter Tryz.func49, Tryz.ntmps49
  go_wp2
  go_loopw [3, 4] (fun o q wr => ∃ (k : Nat) (s : ByteArray), k ≤ ws.length ∧ o = .string s ∧ q = .int .i64 k ∧ Aside0 (bts s = joinL 32 ((ws.take k).map bts)) ∧ s.size ≤ 1001 * k ∧ Aside0 (Below w.heap.size w wr)) (fun _ q _ => ws.length - (intOf q).toNat)
  case atStart => exact ⟨0, ⟨#[]⟩, by omega, rfl, rfl, ⟨rfl⟩, by decide, ⟨Below.refl _ _⟩⟩
  case round =>
    obtain ⟨k, s, hk, rfl, rfl, ⟨he⟩, hs, ⟨hb1⟩⟩ := hrel
    by_cases hlt : k < ws.length
    · have d1 : decide ((k : Int) < (ws.length : Int)) = true := decide_eq_true (by omega)
      have hw : IntKind.i64.wrap ((k : Int) + 1) = (k : Int) + 1 := IntWalk.i64_in _ (by omega)
      obtain ⟨ad, rfl, u0⟩ := at_str hC k hlt
      replace u0 := pw_cell_below hb1 u0
      have hzk := hz _ (List.getElem_mem hlt)
      have htk : (ws.take (k + 1)).map bts = (ws.take k).map bts ++ [bts ws[k]] := by rw [List.take_succ_eq_append_getElem hlt, List.map_append]; rfl
      have zsp : (⟨#[32]⟩ : ByteArray).size = 1 := rfl
      by_cases h0 : k = 0
      · have d2 : decide ((0 : Int) < (k : Int)) = false := decide_eq_false (by omega)
        have d3 : ¬ 0 < k := by omega
        have h00 : (ws.take k).map bts = [] := by rw [h0]; rfl
        rw [h00] at he htk
        obtain rfl : s = ⟨#[]⟩ := bts_inj he
        have He := Lib.hid (show bts ((⟨#[]⟩ : ByteArray) ++ ws[k]) = joinL 32 ((ws.take (k + 1)).map bts) by rw [htk, bts_app]; rfl)
        have He2 := Lib.hid (show bts (ws[k]) = joinL 32 ((ws.take (k + 1)).map bts) by rw [htk]; rfl)
        have Hsz := Lib.hid (show ((⟨#[]⟩ : ByteArray) ++ ws[k]).size ≤ 1001 * (k + 1) by rw [ByteArray.size_append]; have : (⟨#[]⟩ : ByteArray).size = 0 := rfl; omega)
        have Hsz2 := Lib.hid (show ws[k].size ≤ 1001 * (k + 1) by omega)
        clear htk he h00 h0 hs
        generalize ws[k] = v at *
        go_wp2
        exact ⟨⟨k + 1, _, by omega, rfl, by go_num, ⟨by first | exact He.out | exact He2.out⟩, by first | exact Hsz.out | exact Hsz2.out, ⟨bl⟩⟩, by simp [intOf]; omega⟩
      · have d2 : decide ((0 : Int) < (k : Int)) = true := decide_eq_true (by omega)
        have d3 : 0 < k := by omega
        have He := Lib.hid (show bts ((s ++ ⟨#[32]⟩) ++ ws[k]) = joinL 32 ((ws.take (k + 1)).map bts) by
          rw [htk, joinL_snoc _ _ (fun e => by
            have := congrArg List.length e
            rw [List.length_map, List.length_take] at this
            simp only [List.length_nil] at this
            omega), bts_app, bts_app, he]
          have : bts (⟨#[32]⟩ : ByteArray) = [32] := rfl
          rw [this]
          simp)
        have hsz : ((s ++ ⟨#[32]⟩) ++ ws[k]).size ≤ 1001 * (k + 1) := by
          rw [ByteArray.size_append, ByteArray.size_append]
          omega
        have Hsz := Lib.hid hsz
        clear htk he hsz
        generalize ws[k] = v at *
        go_wp2
        exact ⟨⟨k + 1, _, by omega, rfl, by go_num, ⟨He.out⟩, Hsz.out, ⟨bl⟩⟩, by simp [intOf]; omega⟩
    · have d1 : decide ((k : Int) < (ws.length : Int)) = false := decide_eq_false (by omega)
      obtain rfl : k = ws.length := by omega
      rw [List.take_length] at he
      have He := Lib.hid he
      have Hs := Lib.hid hs
      clear he hs
      go_wp2
      go_ret
      exact ⟨s, rfl, He.out, Hs.out, bl⟩
/-- What is known of a thing while it is read: its block g (new since w2, as its tags' row: not before q); the result's block; its rows. -/
structure FR (w w2 : World) (q : Nat) (id : ByteArray) (K : Int) (A : Option Addr) (c : Nat) (l : List Pt) (g : Nat) (B : Option Addr) (d n : Nat) (m : List Tag) (W : World) : Prop where
  thing : B4 W g 28 (.string id) (.int .i64 K) (.slice A l.length c) (.slice B n d)
  res : B4 W w.heap.size 28 (.string ⟨#[]⟩) (.int .i64 0) (.slice none 0 0) (.slice none 0 0)
  pts : kPt.R 84 W w.heap.size (fun _ => True) (.slice A l.length c) l
  tags : kTag.R 54 W q (fun _ => True) (.slice B n d) m
  bel : Below w.heap.size w W
  belg : Below q w2 W
  ne : w.heap.size < q
  hq : q ≤ g
section
variable {w w2 W W1 : World} {id : ByteArray} {K : Int} {A : Option Addr} {c : Nat} {l : List Pt} {q g : Nat} {B B' : Option Addr} {d n d' n' : Nat} {m m' : List Tag}
theorem FR.to (h : FR w w2 q id K A c l g B d n m W) (hb : Below W.heap.size W W1) : FR w w2 q id K A c l g B d n m W1 :=
  ⟨h.thing.to hb, h.res.to hb, Kd.R_below h.pts hb, Kd.R_below h.tags hb, h.bel.trans (hb.mono h.bel.size), h.belg.trans (hb.mono (Nat.le_trans h.hq (Nat.le_of_lt h.thing.lt))), h.ne, h.hq⟩
/-- Its tags' row is grown, the new row put into it. -/
theorem FR.put (h : FR w w2 q id K A c l g B d n m W) (hg : W.grownBy W1 (Value.slice B n d).ownBlock) (ho : kTag.R 54 W1 q (fun _ => True) (.slice B' n' d') m') (hb : Below q w2 W1) :
    FR w w2 q id K A c l g B' d' n' m' (W1.setCell ⟨g, 3, none⟩ (.slice B' n' d')) := by
  have X2 := h.thing.grown hg (Kd.R_ne h.tags h.thing (by decide))
  have X1 := h.res.grown hg (Kd.R_ne h.tags h.res (by decide))
  have hne : (w.heap.size == g) = false := by rw [beq_eq_false_iff_ne]; have := h.ne; have := h.hq; omega
  exact ⟨X2.set3 _, X1.far hne, Kd.R_set (R_grownT h.pts h.tags (by decide) hg) X2 (by decide) 3 _, Kd.R_set ho X2 (by decide) 3 _,
    (h.bel.grown hg h.bel.size (fun k e => Nat.le_trans (Nat.le_of_lt h.ne) (Kd.R_base h.tags k e))).setCell (Nat.le_trans (Nat.le_of_lt h.ne) h.hq) _, hb.setCell h.hq _, h.ne, h.hq⟩
theorem FR.grown (h : FR w w2 q id K A c l g B d n m W) (hg : W.grownBy W1 (Value.slice B n d).ownBlock) : B4 W1 g 28 (.string id) (.int .i64 K) (.slice A l.length c) (.slice B n d) :=
  h.thing.grown hg (Kd.R_ne h.tags h.thing (by decide))
end
/-- A thing read of a text: just if it is one's. -/
def FtOut (s : ByteArray) (w : World) (e : Ending) (w' : World) : Prop := ∃ (f : FeatD) (A : Option Addr) (c : Nat) (B : Option Addr) (d : Nat) (b : Bool), e = .returned (.tuple #[featV f A c B d, .bool b]) ∧ RI kPt 84 w' w.heap.size w'.heap.size (.slice A f.2.1.2.length c) f.2.1.2 ∧ RI kTag 54 w' w.heap.size w'.heap.size (.slice B f.2.2.length d) f.2.2 ∧ Below w.heap.size w w' ∧ FTx f ∧ (b = true → FeatOk f ∧ s = fullT f) ∧ (b = false → f = (⟨#[]⟩, (0, []), []) ∧ ∀ f', FeatOk f' → s ≠ fullT f')
theorem FtOut.no {s : ByteArray} {w w' : World} (hb : Below w.heap.size w w') (h : ∀ f', FeatOk f' → s ≠ fullT f') : FtOut s w (.returned (.tuple #[.agg #[.string ⟨#[]⟩, .int .i64 0, .slice none 0 0, .slice none 0 0], .bool false])) w' :=
  ⟨(⟨#[]⟩, (0, []), []), none, 0, none, 0, false, rfl, RI.of (Kd.R_nil _ _ _ _ _) |>.wide (Nat.le_refl _) (Nat.le_refl _), RI.of (Kd.R_nil _ _ _ _ _) |>.wide (Nat.le_refl _) (Nat.le_refl _), hb, ⟨by decide, by simp, by simp, fun t ht => by cases ht⟩, (fun h => by cases h), fun _ => ⟨rfl, h⟩⟩
end
end Go.Proofs.YtgdgnlpohnpgiaaGreatDoor
