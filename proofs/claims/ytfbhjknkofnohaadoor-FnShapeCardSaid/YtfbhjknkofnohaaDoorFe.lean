/- Contracts: FeatSame, FeatOk, FeatGet. -/
import Derived.Test.YtfbhjknkofnohaaDoorFa
import Derived.Test.YtfbhjknkofnohaaDoorB
import Derived.Test.YtfbhjknkofnohaaDoorFp
import Derived.WalkLawsBesides
namespace Go.Proofs.YtfbhjknkofnohaaDoor
section
open Go.RowKit Go.Proofs.YtfbhjknkofnohaaDoorW.PrintWords Go.Proofs.YtfbhjknkofnohaaDoorW.PrintLast
set_option linter.unusedVariables false
set_option linter.unusedSimpArgs false
set_option maxRecDepth 100000 in
/-- == of two tags. -/
theorem eqTagOp (d : Nat) (w : World) (x0 y0 x1 y1 : ByteArray) : (Op.equalIn (d + 2) 75 (.agg #[.string x0, .string x1]) (.agg #[.string y0, .string y1])).run Tryd.prog w = .ok (eqB (x0, x1) (y0, y1)) w := by
  have : (Op.equalIn (d + 2) 75 (.agg #[.string x0, .string x1]) (.agg #[.string y0, .string y1])).run Tryd.prog w = .ok (x0.toList == y0.toList && (x1.toList == y1.toList)) w := by
    refine eqA_of Tryd.underlying75 (by kernel_rfl) ?_
    refine eqf_cons (by rfl) (by go_simp; rfl) (by go_simp; rfl) (by go_simp) ?_
    exact eqf_last (by rfl) (by go_simp; rfl) (by go_simp; rfl) (by go_simp)
  rw [this]
  congr 1
  by_cases h : x0 = y0
  · by_cases h2 : x1 = y1
    · rw [strB_t h, strB_t h2, h, h2, eqB_t.2 rfl]; rfl
    · rw [strB_t h, strB_f h2, eqB_f.2 (fun e => h2 (Prod.ext_iff.1 e).2)]; rfl
  · rw [strB_f h, eqB_f.2 (fun e => h (Prod.ext_iff.1 e).1)]; rfl
attribute [local go_sem high] eqTagOp
end
section
open Go.RowKit Go.Proofs.YtfbhjknkofnohaaDoorW.PrintWords Go.Proofs.YtfbhjknkofnohaaDoorW.PrintLast
set_option linter.unusedVariables false
set_option linter.unusedSimpArgs false
def s_l2Tags_T4 : Bool × List (List Nat × List Nat) := (true, [([], []), ([], []), ([0, 1], [0, 1]), ([2], [2]), ([3], [3]), ([4], [4]), ([5], [5]), ([6, 5], [6]), ([7], [7]), ([7], [7]), ([8, 9, 7], [7, 8, 9]), ([10, 7], [7, 10]), ([11, 7], [7, 11]), ([12, 7, 7], [7, 12]), ([13, 7], [7, 13]), ([7, 14], [7, 14]), ([15, 13], [15]), ([16], [16]), ([17, 16], [16, 17]), ([18, 16, 16], [16, 18]), ([19], [19]), ([19], [19]), ([20, 21, 19], [19, 20, 21]), ([22, 19], [19, 22]), ([23, 19], [19, 23]), ([19], [19]), ([19], [19]), ([26, 19], [19, 26]), ([25, 27, 19], [19, 25, 27]), ([28, 19], [19, 28]), ([29, 19], [19, 29]), ([24, 30, 19], [19, 24, 30]), ([19, 31, 16], [16, 19, 31]), ([16, 32], [16, 32])])
theorem s_l2Tags_t4 : rtab .any (opsOf Tryd.f72 4) = s_l2Tags_T4 := by kernel_rfl
set_option maxHeartbeats 4000000 in
theorem l2Tags_c (A : Option Addr) (c : Nat) (l : List Tag) (w : World) (hl : kTag.C w A l.length l) (hn : l.length ≤ 1048576) (hs : ∀ t ∈ l, t.1.size ≤ 140737488351232 ∧ t.2.size ≤ 140737488351232) :
    Calls Tryd.prog 72 #[.slice A l.length c] w fun e w' => e = .returned (.bool (tagsOk l)) ∧ Below w.heap.size w w' := by
  go_enter Tryd.func72, Tryd.ntmps72
  go_wp2
  go_loopw [3] (fun i wr => ∃ k : Nat, k ≤ l.length ∧ i = .int .i64 k ∧ Aside0 (∀ i, i < k → stepT l i) ∧ Aside0 (Below w.heap.size w wr)) (fun i _ => l.length - (intOf i).toNat)
  case atStart => exact ⟨0, by omega, rfl, ⟨fun i hi => absurd hi (by omega)⟩, ⟨Below.refl _ _⟩⟩
  case round =>
    obtain ⟨k, hk, rfl, he, ⟨hb1⟩⟩ := hrel
    by_cases hlt : k < l.length
    · obtain ⟨ad, rfl, c0, c1⟩ := at_Tag hl k hlt
      replace c0 := pw_cell_below hb1 c0
      replace c1 := pw_cell_below hb1 c1
      have hz := hs _ (List.getElem_mem hlt)
      cases hx : wordOk l[k].1 with
      | false =>
        have Hno := Lib.hid (show ¬ TagsOk l from fun h => wordOk_f.1 hx (h.1 k hlt hlt).1)
        go_wp2
        refine rgStart 34 [0, 1, 2, 3, 4, 5, 6, 7, 8, 9, 10, 11, 12, 13, 14, 15, 16, 17, 18, 19, 20, 21, 22, 23, 24, 25, 26, 27, 28, 29, 30, 31, 32, 33] s_l2Tags_t4 (fun HT HS => ?_)
        repeat ((with_reducible refine rgGate ?_); first | refine rgP HT ?_ | refine rgL HT ?_ | refine rgG HT ?_)
        refine rgCall HT Tryd.func71 (sWordOk_c l[k].1 _ hz.1) ?_
        rintro e w2 ⟨rfl, rfl⟩
        refine ⟨_, rfl, bl, rgN ?_⟩
        rw [hx]
        repeat ((with_reducible refine rgGate ?_); first | refine rgP HT ?_ | refine rgL HT ?_ | refine rgG HT ?_)
        refine rgDone HT ?_
        clear HT HS
        go_wp2
        go_ret
        exact ⟨ret_bool (tagsOk_f.2 Hno.out).symm, bl⟩
      | true =>
        cases hy : wordOk l[k].2 with
        | false =>
          have Hno := Lib.hid (show ¬ TagsOk l from fun h => wordOk_f.1 hy (h.1 k hlt hlt).2.1)
          go_wp2
          refine rgStart 34 [0, 1, 2, 3, 4, 5, 6, 7, 8, 9, 10, 11, 12, 13, 14, 15, 16, 17, 18, 19, 20, 21, 22, 23, 24, 25, 26, 27, 28, 29, 30, 31, 32, 33] s_l2Tags_t4 (fun HT HS => ?_)
          repeat ((with_reducible refine rgGate ?_); first | refine rgP HT ?_ | refine rgL HT ?_ | refine rgG HT ?_)
          refine rgCall HT Tryd.func71 (sWordOk_c l[k].1 _ hz.1) ?_
          rintro e w2 ⟨rfl, rfl⟩
          refine ⟨_, rfl, bl, rgN ?_⟩
          rw [hx]
          repeat ((with_reducible refine rgGate ?_); first | refine rgP HT ?_ | refine rgL HT ?_ | refine rgG HT ?_)
          refine rgCall HT Tryd.func71 (sWordOk_c l[k].2 _ hz.2) ?_
          rintro e w2 ⟨rfl, rfl⟩
          refine ⟨_, rfl, bl, rgN ?_⟩
          rw [hy]
          repeat ((with_reducible refine rgGate ?_); first | refine rgP HT ?_ | refine rgL HT ?_ | refine rgG HT ?_)
          refine rgDone HT ?_
          clear HT HS
          go_wp2
          go_ret
          exact ⟨ret_bool (tagsOk_f.2 Hno.out).symm, bl⟩
        | true =>
          have Hp := Lib.hid (And.intro (wordOk_t.1 hx) (wordOk_t.1 hy))
          rcases Nat.eq_zero_or_pos k with h0 | h0
          · have hd : decide (0 < k) = false := by simp; omega
            have Hs := Lib.hid (show stepT l k from fun h => ⟨Hp.out.1, Hp.out.2, fun h1 => by omega⟩)
            clear h0
            go_wp2
            refine rgStart 34 [0, 1, 2, 3, 4, 5, 6, 7, 8, 9, 10, 11, 12, 13, 14, 15, 16, 17, 18, 19, 20, 21, 22, 23, 24, 25, 26, 27, 28, 29, 30, 31, 32, 33] s_l2Tags_t4 (fun HT HS => ?_)
            repeat ((with_reducible refine rgGate ?_); first | refine rgP HT ?_ | refine rgL HT ?_ | refine rgG HT ?_)
            refine rgCall HT Tryd.func71 (sWordOk_c l[k].1 _ hz.1) ?_
            rintro e w2 ⟨rfl, rfl⟩
            refine ⟨_, rfl, bl, rgN ?_⟩
            rw [hx]
            repeat ((with_reducible refine rgGate ?_); first | refine rgP HT ?_ | refine rgL HT ?_ | refine rgG HT ?_)
            refine rgCall HT Tryd.func71 (sWordOk_c l[k].2 _ hz.2) ?_
            rintro e w2 ⟨rfl, rfl⟩
            refine ⟨_, rfl, bl, rgN ?_⟩
            rw [hy]
            repeat ((with_reducible refine rgGate ?_); first | refine rgP HT ?_ | refine rgL HT ?_ | refine rgG HT ?_)
            refine rgDone HT ?_
            clear HT HS
            go_wp2
            exact ⟨⟨k + 1, by omega, by go_num, ⟨fun i hi => if h : i = k then h ▸ Hs.out else he.out i (by omega)⟩, ⟨bl⟩⟩, by simp [intOf]; omega⟩
          · obtain ⟨j, hkj⟩ : ∃ j, k = j + 1 := ⟨k - 1, by omega⟩
            have hd : decide (0 < k) = true := by simp; omega
            have hw : IntKind.i64.wrap ((k : Int) - 1) = (j : Int) := by rw [IntWalk.i64_in _ (by omega)]; omega
            have hj : j < l.length := by omega
            obtain ⟨ad', e', d0, d1⟩ := at_Tag hl j hj
            cases e'
            replace d0 := pw_cell_below hb1 d0
            replace d1 := pw_cell_below hb1 d1
            have Hs0 := Lib.hid (show stepT l k ↔ ltS l[j].1 l[k].1 = true by subst hkj; exact ⟨fun h => (h hlt).2.2 (by omega), fun hq h => ⟨Hp.out.1, Hp.out.2, fun _ => hq⟩⟩)
            have hle := @leS_of l[k].1 l[j].1
            clear hkj h0
            cases hq : ltS l[j].1 l[k].1
            all_goals
              rw [hq] at hle
              go_wp2
              refine rgStart 34 [0, 1, 2, 3, 4, 5, 6, 7, 8, 9, 10, 11, 12, 13, 14, 15, 16, 17, 18, 19, 20, 21, 22, 23, 24, 25, 26, 27, 28, 29, 30, 31, 32, 33] s_l2Tags_t4 (fun HT HS => ?_)
              repeat ((with_reducible refine rgGate ?_); first | refine rgP HT ?_ | refine rgL HT ?_ | refine rgG HT ?_)
              refine rgCall HT Tryd.func71 (sWordOk_c l[k].1 _ hz.1) ?_
              rintro e w2 ⟨rfl, rfl⟩
              refine ⟨_, rfl, bl, rgN ?_⟩
              rw [hx]
              repeat ((with_reducible refine rgGate ?_); first | refine rgP HT ?_ | refine rgL HT ?_ | refine rgG HT ?_)
              refine rgCall HT Tryd.func71 (sWordOk_c l[k].2 _ hz.2) ?_
              rintro e w2 ⟨rfl, rfl⟩
              refine ⟨_, rfl, bl, rgN ?_⟩
              rw [hy]
              repeat ((with_reducible refine rgGate ?_); first | refine rgP HT ?_ | refine rgL HT ?_ | refine rgG HT ?_)
              refine rgDone HT ?_
              clear HT HS
              go_wp2
            · go_ret
              exact ⟨ret_bool (by symm; rw [tagsOk_f]; intro ho; have := Hs0.out.1 (ho.1 k hlt); rw [hq] at this; cases this), bl⟩
            · exact ⟨⟨k + 1, by omega, by go_num, ⟨fun i hi => if h : i = k then h ▸ Hs0.out.2 hq else he.out i (by omega)⟩, ⟨bl⟩⟩, by simp [intOf]; omega⟩
    · have hpts : TagsUp l := fun i hi => he.out i (by omega)
      have HP := Lib.hid hpts
      clear hpts he
      go_wp2
      go_ret
      exact ⟨ret_bool (by rw [Bool.eq_iff_iff, tagsOk_t]; simp only [decide_eq_true_eq]; exact ⟨fun h => ⟨HP.out, by omega⟩, fun h => by have := h.2; omega⟩), bl⟩
/-- Texts of a thing are no longer than the reach. -/
structure FTx (f : FeatD) : Prop where
  id : f.1.size ≤ 140737488351232
  pts : f.2.1.2.length ≤ 1048576
  tags : f.2.2.length ≤ 1048576
  txt : ∀ t ∈ f.2.2, t.1.size ≤ 140737488351232 ∧ t.2.size ≤ 140737488351232
set_option maxHeartbeats 1000000 in
theorem sFeatOk_c (f : FeatD) (A : Option Addr) (c : Nat) (B : Option Addr) (d : Nat) (w : World) (hl : kPt.C w A f.2.1.2.length f.2.1.2) (hm : kTag.C w B f.2.2.length f.2.2) (hF : FTx f) :
    Calls Tryd.prog 56 #[featV f A c B d] w fun e w' => e = .returned (.bool (featOk f)) ∧ Below w.heap.size w w' := by
  obtain ⟨g1, g2, g3, g4⟩ := hF
  obtain ⟨id, ⟨K, l⟩, m⟩ := f
  simp only [featV] at hl hm g1 g2 g3 g4 ⊢
  cases hx : wordOk id with
  | false =>
    have Hx := Lib.hid (wordOk_f.1 hx)
    go_enter Tryd.func56, Tryd.ntmps56
    go_wp2_with fail
    refine (sWordOk_c id _ g1).mono ?_
    rintro e w1 ⟨rfl, rfl⟩
    rw [hx]
    go_wp2
    go_ret
    exact ⟨ret_bool (featOk_f.2 fun h => Hx.out h.1).symm, bl⟩
  | true =>
    have Hx := Lib.hid (wordOk_t.1 hx)
    cases hy : shapeOk K l with
    | false =>
      have Hy := Lib.hid (shapeOk_f.1 hy)
      go_enter Tryd.func56, Tryd.ntmps56
      go_wp2_with fail
      refine (sWordOk_c id _ g1).mono ?_
      rintro e w1 ⟨rfl, rfl⟩
      rw [hx]
      go_wp2_with fail
      refine (sShapeOk_c K A c l _ (Kd.C_below hl bl) g2).mono ?_
      rintro e w2 ⟨rfl, hb2⟩
      rw [hy]
      go_wp2
      go_ret
      exact ⟨ret_bool (featOk_f.2 fun h => Hy.out h.2.1).symm, bl⟩
    | true =>
      have Hy := Lib.hid (shapeOk_t.1 hy)
      go_enter Tryd.func56, Tryd.ntmps56
      go_wp2_with fail
      refine (sWordOk_c id _ g1).mono ?_
      rintro e w1 ⟨rfl, rfl⟩
      rw [hx]
      go_wp2_with fail
      refine (sShapeOk_c K A c l _ (Kd.C_below hl bl) g2).mono ?_
      rintro e w2 ⟨rfl, hb2⟩
      rw [hy]
      obtain ⟨q1, q2, z1⟩ := bcn (w := w) 1 hb2
      go_wp2_with fail
      refine (l2Tags_c B d m _ (Kd.C_below hm bl) g3 g4).mono ?_
      rintro e w3 ⟨rfl, hb3⟩
      go_wp2
      go_ret
      exact ⟨ret_bool (by rw [Bool.eq_iff_iff, featOk_t, tagsOk_t]; exact ⟨fun h => ⟨Hx.out, Hy.out, h⟩, fun h => h.2.2⟩), bl⟩
def i_FeatOk_T4 : Bool × List (List Nat × List Nat) := (true, [([], []), ([0], [0]), ([1], [1]), ([2], [2]), ([3, 2], [3]), ([4], [4]), ([5, 4], [4, 5]), ([6, 4, 4], [4, 6]), ([7, 4], [4, 7]), ([4, 8], [4, 8]), ([9, 7], [9]), ([10], [10]), ([11, 10], [10, 11]), ([12, 10, 10], [10, 12]), ([13], [13]), ([14, 13], [13, 14]), ([13], [13]), ([16, 13], [13, 16]), ([15, 17, 13], [13, 15, 17]), ([18, 13], [13, 18]), ([19, 13], [13, 19]), ([13], [13]), ([21, 13], [13, 21]), ([20, 22, 13], [13, 20, 22]), ([13, 23, 10], [10, 13, 23]), ([10, 24], [10, 24])])
theorem i_FeatOk_t4 : rtab .any (opsOf Tryd.f61 4) = i_FeatOk_T4 := by kernel_rfl
set_option maxHeartbeats 8000000 in
theorem iFeatOk_c (f : FeatD) (A : Option Addr) (c : Nat) (B : Option Addr) (d : Nat) (w : World) (hl : kPt.C w A f.2.1.2.length f.2.1.2) (hm : kTag.C w B f.2.2.length f.2.2) (hF : FTx f) :
    Calls Tryd.prog 61 #[featV f A c B d] w fun e w' => e = .returned (.bool (featOk f)) ∧ Below w.heap.size w w' := by
  obtain ⟨g1, g2, g3, g4⟩ := hF
  obtain ⟨id, ⟨K, l⟩, m⟩ := f
  simp only [featV] at hl hm g1 g2 g3 g4 ⊢
  have HC : Cells (w.alloc (.cells #[.string id, .int .i64 K, .slice A l.length c, .slice B m.length d] 47)) _ := (Cells.nil w).box4 (Below.refl _ _)
  obtain ⟨h0, h1, h2, h3, _⟩ := HC.all
  go_enter Tryd.func61, Tryd.ntmps61
  go_wp2
  clear h0 h1 h2 h3
  go_loopw [8] (fun i wr => ∃ k : Nat, k ≤ m.length ∧ i = .int .i64 k ∧ Aside0 (∀ i, i < k → stepT m i) ∧ Aside0 (Below (w.alloc (.cells #[.string id, .int .i64 K, .slice A l.length c, .slice B m.length d] 47)).heap.size (w.alloc (.cells #[.string id, .int .i64 K, .slice A l.length c, .slice B m.length d] 47)) wr)) (fun i _ => m.length - (intOf i).toNat)
  case atStart => exact ⟨0, by omega, rfl, ⟨fun i hi => absurd hi (by omega)⟩, ⟨Below.refl _ _⟩⟩
  case round =>
    obtain ⟨k, hk, rfl, he, ⟨hb1⟩⟩ := hrel
    replace HC := HC.to hb1
    obtain ⟨h0, h1, h2, h3, _⟩ := HC.all
    have Bw : Below w.heap.size w wr := bl
    have s1 := hb1.size
    simp only [World.size_alloc] at s1
    by_cases hlt : k < m.length
    · obtain ⟨ad, rfl, c0, c1⟩ := at_Tag hm k hlt
      replace c0 := pw_cell_below Bw c0
      replace c1 := pw_cell_below Bw c1
      have hz := g4 _ (List.getElem_mem hlt)
      have E1 := Lib.hid (show (m[k].1, m[k].2) = m[k] from rfl)
      cases hx : wordOk m[k].1 with
      | false =>
        have Hno := Lib.hid (show ¬ FeatOk (id, (K, l), m) from fun h => wordOk_f.1 hx (h.2.2.1 k hlt hlt).1)
        go_wp2
        refine rgStart 26 [0, 1, 2, 3, 4, 5, 6, 7, 8, 9, 10, 11, 12, 13, 14, 15, 16, 17, 18, 19, 20, 21, 22, 23, 24, 25] i_FeatOk_t4 (fun HT HS => ?_)
        repeat ((with_reducible refine rgGate ?_); first | refine rgP HT ?_ | refine rgL HT ?_ | refine rgG HT ?_)
        refine rgCall HT Tryd.func77 (iWordOk_c m[k].1 _ hz.1) ?_
        rintro e w2 ⟨rfl, rfl⟩
        refine ⟨_, rfl, bl, rgN ?_⟩
        rw [hx]
        repeat ((with_reducible refine rgGate ?_); first | refine rgP HT ?_ | refine rgL HT ?_ | refine rgG HT ?_)
        refine rgDone HT ?_
        clear HT HS
        go_wp2
        go_ret
        exact ⟨ret_bool (featOk_f.2 Hno.out).symm, bl⟩
      | true =>
        cases hy : wordOk m[k].2 with
        | false =>
          have Hno := Lib.hid (show ¬ FeatOk (id, (K, l), m) from fun h => wordOk_f.1 hy (h.2.2.1 k hlt hlt).2.1)
          go_wp2
          refine rgStart 26 [0, 1, 2, 3, 4, 5, 6, 7, 8, 9, 10, 11, 12, 13, 14, 15, 16, 17, 18, 19, 20, 21, 22, 23, 24, 25] i_FeatOk_t4 (fun HT HS => ?_)
          repeat ((with_reducible refine rgGate ?_); first | refine rgP HT ?_ | refine rgL HT ?_ | refine rgG HT ?_)
          refine rgCall HT Tryd.func77 (iWordOk_c m[k].1 _ hz.1) ?_
          rintro e w2 ⟨rfl, rfl⟩
          refine ⟨_, rfl, bl, rgN ?_⟩
          rw [hx]
          repeat ((with_reducible refine rgGate ?_); first | refine rgP HT ?_ | refine rgL HT ?_ | refine rgG HT ?_)
          refine rgCall HT Tryd.func77 (iWordOk_c m[k].2 _ hz.2) ?_
          rintro e w2 ⟨rfl, rfl⟩
          refine ⟨_, rfl, bl, rgN ?_⟩
          rw [hy]
          repeat ((with_reducible refine rgGate ?_); first | refine rgP HT ?_ | refine rgL HT ?_ | refine rgG HT ?_)
          refine rgDone HT ?_
          clear HT HS
          go_wp2
          go_ret
          exact ⟨ret_bool (featOk_f.2 Hno.out).symm, bl⟩
        | true =>
          have Hp := Lib.hid (And.intro (wordOk_t.1 hx) (wordOk_t.1 hy))
          rcases Nat.eq_zero_or_pos k with h0' | h0'
          · have hd : decide (0 < k) = false := by simp; omega
            have Hs := Lib.hid (show stepT m k from fun h => ⟨Hp.out.1, Hp.out.2, fun h1 => by omega⟩)
            clear h0'
            go_wp2
            refine rgStart 26 [0, 1, 2, 3, 4, 5, 6, 7, 8, 9, 10, 11, 12, 13, 14, 15, 16, 17, 18, 19, 20, 21, 22, 23, 24, 25] i_FeatOk_t4 (fun HT HS => ?_)
            repeat ((with_reducible refine rgGate ?_); first | refine rgP HT ?_ | refine rgL HT ?_ | refine rgG HT ?_)
            refine rgCall HT Tryd.func77 (iWordOk_c m[k].1 _ hz.1) ?_
            rintro e w2 ⟨rfl, rfl⟩
            refine ⟨_, rfl, bl, rgN ?_⟩
            rw [hx]
            repeat ((with_reducible refine rgGate ?_); first | refine rgP HT ?_ | refine rgL HT ?_ | refine rgG HT ?_)
            refine rgCall HT Tryd.func77 (iWordOk_c m[k].2 _ hz.2) ?_
            rintro e w2 ⟨rfl, rfl⟩
            refine ⟨_, rfl, bl, rgN ?_⟩
            rw [hy]
            repeat ((with_reducible refine rgGate ?_); first | refine rgP HT ?_ | refine rgL HT ?_ | refine rgG HT ?_)
            refine rgDone HT ?_
            clear HT HS
            go_wp2
            exact ⟨⟨k + 1, by omega, by go_num, ⟨fun i hi => if h : i = k then h ▸ Hs.out else he.out i (by omega)⟩, ⟨bl⟩⟩, by simp [intOf]; omega⟩
          · obtain ⟨j, hkj⟩ : ∃ j, k = j + 1 := ⟨k - 1, by omega⟩
            have hd : decide (0 < k) = true := by simp; omega
            have hw : IntKind.i64.wrap ((k : Int) - 1) = (j : Int) := by rw [IntWalk.i64_in _ (by omega)]; omega
            have hj : j < m.length := by omega
            obtain ⟨ad', e', d0, d1⟩ := at_Tag hm j hj
            cases e'
            replace d0 := pw_cell_below Bw d0
            replace d1 := pw_cell_below Bw d1
            have Hs0 := Lib.hid (show stepT m k ↔ ltS m[j].1 m[k].1 = true by subst hkj; exact ⟨fun h => (h hlt).2.2 (by omega), fun hq h => ⟨Hp.out.1, Hp.out.2, fun _ => hq⟩⟩)
            clear hkj h0'
            cases hq : ltS m[j].1 m[k].1
            all_goals
              have hle : Op.bytesLess m[j].1.toList m[k].1.toList = _ := hq
              go_wp2
              refine rgStart 26 [0, 1, 2, 3, 4, 5, 6, 7, 8, 9, 10, 11, 12, 13, 14, 15, 16, 17, 18, 19, 20, 21, 22, 23, 24, 25] i_FeatOk_t4 (fun HT HS => ?_)
              repeat ((with_reducible refine rgGate ?_); first | refine rgP HT ?_ | refine rgL HT ?_ | refine rgG HT ?_)
              refine rgCall HT Tryd.func77 (iWordOk_c m[k].1 _ hz.1) ?_
              rintro e w2 ⟨rfl, rfl⟩
              refine ⟨_, rfl, bl, rgN ?_⟩
              rw [hx]
              repeat ((with_reducible refine rgGate ?_); first | refine rgP HT ?_ | refine rgL HT ?_ | refine rgG HT ?_)
              refine rgCall HT Tryd.func77 (iWordOk_c m[k].2 _ hz.2) ?_
              rintro e w2 ⟨rfl, rfl⟩
              refine ⟨_, rfl, bl, rgN ?_⟩
              rw [hy]
              repeat ((with_reducible refine rgGate ?_); first | refine rgP HT ?_ | refine rgL HT ?_ | refine rgG HT ?_)
              refine rgDone HT ?_
              clear HT HS
              go_wp2
            · go_ret
              exact ⟨ret_bool (by symm; rw [featOk_f]; intro ho; have := Hs0.out.1 (ho.2.2.1 k hlt); rw [hq] at this; cases this), bl⟩
            · exact ⟨⟨k + 1, by omega, by go_num, ⟨fun i hi => if h : i = k then h ▸ Hs0.out.2 hq else he.out i (by omega)⟩, ⟨bl⟩⟩, by simp [intOf]; omega⟩
    · have hpts : TagsUp m := fun i hi => he.out i (by omega)
      have HP := Lib.hid hpts
      have d1 : decide ((k : Int) < (m.length : Int)) = false := decide_eq_false (by omega)
      clear hpts he
      cases hx : wordOk id with
      | false =>
        have Hx := Lib.hid (wordOk_f.1 hx)
        go_wp2_with fail
        refine (iWordOk_c id _ g1).mono ?_
        rintro e w1 ⟨rfl, rfl⟩
        rw [hx]
        go_wp2
        go_ret
        exact ⟨ret_bool (featOk_f.2 fun h => Hx.out h.1).symm, bl⟩
      | true =>
        have Hx := Lib.hid (wordOk_t.1 hx)
        cases hy : shapeOk K l with
        | false =>
          have Hy := Lib.hid (shapeOk_f.1 hy)
          go_wp2_with fail
          refine (iWordOk_c id _ g1).mono ?_
          rintro e w1 ⟨rfl, rfl⟩
          rw [hx]
          go_wp2_with fail
          refine (iShapeOk_c K A c l _ (Kd.C_below hl bl) g2).mono ?_
          rintro e w2 ⟨rfl, hb2⟩
          rw [hy]
          go_wp2
          go_ret
          exact ⟨ret_bool (featOk_f.2 fun h => Hy.out h.2.1).symm, bl⟩
        | true =>
          have Hy := Lib.hid (shapeOk_t.1 hy)
          go_wp2_with fail
          refine (iWordOk_c id _ g1).mono ?_
          rintro e w1 ⟨rfl, rfl⟩
          rw [hx]
          go_wp2_with fail
          refine (iShapeOk_c K A c l _ (Kd.C_below hl bl) g2).mono ?_
          rintro e w2 ⟨rfl, hb2⟩
          rw [hy]
          clear h0 h1 h2 h3
          replace HC := HC.to hb2
          obtain ⟨h0, h1, h2, h3, _⟩ := HC.all
          go_wp2
          go_ret
          exact ⟨ret_bool (by rw [Bool.eq_iff_iff, featOk_t]; simp only [decide_eq_true_eq]; exact ⟨fun h => ⟨Hx.out, Hy.out, HP.out, (show m.length ≤ 4 by omega)⟩, fun h => by have h9 : m.length ≤ 4 := h.2.2.2; omega⟩), bl⟩
end
section
open Go.RowKit Go.Proofs.YtfbhjknkofnohaaDoorW.PrintWords Go.Proofs.YtfbhjknkofnohaaDoorW.PrintLast
set_option linter.unusedVariables false
set_option linter.unusedSimpArgs false
end
end Go.Proofs.YtfbhjknkofnohaaDoor
