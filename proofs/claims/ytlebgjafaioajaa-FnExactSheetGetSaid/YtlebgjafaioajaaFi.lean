/- Contracts: marks of texts; marks of a thing. -/
import Derived.Test.YtlebgjafaioajaaFh
import Derived.Test.YtlebgjafaioajaaExx
namespace Go.Proofs.Ytlebgjafaioajaa
open Go.RowKit Go.Proofs.YtlebgjafaioajaaW.PrintWords Go.Proofs.YtlebgjafaioajaaW.PrintLast
set_option maxRecDepth 100000
set_option linter.unusedVariables false
set_option linter.unusedSimpArgs false
/-- The digits of a number ahead of a text. -/
def dgt (k : Nat) (o : ByteArray) : ByteArray := if h : k = 0 then o else dgt (k / 10) (strOfNums [48 + (k : Int) % 10] ++ o)
termination_by k
decreasing_by omega
theorem dgt_zero (o : ByteArray) : dgt 0 o = o := by rw [dgt, dif_pos rfl]
theorem dgt_succ {k : Nat} (h : 0 < k) (o : ByteArray) : dgt k o = dgt (k / 10) (strOfNums [48 + (k : Int) % 10] ++ o) := by rw [dgt, dif_neg (by omega)]
def mtext (k : Nat) : ByteArray := (⟨#[109]⟩ : ByteArray) ++ dgt k ⟨#[]⟩
theorem one_size (x : Int) : (strOfNums [x]).size = 1 := rfl
theorem pow_bound {j n : Nat} (hj : 0 < j) (h : j * 2 ^ n ≤ 2 ^ 40) : n ≤ 40 ∧ (j / 10) * 2 ^ (n + 1) ≤ 2 ^ 40 := by
  constructor
  · have h1 : 2 ^ n ≤ 2 ^ 40 := Nat.le_trans (Nat.le_mul_of_pos_left _ hj) h
    exact (Nat.pow_le_pow_iff_right (by omega)).1 h1
  · rw [Nat.pow_succ, Nat.mul_comm (2 ^ n) 2, ← Nat.mul_assoc]
    exact Nat.le_trans (Nat.mul_le_mul_right _ (by omega)) h
theorem markText_c (k : Nat) (w : World) (h1 : 1 ≤ k) (h2 : k ≤ 1099511627776) :
    Calls Try.prog 81 #[.int .i64 k] w fun e w' => e = .returned (.string (mtext k)) ∧ Below w.heap.size w w' := by
  have h0 : ¬ k = 0 := by omega
  go_enter Try.func81, Try.ntmps81
  go_wp2
  go_loopw [0, 3] (fun q o wr => ∃ (j : Nat) (s : ByteArray), j ≤ 1099511627776 ∧ q = .int .i64 j ∧ o = .string s ∧ Aside0 (dgt j s = dgt k ⟨#[]⟩) ∧ Aside0 (j * 2 ^ s.size ≤ 2 ^ 40) ∧ s.size ≤ 41 ∧ Aside0 (Below w.heap.size w wr)) (fun q _ _ => (intOf q).toNat)
  case atStart => exact ⟨k, ⟨#[]⟩, h2, rfl, rfl, ⟨rfl⟩, ⟨by show k * 2 ^ 0 ≤ 2 ^ 40; omega⟩, by decide, ⟨Below.refl _ _⟩⟩
  case round =>
    obtain ⟨j, s, hj9, rfl, rfl, he, hp, hs, ⟨hb⟩⟩ := hrel
    by_cases hj : 0 < j
    · have d2 : decide ((0 : Int) < (j : Int)) = true := decide_eq_true (by omega)
      have hpb := Lib.hid (pow_bound hj hp.out)
      have hcv := string_of_reads (P := Try.prog) (w := wr.alloc (.cells #[.int .u8 (48 + (j : Int) % 10)] 5)) (src := 51) (dst := 9) (e := 5) (A := some ⟨wr.heap.size, 0, none⟩) (n := 1) (c := 1) (xs := [48 + (j : Int) % 10]) Try.underlying51 Try.underlying5 Try.underlying9 ⟨rfl, by decide, fun _ => ⟨_, rfl, fun i hi => by
        obtain rfl : i = 0 := by omega
        rw [add_zero']
        exact cbn 0 (Below.refl _ _) rfl⟩⟩
      have hsz := one_size (48 + (j : Int) % 10)
      go_wp2
      have hs2 : (strOfNums [48 + (j : Int) % 10] ++ s).size = s.size + 1 := by rw [ByteArray.size_append, hsz]; omega
      have h40 := hpb.out.1
      exact ⟨⟨j / 10, _, by omega, rfl, rfl, ⟨by rw [← dgt_succ hj]; exact he.out⟩, ⟨by rw [hs2]; exact hpb.out.2⟩, by rw [hs2]; omega, ⟨bl⟩⟩, by simp [intOf]; omega⟩
    · obtain rfl : j = 0 := by omega
      have hd := he.out
      rw [dgt_zero] at hd
      subst hd
      go_wp2
      go_ret
      exact ⟨rfl, hb⟩
theorem markText_i (x : Int) (w : World) (h1 : 1 ≤ x) (h2 : x ≤ 1099511627776) :
    Calls Try.prog 81 #[.int .i64 x] w fun e w' => e = .returned (.string (mtext x.toNat)) ∧ Below w.heap.size w w' := by
  obtain ⟨k, rfl⟩ : ∃ k : Nat, x = k := ⟨x.toNat, by omega⟩
  exact markText_c k w (by omega) (by omega)
/-! Rows of tags marked. -/
def markT1 (k : Int) (i : Nat) : Tag := (mtext (k + 2 * (i : Int)).toNat, mtext (k + 2 * (i : Int) + 1).toNat)
def markT (k : Int) (n : Nat) : List Tag := (List.range n).map (markT1 k)
theorem markT_len (k : Int) (n : Nat) : (markT k n).length = n := by simp [markT]
theorem markT_get (k : Int) (n i : Nat) (h : i < (markT k n).length) : (markT k n)[i] = markT1 k i := by simp [markT]
theorem markT_set (l : List Tag) (k : Int) (i : Nat) (h : i < l.length) (u : ByteArray) (h2 : i < ((markT k l.length).take i ++ l.drop i).length) :
    (((markT k l.length).take i ++ l.drop i).set i (u, ((markT k l.length).take i ++ l.drop i)[i].2)).set i (mtext (k + 2 * (i : Int)).toNat, mtext (k + 2 * (i : Int) + 1).toNat) = (markT k l.length).take (i + 1) ++ l.drop (i + 1) := by
  have hm : i < (markT k l.length).length := by rw [markT_len]; exact h
  have hl : ((markT k l.length).take i).length = i := by rw [List.length_take]; omega
  rw [List.set_set, List.set_append_right _ _ (by omega), hl, Nat.sub_self, List.take_succ_eq_append_getElem hm, markT_get, List.drop_eq_getElem_cons h, List.set_cons_zero, List.append_assoc]
  rfl
theorem set_Tag0 {e base g n cap : Nat} {ok : Nat → Prop} {W : World} {xs : List Tag} (h : kTag.R e W base ok (.slice (some ⟨g, 0, none⟩) n cap) xs) (i : Nat) (hi : i < n) (hx : i < xs.length) (x : ByteArray) :
    kTag.R e (W.setCell ⟨g, i * 2, none⟩ (.string x)) base ok (.slice (some ⟨g, 0, none⟩) n cap) (xs.set i (x, xs[i].2)) := by
  obtain ⟨c, hl, hM, hc, hf⟩ := Kd.R_elem h tag0 (i : Int) (by omega) (by omega)
  have hg : xs.getD i tag0 = xs[i] := by rw [List.getD_eq_getElem?_getD, List.getElem?_eq_getElem hx]; rfl
  simp only [Int.toNat_natCast] at hM hc hf
  rw [hg] at hM
  obtain rfl := kTag_openM hM
  exact (Kd.R_seg h (i : Int) (by omega) (by omega) (seg := [.string x]) (j := 0) hl (by simpa using hc) (show 1 ≤ 2 by decide) (x' := (x, xs[i].2)) (okp := fun k => ok k ∧ k ≠ g) (kTag_mkM _ _ _ (x, xs[i].2)) (fun _ hk => hk)).1
theorem set_Tag1 {e base g n cap : Nat} {ok : Nat → Prop} {W : World} {xs : List Tag} (h : kTag.R e W base ok (.slice (some ⟨g, 0, none⟩) n cap) xs) (i : Nat) (hi : i < n) (hx : i < xs.length) (x : ByteArray) :
    kTag.R e (W.setCell ⟨g, i * 2 + 1, none⟩ (.string x)) base ok (.slice (some ⟨g, 0, none⟩) n cap) (xs.set i (xs[i].1, x)) := by
  obtain ⟨c, hl, hM, hc, hf⟩ := Kd.R_elem h tag0 (i : Int) (by omega) (by omega)
  have hg : xs.getD i tag0 = xs[i] := by rw [List.getD_eq_getElem?_getD, List.getElem?_eq_getElem hx]; rfl
  simp only [Int.toNat_natCast] at hM hc hf
  rw [hg] at hM
  obtain rfl := kTag_openM hM
  exact (Kd.R_seg h (i : Int) (by omega) (by omega) (seg := [.string x]) (j := 1) hl (by simpa using hc) (show 2 ≤ 2 by decide) (x' := (xs[i].1, x)) (okp := fun k => ok k ∧ k ≠ g) (kTag_mkM _ _ _ (xs[i].1, x)) (fun _ hk => hk)).1
set_option maxHeartbeats 4000000 in
theorem markTagS_c (A : Option Addr) (c : Nat) (l : List Tag) (k : Int) (lo hi : Nat) (w : World) (hr : RI kTag 57 w lo hi (.slice A l.length c) l) (hn : l.length ≤ 1048576) (hk0 : 1 ≤ k) (hk1 : k ≤ 1073741824) (hhi : hi ≤ w.heap.size) (hlo : lo ≤ w.heap.size) :
    Calls Try.prog 76 #[.slice A l.length c, .int .i64 k] w fun e w' => e = .returned (.int .i64 (k + 2 * (l.length : Int))) ∧ RI kTag 57 w' lo hi (.slice A l.length c) (markT k l.length) ∧ Ex lo hi w w' := by
  go_enter Try.func76, Try.ntmps76
  go_wp2
  go_loopw [1, 5] (fun q i wr => ∃ j : Nat, j ≤ l.length ∧ i = .int .i64 j ∧ q = .int .i64 (k + 2 * (j : Int)) ∧ Aside0 (RI kTag 57 wr lo hi (.slice A l.length c) ((markT k l.length).take j ++ l.drop j)) ∧ Aside0 (Ex lo hi w wr)) (fun _ i _ => l.length - (intOf i).toNat)
  case atStart => exact ⟨0, by omega, rfl, by simp, ⟨by simpa using hr⟩, ⟨Ex.refl _ _ _⟩⟩
  case round =>
    obtain ⟨j, hj, rfl, rfl, ⟨hr1⟩, ⟨hx⟩⟩ := hrel
    by_cases hlt : j < l.length
    · obtain ⟨g, cap, hv, hg1, hg2, _⟩ := Kd.R_form hr (by omega)
      injection hv with e1 e2 e3
      subst e1
      clear e2 e3
      have hg3 : g < hi := hr.1 g (by rfl)
      have hjl : j < ((markT k l.length).take j ++ l.drop j).length := by simp [markT_len]; omega
      have hst := Lib.hid (markT_set l k j hlt (mtext (k + 2 * (j : Int)).toNat) hjl)
      have hlt2 : decide ((j : Int) < (l.length : Int)) = true := by simp; omega
      have hw : IntKind.i64.wrap ((j : Int) + 1) = (j : Int) + 1 := IntWalk.i64_in _ (by omega)
      have hw2 : IntKind.i64.wrap (k + 2 * (j : Int) + 1) = k + 2 * (j : Int) + 1 := IntWalk.i64_in _ (by omega)
      have hw3 : IntKind.i64.wrap (k + 2 * (j : Int) + 1 + 1) = k + 2 * ((j + 1 : Nat) : Int) := by rw [IntWalk.i64_in _ (by omega)]; omega
      have s1 := hx.1.size
      go_wp2_with fail
      refine (markText_i (k + 2 * (j : Int)) _ (by omega) (by omega)).mono ?_
      rintro e w2 ⟨rfl, hb2⟩
      have hr2 := hr1.below hb2
      obtain ⟨d0, d1, f0, f1⟩ := own_Tag hr2 j hjl
      have hr3 := set_Tag0 hr2 j hlt hjl (mtext (k + 2 * (j : Int)).toNat)
      have hx2 : Ex lo hi w (w2.setCell ⟨g, j * 2, none⟩ (.string (mtext (k + 2 * (j : Int)).toNat))) := (hx.to hb2 hlo).set hg1 hg3
      go_wp2_with fail
      refine (markText_i (k + 2 * (j : Int) + 1) _ (by omega) (by omega)).mono ?_
      rintro e w4 ⟨rfl, hb4⟩
      have hr4 := Kd.R_below hr3 hb4
      have hjl2 : j < (((markT k l.length).take j ++ l.drop j).set j (mtext (k + 2 * (j : Int)).toNat, ((markT k l.length).take j ++ l.drop j)[j].2)).length := by rw [List.length_set]; exact hjl
      clear d0 d1 f0 f1
      obtain ⟨d0, d1, f0, f1⟩ := own_Tag hr4 j hjl2
      have hr5 := set_Tag1 hr4 j hlt hjl2 (mtext (k + 2 * (j : Int) + 1).toNat)
      have e4 : (((markT k l.length).take j ++ l.drop j).set j (mtext (k + 2 * (j : Int)).toNat, ((markT k l.length).take j ++ l.drop j)[j].2))[j].1 = mtext (k + 2 * (j : Int)).toNat := by rw [List.getElem_set_self]
      rw [e4, hst.out] at hr5
      have hx4 := (hx2.to hb4 hlo).set (i := j * 2 + 1) (v := .string (mtext (k + 2 * (j : Int) + 1).toNat)) hg1 hg3
      clear hr1 hr2 hr3 hr4 e4 hx2 hx hst
      go_wp2
      exact ⟨⟨j + 1, by omega, rfl, rfl, ⟨hr5⟩, ⟨hx4⟩⟩, by simp [intOf]; omega⟩
    · have he : j = l.length := by omega
      have hlt2 : decide ((j : Int) < (l.length : Int)) = false := by simp; omega
      have hsl := Lib.hid he
      clear he
      have hr2 : RI kTag 57 wr lo hi (.slice A l.length c) (markT k l.length) := by
        have := hr1
        rw [hsl.out, List.drop_length, List.append_nil, List.take_of_length_le (by rw [markT_len]; omega)] at this
        exact this
      go_wp2
      go_ret
      exact ⟨ret_int (by rw [hsl.out]), hr2, hx⟩
def l_heldTagS_T4 : Bool × List (List Nat × List Nat) := (true, [([], []), ([], []), ([0, 1], [0, 1]), ([2], [2]), ([3], [3]), ([], []), ([5], [5]), ([4, 6], [4, 6])])
theorem l_heldTagS_t4 : rtab .any (opsOf Try.f78 4) = l_heldTagS_T4 := by kernel_rfl
def l_heldTagS_T7 : Bool × List (List Nat × List Nat) := (true, [([], []), ([], []), ([0, 1], [0, 1]), ([2], [2]), ([3], [3]), ([], []), ([5], [5]), ([4, 6], [4, 6])])
theorem l_heldTagS_t7 : rtab .any (opsOf Try.f78 7) = l_heldTagS_T7 := by kernel_rfl
set_option maxHeartbeats 4000000 in
theorem heldTagS_c (A : Option Addr) (c n : Nat) (k : Int) (w : World) (hr : kTag.C w A n (markT k n)) (hn : n ≤ 1048576) (hk0 : 1 ≤ k) (hk1 : k ≤ 1073741824) :
    Calls Try.prog 78 #[.slice A n c, .int .i64 k] w fun e w' => e = .returned (.int .i64 (k + 2 * (n : Int))) ∧ Below w.heap.size w w' := by
  go_enter Try.func78, Try.ntmps78
  go_wp2
  go_loopw [1, 5] (fun q i wr => ∃ j : Nat, j ≤ n ∧ i = .int .i64 j ∧ q = .int .i64 (k + 2 * (j : Int)) ∧ Aside0 (Below w.heap.size w wr)) (fun _ i _ => n - (intOf i).toNat)
  case atStart => exact ⟨0, by omega, rfl, by simp, ⟨Below.refl _ _⟩⟩
  case round =>
    obtain ⟨j, hj, rfl, rfl, ⟨hx⟩⟩ := hrel
    by_cases hlt : j < n
    · obtain ⟨ad, rfl, c0, c1⟩ := at_Tag hr j (by rw [markT_len]; exact hlt)
      rw [markT_get] at c0 c1
      replace c0 : wr.cell? (ad.add (j * 2)) = some (.string (mtext (k + 2 * (j : Int)).toNat)) := pw_cell_below (bl : Below w.heap.size w wr) c0
      replace c1 : wr.cell? ⟨(ad.add (j * 2)).block, (ad.add (j * 2)).off + 1, none⟩ = some (.string (mtext (k + 2 * (j : Int) + 1).toNat)) := pw_cell_below (bl : Below w.heap.size w wr) c1
      have hlt2 : decide ((j : Int) < (n : Int)) = true := by simp; omega
      have hw : IntKind.i64.wrap ((j : Int) + 1) = (j : Int) + 1 := IntWalk.i64_in _ (by omega)
      have hw2 : IntKind.i64.wrap (k + 2 * (j : Int) + 1) = k + 2 * (j : Int) + 1 := IntWalk.i64_in _ (by omega)
      have hw3 : IntKind.i64.wrap (k + 2 * (j : Int) + 1 + 1) = k + 2 * ((j + 1 : Nat) : Int) := by rw [IntWalk.i64_in _ (by omega)]; omega
      have t1 := strB_t (rfl : mtext (k + 2 * (j : Int)).toNat = mtext (k + 2 * (j : Int)).toNat)
      have t2 := strB_t (rfl : mtext (k + 2 * (j : Int) + 1).toNat = mtext (k + 2 * (j : Int) + 1).toNat)
      go_wp2
      refine rgStart 8 [0, 1, 2, 3, 4, 5, 6, 7] l_heldTagS_t4 (fun HT HS => ?_)
      repeat ((with_reducible refine rgGate ?_); first | refine rgP HT ?_ | refine rgL HT ?_ | refine rgG HT ?_)
      refine rgCall HT Try.func81 (markText_i (k + 2 * (j : Int)) _ (by omega) (by omega)) ?_
      rintro e w2 ⟨rfl, hb2⟩
      refine ⟨_, rfl, bl, rgN ?_⟩
      repeat ((with_reducible refine rgGate ?_); first | refine rgP HT ?_ | refine rgL HT ?_ | refine rgG HT ?_)
      refine rgDone HT ?_
      clear HT HS
      replace c1 := pw_cell_below (bl : Below wr.heap.size wr w2) c1
      clear c0
      go_wp2
      refine rgStart 8 [0, 1, 2, 3, 4, 5, 6, 7] l_heldTagS_t7 (fun HT HS => ?_)
      repeat ((with_reducible refine rgGate ?_); first | refine rgP HT ?_ | refine rgL HT ?_ | refine rgG HT ?_)
      refine rgCall HT Try.func81 (markText_i (k + 2 * (j : Int) + 1) _ (by omega) (by omega)) ?_
      rintro e w3 ⟨rfl, hb3⟩
      refine ⟨_, rfl, bl, rgN ?_⟩
      repeat ((with_reducible refine rgGate ?_); first | refine rgP HT ?_ | refine rgL HT ?_ | refine rgG HT ?_)
      refine rgDone HT ?_
      clear HT HS
      go_wp2
      exact ⟨⟨j + 1, by omega, rfl, rfl, ⟨bl⟩⟩, by simp [intOf]; omega⟩
    · have he : j = n := by omega
      have hlt2 : decide ((j : Int) < (n : Int)) = false := by simp; omega
      have hsl := Lib.hid he
      clear he
      go_wp2
      go_ret
      exact ⟨ret_int (by rw [hsl.out]), bl⟩
theorem Ex.wide {a b lo hi : Nat} {w w' : World} (h : Ex a b w w') (h1 : lo ≤ a) (h2 : b ≤ hi) : Ex lo hi w w' := ⟨h.1.mono h1, fun k hk hlt => h.2 k (Nat.le_trans h2 hk) hlt⟩
/-- A row whose elements hold no rows lies in one block at most. -/
def Tight {α : Type} (d : Kd α) (e : Nat) (W : World) (lo hi : Nat) (v : Value) (xs : List α) (a b : Nat) : Prop := lo ≤ a ∧ a ≤ b ∧ b ≤ hi ∧ b ≤ a + 1 ∧ RI d e W a b v xs ∧ (a < b → ∃ cells, W.heap[a]? = some (.cells cells e (0, 0)))
theorem tight_of {α : Type} {d : Kd α} (hM : ∀ w base base' ok ok' x cs, d.M w base ok x cs → d.M w base' ok' x cs) {e lo hi : Nat} {W : World} {v : Value} {xs : List α} (h : RI d e W lo hi v xs) (hh : lo ≤ hi) : ∃ a b, Tight d e W lo hi v xs a b := by
  obtain ⟨h1, inner, ⟨ho1, ho2⟩, hr⟩ := h
  rcases ho2 with ⟨rfl, hn⟩ | ⟨g, cap, cur, rfl, hb, hg, hnc, hcm, hcs, ht⟩
  · exact ⟨lo, lo, Nat.le_refl _, Nat.le_refl _, hh, by omega, ⟨fun k hk => by simp [Value.ownBlock] at hk, inner, ⟨ho1, .inl ⟨rfl, hn⟩⟩, hr.imp_ (fun x cs hx => hM _ _ _ _ _ _ _ hx)⟩, fun h => by omega⟩
  · have hgh : g < hi := h1 g rfl
    refine ⟨g, g + 1, hb, by omega, hgh, Nat.le_refl _, ⟨fun k hk => ?_, inner, ⟨ho1, .inr ⟨g, cap, cur, rfl, Nat.le_refl _, hg, hnc, hcm, hcs, ht⟩⟩, hr.imp_ (fun x cs hx => hM _ _ _ _ _ _ _ hx)⟩, fun _ => ⟨cur, hg⟩⟩
    have : g = k := by simpa [Value.ownBlock] using hk
    show k < g + 1
    omega
theorem tight_apart {α β : Type} {d : Kd α} {d2 : Kd β} {e e2 lo hi lo2 hi2 a b a2 b2 : Nat} {W : World} {v v2 : Value} {xs : List α} {ys : List β} (h : Tight d e W lo hi v xs a b) (h2 : Tight d2 e2 W lo2 hi2 v2 ys a2 b2) (hne : e ≠ e2) : b ≤ a2 ∨ b2 ≤ a := by
  obtain ⟨_, h3, _, h4, _, h5⟩ := h
  obtain ⟨_, k3, _, k4, _, k5⟩ := h2
  by_cases hab : a < b
  · by_cases hab2 : a2 < b2
    · obtain ⟨c, hc⟩ := h5 hab
      obtain ⟨c2, hc2⟩ := k5 hab2
      have : a ≠ a2 := blk_ne hc hc2 hne
      omega
    · omega
  · omega
/-- What a thing's marks leave. -/
theorem markFeat_c (f : FeatD) (A : Option Addr) (c : Nat) (B : Option Addr) (d : Nat) (lo hi : Nat) (w : World) (hr : RI kPt 108 w lo hi (.slice A f.2.1.2.length c) f.2.1.2) (ht : RI kTag 57 w lo hi (.slice B f.2.2.length d) f.2.2) (n1 : f.2.1.2.length ≤ 1048576) (n2 : f.2.2.length ≤ 1048576) (hhi : hi ≤ w.heap.size) (hlo : lo ≤ hi) :
    Calls Try.prog 38 #[featV f A c B d, .int .i64 1] w fun e w' => e = .returned (.int .i64 (1 + 2 * (f.2.1.2.length : Int) + 2 * (f.2.2.length : Int))) ∧ kPt.C w' A f.2.1.2.length (markL 1 f.2.1.2.length) ∧ kTag.C w' B f.2.2.length (markT (1 + 2 * (f.2.1.2.length : Int)) f.2.2.length) ∧ Ex lo hi w w' := by
  obtain ⟨id, ⟨K, l⟩, m⟩ := f
  simp only [featV] at hr ht n1 n2 ⊢
  obtain ⟨a, b, tp⟩ := tight_of (fun _ _ _ _ _ _ _ h => h) hr hlo
  obtain ⟨a2, b2, tt⟩ := tight_of (fun _ _ _ _ _ _ _ h => h) ht hlo
  have hap := tight_apart tp tt (by decide)
  obtain ⟨p1, p2, p3, p4, hp, _⟩ := tp
  obtain ⟨q1, q2, q3, q4, hq, _⟩ := tt
  have HC : Cells (w.alloc (.cells #[.string id, .int .i64 K, .slice A l.length c, .slice B m.length d] 35)) _ := (Cells.nil w).box4 (Below.refl _ _)
  obtain ⟨h0, h1, h2, h3, _⟩ := HC.all
  go_enter Try.func38, Try.ntmps38
  go_wp2_with fail
  refine (markShape_c K A c l 1 a b _ (RI.alloc hp _) n1 (by omega) (by omega) (by simp; omega)).mono ?_
  rintro e w1 ⟨rfl, m1, hx1⟩
  replace HC := HC.ex hx1 (fun x hx_ => by simp only [List.mem_cons, List.mem_nil_iff, or_false] at hx_; rcases hx_ with rfl | rfl | rfl | rfl <;> simp only [] <;> omega)
  clear h0 h1 h2 h3
  obtain ⟨h0, h1, h2, h3, _⟩ := HC.all
  have hq1 : RI kTag 57 w1 a2 b2 (.slice B m.length d) m := (RI.alloc hq _).ex hx1 (by omega)
  have s1 := hx1.1.size
  simp only [World.size_alloc] at s1
  have k0 : 1 ≤ 1 + 2 * (l.length : Int) := by omega
  have k1 : 1 + 2 * (l.length : Int) ≤ 1073741824 := by omega
  go_wp2_with fail
  refine (markTagS_c B d m _ a2 b2 _ hq1 n2 k0 k1 (by omega) (by omega)).mono ?_
  rintro e w2 ⟨rfl, m2, hx2⟩
  have m1' : RI kPt 108 w2 a b (.slice A l.length c) (markL 1 l.length) := m1.ex hx2 (by omega)
  go_wp2
  go_ret
  have c1 := m1'.rd.2.2
  rw [markL_len] at c1
  have c2 := m2.rd.2.2
  rw [markT_len] at c2
  exact ⟨rfl, c1, c2, (((Ex.of (lo := lo) (hi := hi) (below_alloc (Below.refl _ _) _) (by omega)).trans (hx1.wide p1 p3)).trans (hx2.wide q1 q3))⟩
theorem heldFeat_c (f : FeatD) (A : Option Addr) (c n1 : Nat) (B : Option Addr) (d n2 : Nat) (id : ByteArray) (K : Int) (w : World) (hr : kPt.C w A n1 (markL 1 n1)) (ht : kTag.C w B n2 (markT (1 + 2 * (n1 : Int)) n2)) (z1 : n1 ≤ 1048576) (z2 : n2 ≤ 1048576) :
    Calls Try.prog 39 #[.agg #[.string id, .int .i64 K, .slice A n1 c, .slice B n2 d], .int .i64 1] w fun e w' => e = .returned (.int .i64 (1 + 2 * (n1 : Int) + 2 * (n2 : Int))) ∧ Below w.heap.size w w' := by
  have t1 : decide (1 + 2 * (n1 : Int) < 0) = false := by simp; omega
  have t2 : decide (1 + 2 * (n1 : Int) + 2 * (n2 : Int) < 0) = false := by simp; omega
  have k0 : 1 ≤ 1 + 2 * (n1 : Int) := by omega
  have k1 : 1 + 2 * (n1 : Int) ≤ 1073741824 := by omega
  have HC : Cells (w.alloc (.cells #[.string id, .int .i64 K, .slice A n1 c, .slice B n2 d] 35)) _ := (Cells.nil w).box4 (Below.refl _ _)
  go_enter Try.func39, Try.ntmps39
  go_wp2_with fail
  refine (heldShape_c K A c n1 1 _ (Kd.C_below hr bl) z1 (by omega) (by omega)).mono ?_
  rintro e w1 ⟨rfl, hb1⟩
  replace HC := HC.to hb1
  obtain ⟨h0, h1, h2, h3, _⟩ := HC.all
  go_wp2_with fail
  refine (heldTagS_c B d n2 _ _ (Kd.C_below ht bl) z2 k0 k1).mono ?_
  rintro e w2 ⟨rfl, hb2⟩
  go_wp2
  go_ret
  exact ⟨rfl, bl⟩
end Go.Proofs.Ytlebgjafaioajaa
