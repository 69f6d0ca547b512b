/- Contracts: the reference's FeatRead. -/
import Derived.Test.YtgdgnlpohnpgiaaGreatDoorRy
import Derived.Test.YtgdgnlpohnpgiaaGreatDoorDx
namespace Go.Proofs.YtgdgnlpohnpgiaaGreatDoor
open Go.RowKit Go.Proofs.YtgdgnlpohnpgiaaGreatDoorW.PrintWords Go.Proofs.YtgdgnlpohnpgiaaGreatDoorW.PrintLast
set_option maxRecDepth 100000
set_option linter.unusedVariables false
set_option linter.unusedSimpArgs false
attribute [local go_sem] cell_set_far cell_set_off
theorem cut_uniq {a r a' r' : List UInt8} (h : a ++ 61 :: r = a' ++ 61 :: r') (ha : (61 : UInt8) ∉ a) (ha' : (61 : UInt8) ∉ a') : a = a' ∧ r = r' := by
  have h1 := cut_word r ha
  rw [h, cut_word r' ha'] at h1
  simp only [Prod.mk.injEq, and_true] at h1
  exact ⟨h1.1.symm, h1.2.symm⟩
/-- Tags of words that all have a mark. -/
def TgS (us : List ByteArray) (m : List Tag) : Prop := TagsR us m ∧ m.map tagW = us.map bts ∧ ∀ t ∈ m, t.1.size ≤ 200 ∧ t.2.size ≤ 200
theorem TgS.nil : TgS [] [] := ⟨TagsR.nil, rfl, fun t ht => by cases ht⟩
theorem TgS.snoc {us : List ByteArray} {m : List Tag} {u x1 x2 : ByteArray} {a r : List UInt8} (h : TgS us m) (e : bts u = a ++ 61 :: r) (ha : (61 : UInt8) ∉ a) (h1 : bts x1 = a) (h2 : bts x2 = r) (hz : u.size ≤ 200) : TgS (us ++ [u]) (m ++ [(x1, x2)]) := by
  refine ⟨h.1.snoc (fun t ht e2 => ?_), ?_, fun t ht => ?_⟩
  · rw [e] at e2
    obtain ⟨c1, c2⟩ := cut_uniq e2 ha (word_61 ht.1)
    exact Prod.ext (bts_inj (h1.trans c1)) (bts_inj (h2.trans c2))
  · rw [List.map_append, List.map_append, h.2.1]
    congr 1
    simp only [List.map_cons, List.map_nil]
    rw [e]
    unfold tagW
    rw [h1, h2]
  · rcases List.mem_append.1 ht with ht | ht
    · exact h.2.2 t ht
    · rw [List.mem_singleton] at ht
      subst ht
      have := congrArg List.length e
      rw [bts_len, ← h1, ← h2, List.length_append, List.length_cons, bts_len, bts_len] at this
      simp only []
      omega
theorem ws_parts {ws : List ByteArray} {k : Nat} (hpos : 0 < ws.length) (h1 : 1 ≤ k) : ws = ws[0] :: ((ws.take k).drop 1 ++ ws.drop k) := by
  cases ws with
  | nil => simp at hpos
  | cons a b =>
    obtain ⟨j, rfl⟩ : ∃ j, k = j + 1 := ⟨k - 1, by omega⟩
    simp
/-- What was read is one's: the text is its. -/
theorem ft_yes {s u : ByteArray} {ws : List ByteArray} {k : Nat} {K : Int} {l : List Pt} {m : List Tag} (hws : ws.map bts = splitL 32 (bts s)) (hpos : 0 < ws.length) (hk : 2 ≤ k) (hkn : k ≤ ws.length) (hu : bts u = joinL 32 (((ws.take k).drop 1).map bts))
    (hsh : ShapeOk K l ∧ u = shText K l) (ht : m.map tagW = (ws.drop k).map bts) (hok : FeatOk (ws[0], (K, l), m)) : s = fullT (ws[0], (K, l), m) := by
  have h32 : ∀ w ∈ ((ws.take k).drop 1).map bts, (32 : UInt8) ∉ w := fun w hw => by
    obtain ⟨v, hv, rfl⟩ := List.mem_map.1 hw
    have : bts v ∈ splitL 32 (bts s) := by rw [← hws]; exact List.mem_map.2 ⟨v, List.mem_of_mem_take (List.mem_of_mem_drop hv), rfl⟩
    exact split_mem _ _ this
  have hne : ((ws.take k).drop 1).map bts ≠ [] := fun e => by
    have := congrArg List.length e
    rw [List.length_map, List.length_drop, List.length_take] at this
    simp only [List.length_nil] at this
    omega
  have h3 : ((ws.take k).drop 1).map bts = bts (kindW K) :: l.map ptW := (shText_words' (by rw [hu, split_join _ hne h32]) hsh.1).1 hsh.2
  rw [full_words hws hok]
  have h4 := congrArg (List.map bts) (ws_parts (k := k) hpos (by omega))
  rw [List.map_cons, List.map_append, h3, ← ht] at h4
  rw [h4]
  rfl
/-- What is one's text gives the shape's text. -/
theorem ft_mid {s u : ByteArray} {ws : List ByteArray} {k : Nat} {f : FeatD} (hws : ws.map bts = splitL 32 (bts s)) (hu : bts u = joinL 32 (((ws.take k).drop 1).map bts)) (hok : FeatOk f) (e : s = fullT f) (hk : k = 2 + f.2.1.2.length) : u = shText f.2.1.1 f.2.1.2 := by
  have e2 := (full_words hws hok).1 e
  subst hk
  apply bts_inj
  rw [hu, mid_words e2, shText_words]
theorem ft_eq {s : ByteArray} {ws : List ByteArray} {k : Nat} {K : Int} {l : List Pt} {m : List Tag} {f : FeatD} (hws : ws.map bts = splitL 32 (bts s)) (hpos : 0 < ws.length) (hok : FeatOk f) (e : s = fullT f) (hk : k = 2 + f.2.1.2.length)
    (h1 : K = f.2.1.1 ∧ l = f.2.1.2) (ht : TagsR (ws.drop k) m) : (ws[0], (K, l), m) = f := by
  have e2 := (full_words hws hok).1 e
  subst hk
  have e3 := ht.eq hok.words (end_words e2)
  have e4 : ws[0] = f.1 := by
    have := at_words e2 hpos
    rw [wordsF_split] at this
    simp only [List.cons_append, List.getElem?_cons_zero, Option.some.injEq] at this
    exact bts_inj this.symm
  obtain ⟨id, ⟨K', l'⟩, m'⟩ := f
  simp only at h1 e3 e4
  rw [e3, e4, h1.1, h1.2]
def s_FeatRead_T16 : Bool × List (List Nat × List Nat) := (true, [([], []), ([0], [0]), ([], []), ([], []), ([2, 3], [2, 3]), ([4], [4]), ([], []), ([5, 6], [5, 6]), ([], []), ([], []), ([8, 9], [8, 9]), ([10], [10]), ([], []), ([12], [12]), ([11, 13], [11, 13]), ([7, 14], [7, 14]), ([15], [15]), ([1, 16], [1, 16]), ([0, 1, 2, 3, 4, 5, 6, 7, 8, 9, 10, 11, 12, 13, 14, 15, 16, 17], []), ([18, 17, 17, 0, 1, 2, 3, 4, 5, 6, 7, 8, 9, 10, 11, 12, 13, 14, 15, 16, 17], [17, 18])])
theorem s_FeatRead_t16 : rtab .any (opsOf Tryz.f14 16) = s_FeatRead_T16 := by kernel_rfl
set_option maxHeartbeats 8000000 in
theorem sFeatRead_c (s : ByteArray) (w : World) (hs : s.size ≤ 1048576) :
    Calls Tryz.prog 14 #[.string s] w (FtOut s w) := by
  have HT0 := B4.new w (.string ⟨#[]⟩) (.int .i64 0) (.slice none 0 0) (.slice none 0 0) 28
  have Ba := below_alloc (Below.refl w.heap.size w) (.cells #[.string ⟨#[]⟩, .int .i64 0, .slice none 0 0, .slice none 0 0] 28)
  by_cases h200 : (s.size : Int) ≤ 200
  · have d0 : decide ((200 : Int) < (s.size : Int)) = false := decide_eq_false (by omega)
    go_enter Tryz.func14, Tryz.ntmps14
    go_wp2_with fail
    refine (l12Cut_c s 32 _ hs).mono ?_
    rintro e w1 ⟨A1, c1, ws, rfl, hws, hC1, hc1, hb1⟩
    have hpos : 0 < ws.length := by
      have := congrArg List.length hws
      rw [List.length_map] at this
      have h2 := List.length_pos_iff.2 (splitL_ne 32 (bts s))
      omega
    have hlen : ws.length ≤ 201 := by
      have h1 := congrArg List.length hws
      rw [List.length_map] at h1
      have h2 := splitL_len 32 (bts s)
      rw [bts_len] at h2
      omega
    have hwz : ∀ u ∈ ws, u.size ≤ 200 := fun u hu => by
      obtain ⟨i, hi, rfl⟩ := List.getElem_of_mem hu
      have := word_size hws hi
      omega
    have HW := Lib.hid hws
    have Hwz := Lib.hid hwz
    have HT1 := HT0.to hb1
    have B1 := Ba.trans (hb1.mono Ba.size)
    clear hws hwz hb1
    go_wp2_with fail
    refine (l2First_c A1 c1 ws 61 _ hC1 (by omega) (fun u hu => by have := Hwz.out u hu; omega)).mono ?_
    rintro e w2 ⟨k, rfl, hF, hb2⟩
    have HF := Lib.hid hF
    have hkn := hF.1
    have HT2 := HT1.to hb2
    have B2_ := B1.trans (hb2.mono B1.size)
    have hC2 := Kd.C_below hC1 hb2
    clear hF hb2 hC1 HT0 HT1 B1
    have hU := Lib.hid (fun (h1 : 1 ≤ k) => Kd.C_mid (lo := 1) (hi := k) hC2 h1 hkn hc1)
    have hcf0 := fun h1 => cut_mid (P := Tryz.prog) 55 9 .i64 .i64 Tryz.underlying55 rfl Kd.string.sz rfl A1 ws.length c1 (1 : Int) (k : Int) (by omega) h1 (by omega) hc1
    obtain ⟨ad, rfl, u0⟩ := at_str hC2 0 hpos
    rw [add_zero'] at u0
    have HC2 := Lib.hid hC2
    clear hC2
    have Hid0 := Lib.hid (show ∃ id, id = ws[0] from ⟨_, rfl⟩)
    obtain ⟨id, hid⟩ := Hid0.out
    rw [← hid] at u0
    have HID := Lib.hid hid
    clear hid Hid0
    have a3 := below_alloc (Below.refl w2.heap.size w2) (.cells #[.string id, .int .i64 0, .slice none 0 0, .slice none 0 0] 28)
    have X3 : B4 (w2.alloc (.cells #[.string id, .int .i64 0, .slice none 0 0, .slice none 0 0] 28)) w2.heap.size 28 (.string id) (.int .i64 0) (.slice none 0 0) (.slice none 0 0) := B4.new w2 _ _ _ _ _
    have HT3 := HT2.to a3
    have B3 := B2_.trans (a3.mono B2_.size)
    have hlt2 : w.heap.size < w2.heap.size := HT2.lt
    have U3 := Lib.hid (fun h1 => Kd.C_below (hU.out h1) a3)
    have Bg := a3
    clear hU HT2 B2_ a3
    go_upto_region 6 with (fail)
    generalize w2.alloc (.cells #[.string id, .int .i64 0, .slice none 0 0, .slice none 0 0] 28) = w3 at *
    have hge0 := Lib.hid (show ∃ g, w2.heap.size = g from ⟨_, rfl⟩)
    obtain ⟨g, hge⟩ := hge0.out
    clear hge0
    rw [hge] at X3 Bg hlt2
    have Hge := Lib.hid hge
    simp only [hge]
    clear hge
    obtain ⟨x0, x1, x2, x3⟩ := HT3.c
    obtain ⟨z0, z1, z2, z3⟩ := HT3.z
    by_cases hk2 : k < 2
    · have d1 : decide ((k : Int) < 2) = true := decide_eq_true (by omega)
      have Hno := Lib.hid (show ∀ f', FeatOk f' → s ≠ fullT f' from fun f' hok e => by
        have := first_k hok ((full_words HW.out hok).1 e) hkn HF.out.2.1 HF.out.2.2
        omega)
      clear hk2 hcf0
      go_wp2
      refine bodyPost_ret (v := .tuple #[.agg #[.string ⟨#[]⟩, .int .i64 0, .slice none 0 0, .slice none 0 0], .bool false]) (by simp [results, Tryz.results14, go_sem, *]) rfl (FtOut.no (by first | exact B3 | exact bl) Hno.out)
    · have d1 : decide ((k : Int) < 2) = false := decide_eq_false (by omega)
      have hul : ((ws.take k).drop 1).length = k - 1 := by rw [List.length_drop, List.length_take]; omega
      have hcf := hcf0 (by omega)
      have hUC := U3.out (by omega)
      have e1 : ((1 : Int)).toNat = 1 := rfl
      have e2 : ((k : Int)).toNat = k := Int.toNat_natCast k
      rw [e1, e2, ← hul] at hcf
      clear e1 e2
      generalize (if c1 = 1 then some ad else (some ad).map (·.add (1 * Kd.string.sz))) = A9 at hcf hUC
      have huz : ∀ u ∈ (ws.take k).drop 1, u.size ≤ 1000 := fun u hu => by have := Hwz.out u (List.mem_of_mem_take (List.mem_of_mem_drop hu)); omega
      have Hul := Lib.hid hul
      have hu201 : ((ws.take k).drop 1).length ≤ 201 := by omega
      have HUS := Lib.hid (show ∃ us, us = (ws.take k).drop 1 from ⟨_, rfl⟩)
      obtain ⟨us, hus⟩ := HUS.out
      rw [← hus] at hcf hUC huz hu201
      have HUs := Lib.hid hus
      clear hus HUS hcf0 hul
      go_wp2_with fail
      refine (l2Join_c A9 _ us _ hUC (by omega) huz).mono ?_
      rintro e w4 ⟨u, rfl, hu, hu2, hb4⟩
      have HU := Lib.hid hu
      clear hu huz
      have X4 := X3.to hb4
      have HT4 := HT3.to hb4
      have B4_ := B3.trans (hb4.mono B3.size)
      have Bg4 := Bg.trans (hb4.mono (Nat.le_of_lt X3.lt))
      clear X3 HT3 B3 Bg U3 hUC hb4 x0 x1 x2 x3 z0 z1 z2 z3 u0
      obtain ⟨x0, x1, x2, x3⟩ := X4.c
      go_wp2_with fail
      refine (sShapeRead_c u _ (by omega)).mono ?_
      rintro e w5 ⟨K, A, c, l, b, rfl, hr5, hb5, hn5, ht5, hf5⟩
      have HO := Lib.hid (And.intro ht5 hf5)
      clear ht5 hf5
      have b56 : Below w5.heap.size w5 (w5.alloc (.cells #[.int .i64 K, .slice A l.length c] 25)) := below_alloc (Below.refl _ _) _
      have hb6 := hb5.trans (b56.mono hb5.size)
      have X6 := X4.to hb6
      have HT6 := HT4.to hb6
      have B6 := B4_.trans (hb6.mono B4_.size)
      have Bg6 := Bg4.trans (hb6.mono (Nat.le_of_lt X4.lt))
      have P6 := Kd.R_below (hr5.up (b := w.heap.size) B4_.size) b56
      have Y6 : B2 (w5.alloc (.cells #[.int .i64 K, .slice A l.length c] 25)) w5.heap.size 25 (.int .i64 K) (.slice A l.length c) := B2.new w5
      clear X4 HT4 B4_ Bg4 hr5 hb5 hb6 b56 x0 x1 x2 x3
      go_upto_region 9 with (fail)
      generalize w5.alloc (.cells #[.int .i64 K, .slice A l.length c] 25) = w6 at *
      generalize w5.heap.size = g5 at *
      obtain ⟨x0, x1, x2, x3⟩ := X6.c
      obtain ⟨v0, v1, v2, v3⟩ := X6.z
      obtain ⟨y0, y1, y2, y3, y4⟩ := Y6.f
      have hneg : (w.heap.size == g) = false := by rw [beq_eq_false_iff_ne]; omega
      have F7 : FR w w2 g id K A c l g none 0 0 [] ((w6.setCell ⟨g, 1, none⟩ (.int .i64 K)).setCell ⟨g, 2, none⟩ (.slice A l.length c)) :=
        ⟨(X6.set1 _).set2 _, (HT6.far hneg).far hneg, Kd.R_set (Kd.R_set P6 X6 (by decide) 1 _) (X6.set1 _) (by decide) 2 _, Kd.R_nil _ _ _ _ _, (B6.setCell (Nat.le_of_lt hlt2) _).setCell (Nat.le_of_lt hlt2) _, (Bg6.setCell (p := ⟨g, 1, none⟩) (Nat.le_refl _) (.int .i64 K)).setCell (p := ⟨g, 2, none⟩) (Nat.le_refl _) (.slice A l.length c), hlt2, Nat.le_refl _⟩
      go_upto_region 10 with (fail)
      generalize (w6.setCell ⟨g, 1, none⟩ (.int .i64 K)).setCell ⟨g, 2, none⟩ (.slice A l.length c) = w7 at *
      clear X6 HT6 B6 Bg6 P6 Y6 x0 x1 x2 x3 v0 v1 v2 v3 y0 y1 y2 y3 y4
      go_wp2
      go_loopw [9] (fun q9 wr => ∃ (i : Nat) (m : List Tag) (B : Option Addr) (d : Nat), k + m.length = i ∧ i ≤ ws.length ∧ q9 = .int .i64 i ∧ Aside0 (FR w w2 g id K A c l g B d m.length m wr) ∧ Aside0 (TgS ((ws.drop k).take m.length) m)) (fun q9 _ => ws.length - (intOf q9).toNat)
      case atStart => exact ⟨k, [], none, 0, rfl, hkn, rfl, ⟨F7⟩, ⟨TgS.nil⟩⟩
      case round =>
        clear F7
        obtain ⟨i, m, B, d, hki, hin, rfl, ⟨F⟩, ⟨hT⟩⟩ := hrel
        have hCr := Kd.C_below HC2.out (by rw [Hge.out]; exact F.belg)
        obtain ⟨t0, t1_, t2_, t3⟩ := F.thing.c
        obtain ⟨x0, x1, x2, x3⟩ := F.res.c
        obtain ⟨z0, z1, z2, z3⟩ := F.res.z
        by_cases hlt : i < ws.length
        · have d2 : decide ((i : Int) < (ws.length : Int)) = true := decide_eq_true (by omega)
          have hw : IntKind.i64.wrap ((i : Int) + 1) = (i : Int) + 1 := IntWalk.i64_in _ (by omega)
          obtain ⟨ad2, e2, ui⟩ := at_str hCr i hlt
          cases e2
          obtain ⟨ad3, e3, ui2⟩ := at_str HC2.out i hlt
          cases e3
          have zi := World.block_lt_of_cell? _ _ ui2
          rw [Hge.out] at zi
          clear ui2
          have hz := Hwz.out _ (List.getElem_mem hlt)
          have hmd : m.length < (ws.drop k).length := by rw [List.length_drop]; omega
          have Htk := Lib.hid (show (ws.drop k).take (m.length + 1) = (ws.drop k).take m.length ++ [ws[i]] by
            rw [List.take_succ_eq_append_getElem hmd, List.getElem_drop]
            simp only [hki])
          have cF := l12Find_c ws[i] 61
          have Hnm := Lib.hid (show (61 : UInt8) ∉ bts ws[i] → ∀ f', FeatOk f' → s ≠ fullT f' from fun hm f' hok e => by
            have e3 := (full_words HW.out hok).1 e
            have hk3 := first_k hok e3 hkn HF.out.2.1 HF.out.2.2
            exact hm (wordsF_in (by omega) (at_words e3 hlt)))
          generalize ws[i] = v at *
          by_cases hm : (61 : UInt8) ∈ bts v
          · obtain ⟨a, r, e, ha⟩ := word_at hm
            rw [show Lib.index (bts v) [61] = (a.length : Nat) by rw [e, index_word r ha]] at cF
            have CF := Lib.hid cF
            have hlen : a.length + 1 + r.length = v.size := by
              rw [← bts_len, e]
              simp
              omega
            have d3 : decide ((a.length : Int) < 0) = false := decide_eq_false (by omega)
            have hw2 : IntKind.i64.wrap ((a.length : Int) + 1) = (a.length : Int) + 1 := IntWalk.i64_in _ (by omega)
            have h5 : 0 ≤ (a.length : Int) + 1 := by omega
            have h6 : ((a.length : Int) + 1).toNat = a.length + 1 := by omega
            have h7 : (a.length : Int) + 1 ≤ (v.size : Int) := by omega
            have h8 : a.length + 1 ≤ v.size := by omega
            have h9 : a.length ≤ v.size := by omega
            have HT2 := Lib.hid (show TgS ((ws.drop k).take (m.length + 1)) (m ++ [(v.extract 0 a.length, v.extract (a.length + 1) v.size)]) by
              rw [Htk.out]
              exact hT.snoc e ha (by rw [bts_ext, List.drop_zero, e]; simp) (by
                rw [bts_ext, List.take_of_length_le (by rw [bts_len]; exact Nat.le_refl _), e]
                simp) hz)
            have Hki := Lib.hid hki
            have Hm := Lib.hid hm
            have ml8 : m.length ≤ 1000 := by omega
            have hz2 : v.size ≤ 140737488351232 := by omega
            clear cF hT e ha Hnm hki hm hlen
            go_wp2_with fail
            refine (CF.out _ hz2).mono ?_
            rintro e w8 ⟨rfl, rfl⟩
            go_upto_region 16 with (fail)
            refine cgStart 20 [0, 1, 2, 3, 4, 5, 6, 7, 8, 9, 10, 11, 12, 13, 14, 15, 16, 17, 18, 19] [19] [(⟨g, 3, none⟩, _), (ad.add i, _)] s_FeatRead_t16 ⟨t3, ui, trivial⟩ (fun HT HD => ?_)
            repeat ((with_reducible refine cgGate ?_); first | refine cgP HT ?_ | refine cgL HT ?_ | refine cgG HT ?_)
            refine cgE (w1 := w8.drew.alloc (.cells #[.string (v.extract 0 a.length), .string (v.extract (a.length + 1) v.size)] 54)) (v := .slice (some ⟨w8.heap.size, 0, none⟩) 1 1) HT (fun HD2 => ?_) (hrun := by first | (go_simp; done) | (go_simp; rfl)) (hS := HD.to bl)
            have b9 : Below w8.heap.size w8 (w8.drew.alloc (.cells #[.string (v.extract 0 a.length), .string (v.extract (a.length + 1) v.size)] 54)) := bl
            have l9 := litT1 w8.drew ((v.extract 0 a.length, v.extract (a.length + 1) v.size) : Tag)
            have F9 := F.to b9
            clear b9
            generalize v.extract 0 a.length = ky at *
            generalize v.extract (a.length + 1) v.size = vl at *
            generalize w8.drew.alloc (.cells #[.string ky, .string vl] 54) = w9 at *
            have Hlen := Lib.hid (show (m ++ [((ky, vl) : Tag)]).length = m.length + 1 by simp)
            refine cgAppG (d := kTag) (w0 := w2) (base := g) 26 54 (.agg #[(.string ByteArray.empty), (.string ByteArray.empty)]) 32 Tryz.underlying26 info_Tag rfl (by decide) (by omega) (fun _ _ h => h) (.tmp 52) (.tmp 67) _ m [((ky, vl) : Tag)] (some ⟨w8.heap.size, 0, none⟩) 1 1 HT HD2 F9.tags l9 F9.belg (Nat.le_of_lt F9.thing.lt) (by omega) (fun x hx e_ => by
              simp only [List.mem_cons, List.mem_nil_iff, or_false] at hx
              rcases hx with rfl | rfl
              · exact Kd.R_ne F9.tags F9.thing (by decide) e_
              · have := Kd.R_base F9.tags _ e_.symm
                simp only [] at this
                omega) ?_
            intro B9 d9 w10 ho9 hb9 HD9 hg9
            rw [Hlen.out] at ho9 ⊢
            refine cgN ?_
            have X9 := F9.grown hg9
            have F10 := F9.put hg9 ho9 hb9
            obtain ⟨y0, y1, y2, y3⟩ := X9.c
            obtain ⟨v0, v1, v2, v3⟩ := X9.z
            repeat ((with_reducible refine cgGate ?_); first | refine cgP HT ?_ | refine cgL HT ?_ | refine cgG HT ?_)
            refine cgLast HT ?_
            refine cgDone HT ?_
            generalize w10.setCell ⟨g, 3, none⟩ (.slice B9 (m.length + 1) d9) = w11 at *
            clear HT HD HD2 HD9 ho9 hb9 X9 F F9 y0 y1 y2 y3 v0 v1 v2 v3
            go_wp2
            exact ⟨⟨i + 1, m ++ [(ky, vl)], B9, d9, by rw [Hlen.out]; have := Hki.out; omega, by omega, by go_num, ⟨by rw [Hlen.out]; exact F10⟩, ⟨by rw [Hlen.out]; exact HT2.out⟩⟩, by simp [intOf]; omega⟩
          · have Hno := Lib.hid (Hnm.out hm)
            rw [index_no hm] at cF
            have CF := Lib.hid cF
            have hz2 : v.size ≤ 140737488351232 := by omega
            have Bw := F.bel
            clear cF hT hm Hnm hki
            go_wp2_with fail
            refine (CF.out _ hz2).mono ?_
            rintro e w8 ⟨rfl, rfl⟩
            go_wp2
            refine bodyPost_ret (v := .tuple #[.agg #[.string ⟨#[]⟩, .int .i64 0, .slice none 0 0, .slice none 0 0], .bool false]) (by simp [results, Tryz.results14, go_sem, *]) rfl (FtOut.no (by first | exact Bw | exact bl) Hno.out)
        · have d2 : decide ((i : Int) < (ws.length : Int)) = false := decide_eq_false (by omega)
          rw [List.take_of_length_le (by rw [List.length_drop]; omega)] at hT
          have HTT := Lib.hid hT
          have hml : m.length ≤ 1048576 := by omega
          have HUU := Lib.hid (show bts u = joinL 32 (((ws.take k).drop 1).map bts) by rw [← HUs.out]; exact HU.out)
          clear hT hki
          cases b with
          | false =>
            have Hno := Lib.hid (show ∀ f', FeatOk f' → s ≠ fullT f' from fun f' hok e => by
              have hk3 := first_k hok ((full_words HW.out hok).1 e) hkn HF.out.2.1 HF.out.2.2
              exact (HO.out.2 rfl).2.2 _ _ hok.2.1 (ft_mid HW.out HUU.out hok e hk3))
            have Bw := F.bel
            go_wp2
            refine bodyPost_ret (v := .tuple #[.agg #[.string ⟨#[]⟩, .int .i64 0, .slice none 0 0, .slice none 0 0], .bool false]) (by simp [results, Tryz.results14, go_sem, *]) rfl (FtOut.no (by first | exact Bw | exact bl) Hno.out)
          | true =>
            have hX : FTx (id, (K, l), m) := ⟨by
              have h1 := Hwz.out _ (List.getElem_mem hpos)
              rw [← HID.out] at h1
              simp only []
              omega, hn5, hml, fun t ht => by have := HTT.out.2.2 t ht; omega⟩
            have HX := Lib.hid hX
            have cO := sFeatOk_c (id, (K, l), m) A c B d wr (Kd.R_reads' F.pts).2.2 (Kd.R_reads' F.tags).2.2 hX
            simp only [featV] at cO
            clear hX
            cases hfo : featOk (id, (K, l), m) with
            | false =>
              rw [hfo] at cO
              have Hno := Lib.hid (show ∀ f', FeatOk f' → s ≠ fullT f' from fun f' hok e => by
                have hk3 := first_k hok ((full_words HW.out hok).1 e) hkn HF.out.2.1 HF.out.2.2
                have h1 := HO.out.1 rfl
                have h2 := shText_inj h1.1 hok.2.1 (h1.2.symm.trans (ft_mid HW.out HUU.out hok e hk3))
                have h3 := ft_eq HW.out hpos hok e hk3 h2 HTT.out.1
                rw [← HID.out] at h3
                rw [h3, featOk_t.2 hok] at hfo
                cases hfo)
              have CO := Lib.hid cO
              have Fx := Lib.hid F
              clear cO hfo F
              go_wp2_with fail
              refine (CO.out).mono ?_
              rintro e w8 ⟨rfl, hb8⟩
              have F8 := Fx.out.to hb8
              clear t0 t1_ t2_ t3 x0 x1 x2 x3 z0 z1 z2 z3
              obtain ⟨x0, x1, x2, x3⟩ := F8.res.c
              obtain ⟨z0, z1, z2, z3⟩ := F8.res.z
              have Bw := F8.bel
              go_wp2
              refine bodyPost_ret (v := .tuple #[.agg #[.string ⟨#[]⟩, .int .i64 0, .slice none 0 0, .slice none 0 0], .bool false]) (by simp [results, Tryz.results14, go_sem, *]) rfl (FtOut.no (by first | exact Bw | exact bl) Hno.out)
            | true =>
              rw [hfo] at cO
              have Hyes := Lib.hid (show FeatOk (id, (K, l), m) ∧ s = fullT (id, (K, l), m) from by
                have h1 := featOk_t.1 hfo
                refine ⟨h1, ?_⟩
                have h2 := ft_yes (K := K) (l := l) (m := m) HW.out hpos (by omega) hkn HUU.out (HO.out.1 rfl) HTT.out.2.1
                rw [← HID.out] at h2
                exact h2 h1)
              have CO := Lib.hid cO
              have Fx := Lib.hid F
              clear cO hfo F
              go_wp2_with fail
              refine (CO.out).mono ?_
              rintro e w8 ⟨rfl, hb8⟩
              have F8 := Fx.out.to hb8
              clear t0 t1_ t2_ t3 x0 x1 x2 x3 z0 z1 z2 z3
              obtain ⟨t0, t1_, t2_, t3⟩ := F8.thing.c
              obtain ⟨x0, x1, x2, x3⟩ := F8.res.c
              obtain ⟨z0, z1, z2, z3⟩ := F8.res.z
              have F8h := Lib.hid F8
              clear F8
              go_wp2
              refine bodyPost_ret (v := .tuple #[.agg #[.string id, .int .i64 K, .slice A l.length c, .slice B m.length d], .bool true]) (by simp [results, Tryz.results14, go_sem, *]) rfl ⟨(id, (K, l), m), A, c, B, d, true, rfl, RI.of (F8h.out.res.R F8h.out.pts (by decide) _ _ _ _), RI.of (F8h.out.res.R (Kd.R_lower F8h.out.tags (Nat.le_of_lt hlt2)) (by decide) _ _ _ _), (((F8h.out.bel.setCell (by simp) _).setCell (by simp) _).setCell (by simp) _).setCell (by simp) _, HX.out, fun _ => Hyes.out, fun h => by cases h⟩
  · have d0 : decide ((200 : Int) < (s.size : Int)) = true := decide_eq_true (by omega)
    have Hno := Lib.hid (show ∀ f', FeatOk f' → s ≠ fullT f' from fun f' hok e => by have := fullT_139 hok; rw [← e] at this; omega)
    go_enter Tryz.func14, Tryz.ntmps14
    obtain ⟨x0, x1, x2, x3⟩ := HT0.c
    obtain ⟨z0, z1, z2, z3⟩ := HT0.z
    go_wp2
    refine bodyPost_ret (v := .tuple #[.agg #[.string ⟨#[]⟩, .int .i64 0, .slice none 0 0, .slice none 0 0], .bool false]) (by simp [results, Tryz.results14, go_sem, *]) rfl (FtOut.no (by first | exact Ba | exact bl) Hno.out)
end Go.Proofs.YtgdgnlpohnpgiaaGreatDoor
