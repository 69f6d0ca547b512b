/- Contracts: the program's FeatRead. -/
import Derived.Test.YtgdgnlpohnpgiaaGreatDoorRi
import Derived.Test.YtgdgnlpohnpgiaaGreatDoorRe
namespace Go.Proofs.YtgdgnlpohnpgiaaGreatDoor
open Go.RowKit Go.Proofs.YtgdgnlpohnpgiaaGreatDoorW.PrintWords Go.Proofs.YtgdgnlpohnpgiaaGreatDoorW.PrintLast
set_option maxRecDepth 100000
set_option linter.unusedVariables false
set_option linter.unusedSimpArgs false
attribute [local go_sem] cell_set_far cell_set_off
theorem FR.mk' {w w2 W : World} {id : ByteArray} {K : Int} {A : Option Addr} {c : Nat} {l : List Pt} {q g : Nat} {B : Option Addr} {d n : Nat} {m : List Tag} {p0 q0 r0 s0 : Value}
    (X : B4 W g 28 p0 q0 r0 s0) (R : B4 W w.heap.size 28 (.string ⟨#[]⟩) (.int .i64 0) (.slice none 0 0) (.slice none 0 0)) (P : kPt.R 84 W w.heap.size (fun _ => True) (.slice A l.length c) l)
    (Tg : kTag.R 54 W q (fun _ => True) (.slice B n d) m) (b1 : Below w.heap.size w W) (b2 : Below q w2 W) (ne : w.heap.size < q) (hq : q ≤ g) :
    FR w w2 q id K A c l g B d n m ((((W.setCell ⟨g, 0, none⟩ (.string id)).setCell ⟨g, 1, none⟩ (.int .i64 K)).setCell ⟨g, 2, none⟩ (.slice A l.length c)).setCell ⟨g, 3, none⟩ (.slice B n d)) := by
  have hne : (w.heap.size == g) = false := by rw [beq_eq_false_iff_ne]; omega
  have hle : w.heap.size ≤ g := by omega
  exact ⟨(((X.set0 _).set1 _).set2 _).set3 _, (((R.far hne).far hne).far hne).far hne, X.R P (by decide) _ _ _ _, X.R Tg (by decide) _ _ _ _, (((b1.setCell hle _).setCell hle _).setCell hle _).setCell hle _, (((b2.setCell hq _).setCell hq _).setCell hq _).setCell hq _, ne, hq⟩
theorem add_lit (b j : Nat) : (⟨b, 0, none⟩ : Addr).add j = ⟨b, j, none⟩ := by simp [Addr.add]; exact fun h => h.symm
/-- Tags of words, cut. -/
def TgI (us : List ByteArray) (m : List Tag) : Prop := TagsR us m ∧ ∀ t ∈ m, t.1.size ≤ 200 ∧ t.2.size ≤ 200
theorem TgI.nil : TgI [] [] := ⟨TagsR.nil, fun t ht => by cases ht⟩
theorem TgI.snoc {us : List ByteArray} {m : List Tag} {u : ByteArray} (h : TgI us m) (hz : u.size ≤ 200) : TgI (us ++ [u]) (m ++ [(cutA u 61, cutB u 61)]) := by
  refine ⟨h.1.snoc (fun t ht e => tagW_cut ht e), fun t ht => ?_⟩
  rcases List.mem_append.1 ht with ht | ht
  · exact h.2 t ht
  · rw [List.mem_singleton] at ht
    subst ht
    have := cut_sz u 61
    simp only []
    omega
/-- Whether the last word has a mark. -/
def EndB (ws : List ByteArray) (k : Nat) (v : Value) : Prop := ∃ b : Bool, v = .bool b ∧ (b = true → 2 < k ∧ ∀ h : k - 1 < ws.length, (61 : UInt8) ∈ bts ws[k - 1]) ∧ (b = false → k = 2 ∨ ((h : k - 1 < ws.length) → (61 : UInt8) ∉ bts ws[k - 1]))
def i_FeatRead_T7 : Bool × List (List Nat × List Nat) := (true, [([], []), ([0], [0]), ([1], [1]), ([], []), ([], []), ([3, 4], [3, 4]), ([5], [5]), ([], []), ([2, 6, 7], [2, 6, 7]), ([], []), ([9, 8, 6, 0, 1, 2, 3, 4, 5, 6, 7, 8, 9], [8, 9])])
theorem i_FeatRead_t7 : rtab .any (opsOf Tryz.f8 7) = i_FeatRead_T7 := by kernel_rfl
set_option maxHeartbeats 16000000 in
theorem iFeatRead_c (s : ByteArray) (w : World) (hs : s.size ≤ 1048576) (T : TiedR w) :
    Calls Tryz.prog 8 #[.string s] w (FtOut s w) := by
  have HT0 := B4.new w (.string ⟨#[]⟩) (.int .i64 0) (.slice none 0 0) (.slice none 0 0) 28
  have Ba := below_alloc (Below.refl w.heap.size w) (.cells #[.string ⟨#[]⟩, .int .i64 0, .slice none 0 0, .slice none 0 0] 28)
  go_enter Tryz.func8, Tryz.ntmps8
  go_wp2_with fail
  refine (Split_c s 32 _ hs (T.to Ba)).mono ?_
  rintro e w1 ⟨b1, ws, rfl, hws, hC1, hb1⟩
  have hlen : ws.length ≤ s.size + 1 := by
    have h1 := congrArg List.length hws
    rw [List.length_map] at h1
    have h2 := splitL_len 32 (bts s)
    rw [bts_len] at h2
    omega
  have hwz : ∀ u ∈ ws, u.size ≤ s.size := fun u hu => by
    obtain ⟨i, hi, rfl⟩ := List.getElem_of_mem hu
    exact word_size hws hi
  have HW := Lib.hid hws
  have Hwz := Lib.hid hwz
  have HT1 := HT0.to hb1
  have B1 := Ba.trans (hb1.mono Ba.size)
  have hlt1 : w.heap.size < w1.heap.size := HT1.lt
  clear hws hwz hb1 HT0 Ba
  obtain ⟨x0, x1, x2, x3⟩ := HT1.c
  obtain ⟨z0, z1, z2, z3⟩ := HT1.z
  by_cases hn2 : ws.length < 2
  · have d1 : decide ((ws.length : Int) < 2) = true := decide_eq_true (by omega)
    have Hno := Lib.hid (show ∀ f', FeatOk f' → s ≠ fullT f' from fun f' hok e => by
      have := words_len ((full_words HW.out hok).1 e)
      have hp : 1 ≤ f'.2.1.2.length := by rcases hok.2.1.2 with h | h | h <;> omega
      omega)
    go_wp2
    refine bodyPost_ret (v := .tuple #[.agg #[.string ⟨#[]⟩, .int .i64 0, .slice none 0 0, .slice none 0 0], .bool false]) (by simp [results, Tryz.results8, go_sem, *]) rfl (FtOut.no (by first | exact B1 | exact bl) Hno.out)
  · have d1 : decide ((ws.length : Int) < 2) = false := decide_eq_false (by omega)
    by_cases h200 : (s.size : Int) ≤ 200
    · have d2 : decide ((200 : Int) < (s.size : Int)) = false := decide_eq_false (by omega)
      have hpos : 0 < ws.length := by omega
      have hl201 : ws.length ≤ 201 := by omega
      have Hwz2 := Lib.hid (show ∀ u ∈ ws, u.size ≤ 200 from fun u hu => by have := Hwz.out u hu; omega)
      clear x0 x1 x2 x3 z0 z1 z2 z3 Hwz
      go_wp2
      go_loopw [5] (fun q5 wr => ∃ k : Nat, 2 ≤ k ∧ k ≤ ws.length ∧ q5 = .int .i64 k ∧ Aside0 (∀ i, k ≤ i → (hi : i < ws.length) → (61 : UInt8) ∈ bts ws[i]) ∧ Aside0 (Below w1.heap.size w1 wr)) (fun q5 _ => (intOf q5).toNat)
      case atStart => exact ⟨ws.length, by omega, by omega, rfl, ⟨fun i hi hi2 => absurd hi2 (by omega)⟩, ⟨Below.refl _ _⟩⟩
      case round =>
        obtain ⟨k, hk2, hkn, rfl, ⟨hm⟩, ⟨hbr⟩⟩ := hrel
        have Hm := Lib.hid hm
        clear hm
        obtain ⟨j, hj⟩ : ∃ j, j + 1 = k := ⟨k - 1, by omega⟩
        have hjl : j < ws.length := by omega
        have hwj : IntKind.i64.wrap ((k : Int) - 1) = (j : Int) := by rw [IntWalk.i64_in _ (by omega)]; omega
        have hCr := Kd.C_below hC1 hbr
        obtain ⟨ad1, e1, uj⟩ := at_str hCr j hjl
        cases e1
        rw [add_lit] at uj
        have HV := Lib.hid (show ∃ v, v = ws[j] from ⟨_, rfl⟩)
        obtain ⟨v, hv⟩ := HV.out
        rw [← hv] at uj
        have Hv := Lib.hid hv
        have hjk : k - 1 = j := by omega
        clear HV hv
        go_upto_region 5 with (fail)
        go_cut [34] (fun q34 wc => Aside0 (EndB ws k q34) ∧ Aside0 (Below w1.heap.size w1 wc))
        case first =>
          by_cases hk : 2 < k
          · have d3 : decide ((2 : Int) < (k : Int)) = true := decide_eq_true (by omega)
            obtain ⟨b, hb⟩ : ∃ b, decide ((61 : UInt8) ∈ bts v) = b := ⟨_, rfl⟩
            have HE := Lib.hid (show EndB ws k (.bool b) from ⟨b, rfl, fun h => ⟨hk, fun h2 => by
              rw [h] at hb
              have := of_decide_eq_true hb
              rw [Hv.out] at this
              simpa only [hjk] using this⟩, fun h => Or.inr (fun h2 => by
              rw [h] at hb
              have := of_decide_eq_false hb
              rw [Hv.out] at this
              simpa only [hjk] using this)⟩)
            have cC := Contains_c v 61
            rw [hb] at cC
            have CC := Lib.hid cC
            clear cC hb hjk hj
            go_wp2_with fail
            refine (CC.out _).mono ?_
            rintro e w8 ⟨rfl, rfl⟩
            go_wp2
            go_meet
            case rel => exact ⟨⟨HE.out⟩, ⟨hbr⟩⟩
          · have d3 : decide ((2 : Int) < (k : Int)) = false := decide_eq_false (by omega)
            have HE := Lib.hid (show EndB ws k (.bool false) from ⟨false, rfl, (fun h => by cases h), fun _ => Or.inl (by omega)⟩)
            clear hjk hj
            go_wp2
            go_meet
            case rel => exact ⟨⟨HE.out⟩, ⟨hbr⟩⟩
        case rest =>
          obtain ⟨⟨b, rfl, hE1, hE2⟩, ⟨hbc⟩⟩ := hcut
          clear uj hCr hbr
          cases b with
          | true =>
            have Hm2 := Lib.hid (show 2 ≤ j ∧ ∀ i, j ≤ i → (hi : i < ws.length) → (61 : UInt8) ∈ bts ws[i] from ⟨by have := (hE1 rfl).1; omega, fun i hi hi2 => by
              rcases Nat.lt_or_ge i k with h | h
              · have h3 := (hE1 rfl).2 (by omega)
                have : i = k - 1 := by omega
                subst this
                exact h3
              · exact Hm.out i h hi2⟩)
            clear hE1 hE2 hjk
            go_wp2
            exact ⟨⟨j, Hm2.out.1, by omega, by go_num, ⟨Hm2.out.2⟩, ⟨hbc⟩⟩, by simp [intOf]; omega⟩
          | false =>
            have HE := Lib.hid (hE2 rfl)
            clear hE1 hE2 hjk hj hwj hjl Hv v j
            generalize wc = wq at *
            have HTq := HT1.to hbc
            have Bwq := B1.trans (hbc.mono B1.size)
            have Tq := T.to Bwq
            have hltq : w.heap.size < wq.heap.size := HTq.lt
            have hszq : w.heap.size ≤ wq.heap.size := Nat.le_of_lt hltq
            have hCq := Kd.C_below hC1 hbc
            clear HT1 B1 hbc hC1 hlt1 T
            have hul : ((ws.take k).drop 1).length = k - 1 := by rw [List.length_drop, List.length_take]; omega
            have hcf := cut_mid (P := Tryz.prog) 55 9 .i64 .i64 Tryz.underlying55 rfl Kd.string.sz rfl (some ⟨b1, 0, none⟩) ws.length ws.length (1 : Int) (k : Int) (by omega) (by omega) (by omega) (Nat.le_refl _)
            have hUC := Kd.C_mid (k := Kd.string) (lo := 1) (hi := k) hCq (by omega) hkn (Nat.le_refl _)
            have e1 : ((1 : Int)).toNat = 1 := rfl
            have e2 : ((k : Int)).toNat = k := Int.toNat_natCast k
            rw [e1, e2, ← hul] at hcf
            clear e1 e2
            generalize (if ws.length = 1 then some (⟨b1, 0, none⟩ : Addr) else (some (⟨b1, 0, none⟩ : Addr)).map (·.add (1 * Kd.string.sz))) = A9 at hcf hUC
            have Huz := Lib.hid (show ∀ u ∈ (ws.take k).drop 1, u.size ≤ 1048576 from fun u hu => by have := Hwz2.out u (List.mem_of_mem_take (List.mem_of_mem_drop hu)); omega)
            have hup : 0 < ((ws.take k).drop 1).length := by omega
            have hud : ((ws.take k).drop 1).length ≤ ws.length - 1 := by omega
            have hun : ((ws.take k).drop 1).length ≤ 1048576 := by omega
            have HUS := Lib.hid (show ∃ us, us = (ws.take k).drop 1 from ⟨_, rfl⟩)
            obtain ⟨us, hus⟩ := HUS.out
            rw [← hus] at hcf hUC Huz hup hud hun
            have HUs := Lib.hid hus
            have HUC := Lib.hid hUC
            clear hus HUS hul hUC
            obtain ⟨ad, ead, u0q⟩ := at_str hCq 0 hpos
            rw [add_zero'] at u0q
            have HCq := Lib.hid hCq
            have Hid0 := Lib.hid (show ∃ id, id = ws[0] from ⟨_, rfl⟩)
            obtain ⟨id, hid⟩ := Hid0.out
            rw [← hid] at u0q
            have HID := Lib.hid hid
            clear hid Hid0 hCq
            obtain rfl : ad = ⟨b1, 0, none⟩ := (Option.some.inj ead).symm
            go_upto_region 7 with (fail)
            go_cut [6] (fun q6 wc => ∃ (g : Nat) (K : Int) (A : Option Addr) (c : Nat) (l : List Pt) (b : Nat), q6 = .pointer (some ⟨g, 0, none⟩) ∧ Aside0 (FR w wq wq.heap.size id K A c l g (some ⟨b, 0, none⟩) 0 0 [] wc) ∧ Aside0 (l.length + 1 = us.length ∧ ∀ K' l', ShapeOk K' l' → us.map bts = bts (kindW K') :: l'.map ptW → K = K' ∧ l = l'))
            case first =>
              refine cgStart 11 [0, 1, 2, 3, 4, 5, 6, 7, 8, 9, 10] [10] [(⟨b1, 0, none⟩, _)] i_FeatRead_t7 ⟨u0q, trivial⟩ (fun HT HDs => ?_)
              have hBs : Below wq.heap.size wq wq.drew := below_drew1 (Below.refl _ _)
              repeat ((with_reducible refine cgGate ?_); first | refine cgP HT ?_ | refine cgL HT ?_ | refine cgG HT ?_)
              refine cgThree [0, 1, 2, 3, 4, 5, 7, 6, 8, 9, 10] [0, 1, 2, 3, 4, 5, 9, 6, 7, 8, 10] HT ?b0_0 ?b0_1 ?b0_2
              case b0_0 =>
                refine cgCall_k Tryz.func34 (shapeRead_c A9 _ us _ (Kd.C_below HUC.out hBs) hud hup hun Huz.out (Tq.to hBs)) ?_
                rintro e wz1 ⟨K, A, c, l, rfl, hr1, hbk1, hll, hin⟩
                have HD1 := HDs.to hbk1
                have HI1 := Lib.hid (And.intro hll hin)
                clear hll hin
                have P1 := hr1.up (b := w.heap.size) (Nat.le_trans hszq hBs.size)
                refine ⟨_, rfl, HD1, cgN ?_⟩
                have hB1 := hBs.trans (hbk1.mono hBs.size)
                refine cgTwo [0, 1, 2, 3, 4, 5, 6, 9, 7, 8, 10] HT ?b2_0 ?b2_1
                case b2_0 =>
                  refine cgE_k (w1 := (wz1.alloc (.cells #[] 54))) (v := .slice (some ⟨wz1.heap.size, 0, none⟩) 0 0) (fun HD3 => ?_) (hrun := by first | (go_simp; done) | (go_simp; rfl)) (hS := HD1.to bl)
                  have bn3 := below_alloc (Below.refl wz1.heap.size wz1) (.cells #[] 54)
                  have hB3 := hB1.trans (bn3.mono hB1.size)
                  have P3_ := Kd.R_below P1 bn3
                  have hO3 : kTag.R 54 (wz1.alloc (.cells #[] 54)) wq.heap.size (fun _ => True) (.slice (some ⟨wz1.heap.size, 0, none⟩) 0 0) [] := litT0 wz1 wq.heap.size hB1.size
                  generalize (wz1.alloc (.cells #[] 54)) = wz3 at *
                  generalize wz1.heap.size = gg3 at *
                  repeat ((with_reducible refine cgGate ?_); first | refine cgP HT ?_ | refine cgL HT ?_ | refine cgG HT ?_)
                  refine cgE (w1 := (wz3.alloc (.cells #[.string ⟨#[]⟩, .int .i64 0, .slice none 0 0, .slice none 0 0] 28))) (v := .pointer (some ⟨wz3.heap.size, 0, none⟩)) HT (fun HD4 => ?_) (hrun := by first | (go_simp; done) | (go_simp; rfl)) (hS := HD3.to bl)
                  have bn4 := below_alloc (Below.refl wz3.heap.size wz3) (.cells #[.string ⟨#[]⟩, .int .i64 0, .slice none 0 0, .slice none 0 0] 28)
                  have hB4 := hB3.trans (bn4.mono hB3.size)
                  have hO4_ := Kd.R_below hO3 bn4
                  have P4_ := Kd.R_below P3_ bn4
                  have fg4 : B4 (wz3.alloc (.cells #[.string ⟨#[]⟩, .int .i64 0, .slice none 0 0, .slice none 0 0] 28)) wz3.heap.size 28 (.string ⟨#[]⟩) (.int .i64 0) (.slice none 0 0) (.slice none 0 0) := B4.new wz3 _ _ _ _ _
                  have hg4 : wq.heap.size ≤ wz3.heap.size := hB3.size
                  generalize (wz3.alloc (.cells #[.string ⟨#[]⟩, .int .i64 0, .slice none 0 0, .slice none 0 0] 28)) = wz4 at *
                  generalize wz3.heap.size = gg4 at *
                  obtain ⟨f0, f1, f2, f3⟩ := fg4.c
                  obtain ⟨f4, f5, f6, f7⟩ := fg4.z
                  have FM := FR.mk' (id := id) (K := K) fg4 (HTq.to hB4) P4_ hO4_ (Bwq.trans (hB4.mono Bwq.size)) hB4 hltq hg4
                  refine cgLast HT ?_
                  refine cgDone HT ?_
                  go_wp2
                  go_meet
                  case rel => exact ⟨_, K, A, c, l, _, rfl, ⟨FM⟩, ⟨HI1.out⟩⟩
                case b2_1 =>
                  refine cgE_k (w1 := (wz1.alloc (.cells #[.string ⟨#[]⟩, .int .i64 0, .slice none 0 0, .slice none 0 0] 28))) (v := .pointer (some ⟨wz1.heap.size, 0, none⟩)) (fun HD5 => ?_) (hrun := by first | (go_simp; done) | (go_simp; rfl)) (hS := HD1.to bl)
                  have bn5 := below_alloc (Below.refl wz1.heap.size wz1) (.cells #[.string ⟨#[]⟩, .int .i64 0, .slice none 0 0, .slice none 0 0] 28)
                  have hB5 := hB1.trans (bn5.mono hB1.size)
                  have P5_ := Kd.R_below P1 bn5
                  have fg5 : B4 (wz1.alloc (.cells #[.string ⟨#[]⟩, .int .i64 0, .slice none 0 0, .slice none 0 0] 28)) wz1.heap.size 28 (.string ⟨#[]⟩) (.int .i64 0) (.slice none 0 0) (.slice none 0 0) := B4.new wz1 _ _ _ _ _
                  have hg5 : wq.heap.size ≤ wz1.heap.size := hB1.size
                  generalize (wz1.alloc (.cells #[.string ⟨#[]⟩, .int .i64 0, .slice none 0 0, .slice none 0 0] 28)) = wz5 at *
                  generalize wz1.heap.size = gg5 at *
                  refine cgE (w1 := (wz5.alloc (.cells #[] 54))) (v := .slice (some ⟨wz5.heap.size, 0, none⟩) 0 0) HT (fun HD6 => ?_) (hrun := by first | (go_simp; done) | (go_simp; rfl)) (hS := HD5.to bl)
                  have bn6 := below_alloc (Below.refl wz5.heap.size wz5) (.cells #[] 54)
                  have hB6 := hB5.trans (bn6.mono hB5.size)
                  have P6_ := Kd.R_below P5_ bn6
                  have fg6 := fg5.to bn6
                  have hO6 : kTag.R 54 (wz5.alloc (.cells #[] 54)) wq.heap.size (fun _ => True) (.slice (some ⟨wz5.heap.size, 0, none⟩) 0 0) [] := litT0 wz5 wq.heap.size hB5.size
                  generalize (wz5.alloc (.cells #[] 54)) = wz6 at *
                  generalize wz5.heap.size = gg6 at *
                  repeat ((with_reducible refine cgGate ?_); first | refine cgP HT ?_ | refine cgL HT ?_ | refine cgG HT ?_)
                  obtain ⟨f0, f1, f2, f3⟩ := fg6.c
                  obtain ⟨f4, f5, f6, f7⟩ := fg6.z
                  have FM := FR.mk' (id := id) (K := K) fg6 (HTq.to hB6) P6_ hO6 (Bwq.trans (hB6.mono Bwq.size)) hB6 hltq hg5
                  refine cgLast HT ?_
                  refine cgDone HT ?_
                  go_wp2
                  go_meet
                  case rel => exact ⟨_, K, A, c, l, _, rfl, ⟨FM⟩, ⟨HI1.out⟩⟩
              case b0_1 =>
                refine cgE_k (w1 := (wq.drew.alloc (.cells #[] 54))) (v := .slice (some ⟨wq.drew.heap.size, 0, none⟩) 0 0) (fun HD7 => ?_) (hrun := by first | (go_simp; done) | (go_simp; rfl)) (hS := HDs.to bl)
                have bn7 := below_alloc (Below.refl wq.drew.heap.size wq.drew) (.cells #[] 54)
                have hB7 := hBs.trans (bn7.mono hBs.size)
                have hO7 : kTag.R 54 (wq.drew.alloc (.cells #[] 54)) wq.heap.size (fun _ => True) (.slice (some ⟨wq.drew.heap.size, 0, none⟩) 0 0) [] := litT0 wq.drew wq.heap.size hBs.size
                generalize (wq.drew.alloc (.cells #[] 54)) = wz7 at *
                generalize wq.drew.heap.size = gg7 at *
                refine cgTwo [0, 1, 2, 3, 4, 5, 7, 9, 6, 8, 10] HT ?b8_0 ?b8_1
                case b8_0 =>
                  refine cgCall_k Tryz.func34 (shapeRead_c A9 _ us _ (Kd.C_below HUC.out hB7) hud hup hun Huz.out (Tq.to hB7)) ?_
                  rintro e wz9 ⟨K, A, c, l, rfl, hr9, hbk9, hll, hin⟩
                  have HD9 := HD7.to hbk9
                  have HI9 := Lib.hid (And.intro hll hin)
                  clear hll hin
                  have P9 := hr9.up (b := w.heap.size) (Nat.le_trans hszq hB7.size)
                  refine ⟨_, rfl, HD9, cgN ?_⟩
                  have hB9 := hB7.trans (hbk9.mono hB7.size)
                  have hO9_ := Kd.R_below hO7 hbk9
                  repeat ((with_reducible refine cgGate ?_); first | refine cgP HT ?_ | refine cgL HT ?_ | refine cgG HT ?_)
                  refine cgE (w1 := (wz9.alloc (.cells #[.string ⟨#[]⟩, .int .i64 0, .slice none 0 0, .slice none 0 0] 28))) (v := .pointer (some ⟨wz9.heap.size, 0, none⟩)) HT (fun HD10 => ?_) (hrun := by first | (go_simp; done) | (go_simp; rfl)) (hS := HD9.to bl)
                  have bn10 := below_alloc (Below.refl wz9.heap.size wz9) (.cells #[.string ⟨#[]⟩, .int .i64 0, .slice none 0 0, .slice none 0 0] 28)
                  have hB10 := hB9.trans (bn10.mono hB9.size)
                  have hO10_ := Kd.R_below hO9_ bn10
                  have P10_ := Kd.R_below P9 bn10
                  have fg10 : B4 (wz9.alloc (.cells #[.string ⟨#[]⟩, .int .i64 0, .slice none 0 0, .slice none 0 0] 28)) wz9.heap.size 28 (.string ⟨#[]⟩) (.int .i64 0) (.slice none 0 0) (.slice none 0 0) := B4.new wz9 _ _ _ _ _
                  have hg10 : wq.heap.size ≤ wz9.heap.size := hB9.size
                  generalize (wz9.alloc (.cells #[.string ⟨#[]⟩, .int .i64 0, .slice none 0 0, .slice none 0 0] 28)) = wz10 at *
                  generalize wz9.heap.size = gg10 at *
                  obtain ⟨f0, f1, f2, f3⟩ := fg10.c
                  obtain ⟨f4, f5, f6, f7⟩ := fg10.z
                  have FM := FR.mk' (id := id) (K := K) fg10 (HTq.to hB10) P10_ hO10_ (Bwq.trans (hB10.mono Bwq.size)) hB10 hltq hg10
                  refine cgLast HT ?_
                  refine cgDone HT ?_
                  go_wp2
                  go_meet
                  case rel => exact ⟨_, K, A, c, l, _, rfl, ⟨FM⟩, ⟨HI9.out⟩⟩
                case b8_1 =>
                  refine cgE_k (w1 := (wz7.alloc (.cells #[.string ⟨#[]⟩, .int .i64 0, .slice none 0 0, .slice none 0 0] 28))) (v := .pointer (some ⟨wz7.heap.size, 0, none⟩)) (fun HD11 => ?_) (hrun := by first | (go_simp; done) | (go_simp; rfl)) (hS := HD7.to bl)
                  have bn11 := below_alloc (Below.refl wz7.heap.size wz7) (.cells #[.string ⟨#[]⟩, .int .i64 0, .slice none 0 0, .slice none 0 0] 28)
                  have hB11 := hB7.trans (bn11.mono hB7.size)
                  have hO11_ := Kd.R_below hO7 bn11
                  have fg11 : B4 (wz7.alloc (.cells #[.string ⟨#[]⟩, .int .i64 0, .slice none 0 0, .slice none 0 0] 28)) wz7.heap.size 28 (.string ⟨#[]⟩) (.int .i64 0) (.slice none 0 0) (.slice none 0 0) := B4.new wz7 _ _ _ _ _
                  have hg11 : wq.heap.size ≤ wz7.heap.size := hB7.size
                  generalize (wz7.alloc (.cells #[.string ⟨#[]⟩, .int .i64 0, .slice none 0 0, .slice none 0 0] 28)) = wz11 at *
                  generalize wz7.heap.size = gg11 at *
                  refine cgCall HT Tryz.func34 (shapeRead_c A9 _ us _ (Kd.C_below HUC.out hB11) hud hup hun Huz.out (Tq.to hB11)) ?_
                  rintro e wz12 ⟨K, A, c, l, rfl, hr12, hbk12, hll, hin⟩
                  have HD12 := HD11.to hbk12
                  have HI12 := Lib.hid (And.intro hll hin)
                  clear hll hin
                  have P12 := hr12.up (b := w.heap.size) (Nat.le_trans hszq hB11.size)
                  refine ⟨_, rfl, HD12, cgN ?_⟩
                  have hB12 := hB11.trans (hbk12.mono hB11.size)
                  have hO12_ := Kd.R_below hO11_ hbk12
                  have fg12 := fg11.to hbk12
                  repeat ((with_reducible refine cgGate ?_); first | refine cgP HT ?_ | refine cgL HT ?_ | refine cgG HT ?_)
                  obtain ⟨f0, f1, f2, f3⟩ := fg12.c
                  obtain ⟨f4, f5, f6, f7⟩ := fg12.z
                  have FM := FR.mk' (id := id) (K := K) fg12 (HTq.to hB12) P12 hO12_ (Bwq.trans (hB12.mono Bwq.size)) hB12 hltq hg11
                  refine cgLast HT ?_
                  refine cgDone HT ?_
                  go_wp2
                  go_meet
                  case rel => exact ⟨_, K, A, c, l, _, rfl, ⟨FM⟩, ⟨HI12.out⟩⟩
              case b0_2 =>
                refine cgE_k (w1 := (wq.drew.alloc (.cells #[.string ⟨#[]⟩, .int .i64 0, .slice none 0 0, .slice none 0 0] 28))) (v := .pointer (some ⟨wq.drew.heap.size, 0, none⟩)) (fun HD13 => ?_) (hrun := by first | (go_simp; done) | (go_simp; rfl)) (hS := HDs.to bl)
                have bn13 := below_alloc (Below.refl wq.drew.heap.size wq.drew) (.cells #[.string ⟨#[]⟩, .int .i64 0, .slice none 0 0, .slice none 0 0] 28)
                have hB13 := hBs.trans (bn13.mono hBs.size)
                have fg13 : B4 (wq.drew.alloc (.cells #[.string ⟨#[]⟩, .int .i64 0, .slice none 0 0, .slice none 0 0] 28)) wq.drew.heap.size 28 (.string ⟨#[]⟩) (.int .i64 0) (.slice none 0 0) (.slice none 0 0) := B4.new wq.drew _ _ _ _ _
                have hg13 : wq.heap.size ≤ wq.drew.heap.size := hBs.size
                generalize (wq.drew.alloc (.cells #[.string ⟨#[]⟩, .int .i64 0, .slice none 0 0, .slice none 0 0] 28)) = wz13 at *
                generalize wq.drew.heap.size = gg13 at *
                refine cgTwo [0, 1, 2, 3, 4, 5, 9, 7, 6, 8, 10] HT ?b14_0 ?b14_1
                case b14_0 =>
                  refine cgCall_k Tryz.func34 (shapeRead_c A9 _ us _ (Kd.C_below HUC.out hB13) hud hup hun Huz.out (Tq.to hB13)) ?_
                  rintro e wz15 ⟨K, A, c, l, rfl, hr15, hbk15, hll, hin⟩
                  have HD15 := HD13.to hbk15
                  have HI15 := Lib.hid (And.intro hll hin)
                  clear hll hin
                  have P15 := hr15.up (b := w.heap.size) (Nat.le_trans hszq hB13.size)
                  refine ⟨_, rfl, HD15, cgN ?_⟩
                  have hB15 := hB13.trans (hbk15.mono hB13.size)
                  have fg15 := fg13.to hbk15
                  refine cgE (w1 := (wz15.alloc (.cells #[] 54))) (v := .slice (some ⟨wz15.heap.size, 0, none⟩) 0 0) HT (fun HD16 => ?_) (hrun := by first | (go_simp; done) | (go_simp; rfl)) (hS := HD15.to bl)
                  have bn16 := below_alloc (Below.refl wz15.heap.size wz15) (.cells #[] 54)
                  have hB16 := hB15.trans (bn16.mono hB15.size)
                  have P16_ := Kd.R_below P15 bn16
                  have fg16 := fg15.to bn16
                  have hO16 : kTag.R 54 (wz15.alloc (.cells #[] 54)) wq.heap.size (fun _ => True) (.slice (some ⟨wz15.heap.size, 0, none⟩) 0 0) [] := litT0 wz15 wq.heap.size hB15.size
                  generalize (wz15.alloc (.cells #[] 54)) = wz16 at *
                  generalize wz15.heap.size = gg16 at *
                  repeat ((with_reducible refine cgGate ?_); first | refine cgP HT ?_ | refine cgL HT ?_ | refine cgG HT ?_)
                  obtain ⟨f0, f1, f2, f3⟩ := fg16.c
                  obtain ⟨f4, f5, f6, f7⟩ := fg16.z
                  have FM := FR.mk' (id := id) (K := K) fg16 (HTq.to hB16) P16_ hO16 (Bwq.trans (hB16.mono Bwq.size)) hB16 hltq hg13
                  refine cgLast HT ?_
                  refine cgDone HT ?_
                  go_wp2
                  go_meet
                  case rel => exact ⟨_, K, A, c, l, _, rfl, ⟨FM⟩, ⟨HI15.out⟩⟩
                case b14_1 =>
                  refine cgE_k (w1 := (wz13.alloc (.cells #[] 54))) (v := .slice (some ⟨wz13.heap.size, 0, none⟩) 0 0) (fun HD17 => ?_) (hrun := by first | (go_simp; done) | (go_simp; rfl)) (hS := HD13.to bl)
                  have bn17 := below_alloc (Below.refl wz13.heap.size wz13) (.cells #[] 54)
                  have hB17 := hB13.trans (bn17.mono hB13.size)
                  have fg17 := fg13.to bn17
                  have hO17 : kTag.R 54 (wz13.alloc (.cells #[] 54)) wq.heap.size (fun _ => True) (.slice (some ⟨wz13.heap.size, 0, none⟩) 0 0) [] := litT0 wz13 wq.heap.size hB13.size
                  generalize (wz13.alloc (.cells #[] 54)) = wz17 at *
                  generalize wz13.heap.size = gg17 at *
                  refine cgCall HT Tryz.func34 (shapeRead_c A9 _ us _ (Kd.C_below HUC.out hB17) hud hup hun Huz.out (Tq.to hB17)) ?_
                  rintro e wz18 ⟨K, A, c, l, rfl, hr18, hbk18, hll, hin⟩
                  have HD18 := HD17.to hbk18
                  have HI18 := Lib.hid (And.intro hll hin)
                  clear hll hin
                  have P18 := hr18.up (b := w.heap.size) (Nat.le_trans hszq hB17.size)
                  refine ⟨_, rfl, HD18, cgN ?_⟩
                  have hB18 := hB17.trans (hbk18.mono hB17.size)
                  have hO18_ := Kd.R_below hO17 hbk18
                  have fg18 := fg17.to hbk18
                  repeat ((with_reducible refine cgGate ?_); first | refine cgP HT ?_ | refine cgL HT ?_ | refine cgG HT ?_)
                  obtain ⟨f0, f1, f2, f3⟩ := fg18.c
                  obtain ⟨f4, f5, f6, f7⟩ := fg18.z
                  have FM := FR.mk' (id := id) (K := K) fg18 (HTq.to hB18) P18 hO18_ (Bwq.trans (hB18.mono Bwq.size)) hB18 hltq hg13
                  refine cgLast HT ?_
                  refine cgDone HT ?_
                  go_wp2
                  go_meet
                  case rel => exact ⟨_, K, A, c, l, _, rfl, ⟨FM⟩, ⟨HI18.out⟩⟩
            case rest =>
              obtain ⟨g, K, A, c, l, b, rfl, ⟨F0⟩, ⟨HLK⟩⟩ := hcut
              have HI := Lib.hid HLK
              clear HLK
              have hD := Kd.C_drop HCq.out hkn (Nat.le_refl _)
              have hcf2 := cut_from (P := Tryz.prog) 55 9 .i64 Tryz.underlying55 rfl Kd.string.sz rfl (some ⟨b1, 0, none⟩) ws.length ws.length (k : Int) (by omega) (by omega)
              have e2 : ((k : Int)).toNat = k := Int.toNat_natCast k
              have hvl : (ws.drop k).length = ws.length - k := List.length_drop
              rw [e2, ← hvl] at hcf2
              clear e2
              generalize (if ws.length = k then some (⟨b1, 0, none⟩ : Addr) else (some (⟨b1, 0, none⟩ : Addr)).map (·.add (k * Kd.string.sz))) = A8 at hcf2 hD
              have hv201 : (ws.drop k).length ≤ 201 := by omega
              have Hvz := Lib.hid (show ∀ u ∈ ws.drop k, u.size ≤ 200 from fun u hu => Hwz2.out u (List.mem_of_mem_drop hu))
              have HVS := Lib.hid (show ∃ vs, vs = ws.drop k from ⟨_, rfl⟩)
              obtain ⟨vs, hvs⟩ := HVS.out
              rw [← hvs] at hcf2 hD Hvz hv201
              have HVs := Lib.hid hvs
              have HD := Lib.hid hD
              clear hvs HVS hvl hD u0q hcf hup hud hun
              go_upto_region 8 with (fail)
              go_wp2
              go_loopw [50] (fun q50 wr => ∃ (i : Nat) (m : List Tag) (B : Option Addr) (d : Nat), m.length = i ∧ i ≤ vs.length ∧ q50 = .int .i64 i ∧ Aside0 (FR w wq wq.heap.size id K A c l g B d m.length m wr) ∧ Aside0 (TgI (vs.take i) m)) (fun q50 _ => vs.length - (intOf q50).toNat)
              case atStart => exact ⟨0, [], _, 0, rfl, by omega, rfl, ⟨F0⟩, ⟨TgI.nil⟩⟩
              case round =>
                clear F0 hcf2
                obtain ⟨i, m, B, d, hmi, hiv, rfl, ⟨F⟩, ⟨hT⟩⟩ := hrel
                obtain ⟨t0, t1_, t2_, t3⟩ := F.thing.c
                by_cases hlt : i < vs.length
                · have d4 : decide ((i : Int) < (vs.length : Int)) = true := decide_eq_true (by omega)
                  have hw : IntKind.i64.wrap ((i : Int) + 1) = (i : Int) + 1 := IntWalk.i64_in _ (by omega)
                  obtain ⟨ad2, e2, ui⟩ := at_str HD.out i hlt
                  subst e2
                  replace ui := pw_cell_below F.belg ui
                  have hz := Hvz.out _ (List.getElem_mem hlt)
                  have Htk := Lib.hid (show vs.take (i + 1) = vs.take i ++ [vs[i]] from List.take_succ_eq_append_getElem hlt)
                  generalize vs[i] = v at *
                  have HT2 := Lib.hid (show TgI (vs.take (i + 1)) (m ++ [(cutA v 61, cutB v 61)]) by rw [Htk.out]; exact hT.snoc hz)
                  have ml : m.length ≤ 1000 := by omega
                  have Hmi := Lib.hid hmi
                  clear hT Htk hmi
                  go_wp2_with fail
                  refine (Cut_c v 61 _ (by omega) (Tq.to F.belg)).mono ?_
                  rintro e w8 ⟨rfl, hb8⟩
                  have F8 := F.to hb8
                  generalize cutA v 61 = ky at *
                  generalize cutB v 61 = vl at *
                  clear t0 t1_ t2_ t3 F hb8 ui
                  obtain ⟨t0, t1_, t2_, t3⟩ := F8.thing.c
                  have Hlen := Lib.hid (show (m ++ [((ky, vl) : Tag)]).length = m.length + 1 by simp)
                  go_wp2_with (at_builtin; refine appOne (d := kTag) (w0 := wq) (base := wq.heap.size) 26 54 z0Tag 32 Tryz.underlying26 info_Tag rfl (by decide) (by omega) (.tmp 61) (.tmp 65) _ m ((ky, vl) : Tag) [.string ky, .string vl] (kTag_mkM _ _ _ ((ky, vl) : Tag)) F8.tags F8.belg (Nat.le_trans F8.hq (Nat.le_of_lt F8.thing.lt)) (by omega) ?_; intro B9 d9 w9 ho9 hb9 hg9; rw [Hlen.out] at ho9 ⊢; have X9 := F8.grown hg9; have F9 := F8.put hg9 ho9 hb9; clear t0 t1_ t2_ t3; obtain ⟨t0, t1_, t2_, t3⟩ := X9.c; obtain ⟨z0, z1, z2, z3⟩ := X9.z)
                  exact ⟨⟨i + 1, m ++ [(ky, vl)], B9, d9, by rw [Hlen.out, Hmi.out], by omega, by go_num, ⟨by rw [Hlen.out]; exact F9⟩, ⟨HT2.out⟩⟩, by simp [intOf]; omega⟩
                · have d4 : decide ((i : Int) < (vs.length : Int)) = false := decide_eq_false (by omega)
                  rw [List.take_of_length_le (by omega)] at hT
                  have HTI := Lib.hid hT
                  have ml : m.length ≤ 1000 := by omega
                  have hll := HI.out.1
                  have hu201 : us.length ≤ 1000 := by rw [HUs.out, List.length_drop, List.length_take]; omega
                  have hX : FTx (id, (K, l), m) := ⟨by
                    have h1 := Hwz2.out _ (List.getElem_mem hpos)
                    rw [← HID.out] at h1
                    simp only []
                    omega, by simp only []; omega, by simp only []; omega, fun t ht => by have := HTI.out.2 t ht; omega⟩
                  have HX := Lib.hid hX
                  have cT := iFeatText_c (id, (K, l), m) A c B d wr (Kd.R_reads' F.pts).2.2 (Kd.R_reads' F.tags).2.2 hX (Tq.to F.belg).td
                  simp only [featV] at cT
                  clear hX hT hmi hll
                  by_cases hq : featT (id, (K, l), m) = s
                  · have t5 := strB_t hq
                    have Hyes := Lib.hid (show FeatOk (id, (K, l), m) ∧ s = fullT (id, (K, l), m) from by
                      by_cases hok : FeatOk (id, (K, l), m)
                      · exact ⟨hok, hq.symm.trans (if_pos hok)⟩
                      · exfalso
                        have h1 : s = ⟨#[]⟩ := hq.symm.trans (if_neg hok)
                        have h2 : s.size = 0 := by rw [h1]; rfl
                        omega)
                    have CT := Lib.hid cT
                    have Fx := Lib.hid F
                    clear cT hq F
                    generalize featT (id, (K, l), m) = st at *
                    go_wp2_with fail
                    refine (CT.out).mono ?_
                    rintro e w8 ⟨rfl, hb8⟩
                    have F8 := Fx.out.to hb8
                    clear t0 t1_ t2_ t3
                    obtain ⟨t0, t1_, t2_, t3⟩ := F8.thing.c
                    obtain ⟨x0, x1, x2, x3⟩ := F8.res.c
                    obtain ⟨z0, z1, z2, z3⟩ := F8.res.z
                    have F8h := Lib.hid F8
                    clear F8
                    go_wp2
                    refine bodyPost_ret (v := .tuple #[.agg #[.string id, .int .i64 K, .slice A l.length c, .slice B m.length d], .bool true]) (by simp [results, Tryz.results8, go_sem, *]) rfl ⟨(id, (K, l), m), A, c, B, d, true, rfl, RI.of (F8h.out.res.R F8h.out.pts (by decide) _ _ _ _), RI.of (F8h.out.res.R (Kd.R_lower F8h.out.tags hszq) (by decide) _ _ _ _), (((F8h.out.bel.setCell (by simp) _).setCell (by simp) _).setCell (by simp) _).setCell (by simp) _, HX.out, fun _ => Hyes.out, fun h => by cases h⟩
                  · have t5 := strB_f hq
                    have Hno := Lib.hid (show ∀ f', FeatOk f' → s ≠ fullT f' from fun f' hok e => by
                      have e3 := (full_words HW.out hok).1 e
                      have hk3 := last_k hok e3 hk2 hkn Hm.out HE.out
                      have h2 := HI.out.2 _ _ hok.2.1 (by rw [HUs.out, hk3]; exact mid_words e3)
                      have h3 := ft_eq HW.out hpos hok e hk3 h2 (by rw [← HVs.out]; exact HTI.out.1)
                      rw [← HID.out] at h3
                      rw [h3] at hq
                      exact hq ((if_pos hok).trans e.symm))
                    have CT := Lib.hid cT
                    have Fx := Lib.hid F
                    clear cT hq F
                    generalize featT (id, (K, l), m) = st at *
                    go_wp2_with fail
                    refine (CT.out).mono ?_
                    rintro e w8 ⟨rfl, hb8⟩
                    have F8 := Fx.out.to hb8
                    clear t0 t1_ t2_ t3
                    obtain ⟨x0, x1, x2, x3⟩ := F8.res.c
                    obtain ⟨z0, z1, z2, z3⟩ := F8.res.z
                    have Bw := F8.bel
                    clear F8
                    go_wp2
                    refine bodyPost_ret (v := .tuple #[.agg #[.string ⟨#[]⟩, .int .i64 0, .slice none 0 0, .slice none 0 0], .bool false]) (by simp [results, Tryz.results8, go_sem, *]) rfl (FtOut.no (by first | exact Bw | exact bl) Hno.out)
    · have d2 : decide ((200 : Int) < (s.size : Int)) = true := decide_eq_true (by omega)
      have Hno := Lib.hid (show ∀ f', FeatOk f' → s ≠ fullT f' from fun f' hok e => by have := fullT_139 hok; rw [← e] at this; omega)
      go_wp2
      refine bodyPost_ret (v := .tuple #[.agg #[.string ⟨#[]⟩, .int .i64 0, .slice none 0 0, .slice none 0 0], .bool false]) (by simp [results, Tryz.results8, go_sem, *]) rfl (FtOut.no (by first | exact B1 | exact bl) Hno.out)
end Go.Proofs.YtgdgnlpohnpgiaaGreatDoor
