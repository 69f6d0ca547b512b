/- Contracts: readers of the reference. -/
import Derived.Test.YtgdgnlpohnpgiaaGreatDoorPw
import Derived.Test.YtgdgnlpohnpgiaaGreatDoorPv
import Derived.Test.YtgdgnlpohnpgiaaGreatDoorFm
import Derived.Test.YtgdgnlpohnpgiaaGreatDoorSd
namespace Go.Proofs.YtgdgnlpohnpgiaaGreatDoor
section
open Go.RowKit Go.Proofs.YtgdgnlpohnpgiaaGreatDoorW.PrintWords Go.Proofs.YtgdgnlpohnpgiaaGreatDoorW.PrintLast
set_option maxRecDepth 100000
set_option linter.unusedVariables false
set_option linter.unusedSimpArgs false
theorem bts_len (s : ByteArray) : (bts s).length = s.size := Array.length_toList
theorem bts_at (s : ByteArray) (k : Nat) (h : k < s.size) : (bts s)[k]'(by rw [bts_len]; exact h) = s[k] := rfl
theorem bts_cut (s : ByteArray) (k : Nat) (h : k < s.size) : bts s = (bts s).take k ++ s[k] :: (bts s).drop (k + 1) := by
  have h2 : k < (bts s).length := by rw [bts_len]; exact h
  conv => lhs; rw [← List.take_append_drop k (bts s), List.drop_eq_getElem_cons h2]
  rfl
theorem find_hit {s : ByteArray} {c : UInt8} {k : Nat} (h : k < s.size) (hc : s[k] = c) (hb : ∀ j, (hj : j < k) → s[j]'(by omega) ≠ c) : Lib.index (bts s) [c] = k := by
  have h2 : c ∉ (bts s).take k := fun hm => by
    obtain ⟨j, hj, e⟩ := List.getElem_of_mem hm
    rw [List.length_take] at hj
    rw [List.getElem_take] at e
    exact hb j (by omega) e
  rw [bts_cut s k h, hc, index_word _ h2, List.length_take, bts_len]
  omega
theorem find_no {s : ByteArray} {c : UInt8} (hb : ∀ j, (hj : j < s.size) → s[j] ≠ c) : Lib.index (bts s) [c] = -1 := index_no fun hm => by
  obtain ⟨j, hj, e⟩ := List.getElem_of_mem hm
  rw [bts_len] at hj
  exact hb j hj e
theorem l12Find_c (s : ByteArray) (c : UInt8) (w : World) (hs : s.size ≤ 140737488351232) :
    Calls Tryz.prog 50 #[.string s, .int .u8 c.toNat] w fun e w' => e = .returned (.int .i64 (Lib.index (bts s) [c])) ∧ w' = w := by
  go_enter Tryz.func50, Tryz.ntmps50
  go_wp2
  go_loop [5] (fun i => ∃ k : Nat, k ≤ s.size ∧ i = .int .i64 k ∧ Aside0 (∀ j, (hj : j < k) → (h : j < s.size) → s[j] ≠ c)) (fun i => s.size - (intOf i).toNat)
  case atStart => exact ⟨0, Nat.zero_le _, rfl, ⟨fun j hj => absurd hj (by omega)⟩⟩
  case round =>
    obtain ⟨k, hk, rfl, ⟨he⟩⟩ := hrel
    by_cases hlt : k < s.size
    · have hw : IntKind.i64.wrap ((k : Int) + 1) = (k : Int) + 1 := IntWalk.i64_in _ (by omega)
      by_cases h1 : s[k] = c
      · have d1 : ((s[k].toNat : Int) == (c.toNat : Int)) = true := by rw [h1]; simp
        have hx := Lib.hid (find_hit hlt h1 (fun j hj => he j hj (by omega)))
        clear he
        go_wp2
        go_ret
        exact ⟨by rw [hx.out]; rfl, rfl⟩
      · have d1 : ((s[k].toNat : Int) == (c.toNat : Int)) = false := by
          rw [beq_eq_false_iff_ne]
          intro e
          exact h1 (UInt8.toNat_inj.1 (by omega))
        have Hs := Lib.hid (show ∀ j, (hj : j < k + 1) → (h : j < s.size) → s[j] ≠ c from fun j hj h => if e : j = k then by subst e; exact h1 else he j (by omega) h)
        clear he
        go_wp2
        exact ⟨⟨k + 1, by omega, by go_num, ⟨Hs.out⟩⟩, by simp [intOf]; omega⟩
    · have hx := Lib.hid (find_no (fun j hj => he j (by omega) hj))
      clear he
      go_wp2
      go_ret
      exact ⟨by rw [hx.out]; rfl, rfl⟩
/-! Numbers. -/
theorem itoa_pos {m : Int} (h : 0 ≤ m) : Lib.itoa m = Lib.decDigits m.toNat := by unfold Lib.itoa; rw [if_neg (by omega)]
theorem itoa_min {m : Int} (h : m < 0) : Lib.itoa m = 45 :: Lib.decDigits m.natAbs := by unfold Lib.itoa; rw [if_pos h]
theorem dd_len {u : Nat} (h : u ≤ 1000000) : (Lib.decDigits u).length ≤ 17 := by
  have key : ∀ n : Nat, ∀ u, u < 10 ^ n → (Lib.decDigits u).length ≤ n + 1 := by
    intro n
    induction n with
    | zero => intro u hu; rw [dd_small (by simpa using Nat.lt_of_lt_of_le hu (by decide))]; simp
    | succ n ih =>
      intro u hu
      by_cases h : u < 10
      · rw [dd_small h]; simp
      · rw [dd_big h, List.length_append, List.length_singleton]
        have := ih (u / 10) (by rw [Nat.pow_succ] at hu; omega)
        omega
  exact Nat.le_trans (key 8 u (by omega)) (by omega)
/-- A number's sign and digits. -/
theorem num_form {l t : List UInt8} {neg : Bool} {m : Int} (e : l = if neg then 45 :: t else t) (hn : neg = false → ∀ c r, t = c :: r → c ≠ 45) (h : l = Lib.itoa m) :
    t = Lib.decDigits m.natAbs ∧ (neg = true → m < 0) ∧ (neg = false → 0 ≤ m) := by
  cases neg with
  | true =>
    simp only [if_true] at e
    by_cases hm : m < 0
    · rw [e, itoa_min hm] at h
      injection h with _ h
      exact ⟨h, (fun _ => hm), (fun h => by cases h)⟩
    · rw [e, itoa_pos (by omega)] at h
      have := digit_bound (u := m.toNat) 45 (by rw [← h]; exact List.mem_cons_self)
      simp at this
  | false =>
    simp only [Bool.false_eq_true, if_false] at e
    by_cases hm : m < 0
    · rw [e, itoa_min hm] at h
      exact absurd rfl (hn rfl _ _ h)
    · rw [e, itoa_pos (by omega)] at h
      exact ⟨by rw [h, show m.toNat = m.natAbs by omega], (fun h => by cases h), (fun _ => by omega)⟩
/-- What a text is as a number: read just if it is one. -/
def NumR (s : ByteArray) (v : Int) (b : Bool) : Prop := (b = true → bts s = Lib.itoa v) ∧ (∀ m, -1000000 ≤ m → m ≤ 1000000 → bts s = Lib.itoa m → b = true)
theorem NumR.no {s : ByteArray} (h : ∀ m, -1000000 ≤ m → m ≤ 1000000 → bts s ≠ Lib.itoa m) : NumR s 0 false := ⟨fun h => (by cases h), fun m h0 h1 e => absurd e (h m h0 h1)⟩
/-- How l12Num ends. -/
def NumOut (s : ByteArray) (w : World) (e : Ending) (w' : World) : Prop := ∃ v b, e = .returned (.tuple #[.int .i64 v, .bool b]) ∧ NumR s v b ∧ w' = w
set_option maxHeartbeats 4000000 in
theorem l12Num_c (s : ByteArray) (w : World) (hs : s.size ≤ 140737488351232) :
    Calls Tryz.prog 90 #[.string s] w (NumOut s w) := by
  go_enter Tryz.func90, Tryz.ntmps90
  go_upto_region 1 with (fail)
  go_cut [4] (fun q4 wc => ∃ (neg : Bool), q4 = .bool neg ∧ w = wc ∧ Aside0 (neg = true → ∃ r, bts s = 45 :: r) ∧ Aside0 (neg = false → ∀ c r, bts s = c :: r → c ≠ 45))
  case first =>
    by_cases h0 : 0 < s.size
    · have d0 : decide ((0 : Int) < (s.size : Int)) = true := decide_eq_true (by omega)
      have hx := Lib.hid (bts_cut s 0 h0)
      by_cases h1 : s[0] = 45
      · have d1 : ((s[0].toNat : Int) == 45) = true := by rw [h1]; rfl
        go_wp2
        go_meet
        case rel => exact ⟨true, rfl, rfl, ⟨fun _ => ⟨_, by have := hx.out; rw [h1] at this; exact this⟩⟩, ⟨fun h => by cases h⟩⟩
      · have d1 : ((s[0].toNat : Int) == 45) = false := by
          rw [beq_eq_false_iff_ne]
          intro e
          exact h1 (UInt8.toNat_inj.1 (by show s[0].toNat = 45; omega))
        go_wp2
        go_meet
        case rel => exact ⟨false, rfl, rfl, ⟨fun h => by cases h⟩, ⟨fun _ c r e hc => h1 (by
          have := hx.out
          rw [e] at this
          injection this with h2 _
          rw [← h2, hc])⟩⟩
    · have d0 : decide ((0 : Int) < (s.size : Int)) = false := decide_eq_false (by omega)
      have hx := Lib.hid (bts_len s)
      go_wp2
      go_meet
      case rel => exact ⟨false, rfl, rfl, ⟨fun h => by cases h⟩, ⟨fun _ c r e => by
        have := hx.out
        rw [e] at this
        simp at this
        omega⟩⟩
  case rest =>
    obtain ⟨neg, rfl, rfl, ⟨hy⟩, ⟨hn⟩⟩ := hcut
    go_upto_if 15 with (fail)
    go_cut [0] (fun q0 wc => ∃ (t : ByteArray), q0 = .string t ∧ w = wc ∧ t.size ≤ s.size ∧ Aside0 (bts s = if neg then 45 :: bts t else bts t) ∧ Aside0 (neg = false → ∀ c r, bts t = c :: r → c ≠ 45))
    case first =>
      cases neg with
      | false =>
        go_wp2
        go_meet
        case rel => exact ⟨s, rfl, rfl, Nat.le_refl _, ⟨rfl⟩, ⟨hn⟩⟩
      | true =>
        obtain ⟨r, hr⟩ := hy rfl
        have hsz : 1 ≤ s.size := by
          have := bts_len s
          rw [hr] at this
          simp at this
          omega
        have hz : (s.extract 1 s.size).size ≤ s.size := by rw [ByteArray.size_extract]; omega
        have hx := Lib.hid (show bts s = 45 :: bts (s.extract 1 s.size) by
          have e2 : bts (s.extract 1 s.size) = (bts s).drop 1 := by
            have h3 : (bts s).length = s.size := bts_len s
            simp only [bts, ByteArray.data_extract, Array.toList_extract, List.extract_eq_take_drop] at h3 ⊢
            rw [List.take_of_length_le (by rw [List.length_drop]; omega)]
          rw [e2, hr]
          rfl)
        clear hr hy hn
        go_wp2
        go_meet
        case rel => exact ⟨s.extract 1 s.size, rfl, rfl, hz, ⟨hx.out⟩, ⟨fun h => by cases h⟩⟩
    case rest =>
      obtain ⟨t, rfl, rfl, htz, ⟨he⟩, ⟨hn2⟩⟩ := hcut
      clear hy hn
      have HF := Lib.hid (fun (m : Int) (h : bts s = Lib.itoa m) => num_form (m := m) he hn2 h)
      have HE := Lib.hid he
      clear he hn2
      go_upto_region 4 with (fail)
      go_cut [38] (fun q wc => ∃ (bad : Bool), q = .bool bad ∧ w = wc ∧ Aside0 (bad = true → NumR s 0 false) ∧ Aside0 (bad = false → ∃ h : 0 < t.size, t.size ≤ 17 ∧ (t[0] ≠ 48 ∨ (t.size = 1 ∧ neg = false))))
      case first =>
        by_cases h0 : 0 < t.size
        · have d0 : ((t.size : Int) == 0) = false := beq_eq_false_iff_ne.mpr (by omega)
          by_cases h17 : t.size ≤ 17
          · have d1 : decide ((17 : Int) < (t.size : Int)) = false := decide_eq_false (by omega)
            have hb0 := Lib.hid (bts_cut t 0 h0)
            by_cases hc : t[0] = 48
            · have d2 : ((t[0].toNat : Int) == 48) = true := by rw [hc]; rfl
              have hno : (1 < t.size ∨ neg = true) → NumR s 0 false := fun hh => NumR.no (fun m h0' h1' e => by
                obtain ⟨f1, f2, f3⟩ := HF.out m e
                have e1 := hb0.out
                rw [f1, hc] at e1
                rcases hh with h | h
                · have hl := congrArg List.length f1
                  rw [bts_len] at hl
                  by_cases hz : m.natAbs = 0
                  · rw [hz, dd_small (by omega)] at hl
                    simp at hl
                    omega
                  · exact dd_head (by omega) _ _ e1 rfl
                · have := f2 h
                  exact dd_head (by omega) _ _ e1 rfl)
              have HN := Lib.hid hno
              clear hno
              by_cases h1s : 1 < t.size
              · have d3 : decide ((1 : Int) < (t.size : Int)) = true := decide_eq_true (by omega)
                go_wp2
                go_meet
                case rel => exact ⟨true, rfl, rfl, ⟨fun _ => HN.out (.inl h1s)⟩, ⟨fun h => by cases h⟩⟩
              · have d3 : decide ((1 : Int) < (t.size : Int)) = false := decide_eq_false (by omega)
                cases neg with
                | true =>
                  go_wp2
                  go_meet
                  case rel => exact ⟨true, rfl, rfl, ⟨fun _ => HN.out (.inr (by trivial))⟩, ⟨fun h => by cases h⟩⟩
                | false =>
                  go_wp2
                  go_meet
                  case rel => exact ⟨false, rfl, rfl, ⟨fun h => by cases h⟩, ⟨fun _ => ⟨h0, h17, .inr ⟨by omega, by trivial⟩⟩⟩⟩
            · have d2 : ((t[0].toNat : Int) == 48) = false := by
                rw [beq_eq_false_iff_ne]
                intro e
                exact hc (UInt8.toNat_inj.1 (by show t[0].toNat = 48; omega))
              go_wp2
              go_meet
              case rel => exact ⟨false, rfl, rfl, ⟨fun h => by cases h⟩, ⟨fun _ => ⟨h0, h17, .inl hc⟩⟩⟩
          · have d1 : decide ((17 : Int) < (t.size : Int)) = true := decide_eq_true (by omega)
            have hno := Lib.hid (NumR.no (s := s) (fun m h0' h1' e => by
              obtain ⟨f1, _, _⟩ := HF.out m e
              have hl := congrArg List.length f1
              rw [bts_len] at hl
              have := dd_len (u := m.natAbs) (by omega)
              omega))
            go_wp2
            go_meet
            case rel => exact ⟨true, rfl, rfl, ⟨fun _ => hno.out⟩, ⟨fun h => by cases h⟩⟩
        · have d0 : ((t.size : Int) == 0) = true := by rw [show t.size = 0 by omega]; rfl
          have hno := Lib.hid (NumR.no (s := s) (fun m h0' h1' e => by
            obtain ⟨f1, _, _⟩ := HF.out m e
            have hl := congrArg List.length f1
            rw [bts_len] at hl
            have := List.length_pos_iff.2 (dec_ne m.natAbs)
            omega))
          go_wp2
          go_meet
          case rel => exact ⟨true, rfl, rfl, ⟨fun _ => hno.out⟩, ⟨fun h => by cases h⟩⟩
      case rest =>
        obtain ⟨bad, rfl, rfl, ⟨g1⟩, ⟨g2⟩⟩ := hcut
        cases bad with
        | true =>
          have hno := Lib.hid (g1 rfl)
          clear g1 g2
          go_wp2
          refine bodyPost_ret (v := .tuple #[.int .i64 0, .bool false]) (by simp [results, Tryz.results90, go_sem, *]) rfl ⟨0, false, rfl, hno.out, rfl⟩
        | false =>
          obtain ⟨h0, h17, hhd⟩ := g2 rfl
          have HH := Lib.hid hhd
          clear g1 g2 hhd
          go_wp2
          go_loopw [5, 6] (fun q5 q6 wr => ∃ (k v : Nat), k ≤ t.size ∧ q6 = .int .i64 k ∧ q5 = .int .i64 v ∧ v < 10 ^ k ∧ w = wr ∧ Aside0 ((bts t).take k = if k = 0 then [] else Lib.decDigits v) ∧ Aside0 (k = 0 → v = 0)) (fun _ q6 _ => t.size - (intOf q6).toNat)
          case atStart => exact ⟨0, 0, by omega, rfl, rfl, by decide, rfl, ⟨rfl⟩, ⟨fun _ => rfl⟩⟩
          case round =>
            obtain ⟨k, v, hk, rfl, rfl, hv, rfl, ⟨hd⟩, ⟨hv0⟩⟩ := hrel
            have hv17 : v < 1000000000000000000 := Nat.lt_of_lt_of_le hv (Nat.le_trans (Nat.pow_le_pow_right (by omega) (show k ≤ 17 by omega)) (by decide))
            by_cases hlt : k < t.size
            · have e1 : decide ((k : Int) < (t.size : Int)) = true := decide_eq_true (by omega)
              have hmem : t[k] ∈ bts t := by
                rw [bts_cut t k hlt]
                simp
              have hno : ¬ (48 ≤ t[k].toNat ∧ t[k].toNat ≤ 57) → NumR s 0 false := fun hh => NumR.no (fun m h0' h1' e => by
                obtain ⟨f1, _, _⟩ := HF.out m e
                rw [f1] at hmem
                exact hh (digit_bound _ hmem))
              have HN := Lib.hid hno
              clear hno
              by_cases g1 : t[k].toNat < 48
              · have d1 : decide ((t[k].toNat : Int) < 48) = true := decide_eq_true (by omega)
                have hno2 := Lib.hid (HN.out (by omega))
                clear hd hmem
                go_wp2
                refine bodyPost_ret (v := .tuple #[.int .i64 0, .bool false]) (by simp [results, Tryz.results90, go_sem, *]) rfl ⟨0, false, rfl, hno2.out, rfl⟩
              · have d1 : decide ((t[k].toNat : Int) < 48) = false := decide_eq_false (by omega)
                by_cases g2 : 57 < t[k].toNat
                · have d2 : decide ((57 : Int) < (t[k].toNat : Int)) = true := decide_eq_true (by omega)
                  have hno2 := Lib.hid (HN.out (by omega))
                  clear hd hmem
                  go_wp2
                  refine bodyPost_ret (v := .tuple #[.int .i64 0, .bool false]) (by simp [results, Tryz.results90, go_sem, *]) rfl ⟨0, false, rfl, hno2.out, rfl⟩
                · have d2 : decide ((57 : Int) < (t[k].toNat : Int)) = false := decide_eq_false (by omega)
                  have hv16 : v < 10000000000000000 := Nat.lt_of_lt_of_le hv (Nat.le_trans (Nat.pow_le_pow_right (by omega) (show k ≤ 16 by omega)) (by decide))
                  have w1 : IntKind.i64.wrap ((v : Int) * 10) = (v : Int) * 10 := IntWalk.i64_in _ (by omega)
                  have w2 : IntKind.u8.wrap ((t[k].toNat : Int) - 48) = (t[k].toNat : Int) - 48 := IntWalk.u8_in _ (by omega)
                  have w3 : IntKind.i64.wrap ((t[k].toNat : Int) - 48) = (t[k].toNat : Int) - 48 := IntWalk.i64_in _ (by omega)
                  have w4 : IntKind.i64.wrap ((v : Int) * 10 + ((t[k].toNat : Int) - 48)) = ((v * 10 + (t[k].toNat - 48) : Nat) : Int) := by rw [IntWalk.i64_in _ (by omega)]; omega
                  have w5 : IntKind.i64.wrap ((k : Int) + 1) = (k : Int) + 1 := IntWalk.i64_in _ (by omega)
                  have w6 : IntKind.u8.wrap (t[k].toNat : Int) = (t[k].toNat : Int) := IntWalk.u8_in _ (by omega)
                  have p1 := Lib.hid (show v * 10 + (t[k].toNat - 48) < 10 ^ (k + 1) by rw [Nat.pow_succ]; omega)
                  have q1 := Lib.hid (show (bts t).take (k + 1) = if k + 1 = 0 then [] else Lib.decDigits (v * 10 + (t[k].toNat - 48)) by
                    have hkb : k < (bts t).length := by rw [bts_len]; exact hlt
                    have ec : UInt8.ofNat (48 + (t[k].toNat - 48)) = t[k] := by
                      apply UInt8.toNat_inj.1
                      simp
                      omega
                    rw [if_neg (by omega), List.take_succ_eq_append_getElem hkb, hd]
                    rcases Nat.eq_zero_or_pos k with hk0 | hk0
                    · subst hk0
                      rw [if_pos rfl, hv0 rfl, dd_small (by omega), List.nil_append]
                      congr 1
                      rw [show 0 * 10 + (t[0].toNat - 48) = t[0].toNat - 48 by omega, ec]
                      rfl
                    · have hv1 : 1 ≤ v := by
                        rcases Nat.eq_zero_or_pos v with h | h
                        · exfalso
                          rw [if_neg (by omega), h, dd_small (by omega)] at hd
                          have h2 := bts_cut t 0 h0
                          rw [h2] at hd
                          have : t[0] = 48 := by
                            rw [show k = (k - 1) + 1 by omega] at hd
                            simp only [List.take_zero, List.nil_append, List.take_succ_cons] at hd
                            exact (List.cons.inj hd).1
                          rcases HH.out with h3 | h3
                          · exact h3 this
                          · omega
                        · exact h
                      rw [if_neg (by omega), dd_step hv1 (by omega), ec]
                      rfl)
                  clear hd hmem hv
                  go_wp2
                  exact ⟨⟨k + 1, v * 10 + (t[k].toNat - 48), by omega, by go_num, by first | rfl | trivial | go_num, p1.out, by first | rfl | trivial, ⟨q1.out⟩, ⟨fun h => by omega⟩⟩, by simp [intOf]; omega⟩
            · have e1 : decide ((k : Int) < (t.size : Int)) = false := decide_eq_false (by omega)
              obtain rfl : k = t.size := by omega
              rw [if_neg (by omega), List.take_of_length_le (by rw [bts_len]; exact Nat.le_refl _)] at hd
              have hv1 : neg = true → 1 ≤ v := fun hn => by
                rcases Nat.eq_zero_or_pos v with h | h
                · exfalso
                  rw [h, dd_small (by omega)] at hd
                  have h2 := bts_cut t 0 h0
                  rw [h2] at hd
                  simp only [List.take_zero, List.nil_append] at hd
                  injection hd with hd _
                  rcases HH.out with h3 | h3
                  · exact h3 hd
                  · rw [h3.2] at hn
                    cases hn
                · exact h
              cases neg with
              | true =>
                have hv2 := hv1 rfl
                have hres := Lib.hid (show NumR s (-(v : Int)) true from ⟨fun _ => by
                  rw [HE.out, if_pos rfl, itoa_min (by omega), hd, show (-(v : Int)).natAbs = v by omega], fun _ _ _ _ => rfl⟩)
                have w1 : IntKind.i64.wrap (-(v : Int)) = -(v : Int) := IntWalk.i64_in _ (by omega)
                clear hd hv1
                go_wp2
                refine bodyPost_ret (v := .tuple #[.int .i64 (-(v : Int)), .bool true]) (by simp [results, Tryz.results90, go_sem, *]) rfl ⟨-(v : Int), true, rfl, hres.out, rfl⟩
              | false =>
                have hres := Lib.hid (show NumR s (v : Int) true from ⟨fun _ => by
                  rw [HE.out, if_neg (by decide), itoa_pos (by omega), hd, Int.toNat_natCast], fun _ _ _ _ => rfl⟩)
                clear hd hv1
                go_wp2
                refine bodyPost_ret (v := .tuple #[.int .i64 (v : Int), .bool true]) (by simp [results, Tryz.results90, go_sem, *]) rfl ⟨(v : Int), true, rfl, hres.out, rfl⟩
end
section
open Go.RowKit Go.Proofs.YtgdgnlpohnpgiaaGreatDoorW.PrintWords Go.Proofs.YtgdgnlpohnpgiaaGreatDoorW.PrintLast
set_option maxRecDepth 100000
set_option linter.unusedVariables false
set_option linter.unusedSimpArgs false
theorem split_snoc_hit {c : UInt8} : ∀ l : List UInt8, splitL c (l ++ [c]) = splitL c l ++ [[]]
  | [] => by simp [splitL]
  | x :: l => by
    have ih := split_snoc_hit (c := c) l
    show splitL c (x :: (l ++ [c])) = _
    by_cases h : x = c
    · subst h
      rw [splitL_hit, splitL_hit, ih]
      rfl
    · cases e : splitL c l with
      | nil => exact absurd e (splitL_ne c l)
      | cons w r =>
        rw [e] at ih
        rw [splitL_step h e, splitL_step h (show splitL c (l ++ [c]) = w :: (r ++ [[]]) from ih)]
        rfl
theorem split_snoc {c x : UInt8} (hx : x ≠ c) : ∀ {l : List UInt8} {ws : List (List UInt8)} {w : List UInt8}, splitL c l = ws ++ [w] → splitL c (l ++ [x]) = ws ++ [w ++ [x]]
  | [], ws, w, h => by
    have h2 : ws = [] ∧ w = [] := by
      cases ws with
      | nil => simp [splitL] at h; exact ⟨rfl, h⟩
      | cons a b => simp [splitL] at h
    obtain ⟨rfl, rfl⟩ := h2
    show splitL c [x] = _
    rw [splitL, if_neg hx]
    rfl
  | y :: l, ws, w, h => by
    show splitL c (y :: (l ++ [x])) = _
    by_cases hy : y = c
    · subst hy
      rw [splitL_hit] at h ⊢
      cases ws with
      | nil =>
        simp only [List.nil_append, List.cons.injEq] at h
        exact absurd h.2 (splitL_ne _ l)
      | cons a b =>
        simp only [List.cons_append, List.cons.injEq] at h
        rw [split_snoc hx h.2, h.1]
        rfl
    · cases e : splitL c l with
      | nil => exact absurd e (splitL_ne c l)
      | cons v r =>
        rw [splitL_step hy e] at h
        cases ws with
        | nil =>
          simp only [List.nil_append, List.cons.injEq] at h
          obtain ⟨h1, rfl⟩ := h
          have ih := split_snoc hx (show splitL c l = [] ++ [v] from e)
          rw [splitL_step hy ih, ← h1]
          rfl
        | cons a b =>
          simp only [List.cons_append, List.cons.injEq] at h
          obtain ⟨h1, h2⟩ := h
          have ih := split_snoc hx (show splitL c l = (v :: b) ++ [w] by rw [e, h2]; rfl)
          rw [splitL_step hy ih, ← h1]
          rfl
theorem bts_ext (s : ByteArray) (f k : Nat) : bts (s.extract f k) = ((bts s).take k).drop f := by
  simp only [bts, ByteArray.data_extract, Array.toList_extract, List.extract_eq_take_drop]
  rw [List.drop_take]
theorem info_str : (Tryz.prog.info? 9).map (fun i => (i.zero, i.size, i.bytes)) = some (some (.string ByteArray.empty), 1, 16) := by kernel_rfl
/-- A text cut into words. -/
def CutOut (s : ByteArray) (c : UInt8) (w : World) (e : Ending) (w' : World) : Prop := ∃ (A : Option Addr) (d : Nat) (ws : List ByteArray), e = .returned (.slice A ws.length d) ∧ ws.map bts = splitL c (bts s) ∧ Kd.string.C w' A ws.length ws ∧ ws.length ≤ d ∧ Below w.heap.size w w'
set_option maxHeartbeats 4000000 in
theorem l12Cut_c (s : ByteArray) (c : UInt8) (w : World) (hs : s.size ≤ 1048576) :
    Calls Tryz.prog 46 #[.string s, .int .u8 c.toNat] w (CutOut s c w) := by
  go_enter Tryz.func46, Tryz.ntmps46
  go_wp2
  go_loopw [5, 6, 7] (fun q5 q6 q7 wr => ∃ (k f : Nat) (ws : List ByteArray) (A : Option Addr) (d : Nat), k ≤ s.size + 1 ∧ f ≤ k ∧ ws.length ≤ k ∧ q7 = .int .i64 k ∧ q6 = .int .i64 f ∧ q5 = .slice A ws.length d ∧ Aside0 (Kd.string.R 9 wr w.heap.size (fun _ => True) (.slice A ws.length d) ws) ∧ Aside0 (Below w.heap.size w wr) ∧ Aside0 (k ≤ s.size → ws.map bts ++ [((bts s).take k).drop f] = splitL c ((bts s).take k)) ∧ Aside0 (s.size < k → ws.map bts = splitL c (bts s))) (fun _ _ q7 _ => s.size + 1 - (intOf q7).toNat)
  case atStart => exact ⟨0, 0, [], _, _, by omega, by omega, by simp, rfl, rfl, rfl, ⟨litK Kd.string _ w w.heap.size (Nat.le_refl _)⟩, ⟨bl⟩, ⟨fun _ => by simp [splitL]⟩, ⟨fun h => by omega⟩⟩
  case round =>
    obtain ⟨k, f, ws, A, d, hk, hfk, hwl, rfl, rfl, rfl, ⟨ho⟩, ⟨hb⟩, ⟨h1⟩, ⟨h2⟩⟩ := hrel
    by_cases hlt : k ≤ s.size
    · have d1 : decide ((k : Int) ≤ (s.size : Int)) = true := decide_eq_true (by omega)
      have hw : IntKind.i64.wrap ((k : Int) + 1) = (k : Int) + 1 := IntWalk.i64_in _ (by omega)
      have hI := h1 hlt
      have hex := bts_ext s f k
      by_cases he : k = s.size
      · have d2 : ((k : Int) == (s.size : Int)) = true := by rw [he]; simp
        have hfin := Lib.hid (show (ws ++ [s.extract f k]).map bts = splitL c (bts s) by
          rw [List.map_append, List.map_singleton, hex, hI, List.take_of_length_le (by rw [bts_len]; omega)])
        have He := Lib.hid he
        clear h1 h2 hI hex he
        go_wp2_with (at_builtin; refine appOne (d := Kd.string) (w0 := w) (base := w.heap.size) 55 9 (.string ByteArray.empty) 16 Tryz.underlying55 info_str rfl (by decide) (by omega) (.tmp 26) (.tmp 31) _ ws (s.extract f k) [.string (s.extract f k)] rfl ho hb hb.size (by omega) ?_; intro A5 d5 w5 ho5 hb5 hg5)
        exact ⟨⟨k + 1, k + 1, ws ++ [s.extract f k], A5, d5, by omega, by omega, by simp; omega, by go_num, by go_num, by simp, ⟨ho5⟩, ⟨hb5⟩, ⟨fun h => by have := He.out; omega⟩, ⟨fun _ => hfin.out⟩⟩, by simp [intOf]; omega⟩
      · have hks : k < s.size := by omega
        have d2 : ((k : Int) == (s.size : Int)) = false := beq_eq_false_iff_ne.mpr (by omega)
        have hkb : k < (bts s).length := by rw [bts_len]; exact hks
        have htk : (bts s).take (k + 1) = (bts s).take k ++ [s[k]] := by rw [List.take_succ_eq_append_getElem hkb]; rfl
        have hlk : ((bts s).take k).length = k := by rw [List.length_take, bts_len]; omega
        by_cases hc : s[k] = c
        · have d3 : ((s[k].toNat : Int) == (c.toNat : Int)) = true := by rw [hc]; simp
          have hfin := Lib.hid (show (ws ++ [s.extract f k]).map bts ++ [((bts s).take (k + 1)).drop (k + 1)] = splitL c ((bts s).take (k + 1)) by
            rw [List.map_append, List.map_singleton, hex, hI, htk, hc, split_snoc_hit, List.drop_of_length_le (by rw [List.length_append, hlk]; simp)])
          clear h1 h2 hI hex htk hlk
          go_wp2_with (at_builtin; refine appOne (d := Kd.string) (w0 := w) (base := w.heap.size) 55 9 (.string ByteArray.empty) 16 Tryz.underlying55 info_str rfl (by decide) (by omega) (.tmp 26) (.tmp 31) _ ws (s.extract f k) [.string (s.extract f k)] rfl ho hb hb.size (by omega) ?_; intro A5 d5 w5 ho5 hb5 hg5)
          exact ⟨⟨k + 1, k + 1, ws ++ [s.extract f k], A5, d5, by omega, by omega, by simp; omega, by go_num, by go_num, by simp, ⟨ho5⟩, ⟨hb5⟩, ⟨fun _ => hfin.out⟩, ⟨fun h => by omega⟩⟩, by simp [intOf]; omega⟩
        · have d3 : ((s[k].toNat : Int) == (c.toNat : Int)) = false := by
            rw [beq_eq_false_iff_ne]
            intro e
            exact hc (UInt8.toNat_inj.1 (by omega))
          have hfin := Lib.hid (show ws.map bts ++ [((bts s).take (k + 1)).drop f] = splitL c ((bts s).take (k + 1)) by
            rw [htk, split_snoc hc hI.symm, List.drop_append_of_le_length (by omega)])
          clear h1 h2 hI hex htk hlk
          go_wp2
          exact ⟨⟨k + 1, f, ws, A, d, by omega, by omega, by omega, by go_num, rfl, rfl, ⟨ho⟩, ⟨hb⟩, ⟨fun _ => hfin.out⟩, ⟨fun h => by omega⟩⟩, by simp [intOf]; omega⟩
    · have d1 : decide ((k : Int) ≤ (s.size : Int)) = false := decide_eq_false (by omega)
      have hfin := Lib.hid (h2 (by omega))
      obtain ⟨q1, q2, q3⟩ := Kd.R_reads' ho
      have HO := Lib.hid q3
      clear h1 h2 q3
      go_wp2
      go_ret
      exact ⟨A, d, ws, rfl, hfin.out, HO.out, q2, hb⟩
/-- A point read: just if it is one's word. -/
def PtOut (s : ByteArray) (w : World) (e : Ending) (w' : World) : Prop := ∃ (x y : Int) (b : Bool), e = .returned (.tuple #[.agg #[.int .i64 x, .int .i64 y], .bool b]) ∧ (b = true → bts s = ptW (x, y)) ∧ (∀ p : Pt, ptOk p = true → bts s = ptW p → b = true) ∧ Below w.heap.size w w'
theorem ptOk_in {p : Pt} (h : ptOk p = true) : (-1000 ≤ p.1 ∧ p.1 ≤ 1000) ∧ (-1000 ≤ p.2 ∧ p.2 ≤ 1000) := by
  unfold ptOk inB at h
  simpa only [Bool.and_eq_true, decide_eq_true_eq] using h
theorem ptW_cut {p : Pt} {l : List UInt8} (h : l = ptW p) {w r : List UInt8} (e : l = w ++ 44 :: r) (hw : (44 : UInt8) ∉ w) : w = Lib.itoa p.1 ∧ r = Lib.itoa p.2 := by
  have h1 : (44 : UInt8) ∉ Lib.itoa p.1 := fun hc => (num_32 hc).2.1 rfl
  have e1 := cut_word r hw
  rw [← e, h] at e1
  unfold ptW at e1
  rw [cut_word _ h1] at e1
  simp only [Prod.mk.injEq, and_true] at e1
  exact ⟨e1.1.symm, e1.2.symm⟩
set_option maxHeartbeats 4000000 in
theorem l1Read_c (s : ByteArray) (w : World) (hs : s.size ≤ 1048576) :
    Calls Tryz.prog 72 #[.string s] w (PtOut s w) := by
  go_enter Tryz.func72, Tryz.ntmps72
  have HX : B2 (w.alloc (.cells #[.int .i64 0, .int .i64 0] 84)) w.heap.size 84 (.int .i64 0) (.int .i64 0) := B2.new w
  obtain ⟨x0, x1, x2, x3, x4⟩ := HX.f
  go_wp2_with fail
  refine (l12Find_c s 44 _ (by omega)).mono ?_
  rintro e w1 ⟨rfl, rfl⟩
  by_cases hm : (44 : UInt8) ∈ bts s
  · obtain ⟨a, r, e, ha⟩ := word_at hm
    have hi : Lib.index (bts s) [44] = (a.length : Nat) := by rw [e, index_word r ha]
    rw [hi]
    have hlen : a.length + 1 + r.length = s.size := by
      rw [← bts_len, e]
      simp
      omega
    have d1 : decide ((a.length : Int) < 0) = false := decide_eq_false (by omega)
    have hw : IntKind.i64.wrap ((a.length : Int) + 1) = (a.length : Int) + 1 := IntWalk.i64_in _ (by omega)
    have b1 := Lib.hid (show bts (s.extract 0 a.length) = a by rw [bts_ext, List.drop_zero, e]; simp)
    have b2 := Lib.hid (show bts (s.extract (a.length + 1) s.size) = r by
      rw [bts_ext, List.take_of_length_le (by rw [bts_len]; exact Nat.le_refl _), e]
      simp)
    have z1 : (s.extract 0 a.length).size ≤ 140737488351232 := by rw [ByteArray.size_extract]; omega
    have z2 : (s.extract (a.length + 1) s.size).size ≤ 140737488351232 := by rw [ByteArray.size_extract]; omega
    have He := Lib.hid e
    have Ha := Lib.hid ha
    clear hm hi e ha
    go_wp2_with fail
    refine (l12Num_c (s.extract 0 a.length) _ z1).mono ?_
    rintro e w2 ⟨x, bx, rfl, hx, rfl⟩
    go_wp2_with fail
    refine (l12Num_c (s.extract (a.length + 1) s.size) _ z2).mono ?_
    rintro e w3 ⟨y, bY, rfl, hy, rfl⟩
    have HR := Lib.hid (And.intro hx hy)
    clear hx hy
    have hto := Lib.hid (show ∀ p : Pt, ptOk p = true → bts s = ptW p → bx = true ∧ bY = true from fun p hp h => by
      obtain ⟨c1, c2⟩ := ptW_cut h He.out Ha.out
      have hb := ptOk_in hp
      exact ⟨HR.out.1.2 p.1 (by omega) (by omega) (by rw [b1.out, c1]), HR.out.2.2 p.2 (by omega) (by omega) (by rw [b2.out, c2])⟩)
    have hof := Lib.hid (show bx = true → bY = true → bts s = ptW (x, y) from fun h1 h2 => by
      have c1 := HR.out.1.1 h1
      have c2 := HR.out.2.1 h2
      rw [b1.out] at c1
      rw [b2.out] at c2
      rw [He.out, c1, c2]
      rfl)
    cases bx with
    | false =>
      go_wp2
      refine bodyPost_ret (v := .tuple #[.agg #[.int .i64 x, .int .i64 y], .bool false]) (by simp [results, Tryz.results72, go_sem, *]) rfl ⟨x, y, false, rfl, (fun h => by cases h), fun p hp h => (hto.out p hp h).1, (bl : Below w.heap.size w (w.alloc _)) |> fun b => by first | exact b | exact (b.setCell (by simp) _).setCell (by simp) _ | exact bl⟩
    | true =>
      go_wp2
      refine bodyPost_ret (v := .tuple #[.agg #[.int .i64 x, .int .i64 y], .bool bY]) (by simp [results, Tryz.results72, go_sem, *]) rfl ⟨x, y, bY, rfl, fun h => hof.out (by trivial) h, fun p hp h => (hto.out p hp h).2, by first | exact bl | exact ((bl : Below w.heap.size w (w.alloc _)).setCell (by simp) _).setCell (by simp) _⟩
  · have hi : Lib.index (bts s) [44] = -1 := index_no hm
    rw [hi]
    have hno := Lib.hid (show ∀ p : Pt, ptOk p = true → bts s = ptW p → false = true from fun p _ h => by
      exfalso
      rw [h] at hm
      exact hm (by unfold ptW; simp))
    clear hm hi
    go_wp2
    refine bodyPost_ret (v := .tuple #[.agg #[.int .i64 0, .int .i64 0], .bool false]) (by simp [results, Tryz.results72, go_sem, *]) rfl ⟨0, 0, false, rfl, (fun h => by cases h), hno.out, bl⟩
end
section
open Go.RowKit Go.Proofs.YtgdgnlpohnpgiaaGreatDoorW.PrintWords Go.Proofs.YtgdgnlpohnpgiaaGreatDoorW.PrintLast
set_option maxRecDepth 100000
set_option linter.unusedVariables false
set_option linter.unusedSimpArgs false
attribute [local go_sem] cell_set_far cell_set_off
theorem dd_le : ∀ (n u : Nat), u < 10 ^ (n + 1) → (Lib.decDigits u).length ≤ n + 1
  | 0, u, h => by rw [dd_small (by simpa using h)]; simp
  | n + 1, u, h => by
    by_cases hu : u < 10
    · rw [dd_small hu]; simp
    · rw [dd_big hu, List.length_append, List.length_singleton]
      have := dd_le n (u / 10) (by rw [Nat.pow_succ] at h; omega)
      omega
theorem itoa_5 {n : Int} (h0 : -1000 ≤ n) (h1 : n ≤ 1000) : (Lib.itoa n).length ≤ 5 := by
  unfold Lib.itoa
  split
  · have := dd_le 3 n.natAbs (by omega)
    rw [List.length_cons]
    omega
  · have := dd_le 3 n.toNat (by omega)
    omega
theorem ptText_12 {p : Pt} (h : ptOk p = true) : (ptText p).size ≤ 12 := by
  have hb := ptOk_in h
  have h1 := itoa_5 hb.1.1 hb.1.2
  have h2 := itoa_5 hb.2.1 hb.2.2
  rw [← bts_len, ptText_w]
  unfold ptW
  simp only [List.length_cons, List.length_append]
  omega
theorem shText_76 {K : Int} {l : List Pt} (h : ShapeOk K l) : (shText K l).size ≤ 76 := by
  have key : ∀ (l : List Pt) (o : ByteArray), (∀ p ∈ l, ptOk p = true) → (l.foldl (fun o p => o ++ ptText p) o).size ≤ o.size + 12 * l.length := by
    intro l
    induction l with
    | nil => intro o _; simp
    | cons p l ih =>
      intro o h
      have h1 := ih (o ++ ptText p) (fun q hq => h q (List.mem_cons_of_mem _ hq))
      have h2 := ptText_12 (h p List.mem_cons_self)
      rw [ByteArray.size_append] at h1
      simp only [List.foldl_cons, List.length_cons]
      omega
  have h1 := key l (kindW K) h.1.all
  have h2 := kindW_size K
  have h3 := h.le
  unfold shText
  omega
theorem shText_words' {s : ByteArray} {ws : List ByteArray} (h : ws.map bts = splitL 32 (bts s)) {K : Int} {l : List Pt} (hok : ShapeOk K l) : s = shText K l ↔ ws.map bts = bts (kindW K) :: l.map ptW := by
  have key : ∀ w ∈ bts (kindW K) :: l.map ptW, (32 : UInt8) ∉ w := fun w hw => by
    rcases List.mem_cons.1 hw with rfl | hw
    · exact (kindW_32 hok.kind).1
    · obtain ⟨p, _, rfl⟩ := List.mem_map.1 hw
      exact fun hc => (ptW_no hc).1 rfl
  constructor
  · intro e
    rw [h, e, shText_words, split_join _ (by simp) key]
  · intro e
    apply bts_inj
    rw [shText_words, ← e, h, join_split]
/-- The kind of a word, of the first j kinds. -/
def kdU (u : ByteArray) : Nat → Int
  | 0 => 0
  | j + 1 => if kindW ((j : Int) + 1) = u then (j : Int) + 1 else kdU u j
theorem kdU_3 (u : ByteArray) : (kdU u 3 = 0 ∨ kdU u 3 = 1 ∨ kdU u 3 = 2 ∨ kdU u 3 = 3) ∧ (kdU u 3 ≠ 0 → u = kindW (kdU u 3)) ∧ (∀ K : Int, (K = 1 ∨ K = 2 ∨ K = 3) → bts u = bts (kindW K) → kdU u 3 = K) := by
  have hall : ∀ K : Int, (K = 1 ∨ K = 2 ∨ K = 3) → u = kindW K → kdU u 3 = K := by
    rintro K (rfl | rfl | rfl) rfl <;> decide
  refine ⟨?_, ?_, fun K hK e => hall K hK (bts_inj e)⟩
  · simp only [kdU]
    repeat' split
    all_goals simp
  · intro h
    simp only [kdU] at h ⊢
    split
    · rename_i e; exact e.symm
    · split
      · rename_i e; exact e.symm
      · split
        · rename_i e; exact e.symm
        · rename_i e1 e2 e3
          rw [if_neg e1, if_neg e2, if_neg e3] at h
          exact absurd rfl h
theorem splitL_len (c : UInt8) : ∀ s : List UInt8, (splitL c s).length ≤ s.length + 1
  | [] => by simp [splitL]
  | x :: s => by
    have ih := splitL_len c s
    rw [splitL]
    split
    · simp only [List.length_cons]; omega
    · split
      · simp
      · rename_i e
        rw [e] at ih
        simp only [List.length_cons] at ih ⊢
        omega
theorem at_str {w : World} {A : Option Addr} {n : Nat} {l : List ByteArray} (h : Kd.string.C w A n l) (q : Nat) (hq : q < l.length) : ∃ ad, A = some ad ∧ w.cell? (ad.add q) = some (.string l[q]) := by
  obtain ⟨ad, c, e, hlc, hK, hc⟩ := Kd.C_get h ByteArray.empty (q : Int) (by omega) (by have := h.1; omega)
  have hg : l.getD q ByteArray.empty = l[q] := by rw [List.getD_eq_getElem?_getD, List.getElem?_eq_getElem hq]; rfl
  simp only [Int.toNat_natCast] at hK hc
  rw [hg] at hK
  obtain rfl : c = [.string l[q]] := hK
  refine ⟨ad, e, ?_⟩
  have := hc 0 (.string l[q]) rfl
  simpa [Kd.string, Kd.scalar] using this
theorem splitL_le {c : UInt8} : ∀ (s : List UInt8), ∀ w ∈ splitL c s, w.length ≤ s.length
  | [], w, h => by simp [splitL] at h; subst h; simp
  | x :: s, w, h => by
    have ih := splitL_le (c := c) s
    rw [splitL] at h
    split at h
    · rcases List.mem_cons.1 h with rfl | h
      · simp
      · have := ih w h; simp only [List.length_cons]; omega
    · split at h
      · simp at h; subst h; simp
      · rename_i v r h1
        rw [h1] at ih
        rcases List.mem_cons.1 h with rfl | h
        · have := ih v List.mem_cons_self; simp only [List.length_cons]; omega
        · have := ih w (List.mem_cons_of_mem _ h); simp only [List.length_cons]; omega
theorem word_size {s : ByteArray} {c : UInt8} {ws : List ByteArray} (h : ws.map bts = splitL c (bts s)) {i : Nat} (hi : i < ws.length) : ws[i].size ≤ s.size := by
  have h1 : bts ws[i] ∈ splitL c (bts s) := by rw [← h]; exact List.mem_map.2 ⟨_, List.getElem_mem hi, rfl⟩
  have := splitL_le _ _ h1
  rwa [bts_len, bts_len] at this
/-- A shape read of a text: just if it is one's. -/
def ShOut (s : ByteArray) (w : World) (e : Ending) (w' : World) : Prop := ∃ (K : Int) (A : Option Addr) (c : Nat) (l : List Pt) (b : Bool), e = .returned (.tuple #[.agg #[.int .i64 K, .slice A l.length c], .bool b]) ∧ RI kPt 84 w' w.heap.size w'.heap.size (.slice A l.length c) l ∧ Below w.heap.size w w' ∧ l.length ≤ 1048576 ∧ (b = true → ShapeOk K l ∧ s = shText K l) ∧ (b = false → K = 0 ∧ l = [] ∧ ∀ K' l', ShapeOk K' l' → s ≠ shText K' l')
theorem ShOut.no {s : ByteArray} {w w' : World} (hb : Below w.heap.size w w') (h : ∀ K' l', ShapeOk K' l' → s ≠ shText K' l') : ShOut s w (.returned (.tuple #[.agg #[.int .i64 0, .slice none 0 0], .bool false])) w' :=
  ⟨0, none, 0, [], false, rfl, RI.of (Kd.R_nil _ _ _ _ _) |>.wide (Nat.le_refl _) (Nat.le_refl _), hb, by simp, (fun h => by cases h), fun _ => ⟨rfl, rfl, h⟩⟩
def s_ShapeRead_T8 : Bool × List (List Nat × List Nat) := (true, [([], []), ([0], [0]), ([], []), ([2], [2]), ([3], [3]), ([1, 4], [1, 4])])
theorem s_ShapeRead_t8 : rtab .any (opsOf Tryz.f48 8) = s_ShapeRead_T8 := by kernel_rfl
set_option maxHeartbeats 8000000 in
theorem sShapeRead_c (s : ByteArray) (w : World) (hs : s.size ≤ 1048576) :
    Calls Tryz.prog 48 #[.string s] w (ShOut s w) := by
  by_cases h100 : (s.size : Int) ≤ 100
  · have d0 : decide ((100 : Int) < (s.size : Int)) = false := decide_eq_false (by omega)
    go_enter Tryz.func48, Tryz.ntmps48
    go_wp2_with fail
    refine (l12Cut_c s 32 _ hs).mono ?_
    rintro e w1 ⟨A1, c1, ws, rfl, hws, hC1, hc1, hb1⟩
    have T1 := B2.new' (W := w1) w w.heap.size (.int .i64 0) (.slice none 0 0) 25
    have B1 : Below w.heap.size w w1 := bl
    have X1 := B2.new (u := .int .i64 0) (v := .slice none 0 0) (t := 25) w1
    have a1 := below_alloc (Below.refl w1.heap.size w1) (.cells #[.int .i64 0, .slice none 0 0] 25)
    have hpos : 0 < ws.length := by
      have := congrArg List.length hws
      rw [List.length_map] at this
      have h2 := List.length_pos_iff.2 (splitL_ne 32 (bts s))
      omega
    have hlen : ws.length ≤ s.size + 1 := by
      have h1 := congrArg List.length hws
      rw [List.length_map] at h1
      have h2 := splitL_len 32 (bts s)
      rw [bts_len] at h2
      omega
    clear hb1
    go_upto_region 5 with (fail)
    have T1a := T1.to a1
    have B2w := B1.trans (a1.mono B1.size)
    have hlt12 := T1.f.2.2.2.2
    have HB1 := Lib.hid B1
    have HC1 := Lib.hid hC1
    clear T1 B1 hC1 B2w
    generalize w1.alloc (.cells #[.int .i64 0, .slice none 0 0] 25) = w2 at *
    obtain ⟨ad, rfl, u0⟩ := at_str HC1.out 0 hpos
    rw [add_zero'] at u0
    have HW := Lib.hid hws
    have hne : (w.heap.size == w1.heap.size) = false := by simp; omega
    clear hws
    go_wp2
    go_loopw [6] (fun q6 wr => ∃ (j : Nat), j ≤ 3 ∧ q6 = .int .i64 ((j : Int) + 1) ∧ Aside0 (B2 wr w1.heap.size 25 (.int .i64 (kdU ws[0] j)) (.slice none 0 0)) ∧ Aside0 (B2 wr w.heap.size 25 (.int .i64 0) (.slice none 0 0)) ∧ Aside0 (Below w1.heap.size w1 wr)) (fun q6 _ => (4 - intOf q6).toNat)
    case atStart => exact ⟨0, by omega, rfl, ⟨X1⟩, ⟨T1a⟩, ⟨a1⟩⟩
    case round =>
      clear X1 T1a a1
      obtain ⟨j, hj, rfl, ⟨HX⟩, ⟨HT_⟩, ⟨hbr⟩⟩ := hrel
      by_cases hj3 : j < 3
      · have d1 : decide ((j : Int) + 1 ≤ 3) = true := decide_eq_true (by omega)
        have hw : IntKind.i64.wrap ((j : Int) + 1 + 1) = ((j + 1 : Nat) : Int) + 1 := by rw [IntWalk.i64_in _ (by omega)]; omega
        have u1 := pw_cell_below hbr u0
        have cW := l1Word_c ((j : Int) + 1)
        have CW := Lib.hid cW
        clear cW
        have hbz := hbr.size
        by_cases hk : kindW ((j : Int) + 1) = ws[0]
        · have t1 := strB_t hk
          have Hk := Lib.hid (show kdU ws[0] (j + 1) = (j : Int) + 1 from if_pos hk)
          clear hk
          generalize kindW ((j : Int) + 1) = kw at *
          go_wp2
          refine rgStart 6 [0, 2, 3, 4, 1, 5] s_ShapeRead_t8 (fun HT HS => ?_)
          repeat ((with_reducible refine rgGate ?_); first | refine rgP HT ?_ | refine rgL HT ?_ | refine rgG HT ?_)
          refine rgCall HT Tryz.func66 (CW.out _ (by omega)) ?_
          rintro e q1 ⟨rfl, hq1⟩
          refine ⟨_, rfl, bl, rgN ?_⟩
          repeat ((with_reducible refine rgGate ?_); first | refine rgP HT ?_ | refine rgL HT ?_ | refine rgG HT ?_)
          refine rgDone HT ?_
          clear HT HS
          have bq : Below wr.heap.size wr q1 := bl
          have HX1 := HX.to bq
          have HT1 := HT_.to bq
          have B1q := hbr.trans (bq.mono hbz)
          obtain ⟨y0, y1, y2, y3, y4⟩ := HX1.f
          clear hbr bq hq1 HX HT_ u1
          go_wp2
          exact ⟨⟨j + 1, by omega, by go_num, ⟨by rw [Hk.out]; exact HX1.set0 _⟩, ⟨HT1.far hne⟩, ⟨B1q.setCell (Nat.le_refl _) _⟩⟩, by simp [intOf]; omega⟩
        · have t1 := strB_f hk
          have Hk := Lib.hid (show kdU ws[0] (j + 1) = kdU ws[0] j from if_neg hk)
          clear hk
          generalize kindW ((j : Int) + 1) = kw at *
          go_wp2
          refine rgStart 6 [0, 2, 3, 4, 1, 5] s_ShapeRead_t8 (fun HT HS => ?_)
          repeat ((with_reducible refine rgGate ?_); first | refine rgP HT ?_ | refine rgL HT ?_ | refine rgG HT ?_)
          refine rgCall HT Tryz.func66 (CW.out _ (by omega)) ?_
          rintro e q1 ⟨rfl, hq1⟩
          refine ⟨_, rfl, bl, rgN ?_⟩
          repeat ((with_reducible refine rgGate ?_); first | refine rgP HT ?_ | refine rgL HT ?_ | refine rgG HT ?_)
          refine rgDone HT ?_
          clear HT HS
          have bq : Below wr.heap.size wr q1 := bl
          have HX1 := HX.to bq
          have HT1 := HT_.to bq
          have B1q := hbr.trans (bq.mono hbz)
          clear hbr bq hq1 HX HT_ u1
          go_wp2
          exact ⟨⟨j + 1, by omega, by go_num, ⟨by rw [Hk.out]; exact HX1⟩, ⟨HT1⟩, ⟨B1q⟩⟩, by simp [intOf]; omega⟩
      · have d1 : decide ((j : Int) + 1 ≤ 3) = false := decide_eq_false (by omega)
        have ej : j = 3 := by omega
        rw [ej] at HX
        have Ej := Lib.hid ej
        clear ej
        obtain ⟨k1, k2, k3⟩ := kdU_3 ws[0]
        have HK := Lib.hid (And.intro k1 (And.intro k2 k3))
        clear k1 k2 k3
        have hws0 := Lib.hid (show ws.map bts = bts ws[0] :: (ws.map bts).drop 1 by
          cases ws with
          | nil => simp at hpos
          | cons a b => rfl)
        generalize kdU ws[0] 3 = K at *
        have HBR := Lib.hid hbr
        clear u0 hbr
        generalize wr = w3 at *
        go_wp2
        go_loopw [7] (fun q7 wr => ∃ (i : Nat) (l : List Pt) (A : Option Addr) (c : Nat), l.length + 1 = i ∧ i ≤ ws.length ∧ q7 = .int .i64 i ∧ Aside0 (B2 wr w1.heap.size 25 (.int .i64 K) (.slice A l.length c)) ∧ Aside0 (B2 wr w.heap.size 25 (.int .i64 0) (.slice none 0 0)) ∧ Aside0 (kPt.R 84 wr w1.heap.size (fun _ => True) (.slice A l.length c) l) ∧ Aside0 (Below w1.heap.size w1 wr) ∧ Aside0 (l.map ptW = ((ws.map bts).take i).drop 1)) (fun q7 _ => ws.length - (intOf q7).toNat)
        case atStart => exact ⟨1, [], none, 0, rfl, by omega, rfl, ⟨HX⟩, ⟨HT_⟩, ⟨Kd.R_nil _ _ _ _ _⟩, ⟨HBR.out⟩, ⟨by rw [List.drop_of_length_le (by rw [List.length_take]; omega)]; rfl⟩⟩
        case round =>
          clear HX HT_
          obtain ⟨i, l, A, c, hli, hiw, rfl, ⟨HX⟩, ⟨HT_⟩, ⟨hR⟩, ⟨hbr⟩, ⟨hm⟩⟩ := hrel
          have hbz := hbr.size
          obtain ⟨y0, y1, y2, y3, y4⟩ := HX.f
          obtain ⟨x0, x1, x2, x3, x4⟩ := HT_.f
          have Bw := Lib.hid (show Below w.heap.size w wr from HB1.out.trans (hbr.mono (Nat.le_of_lt hlt12)))
          by_cases hlt : i < ws.length
          · have d1 : decide ((i : Int) < (ws.length : Int)) = true := decide_eq_true (by omega)
            have hw : IntKind.i64.wrap ((i : Int) + 1) = (i : Int) + 1 := IntWalk.i64_in _ (by omega)
            obtain ⟨ad2, e2, ui⟩ := at_str HC1.out i hlt
            cases e2
            replace ui := pw_cell_below hbr ui
            have hz := word_size HW.out hlt
            go_wp2_with fail
            refine (l1Read_c ws[i] _ (by omega)).mono ?_
            rintro e w5 ⟨x, y, b, rfl, g1, g2, hb5⟩
            have HX5 := HX.to hb5
            have HT5 := HT_.to hb5
            have hR5 := Kd.R_below hR hb5
            have B15 := hbr.trans (hb5.mono hbz)
            have Bw5 := Lib.hid (Bw.out.trans (hb5.mono Bw.out.size))
            clear y0 y1 y2 y3 y4 x0 x1 x2 x3 x4 ui HX HT_ hR hbr hbz
            obtain ⟨y0, y1, y2, y3, y4⟩ := HX5.f
            obtain ⟨x0, x1, x2, x3, x4⟩ := HT5.f
            cases b with
            | false =>
              have hno := Lib.hid (show ∀ K' l', ShapeOk K' l' → s ≠ shText K' l' from fun K' l' hok e => by
                have hw2 := (shText_words' HW.out hok).1 e
                have h1 : (ws.map bts)[l.length + 1]? = some (bts ws[i]) := by rw [hli, List.getElem?_map, List.getElem?_eq_getElem hlt]; rfl
                rw [hw2, List.getElem?_cons_succ, List.getElem?_map] at h1
                obtain ⟨p, hp1, hp2⟩ := Option.map_eq_some_iff.1 h1
                have hp3 := hok.1.all p (List.mem_of_getElem? hp1)
                have := g2 p hp3 hp2.symm
                cases this)
              have Bf : Below w.heap.size w w5 := Bw5.out
              clear g1 g2 hm HX5 HT5 hR5 B15 hb5
              go_wp2
              refine bodyPost_ret (v := .tuple #[.agg #[.int .i64 0, .slice none 0 0], .bool false]) (by simp [results, Tryz.results48, go_sem, *]) rfl (ShOut.no (by first | exact bl | exact ((below_step Bf (below_alloc (Below.refl _ _) _)).setCell (by simp) _).setCell (by simp) _) hno.out)
            | true =>
              have a6 := below_alloc (Below.refl w5.heap.size w5) (.cells #[.int .i64 x, .int .i64 y] 84)
              have HX6 := HX5.to a6
              have HT6 := HT5.to a6
              have hR6 := Kd.R_below hR5 a6
              have B16 := B15.trans (a6.mono B15.size)
              have l8 : l.length ≤ 1048577 := by omega
              have Hm := Lib.hid (show (l ++ [(x, y)]).map ptW = ((ws.map bts).take (i + 1)).drop 1 by
                have hlt2 : i < (ws.map bts).length := by rw [List.length_map]; exact hlt
                rw [List.map_append, hm, List.take_succ_eq_append_getElem hlt2, List.drop_append_of_le_length (by rw [List.length_take, List.length_map]; omega)]
                congr 1
                simp only [List.map_cons, List.map_nil, List.getElem_map]
                rw [← g1 rfl])
              have hll := Lib.hid (show (l ++ [((x, y) : Pt)]).length = l.length + 1 from List.length_append)
              have Hli := Lib.hid hli
              have H6 := Lib.hid (And.intro hR6 (And.intro B16 (And.intro HX6 HT6)))
              clear g1 g2 hm HX5 HT5 hR5 B15 hb5 hR6 B16 hli HX6 HT6 a6
              have HP6 : B2 (w5.alloc (.cells #[.int .i64 x, .int .i64 y] 84)) w5.heap.size 84 (.int .i64 x) (.int .i64 y) := B2.new w5
              clear y0 y1 y2 y3 y4 x0 x1 x2 x3 x4
              go_upto_region 16 with (fail)
              generalize w5.alloc (.cells #[.int .i64 x, .int .i64 y] 84) = w6 at *
              obtain ⟨y0, y1, y2, y3, y4⟩ := H6.out.2.2.1.f
              obtain ⟨p0, p1, p2, p3, p4⟩ := HP6.f
              go_wp2_with (at_builtin; refine appOne (d := kPt) (w0 := w1) (base := w1.heap.size) 23 84 (.agg #[(.int .i64 0), (.int .i64 0)]) 16 Tryz.underlying23 info_Pt rfl (by decide) (by omega) (.tmp 47) (.tmp 49) _ l (x, y) [.int .i64 x, .int .i64 y] (kPt_mkM _ _ _ (x, y)) H6.out.1 H6.out.2.1 H6.out.2.1.size (by omega) ?_; intro A7 c7 w7 ho7 hb7 hg7; rw [hll.out] at ho7 ⊢; have HX7 := H6.out.2.2.1.grown hg7 (Kd.R_ne H6.out.1 H6.out.2.2.1 (by decide)); have HT7 := H6.out.2.2.2.grown hg7 (Kd.R_ne H6.out.1 H6.out.2.2.2 (by decide)); clear y0 y1 y2 y3 y4; obtain ⟨y0, y1, y2, y3, y4⟩ := HX7.f)
              refine ⟨⟨i + 1, l ++ [(x, y)], A7, c7, by rw [hll.out, Hli.out], by omega, by go_num, ⟨by rw [hll.out]; exact HX7.set1 _⟩, ⟨HT7.far hne⟩, ⟨by rw [hll.out]; exact Kd.R_set ho7 HX7 (by decide) 1 _⟩, ⟨hb7.setCell (Nat.le_refl _) _⟩, ⟨Hm.out⟩⟩, by simp [intOf]; omega⟩
          · have d1 : decide ((i : Int) < (ws.length : Int)) = false := decide_eq_false (by omega)
            rw [List.take_of_length_le (by rw [List.length_map]; omega)] at hm
            have hO := sShapeOk_c K A c l _ (Kd.R_reads' hR).2.2 (by omega)
            have HX0 := Lib.hid hm
            have Hli := Lib.hid hli
            clear hm hli
            go_wp2_with fail
            refine (hO).mono ?_
            rintro e w5 ⟨rfl, hb5⟩
            have HX5 := HX.to hb5
            have HT5 := HT_.to hb5
            have hR5 := Kd.R_below hR hb5
            have Bw5 := Lib.hid (Bw.out.trans (hb5.mono Bw.out.size))
            clear y0 y1 y2 y3 y4 x0 x1 x2 x3 x4 HX HT_ hR hbr hbz hO
            obtain ⟨y0, y1, y2, y3, y4⟩ := HX5.f
            obtain ⟨x0, x1, x2, x3, x4⟩ := HT5.f
            cases hok : shapeOk K l with
            | false =>
              have hno := Lib.hid (show ∀ K' l', ShapeOk K' l' → s ≠ shText K' l' from fun K' l' hok' e => by
                have hw2 := (shText_words' HW.out hok').1 e
                rw [hws0.out] at hw2
                simp only [List.cons.injEq] at hw2
                have e1 := HK.out.2.2 K' hok'.kind hw2.1
                have e2 : l = l' := map_inj (fun _ _ => ptW_inj) (HX0.out.trans hw2.2)
                rw [shapeOk_f] at hok
                rw [e1, e2] at hok
                exact hok hok')
              have Bf : Below w.heap.size w w5 := Bw5.out
              clear HX5 HT5 hR5 hb5 hok
              go_wp2
              refine bodyPost_ret (v := .tuple #[.agg #[.int .i64 0, .slice none 0 0], .bool false]) (by simp [results, Tryz.results48, go_sem, *]) rfl (ShOut.no (by first | exact bl | exact (Bf.setCell (by simp) _).setCell (by simp) _) hno.out)
            | true =>
              have hyes := Lib.hid (show ShapeOk K l ∧ s = shText K l from by
                have ho := shapeOk_t.1 hok
                refine ⟨ho, (shText_words' HW.out ho).2 ?_⟩
                have hk := ho.kind
                have := HK.out.2.1 (by omega)
                rw [hws0.out, HX0.out, this])
              have Bf : Below w.heap.size w w5 := Bw5.out
              have R1 := Lib.hid (Kd.R_set (Kd.R_set hR5 HT5 (by decide) 0 (.int .i64 K)) (HT5.set0 (.int .i64 K)) (by decide) 1 (.slice A l.length c))
              clear HX5 HT5 hR5 hb5 hok
              go_wp2
              refine bodyPost_ret (v := .tuple #[.agg #[.int .i64 K, .slice A l.length c], .bool true]) (by simp [results, Tryz.results48, go_sem, *]) rfl ⟨K, A, c, l, true, rfl, RI.of (Kd.R_lower R1.out (by omega)), (Bf.setCell (by simp) _).setCell (by simp) _, by have := Hli.out; omega, fun _ => hyes.out, (fun h => by cases h)⟩
  · have d0 : decide ((100 : Int) < (s.size : Int)) = true := decide_eq_true (by omega)
    have hno := Lib.hid (show ∀ K' l', ShapeOk K' l' → s ≠ shText K' l' from fun K l h e => by have := shText_76 h; rw [← e] at this; omega)
    go_enter Tryz.func48, Tryz.ntmps48
    have X := B2.new (u := .int .i64 0) (v := .slice none 0 0) (t := 25) w
    obtain ⟨x0, x1, x2, x3, x4⟩ := X.f
    go_wp2
    refine bodyPost_ret (v := .tuple #[.agg #[.int .i64 0, .slice none 0 0], .bool false]) (by simp [results, Tryz.results48, go_sem, *]) rfl (ShOut.no bl hno.out)
end
end Go.Proofs.YtgdgnlpohnpgiaaGreatDoor
