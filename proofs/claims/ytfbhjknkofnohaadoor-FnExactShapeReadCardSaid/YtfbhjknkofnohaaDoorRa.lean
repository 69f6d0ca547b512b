/- Contracts: the reference's readers of words and numbers. -/
import Derived.Test.YtfbhjknkofnohaaDoorPx
import Derived.Test.YtfbhjknkofnohaaDoorPv
namespace Go.Proofs.YtfbhjknkofnohaaDoor
open Go.RowKit Go.Proofs.YtfbhjknkofnohaaDoorW.PrintWords Go.Proofs.YtfbhjknkofnohaaDoorW.PrintLast
set_option maxRecDepth 100000
set_option linter.unusedVariables false
set_option linter.unusedSimpArgs false
theorem bts_len (s : ByteArray) : (bts s).length = s.size := Array.length_toList
theorem bts_at (s : ByteArray) (k : Nat) (h : k < s.size) : (bts s)[k]'(by rw [bts_len]; exact h) = s[k] := rfl
theorem bts_cut (s : ByteArray) (k : Nat) (h : k < s.size) : bts s = (bts s).take k ++ s[k] :: (bts s).drop (k + 1) := by
  have h2 : k < (bts s).length := by rw [bts_len]; exact h
  conv => lhs; rw [← List.take_append_drop k (bts s), List.drop_eq_getElem_cons h2]
  rfl
theorem find_hit {s : ByteArray} {c : UInt8} {k : Nat} (h : k < s.size) (hc : s[k] = c) (hb : ∀ j, (hj : j < k) → s[j]'(by omega) ≠ c) : Lib.index (bts s) [c] = k := by
  have h2 : c ∉ (bts s).take k := fun hm => by
    obtain ⟨j, hj, e⟩ := List.getElem_of_mem hm
    rw [List.length_take] at hj
    rw [List.getElem_take] at e
    exact hb j (by omega) e
  rw [bts_cut s k h, hc, index_word _ h2, List.length_take, bts_len]
  omega
theorem find_no {s : ByteArray} {c : UInt8} (hb : ∀ j, (hj : j < s.size) → s[j] ≠ c) : Lib.index (bts s) [c] = -1 := index_no fun hm => by
  obtain ⟨j, hj, e⟩ := List.getElem_of_mem hm
  rw [bts_len] at hj
  exact hb j hj e
theorem l12Find_c (s : ByteArray) (c : UInt8) (w : World) (hs : s.size ≤ 140737488351232) :
    Calls Tryd.prog 55 #[.string s, .int .u8 c.toNat] w fun e w' => e = .returned (.int .i64 (Lib.index (bts s) [c])) ∧ w' = w := by
  go_enter Tryd.func55, Tryd.ntmps55
  go_wp2
  go_loop [5] (fun i => ∃ k : Nat, k ≤ s.size ∧ i = .int .i64 k ∧ Aside0 (∀ j, (hj : j < k) → (h : j < s.size) → s[j] ≠ c)) (fun i => s.size - (intOf i).toNat)
  case atStart => exact ⟨0, Nat.zero_le _, rfl, ⟨fun j hj => absurd hj (by omega)⟩⟩
  case round =>
    obtain ⟨k, hk, rfl, ⟨he⟩⟩ := hrel
    by_cases hlt : k < s.size
    · have hw : IntKind.i64.wrap ((k : Int) + 1) = (k : Int) + 1 := IntWalk.i64_in _ (by omega)
      by_cases h1 : s[k] = c
      · have d1 : ((s[k].toNat : Int) == (c.toNat : Int)) = true := by rw [h1]; simp
        have hx := Lib.hid (find_hit hlt h1 (fun j hj => he j hj (by omega)))
        clear he
        go_wp2
        go_ret
        exact ⟨by rw [hx.out]; rfl, rfl⟩
      · have d1 : ((s[k].toNat : Int) == (c.toNat : Int)) = false := by
          rw [beq_eq_false_iff_ne]
          intro e
          exact h1 (UInt8.toNat_inj.1 (by omega))
        have Hs := Lib.hid (show ∀ j, (hj : j < k + 1) → (h : j < s.size) → s[j] ≠ c from fun j hj h => if e : j = k then by subst e; exact h1 else he j (by omega) h)
        clear he
        go_wp2
        exact ⟨⟨k + 1, by omega, by go_num, ⟨Hs.out⟩⟩, by simp [intOf]; omega⟩
    · have hx := Lib.hid (find_no (fun j hj => he j (by omega) hj))
      clear he
      go_wp2
      go_ret
      exact ⟨by rw [hx.out]; rfl, rfl⟩
/-! Numbers. -/
theorem itoa_pos {m : Int} (h : 0 ≤ m) : Lib.itoa m = Lib.decDigits m.toNat := by unfold Lib.itoa; rw [if_neg (by omega)]
theorem itoa_min {m : Int} (h : m < 0) : Lib.itoa m = 45 :: Lib.decDigits m.natAbs := by unfold Lib.itoa; rw [if_pos h]
theorem dd_len {u : Nat} (h : u ≤ 1000000) : (Lib.decDigits u).length ≤ 17 := by
  have key : ∀ n : Nat, ∀ u, u < 10 ^ n → (Lib.decDigits u).length ≤ n + 1 := by
    intro n
    induction n with
    | zero => intro u hu; rw [dd_small (by simpa using Nat.lt_of_lt_of_le hu (by decide))]; simp
    | succ n ih =>
      intro u hu
      by_cases h : u < 10
      · rw [dd_small h]; simp
      · rw [dd_big h, List.length_append, List.length_singleton]
        have := ih (u / 10) (by rw [Nat.pow_succ] at hu; omega)
        omega
  exact Nat.le_trans (key 8 u (by omega)) (by omega)
/-- A number's sign and digits. -/
theorem num_form {l t : List UInt8} {neg : Bool} {m : Int} (e : l = if neg then 45 :: t else t) (hn : neg = false → ∀ c r, t = c :: r → c ≠ 45) (h : l = Lib.itoa m) :
    t = Lib.decDigits m.natAbs ∧ (neg = true → m < 0) ∧ (neg = false → 0 ≤ m) := by
  cases neg with
  | true =>
    simp only [if_true] at e
    by_cases hm : m < 0
    · rw [e, itoa_min hm] at h
      injection h with _ h
      exact ⟨h, (fun _ => hm), (fun h => by cases h)⟩
    · rw [e, itoa_pos (by omega)] at h
      have := digit_bound (u := m.toNat) 45 (by rw [← h]; exact List.mem_cons_self)
      simp at this
  | false =>
    simp only [Bool.false_eq_true, if_false] at e
    by_cases hm : m < 0
    · rw [e, itoa_min hm] at h
      exact absurd rfl (hn rfl _ _ h)
    · rw [e, itoa_pos (by omega)] at h
      exact ⟨by rw [h, show m.toNat = m.natAbs by omega], (fun h => by cases h), (fun _ => by omega)⟩
/-- What a text is as a number: read just if it is one. -/
def NumR (s : ByteArray) (v : Int) (b : Bool) : Prop := (b = true → bts s = Lib.itoa v) ∧ (∀ m, -1000000 ≤ m → m ≤ 1000000 → bts s = Lib.itoa m → b = true)
theorem NumR.no {s : ByteArray} (h : ∀ m, -1000000 ≤ m → m ≤ 1000000 → bts s ≠ Lib.itoa m) : NumR s 0 false := ⟨fun h => (by cases h), fun m h0 h1 e => absurd e (h m h0 h1)⟩
/-- How l12Num ends. -/
def NumOut (s : ByteArray) (w : World) (e : Ending) (w' : World) : Prop := ∃ v b, e = .returned (.tuple #[.int .i64 v, .bool b]) ∧ NumR s v b ∧ w' = w
set_option maxHeartbeats 4000000 in
theorem l12Num_c (s : ByteArray) (w : World) (hs : s.size ≤ 140737488351232) :
    Calls Tryd.prog 63 #[.string s] w (NumOut s w) := by
  go_enter Tryd.func63, Tryd.ntmps63
  go_upto_region 1 with (fail)
  go_cut [4] (fun q4 wc => ∃ (neg : Bool), q4 = .bool neg ∧ w = wc ∧ Aside0 (neg = true → ∃ r, bts s = 45 :: r) ∧ Aside0 (neg = false → ∀ c r, bts s = c :: r → c ≠ 45))
  case first =>
    by_cases h0 : 0 < s.size
    · have d0 : decide ((0 : Int) < (s.size : Int)) = true := decide_eq_true (by omega)
      have hx := Lib.hid (bts_cut s 0 h0)
      by_cases h1 : s[0] = 45
      · have d1 : ((s[0].toNat : Int) == 45) = true := by rw [h1]; rfl
        go_wp2
        go_meet
        case rel => exact ⟨true, rfl, rfl, ⟨fun _ => ⟨_, by have := hx.out; rw [h1] at this; exact this⟩⟩, ⟨fun h => by cases h⟩⟩
      · have d1 : ((s[0].toNat : Int) == 45) = false := by
          rw [beq_eq_false_iff_ne]
          intro e
          exact h1 (UInt8.toNat_inj.1 (by show s[0].toNat = 45; omega))
        go_wp2
        go_meet
        case rel => exact ⟨false, rfl, rfl, ⟨fun h => by cases h⟩, ⟨fun _ c r e hc => h1 (by
          have := hx.out
          rw [e] at this
          injection this with h2 _
          rw [← h2, hc])⟩⟩
    · have d0 : decide ((0 : Int) < (s.size : Int)) = false := decide_eq_false (by omega)
      have hx := Lib.hid (bts_len s)
      go_wp2
      go_meet
      case rel => exact ⟨false, rfl, rfl, ⟨fun h => by cases h⟩, ⟨fun _ c r e => by
        have := hx.out
        rw [e] at this
        simp at this
        omega⟩⟩
  case rest =>
    obtain ⟨neg, rfl, rfl, ⟨hy⟩, ⟨hn⟩⟩ := hcut
    go_upto_if 15 with (fail)
    go_cut [0] (fun q0 wc => ∃ (t : ByteArray), q0 = .string t ∧ w = wc ∧ t.size ≤ s.size ∧ Aside0 (bts s = if neg then 45 :: bts t else bts t) ∧ Aside0 (neg = false → ∀ c r, bts t = c :: r → c ≠ 45))
    case first =>
      cases neg with
      | false =>
        go_wp2
        go_meet
        case rel => exact ⟨s, rfl, rfl, Nat.le_refl _, ⟨rfl⟩, ⟨hn⟩⟩
      | true =>
        obtain ⟨r, hr⟩ := hy rfl
        have hsz : 1 ≤ s.size := by
          have := bts_len s
          rw [hr] at this
          simp at this
          omega
        have hz : (s.extract 1 s.size).size ≤ s.size := by rw [ByteArray.size_extract]; omega
        have hx := Lib.hid (show bts s = 45 :: bts (s.extract 1 s.size) by
          have e2 : bts (s.extract 1 s.size) = (bts s).drop 1 := by
            have h3 : (bts s).length = s.size := bts_len s
            simp only [bts, ByteArray.data_extract, Array.toList_extract, List.extract_eq_take_drop] at h3 ⊢
            rw [List.take_of_length_le (by rw [List.length_drop]; omega)]
          rw [e2, hr]
          rfl)
        clear hr hy hn
        go_wp2
        go_meet
        case rel => exact ⟨s.extract 1 s.size, rfl, rfl, hz, ⟨hx.out⟩, ⟨fun h => by cases h⟩⟩
    case rest =>
      obtain ⟨t, rfl, rfl, htz, ⟨he⟩, ⟨hn2⟩⟩ := hcut
      clear hy hn
      have HF := Lib.hid (fun (m : Int) (h : bts s = Lib.itoa m) => num_form (m := m) he hn2 h)
      have HE := Lib.hid he
      clear he hn2
      go_upto_region 4 with (fail)
      go_cut [38] (fun q wc => ∃ (bad : Bool), q = .bool bad ∧ w = wc ∧ Aside0 (bad = true → NumR s 0 false) ∧ Aside0 (bad = false → ∃ h : 0 < t.size, t.size ≤ 17 ∧ (t[0] ≠ 48 ∨ (t.size = 1 ∧ neg = false))))
      case first =>
        by_cases h0 : 0 < t.size
        · have d0 : ((t.size : Int) == 0) = false := beq_eq_false_iff_ne.mpr (by omega)
          by_cases h17 : t.size ≤ 17
          · have d1 : decide ((17 : Int) < (t.size : Int)) = false := decide_eq_false (by omega)
            have hb0 := Lib.hid (bts_cut t 0 h0)
            by_cases hc : t[0] = 48
            · have d2 : ((t[0].toNat : Int) == 48) = true := by rw [hc]; rfl
              have hno : (1 < t.size ∨ neg = true) → NumR s 0 false := fun hh => NumR.no (fun m h0' h1' e => by
                obtain ⟨f1, f2, f3⟩ := HF.out m e
                have e1 := hb0.out
                rw [f1, hc] at e1
                rcases hh with h | h
                · have hl := congrArg List.length f1
                  rw [bts_len] at hl
                  by_cases hz : m.natAbs = 0
                  · rw [hz, dd_small (by omega)] at hl
                    simp at hl
                    omega
                  · exact dd_head (by omega) _ _ e1 rfl
                · have := f2 h
                  exact dd_head (by omega) _ _ e1 rfl)
              have HN := Lib.hid hno
              clear hno
              by_cases h1s : 1 < t.size
              · have d3 : decide ((1 : Int) < (t.size : Int)) = true := decide_eq_true (by omega)
                go_wp2
                go_meet
                case rel => exact ⟨true, rfl, rfl, ⟨fun _ => HN.out (.inl h1s)⟩, ⟨fun h => by cases h⟩⟩
              · have d3 : decide ((1 : Int) < (t.size : Int)) = false := decide_eq_false (by omega)
                cases neg with
                | true =>
                  go_wp2
                  go_meet
                  case rel => exact ⟨true, rfl, rfl, ⟨fun _ => HN.out (.inr (by trivial))⟩, ⟨fun h => by cases h⟩⟩
                | false =>
                  go_wp2
                  go_meet
                  case rel => exact ⟨false, rfl, rfl, ⟨fun h => by cases h⟩, ⟨fun _ => ⟨h0, h17, .inr ⟨by omega, by trivial⟩⟩⟩⟩
            · have d2 : ((t[0].toNat : Int) == 48) = false := by
                rw [beq_eq_false_iff_ne]
                intro e
                exact hc (UInt8.toNat_inj.1 (by show t[0].toNat = 48; omega))
              go_wp2
              go_meet
              case rel => exact ⟨false, rfl, rfl, ⟨fun h => by cases h⟩, ⟨fun _ => ⟨h0, h17, .inl hc⟩⟩⟩
          · have d1 : decide ((17 : Int) < (t.size : Int)) = true := decide_eq_true (by omega)
            have hno := Lib.hid (NumR.no (s := s) (fun m h0' h1' e => by
              obtain ⟨f1, _, _⟩ := HF.out m e
              have hl := congrArg List.length f1
              rw [bts_len] at hl
              have := dd_len (u := m.natAbs) (by omega)
              omega))
            go_wp2
            go_meet
            case rel => exact ⟨true, rfl, rfl, ⟨fun _ => hno.out⟩, ⟨fun h => by cases h⟩⟩
        · have d0 : ((t.size : Int) == 0) = true := by rw [show t.size = 0 by omega]; rfl
          have hno := Lib.hid (NumR.no (s := s) (fun m h0' h1' e => by
            obtain ⟨f1, _, _⟩ := HF.out m e
            have hl := congrArg List.length f1
            rw [bts_len] at hl
            have := List.length_pos_iff.2 (dec_ne m.natAbs)
            omega))
          go_wp2
          go_meet
          case rel => exact ⟨true, rfl, rfl, ⟨fun _ => hno.out⟩, ⟨fun h => by cases h⟩⟩
      case rest =>
        obtain ⟨bad, rfl, rfl, ⟨g1⟩, ⟨g2⟩⟩ := hcut
        cases bad with
        | true =>
          have hno := Lib.hid (g1 rfl)
          clear g1 g2
          go_wp2
          refine bodyPost_ret (v := .tuple #[.int .i64 0, .bool false]) (by simp [results, Tryd.results63, go_sem, *]) rfl ⟨0, false, rfl, hno.out, rfl⟩
        | false =>
          obtain ⟨h0, h17, hhd⟩ := g2 rfl
          have HH := Lib.hid hhd
          clear g1 g2 hhd
          go_wp2
          go_loopw [5, 6] (fun q5 q6 wr => ∃ (k v : Nat), k ≤ t.size ∧ q6 = .int .i64 k ∧ q5 = .int .i64 v ∧ v < 10 ^ k ∧ w = wr ∧ Aside0 ((bts t).take k = if k = 0 then [] else Lib.decDigits v) ∧ Aside0 (k = 0 → v = 0)) (fun _ q6 _ => t.size - (intOf q6).toNat)
          case atStart => exact ⟨0, 0, by omega, rfl, rfl, by decide, rfl, ⟨rfl⟩, ⟨fun _ => rfl⟩⟩
          case round =>
            obtain ⟨k, v, hk, rfl, rfl, hv, rfl, ⟨hd⟩, ⟨hv0⟩⟩ := hrel
            have hv17 : v < 1000000000000000000 := Nat.lt_of_lt_of_le hv (Nat.le_trans (Nat.pow_le_pow_right (by omega) (show k ≤ 17 by omega)) (by decide))
            by_cases hlt : k < t.size
            · have e1 : decide ((k : Int) < (t.size : Int)) = true := decide_eq_true (by omega)
              have hmem : t[k] ∈ bts t := by
                rw [bts_cut t k hlt]
                simp
              have hno : ¬ (48 ≤ t[k].toNat ∧ t[k].toNat ≤ 57) → NumR s 0 false := fun hh => NumR.no (fun m h0' h1' e => by
                obtain ⟨f1, _, _⟩ := HF.out m e
                rw [f1] at hmem
                exact hh (digit_bound _ hmem))
              have HN := Lib.hid hno
              clear hno
              by_cases g1 : t[k].toNat < 48
              · have d1 : decide ((t[k].toNat : Int) < 48) = true := decide_eq_true (by omega)
                have hno2 := Lib.hid (HN.out (by omega))
                clear hd hmem
                go_wp2
                refine bodyPost_ret (v := .tuple #[.int .i64 0, .bool false]) (by simp [results, Tryd.results63, go_sem, *]) rfl ⟨0, false, rfl, hno2.out, rfl⟩
              · have d1 : decide ((t[k].toNat : Int) < 48) = false := decide_eq_false (by omega)
                by_cases g2 : 57 < t[k].toNat
                · have d2 : decide ((57 : Int) < (t[k].toNat : Int)) = true := decide_eq_true (by omega)
                  have hno2 := Lib.hid (HN.out (by omega))
                  clear hd hmem
                  go_wp2
                  refine bodyPost_ret (v := .tuple #[.int .i64 0, .bool false]) (by simp [results, Tryd.results63, go_sem, *]) rfl ⟨0, false, rfl, hno2.out, rfl⟩
                · have d2 : decide ((57 : Int) < (t[k].toNat : Int)) = false := decide_eq_false (by omega)
                  have hv16 : v < 10000000000000000 := Nat.lt_of_lt_of_le hv (Nat.le_trans (Nat.pow_le_pow_right (by omega) (show k ≤ 16 by omega)) (by decide))
                  have w1 : IntKind.i64.wrap ((v : Int) * 10) = (v : Int) * 10 := IntWalk.i64_in _ (by omega)
                  have w2 : IntKind.u8.wrap ((t[k].toNat : Int) - 48) = (t[k].toNat : Int) - 48 := IntWalk.u8_in _ (by omega)
                  have w3 : IntKind.i64.wrap ((t[k].toNat : Int) - 48) = (t[k].toNat : Int) - 48 := IntWalk.i64_in _ (by omega)
                  have w4 : IntKind.i64.wrap ((v : Int) * 10 + ((t[k].toNat : Int) - 48)) = ((v * 10 + (t[k].toNat - 48) : Nat) : Int) := by rw [IntWalk.i64_in _ (by omega)]; omega
                  have w5 : IntKind.i64.wrap ((k : Int) + 1) = (k : Int) + 1 := IntWalk.i64_in _ (by omega)
                  have w6 : IntKind.u8.wrap (t[k].toNat : Int) = (t[k].toNat : Int) := IntWalk.u8_in _ (by omega)
                  have p1 := Lib.hid (show v * 10 + (t[k].toNat - 48) < 10 ^ (k + 1) by rw [Nat.pow_succ]; omega)
                  have q1 := Lib.hid (show (bts t).take (k + 1) = if k + 1 = 0 then [] else Lib.decDigits (v * 10 + (t[k].toNat - 48)) by
                    have hkb : k < (bts t).length := by rw [bts_len]; exact hlt
                    have ec : UInt8.ofNat (48 + (t[k].toNat - 48)) = t[k] := by
                      apply UInt8.toNat_inj.1
                      simp
                      omega
                    rw [if_neg (by omega), List.take_succ_eq_append_getElem hkb, hd]
                    rcases Nat.eq_zero_or_pos k with hk0 | hk0
                    · subst hk0
                      rw [if_pos rfl, hv0 rfl, dd_small (by omega), List.nil_append]
                      congr 1
                      rw [show 0 * 10 + (t[0].toNat - 48) = t[0].toNat - 48 by omega, ec]
                      rfl
                    · have hv1 : 1 ≤ v := by
                        rcases Nat.eq_zero_or_pos v with h | h
                        · exfalso
                          rw [if_neg (by omega), h, dd_small (by omega)] at hd
                          have h2 := bts_cut t 0 h0
                          rw [h2] at hd
                          have : t[0] = 48 := by
                            rw [show k = (k - 1) + 1 by omega] at hd
                            simp only [List.take_zero, List.nil_append, List.take_succ_cons] at hd
                            exact (List.cons.inj hd).1
                          rcases HH.out with h3 | h3
                          · exact h3 this
                          · omega
                        · exact h
                      rw [if_neg (by omega), dd_step hv1 (by omega), ec]
                      rfl)
                  clear hd hmem hv
                  go_wp2
                  exact ⟨⟨k + 1, v * 10 + (t[k].toNat - 48), by omega, by go_num, by first | rfl | trivial | go_num, p1.out, by first | rfl | trivial, ⟨q1.out⟩, ⟨fun h => by omega⟩⟩, by simp [intOf]; omega⟩
            · have e1 : decide ((k : Int) < (t.size : Int)) = false := decide_eq_false (by omega)
              obtain rfl : k = t.size := by omega
              rw [if_neg (by omega), List.take_of_length_le (by rw [bts_len]; exact Nat.le_refl _)] at hd
              have hv1 : neg = true → 1 ≤ v := fun hn => by
                rcases Nat.eq_zero_or_pos v with h | h
                · exfalso
                  rw [h, dd_small (by omega)] at hd
                  have h2 := bts_cut t 0 h0
                  rw [h2] at hd
                  simp only [List.take_zero, List.nil_append] at hd
                  injection hd with hd _
                  rcases HH.out with h3 | h3
                  · exact h3 hd
                  · rw [h3.2] at hn
                    cases hn
                · exact h
              cases neg with
              | true =>
                have hv2 := hv1 rfl
                have hres := Lib.hid (show NumR s (-(v : Int)) true from ⟨fun _ => by
                  rw [HE.out, if_pos rfl, itoa_min (by omega), hd, show (-(v : Int)).natAbs = v by omega], fun _ _ _ _ => rfl⟩)
                have w1 : IntKind.i64.wrap (-(v : Int)) = -(v : Int) := IntWalk.i64_in _ (by omega)
                clear hd hv1
                go_wp2
                refine bodyPost_ret (v := .tuple #[.int .i64 (-(v : Int)), .bool true]) (by simp [results, Tryd.results63, go_sem, *]) rfl ⟨-(v : Int), true, rfl, hres.out, rfl⟩
              | false =>
                have hres := Lib.hid (show NumR s (v : Int) true from ⟨fun _ => by
                  rw [HE.out, if_neg (by decide), itoa_pos (by omega), hd, Int.toNat_natCast], fun _ _ _ _ => rfl⟩)
                clear hd hv1
                go_wp2
                refine bodyPost_ret (v := .tuple #[.int .i64 (v : Int), .bool true]) (by simp [results, Tryd.results63, go_sem, *]) rfl ⟨(v : Int), true, rfl, hres.out, rfl⟩
end Go.Proofs.YtfbhjknkofnohaaDoor
