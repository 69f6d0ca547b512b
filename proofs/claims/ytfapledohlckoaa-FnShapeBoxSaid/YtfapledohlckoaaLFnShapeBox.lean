/- Law: each point of a drawn shape is in its box, and each side of it has a point. -/
import Derived.Test.YtfapledohlckoaaF
import Derived.Test.YtfapledohlckoaaDu
namespace Go.Proofs.Ytfapledohlckoaa
open Go.RowKit Go.Proofs.YtfapledohlckoaaW.PrintWords Go.Proofs.YtfapledohlckoaaW.PrintLast
set_option linter.unusedVariables false
set_option linter.unusedSimpArgs false
attribute [local go_sem high] eqPtOp
theorem getDk' (l : List Pt) {k : Nat} (h : k < l.length) : l.getD k (0, 0) = l[k] := by rw [List.getD_eq_getElem?_getD, List.getElem?_eq_getElem h]; rfl
theorem lo_le (l : List Pt) : ∀ n, n ≤ l.length → ∀ i, (h : i < l.length) → i < n → (lo l n).1 ≤ l[i].1 ∧ (lo l n).2 ≤ l[i].2
  | 0, _, i, h, hi => by omega
  | n + 1, hn, i, h, hi => by
    simp only [lo, pmin, getDk' l (show n < l.length by omega)]
    rcases Nat.lt_or_ge i n with h1 | h1
    · have := lo_le l n (by omega) i h h1; omega
    · obtain rfl : i = n := by omega
      omega
theorem hi_le (l : List Pt) : ∀ n, n ≤ l.length → ∀ i, (h : i < l.length) → i < n → l[i].1 ≤ (hi l n).1 ∧ l[i].2 ≤ (hi l n).2
  | 0, _, i, h, hi => by omega
  | n + 1, hn, i, h, hj => by
    simp only [hi, pmax, getDk' l (show n < l.length by omega)]
    rcases Nat.lt_or_ge i n with h1 | h1
    · have := hi_le l n (by omega) i h h1; omega
    · obtain rfl : i = n := by omega
      omega
theorem lo_at (l : List Pt) (h0 : 0 < l.length) : ∀ n, n ≤ l.length → (∃ i, ∃ h : i < l.length, l[i].1 = (lo l n).1) ∧ (∃ i, ∃ h : i < l.length, l[i].2 = (lo l n).2)
  | 0, _ => ⟨⟨0, h0, by simp only [lo, getDk' l h0]⟩, ⟨0, h0, by simp only [lo, getDk' l h0]⟩⟩
  | n + 1, hn => by
    obtain ⟨⟨i, hi, h1⟩, ⟨j, hj, h2⟩⟩ := lo_at l h0 n (by omega)
    simp only [lo, pmin, getDk' l (show n < l.length by omega)]
    constructor
    · rcases Int.le_total (lo l n).1 l[n].1 with h | h
      · exact ⟨i, hi, by omega⟩
      · exact ⟨n, by omega, by omega⟩
    · rcases Int.le_total (lo l n).2 l[n].2 with h | h
      · exact ⟨j, hj, by omega⟩
      · exact ⟨n, by omega, by omega⟩
theorem hi_at (l : List Pt) (h0 : 0 < l.length) : ∀ n, n ≤ l.length → (∃ i, ∃ h : i < l.length, l[i].1 = (hi l n).1) ∧ (∃ i, ∃ h : i < l.length, l[i].2 = (hi l n).2)
  | 0, _ => ⟨⟨0, h0, by simp only [hi, getDk' l h0]⟩, ⟨0, h0, by simp only [hi, getDk' l h0]⟩⟩
  | n + 1, hn => by
    obtain ⟨⟨i, hi_, h1⟩, ⟨j, hj, h2⟩⟩ := hi_at l h0 n (by omega)
    simp only [hi, pmax, getDk' l (show n < l.length by omega)]
    constructor
    · rcases Int.le_total (hi l n).1 l[n].1 with h | h
      · exact ⟨n, by omega, by omega⟩
      · exact ⟨i, hi_, by omega⟩
    · rcases Int.le_total (hi l n).2 l[n].2 with h | h
      · exact ⟨n, by omega, by omega⟩
      · exact ⟨j, hj, by omega⟩
/-- The four sides, told as one number. -/
def enc (b1 b2 b3 b4 : Bool) : Int := (cond b1 1 0) + (cond b2 2 0) + (cond b3 4 0) + (cond b4 8 0)
theorem or1 (b1 b2 b3 b4 : Bool) : bits .or .i64 (enc b1 b2 b3 b4) 1 = enc true b2 b3 b4 := by cases b1 <;> cases b2 <;> cases b3 <;> cases b4 <;> rfl
theorem or2 (b1 b2 b3 b4 : Bool) : bits .or .i64 (enc b1 b2 b3 b4) 2 = enc b1 true b3 b4 := by cases b1 <;> cases b2 <;> cases b3 <;> cases b4 <;> rfl
theorem or4 (b1 b2 b3 b4 : Bool) : bits .or .i64 (enc b1 b2 b3 b4) 4 = enc b1 b2 true b4 := by cases b1 <;> cases b2 <;> cases b3 <;> cases b4 <;> rfl
theorem or8 (b1 b2 b3 b4 : Bool) : bits .or .i64 (enc b1 b2 b3 b4) 8 = enc b1 b2 b3 true := by cases b1 <;> cases b2 <;> cases b3 <;> cases b4 <;> rfl
/-- What the first k points say of the sides. -/
def Sides (p : List Pt) (a b : Pt) (k : Nat) (b1 b2 b3 b4 : Bool) : Prop := ∀ i, (h : i < p.length) → i < k → (p[i].1 = a.1 → b1 = true) ∧ (p[i].1 = b.1 → b2 = true) ∧ (p[i].2 = a.2 → b3 = true) ∧ (p[i].2 = b.2 → b4 = true)
theorem sides_step {p : List Pt} {a b : Pt} {k : Nat} {b1 b2 b3 b4 d1 d2 d3 d4 : Bool} (h : Sides p a b k b1 b2 b3 b4) (hk : k < p.length) (h1 : (b1 = true → d1 = true) ∧ (p[k].1 = a.1 → d1 = true)) (h2 : (b2 = true → d2 = true) ∧ (p[k].1 = b.1 → d2 = true))
    (h3 : (b3 = true → d3 = true) ∧ (p[k].2 = a.2 → d3 = true)) (h4 : (b4 = true → d4 = true) ∧ (p[k].2 = b.2 → d4 = true)) : Sides p a b (k + 1) d1 d2 d3 d4 := by
  intro i hi hlt
  rcases Nat.lt_or_ge i k with hik | hik
  · have := h i hi hik
    exact ⟨fun e => h1.1 (this.1 e), fun e => h2.1 (this.2.1 e), fun e => h3.1 (this.2.2.1 e), fun e => h4.1 (this.2.2.2 e)⟩
  · obtain rfl : i = k := by omega
    exact ⟨h1.2, h2.2, h3.2, h4.2⟩
set_option maxRecDepth 100000 in
set_option maxHeartbeats 8000000 in
theorem FnShapeBox_c (A : Option Addr) (c : Nat) (l : List Int) (w : World) (hl : (Kd.int .u8).C w A l.length l) (hn : (l.length : Int) ≤ 140737488351232) (hb : ∀ x ∈ l, 0 ≤ x ∧ x ≤ 255) (hc : l.length ≤ c) :
    Calls Try.prog 9 #[.slice A l.length c] w fun e w' => e = .returned (.bool true) ∧ Below w.heap.size w w' := by
  by_cases hs : (l.length : Int) ≤ 1048576
  · have hd : decide ((1048576 : Int) < (l.length : Int)) = false := decide_eq_false (by omega)
    go_enter Try.func9, Try.ntmps9
    go_wp2_with fail
    refine (DrawShapeBox_d A c l _ (Kd.C_below hl bl) hb hc (by omega)).mono ?_
    rintro e w1 ⟨K, A1, c1, p, rfl, hr1, hp16, hK0, hK4, hb1⟩
    have T1 := B2.new (u := .int .i64 K) (v := .slice A1 p.length c1) (t := 31) w1
    obtain ⟨a0, a1, a2, a3, a4⟩ := T1.f
    go_wp2_with fail
    refine (iShapeBox_c _ _ _ _ _ (Kd.C_below hr1.rd.2.2 bl) (by omega)).mono ?_
    rintro e w2 ⟨rfl, hb2⟩
    have T2 := T1.to hb2
    generalize hbx : box K p = bx
    have Hbx := Lib.hid hbx
    clear hbx
    obtain ⟨⟨x0, x1⟩, ⟨y0, y1⟩⟩ := bx
    clear a0 a1 a2 a3 a4
    obtain ⟨a0, a1, a2, a3, a4⟩ := T2.f
    have P1 := B2.new (u := .int .i64 x0) (v := .int .i64 x1) (t := 40) w2
    have P2 : B2 ((w2.alloc (.cells #[.int .i64 x0, .int .i64 x1] 40)).alloc (.cells #[.int .i64 y0, .int .i64 y1] 40)) (w2.heap.size + 1) 40 (.int .i64 y0) (.int .i64 y1) := B2.new' (w2.alloc (.cells #[.int .i64 x0, .int .i64 x1] 40)) _ _ _ _
    go_wp2_with fail
    refine (sShapeBox_c _ _ _ _ _ (Kd.C_below hr1.rd.2.2 bl) (by omega)).mono ?_
    rintro e w3 ⟨rfl, hb3⟩
    rw [Hbx.out]
    have T3 : B2 w3 _ _ _ _ := T2.to (bl : Below w2.heap.size w2 w3)
    have P1' : B2 w3 _ _ _ _ := P1.to (bl : Below (w2.alloc (.cells #[.int .i64 x0, .int .i64 x1] 40)).heap.size (w2.alloc (.cells #[.int .i64 x0, .int .i64 x1] 40)) w3)
    have P2' : B2 w3 _ _ _ _ := P2.to hb3
    clear P1 P2
    clear a0 a1 a2 a3 a4
    obtain ⟨a0, a1, a2, a3, a4⟩ := T3.f
    obtain ⟨p0, p1, p2, p3, p4⟩ := P1'.f
    obtain ⟨q0, q1, q2, q3, q4⟩ := P2'.f
    have E1 : eqB ((x0, x1) : Pt) (x0, x1) = true := eqB_t.2 rfl
    have E2 : eqB ((y0, y1) : Pt) (y0, y1) = true := eqB_t.2 rfl
    go_wp2_with fail
    refine (sShapeOk_c _ _ _ _ _ (Kd.C_below hr1.rd.2.2 bl) (by omega)).mono ?_
    rintro e w4 ⟨rfl, hb4⟩
    have T4 : B2 w4 _ _ _ _ := T3.to (bl : Below w3.heap.size w3 w4)
    have P1'' : B2 w4 _ _ _ _ := P1'.to (bl : Below w3.heap.size w3 w4)
    have P2'' : B2 w4 _ _ _ _ := P2'.to (bl : Below w3.heap.size w3 w4)
    clear a0 a1 a2 a3 a4 p0 p1 p2 p3 p4 q0 q1 q2 q3 q4 T3 T2 T1 P1' P2'
    cases hok : shapeOk K p with
    | false =>
      have hz := Hbx.out
      rw [box, if_neg (shapeOk_f.1 hok)] at hz
      cases hz
      obtain ⟨p0, p1, p2, p3, p4⟩ := P1''.f
      obtain ⟨q0, q1, q2, q3, q4⟩ := P2''.f
      go_wp2
      go_ret
      exact ⟨rfl, bl⟩
    | true =>
      have hz := Hbx.out
      rw [box, if_pos (shapeOk_t.1 hok)] at hz
      have hp0 : 0 < p.length := (shapeOk_t.1 hok).pos
      have HZ1 := Lib.hid (Prod.mk.inj hz).1
      have HZ2 := Lib.hid (Prod.mk.inj hz).2
      clear hz
      obtain ⟨a0, a1, a2, a3, a4⟩ := T4.f
      go_wp2
      go_loopw [8, 9] (fun s i wr => ∃ (k : Nat) (b1 b2 b3 b4 : Bool), k ≤ p.length ∧ i = .int .i64 k ∧ s = .int .i64 (enc b1 b2 b3 b4) ∧ Aside0 (Sides p (x0, x1) (y0, y1) k b1 b2 b3 b4) ∧ Aside0 (Below w4.heap.size w4 wr)) (fun _ i _ => p.length - (intOf i).toNat)
      case atStart => exact ⟨0, false, false, false, false, by omega, rfl, rfl, ⟨fun i h hi => by omega⟩, ⟨Below.refl _ _⟩⟩
      case round =>
        obtain ⟨k, b1, b2, b3, b4, hk, rfl, rfl, ⟨hsd⟩, ⟨hbr⟩⟩ := hrel
        clear a0 a1 a2 a3 a4
        have T5 := T4.to hbr
        have P3 := P1''.to hbr
        have P4 := P2''.to hbr
        obtain ⟨a0, a1, a2, a3, a4⟩ := T5.f
        obtain ⟨p0, p1, p2, p3, p4⟩ := P3.f
        obtain ⟨q0, q1, q2, q3, q4⟩ := P4.f
        have hw : IntKind.i64.wrap ((k : Int) + 1) = (k : Int) + 1 := IntWalk.i64_in _ (by omega)
        by_cases hlt : k < p.length
        · obtain ⟨ad, rfl, c0, c1⟩ := at_Pt (Kd.C_below hr1.rd.2.2 (bl : Below w1.heap.size w1 wr)) k hlt
          have g1 := lo_le p p.length (Nat.le_refl _) k hlt hlt
          have g2 := hi_le p p.length (Nat.le_refl _) k hlt hlt
          rw [HZ1.out] at g1
          rw [HZ2.out] at g2
          have u1 : decide (p[k].1 < x0) = false := decide_eq_false (by have := g1.1; simp only [] at this; omega)
          have u2 : decide (y0 < p[k].1) = false := decide_eq_false (by have := g2.1; simp only [] at this; omega)
          have u3 : decide (p[k].2 < x1) = false := decide_eq_false (by have := g1.2; simp only [] at this; omega)
          have u4 : decide (y1 < p[k].2) = false := decide_eq_false (by have := g2.2; simp only [] at this; omega)
          clear g1 g2
          go_upto_if 87 with (fail)
          go_cut [8] (fun s wc => ∃ d1 : Bool, s = .int .i64 (enc d1 b2 b3 b4) ∧ Aside0 ((b1 = true → d1 = true) ∧ (p[k].1 = x0 → d1 = true)) ∧ Aside0 (Below w4.heap.size w4 wc) ∧ Aside0 (B2 wc wr.heap.size 40 (.int .i64 p[k].1) (.int .i64 p[k].2)))
          case first =>
            have o1 := or1 b1 b2 b3 b4
            by_cases he : p[k].1 = x0
            · have e1 : (p[k].1 == x0) = true := beq_iff_eq.mpr he
              have He := Lib.hid he
              clear he
              go_wp2
              go_meet
              case rel => exact ⟨true, rfl, ⟨fun _ => rfl, fun _ => rfl⟩, ⟨bl⟩, ⟨B2.new wr⟩⟩
            · have e1 : (p[k].1 == x0) = false := beq_eq_false_iff_ne.mpr he
              have He := Lib.hid he
              clear he o1
              go_wp2
              go_meet
              case rel => exact ⟨b1, rfl, ⟨fun h => h, fun h => absurd h He.out⟩, ⟨bl⟩, ⟨B2.new wr⟩⟩
          case rest =>
            clear a0 a1 a2 a3 a4 p0 p1 p2 p3 p4 q0 q1 q2 q3 q4 T5 P3 P4
            clear c0 c1
            clear hbr
            obtain ⟨d1, rfl, ⟨hs0⟩, ⟨hbr⟩, ⟨R6⟩⟩ := hcut
            have T5 := T4.to hbr
            have P3 := P1''.to hbr
            have P4 := P2''.to hbr
            obtain ⟨a0, a1, a2, a3, a4⟩ := T5.f
            obtain ⟨p0, p1, p2, p3, p4⟩ := P3.f
            obtain ⟨q0, q1, q2, q3, q4⟩ := P4.f
            obtain ⟨r0, r1, r2, r3, r4⟩ := R6.f
            go_upto_if 94 with (fail)
            go_cut [8] (fun s wc => ∃ d2 : Bool, s = .int .i64 (enc d1 d2 b3 b4) ∧ Aside0 ((b2 = true → d2 = true) ∧ (p[k].1 = y0 → d2 = true)) ∧ Aside0 (Below w4.heap.size w4 wc) ∧ Aside0 (B2 wc wr.heap.size 40 (.int .i64 p[k].1) (.int .i64 p[k].2)))
            case first =>
              have o1 := or2 d1 b2 b3 b4
              by_cases he : p[k].1 = y0
              · have e1 : (p[k].1 == y0) = true := beq_iff_eq.mpr he
                have He := Lib.hid he
                clear he
                go_wp2
                go_meet
                case rel => exact ⟨true, rfl, ⟨fun _ => rfl, fun _ => rfl⟩, ⟨bl⟩, ⟨R6⟩⟩
              · have e1 : (p[k].1 == y0) = false := beq_eq_false_iff_ne.mpr he
                have He := Lib.hid he
                clear he o1
                go_wp2
                go_meet
                case rel => exact ⟨b2, rfl, ⟨fun h => h, fun h => absurd h He.out⟩, ⟨bl⟩, ⟨R6⟩⟩
            case rest =>
              clear a0 a1 a2 a3 a4 p0 p1 p2 p3 p4 q0 q1 q2 q3 q4 T5 P3 P4
              clear r0 r1 r2 r3 r4 R6
              clear hbr
              obtain ⟨d2, rfl, ⟨hs1⟩, ⟨hbr⟩, ⟨R6⟩⟩ := hcut
              have T5 := T4.to hbr
              have P3 := P1''.to hbr
              have P4 := P2''.to hbr
              obtain ⟨a0, a1, a2, a3, a4⟩ := T5.f
              obtain ⟨p0, p1, p2, p3, p4⟩ := P3.f
              obtain ⟨q0, q1, q2, q3, q4⟩ := P4.f
              obtain ⟨r0, r1, r2, r3, r4⟩ := R6.f
              go_upto_if 101 with (fail)
              go_cut [8] (fun s wc => ∃ d3 : Bool, s = .int .i64 (enc d1 d2 d3 b4) ∧ Aside0 ((b3 = true → d3 = true) ∧ (p[k].2 = x1 → d3 = true)) ∧ Aside0 (Below w4.heap.size w4 wc) ∧ Aside0 (B2 wc wr.heap.size 40 (.int .i64 p[k].1) (.int .i64 p[k].2)))
              case first =>
                have o1 := or4 d1 d2 b3 b4
                by_cases he : p[k].2 = x1
                · have e1 : (p[k].2 == x1) = true := beq_iff_eq.mpr he
                  have He := Lib.hid he
                  clear he
                  go_wp2
                  go_meet
                  case rel => exact ⟨true, rfl, ⟨fun _ => rfl, fun _ => rfl⟩, ⟨bl⟩, ⟨R6⟩⟩
                · have e1 : (p[k].2 == x1) = false := beq_eq_false_iff_ne.mpr he
                  have He := Lib.hid he
                  clear he o1
                  go_wp2
                  go_meet
                  case rel => exact ⟨b3, rfl, ⟨fun h => h, fun h => absurd h He.out⟩, ⟨bl⟩, ⟨R6⟩⟩
              case rest =>
                clear a0 a1 a2 a3 a4 p0 p1 p2 p3 p4 q0 q1 q2 q3 q4 T5 P3 P4
                clear r0 r1 r2 r3 r4 R6
                clear hbr
                obtain ⟨d3, rfl, ⟨hs2⟩, ⟨hbr⟩, ⟨R6⟩⟩ := hcut
                have T5 := T4.to hbr
                have P3 := P1''.to hbr
                have P4 := P2''.to hbr
                obtain ⟨a0, a1, a2, a3, a4⟩ := T5.f
                obtain ⟨p0, p1, p2, p3, p4⟩ := P3.f
                obtain ⟨q0, q1, q2, q3, q4⟩ := P4.f
                obtain ⟨r0, r1, r2, r3, r4⟩ := R6.f
                have o1 := or8 d1 d2 d3 b4
                by_cases he : p[k].2 = y1
                · have e1 : (p[k].2 == y1) = true := beq_iff_eq.mpr he
                  have He := Lib.hid he
                  clear he
                  go_wp2
                  exact ⟨⟨k + 1, d1, d2, d3, true, by omega, rfl, rfl, ⟨sides_step hsd hlt hs0 hs1 hs2 ⟨fun _ => rfl, fun _ => rfl⟩⟩, ⟨bl⟩⟩, by simp [intOf]; omega⟩
                · have e1 : (p[k].2 == y1) = false := beq_eq_false_iff_ne.mpr he
                  have He := Lib.hid he
                  clear he o1
                  go_wp2
                  exact ⟨⟨k + 1, d1, d2, d3, b4, by omega, rfl, rfl, ⟨sides_step hsd hlt hs0 hs1 hs2 ⟨fun h => h, fun h => absurd h He.out⟩⟩, ⟨bl⟩⟩, by simp [intOf]; omega⟩
        · have he : k = p.length := by omega
          have hlt2 : decide ((k : Int) < (p.length : Int)) = false := decide_eq_false (by omega)
          obtain ⟨⟨i1, j1, e1⟩, ⟨i3, j3, e3⟩⟩ := lo_at p hp0 p.length (Nat.le_refl _)
          obtain ⟨⟨i2, j2, e2⟩, ⟨i4, j4, e4⟩⟩ := hi_at p hp0 p.length (Nat.le_refl _)
          rw [HZ1.out] at e1 e3
          rw [HZ2.out] at e2 e4
          obtain rfl := (hsd i1 j1 (by omega)).1 e1
          obtain rfl := (hsd i2 j2 (by omega)).2.1 e2
          obtain rfl := (hsd i3 j3 (by omega)).2.2.1 e3
          obtain rfl := (hsd i4 j4 (by omega)).2.2.2 e4
          clear he e1 e2 e3 e4
          go_wp2
          go_ret
          exact ⟨rfl, bl⟩
  · have hd : decide ((1048576 : Int) < (l.length : Int)) = true := decide_eq_true (by omega)
    go_enter Try.func9, Try.ntmps9
    go_wp2
    go_ret
    exact ⟨rfl, bl⟩
end Go.Proofs.Ytfapledohlckoaa
