/- Law: the area of a drawn ring is the sum of the areas that its first point cuts it into. -/
import Derived.Test.YtfapledohlckoaaD
import Derived.Test.YtfapledohlckoaaDu
namespace Go.Proofs.Ytfapledohlckoaa
open Go.RowKit Go.Proofs.YtfapledohlckoaaW.PrintWords Go.Proofs.YtfapledohlckoaaW.PrintLast
set_option linter.unusedVariables false
set_option linter.unusedSimpArgs false
theorem tri_alg (a b q : Pt) : cross a q + (a.1 - q.1) * (b.2 - q.2) - (b.1 - q.1) * (a.2 - q.2) = cross a b + cross b q := by
  unfold cross
  simp only [Int.sub_mul, Int.mul_sub]
  generalize a.1 * b.2 = x1
  generalize a.1 * q.2 = x2
  generalize q.1 * b.2 = x3
  generalize q.1 * q.2 = x4
  generalize b.1 * a.2 = x5
  generalize b.1 * q.2 = x6
  generalize q.1 * a.2 = x7
  omega
theorem nxt_in (l : List Pt) (k : Nat) (h : k + 1 < l.length) : nxt l k = k + 1 := Nat.mod_eq_of_lt h
/-- What has been summed ahead of place k. -/
def tri (l : List Pt) (k : Nat) : Int := areaTo l k + cross (l.getD k (0, 0)) (l.getD 0 (0, 0))
theorem tri_one (l : List Pt) (h : 1 < l.length) : tri l 1 = 0 := by
  unfold tri
  simp only [areaTo, nxt_in l 0 h, cross, Nat.zero_add]
  omega
theorem getDk (l : List Pt) {k : Nat} (h : k < l.length) : l.getD k (0, 0) = l[k] := by rw [List.getD_eq_getElem?_getD, List.getElem?_eq_getElem h]; rfl
theorem tri_step (l : List Pt) (k : Nat) (h : k + 1 < l.length) (h0 : 0 < l.length) (hk : k < l.length) : tri l k + (l[k].1 - l[0].1) * (l[k + 1].2 - l[0].2) - (l[k + 1].1 - l[0].1) * (l[k].2 - l[0].2) = tri l (k + 1) := by
  have e := tri_alg l[k] l[k + 1] l[0]
  unfold tri
  simp only [areaTo, nxt_in l k h, getDk l h, getDk l h0, getDk l hk]
  omega
theorem tri_last (l : List Pt) (h : 0 < l.length) : tri l (l.length - 1) = areaTo l l.length := by
  obtain ⟨n, hn⟩ : ∃ n, l.length = n + 1 := ⟨l.length - 1, by omega⟩
  have e : nxt l n = 0 := by unfold nxt; rw [hn]; exact Nat.mod_self _
  rw [hn]
  show tri l n = areaTo l (n + 1)
  simp only [tri, areaTo, e]
theorem mul_le2 (a b : Int) (ha : -2000 ≤ a ∧ a ≤ 2000) (hb : -2000 ≤ b ∧ b ≤ 2000) : -4000000 ≤ a * b ∧ a * b ≤ 4000000 := by
  have h1 : a.natAbs ≤ 2000 := by omega
  have h2 : b.natAbs ≤ 2000 := by omega
  have h3 : (a * b).natAbs ≤ 4000000 := by rw [Int.natAbs_mul]; exact Nat.le_trans (Nat.mul_le_mul h1 h2) (by omega)
  omega
theorem tri_le {l : List Pt} (h : PtsOk l) (hle : l.length ≤ 6) (k : Nat) (hk : k ≤ 6) : -14000000 ≤ tri l k ∧ tri l k ≤ 14000000 := by
  have h1 := areaTo_le h k
  have h2 := cross_le (h.near k) (h.near 0)
  unfold tri
  omega
theorem triW {l : List Pt} (h : PtsOk l) (hle : l.length ≤ 6) (k : Nat) (h1 : k + 1 < l.length) (h0 : 0 < l.length) (hk : k < l.length) :
    IntKind.i64.wrap (l[k].1 - l[0].1) = l[k].1 - l[0].1 ∧ IntKind.i64.wrap (l[k + 1].2 - l[0].2) = l[k + 1].2 - l[0].2 ∧ IntKind.i64.wrap (l[k + 1].1 - l[0].1) = l[k + 1].1 - l[0].1 ∧ IntKind.i64.wrap (l[k].2 - l[0].2) = l[k].2 - l[0].2
    ∧ IntKind.i64.wrap ((l[k].1 - l[0].1) * (l[k + 1].2 - l[0].2)) = (l[k].1 - l[0].1) * (l[k + 1].2 - l[0].2) ∧ IntKind.i64.wrap ((l[k + 1].1 - l[0].1) * (l[k].2 - l[0].2)) = (l[k + 1].1 - l[0].1) * (l[k].2 - l[0].2)
    ∧ IntKind.i64.wrap (tri l k + (l[k].1 - l[0].1) * (l[k + 1].2 - l[0].2)) = tri l k + (l[k].1 - l[0].1) * (l[k + 1].2 - l[0].2)
    ∧ IntKind.i64.wrap (tri l k + (l[k].1 - l[0].1) * (l[k + 1].2 - l[0].2) - (l[k + 1].1 - l[0].1) * (l[k].2 - l[0].2)) = tri l (k + 1) := by
  have n0 := near_of (h 0 h0 h0).1
  have n1 := near_of (h k hk hk).1
  have n2 := near_of (h (k + 1) h1 h1).1
  unfold Near at n0 n1 n2
  have m1 := mul_le2 (l[k].1 - l[0].1) (l[k + 1].2 - l[0].2) (by omega) (by omega)
  have m2 := mul_le2 (l[k + 1].1 - l[0].1) (l[k].2 - l[0].2) (by omega) (by omega)
  have m3 := tri_le h hle k (by omega)
  have e := tri_step l k h1 h0 hk
  rw [← e]
  refine ⟨IntWalk.i64_in _ (by omega), IntWalk.i64_in _ (by omega), IntWalk.i64_in _ (by omega), IntWalk.i64_in _ (by omega), ?_, ?_, ?_, ?_⟩
  all_goals
    generalize (l[k].1 - l[0].1) * (l[k + 1].2 - l[0].2) = x at *
    generalize (l[k + 1].1 - l[0].1) * (l[k].2 - l[0].2) = y at *
    exact IntWalk.i64_in _ (by omega)
set_option maxHeartbeats 4000000 in
theorem FnShapeArea_c (A : Option Addr) (c : Nat) (l : List Int) (w : World) (hl : (Kd.int .u8).C w A l.length l) (hn : (l.length : Int) ≤ 140737488351232) (hb : ∀ x ∈ l, 0 ≤ x ∧ x ≤ 255) (hc : l.length ≤ c) :
    Calls Try.prog 8 #[.slice A l.length c] w fun e w' => e = .returned (.bool true) ∧ Below w.heap.size w w' := by
  by_cases hs : (l.length : Int) ≤ 1048576
  · have hd : decide ((1048576 : Int) < (l.length : Int)) = false := decide_eq_false (by omega)
    go_enter Try.func8, Try.ntmps8
    go_wp2_with fail
    refine (DrawShapeArea_d A c l _ (Kd.C_below hl bl) hb hc (by omega)).mono ?_
    rintro e w1 ⟨K, A1, c1, p, rfl, hr1, hp16, hK0, hK4, hb1⟩
    have T1 := B2.new (u := .int .i64 K) (v := .slice A1 p.length c1) (t := 31) w1
    obtain ⟨a0, a1, a2, a3, a4⟩ := T1.f
    go_wp2_with fail
    refine (iShapeArea_c _ _ _ _ _ (Kd.C_below hr1.rd.2.2 bl) (by omega)).mono ?_
    rintro e w2 ⟨rfl, hb2⟩
    have T2 := T1.to hb2
    clear a0 a1 a2 a3 a4
    obtain ⟨a0, a1, a2, a3, a4⟩ := T2.f
    go_wp2_with fail
    refine (sShapeArea_c _ _ _ _ _ (Kd.C_below hr1.rd.2.2 bl) (by omega)).mono ?_
    rintro e w3 ⟨rfl, hb3⟩
    have T3 := T2.to hb3
    clear a0 a1 a2 a3 a4
    obtain ⟨a0, a1, a2, a3, a4⟩ := T3.f
    go_wp2_with fail
    refine (sShapeOk_c _ _ _ _ _ (Kd.C_below hr1.rd.2.2 bl) (by omega)).mono ?_
    rintro e w4 ⟨rfl, hb4⟩
    have T4 := T3.to hb4
    clear a0 a1 a2 a3 a4
    obtain ⟨a0, a1, a2, a3, a4⟩ := T4.f
    cases hok : shapeOk K p with
    | false =>
      have h0 : area K p = 0 := if_neg fun h => shapeOk_f.1 hok h.1
      go_wp2
      go_ret
      exact ⟨rfl, bl⟩
    | true =>
      cases hK3 : (K != 3) with
      | true =>
        have h0 : area K p = 0 := if_neg fun h => by simp [h.2] at hK3
        go_wp2
        go_ret
        exact ⟨rfl, bl⟩
      | false =>
        have HS := Lib.hid (shapeOk_t.1 hok)
        have HK := Lib.hid (show K = 3 by simpa using hK3)
        have hle : p.length ≤ 6 := HS.out.le
        have h3 : 3 ≤ p.length := by have := HK.out; rcases HS.out.2 with h | h | h <;> omega
        have hp0 : 0 < p.length := by omega
        obtain ⟨ad, rfl, c0, c1⟩ := at_Pt0 (Kd.C_below hr1.rd.2.2 (bl : Below w1.heap.size w1 w4)) hp0
        have P5 := B2.new (u := .int .i64 p[0].1) (v := .int .i64 p[0].2) (t := 40) w4
        have T5 := T4.to (below_alloc (Below.refl _ _) (.cells #[.int .i64 p[0].1, .int .i64 p[0].2] 40))
        go_wp2
        go_loopw [5, 7] (fun s i wr => ∃ k : Nat, 1 ≤ k ∧ k < p.length ∧ i = .int .i64 k ∧ s = .int .i64 (tri p k) ∧ Aside0 (Below (w4.alloc (.cells #[.int .i64 p[0].1, .int .i64 p[0].2] 40)).heap.size (w4.alloc (.cells #[.int .i64 p[0].1, .int .i64 p[0].2] 40)) wr)) (fun _ i _ => p.length - (intOf i).toNat)
        case atStart => exact ⟨1, by omega, by omega, rfl, by rw [tri_one p (by omega)], ⟨Below.refl _ _⟩⟩
        case round =>
          obtain ⟨k, hk1, hk, rfl, rfl, ⟨hb5⟩⟩ := hrel
          have T6 := T5.to hb5
          have P6 := P5.to hb5
          clear a0 a1 a2 a3 a4 c0 c1
          obtain ⟨a0, a1, a2, a3, a4⟩ := T6.f
          obtain ⟨p0, p1, p2, p3, p4⟩ := P6.f
          have hw : IntKind.i64.wrap ((k : Int) + 1) = ((k + 1 : Nat) : Int) := by rw [IntWalk.i64_in _ (by omega)]; omega
          by_cases hlt : k + 1 < p.length
          · have hrd := Kd.C_below hr1.rd.2.2 (bl : Below w1.heap.size w1 wr)
            obtain ⟨ad1, e1, c0, c1⟩ := at_Pt hrd k hk
            cases e1
            obtain ⟨ad2, e2, d0, d1⟩ := at_Pt hrd (k + 1) hlt
            cases e2
            have hlt2 : decide (((k + 1 : Nat) : Int) < (p.length : Int)) = true := decide_eq_true (by omega)
            obtain ⟨v1, v2, v3, v4, v5, v6, v7, v8⟩ := triW HS.out.1 hle k hlt hp0 hk
            clear hr1 hrd
            go_wp2
            exact ⟨⟨k + 1, by omega, by omega, rfl, rfl, ⟨bl⟩⟩, by simp [intOf]; omega⟩
          · have hlt2 : decide (((k + 1 : Nat) : Int) < (p.length : Int)) = false := decide_eq_false (by omega)
            have he := Lib.hid (show k = p.length - 1 by omega)
            go_wp2
            go_ret
            exact ⟨ret_bool (by rw [he.out, tri_last p hp0, area, if_pos ⟨HS.out, HK.out⟩]; simp), bl⟩
  · have hd : decide ((1048576 : Int) < (l.length : Int)) = true := decide_eq_true (by omega)
    go_enter Try.func8, Try.ntmps8
    go_wp2
    go_ret
    exact ⟨rfl, bl⟩
end Go.Proofs.Ytfapledohlckoaa
