/- Contracts: texts of numbers and of shapes. -/
import Derived.Test.YtfbhjknkofnohaaDoorB
import Derived.Test.YtfbhjknkofnohaaDoorFp
import Derived.Test.YtfbhjknkofnohaaDoorDw
import Derived.Test.YtfbhjknkofnohaaDoorM
import Derived.Test.YtfbhjknkofnohaaDoorTl
import Derived.Test.YtfbhjknkofnohaaDoorSi
import Derived.Lib.ItoaLen
import Derived.Lib.ItoaMem
import Derived.Lib.AppendIntMem
namespace Go.Proofs.YtfbhjknkofnohaaDoor
open Go.RowKit Go.Proofs.YtfbhjknkofnohaaDoorW.PrintWords Go.Proofs.YtfbhjknkofnohaaDoorW.PrintLast
set_option maxRecDepth 100000
set_option linter.unusedVariables false
set_option linter.unusedSimpArgs false
section
variable {P : Program} {ops : Array Oper} {Q : Exit → Act → World → Prop} {S : World → Prop} {T : Bool × List (List Nat × List Nat)} {i k n fuel : Nat} {p ds : List Nat} {oi : Oper} {a a' : Act} {w : World} {L : List (Addr × Value)}
theorem add_run {t t2 : TypeId} {s x : Operand} {u v : ByteArray} (hop : oi.op = .binOp .add t s x t2) (hs : a.eval s = .string u) (hx : a.eval x = .string v) (hsz : u.size + v.size ≤ 9223372036854775807) (w' : World) : (execOp a.eval oi).run P w' = .ok (.value (.string (u ++ v))) w' := by
  have h1 := run_string_add_sum (P := P) w' u v hsz
  unfold execOp
  rw [hop]
  simp only [hs, hx]
  go_simp
/-- Two texts put together. -/
theorem rgAdd {t t2 : TypeId} {s x : Operand} {u v : ByteArray} (hT : Aside0 (rtab .any ops = T)) (h : wpAnyLast P .any ops Q S [] fuel (lit p (k + 1) n) a' w) (hk : p[k]? = some i := by (try simp only [List.getElem?_cons_succ, List.getElem?_cons_zero]); rfl) (hi : ops[i]? = some oi := by (try simp only [List.getElem?_toArray, List.getElem?_cons_succ, List.getElem?_cons_zero]); rfl) (hop : oi.op = .binOp .add t s x t2 := by rfl) (hs : a.eval s = .string u := by rfl) (hx : a.eval x = .string v := by rfl) (hw : Region.wanted oi (yielded ops a.tmps) = true := by rfl)
    (hsz : u.size + v.size ≤ 9223372036854775807 := by (try simp only [ByteArray.size_append]); omega)
    (ha : a.put oi.dst (.string (u ++ v)) = a' := by simp only [Act.put, List.setIfInBounds_toArray, List.set_cons_zero, List.set_cons_succ]; rfl) (hc : anyT T (lit p k n).toList (lit p (k + 1) n).toList i = true := by kernel_rfl) (hQ : ∀ c a w, Q (.panic c) (a.put oi.dst (.string (u ++ v))) w → Q (.panic c) a w := by exact fun _ _ _ h => h) : wpAnyLast P .any ops Q S [] (fuel + 1) (lit p k n) a w :=
  rgP hT h hk hi hw (fun w' => add_run hop hs hx hsz w') ha hc hQ
theorem cgAdd {t t2 : TypeId} {s x : Operand} {u v : ByteArray} (hT : Aside0 (rtab .any ops = T)) (h : wpAnyLast P .any ops Q S ds fuel (lit p (k + 1) n) a' w) (hk : p[k]? = some i := by (try simp only [List.getElem?_cons_succ, List.getElem?_cons_zero]); rfl) (hi : ops[i]? = some oi := by (try simp only [List.getElem?_toArray, List.getElem?_cons_succ, List.getElem?_cons_zero]); rfl) (hop : oi.op = .binOp .add t s x t2 := by rfl) (hs : a.eval s = .string u := by rfl) (hx : a.eval x = .string v := by rfl) (hw : Region.wanted oi (yielded ops a.tmps) = true := by rfl)
    (hsz : u.size + v.size ≤ 9223372036854775807 := by (try simp only [ByteArray.size_append]); omega)
    (ha : a.put oi.dst (.string (u ++ v)) = a' := by simp only [Act.put, List.setIfInBounds_toArray, List.set_cons_zero, List.set_cons_succ]; rfl) (hc : anyT T (lit p k n).toList (lit p (k + 1) n).toList i = true := by kernel_rfl) (hQ : ∀ c a w, Q (.panic c) (a.put oi.dst (.string (u ++ v))) w → Q (.panic c) a w := by exact fun _ _ _ h => h) : wpAnyLast P .any ops Q S ds (fuel + 1) (lit p k n) a w :=
  cgP hT h hk hi hw (fun w' => add_run hop hs hx hsz w') ha hc hQ
end
theorem sz_sp : (⟨#[32]⟩ : ByteArray).size = 1 := rfl
theorem sz_cm : (⟨#[44]⟩ : ByteArray).size = 1 := rfl
/-- The numeral of a number. -/
def dec (n : Int) : ByteArray := ⟨(Lib.itoa n).toArray⟩
def decB (u : Nat) : ByteArray := ⟨(Lib.decDigits u).toArray⟩
theorem dec_nat (u : Nat) : dec (u : Int) = decB u := by unfold dec decB; rw [Lib.itoa_nonneg]
theorem dec_neg (u : Nat) (h : 1 ≤ u) : dec (-(u : Int)) = (⟨#[45]⟩ : ByteArray) ++ decB u := by
  unfold dec decB
  rw [Lib.itoa_neg u h]
  apply ByteArray.ext
  simp
theorem decB_one {k : Nat} (h : k < 10) : strOfNums [48 + (k : Int)] = decB k := by
  unfold decB strOfNums
  rw [Lib.decDigits, dif_pos h]
  have : (48 + (k : Int)).toNat = 48 + k := by omega
  simp [this]
theorem decB_big {k : Nat} (h : ¬ k < 10) : decB k = decB (k / 10) ++ strOfNums [48 + (k : Int) % 10] := by
  unfold decB strOfNums
  rw [Lib.decDigits, dif_neg h]
  have : (48 + (k : Int) % 10).toNat = 48 + k % 10 := by omega
  apply ByteArray.ext
  simp [this]
theorem decB_size {u : Nat} (h : u ≤ 1000000) : (decB u).size ≤ 21 := by
  have := Lib.itoa_length_le (u : Int) (by omega) (by omega)
  rw [Lib.itoa_nonneg] at this
  simpa [decB, ByteArray.size] using this
theorem dec_size {n : Int} (h0 : -1000000 ≤ n) (h1 : n ≤ 1000000) : (dec n).size ≤ 21 := by
  have := Lib.itoa_length_le n (by omega) (by omega)
  simpa [dec, ByteArray.size] using this
theorem Itoa_c (n : Int) (h0 : -1000000 ≤ n) (h1 : n ≤ 1000000) (w : World) (T : Tied w) :
    Calls Tryd.prog 69 #[.int .i64 n] w fun e w' => e = .returned (.string (dec n)) ∧ Below w.heap.size w w' :=
  (Tryd.strconv_Itoa n (by omega) (by omega) w T.tab).mono fun e w' ⟨he, k, os, hw⟩ => ⟨he, hw ▸ Lib.below_grow _ w (Nat.le_refl _) k os⟩
set_option maxHeartbeats 1000000 in
theorem l12DecN_c (n : Nat) (w : World) (hn : n ≤ 1000000) :
    Calls Tryd.prog 45 #[.int .i64 n] w fun e w' => e = .returned (.string (decB n)) ∧ Below w.heap.size w w' := by
  have d1 : decide ((n : Int) < -9223372036854775807) = false := decide_eq_false (by omega)
  have d2 : decide ((n : Int) < 0) = false := decide_eq_false (by omega)
  have hz := Lib.hid (decB_size hn)
  go_enter Tryd.func45, Tryd.ntmps45
  go_wp2
  go_loopw [0, 3] (fun q o wr => ∃ (j : Nat) (s : ByteArray), j ≤ 1000000 ∧ q = .int .i64 j ∧ o = .string s ∧ Aside0 (decB j ++ s = decB n) ∧ s.size ≤ 21 ∧ Aside0 (Below w.heap.size w wr)) (fun q _ _ => (intOf q).toNat)
  case atStart => exact ⟨n, ⟨#[]⟩, hn, rfl, rfl, ⟨by apply ByteArray.ext; simp⟩, by decide, ⟨Below.refl _ _⟩⟩
  case round =>
    obtain ⟨j, s, hj9, rfl, rfl, he, hs, ⟨hb⟩⟩ := hrel
    by_cases hj : 9 < j
    · have d3 : decide ((9 : Int) < (j : Int)) = true := decide_eq_true (by omega)
      have hcv := string_of_reads (P := Tryd.prog) (w := wr.alloc (.cells #[.int .u8 (48 + (j : Int) % 10)] 5)) (src := 35) (dst := 9) (e := 5) (A := some ⟨wr.heap.size, 0, none⟩) (n := 1) (c := 1) (xs := [48 + (j : Int) % 10]) Tryd.underlying35 Tryd.underlying5 Tryd.underlying9 ⟨rfl, by decide, fun _ => ⟨_, rfl, fun i hi => by
        obtain rfl : i = 0 := by omega
        rw [add_zero']
        exact cbn 0 (Below.refl _ _) rfl⟩⟩
      have hsz := strOfNums_size [48 + (j : Int) % 10]
      have he2 := Lib.hid (show decB (j / 10) ++ (strOfNums [48 + (j : Int) % 10] ++ s) = decB n by rw [← he.out, decB_big (by omega : ¬ j < 10), ByteArray.append_assoc])
      have hs2 := Lib.hid (show (strOfNums [48 + (j : Int) % 10] ++ s).size ≤ 21 by
        have := congrArg ByteArray.size he2.out
        rw [ByteArray.size_append] at this
        have := hz.out
        omega)
      clear he
      go_wp2
      exact ⟨⟨j / 10, _, by omega, rfl, rfl, ⟨he2.out⟩, hs2.out, ⟨bl⟩⟩, by simp [intOf]; omega⟩
    · have d3 : decide ((9 : Int) < (j : Int)) = false := decide_eq_false (by omega)
      have hcv := string_of_reads (P := Tryd.prog) (w := wr.alloc (.cells #[.int .u8 (48 + (j : Int))] 5)) (src := 35) (dst := 9) (e := 5) (A := some ⟨wr.heap.size, 0, none⟩) (n := 1) (c := 1) (xs := [48 + (j : Int)]) Tryd.underlying35 Tryd.underlying5 Tryd.underlying9 ⟨rfl, by decide, fun _ => ⟨_, rfl, fun i hi => by
        obtain rfl : i = 0 := by omega
        rw [add_zero']
        exact cbn 0 (Below.refl _ _) rfl⟩⟩
      have hsz := strOfNums_size [48 + (j : Int)]
      have hx := Lib.hid (show strOfNums [48 + (j : Int)] ++ s = decB n by rw [decB_one (by omega), he.out])
      have hw : IntKind.i64.wrap (48 + (j : Int)) = 48 + (j : Int) := IntWalk.i64_in _ (by omega)
      clear he
      go_wp2
      go_ret
      exact ⟨by rw [hx.out]; rfl, bl⟩
theorem l12Dec_c (n : Int) (w : World) (h0 : -1000000 ≤ n) (h1 : n ≤ 1000000) :
    Calls Tryd.prog 45 #[.int .i64 n] w fun e w' => e = .returned (.string (dec n)) ∧ Below w.heap.size w w' := by
  by_cases hn : 0 ≤ n
  · obtain ⟨k, rfl⟩ : ∃ k : Nat, n = k := ⟨n.toNat, by omega⟩
    rw [dec_nat]
    exact l12DecN_c k w (by omega)
  · obtain ⟨k, rfl⟩ : ∃ k : Nat, n = -(k : Int) := ⟨(-n).toNat, by omega⟩
    have d1 : decide (-(k : Int) < -9223372036854775807) = false := decide_eq_false (by omega)
    have d2 : decide (-(k : Int) < 0) = true := decide_eq_true (by omega)
    have hw : IntKind.i64.wrap (- -(k : Int)) = (k : Int) := by rw [IntWalk.i64_in _ (by omega)]; omega
    have hz := decB_size (show k ≤ 1000000 by omega)
    have hx := Lib.hid (dec_neg k (by omega))
    go_enter Tryd.func45, Tryd.ntmps45
    go_wp2_with fail
    refine (l12DecN_c k _ (by omega)).mono ?_
    rintro e w1 ⟨rfl, hb1⟩
    go_wp2
    go_ret
    exact ⟨by rw [hx.out]; rfl, bl⟩
/-! Texts of shapes. -/
def ptText (p : Pt) : ByteArray := (((⟨#[32]⟩ : ByteArray) ++ dec p.1) ++ ⟨#[44]⟩) ++ dec p.2
def kindW (K : Int) : ByteArray := kindWs.getD K.toNat ByteArray.empty
/-- The text of a shape. -/
def shText (K : Int) (l : List Pt) : ByteArray := l.foldl (fun o p => o ++ ptText p) (kindW K)
theorem shText_take (K : Int) (l : List Pt) (k : Nat) (h : k < l.length) : shText K (l.take (k + 1)) = shText K (l.take k) ++ ptText l[k] := by
  unfold shText
  rw [List.take_succ_eq_append_getElem h, List.foldl_append]
  rfl
theorem ptText_size {p : Pt} (h : ptOk p = true) : (ptText p).size ≤ 44 := by
  unfold ptOk inB at h
  simp only [Bool.and_eq_true, decide_eq_true_eq] at h
  have h1 := dec_size (n := p.1) (by omega) (by omega)
  have h2 := dec_size (n := p.2) (by omega) (by omega)
  unfold ptText
  simp only [ByteArray.size_append]
  have h3 : (⟨#[32]⟩ : ByteArray).size = 1 := rfl
  have h4 : (⟨#[44]⟩ : ByteArray).size = 1 := rfl
  omega
theorem kindW_size (K : Int) : (kindW K).size ≤ 4 := by
  unfold kindW
  rcases Nat.lt_or_ge K.toNat 4 with h | h
  · have : ∀ i, i < 4 → (kindWs.getD i ByteArray.empty).size ≤ 4 := by decide
    exact this _ h
  · rw [List.getD_eq_getElem?_getD, List.getElem?_eq_none (by exact h)]
    decide
theorem shText_size (K : Int) (l : List Pt) (h : ∀ p ∈ l, ptOk p = true) : (shText K l).size ≤ 4 + 44 * l.length := by
  have : ∀ (l : List Pt) (o : ByteArray), (∀ p ∈ l, ptOk p = true) → (l.foldl (fun o p => o ++ ptText p) o).size ≤ o.size + 44 * l.length := by
    intro l
    induction l with
    | nil => intro o _; simp
    | cons p l ih =>
      intro o h
      have h1 := ih (o ++ ptText p) (fun q hq => h q (List.mem_cons_of_mem _ hq))
      have h2 := ptText_size (h p List.mem_cons_self)
      rw [ByteArray.size_append] at h1
      simp only [List.foldl_cons, List.length_cons]
      omega
  have h1 := this l (kindW K) h
  have h2 := kindW_size K
  unfold shText
  omega
theorem PtsOk.all {l : List Pt} (h : PtsOk l) : ∀ p ∈ l, ptOk p = true := fun p hp => by
  obtain ⟨i, hi, rfl⟩ := List.getElem_of_mem hp
  exact (h i hi hi).1
theorem ShapeOk.kind {K : Int} {l : List Pt} (h : ShapeOk K l) : K = 1 ∨ K = 2 ∨ K = 3 := by
  rcases h.2 with h | h | h <;> omega
theorem l1Word_c (K : Int) (w : World) (hK : K = 1 ∨ K = 2 ∨ K = 3) :
    Calls Tryd.prog 38 #[.int .i64 K] w fun e w' => e = .returned (.string (kindW K)) ∧ Below w.heap.size w w' := by
  rcases hK with rfl | rfl | rfl <;>
  · go_enter Tryd.func38, Tryd.ntmps38
    go_wp2
    go_ret
    exact ⟨rfl, bl⟩
def s_ShapeText_T7 : Bool × List (List Nat × List Nat) := (true, [([], []), ([0], [0]), ([], []), ([2], [2]), ([], []), ([3, 4], [3, 4]), ([5], [5]), ([6], [6]), ([7], [7]), ([1, 8], [1, 8]), ([9], [9]), ([], []), ([11], [11]), ([], []), ([12, 13], [12, 13]), ([14], [14]), ([15], [15]), ([16, 8], [16]), ([10, 17], [10, 17]), ([18, 17, 0, 1, 2, 3, 4, 5, 6, 7, 8, 9, 10, 11, 12, 13, 14, 15, 16, 17, 18], [0, 18])])
theorem s_ShapeText_t7 : rtab .any (opsOf Tryd.f18 7) = s_ShapeText_T7 := by kernel_rfl
set_option maxHeartbeats 4000000 in
theorem sShapeText_c (K : Int) (A : Option Addr) (c : Nat) (l : List Pt) (w : World) (hl : kPt.C w A l.length l) (hok : ShapeOk K l) :
    Calls Tryd.prog 18 #[.agg #[.int .i64 K, .slice A l.length c]] w fun e w' => e = .returned (.string (shText K l)) ∧ Below w.heap.size w w' := by
  have hn : l.length ≤ 6 := hok.le
  have hpt := hok.1.all
  have hI := fun w h => sShapeOk_c K A c l w h (by omega)
  rw [shapeOk_t.2 hok] at hI
  have HI := Lib.hid hI
  have hKK := hok.kind
  have HP := Lib.hid hpt
  clear hI hok hpt
  have hw1 := l1Word_c K
  go_enter Tryd.func18, Tryd.ntmps18
  have HC : Cells (w.alloc (.cells #[.int .i64 K, .slice A l.length c] 30)) _ := (Cells.nil w).box (Below.refl _ _)
  go_wp2_with fail
  refine (HI.out _ (Kd.C_below hl bl)).mono ?_
  rintro e w1 ⟨rfl, hb1⟩
  replace HC := HC.to hb1
  obtain ⟨h0, h1, _⟩ := HC.all
  go_wp2_with fail
  refine (l1Word_c K _ hKK).mono ?_
  rintro e w2 ⟨rfl, hb2⟩
  replace HC := HC.to hb2
  clear h0 h1
  obtain ⟨h0, h1, _⟩ := HC.all
  have B2 : Below w.heap.size w w2 := bl
  go_wp2
  go_loopw [3, 4] (fun q i wr => ∃ k : Nat, k ≤ l.length ∧ i = .int .i64 k ∧ q = .string (shText K (l.take k)) ∧ Aside0 (Below w2.heap.size w2 wr)) (fun _ i _ => l.length - (intOf i).toNat)
  case atStart => exact ⟨0, by omega, rfl, rfl, ⟨Below.refl _ _⟩⟩
  case round =>
    obtain ⟨k, hk, rfl, rfl, ⟨hbr⟩⟩ := hrel
    replace HC := HC.to hbr
    clear h0 h1
    obtain ⟨h0, h1, _⟩ := HC.all
    have Bw := B2.trans (hbr.mono B2.size)
    by_cases hlt : k < l.length
    · have d1 : decide ((k : Int) < (l.length : Int)) = true := decide_eq_true (by omega)
      obtain ⟨ad, rfl, e0, e1⟩ := at_Pt hl k hlt
      replace e0 := pw_cell_below Bw e0
      replace e1 := pw_cell_below Bw e1
      have hw : IntKind.i64.wrap ((k : Int) + 1) = (k : Int) + 1 := IntWalk.i64_in _ (by omega)
      have hp := HP.out _ (List.getElem_mem hlt)
      unfold ptOk inB at hp
      simp only [Bool.and_eq_true, decide_eq_true_eq] at hp
      have hs1 := shText_size K (l.take k) (fun p hp => HP.out p (List.mem_of_mem_take hp))
      rw [List.length_take] at hs1
      replace hs1 : (shText K (l.take k)).size ≤ 300 := by omega
      have Hx := Lib.hid (show shText K (l.take (k + 1)) = _ from shText_take K l k hlt)
      generalize shText K (l.take k) = o at *
      generalize l[k] = p at *
      have z1 := dec_size (n := p.1) (by omega) (by omega)
      have z2 := dec_size (n := p.2) (by omega) (by omega)
      have c1 := l12Dec_c p.1
      have c2 := l12Dec_c p.2
      have C1 := Lib.hid c1
      have C2 := Lib.hid c2
      clear c1 c2
      have Hd := Lib.hid (show ptText p = (((⟨#[32]⟩ : ByteArray) ++ dec p.1) ++ ⟨#[44]⟩) ++ dec p.2 from rfl)
      generalize dec p.1 = x at *
      generalize dec p.2 = y at *
      go_wp2
      have zsp := sz_sp
      have zcm := sz_cm
      refine rgStart 20 [0, 1, 2, 3, 4, 5, 6, 7, 11, 12, 13, 14, 15, 16, 8, 9, 10, 17, 18, 19] s_ShapeText_t7 (fun HT HS => ?_)
      repeat ((with_reducible refine rgGate ?_); first | refine rgAdd HT ?_ | refine rgP HT ?_ | refine rgL HT ?_ | refine rgG HT ?_)
      refine rgCall HT Tryd.func45 (C1.out _ (by omega) (by omega)) ?_
      rintro e q1 ⟨rfl, hq1⟩
      refine ⟨_, rfl, bl, rgN ?_⟩
      repeat ((with_reducible refine rgGate ?_); first | refine rgAdd HT ?_ | refine rgP HT ?_ | refine rgL HT ?_ | refine rgG HT ?_)
      refine rgCall HT Tryd.func45 (C2.out _ (by omega) (by omega)) ?_
      rintro e q2 ⟨rfl, hq2⟩
      refine ⟨_, rfl, bl, rgN ?_⟩
      repeat ((with_reducible refine rgGate ?_); first | refine rgAdd HT ?_ | refine rgP HT ?_ | refine rgL HT ?_ | refine rgG HT ?_)
      refine rgDone HT ?_
      clear HT HS
      go_wp2
      refine ⟨⟨k + 1, by omega, by go_num, ?_, ⟨bl⟩⟩, by simp [intOf]; omega⟩
      rw [Hx.out, Hd.out]
      simp only [ByteArray.append_assoc]
    · have d1 : decide ((k : Int) < (l.length : Int)) = false := decide_eq_false (by omega)
      obtain rfl : k = l.length := by omega
      rw [List.take_length]
      go_wp2
      go_ret
      exact ⟨rfl, Bw⟩
def i_text_T5 : Bool × List (List Nat × List Nat) := (true, [([], []), ([], []), ([1], [1]), ([2], [2]), ([3], [3]), ([4], [4]), ([], []), ([6], [6]), ([7, 3], [7]), ([5, 8], [5, 8]), ([0, 9], [0, 9]), ([10, 8, 0, 1, 2, 3, 4, 5, 6, 7, 8, 9, 10], [0, 10])])
theorem i_text_t5 : rtab .any (opsOf Tryd.f44 5) = i_text_T5 := by kernel_rfl
set_option maxHeartbeats 4000000 in
theorem text_c (K : Int) (A : Option Addr) (c : Nat) (l : List Pt) (w : World) (hl : kPt.C w A l.length l) (hok : ShapeOk K l) (T : Tied w) :
    Calls Tryd.prog 44 #[.agg #[.int .i64 K, .slice A l.length c]] w fun e w' => e = .returned (.string (shText K l)) ∧ Below w.heap.size w w' := by
  have hn : l.length ≤ 6 := hok.le
  have HP := Lib.hid hok.1.all
  have hKK := hok.kind
  obtain ⟨a, cc, hc4, g0, g1⟩ := T.nm
  obtain ⟨j, hj4, rfl⟩ : ∃ j : Nat, j < 4 ∧ K = (j : Int) := ⟨K.toNat, by omega, by omega⟩
  have gj := g1 j hj4
  have hkw : kindWs.getD j ByteArray.empty = kindW (j : Int) := rfl
  rw [hkw] at gj
  clear hkw g1 hok
  have gb0 := World.block_lt_of_cell? _ _ g0
  have gbj := World.block_lt_of_cell? _ _ gj
  go_enter Tryd.func44, Tryd.ntmps44
  have HC : Cells (w.alloc (.cells #[.int .i64 (j : Int), .slice A l.length c] 30)) _ := (Cells.nil w).box (Below.refl _ _)
  obtain ⟨h0, h1, _⟩ := HC.all
  go_wp2
  go_loopw [3, 14] (fun q i wr => ∃ k : Nat, k ≤ l.length ∧ i = .int .i64 k ∧ q = .string (shText j (l.take k)) ∧ Aside0 (Below w.heap.size w wr)) (fun _ i _ => l.length - (intOf i).toNat)
  case atStart => exact ⟨0, by omega, rfl, rfl, ⟨bl⟩⟩
  case round =>
    obtain ⟨k, hk, rfl, rfl, ⟨Bw⟩⟩ := hrel
    by_cases hlt : k < l.length
    · have d1 : decide ((k : Int) < (l.length : Int)) = true := decide_eq_true (by omega)
      obtain ⟨ad, rfl, e0, e1⟩ := at_Pt hl k hlt
      replace e0 := pw_cell_below Bw e0
      replace e1 := pw_cell_below Bw e1
      have hw : IntKind.i64.wrap ((k : Int) + 1) = (k : Int) + 1 := IntWalk.i64_in _ (by omega)
      have hp := HP.out _ (List.getElem_mem hlt)
      unfold ptOk inB at hp
      simp only [Bool.and_eq_true, decide_eq_true_eq] at hp
      have hs1 := shText_size j (l.take k) (fun p hp => HP.out p (List.mem_of_mem_take hp))
      rw [List.length_take] at hs1
      replace hs1 : (shText j (l.take k)).size ≤ 300 := by omega
      have Hx := Lib.hid (show shText j (l.take (k + 1)) = _ from shText_take j l k hlt)
      generalize shText j (l.take k) = o at *
      generalize l[k] = p at *
      have z1 := dec_size (n := p.1) (by omega) (by omega)
      have z2 := dec_size (n := p.2) (by omega) (by omega)
      have c1 := Itoa_c p.1 (by omega) (by omega)
      have c2 := Itoa_c p.2 (by omega) (by omega)
      have C1 := Lib.hid c1
      have C2 := Lib.hid c2
      clear c1 c2
      have Hd := Lib.hid (show ptText p = (((⟨#[32]⟩ : ByteArray) ++ dec p.1) ++ ⟨#[44]⟩) ++ dec p.2 from rfl)
      generalize dec p.1 = x at *
      generalize dec p.2 = y at *
      have zsp := sz_sp
      have zcm := sz_cm
      have HB := B2.new' (W := wr.alloc (.cells #[.int .i64 p.1, .int .i64 p.2] 58)) wr wr.heap.size (.int .i64 p.1) (.int .i64 p.2) 58
      obtain ⟨y0, y1, y2, y3, y4⟩ := HB.f
      go_wp2
      refine rgStart 12 [0, 1, 2, 6, 7, 3, 4, 5, 8, 9, 10, 11] i_text_t5 (fun HT HS => ?_)
      repeat ((with_reducible refine rgGate ?_); first | refine rgAdd HT ?_ | refine rgP HT ?_ | refine rgL HT ?_ | refine rgG HT ?_)
      refine rgCall HT Tryd.func69 (C1.out _ (T.to bl)) ?_
      rintro e q1 ⟨rfl, hq1⟩
      refine ⟨_, rfl, bl, rgN ?_⟩
      repeat ((with_reducible refine rgGate ?_); first | refine rgAdd HT ?_ | refine rgP HT ?_ | refine rgL HT ?_ | refine rgG HT ?_)
      refine rgCall HT Tryd.func69 (C2.out _ (T.to bl)) ?_
      rintro e q2 ⟨rfl, hq2⟩
      refine ⟨_, rfl, bl, rgN ?_⟩
      repeat ((with_reducible refine rgGate ?_); first | refine rgAdd HT ?_ | refine rgP HT ?_ | refine rgL HT ?_ | refine rgG HT ?_)
      refine rgDone HT ?_
      clear HT HS
      go_wp2
      refine ⟨⟨k + 1, by omega, by go_num, ?_, ⟨bl⟩⟩, by simp [intOf]; omega⟩
      rw [Hx.out, Hd.out]
    · have d1 : decide ((k : Int) < (l.length : Int)) = false := decide_eq_false (by omega)
      obtain rfl : k = l.length := by omega
      rw [List.take_length]
      go_wp2
      go_ret
      exact ⟨rfl, Bw⟩
end Go.Proofs.YtfbhjknkofnohaaDoor
