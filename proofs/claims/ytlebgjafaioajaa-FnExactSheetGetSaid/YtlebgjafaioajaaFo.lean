/- Contracts: the library's sort of a row of tags of which the last one alone is out of order. -/
import Derived.Test.YtlebgjafaioajaaFn
namespace Go.Proofs.Ytlebgjafaioajaa
open Go.RowKit Go.Proofs.YtlebgjafaioajaaW.PrintWords Go.Proofs.YtlebgjafaioajaaW.PrintLast
set_option maxRecDepth 100000
set_option linter.unusedVariables false
set_option linter.unusedSimpArgs false
section
variable {P : Program} {ops : Array Oper} {Q : Exit → Act → World → Prop} {S : World → Prop} {T : Bool × List (List Nat × List Nat)} {i k n fuel : Nat} {p : List Nat} {oi : Oper} {a : Act} {w : World}
/-- A function value without captured variables called, where it alone may come up. -/
theorem rgCallV {f : FuncId} {fn : Func} {c : Operand} {av : Array Operand} {ts : Array TypeId} {args : Array Value} {R : Ending → World → Prop} (hT : Aside0 (rtab .any ops = T)) (hf : P.funcs[f]? = some fn) (hcall : Calls P f args w R)
    (h : ∀ e w', R e w' → ∃ v, e = .returned v ∧ S w' ∧ wpAnyLast P .any ops Q S [] fuel (lit p (k + 1) n) (a.put oi.dst v) w')
    (hk : p[k]? = some i := by (try simp only [List.getElem?_cons_succ, List.getElem?_cons_zero]); rfl) (hi : ops[i]? = some oi := by (try simp only [List.getElem?_toArray, List.getElem?_cons_succ, List.getElem?_cons_zero]); rfl) (hop : oi.op = .call { callee := .value c, args := av, argTypes := ts } := by rfl) (hcv : a.eval c = .func (.func f) #[] #[] := by rfl) (hc : (readyT T.2 (lit p k n).toList == [i] && (lit p k n).toList.set i true == (lit p (k + 1) n).toList) = true := by kernel_rfl)
    (hw : Region.wanted oi (yielded ops a.tmps) = true := by rfl) (hargs : av.map a.eval = args := by ((try simp only [List.map_toArray, List.map_cons, List.map_nil]); first | done | rfl))
    (hname : (fn.name == "runtime.NumGoroutine") = false := by kernel_rfl) (hb : fn.body.isSome = true := by rfl) : wpAnyLast P .any ops Q S [] (fuel + 1) (lit p k n) a w := by
  refine one_ (lit p (k + 1) n) hi rfl (one_of hT.out hc) (by simp) (fun K hK => ?_)
  refine call_ f args hw rfl ?_ (hcall.mono fun e w' hr => ?_)
  · have he := enters_ hf hname hb args w
    unfold execOp
    simp [hop, resolve, Deferred.ofValue, hcv, invoke, hargs, he]
  · obtain ⟨v, rfl, hs, hk⟩ := h e w' hr
    exact ⟨v, rfl, hK _ _ hs (fun _ => hk)⟩
end
section
variable {α : Type}
/-- Where the sort's inner walk stands: round i, place j, the last one now at q. -/
def InsI (m p i j q : Nat) : Prop := (i < m ∧ q = m ∧ j = i) ∨ (i = m ∧ q = j ∧ p ≤ j ∧ j ≤ m)
theorem ins_step {l : List (ByteArray × α)} {x : ByteArray × α} {p : Nat} (hu : KUp l) (h1 : ∀ i, (hi : i < l.length) → i < p → ltS l[i].1 x.1 = true) (h2 : ∀ i, (hi : i < l.length) → p ≤ i → ltS x.1 l[i].1 = true)
    {i j q : Nat} (H : InsI l.length p i j q) (hj : 0 < j) : ∃ u v, (insK l x q)[j]? = some u ∧ (insK l x q)[j - 1]? = some v ∧
      (ltS u.1 v.1 = true → InsI l.length p i (j - 1) (j - 1) ∧ ((insK l x q).set j v).set (j - 1) u = insK l x (j - 1)) ∧ (ltS u.1 v.1 = false → (i < l.length ∧ q = l.length) ∨ (i = l.length ∧ q = p)) := by
  rcases H with ⟨a, rfl, rfl⟩ | ⟨rfl, rfl, b, c⟩
  · have hlt : ltS l[j - 1].1 l[j].1 = true := List.pairwise_iff_getElem.1 hu (j - 1) j (by omega) a (by omega)
    refine ⟨l[j], l[j - 1], ?_, ?_, fun h => ?_, fun _ => .inl ⟨a, rfl⟩⟩
    · rw [insK_get _ _ _ _ (Nat.le_refl _), if_pos a, List.getElem?_eq_getElem a]
    · rw [insK_get _ _ _ _ (Nat.le_refl _), if_pos (by omega), List.getElem?_eq_getElem (by omega)]
    · rw [ltS_asymm hlt] at h; cases h
  · have hj1 : q - 1 < l.length := by omega
    refine ⟨x, l[q - 1], ?_, ?_, fun h => ⟨.inr ⟨rfl, rfl, ?_, by omega⟩, ?_⟩, fun h => .inr ⟨rfl, ?_⟩⟩
    · rw [insK_get _ _ _ _ c, if_neg (by omega), if_pos rfl]
    · rw [insK_get _ _ _ _ c, if_pos (by omega), List.getElem?_eq_getElem hj1]
    · rcases Nat.lt_or_ge (q - 1) p with hp | hp
      · rw [ltS_asymm (h1 _ hj1 hp)] at h; cases h
      · exact hp
    · have := insK_swap l x (q - 1) hj1
      rw [show q - 1 + 1 = q by omega] at this
      exact this
    · rcases Nat.lt_or_ge (q - 1) p with hp | hp
      · omega
      · rw [h2 _ hj1 hp] at h; cases h
end
def g_slices_insertionSortCmpFunc_Tag_T4 : Bool × List (List Nat × List Nat) := (true, [([], []), ([], []), ([0, 1], [0, 1]), ([2], [2]), ([3], [3]), ([3], [3]), ([3], [3]), ([5, 6, 3], [3, 5, 6]), ([7, 3], [3, 7]), ([3], [3]), ([3], [3]), ([10, 3], [3, 10]), ([9, 11, 3], [3, 9, 11]), ([12, 3], [3, 12]), ([4, 8, 13, 3, 3], [3, 4, 8, 13]), ([14, 3], [3, 14]), ([3, 15], [3, 15])])
theorem g_slices_insertionSortCmpFunc_Tag_t4 : rtab .any (opsOf Try.f132 4) = g_slices_insertionSortCmpFunc_Tag_T4 := by kernel_rfl
def g_slices_insertionSortCmpFunc_Tag_T6 : Bool × List (List Nat × List Nat) := (true, [([], []), ([], []), ([], []), ([], []), ([3], [3]), ([], []), ([], []), ([6], [6]), ([5, 7], [5, 7]), ([8], [8]), ([], []), ([], []), ([10, 11], [10, 11]), ([12], [12]), ([0, 1, 0, 1, 5, 6, 7, 8, 9, 13], [0, 1]), ([14, 9, 0, 1, 5, 6, 7, 8, 9, 13], [9, 14]), ([2, 4, 0, 1, 2, 3, 4, 5, 6, 7, 8, 9, 10, 11, 12, 13, 14, 15], [2, 4]), ([16, 13, 15, 0, 1, 2, 3, 4, 5, 6, 7, 8, 9, 10, 11, 12, 13, 14, 15], [13, 16])])
theorem g_slices_insertionSortCmpFunc_Tag_t6 : rtab .any (opsOf Try.f132 6) = g_slices_insertionSortCmpFunc_Tag_T6 := by kernel_rfl
set_option maxHeartbeats 4000000 in
theorem insT_c (A : Option Addr) (c : Nat) (l : List Tag) (x : Tag) (p n : Nat) (lo hi : Nat) (w : World) (hr : RI kTag 57 w lo hi (.slice A n c) (l ++ [x])) (hn : n = l.length + 1) (hs : n ≤ 12) (hu : KUp l) (hp : p ≤ l.length) (h1 : ∀ i, (hi : i < l.length) → i < p → ltS l[i].1 x.1 = true) (h2 : ∀ i, (hi : i < l.length) → p ≤ i → ltS x.1 l[i].1 = true) (hlo : lo ≤ w.heap.size) :
    Calls Try.prog 132 #[.slice A n c, .int .i64 0, .int .i64 n, .func (.func 91) #[] #[]] w fun e w' => e = .returned (.tuple #[]) ∧ RI kTag 57 w' lo hi (.slice A n c) (insK l x p) ∧ Ex lo hi w w' := by
  obtain ⟨g, cap, hv, hg1, hg2, _⟩ := Kd.R_form hr (by simp)
  injection hv with e1 e2 e3
  subst e1
  clear e2 e3
  have hg3 : g < hi := hr.1 g rfl
  have Hst := Lib.hid (fun (i j q : Nat) (H : InsI l.length p i j q) (hj : 0 < j) => ins_step hu h1 h2 H hj)
  have hlen : ∀ q, q ≤ l.length → (insK l x q).length = n := fun q hq => by rw [insK_len _ _ _ hq, hn]
  have Hlen := Lib.hid hlen
  have Hn := Lib.hid hn
  have H0 := Lib.hid (insK_end l x)
  clear hu h1 h2 hlen
  have hn0 : 0 < n := by omega
  generalize l.length = m at *
  clear hn
  go_enter Try.func132, Try.ntmps132
  go_wp2
  go_loopw [8] (fun q8 wr => ∃ i q : Nat, 1 ≤ i ∧ i ≤ n ∧ q8 = .int .i64 i ∧ Aside0 ((i < n ∧ q = m) ∨ (i = n ∧ q = p)) ∧ Aside0 (RI kTag 57 wr lo hi (.slice (some ⟨g, 0, none⟩) n c) (insK l x q)) ∧ Aside0 (Ex lo hi w wr)) (fun q8 _ => n - (intOf q8).toNat)
  case atStart =>
    have := Hn.out
    exact ⟨1, m, by omega, by omega, rfl, ⟨by omega⟩, ⟨by rw [H0.out]; exact hr⟩, ⟨Ex.refl _ _ _⟩⟩
  case round =>
    obtain ⟨i, q, hi1, hi2, rfl, hq, ⟨hr1⟩, ⟨hx⟩⟩ := hrel
    by_cases hlt : i < n
    · have t1 : decide ((i : Int) < (n : Int)) = true := decide_eq_true (by omega)
      have hq0 : m = q := by have := hq.out; omega
      subst hq0
      go_wp2
      go_loopw [9] (fun q9 wi => ∃ j q : Nat, j ≤ 12 ∧ q9 = .int .i64 j ∧ Aside0 (InsI m p i j q) ∧ Aside0 (RI kTag 57 wi lo hi (.slice (some ⟨g, 0, none⟩) n c) (insK l x q)) ∧ Aside0 (Ex lo hi w wi)) (fun q9 _ => (intOf q9).toNat)
      case atStart =>
        have := Hn.out
        exact ⟨i, m, by omega, rfl, ⟨by unfold InsI; omega⟩, ⟨hr1⟩, ⟨hx⟩⟩
      case round =>
        clear hr1 hx
        obtain ⟨j, q, hj12, rfl, hI, ⟨hr1⟩, ⟨hx⟩⟩ := hrel
        have hnn := Hn.out
        have hjq : j ≤ m ∧ q ≤ m := by have := hI.out; unfold InsI at this; omega
        by_cases hj : 0 < j
        · obtain ⟨j1, hj1⟩ : ∃ j1, j1 + 1 = j := ⟨j - 1, by omega⟩
          obtain ⟨u, v, hu, hv, hyes, hno⟩ := Hst.out _ _ _ hI.out hj
          rw [show j - 1 = j1 by omega] at hv hyes
          obtain ⟨hu1, hu2⟩ := List.getElem?_eq_some_iff.1 hu
          obtain ⟨hv1, hv2⟩ := List.getElem?_eq_some_iff.1 hv
          obtain ⟨c0, c1, f0, f1⟩ := own_Tag hr1 j hu1
          obtain ⟨d0, d1, k0, k1⟩ := own_Tag hr1 j1 hv1
          rw [hu2] at c0 c1
          rw [hv2] at d0 d1
          have Hyes := Lib.hid hyes
          have Hno := Lib.hid hno
          have t2 : decide ((0 : Int) < (j : Int)) = true := decide_eq_true (by omega)
          have hw : IntKind.i64.wrap ((j : Int) - 1) = (j1 : Int) := by rw [IntWalk.i64_in _ (by omega)]; omega
          have hw1 : IntKind.i64.wrap ((i : Int) + 1) = (i : Int) + 1 := IntWalk.i64_in _ (by omega)
          have hjn : j < n := by omega
          have hj1n : j1 < n := by omega
          have s1 := hx.1.size
          have Hu2 := Lib.hid hu2
          have Hv2 := Lib.hid hv2
          clear hu hv hu2 hv2 hyes hno hnn
          go_wp2
          refine rgStart 17 [0, 1, 2, 3, 4, 5, 6, 7, 8, 9, 10, 11, 12, 13, 14, 15, 16] g_slices_insertionSortCmpFunc_Tag_t4 (fun HT HS => ?_)
          repeat ((with_reducible refine rgGate ?_); first | refine rgP HT ?_ | refine rgL HT ?_ | refine rgG HT ?_)
          refine rgCallV HT Try.func91 (cmpTag_c u v _) ?_
          rintro e w2 ⟨rfl, hb2⟩
          refine ⟨_, rfl, bl, rgN ?_⟩
          repeat ((with_reducible refine rgGate ?_); first | refine rgP HT ?_ | refine rgL HT ?_ | refine rgG HT ?_)
          refine rgDone HT ?_
          clear HT HS
          have hb3 : Below wr.heap.size wr w2 := bl
          have hr2 := hr1.below hb3
          have hx2 := hx.to hb3 hlo
          have hcl := cmpS_lt u.1 v.1
          rw [show decide (cmpS u.1 v.1 < 0) = ltS u.1 v.1 from hcl]
          clear hr1 hx c0 c1 d0 d1 f0 f1 k0 k1 hb2 hb3 hcl
          cases hlt2 : ltS u.1 v.1 with
          | true =>
            obtain ⟨hI2, hsw⟩ := Hyes.out hlt2
            obtain ⟨c0, c1, f0, f1⟩ := own_Tag hr2 j hu1
            obtain ⟨d0, d1, k0, k1⟩ := own_Tag hr2 j1 hv1
            rw [Hu2.out] at c0 c1
            rw [Hv2.out] at d0 d1
            obtain ⟨hr3, _⟩ := set_Tag hr2 j hjn v.1 v.2
            obtain ⟨hr4, _⟩ := set_Tag hr3 j1 hj1n u.1 u.2
            rw [hsw] at hr4
            have HI2 := Lib.hid hI2
            have HC : Cells w2 [(⟨g, j * 2, none⟩, .string u.1), (⟨g, j * 2 + 1, none⟩, .string u.2), (⟨g, j1 * 2, none⟩, .string v.1), (⟨g, j1 * 2 + 1, none⟩, .string v.2)] := ⟨c0, c1, d0, d1, trivial⟩
            clear hI2 hsw hr2 hr3 hlt2 Hyes Hno Hu2 Hv2 hu1 hv1 Hst Hlen H0
            go_wp2
            refine cgStart 18 [0, 1, 2, 3, 4, 5, 6, 7, 8, 9, 10, 11, 12, 13, 14, 15, 16, 17] [15, 17] _ g_slices_insertionSortCmpFunc_Tag_t6 HC (fun HT HD => ?_)
            repeat ((with_reducible refine cgGate ?_); first | refine cgP HT ?_ | refine cgL HT ?_)
            refine cgLast HT ?_
            repeat ((with_reducible refine cgGate ?_); first | refine cgP HT ?_ | refine cgL HT ?_)
            refine cgLast HT ?_
            refine cgDone HT ?_
            clear HT HD HC
            go_wp2
            exact ⟨⟨j1, j1, by omega, rfl, ⟨HI2.out⟩, ⟨hr4⟩, ⟨(((hx2.drewN 1).set hg1 hg3).set hg1 hg3 |>.set hg1 hg3).set hg1 hg3⟩⟩, by simp [intOf]; omega⟩
          | false =>
            have Hq := Lib.hid (Hno.out hlt2)
            clear hlt2 Hyes Hno Hu2 Hv2 hu1 hv1
            go_wp2
            refine ⟨⟨i + 1, q, by omega, by omega, by go_num, ⟨?_⟩, ⟨hr2⟩, ⟨hx2⟩⟩, by simp [intOf]; omega⟩
            have := Hq.out
            have := Hn.out
            omega
        · have t2 : decide ((0 : Int) < (j : Int)) = false := decide_eq_false (by omega)
          have hw1 : IntKind.i64.wrap ((i : Int) + 1) = (i : Int) + 1 := IntWalk.i64_in _ (by omega)
          have Hq := Lib.hid (show (i < m ∧ q = m) ∨ (i = m ∧ q = p) by have := hI.out; unfold InsI at this; omega)
          clear hnn
          go_wp2
          refine rgStart 17 [0, 1, 2, 3, 4, 5, 6, 7, 8, 9, 10, 11, 12, 13, 14, 15, 16] g_slices_insertionSortCmpFunc_Tag_t4 (fun HT HS => ?_)
          repeat ((with_reducible refine rgGate ?_); first | refine rgP HT ?_ | refine rgL HT ?_ | refine rgG HT ?_)
          refine rgDone HT ?_
          clear HT HS
          have hr2 := hr1.below (bl : Below wr.heap.size wr wr.drew)
          have hx2 := hx.to (bl : Below wr.heap.size wr wr.drew) hlo
          clear hr1 hx
          go_wp2
          refine ⟨⟨i + 1, q, by omega, by omega, by go_num, ⟨?_⟩, ⟨hr2⟩, ⟨hx2⟩⟩, by simp [intOf]; omega⟩
          have := Hq.out
          have := Hn.out
          omega
    · have t1 : decide ((i : Int) < (n : Int)) = false := decide_eq_false (by omega)
      have hq2 : q = p := by have := hq.out; omega
      subst hq2
      go_wp2
      exact ⟨rfl, .tuple #[], by simp [results, Try.results132, go_sem], rfl, hr1, hx⟩
end Go.Proofs.Ytlebgjafaioajaa
