/- Contracts: tags put, the sort of tags, FeatPut. -/
import Derived.Test.YtlebgjafaioajaaFp
import Derived.Test.YtlebgjafaioajaaFh
namespace Go.Proofs.Ytlebgjafaioajaa
section
open Go.RowKit Go.Proofs.YtlebgjafaioajaaW.PrintWords Go.Proofs.YtlebgjafaioajaaW.PrintLast
set_option maxRecDepth 100000
set_option linter.unusedVariables false
set_option linter.unusedSimpArgs false
/-- append(v, x) of one element without rows inside, where the order is the text's. -/
theorem appOne {α : Type} {d : Kd α} {P : Program} {ops : Array Oper} {rest : List Oper} {o : Oper} {a : Act} {Q : Exit → Act → World → Prop} {w0 W : World} {base : Nat} (t e : TypeId) (z : Value) (bytes : Nat) (ht : P.underlying t = some (.slice e)) (hinfo : (P.info? e).map (fun i => (i.zero, i.size, i.bytes)) = some (some z, d.sz, bytes)) (hz : z.cells.size = d.sz) (hs0 : 0 < d.sz) (hb0 : 0 < bytes)
    (s x : Operand) (v : Value) (xs : List α) (p : α) (cs : List Value) (hp : d.M W base (fun _ => False) p cs)
    (HO : d.R e W base (fun _ => True) v xs) (HB : Below base w0 W) (hbase : base ≤ W.heap.size) (hl : (xs.length + 1) * bytes ≤ 140737488355328)
    (h : ∀ A' c' w1, d.R e w1 base (fun _ => True) (.slice A' (xs ++ [p]).length c') (xs ++ [p]) → Below base w0 w1 → W.grownBy w1 v.ownBlock → wpList P ops Q rest (a.put o.dst (.slice A' (xs ++ [p]).length c')) w1)
    (hgd : o.guard = none := by rfl) (ho : o.op = .call { callee := .builtin .append, args := #[s, x], argTypes := #[t, t] } := by rfl) (hs : a.eval s = v := by rfl) (hx : a.eval x = .slice (some ⟨W.heap.size, 0, none⟩) 1 1 := by rfl) :
    wpList P ops Q (o :: rest) a (W.alloc (.cells cs.toArray e)) := by
  refine Kd.R_append d (w0 := w0) base hgd s x t e z bytes ho ht hinfo hz hs0 hb0 v xs p cs (fun _ => True) (fun _ => False) hs hx hp (fun _ hk => hk.elim) (fun _ _ => trivial) HO HB hbase hl ?_
  intro v1 w1 ho1 hb1 hg1 _
  obtain ⟨A', c', rfl⟩ := Kd.R_slice ho1
  exact h A' c' w1 ho1 hb1 hg1
abbrev z0Tag : Value := .agg #[(.string ByteArray.empty), (.string ByteArray.empty)]
/-- What the loop of a putting keeps. -/
def PL (w : World) (x : Tag) (l : List Tag) (k : Nat) (B : Option Addr) (d : Nat) (wr : World) : Prop :=
  kTag.R 57 wr w.heap.size (fun _ => True) (.slice B (putS x (l.take k)).1.length d) (putS x (l.take k)).1 ∧ Below w.heap.size w wr
/-- A row of tags in new memory. -/
def NTags (w : World) (l : List Tag) (e : Ending) (w' : World) : Prop := ∃ B d, e = .returned (.slice B l.length d) ∧ RI kTag 57 w' w.heap.size w'.heap.size (.slice B l.length d) l ∧ Below w.heap.size w w'
set_option maxHeartbeats 4000000 in
theorem l2Put_c (A : Option Addr) (c : Nat) (l : List Tag) (key val : ByteArray) (w : World) (hl : kTag.C w A l.length l) (hn : l.length ≤ 1048576) :
    Calls Try.prog 93 #[.slice A l.length c, .string key, .string val] w (NTags w (putK l (key, val))) := by
  go_enter Try.func93, Try.ntmps93
  go_wp2
  go_loopw [7, 8, 9] (fun q1 q2 q3 wr => ∃ (k : Nat) (B : Option Addr) (d : Nat), k ≤ l.length ∧ q3 = .int .i64 k ∧ q2 = .bool (putS (key, val) (l.take k)).2 ∧ q1 = .slice B (putS (key, val) (l.take k)).1.length d ∧ PL w (key, val) l k B d wr) (fun _ _ q3 _ => l.length - (intOf q3).toNat)
  case atStart => exact ⟨0, _, _, by omega, rfl, rfl, rfl, litT0 w w.heap.size (Nat.le_refl _), bl⟩
  case round =>
    obtain ⟨k, B, d, hk, rfl, rfl, rfl, ho, hb⟩ := hrel
    have hsl := putS_le (key, val) (l.take k)
    rw [List.length_take] at hsl
    by_cases hlt : k < l.length
    · obtain ⟨ad, rfl, c0, c1⟩ := at_Tag hl k hlt
      have C0 := Lib.hid (And.intro c0 c1)
      replace c0 := pw_cell_below hb c0
      replace c1 := pw_cell_below hb c1
      have d1 : decide ((k : Int) < (l.length : Int)) = true := decide_eq_true (by omega)
      have hst := Lib.hid (putS_take (key, val) l k hlt)
      generalize hr : (putS (key, val) (l.take k)).1 = r at *
      generalize hdn : (putS (key, val) (l.take k)).2 = dn at *
      have hs' := Lib.hid (show putS (key, val) (l.take (k + 1)) = stepP (key, val) (r, dn) l[k] by rw [hst.out, ← hr, ← hdn])
      clear hst hr hdn
      generalize l[k] = t at *
      have hbb : w.heap.size ≤ wr.heap.size := hb.size
      have Hout : ∀ (W : World) (m : List Tag) (B' : Option Addr) (d' : Nat) (dn' : Bool) (n : Nat), n = m.length → kTag.R 57 W w.heap.size (fun _ => True) (.slice B' m.length d') m → Below w.heap.size w W → stepP (key, val) (r, dn) t = (m, dn') →
          (∃ (k_1 : Nat) (B : Option Addr) (d : Nat), k_1 ≤ l.length ∧ Value.int .i64 ((k : Int) + 1) = .int .i64 k_1 ∧ Value.bool dn' = .bool (putS (key, val) (l.take k_1)).2 ∧ Value.slice B' n d' = .slice B (putS (key, val) (l.take k_1)).1.length d ∧ PL w (key, val) l k_1 B d W) := by
        intro W m B' d' dn' n h0 h1 h2 h3
        rw [h3] at hs'
        refine ⟨k + 1, B', d', by omega, by go_num, by rw [hs'.out], by rw [hs'.out, h0], ?_, h2⟩
        rw [hs'.out]
        exact h1
      have HOut := Lib.hid Hout
      clear Hout hs'
      cases dn with
      | true =>
        by_cases hx : t.1 = key
        · have t2 := strB_t hx
          have hst : stepP (key, val) (r, true) t = (r, true) := by simp [stepP, eqB_t.2 hx]
          have Hst := Lib.hid hst
          clear hst hx
          go_wp2
          exact ⟨HOut.out _ _ _ _ _ _ rfl ho hb Hst.out, by simp [intOf]; omega⟩
        · have t2 := strB_f hx
          have hst : stepP (key, val) (r, true) t = (r ++ [t], true) := by simp [stepP, eqB_f.2 hx]
          have Hst := Lib.hid hst
          clear hst hx
          go_wp2_with (at_builtin; refine appOne (d := kTag) (w0 := w) (base := w.heap.size) 33 57 z0Tag 32 Try.underlying33 info_Tag rfl (by decide) (by omega) (.tmp 41) (.tmp 46) _ r t [.string (t).1, .string (t).2] (kTag_mkM _ _ _ t) (Kd.R_below ho bl) bl hbb (by omega) ?_; intro B1 d1 w1 ho1 hb1 hg1)
          exact ⟨HOut.out _ _ _ _ _ _ (by simp) ho1 hb1 Hst.out, by simp [intOf]; omega⟩
      | false =>
        by_cases hq : ltS t.1 key = true
        · have t2 := strB_f (ltS_ne hq)
          have t3 : Op.bytesLess t.1.toList key.toList = true := hq
          have hst : stepP (key, val) (r, false) t = (r ++ [t], false) := by simp [stepP, hq, eqB_f.2 (ltS_ne hq)]
          have Hst := Lib.hid hst
          clear hst hq
          go_wp2_with (at_builtin; refine appOne (d := kTag) (w0 := w) (base := w.heap.size) 33 57 z0Tag 32 Try.underlying33 info_Tag rfl (by decide) (by omega) (.tmp 41) (.tmp 46) _ r t [.string (t).1, .string (t).2] (kTag_mkM _ _ _ t) (Kd.R_below ho bl) bl hbb (by omega) ?_; intro B1 d1 w1 ho1 hb1 hg1)
          exact ⟨HOut.out _ _ _ _ _ _ (by simp) ho1 hb1 Hst.out, by simp [intOf]; omega⟩
        · replace hq : ltS t.1 key = false := by simpa using hq
          have t3 : Op.bytesLess t.1.toList key.toList = false := hq
          by_cases hx : t.1 = key
          · have t2 := strB_t hx
            have hst : stepP (key, val) (r, false) t = (r ++ [(key, val)], true) := by simp [stepP, hq, eqB_t.2 hx]
            have Hst := Lib.hid hst
            clear hst hq hx
            go_wp2_with (at_builtin; refine appOne (d := kTag) (w0 := w) (base := w.heap.size) 33 57 z0Tag 32 Try.underlying33 info_Tag rfl (by decide) (by omega) (.tmp 28) (.tmp 32) _ r ((key, val) : Tag) [.string (((key, val) : Tag)).1, .string (((key, val) : Tag)).2] (kTag_mkM _ _ _ ((key, val) : Tag)) (Kd.R_below ho bl) bl hbb (by omega) ?_; intro B1 d1 w1 ho1 hb1 hg1; replace c0 := pw_cell_below hb1 C0.out.1; replace c1 := pw_cell_below hb1 C0.out.2)
            exact ⟨HOut.out _ _ _ _ _ _ (by simp) ho1 hb1 Hst.out, by simp [intOf]; omega⟩
          · have t2 := strB_f hx
            have hst : stepP (key, val) (r, false) t = (r ++ [(key, val)] ++ [t], true) := by simp [stepP, hq, eqB_f.2 hx]
            have Hst := Lib.hid hst
            clear hst hq hx
            go_wp2_with (first | ((at_builtin; refine appOne (d := kTag) (w0 := w) (base := w.heap.size) 33 57 z0Tag 32 Try.underlying33 info_Tag rfl (by decide) (by omega) (.tmp 28) (.tmp 32) _ r ((key, val) : Tag) [.string (((key, val) : Tag)).1, .string (((key, val) : Tag)).2] (kTag_mkM _ _ _ ((key, val) : Tag)) (Kd.R_below ho bl) bl hbb (by omega) ?_; intro B1 d1 w1 ho1 hb1 hg1); replace c0 := pw_cell_below hb1 C0.out.1; replace c1 := pw_cell_below hb1 C0.out.2; replace ho1 := (show kTag.R 57 w1 w.heap.size (fun _ => True) (.slice B1 (r.length + 1) d1) (r ++ [((key, val) : Tag)]) by have h_ := ho1; rwa [List.length_append] at h_)) | ((at_builtin; refine appOne (d := kTag) (w0 := w) (base := w.heap.size) 33 57 z0Tag 32 Try.underlying33 info_Tag rfl (by decide) (by omega) (.tmp 41) (.tmp 46) _ (r ++ [((key, val) : Tag)]) t [.string (t).1, .string (t).2] (kTag_mkM _ _ _ t) ho1 hb1 hb1.size (by simp; omega) ?_; intro B2 d2 w2 ho2 hb2 hg2)))
            exact ⟨HOut.out _ _ _ _ _ _ (by simp) ho2 hb2 Hst.out, by simp [intOf]; omega⟩
    · have hbb : w.heap.size ≤ wr.heap.size := hb.size
      have d1 : decide ((k : Int) < (l.length : Int)) = false := decide_eq_false (by omega)
      have ht : l.take k = l := List.take_of_length_le (by omega)
      rw [ht] at ho ⊢
      have hpk : putK l (key, val) = if (putS (key, val) l).2 = true then (putS (key, val) l).1 else (putS (key, val) l).1 ++ [(key, val)] := rfl
      have hsl2 := putS_le (key, val) l
      generalize putK l (key, val) = res at *
      generalize (putS (key, val) l).1 = r at *
      generalize (putS (key, val) l).2 = dn at *
      clear ht
      cases dn with
      | true =>
        rw [if_pos rfl] at hpk
        subst hpk
        go_wp2
        go_ret
        exact ⟨B, d, rfl, RI.of ho, hb⟩
      | false =>
        rw [if_neg (by simp)] at hpk
        have Hpk := Lib.hid hpk
        clear hpk
        go_wp2_with (at_builtin; refine appOne (d := kTag) (w0 := w) (base := w.heap.size) 33 57 z0Tag 32 Try.underlying33 info_Tag rfl (by decide) (by omega) (.tmp 50) (.tmp 54) _ r ((key, val) : Tag) [.string ((key, val) : Tag).1, .string ((key, val) : Tag).2] (kTag_mkM _ _ _ ((key, val) : Tag)) (Kd.R_below ho bl) bl hbb (by omega) ?_; intro B1 d1 w1 ho1 hb1 hg1)
        go_ret
        rw [Hpk.out]
        exact ⟨B1, d1, by simp, RI.of ho1, hb1⟩
end
section
open Go.RowKit Go.Proofs.YtlebgjafaioajaaW.PrintWords Go.Proofs.YtlebgjafaioajaaW.PrintLast
set_option maxRecDepth 100000
set_option linter.unusedVariables false
set_option linter.unusedSimpArgs false
/-- How two texts stand. -/
def cmpS (x y : ByteArray) : Int := if ltS x y = true then -1 else if ltS y x = true then 1 else 0
theorem cmpS_lt (x y : ByteArray) : decide (cmpS x y < 0) = ltS x y := by
  unfold cmpS
  cases h : ltS x y with
  | true => simp
  | false => cases h2 : ltS y x <;> simp
theorem cmpStr_c (x y : ByteArray) (w : World) :
    Calls Try.prog 92 #[.string x, .string y] w fun e w' => e = .returned (.int .i64 (cmpS x y)) ∧ Below w.heap.size w w' := by
  cases h : ltS x y with
  | true =>
    have hc : cmpS x y = -1 := by unfold cmpS; rw [if_pos h]
    have t1 : Op.bytesLess x.toList y.toList = true := h
    have Hc := Lib.hid hc
    clear hc h
    go_enter Try.func92, Try.ntmps92
    go_wp2
    go_ret
    exact ⟨ret_int Hc.out.symm, bl⟩
  | false =>
    have t1 : Op.bytesLess x.toList y.toList = false := h
    cases h2 : ltS y x with
    | true =>
      have hc : cmpS x y = 1 := by unfold cmpS; rw [if_neg (by simp [h]), if_pos h2]
      have t2 : (x.toList == y.toList) = false := strB_f (fun e => ltS_ne h2 e.symm)
      have Hc := Lib.hid hc
      clear hc h h2
      go_enter Try.func92, Try.ntmps92
      go_wp2
      go_ret
      exact ⟨ret_int Hc.out.symm, bl⟩
    | false =>
      have hc : cmpS x y = 0 := by unfold cmpS; rw [if_neg (by simp [h]), if_neg (by simp [h2])]
      have t2 : (x.toList == y.toList) = true := strB_t (ltS_eq h h2)
      have Hc := Lib.hid hc
      clear hc h h2
      go_enter Try.func92, Try.ntmps92
      go_wp2
      go_ret
      exact ⟨ret_int Hc.out.symm, bl⟩
theorem cmpTag_c (x y : Tag) (w : World) :
    Calls Try.prog 91 #[.agg #[.string x.1, .string x.2], .agg #[.string y.1, .string y.2]] w fun e w' => e = .returned (.int .i64 (cmpS x.1 y.1)) ∧ Below w.heap.size w w' := by
  go_enter Try.func91, Try.ntmps91
  go_wp2_with fail
  refine (cmpStr_c x.1 y.1 _).mono ?_
  rintro e w1 ⟨rfl, hb1⟩
  go_wp2
  go_ret
  exact ⟨rfl, bl⟩
theorem lenBits_c (n : Nat) (hn : n ≤ 12) (w : World) : Calls Try.prog 122 #[.int .u64 n] w fun e w' => (∃ z : Int, e = .returned (.int .i64 z)) ∧ Below w.heap.size w w' := by
  have d1 : decide ((4294967296 : Int) ≤ (n : Int)) = false := decide_eq_false (by omega)
  have d2 : decide ((65536 : Int) ≤ (n : Int)) = false := decide_eq_false (by omega)
  have d3 : decide ((256 : Int) ≤ (n : Int)) = false := decide_eq_false (by omega)
  go_enter Try.func122, Try.ntmps122
  go_wp2
  go_ret
  exact ⟨⟨_, rfl⟩, bl⟩
end
section
open Go.RowKit Go.Proofs.YtlebgjafaioajaaW.PrintWords Go.Proofs.YtlebgjafaioajaaW.PrintLast
set_option maxRecDepth 100000
set_option linter.unusedVariables false
set_option linter.unusedSimpArgs false
section
variable {P : Program} {ops : Array Oper} {Q : Exit → Act → World → Prop} {S : World → Prop} {T : Bool × List (List Nat × List Nat)} {i k n fuel : Nat} {p : List Nat} {oi : Oper} {a : Act} {w : World}
/-- A function value without captured variables called, where it alone may come up. -/
theorem rgCallV {f : FuncId} {fn : Func} {c : Operand} {av : Array Operand} {ts : Array TypeId} {args : Array Value} {R : Ending → World → Prop} (hT : Aside0 (rtab .any ops = T)) (hf : P.funcs[f]? = some fn) (hcall : Calls P f args w R)
    (h : ∀ e w', R e w' → ∃ v, e = .returned v ∧ S w' ∧ wpAnyLast P .any ops Q S [] fuel (lit p (k + 1) n) (a.put oi.dst v) w')
    (hk : p[k]? = some i := by (try simp only [List.getElem?_cons_succ, List.getElem?_cons_zero]); rfl) (hi : ops[i]? = some oi := by (try simp only [List.getElem?_toArray, List.getElem?_cons_succ, List.getElem?_cons_zero]); rfl) (hop : oi.op = .call { callee := .value c, args := av, argTypes := ts } := by rfl) (hcv : a.eval c = .func (.func f) #[] #[] := by rfl) (hc : (readyT T.2 (lit p k n).toList == [i] && (lit p k n).toList.set i true == (lit p (k + 1) n).toList) = true := by kernel_rfl)
    (hw : Region.wanted oi (yielded ops a.tmps) = true := by rfl) (hargs : av.map a.eval = args := by ((try simp only [List.map_toArray, List.map_cons, List.map_nil]); first | done | rfl))
    (hname : (fn.name == "runtime.NumGoroutine") = false := by kernel_rfl) (hb : fn.body.isSome = true := by rfl) : wpAnyLast P .any ops Q S [] (fuel + 1) (lit p k n) a w := by
  refine one_ (lit p (k + 1) n) hi rfl (one_of hT.out hc) (by simp) (fun K hK => ?_)
  refine call_ f args hw rfl ?_ (hcall.mono fun e w' hr => ?_)
  · have he := enters_ hf hname hb args w
    unfold execOp
    simp [hop, resolve, Deferred.ofValue, hcv, invoke, hargs, he]
  · obtain ⟨v, rfl, hs, hk⟩ := h e w' hr
    exact ⟨v, rfl, hK _ _ hs (fun _ => hk)⟩
end
section
variable {α : Type}
/-- Where the sort's inner walk stands: round i, place j, the last one now at q. -/
def InsI (m p i j q : Nat) : Prop := (i < m ∧ q = m ∧ j = i) ∨ (i = m ∧ q = j ∧ p ≤ j ∧ j ≤ m)
theorem ins_step {l : List (ByteArray × α)} {x : ByteArray × α} {p : Nat} (hu : KUp l) (h1 : ∀ i, (hi : i < l.length) → i < p → ltS l[i].1 x.1 = true) (h2 : ∀ i, (hi : i < l.length) → p ≤ i → ltS x.1 l[i].1 = true)
    {i j q : Nat} (H : InsI l.length p i j q) (hj : 0 < j) : ∃ u v, (insK l x q)[j]? = some u ∧ (insK l x q)[j - 1]? = some v ∧
      (ltS u.1 v.1 = true → InsI l.length p i (j - 1) (j - 1) ∧ ((insK l x q).set j v).set (j - 1) u = insK l x (j - 1)) ∧ (ltS u.1 v.1 = false → (i < l.length ∧ q = l.length) ∨ (i = l.length ∧ q = p)) := by
  rcases H with ⟨a, rfl, rfl⟩ | ⟨rfl, rfl, b, c⟩
  · have hlt : ltS l[j - 1].1 l[j].1 = true := List.pairwise_iff_getElem.1 hu (j - 1) j (by omega) a (by omega)
    refine ⟨l[j], l[j - 1], ?_, ?_, fun h => ?_, fun _ => .inl ⟨a, rfl⟩⟩
    · rw [insK_get _ _ _ _ (Nat.le_refl _), if_pos a, List.getElem?_eq_getElem a]
    · rw [insK_get _ _ _ _ (Nat.le_refl _), if_pos (by omega), List.getElem?_eq_getElem (by omega)]
    · rw [ltS_asymm hlt] at h; cases h
  · have hj1 : q - 1 < l.length := by omega
    refine ⟨x, l[q - 1], ?_, ?_, fun h => ⟨.inr ⟨rfl, rfl, ?_, by omega⟩, ?_⟩, fun h => .inr ⟨rfl, ?_⟩⟩
    · rw [insK_get _ _ _ _ c, if_neg (by omega), if_pos rfl]
    · rw [insK_get _ _ _ _ c, if_pos (by omega), List.getElem?_eq_getElem hj1]
    · rcases Nat.lt_or_ge (q - 1) p with hp | hp
      · rw [ltS_asymm (h1 _ hj1 hp)] at h; cases h
      · exact hp
    · have := insK_swap l x (q - 1) hj1
      rw [show q - 1 + 1 = q by omega] at this
      exact this
    · rcases Nat.lt_or_ge (q - 1) p with hp | hp
      · omega
      · rw [h2 _ hj1 hp] at h; cases h
end
def g_slices_insertionSortCmpFunc_Tag_T4 : Bool × List (List Nat × List Nat) := (true, [([], []), ([], []), ([0, 1], [0, 1]), ([2], [2]), ([3], [3]), ([3], [3]), ([3], [3]), ([5, 6, 3], [3, 5, 6]), ([7, 3], [3, 7]), ([3], [3]), ([3], [3]), ([10, 3], [3, 10]), ([9, 11, 3], [3, 9, 11]), ([12, 3], [3, 12]), ([4, 8, 13, 3, 3], [3, 4, 8, 13]), ([14, 3], [3, 14]), ([3, 15], [3, 15])])
theorem g_slices_insertionSortCmpFunc_Tag_t4 : rtab .any (opsOf Try.f132 4) = g_slices_insertionSortCmpFunc_Tag_T4 := by kernel_rfl
def g_slices_insertionSortCmpFunc_Tag_T6 : Bool × List (List Nat × List Nat) := (true, [([], []), ([], []), ([], []), ([], []), ([3], [3]), ([], []), ([], []), ([6], [6]), ([5, 7], [5, 7]), ([8], [8]), ([], []), ([], []), ([10, 11], [10, 11]), ([12], [12]), ([0, 1, 0, 1, 5, 6, 7, 8, 9, 13], [0, 1]), ([14, 9, 0, 1, 5, 6, 7, 8, 9, 13], [9, 14]), ([2, 4, 0, 1, 2, 3, 4, 5, 6, 7, 8, 9, 10, 11, 12, 13, 14, 15], [2, 4]), ([16, 13, 15, 0, 1, 2, 3, 4, 5, 6, 7, 8, 9, 10, 11, 12, 13, 14, 15], [13, 16])])
theorem g_slices_insertionSortCmpFunc_Tag_t6 : rtab .any (opsOf Try.f132 6) = g_slices_insertionSortCmpFunc_Tag_T6 := by kernel_rfl
set_option maxHeartbeats 4000000 in
theorem insT_c (A : Option Addr) (c : Nat) (l : List Tag) (x : Tag) (p n : Nat) (lo hi : Nat) (w : World) (hr : RI kTag 57 w lo hi (.slice A n c) (l ++ [x])) (hn : n = l.length + 1) (hs : n ≤ 12) (hu : KUp l) (hp : p ≤ l.length) (h1 : ∀ i, (hi : i < l.length) → i < p → ltS l[i].1 x.1 = true) (h2 : ∀ i, (hi : i < l.length) → p ≤ i → ltS x.1 l[i].1 = true) (hlo : lo ≤ w.heap.size) :
    Calls Try.prog 132 #[.slice A n c, .int .i64 0, .int .i64 n, .func (.func 91) #[] #[]] w fun e w' => e = .returned (.tuple #[]) ∧ RI kTag 57 w' lo hi (.slice A n c) (insK l x p) ∧ Ex lo hi w w' := by
  obtain ⟨g, cap, hv, hg1, hg2, _⟩ := Kd.R_form hr (by simp)
  injection hv with e1 e2 e3
  subst e1
  clear e2 e3
  have hg3 : g < hi := hr.1 g rfl
  have Hst := Lib.hid (fun (i j q : Nat) (H : InsI l.length p i j q) (hj : 0 < j) => ins_step hu h1 h2 H hj)
  have hlen : ∀ q, q ≤ l.length → (insK l x q).length = n := fun q hq => by rw [insK_len _ _ _ hq, hn]
  have Hlen := Lib.hid hlen
  have Hn := Lib.hid hn
  have H0 := Lib.hid (insK_end l x)
  clear hu h1 h2 hlen
  have hn0 : 0 < n := by omega
  generalize l.length = m at *
  clear hn
  go_enter Try.func132, Try.ntmps132
  go_wp2
  go_loopw [8] (fun q8 wr => ∃ i q : Nat, 1 ≤ i ∧ i ≤ n ∧ q8 = .int .i64 i ∧ Aside0 ((i < n ∧ q = m) ∨ (i = n ∧ q = p)) ∧ Aside0 (RI kTag 57 wr lo hi (.slice (some ⟨g, 0, none⟩) n c) (insK l x q)) ∧ Aside0 (Ex lo hi w wr)) (fun q8 _ => n - (intOf q8).toNat)
  case atStart =>
    have := Hn.out
    exact ⟨1, m, by omega, by omega, rfl, ⟨by omega⟩, ⟨by rw [H0.out]; exact hr⟩, ⟨Ex.refl _ _ _⟩⟩
  case round =>
    obtain ⟨i, q, hi1, hi2, rfl, hq, ⟨hr1⟩, ⟨hx⟩⟩ := hrel
    by_cases hlt : i < n
    · have t1 : decide ((i : Int) < (n : Int)) = true := decide_eq_true (by omega)
      have hq0 : m = q := by have := hq.out; omega
      subst hq0
      go_wp2
      go_loopw [9] (fun q9 wi => ∃ j q : Nat, j ≤ 12 ∧ q9 = .int .i64 j ∧ Aside0 (InsI m p i j q) ∧ Aside0 (RI kTag 57 wi lo hi (.slice (some ⟨g, 0, none⟩) n c) (insK l x q)) ∧ Aside0 (Ex lo hi w wi)) (fun q9 _ => (intOf q9).toNat)
      case atStart =>
        have := Hn.out
        exact ⟨i, m, by omega, rfl, ⟨by unfold InsI; omega⟩, ⟨hr1⟩, ⟨hx⟩⟩
      case round =>
        clear hr1 hx
        obtain ⟨j, q, hj12, rfl, hI, ⟨hr1⟩, ⟨hx⟩⟩ := hrel
        have hnn := Hn.out
        have hjq : j ≤ m ∧ q ≤ m := by have := hI.out; unfold InsI at this; omega
        by_cases hj : 0 < j
        · obtain ⟨j1, hj1⟩ : ∃ j1, j1 + 1 = j := ⟨j - 1, by omega⟩
          obtain ⟨u, v, hu, hv, hyes, hno⟩ := Hst.out _ _ _ hI.out hj
          rw [show j - 1 = j1 by omega] at hv hyes
          obtain ⟨hu1, hu2⟩ := List.getElem?_eq_some_iff.1 hu
          obtain ⟨hv1, hv2⟩ := List.getElem?_eq_some_iff.1 hv
          obtain ⟨c0, c1, f0, f1⟩ := own_Tag hr1 j hu1
          obtain ⟨d0, d1, k0, k1⟩ := own_Tag hr1 j1 hv1
          rw [hu2] at c0 c1
          rw [hv2] at d0 d1
          have Hyes := Lib.hid hyes
          have Hno := Lib.hid hno
          have t2 : decide ((0 : Int) < (j : Int)) = true := decide_eq_true (by omega)
          have hw : IntKind.i64.wrap ((j : Int) - 1) = (j1 : Int) := by rw [IntWalk.i64_in _ (by omega)]; omega
          have hw1 : IntKind.i64.wrap ((i : Int) + 1) = (i : Int) + 1 := IntWalk.i64_in _ (by omega)
          have hjn : j < n := by omega
          have hj1n : j1 < n := by omega
          have s1 := hx.1.size
          have Hu2 := Lib.hid hu2
          have Hv2 := Lib.hid hv2
          clear hu hv hu2 hv2 hyes hno hnn
          go_wp2
          refine rgStart 17 [0, 1, 2, 3, 4, 5, 6, 7, 8, 9, 10, 11, 12, 13, 14, 15, 16] g_slices_insertionSortCmpFunc_Tag_t4 (fun HT HS => ?_)
          repeat ((with_reducible refine rgGate ?_); first | refine rgP HT ?_ | refine rgL HT ?_ | refine rgG HT ?_)
          refine rgCallV HT Try.func91 (cmpTag_c u v _) ?_
          rintro e w2 ⟨rfl, hb2⟩
          refine ⟨_, rfl, bl, rgN ?_⟩
          repeat ((with_reducible refine rgGate ?_); first | refine rgP HT ?_ | refine rgL HT ?_ | refine rgG HT ?_)
          refine rgDone HT ?_
          clear HT HS
          have hb3 : Below wr.heap.size wr w2 := bl
          have hr2 := hr1.below hb3
          have hx2 := hx.to hb3 hlo
          have hcl := cmpS_lt u.1 v.1
          rw [show decide (cmpS u.1 v.1 < 0) = ltS u.1 v.1 from hcl]
          clear hr1 hx c0 c1 d0 d1 f0 f1 k0 k1 hb2 hb3 hcl
          cases hlt2 : ltS u.1 v.1 with
          | true =>
            obtain ⟨hI2, hsw⟩ := Hyes.out hlt2
            obtain ⟨c0, c1, f0, f1⟩ := own_Tag hr2 j hu1
            obtain ⟨d0, d1, k0, k1⟩ := own_Tag hr2 j1 hv1
            rw [Hu2.out] at c0 c1
            rw [Hv2.out] at d0 d1
            obtain ⟨hr3, _⟩ := set_Tag hr2 j hjn v.1 v.2
            obtain ⟨hr4, _⟩ := set_Tag hr3 j1 hj1n u.1 u.2
            rw [hsw] at hr4
            have HI2 := Lib.hid hI2
            have HC : Cells w2 [(⟨g, j * 2, none⟩, .string u.1), (⟨g, j * 2 + 1, none⟩, .string u.2), (⟨g, j1 * 2, none⟩, .string v.1), (⟨g, j1 * 2 + 1, none⟩, .string v.2)] := ⟨c0, c1, d0, d1, trivial⟩
            clear hI2 hsw hr2 hr3 hlt2 Hyes Hno Hu2 Hv2 hu1 hv1 Hst Hlen H0
            go_wp2
            refine cgStart 18 [0, 1, 2, 3, 4, 5, 6, 7, 8, 9, 10, 11, 12, 13, 14, 15, 16, 17] [15, 17] _ g_slices_insertionSortCmpFunc_Tag_t6 HC (fun HT HD => ?_)
            repeat ((with_reducible refine cgGate ?_); first | refine cgP HT ?_ | refine cgL HT ?_)
            refine cgLast HT ?_
            repeat ((with_reducible refine cgGate ?_); first | refine cgP HT ?_ | refine cgL HT ?_)
            refine cgLast HT ?_
            refine cgDone HT ?_
            clear HT HD HC
            go_wp2
            exact ⟨⟨j1, j1, by omega, rfl, ⟨HI2.out⟩, ⟨hr4⟩, ⟨(((hx2.drewN 1).set hg1 hg3).set hg1 hg3 |>.set hg1 hg3).set hg1 hg3⟩⟩, by simp [intOf]; omega⟩
          | false =>
            have Hq := Lib.hid (Hno.out hlt2)
            clear hlt2 Hyes Hno Hu2 Hv2 hu1 hv1
            go_wp2
            refine ⟨⟨i + 1, q, by omega, by omega, by go_num, ⟨?_⟩, ⟨hr2⟩, ⟨hx2⟩⟩, by simp [intOf]; omega⟩
            have := Hq.out
            have := Hn.out
            omega
        · have t2 : decide ((0 : Int) < (j : Int)) = false := decide_eq_false (by omega)
          have hw1 : IntKind.i64.wrap ((i : Int) + 1) = (i : Int) + 1 := IntWalk.i64_in _ (by omega)
          have Hq := Lib.hid (show (i < m ∧ q = m) ∨ (i = m ∧ q = p) by have := hI.out; unfold InsI at this; omega)
          clear hnn
          go_wp2
          refine rgStart 17 [0, 1, 2, 3, 4, 5, 6, 7, 8, 9, 10, 11, 12, 13, 14, 15, 16] g_slices_insertionSortCmpFunc_Tag_t4 (fun HT HS => ?_)
          repeat ((with_reducible refine rgGate ?_); first | refine rgP HT ?_ | refine rgL HT ?_ | refine rgG HT ?_)
          refine rgDone HT ?_
          clear HT HS
          have hr2 := hr1.below (bl : Below wr.heap.size wr wr.drew)
          have hx2 := hx.to (bl : Below wr.heap.size wr wr.drew) hlo
          clear hr1 hx
          go_wp2
          refine ⟨⟨i + 1, q, by omega, by omega, by go_num, ⟨?_⟩, ⟨hr2⟩, ⟨hx2⟩⟩, by simp [intOf]; omega⟩
          have := Hq.out
          have := Hn.out
          omega
    · have t1 : decide ((i : Int) < (n : Int)) = false := decide_eq_false (by omega)
      have hq2 : q = p := by have := hq.out; omega
      subst hq2
      go_wp2
      exact ⟨rfl, .tuple #[], by simp [results, Try.results132, go_sem], rfl, hr1, hx⟩
end
section
open Go.RowKit Go.Proofs.YtlebgjafaioajaaW.PrintWords Go.Proofs.YtlebgjafaioajaaW.PrintLast
set_option maxRecDepth 100000
set_option linter.unusedVariables false
set_option linter.unusedSimpArgs false
attribute [local go_sem] cell_set_far cell_set_off
set_option maxHeartbeats 4000000 in
theorem pdqT_c (A : Option Addr) (c : Nat) (l : List Tag) (x : Tag) (p n : Nat) (z : Int) (lo hi : Nat) (w : World) (hr : RI kTag 57 w lo hi (.slice A n c) (l ++ [x])) (hn : n = l.length + 1) (hs : n ≤ 12) (hu : KUp l) (hp : p ≤ l.length) (h1 : ∀ i, (hi : i < l.length) → i < p → ltS l[i].1 x.1 = true) (h2 : ∀ i, (hi : i < l.length) → p ≤ i → ltS x.1 l[i].1 = true) (hlo : lo ≤ w.heap.size) :
    Calls Try.prog 121 #[.slice A n c, .int .i64 0, .int .i64 n, .int .i64 z, .func (.func 91) #[] #[]] w fun e w' => e = .returned (.tuple #[]) ∧ RI kTag 57 w' lo hi (.slice A n c) (insK l x p) ∧ Ex lo hi w w' := by
  have Hc := Lib.hid (insT_c A c l x p n lo hi · · hn hs hu hp h1 h2 ·)
  clear hn hu hp h1 h2
  have hw0 : IntKind.i64.wrap ((n : Int) - 0) = (n : Int) := by rw [IntWalk.i64_in _ (by omega)]; omega
  have t1 : decide ((n : Int) ≤ 12) = true := decide_eq_true (by omega)
  go_enter Try.func121, Try.ntmps121
  go_wp2
  go_loopw [1, 2, 3] (fun q1 q2 q3 wr => q1 = .int .i64 0 ∧ q2 = .int .i64 n ∧ q3 = .int .i64 z ∧ Aside0 (wr = w)) (fun _ _ _ _ => 0)
  case atStart => exact ⟨rfl, rfl, rfl, ⟨rfl⟩⟩
  case round =>
    obtain ⟨rfl, rfl, rfl, ⟨rfl⟩⟩ := hrel
    go_wp2_with fail
    refine (Hc.out _ hr hlo).mono ?_
    rintro e w2 ⟨rfl, hr2, hx2⟩
    go_wp2
    exact ⟨rfl, .tuple #[], by simp [results, Try.results121, go_sem], rfl, hr2, hx2⟩
set_option maxHeartbeats 4000000 in
theorem SortTag_c (A : Option Addr) (c : Nat) (l : List Tag) (x : Tag) (p n : Nat) (lo hi : Nat) (w : World) (hr : RI kTag 57 w lo hi (.slice A n c) (l ++ [x])) (hn : n = l.length + 1) (hs : n ≤ 12) (hu : KUp l) (hp : p ≤ l.length) (h1 : ∀ i, (hi : i < l.length) → i < p → ltS l[i].1 x.1 = true) (h2 : ∀ i, (hi : i < l.length) → p ≤ i → ltS x.1 l[i].1 = true) (hlo : lo ≤ w.heap.size) :
    Calls Try.prog 90 #[.slice A n c, .func (.func 91) #[] #[]] w fun e w' => e = .returned (.tuple #[]) ∧ RI kTag 57 w' lo hi (.slice A n c) (insK l x p) ∧ Ex lo hi w w' := by
  have Hc := Lib.hid (fun z w (hr : RI kTag 57 w lo hi (.slice A n c) (l ++ [x])) (hlo : lo ≤ w.heap.size) => pdqT_c A c l x p n z lo hi w hr hn hs hu hp h1 h2 hlo)
  clear hn hu hp h1 h2
  have hw0 : IntKind.u64.wrap (n : Int) = (n : Int) := IntWalk.u64_in _ (by omega)
  go_enter Try.func90, Try.ntmps90
  go_wp2_with fail
  refine (lenBits_c n hs _).mono ?_
  rintro e w1 ⟨⟨z, rfl⟩, hb1⟩
  go_wp2_with fail
  refine (Hc.out z _ (hr.below hb1) (Nat.le_trans hlo hb1.size)).mono ?_
  rintro e w2 ⟨rfl, hr2, hx2⟩
  go_wp2
  exact ⟨rfl, .tuple #[], by simp [results, Try.results90, go_sem], rfl, hr2, (Ex.of hb1 hlo).trans hx2⟩
end
section
open Go.RowKit Go.Proofs.YtlebgjafaioajaaW.PrintWords Go.Proofs.YtlebgjafaioajaaW.PrintLast
set_option maxRecDepth 100000
set_option linter.unusedVariables false
set_option linter.unusedSimpArgs false
attribute [local go_sem] cell_set_far cell_set_off
/-- The thing that a putting makes, ahead of the test. -/
abbrev fput0 (f : FeatD) (key val : ByteArray) : FeatD := (f.1, f.2.1, putK f.2.2 (key, val))
theorem putK_mem {α : Type} {l : List (ByteArray × α)} {x t : ByteArray × α} (h : t ∈ putK l x) : t = x ∨ t ∈ l := by
  rw [putK_eq] at h
  induction l with
  | nil => simp [putR] at h; exact .inl h
  | cons u l ih =>
    rw [putR] at h
    split at h
    · rcases List.mem_cons.1 h with h | h
      · exact .inr (h ▸ List.mem_cons_self)
      · rcases ih h with h | h
        · exact .inl h
        · exact .inr (List.mem_cons_of_mem _ h)
    · rcases List.mem_cons.1 h with h | h
      · exact .inl h
      · exact .inr (List.mem_filter.1 h).1
theorem ftx_put {f : FeatD} {key val : ByteArray} (hF : FTx f) (ho : FeatOk f) (hk : key.size ≤ 140737488351232) (hv : val.size ≤ 140737488351232) : FTx (fput0 f key val) := by
  refine ⟨hF.id, hF.pts, ?_, fun t ht => ?_⟩
  · have h1 := ho.2.2.2
    have h2 := putK_le f.2.2 (key, val)
    exact Nat.le_trans h2 (by have : f.2.2.length ≤ 4 := h1; omega)
  · rcases putK_mem ht with rfl | ht
    · exact ⟨hk, hv⟩
    · exact hF.txt t ht
theorem fput_no {f : FeatD} {key val : ByteArray} (h : ¬ (FeatOk f ∧ FeatOk (fput0 f key val))) : fput f key val = (feat0, false) := if_neg h
theorem fput_yes {f : FeatD} {key val : ByteArray} (h : FeatOk f ∧ FeatOk (fput0 f key val)) : fput f key val = (fput0 f key val, true) := if_pos h
set_option maxHeartbeats 4000000 in
theorem sFeatPut_c (f : FeatD) (A : Option Addr) (c : Nat) (B : Option Addr) (d : Nat) (key val : ByteArray) (w : World) (hl : kPt.C w A f.2.1.2.length f.2.1.2) (hm : kTag.C w B f.2.2.length f.2.2) (hF : FTx f) (hk : key.size ≤ 140737488351232) (hv : val.size ≤ 140737488351232) :
    Calls Try.prog 48 #[featV f A c B d, .string key, .string val] w (NFeatB w (fput f key val)) := by
  have n1 := hF.pts
  have n2 := hF.tags
  have hO := sFeatOk_c f A c B d
  have hO2 := fun A c B d => sFeatOk_c (fput0 f key val) A c B d
  cases h1 : featOk f
  case' false =>
    have hf := Lib.hid (fput_no (key := key) (val := val) (fun h => by rw [featOk_t.2 h.1] at h1; cases h1))
    rw [h1] at hO
    clear hO2
  case' true =>
    have h3 := ftx_put hF (featOk_t.1 h1) hk hv
    cases h2 : featOk (fput0 f key val)
    case' false => have hf := Lib.hid (fput_no (key := key) (val := val) (fun h => by rw [featOk_t.2 h.2] at h2; cases h2))
    case' true => have hf := Lib.hid (fput_yes ⟨featOk_t.1 h1, featOk_t.1 h2⟩)
    all_goals
      rw [h1] at hO
      rw [h2] at hO2
      have HO2 := Lib.hid (fun A c B d w ha hb => hO2 A c B d w ha hb h3)
      clear hO2 h2 h3
  all_goals
    have HO := Lib.hid hO
    clear hO h1 hk hv
    obtain ⟨id, ⟨K, l⟩, m⟩ := f
    simp only [featV, fput0] at hl hm n1 n2 hf HO ⊢
    try simp only [featV, fput0] at HO2
    go_enter Try.func48, Try.ntmps48
    go_wp2_with fail
    refine (copyF_c (id, (K, l), m) A c B d _ (Kd.C_below hl bl) (Kd.C_below hm bl) n1 n2).mono ?_
    rintro e w1 ⟨A1, c1, B1, d1, rfl, hr1, ht1, hb1⟩
    simp only [featV] at hr1 ht1 ⊢
    have T1 : B4 w1 w.heap.size 35 (.string id) (.int .i64 K) (.slice A l.length c) (.slice B m.length d) := B4.new' w _ _ _ _ _ _
    have T2 : B4 w1 (w.heap.size + 1) 35 (.string ⟨#[]⟩) (.int .i64 0) (.slice none 0 0) (.slice none 0 0) := B4.new' (w.alloc (.cells #[.string id, .int .i64 K, .slice A l.length c, .slice B m.length d] 35)) _ _ _ _ _ _
    have s1 := hb1.size
    simp only [World.size_alloc] at s1 hr1
    replace T1 := T1.to (below_alloc (Below.refl _ _) (.cells #[.string id, .int .i64 K, .slice A1 l.length c1, .slice B1 m.length d1] 35))
    replace T2 := T2.to (below_alloc (Below.refl _ _) (.cells #[.string id, .int .i64 K, .slice A1 l.length c1, .slice B1 m.length d1] 35))
    have T3 := B4.new w1 (.string id) (.int .i64 K) (.slice A1 l.length c1) (.slice B1 m.length d1) 35
    have hr2 := hr1.alloc (.cells #[.string id, .int .i64 K, .slice A1 l.length c1, .slice B1 m.length d1] 35)
    clear hr1 ht1
    obtain ⟨x0, x1, x2, x3⟩ := T1.c
    go_wp2_with fail
    refine (l2Put_c B d m key val _ (Kd.C_below hm bl) n2).mono ?_
    rintro e w2 ⟨B2, d2, rfl, ht2, hb2⟩
    replace T1 := T1.to hb2
    replace T2 := T2.to hb2
    replace T3 := T3.to hb2
    replace hr2 := hr2.below hb2
    have s2 := hb2.size
    simp only [World.size_alloc] at s2 ht2
    clear x0 x1 x2 x3
    obtain ⟨x0, x1, x2, x3⟩ := T1.c
    obtain ⟨z0, z1, z2, z3⟩ := T3.c
    obtain ⟨v0, v1, v2, v3⟩ := T3.z
    have Bw : Below w.heap.size w (w2.setCell ⟨w1.heap.size, 3, none⟩ (.slice B2 (putK m (key, val)).length d2)) := (bl : Below w.heap.size w w2).setCell (by simp only []; omega) _
    have hr3 := hr2.far (p := ⟨w1.heap.size, 3, none⟩) (Or.inr (Nat.le_refl _)) (.slice B2 (putK m (key, val)).length d2)
    have ht3 := ht2.far (p := ⟨w1.heap.size, 3, none⟩) (Or.inl (by simp only []; omega)) (.slice B2 (putK m (key, val)).length d2)
    have U1 := T1.far (i := 3) (x := .slice B2 (putK m (key, val)).length d2) (show (w.heap.size == w1.heap.size) = false by simp; omega)
    have U2 := T2.far (i := 3) (x := .slice B2 (putK m (key, val)).length d2) (show (w.heap.size + 1 == w1.heap.size) = false by simp; omega)
    have U3 := T3.set3 (.slice B2 (putK m (key, val)).length d2)
    clear T1 T2 T3 hr2 ht2
    have HC1 := Kd.C_below hl Bw
    have HC2 := Kd.C_below hm Bw
    go_wp2_with fail
    refine (HO.out _ HC1 HC2 hF).mono ?_
    rintro e w3 ⟨rfl, hb3⟩
    have s3 := hb3.size
    simp only [World.size_setCell] at s3
    replace U1 := U1.to hb3
    replace U2 := U2.to hb3
    replace U3 := U3.to hb3
    replace hr3 := hr3.below hb3
    replace ht3 := ht3.below hb3
    replace Bw := Bw.trans (hb3.mono (by simp; omega))
    clear x0 x1 x2 x3 z0 z1 z2 z3 v0 v1 v2 v3 HC1 HC2
  rotate_right 1
  · obtain ⟨z0, z1, z2, z3⟩ := U2.c
    obtain ⟨v0, v1, v2, v3⟩ := U2.z
    go_wp2
    refine bodyPost_ret (v := .tuple #[.agg #[.string ⟨#[]⟩, .int .i64 0, .slice none 0 0, .slice none 0 0], .bool false]) (by simp [results, Try.results48, go_sem, *]) rfl ?_
    rw [hf.out]
    exact NFeatB.no ((((Bw.setCell (by simp) _).setCell (by simp) _).setCell (by simp) _).setCell (by simp) _)
  all_goals
    obtain ⟨z0, z1, z2, z3⟩ := U3.c
    go_wp2_with fail
    refine (HO2.out A1 c1 B2 d2 _ hr3.rd.2.2 ht3.rd.2.2).mono ?_
    rintro e w4 ⟨rfl, hb4⟩
    have s4 := hb4.size
    replace U2 := U2.to hb4
    replace U3 := U3.to hb4
    replace hr3 := hr3.below hb4
    replace ht3 := ht3.below hb4
    replace Bw := Bw.trans (hb4.mono (by omega))
    clear z0 z1 z2 z3
    obtain ⟨z0, z1, z2, z3⟩ := U2.c
    obtain ⟨v0, v1, v2, v3⟩ := U2.z
  rotate_right 1
  · go_wp2
    refine bodyPost_ret (v := .tuple #[.agg #[.string ⟨#[]⟩, .int .i64 0, .slice none 0 0, .slice none 0 0], .bool false]) (by simp [results, Try.results48, go_sem, *]) rfl ?_
    rw [hf.out]
    exact NFeatB.no ((((Bw.setCell (by simp) _).setCell (by simp) _).setCell (by simp) _).setCell (by simp) _)
  · obtain ⟨x0, x1, x2, x3⟩ := U3.c
    go_wp2
    refine bodyPost_ret (v := .tuple #[.agg #[.string id, .int .i64 K, .slice A1 l.length c1, .slice B2 (putK m (key, val)).length d2], .bool true]) (by simp [results, Try.results48, go_sem, *]) rfl ?_
    rw [hf.out]
    exact ⟨A1, c1, B2, d2, rfl, RI.of (U2.R (hr3.up (by omega)) (by decide) _ _ _ _), RI.of (U2.R (ht3.up (by omega)) (by decide) _ _ _ _), (((Bw.setCell (by simp) _).setCell (by simp) _).setCell (by simp) _).setCell (by simp) _⟩
end
section
open Go.RowKit Go.Proofs.YtlebgjafaioajaaW.PrintWords Go.Proofs.YtlebgjafaioajaaW.PrintLast
set_option maxRecDepth 100000
set_option linter.unusedVariables false
set_option linter.unusedSimpArgs false
attribute [local go_sem] cell_set_far cell_set_off
theorem Tight.ne {α : Type} {d : Kd α} {e lo hi a b g t : Nat} {W : World} {v : Value} {xs : List α} {cs : Array Value} (h : Tight d e W lo hi v xs a b) (hg : W.heap[g]? = some (.cells cs t (0, 0))) (ht : e ≠ t) : g < a ∨ b ≤ g := by
  obtain ⟨_, h3, _, h4, _, h5⟩ := h
  by_cases hab : a < b
  · obtain ⟨c, hc⟩ := h5 hab
    have : a ≠ g := blk_ne hc hg ht
    omega
  · omega
theorem B4.exb {W W1 : World} {b lo hi : Nat} {t : TypeId} {p q r s : Value} (h : B4 W b t p q r s) (hx : Ex lo hi W W1) (hf : b < lo ∨ hi ≤ b) : B4 W1 b t p q r s := by
  have : W1.heap[b]? = W.heap[b]? := by
    rcases hf with h1 | h1
    · exact hx.1.block _ h1
    · exact hx.2 _ h1 h.lt
  unfold B4 at h ⊢
  rw [this, h]
set_option maxHeartbeats 8000000 in
theorem iFeatPut_c (f : FeatD) (A : Option Addr) (c : Nat) (B : Option Addr) (d : Nat) (key val : ByteArray) (w : World) (hl : kPt.C w A f.2.1.2.length f.2.1.2) (hm : kTag.C w B f.2.2.length f.2.2) (hF : FTx f) (hk : key.size ≤ 140737488351232) (hv : val.size ≤ 140737488351232) :
    Calls Try.prog 47 #[featV f A c B d, .string key, .string val] w (NFeatB w (fput f key val)) := by
  have n1 := hF.pts
  have n2 := hF.tags
  have hO := iFeatOk_c f A c B d
  cases h1 : featOk f with
  | false =>
    have hf := Lib.hid (fput_no (key := key) (val := val) (fun h => by rw [featOk_t.2 h.1] at h1; cases h1))
    rw [h1] at hO
    have HO := Lib.hid hO
    clear hO h1 hk hv
    obtain ⟨id, ⟨K, l⟩, m⟩ := f
    simp only [featV] at hl hm n1 n2 hf HO ⊢
    go_enter Try.func47, Try.ntmps47
    go_wp2_with fail
    refine (HO.out _ (Kd.C_below hl bl) (Kd.C_below hm bl) hF).mono ?_
    rintro e w1 ⟨rfl, hb1⟩
    have T2 : B4 w1 (w.heap.size + 1) 35 (.string ⟨#[]⟩) (.int .i64 0) (.slice none 0 0) (.slice none 0 0) := B4.new' (w.alloc (.cells #[.string id, .int .i64 K, .slice A l.length c, .slice B m.length d] 35)) _ _ _ _ _ _
    obtain ⟨z0, z1, z2, z3⟩ := T2.c
    obtain ⟨v0, v1, v2, v3⟩ := T2.z
    go_wp2
    refine bodyPost_ret (v := .tuple #[.agg #[.string ⟨#[]⟩, .int .i64 0, .slice none 0 0, .slice none 0 0], .bool false]) (by simp [results, Try.results47, go_sem, *]) rfl ?_
    rw [hf.out]
    exact NFeatB.no (((((bl : Below w.heap.size w w1).setCell (by simp) _).setCell (by simp) _).setCell (by simp) _).setCell (by simp) _)
  | true =>
    have h3 := ftx_put hF (featOk_t.1 h1) hk hv
    have hOK := featOk_t.1 h1
    have hn4 : f.2.2.length ≤ 4 := hOK.2.2.2
    have hup : KUp f.2.2 := kup (fun i hi h0 => (hOK.2.2.1.up i hi h0))
    rw [h1] at hO
    have hput := putK_eq f.2.2 (key, val)
    have hple := putK_le f.2.2 (key, val)
    have hO2 := fun A c B d => iFeatOk_c (fput0 f key val) A c B d
    have hT := fun A c B d w => tag_c f A c B d key w
    have hat : (∃ k, atK f.2.2 key = some k ∧ k < f.2.2.length ∧ putK f.2.2 (key, val) = f.2.2.set k (key, val) ∧ ∃ h : k < f.2.2.length, f.2.2[k].1 = key) ∨ (atK f.2.2 key = none ∧ ∃ p, p ≤ f.2.2.length ∧ putK f.2.2 (key, val) = insK f.2.2 (key, val) p ∧ (∀ i, (hi : i < f.2.2.length) → i < p → ltS f.2.2[i].1 key = true) ∧ (∀ i, (hi : i < f.2.2.length) → p ≤ i → ltS key f.2.2[i].1 = true)) := by
      cases ha : atK f.2.2 key with
      | some k =>
        obtain ⟨hk1, hk2, _⟩ := atK_is ha
        exact .inl ⟨k, rfl, hk1, by rw [hput]; exact putR_at hup ha, hk1, hk2⟩
      | none =>
        obtain ⟨p, hp1, hp2, hp3, hp4⟩ := putR_ins (x := (key, val)) hup (fun t ht => by obtain ⟨i, hi, rfl⟩ := List.getElem_of_mem ht; exact atK_no ha i hi)
        exact .inr ⟨rfl, p, hp1, by rw [hput, hp2]; rfl, hp3, hp4⟩
    have hfin : (featOk (fput0 f key val) = false ∧ fput f key val = (feat0, false)) ∨ (featOk (fput0 f key val) = true ∧ fput f key val = (fput0 f key val, true)) := by
      cases h2 : featOk (fput0 f key val) with
      | false => exact .inl ⟨rfl, fput_no (fun h => by rw [featOk_t.2 h.2] at h2; cases h2)⟩
      | true => exact .inr ⟨rfl, fput_yes ⟨featOk_t.1 h1, featOk_t.1 h2⟩⟩
    have Hat := Lib.hid hat
    have Hfin := Lib.hid hfin
    have HO := Lib.hid hO
    have HO2 := Lib.hid (fun A c B d w ha hb => hO2 A c B d w ha hb h3)
    have HT := Lib.hid hT
    have Hup := Lib.hid hup
    clear hO hO2 hT hat hfin h1 h3 hOK hput hup hk hv
    obtain ⟨id, ⟨K, l⟩, m⟩ := f
    simp only [featV, fput0] at hl hm n1 n2 Hat Hfin HO HO2 HT Hup hn4 hple ⊢
    go_enter Try.func47, Try.ntmps47
    go_wp2_with fail
    refine (HO.out _ (Kd.C_below hl bl) (Kd.C_below hm bl) hF).mono ?_
    rintro e w1 ⟨rfl, hb1⟩
    have T1 : B4 w1 w.heap.size 35 (.string id) (.int .i64 K) (.slice A l.length c) (.slice B m.length d) := B4.new' w _ _ _ _ _ _
    have T2 : B4 w1 (w.heap.size + 1) 35 (.string ⟨#[]⟩) (.int .i64 0) (.slice none 0 0) (.slice none 0 0) := B4.new' (w.alloc (.cells #[.string id, .int .i64 K, .slice A l.length c, .slice B m.length d] 35)) _ _ _ _ _ _
    have s1 := hb1.size
    simp only [World.size_alloc] at s1
    obtain ⟨x0, x1, x2, x3⟩ := T1.c
    go_wp2_with fail
    refine (cloneF_c (id, (K, l), m) A c B d _ (Kd.C_below hl bl) (Kd.C_below hm bl) n1 n2).mono ?_
    rintro e w2 ⟨A2, c2, B2, d2, rfl, hr2, ht2, hb2⟩
    simp only [featV] at hr2 ht2 ⊢
    have s2 := hb2.size
    clear x0 x1 x2 x3
    replace T2 := (T2.to hb2).to (below_alloc (Below.refl _ _) (.cells #[.string id, .int .i64 K, .slice A2 l.length c2, .slice B2 m.length d2] 35))
    have T3 := B4.new w2 (.string id) (.int .i64 K) (.slice A2 l.length c2) (.slice B2 m.length d2) 35
    have ht3 := RI.alloc ht2 (.cells #[.string id, .int .i64 K, .slice A2 l.length c2, .slice B2 m.length d2] 35)
    have hr3 := RI.alloc hr2 (.cells #[.string id, .int .i64 K, .slice A2 l.length c2, .slice B2 m.length d2] 35)
    clear hr2 ht2 T1
    obtain ⟨z0, z1, z2, z3⟩ := T3.c
    go_wp2_with fail
    refine (HT.out A2 c2 B2 d2 _ ht3.rd.2.2 n2).mono ?_
    rintro e w3 ⟨rfl, hb3⟩
    have s3 := hb3.size
    simp only [World.size_alloc] at s3
    replace T2 := T2.to hb3
    replace T3 := T3.to hb3
    replace ht3 := ht3.below hb3
    replace hr3 := hr3.below hb3
    have Bw : Below w.heap.size w w3 := bl
    clear z0 z1 z2 z3 HT HO
    rcases Hat.out with ⟨k, hat, hkm, hput, hkm2, hkk⟩ | ⟨hat, p, hpm, hput, hp1, hp2⟩
    · rw [hat]
      have e0 : optI (some k) = (k : Int) := rfl
      rw [e0]
      have t1 : decide ((0 : Int) ≤ (k : Int)) = true := decide_eq_true (by omega)
      obtain ⟨g, cap, hvv, hg1, hg2, ⟨cells, hgc⟩⟩ := Kd.R_form ht3 (by omega)
      injection hvv with e1 e2 e3
      subst e1
      clear e2 e3
      have hg3 : g < w2.heap.size := ht3.1 g rfl
      obtain ⟨y0, y1, f0, f1⟩ := own_Tag ht3 k hkm
      have ht4 := set_Tag1 ht3 k hkm hkm val
      rw [hkk, ← hput] at ht4
      have hlen : m.length = (putK m (key, val)).length := by rw [hput, List.length_set]
      have hr5 : RI kPt 108 (w3.setCell ⟨g, k * 2 + 1, none⟩ (.string val)) w1.heap.size w2.heap.size (.slice A2 l.length c2) l := Kd.R_set hr3 hgc (by decide) (k * 2 + 1) (.string val)
      have T25 := T2.far (i := k * 2 + 1) (x := .string val) (show (w.heap.size + 1 == g) = false by simp; omega)
      have T35 := T3.far (i := k * 2 + 1) (x := .string val) (show (w2.heap.size == g) = false by simp; omega)
      obtain ⟨z0, z1, z2, z3⟩ := T3.c
      rw [hlen] at T35 ht4
      obtain ⟨u0, u1, u2, u3⟩ := T35.c
      have hC1 := hr5.rd.2.2
      have hC2 := (Kd.R_reads' ht4).2.2
      have B5 : Below w.heap.size w (w3.setCell ⟨g, k * 2 + 1, none⟩ (.string val)) := Bw.setCell (by simp only []; omega) _
      have s5 : w2.heap.size + 1 ≤ (w3.setCell ⟨g, k * 2 + 1, none⟩ (.string val)).heap.size := by simp; omega
      have HO3 := Lib.hid (HO2.out A2 c2 (some ⟨g, 0, none⟩) d2 _ hC1 hC2)
      clear hr3 ht3 ht4 hr5 T2 T3 Bw HO2 Hat hgc hput hkm2 hkk hat
      have n3 : (putK m (key, val)).length ≤ 1048576 := by omega
      have Hc1 := Lib.hid (hC1)
      have Hc2 := Lib.hid (hC2)
      clear hple hC1 hC2
      rcases Hfin.out with ⟨hb, hf⟩ | ⟨hb, hf⟩
      all_goals
        rw [hb] at HO3
        have Hf := Lib.hid hf
        clear hb hf
        go_wp2_with fail
        refine (HO3.out).mono ?_
        rintro e w6 ⟨rfl, hb6⟩
        have s6 := hb6.size
        replace T25 := T25.to hb6
        replace T35 := T35.to hb6
        replace B5 := B5.trans (hb6.mono (by omega))
        clear z0 z1 z2 z3 y0 y1 f0 f1 u0 u1 u2 u3
      · obtain ⟨z0, z1, z2, z3⟩ := T25.c
        obtain ⟨v0, v1, v2, v3⟩ := T25.z
        go_wp2
        refine bodyPost_ret (v := .tuple #[.agg #[.string ⟨#[]⟩, .int .i64 0, .slice none 0 0, .slice none 0 0], .bool false]) (by simp [results, Try.results47, go_sem, *]) rfl ?_
        rw [Hf.out]
        exact NFeatB.no ((((B5.setCell (by simp) _).setCell (by simp) _).setCell (by simp) _).setCell (by simp) _)
      · obtain ⟨u0, u1, u2, u3⟩ := T35.c
        go_wp2_with fail
        refine (cloneF_c (id, (K, l), putK m (key, val)) A2 c2 (some ⟨g, 0, none⟩) d2 _ (Kd.C_below Hc1.out hb6) (Kd.C_below Hc2.out hb6) n1 n3).mono ?_
        rintro e w7 ⟨A7, c7, B7, d7, rfl, hr7, ht7, hb7⟩
        simp only [featV] at hr7 ht7 ⊢
        have s7 := hb7.size
        replace T25 := T25.to hb7
        replace B5 := B5.trans (hb7.mono (by omega))
        clear u0 u1 u2 u3
        obtain ⟨z0, z1, z2, z3⟩ := T25.c
        obtain ⟨v0, v1, v2, v3⟩ := T25.z
        go_wp2
        refine bodyPost_ret (v := .tuple #[.agg #[.string id, .int .i64 K, .slice A7 l.length c7, .slice B7 (putK m (key, val)).length d7], .bool true]) (by simp [results, Try.results47, go_sem, *]) rfl ?_
        rw [Hf.out]
        exact ⟨A7, c7, B7, d7, rfl, RI.of (T25.R (hr7.up (by omega)) (by decide) _ _ _ _), RI.of (T25.R (ht7.up (by omega)) (by decide) _ _ _ _), (((B5.setCell (by simp) _).setCell (by simp) _).setCell (by simp) _).setCell (by simp) _⟩
    · rw [hat]
      have e0 : optI (none : Option Nat) = -1 := rfl
      rw [e0]
      have ho3 : kTag.R 57 w3 w.heap.size (fun _ => True) (.slice B2 m.length d2) m := ht3.up (by omega)
      obtain ⟨z0, z1, z2, z3⟩ := T3.c
      obtain ⟨y0, y1, y2, y3⟩ := T3.z
      go_wp2_with (at_builtin; refine appOne (d := kTag) (w0 := w) (base := w.heap.size) 33 57 z0Tag 32 Try.underlying33 info_Tag rfl (by decide) (by omega) (.tmp 28) (.tmp 32) _ m ((key, val) : Tag) [.string ((key, val) : Tag).1, .string ((key, val) : Tag).2] (kTag_mkM _ _ _ ((key, val) : Tag)) ho3 Bw (by omega) (by omega) ?_; intro B4 d4 w4 ho4 hb4 hg4; replace ho4 := (show kTag.R 57 w4 w.heap.size (fun _ => True) (.slice B4 (m.length + 1) d4) (m ++ [((key, val) : Tag)]) by have h_ := ho4; rwa [List.length_append] at h_); have T34 := T3.grown hg4 (Kd.R_ne ho3 T3 (by decide)); obtain ⟨q0, q1, q2, q3⟩ := T34.c; obtain ⟨r0, r1, r2, r3⟩ := T34.z; have T35 := T34.set3 (.slice B4 (m.length + 1) d4); obtain ⟨u0, u1, u2, u3⟩ := T35.c)
      have B5 := hb4.setCell (p := ⟨w2.heap.size, 3, none⟩) (by simp only []; omega) (.slice B4 (m.length + 1) d4)
      have hs4 := hg4.size
      have ht5 : RI kTag 57 (w4.setCell ⟨w2.heap.size, 3, none⟩ (.slice B4 (m.length + 1) d4)) w.heap.size (w4.setCell ⟨w2.heap.size, 3, none⟩ (.slice B4 (m.length + 1) d4)).heap.size (.slice B4 (m.length + 1) d4) (m ++ [((key, val) : Tag)]) := RI.of (Kd.R_set ho4 T34 (by decide) 3 _)
      have hr4 : RI kPt 108 w4 w1.heap.size w2.heap.size (.slice A2 l.length c2) l := R_grownT hr3 ho3 (by decide) hg4
      have hr5 : RI kPt 108 (w4.setCell ⟨w2.heap.size, 3, none⟩ (.slice B4 (m.length + 1) d4)) w1.heap.size w2.heap.size (.slice A2 l.length c2) l := Kd.R_set hr4 T34 (by decide) 3 _
      have T25 := (T2.grown hg4 (Kd.R_ne ho3 T2 (by decide))).far (i := 3) (x := .slice B4 (m.length + 1) d4) (show (w.heap.size + 1 == w2.heap.size) = false by simp; omega)
      obtain ⟨ta, tb, tt⟩ := tight_of (fun _ _ _ _ _ _ _ h => h) ht5 (by simp; omega)
      obtain ⟨pa, pb, tp⟩ := tight_of (fun _ _ _ _ _ _ _ h => h) hr5 (by omega)
      have hap := tight_apart tp tt (by decide)
      have hta : w.heap.size ≤ ta := tt.1
      have htb := tt.2.2.1
      have hpa := tp.1
      have hn2 := tt.ne T25 (by decide)
      have hn3 := tt.ne T35 (by decide)
      have hSr := tt.2.2.2.2.1
      have hPr := tp.2.2.2.2.1
      refine (SortTag_c B4 d4 m (key, val) p (m.length + 1) ta tb _ hSr rfl (by omega) Hup.out hpm hp1 hp2 (Nat.le_trans tt.2.1 htb)).mono ?_
      rintro e w5 ⟨rfl, ht6, hx6⟩
      replace T25 := T25.exb hx6 hn2
      replace T35 := T35.exb hx6 hn3
      have hr6 := hPr.ex hx6 (by omega)
      rw [← hput] at ht6
      have hlen : m.length + 1 = (putK m (key, val)).length := by rw [hput, insK_len _ _ _ hpm]
      rw [hlen] at ht6 T35
      replace B5 := B5.trans (hx6.1.mono hta)
      have s5 := hx6.1.size
      simp only [World.size_setCell] at s5
      clear z0 z1 z2 z3 y0 y1 y2 y3 q0 q1 q2 q3 r0 r1 r2 r3 u0 u1 u2 u3 T34 hr3 hr4 hr5 ht3 ho3 ho4 T2 T3 hg4 hb4 hSr hPr tt tp ht5 hx6 hp1 hp2 Hat
      obtain ⟨u0, u1, u2, u3⟩ := T35.c
      have HO3 := Lib.hid (HO2.out A2 c2 B4 d4 _ hr6.rd.2.2 ht6.rd.2.2)
      have n3 : (putK m (key, val)).length ≤ 1048576 := by omega
      have Hc1 := Lib.hid (hr6.rd.2.2)
      have Hc2 := Lib.hid (ht6.rd.2.2)
      clear hple hr6 ht6 hput hlen hap hn2 hn3
      rcases Hfin.out with ⟨hb, hf⟩ | ⟨hb, hf⟩
      all_goals
        rw [hb] at HO3
        have Hf := Lib.hid hf
        clear hb hf
        go_wp2_with fail
        refine (HO3.out).mono ?_
        rintro e w6 ⟨rfl, hb6⟩
        have s6 := hb6.size
        replace T25 := T25.to hb6
        replace T35 := T35.to hb6
        replace B5 := B5.trans (hb6.mono (by omega))
        clear u0 u1 u2 u3
      · obtain ⟨z0, z1, z2, z3⟩ := T25.c
        obtain ⟨v0, v1, v2, v3⟩ := T25.z
        go_wp2
        refine bodyPost_ret (v := .tuple #[.agg #[.string ⟨#[]⟩, .int .i64 0, .slice none 0 0, .slice none 0 0], .bool false]) (by simp [results, Try.results47, go_sem, *]) rfl ?_
        rw [Hf.out]
        exact NFeatB.no ((((B5.setCell (by simp) _).setCell (by simp) _).setCell (by simp) _).setCell (by simp) _)
      · obtain ⟨u0, u1, u2, u3⟩ := T35.c
        go_wp2_with fail
        refine (cloneF_c (id, (K, l), putK m (key, val)) A2 c2 B4 d4 _ (Kd.C_below Hc1.out hb6) (Kd.C_below Hc2.out hb6) n1 n3).mono ?_
        rintro e w7 ⟨A7, c7, B7, d7, rfl, hr7, ht7, hb7⟩
        simp only [featV] at hr7 ht7 ⊢
        have s7 := hb7.size
        replace T25 := T25.to hb7
        replace B5 := B5.trans (hb7.mono (by omega))
        clear u0 u1 u2 u3
        obtain ⟨z0, z1, z2, z3⟩ := T25.c
        obtain ⟨v0, v1, v2, v3⟩ := T25.z
        go_wp2
        refine bodyPost_ret (v := .tuple #[.agg #[.string id, .int .i64 K, .slice A7 l.length c7, .slice B7 (putK m (key, val)).length d7], .bool true]) (by simp [results, Try.results47, go_sem, *]) rfl ?_
        rw [Hf.out]
        exact ⟨A7, c7, B7, d7, rfl, RI.of (T25.R (hr7.up (by omega)) (by decide) _ _ _ _), RI.of (T25.R (ht7.up (by omega)) (by decide) _ _ _ _), (((B5.setCell (by simp) _).setCell (by simp) _).setCell (by simp) _).setCell (by simp) _⟩
end
end Go.Proofs.Ytlebgjafaioajaa
