/- Contracts: slices.Delete of tags; a thing without a key, in the program. -/
import Derived.Test.YtlebgjafaioajaaFj
import Derived.Test.YtlebgjafaioajaaFi
namespace Go.Proofs.Ytlebgjafaioajaa
open Go.RowKit Go.Proofs.YtlebgjafaioajaaW.PrintWords Go.Proofs.YtlebgjafaioajaaW.PrintLast
set_option maxRecDepth 100000
set_option linter.unusedVariables false
set_option linter.unusedSimpArgs false
attribute [local go_sem] cell_set_far cell_set_off
section
variable {α : Type} {d : Kd α} {P : Program} {ops : Array Oper} {Q : Exit → Act → World → Prop} {T : Bool × List (List Nat × List Nat)} {i k n fuel : Nat} {p ds : List Nat} {oi : Oper} {a : Act} {w : World} {L : List (Addr × Value)}
/-- append(xs[:j], xs[j+1:]..), alone. -/
theorem cgDel {w0 : World} {base : Nat} (t e : TypeId) (ht : P.underlying t = some (.slice e)) (hinfo : (P.info? e).map (·.size) = some d.sz) (s x : Operand) {g m c j m2 c2 : Nat} {A : Option Addr} {xs : List α} (hT : Aside0 (rtab .any ops = T)) (hC : Cells w L) (hf : ∀ x ∈ L, some x.1.block ≠ some g)
    (HO : d.R e w base (fun _ => True) (.slice (some ⟨g, 0, none⟩) m c) xs) (hj : j < m) (HB : Below base w0 w) (hbase : base ≤ w.heap.size) (hA : A = if c = j + 1 then some ⟨g, 0, none⟩ else (some (⟨g, 0, none⟩ : Addr)).map (·.add ((j + 1) * d.sz))) (hm : m2 = m - (j + 1))
    (h : ∀ w1, d.R e w1 base (fun _ => True) (.slice (some ⟨g, 0, none⟩) (m - 1) c) (xs.eraseIdx j) → Below base w0 w1 → w.grownBy w1 (some g) → Cells w1 L → wpAnyLast P .any ops Q (fun w' => Cells w' L) ds fuel (lit p (k + 1) n) (a.put oi.dst (.slice (some ⟨g, 0, none⟩) (m - 1) c)) w1)
    (hk : p[k]? = some i := by (try simp only [List.getElem?_cons_succ, List.getElem?_cons_zero]); rfl) (hi : ops[i]? = some oi := by (try simp only [List.getElem?_toArray, List.getElem?_cons_succ, List.getElem?_cons_zero]); rfl)
    (ho : oi.op = .call { callee := .builtin .append, args := #[s, x], argTypes := #[t, t] } := by rfl) (hw : Region.wanted oi (yielded ops a.tmps) = true := by rfl) (hs : a.eval s = .slice (some ⟨g, 0, none⟩) j c := by rfl) (hx : a.eval x = .slice A m2 c2 := by rfl) (hd : i ∉ ds := by decide)
    (hc : (readyT T.2 (lit p k n).toList == [i] && (lit p k n).toList.set i true == (lit p (k + 1) n).toList) = true := by kernel_rfl) : wpAnyLast P .any ops Q (fun w' => Cells w' L) ds (fuel + 1) (lit p k n) a w := by
  refine one_ (lit p (k + 1) n) hi rfl (one_of hT.out hc) hd (fun K hK => ?_)
  refine Kd.R_delete_step d (w0 := w0) base hw s x t e ho ht hinfo hs hx hA hm HO hj HB hbase ?_
  intro w1 ho1 hb1 hg1
  have hC1 := hC.grown hg1 hf
  exact hK _ _ hC1 (fun _ => h w1 ho1 hb1 hg1 hC1)
end
/-- Cells behind a row's length are set: the row stays. -/
theorem R_spare {α : Type} {d : Kd α} {e base g n c : Nat} {ok : Nat → Prop} {W : World} {xs : List α} (h : d.R e W base ok (.slice (some ⟨g, 0, none⟩) n c) xs) (o : Nat) (vs : List Value) (ho : n * d.sz ≤ o) (hl : o + vs.length ≤ c * d.sz) :
    d.R e (W.setCells g o vs) base ok (.slice (some ⟨g, 0, none⟩) n c) xs ∧ W.grownBy (W.setCells g o vs) (some g) := by
  obtain ⟨hok, inner, ⟨ho1, ho2⟩, hr⟩ := h
  rcases ho2 with ⟨hv, _⟩ | ⟨g', cap', cur, hv, hb, hh, hnc, hcm, hcs, ht⟩
  · cases hv
  injection hv with ha hn hc
  injection ha with ha
  injection ha with hg
  subst hg; subst hc
  obtain ⟨cur', h3, h4, h5⟩ := setCells_row vs o W cur hh (by omega)
  obtain ⟨s1, s2, s3, s4⟩ := setCells_same g vs o W
  have hfar : ∀ k, k ≠ g → (W.setCells g o vs).heap[k]? = W.heap[k]? := fun k hk => setCells_far vs _ k hk
  have hlen : cur.toList.length = c * d.sz := by rw [Array.length_toList, hcs]
  have hxo : xs.length * d.sz ≤ o := by rw [← hn]; exact ho
  refine ⟨⟨hok, inner, ⟨ho1, .inr ⟨g, c, cur', by rw [hn], hb, h3, hnc, hcm, by rw [h4, hcs], ?_⟩⟩, hr.imp_ (fun x cs hx => d.M_move (fun k hk => hfar k (fun e => hk.2 (by rw [e]; rfl))) hx)⟩, ⟨s1, s2, s3, by rw [s4]; exact Nat.le_refl _, fun k _ hk => hfar k (fun he => hk (by rw [he]))⟩⟩
  rw [← ht, h5, List.append_assoc, List.take_append_of_le_length (by rw [List.length_take, hlen]; omega), List.take_take, Nat.min_eq_left hxo]
theorem R_room {α : Type} {d : Kd α} {e base g n c : Nat} {ok : Nat → Prop} {W : World} {xs : List α} (h : d.R e W base ok (.slice (some ⟨g, 0, none⟩) n c) xs) (o : Nat) (ho : o < c * d.sz) : (W.cell? ⟨g, o, none⟩).isSome = true ∧ W.frozen? ⟨g, o, none⟩ = false := by
  obtain ⟨hok, inner, ⟨ho1, ho2⟩, hr⟩ := h
  rcases ho2 with ⟨hv, _⟩ | ⟨g', cap', cur, hv, hb, hh, hnc, hcm, hcs, ht⟩
  · cases hv
  injection hv with ha hn hc
  injection ha with ha
  injection ha with hg
  subst hg; subst hc
  refine ⟨?_, blk_frozen hh o⟩
  rw [blk_cell hh o, Array.getElem?_eq_getElem (by omega)]
  rfl
theorem tagBack {e lo hi g n c : Nat} {W : World} {xs : List Tag} (h : kTag.R e W lo (fun _ => True) (.slice (some ⟨g, 0, none⟩) n c) xs) (hg : g < hi) : RI kTag e W lo hi (.slice (some ⟨g, 0, none⟩) n c) xs :=
  ⟨fun k hk => by
    have : g = k := by simpa [Value.ownBlock] using hk
    show k < hi
    omega, h.2.imp_ (fun _ _ hx => hx)⟩
theorem Ex.ofGrown {lo hi g : Nat} {w w1 : World} (h : w.grownBy w1 (some g)) (h1 : lo ≤ g) (h2 : g < hi) (h3 : lo ≤ w.heap.size) : Ex lo hi w w1 :=
  ⟨(Below.refl lo w).grown h h3 (fun k e => by injection e with e; omega), fun k hk hlt => h.block k hlt (fun e => by injection e with e; omega)⟩
theorem clear2 (P : Program) (w : World) (t e ty : TypeId) (z : Array Value) (ht : P.underlying t = some (.slice e)) (hv : ∀ w, (zeroValue e).run P w = .ok (.agg z) w) (hz : ∀ v ∈ z.toList, v.oneCell' = true) (b o c : Nat)
    (hc : ∀ j, j < z.size → (w.cell? ⟨b, o + j, none⟩).isSome = true) (hf : ∀ j, j < z.size → w.frozen? ⟨b, o + j, none⟩ = false) :
    (Builtin.clear_ #[t] ty #[.slice (some ⟨b, o, none⟩) 1 c]).run P w = .ok (.tuple #[]) (w.setCells b o z.toList) := by
  have hzc : (Builtin.zeroCells (Value.agg z).cells 1).toList = z.toList := by
    simp [Builtin.zeroCells, Value.cells]
    apply List.ext_getElem
    · simp
    · intro i h1 h2
      simp at h1
      simp [Nat.mod_eq_of_lt h1, getElem!_pos z i h1]
  have hst := run_storeCells_cells (P := P) b o z.toList 0 w (by simpa using hc) (by simpa using hf) hz
  simp only [Nat.add_zero] at hst
  simp [Builtin.clear_, run_underlying ht, hv, hzc, hst]
theorem zeroTag (w : World) : (zeroValue 57).run Try.prog w = .ok (.agg #[.string ByteArray.empty, .string ByteArray.empty]) w := by
  have h := info_Tag
  obtain ⟨i, hi, hz⟩ := Option.map_eq_some_iff.1 h
  simp only [Prod.mk.injEq] at hz
  simp [zeroValue, typeInfo, hi, hz.1]
def g_slices_Delete_Tag_T5 : Bool × List (List Nat × List Nat) := (true, [([], []), ([], []), ([0, 1], [0, 1]), ([], []), ([], []), ([3, 4], [3, 4]), ([2, 5], [2, 5]), ([6, 6, 0, 1, 2, 3, 4, 5, 6], [0, 3, 6])])
theorem g_slices_Delete_Tag_t5 : rtab .any (opsOf Try.f73 5) = g_slices_Delete_Tag_T5 := by kernel_rfl
set_option maxHeartbeats 4000000 in
theorem DeleteTag_c (A : Option Addr) (c : Nat) (l : List Tag) (k : Nat) (lo hi : Nat) (w : World) (hr : RI kTag 57 w lo hi (.slice A l.length c) l) (hk : k < l.length) (hn : l.length ≤ 1048576) (hlo : lo ≤ w.heap.size) :
    Calls Try.prog 73 #[.slice A l.length c, .int .i64 k, .int .i64 ((k : Int) + 1)] w fun e w' => e = .returned (.slice A (l.length - 1) c) ∧ RI kTag 57 w' lo hi (.slice A (l.length - 1) c) (l.eraseIdx k) ∧ Ex lo hi w w' := by
  obtain ⟨g, cap, hv, hg1, hg2, _⟩ := Kd.R_form hr (by omega)
  injection hv with e1 e2 e3
  subst e1
  clear e2 e3
  have hg3 : g < hi := hr.1 g rfl
  have hcl : l.length ≤ c := hr.rd.2.1
  have hx1 : ((k : Int) == (k : Int) + 1) = false := by rw [beq_eq_false_iff_ne]; omega
  have hct := cut_to (P := Try.prog) 33 57 .i64 Try.underlying33 rfl (some ⟨g, 0, none⟩) l.length c (k : Int) (by omega) (by omega) hcl
  have hcf := cut_from (P := Try.prog) 33 57 .i64 Try.underlying33 rfl kTag.sz rfl (some ⟨g, 0, none⟩) l.length c ((k : Int) + 1) (by omega) (by omega)
  have ek : ((k : Int) + 1).toNat = k + 1 := by omega
  rw [ek] at hcf
  simp only [Int.toNat_natCast] at hct
  generalize hA9 : (if c = k + 1 then some (⟨g, 0, none⟩ : Addr) else (some (⟨g, 0, none⟩ : Addr)).map (·.add ((k + 1) * kTag.sz))) = A9 at hcf
  have HA9 := Lib.hid hA9.symm
  clear hA9 ek
  go_enter Try.func73, Try.ntmps73
  go_wp2
  have ho : kTag.R 57 w lo (fun _ => True) (.slice (some ⟨g, 0, none⟩) l.length c) l := Kd.R_mono hr (fun _ _ => trivial)
  refine cgStart 8 [0, 1, 2, 3, 4, 5, 6, 7] [] [] g_slices_Delete_Tag_t5 trivial (fun HT HD => ?_)
  repeat ((with_reducible refine cgGate ?_); first | refine cgP HT ?_ | refine cgL HT ?_ | refine cgG HT ?_)
  refine cgDel (d := kTag) (w0 := w) (base := lo) 33 57 Try.underlying33 (by kernel_rfl) (.tmp 22) (.tmp 25) HT HD (by simp) (Kd.R_below ho bl) hk ((bl : Below w.heap.size w w.drew).mono hlo) (by simpa using hlo) HA9.out rfl ?_
  intro w1 ho1 hb1 hgA HD1
  refine cgN ?_
  repeat ((with_reducible refine cgGate ?_); first | refine cgP HT ?_ | refine cgL HT ?_ | refine cgG HT ?_)
  refine cgDone HT ?_
  clear HT HD HD1 hct hcf HA9 hx1
  have hel : (l.eraseIdx k).length = l.length - 1 := List.length_eraseIdx_of_lt hk
  obtain ⟨m, hm⟩ : ∃ m, m = l.length - 1 := ⟨_, rfl⟩
  rw [← hm] at ho1 ⊢
  have e1 : l.length - m = 1 := by omega
  have hml : m ≤ l.length := by omega
  have hm2 : m * 2 + 2 ≤ c * 2 := by omega
  have hcl2 : ∀ ty, (Builtin.clear_ #[33] ty #[.slice (some ⟨g, m * 2, none⟩) 1 (c - m)]).run Try.prog w1 = .ok (.tuple #[]) (w1.setCells g (m * 2) [.string ByteArray.empty, .string ByteArray.empty]) := fun ty =>
    clear2 Try.prog w1 33 57 ty #[.string ByteArray.empty, .string ByteArray.empty] Try.underlying33 zeroTag (by simp [Value.oneCell']) g (m * 2) (c - m) (fun j hj => (R_room ho1 (m * 2 + j) (by show m * 2 + j < c * 2; simp at hj; omega)).1) (fun j hj => (R_room ho1 (m * 2 + j) (by show m * 2 + j < c * 2; simp at hj; omega)).2)
  obtain ⟨ho2, hg4⟩ := R_spare ho1 (m * 2) [.string ByteArray.empty, .string ByteArray.empty] (Nat.le_refl _) (by show m * 2 + 2 ≤ c * 2; exact hm2)
  have Hm := Lib.hid hm
  clear hm hm2
  go_wp2
  go_ret
  have x1 : Ex lo hi w w.drew := Ex.of (below_drew1 (Below.refl _ _)) hlo
  exact ⟨by rw [← Hm.out]; rfl, by rw [← Hm.out]; exact tagBack ho2 hg3, (x1.trans (Ex.ofGrown hgA hg1 hg3 (by simpa using hlo))).trans (Ex.ofGrown hg4 hg1 hg3 (Nat.le_trans hlo hgA.size))⟩
set_option maxHeartbeats 4000000 in
theorem iFeatCut_c (f : FeatD) (A : Option Addr) (c : Nat) (B : Option Addr) (d : Nat) (key : ByteArray) (w : World) (hl : kPt.C w A f.2.1.2.length f.2.1.2) (hm : kTag.C w B f.2.2.length f.2.2) (hF : FTx f) :
    Calls Try.prog 36 #[featV f A c B d, .string key] w (NFeatB w (fcut f key)) := by
  have n1 := hF.pts
  have n2 := hF.tags
  have hT := tag_c f A c B d key
  have hO := iFeatOk_c f A c B d
  by_cases hh : FeatOk f ∧ atK f.2.2 key ≠ none
  · have hf : fcut f key = ((f.1, f.2.1, cutK f.2.2 key), true) := if_pos hh
    rw [hf]
    obtain ⟨k, hk⟩ : ∃ k, atK f.2.2 key = some k := Option.ne_none_iff_exists'.1 hh.2
    have hkl := (atK_is hk).1
    have hcut : cutK f.2.2 key = f.2.2.eraseIdx k := by rw [cutK_at hk (up_ne hh.1.2.2.1.up), List.eraseIdx_eq_take_drop_succ]
    have hok := featOk_t.2 hh.1
    have hel : (f.2.2.eraseIdx k).length = f.2.2.length - 1 := List.length_eraseIdx_of_lt hkl
    rw [hk] at hT
    rw [hok] at hO
    rw [hcut]
    have d1 : decide ((k : Int) < 0) = false := decide_eq_false (by omega)
    simp only [optI] at hT
    have HT := Lib.hid hT
    have HO := Lib.hid hO
    clear hT hO hf hh hk hcut hok
    obtain ⟨id, ⟨K, l⟩, m⟩ := f
    simp only [featV] at hl hm n1 n2 HT HO hkl hel ⊢
    go_enter Try.func36, Try.ntmps36
    go_wp2_with fail
    refine (HT.out _ (Kd.C_below hm bl) n2).mono ?_
    rintro e w1 ⟨rfl, hb1⟩
    have T1 : B4 w1 w.heap.size 35 (.string id) (.int .i64 K) (.slice A l.length c) (.slice B m.length d) := B4.new' w _ _ _ _ _ _
    have T2 : B4 w1 (w.heap.size + 1) 35 (.string ⟨#[]⟩) (.int .i64 0) (.slice none 0 0) (.slice none 0 0) := B4.new' (w.alloc (.cells #[.string id, .int .i64 K, .slice A l.length c, .slice B m.length d] 35)) _ _ _ _ _ _
    obtain ⟨x0, x1, x2, x3⟩ := T1.c
    go_wp2_with fail
    refine (HO.out _ (Kd.C_below hl bl) (Kd.C_below hm bl) hF).mono ?_
    rintro e w2 ⟨rfl, hb2⟩
    replace T1 := T1.to hb2
    replace T2 := T2.to hb2
    clear x0 x1 x2 x3
    obtain ⟨x0, x1, x2, x3⟩ := T1.c
    go_wp2_with fail
    refine (cloneF_c (id, (K, l), m) A c B d _ (Kd.C_below hl bl) (Kd.C_below hm bl) n1 n2).mono ?_
    rintro e w3 ⟨A3, c3, B3, d3, rfl, hr3, ht3, hb3⟩
    simp only [featV] at hr3 ht3 ⊢
    have s1 := hb1.size
    simp only [World.size_alloc] at s1
    have s2 := hb2.size
    have s3 := hb3.size
    clear x0 x1 x2 x3
    replace T2 := (T2.to hb3).to (below_alloc (Below.refl _ _) (.cells #[.string id, .int .i64 K, .slice A3 l.length c3, .slice B3 m.length d3] 35))
    have T3 := B4.new w3 (.string id) (.int .i64 K) (.slice A3 l.length c3) (.slice B3 m.length d3) 35
    obtain ⟨z0, z1, z2, z3⟩ := T3.c
    have ht4 := RI.alloc ht3 (.cells #[.string id, .int .i64 K, .slice A3 l.length c3, .slice B3 m.length d3] 35)
    have hr4 := RI.alloc hr3 (.cells #[.string id, .int .i64 K, .slice A3 l.length c3, .slice B3 m.length d3] 35)
    obtain ⟨ta, tb, tt⟩ := tight_of (fun _ _ _ _ _ _ _ h => h) ht4 s3
    obtain ⟨pa, pb, tp⟩ := tight_of (fun _ _ _ _ _ _ _ h => h) hr4 s3
    have hap := tight_apart tp tt (by decide)
    obtain ⟨q1, q2, q3, q4, hq, _⟩ := tt
    obtain ⟨p1, p2, p3, p4, hp, _⟩ := tp
    go_wp2_with fail
    refine (DeleteTag_c B3 d3 m k ta tb _ hq hkl n2 (by simp; omega)).mono ?_
    rintro e w4 ⟨rfl, hd4, hx4⟩
    have hp4 := hp.ex hx4 (by omega)
    have T34 : B4 w4 w3.heap.size 35 (.string id) (.int .i64 K) (.slice A3 l.length c3) (.slice B3 m.length d3) := by
      have := hx4.2 w3.heap.size (by omega) (by simp)
      unfold B4 at T3 ⊢
      rw [this, T3]
    have T24 : B4 w4 (w.heap.size + 1) 35 (.string ⟨#[]⟩) (.int .i64 0) (.slice none 0 0) (.slice none 0 0) := by
      have := hx4.1.block (w.heap.size + 1) (by omega)
      unfold B4 at T2 ⊢
      rw [this, T2]
    clear z0 z1 z2 z3 T2 T3 hq hp ht4 hr4 hr3 ht3
    obtain ⟨z0, z1, z2, z3⟩ := T34.c
    obtain ⟨v0, v1, v2, v3⟩ := T34.z
    have s4 := hx4.1.size
    simp only [World.size_alloc] at s4
    have B4w : Below w.heap.size w w4 := (bl : Below w.heap.size w (w3.alloc (.cells #[.string id, .int .i64 K, .slice A3 l.length c3, .slice B3 m.length d3] 35))).trans (hx4.1.mono (by omega))
    have hC1 := (hp4.far (p := ⟨w3.heap.size, 3, none⟩) (Or.inr (by simp only []; omega)) (.slice B3 (m.length - 1) d3)).rd.2.2
    have hC2 := (hd4.far (p := ⟨w3.heap.size, 3, none⟩) (Or.inr (by simp only []; omega)) (.slice B3 (m.length - 1) d3)).rd.2.2
    have hcl := cloneF_c (id, (K, l), m.eraseIdx k) A3 c3 B3 d3 (w4.setCell ⟨w3.heap.size, 3, none⟩ (.slice B3 (m.length - 1) d3)) hC1 hC2 n1 (by simp only []; omega)
    simp only [featV, hel] at hcl
    have T35 := T34.set3 (.slice B3 (m.length - 1) d3)
    have T25 : B4 (w4.setCell ⟨w3.heap.size, 3, none⟩ (.slice B3 (m.length - 1) d3)) (w.heap.size + 1) 35 (.string ⟨#[]⟩) (.int .i64 0) (.slice none 0 0) (.slice none 0 0) := T24.far (by simp; omega)
    have HCL := Lib.hid hcl
    clear hcl
    obtain ⟨u0, u1, u2, u3⟩ := T35.c
    go_wp2_with fail
    refine (HCL.out).mono ?_
    rintro e w5 ⟨A5, c5, B5, d5, rfl, hr5, ht5, hb5⟩
    have T26 := T25.to hb5
    simp only [featV] at hr5 ht5 ⊢
    have s5 := hb5.size
    simp only [World.size_setCell] at s5
    have B5w : Below w.heap.size w w5 := (B4w.setCell (p := ⟨w3.heap.size, 3, none⟩) (by simp only []; omega) (.slice B3 (m.length - 1) d3)).trans (hb5.mono (by simp; omega))
    clear z0 z1 z2 z3 v0 v1 v2 v3 u0 u1 u2 u3
    obtain ⟨z0, z1, z2, z3⟩ := T26.c
    obtain ⟨v0, v1, v2, v3⟩ := T26.z
    go_wp2
    refine bodyPost_ret (v := .tuple #[.agg #[.string id, .int .i64 K, .slice A5 l.length c5, .slice B5 (m.eraseIdx k).length d5], .bool true]) (by simp [results, Try.results36, go_sem, *]) rfl ⟨A5, c5, B5, d5, rfl, RI.of (T26.R (hr5.up (by simp; omega)) (by decide) _ _ _ _), RI.of (T26.R (ht5.up (by simp; omega)) (by decide) _ _ _ _), (((B5w.setCell (by simp) _).setCell (by simp) _).setCell (by simp) _).setCell (by simp) _⟩
  · have hf : fcut f key = (feat0, false) := if_neg hh
    rw [hf]
    cases hok : featOk f
    case' false =>
      rw [hok] at hO
      have hz : ∃ z : Int, optI (atK f.2.2 key) = z := ⟨_, rfl⟩
    case' true =>
      have hz : optI (atK f.2.2 key) = -1 := by
        have : atK f.2.2 key = none := by
          cases h : atK f.2.2 key with
          | none => rfl
          | some k => exact absurd ⟨featOk_t.1 hok, by rw [h]; simp⟩ hh
        rw [this]
        rfl
      rw [hok] at hO
      rw [hz] at hT
    all_goals
      have HT := Lib.hid hT
      have HO := Lib.hid hO
      clear hT hO hf hh hok hz
      obtain ⟨id, ⟨K, l⟩, m⟩ := f
      simp only [featV] at hl hm n1 n2 HT HO ⊢
      go_enter Try.func36, Try.ntmps36
      go_wp2_with fail
      refine (HT.out _ (Kd.C_below hm bl) n2).mono ?_
      rintro e w1 ⟨rfl, hb1⟩
      have T1 : B4 w1 w.heap.size 35 (.string id) (.int .i64 K) (.slice A l.length c) (.slice B m.length d) := B4.new' w _ _ _ _ _ _
      have T2 : B4 w1 (w.heap.size + 1) 35 (.string ⟨#[]⟩) (.int .i64 0) (.slice none 0 0) (.slice none 0 0) := B4.new' (w.alloc (.cells #[.string id, .int .i64 K, .slice A l.length c, .slice B m.length d] 35)) _ _ _ _ _ _
      obtain ⟨x0, x1, x2, x3⟩ := T1.c
      go_wp2_with fail
      refine (HO.out _ (Kd.C_below hl bl) (Kd.C_below hm bl) hF).mono ?_
      rintro e w2 ⟨rfl, hb2⟩
      replace T2 := T2.to hb2
      clear x0 x1 x2 x3
      obtain ⟨x0, x1, x2, x3⟩ := T2.c
      obtain ⟨y0, y1, y2, y3⟩ := T2.z
      go_wp2
      refine bodyPost_ret (v := .tuple #[.agg #[.string ⟨#[]⟩, .int .i64 0, .slice none 0 0, .slice none 0 0], .bool false]) (by simp [results, Try.results36, go_sem, *]) rfl (NFeatB.no ?_)
      exact ((((bl : Below w.heap.size w w2).setCell (by simp) _).setCell (by simp) _).setCell (by simp) _).setCell (by simp) _
end Go.Proofs.Ytlebgjafaioajaa
