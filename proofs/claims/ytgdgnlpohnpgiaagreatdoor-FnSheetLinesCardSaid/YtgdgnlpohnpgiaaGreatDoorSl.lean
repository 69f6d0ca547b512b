/- Maps: SheetCut, SheetPut, the sort of things. -/
import Derived.Test.YtgdgnlpohnpgiaaGreatDoorSd
namespace Go.Proofs.YtgdgnlpohnpgiaaGreatDoor
section
open Go.RowKit Go.Proofs.YtgdgnlpohnpgiaaGreatDoorW.PrintWords Go.Proofs.YtgdgnlpohnpgiaaGreatDoorW.PrintLast
set_option maxRecDepth 100000
set_option linter.unusedVariables false
set_option linter.unusedSimpArgs false
/-- The world without the block of a row. -/
def lessV (W : World) (v : Value) : World := match v.ownBlock with | some g => World.less W g | none => W
theorem lessV_sub {W W1 : World} {v : Value} (h : W.grownBy W1 v.ownBlock) : Sub (lessV W v) W1 := by
  intro p u hc
  unfold lessV at hc
  cases hv : v.ownBlock with
  | none =>
    rw [hv] at hc h
    simp only at hc
    have hb := World.block_lt_of_cell? _ _ hc
    rw [World.cell?_of_block (w := W) (h.block _ hb (by simp))]
    exact hc
  | some g =>
    rw [hv] at hc h
    simp only at hc
    have hne : p.block ≠ g := fun e => less_self W g p e u hc
    rw [less_cell W g p hne] at hc
    have hb := World.block_lt_of_cell? _ _ hc
    rw [World.cell?_of_block (w := W) (h.block _ hb (by intro e; injection e with e; exact hne e))]
    exact hc
theorem lessV_le (W : World) (v : Value) : Sub (lessV W v) W := lessV_sub (grown_of_below (Below.refl _ _) _)
theorem sub_lessV {W0 W : World} {v : Value} (h : Below W0.heap.size W0 W) (hg : ∀ g, v.ownBlock = some g → W0.heap.size ≤ g) : Sub W0 (lessV W v) := by
  intro p u hc
  have hb := World.block_lt_of_cell? _ _ hc
  have h1 := pw_cell_below h hc
  unfold lessV
  cases hv : v.ownBlock with
  | none => exact h1
  | some g =>
    have := hg g hv
    simp only
    rw [less_cell W g p (by omega)]
    exact h1
theorem Inn.less {W : World} {v : Value} {a b : Nat} {f : FeatD} {x : RawF} (h : Inn W a b f x) (hg : ∀ g, v.ownBlock = some g → g < a ∨ b ≤ g) : Inn (lessV W v) a b f x := by
  have key : ∀ {α : Type} {d : Kd α} {e : Nat} {u : Value} {xs : List α}, RI d e W a b u xs → RI d e (lessV W v) a b u xs := fun h => by
    unfold lessV
    cases hv : v.ownBlock with
    | none => exact h
    | some g =>
      have := hg g hv
      exact Kd.R_mono (Kd.R_step (Kd.R_bound h) (fun k hk _ => less_heap W g k (by have h1 : k < b := hk.1; have := hk.2.1; omega))) (fun _ hk => hk.1)
  exact ⟨h.1, h.2.1, key h.2.2.1, key h.2.2.2⟩
/-- A row whose things lie apart is a row of raw things, read without its own block. -/
theorem FSep.raw {W : World} {lo hi : Nat} {v : Value} {l : List FeatD} {xs : List RawF} {I J : Nat → Nat} (h : FSep W lo hi v l xs I J) : (kRaw (lessV W v)).R 28 W lo (fun _ => True) v l := by
  obtain ⟨h1, inner, ho, hr⟩ := h.row
  rw [h.len] at ho
  refine ⟨fun _ _ => trivial, inner, ho, by rw [hr.1, h.len]; rfl, fun j p hj => ?_⟩
  obtain ⟨hj1, hj2⟩ := List.getElem?_eq_some_iff.1 hj
  have hjx : j < xs.length := by rw [h.len]; exact hj1
  have h2 := (hr.2 j xs[j] (List.getElem?_eq_getElem hjx)).1
  have hk := ((h.inn j hj1 hjx).less (h.bnd j hj1).2.2.2).K
  rw [hj2] at hk
  show kFeat.K (lessV W v) p ((inner.drop (j * 4)).take 4)
  have h3 : (inner.drop (j * 4)).take 4 = rawL xs[j] := h2
  rw [h3]
  exact hk
theorem kRaw_lt {W w : World} {e base : Nat} {ok : Nat → Prop} {v : Value} {xs : List FeatD} (h : (kRaw W).R e w base ok v xs) : ∀ g, v.ownBlock = some g → base ≤ g ∧ g < w.heap.size := fun g hg => by
  obtain ⟨inner, ho⟩ := Kd.R_own h
  exact ⟨own_base ho g hg, own_lt ho g hg⟩
/-- A row of raw things: things in place that are read in W. -/
def NRaw (w : World) (l : List FeatD) (e : Ending) (w' : World) : Prop := ∃ A c, e = .returned (.slice A l.length c) ∧ (kRaw w).R 28 w' w.heap.size (fun _ => True) (.slice A l.length c) l ∧ Below w.heap.size w w'
theorem NRaw.C {w w' : World} {l : List FeatD} {A : Option Addr} {c : Nat} (h : (kRaw w).R 28 w' w.heap.size (fun _ => True) (.slice A l.length c) l) (hb : Below w.heap.size w w') : l.length ≤ c ∧ kFeat.C w' A l.length l :=
  ⟨(Kd.R_reads' h).2.1, kRaw_C (Kd.R_reads' h).2.2 (Sub.of hb)⟩
open Classical in
/-- A map without a name, and whether there was one. -/
noncomputable def scut (l : List FeatD) (id : ByteArray) : List FeatD × Bool := if SheetOk l ∧ atK l id ≠ none then (cutK l id, true) else ([], false)
theorem scut_cases (l : List FeatD) (id : ByteArray) : (sheetOk l = false ∧ scut l id = ([], false)) ∨ (sheetOk l = true ∧ atK l id = none ∧ scut l id = ([], false)) ∨ (∃ k, sheetOk l = true ∧ atK l id = some k ∧ k < l.length ∧ cutK l id = l.take k ++ l.drop (k + 1) ∧ scut l id = (cutK l id, true)) := by
  unfold scut
  cases h : sheetOk l with
  | false => exact .inl ⟨rfl, if_neg (fun q => sheetOk_f.1 h q.1)⟩
  | true =>
    have ho := sheetOk_t.1 h
    cases ha : atK l id with
    | none => exact .inr (.inl ⟨rfl, rfl, if_neg (fun q => q.2 rfl)⟩)
    | some k => exact .inr (.inr ⟨k, rfl, rfl, (atK_is ha).1, cutK_at ha (up_ne ho.1.up), if_pos ⟨ho, by simp⟩⟩)
/-- A map in new memory, things apart, and whether. -/
def NSepB (w : World) (r : List FeatD × Bool) (e : Ending) (w' : World) : Prop := ∃ A c, e = .returned (.tuple #[.slice A r.1.length c, .bool r.2]) ∧ Sep w' w.heap.size w'.heap.size (.slice A r.1.length c) r.1 ∧ Below w.heap.size w w'
theorem few_cut {l : List FeatD} (h : Few l) (id : ByteArray) : Few (cutK l id) := ⟨Nat.le_trans (cutK_le _ _) h.1, fun f hf => h.2 f (List.mem_filter.1 hf).1⟩
end
section
open Go.RowKit Go.Proofs.YtgdgnlpohnpgiaaGreatDoorW.PrintWords Go.Proofs.YtgdgnlpohnpgiaaGreatDoorW.PrintLast
set_option maxRecDepth 100000
set_option linter.unusedVariables false
set_option linter.unusedSimpArgs false
def i_SheetCut_T4 : Bool × List (List Nat × List Nat) := (true, [([], []), ([], []), ([0, 1], [0, 1]), ([2], [2]), ([], []), ([], []), ([5], [5]), ([4, 6], [4, 6]), ([3, 7, 3], [3, 7]), ([8, 8], [8]), ([9, 9, 0, 1, 2, 3, 4, 5, 6, 7, 8, 9], [9]), ([10, 0, 1, 2, 3, 4, 5, 6, 7, 8, 9, 10], [])])
theorem i_SheetCut_t4 : rtab .any (opsOf Tryz.f28 4) = i_SheetCut_T4 := by kernel_rfl
set_option maxHeartbeats 4000000 in
theorem iSheetCut_c (A : Option Addr) (c : Nat) (l : List FeatD) (id : ByteArray) (w : World) (hl : kFeat.C w A l.length l) (hc : l.length ≤ c) (hn : Few l) (hz : ∀ f ∈ l, FTx f) :
    Calls Tryz.prog 28 #[.slice A l.length c, .string id] w (NSepB w (scut l id)) := by
  have n1 := hn.1
  have hT := featAt_c A c l id
  have hO := iSheetOk_c A c l
  have hFc := few_cut hn id
  rcases scut_cases l id with ⟨ho, hs⟩ | ⟨ho, ha, hs⟩ | ⟨k, ho, ha, hk, he, hs⟩
  · have HT := Lib.hid hT
    rw [ho] at hO
    have HO := Lib.hid hO
    have Hs := Lib.hid hs
    clear hT hO hs ho
    go_enter Tryz.func28, Tryz.ntmps28
    go_wp2_with fail
    refine (HT.out _ (Kd.C_below hl bl) n1).mono ?_
    rintro e w1 ⟨rfl, hb1⟩
    go_wp2_with fail
    refine (HO.out _ (Kd.C_below hl bl) n1 hz).mono ?_
    rintro e w2 ⟨rfl, hb2⟩
    go_wp2
    refine bodyPost_ret (v := .tuple #[.slice (some ⟨w2.heap.size, 0, none⟩) 0 0, .bool false]) (by simp [results, Tryz.results28, go_sem, *]) rfl ?_
    rw [Hs.out]
    exact ⟨_, _, rfl, Sep.lit0 w2 w.heap.size (bl : Below w.heap.size w w2).size, bl⟩
  · rw [ha] at hT
    simp only [optI] at hT
    have HT := Lib.hid hT
    rw [ho] at hO
    have HO := Lib.hid hO
    have Hs := Lib.hid hs
    clear hT hO hs ho ha
    go_enter Tryz.func28, Tryz.ntmps28
    go_wp2_with fail
    refine (HT.out _ (Kd.C_below hl bl) n1).mono ?_
    rintro e w1 ⟨rfl, hb1⟩
    go_wp2_with fail
    refine (HO.out _ (Kd.C_below hl bl) n1 hz).mono ?_
    rintro e w2 ⟨rfl, hb2⟩
    go_wp2
    refine bodyPost_ret (v := .tuple #[.slice (some ⟨w2.heap.size, 0, none⟩) 0 0, .bool false]) (by simp [results, Tryz.results28, go_sem, *]) rfl ?_
    rw [Hs.out]
    exact ⟨_, _, rfl, Sep.lit0 w2 w.heap.size (bl : Below w.heap.size w w2).size, bl⟩
  · rw [ha] at hT
    simp only [optI] at hT
    have HT := Lib.hid hT
    rw [ho] at hO
    have HO := Lib.hid hO
    have Hs := Lib.hid hs
    have t1 : decide ((k : Int) < 0) = false := decide_eq_false (by omega)
    have hw : IntKind.i64.wrap ((k : Int) + 1) = (k : Int) + 1 := IntWalk.i64_in _ (by omega)
    have hD := Kd.C_drop hl (show k + 1 ≤ l.length by omega) hc
    rw [List.length_drop] at hD
    have hTk := Kd.C_take hl (show k ≤ l.length by omega)
    have hk2 : (l.take k).length = k := by rw [List.length_take]; omega
    have hct := cut_to (P := Tryz.prog) 39 28 .i64 Tryz.underlying39 rfl A l.length c (k : Int) (by omega) (by omega) hc
    have hcf := cut_from (P := Tryz.prog) 39 28 .i64 Tryz.underlying39 rfl kFeat.sz rfl A l.length c ((k : Int) + 1) (by omega) (by omega)
    have ek : ((k : Int) + 1).toNat = k + 1 := by omega
    rw [ek] at hcf
    simp only [Int.toNat_natCast] at hct
    generalize (if c = k + 1 then A else A.map (·.add ((k + 1) * kFeat.sz))) = A9 at hcf hD
    have hFt : Few (l.take k) := ⟨by omega, fun f hf => hn.2 f (List.mem_of_mem_take hf)⟩
    have He := Lib.hid he
    have hlen : (l.take k ++ l.drop (k + 1)).length = (cutK l id).length := by rw [he]
    have Hlen := Lib.hid hlen
    have Htk := Lib.hid (cloneSheet_c A c (l.take k))
    rw [hk2] at Htk hTk
    have Hk2 := Lib.hid hk2
    clear hT hO hs ho ha he ek hk2 hlen
    go_enter Tryz.func28, Tryz.ntmps28
    go_wp2_with fail
    refine (HT.out _ (Kd.C_below hl bl) n1).mono ?_
    rintro e w1 ⟨rfl, hb1⟩
    go_wp2_with fail
    refine (HO.out _ (Kd.C_below hl bl) n1 hz).mono ?_
    rintro e w2 ⟨rfl, hb2⟩
    have hB2 : Below w.heap.size w w2 := bl
    go_wp2
    refine cgStart 12 [0, 1, 2, 4, 5, 6, 7, 3, 8, 9, 10, 11] [] [] i_SheetCut_t4 trivial (fun HT HD => ?_)
    repeat ((with_reducible refine cgGate ?_); first | refine cgP HT ?_ | refine cgL HT ?_ | refine cgG HT ?_)
    refine cgCall HT Tryz.func56 (Htk.out _ (Kd.C_below hTk bl) hFt) ?_
    rintro e w3 ⟨A3, c3, rfl, ⟨xs3, I3, J3, hs3⟩, hb3⟩
    refine ⟨_, rfl, trivial, cgN ?_⟩
    have hB3 : Below w.heap.size w w3 := bl
    have s2 := hB2.size
    have s3 := hb3.size
    simp only [World.size_drew] at s3
    have hraw := hs3.raw
    rw [Hk2.out] at hraw ⊢
    have hgb : ∀ g, (Value.slice A3 k c3).ownBlock = some g → w.heap.size ≤ g := fun g hg => by
      have := (kRaw_lt hraw g hg).1
      simp at this
      omega
    have hsub : Sub w (lessV w3 (.slice A3 k c3)) := sub_lessV hB3 hgb
    have hD3 : (kRaw (lessV w3 (.slice A3 k c3))).C w3 A9 (l.length - (k + 1)) (l.drop (k + 1)) := ReadsRow.sub (R' := kFeat.K (lessV w3 (.slice A3 k c3))) hD (Sub.of hB3) (fun _ _ hk => kFeat_subK hk hsub)
    have hraw2 := Kd.R_lower hraw (show w.heap.size ≤ _ by simp; omega)
    refine cgAppG (d := kRaw (lessV w3 (.slice A3 k c3))) (w0 := w) (base := w.heap.size) 39 28 z0Feat 72 Tryz.underlying39 info_Feat rfl (show 0 < 4 by decide) (by omega) (fun _ _ h => h) (.tmp 21) (.tmp 25) _ (l.take k) (l.drop (k + 1)) A9 (l.length - (k + 1)) (c - (k + 1)) HT trivial hraw2 hD3 hB3 (by omega) (by simp; omega) (by simp) ?_
    intro A4 c4 w4 ho4 hb4 _ hg4
    refine cgN ?_
    have hC4 := kRaw_C (Kd.R_reads' ho4).2.2 (lessV_sub hg4)
    rw [Hlen.out, ← He.out] at hC4
    rw [Hlen.out]
    refine cgCall HT Tryz.func56 (cloneSheet_c A4 c4 (cutK l id) _ hC4 hFc) ?_
    rintro e w5 ⟨A5, c5, rfl, hs5, hb5⟩
    refine ⟨_, rfl, trivial, cgN ?_⟩
    repeat ((with_reducible refine cgGate ?_); first | refine cgP HT ?_ | refine cgL HT ?_ | refine cgG HT ?_)
    refine cgDone HT ?_
    clear HT HD hct hcf hraw hraw2 hD3 hsub hgb
    have hB5 : Below w.heap.size w w5 := hb4.trans (hb5.mono hb4.size)
    go_wp2
    refine bodyPost_ret (v := .tuple #[.slice A5 (cutK l id).length c5, .bool true]) (by simp [results, Tryz.results28, go_sem, *]) rfl ?_
    rw [Hs.out]
    exact ⟨A5, c5, rfl, hs5.wide hb4.size (Nat.le_refl _), hB5⟩
end
section
open Go.RowKit Go.Proofs.YtgdgnlpohnpgiaaGreatDoorW.PrintWords Go.Proofs.YtgdgnlpohnpgiaaGreatDoorW.PrintLast
set_option maxRecDepth 100000
set_option linter.unusedVariables false
set_option linter.unusedSimpArgs false
/-- A row of raw things, read in W0. -/
def NRawG (W0 w : World) (l : List FeatD) (e : Ending) (w' : World) : Prop := ∃ A c, e = .returned (.slice A l.length c) ∧ (kRaw W0).R 28 w' w.heap.size (fun _ => True) (.slice A l.length c) l ∧ Below w.heap.size w w'
theorem at_Raw {W0 w : World} {A0 : Option Addr} {n : Nat} {xs : List FeatD} (h : (kRaw W0).C w A0 n xs) (i : Nat) (h1 : i < xs.length) : ∃ ad A c B d, A0 = some ad ∧ w.cell? (ad.add (i * 4)) = some (.string xs[i].1) ∧ w.cell? ⟨(ad.add (i * 4)).block, (ad.add (i * 4)).off + 1, none⟩ = some (.int .i64 xs[i].2.1.1) ∧
    w.cell? ⟨(ad.add (i * 4)).block, (ad.add (i * 4)).off + 2, none⟩ = some (.slice A xs[i].2.1.2.length c) ∧ w.cell? ⟨(ad.add (i * 4)).block, (ad.add (i * 4)).off + 3, none⟩ = some (.slice B xs[i].2.2.length d) ∧ kFeat.K W0 xs[i] [.string xs[i].1, .int .i64 xs[i].2.1.1, .slice A xs[i].2.1.2.length c, .slice B xs[i].2.2.length d] := by
  obtain ⟨ad, cs, e, hl, hK, hc⟩ := Kd.C_get h feat0 (i : Int) (by omega) (by have := h.1; omega)
  have hg : xs.getD i feat0 = xs[i] := by rw [List.getD_eq_getElem?_getD, List.getElem?_eq_getElem h1]; rfl
  simp only [Int.toNat_natCast] at hK hc
  rw [hg] at hK
  have hK' : kFeat.K W0 xs[i] cs := hK
  obtain ⟨A, c, B, d, rfl, g1, g2, g3, g4⟩ := kFeat_open hK'
  exact ⟨ad, A, c, B, d, e, hc 0 _ rfl, by rw [← add_field _ _ 1 (by omega)]; exact hc 1 _ rfl, by rw [← add_field _ _ 2 (by omega)]; exact hc 2 _ rfl, by rw [← add_field _ _ 3 (by omega)]; exact hc 3 _ rfl, hK'⟩
def boxW (w : World) (f : FeatD) (A : Option Addr) (c : Nat) (B : Option Addr) (d : Nat) : World := w.alloc (.cells #[.string f.1, .int .i64 f.2.1.1, .slice A f.2.1.2.length c, .slice B f.2.2.length d] 28)
/-- What the loop of a putting keeps. -/
structure PF (W0 w : World) (f : FeatD) (A : Option Addr) (c : Nat) (B : Option Addr) (d : Nat) (r : List FeatD) (D : Option Addr) (e : Nat) (wr : World) : Prop where
  row : (kRaw W0).R 28 wr (w.heap.size + 1) (fun _ => True) (.slice D r.length e) r
  bel : Below (w.heap.size + 1) (boxW w f A c B d) wr
section
variable {W0 w wr : World} {f : FeatD} {A : Option Addr} {c : Nat} {B : Option Addr} {d : Nat} {r : List FeatD} {D : Option Addr} {e : Nat}
theorem PF.box (h : PF W0 w f A c B d r D e wr) : B4 wr w.heap.size 28 (.string f.1) (.int .i64 f.2.1.1) (.slice A f.2.1.2.length c) (.slice B f.2.2.length d) :=
  (B4.new w _ _ _ _ _).to (by have := h.bel; unfold boxW at this; simpa using this)
theorem PF.low (h : PF W0 w f A c B d r D e wr) : Below w.heap.size w wr := (below_alloc (Below.refl _ _) _).trans (h.bel.mono (by omega))
theorem PF.size (h : PF W0 w f A c B d r D e wr) : w.heap.size + 1 ≤ wr.heap.size := by have := h.bel.size; unfold boxW at this; simpa using this
theorem PF.drew (h : PF W0 w f A c B d r D e wr) : PF W0 w f A c B d r D e wr.drew := ⟨Kd.R_below h.row (below_drew1 (Below.refl _ _)), below_drew h.bel⟩
theorem PF.to {w1 : World} (h : PF W0 w f A c B d r D e wr) (hb : Below wr.heap.size wr w1) : PF W0 w f A c B d r D e w1 := ⟨Kd.R_below h.row hb, h.bel.trans (hb.mono h.size)⟩
end
section
variable {ops : Array Oper} {rest : List Oper} {o : Oper} {a : Act} {Q : Exit → Act → World → Prop}
/-- append(out, x): a thing that lies elsewhere. -/
theorem appPF {W0 w W : World} {f : FeatD} {A : Option Addr} {c : Nat} {B : Option Addr} {d : Nat} {r : List FeatD} {D : Option Addr} {e : Nat} (s x : Operand) (h : PF W0 w f A c B d r D e W) (g : FeatD) (cs : List Value) (hK : kFeat.K W0 g cs) (hl : r.length ≤ 1048577)
    {n : Nat} (hk : ∀ D' e' w1, PF W0 w f A c B d (r ++ [g]) D' e' w1 → wpList Tryz.prog ops Q rest (a.put o.dst (.slice D' (n + 1) e')) w1)
    (hgd : o.guard = none := by rfl) (ho : o.op = .call { callee := .builtin .append, args := #[s, x], argTypes := #[39, 39] } := by rfl) (hs : a.eval s = .slice D n e := by rfl) (hx : a.eval x = .slice (some ⟨W.heap.size, 0, none⟩) 1 1 := by rfl) (hn : n = r.length := by first | rfl | (simp; done)) :
    wpList Tryz.prog ops Q (o :: rest) a (W.alloc (.cells cs.toArray 28)) := by
  subst hn
  refine appOne (d := kRaw W0) (w0 := boxW w f A c B d) (base := w.heap.size + 1) 39 28 z0Feat 72 Tryz.underlying39 info_Feat rfl (show 0 < 4 by decide) (by omega) s x _ r g cs hK h.row h.bel h.size (by omega) ?_ hgd ho hs hx
  intro D' e' w1 ho1 hb1 hg1
  have h2 := hk D' e' w1 ⟨ho1, hb1⟩
  rw [List.length_append, List.length_singleton]
  exact h2
end
def s_l3Put_T6 : Bool × List (List Nat × List Nat) := (true, [([], []), ([0], [0]), ([1], [1]), ([2], [2]), ([2], [2]), ([3, 4, 2], [2, 3, 4]), ([5, 2], [2, 5]), ([6, 2], [2, 6]), ([2], [2]), ([8, 2], [2, 8]), ([7, 9, 2], [2, 7, 9]), ([2, 10], [2, 10])])
theorem s_l3Put_t6 : rtab .any (opsOf Tryz.f75 6) = s_l3Put_T6 := by kernel_rfl
def s_l3Put_T9 : Bool × List (List Nat × List Nat) := (true, [([], []), ([], []), ([0, 1], [0, 1]), ([2], [2]), ([3], [3]), ([], []), ([5], [5]), ([4, 6], [4, 6])])
theorem s_l3Put_t9 : rtab .any (opsOf Tryz.f75 9) = s_l3Put_T9 := by kernel_rfl
set_option maxHeartbeats 4000000 in
theorem l3Put_g (W0 : World) (A0 : Option Addr) (c0 : Nat) (l : List FeatD) (f : FeatD) (A : Option Addr) (c : Nat) (B : Option Addr) (d : Nat) (w : World) (hl : (kRaw W0).C w A0 l.length l) (hsub : Sub W0 w) (hn : l.length ≤ 1048576) (hK : kFeat.K W0 f [.string f.1, .int .i64 f.2.1.1, .slice A f.2.1.2.length c, .slice B f.2.2.length d]) :
    Calls Tryz.prog 75 #[.slice A0 l.length c0, featV f A c B d] w (NRawG W0 w (putK l f)) := by
  have HK := Lib.hid hK
  clear hK
  have hstart : PF W0 w f A c B d [] (some ⟨w.heap.size + 1, 0, none⟩) 0 ((boxW w f A c B d).alloc (.cells #[] 28)) :=
    ⟨by have := litK (kRaw W0) 28 (boxW w f A c B d) (w.heap.size + 1) (by unfold boxW; simp); unfold boxW at this ⊢; simpa using this, by unfold boxW; exact Below.alloc (Below.refl _ _) (by simp) _⟩
  go_enter Tryz.func75, Tryz.ntmps75
  go_wp2
  go_loopw [5, 6, 7] (fun q5 q6 q7 wr => ∃ (k : Nat) (D : Option Addr) (e : Nat), k ≤ l.length ∧ q7 = .int .i64 k ∧ q6 = .bool (putS f (l.take k)).2 ∧ q5 = .slice D (putS f (l.take k)).1.length e ∧ Aside0 (PF W0 w f A c B d (putS f (l.take k)).1 D e wr)) (fun _ _ q7 _ => l.length - (intOf q7).toNat)
  case atStart => exact ⟨0, _, _, by omega, rfl, rfl, rfl, ⟨by simpa [boxW, putS] using hstart⟩⟩
  case round =>
    clear hstart
    obtain ⟨k, D, e, hk, rfl, rfl, rfl, ⟨hP⟩⟩ := hrel
    have hsl := putS_le f (l.take k)
    rw [List.length_take] at hsl
    by_cases hlt : k < l.length
    · obtain ⟨ad, A1, c1, B1, d1', rfl, e0, e1, e2, e3, hKt⟩ := at_Raw hl k hlt
      have C0 := Lib.hid (And.intro e0 (And.intro e1 (And.intro e2 e3)))
      have d1 : decide ((k : Int) < (l.length : Int)) = true := decide_eq_true (by omega)
      have hw : IntKind.i64.wrap ((k : Int) + 1) = (k : Int) + 1 := IntWalk.i64_in _ (by omega)
      have hst := Lib.hid (putS_take f l k hlt)
      generalize hr : (putS f (l.take k)).1 = r at *
      generalize hdn : (putS f (l.take k)).2 = dn at *
      have hs' := Lib.hid (show putS f (l.take (k + 1)) = stepP f (r, dn) l[k] by rw [hst.out, ← hr, ← hdn])
      clear hst hr hdn e0 e1 e2 e3
      generalize l[k] = t at *
      have HKt := Lib.hid hKt
      clear hKt
      have Hout : ∀ (W : World) (m : List FeatD) (D' : Option Addr) (e' : Nat) (dn' : Bool) (n : Nat), n = m.length → PF W0 w f A c B d m D' e' W → stepP f (r, dn) t = (m, dn') →
          (∃ (k_1 : Nat) (D : Option Addr) (e : Nat), k_1 ≤ l.length ∧ Value.int .i64 ((k : Int) + 1) = .int .i64 k_1 ∧ Value.bool dn' = .bool (putS f (l.take k_1)).2 ∧ Value.slice D' n e' = .slice D (putS f (l.take k_1)).1.length e ∧ Aside0 (PF W0 w f A c B d (putS f (l.take k_1)).1 D e W)) := by
        intro W m D' e' dn' n h0 h1 h3
        rw [h3] at hs'
        refine ⟨k + 1, D', e', by omega, by go_num, by rw [hs'.out], by rw [hs'.out, h0], ⟨?_⟩⟩
        rw [hs'.out]
        exact h1
      have HOut := Lib.hid Hout
      clear Hout hs'
      have t0 : ∀ W : World, Below w.heap.size w W → W.cell? (ad.add (k * 4)) = some (.string t.1) := fun W hb => pw_cell_below hb C0.out.1
      cases dn with
      | true =>
        by_cases hx : t.1 = f.1
        · have t2 := strB_t hx
          have Hst := Lib.hid (show stepP f (r, true) t = (r, true) by simp [stepP, eqB_t.2 hx])
          clear hx
          obtain ⟨b0, b1, b2, b3⟩ := hP.box.c
          have e0 := pw_cell_below hP.low C0.out.1
          have e1 := pw_cell_below hP.low C0.out.2.1
          have e2 := pw_cell_below hP.low C0.out.2.2.1
          have e3 := pw_cell_below hP.low C0.out.2.2.2
          go_wp2
          refine rgStart 12 [0, 1, 2, 3, 4, 5, 6, 7, 8, 9, 10, 11] s_l3Put_t6 (fun HT HS => ?_)
          repeat ((with_reducible refine rgGate ?_); first | refine rgP HT ?_ | refine rgL HT ?_ | refine rgG HT ?_)
          refine rgDone HT ?_
          clear HT HS
          have hP1 := hP.drew
          clear e0 e1 e2 e3 b0 b1 b2 b3
          obtain ⟨b0, b1, b2, b3⟩ := hP1.box.c
          have e0 := pw_cell_below hP1.low C0.out.1
          have e1 := pw_cell_below hP1.low C0.out.2.1
          have e2 := pw_cell_below hP1.low C0.out.2.2.1
          have e3 := pw_cell_below hP1.low C0.out.2.2.2
          go_wp2
          refine rgStart 8 [0, 1, 2, 3, 4, 5, 6, 7] s_l3Put_t9 (fun HT HS => ?_)
          repeat ((with_reducible refine rgGate ?_); first | refine rgP HT ?_ | refine rgL HT ?_ | refine rgG HT ?_)
          refine rgDone HT ?_
          clear HT HS
          have hP2 := hP1.drew
          generalize wr.drew.drew = wz at hP2 ⊢
          clear e0 e1 e2 e3 b0 b1 b2 b3
          go_wp2
          exact ⟨HOut.out _ _ _ _ _ _ (by simp) hP2 Hst.out, by simp [intOf]; omega⟩
        · have t2 := strB_f hx
          have Hst := Lib.hid (show stepP f (r, true) t = (r ++ [t], true) by simp [stepP, eqB_f.2 hx])
          clear hx
          obtain ⟨b0, b1, b2, b3⟩ := hP.box.c
          have e0 := pw_cell_below hP.low C0.out.1
          have e1 := pw_cell_below hP.low C0.out.2.1
          have e2 := pw_cell_below hP.low C0.out.2.2.1
          have e3 := pw_cell_below hP.low C0.out.2.2.2
          go_wp2
          refine rgStart 12 [0, 1, 2, 3, 4, 5, 6, 7, 8, 9, 10, 11] s_l3Put_t6 (fun HT HS => ?_)
          repeat ((with_reducible refine rgGate ?_); first | refine rgP HT ?_ | refine rgL HT ?_ | refine rgG HT ?_)
          refine rgDone HT ?_
          clear HT HS
          have hP1 := hP.drew
          clear e0 e1 e2 e3 b0 b1 b2 b3
          obtain ⟨b0, b1, b2, b3⟩ := hP1.box.c
          have e0 := pw_cell_below hP1.low C0.out.1
          have e1 := pw_cell_below hP1.low C0.out.2.1
          have e2 := pw_cell_below hP1.low C0.out.2.2.1
          have e3 := pw_cell_below hP1.low C0.out.2.2.2
          go_wp2
          refine rgStart 8 [0, 1, 2, 3, 4, 5, 6, 7] s_l3Put_t9 (fun HT HS => ?_)
          repeat ((with_reducible refine rgGate ?_); first | refine rgP HT ?_ | refine rgL HT ?_ | refine rgG HT ?_)
          refine rgDone HT ?_
          clear HT HS
          have hP2 := hP1.drew
          generalize wr.drew.drew = wz at hP2 ⊢
          clear e0 e1 e2 e3 b0 b1 b2 b3
          obtain ⟨b0, b1, b2, b3⟩ := hP2.box.c
          have e0 := pw_cell_below hP2.low C0.out.1
          have e1 := pw_cell_below hP2.low C0.out.2.1
          have e2 := pw_cell_below hP2.low C0.out.2.2.1
          have e3 := pw_cell_below hP2.low C0.out.2.2.2
          go_wp2_with (at_builtin; refine appPF (.tmp 39) (.tmp 44) hP2 t [.string t.1, .int .i64 t.2.1.1, .slice A1 t.2.1.2.length c1, .slice B1 t.2.2.length d1'] HKt.out (by first | omega | (simp; omega)) ?_; intro D5 e5 w5 hP5)
          exact ⟨HOut.out _ _ _ _ _ _ (by simp) hP5 Hst.out, by simp [intOf]; omega⟩
      | false =>
        by_cases hq : ltS t.1 f.1 = true
        · have t2 := strB_f (ltS_ne hq)
          have t3 : Op.bytesLess t.1.toList f.1.toList = true := hq
          have Hst := Lib.hid (show stepP f (r, false) t = (r ++ [t], false) by simp [stepP, hq, eqB_f.2 (ltS_ne hq)])
          clear hq
          obtain ⟨b0, b1, b2, b3⟩ := hP.box.c
          have e0 := pw_cell_below hP.low C0.out.1
          have e1 := pw_cell_below hP.low C0.out.2.1
          have e2 := pw_cell_below hP.low C0.out.2.2.1
          have e3 := pw_cell_below hP.low C0.out.2.2.2
          go_wp2
          refine rgStart 12 [0, 1, 2, 3, 4, 5, 6, 7, 8, 9, 10, 11] s_l3Put_t6 (fun HT HS => ?_)
          repeat ((with_reducible refine rgGate ?_); first | refine rgP HT ?_ | refine rgL HT ?_ | refine rgG HT ?_)
          refine rgDone HT ?_
          clear HT HS
          have hP1 := hP.drew
          clear e0 e1 e2 e3 b0 b1 b2 b3
          obtain ⟨b0, b1, b2, b3⟩ := hP1.box.c
          have e0 := pw_cell_below hP1.low C0.out.1
          have e1 := pw_cell_below hP1.low C0.out.2.1
          have e2 := pw_cell_below hP1.low C0.out.2.2.1
          have e3 := pw_cell_below hP1.low C0.out.2.2.2
          go_wp2
          refine rgStart 8 [0, 1, 2, 3, 4, 5, 6, 7] s_l3Put_t9 (fun HT HS => ?_)
          repeat ((with_reducible refine rgGate ?_); first | refine rgP HT ?_ | refine rgL HT ?_ | refine rgG HT ?_)
          refine rgDone HT ?_
          clear HT HS
          have hP2 := hP1.drew
          generalize wr.drew.drew = wz at hP2 ⊢
          clear e0 e1 e2 e3 b0 b1 b2 b3
          obtain ⟨b0, b1, b2, b3⟩ := hP2.box.c
          have e0 := pw_cell_below hP2.low C0.out.1
          have e1 := pw_cell_below hP2.low C0.out.2.1
          have e2 := pw_cell_below hP2.low C0.out.2.2.1
          have e3 := pw_cell_below hP2.low C0.out.2.2.2
          go_wp2_with (at_builtin; refine appPF (.tmp 39) (.tmp 44) hP2 t [.string t.1, .int .i64 t.2.1.1, .slice A1 t.2.1.2.length c1, .slice B1 t.2.2.length d1'] HKt.out (by first | omega | (simp; omega)) ?_; intro D5 e5 w5 hP5)
          exact ⟨HOut.out _ _ _ _ _ _ (by simp) hP5 Hst.out, by simp [intOf]; omega⟩
        · replace hq : ltS t.1 f.1 = false := by simpa using hq
          have t3 : Op.bytesLess t.1.toList f.1.toList = false := hq
          by_cases hx : t.1 = f.1
          · have t2 := strB_t hx
            have Hst := Lib.hid (show stepP f (r, false) t = (r ++ [f], true) by simp [stepP, hq, eqB_t.2 hx])
            clear hx hq
            obtain ⟨b0, b1, b2, b3⟩ := hP.box.c
            have e0 := pw_cell_below hP.low C0.out.1
            have e1 := pw_cell_below hP.low C0.out.2.1
            have e2 := pw_cell_below hP.low C0.out.2.2.1
            have e3 := pw_cell_below hP.low C0.out.2.2.2
            go_wp2
            refine rgStart 12 [0, 1, 2, 3, 4, 5, 6, 7, 8, 9, 10, 11] s_l3Put_t6 (fun HT HS => ?_)
            repeat ((with_reducible refine rgGate ?_); first | refine rgP HT ?_ | refine rgL HT ?_ | refine rgG HT ?_)
            refine rgDone HT ?_
            clear HT HS
            have hP1 := hP.drew
            clear e0 e1 e2 e3 b0 b1 b2 b3
            obtain ⟨b0, b1, b2, b3⟩ := hP1.box.c
            go_wp2_with (at_builtin; refine appPF (.tmp 27) (.tmp 29) hP1 f [.string f.1, .int .i64 f.2.1.1, .slice A f.2.1.2.length c, .slice B f.2.2.length d] HK.out (by omega) ?_; intro D4 e4 w4 hP4)
            clear b0 b1 b2 b3
            obtain ⟨b0, b1, b2, b3⟩ := hP4.box.c
            have e0 := pw_cell_below hP4.low C0.out.1
            have e1 := pw_cell_below hP4.low C0.out.2.1
            have e2 := pw_cell_below hP4.low C0.out.2.2.1
            have e3 := pw_cell_below hP4.low C0.out.2.2.2
            refine rgStart 8 [0, 1, 2, 3, 4, 5, 6, 7] s_l3Put_t9 (fun HT HS => ?_)
            repeat ((with_reducible refine rgGate ?_); first | refine rgP HT ?_ | refine rgL HT ?_ | refine rgG HT ?_)
            refine rgDone HT ?_
            clear HT HS
            have hP2 := hP4.drew
            generalize w4.drew = wz at hP2 ⊢
            clear e0 e1 e2 e3 b0 b1 b2 b3
            go_wp2
            exact ⟨HOut.out _ _ _ _ _ _ (by simp) hP2 Hst.out, by simp [intOf]; omega⟩
          · have t2 := strB_f hx
            have Hst := Lib.hid (show stepP f (r, false) t = (r ++ [f] ++ [t], true) by simp [stepP, hq, eqB_f.2 hx])
            clear hx hq
            obtain ⟨b0, b1, b2, b3⟩ := hP.box.c
            have e0 := pw_cell_below hP.low C0.out.1
            have e1 := pw_cell_below hP.low C0.out.2.1
            have e2 := pw_cell_below hP.low C0.out.2.2.1
            have e3 := pw_cell_below hP.low C0.out.2.2.2
            go_wp2
            refine rgStart 12 [0, 1, 2, 3, 4, 5, 6, 7, 8, 9, 10, 11] s_l3Put_t6 (fun HT HS => ?_)
            repeat ((with_reducible refine rgGate ?_); first | refine rgP HT ?_ | refine rgL HT ?_ | refine rgG HT ?_)
            refine rgDone HT ?_
            clear HT HS
            have hP1 := hP.drew
            clear e0 e1 e2 e3 b0 b1 b2 b3
            obtain ⟨b0, b1, b2, b3⟩ := hP1.box.c
            go_wp2_with (at_builtin; refine appPF (.tmp 27) (.tmp 29) hP1 f [.string f.1, .int .i64 f.2.1.1, .slice A f.2.1.2.length c, .slice B f.2.2.length d] HK.out (by omega) ?_; intro D4 e4 w4 hP4)
            clear b0 b1 b2 b3
            obtain ⟨b0, b1, b2, b3⟩ := hP4.box.c
            have e0 := pw_cell_below hP4.low C0.out.1
            have e1 := pw_cell_below hP4.low C0.out.2.1
            have e2 := pw_cell_below hP4.low C0.out.2.2.1
            have e3 := pw_cell_below hP4.low C0.out.2.2.2
            refine rgStart 8 [0, 1, 2, 3, 4, 5, 6, 7] s_l3Put_t9 (fun HT HS => ?_)
            repeat ((with_reducible refine rgGate ?_); first | refine rgP HT ?_ | refine rgL HT ?_ | refine rgG HT ?_)
            refine rgDone HT ?_
            clear HT HS
            have hP2 := hP4.drew
            generalize w4.drew = wz at hP2 ⊢
            clear e0 e1 e2 e3 b0 b1 b2 b3
            obtain ⟨b0, b1, b2, b3⟩ := hP2.box.c
            have e0 := pw_cell_below hP2.low C0.out.1
            have e1 := pw_cell_below hP2.low C0.out.2.1
            have e2 := pw_cell_below hP2.low C0.out.2.2.1
            have e3 := pw_cell_below hP2.low C0.out.2.2.2
            go_wp2_with (at_builtin; refine appPF (.tmp 39) (.tmp 44) hP2 t [.string t.1, .int .i64 t.2.1.1, .slice A1 t.2.1.2.length c1, .slice B1 t.2.2.length d1'] HKt.out (by first | omega | (simp; omega)) ?_; intro D5 e5 w5 hP5)
            exact ⟨HOut.out _ _ _ _ _ _ (by simp) hP5 Hst.out, by simp [intOf]; omega⟩
    · have d1 : decide ((k : Int) < (l.length : Int)) = false := decide_eq_false (by omega)
      have ht : l.take k = l := List.take_of_length_le (by omega)
      rw [ht] at hP ⊢
      have hpk : putK l f = if (putS f l).2 = true then (putS f l).1 else (putS f l).1 ++ [f] := rfl
      have hsl2 := putS_le f l
      generalize putK l f = res at *
      generalize (putS f l).1 = r at *
      generalize (putS f l).2 = dn at *
      clear ht
      cases dn with
      | true =>
        rw [if_pos rfl] at hpk
        subst hpk
        go_wp2
        go_ret
        exact ⟨D, e, rfl, Kd.R_lower hP.row (by omega), hP.low⟩
      | false =>
        rw [if_neg (by simp)] at hpk
        have Hpk := Lib.hid hpk
        clear hpk
        obtain ⟨b0, b1, b2, b3⟩ := hP.box.c
        go_wp2_with (at_builtin; refine appPF (.tmp 48) (.tmp 50) hP f [.string f.1, .int .i64 f.2.1.1, .slice A f.2.1.2.length c, .slice B f.2.2.length d] HK.out (by simp at hsl2; omega) ?_; intro D4 e4 w4 hP4)
        go_ret
        rw [Hpk.out]
        exact ⟨D4, e4, by simp, Kd.R_lower hP4.row (by omega), hP4.low⟩
theorem l3Put_c (A0 : Option Addr) (c0 : Nat) (l : List FeatD) (f : FeatD) (A : Option Addr) (c : Nat) (B : Option Addr) (d : Nat) (w : World) (hl : kFeat.C w A0 l.length l) (hn : l.length ≤ 1048576) (hK : kFeat.K w f [.string f.1, .int .i64 f.2.1.1, .slice A f.2.1.2.length c, .slice B f.2.2.length d]) :
    Calls Tryz.prog 75 #[.slice A0 l.length c0, featV f A c B d] w (NRaw w (putK l f)) := l3Put_g w A0 c0 l f A c B d w hl (Sub.refl w) hn hK
end
section
open Go.RowKit Go.Proofs.YtgdgnlpohnpgiaaGreatDoorW.PrintWords Go.Proofs.YtgdgnlpohnpgiaaGreatDoorW.PrintLast
set_option maxRecDepth 100000
set_option linter.unusedVariables false
set_option linter.unusedSimpArgs false
open Classical in
/-- A map with a thing put, and whether. -/
noncomputable def sput (l : List FeatD) (f : FeatD) : List FeatD × Bool := if SheetOk l ∧ FeatOk f ∧ (putK l f).length ≤ 8 then (putK l f, true) else ([], false)
theorem sput_cases (l : List FeatD) (f : FeatD) : (sheetOk l = false ∧ sput l f = ([], false)) ∨ (sheetOk l = true ∧ featOk f = false ∧ sput l f = ([], false)) ∨ (sheetOk l = true ∧ featOk f = true ∧ 8 < (putK l f).length ∧ sput l f = ([], false)) ∨ (sheetOk l = true ∧ featOk f = true ∧ (putK l f).length ≤ 8 ∧ sput l f = (putK l f, true)) := by
  unfold sput
  cases h : sheetOk l with
  | false => exact .inl ⟨rfl, if_neg (fun q => sheetOk_f.1 h q.1)⟩
  | true =>
    cases h2 : featOk f with
    | false => exact .inr (.inl ⟨rfl, rfl, if_neg (fun q => featOk_f.1 h2 q.2.1)⟩)
    | true =>
      by_cases h3 : (putK l f).length ≤ 8
      · exact .inr (.inr (.inr ⟨rfl, rfl, h3, if_pos ⟨sheetOk_t.1 h, featOk_t.1 h2, h3⟩⟩))
      · exact .inr (.inr (.inl ⟨rfl, rfl, by omega, if_neg (fun q => h3 q.2.2)⟩))
theorem few_put {l : List FeatD} {f : FeatD} (h : Few l) (hf : FTx f) (h8 : (putK l f).length ≤ 8) : Few (putK l f) := ⟨by omega, fun g hg => by
  rcases putK_mem hg with rfl | hg
  · exact ⟨hf.pts, hf.tags⟩
  · exact h.2 g hg⟩
/-! The sort. -/
theorem own_Raw {W0 : World} {e base g n cap : Nat} {ok : Nat → Prop} {W : World} {xs : List FeatD} (h : (kRaw W0).R e W base ok (.slice (some ⟨g, 0, none⟩) n cap) xs) (i : Nat) (hi : i < xs.length) :
    ∃ A c B d, kFeat.K W0 xs[i] [.string xs[i].1, .int .i64 xs[i].2.1.1, .slice A xs[i].2.1.2.length c, .slice B xs[i].2.2.length d] ∧ W.cell? ⟨g, i * 4, none⟩ = some (.string xs[i].1) ∧ W.cell? ⟨g, i * 4 + 1, none⟩ = some (.int .i64 xs[i].2.1.1) ∧ W.cell? ⟨g, i * 4 + 2, none⟩ = some (.slice A xs[i].2.1.2.length c) ∧ W.cell? ⟨g, i * 4 + 3, none⟩ = some (.slice B xs[i].2.2.length d) ∧
      W.frozen? ⟨g, i * 4, none⟩ = false ∧ W.frozen? ⟨g, i * 4 + 1, none⟩ = false ∧ W.frozen? ⟨g, i * 4 + 2, none⟩ = false ∧ W.frozen? ⟨g, i * 4 + 3, none⟩ = false := by
  have hn := (Kd.R_reads' h).1
  obtain ⟨c, hl, hM, hc, hf⟩ := Kd.R_elem h feat0 (i : Int) (by omega) (by omega)
  have hg : xs.getD i feat0 = xs[i] := by rw [List.getD_eq_getElem?_getD, List.getElem?_eq_getElem hi]; rfl
  simp only [Int.toNat_natCast] at hM hc hf
  rw [hg] at hM
  have hM' : kFeat.K W0 xs[i] c := hM
  obtain ⟨A, c', B, d, rfl, g1, g2, g3, g4⟩ := kFeat_open hM'
  exact ⟨A, c', B, d, hM', hc 0 _ rfl, hc 1 _ rfl, hc 2 _ rfl, hc 3 _ rfl, hf 0, hf 1, hf 2, hf 3⟩
theorem set_Raw {W0 : World} {e base g n cap : Nat} {ok : Nat → Prop} {W : World} {xs : List FeatD} (h : (kRaw W0).R e W base ok (.slice (some ⟨g, 0, none⟩) n cap) xs) (i : Nat) (hi : i < n) (f : FeatD) {u v : Value} (hK : kFeat.K W0 f [.string f.1, .int .i64 f.2.1.1, u, v]) :
    (kRaw W0).R e ((((W.setCell ⟨g, i * 4, none⟩ (.string f.1)).setCell ⟨g, i * 4 + 1, none⟩ (.int .i64 f.2.1.1)).setCell ⟨g, i * 4 + 2, none⟩ u).setCell ⟨g, i * 4 + 3, none⟩ v) base ok (.slice (some ⟨g, 0, none⟩) n cap) (xs.set i f) := by
  obtain ⟨c, hl, hM, hc, hf⟩ := Kd.R_elem h feat0 (i : Int) (by omega) (by omega)
  have hl2 : c.length = 4 := hl
  have he : c.take 0 ++ [Value.string f.1, .int .i64 f.2.1.1, u, v] ++ c.drop (0 + 4) = [.string f.1, .int .i64 f.2.1.1, u, v] := by rw [List.drop_of_length_le (by omega)]; rfl
  exact (Kd.R_seg h (i : Int) (by omega) (by omega) (seg := [.string f.1, .int .i64 f.2.1.1, u, v]) (j := 0) hl hc (show 4 ≤ 4 by decide) (x' := f) (okp := fun k => ok k ∧ k ≠ g) (by
    show kFeat.K W0 f (c.take 0 ++ [Value.string f.1, .int .i64 f.2.1.1, u, v] ++ c.drop (0 + 4))
    rw [he]; exact hK) (fun _ hk => hk)).1
end
section
open Go.RowKit Go.Proofs.YtgdgnlpohnpgiaaGreatDoorW.PrintWords Go.Proofs.YtgdgnlpohnpgiaaGreatDoorW.PrintLast
set_option maxRecDepth 100000
set_option linter.unusedVariables false
set_option linter.unusedSimpArgs false
end
section
open Go.RowKit Go.Proofs.YtgdgnlpohnpgiaaGreatDoorW.PrintWords Go.Proofs.YtgdgnlpohnpgiaaGreatDoorW.PrintLast
set_option maxRecDepth 100000
set_option linter.unusedVariables false
set_option linter.unusedSimpArgs false
attribute [local go_sem] cell_set_far cell_set_off
theorem RI.own1' {α : Type} {d : Kd α} (hM : ∀ w base base' ok ok' x cs, d.M w base ok x cs → d.M w base' ok' x cs) {e lo hi g n c : Nat} {W : World} {xs : List α} (h : RI d e W lo hi (.slice (some ⟨g, 0, none⟩) n c) xs) : lo ≤ g ∧ g < hi ∧ g < W.heap.size ∧ RI d e W g (g + 1) (.slice (some ⟨g, 0, none⟩) n c) xs := by
  obtain ⟨h1, inner, ⟨ho1, ho2⟩, hr⟩ := h
  rcases ho2 with ⟨hv, _⟩ | ⟨g', cap', cur, hv, hb, hh, hnc, hcm, hcs, ht⟩
  · cases hv
  injection hv with ha hn hc
  injection ha with ha
  injection ha with hg
  subst hg; subst hc
  have hg3 : g < hi := h1 g rfl
  refine ⟨hb, hg3, blk_lt hh, fun k hk => ?_, inner, ⟨ho1, .inr ⟨g, c, cur, by rw [hn], Nat.le_refl _, hh, hnc, hcm, hcs, ht⟩⟩, hr.imp_ (fun _ _ hx => hM _ _ _ _ _ _ _ hx)⟩
  have : g = k := by simpa [Value.ownBlock] using hk
  show k < g + 1
  omega
theorem sub_sorted {w4 w5 w6 : World} {v : Value} {g1 : Nat} (hg : w4.grownBy w5 v.ownBlock) (hx : Ex g1 (g1 + 1) w5 w6) (hat : v.ownBlock = some g1 ∨ w4.heap.size ≤ g1) : Sub (lessV w4 v) w6 := by
  intro p u hc
  have h5 := lessV_sub hg p u hc
  refine hx.cell h5 ?_
  have hlt := World.block_lt_of_cell? _ _ (lessV_le w4 v p u hc)
  have hne : p.block ≠ g1 := by
    rintro rfl
    rcases hat with hat | hat
    · unfold lessV at hc
      rw [hat] at hc
      exact less_self w4 p.block p rfl u hc
    · omega
  omega
/-- One thing of a row put in the place of another. -/
theorem FSep.put {w : World} {lo hi hi2 g n c k a b : Nat} {l : List FeatD} {xs : List RawF} {I J : Nat → Nat} {f : FeatD} {r : RawF} (h : FSep w lo hi (.slice (some ⟨g, 0, none⟩) n c) l xs I J) (hk : k < l.length) (hI : Inn w a b f r) (hab : a ≤ b) (hha : hi ≤ a) (hb2 : b ≤ hi2) :
    Sep ((((w.setCell ⟨g, k * 4, none⟩ (.string r.1)).setCell ⟨g, k * 4 + 1, none⟩ (.int .i64 r.2.1)).setCell ⟨g, k * 4 + 2, none⟩ r.2.2.1).setCell ⟨g, k * 4 + 3, none⟩ r.2.2.2) lo hi2 (.slice (some ⟨g, 0, none⟩) n c) (l.set k f) := by
  have hn := h.row.rd.1
  have hlen := h.len
  obtain ⟨hg1, hg3, hg2, _⟩ := h.row.own1
  have far4 : ∀ {a b : Nat} {f : FeatD} {x : RawF}, Inn w a b f x → (g < a ∨ b ≤ g) → Inn ((((w.setCell ⟨g, k * 4, none⟩ (.string r.1)).setCell ⟨g, k * 4 + 1, none⟩ (.int .i64 r.2.1)).setCell ⟨g, k * 4 + 2, none⟩ r.2.2.1).setCell ⟨g, k * 4 + 3, none⟩ r.2.2.2) a b f x :=
    fun h hga => (((h.far (p := ⟨g, k * 4, none⟩) hga _).far (p := ⟨g, k * 4 + 1, none⟩) hga _).far (p := ⟨g, k * 4 + 2, none⟩) hga _).far (p := ⟨g, k * 4 + 3, none⟩) hga _
  refine ⟨xs.set k r, fun i => if i = k then a else I i, fun i => if i = k then b else J i, ⟨?_, by simp [hlen], fun i hi_ => ?_, fun i j hij hj => ?_, fun i h1 h2 => ?_⟩⟩
  · have h1 : RI kV 28 _ lo hi (.slice (some ⟨g, 0, none⟩) n c) (xs.set k r) := set_V h.row k (by omega) r hI.one.1 hI.one.2
    exact h1.wide (Nat.le_refl _) (by omega)
  · rw [List.length_set] at hi_
    by_cases e : i = k
    · simp only [e, if_true]
      refine ⟨by omega, hab, hb2, fun g' e => ?_⟩
      have : g = g' := by simpa [Value.ownBlock] using e
      exact .inl (by omega)
    · simp only [if_neg e]
      obtain ⟨b1, b2, b3, b4⟩ := h.bnd i hi_
      exact ⟨b1, b2, by omega, b4⟩
  · rw [List.length_set] at hj
    by_cases e : i = k
    · have e2 : j ≠ k := by omega
      simp only [e, if_true, if_neg e2]
      have := (h.bnd j hj).2.2.1
      exact .inr (by omega)
    · by_cases e2 : j = k
      · simp only [e2, if_true, if_neg e]
        have := (h.bnd i (by omega)).2.2.1
        exact .inl (by omega)
      · simp only [if_neg e, if_neg e2]
        exact h.ord i j hij hj
  · rw [List.length_set] at h1 h2
    by_cases e : i = k
    · subst e
      simp only [if_true]
      rw [List.getElem_set_self, List.getElem_set_self]
      exact far4 hI (.inl (by omega))
    · simp only [if_neg e]
      rw [List.getElem_set_ne (fun h => e h.symm), List.getElem_set_ne (fun h => e h.symm)]
      exact far4 (h.inn i h1 h2) ((h.bnd i h1).2.2.2 g rfl)
section
variable {ops : Array Oper} {rest : List Oper} {o : Oper} {a : Act} {Q : Exit → Act → World → Prop}
/-- append(out, f): a thing that lies elsewhere, behind a row of raw things; where the new row lies. -/
theorem appRaw {W0 w0 W : World} {base : Nat} (s x : Operand) (v : Value) (l : List FeatD) (n : Nat) (hn : n = l.length) (f : FeatD) (cs : List Value) (hK : kFeat.K W0 f cs) (HO : (kRaw W0).R 28 W base (fun _ => True) v l) (HB : Below base w0 W) (hbase : base ≤ W.heap.size) (hl : l.length ≤ 1048577)
    (hk : ∀ g' c' w1, (kRaw W0).R 28 w1 base (fun _ => True) (.slice (some ⟨g', 0, none⟩) (n + 1) c') (l ++ [f]) → Below base w0 w1 → W.grownBy w1 v.ownBlock → (v.ownBlock = some g' ∨ W.heap.size ≤ g') → wpList Tryz.prog ops Q rest (a.put o.dst (.slice (some ⟨g', 0, none⟩) (n + 1) c')) w1)
    (hgd : o.guard = none := by rfl) (ho : o.op = .call { callee := .builtin .append, args := #[s, x], argTypes := #[39, 39] } := by rfl) (hs : a.eval s = v := by rfl) (hx : a.eval x = .slice (some ⟨W.heap.size, 0, none⟩) 1 1 := by rfl) :
    wpList Tryz.prog ops Q (o :: rest) a (W.alloc (.cells cs.toArray 28)) := by
  subst hn
  refine Kd.R_append (kRaw W0) (w0 := w0) base hgd s x 39 28 z0Feat 72 ho Tryz.underlying39 info_Feat rfl (show 0 < 4 by decide) (by omega) v l f cs (fun _ => True) (fun _ => False) hs hx hK (fun _ hk => hk.elim) (fun _ _ => trivial) HO HB hbase (by omega) ?_
  intro v1 w1 ho1 hb1 hg1 hat
  obtain ⟨g', c', hv, _, _, _⟩ := Kd.R_form ho1 (by simp)
  have e : (l ++ [f]).length = l.length + 1 := by rw [List.length_append]; rfl
  rw [e] at hv
  subst hv
  refine hk g' c' w1 ho1 hb1 hg1 ?_
  rcases hat with hat | ⟨b, hb, hle⟩
  · exact .inl (by rw [← hat]; rfl)
  · have : g' = b := by simpa [Value.ownBlock] using hb
    exact .inr (by omega)
end
end
end Go.Proofs.YtgdgnlpohnpgiaaGreatDoor
