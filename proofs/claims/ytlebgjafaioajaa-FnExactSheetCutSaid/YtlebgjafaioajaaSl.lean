/- Contracts: a map without a name, in the reference and in the program. -/
import Derived.Test.YtlebgjafaioajaaSk
namespace Go.Proofs.Ytlebgjafaioajaa
open Go.RowKit Go.Proofs.YtlebgjafaioajaaW.PrintWords Go.Proofs.YtlebgjafaioajaaW.PrintLast
set_option maxRecDepth 100000
set_option linter.unusedVariables false
set_option linter.unusedSimpArgs false
/-- The world without the block of a row. -/
def lessV (W : World) (v : Value) : World := match v.ownBlock with | some g => World.less W g | none => W
theorem lessV_sub {W W1 : World} {v : Value} (h : W.grownBy W1 v.ownBlock) : Sub (lessV W v) W1 := by
  intro p u hc
  unfold lessV at hc
  cases hv : v.ownBlock with
  | none =>
    rw [hv] at hc h
    simp only at hc
    have hb := World.block_lt_of_cell? _ _ hc
    rw [World.cell?_of_block (w := W) (h.block _ hb (by simp))]
    exact hc
  | some g =>
    rw [hv] at hc h
    simp only at hc
    have hne : p.block ≠ g := fun e => less_self W g p e u hc
    rw [less_cell W g p hne] at hc
    have hb := World.block_lt_of_cell? _ _ hc
    rw [World.cell?_of_block (w := W) (h.block _ hb (by intro e; injection e with e; exact hne e))]
    exact hc
theorem lessV_le (W : World) (v : Value) : Sub (lessV W v) W := lessV_sub (grown_of_below (Below.refl _ _) _)
theorem sub_lessV {W0 W : World} {v : Value} (h : Below W0.heap.size W0 W) (hg : ∀ g, v.ownBlock = some g → W0.heap.size ≤ g) : Sub W0 (lessV W v) := by
  intro p u hc
  have hb := World.block_lt_of_cell? _ _ hc
  have h1 := pw_cell_below h hc
  unfold lessV
  cases hv : v.ownBlock with
  | none => exact h1
  | some g =>
    have := hg g hv
    simp only
    rw [less_cell W g p (by omega)]
    exact h1
theorem Inn.less {W : World} {v : Value} {a b : Nat} {f : FeatD} {x : RawF} (h : Inn W a b f x) (hg : ∀ g, v.ownBlock = some g → g < a ∨ b ≤ g) : Inn (lessV W v) a b f x := by
  have key : ∀ {α : Type} {d : Kd α} {e : Nat} {u : Value} {xs : List α}, RI d e W a b u xs → RI d e (lessV W v) a b u xs := fun h => by
    unfold lessV
    cases hv : v.ownBlock with
    | none => exact h
    | some g =>
      have := hg g hv
      exact Kd.R_mono (Kd.R_step (Kd.R_bound h) (fun k hk _ => less_heap W g k (by have h1 : k < b := hk.1; have := hk.2.1; omega))) (fun _ hk => hk.1)
  exact ⟨h.1, h.2.1, key h.2.2.1, key h.2.2.2⟩
/-- A row whose things lie apart is a row of raw things, read without its own block. -/
theorem FSep.raw {W : World} {lo hi : Nat} {v : Value} {l : List FeatD} {xs : List RawF} {I J : Nat → Nat} (h : FSep W lo hi v l xs I J) : (kRaw (lessV W v)).R 35 W lo (fun _ => True) v l := by
  obtain ⟨h1, inner, ho, hr⟩ := h.row
  rw [h.len] at ho
  refine ⟨fun _ _ => trivial, inner, ho, by rw [hr.1, h.len]; rfl, fun j p hj => ?_⟩
  obtain ⟨hj1, hj2⟩ := List.getElem?_eq_some_iff.1 hj
  have hjx : j < xs.length := by rw [h.len]; exact hj1
  have h2 := (hr.2 j xs[j] (List.getElem?_eq_getElem hjx)).1
  have hk := ((h.inn j hj1 hjx).less (h.bnd j hj1).2.2.2).K
  rw [hj2] at hk
  show kFeat.K (lessV W v) p ((inner.drop (j * 4)).take 4)
  have h3 : (inner.drop (j * 4)).take 4 = rawL xs[j] := h2
  rw [h3]
  exact hk
theorem kRaw_lt {W w : World} {e base : Nat} {ok : Nat → Prop} {v : Value} {xs : List FeatD} (h : (kRaw W).R e w base ok v xs) : ∀ g, v.ownBlock = some g → base ≤ g ∧ g < w.heap.size := fun g hg => by
  obtain ⟨inner, ho⟩ := Kd.R_own h
  exact ⟨own_base ho g hg, own_lt ho g hg⟩
/-- A row of raw things: things in place that are read in W. -/
def NRaw (w : World) (l : List FeatD) (e : Ending) (w' : World) : Prop := ∃ A c, e = .returned (.slice A l.length c) ∧ (kRaw w).R 35 w' w.heap.size (fun _ => True) (.slice A l.length c) l ∧ Below w.heap.size w w'
theorem NRaw.C {w w' : World} {l : List FeatD} {A : Option Addr} {c : Nat} (h : (kRaw w).R 35 w' w.heap.size (fun _ => True) (.slice A l.length c) l) (hb : Below w.heap.size w w') : l.length ≤ c ∧ kFeat.C w' A l.length l :=
  ⟨(Kd.R_reads' h).2.1, kRaw_C (Kd.R_reads' h).2.2 (Sub.of hb)⟩
set_option maxHeartbeats 4000000 in
theorem l3Cut_c (A : Option Addr) (c : Nat) (l : List FeatD) (id : ByteArray) (w : World) (hl : kFeat.C w A l.length l) (hn : l.length ≤ 1048576) :
    Calls Try.prog 84 #[.slice A l.length c, .string id] w (NRaw w (cutK l id)) := by
  go_enter Try.func84, Try.ntmps84
  go_wp2
  go_loopw [5, 6] (fun q5 q6 wr => ∃ (k : Nat) (B : Option Addr) (d : Nat), k ≤ l.length ∧ q6 = .int .i64 k ∧ q5 = .slice B (cutK (l.take k) id).length d ∧ Aside0 ((kRaw w).R 35 wr w.heap.size (fun _ => True) (.slice B (cutK (l.take k) id).length d) (cutK (l.take k) id)) ∧ Aside0 (Below w.heap.size w wr)) (fun _ q6 _ => l.length - (intOf q6).toNat)
  case atStart => exact ⟨0, _, _, by omega, rfl, rfl, ⟨litK (kRaw w) _ w w.heap.size (Nat.le_refl _)⟩, ⟨bl⟩⟩
  case round =>
    obtain ⟨k, B, d, hk, rfl, rfl, ⟨ho⟩, ⟨hb⟩⟩ := hrel
    by_cases hlt : k < l.length
    · obtain ⟨ad, A1, c1, B1, d1', rfl, e0, e1, e2, e3, hC, hT, hc1, hd1⟩ := at_Feat hl k hlt
      replace e0 := pw_cell_below hb e0
      replace e1 := pw_cell_below hb e1
      replace e2 := pw_cell_below hb e2
      replace e3 := pw_cell_below hb e3
      have d1 : decide ((k : Int) < (l.length : Int)) = true := decide_eq_true (by omega)
      have hw : IntKind.i64.wrap ((k : Int) + 1) = (k : Int) + 1 := IntWalk.i64_in _ (by omega)
      have hct := Lib.hid (cutK_take l id k hlt)
      have hK := kFeat_mk w l[k] A1 B1 c1 d1' hc1 hd1 hC hT
      have hbb : w.heap.size ≤ wr.heap.size := hb.size
      by_cases hx : l[k].1 = id
      · have t2 := strB_t hx
        have Hx := Lib.hid (show cutK (l.take (k + 1)) id = cutK (l.take k) id by rw [hct.out, if_pos (eqB_t.2 hx), List.append_nil])
        clear hx hK
        go_wp2
        exact ⟨⟨k + 1, B, d, by omega, by go_num, by rw [Hx.out], ⟨by rw [Hx.out]; exact ho⟩, ⟨hb⟩⟩, by simp [intOf]; omega⟩
      · have t2 := strB_f hx
        have Hx := Lib.hid (show cutK (l.take (k + 1)) id = cutK (l.take k) id ++ [l[k]] by rw [hct.out, if_neg (by simp [eqB_f.2 hx])])
        have hcl : (cutK (l.take k) id).length ≤ l.length := Nat.le_trans (cutK_le _ _) (by rw [List.length_take]; omega)
        generalize cutK (l.take k) id = r at *
        generalize l[k] = f at *
        have HK := Lib.hid hK
        clear hx hK hct hc1 hd1
        go_wp2_with (at_builtin; refine appOne (d := kRaw w) (w0 := w) (base := w.heap.size) 43 35 z0Feat 72 Try.underlying43 info_Feat rfl (show 0 < 4 by decide) (by omega) (.tmp 21) (.tmp 26) _ r f [.string f.1, .int .i64 f.2.1.1, .slice A1 f.2.1.2.length c1, .slice B1 f.2.2.length d1'] HK.out (Kd.R_below ho bl) bl hbb (by omega) ?_; intro B5 d5 w5 ho5 hb5 hg5)
        exact ⟨⟨k + 1, B5, d5, by omega, by go_num, by rw [Hx.out]; simp, ⟨by rw [Hx.out]; exact ho5⟩, ⟨hb5⟩⟩, by simp [intOf]; omega⟩
    · have d1 : decide ((k : Int) < (l.length : Int)) = false := decide_eq_false (by omega)
      obtain rfl : k = l.length := by omega
      rw [List.take_length] at ho ⊢
      go_wp2
      go_ret
      exact ⟨B, d, rfl, ho, hb⟩
open Classical in
/-- A map without a name, and whether there was one. -/
noncomputable def scut (l : List FeatD) (id : ByteArray) : List FeatD × Bool := if SheetOk l ∧ atK l id ≠ none then (cutK l id, true) else ([], false)
theorem scut_cases (l : List FeatD) (id : ByteArray) : (sheetOk l = false ∧ scut l id = ([], false)) ∨ (sheetOk l = true ∧ atK l id = none ∧ scut l id = ([], false)) ∨ (∃ k, sheetOk l = true ∧ atK l id = some k ∧ k < l.length ∧ cutK l id = l.take k ++ l.drop (k + 1) ∧ scut l id = (cutK l id, true)) := by
  unfold scut
  cases h : sheetOk l with
  | false => exact .inl ⟨rfl, if_neg (fun q => sheetOk_f.1 h q.1)⟩
  | true =>
    have ho := sheetOk_t.1 h
    cases ha : atK l id with
    | none => exact .inr (.inl ⟨rfl, rfl, if_neg (fun q => q.2 rfl)⟩)
    | some k => exact .inr (.inr ⟨k, rfl, rfl, (atK_is ha).1, cutK_at ha (up_ne ho.1.up), if_pos ⟨ho, by simp⟩⟩)
/-- A map in new memory, things apart, and whether. -/
def NSepB (w : World) (r : List FeatD × Bool) (e : Ending) (w' : World) : Prop := ∃ A c, e = .returned (.tuple #[.slice A r.1.length c, .bool r.2]) ∧ Sep w' w.heap.size w'.heap.size (.slice A r.1.length c) r.1 ∧ Below w.heap.size w w'
theorem few_cut {l : List FeatD} (h : Few l) (id : ByteArray) : Few (cutK l id) := ⟨Nat.le_trans (cutK_le _ _) h.1, fun f hf => h.2 f (List.mem_filter.1 hf).1⟩
set_option maxHeartbeats 4000000 in
theorem sSheetCut_c (A : Option Addr) (c : Nat) (l : List FeatD) (id : ByteArray) (w : World) (hl : kFeat.C w A l.length l) (hn : Few l) (hz : ∀ f ∈ l, FTx f) :
    Calls Try.prog 43 #[.slice A l.length c, .string id] w (NSepB w (scut l id)) := by
  have n1 := hn.1
  have hT := l3Find_c A c l id
  have hO := sSheetOk_c A c l
  have hFc := few_cut hn id
  rcases scut_cases l id with ⟨ho, hs⟩ | ⟨ho, ha, hs⟩ | ⟨k, ho, ha, hk, he, hs⟩
  · rw [ho] at hO
    have HO := Lib.hid hO
    have Hs := Lib.hid hs
    clear hT hO hs ho
    go_enter Try.func43, Try.ntmps43
    go_wp2_with fail
    refine (HO.out _ (Kd.C_below hl bl) n1 hz).mono ?_
    rintro e w2 ⟨rfl, hb2⟩
    go_wp2
    refine bodyPost_ret (v := .tuple #[.slice (some ⟨w2.heap.size, 0, none⟩) 0 0, .bool false]) (by simp [results, Try.results43, go_sem, *]) rfl ?_
    rw [Hs.out]
    exact ⟨_, _, rfl, Sep.lit0 w2 w.heap.size hb2.size, bl⟩
  · rw [ha] at hT
    simp only [optI] at hT
    have HT := Lib.hid hT
    rw [ho] at hO
    have HO := Lib.hid hO
    have Hs := Lib.hid hs
    clear hT hO hs ho ha
    go_enter Try.func43, Try.ntmps43
    go_wp2_with fail
    refine (HO.out _ (Kd.C_below hl bl) n1 hz).mono ?_
    rintro e w2 ⟨rfl, hb2⟩
    go_wp2_with fail
    refine (HT.out _ (Kd.C_below hl bl) n1).mono ?_
    rintro e w3 ⟨rfl, hb3⟩
    go_wp2
    refine bodyPost_ret (v := .tuple #[.slice (some ⟨w3.heap.size, 0, none⟩) 0 0, .bool false]) (by simp [results, Try.results43, go_sem, *]) rfl ?_
    rw [Hs.out]
    exact ⟨_, _, rfl, Sep.lit0 w3 w.heap.size (bl : Below w.heap.size w w3).size, bl⟩
  · rw [ha] at hT
    simp only [optI] at hT
    have HT := Lib.hid hT
    rw [ho] at hO
    have HO := Lib.hid hO
    have Hs := Lib.hid hs
    have t1 : decide ((k : Int) < 0) = false := decide_eq_false (by omega)
    clear hT hO hs ho ha he
    go_enter Try.func43, Try.ntmps43
    go_wp2_with fail
    refine (HO.out _ (Kd.C_below hl bl) n1 hz).mono ?_
    rintro e w2 ⟨rfl, hb2⟩
    go_wp2_with fail
    refine (HT.out _ (Kd.C_below hl bl) n1).mono ?_
    rintro e w3 ⟨rfl, hb3⟩
    go_wp2_with fail
    refine (l3Cut_c A c l id _ (Kd.C_below hl bl) n1).mono ?_
    rintro e w4 ⟨A4, c4, rfl, ho4, hb4⟩
    have hC4 := (NRaw.C ho4 hb4).2
    go_wp2_with fail
    refine (l3Copy_c A4 c4 (cutK l id) _ hC4 hFc).mono ?_
    rintro e w5 ⟨A5, c5, rfl, hs5, hb5⟩
    go_wp2
    refine bodyPost_ret (v := .tuple #[.slice A5 (cutK l id).length c5, .bool true]) (by simp [results, Try.results43, go_sem, *]) rfl ?_
    rw [Hs.out]
    exact ⟨A5, c5, rfl, hs5.wide (bl : Below w.heap.size w w4).size (Nat.le_refl _), bl⟩
end Go.Proofs.Ytlebgjafaioajaa
