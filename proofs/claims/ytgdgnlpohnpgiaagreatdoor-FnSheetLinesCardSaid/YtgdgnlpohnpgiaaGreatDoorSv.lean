/- Contracts: SheetRead, both. -/
import Derived.Test.YtgdgnlpohnpgiaaGreatDoorSu
import Derived.Test.YtgdgnlpohnpgiaaGreatDoorRi
import Derived.Test.YtgdgnlpohnpgiaaGreatDoorSl
import Derived.Test.YtgdgnlpohnpgiaaGreatDoorRj
namespace Go.Proofs.YtgdgnlpohnpgiaaGreatDoor
section
open Go.RowKit Go.Proofs.YtgdgnlpohnpgiaaGreatDoorW.PrintWords Go.Proofs.YtgdgnlpohnpgiaaGreatDoorW.PrintLast
set_option maxRecDepth 100000
set_option linter.unusedVariables false
set_option linter.unusedSimpArgs false
attribute [local go_sem] cell_set_far cell_set_off
/-- A map read of a text: just if it is one's. -/
def StOut (s : ByteArray) (w : World) (e : Ending) (w' : World) : Prop := ∃ (l : List FeatD) (A : Option Addr) (c : Nat) (b : Bool), e = .returned (.tuple #[.slice A l.length c, .bool b]) ∧ Sep w' w.heap.size w'.heap.size (.slice A l.length c) l ∧ Below w.heap.size w w' ∧ (b = true → SheetOk l ∧ s = sheetT l) ∧ (b = false → l = [] ∧ ∀ l', SheetOk l' → s ≠ sheetT l')
theorem FeatOk.ftx {f : FeatD} (h : FeatOk f) : FTx f := by
  have h1 := h.1.1
  have h2 : f.2.2.length ≤ 4 := h.2.2.2
  have h3 := h.2.1.le
  refine ⟨by omega, by omega, by omega, fun t ht => ?_⟩
  have h4 := (h.words t ht).1.1
  have h5 := (h.words t ht).2.1
  omega
theorem SheetOk.few {l : List FeatD} (h : SheetOk l) : Few l := ⟨by have : l.length ≤ 8 := h.2; omega, fun f hf => by have := (h.all f hf).ftx; exact ⟨this.pts, this.tags⟩⟩
theorem StOut.few {l : List FeatD} {s : ByteArray} {b : Bool} (h1 : b = true → SheetOk l ∧ s = sheetT l) (h2 : b = false → l = [] ∧ ∀ l', SheetOk l' → s ≠ sheetT l') : SheetOk l := by
  cases b
  · rw [(h2 rfl).1]; exact sheetOk_nil
  · exact (h1 rfl).1
theorem StOut.no {s : ByteArray} {w w' : World} (hb : Below w.heap.size w w') (h : ∀ l', SheetOk l' → s ≠ sheetT l') : StOut s w (.returned (.tuple #[.slice none 0 0, .bool false])) w' :=
  ⟨[], none, 0, false, rfl, Sep.nil _ _ _, hb, (fun h => by cases h), fun _ => ⟨rfl, h⟩⟩
/-- Two readers of maps agree. -/
theorem st_agree {s : ByteArray} {l l' : List FeatD} {b b' : Bool} (h1 : b = true → SheetOk l ∧ s = sheetT l) (h2 : b = false → l = [] ∧ ∀ m, SheetOk m → s ≠ sheetT m)
    (h1' : b' = true → SheetOk l' ∧ s = sheetT l') (h2' : b' = false → l' = [] ∧ ∀ m, SheetOk m → s ≠ sheetT m) : l = l' ∧ b = b' := by
  cases b <;> cases b'
  · exact ⟨(h2 rfl).1.trans (h2' rfl).1.symm, rfl⟩
  · exact absurd (h1' rfl).2 ((h2 rfl).2 _ (h1' rfl).1)
  · exact absurd (h1 rfl).2 ((h2' rfl).2 _ (h1 rfl).1)
  · exact ⟨sheetT_inj (h1 rfl).1 (h1' rfl).1 ((h1 rfl).2.symm.trans (h1' rfl).2), rfl⟩
/-- Things that were read of lines are ok. -/
theorem LinesR.ok {us : List ByteArray} {l : List FeatD} (h : LinesR us l) : ∀ f ∈ l, FeatOk f := fun f hf => by
  obtain ⟨i, hi, rfl⟩ := List.getElem_of_mem hf
  exact (h.2 i (by rw [← h.1]; exact hi) hi).1
theorem add_block (a : Addr) (k : Nat) : (a.add k).block = a.block := by unfold Addr.add; split <;> simp_all
/-- A row of texts stays where another row grows. -/
theorem strC_grown {W W1 : World} {row : Option Nat} {A : Option Addr} {n : Nat} {ws : List ByteArray} (h : Kd.string.C W A n ws) (hg : W.grownBy W1 row) (hne : ∀ ad, A = some ad → some ad.block ≠ row) : Kd.string.C W1 A n ws :=
  ⟨h.1, h.2.1, fun hn => by
    obtain ⟨ad, e, hc⟩ := h.2.2 hn
    refine ⟨ad, e, fun j p hj => ?_⟩
    obtain ⟨c, hs, hr, hcell⟩ := hc j p hj
    refine ⟨c, hs, hr, fun i u hu => ?_⟩
    have h1 := hcell i u hu
    have hb := World.block_lt_of_cell? _ _ h1
    rw [World.cell?_of_block (w := W) (hg.block _ hb (by rw [add_block]; exact hne ad e))]
    exact h1⟩
theorem no_cell {W : World} {g : Nat} {e : TypeId} (h : W.heap[g]? = some (.cells #[] e)) (p : Addr) (hp : p.block = g) (v : Value) : W.cell? p ≠ some v := by
  intro hc
  unfold World.cell? at hc
  rw [hp, h] at hc
  simp at hc
/-- The words' row lies apart from the empty row that was there ahead of it. -/
theorem words_apart {w w1 : World} {e : TypeId} {A : Option Addr} {n : Nat} {ws : List ByteArray} (hb : Below (w.alloc (.cells #[] e)).heap.size (w.alloc (.cells #[] e)) w1) (h : Kd.string.C w1 A n ws) (hp : 0 < ws.length) : ∀ ad, A = some ad → ad.block ≠ w.heap.size ∧ ad.block < w1.heap.size := by
  intro ad e1
  obtain ⟨ad', e2, u0⟩ := at_str h 0 hp
  rw [e1] at e2
  injection e2 with e2
  subst e2
  refine ⟨fun e3 => ?_, ?_⟩
  · refine no_cell (g := w.heap.size) (e := e) ?_ _ (by rw [add_block]; exact e3) _ u0
    rw [hb.block _ (by simp)]
    exact blk_new w _
  · have := World.block_lt_of_cell? _ _ u0
    rwa [add_block] at this
section
variable {ops : Array Oper} {rest : List Oper} {o : Oper} {a : Act} {Q : Exit → Act → World → Prop}
/-- As appSep: and what else may have been written. -/
theorem appSepG {w0 W : World} {base : Nat} (s x : Operand) (v : Value) {l : List FeatD} {xs : List RawF} {I J : Nat → Nat} (f : FeatD) (r : RawF) (cs : List Value) (hcs : cs = rawL r) {p q : Nat} (h : FSep W base W.heap.size v l xs I J) (hpq : p ≤ q) (hq : q ≤ W.heap.size) (hI : Inn W p q f r) (hba : base ≤ p) (hJ : ∀ i, i < l.length → J i ≤ p) (hv : ∀ g, v.ownBlock = some g → g < p ∨ q ≤ g)
    (HB : Below base w0 W) (hl : l.length ≤ 1048577)
    (hk : ∀ A' c' w1, Sep w1 base w1.heap.size (.slice A' (l.length + 1) c') (l ++ [f]) → Below base w0 w1 → W.grownBy w1 v.ownBlock → ((Value.slice A' (l.length + 1) c').ownBlock = v.ownBlock ∨ ∃ g, (Value.slice A' (l.length + 1) c').ownBlock = some g ∧ W.heap.size ≤ g) → wpList Tryz.prog ops Q rest (a.put o.dst (.slice A' (l.length + 1) c')) w1)
    (hgd : o.guard = none := by rfl) (ho : o.op = .call { callee := .builtin .append, args := #[s, x], argTypes := #[39, 39] } := by rfl) (hs : a.eval s = v := by rfl) (hx : a.eval x = .slice (some ⟨W.heap.size, 0, none⟩) 1 1 := by rfl) :
    wpList Tryz.prog ops Q (o :: rest) a (W.alloc (.cells cs.toArray 28)) := by
  subst hcs
  have hn := h.len
  refine Kd.R_append kV (w0 := w0) base hgd s x 39 28 z0Feat 72 ho Tryz.underlying39 info_Feat rfl (by decide) (by omega) v xs r (rawL r) (fun _ => True) (fun _ => False) hs hx ⟨rfl, hI.one⟩ (fun _ hk => hk.elim) (fun _ _ => trivial) (h.row.up (Nat.le_refl _)) HB (by omega) (by omega) ?_
  intro v1 w1 ho1 hb1 hg1 hat
  have hs1 := FSep.snoc h hpq hq hI hba hJ hv ho1 hg1 hat
  obtain ⟨A', c', rfl⟩ := Kd.R_slice ho1
  have e : (xs ++ [r]).length = l.length + 1 := by rw [List.length_append, hn]; rfl
  rw [e] at hs1 hat ⊢
  exact hk A' c' w1 hs1 hb1 hg1 hat
end
/-- Where the row of what is read so far lies: it is the empty one, or came behind the words. -/
def OutAt (b n : Nat) (v : Value) : Prop := ∀ g, v.ownBlock = some g → g = b ∨ n ≤ g
set_option maxHeartbeats 8000000 in
theorem sSheetRead_c (s : ByteArray) (w : World) (hs : s.size ≤ 1048576) :
    Calls Tryz.prog 25 #[.string s] w (StOut s w) := by
  by_cases h0 : s.size = 0
  · have d0 : ((s.size : Int) == 0) = true := by rw [h0]; rfl
    have Hs := Lib.hid (show s = ⟨#[]⟩ from bts_inj (List.eq_nil_of_length_eq_zero ((bts_len s).trans h0)))
    clear h0
    go_enter Tryz.func25, Tryz.ntmps25
    go_wp2
    refine bodyPost_ret (v := .tuple #[.slice (some ⟨w.heap.size, 0, none⟩) 0 0, .bool true]) (by simp [results, Tryz.results25, go_sem, *]) rfl ⟨[], _, _, true, rfl, Sep.lit0 w w.heap.size (Nat.le_refl _), bl, fun _ => ⟨sheetOk_nil, Hs.out.trans sheetT_nil.symm⟩, fun h => by cases h⟩
  · have d0 : ((s.size : Int) == 0) = false := beq_eq_false_iff_ne.mpr (by omega)
    by_cases h2 : (s.size : Int) ≤ 2000
    · have d1 : decide ((2000 : Int) < (s.size : Int)) = false := decide_eq_false (by omega)
      obtain ⟨j, hj⟩ : ∃ j, j + 1 = s.size := ⟨s.size - 1, by omega⟩
      have hjs : j < s.size := by omega
      have hjs2 : j ≤ s.size := by omega
      have hw0 : IntKind.i64.wrap ((s.size : Int) - 1) = (j : Int) := by rw [IntWalk.i64_in _ (by omega)]; omega
      have ej : s.size - 1 = j := by omega
      have hu := lines_last (s := s) (by omega)
      have hlast : ∀ l', SheetOk l' → s = sheetT l' → s[j] = 10 := fun l' hok e => by
        have := sheet_last hok e (by omega)
        simpa only [ej] using this
      simp only [ej] at hu
      have zu : (s.extract 0 j).size ≤ 2000 := by rw [ByteArray.size_extract]; omega
      by_cases h10 : s[j] = 10
      · have d3 : ((s[j].toNat : Int) != 10) = false := by rw [h10]; rfl
        have hsp : splitL 10 (bts s) = splitL 10 (bts (s.extract 0 j)) ++ [[]] := by rw [hu h10, split_cutlast]
        have Hsp := Lib.hid hsp
        clear hsp hu hlast h10 hj ej h0 h2
        have BA := below_alloc (Below.refl w.heap.size w) (.cells #[] 28)
        have SA := Sep.lit0 w w.heap.size (Nat.le_refl _)
        go_enter Tryz.func25, Tryz.ntmps25
        go_wp2_with fail
        refine (l12Cut_c (s.extract 0 j) 10 _ (by omega)).mono ?_
        rintro e w1 ⟨A1, c1, ws, rfl, hws, hC1, hc1, hb1⟩
        rw [← hws] at Hsp
        have hlen : ws.length ≤ 2001 := by
          have h1 := congrArg List.length hws
          rw [List.length_map] at h1
          have h2 := splitL_len 10 (bts (s.extract 0 j))
          rw [bts_len] at h2
          omega
        have hwz : ∀ u ∈ ws, u.size ≤ 2000 := fun u hu => by
          obtain ⟨i, hi, rfl⟩ := List.getElem_of_mem hu
          have := word_size hws hi
          omega
        have hsl : (splitL 10 (bts s)).length = ws.length + 1 := by rw [Hsp.out, List.length_append, List.length_map]; rfl
        have Hsl := Lib.hid hsl
        have Hwz := Lib.hid hwz
        have B1 := BA.trans (hb1.mono BA.size)
        have S1 := (SA.below hb1).wide (Nat.le_refl _) hb1.size
        have HA1 := Lib.hid (words_apart hb1 hC1 (by
          have h1 := congrArg List.length hws
          rw [List.length_map] at h1
          have h2 := List.length_pos_iff.2 (splitL_ne 10 (bts (s.extract 0 j)))
          omega))
        have hw1 : w.heap.size < w1.heap.size := by have := hb1.size; simp only [World.size_alloc] at this; omega
        clear hws hwz hsl BA SA hb1 d3 hw0 zu
        go_wp2
        go_loopw [5, 7] (fun q5 q7 wr => ∃ (k : Nat) (B : Option Addr) (d : Nat) (lk : List FeatD), k ≤ ws.length ∧ lk.length = k ∧ q7 = .int .i64 k ∧ q5 = .slice B lk.length d ∧ Aside0 (LinesR (ws.take k) lk) ∧ Aside0 (Sep wr w.heap.size wr.heap.size (.slice B lk.length d) lk) ∧ Aside0 (Below w.heap.size w wr) ∧ Aside0 (Kd.string.C wr A1 ws.length ws) ∧ Aside0 (OutAt w.heap.size w1.heap.size (.slice B lk.length d)) ∧ w1.heap.size ≤ wr.heap.size) (fun _ q7 _ => ws.length - (intOf q7).toNat)
        case atStart => exact ⟨0, _, _, [], by omega, rfl, rfl, rfl, ⟨LinesR.nil⟩, ⟨S1⟩, ⟨B1⟩, ⟨hC1⟩, ⟨fun g hg => Or.inl (by simpa [Value.ownBlock] using hg.symm)⟩, Nat.le_refl _⟩
        case round =>
          obtain ⟨k, B, d, lk, hk, hlk, rfl, rfl, ⟨hR⟩, ⟨hsep⟩, ⟨hb⟩, ⟨hCr⟩, ⟨hoa⟩, hw1r⟩ := hrel
          clear S1 B1 hC1
          have HR := Lib.hid hR
          have Hlk := Lib.hid hlk
          clear hR hlk
          by_cases hlt : k < ws.length
          · have d4 : decide ((k : Int) < (ws.length : Int)) = true := decide_eq_true (by omega)
            have hw : IntKind.i64.wrap ((k : Int) + 1) = (k : Int) + 1 := IntWalk.i64_in _ (by omega)
            obtain ⟨ad, rfl, u0⟩ := at_str hCr k hlt
            have hzk := Hwz.out _ (List.getElem_mem hlt)
            have Hst := Lib.hid (List.take_succ_eq_append_getElem hlt)
            have hat : (splitL 10 (bts s))[k]? = some (bts ws[k]) := by
              rw [Hsp.out, List.getElem?_append_left (by rw [List.length_map]; exact hlt), List.getElem?_map, List.getElem?_eq_getElem hlt]
              rfl
            have Hat := Lib.hid hat
            obtain ⟨xs, I, J, hS⟩ := hsep
            have s0 := hb.size
            clear hat
            generalize ws[k] = v at *
            go_wp2_with fail
            refine (sFeatRead_c v _ (by omega)).mono ?_
            rintro e w2 ⟨f, A2, c2, B2, d2, b, rfl, hp2, ht2, hb2, hX2, hy2, hf2⟩
            have s2 := hb2.size
            cases b
            · have Hno := Lib.hid (show ∀ l', SheetOk l' → s ≠ sheetT l' from lines_no Hat.out (by have := Hsl.out; omega) (hf2 rfl).2)
              clear hy2 hf2 hS
              go_wp2
              refine bodyPost_ret (v := .tuple #[.slice none 0 0, .bool false]) (by simp [results, Tryz.results25, go_sem, *]) rfl (StOut.no bl Hno.out)
            · obtain ⟨hok2, he2⟩ := hy2 rfl
              have HR2 := Lib.hid (show LinesR (ws.take (k + 1)) (lk ++ [f]) by rw [Hst.out]; exact HR.out.snoc ⟨hok2, he2⟩)
              have X := B4.new w2 (.string f.1) (.int .i64 f.2.1.1) (.slice A2 f.2.1.2.length c2) (.slice B2 f.2.2.length d2) 28
              have a2 := below_alloc (Below.refl w2.heap.size w2) (.cells #[.string f.1, .int .i64 f.2.1.1, .slice A2 f.2.1.2.length c2, .slice B2 f.2.2.length d2] 28)
              have hb3 : Below wr.heap.size wr (w2.alloc (.cells #[.string f.1, .int .i64 f.2.1.1, .slice A2 f.2.1.2.length c2, .slice B2 f.2.2.length d2] 28)) := hb2.trans (a2.mono s2)
              have hB := hb.trans (hb3.mono hb.size)
              have hC3 := Kd.C_below hCr hb3
              have s3 : (w2.alloc (.cells #[.string f.1, .int .i64 f.2.1.1, .slice A2 f.2.1.2.length c2, .slice B2 f.2.2.length d2] 28)).heap.size = w2.heap.size + 1 := by simp
              have hS2 := (hS.below hb3).wide (Nat.le_refl _) hb3.size
              have hJ : ∀ i, i < lk.length → J i ≤ wr.heap.size := fun i hi => by have := (hS.bnd i hi).2.2.1; omega
              have hv : ∀ g, (Value.slice B lk.length d).ownBlock = some g → g < wr.heap.size ∨ w2.heap.size ≤ g := fun g hg => by have : g < wr.heap.size := hS.row.1 g hg; omega
              have hI : Inn (w2.alloc (.cells #[.string f.1, .int .i64 f.2.1.1, .slice A2 f.2.1.2.length c2, .slice B2 f.2.2.length d2] 28)) wr.heap.size w2.heap.size f (f.1, f.2.1.1, .slice A2 f.2.1.2.length c2, .slice B2 f.2.2.length d2) := ⟨rfl, rfl, hp2.below a2, ht2.below a2⟩
              have hk9 : lk.length ≤ 1048577 := by have := Hlk.out; omega
              have hs3 : w2.heap.size ≤ (w2.alloc (.cells #[.string f.1, .int .i64 f.2.1.1, .slice A2 f.2.1.2.length c2, .slice B2 f.2.2.length d2] 28)).heap.size := by omega
              obtain ⟨x0, x1, x2, x3⟩ := X.c
              have HK := Lib.hid (And.intro hS2 (And.intro hJ (And.intro hv (And.intro hI (And.intro hs3 s2)))))
              have Hbw := Lib.hid (And.intro hC3 (And.intro s0 (And.intro hoa (And.intro s3 (And.intro s2 hw1r)))))
              clear hS hS2 hJ hv hI hs3 s3 hp2 ht2 hy2 hf2 a2 X hb2 hb3 hok2 he2 s0 s2 hb hCr hC3 hoa
              go_upto_region 14 with (fail)
              generalize w2.alloc (.cells #[.string f.1, .int .i64 f.2.1.1, .slice A2 f.2.1.2.length c2, .slice B2 f.2.2.length d2] 28) = W2 at *
              go_wp2_with (at_builtin; refine appSepG (w0 := w) (base := w.heap.size) (.tmp 46) (.tmp 48) _ f (f.1, f.2.1.1, .slice A2 f.2.1.2.length c2, .slice B2 f.2.2.length d2) [.string f.1, .int .i64 f.2.1.1, .slice A2 f.2.1.2.length c2, .slice B2 f.2.2.length d2] rfl HK.out.1 HK.out.2.2.2.2.2 HK.out.2.2.2.2.1 HK.out.2.2.2.1 Hbw.out.2.1 HK.out.2.1 HK.out.2.2.1 hB hk9 ?_; intro B5 d5 w5 hs5 hb5 hg5 hat5)
              have hl5 : (lk ++ [f]).length = lk.length + 1 := by simp
              rw [← hl5] at hs5 hat5
              have hC5 : Kd.string.C w5 (some ad) ws.length ws := strC_grown Hbw.out.1 hg5 (fun ad' e e2 => by
                cases e
                have h1 := HA1.out ad rfl
                have h2 := Hbw.out.2.2.1 ad.block e2.symm
                omega)
              have ho5 : OutAt w.heap.size w1.heap.size (.slice B5 (lk ++ [f]).length d5) := fun g hg => by
                rcases hat5 with e | ⟨g', e, hle⟩
                · exact Hbw.out.2.2.1 g (by rw [← e]; exact hg)
                · rw [e] at hg
                  injection hg with hg
                  have h3 := Hbw.out.2.2.2.1
                  have h4 := Hbw.out.2.2.2.2.1
                  have h5 := Hbw.out.2.2.2.2.2
                  exact Or.inr (by omega)
              exact ⟨⟨k + 1, B5, d5, lk ++ [f], by omega, by rw [hl5, Hlk.out], by go_num, by rw [hl5], ⟨HR2.out⟩, ⟨hs5⟩, ⟨hb5⟩, ⟨hC5⟩, ⟨ho5⟩, by have h3 := Hbw.out.2.2.2.1; have h4 := Hbw.out.2.2.2.2.1; have h5 := hg5.size; omega⟩, by simp [intOf]; omega⟩
          · have d4 : decide ((k : Int) < (ws.length : Int)) = false := decide_eq_false (by omega)
            obtain rfl : k = ws.length := by omega
            have hR := HR.out
            rw [List.take_length] at hR
            have HR2 := Lib.hid hR
            have h8 : lk.length ≤ 1048576 := by have := Hlk.out; omega
            have cO := fun w h => sSheetOk_c B d lk w h h8 (fun f hf => (hR.ok f hf).ftx)
            obtain ⟨q1, q2, q3⟩ := hsep.C
            have HS := Lib.hid hsep
            have hB := hb
            clear HR hR hsep hCr hoa
            cases hso : sheetOk lk with
            | false =>
              have Hno := Lib.hid (show ∀ l', SheetOk l' → s ≠ sheetT l' from fun l' hok e => by
                have h1 := lines_eq HR2.out ws.length rfl (by rw [Hsp.out, List.take_left' (List.length_map _)]) (by have := Hsl.out; omega) hok e
                rw [h1] at hso
                exact sheetOk_f.1 hso hok)
              rw [hso] at cO
              have CO := Lib.hid cO
              clear cO hso
              go_wp2_with fail
              refine (CO.out _ (Kd.C_below q3 bl)).mono ?_
              rintro e w2 ⟨rfl, hb2⟩
              go_wp2
              refine bodyPost_ret (v := .tuple #[.slice none 0 0, .bool false]) (by simp [results, Tryz.results25, go_sem, *]) rfl (StOut.no bl Hno.out)
            | true =>
              have Hyes := Lib.hid (show SheetOk lk ∧ s = sheetT lk from ⟨sheetOk_t.1 hso, lines_yes HR2.out Hsp.out (sheetOk_t.1 hso)⟩)
              rw [hso] at cO
              have CO := Lib.hid cO
              clear cO hso
              go_wp2_with fail
              refine (CO.out _ (Kd.C_below q3 bl)).mono ?_
              rintro e w2 ⟨rfl, hb2⟩
              go_wp2
              refine bodyPost_ret (v := .tuple #[.slice B lk.length d, .bool true]) (by simp [results, Tryz.results25, go_sem, *]) rfl ⟨lk, B, d, true, rfl, (HS.out.below hb2).wide (Nat.le_refl _) hb2.size, bl, fun _ => Hyes.out, fun h => by cases h⟩
      · have d3 : ((s[j].toNat : Int) != 10) = true := by
          rw [bne_iff_ne]
          intro e
          exact h10 (UInt8.toNat_inj.1 (by have e9 : (10 : UInt8).toNat = 10 := rfl; omega))
        have Hno := Lib.hid (show ∀ l', SheetOk l' → s ≠ sheetT l' from fun l' hok e => h10 (hlast l' hok e))
        clear hu hlast h10 hj ej h0 h2
        go_enter Tryz.func25, Tryz.ntmps25
        go_wp2
        refine bodyPost_ret (v := .tuple #[.slice none 0 0, .bool false]) (by simp [results, Tryz.results25, go_sem, *]) rfl (StOut.no bl Hno.out)
    · have d1 : decide ((2000 : Int) < (s.size : Int)) = true := decide_eq_true (by omega)
      have Hno := Lib.hid (show ∀ l', SheetOk l' → s ≠ sheetT l' from fun l' _ e => by
        have := sheetT_size l'
        rw [← e] at this
        omega)
      go_enter Tryz.func25, Tryz.ntmps25
      go_wp2
      refine bodyPost_ret (v := .tuple #[.slice none 0 0, .bool false]) (by simp [results, Tryz.results25, go_sem, *]) rfl (StOut.no bl Hno.out)
end
section
open Go.RowKit Go.Proofs.YtgdgnlpohnpgiaaGreatDoorW.PrintWords Go.Proofs.YtgdgnlpohnpgiaaGreatDoorW.PrintLast
set_option maxRecDepth 100000
set_option linter.unusedVariables false
set_option linter.unusedSimpArgs false
attribute [local go_sem] cell_set_far cell_set_off
theorem StOut.no2 {s : ByteArray} {w w1 : World} (hb : Below w.heap.size w w1) (h : ∀ l', SheetOk l' → s ≠ sheetT l') : StOut s w (.returned (.tuple #[.slice (some ⟨w1.heap.size, 0, none⟩) 0 0, .bool false])) (w1.alloc (.cells #[] 28)) :=
  ⟨[], _, 0, false, rfl, Sep.lit0 w1 w.heap.size hb.size, hb.trans ((below_alloc (Below.refl _ _) _).mono hb.size), (fun h => by cases h), fun _ => ⟨rfl, h⟩⟩
set_option maxHeartbeats 8000000 in
theorem iSheetRead_c (s : ByteArray) (w : World) (hs : s.size ≤ 1048576) (T : TiedR w) :
    Calls Tryz.prog 19 #[.string s] w (StOut s w) := by
  by_cases h2 : (s.size : Int) ≤ 2000
  · have d1 : decide ((2000 : Int) < (s.size : Int)) = false := decide_eq_false (by omega)
    have BA := below_alloc (Below.refl w.heap.size w) (.cells #[] 28)
    have SA := Sep.lit0 w w.heap.size (Nat.le_refl _)
    go_enter Tryz.func19, Tryz.ntmps19
    go_wp2_with fail
    refine (Split_c s 10 _ hs (T.to BA)).mono ?_
    rintro e w1 ⟨b1, ws, rfl, hws, hC1, hb1⟩
    have hpos : 0 < ws.length := by
      have := congrArg List.length hws
      rw [List.length_map] at this
      have h2 := List.length_pos_iff.2 (splitL_ne 10 (bts s))
      omega
    have hlen : ws.length ≤ 2001 := by
      have h1 := congrArg List.length hws
      rw [List.length_map] at h1
      have h2 := splitL_len 10 (bts s)
      rw [bts_len] at h2
      omega
    have hwz : ∀ u ∈ ws, u.size ≤ 2000 := fun u hu => by
      obtain ⟨i, hi, rfl⟩ := List.getElem_of_mem hu
      have := word_size hws hi
      omega
    have hsl : (splitL 10 (bts s)).length = ws.length := by rw [← hws, List.length_map]
    obtain ⟨n, hn⟩ : ∃ n, n + 1 = ws.length := ⟨ws.length - 1, by omega⟩
    have hw0 : IntKind.i64.wrap ((ws.length : Int) - 1) = (n : Int) := by rw [IntWalk.i64_in _ (by omega)]; omega
    have hct := cut_to (P := Tryz.prog) 55 9 .i64 Tryz.underlying55 rfl (some ⟨b1, 0, none⟩) ws.length ws.length (n : Int) (by omega) (by omega) (Nat.le_refl _)
    simp only [Int.toNat_natCast] at hct
    have hT := Kd.C_take hC1 (show n ≤ ws.length by omega)
    have hun : (ws.take n).length = n := by rw [List.length_take]; omega
    have huz : ∀ u ∈ ws.take n, u.size ≤ 2000 := fun u hu => hwz u (List.mem_of_mem_take hu)
    have hum : (splitL 10 (bts s)).take n = (ws.take n).map bts := by rw [← hws, List.map_take]
    have hnl : n = (splitL 10 (bts s)).length - 1 := by omega
    rw [hun] at hT
    obtain ⟨us, hus⟩ : ∃ us, us = ws.take n := ⟨_, rfl⟩
    rw [← hus] at hT hun huz hum
    have HA1 := Lib.hid (words_apart hb1 hC1 hpos ⟨b1, 0, none⟩ rfl)
    have hw1 : w.heap.size < w1.heap.size := by have := hb1.size; simp only [World.size_alloc] at this; omega
    have Hsl := Lib.hid (And.intro hsl hn)
    have Hwz := Lib.hid huz
    have Hum := Lib.hid (And.intro hum (And.intro hnl hun))
    have hn2 : n ≤ 2000 := by omega
    have B1 := BA.trans (hb1.mono BA.size)
    have S1 := (SA.below hb1).wide (Nat.le_refl _) hb1.size
    clear hws hwz hsl BA SA hb1 hus huz hum hnl hC1 hn hun
    go_wp2
    clear hct hw0
    go_loopw [4, 23] (fun q5 q7 wr => ∃ (k : Nat) (B : Option Addr) (d : Nat) (lk : List FeatD), k ≤ n ∧ lk.length = k ∧ q7 = .int .i64 k ∧ q5 = .slice B lk.length d ∧ Aside0 (LinesR (us.take k) lk) ∧ Aside0 (Sep wr w.heap.size wr.heap.size (.slice B lk.length d) lk) ∧ Aside0 (Below w.heap.size w wr) ∧ Aside0 (Kd.string.C wr (some ⟨b1, 0, none⟩) n us) ∧ Aside0 (OutAt w.heap.size w1.heap.size (.slice B lk.length d)) ∧ w1.heap.size ≤ wr.heap.size) (fun _ q7 _ => n - (intOf q7).toNat)
    case atStart => exact ⟨0, _, _, [], by omega, rfl, rfl, rfl, ⟨LinesR.nil⟩, ⟨S1⟩, ⟨B1⟩, ⟨hT⟩, ⟨fun g hg => Or.inl (by simpa [Value.ownBlock] using hg.symm)⟩, Nat.le_refl _⟩
    case round =>
      obtain ⟨k, B, d, lk, hk, hlk, rfl, rfl, ⟨hR⟩, ⟨hsep⟩, ⟨hb⟩, ⟨hCr⟩, ⟨hoa⟩, hw1r⟩ := hrel
      clear S1 B1 hT
      have HR := Lib.hid hR
      have Hlk := Lib.hid hlk
      clear hR hlk
      by_cases hlt : k < n
      · have d4 : decide ((k : Int) < (n : Int)) = true := decide_eq_true (by omega)
        have hw : IntKind.i64.wrap ((k : Int) + 1) = (k : Int) + 1 := IntWalk.i64_in _ (by omega)
        have hlu : k < us.length := by rw [Hum.out.2.2]; exact hlt
        obtain ⟨ad, eA, u0⟩ := at_str hCr k hlu
        cases eA
        rw [add_lit] at u0
        have hzk := Hwz.out _ (List.getElem_mem hlu)
        have Hst := Lib.hid (List.take_succ_eq_append_getElem hlu)
        have hat : (splitL 10 (bts s))[k]? = some (bts us[k]) := by
          have h_ := congrArg (fun x => x[k]?) Hum.out.1
          simp only [List.getElem?_take, hlt, if_true, List.getElem?_map, List.getElem?_eq_getElem hlu, Option.map_some] at h_
          exact h_
        have Hat := Lib.hid hat
        obtain ⟨xs, I, J, hS⟩ := hsep
        have s0 := hb.size
        clear hat
        generalize us[k] = v at *
        go_wp2_with fail
        refine (iFeatRead_c v _ (by omega) (T.to hb)).mono ?_
        rintro e w2 ⟨f, A2, c2, B2, d2, b, rfl, hp2, ht2, hb2, hX2, hy2, hf2⟩
        have s2 := hb2.size
        cases b
        · have Hno := Lib.hid (show ∀ l', SheetOk l' → s ≠ sheetT l' from lines_no Hat.out (by have := Hsl.out; omega) (hf2 rfl).2)
          have Hb4 := Lib.hid (show Below w.heap.size w (w2.alloc (.cells #[.string f.1, .int .i64 f.2.1.1, .slice A2 f.2.1.2.length c2, .slice B2 f.2.2.length d2] 28)) from bl)
          have e3 : (w2.alloc (.cells #[.string f.1, .int .i64 f.2.1.1, .slice A2 f.2.1.2.length c2, .slice B2 f.2.2.length d2] 28)).heap.size = w2.heap.size + 1 := by simp
          have hN := StOut.no2 Hb4.out Hno.out
          rw [e3] at hN
          have HN := Lib.hid hN
          clear hy2 hf2 hS hN e3
          go_wp2
          refine bodyPost_ret (v := .tuple #[.slice (some ⟨w2.heap.size + 1, 0, none⟩) 0 0, .bool false]) (by simp [results, Tryz.results19, go_sem, *]) rfl HN.out
        · obtain ⟨hok2, he2⟩ := hy2 rfl
          have HR2 := Lib.hid (show LinesR (us.take (k + 1)) (lk ++ [f]) by rw [Hst.out]; exact HR.out.snoc ⟨hok2, he2⟩)
          have X := B4.new w2 (.string f.1) (.int .i64 f.2.1.1) (.slice A2 f.2.1.2.length c2) (.slice B2 f.2.2.length d2) 28
          have a2 := below_alloc (Below.refl w2.heap.size w2) (.cells #[.string f.1, .int .i64 f.2.1.1, .slice A2 f.2.1.2.length c2, .slice B2 f.2.2.length d2] 28)
          have hb3 : Below wr.heap.size wr (w2.alloc (.cells #[.string f.1, .int .i64 f.2.1.1, .slice A2 f.2.1.2.length c2, .slice B2 f.2.2.length d2] 28)) := hb2.trans (a2.mono s2)
          have hB := hb.trans (hb3.mono hb.size)
          have hC3 := Kd.C_below hCr hb3
          have s3 : (w2.alloc (.cells #[.string f.1, .int .i64 f.2.1.1, .slice A2 f.2.1.2.length c2, .slice B2 f.2.2.length d2] 28)).heap.size = w2.heap.size + 1 := by simp
          have hS2 := (hS.below hb3).wide (Nat.le_refl _) hb3.size
          have hJ : ∀ i, i < lk.length → J i ≤ wr.heap.size := fun i hi => by have := (hS.bnd i hi).2.2.1; omega
          have hv : ∀ g, (Value.slice B lk.length d).ownBlock = some g → g < wr.heap.size ∨ w2.heap.size ≤ g := fun g hg => by have : g < wr.heap.size := hS.row.1 g hg; omega
          have hI : Inn (w2.alloc (.cells #[.string f.1, .int .i64 f.2.1.1, .slice A2 f.2.1.2.length c2, .slice B2 f.2.2.length d2] 28)) wr.heap.size w2.heap.size f (f.1, f.2.1.1, .slice A2 f.2.1.2.length c2, .slice B2 f.2.2.length d2) := ⟨rfl, rfl, hp2.below a2, ht2.below a2⟩
          have hk9 : lk.length ≤ 1048577 := by have := Hlk.out; omega
          have hs3 : w2.heap.size ≤ (w2.alloc (.cells #[.string f.1, .int .i64 f.2.1.1, .slice A2 f.2.1.2.length c2, .slice B2 f.2.2.length d2] 28)).heap.size := by omega
          obtain ⟨x0, x1, x2, x3⟩ := X.c
          have HK := Lib.hid (And.intro hS2 (And.intro hJ (And.intro hv (And.intro hI (And.intro hs3 s2)))))
          have Hbw := Lib.hid (And.intro hC3 (And.intro s0 (And.intro hoa (And.intro s3 (And.intro s2 hw1r)))))
          clear hS hS2 hJ hv hI hs3 s3 hp2 ht2 hy2 hf2 a2 X hb2 hb3 hok2 he2 s0 s2 hb hCr hC3 hoa
          go_upto_region 11 with (fail)
          generalize w2.alloc (.cells #[.string f.1, .int .i64 f.2.1.1, .slice A2 f.2.1.2.length c2, .slice B2 f.2.2.length d2] 28) = W2 at *
          go_wp2_with (at_builtin; refine appSepG (w0 := w) (base := w.heap.size) (.tmp 35) (.tmp 37) _ f (f.1, f.2.1.1, .slice A2 f.2.1.2.length c2, .slice B2 f.2.2.length d2) [.string f.1, .int .i64 f.2.1.1, .slice A2 f.2.1.2.length c2, .slice B2 f.2.2.length d2] rfl HK.out.1 HK.out.2.2.2.2.2 HK.out.2.2.2.2.1 HK.out.2.2.2.1 Hbw.out.2.1 HK.out.2.1 HK.out.2.2.1 hB hk9 ?_; intro B5 d5 w5 hs5 hb5 hg5 hat5)
          have hl5 : (lk ++ [f]).length = lk.length + 1 := by simp
          rw [← hl5] at hs5 hat5
          have hC5 : Kd.string.C w5 (some ⟨b1, 0, none⟩) n us := strC_grown Hbw.out.1 hg5 (fun ad' e e2 => by
            cases e
            have h1 := HA1.out
            have h2 := Hbw.out.2.2.1 b1 e2.symm
            omega)
          have ho5 : OutAt w.heap.size w1.heap.size (.slice B5 (lk ++ [f]).length d5) := fun g hg => by
            rcases hat5 with e | ⟨g', e, hle⟩
            · exact Hbw.out.2.2.1 g (by rw [← e]; exact hg)
            · rw [e] at hg
              injection hg with hg
              have h3 := Hbw.out.2.2.2.1
              have h4 := Hbw.out.2.2.2.2.1
              have h5 := Hbw.out.2.2.2.2.2
              exact Or.inr (by omega)
          exact ⟨⟨k + 1, B5, d5, lk ++ [f], by omega, by rw [hl5, Hlk.out], by go_num, by rw [hl5], ⟨HR2.out⟩, ⟨hs5⟩, ⟨hb5⟩, ⟨hC5⟩, ⟨ho5⟩, by have h3 := Hbw.out.2.2.2.1; have h4 := Hbw.out.2.2.2.2.1; have h5 := hg5.size; omega⟩, by simp [intOf]; omega⟩
      · have d4 : decide ((k : Int) < (n : Int)) = false := decide_eq_false (by omega)
        obtain rfl : k = n := by omega
        have hR := HR.out
        rw [List.take_of_length_le (by rw [Hum.out.2.2]; exact Nat.le_refl _)] at hR
        have HR2 := Lib.hid hR
        have h8 : lk.length ≤ 1048576 := by have := Hlk.out; omega
        have hX : ∀ f ∈ lk, FTx f := fun f hf => (hR.ok f hf).ftx
        have cO := fun w h => iSheetOk_c B d lk w h h8 hX
        have cT := fun w h hT => iSheetText_c B d lk w h h8 hX hT
        obtain ⟨q1, q2, q3⟩ := hsep.C
        have HS := Lib.hid hsep
        have T1 := T.to hb
        have s0 := hb.size
        have HE := Lib.hid (show ∀ l', SheetOk l' → s = sheetT l' → lk = l' from fun l' hok e => lines_eq HR2.out k (by rw [Hum.out.2.2]) Hum.out.1 Hum.out.2.1 hok e)
        clear HR hR hsep hCr hoa hX
        cases hso : sheetOk lk with
        | false =>
          have Hno := Lib.hid (show ∀ l', SheetOk l' → s ≠ sheetT l' from fun l' hok e => by
            rw [HE.out l' hok e] at hso
            exact sheetOk_f.1 hso hok)
          rw [hso] at cO
          have CO := Lib.hid cO
          clear cO cT hso
          go_wp2_with fail
          refine (CO.out _ (Kd.C_below q3 bl)).mono ?_
          rintro e w2 ⟨rfl, hb2⟩
          have HN := Lib.hid (StOut.no2 (show Below w.heap.size w w2 from bl) Hno.out)
          go_wp2
          refine bodyPost_ret (v := .tuple #[.slice (some ⟨w2.heap.size, 0, none⟩) 0 0, .bool false]) (by simp [results, Tryz.results19, go_sem, *]) rfl HN.out
        | true =>
          have Hok := Lib.hid (sheetOk_t.1 hso)
          rw [hso] at cO
          obtain ⟨st, hst0⟩ : ∃ st, sheetT lk = st := ⟨_, rfl⟩
          rw [hst0] at cT
          have H0 := Lib.hid hst0
          have CO := Lib.hid cO
          have CT := Lib.hid cT
          clear hst0
          clear cO cT hso
          go_wp2_with fail
          refine (CO.out _ (Kd.C_below q3 bl)).mono ?_
          rintro e w2 ⟨rfl, hb2⟩
          go_wp2_with fail
          refine (CT.out _ (Kd.C_below q3 bl) (T1.to bl).td).mono ?_
          rintro e w3 ⟨rfl, hb3⟩
          have hb23 := hb2.trans (hb3.mono hb2.size)
          have Bw3 := hb.trans (hb23.mono s0)
          by_cases hst : st = s
          · have t1 := strB_t hst
            have Hyes := Lib.hid (show SheetOk lk ∧ s = sheetT lk from ⟨Hok.out, hst.symm.trans H0.out.symm⟩)
            have HS3 := Lib.hid ((HS.out.below hb23).wide (Nat.le_refl _) hb23.size)
            clear hst
            go_wp2
            refine bodyPost_ret (v := .tuple #[.slice B lk.length d, .bool true]) (by simp [results, Tryz.results19, go_sem, *]) rfl ⟨lk, B, d, true, rfl, HS3.out, Bw3, fun _ => Hyes.out, fun h => by cases h⟩
          · have t1 := strB_f hst
            have Hno := Lib.hid (show ∀ l', SheetOk l' → s ≠ sheetT l' from fun l' hok e => hst (by rw [← H0.out, HE.out l' hok e]; exact e.symm))
            have HN := Lib.hid (StOut.no2 Bw3 Hno.out)
            clear hst
            go_wp2
            refine bodyPost_ret (v := .tuple #[.slice (some ⟨w3.heap.size, 0, none⟩) 0 0, .bool false]) (by simp [results, Tryz.results19, go_sem, *]) rfl HN.out
  · have d1 : decide ((2000 : Int) < (s.size : Int)) = true := decide_eq_true (by omega)
    have HN := Lib.hid (StOut.no2 (w := w) (w1 := w) (Below.refl _ _) (show ∀ l', SheetOk l' → s ≠ sheetT l' from fun l' _ e => by
      have := sheetT_size l'
      rw [← e] at this
      omega))
    go_enter Tryz.func19, Tryz.ntmps19
    go_wp2
    refine bodyPost_ret (v := .tuple #[.slice (some ⟨w.heap.size, 0, none⟩) 0 0, .bool false]) (by simp [results, Tryz.results19, go_sem, *]) rfl HN.out
end
end Go.Proofs.YtgdgnlpohnpgiaaGreatDoor
