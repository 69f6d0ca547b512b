/- What the listed variables hold: the names of the kinds, the powers of ten; it is kept. -/
import Derived.Test.YtfbhjknkofnohaaDoorV
import Derived.Test.YtfbhjknkofnohaaDoorRows
import Derived.SliceStrings
import Derived.LaidSub
import Derived.Lib.LaidU8
import Derived.Lib.LaidTab
import Derived.Lib.ItoaNum
import Derived.MakeChecks
namespace Go.Proofs.YtfbhjknkofnohaaDoor
open Go.RowKit Go.ChangeShapes Go.WideShapes Go.Proofs.YtfbhjknkofnohaaDoorW.PrintWords
set_option linter.unusedVariables false
set_option linter.unusedSimpArgs false
/-- The names of the kinds. -/
def kindWs : List ByteArray := [⟨#[]⟩, ⟨#[100, 111, 116]⟩, ⟨#[108, 105, 110, 101]⟩, ⟨#[114, 105, 110, 103]⟩]
/-- What the code reads of the listed variables. -/
structure Tied (W : World) : Prop where
  tab : Lib.TabIs Tryd.prog W "internal/strconv.uint64pow10" .u64 Lib.pow10Tab
  nm : ∃ (a : Addr) (c : Nat), 4 ≤ c ∧ W.cell? ⟨0, 0, none⟩ = some (.slice (some a) 4 c) ∧ ∀ i, i < 4 → W.cell? (a.add i) = some (.string (kindWs.getD i ByteArray.empty))
theorem gNames : Tryd.prog.globalNamed "loop.example/townland/impl.shapeNames" = some 0 := by kernel_rfl
theorem gPows : Tryd.prog.globalNamed "internal/strconv.uint64pow10" = some 6 := by kernel_rfl
theorem Tied.of {L : List (String × DataW Unit)} {W : World} (h : laidMet Tryd.prog L W) (h1 : ("internal/strconv.uint64pow10", Lib.tabData .u64 Lib.pow10Tab) ∈ L)
    (h2 : ("loop.example/townland/impl.shapeNames", (.slice [.lit (.string []), .lit (.string [100, 111, 116]), .lit (.string [108, 105, 110, 101]), .lit (.string [114, 105, 110, 103])] [] : DataW Unit)) ∈ L) : Tied W := by
  refine ⟨?_, ?_⟩
  · obtain ⟨g, t, cs, fuel, p, hg, ht, hv, hd⟩ := Lib.laidMet.reads h h1
    obtain rfl := Option.some.inj (gPows.symm.trans hg)
    obtain rfl := Option.some.inj ((show (Tryd.prog.globals[6]?).map (·.type) = some 135 by kernel_rfl).symm.trans ht)
    unfold Lib.TabIs
    rw [hv, ← Lib.cells_of_tab (n := 20) (e := 116) (by kernel_rfl) (by kernel_rfl) (by kernel_rfl) (by kernel_rfl) hd]
  · obtain ⟨g, t, cs, fuel, p, hg, ht, hv, hd⟩ := Lib.laidMet.reads h h2
    obtain rfl := Option.some.inj (gNames.symm.trans hg)
    obtain rfl := Option.some.inj ((show (Tryd.prog.globals[0]?).map (·.type) = some 43 by kernel_rfl).symm.trans ht)
    rcases open_strings Tryd.underlying43 Tryd.underlying9 (by kernel_rfl) hd with ⟨_, hx⟩ | ⟨a, len, cap, ss, hcs, hb, hl, hm, hlen, hx, hcell, hsz⟩
    · cases hx
    · have e0 := congrArg Prod.fst hx
      simp only [DataW.slice.injEq] at e0
      obtain ⟨e1, e2⟩ := e0
      have key : ∀ xs : List ByteArray, (strs (H := Unit) xs).map (fun y => strOf (H := Unit) (y, ([] : List MemPlace))) = xs := fun xs => by
        unfold strs
        rw [List.map_map]
        conv => rhs; rw [← List.map_id xs]
        exact List.map_congr_left fun s _ => strOf_mk (H := Unit) s []
      have k1 := congrArg (List.map (fun y => strOf (H := Unit) (y, ([] : List MemPlace)))) e1
      have k2 := congrArg (List.map (fun y => strOf (H := Unit) (y, ([] : List MemPlace)))) e2
      rw [key] at k1 k2
      have h3 : ss = kindWs := by rw [← List.take_append_drop len ss, ← k1, ← k2]; rfl
      have h4 : len = 4 := by
        have := congrArg List.length k1
        rw [List.length_take, h3] at this
        have h5 := congrArg List.length k2
        rw [List.length_drop, h3] at h5
        have h6 : kindWs.length = 4 := rfl
        have h7 : ([] : List (DataW Unit)).length = 0 := rfl
        have h8 : ss.length = cap := by simpa using hlen
        rw [h3, h6] at h8
        simp [h6] at this h5
        omega
      subst h4
      refine ⟨a, cap, hl, ?_, fun i hi => ?_⟩
      · rw [World.var?_cell hg hv 0]
        have := congrArg (·[0]?) hcs
        simpa using this
      · rw [← h3]
        exact hcell i (by rw [h3]; exact hi)
theorem Tied.to {W W1 : World} (h : Tied W) (hb : Below W.heap.size W W1) : Tied W1 := by
  refine ⟨?_, ?_⟩
  · have h1 := h.tab
    unfold Lib.TabIs World.var? at h1 ⊢
    simp only [gPows, Option.bind_some] at h1 ⊢
    have hlt : 6 < W.heap.size := by
      rcases Nat.lt_or_ge 6 W.heap.size with h' | h'
      · exact h'
      · rw [Array.getElem?_eq_none h'] at h1; simp at h1
    rw [hb.block _ hlt]
    exact h1
  · obtain ⟨a, c, h0, h1, h2⟩ := h.nm
    exact ⟨a, c, h0, pw_cell_below hb h1, fun i hi => pw_cell_below hb (h2 i hi)⟩
end Go.Proofs.YtfbhjknkofnohaaDoor
