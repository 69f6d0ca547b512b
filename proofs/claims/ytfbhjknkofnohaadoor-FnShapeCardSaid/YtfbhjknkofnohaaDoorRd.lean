/- Contracts: the library's Cut, Split, Contains, Atoi in this program's words; what they ask of the listed variables; the program's ptRead; Index of names. -/
import Derived.Test.YtfbhjknkofnohaaDoorSr
import Derived.Test.YtfbhjknkofnohaaDoorRc
import Derived.Stop.LaidErr
namespace Go.Proofs.YtfbhjknkofnohaaDoor
open Go.RowKit Go.ChangeShapes Go.Proofs.YtfbhjknkofnohaaDoorW.PrintWords Go.Proofs.YtfbhjknkofnohaaDoorW.PrintLast
set_option maxRecDepth 100000
set_option linter.unusedVariables false
set_option linter.unusedSimpArgs false
attribute [local go_sem] cell_set_far cell_set_off
/-- What the reading code reads of the variables. -/
structure TiedR (W : World) : Prop where
  td : Tied W
  mx : ∃ m, W.cell? ⟨1, 0, none⟩ = some (.int .i64 m)
  es : ∃ tp p, W.cell? ⟨4, 0, none⟩ = some (.iface tp p)
  er : ∃ tp p, W.cell? ⟨5, 0, none⟩ = some (.iface tp p)
theorem TiedR.to {W W1 : World} (h : TiedR W) (hb : Below W.heap.size W W1) : TiedR W1 := by
  obtain ⟨m, hm⟩ := h.mx
  obtain ⟨t1, p1, h1⟩ := h.es
  obtain ⟨t2, p2, h2⟩ := h.er
  exact ⟨h.td.to hb, ⟨m, pw_cell_below hb hm⟩, ⟨t1, p1, pw_cell_below hb h1⟩, ⟨t2, p2, pw_cell_below hb h2⟩⟩
theorem gES : Tryd.prog.globalNamed "strconv.ErrSyntax" = some 4 := by kernel_rfl
theorem gER : Tryd.prog.globalNamed "strconv.ErrRange" = some 5 := by kernel_rfl
theorem gESt : (Tryd.prog.globals[4]?).map (·.type) = some 98 := by kernel_rfl
theorem gERt : (Tryd.prog.globals[5]?).map (·.type) = some 98 := by kernel_rfl
theorem cellsES : Tryd.prog.cellsOf 142 = 1 := by kernel_rfl
theorem cellsStr : Tryd.prog.cellsOf 9 = 1 := by kernel_rfl
theorem star_err : "*" ++ "errors.errorString" = "*errors.errorString" := by decide
theorem row_err (u : TypeId) (h : Tryd.prog.typeName? 3 u = some "*errors.errorString") : u = 140 :=
  typeName_ptr_named (nm := "errors.errorString") (by rw [star_err]; kernel_rfl) (by kernel_rfl) (by decide) u (by rw [star_err]; exact h)
theorem TiedR.of {x1 x2 x3 x4 : String × DataW Unit} {t1 t2 : List UInt8} {r : List (String × DataW Unit)} {W : World} (td : Tied W) (hS : W.ShapedOpen Tryd.prog)
    (h : laidMet Tryd.prog (x1 :: x2 :: x3 :: x4 :: ("strconv.ErrRange", .iface "*errors.errorString" (.ptr (.agg [.lit (.string t1)]))) :: ("strconv.ErrSyntax", .iface "*errors.errorString" (.ptr (.agg [.lit (.string t2)]))) :: r) W) : TiedR W := by
  refine ⟨td, Tryd.laysM146.s1_3 W hS, ?_, ?_⟩
  · obtain ⟨a0, s0, hv0, -, -, -⟩ := laid_sentinel h.tail.tail.tail.tail.tail gES gESt Tryd.underlying98 row_err Tryd.underlying140 Tryd.underlying142 rfl rfl Tryd.underlying9 cellsES cellsStr
    exact ⟨_, _, by have h0 := World.var?_cell gES hv0 0; simpa using h0⟩
  · obtain ⟨a0, s0, hv0, -, -, -⟩ := laid_sentinel h.tail.tail.tail.tail gER gERt Tryd.underlying98 row_err Tryd.underlying140 Tryd.underlying142 rfl rfl Tryd.underlying9 cellsES cellsStr
    exact ⟨_, _, by have h0 := World.var?_cell gER hv0 0; simpa using h0⟩
/-! The library. -/
def cutA (s : ByteArray) (c : UInt8) : ByteArray := ⟨(Lib.cut (bts s) [c]).1.toArray⟩
def cutB (s : ByteArray) (c : UInt8) : ByteArray := ⟨(Lib.cut (bts s) [c]).2.1.toArray⟩
theorem cut_sz (s : ByteArray) (c : UInt8) : (cutA s c).size ≤ s.size ∧ (cutB s c).size ≤ s.size := by
  unfold cutA cutB
  by_cases h : c ∈ bts s
  · obtain ⟨w, r, e, hw⟩ := word_at h
    have h2 := bts_len s
    rw [e] at h2 ⊢
    rw [cut_word r hw]
    simp at h2
    constructor <;> (show List.length _ ≤ _; simp; omega)
  · rw [cut_none h]
    constructor
    · show List.length _ ≤ _
      simp [bts_len]
    · exact Nat.zero_le _
theorem Cut_c (s : ByteArray) (c : UInt8) (w : World) (hs : s.size ≤ 1048576) (T : TiedR w) :
    Calls Tryd.prog 59 #[.string s, .string ⟨#[c]⟩] w fun e w' => e = .returned (.tuple #[.string (cutA s c), .string (cutB s c), .bool (Lib.cut (bts s) [c]).2.2]) ∧ Below w.heap.size w w' := by
  obtain ⟨m, hm⟩ := T.mx
  exact (Tryd.strings_Cut s ⟨#[c]⟩ m w (by omega) hm).mono fun e w' ⟨he, n, hw⟩ => ⟨he, hw ▸ ⟨rfl, rfl, rfl, Nat.le_refl _, fun _ _ => rfl⟩⟩
theorem Contains_c (s : ByteArray) (c : UInt8) (w : World) :
    Calls Tryd.prog 58 #[.string s, .string ⟨#[c]⟩] w fun e w' => e = .returned (.bool (decide (c ∈ bts s))) ∧ w' = w := by
  have h1 := Lib.index_one (bts s) c
  have h3 : decide (0 ≤ Lib.indexByte s.data.toList c) = decide (c ∈ bts s) := by
    rw [show s.data.toList = bts s from rfl, ← h1]
    by_cases h : c ∈ bts s
    · obtain ⟨x, r, e2, hx⟩ := word_at h
      rw [decide_eq_true h, e2, index_word r hx]
      exact decide_eq_true (by omega)
    · rw [decide_eq_false h, index_no h]
      rfl
  refine (Tryd.strings_Contains_one s c w).mono fun e w' ⟨he, hw⟩ => ⟨?_, hw⟩
  rw [he, h3]
/-- A numeral read: a number; the number, if it is one's numeral. -/
def AtoiOut (s : ByteArray) (w : World) (e : Ending) (w' : World) : Prop := ∃ (v : Int) (eV : Value), e = .returned (.tuple #[.int .i64 v, eV]) ∧ (∀ n : Int, -1000000 ≤ n → n ≤ 1000000 → bts s = Lib.itoa n → v = n) ∧ Below w.heap.size w w'
theorem Atoi_c (s : ByteArray) (w : World) (hs : s.size ≤ 1048576) (T : TiedR w) :
    Calls Tryd.prog 79 #[.string s] w (AtoiOut s w) := by
  have key : ∀ {x}, Lib.atoiAll s.data.toList = x → ∀ n : Int, -1000000 ≤ n → n ≤ 1000000 → bts s = Lib.itoa n → x = .ok n := fun h n h0 h1 hn => by
    rw [← h, show s.data.toList = Lib.itoa n from hn, atoi_dec h0 h1]
  cases h : Lib.atoiAll s.data.toList
  case ok v =>
    refine (Tryd.strconv_Atoi_ok s (by omega) v h w).mono fun e w' ⟨he, hw⟩ => ⟨v, _, he, fun n h0 h1 hn => ?_, ?_⟩
    · have := key h n h0 h1 hn
      injection this
    · rcases hw with rfl | ⟨t, rfl⟩
      · exact Below.refl _ _
      · exact Lib.bytesWorld_below _ _ _
  case range =>
    obtain ⟨tp, p, hv⟩ := T.er
    exact (Tryd.strconv_Atoi_range s (by omega) h _ w hv (Or.inr ⟨tp, p, rfl⟩)).mono fun e w' ⟨N, he, _, _, hb⟩ => ⟨_, _, he, fun n h0 h1 hn => (by have := key h n h0 h1 hn; cases this), hb⟩
  obtain ⟨tp, p, hv⟩ := T.es
  exact (Tryd.strconv_Atoi_syntax s (by omega) ⟨fun v e => (by rw [h] at e; cases e), fun e => (by rw [h] at e; cases e)⟩ _ w hv (Or.inr ⟨tp, p, rfl⟩)).mono fun e w' ⟨N, he, _, _, hb⟩ => ⟨0, _, he, fun n h0 h1 hn => (by have := key h n h0 h1 hn; cases this), hb⟩
/-- A text split at one byte. -/
def SplitOut (s : ByteArray) (c : UInt8) (w : World) (e : Ending) (w' : World) : Prop := ∃ (b : Nat) (ws : List ByteArray), e = .returned (.slice (some ⟨b, 0, none⟩) ws.length ws.length) ∧ ws.map bts = splitL c (bts s) ∧ Kd.string.C w' (some ⟨b, 0, none⟩) ws.length ws ∧ Below w.heap.size w w'
theorem Split_c (s : ByteArray) (c : UInt8) (w : World) (hs : s.size ≤ 1048576) (T : TiedR w) :
    Calls Tryd.prog 28 #[.string s, .string ⟨#[c]⟩] w (SplitOut s c w) := by
  obtain ⟨m, hm⟩ := T.mx
  refine (Tryd.strings_Split s ⟨#[c]⟩ m w (by omega) hm (Nat.le_refl 1)).mono fun e w' ⟨he, hw⟩ => ?_
  subst hw
  have h1 := split_all c (bts s)
  have h2 := Lib.splitB_data ⟨#[c]⟩ 0 (Lib.countB s ⟨#[c]⟩) s
  have h3 : (Lib.splitB ⟨#[c]⟩ 0 (Lib.countB s ⟨#[c]⟩) s).map bts = splitL c (bts s) := h2.trans h1.1
  have h4 : Lib.countB s ⟨#[c]⟩ + 1 = (splitL c (bts s)).length := h1.2
  rw [← h3, List.length_map] at h4
  generalize Lib.splitB ⟨#[c]⟩ 0 (Lib.countB s ⟨#[c]⟩) s = ws at *
  rw [h4] at he
  have h5 : ws.length ≤ s.size + 1 := by
    have h6 := congrArg List.length h3
    rw [List.length_map] at h6
    have h7 := splitL_len c (bts s)
    rw [bts_len] at h7
    omega
  refine ⟨_, ws, he, h3, Kd.C_of_reads (d := ByteArray.empty) ⟨rfl, by omega, fun _ => ⟨_, rfl, fun j hj => ?_⟩⟩, below_alloc (Below.refl _ _) _⟩
  have ea : (⟨w.heap.size, 0, none⟩ : Addr).add j = ⟨w.heap.size, j, none⟩ := by simp [Addr.add]; exact fun h => h.symm
  rw [ea, List.getD_eq_getElem?_getD, List.getElem?_eq_getElem hj]
  have h8 : (w.alloc (.cells (ws.map Value.string).toArray 9)).heap[w.heap.size]? = some (.cells (ws.map Value.string).toArray 9 (0, 0)) := by
    unfold World.alloc
    simp
  unfold World.cell?
  rw [h8]
  simp [hj]
/-- A point of a word: the point, if it is one's word. -/
def PtIn (s : ByteArray) (w : World) (e : Ending) (w' : World) : Prop := ∃ (x y : Int), e = .returned (.agg #[.int .i64 x, .int .i64 y]) ∧ (∀ p : Pt, ptOk p = true → bts s = ptW p → (x, y) = p) ∧ Below w.heap.size w w'
set_option maxHeartbeats 1000000 in
theorem ptRead_c (s : ByteArray) (w : World) (hs : s.size ≤ 1048576) (T : TiedR w) :
    Calls Tryd.prog 65 #[.string s] w (PtIn s w) := by
  have hz := cut_sz s 44
  have HK := Lib.hid (show ∀ p : Pt, ptOk p = true → bts s = ptW p → bts (cutA s 44) = Lib.itoa p.1 ∧ bts (cutB s 44) = Lib.itoa p.2 from fun p hp h => by
    have h1 : (44 : UInt8) ∉ Lib.itoa p.1 := fun hc => (num_32 hc).2.1 rfl
    unfold cutA cutB
    rw [h]
    unfold ptW
    rw [cut_word _ h1]
    exact ⟨rfl, rfl⟩)
  have hT := fun w h => Cut_c s 44 w hs h
  have HT := Lib.hid hT
  clear hT
  go_enter Tryd.func65, Tryd.ntmps65
  go_wp2_with fail
  refine (HT.out _ (T.to bl)).mono ?_
  rintro e w1 ⟨rfl, hb1⟩
  generalize cutA s 44 = sa at *
  generalize cutB s 44 = sb at *
  go_wp2_with fail
  refine (Atoi_c sa _ (by omega) (T.to bl)).mono ?_
  rintro e w2 ⟨x, eV, rfl, hx, hb2⟩
  have HX := Lib.hid hx
  clear hx
  go_wp2_with fail
  refine (Atoi_c sb _ (by omega) (T.to bl)).mono ?_
  rintro e w3 ⟨y, eV2, rfl, hy, hb3⟩
  have HY := Lib.hid hy
  clear hy
  have HB := (((B2.new (u := .int .i64 0) (v := .int .i64 0) (t := 58) w).to hb1).to hb2).to hb3
  obtain ⟨f0, f1, f2, f3, f4⟩ := HB.f
  go_wp2
  refine bodyPost_ret (v := .agg #[.int .i64 x, .int .i64 y]) (by simp [results, Tryd.results65, go_sem, *]) rfl ⟨x, y, rfl, fun p hp h => by
    have hb := ptOk_in hp
    obtain ⟨h1, h2⟩ := HK.out p hp h
    rw [HX.out p.1 (by omega) (by omega) h1, HY.out p.2 (by omega) (by omega) h2], bl⟩
/-- The number of a name's kind. -/
def KdR (u : ByteArray) (K : Int) : Prop := ∀ K' : Int, (K' = 1 ∨ K' = 2 ∨ K' = 3) → bts u = bts (kindW K') → K = K'
theorem Index_c (a : Addr) (cc : Nat) (u : ByteArray) (w : World) (g1 : ∀ i, i < 4 → w.cell? (a.add i) = some (.string (kindWs.getD i ByteArray.empty))) :
    Calls Tryd.prog 64 #[.slice (some a) 4 cc, .string u] w fun e w' => (∃ K : Int, e = .returned (.int .i64 K) ∧ KdR u K) ∧ Below w.heap.size w w' := by
  go_enter Tryd.func64, Tryd.ntmps64
  have HG := Lib.hid g1
  clear g1
  go_wp2
  go_loopw [8] (fun i wr => ∃ k : Nat, k ≤ 4 ∧ i = .int .i64 k ∧ Aside0 (∀ i, i < k → kindWs.getD i ByteArray.empty ≠ u) ∧ Aside0 (Below w.heap.size w wr)) (fun i _ => 4 - (intOf i).toNat)
  case atStart => exact ⟨0, by omega, rfl, ⟨fun i hi => absurd hi (by omega)⟩, ⟨Below.refl _ _⟩⟩
  case round =>
    obtain ⟨k, hk, rfl, he, ⟨hb1⟩⟩ := hrel
    by_cases hlt : k < 4
    · have c0 := pw_cell_below hb1 (HG.out k hlt)
      have d1 : decide ((k : Int) < (4 : Int)) = true := decide_eq_true (by omega)
      have Hkw := Lib.hid (show kindWs.getD k ByteArray.empty = kindW (k : Int) from rfl)
      generalize kindWs.getD k ByteArray.empty = v at *
      by_cases hx : u = v
      · have t1 := strB_t hx
        have Hx := Lib.hid (show KdR u (k : Int) from fun K' hK' h => by
          have h1 := bts_inj h
          rw [hx, Hkw.out] at h1
          have : k = 0 ∨ k = 1 ∨ k = 2 ∨ k = 3 := by omega
          rcases hK' with rfl | rfl | rfl <;> rcases this with rfl | rfl | rfl | rfl <;> first | rfl | (exfalso; revert h1; decide))
        clear hx
        go_wp2
        go_ret
        exact ⟨⟨(k : Int), rfl, Hx.out⟩, bl⟩
      · have t1 := strB_f hx
        have Hx := Lib.hid hx
        clear hx
        go_wp2
        exact ⟨⟨k + 1, by omega, by go_num, ⟨fun i hi => if h : i = k then h ▸ (by have := Hx.out; rw [Hkw.out] at this; exact fun e => this e.symm) else he.out i (by omega)⟩, ⟨bl⟩⟩, by simp [intOf]; omega⟩
    · have Hx := Lib.hid (show KdR u (-1) from fun K' hK' h => by
        exfalso
        have h1 := bts_inj h
        rcases hK' with rfl | rfl | rfl
        · exact he.out 1 (by omega) h1.symm
        · exact he.out 2 (by omega) h1.symm
        · exact he.out 3 (by omega) h1.symm)
      have d1 : decide ((k : Int) < (4 : Int)) = false := decide_eq_false (by omega)
      go_wp2
      go_ret
      exact ⟨⟨-1, rfl, Hx.out⟩, bl⟩
end Go.Proofs.YtfbhjknkofnohaaDoor
