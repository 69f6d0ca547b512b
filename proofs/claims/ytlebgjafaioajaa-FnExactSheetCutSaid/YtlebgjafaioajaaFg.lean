/- Contracts: what is got at a key. -/
import Derived.Test.YtlebgjafaioajaaFe
import Derived.Test.YtlebgjafaioajaaFq
namespace Go.Proofs.Ytlebgjafaioajaa
open Go.RowKit Go.Proofs.YtlebgjafaioajaaW.PrintWords Go.Proofs.YtlebgjafaioajaaW.PrintLast
set_option linter.unusedVariables false
set_option linter.unusedSimpArgs false
theorem tag1_c (x y key : ByteArray) (b : Nat) (w : World) (hc : w.cell? ⟨b, 0, none⟩ = some (.string key)) :
    Calls Try.prog 111 #[.agg #[.string x, .string y], .pointer (some ⟨b, 0, none⟩)] w fun e w' => e = .returned (.bool (eqB x key)) ∧ Below w.heap.size w w' := by
  have hc2 := pw_cell_below (bl : Below w.heap.size w (w.alloc (.cells #[.string x, .string y] 57))) hc
  by_cases h : x = key
  · have t := strB_t h
    have H := Lib.hid h
    clear h
    go_enter Try.func111, Try.ntmps111
    go_wp2
    go_ret
    exact ⟨ret_bool (eqB_t.2 H.out).symm, bl⟩
  · have t := strB_f h
    have H := Lib.hid h
    clear h
    go_enter Try.func111, Try.ntmps111
    go_wp2
    go_ret
    exact ⟨ret_bool (eqB_f.2 H.out).symm, bl⟩
set_option maxHeartbeats 1000000 in
theorem IndexTag_c (A : Option Addr) (c : Nat) (l : List Tag) (key : ByteArray) (b : Nat) (w : World) (hl : kTag.C w A l.length l) (hn : l.length ≤ 1048576) (hc : w.cell? ⟨b, 0, none⟩ = some (.string key)) :
    Calls Try.prog 110 #[.slice A l.length c, .func (.func 111) #[] #[.pointer (some ⟨b, 0, none⟩)]] w fun e w' => e = .returned (.int .i64 (optI (atK l key))) ∧ Below w.heap.size w w' := by
  go_enter Try.func110, Try.ntmps110
  go_wp2
  go_loopw [8] (fun i wr => ∃ k : Nat, k ≤ l.length ∧ i = .int .i64 k ∧ Aside0 (∀ i, (hi : i < k) → (hj : i < l.length) → l[i].1 ≠ key) ∧ Aside0 (Below w.heap.size w wr)) (fun i _ => l.length - (intOf i).toNat)
  case atStart => exact ⟨0, by omega, rfl, ⟨fun i hi => absurd hi (by omega)⟩, ⟨Below.refl _ _⟩⟩
  case round =>
    obtain ⟨k, hk, rfl, he, ⟨hb1⟩⟩ := hrel
    by_cases hlt : k < l.length
    · obtain ⟨ad, rfl, c0, c1⟩ := at_Tag hl k hlt
      replace c0 := pw_cell_below hb1 c0
      replace c1 := pw_cell_below hb1 c1
      have d1 : decide ((k : Int) < (l.length : Int)) = true := decide_eq_true (by omega)
      cases hx : eqB l[k].1 key with
      | true =>
        have Hx := Lib.hid (show optI (atK l key) = k by rw [atK_some k hlt (eqB_t.1 hx) (fun i hi => he.out i hi (by omega))]; rfl)
        go_wp2_with fail
        refine (tag1_c l[k].1 l[k].2 key b _ (pw_cell_below hb1 hc)).mono ?_
        rintro e w2 ⟨rfl, hb2⟩
        rw [hx]
        go_wp2
        go_ret
        exact ⟨ret_int Hx.out.symm, bl⟩
      | false =>
        have Hx := Lib.hid (eqB_f.1 hx)
        go_wp2_with fail
        refine (tag1_c l[k].1 l[k].2 key b _ (pw_cell_below hb1 hc)).mono ?_
        rintro e w2 ⟨rfl, hb2⟩
        rw [hx]
        go_wp2
        exact ⟨⟨k + 1, by omega, by go_num, ⟨fun i hi hj => if h : i = k then h ▸ Hx.out else he.out i (by omega) hj⟩, ⟨bl⟩⟩, by simp [intOf]; omega⟩
    · have Hx := Lib.hid (show optI (atK l key) = -1 by rw [atK_none (fun i hi => he.out i (by omega) hi)]; rfl)
      have d1 : decide ((k : Int) < (l.length : Int)) = false := decide_eq_false (by omega)
      go_wp2
      go_ret
      exact ⟨ret_int Hx.out.symm, bl⟩
theorem tag_c (f : FeatD) (A : Option Addr) (c : Nat) (B : Option Addr) (d : Nat) (key : ByteArray) (w : World) (hm : kTag.C w B f.2.2.length f.2.2) (hn : f.2.2.length ≤ 1048576) :
    Calls Try.prog 70 #[featV f A c B d, .string key] w fun e w' => e = .returned (.int .i64 (optI (atK f.2.2 key))) ∧ Below w.heap.size w w' := by
  obtain ⟨id, ⟨K, l⟩, m⟩ := f
  simp only [featV] at hm hn ⊢
  go_enter Try.func70, Try.ntmps70
  go_wp2_with fail
  refine (IndexTag_c B d m key (w.heap.size + 1) _ (Kd.C_below hm bl) hn (by simp)).mono ?_
  rintro e w2 ⟨rfl, hb2⟩
  go_wp2
  go_ret
  exact ⟨rfl, bl⟩
set_option maxHeartbeats 1000000 in
theorem l2Get_c (A : Option Addr) (c : Nat) (l : List Tag) (key : ByteArray) (w : World) (hl : kTag.C w A l.length l) (hn : l.length ≤ 1048576) :
    Calls Try.prog 69 #[.slice A l.length c, .string key] w fun e w' => e = .returned (.tuple #[.string (getT l key).1, .bool (getT l key).2]) ∧ Below w.heap.size w w' := by
  go_enter Try.func69, Try.ntmps69
  go_wp2
  go_loopw [6] (fun i wr => ∃ k : Nat, k ≤ l.length ∧ i = .int .i64 k ∧ Aside0 (∀ i, (hi : i < k) → (hj : i < l.length) → l[i].1 ≠ key) ∧ Aside0 (Below w.heap.size w wr)) (fun i _ => l.length - (intOf i).toNat)
  case atStart => exact ⟨0, by omega, rfl, ⟨fun i hi => absurd hi (by omega)⟩, ⟨Below.refl _ _⟩⟩
  case round =>
    obtain ⟨k, hk, rfl, he, ⟨hb1⟩⟩ := hrel
    by_cases hlt : k < l.length
    · obtain ⟨ad, rfl, c0, c1⟩ := at_Tag hl k hlt
      replace c0 := pw_cell_below hb1 c0
      replace c1 := pw_cell_below hb1 c1
      have d1 : decide ((k : Int) < (l.length : Int)) = true := decide_eq_true (by omega)
      by_cases hx : l[k].1 = key
      · have t := strB_t hx
        have Hx := Lib.hid (getT_some (atK_some k hlt hx (fun i hi => he.out i hi (by omega))) hlt)
        clear hx
        go_wp2
        go_ret2
        rw [Hx.out]
        exact ⟨rfl, bl⟩
      · have t := strB_f hx
        have Hx := Lib.hid hx
        clear hx
        go_wp2
        exact ⟨⟨k + 1, by omega, by go_num, ⟨fun i hi hj => if h : i = k then h ▸ Hx.out else he.out i (by omega) hj⟩, ⟨bl⟩⟩, by simp [intOf]; omega⟩
    · have Hx := Lib.hid (getT_none (atK_none (fun i hi => he.out i (by omega) hi)))
      have d1 : decide ((k : Int) < (l.length : Int)) = false := decide_eq_false (by omega)
      go_wp2
      go_ret2
      rw [Hx.out]
      exact ⟨rfl, bl⟩
theorem sFeatGet_c (f : FeatD) (A : Option Addr) (c : Nat) (B : Option Addr) (d : Nat) (key : ByteArray) (w : World) (hl : kPt.C w A f.2.1.2.length f.2.1.2) (hm : kTag.C w B f.2.2.length f.2.2) (hF : FTx f) :
    Calls Try.prog 31 #[featV f A c B d, .string key] w fun e w' => e = .returned (.tuple #[.string (fget f key).1, .bool (fget f key).2]) ∧ Below w.heap.size w w' := by
  have n2 := hF.tags
  cases hok : featOk f with
  | false =>
    have Hf := Lib.hid (show fget f key = (ByteArray.empty, false) from if_neg (featOk_f.1 hok))
    go_enter Try.func31, Try.ntmps31
    go_wp2_with fail
    refine (sFeatOk_c f A c B d _ (Kd.C_below hl bl) (Kd.C_below hm bl) hF).mono ?_
    rintro e w1 ⟨rfl, hb1⟩
    rw [hok]
    go_wp2
    go_ret2
    rw [Hf.out]
    exact ⟨rfl, bl⟩
  | true =>
    have Hf := Lib.hid (show fget f key = getT f.2.2 key from if_pos (featOk_t.1 hok))
    go_enter Try.func31, Try.ntmps31
    go_wp2_with fail
    refine (sFeatOk_c f A c B d _ (Kd.C_below hl bl) (Kd.C_below hm bl) hF).mono ?_
    rintro e w1 ⟨rfl, hb1⟩
    rw [hok]
    obtain ⟨q1, q2, z1⟩ := bcn (w := w) 1 hb1
    go_wp2_with fail
    refine (l2Get_c B d f.2.2 key _ (Kd.C_below hm bl) n2).mono ?_
    rintro e w2 ⟨rfl, hb2⟩
    go_wp2
    go_ret2
    rw [Hf.out]
    exact ⟨rfl, bl⟩
theorem iFeatGet_c (f : FeatD) (A : Option Addr) (c : Nat) (B : Option Addr) (d : Nat) (key : ByteArray) (w : World) (hl : kPt.C w A f.2.1.2.length f.2.1.2) (hm : kTag.C w B f.2.2.length f.2.2) (hF : FTx f) :
    Calls Try.prog 32 #[featV f A c B d, .string key] w fun e w' => e = .returned (.tuple #[.string (fget f key).1, .bool (fget f key).2]) ∧ Below w.heap.size w w' := by
  have n2 := hF.tags
  have HC : Cells (w.alloc (.cells #[.string f.1, .int .i64 f.2.1.1, .slice A f.2.1.2.length c, .slice B f.2.2.length d] 35)) _ := (Cells.nil w).box4 (Below.refl _ _)
  cases hok : featOk f with
  | false =>
    have Hf := Lib.hid (show fget f key = (ByteArray.empty, false) from if_neg (featOk_f.1 hok))
    go_enter Try.func32, Try.ntmps32
    go_wp2_with fail
    refine (tag_c f A c B d key _ (Kd.C_below hm bl) n2).mono ?_
    rintro e w1 ⟨rfl, hb1⟩
    replace HC := HC.to hb1
    obtain ⟨h0, h1, h2, h3, _⟩ := HC.all
    go_wp2_with fail
    refine (iFeatOk_c f A c B d _ (Kd.C_below hl bl) (Kd.C_below hm bl) hF).mono ?_
    rintro e w2 ⟨rfl, hb2⟩
    rw [hok]
    go_wp2
    go_ret2
    rw [Hf.out]
    exact ⟨rfl, bl⟩
  | true =>
    cases hat : atK f.2.2 key with
    | none =>
      have Hf := Lib.hid (show fget f key = (ByteArray.empty, false) from (if_pos (featOk_t.1 hok)).trans (getT_none hat))
      go_enter Try.func32, Try.ntmps32
      go_wp2_with fail
      refine (tag_c f A c B d key _ (Kd.C_below hm bl) n2).mono ?_
      rintro e w1 ⟨rfl, hb1⟩
      rw [hat]
      simp only [optI]
      replace HC := HC.to hb1
      obtain ⟨h0, h1, h2, h3, _⟩ := HC.all
      go_wp2_with fail
      refine (iFeatOk_c f A c B d _ (Kd.C_below hl bl) (Kd.C_below hm bl) hF).mono ?_
      rintro e w2 ⟨rfl, hb2⟩
      rw [hok]
      go_wp2
      go_ret2
      rw [Hf.out]
      exact ⟨rfl, bl⟩
    | some k =>
      obtain ⟨hk, hk1, _⟩ := atK_is hat
      have Hf := Lib.hid (show fget f key = (f.2.2[k].2, true) from (if_pos (featOk_t.1 hok)).trans (getT_some hat hk))
      have Hat := Lib.hid hat
      clear hat hk1
      obtain ⟨ad, rfl, c0, c1⟩ := at_Tag hm k hk
      have d1 : decide ((k : Int) < 0) = false := decide_eq_false (by omega)
      go_enter Try.func32, Try.ntmps32
      go_wp2_with fail
      refine (tag_c f A c (some ad) d key _ (Kd.C_below hm bl) n2).mono ?_
      rintro e w1 ⟨rfl, hb1⟩
      rw [Hat.out]
      simp only [optI]
      replace HC := HC.to hb1
      obtain ⟨h0, h1, h2, h3, _⟩ := HC.all
      go_wp2_with fail
      refine (iFeatOk_c f A c (some ad) d _ (Kd.C_below hl bl) (Kd.C_below hm bl) hF).mono ?_
      rintro e w2 ⟨rfl, hb2⟩
      rw [hok]
      replace HC := HC.to hb2
      clear h0 h1 h2 h3
      obtain ⟨h0, h1, h2, h3, _⟩ := HC.all
      replace c0 := pw_cell_below (bl : Below w.heap.size w w2) c0
      replace c1 := pw_cell_below (bl : Below w.heap.size w w2) c1
      go_wp2
      go_ret2
      rw [Hf.out]
      exact ⟨rfl, bl⟩
end Go.Proofs.Ytlebgjafaioajaa
