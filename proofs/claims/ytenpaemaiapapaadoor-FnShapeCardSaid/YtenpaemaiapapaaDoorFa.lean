/- Vocabulary of things; the laws' own helpers over things. -/
import Derived.Test.YtenpaemaiapapaaDoorA
namespace Go.Proofs.YtenpaemaiapapaaDoor
section
open Go.RowKit Go.Proofs.YtenpaemaiapapaaDoorW.PrintWords Go.Proofs.YtenpaemaiapapaaDoorW.PrintLast
set_option linter.unusedVariables false
set_option linter.unusedSimpArgs false
abbrev Tag := ByteArray × ByteArray
abbrev FeatD := ByteArray × (Int × List Pt) × List Tag
abbrev kTag : Kd Tag := Kd.pair Kd.string Kd.string
abbrev kShape : Kd (Int × List Pt) := Kd.pair (Kd.int .i64) (Kd.slice 45 kPt)
abbrev kFeat : Kd FeatD := Kd.pair Kd.string (Kd.pair kShape (Kd.slice 55 kTag))
theorem bytes_eq {s t : ByteArray} (h : s.toList = t.toList) : s = t := by
  rw [ByteArray.toList_eq, ByteArray.toList_eq] at h
  cases s; cases t; simp at h; rw [h]
theorem strB_t {s t : ByteArray} (h : s = t) : (s.toList == t.toList) = true := by rw [h]; simp
theorem strB_f {s t : ByteArray} (h : s ≠ t) : (s.toList == t.toList) = false := by
  rw [beq_eq_false_iff_ne]; exact fun e => h (bytes_eq e)
theorem kTag_open {w : World} {x : Tag} {cs : List Value} (h : kTag.K w x cs) : cs = [.string x.1, .string x.2] := by
  obtain ⟨_, _, rfl, rfl, rfl⟩ := h
  exact rfl
theorem kTag_openM {w : World} {base : Nat} {ok : Nat → Prop} {x : Tag} {cs : List Value} (h : kTag.M w base ok x cs) : cs = [.string x.1, .string x.2] := by
  obtain ⟨_, _, rfl, rfl, rfl⟩ := h
  exact rfl
theorem kTag_mkM (w : World) (base : Nat) (ok : Nat → Prop) (x : Tag) : kTag.M w base ok x [.string x.1, .string x.2] := ⟨[.string x.1], [.string x.2], rfl, rfl, rfl⟩
theorem kTag_mk (w : World) (x : Tag) : kTag.K w x [.string x.1, .string x.2] := ⟨[.string x.1], [.string x.2], rfl, rfl, rfl⟩
abbrev tag0 : Tag := (ByteArray.empty, ByteArray.empty)
/-- An element of a row of tags that is read. -/
theorem at_Tag {w : World} {A : Option Addr} {n : Nat} {xs : List Tag} (h : kTag.C w A n xs) (i : Nat) (h1 : i < xs.length) : ∃ ad, A = some ad ∧ w.cell? (ad.add (i * 2)) = some (.string xs[i].1) ∧ w.cell? ⟨(ad.add (i * 2)).block, (ad.add (i * 2)).off + 1, none⟩ = some (.string xs[i].2) := by
  obtain ⟨ad, c, e, hl, hK, hc⟩ := Kd.C_get h tag0 (i : Int) (by omega) (by have := h.1; omega)
  have hg : xs.getD i tag0 = xs[i] := by rw [List.getD_eq_getElem?_getD, List.getElem?_eq_getElem h1]; rfl
  simp only [Int.toNat_natCast] at hK hc
  rw [hg] at hK
  obtain rfl := kTag_open hK
  exact ⟨ad, e, hc 0 _ rfl, by rw [← add_field _ _ 1 (by omega)]; exact hc 1 _ rfl⟩
theorem own_Tag {e base g n cap : Nat} {ok : Nat → Prop} {W : World} {xs : List Tag} (h : kTag.R e W base ok (.slice (some ⟨g, 0, none⟩) n cap) xs) (i : Nat) (hi : i < xs.length) :
    W.cell? ⟨g, i * 2, none⟩ = some (.string xs[i].1) ∧ W.cell? ⟨g, i * 2 + 1, none⟩ = some (.string xs[i].2) ∧ W.frozen? ⟨g, i * 2, none⟩ = false ∧ W.frozen? ⟨g, i * 2 + 1, none⟩ = false := by
  have hn := (Kd.R_reads' h).1
  obtain ⟨c, hl, hM, hc, hf⟩ := Kd.R_elem h tag0 (i : Int) (by omega) (by omega)
  have hg : xs.getD i tag0 = xs[i] := by rw [List.getD_eq_getElem?_getD, List.getElem?_eq_getElem hi]; rfl
  simp only [Int.toNat_natCast] at hM hc hf
  rw [hg] at hM
  obtain rfl := kTag_openM hM
  exact ⟨hc 0 _ rfl, hc 1 _ rfl, hf 0, hf 1⟩
theorem own_Tag' {e base g n cap : Nat} {ok : Nat → Prop} {W : World} {xs : List Tag} (h : kTag.R e W base ok (.slice (some ⟨g, 0, none⟩) n cap) xs) (i : Nat) (hi : i < n) :
    ∃ u v, W.cell? ⟨g, i * 2, none⟩ = some u ∧ W.cell? ⟨g, i * 2 + 1, none⟩ = some v ∧ W.frozen? ⟨g, i * 2, none⟩ = false ∧ W.frozen? ⟨g, i * 2 + 1, none⟩ = false := by
  have hn := (Kd.R_reads' h).1
  exact ⟨_, _, own_Tag h i (by omega)⟩
theorem set_Tag {e base g n cap : Nat} {ok : Nat → Prop} {W : World} {xs : List Tag} (h : kTag.R e W base ok (.slice (some ⟨g, 0, none⟩) n cap) xs) (i : Nat) (hi : i < n) (x y : ByteArray) :
    kTag.R e ((W.setCell ⟨g, i * 2, none⟩ (.string x)).setCell ⟨g, i * 2 + 1, none⟩ (.string y)) base ok (.slice (some ⟨g, 0, none⟩) n cap) (xs.set i (x, y)) ∧
      W.grownBy ((W.setCell ⟨g, i * 2, none⟩ (.string x)).setCell ⟨g, i * 2 + 1, none⟩ (.string y)) (some g) := by
  obtain ⟨c, hl, hM, hc, hf⟩ := Kd.R_elem h tag0 (i : Int) (by omega) (by omega)
  have hl2 : c.length = 2 := hl
  have he : c.take 0 ++ [Value.string x, .string y] ++ c.drop (0 + 2) = [.string x, .string y] := by rw [List.drop_of_length_le (by omega)]; rfl
  exact Kd.R_seg h (i : Int) (by omega) (by omega) (seg := [.string x, .string y]) (j := 0) hl hc (show 2 ≤ 2 by decide) (x' := (x, y)) (okp := fun k => ok k ∧ k ≠ g) (by
    show kTag.M W base _ (x, y) (c.take 0 ++ [Value.string x, .string y] ++ c.drop (0 + 2))
    rw [he]; exact kTag_mkM _ _ _ (x, y)) (fun _ hk => hk)
theorem kFeat_open {w : World} {x : FeatD} {cs : List Value} (h : kFeat.K w x cs) : ∃ A c B d, cs = [.string x.1, .int .i64 x.2.1.1, .slice A x.2.1.2.length c, .slice B x.2.2.length d] ∧ x.2.1.2.length ≤ c ∧ x.2.2.length ≤ d ∧ kPt.C w A x.2.1.2.length x.2.1.2 ∧ kTag.C w B x.2.2.length x.2.2 := by
  obtain ⟨_, _, rfl, rfl, _, _, rfl, ⟨_, _, rfl, rfl, A, c, rfl, h1, h2⟩, B, d, rfl, h3, h4⟩ := h
  exact ⟨A, c, B, d, rfl, h1, h3, h2, h4⟩
theorem kFeat_mk (w : World) (x : FeatD) (A B : Option Addr) (c d : Nat) (h1 : x.2.1.2.length ≤ c) (h3 : x.2.2.length ≤ d) (h2 : kPt.C w A x.2.1.2.length x.2.1.2) (h4 : kTag.C w B x.2.2.length x.2.2) : kFeat.K w x [.string x.1, .int .i64 x.2.1.1, .slice A x.2.1.2.length c, .slice B x.2.2.length d] :=
  ⟨[.string x.1], _, rfl, rfl, [.int .i64 x.2.1.1, .slice A x.2.1.2.length c], _, rfl, ⟨[.int .i64 x.2.1.1], _, rfl, rfl, A, c, rfl, h1, h2⟩, B, d, rfl, h3, h4⟩
theorem kFeat_mkM {w : World} {base : Nat} {ok : Nat → Prop} (x : FeatD) {u v : Value} (h1 : kPt.R 45 w base ok u x.2.1.2) (h2 : kTag.R 55 w base ok v x.2.2) : kFeat.M w base ok x [.string x.1, .int .i64 x.2.1.1, u, v] :=
  ⟨[.string x.1], _, rfl, rfl, [.int .i64 x.2.1.1, u], _, rfl, ⟨[.int .i64 x.2.1.1], _, rfl, rfl, u, rfl, h1⟩, v, rfl, h2⟩
theorem kFeat_openM {w : World} {base : Nat} {ok : Nat → Prop} {x : FeatD} {cs : List Value} (h : kFeat.M w base ok x cs) : ∃ u v, cs = [.string x.1, .int .i64 x.2.1.1, u, v] ∧ kPt.R 45 w base ok u x.2.1.2 ∧ kTag.R 55 w base ok v x.2.2 := by
  obtain ⟨_, _, rfl, rfl, _, _, rfl, ⟨_, _, rfl, rfl, u, rfl, h1⟩, v, rfl, h2⟩ := h
  exact ⟨u, v, rfl, h1, h2⟩
abbrev feat0 : FeatD := (ByteArray.empty, (0, []), [])
/-- An element of a row of things that is read. -/
theorem at_Feat {w : World} {A0 : Option Addr} {n : Nat} {xs : List FeatD} (h : kFeat.C w A0 n xs) (i : Nat) (h1 : i < xs.length) : ∃ ad A c B d, A0 = some ad ∧ w.cell? (ad.add (i * 4)) = some (.string xs[i].1) ∧ w.cell? ⟨(ad.add (i * 4)).block, (ad.add (i * 4)).off + 1, none⟩ = some (.int .i64 xs[i].2.1.1) ∧
    w.cell? ⟨(ad.add (i * 4)).block, (ad.add (i * 4)).off + 2, none⟩ = some (.slice A xs[i].2.1.2.length c) ∧ w.cell? ⟨(ad.add (i * 4)).block, (ad.add (i * 4)).off + 3, none⟩ = some (.slice B xs[i].2.2.length d) ∧
    kPt.C w A xs[i].2.1.2.length xs[i].2.1.2 ∧ kTag.C w B xs[i].2.2.length xs[i].2.2 ∧ xs[i].2.1.2.length ≤ c ∧ xs[i].2.2.length ≤ d := by
  obtain ⟨ad, cs, e, hl, hK, hc⟩ := Kd.C_get h feat0 (i : Int) (by omega) (by have := h.1; omega)
  have hg : xs.getD i feat0 = xs[i] := by rw [List.getD_eq_getElem?_getD, List.getElem?_eq_getElem h1]; rfl
  simp only [Int.toNat_natCast] at hK hc
  rw [hg] at hK
  obtain ⟨A, c, B, d, rfl, g1, g2, g3, g4⟩ := kFeat_open hK
  exact ⟨ad, A, c, B, d, e, hc 0 _ rfl, by rw [← add_field _ _ 1 (by omega)]; exact hc 1 _ rfl, by rw [← add_field _ _ 2 (by omega)]; exact hc 2 _ rfl, by rw [← add_field _ _ 3 (by omega)]; exact hc 3 _ rfl, g3, g4, g1, g2⟩
/-! Sizes. -/
def tagSz (t : Tag) : Nat := t.1.size + t.2.size
def tagsSz : List Tag → Nat
  | [] => 0
  | t :: l => tagSz t + tagsSz l
def featSz (f : FeatD) : Nat := f.1.size + f.2.1.2.length + (f.2.2.length + tagsSz f.2.2)
def featsSz : List FeatD → Nat
  | [] => 0
  | t :: l => featSz t + featsSz l
theorem tagsSz_append (l m : List Tag) : tagsSz (l ++ m) = tagsSz l + tagsSz m := by
  induction l with
  | nil => simp [tagsSz]
  | cons t l ih => simp only [List.cons_append, tagsSz, ih]; omega
theorem featsSz_append (l m : List FeatD) : featsSz (l ++ m) = featsSz l + featsSz m := by
  induction l with
  | nil => simp [featsSz]
  | cons t l ih => simp only [List.cons_append, featsSz, ih]; omega
theorem tagsSz_take (l : List Tag) (k : Nat) (h : k < l.length) : tagsSz (l.take (k + 1)) = tagsSz (l.take k) + tagSz l[k] := by
  rw [List.take_succ_eq_append_getElem h, tagsSz_append]; rfl
theorem featsSz_take (l : List FeatD) (k : Nat) (h : k < l.length) : featsSz (l.take (k + 1)) = featsSz (l.take k) + featSz l[k] := by
  rw [List.take_succ_eq_append_getElem h, featsSz_append]; rfl
theorem tagsSz_le (l : List Tag) (k : Nat) : tagsSz (l.take k) ≤ tagsSz l := by
  have := tagsSz_append (l.take k) (l.drop k)
  rw [List.take_append_drop] at this
  omega
theorem featsSz_le (l : List FeatD) (k : Nat) : featsSz (l.take k) ≤ featsSz l := by
  have := featsSz_append (l.take k) (l.drop k)
  rw [List.take_append_drop] at this
  omega
theorem tagSz_mem {l : List Tag} {t : Tag} (h : t ∈ l) : tagSz t ≤ tagsSz l := by
  induction l with
  | nil => cases h
  | cons u l ih =>
    rcases List.mem_cons.1 h with rfl | h
    · simp only [tagsSz]; omega
    · have := ih h; simp only [tagsSz]; omega
theorem featSz_mem {l : List FeatD} {t : FeatD} (h : t ∈ l) : featSz t ≤ featsSz l := by
  induction l with
  | nil => cases h
  | cons u l ih =>
    rcases List.mem_cons.1 h with rfl | h
    · simp only [featsSz]; omega
    · have := ih h; simp only [featsSz]; omega
end
section
open Go.RowKit Go.Proofs.YtenpaemaiapapaaDoorW.PrintWords Go.Proofs.YtenpaemaiapapaaDoorW.PrintLast
set_option linter.unusedVariables false
set_option linter.unusedSimpArgs false

theorem toTag_c (x y : ByteArray) (w : World) :
    Calls Tryd.prog 108 #[.agg #[.string x, .string y]] w fun e w' => e = .returned (.agg #[.string x, .string y]) ∧ Below w.heap.size w w' := by
  go_enter Tryd.func108, Tryd.ntmps108
  go_wp2
  refine bodyPost_ret (v := .agg #[.string x, .string y]) (by simp [results, Tryd.results108, go_sem]) rfl ⟨rfl, ?_⟩
  exact bl
theorem info_Tag : (Tryd.prog.info? 55).map (fun i => (i.zero, i.size, i.bytes)) = some (some (.agg #[(.string ByteArray.empty), (.string ByteArray.empty)]), 2, 32) := by kernel_rfl
set_option maxHeartbeats 400000 in
theorem toTagS_c (A : Option Addr) (c : Nat) (l : List Tag) (w : World) (hl : kTag.C w A l.length l) (hn : l.length ≤ 1048576) :
    Calls Tryd.prog 85 #[.slice A l.length c] w fun e w' => ∃ A' c', e = .returned (.slice A' l.length c') ∧ RI kTag 55 w' w.heap.size w'.heap.size (.slice A' l.length c') l ∧ Below w.heap.size w w' := by
  go_enter Tryd.func85, Tryd.ntmps85
  go_wp2_with ((with_reducible refine gate_dst (N := 7) rfl ?_); refine Kd.R_make kTag w.heap.size 55 rfl (N := 7) rfl 48 _ _ rfl (l.length : Int) rfl rfl Tryd.underlying48 (.agg #[(.string ByteArray.empty), (.string ByteArray.empty)]) 32 info_Tag rfl (by decide) (by omega) tag0 (ok := fun _ => True) (okp := fun _ => True) (kTag_mkM _ _ _ tag0) (fun _ hk => hk) trivial (by omega) (by simp; omega) (Below.refl _ _) (Nat.le_refl _) ?_; intro v w1 hr hb hg hv; clear hg)
  obtain ⟨g, cap, rfl, hg⟩ := R_formed hr hv
  simp only [Int.toNat_natCast, List.length_replicate] at hr ⊢
  clear hv
  go_loopw [4] (fun i wr => ∃ k : Nat, k ≤ l.length ∧ i = .int .i64 k ∧ Aside0 (kTag.R 55 wr w.heap.size (fun _ => True) (.slice (some ⟨g, 0, none⟩) l.length cap) (l.take k ++ List.replicate (l.length - k) tag0)) ∧ Aside0 (Below w.heap.size w wr)) (fun i _ => l.length - (intOf i).toNat)
  case atStart => exact ⟨0, by omega, rfl, ⟨by simpa using hr⟩, ⟨hb⟩⟩
  case round =>
    obtain ⟨k, hk, rfl, ⟨hr1⟩, ⟨hb1⟩⟩ := hrel
    by_cases hlt : k < l.length
    · obtain ⟨ad, rfl, c0, c1⟩ := at_Tag hl k hlt
      replace c0 := pw_cell_below hb1 c0
      replace c1 := pw_cell_below hb1 c1
      go_wp2_with (go_at_call 108; refine (toTag_c _ _ _).mono ?_; rintro e w2 ⟨rfl, hb2⟩; have hr2 := Kd.R_below hr1 hb2; obtain ⟨u, v, d0, d1, f0, f1⟩ := own_Tag' hr2 k hlt)
      obtain ⟨hr3, hg3⟩ := set_Tag hr2 k hlt l[k].1 l[k].2
      go_roundw
      case rel => exact ⟨k + 1, by omega, by go_num, ⟨fill_set l tag0 k hlt ▸ hr3⟩, ⟨below_set (below_set (below_step hb1 hb2) hg) hg⟩⟩
      case measure => simp [intOf]; omega
    · go_wp2
      go_ret
      obtain rfl : k = l.length := by omega
      exact ⟨_, _, rfl, RI.of (by simpa using hr1), hb1⟩
theorem eqTag_c (x y : Tag) (w : World) :
    Calls Tryd.prog 109 #[.agg #[.string x.1, .string x.2], .agg #[.string y.1, .string y.2]] w fun e w' => e = .returned (.bool (eqB x y)) ∧ Below w.heap.size w w' := by
  obtain ⟨x1, x2⟩ := x
  obtain ⟨y1, y2⟩ := y
  by_cases h : x1 = y1
  · have t := strB_t h
    have H := Lib.hid h
    clear h
    by_cases h2 : x2 = y2
    · have t2 := strB_t h2
      have H2 := Lib.hid h2
      clear h2
      go_enter Tryd.func109, Tryd.ntmps109
      go_wp2
      go_ret
      exact ⟨ret_bool (by symm; rw [eqB_t, H.out, H2.out]), bl⟩
    · have t2 := strB_f h2
      have H2 := Lib.hid h2
      clear h2
      go_enter Tryd.func109, Tryd.ntmps109
      go_wp2
      go_ret
      exact ⟨ret_bool (by symm; rw [eqB_f]; intro e; injection e with _ e; exact H2.out e), bl⟩
  · have t := strB_f h
    have H := Lib.hid h
    clear h
    go_enter Tryd.func109, Tryd.ntmps109
    go_wp2
    go_ret
    exact ⟨ret_bool (by symm; rw [eqB_f]; intro e; injection e with e; exact H.out e), bl⟩
def l_eqTagS_T6 : Bool × List (List Nat × List Nat) := (true, [([], []), ([], []), ([0, 1], [0, 1]), ([2], [2]), ([], []), ([], []), ([4, 5], [4, 5]), ([6], [6]), ([3, 7], [3, 7]), ([8], [8])])
theorem l_eqTagS_t6 : rtab .any (opsOf Tryd.f86 6) = l_eqTagS_T6 := by kernel_rfl
set_option maxHeartbeats 4000000 in
theorem eqTagS_c (A B : Option Addr) (c d : Nat) (l m : List Tag) (w : World) (hl : kTag.C w A l.length l) (hm : kTag.C w B m.length m) (hn : l.length ≤ 1048576) (hn2 : m.length ≤ 1048576) :
    Calls Tryd.prog 86 #[.slice A l.length c, .slice B m.length d] w fun e w' => e = .returned (.bool (eqB l m)) ∧ Below w.heap.size w w' := by
  by_cases hlen : l.length = m.length
  · have hne : ((l.length : Int) != (m.length : Int)) = false := by simp [hlen]
    have Hlen := Lib.hid hlen
    clear hlen
    go_enter Tryd.func86, Tryd.ntmps86
    go_wp2
    go_loopw [5] (fun i wr => ∃ k : Nat, k ≤ l.length ∧ i = .int .i64 k ∧ Aside0 (l.take k = m.take k) ∧ Aside0 (Below w.heap.size w wr)) (fun i _ => l.length - (intOf i).toNat)
    case atStart => exact ⟨0, by omega, rfl, ⟨by simp⟩, ⟨Below.refl _ _⟩⟩
    case round =>
      obtain ⟨k, hk, rfl, he, ⟨hb1⟩⟩ := hrel
      by_cases hlt : k < l.length
      · have hlt2 : k < m.length := by have := Hlen.out; omega
        obtain ⟨ad, rfl, c0, c1⟩ := at_Tag hl k hlt
        obtain ⟨bd, rfl, d0, d1⟩ := at_Tag hm k hlt2
        replace c0 := pw_cell_below hb1 c0
        replace c1 := pw_cell_below hb1 c1
        replace d0 := pw_cell_below hb1 d0
        replace d1 := pw_cell_below hb1 d1
        go_wp2
        refine rgStart 10 [0, 1, 2, 3, 4, 5, 6, 7, 8, 9] l_eqTagS_t6 (fun HT HS => ?_)
        repeat ((with_reducible refine rgGate ?_); first | refine rgP HT ?_ | refine rgL HT ?_ | refine rgG HT ?_)
        refine rgCall HT Tryd.func109 (eqTag_c l[k] m[k] _) ?_
        rintro e w2 ⟨rfl, hb2⟩
        refine ⟨_, rfl, bl, rgN ?_⟩
        repeat ((with_reducible refine rgGate ?_); first | refine rgP HT ?_ | refine rgL HT ?_ | refine rgG HT ?_)
        refine rgDone HT ?_
        clear HT HS
        cases hd : eqB l[k] m[k] with
        | true =>
          have Hd := Lib.hid (eqB_t.1 hd)
          go_wp2
          exact ⟨⟨k + 1, by omega, by go_num, ⟨by rw [List.take_succ_eq_append_getElem hlt, List.take_succ_eq_append_getElem hlt2, he.out, Hd.out]⟩, ⟨bl⟩⟩, by simp [intOf]; omega⟩
        | false =>
          have Hd := Lib.hid (eqB_f.1 hd)
          go_wp2
          go_ret
          exact ⟨ret_bool (by symm; rw [eqB_f]; rintro rfl; exact Hd.out rfl), bl⟩
      · go_wp2
        go_ret
        have := he.out
        have h2 := Hlen.out
        exact ⟨ret_bool (by symm; rw [eqB_t]; rwa [List.take_of_length_le (by omega), List.take_of_length_le (by omega)] at this), bl⟩
  · have hne : ((l.length : Int) != (m.length : Int)) = true := by simp; omega
    have Hlen := Lib.hid hlen
    clear hlen
    go_enter Tryd.func86, Tryd.ntmps86
    go_wp2
    go_ret
    exact ⟨ret_bool (by symm; rw [eqB_f]; rintro rfl; exact Hlen.out rfl), bl⟩
theorem szTag_c (x : Tag) (a : Int) (w : World) (h1 : x.1.size ≤ 140737488355328) (h2 : x.2.size ≤ 140737488355328) (h0 : 0 ≤ a) (ha : a ≤ 1048576) :
    Calls Tryd.prog 107 #[.agg #[.string x.1, .string x.2], .int .i64 a] w fun e w' => e = .returned (.int .i64 (lef (a - (tagSz x : Int)))) ∧ Below w.heap.size w w' := by
  obtain ⟨x1, x2⟩ := x
  simp only [] at h1 h2
  simp only [tagSz]
  by_cases h : a - x1.size < 0
  · go_enter Tryd.func107, Tryd.ntmps107
    go_wp2
    go_ret
    exact ⟨ret_int (by rw [lef, if_pos (by omega)]), bl⟩
  · by_cases h3 : a - x1.size - x2.size < 0
    · go_enter Tryd.func107, Tryd.ntmps107
      go_wp2
      go_ret
      exact ⟨ret_int (by rw [lef, if_pos (by omega)]), bl⟩
    · go_enter Tryd.func107, Tryd.ntmps107
      go_wp2
      go_ret
      exact ⟨ret_int (by rw [lef, if_neg (by omega)]; omega), bl⟩
/-- Texts are no longer than the reach. -/
def ShortT (l : List Tag) : Prop := ∀ t ∈ l, t.1.size ≤ 140737488355328 ∧ t.2.size ≤ 140737488355328
set_option maxHeartbeats 1000000 in
theorem szTagS_c (A : Option Addr) (l : List Tag) (c : Nat) (a : Int) (w : World) (hl : kTag.C w A l.length l) (hs : ShortT l) (hn : (l.length : Int) ≤ 140737488351232) (h0 : 0 ≤ a) (h1 : a ≤ 1048576) :
    Calls Tryd.prog 84 #[.slice A l.length c, .int .i64 a] w fun e w' => e = .returned (.int .i64 (lef (a - (l.length + tagsSz l : Nat)))) ∧ Below w.heap.size w w' := by
  by_cases h : a - l.length < 0
  · go_enter Tryd.func84, Tryd.ntmps84
    go_wp2
    go_ret
    exact ⟨ret_int (by rw [lef, if_pos (by omega)]), bl⟩
  · go_enter Tryd.func84, Tryd.ntmps84
    go_wp2
    go_loopw [1, 5] (fun q i wr => ∃ (k : Nat) (b : Int), k ≤ l.length ∧ i = .int .i64 k ∧ q = .int .i64 b ∧ 0 ≤ b ∧ b ≤ 1048576 ∧ Aside0 (b = a - l.length - tagsSz (l.take k)) ∧ Aside0 (Below w.heap.size w wr)) (fun _ i _ => l.length - (intOf i).toNat)
    case atStart => exact ⟨0, _, by omega, rfl, rfl, by omega, by omega, ⟨by simp [tagsSz]⟩, ⟨Below.refl _ _⟩⟩
    case round =>
      obtain ⟨k, b, hk, rfl, rfl, hb0, hb9, hbe, ⟨hb1⟩⟩ := hrel
      by_cases hlt : k < l.length
      · obtain ⟨ad, rfl, c0, c1⟩ := at_Tag hl k hlt
        replace c0 := pw_cell_below hb1 c0
        replace c1 := pw_cell_below hb1 c1
        have hk2 := hs _ (List.getElem_mem hlt)
        have hst := tagsSz_take l k hlt
        have hle := tagsSz_le l (k + 1)
        have d1 : decide ((k : Int) < (l.length : Int)) = true := decide_eq_true (by omega)
        have hl2 : lef (b - (tagSz l[k] : Int)) = -1 ∧ b - (tagSz l[k] : Int) < 0 ∨ lef (b - (tagSz l[k] : Int)) = b - (tagSz l[k] : Int) ∧ 0 ≤ b - (tagSz l[k] : Int) := by unfold lef; split <;> omega
        have hw : IntKind.i64.wrap ((k : Int) + 1) = (k : Int) + 1 := IntWalk.i64_in _ (by omega)
        rcases hl2 with hl2 | hl2
        · have hfin := Lib.hid (show a - (l.length + tagsSz l : Nat) < 0 by have := hbe.out; omega)
          have hl3 := Lib.hid hl2.1
          clear hl2 hst hle
          go_wp2_with fail
          refine (szTag_c l[k] b _ hk2.1 hk2.2 hb0 hb9).mono ?_
          rintro e w2 ⟨rfl, hb2⟩
          rw [hl3.out]
          go_wp2
          go_ret
          exact ⟨ret_int (by rw [lef, if_pos hfin.out]), bl⟩
        · have hnew := Lib.hid (show b - (tagSz l[k] : Int) = a - l.length - tagsSz (l.take (k + 1)) by have := hbe.out; omega)
          have hl3 := Lib.hid hl2.1
          have hl4 := hl2.2
          clear hl2 hst hle
          go_wp2_with fail
          refine (szTag_c l[k] b _ hk2.1 hk2.2 hb0 hb9).mono ?_
          rintro e w2 ⟨rfl, hb2⟩
          rw [hl3.out]
          have hl5 : b - (tagSz l[k] : Int) ≤ 1048576 := by omega
          generalize b - (tagSz l[k] : Int) = z at *
          go_wp2
          exact ⟨⟨k + 1, z, by omega, by go_num, rfl, hl4, hl5, ⟨hnew.out⟩, ⟨bl⟩⟩, by simp [intOf]; omega⟩
      · have he : k = l.length := by omega
        have hfin := Lib.hid (show b = lef (a - (l.length + tagsSz l : Nat)) by
          have := hbe.out
          rw [he, List.take_of_length_le (Nat.le_refl _)] at this
          rw [lef, if_neg (by omega)]; omega)
        have d1 : decide ((k : Int) < (l.length : Int)) = false := decide_eq_false (by omega)
        clear he
        go_wp2
        go_ret
        exact ⟨ret_int hfin.out, bl⟩
end
section
open Go.RowKit Go.Proofs.YtenpaemaiapapaaDoorW.PrintWords Go.Proofs.YtenpaemaiapapaaDoorW.PrintLast
set_option linter.unusedVariables false
set_option linter.unusedSimpArgs false
theorem Cells.box4 {w W : World} {p q r s : Value} {t : TypeId} {L : List (Addr × Value)} (h : Cells w L) (hb : Below (w.alloc (.cells #[p, q, r, s] t)).heap.size (w.alloc (.cells #[p, q, r, s] t)) W) : Cells W ((⟨w.heap.size, 0, none⟩, p) :: (⟨w.heap.size, 1, none⟩, q) :: (⟨w.heap.size, 2, none⟩, r) :: (⟨w.heap.size, 3, none⟩, s) :: L) :=
  ⟨cbn 0 hb rfl, cbn 1 hb rfl, cbn 2 hb rfl, cbn 3 hb rfl, h.to (below_then (below_alloc (Below.refl _ _) _) (by simp) hb)⟩
/-- A value that is a thing. -/
abbrev featV (f : FeatD) (A : Option Addr) (c : Nat) (B : Option Addr) (d : Nat) : Value := .agg #[.string f.1, .int .i64 f.2.1.1, .slice A f.2.1.2.length c, .slice B f.2.2.length d]
set_option maxHeartbeats 1000000 in
theorem toFeat_c (f : FeatD) (A : Option Addr) (c : Nat) (B : Option Addr) (d : Nat) (w : World) (hl : kPt.C w A f.2.1.2.length f.2.1.2) (hm : kTag.C w B f.2.2.length f.2.2) (hn : f.2.1.2.length ≤ 1048576) (hn2 : f.2.2.length ≤ 1048576) :
    Calls Tryd.prog 37 #[featV f A c B d] w fun e w' => ∃ A' c' B' d', e = .returned (featV f A' c' B' d') ∧ RI kPt 45 w' w.heap.size w'.heap.size (.slice A' f.2.1.2.length c') f.2.1.2 ∧ RI kTag 55 w' w.heap.size w'.heap.size (.slice B' f.2.2.length d') f.2.2 ∧ Below w.heap.size w w' := by
  obtain ⟨id, ⟨K, l⟩, m⟩ := f
  simp only [featV] at hl hm hn hn2 ⊢
  go_enter Tryd.func37, Tryd.ntmps37
  go_wp2_with (first | (go_at_call 21; refine (toShape_c _ _ _ _ _ (Kd.C_below hl bl) hn).mono ?_; rintro e w1 ⟨A1, c1, rfl, hr1, hb1⟩; obtain ⟨h1, h2, z1⟩ := bcn (w := w) 3 hb1) | (go_at_call 85; refine (toTagS_c _ _ _ _ (Kd.C_below hm bl) hn2).mono ?_; rintro e w2 ⟨B1, d1, rfl, hr2, hb2⟩; obtain ⟨h3, h4, z2⟩ := bcn (w := w) 3 hb2))
  have s1 := hb1.size
  have s2 := hb2.size
  simp only [World.size_alloc, World.size_setCell] at s1 s2
  refine bodyPost_ret (v := .agg #[.string id, .int .i64 K, .slice A1 l.length c1, .slice B1 m.length d1]) (by simp [results, Tryd.results37, go_sem, *]) rfl ⟨A1, c1, B1, d1, rfl, rk hr1, rk hr2, bl⟩
set_option maxHeartbeats 1000000 in
theorem eqFeat_c (f g : FeatD) (A : Option Addr) (c : Nat) (B : Option Addr) (d : Nat) (A2 : Option Addr) (c2 : Nat) (B2 : Option Addr) (d2 : Nat) (w : World) (hl : kPt.C w A f.2.1.2.length f.2.1.2) (hm : kTag.C w B f.2.2.length f.2.2) (hl2 : kPt.C w A2 g.2.1.2.length g.2.1.2) (hm2 : kTag.C w B2 g.2.2.length g.2.2)
    (n1 : f.2.1.2.length ≤ 1048576) (n2 : f.2.2.length ≤ 1048576) (n3 : g.2.1.2.length ≤ 1048576) (n4 : g.2.2.length ≤ 1048576) :
    Calls Tryd.prog 38 #[featV f A c B d, featV g A2 c2 B2 d2] w fun e w' => e = .returned (.bool (eqB f g)) ∧ Below w.heap.size w w' := by
  obtain ⟨id, ⟨K, l⟩, m⟩ := f
  obtain ⟨id', ⟨K', l'⟩, m'⟩ := g
  simp only [featV] at hl hm hl2 hm2 n1 n2 n3 n4 ⊢
  by_cases h : id = id'
  · have t := strB_t h
    have H := Lib.hid h
    clear h
    cases h1 : eqB (K, l) (K', l') with
    | false =>
      have H1 := Lib.hid (eqB_f.1 h1)
      go_enter Tryd.func38, Tryd.ntmps38
      go_wp2_with fail
      refine (eqShape_c _ _ _ _ _ _ _ _ _ (Kd.C_below hl bl) (Kd.C_below hl2 bl) n1 n3).mono ?_
      rintro e w1 ⟨rfl, hb1⟩
      rw [h1]
      go_wp2
      go_ret
      exact ⟨ret_bool (by symm; rw [eqB_f]; intro e; injection e with _ e; injection e with e; exact H1.out e), bl⟩
    | true =>
      have H1 := Lib.hid (eqB_t.1 h1)
      cases h2 : eqB m m' with
      | false =>
        have H2 := Lib.hid (eqB_f.1 h2)
        go_enter Tryd.func38, Tryd.ntmps38
        go_wp2_with fail
        refine (eqShape_c _ _ _ _ _ _ _ _ _ (Kd.C_below hl bl) (Kd.C_below hl2 bl) n1 n3).mono ?_
        rintro e w1 ⟨rfl, hb1⟩
        rw [h1]
        obtain ⟨q1, q2, z1⟩ := bcn (w := w) 2 hb1
        go_wp2_with fail
        refine (eqTagS_c _ _ _ _ _ _ _ (Kd.C_below hm bl) (Kd.C_below hm2 bl) n2 n4).mono ?_
        rintro e w2 ⟨rfl, hb2⟩
        rw [h2]
        go_wp2
        go_ret
        exact ⟨ret_bool (by symm; rw [eqB_f]; intro e; injection e with _ e; injection e with _ e; exact H2.out e), bl⟩
      | true =>
        have H2 := Lib.hid (eqB_t.1 h2)
        go_enter Tryd.func38, Tryd.ntmps38
        go_wp2_with fail
        refine (eqShape_c _ _ _ _ _ _ _ _ _ (Kd.C_below hl bl) (Kd.C_below hl2 bl) n1 n3).mono ?_
        rintro e w1 ⟨rfl, hb1⟩
        rw [h1]
        obtain ⟨q1, q2, z1⟩ := bcn (w := w) 2 hb1
        go_wp2_with fail
        refine (eqTagS_c _ _ _ _ _ _ _ (Kd.C_below hm bl) (Kd.C_below hm2 bl) n2 n4).mono ?_
        rintro e w2 ⟨rfl, hb2⟩
        rw [h2]
        go_wp2
        go_ret
        exact ⟨ret_bool (by symm; rw [eqB_t, H.out, H1.out, H2.out]), bl⟩
  · have t := strB_f h
    have H := Lib.hid h
    clear h
    go_enter Tryd.func38, Tryd.ntmps38
    go_wp2
    go_ret
    exact ⟨ret_bool (by symm; rw [eqB_f]; intro e; injection e with e; exact H.out e), bl⟩
/-- What is known of a thing that came in. -/
structure FIn (f : FeatD) : Prop where
  id : f.1.size ≤ 140737488355328
  pts : (f.2.1.2.length : Int) ≤ 140737488351232
  tags : (f.2.2.length : Int) ≤ 140737488351232
  txt : ShortT f.2.2
set_option maxHeartbeats 1000000 in
theorem szFeat_c (f : FeatD) (A : Option Addr) (c : Nat) (B : Option Addr) (d : Nat) (a : Int) (w : World) (hm : kTag.C w B f.2.2.length f.2.2) (hF : FIn f) (h0 : 0 ≤ a) (ha : a ≤ 1048576) :
    Calls Tryd.prog 35 #[featV f A c B d, .int .i64 a] w fun e w' => e = .returned (.int .i64 (lef (a - (featSz f : Int)))) ∧ Below w.heap.size w w' := by
  obtain ⟨g1, g2, g3, g4⟩ := hF
  obtain ⟨id, ⟨K, l⟩, m⟩ := f
  simp only [featV, featSz] at hm g1 g2 g3 g4 ⊢
  by_cases h1 : a - id.size < 0
  · go_enter Tryd.func35, Tryd.ntmps35
    go_wp2
    go_ret
    exact ⟨ret_int (by rw [lef, if_pos (by omega)]), bl⟩
  · have e1 : a - id.size ≤ 1048576 := by omega
    have hw : IntKind.i64.wrap (a - id.size) = a - id.size := IntWalk.i64_in _ (by omega)
    by_cases h2 : a - id.size - l.length < 0
    · have L2 := Lib.hid (lef_neg h2)
      have H2 := Lib.hid (show a - ((id.size + l.length + (m.length + tagsSz m) : Nat) : Int) < 0 by omega)
      go_enter Tryd.func35, Tryd.ntmps35
      go_wp2_with fail
      refine (szShape_c K A l.length c (a - id.size) _ g2 (by omega) e1).mono ?_
      rintro e w1 ⟨rfl, hb1⟩
      rw [L2.out]
      go_wp2
      go_ret
      exact ⟨ret_int (by rw [lef, if_pos H2.out]), bl⟩
    · have L2 := Lib.hid (lef_pos (show 0 ≤ a - id.size - l.length by omega))
      have e2 : a - id.size - l.length ≤ 1048576 := by omega
      have e3 : 0 ≤ a - id.size - l.length := by omega
      by_cases h3 : a - id.size - l.length - ((m.length + tagsSz m : Nat) : Int) < 0
      · have L3 := Lib.hid (lef_neg h3)
        have H3 := Lib.hid (show a - ((id.size + l.length + (m.length + tagsSz m) : Nat) : Int) < 0 by omega)
        go_enter Tryd.func35, Tryd.ntmps35
        go_wp2_with fail
        refine (szShape_c K A l.length c (a - id.size) _ g2 (by omega) e1).mono ?_
        rintro e w1 ⟨rfl, hb1⟩
        rw [L2.out]
        obtain ⟨q1, q2, z1⟩ := bcn (w := w) 1 hb1
        clear h3 h2
        generalize a - id.size - l.length = z at *
        go_wp2_with fail
        refine (szTagS_c _ _ _ z _ (Kd.C_below hm bl) g4 g3 e3 e2).mono ?_
        rintro e w2 ⟨rfl, hb2⟩
        rw [L3.out]
        go_wp2
        go_ret
        exact ⟨ret_int (by rw [lef, if_pos H3.out]), bl⟩
      · have L3 := Lib.hid (lef_pos (show 0 ≤ a - id.size - l.length - ((m.length + tagsSz m : Nat) : Int) by omega))
        have H3 := Lib.hid (show a - id.size - l.length - ((m.length + tagsSz m : Nat) : Int) = lef (a - ((id.size + l.length + (m.length + tagsSz m) : Nat) : Int)) by rw [lef, if_neg (by omega)]; omega)
        have e4 : 0 ≤ a - id.size - l.length - ((m.length + tagsSz m : Nat) : Int) := by omega
        go_enter Tryd.func35, Tryd.ntmps35
        go_wp2_with fail
        refine (szShape_c K A l.length c (a - id.size) _ g2 (by omega) e1).mono ?_
        rintro e w1 ⟨rfl, hb1⟩
        rw [L2.out]
        obtain ⟨q1, q2, z1⟩ := bcn (w := w) 1 hb1
        clear h3 h2
        generalize a - id.size - l.length = z at *
        go_wp2_with fail
        refine (szTagS_c _ _ _ z _ (Kd.C_below hm bl) g4 g3 e3 e2).mono ?_
        rintro e w2 ⟨rfl, hb2⟩
        rw [L3.out]
        generalize z - ((m.length + tagsSz m : Nat) : Int) = y at *
        go_wp2
        go_ret
        exact ⟨ret_int H3.out, bl⟩
end
end Go.Proofs.YtenpaemaiapapaaDoor
