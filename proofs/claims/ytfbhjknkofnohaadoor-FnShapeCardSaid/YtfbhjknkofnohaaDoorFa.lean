/- Vocabulary of things; the laws' own helpers over things. -/
import Derived.Test.YtfbhjknkofnohaaDoorA
namespace Go.Proofs.YtfbhjknkofnohaaDoor
section
open Go.RowKit Go.Proofs.YtfbhjknkofnohaaDoorW.PrintWords Go.Proofs.YtfbhjknkofnohaaDoorW.PrintLast
set_option linter.unusedVariables false
set_option linter.unusedSimpArgs false
abbrev Tag := ByteArray × ByteArray
abbrev FeatD := ByteArray × (Int × List Pt) × List Tag
abbrev kTag : Kd Tag := Kd.pair Kd.string Kd.string
abbrev kShape : Kd (Int × List Pt) := Kd.pair (Kd.int .i64) (Kd.slice 58 kPt)
abbrev kFeat : Kd FeatD := Kd.pair Kd.string (Kd.pair kShape (Kd.slice 75 kTag))
theorem bytes_eq {s t : ByteArray} (h : s.toList = t.toList) : s = t := by
  rw [ByteArray.toList_eq, ByteArray.toList_eq] at h
  cases s; cases t; simp at h; rw [h]
theorem strB_t {s t : ByteArray} (h : s = t) : (s.toList == t.toList) = true := by rw [h]; simp
theorem strB_f {s t : ByteArray} (h : s ≠ t) : (s.toList == t.toList) = false := by
  rw [beq_eq_false_iff_ne]; exact fun e => h (bytes_eq e)
theorem kTag_open {w : World} {x : Tag} {cs : List Value} (h : kTag.K w x cs) : cs = [.string x.1, .string x.2] := by
  obtain ⟨_, _, rfl, rfl, rfl⟩ := h
  exact rfl
theorem kTag_openM {w : World} {base : Nat} {ok : Nat → Prop} {x : Tag} {cs : List Value} (h : kTag.M w base ok x cs) : cs = [.string x.1, .string x.2] := by
  obtain ⟨_, _, rfl, rfl, rfl⟩ := h
  exact rfl
theorem kTag_mkM (w : World) (base : Nat) (ok : Nat → Prop) (x : Tag) : kTag.M w base ok x [.string x.1, .string x.2] := ⟨[.string x.1], [.string x.2], rfl, rfl, rfl⟩
theorem kTag_mk (w : World) (x : Tag) : kTag.K w x [.string x.1, .string x.2] := ⟨[.string x.1], [.string x.2], rfl, rfl, rfl⟩
abbrev tag0 : Tag := (ByteArray.empty, ByteArray.empty)
/-- An element of a row of tags that is read. -/
theorem at_Tag {w : World} {A : Option Addr} {n : Nat} {xs : List Tag} (h : kTag.C w A n xs) (i : Nat) (h1 : i < xs.length) : ∃ ad, A = some ad ∧ w.cell? (ad.add (i * 2)) = some (.string xs[i].1) ∧ w.cell? ⟨(ad.add (i * 2)).block, (ad.add (i * 2)).off + 1, none⟩ = some (.string xs[i].2) := by
  obtain ⟨ad, c, e, hl, hK, hc⟩ := Kd.C_get h tag0 (i : Int) (by omega) (by have := h.1; omega)
  have hg : xs.getD i tag0 = xs[i] := by rw [List.getD_eq_getElem?_getD, List.getElem?_eq_getElem h1]; rfl
  simp only [Int.toNat_natCast] at hK hc
  rw [hg] at hK
  obtain rfl := kTag_open hK
  exact ⟨ad, e, hc 0 _ rfl, by rw [← add_field _ _ 1 (by omega)]; exact hc 1 _ rfl⟩
theorem own_Tag {e base g n cap : Nat} {ok : Nat → Prop} {W : World} {xs : List Tag} (h : kTag.R e W base ok (.slice (some ⟨g, 0, none⟩) n cap) xs) (i : Nat) (hi : i < xs.length) :
    W.cell? ⟨g, i * 2, none⟩ = some (.string xs[i].1) ∧ W.cell? ⟨g, i * 2 + 1, none⟩ = some (.string xs[i].2) ∧ W.frozen? ⟨g, i * 2, none⟩ = false ∧ W.frozen? ⟨g, i * 2 + 1, none⟩ = false := by
  have hn := (Kd.R_reads' h).1
  obtain ⟨c, hl, hM, hc, hf⟩ := Kd.R_elem h tag0 (i : Int) (by omega) (by omega)
  have hg : xs.getD i tag0 = xs[i] := by rw [List.getD_eq_getElem?_getD, List.getElem?_eq_getElem hi]; rfl
  simp only [Int.toNat_natCast] at hM hc hf
  rw [hg] at hM
  obtain rfl := kTag_openM hM
  exact ⟨hc 0 _ rfl, hc 1 _ rfl, hf 0, hf 1⟩
theorem own_Tag' {e base g n cap : Nat} {ok : Nat → Prop} {W : World} {xs : List Tag} (h : kTag.R e W base ok (.slice (some ⟨g, 0, none⟩) n cap) xs) (i : Nat) (hi : i < n) :
    ∃ u v, W.cell? ⟨g, i * 2, none⟩ = some u ∧ W.cell? ⟨g, i * 2 + 1, none⟩ = some v ∧ W.frozen? ⟨g, i * 2, none⟩ = false ∧ W.frozen? ⟨g, i * 2 + 1, none⟩ = false := by
  have hn := (Kd.R_reads' h).1
  exact ⟨_, _, own_Tag h i (by omega)⟩
theorem set_Tag {e base g n cap : Nat} {ok : Nat → Prop} {W : World} {xs : List Tag} (h : kTag.R e W base ok (.slice (some ⟨g, 0, none⟩) n cap) xs) (i : Nat) (hi : i < n) (x y : ByteArray) :
    kTag.R e ((W.setCell ⟨g, i * 2, none⟩ (.string x)).setCell ⟨g, i * 2 + 1, none⟩ (.string y)) base ok (.slice (some ⟨g, 0, none⟩) n cap) (xs.set i (x, y)) ∧
      W.grownBy ((W.setCell ⟨g, i * 2, none⟩ (.string x)).setCell ⟨g, i * 2 + 1, none⟩ (.string y)) (some g) := by
  obtain ⟨c, hl, hM, hc, hf⟩ := Kd.R_elem h tag0 (i : Int) (by omega) (by omega)
  have hl2 : c.length = 2 := hl
  have he : c.take 0 ++ [Value.string x, .string y] ++ c.drop (0 + 2) = [.string x, .string y] := by rw [List.drop_of_length_le (by omega)]; rfl
  exact Kd.R_seg h (i : Int) (by omega) (by omega) (seg := [.string x, .string y]) (j := 0) hl hc (show 2 ≤ 2 by decide) (x' := (x, y)) (okp := fun k => ok k ∧ k ≠ g) (by
    show kTag.M W base _ (x, y) (c.take 0 ++ [Value.string x, .string y] ++ c.drop (0 + 2))
    rw [he]; exact kTag_mkM _ _ _ (x, y)) (fun _ hk => hk)
theorem kFeat_open {w : World} {x : FeatD} {cs : List Value} (h : kFeat.K w x cs) : ∃ A c B d, cs = [.string x.1, .int .i64 x.2.1.1, .slice A x.2.1.2.length c, .slice B x.2.2.length d] ∧ x.2.1.2.length ≤ c ∧ x.2.2.length ≤ d ∧ kPt.C w A x.2.1.2.length x.2.1.2 ∧ kTag.C w B x.2.2.length x.2.2 := by
  obtain ⟨_, _, rfl, rfl, _, _, rfl, ⟨_, _, rfl, rfl, A, c, rfl, h1, h2⟩, B, d, rfl, h3, h4⟩ := h
  exact ⟨A, c, B, d, rfl, h1, h3, h2, h4⟩
theorem kFeat_mk (w : World) (x : FeatD) (A B : Option Addr) (c d : Nat) (h1 : x.2.1.2.length ≤ c) (h3 : x.2.2.length ≤ d) (h2 : kPt.C w A x.2.1.2.length x.2.1.2) (h4 : kTag.C w B x.2.2.length x.2.2) : kFeat.K w x [.string x.1, .int .i64 x.2.1.1, .slice A x.2.1.2.length c, .slice B x.2.2.length d] :=
  ⟨[.string x.1], _, rfl, rfl, [.int .i64 x.2.1.1, .slice A x.2.1.2.length c], _, rfl, ⟨[.int .i64 x.2.1.1], _, rfl, rfl, A, c, rfl, h1, h2⟩, B, d, rfl, h3, h4⟩
theorem kFeat_mkM {w : World} {base : Nat} {ok : Nat → Prop} (x : FeatD) {u v : Value} (h1 : kPt.R 58 w base ok u x.2.1.2) (h2 : kTag.R 75 w base ok v x.2.2) : kFeat.M w base ok x [.string x.1, .int .i64 x.2.1.1, u, v] :=
  ⟨[.string x.1], _, rfl, rfl, [.int .i64 x.2.1.1, u], _, rfl, ⟨[.int .i64 x.2.1.1], _, rfl, rfl, u, rfl, h1⟩, v, rfl, h2⟩
theorem kFeat_openM {w : World} {base : Nat} {ok : Nat → Prop} {x : FeatD} {cs : List Value} (h : kFeat.M w base ok x cs) : ∃ u v, cs = [.string x.1, .int .i64 x.2.1.1, u, v] ∧ kPt.R 58 w base ok u x.2.1.2 ∧ kTag.R 75 w base ok v x.2.2 := by
  obtain ⟨_, _, rfl, rfl, _, _, rfl, ⟨_, _, rfl, rfl, u, rfl, h1⟩, v, rfl, h2⟩ := h
  exact ⟨u, v, rfl, h1, h2⟩
abbrev feat0 : FeatD := (ByteArray.empty, (0, []), [])
/-- An element of a row of things that is read. -/
theorem at_Feat {w : World} {A0 : Option Addr} {n : Nat} {xs : List FeatD} (h : kFeat.C w A0 n xs) (i : Nat) (h1 : i < xs.length) : ∃ ad A c B d, A0 = some ad ∧ w.cell? (ad.add (i * 4)) = some (.string xs[i].1) ∧ w.cell? ⟨(ad.add (i * 4)).block, (ad.add (i * 4)).off + 1, none⟩ = some (.int .i64 xs[i].2.1.1) ∧
    w.cell? ⟨(ad.add (i * 4)).block, (ad.add (i * 4)).off + 2, none⟩ = some (.slice A xs[i].2.1.2.length c) ∧ w.cell? ⟨(ad.add (i * 4)).block, (ad.add (i * 4)).off + 3, none⟩ = some (.slice B xs[i].2.2.length d) ∧
    kPt.C w A xs[i].2.1.2.length xs[i].2.1.2 ∧ kTag.C w B xs[i].2.2.length xs[i].2.2 ∧ xs[i].2.1.2.length ≤ c ∧ xs[i].2.2.length ≤ d := by
  obtain ⟨ad, cs, e, hl, hK, hc⟩ := Kd.C_get h feat0 (i : Int) (by omega) (by have := h.1; omega)
  have hg : xs.getD i feat0 = xs[i] := by rw [List.getD_eq_getElem?_getD, List.getElem?_eq_getElem h1]; rfl
  simp only [Int.toNat_natCast] at hK hc
  rw [hg] at hK
  obtain ⟨A, c, B, d, rfl, g1, g2, g3, g4⟩ := kFeat_open hK
  exact ⟨ad, A, c, B, d, e, hc 0 _ rfl, by rw [← add_field _ _ 1 (by omega)]; exact hc 1 _ rfl, by rw [← add_field _ _ 2 (by omega)]; exact hc 2 _ rfl, by rw [← add_field _ _ 3 (by omega)]; exact hc 3 _ rfl, g3, g4, g1, g2⟩
/-! Sizes. -/
def tagSz (t : Tag) : Nat := t.1.size + t.2.size
def tagsSz : List Tag → Nat
  | [] => 0
  | t :: l => tagSz t + tagsSz l
def featSz (f : FeatD) : Nat := f.1.size + f.2.1.2.length + (f.2.2.length + tagsSz f.2.2)
def featsSz : List FeatD → Nat
  | [] => 0
  | t :: l => featSz t + featsSz l
theorem tagsSz_append (l m : List Tag) : tagsSz (l ++ m) = tagsSz l + tagsSz m := by
  induction l with
  | nil => simp [tagsSz]
  | cons t l ih => simp only [List.cons_append, tagsSz, ih]; omega
theorem featsSz_append (l m : List FeatD) : featsSz (l ++ m) = featsSz l + featsSz m := by
  induction l with
  | nil => simp [featsSz]
  | cons t l ih => simp only [List.cons_append, featsSz, ih]; omega
theorem tagsSz_take (l : List Tag) (k : Nat) (h : k < l.length) : tagsSz (l.take (k + 1)) = tagsSz (l.take k) + tagSz l[k] := by
  rw [List.take_succ_eq_append_getElem h, tagsSz_append]; rfl
theorem featsSz_take (l : List FeatD) (k : Nat) (h : k < l.length) : featsSz (l.take (k + 1)) = featsSz (l.take k) + featSz l[k] := by
  rw [List.take_succ_eq_append_getElem h, featsSz_append]; rfl
theorem tagsSz_le (l : List Tag) (k : Nat) : tagsSz (l.take k) ≤ tagsSz l := by
  have := tagsSz_append (l.take k) (l.drop k)
  rw [List.take_append_drop] at this
  omega
theorem featsSz_le (l : List FeatD) (k : Nat) : featsSz (l.take k) ≤ featsSz l := by
  have := featsSz_append (l.take k) (l.drop k)
  rw [List.take_append_drop] at this
  omega
theorem tagSz_mem {l : List Tag} {t : Tag} (h : t ∈ l) : tagSz t ≤ tagsSz l := by
  induction l with
  | nil => cases h
  | cons u l ih =>
    rcases List.mem_cons.1 h with rfl | h
    · simp only [tagsSz]; omega
    · have := ih h; simp only [tagsSz]; omega
theorem featSz_mem {l : List FeatD} {t : FeatD} (h : t ∈ l) : featSz t ≤ featsSz l := by
  induction l with
  | nil => cases h
  | cons u l ih =>
    rcases List.mem_cons.1 h with rfl | h
    · simp only [featsSz]; omega
    · have := ih h; simp only [featsSz]; omega
end
section
open Go.RowKit Go.Proofs.YtfbhjknkofnohaaDoorW.PrintWords Go.Proofs.YtfbhjknkofnohaaDoorW.PrintLast
set_option linter.unusedVariables false
set_option linter.unusedSimpArgs false

theorem info_Tag : (Tryd.prog.info? 75).map (fun i => (i.zero, i.size, i.bytes)) = some (some (.agg #[(.string ByteArray.empty), (.string ByteArray.empty)]), 2, 32) := by kernel_rfl
theorem eqTag_c (x y : Tag) (w : World) :
    Calls Tryd.prog 78 #[.agg #[.string x.1, .string x.2], .agg #[.string y.1, .string y.2]] w fun e w' => e = .returned (.bool (eqB x y)) ∧ Below w.heap.size w w' := by
  obtain ⟨x1, x2⟩ := x
  obtain ⟨y1, y2⟩ := y
  by_cases h : x1 = y1
  · have t := strB_t h
    have H := Lib.hid h
    clear h
    by_cases h2 : x2 = y2
    · have t2 := strB_t h2
      have H2 := Lib.hid h2
      clear h2
      go_enter Tryd.func78, Tryd.ntmps78
      go_wp2
      go_ret
      exact ⟨ret_bool (by symm; rw [eqB_t, H.out, H2.out]), bl⟩
    · have t2 := strB_f h2
      have H2 := Lib.hid h2
      clear h2
      go_enter Tryd.func78, Tryd.ntmps78
      go_wp2
      go_ret
      exact ⟨ret_bool (by symm; rw [eqB_f]; intro e; injection e with _ e; exact H2.out e), bl⟩
  · have t := strB_f h
    have H := Lib.hid h
    clear h
    go_enter Tryd.func78, Tryd.ntmps78
    go_wp2
    go_ret
    exact ⟨ret_bool (by symm; rw [eqB_f]; intro e; injection e with e; exact H.out e), bl⟩
def l_eqTagS_T6 : Bool × List (List Nat × List Nat) := (true, [([], []), ([], []), ([0, 1], [0, 1]), ([2], [2]), ([], []), ([], []), ([4, 5], [4, 5]), ([6], [6]), ([3, 7], [3, 7]), ([8], [8])])
theorem l_eqTagS_t6 : rtab .any (opsOf Tryd.f62 6) = l_eqTagS_T6 := by kernel_rfl
set_option maxHeartbeats 4000000 in
theorem eqTagS_c (A B : Option Addr) (c d : Nat) (l m : List Tag) (w : World) (hl : kTag.C w A l.length l) (hm : kTag.C w B m.length m) (hn : l.length ≤ 1048576) (hn2 : m.length ≤ 1048576) :
    Calls Tryd.prog 62 #[.slice A l.length c, .slice B m.length d] w fun e w' => e = .returned (.bool (eqB l m)) ∧ Below w.heap.size w w' := by
  by_cases hlen : l.length = m.length
  · have hne : ((l.length : Int) != (m.length : Int)) = false := by simp [hlen]
    have Hlen := Lib.hid hlen
    clear hlen
    go_enter Tryd.func62, Tryd.ntmps62
    go_wp2
    go_loopw [5] (fun i wr => ∃ k : Nat, k ≤ l.length ∧ i = .int .i64 k ∧ Aside0 (l.take k = m.take k) ∧ Aside0 (Below w.heap.size w wr)) (fun i _ => l.length - (intOf i).toNat)
    case atStart => exact ⟨0, by omega, rfl, ⟨by simp⟩, ⟨Below.refl _ _⟩⟩
    case round =>
      obtain ⟨k, hk, rfl, he, ⟨hb1⟩⟩ := hrel
      by_cases hlt : k < l.length
      · have hlt2 : k < m.length := by have := Hlen.out; omega
        obtain ⟨ad, rfl, c0, c1⟩ := at_Tag hl k hlt
        obtain ⟨bd, rfl, d0, d1⟩ := at_Tag hm k hlt2
        replace c0 := pw_cell_below hb1 c0
        replace c1 := pw_cell_below hb1 c1
        replace d0 := pw_cell_below hb1 d0
        replace d1 := pw_cell_below hb1 d1
        go_wp2
        refine rgStart 10 [0, 1, 2, 3, 4, 5, 6, 7, 8, 9] l_eqTagS_t6 (fun HT HS => ?_)
        repeat ((with_reducible refine rgGate ?_); first | refine rgP HT ?_ | refine rgL HT ?_ | refine rgG HT ?_)
        refine rgCall HT Tryd.func78 (eqTag_c l[k] m[k] _) ?_
        rintro e w2 ⟨rfl, hb2⟩
        refine ⟨_, rfl, bl, rgN ?_⟩
        repeat ((with_reducible refine rgGate ?_); first | refine rgP HT ?_ | refine rgL HT ?_ | refine rgG HT ?_)
        refine rgDone HT ?_
        clear HT HS
        cases hd : eqB l[k] m[k] with
        | true =>
          have Hd := Lib.hid (eqB_t.1 hd)
          go_wp2
          exact ⟨⟨k + 1, by omega, by go_num, ⟨by rw [List.take_succ_eq_append_getElem hlt, List.take_succ_eq_append_getElem hlt2, he.out, Hd.out]⟩, ⟨bl⟩⟩, by simp [intOf]; omega⟩
        | false =>
          have Hd := Lib.hid (eqB_f.1 hd)
          go_wp2
          go_ret
          exact ⟨ret_bool (by symm; rw [eqB_f]; rintro rfl; exact Hd.out rfl), bl⟩
      · go_wp2
        go_ret
        have := he.out
        have h2 := Hlen.out
        exact ⟨ret_bool (by symm; rw [eqB_t]; rwa [List.take_of_length_le (by omega), List.take_of_length_le (by omega)] at this), bl⟩
  · have hne : ((l.length : Int) != (m.length : Int)) = true := by simp; omega
    have Hlen := Lib.hid hlen
    clear hlen
    go_enter Tryd.func62, Tryd.ntmps62
    go_wp2
    go_ret
    exact ⟨ret_bool (by symm; rw [eqB_f]; rintro rfl; exact Hlen.out rfl), bl⟩
/-- Texts are no longer than the reach. -/
def ShortT (l : List Tag) : Prop := ∀ t ∈ l, t.1.size ≤ 140737488355328 ∧ t.2.size ≤ 140737488355328
end
section
open Go.RowKit Go.Proofs.YtfbhjknkofnohaaDoorW.PrintWords Go.Proofs.YtfbhjknkofnohaaDoorW.PrintLast
set_option linter.unusedVariables false
set_option linter.unusedSimpArgs false
theorem Cells.box4 {w W : World} {p q r s : Value} {t : TypeId} {L : List (Addr × Value)} (h : Cells w L) (hb : Below (w.alloc (.cells #[p, q, r, s] t)).heap.size (w.alloc (.cells #[p, q, r, s] t)) W) : Cells W ((⟨w.heap.size, 0, none⟩, p) :: (⟨w.heap.size, 1, none⟩, q) :: (⟨w.heap.size, 2, none⟩, r) :: (⟨w.heap.size, 3, none⟩, s) :: L) :=
  ⟨cbn 0 hb rfl, cbn 1 hb rfl, cbn 2 hb rfl, cbn 3 hb rfl, h.to (below_then (below_alloc (Below.refl _ _) _) (by simp) hb)⟩
/-- A value that is a thing. -/
abbrev featV (f : FeatD) (A : Option Addr) (c : Nat) (B : Option Addr) (d : Nat) : Value := .agg #[.string f.1, .int .i64 f.2.1.1, .slice A f.2.1.2.length c, .slice B f.2.2.length d]
set_option maxHeartbeats 1000000 in
theorem eqFeat_c (f g : FeatD) (A : Option Addr) (c : Nat) (B : Option Addr) (d : Nat) (A2 : Option Addr) (c2 : Nat) (B2 : Option Addr) (d2 : Nat) (w : World) (hl : kPt.C w A f.2.1.2.length f.2.1.2) (hm : kTag.C w B f.2.2.length f.2.2) (hl2 : kPt.C w A2 g.2.1.2.length g.2.1.2) (hm2 : kTag.C w B2 g.2.2.length g.2.2)
    (n1 : f.2.1.2.length ≤ 1048576) (n2 : f.2.2.length ≤ 1048576) (n3 : g.2.1.2.length ≤ 1048576) (n4 : g.2.2.length ≤ 1048576) :
    Calls Tryd.prog 32 #[featV f A c B d, featV g A2 c2 B2 d2] w fun e w' => e = .returned (.bool (eqB f g)) ∧ Below w.heap.size w w' := by
  obtain ⟨id, ⟨K, l⟩, m⟩ := f
  obtain ⟨id', ⟨K', l'⟩, m'⟩ := g
  simp only [featV] at hl hm hl2 hm2 n1 n2 n3 n4 ⊢
  by_cases h : id = id'
  · have t := strB_t h
    have H := Lib.hid h
    clear h
    cases h1 : eqB (K, l) (K', l') with
    | false =>
      have H1 := Lib.hid (eqB_f.1 h1)
      go_enter Tryd.func32, Tryd.ntmps32
      go_wp2_with fail
      refine (eqShape_c _ _ _ _ _ _ _ _ _ (Kd.C_below hl bl) (Kd.C_below hl2 bl) n1 n3).mono ?_
      rintro e w1 ⟨rfl, hb1⟩
      rw [h1]
      go_wp2
      go_ret
      exact ⟨ret_bool (by symm; rw [eqB_f]; intro e; injection e with _ e; injection e with e; exact H1.out e), bl⟩
    | true =>
      have H1 := Lib.hid (eqB_t.1 h1)
      cases h2 : eqB m m' with
      | false =>
        have H2 := Lib.hid (eqB_f.1 h2)
        go_enter Tryd.func32, Tryd.ntmps32
        go_wp2_with fail
        refine (eqShape_c _ _ _ _ _ _ _ _ _ (Kd.C_below hl bl) (Kd.C_below hl2 bl) n1 n3).mono ?_
        rintro e w1 ⟨rfl, hb1⟩
        rw [h1]
        obtain ⟨q1, q2, z1⟩ := bcn (w := w) 2 hb1
        go_wp2_with fail
        refine (eqTagS_c _ _ _ _ _ _ _ (Kd.C_below hm bl) (Kd.C_below hm2 bl) n2 n4).mono ?_
        rintro e w2 ⟨rfl, hb2⟩
        rw [h2]
        go_wp2
        go_ret
        exact ⟨ret_bool (by symm; rw [eqB_f]; intro e; injection e with _ e; injection e with _ e; exact H2.out e), bl⟩
      | true =>
        have H2 := Lib.hid (eqB_t.1 h2)
        go_enter Tryd.func32, Tryd.ntmps32
        go_wp2_with fail
        refine (eqShape_c _ _ _ _ _ _ _ _ _ (Kd.C_below hl bl) (Kd.C_below hl2 bl) n1 n3).mono ?_
        rintro e w1 ⟨rfl, hb1⟩
        rw [h1]
        obtain ⟨q1, q2, z1⟩ := bcn (w := w) 2 hb1
        go_wp2_with fail
        refine (eqTagS_c _ _ _ _ _ _ _ (Kd.C_below hm bl) (Kd.C_below hm2 bl) n2 n4).mono ?_
        rintro e w2 ⟨rfl, hb2⟩
        rw [h2]
        go_wp2
        go_ret
        exact ⟨ret_bool (by symm; rw [eqB_t, H.out, H1.out, H2.out]), bl⟩
  · have t := strB_f h
    have H := Lib.hid h
    clear h
    go_enter Tryd.func32, Tryd.ntmps32
    go_wp2
    go_ret
    exact ⟨ret_bool (by symm; rw [eqB_f]; intro e; injection e with e; exact H.out e), bl⟩
/-- What is known of a thing that came in. -/
structure FIn (f : FeatD) : Prop where
  id : f.1.size ≤ 140737488355328
  pts : (f.2.1.2.length : Int) ≤ 140737488351232
  tags : (f.2.2.length : Int) ≤ 140737488351232
  txt : ShortT f.2.2
end
end Go.Proofs.YtfbhjknkofnohaaDoor
