/- Contracts: a map copied by the law, marked and held. -/
import Derived.Test.YtlebgjafaioajaaSf
namespace Go.Proofs.Ytlebgjafaioajaa
open Go.RowKit Go.Proofs.YtlebgjafaioajaaW.PrintWords Go.Proofs.YtlebgjafaioajaaW.PrintLast
set_option maxRecDepth 100000
set_option linter.unusedVariables false
set_option linter.unusedSimpArgs false
theorem kV_M {W : World} {base : Nat} {ok : Nat → Prop} {x : RawF} {cs : List Value} (h : kV.M W base ok x cs) : cs = rawL x ∧ x.2.2.1.oneCell' = true ∧ x.2.2.2.oneCell' = true := h
theorem own_V {e base g n cap : Nat} {ok : Nat → Prop} {W : World} {xs : List RawF} (h : kV.R e W base ok (.slice (some ⟨g, 0, none⟩) n cap) xs) (i : Nat) (hi : i < xs.length) :
    W.cell? ⟨g, i * 4, none⟩ = some (.string xs[i].1) ∧ W.cell? ⟨g, i * 4 + 1, none⟩ = some (.int .i64 xs[i].2.1) ∧ W.cell? ⟨g, i * 4 + 2, none⟩ = some xs[i].2.2.1 ∧ W.cell? ⟨g, i * 4 + 3, none⟩ = some xs[i].2.2.2 ∧
      W.frozen? ⟨g, i * 4, none⟩ = false ∧ W.frozen? ⟨g, i * 4 + 1, none⟩ = false ∧ W.frozen? ⟨g, i * 4 + 2, none⟩ = false ∧ W.frozen? ⟨g, i * 4 + 3, none⟩ = false := by
  have hn := (Kd.R_reads' h).1
  obtain ⟨c, hl, hM, hc, hf⟩ := Kd.R_elem h raw0 (i : Int) (by omega) (by omega)
  have hg : xs.getD i raw0 = xs[i] := by rw [List.getD_eq_getElem?_getD, List.getElem?_eq_getElem hi]; rfl
  simp only [Int.toNat_natCast] at hM hc hf
  rw [hg] at hM
  obtain ⟨rfl, _⟩ := kV_M hM
  exact ⟨hc 0 _ rfl, hc 1 _ rfl, hc 2 _ rfl, hc 3 _ rfl, hf 0, hf 1, hf 2, hf 3⟩
theorem set_V {e base g n cap : Nat} {ok : Nat → Prop} {W : World} {xs : List RawF} (h : kV.R e W base ok (.slice (some ⟨g, 0, none⟩) n cap) xs) (i : Nat) (hi : i < n) (r : RawF) (h1 : r.2.2.1.oneCell' = true) (h2 : r.2.2.2.oneCell' = true) :
    kV.R e ((((W.setCell ⟨g, i * 4, none⟩ (.string r.1)).setCell ⟨g, i * 4 + 1, none⟩ (.int .i64 r.2.1)).setCell ⟨g, i * 4 + 2, none⟩ r.2.2.1).setCell ⟨g, i * 4 + 3, none⟩ r.2.2.2) base ok (.slice (some ⟨g, 0, none⟩) n cap) (xs.set i r) := by
  obtain ⟨c, hl, hM, hc, hf⟩ := Kd.R_elem h raw0 (i : Int) (by omega) (by omega)
  have hl2 : c.length = 4 := hl
  have he : c.take 0 ++ rawL r ++ c.drop (0 + 4) = rawL r := by rw [List.drop_of_length_le (by omega)]; simp
  exact (Kd.R_seg h (i : Int) (by omega) (by omega) (seg := rawL r) (j := 0) hl hc (show 4 ≤ 4 by decide) (x' := r) (okp := fun k => ok k ∧ k ≠ g) (by
    show kV.M W base _ r (c.take 0 ++ rawL r ++ c.drop (0 + 4))
    rw [he]; exact ⟨rfl, h1, h2⟩) (fun _ hk => hk)).1
theorem set_V0 {e base g n cap : Nat} {ok : Nat → Prop} {W : World} {xs : List RawF} (h : kV.R e W base ok (.slice (some ⟨g, 0, none⟩) n cap) xs) (i : Nat) (hi : i < xs.length) (s : ByteArray) :
    kV.R e (W.setCell ⟨g, i * 4, none⟩ (.string s)) base ok (.slice (some ⟨g, 0, none⟩) n cap) (xs.set i (s, xs[i].2)) := by
  have hn := (Kd.R_reads' h).1
  obtain ⟨c, hl, hM, hc, hf⟩ := Kd.R_elem h raw0 (i : Int) (by omega) (by omega)
  have hg : xs.getD i raw0 = xs[i] := by rw [List.getD_eq_getElem?_getD, List.getElem?_eq_getElem hi]; rfl
  simp only [Int.toNat_natCast] at hM hc hf
  rw [hg] at hM
  obtain ⟨rfl, h1, h2⟩ := kV_M hM
  exact (Kd.R_seg h (i : Int) (by omega) (by omega) (seg := [.string s]) (j := 0) hl (by simpa using hc) (show 1 ≤ 4 by decide) (x' := (s, xs[i].2)) (okp := fun k => ok k ∧ k ≠ g) (show kV.M W base _ (s, xs[i].2) _ from ⟨rfl, h1, h2⟩) (fun _ hk => hk)).1
theorem set_V1 {e base g n cap : Nat} {ok : Nat → Prop} {W : World} {xs : List RawF} (h : kV.R e W base ok (.slice (some ⟨g, 0, none⟩) n cap) xs) (i : Nat) (hi : i < xs.length) (z : Int) :
    kV.R e (W.setCell ⟨g, i * 4 + 1, none⟩ (.int .i64 z)) base ok (.slice (some ⟨g, 0, none⟩) n cap) (xs.set i (xs[i].1, z, xs[i].2.2)) := by
  have hn := (Kd.R_reads' h).1
  obtain ⟨c, hl, hM, hc, hf⟩ := Kd.R_elem h raw0 (i : Int) (by omega) (by omega)
  have hg : xs.getD i raw0 = xs[i] := by rw [List.getD_eq_getElem?_getD, List.getElem?_eq_getElem hi]; rfl
  simp only [Int.toNat_natCast] at hM hc hf
  rw [hg] at hM
  obtain ⟨rfl, h1, h2⟩ := kV_M hM
  exact (Kd.R_seg h (i : Int) (by omega) (by omega) (seg := [.int .i64 z]) (j := 1) hl (by simpa using hc) (show 2 ≤ 4 by decide) (x' := (xs[i].1, z, xs[i].2.2)) (okp := fun k => ok k ∧ k ≠ g) (show kV.M W base _ (xs[i].1, z, xs[i].2.2) _ from ⟨rfl, h1, h2⟩) (fun _ hk => hk)).1
theorem RI.own1 {e lo hi g n c : Nat} {W : World} {xs : List RawF} (h : RI kV e W lo hi (.slice (some ⟨g, 0, none⟩) n c) xs) : lo ≤ g ∧ g < hi ∧ g < W.heap.size ∧ RI kV e W g (g + 1) (.slice (some ⟨g, 0, none⟩) n c) xs := by
  obtain ⟨h1, inner, ⟨ho1, ho2⟩, hr⟩ := h
  rcases ho2 with ⟨hv, _⟩ | ⟨g', cap', cur, hv, hb, hh, hnc, hcm, hcs, ht⟩
  · cases hv
  injection hv with ha hn hc
  injection ha with ha
  injection ha with hg
  subst hg; subst hc
  have hg3 : g < hi := h1 g rfl
  refine ⟨hb, hg3, blk_lt hh, fun k hk => ?_, inner, ⟨ho1, .inr ⟨g, c, cur, by rw [hn], Nat.le_refl _, hh, hnc, hcm, hcs, ht⟩⟩, hr.imp_ (fun _ _ hx => hx)⟩
  have : g = k := by simpa [Value.ownBlock] using hk
  show k < g + 1
  omega
theorem RI.wid {α : Type} {d : Kd α} {e lo hi lo' hi' : Nat} {W : World} {v : Value} {xs : List α} (h : RI d e W lo hi v xs) (h1 : lo' ≤ lo) (h2 : hi ≤ hi') : RI d e W lo' hi' v xs := h.wide h1 h2
/-- One thing has been written anew: its cells, and what lies in its interval. -/
theorem FSep.upd {w w6 : World} {lo hi g n c j : Nat} {l : List FeatD} {xs : List RawF} {I J : Nat → Nat} {f : FeatD} {r : RawF} (h : FSep w lo hi (.slice (some ⟨g, 0, none⟩) n c) l xs I J) (hj : j < l.length) (hf : ∀ k, k < w.heap.size → k ≠ g → (k < I j ∨ J j ≤ k) → w6.heap[k]? = w.heap[k]?)
    (hr : RI kV 35 w6 lo hi (.slice (some ⟨g, 0, none⟩) n c) (xs.set j r)) (hi6 : Inn w6 (I j) (J j) f r) : FSep w6 lo hi (.slice (some ⟨g, 0, none⟩) n c) (l.set j f) (xs.set j r) I J := by
  refine ⟨hr, by simp [h.len], fun i hi_ => h.bnd i (by simpa using hi_), fun i k hik hk => h.ord i k hik (by simpa using hk), fun i h1 h2 => ?_⟩
  rw [List.length_set] at h1 h2
  by_cases e : j = i
  · subst e
    rw [List.getElem_set_self, List.getElem_set_self]
    exact hi6
  · rw [List.getElem_set_ne e, List.getElem_set_ne e]
    have hb := h.bnd i h1
    have hgi := hb.2.2.2 g rfl
    have key : ∀ {α : Type} {d : Kd α} {e : Nat} {v : Value} {xs : List α}, RI d e w (I i) (J i) v xs → RI d e w6 (I i) (J i) v xs := fun hh =>
      Kd.R_mono (Kd.R_step (Kd.R_bound hh) (fun k hk hlt => by
        have h3 : k < J i := hk.1
        have h4 := hk.2.1
        refine hf k hlt (by omega) ?_
        rcases Nat.lt_or_ge i j with q | q
        · have := h.ord i j q hj; omega
        · have := h.ord j i (by omega) h1; omega)) (fun _ hk => hk.1)
    have hi2 := h.inn i h1 h2
    exact ⟨hi2.1, hi2.2.1, key hi2.2.2.1, key hi2.2.2.2⟩
/-! Marks of a map. -/
def markF (k : Int) (f : FeatD) : FeatD := (mtext k.toNat, (k + 1, markL (k + 2) f.2.1.2.length), markT (k + 2 + 2 * (f.2.1.2.length : Int)) f.2.2.length)
def mkk (k : Int) (f : FeatD) : Int := k + 2 + 2 * (f.2.1.2.length : Int) + 2 * (f.2.2.length : Int)
def markFs : Int → List FeatD → List FeatD
  | _, [] => []
  | k, f :: l => markF k f :: markFs (mkk k f) l
def mkks : Int → List FeatD → Int
  | k, [] => k
  | k, f :: l => mkks (mkk k f) l
theorem markFs_len : ∀ (k : Int) (l : List FeatD), (markFs k l).length = l.length
  | _, [] => rfl
  | k, f :: l => by simp [markFs, markFs_len (mkk k f) l]
theorem markFs_app : ∀ (k : Int) (l m : List FeatD), markFs k (l ++ m) = markFs k l ++ markFs (mkks k l) m
  | _, [], _ => rfl
  | k, f :: l, m => by simp [markFs, mkks, markFs_app (mkk k f) l m]
theorem mkks_app : ∀ (k : Int) (l m : List FeatD), mkks k (l ++ m) = mkks (mkks k l) m
  | _, [], _ => rfl
  | k, f :: l, m => by simp [mkks, mkks_app (mkk k f) l m]
theorem mkks_le : ∀ (k : Int) (l : List FeatD), k ≤ mkks k l ∧ mkks k l ≤ k + 2 * ((l.length + featsSz l : Nat) : Int)
  | k, [] => by simp [mkks, featsSz]
  | k, f :: l => by
    have h := mkks_le (mkk k f) l
    have h2 : f.2.1.2.length + f.2.2.length ≤ featSz f := by unfold featSz; omega
    simp only [mkks, featsSz, List.length_cons]
    unfold mkk at h ⊢
    omega
theorem markFs_take (k : Int) (l : List FeatD) (j : Nat) (h : j < l.length) : markFs k (l.take (j + 1)) = markFs k (l.take j) ++ [markF (mkks k (l.take j)) l[j]] := by
  rw [List.take_succ_eq_append_getElem h, markFs_app]; rfl
theorem mkks_take (k : Int) (l : List FeatD) (j : Nat) (h : j < l.length) : mkks k (l.take (j + 1)) = mkk (mkks k (l.take j)) l[j] := by
  rw [List.take_succ_eq_append_getElem h, mkks_app]; rfl
theorem mkks_at (k : Int) (l : List FeatD) (j : Nat) : k ≤ mkks k (l.take j) ∧ mkks k (l.take j) ≤ k + 2 * ((l.length + featsSz l : Nat) : Int) := by
  have h := mkks_le k (l.take j)
  have h2 := featsSz_le l j
  have h3 : (l.take j).length ≤ l.length := by rw [List.length_take]; omega
  omega
/-- The list in the midst of the marking. -/
def midF (k : Int) (l : List FeatD) (j : Nat) : List FeatD := markFs k (l.take j) ++ l.drop j
theorem midF_len (k : Int) (l : List FeatD) (j : Nat) (h : j ≤ l.length) : (midF k l j).length = l.length := by
  unfold midF; rw [List.length_append, markFs_len, List.length_take, List.length_drop]; omega
theorem midF_get (k : Int) (l : List FeatD) (j : Nat) (h : j < l.length) (h2 : j < (midF k l j).length) : (midF k l j)[j] = l[j] := by
  have hl : (markFs k (l.take j)).length = j := by rw [markFs_len, List.length_take]; omega
  have : (midF k l j)[j]? = some l[j] := by
    unfold midF
    rw [List.getElem?_append_right (by omega), hl, Nat.sub_self, List.getElem?_drop, Nat.add_zero, List.getElem?_eq_getElem h]
  rw [List.getElem?_eq_getElem h2] at this
  exact Option.some.inj this
theorem midF_set (k : Int) (l : List FeatD) (j : Nat) (h : j < l.length) : (midF k l j).set j (markF (mkks k (l.take j)) l[j]) = midF k l (j + 1) := by
  have hl : (markFs k (l.take j)).length = j := by rw [markFs_len, List.length_take]; omega
  unfold midF
  rw [List.set_append_right _ _ (by omega), hl, Nat.sub_self, markFs_take k l j h, List.drop_eq_getElem_cons h, List.set_cons_zero, List.append_assoc]
  rfl
end Go.Proofs.Ytlebgjafaioajaa
