/- Contracts: a thing without a key, in the reference. -/
import Derived.Test.YtlebgjafaioajaaFh
import Derived.Test.YtlebgjafaioajaaFg
namespace Go.Proofs.Ytlebgjafaioajaa
open Go.RowKit Go.Proofs.YtlebgjafaioajaaW.PrintWords Go.Proofs.YtlebgjafaioajaaW.PrintLast
set_option maxRecDepth 100000
set_option linter.unusedVariables false
set_option linter.unusedSimpArgs false
attribute [local go_sem] cell_set_far cell_set_off
theorem litT1 (w : World) (x : Tag) : kTag.C (w.alloc (.cells #[.string x.1, .string x.2] 57)) (some ⟨w.heap.size, 0, none⟩) 1 [x] := by
  have h : kTag.R 57 (w.alloc (.cells #[.string x.1, .string x.2] 57)) w.heap.size (fun _ => True) (.slice (some ⟨w.heap.size, 0, none⟩) 1 1) [x] :=
    ⟨fun _ _ => trivial, [.string x.1, .string x.2], World.ownsRow_lit (base := w.heap.size) (e := 57) (size := 2) w #[.string x.1, .string x.2] 1 (Nat.le_refl _) (by decide) rfl, Reps.snoc (Reps.none _ _) (kTag_mkM _ _ _ x) rfl⟩
  exact (Kd.R_reads' h).2.2
/-- A thing in new memory, and whether. -/
def NFeatB (w : World) (r : FeatD × Bool) (e : Ending) (w' : World) : Prop := ∃ A c B d, e = .returned (.tuple #[featV r.1 A c B d, .bool r.2]) ∧ RI kPt 108 w' w.heap.size w'.heap.size (.slice A r.1.2.1.2.length c) r.1.2.1.2 ∧ RI kTag 57 w' w.heap.size w'.heap.size (.slice B r.1.2.2.length d) r.1.2.2 ∧ Below w.heap.size w w'
theorem NFeatB.no {w w' : World} (h : Below w.heap.size w w') : NFeatB w (feat0, false) (.returned (.tuple #[.agg #[.string ⟨#[]⟩, .int .i64 0, .slice none 0 0, .slice none 0 0], .bool false])) w' := ⟨none, 0, none, 0, rfl, RI.of (Kd.R_nil _ _ _ _ _), RI.of (Kd.R_nil _ _ _ _ _), h⟩
theorem fget_2 {f : FeatD} {key : ByteArray} : (fget f key).2 = true ↔ FeatOk f ∧ atK f.2.2 key ≠ none := by
  unfold fget
  split
  · rename_i h
    unfold getT
    cases hh : atK f.2.2 key <;> simp [h]
  · rename_i h
    simp [h]
/-- What the loop of a cutting keeps. -/
def CL (w : World) (f : FeatD) (A : Option Addr) (c : Nat) (B : Option Addr) (d : Nat) (g : Nat) (r : List Tag) (wr : World) : Prop := ∃ A2 c2 B2 d2, B4 wr w.heap.size 35 (.string f.1) (.int .i64 f.2.1.1) (.slice A f.2.1.2.length c) (.slice B f.2.2.length d) ∧ B4 wr (w.heap.size + 1) 35 (.string ⟨#[]⟩) (.int .i64 0) (.slice none 0 0) (.slice none 0 0) ∧
  B4 wr g 35 (.string f.1) (.int .i64 f.2.1.1) (.slice A2 f.2.1.2.length c2) (.slice B2 r.length d2) ∧ kPt.R 108 wr w.heap.size (fun _ => True) (.slice A2 f.2.1.2.length c2) f.2.1.2 ∧ kTag.R 57 wr w.heap.size (fun _ => True) (.slice B2 r.length d2) r ∧ Below w.heap.size w wr
def s_FeatCut_T10 : Bool × List (List Nat × List Nat) := (true, [([], []), ([0], [0]), ([], []), ([2], [2]), ([], []), ([3, 4], [3, 4]), ([5], [5]), ([6], [6]), ([1, 7], [1, 7]), ([0, 1, 2, 3, 4, 5, 6, 7, 8], []), ([9, 8, 8, 0, 1, 2, 3, 4, 5, 6, 7, 8], [8, 9])])
theorem s_FeatCut_t10 : rtab .any (opsOf Try.f37 10) = s_FeatCut_T10 := by kernel_rfl
set_option maxHeartbeats 4000000 in
theorem sFeatCut_c (f : FeatD) (A : Option Addr) (c : Nat) (B : Option Addr) (d : Nat) (key : ByteArray) (w : World) (hl : kPt.C w A f.2.1.2.length f.2.1.2) (hm : kTag.C w B f.2.2.length f.2.2) (hF : FTx f) :
    Calls Try.prog 37 #[featV f A c B d, .string key] w (NFeatB w (fcut f key)) := by
  have n1 := hF.pts
  have n2 := hF.tags
  have hG := sFeatGet_c f A c B d key
  obtain ⟨id, ⟨K, l⟩, m⟩ := f
  simp only [featV] at hl hm n1 n2 hG ⊢
  cases hh : (fget (id, (K, l), m) key).2 with
  | false =>
    have hf : fcut (id, (K, l), m) key = (feat0, false) := if_neg fun h => by have := fget_2.2 h; rw [hh] at this; cases this
    rw [hf]
    simp only [hh] at hG
    have HG := Lib.hid hG
    clear hG hf hh
    go_enter Try.func37, Try.ntmps37
    go_wp2_with fail
    refine (HG.out _ (Kd.C_below hl bl) (Kd.C_below hm bl) hF).mono ?_
    rintro e w1 ⟨rfl, hb1⟩
    have T2 : B4 w1 (w.heap.size + 1) 35 (.string ⟨#[]⟩) (.int .i64 0) (.slice none 0 0) (.slice none 0 0) := B4.new' (w.alloc (.cells #[.string id, .int .i64 K, .slice A l.length c, .slice B m.length d] 35)) _ _ _ _ _ _
    obtain ⟨x0, x1, x2, x3⟩ := T2.c
    obtain ⟨y0, y1, y2, y3⟩ := T2.z
    go_wp2
    refine bodyPost_ret (v := .tuple #[.agg #[.string ⟨#[]⟩, .int .i64 0, .slice none 0 0, .slice none 0 0], .bool false]) (by simp [results, Try.results37, go_sem, *]) rfl (NFeatB.no ?_)
    exact ((((bl : Below w.heap.size w w1).setCell (by simp) _).setCell (by simp) _).setCell (by simp) _).setCell (by simp) _
  | true =>
    have hf : fcut (id, (K, l), m) key = ((id, (K, l), cutK m key), true) := if_pos (fget_2.1 hh)
    rw [hf]
    simp only [hh] at hG
    have HG := Lib.hid hG
    clear hG hf hh
    go_enter Try.func37, Try.ntmps37
    go_wp2_with fail
    refine (HG.out _ (Kd.C_below hl bl) (Kd.C_below hm bl) hF).mono ?_
    rintro e w1 ⟨rfl, hb1⟩
    have T1 : B4 w1 w.heap.size 35 (.string id) (.int .i64 K) (.slice A l.length c) (.slice B m.length d) := B4.new' w _ _ _ _ _ _
    have T2 : B4 w1 (w.heap.size + 1) 35 (.string ⟨#[]⟩) (.int .i64 0) (.slice none 0 0) (.slice none 0 0) := B4.new' (w.alloc (.cells #[.string id, .int .i64 K, .slice A l.length c, .slice B m.length d] 35)) _ _ _ _ _ _
    obtain ⟨x0, x1, x2, x3⟩ := T1.c
    go_wp2_with fail
    refine (copyF_c (id, (K, l), m) A c B d _ (Kd.C_below hl bl) (Kd.C_below hm bl) n1 n2).mono ?_
    rintro e w2 ⟨A2, c2, B2, d2, rfl, hr2, ht2, hb2⟩
    simp only [featV] at hr2 ht2 ⊢
    have s1 := hb1.size
    simp only [World.size_alloc] at s1
    have s2 := hb2.size
    clear x0 x1 x2 x3
    have U3 := B4.new w2 (.string id) (.int .i64 K) (.slice A2 l.length c2) (.slice B2 m.length d2) 35
    have hstart : CL w (id, (K, l), m) A c B d w2.heap.size (cutK (m.take 0) key) (w2.alloc (.cells #[.string id, .int .i64 K, .slice A2 l.length c2, .slice none 0 0] 35)) :=
      ⟨A2, c2, none, 0, (T1.to hb2).to (below_alloc (Below.refl _ _) _), (T2.to hb2).to (below_alloc (Below.refl _ _) _), B4.new w2 _ _ _ _ _, Kd.R_below (hr2.up (by omega)) (below_alloc (Below.refl _ _) _), Kd.R_nil _ _ _ _ _, bl⟩
    have hg : w.heap.size + 1 < w2.heap.size := by omega
    clear T1 T2 hr2 ht2
    obtain ⟨z0, z1, z2, z3⟩ := U3.c
    obtain ⟨v0, v1, v2, v3⟩ := U3.z
    go_wp2
    clear z0 z1 z2 z3 v0 v1 v2 v3
    go_loopw [9] (fun q wr => ∃ k : Nat, k ≤ m.length ∧ q = .int .i64 k ∧ Aside0 (CL w (id, (K, l), m) A c B d w2.heap.size (cutK (m.take k) key) wr)) (fun q _ => m.length - (intOf q).toNat)
    case atStart => exact ⟨0, by omega, rfl, ⟨hstart⟩⟩
    case round =>
      clear hstart U3
      obtain ⟨k, hk, rfl, ⟨A3, c3, B3, d3, U1, U2, U3, ho, ht, hB⟩⟩ := hrel
      simp only [] at U1 U2 U3 ho ht
      have s3 := hB.size
      have h3 := U3.lt
      by_cases hlt : k < m.length
      · have t1 : decide ((k : Int) < (m.length : Int)) = true := decide_eq_true (by omega)
        obtain ⟨ad, rfl, e0, e1⟩ := at_Tag hm k hlt
        have hadb := World.block_lt_of_cell? _ _ e0
        replace e0 := pw_cell_below hB e0
        replace e1 := pw_cell_below hB e1
        obtain ⟨x0, x1, x2, x3⟩ := U1.c
        have hct := Lib.hid (cutK_take m key k hlt)
        have hw : IntKind.i64.wrap ((k : Int) + 1) = (k : Int) + 1 := IntWalk.i64_in _ (by omega)
        by_cases hx : m[k].1 = key
        · have t2 := strB_t hx
          have Hx := Lib.hid (show cutK (m.take (k + 1)) key = cutK (m.take k) key by rw [hct.out, if_pos (eqB_t.2 hx), List.append_nil])
          clear hx
          go_wp2
          exact ⟨⟨k + 1, by omega, by go_num, ⟨by rw [Hx.out]; exact ⟨A3, c3, B3, d3, U1, U2, U3, ho, ht, hB⟩⟩⟩, by simp [intOf]; omega⟩
        · have t2 := strB_f hx
          have Hx := Lib.hid (show cutK (m.take (k + 1)) key = cutK (m.take k) key ++ [m[k]] by rw [hct.out, if_neg (by simp [eqB_f.2 hx])])
          clear hx
          have hcl : (cutK (m.take k) key).length ≤ m.length := Nat.le_trans (cutK_le _ _) (by rw [List.length_take]; omega)
          generalize cutK (m.take k) key = r at *
          generalize hmk : m[k] = t at *
          clear hmk
          obtain ⟨z0, z1, z2, z3⟩ := U3.c
          obtain ⟨v0, v1, v2, v3⟩ := U3.z
          go_wp2
          refine cgStart 11 [0, 1, 2, 3, 4, 5, 6, 7, 8, 9, 10] [10] [(⟨w2.heap.size, 3, none⟩, _), (⟨w.heap.size, 3, none⟩, _), (ad.add (k * 2), _), (⟨(ad.add (k * 2)).block, (ad.add (k * 2)).off + 1, none⟩, _)] s_FeatCut_t10 ⟨z3, x3, e0, e1, trivial⟩ (fun HT HD => ?_)
          repeat ((with_reducible refine cgGate ?_); first | refine cgP HT ?_ | refine cgL HT ?_ | refine cgG HT ?_)
          refine cgE (w1 := wr.drew.alloc (.cells #[.string t.1, .string t.2] 57)) (v := .slice (some ⟨wr.heap.size, 0, none⟩) 1 1) HT (fun HD2 => ?_) (hrun := by first | (go_simp; done) | (go_simp; rfl)) (hS := HD.to bl)
          have bw : Below wr.heap.size wr (wr.drew.alloc (.cells #[.string t.1, .string t.2] 57)) := bl
          have ht2 := Kd.R_below ht bw
          replace U1 := U1.to bw
          replace U2 := U2.to bw
          replace U3 := U3.to bw
          replace ho := Kd.R_below ho bw
          refine cgAppG (d := kTag) (w0 := w) (base := w.heap.size) 33 57 (.agg #[(.string ByteArray.empty), (.string ByteArray.empty)]) 32 Try.underlying33 info_Tag rfl (by decide) (by omega) (fun _ _ h => h) (.tmp 38) (.tmp 44) _ r [t] (some ⟨wr.heap.size, 0, none⟩) 1 1 HT HD2 ht2 (litT1 wr.drew t) bl sz (by omega) (fun x hx e_ => by
            simp only [List.mem_cons, List.mem_nil_iff, or_false] at hx
            rcases hx with rfl | rfl | rfl | rfl
            · exact Kd.R_ne ht2 U3 (by decide) e_
            · exact Kd.R_ne ht2 U1 (by decide) e_
            · have := Kd.R_block_ge ht2 _ e_.symm; simp only [] at this; omega
            · have := Kd.R_block_ge ht2 _ e_.symm; simp only [] at this; omega) ?_
          intro B5 d5 w5 ho5 hb5 HD5 hg5
          refine cgN ?_
          replace U1 := U1.grown hg5 (Kd.R_ne ht2 U1 (by decide))
          replace U2 := U2.grown hg5 (Kd.R_ne ht2 U2 (by decide))
          replace ho := R_grownT ho ht2 (by decide) hg5
          replace U3 := U3.grown hg5 (Kd.R_ne ht2 U3 (by decide))
          clear z0 z1 z2 z3 v0 v1 v2 v3
          obtain ⟨z0, z1, z2, z3⟩ := U3.c
          obtain ⟨v0, v1, v2, v3⟩ := U3.z
          have hgr := hg5.size
          simp only [World.size_alloc, World.size_drew] at hgr
          repeat ((with_reducible refine cgGate ?_); first | refine cgP HT ?_ | refine cgL HT ?_ | refine cgG HT ?_)
          refine cgLast HT ?_
          refine cgDone HT ?_
          clear HT HD HD2 HD5
          go_wp2
          exact ⟨⟨k + 1, by omega, by go_num, ⟨by rw [Hx.out]; exact ⟨A3, c3, B5, d5, U1.far (by simp; omega), U2.far (by simp; omega), (by rw [List.length_append]; exact U3.set3 _), Kd.R_set ho U3 (by decide) 3 _, Kd.R_set ho5 U3 (by decide) 3 _, hb5.setCell (by simp only []; omega) _⟩⟩⟩, by simp [intOf]; omega⟩
      · have t1 : decide ((k : Int) < (m.length : Int)) = false := decide_eq_false (by omega)
        have hkl := Lib.hid (show m.take k = m from List.take_of_length_le (by omega))
        rw [hkl.out] at ht U3
        obtain ⟨x0, x1, x2, x3⟩ := U1.c
        obtain ⟨z0, z1, z2, z3⟩ := U3.c
        obtain ⟨y0, y1, y2, y3⟩ := U2.c
        obtain ⟨q0, q1, q2, q3⟩ := U2.z
        go_wp2
        refine bodyPost_ret (v := .tuple #[.agg #[.string id, .int .i64 K, .slice A3 l.length c3, .slice B3 (cutK m key).length d3], .bool true]) (by simp [results, Try.results37, go_sem, *]) rfl ⟨A3, c3, B3, d3, rfl, RI.of (U2.R ho (by decide) _ _ _ _), RI.of (U2.R ht (by decide) _ _ _ _), (((hB.setCell (by simp) _).setCell (by simp) _).setCell (by simp) _).setCell (by simp) _⟩
end Go.Proofs.Ytlebgjafaioajaa
