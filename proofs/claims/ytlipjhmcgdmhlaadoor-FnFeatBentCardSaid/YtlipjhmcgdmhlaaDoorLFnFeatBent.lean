/- Law: a drawn thing that is ok is not with a name, tags, more tags that are not. -/
import Derived.Test.YtlipjhmcgdmhlaaDoorEa
import Derived.Test.YtlipjhmcgdmhlaaDoorLFeatOk
import Derived.Test.YtlipjhmcgdmhlaaDoorPb
namespace Go.Proofs.YtlipjhmcgdmhlaaDoor
open Go.RowKit Go.Proofs.YtlipjhmcgdmhlaaDoorW.PrintWords Go.Proofs.YtlipjhmcgdmhlaaDoorW.PrintLast
set_option maxRecDepth 100000
set_option linter.unusedVariables false
set_option linter.unusedSimpArgs false
def l_FnFeatBent_T5 : Bool × List (List Nat × List Nat) := (true, [([], []), ([0], [0]), ([], []), ([2, 1], [2]), ([1, 3], [1, 3]), ([4, 3], [4]), ([5], [5]), ([6, 5, 5], [5, 6]), ([5], [5]), ([8, 7, 5], [5, 8]), ([7, 9, 5], [5, 7, 9]), ([5, 10], [5, 10]), ([11, 9], [11]), ([12], [12]), ([13, 12, 12], [12, 13]), ([14, 12], [12, 14]), ([12, 15], [12, 15])])
theorem l_FnFeatBent_t5 : rtab .any (opsOf Tryd.f4 5) = l_FnFeatBent_T5 := by kernel_rfl
def l_FnFeatBent_T6 : Bool × List (List Nat × List Nat) := (true, [([], []), ([0], [0]), ([], []), ([2, 1], [2]), ([1, 3], [1, 3]), ([4, 3], [4]), ([5], [5]), ([6, 5, 5], [5, 6]), ([5], [5]), ([8, 7, 5], [5, 8]), ([7, 9, 5], [5, 7, 9]), ([5, 10], [5, 10]), ([11, 9], [11]), ([12], [12]), ([13, 12, 12], [12, 13]), ([14, 14, 12], [12, 14]), ([15], [15]), ([16, 15, 15], [15, 16]), ([17, 15], [15, 17]), ([15, 18, 12], [12, 15, 18]), ([12, 19], [12, 19]), ([20, 17, 0, 1, 2, 3, 4, 5, 6, 7, 8, 9, 10, 11, 12, 13, 14, 15, 16, 17, 18, 19, 20], [20])])
theorem l_FnFeatBent_t6 : rtab .any (opsOf Tryd.f4 6) = l_FnFeatBent_T6 := by kernel_rfl
def l_FnFeatBent_T16 : Bool × List (List Nat × List Nat) := (true, [([], []), ([0], [0]), ([], []), ([], []), ([3], [3]), ([2, 4], [2, 4]), ([5], [5]), ([6], [6]), ([1, 7], [1, 7]), ([0, 1, 2, 3, 4, 5, 6, 7, 8], []), ([9, 8, 8, 0, 1, 2, 3, 4, 5, 6, 7, 8], [8, 9])])
theorem l_FnFeatBent_t16 : rtab .any (opsOf Tryd.f4 16) = l_FnFeatBent_T16 := by kernel_rfl
attribute [local go_sem] cell_set_far cell_set_off
theorem litT2 (w : World) (x y : Tag) : kTag.C (w.alloc (.cells #[.string x.1, .string x.2, .string y.1, .string y.2] 41)) (some ⟨w.heap.size, 0, none⟩) 2 [x, y] := by
  have h : kTag.R 41 (w.alloc (.cells #[.string x.1, .string x.2, .string y.1, .string y.2] 41)) w.heap.size (fun _ => True) (.slice (some ⟨w.heap.size, 0, none⟩) 2 2) [x, y] :=
    ⟨fun _ _ => trivial, [.string x.1, .string x.2, .string y.1, .string y.2], World.ownsRow_lit (base := w.heap.size) (e := 41) (size := 2) w #[.string x.1, .string x.2, .string y.1, .string y.2] 2 (Nat.le_refl _) (by decide) rfl, Reps.snoc (cs := [.string x.1, .string x.2]) (Reps.snoc (Reps.none _ _) (kTag_mkM _ _ _ x) rfl) (kTag_mkM _ _ _ y) rfl⟩
  exact (Kd.R_reads' h).2.2
/-- What the loop keeps: the block of the copy, its tags. -/
structure LB (w9 : World) (f : FeatD) (A : Option Addr) (c : Nat) (k : Nat) (m : List Tag) (B : Option Addr) (d : Nat) (wr : World) : Prop where
  blk : B4 wr w9.heap.size 34 (.string f.1) (.int .i64 f.2.1.1) (.slice A f.2.1.2.length c) (.slice B k d)
  row : kTag.R 41 wr w9.heap.size (fun _ => True) (.slice B k d) m
  txt : ∀ t ∈ m, t.1.size ≤ 10 ∧ t.2.size ≤ 10
  bel : Below w9.heap.size w9 wr
set_option maxHeartbeats 8000000 in
theorem FnFeatBent_c (A : Option Addr) (c : Nat) (l : List Int) (w : World) (hl : (Kd.int .u8).C w A l.length l) (hn : (l.length : Int) ≤ 140737488351232) (hb : ∀ x ∈ l, 0 ≤ x ∧ x ≤ 255) (hc : l.length ≤ c) :
    Calls Tryd.prog 4 #[.slice A l.length c] w fun e w' => e = .returned (.bool true) ∧ Below w.heap.size w w' := by
  by_cases hs : (l.length : Int) ≤ 1048576
  · have hd : decide ((1048576 : Int) < (l.length : Int)) = false := decide_eq_false (by omega)
    go_enter Tryd.func4, Tryd.ntmps4
    go_wp2_with fail
    refine (DrawFeatOk_d A c l _ (Kd.C_below hl bl) hb hc (by omega)).mono ?_
    rintro e w1 ⟨f, A1, c1, B1, d1, rfl, hp1, ht1, hS, hb1⟩
    have X1 := hS.ftx (by decide)
    have HC : Cells (w1.alloc (.cells #[.string f.1, .int .i64 f.2.1.1, .slice A1 f.2.1.2.length c1, .slice B1 f.2.2.length d1] 34)) _ := (Cells.nil w1).box4 (Below.refl _ _)
    obtain ⟨h0, h1, h2, h3, _⟩ := HC.all
    go_wp2_with fail
    refine (DrawWordOk_d A c l _ (Kd.C_below hl bl) hb hc (by omega)).mono ?_
    rintro e w2 ⟨s, hs10, rfl, hb2⟩
    replace HC := HC.to hb2
    clear h0 h1 h2 h3
    obtain ⟨h0, h1, h2, h3, _⟩ := HC.all
    have hI := iFeatOk_c f A1 c1 B1 d1
    have hR := sFeatOk_c f A1 c1 B1 d1
    cases hok : featOk f with
    | false =>
      rw [hok] at hI hR
      have HI := Lib.hid hI
      have HR := Lib.hid hR
      have Hok := Lib.hid hok
      clear hI hR hok
      go_wp2
      refine rgStart 17 [0, 2, 1, 3, 4, 5, 6, 8, 7, 9, 10, 11, 12, 13, 14, 15, 16] l_FnFeatBent_t5 (fun HT HS => ?_)
      repeat ((with_reducible refine rgGate ?_); first | refine rgP HT ?_ | refine rgL HT ?_ | refine rgG HT ?_)
      refine rgCall HT Tryd.func12 (iWordOk_c s _ (by omega)) ?_
      rintro e q5a ⟨rfl, rfl⟩
      refine ⟨_, rfl, bl, rgN ?_⟩
      repeat ((with_reducible refine rgGate ?_); first | refine rgP HT ?_ | refine rgL HT ?_ | refine rgG HT ?_)
      refine rgCall HT Tryd.func13 (sWordOk_c s _ (by omega)) ?_
      rintro e q5b ⟨rfl, rfl⟩
      refine ⟨_, rfl, bl, rgN ?_⟩
      repeat ((with_reducible refine rgGate ?_); first | refine rgP HT ?_ | refine rgL HT ?_ | refine rgG HT ?_)
      refine rgCall HT Tryd.func14 (HI.out _ (Kd.C_below hp1.rd.2.2 bl) (Kd.C_below ht1.rd.2.2 bl) X1) ?_
      rintro e q5c ⟨rfl, q5h1⟩
      refine ⟨_, rfl, bl, rgN ?_⟩
      repeat ((with_reducible refine rgGate ?_); first | refine rgP HT ?_ | refine rgL HT ?_ | refine rgG HT ?_)
      refine rgCall HT Tryd.func15 (HR.out _ (Kd.C_below hp1.rd.2.2 bl) (Kd.C_below ht1.rd.2.2 bl) X1) ?_
      rintro e q5d ⟨rfl, q5h2⟩
      refine ⟨_, rfl, bl, rgN ?_⟩
      repeat ((with_reducible refine rgGate ?_); first | refine rgP HT ?_ | refine rgL HT ?_ | refine rgG HT ?_)
      refine rgCall HT Tryd.func15 (HR.out _ (Kd.C_below hp1.rd.2.2 bl) (Kd.C_below ht1.rd.2.2 bl) X1) ?_
      rintro e q5e ⟨rfl, q5h3⟩
      refine ⟨_, rfl, bl, rgN ?_⟩
      repeat ((with_reducible refine rgGate ?_); first | refine rgP HT ?_ | refine rgL HT ?_ | refine rgG HT ?_)
      refine rgDone HT ?_
      clear HT HS
      have h5 : Below w2.heap.size w2 q5e := bl
      replace HC := HC.to h5
      clear h0 h1 h2 h3
      obtain ⟨h0, h1, h2, h3, _⟩ := HC.all
      go_wp2
      refine rgStart 22 [0, 2, 1, 3, 4, 5, 6, 8, 7, 9, 10, 11, 12, 13, 14, 15, 16, 17, 18, 19, 20, 21] l_FnFeatBent_t6 (fun HT HS => ?_)
      repeat ((with_reducible refine rgGate ?_); first | refine rgP HT ?_ | refine rgL HT ?_ | refine rgG HT ?_)
      refine rgCall HT Tryd.func12 (iWordOk_c s _ (by omega)) ?_
      rintro e q6a ⟨rfl, rfl⟩
      refine ⟨_, rfl, bl, rgN ?_⟩
      repeat ((with_reducible refine rgGate ?_); first | refine rgP HT ?_ | refine rgL HT ?_ | refine rgG HT ?_)
      refine rgCall HT Tryd.func13 (sWordOk_c s _ (by omega)) ?_
      rintro e q6b ⟨rfl, rfl⟩
      refine ⟨_, rfl, bl, rgN ?_⟩
      repeat ((with_reducible refine rgGate ?_); first | refine rgP HT ?_ | refine rgL HT ?_ | refine rgG HT ?_)
      refine rgCall HT Tryd.func14 (HI.out _ (Kd.C_below hp1.rd.2.2 bl) (Kd.C_below ht1.rd.2.2 bl) X1) ?_
      rintro e q6c ⟨rfl, q6h1⟩
      refine ⟨_, rfl, bl, rgN ?_⟩
      repeat ((with_reducible refine rgGate ?_); first | refine rgP HT ?_ | refine rgL HT ?_ | refine rgG HT ?_)
      refine rgCall HT Tryd.func15 (HR.out _ (Kd.C_below hp1.rd.2.2 bl) (Kd.C_below ht1.rd.2.2 bl) X1) ?_
      rintro e q6d ⟨rfl, q6h2⟩
      refine ⟨_, rfl, bl, rgN ?_⟩
      repeat ((with_reducible refine rgGate ?_); first | refine rgP HT ?_ | refine rgL HT ?_ | refine rgG HT ?_)
      refine rgCall HT Tryd.func15 (HR.out _ (Kd.C_below hp1.rd.2.2 bl) (Kd.C_below ht1.rd.2.2 bl) X1) ?_
      rintro e q6e ⟨rfl, q6h3⟩
      refine ⟨_, rfl, bl, rgN ?_⟩
      repeat ((with_reducible refine rgGate ?_); first | refine rgP HT ?_ | refine rgL HT ?_ | refine rgG HT ?_)
      refine rgCall HT Tryd.func16 (iFeatText_no f A1 c1 B1 d1 _ (Kd.C_below hp1.rd.2.2 bl) (Kd.C_below ht1.rd.2.2 bl) X1 Hok.out) ?_
      rintro e q6f ⟨rfl, q6h4⟩
      refine ⟨_, rfl, bl, rgN ?_⟩
      repeat ((with_reducible refine rgGate ?_); first | refine rgP HT ?_ | refine rgL HT ?_ | refine rgG HT ?_)
      refine rgDone HT ?_
      clear HT HS
      go_wp2
      go_ret
      exact ⟨rfl, bl⟩
    | true =>
      rw [hok] at hI hR
      have HI := Lib.hid hI
      have HR := Lib.hid hR
      have Hok := Lib.hid hok
      clear hI hR hok
      go_wp2
      refine rgStart 17 [0, 2, 1, 3, 4, 5, 6, 8, 7, 9, 10, 11, 12, 13, 14, 15, 16] l_FnFeatBent_t5 (fun HT HS => ?_)
      repeat ((with_reducible refine rgGate ?_); first | refine rgP HT ?_ | refine rgL HT ?_ | refine rgG HT ?_)
      refine rgCall HT Tryd.func12 (iWordOk_c s _ (by omega)) ?_
      rintro e q5a ⟨rfl, rfl⟩
      refine ⟨_, rfl, bl, rgN ?_⟩
      repeat ((with_reducible refine rgGate ?_); first | refine rgP HT ?_ | refine rgL HT ?_ | refine rgG HT ?_)
      refine rgCall HT Tryd.func13 (sWordOk_c s _ (by omega)) ?_
      rintro e q5b ⟨rfl, rfl⟩
      refine ⟨_, rfl, bl, rgN ?_⟩
      repeat ((with_reducible refine rgGate ?_); first | refine rgP HT ?_ | refine rgL HT ?_ | refine rgG HT ?_)
      refine rgCall HT Tryd.func14 (HI.out _ (Kd.C_below hp1.rd.2.2 bl) (Kd.C_below ht1.rd.2.2 bl) X1) ?_
      rintro e q5c ⟨rfl, q5h1⟩
      refine ⟨_, rfl, bl, rgN ?_⟩
      repeat ((with_reducible refine rgGate ?_); first | refine rgP HT ?_ | refine rgL HT ?_ | refine rgG HT ?_)
      refine rgCall HT Tryd.func15 (HR.out _ (Kd.C_below hp1.rd.2.2 bl) (Kd.C_below ht1.rd.2.2 bl) X1) ?_
      rintro e q5d ⟨rfl, q5h2⟩
      refine ⟨_, rfl, bl, rgN ?_⟩
      repeat ((with_reducible refine rgGate ?_); first | refine rgP HT ?_ | refine rgL HT ?_ | refine rgG HT ?_)
      refine rgCall HT Tryd.func15 (HR.out _ (Kd.C_below hp1.rd.2.2 bl) (Kd.C_below ht1.rd.2.2 bl) X1) ?_
      rintro e q5e ⟨rfl, q5h3⟩
      refine ⟨_, rfl, bl, rgN ?_⟩
      repeat ((with_reducible refine rgGate ?_); first | refine rgP HT ?_ | refine rgL HT ?_ | refine rgG HT ?_)
      refine rgDone HT ?_
      clear HT HS
      have h5 : Below w2.heap.size w2 q5e := bl
      have P1 : kPt.C q5e A1 f.2.1.2.length f.2.1.2 := Kd.C_below hp1.rd.2.2 bl
      have T1 : kTag.C q5e B1 f.2.2.length f.2.2 := Kd.C_below ht1.rd.2.2 bl
      have hB : Below w.heap.size w q5e := bl
      replace HC := HC.to h5
      clear h0 h1 h2 h3
      obtain ⟨h0, h1, h2, h3, _⟩ := HC.all
      clear hp1 ht1 h5
      go_upto_region 10 with (fail)
      have h1lt : w1.heap.size < q5e.heap.size := World.block_lt_of_cell? _ _ h0
      have B6 : Below q5e.heap.size q5e ((q5e.alloc (.cells #[.string ⟨#[65]⟩, .int .i64 f.2.1.1, .slice A1 f.2.1.2.length c1, .slice B1 f.2.2.length d1] 34)).alloc (.cells #[.string f.1, .int .i64 f.2.1.1, .slice A1 f.2.1.2.length c1, .slice B1 f.2.2.length d1] 34)) := bl
      have TA : B4 ((q5e.alloc (.cells #[.string ⟨#[65]⟩, .int .i64 f.2.1.1, .slice A1 f.2.1.2.length c1, .slice B1 f.2.2.length d1] 34)).alloc (.cells #[.string f.1, .int .i64 f.2.1.1, .slice A1 f.2.1.2.length c1, .slice B1 f.2.2.length d1] 34)) q5e.heap.size 34 (.string ⟨#[65]⟩) (.int .i64 f.2.1.1) (.slice A1 f.2.1.2.length c1) (.slice B1 f.2.2.length d1) := B4.new' q5e _ _ _ _ _ _
      have TB : B4 ((q5e.alloc (.cells #[.string ⟨#[65]⟩, .int .i64 f.2.1.1, .slice A1 f.2.1.2.length c1, .slice B1 f.2.2.length d1] 34)).alloc (.cells #[.string f.1, .int .i64 f.2.1.1, .slice A1 f.2.1.2.length c1, .slice B1 f.2.2.length d1] 34)) (q5e.heap.size + 1) 34 (.string f.1) (.int .i64 f.2.1.1) (.slice A1 f.2.1.2.length c1) (.slice B1 f.2.2.length d1) := B4.new' (q5e.alloc (.cells #[.string ⟨#[65]⟩, .int .i64 f.2.1.1, .slice A1 f.2.1.2.length c1, .slice B1 f.2.2.length d1] 34)) _ _ _ _ _ _
      have s6 : ((q5e.alloc (.cells #[.string ⟨#[65]⟩, .int .i64 f.2.1.1, .slice A1 f.2.1.2.length c1, .slice B1 f.2.2.length d1] 34)).alloc (.cells #[.string f.1, .int .i64 f.2.1.1, .slice A1 f.2.1.2.length c1, .slice B1 f.2.2.length d1] 34)).heap.size = q5e.heap.size + 2 := by simp
      have n2 := X1.tags
      have S6 := Lib.hid s6
      clear s6
      have E8 := Lib.hid (show (([] ++ f.2.2) ++ [((⟨#[122, 122]⟩, ⟨#[97]⟩) : Tag), ((⟨#[122, 122]⟩, ⟨#[98]⟩) : Tag)]).length = f.2.2.length + 2 from List.length_append)
      replace HC := HC.to B6
      generalize ((q5e.alloc (.cells #[.string ⟨#[65]⟩, .int .i64 f.2.1.1, .slice A1 f.2.1.2.length c1, .slice B1 f.2.2.length d1] 34)).alloc (.cells #[.string f.1, .int .i64 f.2.1.1, .slice A1 f.2.1.2.length c1, .slice B1 f.2.2.length d1] 34)) = w6 at *
      have T6 := Kd.C_below T1 B6
      clear h0 h1 h2 h3
      obtain ⟨h0, h1, h2, h3, _⟩ := HC.all
      go_upto_region 11 with (first
        | ((with_reducible refine gate_dst (N := 60) rfl ?_); refine Kd.R_append_rows kTag (Rr := kTag.K (w6.alloc (.cells #[] 41))) (w0 := w6) w6.heap.size rfl (.tmp 57) (.tmp 59) 32 41 z0Tag 32 rfl Tryd.underlying32 info_Tag rfl (by decide) (by omega) _ [] f.2.2 B1 f.2.2.length d1 (fun _ => True) (fun _ => False) rfl rfl (litT0 w6 w6.heap.size (Nat.le_refl _)) (Kd.C_below T6 (below_alloc (Below.refl _ _) _)) (fun _ _ h => h) (fun _ h => h.elim) (fun _ _ => trivial) (below_alloc (Below.refl _ _) _) (by simp) (by simp; omega) ?_; intro v7 w7 ho7 hb7 hg7 hat7; obtain ⟨D7, d7, rfl⟩ := Kd.R_slice ho7)
        | ((with_reducible refine gate_dst (N := 64) rfl ?_); refine Kd.R_append_rows kTag (Rr := kTag.K (w7.alloc (.cells #[.string ⟨#[122, 122]⟩, .string ⟨#[97]⟩, .string ⟨#[122, 122]⟩, .string ⟨#[98]⟩] 41))) (w0 := w6) w6.heap.size rfl (.tmp 60) (.tmp 63) 32 41 z0Tag 32 rfl Tryd.underlying32 info_Tag rfl (by decide) (by omega) _ ([] ++ f.2.2) [((⟨#[122, 122]⟩, ⟨#[97]⟩) : Tag), ((⟨#[122, 122]⟩, ⟨#[98]⟩) : Tag)] (some ⟨w7.heap.size, 0, none⟩) 2 2 (fun _ => True) (fun _ => False) rfl rfl (Kd.R_below ho7 (below_alloc (Below.refl _ _) _)) (litT2 w7 _ _) (fun _ _ h => h) (fun _ h => h.elim) (fun _ _ => trivial) (hb7.trans ((below_alloc (Below.refl _ _) _).mono hb7.size)) (by have := hb7.size; simp; omega) (by simp; omega) ?_; intro v8 w8 ho8 hb8 hg8 hat8; obtain ⟨D8, d8, rfl⟩ := Kd.R_slice ho8; rw [E8.out] at ho8 ⊢; have TB8 := TB.to hb8; obtain ⟨x0, x1, x2, x3⟩ := TB8.c; obtain ⟨y0, y1, y2, y3⟩ := TB8.z))
      replace ho8 : kTag.R 41 w8 w6.heap.size (fun _ => True) (.slice D8 (f.2.2.length + 2) d8) (f.2.2 ++ [((⟨#[122, 122]⟩, ⟨#[97]⟩) : Tag), ((⟨#[122, 122]⟩, ⟨#[98]⟩) : Tag)]) := ho8
      have hne : (w1.heap.size == q5e.heap.size + 1) = false := by simp; omega
      have B9 : Below q5e.heap.size q5e (w8.setCell ⟨q5e.heap.size + 1, 3, none⟩ (.slice D8 (f.2.2.length + 2) d8)) := (B6.trans (hb8.mono (by have := S6.out; omega))).setCell (by simp) _
      have TA9 := (TA.to hb8).far (b' := q5e.heap.size + 1) (i := 3) (x := .slice D8 (f.2.2.length + 2) d8) (by simp)
      have TB9 := TB8.set3 (.slice D8 (f.2.2.length + 2) d8)
      have HC9 := (HC.to hb8).set (q5e.heap.size + 1) 3 (.slice D8 (f.2.2.length + 2) d8) (by simp only [List.all_cons, List.all_nil]; simp; omega)
      have T9 := (Kd.R_reads' (Kd.R_set ho8 TB8 (by decide) 3 (.slice D8 (f.2.2.length + 2) d8))).2.2
      have e9 : (f.2.2 ++ [((⟨#[122, 122]⟩, ⟨#[97]⟩) : Tag), ((⟨#[122, 122]⟩, ⟨#[98]⟩) : Tag)]).length = f.2.2.length + 2 := by simp
      have P9 := Kd.C_below P1 B9
      have Q9 := Kd.C_below T1 B9
      have hB9 : Below w.heap.size w (w8.setCell ⟨q5e.heap.size + 1, 3, none⟩ (.slice D8 (f.2.2.length + 2) d8)) := hB.trans (B9.mono hB.size)
      generalize hw9 : w8.setCell ⟨q5e.heap.size + 1, 3, none⟩ (.slice D8 (f.2.2.length + 2) d8) = w9 at *
      have Hw9 := Lib.hid hw9
      clear x0 x1 x2 x3 y0 y1 y2 y3 hw9 hg7 hg8 hat7 hat8 ho7 ho8 hb7 hb8 TB8 TA TB HC T6 B6 hB
      replace HC := HC9
      clear HC9
      clear h0 h1 h2 h3
      obtain ⟨h0, h1, h2, h3, _⟩ := HC.all
      have hA := iFeatOk_c ((⟨#[65]⟩, f.2) : FeatD) A1 c1 B1 d1
      have hb_ := iFeatOk_c ((f.1, f.2.1, f.2.2 ++ [((⟨#[122, 122]⟩, ⟨#[97]⟩) : Tag), ((⟨#[122, 122]⟩, ⟨#[98]⟩) : Tag)]) : FeatD) A1 c1 D8 d8
      rw [bent_id] at hA
      rw [bent_two] at hb_
      simp only [featV, e9] at hA hb_
      rw [e9] at T9
      have HA := Lib.hid hA
      have HBB := Lib.hid hb_
      clear hA hb_ hne e9
      go_wp2
      go_loopw [8] (fun q wr => ∃ (k : Nat) (m : List Tag) (B : Option Addr) (d : Nat), k ≤ 5 ∧ q = .int .i64 k ∧ m.length = k ∧ Aside0 (LB w9 f A1 c1 k m B d wr)) (fun q _ => 5 - (intOf q).toNat)
      case atStart => exact ⟨0, [], none, 0, by omega, rfl, rfl, ⟨⟨B4.new w9 _ _ _ _ _, Kd.R_nil _ _ _ _ _, (fun t ht => by cases ht), bl⟩⟩⟩
      case round =>
        obtain ⟨k, m, B, d, hk5, rfl, hml, ⟨hL⟩⟩ := hrel
        obtain ⟨a0, a1, a2, a3⟩ := hL.blk.c
        obtain ⟨z0, z1, z2, z3⟩ := hL.blk.z
        by_cases hk : k ≤ 4
        · have d1 : decide ((k : Int) ≤ 4) = true := decide_eq_true (by omega)
          have hw : IntKind.i64.wrap ((k : Int) + 1) = (k : Int) + 1 := IntWalk.i64_in _ (by omega)
          have hsl : ∀ W : World, (Instr.slice 9 (.string (⟨#[97, 98, 99, 100, 101, 102]⟩ : ByteArray)) (some (.int .i64 (k : Int))) (some (.int .i64 ((k : Int) + 1))) none).run Tryd.prog W = .ok (.string ((⟨#[97, 98, 99, 100, 101, 102]⟩ : ByteArray).extract k (k + 1))) W := fun W => run_slice_string (P := Tryd.prog) W 9 (⟨#[97, 98, 99, 100, 101, 102]⟩ : ByteArray) .i64 .i64 k ((k : Int) + 1) Tryd.underlying9 (by omega) (by omega) (by show (k : Int) + 1 ≤ 6; omega)
          have hs10 : ((⟨#[97, 98, 99, 100, 101, 102]⟩ : ByteArray).extract k (k + 1)).size ≤ 10 := by rw [ByteArray.size_extract]; omega
          generalize (⟨#[97, 98, 99, 100, 101, 102]⟩ : ByteArray).extract k (k + 1) = sx at *
          have HL := Lib.hid hL
          have Hml := Lib.hid hml
          clear hL hml
          go_wp2
          refine cgStart 11 [0, 1, 2, 3, 4, 5, 6, 7, 8, 9, 10] [10] [(⟨w9.heap.size, 3, none⟩, _)] l_FnFeatBent_t16 ⟨a3, trivial⟩ (fun HT HD => ?_)
          repeat ((with_reducible refine cgGate ?_); first | refine cgP HT ?_ | refine cgL HT ?_ | refine cgG HT ?_)
          refine cgE (w1 := wr.drew.alloc (.cells #[.string sx, .string ⟨#[97]⟩] 41)) (v := .slice (some ⟨wr.heap.size, 0, none⟩) 1 1) HT (fun HD2 => ?_) (hrun := by first | (go_simp; done) | (go_simp; rfl)) (hS := HD.to bl)
          have bb : Below wr.heap.size wr (wr.drew.alloc (.cells #[.string sx, .string ⟨#[97]⟩] 41)) := bl
          have hr := Kd.R_below HL.out.row bb
          have hT2 := HL.out.blk.to bb
          have bz := HL.out.bel.size
          refine cgAppG (d := kTag) (w0 := w9) (base := w9.heap.size) 32 41 (.agg #[(.string ByteArray.empty), (.string ByteArray.empty)]) 32 Tryd.underlying32 info_Tag rfl (by decide) (by omega) (fun _ _ h => h) (.tmp 73) (.tmp 79) _ m [((sx, ⟨#[97]⟩) : Tag)] (some ⟨wr.heap.size, 0, none⟩) 1 1 HT HD2 hr (litT1 wr.drew ((sx, ⟨#[97]⟩) : Tag)) (HL.out.bel.trans (bb.mono bz)) (by simp; omega) (by have := Hml.out; omega) (fun x hx e_ => by
            simp only [List.mem_cons, List.mem_nil_iff, or_false] at hx
            subst hx
            exact Kd.R_ne hr hT2 (by decide) e_) ?_
          intro B3 d3 w3 ho3 hb3 HD3 hg3
          have e3 : (m ++ [((sx, ⟨#[97]⟩) : Tag)]).length = k + 1 := by rw [List.length_append, Hml.out]; rfl
          rw [e3] at ho3 ⊢
          have E3 := Lib.hid e3
          clear e3
          refine cgN ?_
          have X2 := hT2.grown hg3 (Kd.R_ne hr hT2 (by decide))
          clear a0 a1 a2 a3 z0 z1 z2 z3
          obtain ⟨a0, a1, a2, a3⟩ := X2.c
          obtain ⟨z0, z1, z2, z3⟩ := X2.z
          repeat ((with_reducible refine cgGate ?_); first | refine cgP HT ?_ | refine cgL HT ?_ | refine cgG HT ?_)
          refine cgLast HT ?_
          refine cgDone HT ?_
          clear HT HD HD2 HD3
          go_wp2
          refine ⟨⟨k + 1, m ++ [((sx, ⟨#[97]⟩) : Tag)], B3, d3, by omega, by go_num, E3.out, ⟨⟨X2.set3 _, Kd.R_set ho3 X2 (by decide) 3 _, fun t ht => (List.mem_append.1 ht).elim (HL.out.txt t) (fun h => by rw [List.mem_singleton.1 h]; exact ⟨hs10, show (⟨#[97]⟩ : ByteArray).size ≤ 10 by decide⟩), hb3.setCell (Nat.le_refl _) _⟩⟩⟩, by simp [intOf]; omega⟩
        · have d1 : decide ((k : Int) ≤ 4) = false := decide_eq_false (by omega)
          have hr := hL.bel
          have hC := iFeatOk_c ((f.1, f.2.1, m) : FeatD) A1 c1 B d
          rw [bent_many _ _ m (by omega)] at hC
          simp only [featV, hml] at hC
          have hT3 := (Kd.R_reads' hL.row).2.2
          rw [hml] at hT3
          have HCC := Lib.hid hC
          have XC : FTx (f.1, f.2.1, m) := ⟨X1.id, X1.pts, by simp only []; omega, fun t ht => by have := hL.txt t ht; omega⟩
          have XA : FTx (⟨#[65]⟩, f.2) := ⟨show (⟨#[65]⟩ : ByteArray).size ≤ 140737488351232 by decide, X1.pts, X1.tags, X1.txt⟩
          have XB : FTx (f.1, f.2.1, f.2.2 ++ [((⟨#[122, 122]⟩, ⟨#[97]⟩) : Tag), ((⟨#[122, 122]⟩, ⟨#[98]⟩) : Tag)]) := ⟨X1.id, X1.pts, by have := hS.tags; simp; omega, fun t ht => by
            rcases List.mem_append.1 ht with h | h
            · exact X1.txt t h
            · simp only [List.mem_cons, List.mem_nil_iff, or_false] at h
              rcases h with rfl | rfl <;> exact ⟨by decide, by decide⟩⟩
          obtain ⟨b0, b1, b2, b3⟩ := (TA9.to hr).c
          have Pr := Kd.C_below P9 hr
          have Qr := Kd.C_below Q9 hr
          have Tr := Kd.C_below T9 hr
          have Lb := hL.blk
          clear hC hL
          go_wp2_with fail
          refine (HA.out _ (Kd.C_below Pr bl) (Kd.C_below Qr bl) XA).mono ?_
          rintro e r1 ⟨rfl, hr1⟩
          clear b0 b1 b2 b3 a0 a1 a2 a3
          obtain ⟨b0, b1, b2, b3⟩ := ((TB9.to hr).to hr1).c
          go_wp2_with fail
          refine (HBB.out _ (Kd.C_below Pr bl) (Kd.C_below Tr bl) XB).mono ?_
          rintro e r2 ⟨rfl, hr2⟩
          clear b0 b1 b2 b3
          obtain ⟨b0, b1, b2, b3⟩ := ((Lb.to hr1).to hr2).c
          go_wp2_with fail
          refine (HCC.out _ (Kd.C_below Pr bl) (Kd.C_below hT3 bl) XC).mono ?_
          rintro e r3 ⟨rfl, hr3⟩
          go_wp2
          go_ret
          exact ⟨rfl, bl⟩
  · have hd : decide ((1048576 : Int) < (l.length : Int)) = true := decide_eq_true (by omega)
    go_enter Tryd.func4, Tryd.ntmps4
    go_wp2
    go_ret
    exact ⟨rfl, bl⟩
end Go.Proofs.YtlipjhmcgdmhlaaDoor
