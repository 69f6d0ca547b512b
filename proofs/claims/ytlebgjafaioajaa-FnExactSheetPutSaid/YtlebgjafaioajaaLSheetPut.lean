/- Law: the program's SheetPut answers what the reference's answers, shares no memory; its arguments read as before. -/
import Derived.Test.YtlebgjafaioajaaSl
import Derived.Test.YtlebgjafaioajaaLSheetSame
namespace Go.Proofs.Ytlebgjafaioajaa
open Go.RowKit Go.Proofs.YtlebgjafaioajaaW.PrintWords Go.Proofs.YtlebgjafaioajaaW.PrintLast
set_option maxRecDepth 100000
set_option linter.unusedVariables false
set_option linter.unusedSimpArgs false
theorem featsSz_filt (p : FeatD → Bool) : ∀ l : List FeatD, featsSz (l.filter p) ≤ featsSz l
  | [] => Nat.le_refl _
  | f :: l => by
    have := featsSz_filt p l
    rw [List.filter_cons]
    split <;> simp only [featsSz] <;> omega
theorem putR_sz (f : FeatD) : ∀ l : List FeatD, featsSz (putR f l) ≤ featSz f + featsSz l
  | [] => by simp [putR, featsSz]
  | g :: l => by
    rw [putR]
    split
    · have := putR_sz f l
      simp only [featsSz]; omega
    · have := featsSz_filt (fun t => !eqB t.1 f.1) (g :: l)
      have e : cutK (g :: l) f.1 = (g :: l).filter (fun t => !eqB t.1 f.1) := rfl
      rw [e]
      simp only [featsSz] at this ⊢; omega
theorem sput_few {l : List FeatD} {f : FeatD} (h : Few l) (hF : FTx f) : Few (sput l f).1 := by
  rcases sput_cases l f with ⟨_, hs⟩ | ⟨_, _, hs⟩ | ⟨_, _, _, hs⟩ | ⟨_, _, h8, hs⟩
  · rw [hs]; exact ⟨by simp, fun f hf => by simp at hf⟩
  · rw [hs]; exact ⟨by simp, fun f hf => by simp at hf⟩
  · rw [hs]; exact ⟨by simp, fun f hf => by simp at hf⟩
  · rw [hs]; exact few_put h hF h8
theorem sput_sz (l : List FeatD) (f : FeatD) : (sput l f).1.length + featsSz (sput l f).1 ≤ l.length + 1 + (featSz f + featsSz l) := by
  rcases sput_cases l f with ⟨_, hs⟩ | ⟨_, _, hs⟩ | ⟨_, _, _, hs⟩ | ⟨_, _, h8, hs⟩
  · rw [hs]; simp [featsSz]
  · rw [hs]; simp [featsSz]
  · rw [hs]; simp [featsSz]
  · rw [hs]
    have h1 := putK_le l f
    have h2 := putR_sz f l
    rw [← putK_eq] at h2
    exact Nat.add_le_add h1 h2
theorem markFeat_k (f : FeatD) (A : Option Addr) (c : Nat) (B : Option Addr) (d : Nat) (k : Int) (lo hi : Nat) (w : World) (hr : RI kPt 108 w lo hi (.slice A f.2.1.2.length c) f.2.1.2) (ht : RI kTag 57 w lo hi (.slice B f.2.2.length d) f.2.2) (n1 : f.2.1.2.length ≤ 1048576) (n2 : f.2.2.length ≤ 1048576) (hk : 1 ≤ k) (hk2 : k ≤ 1000000000) (hhi : hi ≤ w.heap.size) (hlo : lo ≤ hi) :
    Calls Try.prog 38 #[featV f A c B d, .int .i64 k] w fun e w' => e = .returned (.int .i64 (k + 2 * (f.2.1.2.length : Int) + 2 * (f.2.2.length : Int))) ∧ Ex lo hi w w' := by
  obtain ⟨id, ⟨K, l⟩, m⟩ := f
  simp only [featV] at hr ht n1 n2 ⊢
  obtain ⟨a, b, tp⟩ := tight_of (fun _ _ _ _ _ _ _ h => h) hr hlo
  obtain ⟨a2, b2, tt⟩ := tight_of (fun _ _ _ _ _ _ _ h => h) ht hlo
  have hap := tight_apart tp tt (by decide)
  obtain ⟨p1, p2, p3, p4, hp, _⟩ := tp
  obtain ⟨q1, q2, q3, q4, hq, _⟩ := tt
  have HC : Cells (w.alloc (.cells #[.string id, .int .i64 K, .slice A l.length c, .slice B m.length d] 35)) _ := (Cells.nil w).box4 (Below.refl _ _)
  obtain ⟨h0, h1, h2, h3, _⟩ := HC.all
  go_enter Try.func38, Try.ntmps38
  go_wp2_with fail
  refine (markShape_c K A c l k a b _ (RI.alloc hp _) n1 (by omega) (by omega) (by simp; omega)).mono ?_
  rintro e w1 ⟨rfl, m1, hx1⟩
  replace HC := HC.ex hx1 (fun x hx_ => by simp only [List.mem_cons, List.mem_nil_iff, or_false] at hx_; rcases hx_ with rfl | rfl | rfl | rfl <;> simp only [] <;> omega)
  clear h0 h1 h2 h3
  obtain ⟨h0, h1, h2, h3, _⟩ := HC.all
  have hq1 : RI kTag 57 w1 a2 b2 (.slice B m.length d) m := (RI.alloc hq _).ex hx1 (by omega)
  have s1 := hx1.1.size
  simp only [World.size_alloc] at s1
  have k0 : 1 ≤ k + 2 * (l.length : Int) := by omega
  have k1 : k + 2 * (l.length : Int) ≤ 1073741824 := by omega
  go_wp2_with fail
  refine (markTagS_c B d m _ a2 b2 _ hq1 n2 k0 k1 (by omega) (by omega)).mono ?_
  rintro e w2 ⟨rfl, m2, hx2⟩
  go_wp2
  go_ret
  exact ⟨rfl, (((Ex.of (lo := lo) (hi := hi) (below_alloc (Below.refl _ _) _) (by omega)).trans (hx1.wide p1 p3)).trans (hx2.wide q1 q3))⟩
def l_FnExactSheetPut_T8 : Bool × List (List Nat × List Nat) := (true, [([], []), ([0], [0]), ([], []), ([2, 1], [2]), ([1, 3, 3], [1, 3]), ([4], [4]), ([5], [5]), ([5], [5]), ([6, 4, 0, 1, 2, 3, 4, 5, 6], [6]), ([7, 8, 0, 1, 2, 3, 4, 5, 6, 7, 8], [7])])
theorem l_FnExactSheetPut_t8 : rtab .any (opsOf Try.f18 8) = l_FnExactSheetPut_T8 := by kernel_rfl
def l_FnExactSheetPut_T16 : Bool × List (List Nat × List Nat) := (true, [([], []), ([], []), ([1], [1]), ([0, 2, 2], [0, 2]), ([3], [3])])
theorem l_FnExactSheetPut_t16 : rtab .any (opsOf Try.f18 16) = l_FnExactSheetPut_T16 := by kernel_rfl
def l_FnExactSheetPut_T31 : Bool × List (List Nat × List Nat) := (true, [([], []), ([0], [0]), ([], []), ([2, 1], [2]), ([1, 3, 3], [1, 3]), ([4], [4]), ([5], [5]), ([5], [5]), ([6, 4, 0, 1, 2, 3, 4, 5, 6], [6]), ([7, 8, 0, 1, 2, 3, 4, 5, 6, 7, 8], [7])])
theorem l_FnExactSheetPut_t31 : rtab .any (opsOf Try.f18 31) = l_FnExactSheetPut_T31 := by kernel_rfl
set_option maxHeartbeats 8000000 in
theorem FnExactSheetPut_c (A : Option Addr) (c : Nat) (l : List FeatD) (f : FeatD) (P : Option Addr) (p : Nat) (T : Option Addr) (t : Nat) (w : World) (hl : kFeat.C w A l.length l) (hn : FsIn l) (hp : kPt.C w P f.2.1.2.length f.2.1.2) (ht : kTag.C w T f.2.2.length f.2.2) (hF : FIn f) :
    Calls Try.prog 18 #[.slice A l.length c, featV f P p T t] w fun e w' => e = .returned (.bool true) ∧ Below w.heap.size w w' := by
  have hx := fun a w hl h0 ha => szFeatS_c A l c a w hl hn.2 hn.1 h0 ha
  change ∀ a w, _ → _ → _ → Calls _ _ _ _ (fun e w' => e = .returned (.int .i64 (lef (a - (sheetSz l : Int)))) ∧ _) at hx
  have hy := fun a w ht h0 ha => szFeat_c f P p T t a w ht hF h0 ha
  by_cases hs : (sheetSz l : Int) ≤ 1048576
  · have Hf := Lib.hid (lef_pos (show 0 ≤ 1048576 - (sheetSz l : Int) by omega))
    by_cases hs2 : (sheetSz l : Int) + featSz f ≤ 1048576
    · have Hf2 := Lib.hid (lef_pos (show 0 ≤ 1048576 - (sheetSz l : Int) - featSz f by omega))
      have F1 := Lib.hid (few_of (show sheetSz l ≤ 1048576 by omega))
      have X1 := Lib.hid (ftxs_of (show sheetSz l ≤ 1048576 by omega))
      have X2 := Lib.hid (ftx_of (show featSz f ≤ 1048576 by omega))
      have z0 : 0 ≤ 1048576 - (sheetSz l : Int) := by omega
      have z1 : 1048576 - (sheetSz l : Int) ≤ 1048576 := by omega
      have z2 : 0 ≤ 1048576 - (sheetSz l : Int) - featSz f := by omega
      have hmk := mkks_le 1 l
      have hb1 : (1 : Int) + 2 * ((l.length + featsSz l : Nat) : Int) ≤ 1073741824 := by unfold sheetSz at hs; omega
      have hmu : mkks 1 l ≤ 1000000000 := by unfold sheetSz at hs; omega
      have n1 := F1.out.1
      have n2 := X2.out.pts
      have n3 := X2.out.tags
      have hS := fun A c P p T t w hl hp ht hpc htd => sSheetPut_c A c l f P p T t w hl F1.out X1.out hp ht hpc htd X2.out
      have hI := fun A c P p T t w hl hp ht hpc htd => iSheetPut_c A c l f P p T t w hl F1.out X1.out hp ht hpc htd X2.out
      have hF3 := sput_few F1.out X2.out
      have hsz := sput_sz l f
      obtain ⟨r, b, hrb⟩ : ∃ r b, sput l f = (r, b) := ⟨_, _, rfl⟩
      rw [hrb] at hS hI hF3 hsz
      simp only [] at hF3 hsz
      have F3 := Lib.hid hF3
      have hb3 : (1 : Int) + 2 * ((r.length + featsSz r : Nat) : Int) ≤ 1073741824 := by unfold sheetSz at hs2; omega
      have hmk3 := mkks_le 1 r
      have HS := Lib.hid hS
      have HI := Lib.hid hI
      have HX := Lib.hid hx
      have HY := Lib.hid hy
      have Hb1 := Lib.hid hb1
      have Hb3 := Lib.hid hb3
      have hk0 : 1 ≤ mkks 1 l := hmk.1
      have t1 : decide (mkks 1 l + 2 * (f.2.1.2.length : Int) + 2 * (f.2.2.length : Int) < 0) = false := decide_eq_false (by omega)
      have t2 : decide (mkks 1 r < 0) = false := decide_eq_false (by omega)
      clear hS hI hrb hx hy hn hs hs2 hmk hb1 hb3 hmk3 hF3 hsz hF
      have HC : Cells (w.alloc (.cells #[.string f.1, .int .i64 f.2.1.1, .slice P f.2.1.2.length p, .slice T f.2.2.length t] 27)) _ := (Cells.nil w).box4 (Below.refl _ _)
      obtain ⟨h0, h1, h2, h3, _⟩ := HC.all
      go_enter Try.func18, Try.ntmps18
      go_wp2_with fail
      refine (HX.out _ _ (Kd.C_below hl bl) (by omega) (by omega)).mono ?_
      rintro e w1 ⟨rfl, hb1⟩
      rw [Hf.out]
      replace HC := HC.to hb1
      clear h0 h1 h2 h3
      obtain ⟨h0, h1, h2, h3, _⟩ := HC.all
      go_wp2_with fail
      refine (HY.out _ _ (Kd.C_below ht bl) z0 z1).mono ?_
      rintro e w2 ⟨rfl, hb2⟩
      rw [Hf2.out]
      replace HC := HC.to hb2
      clear h0 h1 h2 h3
      obtain ⟨h0, h1, h2, h3, _⟩ := HC.all
      go_wp2
      refine rgStart 10 [0, 2, 1, 3, 4, 5, 6, 7, 8, 9] l_FnExactSheetPut_t8 (fun HT HS_ => ?_)
      repeat ((with_reducible refine rgGate ?_); first | refine rgP HT ?_ | refine rgL HT ?_ | refine rgG HT ?_)
      refine rgCall HT Try.func28 (toFeatS_s A c l _ (Kd.C_below hl bl) F1.out) ?_
      rintro e w3 ⟨A3, c3, rfl, hs3, hb3⟩
      refine ⟨_, rfl, bl, rgN ?_⟩
      repeat ((with_reducible refine rgGate ?_); first | refine rgP HT ?_ | refine rgL HT ?_ | refine rgG HT ?_)
      refine rgCall HT Try.func21 (toFeat_c f P p T t _ (Kd.C_below hp bl) (Kd.C_below ht bl) n2 n3) ?_
      rintro e w4 ⟨P4, p4, T4, t4, rfl, hp4, ht4, hb4⟩
      refine ⟨_, rfl, bl, rgN ?_⟩
      repeat ((with_reducible refine rgGate ?_); first | refine rgP HT ?_ | refine rgL HT ?_ | refine rgG HT ?_)
      refine rgCall HT Try.func52 (HS.out A3 c3 P4 p4 T4 t4 _ (Kd.C_below hs3.C.2.2 bl) hp4.rd.2.2 ht4.rd.2.2 hp4.rd.2.1 ht4.rd.2.1) ?_
      rintro e w5 ⟨A5, c5, rfl, hs5, hb5⟩
      refine ⟨_, rfl, bl, rgN ?_⟩
      repeat ((with_reducible refine rgGate ?_); first | refine rgP HT ?_ | refine rgL HT ?_ | refine rgG HT ?_)
      refine rgDone HT ?_
      clear HT HS_
      simp only [] at hs5
      replace HC := HC.to (bl : Below w2.heap.size w2 w5)
      clear h0 h1 h2 h3
      obtain ⟨h0, h1, h2, h3, _⟩ := HC.all
      go_wp2_with fail
      refine (toFeatS_s A c l _ (Kd.C_below hl bl) F1.out).mono ?_
      rintro e w6 ⟨A6, c6, rfl, hs6, hb6⟩
      replace HC := HC.to hb6
      clear h0 h1 h2 h3
      obtain ⟨h0, h1, h2, h3, _⟩ := HC.all
      go_wp2_with fail
      refine (toFeat_c f P p T t _ (Kd.C_below hp bl) (Kd.C_below ht bl) n2 n3).mono ?_
      rintro e w7 ⟨P7, p7, T7, t7, rfl, hp7, ht7, hb7⟩
      replace HC : Cells (w7.alloc (.cells #[.string f.1, .int .i64 f.2.1.1, .slice P7 f.2.1.2.length p7, .slice T7 f.2.2.length t7] 35)) _ := (HC.to hb7).box4 (Below.refl _ _)
      clear h0 h1 h2 h3
      obtain ⟨h0, h1, h2, h3, h4, h5, h6, h7, _⟩ := HC.all
      go_wp2_with fail
      refine (HI.out A6 c6 P7 p7 T7 t7 _ (Kd.C_below hs6.C.2.2 bl) (Kd.C_below hp7.rd.2.2 bl) (Kd.C_below ht7.rd.2.2 bl) hp7.rd.2.1 ht7.rd.2.1).mono ?_
      rintro e w8 ⟨A8, c8, rfl, hs8, hb8⟩
      simp only [] at hs8
      replace HC := HC.to hb8
      clear h0 h1 h2 h3 h4 h5 h6 h7
      obtain ⟨h0, h1, h2, h3, h4, h5, h6, h7, _⟩ := HC.all
      go_wp2_with fail
      refine (eqFeatS_c A8 A5 c8 c5 r r _ hs8.C.2.2 (Kd.C_below hs5.C.2.2 bl) F3.out F3.out).mono ?_
      rintro e w9 ⟨rfl, hb9⟩
      rw [eqB_t.2 rfl]
      go_wp2_with fail
      refine (toFeatS_s A c l _ (Kd.C_below hl bl) F1.out).mono ?_
      rintro e w10 ⟨A10, c10, rfl, hs10, hb10⟩
      go_wp2_with fail
      refine (eqFeatS_c A6 A10 c6 c10 l l _ (Kd.C_below hs6.C.2.2 bl) hs10.C.2.2 F1.out F1.out).mono ?_
      rintro e w11 ⟨rfl, hb11⟩
      rw [eqB_t.2 rfl]
      replace HC := HC.to (bl : Below w8.heap.size w8 w11)
      clear h0 h1 h2 h3 h4 h5 h6 h7
      obtain ⟨h0, h1, h2, h3, h4, h5, h6, h7, _⟩ := HC.all
      go_wp2
      refine rgStart 5 [0, 1, 2, 3, 4] l_FnExactSheetPut_t16 (fun HT HS_ => ?_)
      repeat ((with_reducible refine rgGate ?_); first | refine rgP HT ?_ | refine rgL HT ?_ | refine rgG HT ?_)
      refine rgCall HT Try.func21 (toFeat_c f P p T t _ (Kd.C_below hp bl) (Kd.C_below ht bl) n2 n3) ?_
      rintro e w12 ⟨P12, p12, T12, t12, rfl, hp12, ht12, hb12⟩
      refine ⟨_, rfl, bl, rgN ?_⟩
      repeat ((with_reducible refine rgGate ?_); first | refine rgP HT ?_ | refine rgL HT ?_ | refine rgG HT ?_)
      refine rgCall HT Try.func23 (eqFeat_c f f P7 p7 T7 t7 P12 p12 T12 t12 _ (Kd.C_below hp7.rd.2.2 bl) (Kd.C_below ht7.rd.2.2 bl) hp12.rd.2.2 ht12.rd.2.2 n2 n3 n2 n3) ?_
      rintro e w13 ⟨rfl, hb13⟩
      refine ⟨_, rfl, bl, rgN ?_⟩
      rw [eqB_t.2 rfl]
      repeat ((with_reducible refine rgGate ?_); first | refine rgP HT ?_ | refine rgL HT ?_ | refine rgG HT ?_)
      refine rgDone HT ?_
      clear HT HS_
      replace HC := HC.to (bl : Below w11.heap.size w11 w13)
      have q0 : w.heap.size + 1 ≤ w5.heap.size := by have := (bl : Below (w.alloc (.cells #[.string f.1, .int .i64 f.2.1.1, .slice P f.2.1.2.length p, .slice T f.2.2.length t] 27)).heap.size (w.alloc (.cells #[.string f.1, .int .i64 f.2.1.1, .slice P f.2.1.2.length p, .slice T f.2.2.length t] 27)) w5).size; simpa using this
      have q4 : w.heap.size + 1 ≤ w4.heap.size := by have := (bl : Below (w.alloc (.cells #[.string f.1, .int .i64 f.2.1.1, .slice P f.2.1.2.length p, .slice T f.2.2.length t] 27)).heap.size (w.alloc (.cells #[.string f.1, .int .i64 f.2.1.1, .slice P f.2.1.2.length p, .slice T f.2.2.length t] 27)) w4).size; simpa using this
      have q5 := hb5.size
      have q6 := hb6.size
      have q7 := hb7.size
      have q8 := hb8.size
      simp only [World.size_alloc] at q8
      have q13 : w8.heap.size ≤ w13.heap.size := (bl : Below w8.heap.size w8 w13).size
      have S5 : Sep w13 w4.heap.size w5.heap.size (.slice A5 r.length c5) r := hs5.below bl
      have S6 : Sep w13 w5.heap.size w6.heap.size (.slice A6 l.length c6) l := hs6.below bl
      have p7' : RI kPt 108 w13 w6.heap.size w7.heap.size (.slice P7 f.2.1.2.length p7) f.2.1.2 := hp7.below bl
      have t7' : RI kTag 57 w13 w6.heap.size w7.heap.size (.slice T7 f.2.2.length t7) f.2.2 := ht7.below bl
      have S8 : Sep w13 (w7.heap.size + 1) w8.heap.size (.slice A8 r.length c8) r := by have := hs8.below (bl : Below w8.heap.size w8 w13); simpa only [World.size_alloc] using this
      have B13 : Below w.heap.size w w13 := bl
      clear hs3 hp4 ht4 hs5 hs6 hp7 ht7 hs8 hs10 hp12 ht12 HS HX HY
      clear h0 h1 h2 h3 h4 h5 h6 h7
      obtain ⟨h0, h1, h2, h3, h4, h5, h6, h7, _⟩ := HC.all
      go_wp2_with fail
      refine (markFeatS_c A6 c6 l 1 w5.heap.size w6.heap.size _ S6 F1.out (by omega) Hb1.out (by omega) (by omega)).mono ?_
      rintro e w14 ⟨rfl, m6, hx14⟩
      have q14 := hx14.1.size
      replace S5 := S5.ex hx14 (Or.inl (by omega))
      replace p7' := p7'.ex hx14 (Or.inr (by omega))
      replace t7' := t7'.ex hx14 (Or.inr (by omega))
      replace S8 := S8.ex hx14 (Or.inr (by omega))
      replace HC := HC.ex hx14 (fun x hx_ => by simp only [List.mem_cons, List.mem_nil_iff, or_false] at hx_; rcases hx_ with rfl | rfl | rfl | rfl | rfl | rfl | rfl | rfl <;> simp only [] <;> omega)
      have B14 : Below w.heap.size w w14 := B13.trans (hx14.1.mono (by omega))
      clear m6 S6 B13
      clear h0 h1 h2 h3 h4 h5 h6 h7
      obtain ⟨h0, h1, h2, h3, h4, h5, h6, h7, _⟩ := HC.all
      go_wp2_with fail
      refine (markFeat_k f P7 p7 T7 t7 (mkks 1 l) w6.heap.size w7.heap.size _ p7' t7' n2 n3 hk0 hmu (by omega) (by omega)).mono ?_
      rintro e w15 ⟨rfl, hx15⟩
      have q15 := hx15.1.size
      replace S5 := S5.ex hx15 (Or.inl (by omega))
      replace S8 := S8.ex hx15 (Or.inr (by omega))
      replace HC := HC.ex hx15 (fun x hx_ => by simp only [List.mem_cons, List.mem_nil_iff, or_false] at hx_; rcases hx_ with rfl | rfl | rfl | rfl | rfl | rfl | rfl | rfl <;> simp only [] <;> omega)
      have B15 : Below w.heap.size w w15 := B14.trans (hx15.1.mono (by omega))
      clear p7' t7' B14
      clear h0 h1 h2 h3 h4 h5 h6 h7
      obtain ⟨h0, h1, h2, h3, h4, h5, h6, h7, _⟩ := HC.all
      go_wp2_with fail
      refine (eqFeatS_c A8 A5 c8 c5 r r _ S8.C.2.2 S5.C.2.2 F3.out F3.out).mono ?_
      rintro e w16 ⟨rfl, hb16⟩
      rw [eqB_t.2 rfl]
      replace S5 := S5.below hb16
      replace S8 := S8.below hb16
      replace HC := HC.to hb16
      have B16 : Below w.heap.size w w16 := bl
      have q16 := hb16.size
      clear h0 h1 h2 h3 h4 h5 h6 h7
      obtain ⟨h0, h1, h2, h3, h4, h5, h6, h7, _⟩ := HC.all
      go_wp2_with fail
      refine (markFeatS_c A8 c8 r 1 (w7.heap.size + 1) w8.heap.size _ S8 F3.out (by omega) Hb3.out (by omega) (by omega)).mono ?_
      rintro e w17 ⟨rfl, m8, hx17⟩
      have q17 := hx17.1.size
      replace S5 := S5.ex hx17 (Or.inl (by omega))
      replace HC := HC.ex hx17 (fun x hx_ => by simp only [List.mem_cons, List.mem_nil_iff, or_false] at hx_; rcases hx_ with rfl | rfl | rfl | rfl | rfl | rfl | rfl | rfl <;> simp only [] <;> omega)
      have B17 : Below w.heap.size w w17 := B16.trans (hx17.1.mono (by omega))
      clear S8 B15 B16
      clear h0 h1 h2 h3 h4 h5 h6 h7
      obtain ⟨h0, h1, h2, h3, h4, h5, h6, h7, _⟩ := HC.all
      go_wp2_with fail
      refine (heldFeatS_c A8 c8 r 1 _ m8 F3.out (by omega) Hb3.out).mono ?_
      rintro e w18 ⟨rfl, hb18⟩
      replace HC := HC.to hb18
      clear h0 h1 h2 h3 h4 h5 h6 h7
      obtain ⟨h0, h1, h2, h3, h4, h5, h6, h7, _⟩ := HC.all
      go_wp2
      refine rgStart 10 [0, 2, 1, 3, 4, 5, 6, 7, 8, 9] l_FnExactSheetPut_t31 (fun HT HS_ => ?_)
      repeat ((with_reducible refine rgGate ?_); first | refine rgP HT ?_ | refine rgL HT ?_ | refine rgG HT ?_)
      refine rgCall HT Try.func28 (toFeatS_s A c l _ (Kd.C_below hl bl) F1.out) ?_
      rintro e w19 ⟨A19, c19, rfl, hs19, hb19⟩
      refine ⟨_, rfl, bl, rgN ?_⟩
      repeat ((with_reducible refine rgGate ?_); first | refine rgP HT ?_ | refine rgL HT ?_ | refine rgG HT ?_)
      refine rgCall HT Try.func21 (toFeat_c f P p T t _ (Kd.C_below hp bl) (Kd.C_below ht bl) n2 n3) ?_
      rintro e w20 ⟨P20, p20, T20, t20, rfl, hp20, ht20, hb20⟩
      refine ⟨_, rfl, bl, rgN ?_⟩
      repeat ((with_reducible refine rgGate ?_); first | refine rgP HT ?_ | refine rgL HT ?_ | refine rgG HT ?_)
      refine rgCall HT Try.func51 (HI.out A19 c19 P20 p20 T20 t20 _ (Kd.C_below hs19.C.2.2 bl) hp20.rd.2.2 ht20.rd.2.2 hp20.rd.2.1 ht20.rd.2.1) ?_
      rintro e w21 ⟨A21, c21, rfl, hs21, hb21⟩
      refine ⟨_, rfl, bl, rgN ?_⟩
      repeat ((with_reducible refine rgGate ?_); first | refine rgP HT ?_ | refine rgL HT ?_ | refine rgG HT ?_)
      refine rgDone HT ?_
      clear HT HS_
      simp only [] at hs21
      go_wp2_with fail
      refine (eqFeatS_c A21 A5 c21 c5 r r _ hs21.C.2.2 (Kd.C_below S5.C.2.2 bl) F3.out F3.out).mono ?_
      rintro e w22 ⟨rfl, hb22⟩
      rw [eqB_t.2 rfl]
      go_wp2_with fail
      refine (heldFeatS_c A8 c8 r 1 _ (Kd.C_below m8 bl) F3.out (by omega) Hb3.out).mono ?_
      rintro e w23 ⟨rfl, hb23⟩
      go_wp2
      go_ret
      exact ⟨rfl, bl⟩
    · have Hf2 := Lib.hid (lef_neg (show 1048576 - (sheetSz l : Int) - featSz f < 0 by omega))
      have z0 : 0 ≤ 1048576 - (sheetSz l : Int) := by omega
      have z1 : 1048576 - (sheetSz l : Int) ≤ 1048576 := by omega
      have HX := Lib.hid hx
      have HY := Lib.hid hy
      clear hx hy hn hF
      have HC : Cells (w.alloc (.cells #[.string f.1, .int .i64 f.2.1.1, .slice P f.2.1.2.length p, .slice T f.2.2.length t] 27)) _ := (Cells.nil w).box4 (Below.refl _ _)
      obtain ⟨h0, h1, h2, h3, _⟩ := HC.all
      go_enter Try.func18, Try.ntmps18
      go_wp2_with fail
      refine (HX.out _ _ (Kd.C_below hl bl) (by omega) (by omega)).mono ?_
      rintro e w1 ⟨rfl, hb1⟩
      rw [Hf.out]
      replace HC := HC.to hb1
      clear h0 h1 h2 h3
      obtain ⟨h0, h1, h2, h3, _⟩ := HC.all
      go_wp2_with fail
      refine (HY.out _ _ (Kd.C_below ht bl) z0 z1).mono ?_
      rintro e w2 ⟨rfl, hb2⟩
      rw [Hf2.out]
      go_wp2
      go_ret
      exact ⟨rfl, bl⟩
  · have Hf := Lib.hid (lef_neg (show 1048576 - (sheetSz l : Int) < 0 by omega))
    have HX := Lib.hid hx
    clear hx hy
    go_enter Try.func18, Try.ntmps18
    go_wp2_with fail
    refine (HX.out _ _ (Kd.C_below hl bl) (by omega) (by omega)).mono ?_
    rintro e w1 ⟨rfl, hb1⟩
    rw [Hf.out]
    go_wp2
    go_ret
    exact ⟨rfl, bl⟩
end Go.Proofs.Ytlebgjafaioajaa
