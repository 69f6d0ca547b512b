/- Law: the program's FeatPut answers what the reference's answers, shares no memory; its argument reads as before. -/
import Derived.Test.YtlebgjafaioajaaFt
import Derived.Test.YtlebgjafaioajaaFi
import Derived.Test.YtlebgjafaioajaaLFeatOk
namespace Go.Proofs.Ytlebgjafaioajaa
open Go.RowKit Go.Proofs.YtlebgjafaioajaaW.PrintWords Go.Proofs.YtlebgjafaioajaaW.PrintLast
set_option maxRecDepth 100000
set_option linter.unusedVariables false
set_option linter.unusedSimpArgs false
def l_FnExactFeatPut_T14 : Bool × List (List Nat × List Nat) := (true, [([], []), ([], []), ([1], [1]), ([0, 2, 2], [0, 2]), ([3], [3])])
theorem l_FnExactFeatPut_t14 : rtab .any (opsOf Try.f17 14) = l_FnExactFeatPut_T14 := by kernel_rfl
set_option maxHeartbeats 8000000 in
theorem FnExactFeatPut_c (f : FeatD) (A : Option Addr) (c : Nat) (B : Option Addr) (d : Nat) (key val : ByteArray) (w : World) (hl : kPt.C w A f.2.1.2.length f.2.1.2) (hm : kTag.C w B f.2.2.length f.2.2) (hF : FIn f) (hk : key.size ≤ 140737488351232) (hv : val.size ≤ 140737488351232) :
    Calls Try.prog 17 #[featV f A c B d, .string key, .string val] w fun e w' => e = .returned (.bool true) ∧ Below w.heap.size w w' := by
  have hx := fun a w hm h0 ha => szFeat_c f A c B d a w hm hF h0 ha
  by_cases hs_key : (key.size : Int) ≤ 1048576
  · have k_key : decide ((1048576 : Int) < (key.size : Int)) = false := decide_eq_false (by omega)
    by_cases hs_val : (val.size : Int) ≤ 1048576
    · have k_val : decide ((1048576 : Int) < (val.size : Int)) = false := decide_eq_false (by omega)
      by_cases hs : (featSz f : Int) ≤ 1048576
      · have Hf := Lib.hid (lef_pos (show 0 ≤ 1048576 - (featSz f : Int) by omega))
        have HX := Lib.hid hx
        have HT := Lib.hid (ftx_of (show featSz f ≤ 1048576 by omega))
        have n1 := HT.out.pts
        have n2 := HT.out.tags
        have z2 : 0 ≤ 1048576 - (featSz f : Int) := by omega
        clear hx
        have hS := fun A c B d w hl hm => sFeatPut_c f A c B d key val w hl hm HT.out hk hv
        have hI := fun A c B d w hl hm => iFeatPut_c f A c B d key val w hl hm HT.out hk hv
        obtain ⟨n3, n4⟩ := fput_le f key val n1 n2
        obtain ⟨r, b, hrb⟩ : ∃ r b, fput f key val = (r, b) := ⟨_, _, rfl⟩
        rw [hrb] at hS hI n3 n4
        simp only [] at n3 n4
        have HS := Lib.hid hS
        have HI := Lib.hid hI
        clear hS hI hrb hF hs
        go_enter Try.func17, Try.ntmps17
        go_wp2_with fail
        refine (HX.out _ _ (Kd.C_below hm bl) (by omega) (by omega)).mono ?_
        rintro e w1 ⟨rfl, hb1⟩
        rw [Hf.out]
        have HC := (Cells.nil w).box4 hb1
        obtain ⟨h0, h1, h2, h3, _⟩ := HC.all
        go_wp2_with fail
        refine (toFeat_c f A c B d _ (Kd.C_below hl bl) (Kd.C_below hm bl) n1 n2).mono ?_
        rintro e w2 ⟨A2, c2, B2, d2, rfl, hr2, ht2, hb2⟩
        replace HC := HC.to hb2
        clear h0 h1 h2 h3
        obtain ⟨h0, h1, h2, h3, _⟩ := HC.all
        go_wp2_with fail
        refine (HS.out A2 c2 B2 d2 _ (Kd.C_below hr2.rd.2.2 bl) (Kd.C_below ht2.rd.2.2 bl)).mono ?_
        rintro e w3 ⟨A3, c3, B3, d3, rfl, hr3, ht3, hb3⟩
        replace HC : Cells (w3.alloc (.cells #[.string r.1, .int .i64 r.2.1.1, .slice A3 r.2.1.2.length c3, .slice B3 r.2.2.length d3] 35)) _ := (HC.to hb3).box4 (Below.refl _ _)
        clear h0 h1 h2 h3
        obtain ⟨h0, h1, h2, h3, h4, h5, h6, h7, _⟩ := HC.all
        go_wp2_with fail
        refine (toFeat_c f A c B d _ (Kd.C_below hl bl) (Kd.C_below hm bl) n1 n2).mono ?_
        rintro e w4 ⟨A4, c4, B4, d4, rfl, hr4, ht4, hb4⟩
        replace HC : Cells (w4.alloc (.cells #[.string f.1, .int .i64 f.2.1.1, .slice A4 f.2.1.2.length c4, .slice B4 f.2.2.length d4] 35)) _ := (HC.to hb4).box4 (Below.refl _ _)
        clear h0 h1 h2 h3 h4 h5 h6 h7
        obtain ⟨h0, h1, h2, h3, h4, h5, h6, h7, h8, h9, h10, h11, _⟩ := HC.all
        go_wp2_with fail
        refine (HI.out A4 c4 B4 d4 _ (Kd.C_below hr4.rd.2.2 bl) (Kd.C_below ht4.rd.2.2 bl)).mono ?_
        rintro e w5 ⟨A5, c5, B5, d5, rfl, hr5, ht5, hb5⟩
        replace HC : Cells (w5.alloc (.cells #[.string r.1, .int .i64 r.2.1.1, .slice A5 r.2.1.2.length c5, .slice B5 r.2.2.length d5] 35)) _ := (HC.to hb5).box4 (Below.refl _ _)
        clear h0 h1 h2 h3 h4 h5 h6 h7 h8 h9 h10 h11
        obtain ⟨h0, h1, h2, h3, h4, h5, h6, h7, h8, h9, h10, h11, h12, h13, h14, h15, _⟩ := HC.all
        simp only [] at hr3 ht3 hr5 ht5
        go_wp2_with fail
        refine (eqFeat_c r r A5 c5 B5 d5 A3 c3 B3 d3 _ (Kd.C_below hr5.rd.2.2 bl) (Kd.C_below ht5.rd.2.2 bl) (Kd.C_below hr3.rd.2.2 bl) (Kd.C_below ht3.rd.2.2 bl) n3 n4 n3 n4).mono ?_
        rintro e w6 ⟨rfl, hb6⟩
        rw [eqB_t.2 rfl]
        replace HC := HC.to hb6
        clear h0 h1 h2 h3 h4 h5 h6 h7 h8 h9 h10 h11 h12 h13 h14 h15
        obtain ⟨h0, h1, h2, h3, h4, h5, h6, h7, h8, h9, h10, h11, h12, h13, h14, h15, _⟩ := HC.all
        go_wp2
        refine rgStart 5 [0, 1, 2, 3, 4] l_FnExactFeatPut_t14 (fun HT HS => ?_)
        repeat ((with_reducible refine rgGate ?_); first | refine rgP HT ?_ | refine rgL HT ?_ | refine rgG HT ?_)
        refine rgCall HT Try.func21 (toFeat_c f A c B d _ (Kd.C_below hl bl) (Kd.C_below hm bl) n1 n2) ?_
        rintro e w7 ⟨A7, c7, B7, d7, rfl, hr7, ht7, hb7⟩
        refine ⟨_, rfl, bl, rgN ?_⟩
        repeat ((with_reducible refine rgGate ?_); first | refine rgP HT ?_ | refine rgL HT ?_ | refine rgG HT ?_)
        refine rgCall HT Try.func23 (eqFeat_c f f A4 c4 B4 d4 A7 c7 B7 d7 _ (Kd.C_below hr4.rd.2.2 bl) (Kd.C_below ht4.rd.2.2 bl) hr7.rd.2.2 ht7.rd.2.2 n1 n2 n1 n2) ?_
        rintro e w8 ⟨rfl, hb8⟩
        refine ⟨_, rfl, bl, rgN ?_⟩
        rw [eqB_t.2 rfl]
        repeat ((with_reducible refine rgGate ?_); first | refine rgP HT ?_ | refine rgL HT ?_ | refine rgG HT ?_)
        refine rgDone HT ?_
        clear HT HS
        replace HC := HC.to (bl : Below w6.heap.size w6 w8)
        have s1 := hb1.size
        have s2 := hb2.size
        have s3 := hb3.size
        have s4 := hb4.size
        have s5 := hb5.size
        have s6 := hb6.size
        have s7 : w6.heap.size ≤ w8.heap.size := (bl : Below w6.heap.size w6 w8).size
        simp only [World.size_alloc] at s1 s4 s5 s6
        have r3 : RI kPt 108 w8 w2.heap.size w3.heap.size (.slice A3 r.2.1.2.length c3) r.2.1.2 := hr3.below bl
        have t3 : RI kTag 57 w8 w2.heap.size w3.heap.size (.slice B3 r.2.2.length d3) r.2.2 := ht3.below bl
        have r4 : RI kPt 108 w8 (w3.heap.size + 1) w4.heap.size (.slice A4 f.2.1.2.length c4) f.2.1.2 := by have := hr4.below (bl : Below w4.heap.size w4 w8); simpa only [World.size_alloc] using this
        have t4 : RI kTag 57 w8 (w3.heap.size + 1) w4.heap.size (.slice B4 f.2.2.length d4) f.2.2 := by have := ht4.below (bl : Below w4.heap.size w4 w8); simpa only [World.size_alloc] using this
        have r5 : RI kPt 108 w8 (w4.heap.size + 1) w5.heap.size (.slice A5 r.2.1.2.length c5) r.2.1.2 := by have := hr5.below (bl : Below w5.heap.size w5 w8); simpa only [World.size_alloc] using this
        have t5 : RI kTag 57 w8 (w4.heap.size + 1) w5.heap.size (.slice B5 r.2.2.length d5) r.2.2 := by have := ht5.below (bl : Below w5.heap.size w5 w8); simpa only [World.size_alloc] using this
        have B8 : Below w.heap.size w w8 := bl
        clear hr2 ht2 hr3 ht3 hr4 ht4 hr5 ht5 hr7 ht7 HS HX
        clear h0 h1 h2 h3 h4 h5 h6 h7 h8 h9 h10 h11 h12 h13 h14 h15
        obtain ⟨h0, h1, h2, h3, h4, h5, h6, h7, h8, h9, h10, h11, h12, h13, h14, h15, _⟩ := HC.all
        go_wp2_with fail
        refine (markFeat_c f A4 c4 B4 d4 (w3.heap.size + 1) w4.heap.size _ r4 t4 n1 n2 (by omega) (by omega)).mono ?_
        rintro e w9 ⟨rfl, m4, m4', hx9⟩
        replace r3 := r3.ex hx9 (Or.inl (by omega))
        replace t3 := t3.ex hx9 (Or.inl (by omega))
        replace r5 := r5.ex hx9 (Or.inr (by omega))
        replace t5 := t5.ex hx9 (Or.inr (by omega))
        replace HC := HC.ex hx9 (fun x hx_ => by simp only [List.mem_cons, List.mem_nil_iff, or_false] at hx_; rcases hx_ with rfl | rfl | rfl | rfl | rfl | rfl | rfl | rfl | rfl | rfl | rfl | rfl | rfl | rfl | rfl | rfl <;> simp only [] <;> omega)
        have B9 : Below w.heap.size w w9 := B8.trans (hx9.1.mono (by omega))
        have t1 : decide (1 + 2 * (f.2.1.2.length : Int) + 2 * (f.2.2.length : Int) < 0) = false := by simp; omega
        clear m4 m4' r4 t4
        clear h0 h1 h2 h3 h4 h5 h6 h7 h8 h9 h10 h11 h12 h13 h14 h15
        obtain ⟨h0, h1, h2, h3, h4, h5, h6, h7, h8, h9, h10, h11, h12, h13, h14, h15, _⟩ := HC.all
        go_wp2_with fail
        refine (eqFeat_c r r A5 c5 B5 d5 A3 c3 B3 d3 _ r5.rd.2.2 t5.rd.2.2 r3.rd.2.2 t3.rd.2.2 n3 n4 n3 n4).mono ?_
        rintro e w10 ⟨rfl, hb10⟩
        rw [eqB_t.2 rfl]
        replace r3 := r3.below hb10
        replace t3 := t3.below hb10
        replace r5 := r5.below hb10
        replace t5 := t5.below hb10
        replace HC := HC.to hb10
        have B10 : Below w.heap.size w w10 := bl
        have s9 := hx9.1.size
        have s10 := hb10.size
        clear h0 h1 h2 h3 h4 h5 h6 h7 h8 h9 h10 h11 h12 h13 h14 h15
        obtain ⟨h0, h1, h2, h3, h4, h5, h6, h7, h8, h9, h10, h11, h12, h13, h14, h15, _⟩ := HC.all
        go_wp2_with fail
        refine (markFeat_c r A5 c5 B5 d5 (w4.heap.size + 1) w5.heap.size _ r5 t5 n3 n4 (by omega) (by omega)).mono ?_
        rintro e w11 ⟨rfl, m5, m5', hx11⟩
        replace r3 := r3.ex hx11 (Or.inl (by omega))
        replace t3 := t3.ex hx11 (Or.inl (by omega))
        replace HC := HC.ex hx11 (fun x hx_ => by simp only [List.mem_cons, List.mem_nil_iff, or_false] at hx_; rcases hx_ with rfl | rfl | rfl | rfl | rfl | rfl | rfl | rfl | rfl | rfl | rfl | rfl | rfl | rfl | rfl | rfl <;> simp only [] <;> omega)
        have B11 : Below w.heap.size w w11 := B10.trans (hx11.1.mono (by omega))
        have t2 : decide (1 + 2 * (r.2.1.2.length : Int) + 2 * (r.2.2.length : Int) < 0) = false := by simp; omega
        clear r5 t5 B8 B9
        clear h0 h1 h2 h3 h4 h5 h6 h7 h8 h9 h10 h11 h12 h13 h14 h15
        obtain ⟨h0, h1, h2, h3, h4, h5, h6, h7, h8, h9, h10, h11, h12, h13, h14, h15, _⟩ := HC.all
        go_wp2_with fail
        refine (heldFeat_c r A5 c5 _ B5 d5 _ r.1 r.2.1.1 _ m5 m5' n3 n4).mono ?_
        rintro e w12 ⟨rfl, hb12⟩
        replace HC := HC.to hb12
        clear h0 h1 h2 h3 h4 h5 h6 h7 h8 h9 h10 h11 h12 h13 h14 h15
        obtain ⟨h0, h1, h2, h3, h4, h5, h6, h7, h8, h9, h10, h11, h12, h13, h14, h15, _⟩ := HC.all
        go_wp2_with fail
        refine (toFeat_c f A c B d _ (Kd.C_below hl bl) (Kd.C_below hm bl) n1 n2).mono ?_
        rintro e w13 ⟨A13, c13, B13, d13, rfl, hr13, ht13, hb13⟩
        replace HC := HC.to hb13
        clear h0 h1 h2 h3 h4 h5 h6 h7 h8 h9 h10 h11 h12 h13 h14 h15
        obtain ⟨h0, h1, h2, h3, h4, h5, h6, h7, h8, h9, h10, h11, h12, h13, h14, h15, _⟩ := HC.all
        go_wp2_with fail
        refine (HI.out A13 c13 B13 d13 _ hr13.rd.2.2 ht13.rd.2.2).mono ?_
        rintro e w14 ⟨A14, c14, B14, d14, rfl, hr14, ht14, hb14⟩
        simp only [] at hr14 ht14
        replace HC : Cells (w14.alloc (.cells #[.string r.1, .int .i64 r.2.1.1, .slice A14 r.2.1.2.length c14, .slice B14 r.2.2.length d14] 35)) _ := (HC.to hb14).box4 (Below.refl _ _)
        clear h0 h1 h2 h3 h4 h5 h6 h7 h8 h9 h10 h11 h12 h13 h14 h15
        obtain ⟨h0, h1, h2, h3, h4, h5, h6, h7, h8, h9, h10, h11, h12, h13, h14, h15, h16, h17, h18, h19, _⟩ := HC.all
        go_wp2_with fail
        refine (eqFeat_c r r A14 c14 B14 d14 A3 c3 B3 d3 _ (Kd.C_below hr14.rd.2.2 bl) (Kd.C_below ht14.rd.2.2 bl) (Kd.C_below r3.rd.2.2 bl) (Kd.C_below t3.rd.2.2 bl) n3 n4 n3 n4).mono ?_
        rintro e w15 ⟨rfl, hb15⟩
        rw [eqB_t.2 rfl]
        replace HC := HC.to hb15
        clear h0 h1 h2 h3 h4 h5 h6 h7 h8 h9 h10 h11 h12 h13 h14 h15 h16 h17 h18 h19
        obtain ⟨h0, h1, h2, h3, h4, h5, h6, h7, h8, h9, h10, h11, h12, h13, h14, h15, h16, h17, h18, h19, _⟩ := HC.all
        go_wp2_with fail
        refine (heldFeat_c r A5 c5 _ B5 d5 _ r.1 r.2.1.1 _ (Kd.C_below m5 bl) (Kd.C_below m5' bl) n3 n4).mono ?_
        rintro e w16 ⟨rfl, hb16⟩
        go_wp2
        go_ret
        exact ⟨rfl, bl⟩
      · have Hf := Lib.hid (lef_neg (show 1048576 - (featSz f : Int) < 0 by omega))
        have HX := Lib.hid hx
        clear hx
        go_enter Try.func17, Try.ntmps17
        go_wp2_with fail
        refine (HX.out _ _ (Kd.C_below hm bl) (by omega) (by omega)).mono ?_
        rintro e w1 ⟨rfl, hb1⟩
        rw [Hf.out]
        go_wp2
        go_ret
        exact ⟨rfl, bl⟩
    · have k_val : decide ((1048576 : Int) < (val.size : Int)) = true := decide_eq_true (by omega)
      clear hx
      go_enter Try.func17, Try.ntmps17
      go_wp2
      go_ret
      exact ⟨rfl, bl⟩
  · have k_key : decide ((1048576 : Int) < (key.size : Int)) = true := decide_eq_true (by omega)
    clear hx
    go_enter Try.func17, Try.ntmps17
    go_wp2
    go_ret
    exact ⟨rfl, bl⟩
end Go.Proofs.Ytlebgjafaioajaa
