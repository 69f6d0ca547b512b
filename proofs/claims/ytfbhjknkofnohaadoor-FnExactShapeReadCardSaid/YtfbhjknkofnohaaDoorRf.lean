/- Contracts: the program's ShapeRead. -/
import Derived.Test.YtfbhjknkofnohaaDoorRe
namespace Go.Proofs.YtfbhjknkofnohaaDoor
open Go.RowKit Go.Proofs.YtfbhjknkofnohaaDoorW.PrintWords Go.Proofs.YtfbhjknkofnohaaDoorW.PrintLast
set_option maxRecDepth 100000
set_option linter.unusedVariables false
set_option linter.unusedSimpArgs false
attribute [local go_sem] cell_set_far cell_set_off
theorem shText_pos {K : Int} {l : List Pt} (h : ShapeOk K l) : 0 < (shText K l).size := by
  rw [← bts_len, shText_words, join_flat]
  have : 0 < (bts (kindW K)).length := by rcases h.kind with rfl | rfl | rfl <;> decide
  rw [List.length_append]
  omega
set_option maxHeartbeats 4000000 in
theorem iShapeRead_c (s : ByteArray) (w : World) (hs : s.size ≤ 1048576) (T : TiedR w) :
    Calls Tryd.prog 12 #[.string s] w (ShOut s w) := by
  have HT0 := (B2.new (u := .int .i64 0) (v := .slice none 0 0) (t := 30) w)
  have Ba := below_alloc (Below.refl w.heap.size w) (.cells #[.int .i64 0, .slice none 0 0] 30)
  by_cases he : s = ⟨#[]⟩
  · have t2 : s.toList = [] := by rw [he]; simp
    have t1 : s.toList.isEmpty = true := by rw [t2]; rfl
    have hno := Lib.hid (show ∀ K' l', ShapeOk K' l' → s ≠ shText K' l' from fun K' l' hok e => by
      have h1 := shText_pos hok
      rw [← e, he] at h1
      exact absurd h1 (by decide))
    obtain ⟨x0, x1, x2, x3, x4⟩ := HT0.f
    clear he
    go_enter Tryd.func12, Tryd.ntmps12
    go_wp2
    refine bodyPost_ret (v := .tuple #[.agg #[.int .i64 0, .slice none 0 0], .bool false]) (by simp [results, Tryd.results12, go_sem, *]) rfl (ShOut.no (by first | exact bl | exact (Ba.setCell (by simp) _).setCell (by simp) _) hno.out)
  · have t2 : ¬ (s.toList = []) := fun e => he (by
      have h1 := strB_f (s := s) (t := ⟨#[]⟩) he
      rw [e] at h1
      simp at h1)
    have t1 : s.toList.isEmpty = false := by
      cases h : s.toList with
      | nil => exact absurd h t2
      | cons a b => rfl
    by_cases h100 : (s.size : Int) ≤ 100
    · have d1 : decide ((100 : Int) < (s.size : Int)) = false := decide_eq_false (by omega)
      have He := Lib.hid he
      clear he
      go_enter Tryd.func12, Tryd.ntmps12
      go_wp2_with fail
      refine (Split_c s 32 _ hs (T.to Ba)).mono ?_
      rintro e w1 ⟨b1, ws, rfl, hws, hC1, hb1⟩
      have hpos : 0 < ws.length := by
        have := congrArg List.length hws
        rw [List.length_map] at this
        have h2 := List.length_pos_iff.2 (splitL_ne 32 (bts s))
        omega
      have hlen : ws.length ≤ s.size + 1 := by
        have h1 := congrArg List.length hws
        rw [List.length_map] at h1
        have h2 := splitL_len 32 (bts s)
        rw [bts_len] at h2
        omega
      have hwz : ∀ u ∈ ws, u.size ≤ 1048576 := fun u hu => by
        obtain ⟨i, hi, rfl⟩ := List.getElem_of_mem hu
        have := word_size hws hi
        omega
      have HW := Lib.hid hws
      clear hws
      have B1 := Ba.trans (hb1.mono Ba.size)
      have HT1 := HT0.to hb1
      go_wp2_with fail
      refine (shapeRead_c _ _ ws _ hC1 (Nat.le_refl _) hpos (by omega) hwz (T.to B1)).mono ?_
      rintro e w2 ⟨K, A, c, l, rfl, hr2, hb2, hl2, hin⟩
      have HI := Lib.hid hin
      have Hwz := Lib.hid hwz
      have HC1 := Lib.hid hC1
      clear hin hC1 hwz
      have B2_ := B1.trans (hb2.mono B1.size)
      have HT2 := HT1.to hb2
      have z2 : w.heap.size < w1.heap.size := HT1.f.2.2.2.2
      have b3 : Below w2.heap.size w2 (w2.alloc (.cells #[.int .i64 K, .slice A l.length c] 30)) := below_alloc (Below.refl w2.heap.size w2) _
      have HN3 := (B2.new (u := .int .i64 K) (v := .slice A l.length c) (t := 30) w2)
      have HT3 := HT2.to b3
      have hr3 := hr2.below b3
      have B3 := B2_.trans (b3.mono B2_.size)
      have hn3 : (w2.heap.size == w.heap.size) = false := by rw [beq_eq_false_iff_ne]; have := HT2.f.2.2.2.2; omega
      clear hb1 hb2 B1 HT0 HT1 HT2 hr2 b3 Ba
      go_upto_region 4 with (fail)
      generalize w2.alloc (.cells #[.int .i64 K, .slice A l.length c] 30) = w3 at *
      generalize w2.heap.size = g at *
      obtain ⟨y0, y1, y2, y3, y4⟩ := HN3.f
      go_wp2_with fail
      refine (iShapeT_c K A c l _ hr3.rd.2.2 (by omega) (T.to B3).td).mono ?_
      rintro e w4 ⟨rfl, hb4⟩
      have HN4 := HN3.to hb4
      have HT4 := HT3.to hb4
      have hr4 := hr3.below hb4
      have B4_ := B3.trans (hb4.mono B3.size)
      clear y0 y1 y2 y3 y4 HN3 HT3 hr3 B3 B2_
      obtain ⟨y0, y1, y2, y3, y4⟩ := HN4.f
      obtain ⟨x0, x1, x2, x3, x4⟩ := HT4.f
      by_cases hq : shapeT K l = s
      · have t3 := strB_t hq
        have Hyes := Lib.hid (show ShapeOk K l ∧ s = shText K l from by
          by_cases hok : ShapeOk K l
          · exact ⟨hok, hq.symm.trans (if_pos hok)⟩
          · exact absurd (hq.symm.trans (if_neg hok)) He.out)
        have l6 : l.length ≤ 1048576 := by omega
        have R9 := Lib.hid (((hr4.far (p := ⟨w.heap.size, 0, none⟩) (Or.inl z2) (.int .i64 K)).far (p := ⟨w.heap.size, 1, none⟩) (Or.inl z2) (.slice A l.length c)))
        have hq2 := Lib.hid hq
        clear hq
        generalize shapeT K l = st at *
        go_wp2
        refine bodyPost_ret (v := .tuple #[.agg #[.int .i64 K, .slice A l.length c], .bool true]) (by simp [results, Tryd.results12, go_sem, *]) rfl ⟨K, A, c, l, true, rfl, R9.out.wide (Nat.le_of_lt z2) (by simp; omega), (B4_.setCell (by simp) _).setCell (by simp) _, l6, fun _ => Hyes.out, (fun h => by cases h)⟩
      · have t3 := strB_f hq
        have Hno := Lib.hid (show ∀ K' l', ShapeOk K' l' → s ≠ shText K' l' from fun K' l' hok e => by
          obtain ⟨e1, e2⟩ := HI.out K' l' hok ((shText_words' HW.out hok).1 e)
          rw [e1, e2] at hq
          exact hq ((if_pos hok).trans e.symm))
        clear hq
        generalize shapeT K l = st at *
        go_wp2
        refine bodyPost_ret (v := .tuple #[.agg #[.int .i64 0, .slice none 0 0], .bool false]) (by simp [results, Tryd.results12, go_sem, *]) rfl (ShOut.no (by first | exact bl | exact (B4_.setCell (by simp) _).setCell (by simp) _) Hno.out)
    · have d1 : decide ((100 : Int) < (s.size : Int)) = true := decide_eq_true (by omega)
      have hno := Lib.hid (show ∀ K' l', ShapeOk K' l' → s ≠ shText K' l' from fun K l h e => by have := shText_76 h; rw [← e] at this; omega)
      obtain ⟨x0, x1, x2, x3, x4⟩ := HT0.f
      clear he
      go_enter Tryd.func12, Tryd.ntmps12
      go_wp2
      refine bodyPost_ret (v := .tuple #[.agg #[.int .i64 0, .slice none 0 0], .bool false]) (by simp [results, Tryd.results12, go_sem, *]) rfl (ShOut.no (by first | exact bl | exact (Ba.setCell (by simp) _).setCell (by simp) _) hno.out)
end Go.Proofs.YtfbhjknkofnohaaDoor
