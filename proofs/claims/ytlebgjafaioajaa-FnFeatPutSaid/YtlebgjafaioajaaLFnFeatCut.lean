/- Law: of a drawn thing a key is cut: as the reference does it; nothing else goes. -/
import Derived.Test.YtlebgjafaioajaaPf
import Derived.Test.YtlebgjafaioajaaDy
import Derived.Test.YtlebgjafaioajaaLFeatOk
namespace Go.Proofs.Ytlebgjafaioajaa
open Go.RowKit Go.Proofs.YtlebgjafaioajaaW.PrintWords Go.Proofs.YtlebgjafaioajaaW.PrintLast
set_option maxRecDepth 100000
set_option linter.unusedVariables false
set_option linter.unusedSimpArgs false
theorem fget_ok {f : FeatD} (h : FeatOk f) (key : ByteArray) : fget f key = match look f.2.2 key with | some v => (v, true) | none => (ByteArray.empty, false) := by
  unfold fget
  rw [if_pos h, getT_look]
  cases look f.2.2 key <;> rfl
theorem cut_cases (f : FeatD) (key : ByteArray) : (fcut f key = (feat0, false) ∧ ∃ g, fget f key = (g, false)) ∨ (∃ v, FeatOk f ∧ look f.2.2 key = some v ∧ fcut f key = ((f.1, f.2.1, cutK f.2.2 key), true) ∧ fget f key = (v, true)) := by
  unfold fcut
  by_cases h : FeatOk f
  · rw [fget_ok h]
    cases hl : look f.2.2 key with
    | none => exact .inl ⟨if_neg (fun q => q.2 (look_none.1 hl)), _, rfl⟩
    | some v => exact .inr ⟨v, h, rfl, if_pos ⟨h, fun e => by rw [look_none.2 e] at hl; cases hl⟩, rfl⟩
  · refine .inl ⟨if_neg (fun q => h q.1), ByteArray.empty, ?_⟩
    unfold fget
    exact if_neg h
theorem ftx_cut {f : FeatD} (h : FTx f) (key : ByteArray) : FTx (f.1, f.2.1, cutK f.2.2 key) := ⟨h.id, h.pts, Nat.le_trans (cutK_le _ _) h.tags, fun t ht => h.txt t (List.mem_filter.1 ht).1⟩
theorem ftx0 : FTx feat0 := ⟨by decide, by decide, by decide, fun t ht => by cases ht⟩
def l_FnFeatCut_T16 : Bool × List (List Nat × List Nat) := (true, [([], []), ([], []), ([1], [1]), ([], []), ([2, 3], [2, 3]), ([4], [4]), ([5], [5]), ([0, 6], [0, 6]), ([7], [7]), ([8], [8]), ([8], [8]), ([9, 7, 0, 1, 2, 3, 4, 5, 6, 7, 8, 9], [9]), ([10, 11, 0, 1, 2, 3, 4, 5, 6, 7, 8, 9, 10, 11], [10])])
theorem l_FnFeatCut_t16 : rtab .any (opsOf Try.f8 16) = l_FnFeatCut_T16 := by kernel_rfl
set_option maxHeartbeats 8000000 in
theorem FnFeatCut_c (A : Option Addr) (c : Nat) (l : List Int) (w : World) (hl : (Kd.int .u8).C w A l.length l) (hn : (l.length : Int) ≤ 140737488351232) (hb : ∀ x ∈ l, 0 ≤ x ∧ x ≤ 255) (hc : l.length ≤ c) :
    Calls Try.prog 8 #[.slice A l.length c] w fun e w' => e = .returned (.bool true) ∧ Below w.heap.size w w' := by
  by_cases hs : (l.length : Int) ≤ 1048576
  · have hd : decide ((1048576 : Int) < (l.length : Int)) = false := decide_eq_false (by omega)
    go_enter Try.func8, Try.ntmps8
    go_wp2_with fail
    refine (DrawFeatCut_d A c l _ (Kd.C_below hl bl) hb hc (by omega)).mono ?_
    rintro e w1 ⟨f, A1, c1, B1, d1, key, rfl, hp1, ht1, hS, hk10, hb1⟩
    have X1 := hS.ftx (by decide)
    have n1 := X1.pts
    have n2 := X1.tags
    have hI := fun w hl hm => iFeatCut_c f A1 c1 B1 d1 key w hl hm X1
    have hR := fun w hl hm => sFeatCut_c f A1 c1 B1 d1 key w hl hm X1
    have hG := fun w hl hm => iFeatGet_c f A1 c1 B1 d1 key w hl hm X1
    have hH := fun w hl hm => sFeatGet_c f A1 c1 B1 d1 key w hl hm X1
    have HC : Cells (w1.alloc (.cells #[.string f.1, .int .i64 f.2.1.1, .slice A1 f.2.1.2.length c1, .slice B1 f.2.2.length d1] 35)) _ := (Cells.nil w1).box4 (Below.refl _ _)
    rcases cut_cases f key with ⟨hf, g, hg⟩ | ⟨v, hok, hlk, hf, hg⟩
    · obtain ⟨r, hr, hr1, Xr⟩ : ∃ r : FeatD, r = feat0 ∧ r.1.toList.isEmpty = true ∧ FTx r := ⟨feat0, rfl, by rw [ByteArray.toList_eq]; rfl, ftx0⟩
      rw [hf, ← hr] at hI hR
      rw [hg] at hG hH
      have n3 := Xr.pts
      have n4 := Xr.tags
      have HI := Lib.hid hI
      have HR := Lib.hid hR
      have HG := Lib.hid hG
      have HH := Lib.hid hH
      clear hI hR hG hH hf hg hr
      obtain ⟨h0, h1, h2, h3, _⟩ := HC.all
      go_wp2_with fail
      refine (HI.out _ (Kd.C_below hp1.rd.2.2 bl) (Kd.C_below ht1.rd.2.2 bl)).mono ?_
      rintro e w2 ⟨A2, c2, B2, d2, rfl, hp2, ht2, hb2⟩
      replace HC : Cells (w2.alloc (.cells #[.string r.1, .int .i64 r.2.1.1, .slice A2 r.2.1.2.length c2, .slice B2 r.2.2.length d2] 35)) _ := (HC.to hb2).box4 (Below.refl _ _)
      clear h0 h1 h2 h3
      obtain ⟨h0, h1, h2, h3, h4, h5, h6, h7, _⟩ := HC.all
      go_wp2_with fail
      refine (HR.out _ (Kd.C_below hp1.rd.2.2 bl) (Kd.C_below ht1.rd.2.2 bl)).mono ?_
      rintro e w3 ⟨A3, c3, B3, d3, rfl, hp3, ht3, hb3⟩
      replace HC : Cells (w3.alloc (.cells #[.string r.1, .int .i64 r.2.1.1, .slice A3 r.2.1.2.length c3, .slice B3 r.2.2.length d3] 35)) _ := (HC.to hb3).box4 (Below.refl _ _)
      clear h0 h1 h2 h3 h4 h5 h6 h7
      obtain ⟨h0, h1, h2, h3, h4, h5, h6, h7, h8, h9, h10, h11, _⟩ := HC.all
      simp only [] at hp2 ht2 hp3 ht3
      go_wp2_with fail
      refine (HG.out _ (Kd.C_below hp1.rd.2.2 bl) (Kd.C_below ht1.rd.2.2 bl)).mono ?_
      rintro e w4 ⟨rfl, hb4⟩
      replace HC := HC.to hb4
      clear h0 h1 h2 h3 h4 h5 h6 h7 h8 h9 h10 h11
      obtain ⟨h0, h1, h2, h3, h4, h5, h6, h7, h8, h9, h10, h11, _⟩ := HC.all
      go_wp2_with fail
      refine (HH.out _ (Kd.C_below hp1.rd.2.2 bl) (Kd.C_below ht1.rd.2.2 bl)).mono ?_
      rintro e w5 ⟨rfl, hb5⟩
      replace HC := HC.to hb5
      clear h0 h1 h2 h3 h4 h5 h6 h7 h8 h9 h10 h11
      obtain ⟨h0, h1, h2, h3, h4, h5, h6, h7, h8, h9, h10, h11, _⟩ := HC.all
      go_wp2_with fail
      refine (iFeatSame_c r r A2 c2 B2 d2 A3 c3 B3 d3 _ (Kd.C_below hp2.rd.2.2 bl) (Kd.C_below ht2.rd.2.2 bl) (Kd.C_below hp3.rd.2.2 bl) (Kd.C_below ht3.rd.2.2 bl) n3 n4 n3 n4).mono ?_
      rintro e w6 ⟨rfl, hb6⟩
      rw [eqB_t.2 rfl]
      replace HC := HC.to hb6
      clear h0 h1 h2 h3 h4 h5 h6 h7 h8 h9 h10 h11
      obtain ⟨h0, h1, h2, h3, h4, h5, h6, h7, h8, h9, h10, h11, _⟩ := HC.all
      go_wp2
      go_ret
      exact ⟨rfl, bl⟩
    · obtain ⟨r, hr⟩ : ∃ r : FeatD, r = (f.1, f.2.1, cutK f.2.2 key) := ⟨_, rfl⟩
      have Xr : FTx r := by rw [hr]; exact ftx_cut X1 key
      have hup := tagsUp_kup hok.2.2.1
      have hrok : FeatOk r := by rw [hr]; exact featOk_cut hok key
      have hrl : r.2.2.length + 1 = f.2.2.length := by rw [hr]; exact cut_len hup hlk
      have hgr : fget r key = (ByteArray.empty, false) := by rw [fget_ok hrok, hr]; simp only [look_cut, if_true]
      have hgi : ∀ i, (hi : i < f.2.2.length) → f.2.2[i].1 ≠ key → fget r f.2.2[i].1 = (f.2.2[i].2, true) := fun i hi hne => by
        rw [fget_ok hrok, hr]
        simp only [look_cut, if_neg hne, look_mem hup (List.getElem_mem hi)]
      rw [hf, ← hr] at hI hR
      rw [hg] at hG hH
      have n3 := Xr.pts
      have n4 := Xr.tags
      have hGr := fun A c B d w hl hm => iFeatGet_c r A c B d key w hl hm Xr
      rw [hgr] at hGr
      have hGi := fun k A c B d w hl hm => iFeatGet_c r A c B d k w hl hm Xr
      have hOr := fun A c B d w hl hm => iFeatOk_c r A c B d w hl hm Xr
      rw [featOk_t.2 hrok] at hOr
      have HI := Lib.hid hI
      have HR := Lib.hid hR
      have HG := Lib.hid hG
      have HH := Lib.hid hH
      have HGr := Lib.hid hGr
      have HGi := Lib.hid hGi
      have HOr := Lib.hid hOr
      have Hgi := Lib.hid hgi
      have Hrl := Lib.hid hrl
      have hwl : IntKind.i64.wrap ((f.2.2.length : Int) - 1) = (r.2.2.length : Int) := by rw [IntWalk.i64_in _ (by omega)]; omega
      clear hI hR hG hH hf hg hr hGr hGi hOr hgi hgr hrl hok hlk hup hrok
      obtain ⟨h0, h1, h2, h3, _⟩ := HC.all
      go_wp2_with fail
      refine (HI.out _ (Kd.C_below hp1.rd.2.2 bl) (Kd.C_below ht1.rd.2.2 bl)).mono ?_
      rintro e w2 ⟨A2, c2, B2, d2, rfl, hp2, ht2, hb2⟩
      replace HC : Cells (w2.alloc (.cells #[.string r.1, .int .i64 r.2.1.1, .slice A2 r.2.1.2.length c2, .slice B2 r.2.2.length d2] 35)) _ := (HC.to hb2).box4 (Below.refl _ _)
      clear h0 h1 h2 h3
      obtain ⟨h0, h1, h2, h3, h4, h5, h6, h7, _⟩ := HC.all
      go_wp2_with fail
      refine (HR.out _ (Kd.C_below hp1.rd.2.2 bl) (Kd.C_below ht1.rd.2.2 bl)).mono ?_
      rintro e w3 ⟨A3, c3, B3, d3, rfl, hp3, ht3, hb3⟩
      replace HC : Cells (w3.alloc (.cells #[.string r.1, .int .i64 r.2.1.1, .slice A3 r.2.1.2.length c3, .slice B3 r.2.2.length d3] 35)) _ := (HC.to hb3).box4 (Below.refl _ _)
      clear h0 h1 h2 h3 h4 h5 h6 h7
      obtain ⟨h0, h1, h2, h3, h4, h5, h6, h7, h8, h9, h10, h11, _⟩ := HC.all
      simp only [] at hp2 ht2 hp3 ht3
      go_wp2_with fail
      refine (HG.out _ (Kd.C_below hp1.rd.2.2 bl) (Kd.C_below ht1.rd.2.2 bl)).mono ?_
      rintro e w4 ⟨rfl, hb4⟩
      replace HC := HC.to hb4
      clear h0 h1 h2 h3 h4 h5 h6 h7 h8 h9 h10 h11
      obtain ⟨h0, h1, h2, h3, h4, h5, h6, h7, h8, h9, h10, h11, _⟩ := HC.all
      go_wp2_with fail
      refine (HH.out _ (Kd.C_below hp1.rd.2.2 bl) (Kd.C_below ht1.rd.2.2 bl)).mono ?_
      rintro e w5 ⟨rfl, hb5⟩
      replace HC := HC.to hb5
      clear h0 h1 h2 h3 h4 h5 h6 h7 h8 h9 h10 h11
      obtain ⟨h0, h1, h2, h3, h4, h5, h6, h7, h8, h9, h10, h11, _⟩ := HC.all
      go_wp2_with fail
      refine (iFeatSame_c r r A2 c2 B2 d2 A3 c3 B3 d3 _ (Kd.C_below hp2.rd.2.2 bl) (Kd.C_below ht2.rd.2.2 bl) (Kd.C_below hp3.rd.2.2 bl) (Kd.C_below ht3.rd.2.2 bl) n3 n4 n3 n4).mono ?_
      rintro e w6 ⟨rfl, hb6⟩
      rw [eqB_t.2 rfl]
      replace HC := HC.to hb6
      clear h0 h1 h2 h3 h4 h5 h6 h7 h8 h9 h10 h11
      obtain ⟨h0, h1, h2, h3, h4, h5, h6, h7, h8, h9, h10, h11, _⟩ := HC.all
      go_wp2_with fail
      refine (HGr.out A2 c2 B2 d2 _ (Kd.C_below hp2.rd.2.2 bl) (Kd.C_below ht2.rd.2.2 bl)).mono ?_
      rintro e w7 ⟨rfl, hb7⟩
      replace HC := HC.to hb7
      have P2 : kPt.C w7 A2 r.2.1.2.length r.2.1.2 := Kd.C_below hp2.rd.2.2 bl
      have Q2 : kTag.C w7 B2 r.2.2.length r.2.2 := Kd.C_below ht2.rd.2.2 bl
      have Q1 : kTag.C w7 B1 f.2.2.length f.2.2 := Kd.C_below ht1.rd.2.2 bl
      have hB : Below w.heap.size w w7 := bl
      clear hp1 ht1 hp2 ht2 hp3 ht3
      clear h0 h1 h2 h3 h4 h5 h6 h7 h8 h9 h10 h11
      obtain ⟨h0, h1, h2, h3, h4, h5, h6, h7, h8, h9, h10, h11, _⟩ := HC.all
      go_wp2
      go_loopw [15] (fun q wr => ∃ i : Nat, i ≤ f.2.2.length ∧ q = .int .i64 i ∧ Aside0 (Below w7.heap.size w7 wr)) (fun q _ => f.2.2.length - (intOf q).toNat)
      case atStart => exact ⟨0, by omega, rfl, ⟨Below.refl _ _⟩⟩
      case round =>
        obtain ⟨i, hi, rfl, ⟨hbr⟩⟩ := hrel
        replace HC := HC.to hbr
        clear h0 h1 h2 h3 h4 h5 h6 h7 h8 h9 h10 h11
        obtain ⟨h0, h1, h2, h3, h4, h5, h6, h7, h8, h9, h10, h11, _⟩ := HC.all
        by_cases hlt : i < f.2.2.length
        · have d9 : decide ((i : Int) < (f.2.2.length : Int)) = true := decide_eq_true (by omega)
          have hwi : IntKind.i64.wrap ((i : Int) + 1) = (i : Int) + 1 := IntWalk.i64_in _ (by omega)
          obtain ⟨ad, rfl, e0, e1⟩ := at_Tag (Kd.C_below Q1 hbr) i hlt
          have Hi := Lib.hid (Hgi.out i hlt)
          generalize f.2.2[i] = t at *
          go_wp2
          refine rgStart 13 [0, 1, 2, 3, 4, 5, 6, 7, 8, 9, 10, 11, 12] l_FnFeatCut_t16 (fun HT HS => ?_)
          repeat ((with_reducible refine rgGate ?_); first | refine rgP HT ?_ | refine rgL HT ?_ | refine rgG HT ?_)
          refine rgCall HT Try.func32 (HGi.out t.1 A2 c2 B2 d2 _ (Kd.C_below P2 bl) (Kd.C_below Q2 bl)) ?_
          rintro e w8 ⟨rfl, hb8⟩
          refine ⟨_, rfl, bl, rgN ?_⟩
          repeat ((with_reducible refine rgGate ?_); first | refine rgP HT ?_ | refine rgL HT ?_ | refine rgG HT ?_)
          refine rgDone HT ?_
          clear HT HS
          have b8 : Below wr.heap.size wr w8 := bl
          replace HC := HC.to b8
          clear h0 h1 h2 h3 h4 h5 h6 h7 h8 h9 h10 h11
          obtain ⟨h0, h1, h2, h3, h4, h5, h6, h7, h8, h9, h10, h11, _⟩ := HC.all
          replace e0 := pw_cell_below b8 e0
          replace e1 := pw_cell_below b8 e1
          by_cases hx : t.1 = key
          · have t2 := strB_t hx
            clear hx
            go_wp2
            exact ⟨⟨i + 1, by omega, by go_num, ⟨hbr.trans (b8.mono hbr.size)⟩⟩, by simp [intOf]; omega⟩
          · have t2 := strB_f hx
            rw [Hi.out hx]
            clear hx
            go_wp2
            exact ⟨⟨i + 1, by omega, by go_num, ⟨hbr.trans (b8.mono hbr.size)⟩⟩, by simp [intOf]; omega⟩
        · have d9 : decide ((i : Int) < (f.2.2.length : Int)) = false := decide_eq_false (by omega)
          go_wp2_with fail
          refine (HOr.out A2 c2 B2 d2 _ (Kd.C_below P2 bl) (Kd.C_below Q2 bl)).mono ?_
          rintro e w9 ⟨rfl, hb9⟩
          replace HC := HC.to hb9
          clear h0 h1 h2 h3 h4 h5 h6 h7 h8 h9 h10 h11
          obtain ⟨h0, h1, h2, h3, h4, h5, h6, h7, h8, h9, h10, h11, _⟩ := HC.all
          go_wp2
          go_ret
          exact ⟨rfl, hB.trans (Below.mono (bl : Below w7.heap.size w7 w9) hB.size)⟩
  · have hd : decide ((1048576 : Int) < (l.length : Int)) = true := decide_eq_true (by omega)
    go_enter Try.func8, Try.ntmps8
    go_wp2
    go_ret
    exact ⟨rfl, bl⟩
end Go.Proofs.Ytlebgjafaioajaa
