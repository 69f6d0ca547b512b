/- Law: to a drawn thing a tag is put: as the reference does it; nothing else turns, and it can be taken back. -/
import Derived.Test.YtlebgjafaioajaaPg
import Derived.Test.YtlebgjafaioajaaDz
import Derived.Test.YtlebgjafaioajaaLFnFeatCut
namespace Go.Proofs.Ytlebgjafaioajaa
open Go.RowKit Go.Proofs.YtlebgjafaioajaaW.PrintWords Go.Proofs.YtlebgjafaioajaaW.PrintLast
set_option maxRecDepth 100000
set_option linter.unusedVariables false
set_option linter.unusedSimpArgs false
def l_FnFeatPut_T16 : Bool × List (List Nat × List Nat) := (true, [([], []), ([], []), ([1], [1]), ([], []), ([2, 3], [2, 3]), ([4], [4]), ([5], [5]), ([0, 6], [0, 6]), ([7], [7]), ([8], [8]), ([8], [8]), ([9, 7, 0, 1, 2, 3, 4, 5, 6, 7, 8, 9], [9]), ([10, 11, 0, 1, 2, 3, 4, 5, 6, 7, 8, 9, 10, 11], [10])])
theorem l_FnFeatPut_t16 : rtab .any (opsOf Try.f13 16) = l_FnFeatPut_T16 := by kernel_rfl
set_option maxHeartbeats 8000000 in
theorem FnFeatPut_c (A : Option Addr) (c : Nat) (l : List Int) (w : World) (hl : (Kd.int .u8).C w A l.length l) (hn : (l.length : Int) ≤ 140737488351232) (hb : ∀ x ∈ l, 0 ≤ x ∧ x ≤ 255) (hc : l.length ≤ c) :
    Calls Try.prog 13 #[.slice A l.length c] w fun e w' => e = .returned (.bool true) ∧ Below w.heap.size w w' := by
  by_cases hs : (l.length : Int) ≤ 1048576
  · have hd : decide ((1048576 : Int) < (l.length : Int)) = false := decide_eq_false (by omega)
    go_enter Try.func13, Try.ntmps13
    go_wp2_with fail
    refine (DrawFeatPut_d A c l _ (Kd.C_below hl bl) hb hc (by omega)).mono ?_
    rintro e w1 ⟨f, A1, c1, B1, d1, key, val, rfl, hp1, ht1, hS, hk10, hv10, hb1⟩
    have X1 := hS.ftx (by decide)
    have n1 := X1.pts
    have n2 := X1.tags
    have hI := fun w hl hm => iFeatPut_c f A1 c1 B1 d1 key val w hl hm X1 (by omega) (by omega)
    have hR := fun w hl hm => sFeatPut_c f A1 c1 B1 d1 key val w hl hm X1 (by omega) (by omega)
    have Xr0 := fput_ftx X1 (key := key) (val := val) (by omega) (by omega)
    have HC : Cells (w1.alloc (.cells #[.string f.1, .int .i64 f.2.1.1, .slice A1 f.2.1.2.length c1, .slice B1 f.2.2.length d1] 35)) _ := (Cells.nil w1).box4 (Below.refl _ _)
    rcases put_cases f key val with ⟨hf, _⟩ | ⟨hok, hrok, hf⟩
    · obtain ⟨r, hr, hr1, Xr⟩ : ∃ r : FeatD, r = feat0 ∧ r.1.toList.isEmpty = true ∧ FTx r := ⟨feat0, rfl, by rw [ByteArray.toList_eq]; rfl, ftx00⟩
      rw [hf, ← hr] at hI hR
      have n3 := Xr.pts
      have n4 := Xr.tags
      have HI := Lib.hid hI
      have HR := Lib.hid hR
      clear hI hR hf hr Xr0
      obtain ⟨h0, h1, h2, h3, _⟩ := HC.all
      go_wp2_with fail
      refine (HI.out _ (Kd.C_below hp1.rd.2.2 bl) (Kd.C_below ht1.rd.2.2 bl)).mono ?_
      rintro e w2 ⟨A2, c2, B2, d2, rfl, hp2, ht2, hb2⟩
      replace HC : Cells (w2.alloc (.cells #[.string r.1, .int .i64 r.2.1.1, .slice A2 r.2.1.2.length c2, .slice B2 r.2.2.length d2] 35)) _ := (HC.to hb2).box4 (Below.refl _ _)
      clear h0 h1 h2 h3
      obtain ⟨h0, h1, h2, h3, h4, h5, h6, h7, _⟩ := HC.all
      go_wp2_with fail
      refine (HR.out _ (Kd.C_below hp1.rd.2.2 bl) (Kd.C_below ht1.rd.2.2 bl)).mono ?_
      rintro e w3 ⟨A3, c3, B3, d3, rfl, hp3, ht3, hb3⟩
      replace HC : Cells (w3.alloc (.cells #[.string r.1, .int .i64 r.2.1.1, .slice A3 r.2.1.2.length c3, .slice B3 r.2.2.length d3] 35)) _ := (HC.to hb3).box4 (Below.refl _ _)
      clear h0 h1 h2 h3 h4 h5 h6 h7
      obtain ⟨h0, h1, h2, h3, h4, h5, h6, h7, h8, h9, h10, h11, _⟩ := HC.all
      simp only [] at hp2 ht2 hp3 ht3
      go_wp2_with fail
      refine (iFeatSame_c r r A2 c2 B2 d2 A3 c3 B3 d3 _ (Kd.C_below hp2.rd.2.2 bl) (Kd.C_below ht2.rd.2.2 bl) (Kd.C_below hp3.rd.2.2 bl) (Kd.C_below ht3.rd.2.2 bl) n3 n4 n3 n4).mono ?_
      rintro e w6 ⟨rfl, hb6⟩
      rw [eqB_t.2 rfl]
      replace HC := HC.to hb6
      clear h0 h1 h2 h3 h4 h5 h6 h7 h8 h9 h10 h11
      obtain ⟨h0, h1, h2, h3, h4, h5, h6, h7, h8, h9, h10, h11, _⟩ := HC.all
      go_wp2
      go_ret
      exact ⟨rfl, bl⟩
    · rw [hf] at hI hR Xr0
      obtain ⟨id, ⟨K, p⟩, m⟩ := f
      simp only [fput0] at *
      have hup := tagsUp_kup hok.2.2.1
      have hup2 := hup.put (key, val)
      have hgr : fget (id, (K, p), putK m (key, val)) key = (val, true) := by rw [fget_ok hrok]; simp only [look_put hup, if_true]
      have hgi : ∀ i, (hi : i < m.length) → m[i].1 ≠ key → fget (id, (K, p), putK m (key, val)) m[i].1 = (m[i].2, true) := fun i hi hne => by
        rw [fget_ok hrok]
        simp only [look_put hup, if_neg hne, look_mem hup (List.getElem_mem hi)]
      have hcut : fcut (id, (K, p), putK m (key, val)) key = ((id, (K, p), cutK (putK m (key, val)) key), true) := if_pos ⟨hrok, fun e => by
        have h1 := look_none.2 e
        rw [look_put hup, if_pos rfl] at h1
        cases h1⟩
      have hcl : (cutK (putK m (key, val)) key).length + 1 = (putK m (key, val)).length := cut_len hup2 (v := val) (by rw [look_put hup, if_pos rfl])
      have hpl := put_len hup (x := (key, val))
      have hold : (∃ o, o.size ≤ 10 ∧ fget (id, (K, p), m) key = (o, true) ∧ (putK m (key, val)).length = m.length ∧ fput (id, (K, p), putK m (key, val)) key o = ((id, (K, p), m), true)) ∨ (∃ o, fget (id, (K, p), m) key = (o, false) ∧ cutK (putK m (key, val)) key = m) := by
        rw [fget_ok hok]
        cases hlk : look m key with
        | none => exact .inr ⟨ByteArray.empty, by simp only [hlk], put_cut hup hlk⟩
        | some o =>
          have hb_ := put_back hup (x := (key, val)) hlk
          have hsz : o.size ≤ 10 := by
            have h1 : atK m key ≠ none := fun e => by rw [look_none.2 e] at hlk; cases hlk
            obtain ⟨k, hk⟩ := Option.ne_none_iff_exists'.1 h1
            have hkl := (atK_is hk).1
            rw [look_some hk hkl] at hlk
            injection hlk with hlk
            rw [← hlk]
            exact (hS.txt _ (List.getElem_mem hkl)).2
          refine .inl ⟨o, hsz, by simp only [hlk], by simp only [hlk] at hpl; simpa using hpl, ?_⟩
          have e : fput0 (id, (K, p), putK m (key, val)) key o = (id, (K, p), m) := by
            show (id, (K, p), putK (putK m (key, val)) (key, o)) = (id, (K, p), m)
            rw [hb_]
          rw [fput_yes ⟨hrok, by rw [e]; exact hok⟩, e]
      have Xr : FTx (id, (K, p), putK m (key, val)) := Xr0
      have Xc := ftx_cut Xr key
      have hGr := fun A c B d w hl hm => iFeatGet_c (id, (K, p), putK m (key, val)) A c B d key w hl hm Xr
      rw [hgr] at hGr
      have hGi := fun k A c B d w hl hm => iFeatGet_c (id, (K, p), putK m (key, val)) A c B d k w hl hm Xr
      have hOr := fun A c B d w hl hm => iFeatOk_c (id, (K, p), putK m (key, val)) A c B d w hl hm Xr
      rw [featOk_t.2 hrok] at hOr
      have hCr := fun A c B d w hl hm => iFeatCut_c (id, (K, p), putK m (key, val)) A c B d key w hl hm Xr
      rw [hcut] at hCr
      have hGf := fun A c B d w hl hm => iFeatGet_c (id, (K, p), m) A c B d key w hl hm X1
      have hPr := fun o (ho : o.size ≤ 10) A c B d w hl hm => iFeatPut_c (id, (K, p), putK m (key, val)) A c B d key o w hl hm Xr (by omega) (by omega)
      have n3 := Xr.pts
      have n4 := Xr.tags
      have n6 := Xc.tags
      simp only [] at n3 n4 n6
      have Hold := Lib.hid hold
      have Hgi := Lib.hid hgi
      have Hcl := Lib.hid hcl
      clear hf hok hup hup2 hrok hgr hgi hcut hpl hold Xr0 Xc hcl
      generalize cutK (putK m (key, val)) key = mc at *
      generalize putK m (key, val) = mp at *
      have HI := Lib.hid hI
      have HR := Lib.hid hR
      have HGr := Lib.hid hGr
      have HGi := Lib.hid hGi
      have HOr := Lib.hid hOr
      have HCr := Lib.hid hCr
      have HGf := Lib.hid hGf
      have HPr := Lib.hid hPr
      clear hI hR hGr hGi hOr hCr hGf hPr
      obtain ⟨h0, h1, h2, h3, _⟩ := HC.all
      go_wp2_with fail
      refine (HI.out _ (Kd.C_below hp1.rd.2.2 bl) (Kd.C_below ht1.rd.2.2 bl)).mono ?_
      rintro e w2 ⟨A2, c2, B2, d2, rfl, hp2, ht2, hb2⟩
      replace HC : Cells (w2.alloc (.cells #[.string id, .int .i64 K, .slice A2 p.length c2, .slice B2 mp.length d2] 35)) _ := (HC.to hb2).box4 (Below.refl _ _)
      clear h0 h1 h2 h3
      obtain ⟨h0, h1, h2, h3, h4, h5, h6, h7, _⟩ := HC.all
      go_wp2_with fail
      refine (HR.out _ (Kd.C_below hp1.rd.2.2 bl) (Kd.C_below ht1.rd.2.2 bl)).mono ?_
      rintro e w3 ⟨A3, c3, B3, d3, rfl, hp3, ht3, hb3⟩
      replace HC : Cells (w3.alloc (.cells #[.string id, .int .i64 K, .slice A3 p.length c3, .slice B3 mp.length d3] 35)) _ := (HC.to hb3).box4 (Below.refl _ _)
      clear h0 h1 h2 h3 h4 h5 h6 h7
      obtain ⟨h0, h1, h2, h3, h4, h5, h6, h7, h8, h9, h10, h11, _⟩ := HC.all
      simp only [] at hp1 ht1 hp2 ht2 hp3 ht3
      go_wp2_with fail
      refine (iFeatSame_c (id, (K, p), mp) (id, (K, p), mp) A2 c2 B2 d2 A3 c3 B3 d3 _ (Kd.C_below hp2.rd.2.2 bl) (Kd.C_below ht2.rd.2.2 bl) (Kd.C_below hp3.rd.2.2 bl) (Kd.C_below ht3.rd.2.2 bl) n3 n4 n3 n4).mono ?_
      rintro e w4 ⟨rfl, hb4⟩
      rw [eqB_t.2 rfl]
      replace HC := HC.to hb4
      clear h0 h1 h2 h3 h4 h5 h6 h7 h8 h9 h10 h11
      obtain ⟨h0, h1, h2, h3, h4, h5, h6, h7, h8, h9, h10, h11, _⟩ := HC.all
      go_wp2_with fail
      refine (HGr.out A2 c2 B2 d2 _ (Kd.C_below hp2.rd.2.2 bl) (Kd.C_below ht2.rd.2.2 bl)).mono ?_
      rintro e w5 ⟨rfl, hb5⟩
      replace HC := HC.to hb5
      clear h0 h1 h2 h3 h4 h5 h6 h7 h8 h9 h10 h11
      obtain ⟨h0, h1, h2, h3, h4, h5, h6, h7, h8, h9, h10, h11, _⟩ := HC.all
      go_wp2_with fail
      refine (HOr.out A2 c2 B2 d2 _ (Kd.C_below hp2.rd.2.2 bl) (Kd.C_below ht2.rd.2.2 bl)).mono ?_
      rintro e w6 ⟨rfl, hb6⟩
      replace HC := HC.to hb6
      clear h0 h1 h2 h3 h4 h5 h6 h7 h8 h9 h10 h11
      obtain ⟨h0, h1, h2, h3, h4, h5, h6, h7, h8, h9, h10, h11, _⟩ := HC.all
      go_wp2_with fail
      refine (iShapeSame_c K K A2 A1 c2 c1 p p _ (Kd.C_below hp2.rd.2.2 bl) (Kd.C_below hp1.rd.2.2 bl) n3 n3).mono ?_
      rintro e w7 ⟨rfl, hb7⟩
      rw [eqB_t.2 rfl]
      replace HC := HC.to hb7
      have P1 : kPt.C w7 A1 p.length p := Kd.C_below hp1.rd.2.2 bl
      have P2 : kPt.C w7 A2 p.length p := Kd.C_below hp2.rd.2.2 bl
      have Q2 : kTag.C w7 B2 mp.length mp := Kd.C_below ht2.rd.2.2 bl
      have Q1 : kTag.C w7 B1 m.length m := Kd.C_below ht1.rd.2.2 bl
      have hB : Below w.heap.size w w7 := bl
      clear hp1 ht1 hp2 ht2 hp3 ht3
      clear h0 h1 h2 h3 h4 h5 h6 h7 h8 h9 h10 h11
      obtain ⟨h0, h1, h2, h3, h4, h5, h6, h7, h8, h9, h10, h11, _⟩ := HC.all
      go_wp2
      go_loopw [12] (fun q wr => ∃ i : Nat, i ≤ m.length ∧ q = .int .i64 i ∧ Aside0 (Below w7.heap.size w7 wr)) (fun q _ => m.length - (intOf q).toNat)
      case atStart => exact ⟨0, by omega, rfl, ⟨Below.refl _ _⟩⟩
      case round =>
        obtain ⟨i, hi, rfl, ⟨hbr⟩⟩ := hrel
        replace HC := HC.to hbr
        clear h0 h1 h2 h3 h4 h5 h6 h7 h8 h9 h10 h11
        obtain ⟨h0, h1, h2, h3, h4, h5, h6, h7, h8, h9, h10, h11, _⟩ := HC.all
        by_cases hlt : i < m.length
        · have d9 : decide ((i : Int) < (m.length : Int)) = true := decide_eq_true (by omega)
          have hwi : IntKind.i64.wrap ((i : Int) + 1) = (i : Int) + 1 := IntWalk.i64_in _ (by omega)
          obtain ⟨ad, rfl, e0, e1⟩ := at_Tag (Kd.C_below Q1 hbr) i hlt
          have Hi := Lib.hid (Hgi.out i hlt)
          generalize m[i] = t at *
          go_wp2
          refine rgStart 13 [0, 1, 2, 3, 4, 5, 6, 7, 8, 9, 10, 11, 12] l_FnFeatPut_t16 (fun HT HS => ?_)
          repeat ((with_reducible refine rgGate ?_); first | refine rgP HT ?_ | refine rgL HT ?_ | refine rgG HT ?_)
          refine rgCall HT Try.func32 (HGi.out t.1 A2 c2 B2 d2 _ (Kd.C_below P2 bl) (Kd.C_below Q2 bl)) ?_
          rintro e w8 ⟨rfl, hb8⟩
          refine ⟨_, rfl, bl, rgN ?_⟩
          repeat ((with_reducible refine rgGate ?_); first | refine rgP HT ?_ | refine rgL HT ?_ | refine rgG HT ?_)
          refine rgDone HT ?_
          clear HT HS
          have b8 : Below wr.heap.size wr w8 := bl
          replace HC := HC.to b8
          clear h0 h1 h2 h3 h4 h5 h6 h7 h8 h9 h10 h11
          obtain ⟨h0, h1, h2, h3, h4, h5, h6, h7, h8, h9, h10, h11, _⟩ := HC.all
          replace e0 := pw_cell_below b8 e0
          replace e1 := pw_cell_below b8 e1
          by_cases hx : t.1 = key
          · have t2 := strB_t hx
            clear hx
            go_wp2
            exact ⟨⟨i + 1, by omega, by go_num, ⟨hbr.trans (b8.mono hbr.size)⟩⟩, by simp [intOf]; omega⟩
          · have t2 := strB_f hx
            rw [Hi.out hx]
            clear hx
            go_wp2
            exact ⟨⟨i + 1, by omega, by go_num, ⟨hbr.trans (b8.mono hbr.size)⟩⟩, by simp [intOf]; omega⟩
        · have d9 : decide ((i : Int) < (m.length : Int)) = false := decide_eq_false (by omega)
          replace P1 := Kd.C_below P1 hbr
          replace P2 := Kd.C_below P2 hbr
          replace Q1 := Kd.C_below Q1 hbr
          replace Q2 := Kd.C_below Q2 hbr
          replace hB := hB.trans (hbr.mono hB.size)
          rcases Hold.out with ⟨o, hosz, hgo, hml, hpo⟩ | ⟨o, hgo, hmm⟩
          · have hGo := fun A c B d w hl hm => HGf.out A c B d w hl hm
            simp only [hgo] at hGo
            have hPo := fun A c B d w hl hm => HPr.out o hosz A c B d w hl hm
            rw [hpo] at hPo
            have HGo := Lib.hid hGo
            have HPo := Lib.hid hPo
            have hwl : IntKind.i64.wrap ((m.length : Int) - 1) = (mc.length : Int) := by have := Hcl.out; rw [IntWalk.i64_in _ (by omega)]; omega
            clear hGo hPo hgo hpo hml
            go_wp2_with fail
            refine (HGo.out A1 c1 B1 d1 _ P1 Q1).mono ?_
            rintro e w9 ⟨rfl, hb9⟩
            replace HC := HC.to hb9
            clear h0 h1 h2 h3 h4 h5 h6 h7 h8 h9 h10 h11
            obtain ⟨h0, h1, h2, h3, h4, h5, h6, h7, h8, h9, h10, h11, _⟩ := HC.all
            go_wp2_with fail
            refine (HCr.out A2 c2 B2 d2 _ (Kd.C_below P2 bl) (Kd.C_below Q2 bl)).mono ?_
            rintro e w10 ⟨A10, c10, B10, d10, rfl, hp10, ht10, hb10⟩
            replace HC : Cells (w10.alloc (.cells #[.string id, .int .i64 K, .slice A10 p.length c10, .slice B10 mc.length d10] 35)) _ := (HC.to hb10).box4 (Below.refl _ _)
            clear h0 h1 h2 h3 h4 h5 h6 h7 h8 h9 h10 h11
            obtain ⟨h0, h1, h2, h3, h4, h5, h6, h7, h8, h9, h10, h11, h12, h13, h14, h15, _⟩ := HC.all
            go_wp2_with fail
            refine (HPo.out A2 c2 B2 d2 _ (Kd.C_below P2 bl) (Kd.C_below Q2 bl)).mono ?_
            rintro e w11 ⟨A11, c11, B11, d11, rfl, hp11, ht11, hb11⟩
            replace HC : Cells (w11.alloc (.cells #[.string id, .int .i64 K, .slice A11 p.length c11, .slice B11 m.length d11] 35)) _ := (HC.to hb11).box4 (Below.refl _ _)
            clear h0 h1 h2 h3 h4 h5 h6 h7 h8 h9 h10 h11 h12 h13 h14 h15
            obtain ⟨h0, h1, h2, h3, h4, h5, h6, h7, h8, h9, h10, h11, h12, h13, h14, h15, h16, h17, h18, h19, _⟩ := HC.all
            simp only [] at hp10 ht10 hp11 ht11
            go_wp2_with fail
            refine (iFeatSame_c (id, (K, p), m) (id, (K, p), m) A11 c11 B11 d11 A1 c1 B1 d1 _ (Kd.C_below hp11.rd.2.2 bl) (Kd.C_below ht11.rd.2.2 bl) (Kd.C_below P1 bl) (Kd.C_below Q1 bl) n3 n2 n3 n2).mono ?_
            rintro e w12 ⟨rfl, hb12⟩
            rw [eqB_t.2 rfl]
            replace HC := HC.to hb12
            clear h0 h1 h2 h3 h4 h5 h6 h7 h8 h9 h10 h11 h12 h13 h14 h15 h16 h17 h18 h19
            obtain ⟨h0, h1, h2, h3, h4, h5, h6, h7, h8, h9, h10, h11, h12, h13, h14, h15, h16, h17, h18, h19, _⟩ := HC.all
            go_wp2
            go_ret
            exact ⟨rfl, hB.trans (Below.mono (bl : Below wr.heap.size wr w12) hB.size)⟩
          · have hGo := fun A c B d w hl hm => HGf.out A c B d w hl hm
            simp only [hgo] at hGo
            have HGo := Lib.hid hGo
            subst hmm
            clear hGo hgo
            go_wp2_with fail
            refine (HGo.out A1 c1 B1 d1 _ P1 Q1).mono ?_
            rintro e w9 ⟨rfl, hb9⟩
            replace HC := HC.to hb9
            clear h0 h1 h2 h3 h4 h5 h6 h7 h8 h9 h10 h11
            obtain ⟨h0, h1, h2, h3, h4, h5, h6, h7, h8, h9, h10, h11, _⟩ := HC.all
            go_wp2_with fail
            refine (HCr.out A2 c2 B2 d2 _ (Kd.C_below P2 bl) (Kd.C_below Q2 bl)).mono ?_
            rintro e w10 ⟨A10, c10, B10, d10, rfl, hp10, ht10, hb10⟩
            replace HC : Cells (w10.alloc (.cells #[.string id, .int .i64 K, .slice A10 p.length c10, .slice B10 mc.length d10] 35)) _ := (HC.to hb10).box4 (Below.refl _ _)
            clear h0 h1 h2 h3 h4 h5 h6 h7 h8 h9 h10 h11
            obtain ⟨h0, h1, h2, h3, h4, h5, h6, h7, h8, h9, h10, h11, h12, h13, h14, h15, _⟩ := HC.all
            simp only [] at hp10 ht10
            go_wp2_with fail
            refine (iFeatSame_c (id, (K, p), mc) (id, (K, p), mc) A10 c10 B10 d10 A1 c1 B1 d1 _ (Kd.C_below hp10.rd.2.2 bl) (Kd.C_below ht10.rd.2.2 bl) (Kd.C_below P1 bl) (Kd.C_below Q1 bl) n3 n6 n3 n6).mono ?_
            rintro e w12 ⟨rfl, hb12⟩
            rw [eqB_t.2 rfl]
            go_wp2
            go_ret
            exact ⟨rfl, hB.trans (Below.mono (bl : Below wr.heap.size wr w12) hB.size)⟩
  · have hd : decide ((1048576 : Int) < (l.length : Int)) = true := decide_eq_true (by omega)
    go_enter Try.func13, Try.ntmps13
    go_wp2
    go_ret
    exact ⟨rfl, bl⟩
end Go.Proofs.Ytlebgjafaioajaa
