/- Contracts: texts of things and maps. -/
import Derived.Test.YtfbhjknkofnohaaDoorTx
import Derived.Test.YtfbhjknkofnohaaDoorFe
import Derived.Test.YtfbhjknkofnohaaDoorFh
namespace Go.Proofs.YtfbhjknkofnohaaDoor
open Go.RowKit Go.Proofs.YtfbhjknkofnohaaDoorW.PrintWords Go.Proofs.YtfbhjknkofnohaaDoorW.PrintLast
set_option maxRecDepth 100000
set_option linter.unusedVariables false
set_option linter.unusedSimpArgs false
open Classical in
noncomputable def shapeT (K : Int) (l : List Pt) : ByteArray := if ShapeOk K l then shText K l else ⟨#[]⟩
theorem sShapeT_c (K : Int) (A : Option Addr) (c : Nat) (l : List Pt) (w : World) (hl : kPt.C w A l.length l) (hn : l.length ≤ 1048576) :
    Calls Tryd.prog 18 #[.agg #[.int .i64 K, .slice A l.length c]] w fun e w' => e = .returned (.string (shapeT K l)) ∧ Below w.heap.size w w' := by
  by_cases hok : ShapeOk K l
  · rw [show shapeT K l = shText K l from if_pos hok]
    exact sShapeText_c K A c l w hl hok
  · have hx := Lib.hid (show shapeT K l = ⟨#[]⟩ from if_neg hok)
    have hI := fun w h => sShapeOk_c K A c l w h hn
    rw [shapeOk_f.2 hok] at hI
    have HI := Lib.hid hI
    clear hI hok
    go_enter Tryd.func18, Tryd.ntmps18
    go_wp2_with fail
    refine (HI.out _ (Kd.C_below hl bl)).mono ?_
    rintro e w1 ⟨rfl, hb1⟩
    go_wp2
    go_ret
    exact ⟨by rw [hx.out]; rfl, bl⟩
theorem iShapeT_c (K : Int) (A : Option Addr) (c : Nat) (l : List Pt) (w : World) (hl : kPt.C w A l.length l) (hn : l.length ≤ 1048576) (T : Tied w) :
    Calls Tryd.prog 17 #[.agg #[.int .i64 K, .slice A l.length c]] w fun e w' => e = .returned (.string (shapeT K l)) ∧ Below w.heap.size w w' := by
  have hI := fun w h => iShapeOk_c K A c l w h hn
  by_cases hok : ShapeOk K l
  · have hx := Lib.hid (show shapeT K l = shText K l from if_pos hok)
    rw [shapeOk_t.2 hok] at hI
    have HI := Lib.hid hI
    have Hok := Lib.hid hok
    clear hI hok
    go_enter Tryd.func17, Tryd.ntmps17
    have HC : Cells (w.alloc (.cells #[.int .i64 K, .slice A l.length c] 30)) _ := (Cells.nil w).box (Below.refl _ _)
    go_wp2_with fail
    refine (HI.out _ (Kd.C_below hl bl)).mono ?_
    rintro e w1 ⟨rfl, hb1⟩
    replace HC := HC.to hb1
    obtain ⟨h0, h1, _⟩ := HC.all
    go_wp2_with fail
    refine (text_c K A c l _ (Kd.C_below hl bl) Hok.out (T.to bl)).mono ?_
    rintro e w2 ⟨rfl, hb2⟩
    go_wp2
    go_ret
    exact ⟨by rw [hx.out]; rfl, bl⟩
  · have hx := Lib.hid (show shapeT K l = ⟨#[]⟩ from if_neg hok)
    rw [shapeOk_f.2 hok] at hI
    have HI := Lib.hid hI
    clear hI hok
    go_enter Tryd.func17, Tryd.ntmps17
    go_wp2_with fail
    refine (HI.out _ (Kd.C_below hl bl)).mono ?_
    rintro e w1 ⟨rfl, hb1⟩
    go_wp2
    go_ret
    exact ⟨by rw [hx.out]; rfl, bl⟩
/-! Things. -/
def tagText (t : Tag) : ByteArray := (((⟨#[32]⟩ : ByteArray) ++ t.1) ++ ⟨#[61]⟩) ++ t.2
def headT (f : FeatD) : ByteArray := (f.1 ++ ⟨#[32]⟩) ++ shText f.2.1.1 f.2.1.2
def tagsT (o : ByteArray) (l : List Tag) : ByteArray := l.foldl (fun o t => o ++ tagText t) o
/-- The text of a thing that is ok. -/
def fullT (f : FeatD) : ByteArray := tagsT (headT f) f.2.2
theorem tagsT_take (o : ByteArray) (l : List Tag) (k : Nat) (h : k < l.length) : tagsT o (l.take (k + 1)) = tagsT o (l.take k) ++ tagText l[k] := by
  unfold tagsT
  rw [List.take_succ_eq_append_getElem h, List.foldl_append]
  rfl
open Classical in
noncomputable def featT (f : FeatD) : ByteArray := if FeatOk f then fullT f else ⟨#[]⟩
theorem sz_eq : (⟨#[61]⟩ : ByteArray).size = 1 := rfl
theorem sz_nl : (⟨#[10]⟩ : ByteArray).size = 1 := rfl
theorem headT_size {f : FeatD} (h : FeatOk f) : (headT f).size ≤ 275 := by
  have h1 := h.1.1.2
  have h2 := shText_size f.2.1.1 f.2.1.2 h.2.1.1.all
  have h3 := h.2.1.le
  have h4 := sz_sp
  unfold headT
  simp only [ByteArray.size_append]
  omega
theorem tag_sz {l : List Tag} (h : TagsUp l) {t : Tag} (ht : t ∈ l) : t.1.size ≤ 6 ∧ t.2.size ≤ 6 := by
  obtain ⟨i, hi, rfl⟩ := List.getElem_of_mem ht
  have := h i hi hi
  exact ⟨this.1.1.2, this.2.1.1.2⟩
theorem tagText_size {t : Tag} (h : t.1.size ≤ 6 ∧ t.2.size ≤ 6) : (tagText t).size ≤ 14 := by
  have h4 := sz_sp
  have h5 := sz_eq
  unfold tagText
  simp only [ByteArray.size_append]
  omega
theorem tagsT_size : ∀ (l : List Tag) (o : ByteArray), (∀ t ∈ l, t.1.size ≤ 6 ∧ t.2.size ≤ 6) → (tagsT o l).size ≤ o.size + 14 * l.length
  | [], o, _ => by simp [tagsT]
  | t :: l, o, h => by
    have h1 := tagsT_size l (o ++ tagText t) (fun u hu => h u (List.mem_cons_of_mem _ hu))
    have h2 := tagText_size (h t List.mem_cons_self)
    rw [ByteArray.size_append] at h1
    show (tagsT (o ++ tagText t) l).size ≤ _
    rw [List.length_cons]
    omega
theorem fullT_size {f : FeatD} (h : FeatOk f) : (fullT f).size ≤ 400 := by
  have h1 := headT_size h
  have h2 := tagsT_size f.2.2 (headT f) (fun t ht => tag_sz h.2.2.1 ht)
  have h3 := h.2.2.2
  unfold fullT
  omega
def i_FeatText_T3 : Bool × List (List Nat × List Nat) := (true, [([], []), ([0], [0]), ([1], [1]), ([], []), ([3], [3]), ([4], [4]), ([2, 5], [2, 5]), ([6, 5, 0, 1, 2, 3, 4, 5, 6], [6])])
theorem i_FeatText_t3 : rtab .any (opsOf Tryd.f60 3) = i_FeatText_T3 := by kernel_rfl
set_option maxHeartbeats 4000000 in
theorem iFeatText_c (f : FeatD) (A : Option Addr) (c : Nat) (B : Option Addr) (d : Nat) (w : World) (hl : kPt.C w A f.2.1.2.length f.2.1.2) (hm : kTag.C w B f.2.2.length f.2.2) (X : FTx f) (T : Tied w) :
    Calls Tryd.prog 60 #[featV f A c B d] w fun e w' => e = .returned (.string (featT f)) ∧ Below w.heap.size w w' := by
  have hO := iFeatOk_c f A c B d
  by_cases hok : FeatOk f
  · have hx := Lib.hid (show featT f = fullT f from if_pos hok)
    rw [featOk_t.2 hok] at hO
    have HO := Lib.hid hO
    have Hok := Lib.hid hok
    have hz1 := headT_size hok
    have hz0 := hok.1.1.2
    have hz2 := shText_size f.2.1.1 f.2.1.2 hok.2.1.1.all
    have hz3 := hok.2.1.le
    have hz4 := hok.2.2.2
    clear hO hok
    go_enter Tryd.func60, Tryd.ntmps60
    have HC : Cells (w.alloc (.cells #[.string f.1, .int .i64 f.2.1.1, .slice A f.2.1.2.length c, .slice B f.2.2.length d] 47)) _ := (Cells.nil w).box4 (Below.refl _ _)
    go_wp2_with fail
    refine (HO.out _ (Kd.C_below hl bl) (Kd.C_below hm bl) X).mono ?_
    rintro e w1 ⟨rfl, hb1⟩
    replace HC := HC.to hb1
    obtain ⟨h0, h1, h2, h3, _⟩ := HC.all
    have B1 : Below w.heap.size w w1 := bl
    have zsp := sz_sp
    have zeq := sz_eq
    go_wp2
    refine rgStart 8 [0, 1, 2, 3, 4, 5, 6, 7] i_FeatText_t3 (fun HT HS => ?_)
    repeat ((with_reducible refine rgGate ?_); first | refine rgAdd HT ?_ | refine rgP HT ?_ | refine rgL HT ?_ | refine rgG HT ?_)
    refine rgCall HT Tryd.func44 ((text_c f.2.1.1 A c f.2.1.2 _ (Kd.C_below hl bl) Hok.out.2.1 (T.to bl))) ?_
    rintro e q1 ⟨rfl, hq1⟩
    refine ⟨_, rfl, bl, rgN ?_⟩
    repeat ((with_reducible refine rgGate ?_); first | refine rgAdd HT ?_ | refine rgP HT ?_ | refine rgL HT ?_ | refine rgG HT ?_)
    refine rgDone HT ?_
    clear HT HS
    have B12 : Below w1.heap.size w1 q1 := bl
    have B2 : Below w.heap.size w q1 := B1.trans (B12.mono B1.size)
    replace HC := HC.to B12
    clear B12
    clear h0 h1 h2 h3
    have Hhd := Lib.hid (show headT f = (f.1 ++ ⟨#[32]⟩) ++ shText f.2.1.1 f.2.1.2 from rfl)
    have hz5 : ((f.1 ++ ⟨#[32]⟩) ++ shText f.2.1.1 f.2.1.2).size ≤ 275 := hz1
    generalize (f.1 ++ ⟨#[32]⟩) ++ shText f.2.1.1 f.2.1.2 = hd at *
    obtain ⟨h0, h1, h2, h3, _⟩ := HC.all
    go_wp2
    go_loopw [3, 19] (fun q i wr => ∃ k : Nat, k ≤ f.2.2.length ∧ i = .int .i64 k ∧ q = .string (tagsT hd (f.2.2.take k)) ∧ Aside0 (Below q1.heap.size q1 wr)) (fun _ i _ => f.2.2.length - (intOf i).toNat)
    case atStart => exact ⟨0, by omega, rfl, rfl, ⟨Below.refl _ _⟩⟩
    case round =>
      obtain ⟨k, hk, rfl, rfl, ⟨hbr⟩⟩ := hrel
      have Bw := B2.trans (hbr.mono B2.size)
      by_cases hlt : k < f.2.2.length
      · have d1 : decide ((k : Int) < (f.2.2.length : Int)) = true := decide_eq_true (by omega)
        obtain ⟨ad, rfl, e0, e1⟩ := at_Tag hm k hlt
        replace e0 := pw_cell_below Bw e0
        replace e1 := pw_cell_below Bw e1
        have hw : IntKind.i64.wrap ((k : Int) + 1) = (k : Int) + 1 := IntWalk.i64_in _ (by omega)
        have hp := tag_sz Hok.out.2.2.1 (List.getElem_mem hlt)
        have hs1 := tagsT_size (f.2.2.take k) hd (fun t ht => tag_sz Hok.out.2.2.1 (List.mem_of_mem_take ht))
        rw [List.length_take] at hs1
        replace hs1 : (tagsT hd (f.2.2.take k)).size ≤ 400 := by omega
        have Hx := Lib.hid (show tagsT hd (f.2.2.take (k + 1)) = _ from tagsT_take hd f.2.2 k hlt)
        generalize tagsT hd (f.2.2.take k) = o at *
        generalize f.2.2[k] = p at *
        have Hd := Lib.hid (show tagText p = (((⟨#[32]⟩ : ByteArray) ++ p.1) ++ ⟨#[61]⟩) ++ p.2 from rfl)
        go_wp2
        refine ⟨⟨k + 1, by omega, by go_num, ?_, ⟨bl⟩⟩, by simp [intOf]; omega⟩
        rw [Hx.out, Hd.out]
      · have d1 : decide ((k : Int) < (f.2.2.length : Int)) = false := decide_eq_false (by omega)
        obtain rfl : k = f.2.2.length := by omega
        rw [List.take_length]
        have hfin := Lib.hid (show tagsT hd f.2.2 = featT f by rw [hx.out, ← Hhd.out]; rfl)
        go_wp2
        go_ret
        exact ⟨by rw [← hfin.out]; rfl, Bw⟩
  · have hx := Lib.hid (show featT f = ⟨#[]⟩ from if_neg hok)
    rw [featOk_f.2 hok] at hO
    have HO := Lib.hid hO
    clear hO hok
    go_enter Tryd.func60, Tryd.ntmps60
    go_wp2_with fail
    refine (HO.out _ (Kd.C_below hl bl) (Kd.C_below hm bl) X).mono ?_
    rintro e w1 ⟨rfl, hb1⟩
    go_wp2
    go_ret
    exact ⟨by rw [hx.out]; rfl, bl⟩
end Go.Proofs.YtfbhjknkofnohaaDoor
