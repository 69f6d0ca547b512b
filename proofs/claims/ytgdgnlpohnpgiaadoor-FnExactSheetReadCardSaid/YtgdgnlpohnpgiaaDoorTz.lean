/- Contracts: texts of maps. -/
import Derived.Test.YtgdgnlpohnpgiaaDoorTy
import Derived.Test.YtgdgnlpohnpgiaaDoorSa
namespace Go.Proofs.YtgdgnlpohnpgiaaDoor
open Go.RowKit Go.Proofs.YtgdgnlpohnpgiaaDoorW.PrintWords Go.Proofs.YtgdgnlpohnpgiaaDoorW.PrintLast
set_option maxRecDepth 100000
set_option linter.unusedVariables false
set_option linter.unusedSimpArgs false
/-- Lines of things. -/
noncomputable def linesT (l : List FeatD) : ByteArray := l.foldl (fun o f => o ++ (featT f ++ ⟨#[10]⟩)) ⟨#[]⟩
open Classical in
noncomputable def sheetT (l : List FeatD) : ByteArray := if SheetOk l then linesT l else ⟨#[]⟩
theorem linesT_snoc (l : List FeatD) (f : FeatD) : linesT (l ++ [f]) = linesT l ++ (featT f ++ ⟨#[10]⟩) := by
  unfold linesT
  rw [List.foldl_append]
  rfl
theorem linesT_take (l : List FeatD) (k : Nat) (h : k < l.length) : linesT (l.take (k + 1)) = linesT (l.take k) ++ (featT l[k] ++ ⟨#[10]⟩) := by
  rw [List.take_succ_eq_append_getElem h, linesT_snoc]
theorem featT_size (f : FeatD) : (featT f).size ≤ 400 := by
  unfold featT
  split
  · rename_i h
    exact fullT_size h
  · exact Nat.zero_le _
theorem linesT_size (l : List FeatD) : (linesT l).size ≤ 401 * l.length := by
  have : ∀ (l : List FeatD) (o : ByteArray), (l.foldl (fun o f => o ++ (featT f ++ ⟨#[10]⟩)) o).size ≤ o.size + 401 * l.length := by
    intro l
    induction l with
    | nil => intro o; simp
    | cons f l ih =>
      intro o
      have h1 := ih (o ++ (featT f ++ ⟨#[10]⟩))
      have h2 := featT_size f
      have h3 := sz_nl
      simp only [ByteArray.size_append] at h1
      simp only [List.foldl_cons, List.length_cons]
      omega
  have h := this l ⟨#[]⟩
  have h0 : (⟨#[]⟩ : ByteArray).size = 0 := rfl
  unfold linesT
  omega
set_option maxHeartbeats 4000000 in
theorem iSheetText_c (A : Option Addr) (c : Nat) (l : List FeatD) (w : World) (hl : kFeat.C w A l.length l) (hn : l.length ≤ 1048576) (hX : ∀ f ∈ l, FTx f) (T : Tied w) :
    Calls Tryd.prog 30 #[.slice A l.length c] w fun e w' => e = .returned (.string (sheetT l)) ∧ Below w.heap.size w w' := by
  have hO := fun w h => iSheetOk_c A c l w h hn hX
  by_cases hok : SheetOk l
  · have hx := Lib.hid (show sheetT l = linesT l from if_pos hok)
    rw [sheetOk_t.2 hok] at hO
    have HO := Lib.hid hO
    have h8 : l.length ≤ 8 := hok.2
    clear hO hok
    go_enter Tryd.func30, Tryd.ntmps30
    go_wp2_with fail
    refine (HO.out _ (Kd.C_below hl bl)).mono ?_
    rintro e w1 ⟨rfl, hb1⟩
    go_wp2
    go_loopw [3, 11] (fun q i wr => ∃ k : Nat, k ≤ l.length ∧ i = .int .i64 k ∧ q = .string (linesT (l.take k)) ∧ Aside0 (Below w.heap.size w wr)) (fun _ i _ => l.length - (intOf i).toNat)
    case atStart => exact ⟨0, by omega, rfl, rfl, ⟨bl⟩⟩
    case round =>
      obtain ⟨k, hk, rfl, rfl, ⟨Bw⟩⟩ := hrel
      by_cases hlt : k < l.length
      · have d1 : decide ((k : Int) < (l.length : Int)) = true := decide_eq_true (by omega)
        have hw : IntKind.i64.wrap ((k : Int) + 1) = (k : Int) + 1 := IntWalk.i64_in _ (by omega)
        have hfx := hX _ (List.getElem_mem hlt)
        have hs1 := linesT_size (l.take k)
        rw [List.length_take] at hs1
        replace hs1 : (linesT (l.take k)).size ≤ 4000 := by omega
        have Hx := Lib.hid (show linesT (l.take (k + 1)) = _ from linesT_take l k hlt)
        have zf := featT_size l[k]
        have znl := sz_nl
        obtain ⟨ad, A1, c1, B1, d1', eA, e0, e1, e2, e3, hC1, hT1, hc1, hd1⟩ := at_Feat hl k hlt
        generalize linesT (l.take k) = o at *
        generalize l[k] = f at *
        have cF := fun w' hp ht hT => iFeatText_c f A1 c1 B1 d1' w' hp ht hfx hT
        have CF := Lib.hid cF
        clear cF hfx
        subst eA
        replace e0 := pw_cell_below Bw e0
        replace e1 := pw_cell_below Bw e1
        replace e2 := pw_cell_below Bw e2
        replace e3 := pw_cell_below Bw e3
        go_wp2_with fail
        refine (CF.out _ (Kd.C_below hC1 bl) (Kd.C_below hT1 bl) (T.to bl)).mono ?_
        rintro e q2 ⟨rfl, hq2⟩
        have Bq : Below w.heap.size w q2 := bl
        generalize featT f = ft at *
        go_wp2
        refine ⟨⟨k + 1, by omega, by go_num, ?_, ⟨Bq⟩⟩, by simp [intOf]; omega⟩
        rw [Hx.out]
      · have d1 : decide ((k : Int) < (l.length : Int)) = false := decide_eq_false (by omega)
        obtain rfl : k = l.length := by omega
        rw [List.take_length]
        go_wp2
        go_ret
        exact ⟨by rw [hx.out]; rfl, Bw⟩
  · have hx := Lib.hid (show sheetT l = ⟨#[]⟩ from if_neg hok)
    rw [sheetOk_f.2 hok] at hO
    have HO := Lib.hid hO
    clear hO hok
    go_enter Tryd.func30, Tryd.ntmps30
    go_wp2_with fail
    refine (HO.out _ (Kd.C_below hl bl)).mono ?_
    rintro e w1 ⟨rfl, hb1⟩
    go_wp2
    go_ret
    exact ⟨by rw [hx.out]; rfl, bl⟩
end Go.Proofs.YtgdgnlpohnpgiaaDoor
