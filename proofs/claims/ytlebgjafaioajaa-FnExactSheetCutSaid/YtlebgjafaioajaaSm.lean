/- Contracts: a map without a name, in the program. -/
import Derived.Test.YtlebgjafaioajaaSl
namespace Go.Proofs.Ytlebgjafaioajaa
open Go.RowKit Go.Proofs.YtlebgjafaioajaaW.PrintWords Go.Proofs.YtlebgjafaioajaaW.PrintLast
set_option maxRecDepth 100000
set_option linter.unusedVariables false
set_option linter.unusedSimpArgs false
def i_SheetCut_T4 : Bool × List (List Nat × List Nat) := (true, [([], []), ([], []), ([0, 1], [0, 1]), ([2], [2]), ([], []), ([], []), ([5], [5]), ([4, 6], [4, 6]), ([3, 7, 3], [3, 7]), ([8, 8], [8]), ([9, 9, 0, 1, 2, 3, 4, 5, 6, 7, 8, 9], [9]), ([10, 0, 1, 2, 3, 4, 5, 6, 7, 8, 9, 10], [])])
theorem i_SheetCut_t4 : rtab .any (opsOf Try.f44 4) = i_SheetCut_T4 := by kernel_rfl
set_option maxHeartbeats 4000000 in
theorem iSheetCut_c (A : Option Addr) (c : Nat) (l : List FeatD) (id : ByteArray) (w : World) (hl : kFeat.C w A l.length l) (hc : l.length ≤ c) (hn : Few l) (hz : ∀ f ∈ l, FTx f) :
    Calls Try.prog 44 #[.slice A l.length c, .string id] w (NSepB w (scut l id)) := by
  have n1 := hn.1
  have hT := featAt_c A c l id
  have hO := iSheetOk_c A c l
  have hFc := few_cut hn id
  rcases scut_cases l id with ⟨ho, hs⟩ | ⟨ho, ha, hs⟩ | ⟨k, ho, ha, hk, he, hs⟩
  · have HT := Lib.hid hT
    rw [ho] at hO
    have HO := Lib.hid hO
    have Hs := Lib.hid hs
    clear hT hO hs ho
    go_enter Try.func44, Try.ntmps44
    go_wp2_with fail
    refine (HT.out _ (Kd.C_below hl bl) n1).mono ?_
    rintro e w1 ⟨rfl, hb1⟩
    go_wp2_with fail
    refine (HO.out _ (Kd.C_below hl bl) n1 hz).mono ?_
    rintro e w2 ⟨rfl, hb2⟩
    go_wp2
    refine bodyPost_ret (v := .tuple #[.slice (some ⟨w2.heap.size, 0, none⟩) 0 0, .bool false]) (by simp [results, Try.results44, go_sem, *]) rfl ?_
    rw [Hs.out]
    exact ⟨_, _, rfl, Sep.lit0 w2 w.heap.size (bl : Below w.heap.size w w2).size, bl⟩
  · rw [ha] at hT
    simp only [optI] at hT
    have HT := Lib.hid hT
    rw [ho] at hO
    have HO := Lib.hid hO
    have Hs := Lib.hid hs
    clear hT hO hs ho ha
    go_enter Try.func44, Try.ntmps44
    go_wp2_with fail
    refine (HT.out _ (Kd.C_below hl bl) n1).mono ?_
    rintro e w1 ⟨rfl, hb1⟩
    go_wp2_with fail
    refine (HO.out _ (Kd.C_below hl bl) n1 hz).mono ?_
    rintro e w2 ⟨rfl, hb2⟩
    go_wp2
    refine bodyPost_ret (v := .tuple #[.slice (some ⟨w2.heap.size, 0, none⟩) 0 0, .bool false]) (by simp [results, Try.results44, go_sem, *]) rfl ?_
    rw [Hs.out]
    exact ⟨_, _, rfl, Sep.lit0 w2 w.heap.size (bl : Below w.heap.size w w2).size, bl⟩
  · rw [ha] at hT
    simp only [optI] at hT
    have HT := Lib.hid hT
    rw [ho] at hO
    have HO := Lib.hid hO
    have Hs := Lib.hid hs
    have t1 : decide ((k : Int) < 0) = false := decide_eq_false (by omega)
    have hw : IntKind.i64.wrap ((k : Int) + 1) = (k : Int) + 1 := IntWalk.i64_in _ (by omega)
    have hD := Kd.C_drop hl (show k + 1 ≤ l.length by omega) hc
    rw [List.length_drop] at hD
    have hTk := Kd.C_take hl (show k ≤ l.length by omega)
    have hk2 : (l.take k).length = k := by rw [List.length_take]; omega
    have hct := cut_to (P := Try.prog) 43 35 .i64 Try.underlying43 rfl A l.length c (k : Int) (by omega) (by omega) hc
    have hcf := cut_from (P := Try.prog) 43 35 .i64 Try.underlying43 rfl kFeat.sz rfl A l.length c ((k : Int) + 1) (by omega) (by omega)
    have ek : ((k : Int) + 1).toNat = k + 1 := by omega
    rw [ek] at hcf
    simp only [Int.toNat_natCast] at hct
    generalize (if c = k + 1 then A else A.map (·.add ((k + 1) * kFeat.sz))) = A9 at hcf hD
    have hFt : Few (l.take k) := ⟨by omega, fun f hf => hn.2 f (List.mem_of_mem_take hf)⟩
    have He := Lib.hid he
    have hlen : (l.take k ++ l.drop (k + 1)).length = (cutK l id).length := by rw [he]
    have Hlen := Lib.hid hlen
    have Htk := Lib.hid (cloneSheet_c A c (l.take k))
    rw [hk2] at Htk hTk
    have Hk2 := Lib.hid hk2
    clear hT hO hs ho ha he ek hk2 hlen
    go_enter Try.func44, Try.ntmps44
    go_wp2_with fail
    refine (HT.out _ (Kd.C_below hl bl) n1).mono ?_
    rintro e w1 ⟨rfl, hb1⟩
    go_wp2_with fail
    refine (HO.out _ (Kd.C_below hl bl) n1 hz).mono ?_
    rintro e w2 ⟨rfl, hb2⟩
    have hB2 : Below w.heap.size w w2 := bl
    go_wp2
    refine cgStart 12 [0, 1, 2, 4, 5, 6, 7, 3, 8, 9, 10, 11] [] [] i_SheetCut_t4 trivial (fun HT HD => ?_)
    repeat ((with_reducible refine cgGate ?_); first | refine cgP HT ?_ | refine cgL HT ?_ | refine cgG HT ?_)
    refine cgCall HT Try.func85 (Htk.out _ (Kd.C_below hTk bl) hFt) ?_
    rintro e w3 ⟨A3, c3, rfl, ⟨xs3, I3, J3, hs3⟩, hb3⟩
    refine ⟨_, rfl, trivial, cgN ?_⟩
    have hB3 : Below w.heap.size w w3 := bl
    have s2 := hB2.size
    have s3 := hb3.size
    simp only [World.size_drew] at s3
    have hraw := hs3.raw
    rw [Hk2.out] at hraw ⊢
    have hgb : ∀ g, (Value.slice A3 k c3).ownBlock = some g → w.heap.size ≤ g := fun g hg => by
      have := (kRaw_lt hraw g hg).1
      simp at this
      omega
    have hsub : Sub w (lessV w3 (.slice A3 k c3)) := sub_lessV hB3 hgb
    have hD3 : (kRaw (lessV w3 (.slice A3 k c3))).C w3 A9 (l.length - (k + 1)) (l.drop (k + 1)) := ReadsRow.sub (R' := kFeat.K (lessV w3 (.slice A3 k c3))) hD (Sub.of hB3) (fun _ _ hk => kFeat_subK hk hsub)
    have hraw2 := Kd.R_lower hraw (show w.heap.size ≤ _ by simp; omega)
    refine cgAppG (d := kRaw (lessV w3 (.slice A3 k c3))) (w0 := w) (base := w.heap.size) 43 35 z0Feat 72 Try.underlying43 info_Feat rfl (show 0 < 4 by decide) (by omega) (fun _ _ h => h) (.tmp 21) (.tmp 25) _ (l.take k) (l.drop (k + 1)) A9 (l.length - (k + 1)) (c - (k + 1)) HT trivial hraw2 hD3 hB3 (by omega) (by simp; omega) (by simp) ?_
    intro A4 c4 w4 ho4 hb4 _ hg4
    refine cgN ?_
    have hC4 := kRaw_C (Kd.R_reads' ho4).2.2 (lessV_sub hg4)
    rw [Hlen.out, ← He.out] at hC4
    rw [Hlen.out]
    refine cgCall HT Try.func85 (cloneSheet_c A4 c4 (cutK l id) _ hC4 hFc) ?_
    rintro e w5 ⟨A5, c5, rfl, hs5, hb5⟩
    refine ⟨_, rfl, trivial, cgN ?_⟩
    repeat ((with_reducible refine cgGate ?_); first | refine cgP HT ?_ | refine cgL HT ?_ | refine cgG HT ?_)
    refine cgDone HT ?_
    clear HT HD hct hcf hraw hraw2 hD3 hsub hgb
    have hB5 : Below w.heap.size w w5 := hb4.trans (hb5.mono hb4.size)
    go_wp2
    refine bodyPost_ret (v := .tuple #[.slice A5 (cutK l id).length c5, .bool true]) (by simp [results, Try.results44, go_sem, *]) rfl ?_
    rw [Hs.out]
    exact ⟨A5, c5, rfl, hs5.wide hb4.size (Nat.le_refl _), hB5⟩
end Go.Proofs.Ytlebgjafaioajaa
