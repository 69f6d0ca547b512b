/- Contracts: what is drawn: a thing alone, a word; the text of a thing that is not ok. -/
import Derived.Test.YtgdgnlpohnpgiaaGreatDoorDx
import Derived.Test.YtgdgnlpohnpgiaaGreatDoorDu
namespace Go.Proofs.YtgdgnlpohnpgiaaGreatDoor
open Go.RowKit Go.Proofs.YtgdgnlpohnpgiaaGreatDoorW.PrintWords Go.Proofs.YtgdgnlpohnpgiaaGreatDoorW.PrintLast
set_option maxRecDepth 100000
set_option linter.unusedVariables false
set_option linter.unusedSimpArgs false
attribute [local go_sem] cell_set_far cell_set_off
/-- A thing drawn of a code. -/
def CFeat (w : World) (e : Ending) (w' : World) : Prop := ∃ (f : FeatD) (A : Option Addr) (c : Nat) (B : Option Addr) (d : Nat), e = .returned (featV f A c B d) ∧ RI kPt 84 w' w.heap.size w'.heap.size (.slice A f.2.1.2.length c) f.2.1.2 ∧ RI kTag 54 w' w.heap.size w'.heap.size (.slice B f.2.2.length d) f.2.2 ∧ FSm 4 f ∧ Below w.heap.size w w'
theorem iFeatText_no (f : FeatD) (A : Option Addr) (c : Nat) (B : Option Addr) (d : Nat) (w : World) (hl : kPt.C w A f.2.1.2.length f.2.1.2) (hm : kTag.C w B f.2.2.length f.2.2) (X : FTx f) (hno : featOk f = false) :
    Calls Tryz.prog 7 #[featV f A c B d] w fun e w' => e = .returned (.string ⟨#[]⟩) ∧ Below w.heap.size w w' := by
  have hO := iFeatOk_c f A c B d
  rw [hno] at hO
  have HO := Lib.hid hO
  clear hO
  go_enter Tryz.func7, Tryz.ntmps7
  have T1 : B4 (w.alloc (.cells #[.string f.1, .int .i64 f.2.1.1, .slice A f.2.1.2.length c, .slice B f.2.2.length d] 28)) w.heap.size 28 (.string f.1) (.int .i64 f.2.1.1) (.slice A f.2.1.2.length c) (.slice B f.2.2.length d) := B4.new w _ _ _ _ _
  go_wp2_with fail
  refine (HO.out _ (Kd.C_below hl bl) (Kd.C_below hm bl) X).mono ?_
  rintro e w1 ⟨rfl, hb1⟩
  go_wp2
  go_ret
  exact ⟨rfl, bl⟩
end Go.Proofs.YtgdgnlpohnpgiaaGreatDoor
