/-
  No cell of these rows narrows 'for every input' (looked for: loops, veiled, ifaces, maps, wideKeys, modest, calm, conditions, laid).
  DERIVED. THE GIVEN ROWS OF THIS SEAT. 16 by the template 'for every input the law returns true; each argument reads behind the call as it read before'; 0 by the template 'total and deterministic' (their statements: YtlebgjafaioajaaTotals.lean).
  GIVEN WITH THE SEED: the statements are not yours to turn. If you find one false, say at which input.
  Laid BY PROGRAM, IN A SANDBOX (cutbox-rows.mjs): the forced cells as the released guide's own fill.sh prints them over the translation e7e835a4bc8662ec… (all of the seat's roots in one cut). By AI agents, Wed Nov 11 2026. No macro, syntax, notation, axiom, sorry.
-/
import Derived.Test.YtlebgjafaioajaaChecked
import GoSem.Claim
import GoSem.ClaimJoined
import GoSem.ClaimMapViews
import Derived.JoinedTies
import Derived.KernelRfl
namespace Go.Proofs.Ytlebgjafaioajaa
/- THE CELL 'sum', in the pinned program and in every row, IS THE sha256 OF THE DUMP (.gsa) THAT YtlebgjafaioajaaProg.lean LOADS. Nothing in Lean hashes anything: it is a label: what it is worth is what the hold of that sum in a sandbox is worth. -/
noncomputable def Try.pinned : Pinned := { name := "ytlebgjafaioajaa", sum := "e7e835a4bc8662ec959b93c84cec6f21bfd21aa553e24b40f68a3ea7c91ddb80", checked := Try.checked }
namespace Rows
def none {H : Type} : Left H := { results := [], args := [] }

/-- 'laws.FnExactFeatSame': WHATEVER THE INPUT: true; the input reads as it did. -/
def fnExactFeatSameSpec : ChangeSpec := { name := "fnExactFeatSame", fn := fun _ => fun
  | [d1, d2] => { results := [.lit (.bool true)], args := [d1, d2] }
  | _ => none }
def fnExactFeatSameRow : OpenClaim := { program := "ytlebgjafaioajaa", sum := "e7e835a4bc8662ec959b93c84cec6f21bfd21aa553e24b40f68a3ea7c91ddb80", func := "loop.example/townland/laws.FnExactFeatSame", spec := "fnExactFeatSame", apart := false }
def FnExactFeatSameSaid : Prop := fnExactFeatSameRow.holds Try.pinned (OpenSpec.ofChange fnExactFeatSameSpec)

/-- ITS FALSE NEIGHBOUR: 'it returns false'. Refute it at one input. -/
def fnExactFeatSameWrong : ChangeSpec := { name := "fnExactFeatSame", fn := fun _ => fun
  | [d1, d2] => { results := [.lit (.bool false)], args := [d1, d2] }
  | _ => none }
def FnExactFeatSameWrongFalsely : Prop := fnExactFeatSameRow.holds Try.pinned (OpenSpec.ofChange fnExactFeatSameWrong)

/-- 'laws.FnExactFeatOk': WHATEVER THE INPUT: true; the input reads as it did. -/
def fnExactFeatOkSpec : ChangeSpec := { name := "fnExactFeatOk", fn := fun _ => fun
  | [d] => { results := [.lit (.bool true)], args := [d] }
  | _ => none }
def fnExactFeatOkRow : OpenClaim := { program := "ytlebgjafaioajaa", sum := "e7e835a4bc8662ec959b93c84cec6f21bfd21aa553e24b40f68a3ea7c91ddb80", func := "loop.example/townland/laws.FnExactFeatOk", spec := "fnExactFeatOk", apart := false }
def FnExactFeatOkSaid : Prop := fnExactFeatOkRow.holds Try.pinned (OpenSpec.ofChange fnExactFeatOkSpec)

/-- ITS FALSE NEIGHBOUR: 'it returns false'. Refute it at one input. -/
def fnExactFeatOkWrong : ChangeSpec := { name := "fnExactFeatOk", fn := fun _ => fun
  | [d] => { results := [.lit (.bool false)], args := [d] }
  | _ => none }
def FnExactFeatOkWrongFalsely : Prop := fnExactFeatOkRow.holds Try.pinned (OpenSpec.ofChange fnExactFeatOkWrong)

/-- 'laws.FnExactSheetSame': WHATEVER THE INPUT: true; the input reads as it did. -/
def fnExactSheetSameSpec : ChangeSpec := { name := "fnExactSheetSame", fn := fun _ => fun
  | [d1, d2] => { results := [.lit (.bool true)], args := [d1, d2] }
  | _ => none }
def fnExactSheetSameRow : OpenClaim := { program := "ytlebgjafaioajaa", sum := "e7e835a4bc8662ec959b93c84cec6f21bfd21aa553e24b40f68a3ea7c91ddb80", func := "loop.example/townland/laws.FnExactSheetSame", spec := "fnExactSheetSame", unfollowed := true, recurses := true, apart := false }
def FnExactSheetSameSaid : Prop := fnExactSheetSameRow.holds Try.pinned (OpenSpec.ofChange fnExactSheetSameSpec)

/-- ITS FALSE NEIGHBOUR: 'it returns false'. Refute it at one input. -/
def fnExactSheetSameWrong : ChangeSpec := { name := "fnExactSheetSame", fn := fun _ => fun
  | [d1, d2] => { results := [.lit (.bool false)], args := [d1, d2] }
  | _ => none }
def FnExactSheetSameWrongFalsely : Prop := fnExactSheetSameRow.holds Try.pinned (OpenSpec.ofChange fnExactSheetSameWrong)

/-- 'laws.FnExactFeatGet': WHATEVER THE INPUT: true; the input reads as it did. -/
def fnExactFeatGetSpec : ChangeSpec := { name := "fnExactFeatGet", fn := fun _ => fun
  | [d1, d2] => { results := [.lit (.bool true)], args := [d1, d2] }
  | _ => none }
def fnExactFeatGetRow : OpenClaim := { program := "ytlebgjafaioajaa", sum := "e7e835a4bc8662ec959b93c84cec6f21bfd21aa553e24b40f68a3ea7c91ddb80", func := "loop.example/townland/laws.FnExactFeatGet", spec := "fnExactFeatGet", unfollowed := true, recurses := true, apart := false }
def FnExactFeatGetSaid : Prop := fnExactFeatGetRow.holds Try.pinned (OpenSpec.ofChange fnExactFeatGetSpec)

/-- ITS FALSE NEIGHBOUR: 'it returns false'. Refute it at one input. -/
def fnExactFeatGetWrong : ChangeSpec := { name := "fnExactFeatGet", fn := fun _ => fun
  | [d1, d2] => { results := [.lit (.bool false)], args := [d1, d2] }
  | _ => none }
def FnExactFeatGetWrongFalsely : Prop := fnExactFeatGetRow.holds Try.pinned (OpenSpec.ofChange fnExactFeatGetWrong)

/-- 'laws.FnExactSheetOk': WHATEVER THE INPUT: true; the input reads as it did. -/
def fnExactSheetOkSpec : ChangeSpec := { name := "fnExactSheetOk", fn := fun _ => fun
  | [d] => { results := [.lit (.bool true)], args := [d] }
  | _ => none }
def fnExactSheetOkRow : OpenClaim := { program := "ytlebgjafaioajaa", sum := "e7e835a4bc8662ec959b93c84cec6f21bfd21aa553e24b40f68a3ea7c91ddb80", func := "loop.example/townland/laws.FnExactSheetOk", spec := "fnExactSheetOk", apart := false }
def FnExactSheetOkSaid : Prop := fnExactSheetOkRow.holds Try.pinned (OpenSpec.ofChange fnExactSheetOkSpec)

/-- ITS FALSE NEIGHBOUR: 'it returns false'. Refute it at one input. -/
def fnExactSheetOkWrong : ChangeSpec := { name := "fnExactSheetOk", fn := fun _ => fun
  | [d] => { results := [.lit (.bool false)], args := [d] }
  | _ => none }
def FnExactSheetOkWrongFalsely : Prop := fnExactSheetOkRow.holds Try.pinned (OpenSpec.ofChange fnExactSheetOkWrong)

/-- 'laws.FnFeatCut': WHATEVER THE INPUT: true; the input reads as it did. -/
def fnFeatCutSpec : ChangeSpec := { name := "fnFeatCut", fn := fun _ => fun
  | [d] => { results := [.lit (.bool true)], args := [d] }
  | _ => none }
def fnFeatCutRow : OpenClaim := { program := "ytlebgjafaioajaa", sum := "e7e835a4bc8662ec959b93c84cec6f21bfd21aa553e24b40f68a3ea7c91ddb80", func := "loop.example/townland/laws.FnFeatCut", spec := "fnFeatCut", unfollowed := true, recurses := true, apart := false }
def FnFeatCutSaid : Prop := fnFeatCutRow.holds Try.pinned (OpenSpec.ofChange fnFeatCutSpec)

/-- ITS FALSE NEIGHBOUR: 'it returns false'. Refute it at one input. -/
def fnFeatCutWrong : ChangeSpec := { name := "fnFeatCut", fn := fun _ => fun
  | [d] => { results := [.lit (.bool false)], args := [d] }
  | _ => none }
def FnFeatCutWrongFalsely : Prop := fnFeatCutRow.holds Try.pinned (OpenSpec.ofChange fnFeatCutWrong)

/-- 'laws.FnExactFeatCut': WHATEVER THE INPUT: true; the input reads as it did. -/
def fnExactFeatCutSpec : ChangeSpec := { name := "fnExactFeatCut", fn := fun _ => fun
  | [d1, d2] => { results := [.lit (.bool true)], args := [d1, d2] }
  | _ => none }
def fnExactFeatCutRow : OpenClaim := { program := "ytlebgjafaioajaa", sum := "e7e835a4bc8662ec959b93c84cec6f21bfd21aa553e24b40f68a3ea7c91ddb80", func := "loop.example/townland/laws.FnExactFeatCut", spec := "fnExactFeatCut", unfollowed := true, recurses := true, apart := false }
def FnExactFeatCutSaid : Prop := fnExactFeatCutRow.holds Try.pinned (OpenSpec.ofChange fnExactFeatCutSpec)

/-- ITS FALSE NEIGHBOUR: 'it returns false'. Refute it at one input. -/
def fnExactFeatCutWrong : ChangeSpec := { name := "fnExactFeatCut", fn := fun _ => fun
  | [d1, d2] => { results := [.lit (.bool false)], args := [d1, d2] }
  | _ => none }
def FnExactFeatCutWrongFalsely : Prop := fnExactFeatCutRow.holds Try.pinned (OpenSpec.ofChange fnExactFeatCutWrong)

/-- 'laws.FnExactSheetGet': WHATEVER THE INPUT: true; the input reads as it did. -/
def fnExactSheetGetSpec : ChangeSpec := { name := "fnExactSheetGet", fn := fun _ => fun
  | [d1, d2] => { results := [.lit (.bool true)], args := [d1, d2] }
  | _ => none }
def fnExactSheetGetRow : OpenClaim := { program := "ytlebgjafaioajaa", sum := "e7e835a4bc8662ec959b93c84cec6f21bfd21aa553e24b40f68a3ea7c91ddb80", func := "loop.example/townland/laws.FnExactSheetGet", spec := "fnExactSheetGet", unfollowed := true, recurses := true, apart := false }
def FnExactSheetGetSaid : Prop := fnExactSheetGetRow.holds Try.pinned (OpenSpec.ofChange fnExactSheetGetSpec)

/-- ITS FALSE NEIGHBOUR: 'it returns false'. Refute it at one input. -/
def fnExactSheetGetWrong : ChangeSpec := { name := "fnExactSheetGet", fn := fun _ => fun
  | [d1, d2] => { results := [.lit (.bool false)], args := [d1, d2] }
  | _ => none }
def FnExactSheetGetWrongFalsely : Prop := fnExactSheetGetRow.holds Try.pinned (OpenSpec.ofChange fnExactSheetGetWrong)

/-- 'laws.FnExactSheetCut': WHATEVER THE INPUT: true; the input reads as it did. -/
def fnExactSheetCutSpec : ChangeSpec := { name := "fnExactSheetCut", fn := fun _ => fun
  | [d1, d2] => { results := [.lit (.bool true)], args := [d1, d2] }
  | _ => none }
def fnExactSheetCutRow : OpenClaim := { program := "ytlebgjafaioajaa", sum := "e7e835a4bc8662ec959b93c84cec6f21bfd21aa553e24b40f68a3ea7c91ddb80", func := "loop.example/townland/laws.FnExactSheetCut", spec := "fnExactSheetCut", unfollowed := true, recurses := true, apart := false }
def FnExactSheetCutSaid : Prop := fnExactSheetCutRow.holds Try.pinned (OpenSpec.ofChange fnExactSheetCutSpec)

/-- ITS FALSE NEIGHBOUR: 'it returns false'. Refute it at one input. -/
def fnExactSheetCutWrong : ChangeSpec := { name := "fnExactSheetCut", fn := fun _ => fun
  | [d1, d2] => { results := [.lit (.bool false)], args := [d1, d2] }
  | _ => none }
def FnExactSheetCutWrongFalsely : Prop := fnExactSheetCutRow.holds Try.pinned (OpenSpec.ofChange fnExactSheetCutWrong)

/-- 'laws.FnFeatTwo': WHATEVER THE INPUT: true; the input reads as it did. -/
def fnFeatTwoSpec : ChangeSpec := { name := "fnFeatTwo", fn := fun _ => fun
  | [d1, d2] => { results := [.lit (.bool true)], args := [d1, d2] }
  | _ => none }
def fnFeatTwoRow : OpenClaim := { program := "ytlebgjafaioajaa", sum := "e7e835a4bc8662ec959b93c84cec6f21bfd21aa553e24b40f68a3ea7c91ddb80", func := "loop.example/townland/laws.FnFeatTwo", spec := "fnFeatTwo", unfollowed := true, recurses := true, apart := false }
def FnFeatTwoSaid : Prop := fnFeatTwoRow.holds Try.pinned (OpenSpec.ofChange fnFeatTwoSpec)

/-- ITS FALSE NEIGHBOUR: 'it returns false'. Refute it at one input. -/
def fnFeatTwoWrong : ChangeSpec := { name := "fnFeatTwo", fn := fun _ => fun
  | [d1, d2] => { results := [.lit (.bool false)], args := [d1, d2] }
  | _ => none }
def FnFeatTwoWrongFalsely : Prop := fnFeatTwoRow.holds Try.pinned (OpenSpec.ofChange fnFeatTwoWrong)

/-- 'laws.FnFeatPut': WHATEVER THE INPUT: true; the input reads as it did. -/
def fnFeatPutSpec : ChangeSpec := { name := "fnFeatPut", fn := fun _ => fun
  | [d] => { results := [.lit (.bool true)], args := [d] }
  | _ => none }
def fnFeatPutRow : OpenClaim := { program := "ytlebgjafaioajaa", sum := "e7e835a4bc8662ec959b93c84cec6f21bfd21aa553e24b40f68a3ea7c91ddb80", func := "loop.example/townland/laws.FnFeatPut", spec := "fnFeatPut", unfollowed := true, recurses := true, apart := false }
def FnFeatPutSaid : Prop := fnFeatPutRow.holds Try.pinned (OpenSpec.ofChange fnFeatPutSpec)

/-- ITS FALSE NEIGHBOUR: 'it returns false'. Refute it at one input. -/
def fnFeatPutWrong : ChangeSpec := { name := "fnFeatPut", fn := fun _ => fun
  | [d] => { results := [.lit (.bool false)], args := [d] }
  | _ => none }
def FnFeatPutWrongFalsely : Prop := fnFeatPutRow.holds Try.pinned (OpenSpec.ofChange fnFeatPutWrong)

/-- 'laws.FnSheetTwo': WHATEVER THE INPUT: true; the input reads as it did. -/
def fnSheetTwoSpec : ChangeSpec := { name := "fnSheetTwo", fn := fun _ => fun
  | [d1, d2] => { results := [.lit (.bool true)], args := [d1, d2] }
  | _ => none }
def fnSheetTwoRow : OpenClaim := { program := "ytlebgjafaioajaa", sum := "e7e835a4bc8662ec959b93c84cec6f21bfd21aa553e24b40f68a3ea7c91ddb80", func := "loop.example/townland/laws.FnSheetTwo", spec := "fnSheetTwo", unfollowed := true, recurses := true, apart := false }
def FnSheetTwoSaid : Prop := fnSheetTwoRow.holds Try.pinned (OpenSpec.ofChange fnSheetTwoSpec)

/-- ITS FALSE NEIGHBOUR: 'it returns false'. Refute it at one input. -/
def fnSheetTwoWrong : ChangeSpec := { name := "fnSheetTwo", fn := fun _ => fun
  | [d1, d2] => { results := [.lit (.bool false)], args := [d1, d2] }
  | _ => none }
def FnSheetTwoWrongFalsely : Prop := fnSheetTwoRow.holds Try.pinned (OpenSpec.ofChange fnSheetTwoWrong)

/-- 'laws.FnSheetPut': WHATEVER THE INPUT: true; the input reads as it did. -/
def fnSheetPutSpec : ChangeSpec := { name := "fnSheetPut", fn := fun _ => fun
  | [d] => { results := [.lit (.bool true)], args := [d] }
  | _ => none }
def fnSheetPutRow : OpenClaim := { program := "ytlebgjafaioajaa", sum := "e7e835a4bc8662ec959b93c84cec6f21bfd21aa553e24b40f68a3ea7c91ddb80", func := "loop.example/townland/laws.FnSheetPut", spec := "fnSheetPut", unfollowed := true, recurses := true, apart := false }
def FnSheetPutSaid : Prop := fnSheetPutRow.holds Try.pinned (OpenSpec.ofChange fnSheetPutSpec)

/-- ITS FALSE NEIGHBOUR: 'it returns false'. Refute it at one input. -/
def fnSheetPutWrong : ChangeSpec := { name := "fnSheetPut", fn := fun _ => fun
  | [d] => { results := [.lit (.bool false)], args := [d] }
  | _ => none }
def FnSheetPutWrongFalsely : Prop := fnSheetPutRow.holds Try.pinned (OpenSpec.ofChange fnSheetPutWrong)

/-- 'laws.FnSheetCut': WHATEVER THE INPUT: true; the input reads as it did. -/
def fnSheetCutSpec : ChangeSpec := { name := "fnSheetCut", fn := fun _ => fun
  | [d] => { results := [.lit (.bool true)], args := [d] }
  | _ => none }
def fnSheetCutRow : OpenClaim := { program := "ytlebgjafaioajaa", sum := "e7e835a4bc8662ec959b93c84cec6f21bfd21aa553e24b40f68a3ea7c91ddb80", func := "loop.example/townland/laws.FnSheetCut", spec := "fnSheetCut", unfollowed := true, recurses := true, apart := false }
def FnSheetCutSaid : Prop := fnSheetCutRow.holds Try.pinned (OpenSpec.ofChange fnSheetCutSpec)

/-- ITS FALSE NEIGHBOUR: 'it returns false'. Refute it at one input. -/
def fnSheetCutWrong : ChangeSpec := { name := "fnSheetCut", fn := fun _ => fun
  | [d] => { results := [.lit (.bool false)], args := [d] }
  | _ => none }
def FnSheetCutWrongFalsely : Prop := fnSheetCutRow.holds Try.pinned (OpenSpec.ofChange fnSheetCutWrong)

/-- 'laws.FnExactFeatPut': WHATEVER THE INPUT: true; the input reads as it did. -/
def fnExactFeatPutSpec : ChangeSpec := { name := "fnExactFeatPut", fn := fun _ => fun
  | [d1, d2, d3] => { results := [.lit (.bool true)], args := [d1, d2, d3] }
  | _ => none }
def fnExactFeatPutRow : OpenClaim := { program := "ytlebgjafaioajaa", sum := "e7e835a4bc8662ec959b93c84cec6f21bfd21aa553e24b40f68a3ea7c91ddb80", func := "loop.example/townland/laws.FnExactFeatPut", spec := "fnExactFeatPut", unfollowed := true, recurses := true, apart := false }
def FnExactFeatPutSaid : Prop := fnExactFeatPutRow.holds Try.pinned (OpenSpec.ofChange fnExactFeatPutSpec)

/-- ITS FALSE NEIGHBOUR: 'it returns false'. Refute it at one input. -/
def fnExactFeatPutWrong : ChangeSpec := { name := "fnExactFeatPut", fn := fun _ => fun
  | [d1, d2, d3] => { results := [.lit (.bool false)], args := [d1, d2, d3] }
  | _ => none }
def FnExactFeatPutWrongFalsely : Prop := fnExactFeatPutRow.holds Try.pinned (OpenSpec.ofChange fnExactFeatPutWrong)

/-- 'laws.FnExactSheetPut': WHATEVER THE INPUT: true; the input reads as it did. -/
def fnExactSheetPutSpec : ChangeSpec := { name := "fnExactSheetPut", fn := fun _ => fun
  | [d1, d2] => { results := [.lit (.bool true)], args := [d1, d2] }
  | _ => none }
def fnExactSheetPutRow : OpenClaim := { program := "ytlebgjafaioajaa", sum := "e7e835a4bc8662ec959b93c84cec6f21bfd21aa553e24b40f68a3ea7c91ddb80", func := "loop.example/townland/laws.FnExactSheetPut", spec := "fnExactSheetPut", unfollowed := true, recurses := true, apart := false }
def FnExactSheetPutSaid : Prop := fnExactSheetPutRow.holds Try.pinned (OpenSpec.ofChange fnExactSheetPutSpec)

/-- ITS FALSE NEIGHBOUR: 'it returns false'. Refute it at one input. -/
def fnExactSheetPutWrong : ChangeSpec := { name := "fnExactSheetPut", fn := fun _ => fun
  | [d1, d2] => { results := [.lit (.bool false)], args := [d1, d2] }
  | _ => none }
def FnExactSheetPutWrongFalsely : Prop := fnExactSheetPutRow.holds Try.pinned (OpenSpec.ofChange fnExactSheetPutWrong)

/- THE SECOND FORM. 'bulk': how many values and letters a reading holds, each counted each time it is reached (what is shared counts as often as it is met; a slice's spare places count too). A statement '..UptoSaid' is the law's where the arguments, and the package variables that the reading takes, are together of bulk at most 1048576: NARROWER than '..Said'. Prove '..Said' where nothing that the law and all that it calls make is longer than what came in: it says more and counts as full. Else prove '..UptoSaid'. A law counts once. -/
mutual
def uptoBulk {H : Type} : DataW H → Nat
  | .lit (.string bytes) => bytes.length + 1
  | .lit _ => 1
  | .nil => 1
  | .ptr d => uptoBulk d + 1
  | .slice elems spare => uptoBulkAll elems + uptoBulkAll spare + 1
  | .agg parts => uptoBulkAll parts + 1
  | .iface _ d => uptoBulk d + 1
  | .map entries => uptoBulkEntries entries + 1
  | .held _ => 1
def uptoBulkAll {H : Type} : List (DataW H) → Nat
  | [] => 0
  | d :: r => uptoBulk d + uptoBulkAll r
def uptoBulkEntries {H : Type} : List (Lit × DataW H) → Nat
  | [] => 0
  | x :: r => uptoBulkEntry x + uptoBulkEntries r
def uptoBulkEntry {H : Type} : Lit × DataW H → Nat
  | (.string bytes, d) => bytes.length + uptoBulk d + 1
  | (_, d) => uptoBulk d + 1
 end
def uptoSmall : (H : Type) → List (DataW H) → Bool := fun _ ds => decide (uptoBulkAll ds ≤ 1048576)
def OpenSpec.upto (s : _root_.Go.ChangeSpec) : _root_.Go.OpenSpec := { _root_.Go.OpenSpec.ofChange s with cond := some uptoSmall }

/-- 'laws.FnExactFeatSame', WHERE WHAT IT READS IS OF BULK AT MOST 1048576: true; the input reads as it did. -/
def fnExactFeatSameUptoRow : OpenClaim := { program := "ytlebgjafaioajaa", sum := "e7e835a4bc8662ec959b93c84cec6f21bfd21aa553e24b40f68a3ea7c91ddb80", func := "loop.example/townland/laws.FnExactFeatSame", spec := "fnExactFeatSame", apart := false, narrowed := true }
def FnExactFeatSameUptoSaid : Prop := fnExactFeatSameUptoRow.holds Try.pinned (OpenSpec.upto fnExactFeatSameSpec)

/-- 'laws.FnExactFeatOk', WHERE WHAT IT READS IS OF BULK AT MOST 1048576: true; the input reads as it did. -/
def fnExactFeatOkUptoRow : OpenClaim := { program := "ytlebgjafaioajaa", sum := "e7e835a4bc8662ec959b93c84cec6f21bfd21aa553e24b40f68a3ea7c91ddb80", func := "loop.example/townland/laws.FnExactFeatOk", spec := "fnExactFeatOk", apart := false, narrowed := true }
def FnExactFeatOkUptoSaid : Prop := fnExactFeatOkUptoRow.holds Try.pinned (OpenSpec.upto fnExactFeatOkSpec)

/-- 'laws.FnExactSheetSame', WHERE WHAT IT READS IS OF BULK AT MOST 1048576: true; the input reads as it did. -/
def fnExactSheetSameUptoRow : OpenClaim := { program := "ytlebgjafaioajaa", sum := "e7e835a4bc8662ec959b93c84cec6f21bfd21aa553e24b40f68a3ea7c91ddb80", func := "loop.example/townland/laws.FnExactSheetSame", spec := "fnExactSheetSame", unfollowed := true, recurses := true, apart := false, narrowed := true }
def FnExactSheetSameUptoSaid : Prop := fnExactSheetSameUptoRow.holds Try.pinned (OpenSpec.upto fnExactSheetSameSpec)

/-- 'laws.FnExactFeatGet', WHERE WHAT IT READS IS OF BULK AT MOST 1048576: true; the input reads as it did. -/
def fnExactFeatGetUptoRow : OpenClaim := { program := "ytlebgjafaioajaa", sum := "e7e835a4bc8662ec959b93c84cec6f21bfd21aa553e24b40f68a3ea7c91ddb80", func := "loop.example/townland/laws.FnExactFeatGet", spec := "fnExactFeatGet", unfollowed := true, recurses := true, apart := false, narrowed := true }
def FnExactFeatGetUptoSaid : Prop := fnExactFeatGetUptoRow.holds Try.pinned (OpenSpec.upto fnExactFeatGetSpec)

/-- 'laws.FnExactSheetOk', WHERE WHAT IT READS IS OF BULK AT MOST 1048576: true; the input reads as it did. -/
def fnExactSheetOkUptoRow : OpenClaim := { program := "ytlebgjafaioajaa", sum := "e7e835a4bc8662ec959b93c84cec6f21bfd21aa553e24b40f68a3ea7c91ddb80", func := "loop.example/townland/laws.FnExactSheetOk", spec := "fnExactSheetOk", apart := false, narrowed := true }
def FnExactSheetOkUptoSaid : Prop := fnExactSheetOkUptoRow.holds Try.pinned (OpenSpec.upto fnExactSheetOkSpec)

/-- 'laws.FnFeatCut', WHERE WHAT IT READS IS OF BULK AT MOST 1048576: true; the input reads as it did. -/
def fnFeatCutUptoRow : OpenClaim := { program := "ytlebgjafaioajaa", sum := "e7e835a4bc8662ec959b93c84cec6f21bfd21aa553e24b40f68a3ea7c91ddb80", func := "loop.example/townland/laws.FnFeatCut", spec := "fnFeatCut", unfollowed := true, recurses := true, apart := false, narrowed := true }
def FnFeatCutUptoSaid : Prop := fnFeatCutUptoRow.holds Try.pinned (OpenSpec.upto fnFeatCutSpec)

/-- 'laws.FnExactFeatCut', WHERE WHAT IT READS IS OF BULK AT MOST 1048576: true; the input reads as it did. -/
def fnExactFeatCutUptoRow : OpenClaim := { program := "ytlebgjafaioajaa", sum := "e7e835a4bc8662ec959b93c84cec6f21bfd21aa553e24b40f68a3ea7c91ddb80", func := "loop.example/townland/laws.FnExactFeatCut", spec := "fnExactFeatCut", unfollowed := true, recurses := true, apart := false, narrowed := true }
def FnExactFeatCutUptoSaid : Prop := fnExactFeatCutUptoRow.holds Try.pinned (OpenSpec.upto fnExactFeatCutSpec)

/-- 'laws.FnExactSheetGet', WHERE WHAT IT READS IS OF BULK AT MOST 1048576: true; the input reads as it did. -/
def fnExactSheetGetUptoRow : OpenClaim := { program := "ytlebgjafaioajaa", sum := "e7e835a4bc8662ec959b93c84cec6f21bfd21aa553e24b40f68a3ea7c91ddb80", func := "loop.example/townland/laws.FnExactSheetGet", spec := "fnExactSheetGet", unfollowed := true, recurses := true, apart := false, narrowed := true }
def FnExactSheetGetUptoSaid : Prop := fnExactSheetGetUptoRow.holds Try.pinned (OpenSpec.upto fnExactSheetGetSpec)

/-- 'laws.FnExactSheetCut', WHERE WHAT IT READS IS OF BULK AT MOST 1048576: true; the input reads as it did. -/
def fnExactSheetCutUptoRow : OpenClaim := { program := "ytlebgjafaioajaa", sum := "e7e835a4bc8662ec959b93c84cec6f21bfd21aa553e24b40f68a3ea7c91ddb80", func := "loop.example/townland/laws.FnExactSheetCut", spec := "fnExactSheetCut", unfollowed := true, recurses := true, apart := false, narrowed := true }
def FnExactSheetCutUptoSaid : Prop := fnExactSheetCutUptoRow.holds Try.pinned (OpenSpec.upto fnExactSheetCutSpec)

/-- 'laws.FnFeatTwo', WHERE WHAT IT READS IS OF BULK AT MOST 1048576: true; the input reads as it did. -/
def fnFeatTwoUptoRow : OpenClaim := { program := "ytlebgjafaioajaa", sum := "e7e835a4bc8662ec959b93c84cec6f21bfd21aa553e24b40f68a3ea7c91ddb80", func := "loop.example/townland/laws.FnFeatTwo", spec := "fnFeatTwo", unfollowed := true, recurses := true, apart := false, narrowed := true }
def FnFeatTwoUptoSaid : Prop := fnFeatTwoUptoRow.holds Try.pinned (OpenSpec.upto fnFeatTwoSpec)

/-- 'laws.FnFeatPut', WHERE WHAT IT READS IS OF BULK AT MOST 1048576: true; the input reads as it did. -/
def fnFeatPutUptoRow : OpenClaim := { program := "ytlebgjafaioajaa", sum := "e7e835a4bc8662ec959b93c84cec6f21bfd21aa553e24b40f68a3ea7c91ddb80", func := "loop.example/townland/laws.FnFeatPut", spec := "fnFeatPut", unfollowed := true, recurses := true, apart := false, narrowed := true }
def FnFeatPutUptoSaid : Prop := fnFeatPutUptoRow.holds Try.pinned (OpenSpec.upto fnFeatPutSpec)

/-- 'laws.FnSheetTwo', WHERE WHAT IT READS IS OF BULK AT MOST 1048576: true; the input reads as it did. -/
def fnSheetTwoUptoRow : OpenClaim := { program := "ytlebgjafaioajaa", sum := "e7e835a4bc8662ec959b93c84cec6f21bfd21aa553e24b40f68a3ea7c91ddb80", func := "loop.example/townland/laws.FnSheetTwo", spec := "fnSheetTwo", unfollowed := true, recurses := true, apart := false, narrowed := true }
def FnSheetTwoUptoSaid : Prop := fnSheetTwoUptoRow.holds Try.pinned (OpenSpec.upto fnSheetTwoSpec)

/-- 'laws.FnSheetPut', WHERE WHAT IT READS IS OF BULK AT MOST 1048576: true; the input reads as it did. -/
def fnSheetPutUptoRow : OpenClaim := { program := "ytlebgjafaioajaa", sum := "e7e835a4bc8662ec959b93c84cec6f21bfd21aa553e24b40f68a3ea7c91ddb80", func := "loop.example/townland/laws.FnSheetPut", spec := "fnSheetPut", unfollowed := true, recurses := true, apart := false, narrowed := true }
def FnSheetPutUptoSaid : Prop := fnSheetPutUptoRow.holds Try.pinned (OpenSpec.upto fnSheetPutSpec)

/-- 'laws.FnSheetCut', WHERE WHAT IT READS IS OF BULK AT MOST 1048576: true; the input reads as it did. -/
def fnSheetCutUptoRow : OpenClaim := { program := "ytlebgjafaioajaa", sum := "e7e835a4bc8662ec959b93c84cec6f21bfd21aa553e24b40f68a3ea7c91ddb80", func := "loop.example/townland/laws.FnSheetCut", spec := "fnSheetCut", unfollowed := true, recurses := true, apart := false, narrowed := true }
def FnSheetCutUptoSaid : Prop := fnSheetCutUptoRow.holds Try.pinned (OpenSpec.upto fnSheetCutSpec)

/-- 'laws.FnExactFeatPut', WHERE WHAT IT READS IS OF BULK AT MOST 1048576: true; the input reads as it did. -/
def fnExactFeatPutUptoRow : OpenClaim := { program := "ytlebgjafaioajaa", sum := "e7e835a4bc8662ec959b93c84cec6f21bfd21aa553e24b40f68a3ea7c91ddb80", func := "loop.example/townland/laws.FnExactFeatPut", spec := "fnExactFeatPut", unfollowed := true, recurses := true, apart := false, narrowed := true }
def FnExactFeatPutUptoSaid : Prop := fnExactFeatPutUptoRow.holds Try.pinned (OpenSpec.upto fnExactFeatPutSpec)

/-- 'laws.FnExactSheetPut', WHERE WHAT IT READS IS OF BULK AT MOST 1048576: true; the input reads as it did. -/
def fnExactSheetPutUptoRow : OpenClaim := { program := "ytlebgjafaioajaa", sum := "e7e835a4bc8662ec959b93c84cec6f21bfd21aa553e24b40f68a3ea7c91ddb80", func := "loop.example/townland/laws.FnExactSheetPut", spec := "fnExactSheetPut", unfollowed := true, recurses := true, apart := false, narrowed := true }
def FnExactSheetPutUptoSaid : Prop := fnExactSheetPutUptoRow.holds Try.pinned (OpenSpec.upto fnExactSheetPutSpec)

end Rows
end Go.Proofs.Ytlebgjafaioajaa
