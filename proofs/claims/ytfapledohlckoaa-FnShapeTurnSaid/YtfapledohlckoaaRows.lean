/-
  No cell of these rows narrows 'for every input' (looked for: loops, veiled, ifaces, maps, wideKeys, modest, calm, conditions, laid).
  DERIVED. THE GIVEN ROWS OF THIS SEAT. 14 by the template 'for every input the law returns true; each argument reads behind the call as it read before'; 0 by the template 'total and deterministic' (their statements: YtfapledohlckoaaTotals.lean).
  GIVEN WITH THE SEED: the statements are not yours to turn. If you find one false, say at which input.
  Laid BY PROGRAM, IN A SANDBOX (cutbox-rows.mjs): the forced cells as the released guide's own fill.sh prints them over the translation baf22d60527aea7d… (all of the seat's roots in one cut). By AI agents, Wed Nov 11 2026. No macro, syntax, notation, axiom, sorry.
-/
import Derived.Test.YtfapledohlckoaaChecked
import GoSem.Claim
import GoSem.ClaimJoined
import GoSem.ClaimMapViews
import Derived.JoinedTies
import Derived.KernelRfl
namespace Go.Proofs.Ytfapledohlckoaa
/- THE CELL 'sum', in the pinned program and in every row, IS THE sha256 OF THE DUMP (.gsa) THAT YtfapledohlckoaaProg.lean LOADS. Nothing in Lean hashes anything: it is a label: what it is worth is what the hold of that sum in a sandbox is worth. -/
noncomputable def Try.pinned : Pinned := { name := "ytfapledohlckoaa", sum := "baf22d60527aea7da05e334d4fa6d10cd345206affb661748070fb1137101d17", checked := Try.checked }
namespace Rows
def none {H : Type} : Left H := { results := [], args := [] }

/-- 'laws.FnExactConstants': WHATEVER THE INPUT: true; the input reads as it did. -/
def fnExactConstantsSpec : ChangeSpec := { name := "fnExactConstants", fn := fun _ => fun
  | [] => { results := [.lit (.bool true)], args := [] }
  | _ => none }
def fnExactConstantsRow : OpenClaim := { program := "ytfapledohlckoaa", sum := "baf22d60527aea7da05e334d4fa6d10cd345206affb661748070fb1137101d17", func := "loop.example/townland/laws.FnExactConstants", spec := "fnExactConstants", apart := false }
def FnExactConstantsSaid : Prop := fnExactConstantsRow.holds Try.pinned (OpenSpec.ofChange fnExactConstantsSpec)

/-- ITS FALSE NEIGHBOUR: 'it returns false'. Refute it at one input. -/
def fnExactConstantsWrong : ChangeSpec := { name := "fnExactConstants", fn := fun _ => fun
  | [] => { results := [.lit (.bool false)], args := [] }
  | _ => none }
def FnExactConstantsWrongFalsely : Prop := fnExactConstantsRow.holds Try.pinned (OpenSpec.ofChange fnExactConstantsWrong)

/-- 'laws.FnExactWordOk': WHATEVER THE INPUT: true; the input reads as it did. -/
def fnExactWordOkSpec : ChangeSpec := { name := "fnExactWordOk", fn := fun _ => fun
  | [d] => { results := [.lit (.bool true)], args := [d] }
  | _ => none }
def fnExactWordOkRow : OpenClaim := { program := "ytfapledohlckoaa", sum := "baf22d60527aea7da05e334d4fa6d10cd345206affb661748070fb1137101d17", func := "loop.example/townland/laws.FnExactWordOk", spec := "fnExactWordOk", apart := false }
def FnExactWordOkSaid : Prop := fnExactWordOkRow.holds Try.pinned (OpenSpec.ofChange fnExactWordOkSpec)

/-- ITS FALSE NEIGHBOUR: 'it returns false'. Refute it at one input. -/
def fnExactWordOkWrong : ChangeSpec := { name := "fnExactWordOk", fn := fun _ => fun
  | [d] => { results := [.lit (.bool false)], args := [d] }
  | _ => none }
def FnExactWordOkWrongFalsely : Prop := fnExactWordOkRow.holds Try.pinned (OpenSpec.ofChange fnExactWordOkWrong)

/-- 'laws.FnExactShapeSame': WHATEVER THE INPUT: true; the input reads as it did. -/
def fnExactShapeSameSpec : ChangeSpec := { name := "fnExactShapeSame", fn := fun _ => fun
  | [d1, d2] => { results := [.lit (.bool true)], args := [d1, d2] }
  | _ => none }
def fnExactShapeSameRow : OpenClaim := { program := "ytfapledohlckoaa", sum := "baf22d60527aea7da05e334d4fa6d10cd345206affb661748070fb1137101d17", func := "loop.example/townland/laws.FnExactShapeSame", spec := "fnExactShapeSame", apart := false }
def FnExactShapeSameSaid : Prop := fnExactShapeSameRow.holds Try.pinned (OpenSpec.ofChange fnExactShapeSameSpec)

/-- ITS FALSE NEIGHBOUR: 'it returns false'. Refute it at one input. -/
def fnExactShapeSameWrong : ChangeSpec := { name := "fnExactShapeSame", fn := fun _ => fun
  | [d1, d2] => { results := [.lit (.bool false)], args := [d1, d2] }
  | _ => none }
def FnExactShapeSameWrongFalsely : Prop := fnExactShapeSameRow.holds Try.pinned (OpenSpec.ofChange fnExactShapeSameWrong)

/-- 'laws.FnExactShapeOk': WHATEVER THE INPUT: true; the input reads as it did. -/
def fnExactShapeOkSpec : ChangeSpec := { name := "fnExactShapeOk", fn := fun _ => fun
  | [d] => { results := [.lit (.bool true)], args := [d] }
  | _ => none }
def fnExactShapeOkRow : OpenClaim := { program := "ytfapledohlckoaa", sum := "baf22d60527aea7da05e334d4fa6d10cd345206affb661748070fb1137101d17", func := "loop.example/townland/laws.FnExactShapeOk", spec := "fnExactShapeOk", apart := false }
def FnExactShapeOkSaid : Prop := fnExactShapeOkRow.holds Try.pinned (OpenSpec.ofChange fnExactShapeOkSpec)

/-- ITS FALSE NEIGHBOUR: 'it returns false'. Refute it at one input. -/
def fnExactShapeOkWrong : ChangeSpec := { name := "fnExactShapeOk", fn := fun _ => fun
  | [d] => { results := [.lit (.bool false)], args := [d] }
  | _ => none }
def FnExactShapeOkWrongFalsely : Prop := fnExactShapeOkRow.holds Try.pinned (OpenSpec.ofChange fnExactShapeOkWrong)

/-- 'laws.FnExactShapeArea': WHATEVER THE INPUT: true; the input reads as it did. -/
def fnExactShapeAreaSpec : ChangeSpec := { name := "fnExactShapeArea", fn := fun _ => fun
  | [d] => { results := [.lit (.bool true)], args := [d] }
  | _ => none }
def fnExactShapeAreaRow : OpenClaim := { program := "ytfapledohlckoaa", sum := "baf22d60527aea7da05e334d4fa6d10cd345206affb661748070fb1137101d17", func := "loop.example/townland/laws.FnExactShapeArea", spec := "fnExactShapeArea", apart := false }
def FnExactShapeAreaSaid : Prop := fnExactShapeAreaRow.holds Try.pinned (OpenSpec.ofChange fnExactShapeAreaSpec)

/-- ITS FALSE NEIGHBOUR: 'it returns false'. Refute it at one input. -/
def fnExactShapeAreaWrong : ChangeSpec := { name := "fnExactShapeArea", fn := fun _ => fun
  | [d] => { results := [.lit (.bool false)], args := [d] }
  | _ => none }
def FnExactShapeAreaWrongFalsely : Prop := fnExactShapeAreaRow.holds Try.pinned (OpenSpec.ofChange fnExactShapeAreaWrong)

/-- 'laws.FnShapeArea': WHATEVER THE INPUT: true; the input reads as it did. -/
def fnShapeAreaSpec : ChangeSpec := { name := "fnShapeArea", fn := fun _ => fun
  | [d] => { results := [.lit (.bool true)], args := [d] }
  | _ => none }
def fnShapeAreaRow : OpenClaim := { program := "ytfapledohlckoaa", sum := "baf22d60527aea7da05e334d4fa6d10cd345206affb661748070fb1137101d17", func := "loop.example/townland/laws.FnShapeArea", spec := "fnShapeArea", apart := false }
def FnShapeAreaSaid : Prop := fnShapeAreaRow.holds Try.pinned (OpenSpec.ofChange fnShapeAreaSpec)

/-- ITS FALSE NEIGHBOUR: 'it returns false'. Refute it at one input. -/
def fnShapeAreaWrong : ChangeSpec := { name := "fnShapeArea", fn := fun _ => fun
  | [d] => { results := [.lit (.bool false)], args := [d] }
  | _ => none }
def FnShapeAreaWrongFalsely : Prop := fnShapeAreaRow.holds Try.pinned (OpenSpec.ofChange fnShapeAreaWrong)

/-- 'laws.FnShapeBox': WHATEVER THE INPUT: true; the input reads as it did. -/
def fnShapeBoxSpec : ChangeSpec := { name := "fnShapeBox", fn := fun _ => fun
  | [d] => { results := [.lit (.bool true)], args := [d] }
  | _ => none }
def fnShapeBoxRow : OpenClaim := { program := "ytfapledohlckoaa", sum := "baf22d60527aea7da05e334d4fa6d10cd345206affb661748070fb1137101d17", func := "loop.example/townland/laws.FnShapeBox", spec := "fnShapeBox", apart := false }
def FnShapeBoxSaid : Prop := fnShapeBoxRow.holds Try.pinned (OpenSpec.ofChange fnShapeBoxSpec)

/-- ITS FALSE NEIGHBOUR: 'it returns false'. Refute it at one input. -/
def fnShapeBoxWrong : ChangeSpec := { name := "fnShapeBox", fn := fun _ => fun
  | [d] => { results := [.lit (.bool false)], args := [d] }
  | _ => none }
def FnShapeBoxWrongFalsely : Prop := fnShapeBoxRow.holds Try.pinned (OpenSpec.ofChange fnShapeBoxWrong)

/-- 'laws.FnExactShapeBox': WHATEVER THE INPUT: true; the input reads as it did. -/
def fnExactShapeBoxSpec : ChangeSpec := { name := "fnExactShapeBox", fn := fun _ => fun
  | [d] => { results := [.lit (.bool true)], args := [d] }
  | _ => none }
def fnExactShapeBoxRow : OpenClaim := { program := "ytfapledohlckoaa", sum := "baf22d60527aea7da05e334d4fa6d10cd345206affb661748070fb1137101d17", func := "loop.example/townland/laws.FnExactShapeBox", spec := "fnExactShapeBox", apart := false }
def FnExactShapeBoxSaid : Prop := fnExactShapeBoxRow.holds Try.pinned (OpenSpec.ofChange fnExactShapeBoxSpec)

/-- ITS FALSE NEIGHBOUR: 'it returns false'. Refute it at one input. -/
def fnExactShapeBoxWrong : ChangeSpec := { name := "fnExactShapeBox", fn := fun _ => fun
  | [d] => { results := [.lit (.bool false)], args := [d] }
  | _ => none }
def FnExactShapeBoxWrongFalsely : Prop := fnExactShapeBoxRow.holds Try.pinned (OpenSpec.ofChange fnExactShapeBoxWrong)

/-- 'laws.FnExactShapeBack': WHATEVER THE INPUT: true; the input reads as it did. -/
def fnExactShapeBackSpec : ChangeSpec := { name := "fnExactShapeBack", fn := fun _ => fun
  | [d] => { results := [.lit (.bool true)], args := [d] }
  | _ => none }
def fnExactShapeBackRow : OpenClaim := { program := "ytfapledohlckoaa", sum := "baf22d60527aea7da05e334d4fa6d10cd345206affb661748070fb1137101d17", func := "loop.example/townland/laws.FnExactShapeBack", spec := "fnExactShapeBack", apart := false }
def FnExactShapeBackSaid : Prop := fnExactShapeBackRow.holds Try.pinned (OpenSpec.ofChange fnExactShapeBackSpec)

/-- ITS FALSE NEIGHBOUR: 'it returns false'. Refute it at one input. -/
def fnExactShapeBackWrong : ChangeSpec := { name := "fnExactShapeBack", fn := fun _ => fun
  | [d] => { results := [.lit (.bool false)], args := [d] }
  | _ => none }
def FnExactShapeBackWrongFalsely : Prop := fnExactShapeBackRow.holds Try.pinned (OpenSpec.ofChange fnExactShapeBackWrong)

/-- 'laws.FnExactShapeMove': WHATEVER THE INPUT: true; the input reads as it did. -/
def fnExactShapeMoveSpec : ChangeSpec := { name := "fnExactShapeMove", fn := fun _ => fun
  | [d1, d2, d3] => { results := [.lit (.bool true)], args := [d1, d2, d3] }
  | _ => none }
def fnExactShapeMoveRow : OpenClaim := { program := "ytfapledohlckoaa", sum := "baf22d60527aea7da05e334d4fa6d10cd345206affb661748070fb1137101d17", func := "loop.example/townland/laws.FnExactShapeMove", spec := "fnExactShapeMove", apart := false }
def FnExactShapeMoveSaid : Prop := fnExactShapeMoveRow.holds Try.pinned (OpenSpec.ofChange fnExactShapeMoveSpec)

/-- ITS FALSE NEIGHBOUR: 'it returns false'. Refute it at one input. -/
def fnExactShapeMoveWrong : ChangeSpec := { name := "fnExactShapeMove", fn := fun _ => fun
  | [d1, d2, d3] => { results := [.lit (.bool false)], args := [d1, d2, d3] }
  | _ => none }
def FnExactShapeMoveWrongFalsely : Prop := fnExactShapeMoveRow.holds Try.pinned (OpenSpec.ofChange fnExactShapeMoveWrong)

/-- 'laws.FnShapeBack': WHATEVER THE INPUT: true; the input reads as it did. -/
def fnShapeBackSpec : ChangeSpec := { name := "fnShapeBack", fn := fun _ => fun
  | [d] => { results := [.lit (.bool true)], args := [d] }
  | _ => none }
def fnShapeBackRow : OpenClaim := { program := "ytfapledohlckoaa", sum := "baf22d60527aea7da05e334d4fa6d10cd345206affb661748070fb1137101d17", func := "loop.example/townland/laws.FnShapeBack", spec := "fnShapeBack", apart := false }
def FnShapeBackSaid : Prop := fnShapeBackRow.holds Try.pinned (OpenSpec.ofChange fnShapeBackSpec)

/-- ITS FALSE NEIGHBOUR: 'it returns false'. Refute it at one input. -/
def fnShapeBackWrong : ChangeSpec := { name := "fnShapeBack", fn := fun _ => fun
  | [d] => { results := [.lit (.bool false)], args := [d] }
  | _ => none }
def FnShapeBackWrongFalsely : Prop := fnShapeBackRow.holds Try.pinned (OpenSpec.ofChange fnShapeBackWrong)

/-- 'laws.FnShapeMove': WHATEVER THE INPUT: true; the input reads as it did. -/
def fnShapeMoveSpec : ChangeSpec := { name := "fnShapeMove", fn := fun _ => fun
  | [d] => { results := [.lit (.bool true)], args := [d] }
  | _ => none }
def fnShapeMoveRow : OpenClaim := { program := "ytfapledohlckoaa", sum := "baf22d60527aea7da05e334d4fa6d10cd345206affb661748070fb1137101d17", func := "loop.example/townland/laws.FnShapeMove", spec := "fnShapeMove", apart := false }
def FnShapeMoveSaid : Prop := fnShapeMoveRow.holds Try.pinned (OpenSpec.ofChange fnShapeMoveSpec)

/-- ITS FALSE NEIGHBOUR: 'it returns false'. Refute it at one input. -/
def fnShapeMoveWrong : ChangeSpec := { name := "fnShapeMove", fn := fun _ => fun
  | [d] => { results := [.lit (.bool false)], args := [d] }
  | _ => none }
def FnShapeMoveWrongFalsely : Prop := fnShapeMoveRow.holds Try.pinned (OpenSpec.ofChange fnShapeMoveWrong)

/-- 'laws.FnShapeTurn': WHATEVER THE INPUT: true; the input reads as it did. -/
def fnShapeTurnSpec : ChangeSpec := { name := "fnShapeTurn", fn := fun _ => fun
  | [d1, d2] => { results := [.lit (.bool true)], args := [d1, d2] }
  | _ => none }
def fnShapeTurnRow : OpenClaim := { program := "ytfapledohlckoaa", sum := "baf22d60527aea7da05e334d4fa6d10cd345206affb661748070fb1137101d17", func := "loop.example/townland/laws.FnShapeTurn", spec := "fnShapeTurn", unfollowed := true, recurses := true, apart := false }
def FnShapeTurnSaid : Prop := fnShapeTurnRow.holds Try.pinned (OpenSpec.ofChange fnShapeTurnSpec)

/-- ITS FALSE NEIGHBOUR: 'it returns false'. Refute it at one input. -/
def fnShapeTurnWrong : ChangeSpec := { name := "fnShapeTurn", fn := fun _ => fun
  | [d1, d2] => { results := [.lit (.bool false)], args := [d1, d2] }
  | _ => none }
def FnShapeTurnWrongFalsely : Prop := fnShapeTurnRow.holds Try.pinned (OpenSpec.ofChange fnShapeTurnWrong)

/-- 'laws.FnExactShapeTurn': WHATEVER THE INPUT: true; the input reads as it did. -/
def fnExactShapeTurnSpec : ChangeSpec := { name := "fnExactShapeTurn", fn := fun _ => fun
  | [d] => { results := [.lit (.bool true)], args := [d] }
  | _ => none }
def fnExactShapeTurnRow : OpenClaim := { program := "ytfapledohlckoaa", sum := "baf22d60527aea7da05e334d4fa6d10cd345206affb661748070fb1137101d17", func := "loop.example/townland/laws.FnExactShapeTurn", spec := "fnExactShapeTurn", unfollowed := true, recurses := true, apart := false }
def FnExactShapeTurnSaid : Prop := fnExactShapeTurnRow.holds Try.pinned (OpenSpec.ofChange fnExactShapeTurnSpec)

/-- ITS FALSE NEIGHBOUR: 'it returns false'. Refute it at one input. -/
def fnExactShapeTurnWrong : ChangeSpec := { name := "fnExactShapeTurn", fn := fun _ => fun
  | [d] => { results := [.lit (.bool false)], args := [d] }
  | _ => none }
def FnExactShapeTurnWrongFalsely : Prop := fnExactShapeTurnRow.holds Try.pinned (OpenSpec.ofChange fnExactShapeTurnWrong)

/- THE SECOND FORM. 'bulk': how many values and letters a reading holds, each counted each time it is reached (what is shared counts as often as it is met; a slice's spare places count too). A statement '..UptoSaid' is the law's where the arguments, and the package variables that the reading takes, are together of bulk at most 1048576: NARROWER than '..Said'. Prove '..Said' where nothing that the law and all that it calls make is longer than what came in: it says more and counts as full. Else prove '..UptoSaid'. A law counts once. -/
mutual
def uptoBulk {H : Type} : DataW H → Nat
  | .lit (.string bytes) => bytes.length + 1
  | .lit _ => 1
  | .nil => 1
  | .ptr d => uptoBulk d + 1
  | .slice elems spare => uptoBulkAll elems + uptoBulkAll spare + 1
  | .agg parts => uptoBulkAll parts + 1
  | .iface _ d => uptoBulk d + 1
  | .map entries => uptoBulkEntries entries + 1
  | .held _ => 1
def uptoBulkAll {H : Type} : List (DataW H) → Nat
  | [] => 0
  | d :: r => uptoBulk d + uptoBulkAll r
def uptoBulkEntries {H : Type} : List (Lit × DataW H) → Nat
  | [] => 0
  | x :: r => uptoBulkEntry x + uptoBulkEntries r
def uptoBulkEntry {H : Type} : Lit × DataW H → Nat
  | (.string bytes, d) => bytes.length + uptoBulk d + 1
  | (_, d) => uptoBulk d + 1
 end
def uptoSmall : (H : Type) → List (DataW H) → Bool := fun _ ds => decide (uptoBulkAll ds ≤ 1048576)
def OpenSpec.upto (s : _root_.Go.ChangeSpec) : _root_.Go.OpenSpec := { _root_.Go.OpenSpec.ofChange s with cond := some uptoSmall }

/-- 'laws.FnExactConstants', WHERE WHAT IT READS IS OF BULK AT MOST 1048576: true; the input reads as it did. -/
def fnExactConstantsUptoRow : OpenClaim := { program := "ytfapledohlckoaa", sum := "baf22d60527aea7da05e334d4fa6d10cd345206affb661748070fb1137101d17", func := "loop.example/townland/laws.FnExactConstants", spec := "fnExactConstants", apart := false, narrowed := true }
def FnExactConstantsUptoSaid : Prop := fnExactConstantsUptoRow.holds Try.pinned (OpenSpec.upto fnExactConstantsSpec)

/-- 'laws.FnExactWordOk', WHERE WHAT IT READS IS OF BULK AT MOST 1048576: true; the input reads as it did. -/
def fnExactWordOkUptoRow : OpenClaim := { program := "ytfapledohlckoaa", sum := "baf22d60527aea7da05e334d4fa6d10cd345206affb661748070fb1137101d17", func := "loop.example/townland/laws.FnExactWordOk", spec := "fnExactWordOk", apart := false, narrowed := true }
def FnExactWordOkUptoSaid : Prop := fnExactWordOkUptoRow.holds Try.pinned (OpenSpec.upto fnExactWordOkSpec)

/-- 'laws.FnExactShapeSame', WHERE WHAT IT READS IS OF BULK AT MOST 1048576: true; the input reads as it did. -/
def fnExactShapeSameUptoRow : OpenClaim := { program := "ytfapledohlckoaa", sum := "baf22d60527aea7da05e334d4fa6d10cd345206affb661748070fb1137101d17", func := "loop.example/townland/laws.FnExactShapeSame", spec := "fnExactShapeSame", apart := false, narrowed := true }
def FnExactShapeSameUptoSaid : Prop := fnExactShapeSameUptoRow.holds Try.pinned (OpenSpec.upto fnExactShapeSameSpec)

/-- 'laws.FnExactShapeOk', WHERE WHAT IT READS IS OF BULK AT MOST 1048576: true; the input reads as it did. -/
def fnExactShapeOkUptoRow : OpenClaim := { program := "ytfapledohlckoaa", sum := "baf22d60527aea7da05e334d4fa6d10cd345206affb661748070fb1137101d17", func := "loop.example/townland/laws.FnExactShapeOk", spec := "fnExactShapeOk", apart := false, narrowed := true }
def FnExactShapeOkUptoSaid : Prop := fnExactShapeOkUptoRow.holds Try.pinned (OpenSpec.upto fnExactShapeOkSpec)

/-- 'laws.FnExactShapeArea', WHERE WHAT IT READS IS OF BULK AT MOST 1048576: true; the input reads as it did. -/
def fnExactShapeAreaUptoRow : OpenClaim := { program := "ytfapledohlckoaa", sum := "baf22d60527aea7da05e334d4fa6d10cd345206affb661748070fb1137101d17", func := "loop.example/townland/laws.FnExactShapeArea", spec := "fnExactShapeArea", apart := false, narrowed := true }
def FnExactShapeAreaUptoSaid : Prop := fnExactShapeAreaUptoRow.holds Try.pinned (OpenSpec.upto fnExactShapeAreaSpec)

/-- 'laws.FnShapeArea', WHERE WHAT IT READS IS OF BULK AT MOST 1048576: true; the input reads as it did. -/
def fnShapeAreaUptoRow : OpenClaim := { program := "ytfapledohlckoaa", sum := "baf22d60527aea7da05e334d4fa6d10cd345206affb661748070fb1137101d17", func := "loop.example/townland/laws.FnShapeArea", spec := "fnShapeArea", apart := false, narrowed := true }
def FnShapeAreaUptoSaid : Prop := fnShapeAreaUptoRow.holds Try.pinned (OpenSpec.upto fnShapeAreaSpec)

/-- 'laws.FnShapeBox', WHERE WHAT IT READS IS OF BULK AT MOST 1048576: true; the input reads as it did. -/
def fnShapeBoxUptoRow : OpenClaim := { program := "ytfapledohlckoaa", sum := "baf22d60527aea7da05e334d4fa6d10cd345206affb661748070fb1137101d17", func := "loop.example/townland/laws.FnShapeBox", spec := "fnShapeBox", apart := false, narrowed := true }
def FnShapeBoxUptoSaid : Prop := fnShapeBoxUptoRow.holds Try.pinned (OpenSpec.upto fnShapeBoxSpec)

/-- 'laws.FnExactShapeBox', WHERE WHAT IT READS IS OF BULK AT MOST 1048576: true; the input reads as it did. -/
def fnExactShapeBoxUptoRow : OpenClaim := { program := "ytfapledohlckoaa", sum := "baf22d60527aea7da05e334d4fa6d10cd345206affb661748070fb1137101d17", func := "loop.example/townland/laws.FnExactShapeBox", spec := "fnExactShapeBox", apart := false, narrowed := true }
def FnExactShapeBoxUptoSaid : Prop := fnExactShapeBoxUptoRow.holds Try.pinned (OpenSpec.upto fnExactShapeBoxSpec)

/-- 'laws.FnExactShapeBack', WHERE WHAT IT READS IS OF BULK AT MOST 1048576: true; the input reads as it did. -/
def fnExactShapeBackUptoRow : OpenClaim := { program := "ytfapledohlckoaa", sum := "baf22d60527aea7da05e334d4fa6d10cd345206affb661748070fb1137101d17", func := "loop.example/townland/laws.FnExactShapeBack", spec := "fnExactShapeBack", apart := false, narrowed := true }
def FnExactShapeBackUptoSaid : Prop := fnExactShapeBackUptoRow.holds Try.pinned (OpenSpec.upto fnExactShapeBackSpec)

/-- 'laws.FnExactShapeMove', WHERE WHAT IT READS IS OF BULK AT MOST 1048576: true; the input reads as it did. -/
def fnExactShapeMoveUptoRow : OpenClaim := { program := "ytfapledohlckoaa", sum := "baf22d60527aea7da05e334d4fa6d10cd345206affb661748070fb1137101d17", func := "loop.example/townland/laws.FnExactShapeMove", spec := "fnExactShapeMove", apart := false, narrowed := true }
def FnExactShapeMoveUptoSaid : Prop := fnExactShapeMoveUptoRow.holds Try.pinned (OpenSpec.upto fnExactShapeMoveSpec)

/-- 'laws.FnShapeBack', WHERE WHAT IT READS IS OF BULK AT MOST 1048576: true; the input reads as it did. -/
def fnShapeBackUptoRow : OpenClaim := { program := "ytfapledohlckoaa", sum := "baf22d60527aea7da05e334d4fa6d10cd345206affb661748070fb1137101d17", func := "loop.example/townland/laws.FnShapeBack", spec := "fnShapeBack", apart := false, narrowed := true }
def FnShapeBackUptoSaid : Prop := fnShapeBackUptoRow.holds Try.pinned (OpenSpec.upto fnShapeBackSpec)

/-- 'laws.FnShapeMove', WHERE WHAT IT READS IS OF BULK AT MOST 1048576: true; the input reads as it did. -/
def fnShapeMoveUptoRow : OpenClaim := { program := "ytfapledohlckoaa", sum := "baf22d60527aea7da05e334d4fa6d10cd345206affb661748070fb1137101d17", func := "loop.example/townland/laws.FnShapeMove", spec := "fnShapeMove", apart := false, narrowed := true }
def FnShapeMoveUptoSaid : Prop := fnShapeMoveUptoRow.holds Try.pinned (OpenSpec.upto fnShapeMoveSpec)

/-- 'laws.FnShapeTurn', WHERE WHAT IT READS IS OF BULK AT MOST 1048576: true; the input reads as it did. -/
def fnShapeTurnUptoRow : OpenClaim := { program := "ytfapledohlckoaa", sum := "baf22d60527aea7da05e334d4fa6d10cd345206affb661748070fb1137101d17", func := "loop.example/townland/laws.FnShapeTurn", spec := "fnShapeTurn", unfollowed := true, recurses := true, apart := false, narrowed := true }
def FnShapeTurnUptoSaid : Prop := fnShapeTurnUptoRow.holds Try.pinned (OpenSpec.upto fnShapeTurnSpec)

/-- 'laws.FnExactShapeTurn', WHERE WHAT IT READS IS OF BULK AT MOST 1048576: true; the input reads as it did. -/
def fnExactShapeTurnUptoRow : OpenClaim := { program := "ytfapledohlckoaa", sum := "baf22d60527aea7da05e334d4fa6d10cd345206affb661748070fb1137101d17", func := "loop.example/townland/laws.FnExactShapeTurn", spec := "fnExactShapeTurn", unfollowed := true, recurses := true, apart := false, narrowed := true }
def FnExactShapeTurnUptoSaid : Prop := fnExactShapeTurnUptoRow.holds Try.pinned (OpenSpec.upto fnExactShapeTurnSpec)

end Rows
end Go.Proofs.Ytfapledohlckoaa
