/-
  NARROWER THAN 'FOR EVERY INPUT', by the rows' own cells (each row's printed sentence says how): FnExactSheetRead: laid · FnExactShapeText: laid · FnShapeSame: laid · FnFeatSame: laid · FnExactFeatText: laid · FnExactSheetText: laid · FnExactShapeRead: laid · FnFeatWords: laid · FnShape: laid · FnExactFeatRead: laid · FnFeatRead: laid.
  DERIVED. THE GIVEN ROWS OF THIS SEAT. 11 by the template 'for every input the law returns true; each argument reads behind the call as it read before'; 0 by the template 'total and deterministic' (their statements: YtenpaemaiapapaaDoorTotals.lean).
  GIVEN WITH THE SEED: the statements are not yours to turn. If you find one false, say at which input.
  Laid BY PROGRAM, IN A SANDBOX (cutbox-rows.mjs): the forced cells as the released guide's own fill.sh prints them over the translation 172c053db1db18cd… (all of the seat's roots in one cut). By AI agents, Wed Nov 11 2026. No macro, syntax, notation, axiom, sorry.
-/
import Derived.Test.YtenpaemaiapapaaDoorChecked
import GoSem.PinnedTables
import GoSem.Claim
import GoSem.ClaimJoined
import GoSem.ClaimMapViews
import Derived.JoinedTies
import Derived.KernelRfl
namespace Go.Proofs.YtenpaemaiapapaaDoor
/- THE CELL 'sum', in the pinned program and in every row, IS THE sha256 OF THE DUMP (.gsa) THAT YtenpaemaiapapaaDoorProg.lean LOADS. Nothing in Lean hashes anything: it is a label: what it is worth is what the hold of that sum in a sandbox is worth. -/
noncomputable def Tryd.pinned : Pinned := { name := "ytenpaemaiapapaadoor", sum := "172c053db1db18cdb939526b0ba3eef48803488cada430268235eb350a0264e1", checked := Tryd.checked }
namespace Rows
def none {H : Type} : Left H := { results := [], args := [] }

/- WHAT THE LISTED PACKAGE-LEVEL VARIABLES READ AS WHEN THE CALL BEGINS. Each datum BY PROGRAM (the guide's laid-datum.mjs) off the statement by which the dump's own 'gosem.cut.vars' lays the variable. In a bare row this is a premise. The card (YtenpaemaiapapaaDoorCards.lean) ties it to the program's text. -/
def laid_math_bits_deBruijn32tab {H : Type} : DataW H := .agg [.lit (.int .u8 0), .lit (.int .u8 1), .lit (.int .u8 28), .lit (.int .u8 2), .lit (.int .u8 29), .lit (.int .u8 14), .lit (.int .u8 24), .lit (.int .u8 3), .lit (.int .u8 30), .lit (.int .u8 22), .lit (.int .u8 20), .lit (.int .u8 15), .lit (.int .u8 25), .lit (.int .u8 17), .lit (.int .u8 4), .lit (.int .u8 8), .lit (.int .u8 31), .lit (.int .u8 27), .lit (.int .u8 13), .lit (.int .u8 23), .lit (.int .u8 21), .lit (.int .u8 19), .lit (.int .u8 16), .lit (.int .u8 7), .lit (.int .u8 26), .lit (.int .u8 12), .lit (.int .u8 18), .lit (.int .u8 6), .lit (.int .u8 11), .lit (.int .u8 5), .lit (.int .u8 10), .lit (.int .u8 9)]
def laid_math_bits_deBruijn64tab {H : Type} : DataW H := .agg [.lit (.int .u8 0), .lit (.int .u8 1), .lit (.int .u8 56), .lit (.int .u8 2), .lit (.int .u8 57), .lit (.int .u8 49), .lit (.int .u8 28), .lit (.int .u8 3), .lit (.int .u8 61), .lit (.int .u8 58), .lit (.int .u8 42), .lit (.int .u8 50), .lit (.int .u8 38), .lit (.int .u8 29), .lit (.int .u8 17), .lit (.int .u8 4), .lit (.int .u8 62), .lit (.int .u8 47), .lit (.int .u8 59), .lit (.int .u8 36), .lit (.int .u8 45), .lit (.int .u8 43), .lit (.int .u8 51), .lit (.int .u8 22), .lit (.int .u8 53), .lit (.int .u8 39), .lit (.int .u8 33), .lit (.int .u8 30), .lit (.int .u8 24), .lit (.int .u8 18), .lit (.int .u8 12), .lit (.int .u8 5), .lit (.int .u8 63), .lit (.int .u8 55), .lit (.int .u8 48), .lit (.int .u8 27), .lit (.int .u8 60), .lit (.int .u8 41), .lit (.int .u8 37), .lit (.int .u8 16), .lit (.int .u8 46), .lit (.int .u8 35), .lit (.int .u8 44), .lit (.int .u8 21), .lit (.int .u8 52), .lit (.int .u8 32), .lit (.int .u8 23), .lit (.int .u8 11), .lit (.int .u8 54), .lit (.int .u8 26), .lit (.int .u8 40), .lit (.int .u8 15), .lit (.int .u8 34), .lit (.int .u8 20), .lit (.int .u8 31), .lit (.int .u8 10), .lit (.int .u8 25), .lit (.int .u8 14), .lit (.int .u8 19), .lit (.int .u8 9), .lit (.int .u8 13), .lit (.int .u8 8), .lit (.int .u8 7), .lit (.int .u8 6)]
def laid_internal_strconv_uint64pow10 {H : Type} : DataW H := .agg [.lit (.int .u64 1), .lit (.int .u64 10), .lit (.int .u64 100), .lit (.int .u64 1000), .lit (.int .u64 10000), .lit (.int .u64 100000), .lit (.int .u64 1000000), .lit (.int .u64 10000000), .lit (.int .u64 100000000), .lit (.int .u64 1000000000), .lit (.int .u64 10000000000), .lit (.int .u64 100000000000), .lit (.int .u64 1000000000000), .lit (.int .u64 10000000000000), .lit (.int .u64 100000000000000), .lit (.int .u64 1000000000000000), .lit (.int .u64 10000000000000000), .lit (.int .u64 100000000000000000), .lit (.int .u64 1000000000000000000), .lit (.int .u64 10000000000000000000)]
def laid_unicode_utf8_acceptRanges {H : Type} : DataW H := .agg [.agg [.lit (.int .u8 128), .lit (.int .u8 191)], .agg [.lit (.int .u8 160), .lit (.int .u8 191)], .agg [.lit (.int .u8 128), .lit (.int .u8 159)], .agg [.lit (.int .u8 144), .lit (.int .u8 191)], .agg [.lit (.int .u8 128), .lit (.int .u8 143)], .agg [.lit (.int .u8 0), .lit (.int .u8 0)], .agg [.lit (.int .u8 0), .lit (.int .u8 0)], .agg [.lit (.int .u8 0), .lit (.int .u8 0)], .agg [.lit (.int .u8 0), .lit (.int .u8 0)], .agg [.lit (.int .u8 0), .lit (.int .u8 0)], .agg [.lit (.int .u8 0), .lit (.int .u8 0)], .agg [.lit (.int .u8 0), .lit (.int .u8 0)], .agg [.lit (.int .u8 0), .lit (.int .u8 0)], .agg [.lit (.int .u8 0), .lit (.int .u8 0)], .agg [.lit (.int .u8 0), .lit (.int .u8 0)], .agg [.lit (.int .u8 0), .lit (.int .u8 0)]]
def laid_strconv_ErrRange {H : Type} : DataW H := .iface "*errors.errorString" (.ptr (.agg [.lit (.string [118, 97, 108, 117, 101, 32, 111, 117, 116, 32, 111, 102, 32, 114, 97, 110, 103, 101])]))
def laid_strconv_ErrSyntax {H : Type} : DataW H := .iface "*errors.errorString" (.ptr (.agg [.lit (.string [105, 110, 118, 97, 108, 105, 100, 32, 115, 121, 110, 116, 97, 120])]))
def laid_loop_example_townland_impl_shapeNames {H : Type} : DataW H := .slice [.lit (.string []), .lit (.string [100, 111, 116]), .lit (.string [108, 105, 110, 101]), .lit (.string [114, 105, 110, 103])] []
/-- One of Go's own tables, pinned by name: the form's constant. -/
def laid_unicode_utf8_first : DataW Unit := Go.Pinned.utf8First

/-- 'laws.FnExactSheetRead': WHATEVER THE INPUT: true; the input reads as it did. -/
def fnExactSheetReadSpec : ChangeSpec := { name := "fnExactSheetRead", vars := ["loop.example/townland/impl.shapeNames"], fn := fun _ => fun
  | [d, g1] => { results := [.lit (.bool true)], args := [d], vars := [g1] }
  | _ => none }
def fnExactSheetReadRow : OpenClaim := { program := "ytenpaemaiapapaadoor", sum := "172c053db1db18cdb939526b0ba3eef48803488cada430268235eb350a0264e1", func := "loop.example/townland/laws.FnExactSheetRead", spec := "fnExactSheetRead", inPlace := ["internal/bytealg.CountString", "internal/bytealg.IndexByteString", "internal/bytealg.IndexString"], named := ["unicode/utf8.first", "unicode/utf8.acceptRanges", "internal/bytealg.MaxLen", "loop.example/townland/impl.shapeNames", "strconv.ErrSyntax", "strconv.ErrRange", "internal/strconv.uint64pow10", "math/bits.deBruijn32tab", "math/bits.deBruijn64tab"], apart := false, laid := [("math/bits.deBruijn32tab", laid_math_bits_deBruijn32tab), ("math/bits.deBruijn64tab", laid_math_bits_deBruijn64tab), ("internal/strconv.uint64pow10", laid_internal_strconv_uint64pow10), ("unicode/utf8.acceptRanges", laid_unicode_utf8_acceptRanges), ("strconv.ErrRange", laid_strconv_ErrRange), ("strconv.ErrSyntax", laid_strconv_ErrSyntax), ("loop.example/townland/impl.shapeNames", laid_loop_example_townland_impl_shapeNames), ("unicode/utf8.first", laid_unicode_utf8_first)] }
def FnExactSheetReadSaid : Prop := fnExactSheetReadRow.holds Tryd.pinned (OpenSpec.ofChange fnExactSheetReadSpec)

/-- ITS FALSE NEIGHBOUR: 'it returns false'. Refute it at one input. -/
def fnExactSheetReadWrong : ChangeSpec := { name := "fnExactSheetRead", vars := ["loop.example/townland/impl.shapeNames"], fn := fun _ => fun
  | [d, g1] => { results := [.lit (.bool false)], args := [d], vars := [g1] }
  | _ => none }
def FnExactSheetReadWrongFalsely : Prop := fnExactSheetReadRow.holds Tryd.pinned (OpenSpec.ofChange fnExactSheetReadWrong)

/-- 'laws.FnExactShapeText': WHATEVER THE INPUT: true; the input reads as it did. -/
def fnExactShapeTextSpec : ChangeSpec := { name := "fnExactShapeText", vars := ["loop.example/townland/impl.shapeNames"], fn := fun _ => fun
  | [d, g1] => { results := [.lit (.bool true)], args := [d], vars := [g1] }
  | _ => none }
def fnExactShapeTextRow : OpenClaim := { program := "ytenpaemaiapapaadoor", sum := "172c053db1db18cdb939526b0ba3eef48803488cada430268235eb350a0264e1", func := "loop.example/townland/laws.FnExactShapeText", spec := "fnExactShapeText", recurses := true, named := ["loop.example/townland/impl.shapeNames", "internal/strconv.uint64pow10", "math/bits.deBruijn32tab", "math/bits.deBruijn64tab"], apart := false, laid := [("math/bits.deBruijn32tab", laid_math_bits_deBruijn32tab), ("math/bits.deBruijn64tab", laid_math_bits_deBruijn64tab), ("internal/strconv.uint64pow10", laid_internal_strconv_uint64pow10), ("loop.example/townland/impl.shapeNames", laid_loop_example_townland_impl_shapeNames)] }
def FnExactShapeTextSaid : Prop := fnExactShapeTextRow.holds Tryd.pinned (OpenSpec.ofChange fnExactShapeTextSpec)

/-- ITS FALSE NEIGHBOUR: 'it returns false'. Refute it at one input. -/
def fnExactShapeTextWrong : ChangeSpec := { name := "fnExactShapeText", vars := ["loop.example/townland/impl.shapeNames"], fn := fun _ => fun
  | [d, g1] => { results := [.lit (.bool false)], args := [d], vars := [g1] }
  | _ => none }
def FnExactShapeTextWrongFalsely : Prop := fnExactShapeTextRow.holds Tryd.pinned (OpenSpec.ofChange fnExactShapeTextWrong)

/-- 'laws.FnShapeSame': WHATEVER THE INPUT: true; the input reads as it did. -/
def fnShapeSameSpec : ChangeSpec := { name := "fnShapeSame", vars := ["loop.example/townland/impl.shapeNames"], fn := fun _ => fun
  | [d1, d2, g1] => { results := [.lit (.bool true)], args := [d1, d2], vars := [g1] }
  | _ => none }
def fnShapeSameRow : OpenClaim := { program := "ytenpaemaiapapaadoor", sum := "172c053db1db18cdb939526b0ba3eef48803488cada430268235eb350a0264e1", func := "loop.example/townland/laws.FnShapeSame", spec := "fnShapeSame", named := ["loop.example/townland/impl.shapeNames", "internal/strconv.uint64pow10", "math/bits.deBruijn32tab", "math/bits.deBruijn64tab"], apart := false, laid := [("math/bits.deBruijn32tab", laid_math_bits_deBruijn32tab), ("math/bits.deBruijn64tab", laid_math_bits_deBruijn64tab), ("internal/strconv.uint64pow10", laid_internal_strconv_uint64pow10), ("loop.example/townland/impl.shapeNames", laid_loop_example_townland_impl_shapeNames)] }
def FnShapeSameSaid : Prop := fnShapeSameRow.holds Tryd.pinned (OpenSpec.ofChange fnShapeSameSpec)

/-- ITS FALSE NEIGHBOUR: 'it returns false'. Refute it at one input. -/
def fnShapeSameWrong : ChangeSpec := { name := "fnShapeSame", vars := ["loop.example/townland/impl.shapeNames"], fn := fun _ => fun
  | [d1, d2, g1] => { results := [.lit (.bool false)], args := [d1, d2], vars := [g1] }
  | _ => none }
def FnShapeSameWrongFalsely : Prop := fnShapeSameRow.holds Tryd.pinned (OpenSpec.ofChange fnShapeSameWrong)

/-- 'laws.FnFeatSame': WHATEVER THE INPUT: true; the input reads as it did. -/
def fnFeatSameSpec : ChangeSpec := { name := "fnFeatSame", vars := ["loop.example/townland/impl.shapeNames"], fn := fun _ => fun
  | [d, g1] => { results := [.lit (.bool true)], args := [d], vars := [g1] }
  | _ => none }
def fnFeatSameRow : OpenClaim := { program := "ytenpaemaiapapaadoor", sum := "172c053db1db18cdb939526b0ba3eef48803488cada430268235eb350a0264e1", func := "loop.example/townland/laws.FnFeatSame", spec := "fnFeatSame", named := ["loop.example/townland/impl.shapeNames", "internal/strconv.uint64pow10", "math/bits.deBruijn32tab", "math/bits.deBruijn64tab"], apart := false, laid := [("math/bits.deBruijn32tab", laid_math_bits_deBruijn32tab), ("math/bits.deBruijn64tab", laid_math_bits_deBruijn64tab), ("internal/strconv.uint64pow10", laid_internal_strconv_uint64pow10), ("loop.example/townland/impl.shapeNames", laid_loop_example_townland_impl_shapeNames)] }
def FnFeatSameSaid : Prop := fnFeatSameRow.holds Tryd.pinned (OpenSpec.ofChange fnFeatSameSpec)

/-- ITS FALSE NEIGHBOUR: 'it returns false'. Refute it at one input. -/
def fnFeatSameWrong : ChangeSpec := { name := "fnFeatSame", vars := ["loop.example/townland/impl.shapeNames"], fn := fun _ => fun
  | [d, g1] => { results := [.lit (.bool false)], args := [d], vars := [g1] }
  | _ => none }
def FnFeatSameWrongFalsely : Prop := fnFeatSameRow.holds Tryd.pinned (OpenSpec.ofChange fnFeatSameWrong)

/-- 'laws.FnExactFeatText': WHATEVER THE INPUT: true; the input reads as it did. -/
def fnExactFeatTextSpec : ChangeSpec := { name := "fnExactFeatText", vars := ["loop.example/townland/impl.shapeNames"], fn := fun _ => fun
  | [d, g1] => { results := [.lit (.bool true)], args := [d], vars := [g1] }
  | _ => none }
def fnExactFeatTextRow : OpenClaim := { program := "ytenpaemaiapapaadoor", sum := "172c053db1db18cdb939526b0ba3eef48803488cada430268235eb350a0264e1", func := "loop.example/townland/laws.FnExactFeatText", spec := "fnExactFeatText", recurses := true, named := ["loop.example/townland/impl.shapeNames", "internal/strconv.uint64pow10", "math/bits.deBruijn32tab", "math/bits.deBruijn64tab"], apart := false, laid := [("math/bits.deBruijn32tab", laid_math_bits_deBruijn32tab), ("math/bits.deBruijn64tab", laid_math_bits_deBruijn64tab), ("internal/strconv.uint64pow10", laid_internal_strconv_uint64pow10), ("loop.example/townland/impl.shapeNames", laid_loop_example_townland_impl_shapeNames)] }
def FnExactFeatTextSaid : Prop := fnExactFeatTextRow.holds Tryd.pinned (OpenSpec.ofChange fnExactFeatTextSpec)

/-- ITS FALSE NEIGHBOUR: 'it returns false'. Refute it at one input. -/
def fnExactFeatTextWrong : ChangeSpec := { name := "fnExactFeatText", vars := ["loop.example/townland/impl.shapeNames"], fn := fun _ => fun
  | [d, g1] => { results := [.lit (.bool false)], args := [d], vars := [g1] }
  | _ => none }
def FnExactFeatTextWrongFalsely : Prop := fnExactFeatTextRow.holds Tryd.pinned (OpenSpec.ofChange fnExactFeatTextWrong)

/-- 'laws.FnExactSheetText': WHATEVER THE INPUT: true; the input reads as it did. -/
def fnExactSheetTextSpec : ChangeSpec := { name := "fnExactSheetText", vars := ["loop.example/townland/impl.shapeNames"], fn := fun _ => fun
  | [d, g1] => { results := [.lit (.bool true)], args := [d], vars := [g1] }
  | _ => none }
def fnExactSheetTextRow : OpenClaim := { program := "ytenpaemaiapapaadoor", sum := "172c053db1db18cdb939526b0ba3eef48803488cada430268235eb350a0264e1", func := "loop.example/townland/laws.FnExactSheetText", spec := "fnExactSheetText", recurses := true, named := ["loop.example/townland/impl.shapeNames", "internal/strconv.uint64pow10", "math/bits.deBruijn32tab", "math/bits.deBruijn64tab"], apart := false, laid := [("math/bits.deBruijn32tab", laid_math_bits_deBruijn32tab), ("math/bits.deBruijn64tab", laid_math_bits_deBruijn64tab), ("internal/strconv.uint64pow10", laid_internal_strconv_uint64pow10), ("loop.example/townland/impl.shapeNames", laid_loop_example_townland_impl_shapeNames)] }
def FnExactSheetTextSaid : Prop := fnExactSheetTextRow.holds Tryd.pinned (OpenSpec.ofChange fnExactSheetTextSpec)

/-- ITS FALSE NEIGHBOUR: 'it returns false'. Refute it at one input. -/
def fnExactSheetTextWrong : ChangeSpec := { name := "fnExactSheetText", vars := ["loop.example/townland/impl.shapeNames"], fn := fun _ => fun
  | [d, g1] => { results := [.lit (.bool false)], args := [d], vars := [g1] }
  | _ => none }
def FnExactSheetTextWrongFalsely : Prop := fnExactSheetTextRow.holds Tryd.pinned (OpenSpec.ofChange fnExactSheetTextWrong)

/-- 'laws.FnExactShapeRead': WHATEVER THE INPUT: true; the input reads as it did. -/
def fnExactShapeReadSpec : ChangeSpec := { name := "fnExactShapeRead", vars := ["loop.example/townland/impl.shapeNames"], fn := fun _ => fun
  | [d, g1] => { results := [.lit (.bool true)], args := [d], vars := [g1] }
  | _ => none }
def fnExactShapeReadRow : OpenClaim := { program := "ytenpaemaiapapaadoor", sum := "172c053db1db18cdb939526b0ba3eef48803488cada430268235eb350a0264e1", func := "loop.example/townland/laws.FnExactShapeRead", spec := "fnExactShapeRead", inPlace := ["internal/bytealg.CountString", "internal/bytealg.IndexByteString", "internal/bytealg.IndexString"], named := ["unicode/utf8.first", "unicode/utf8.acceptRanges", "internal/bytealg.MaxLen", "loop.example/townland/impl.shapeNames", "strconv.ErrSyntax", "strconv.ErrRange", "internal/strconv.uint64pow10", "math/bits.deBruijn32tab", "math/bits.deBruijn64tab"], apart := false, laid := [("math/bits.deBruijn32tab", laid_math_bits_deBruijn32tab), ("math/bits.deBruijn64tab", laid_math_bits_deBruijn64tab), ("internal/strconv.uint64pow10", laid_internal_strconv_uint64pow10), ("unicode/utf8.acceptRanges", laid_unicode_utf8_acceptRanges), ("strconv.ErrRange", laid_strconv_ErrRange), ("strconv.ErrSyntax", laid_strconv_ErrSyntax), ("loop.example/townland/impl.shapeNames", laid_loop_example_townland_impl_shapeNames), ("unicode/utf8.first", laid_unicode_utf8_first)] }
def FnExactShapeReadSaid : Prop := fnExactShapeReadRow.holds Tryd.pinned (OpenSpec.ofChange fnExactShapeReadSpec)

/-- ITS FALSE NEIGHBOUR: 'it returns false'. Refute it at one input. -/
def fnExactShapeReadWrong : ChangeSpec := { name := "fnExactShapeRead", vars := ["loop.example/townland/impl.shapeNames"], fn := fun _ => fun
  | [d, g1] => { results := [.lit (.bool false)], args := [d], vars := [g1] }
  | _ => none }
def FnExactShapeReadWrongFalsely : Prop := fnExactShapeReadRow.holds Tryd.pinned (OpenSpec.ofChange fnExactShapeReadWrong)

/-- 'laws.FnFeatWords': WHATEVER THE INPUT: true; the input reads as it did. -/
def fnFeatWordsSpec : ChangeSpec := { name := "fnFeatWords", vars := ["loop.example/townland/impl.shapeNames"], fn := fun _ => fun
  | [d, g1] => { results := [.lit (.bool true)], args := [d], vars := [g1] }
  | _ => none }
def fnFeatWordsRow : OpenClaim := { program := "ytenpaemaiapapaadoor", sum := "172c053db1db18cdb939526b0ba3eef48803488cada430268235eb350a0264e1", func := "loop.example/townland/laws.FnFeatWords", spec := "fnFeatWords", inPlace := ["internal/bytealg.CountString", "internal/bytealg.IndexByteString", "internal/bytealg.IndexString"], recurses := true, named := ["loop.example/townland/impl.shapeNames", "internal/strconv.uint64pow10", "math/bits.deBruijn32tab", "math/bits.deBruijn64tab", "unicode/utf8.first", "unicode/utf8.acceptRanges", "internal/bytealg.MaxLen", "strconv.ErrSyntax", "strconv.ErrRange"], apart := false, laid := [("math/bits.deBruijn32tab", laid_math_bits_deBruijn32tab), ("math/bits.deBruijn64tab", laid_math_bits_deBruijn64tab), ("internal/strconv.uint64pow10", laid_internal_strconv_uint64pow10), ("unicode/utf8.acceptRanges", laid_unicode_utf8_acceptRanges), ("strconv.ErrRange", laid_strconv_ErrRange), ("strconv.ErrSyntax", laid_strconv_ErrSyntax), ("loop.example/townland/impl.shapeNames", laid_loop_example_townland_impl_shapeNames), ("unicode/utf8.first", laid_unicode_utf8_first)] }
def FnFeatWordsSaid : Prop := fnFeatWordsRow.holds Tryd.pinned (OpenSpec.ofChange fnFeatWordsSpec)

/-- ITS FALSE NEIGHBOUR: 'it returns false'. Refute it at one input. -/
def fnFeatWordsWrong : ChangeSpec := { name := "fnFeatWords", vars := ["loop.example/townland/impl.shapeNames"], fn := fun _ => fun
  | [d, g1] => { results := [.lit (.bool false)], args := [d], vars := [g1] }
  | _ => none }
def FnFeatWordsWrongFalsely : Prop := fnFeatWordsRow.holds Tryd.pinned (OpenSpec.ofChange fnFeatWordsWrong)

/-- 'laws.FnShape': WHATEVER THE INPUT: true; the input reads as it did. -/
def fnShapeSpec : ChangeSpec := { name := "fnShape", vars := ["loop.example/townland/impl.shapeNames"], fn := fun _ => fun
  | [d1, d2, g1] => { results := [.lit (.bool true)], args := [d1, d2], vars := [g1] }
  | _ => none }
def fnShapeRow : OpenClaim := { program := "ytenpaemaiapapaadoor", sum := "172c053db1db18cdb939526b0ba3eef48803488cada430268235eb350a0264e1", func := "loop.example/townland/laws.FnShape", spec := "fnShape", inPlace := ["internal/bytealg.CountString", "internal/bytealg.IndexByteString", "internal/bytealg.IndexString"], recurses := true, named := ["loop.example/townland/impl.shapeNames", "internal/strconv.uint64pow10", "math/bits.deBruijn32tab", "math/bits.deBruijn64tab", "unicode/utf8.first", "unicode/utf8.acceptRanges", "internal/bytealg.MaxLen", "strconv.ErrSyntax", "strconv.ErrRange"], apart := false, laid := [("math/bits.deBruijn32tab", laid_math_bits_deBruijn32tab), ("math/bits.deBruijn64tab", laid_math_bits_deBruijn64tab), ("internal/strconv.uint64pow10", laid_internal_strconv_uint64pow10), ("unicode/utf8.acceptRanges", laid_unicode_utf8_acceptRanges), ("strconv.ErrRange", laid_strconv_ErrRange), ("strconv.ErrSyntax", laid_strconv_ErrSyntax), ("loop.example/townland/impl.shapeNames", laid_loop_example_townland_impl_shapeNames), ("unicode/utf8.first", laid_unicode_utf8_first)] }
def FnShapeSaid : Prop := fnShapeRow.holds Tryd.pinned (OpenSpec.ofChange fnShapeSpec)

/-- ITS FALSE NEIGHBOUR: 'it returns false'. Refute it at one input. -/
def fnShapeWrong : ChangeSpec := { name := "fnShape", vars := ["loop.example/townland/impl.shapeNames"], fn := fun _ => fun
  | [d1, d2, g1] => { results := [.lit (.bool false)], args := [d1, d2], vars := [g1] }
  | _ => none }
def FnShapeWrongFalsely : Prop := fnShapeRow.holds Tryd.pinned (OpenSpec.ofChange fnShapeWrong)

/-- 'laws.FnExactFeatRead': WHATEVER THE INPUT: true; the input reads as it did. -/
def fnExactFeatReadSpec : ChangeSpec := { name := "fnExactFeatRead", vars := ["loop.example/townland/impl.shapeNames"], fn := fun _ => fun
  | [d, g1] => { results := [.lit (.bool true)], args := [d], vars := [g1] }
  | _ => none }
def fnExactFeatReadRow : OpenClaim := { program := "ytenpaemaiapapaadoor", sum := "172c053db1db18cdb939526b0ba3eef48803488cada430268235eb350a0264e1", func := "loop.example/townland/laws.FnExactFeatRead", spec := "fnExactFeatRead", inPlace := ["internal/bytealg.CountString", "internal/bytealg.IndexByteString", "internal/bytealg.IndexString"], named := ["unicode/utf8.first", "unicode/utf8.acceptRanges", "internal/bytealg.MaxLen", "loop.example/townland/impl.shapeNames", "strconv.ErrSyntax", "strconv.ErrRange", "internal/strconv.uint64pow10", "math/bits.deBruijn32tab", "math/bits.deBruijn64tab"], apart := false, laid := [("math/bits.deBruijn32tab", laid_math_bits_deBruijn32tab), ("math/bits.deBruijn64tab", laid_math_bits_deBruijn64tab), ("internal/strconv.uint64pow10", laid_internal_strconv_uint64pow10), ("unicode/utf8.acceptRanges", laid_unicode_utf8_acceptRanges), ("strconv.ErrRange", laid_strconv_ErrRange), ("strconv.ErrSyntax", laid_strconv_ErrSyntax), ("loop.example/townland/impl.shapeNames", laid_loop_example_townland_impl_shapeNames), ("unicode/utf8.first", laid_unicode_utf8_first)] }
def FnExactFeatReadSaid : Prop := fnExactFeatReadRow.holds Tryd.pinned (OpenSpec.ofChange fnExactFeatReadSpec)

/-- ITS FALSE NEIGHBOUR: 'it returns false'. Refute it at one input. -/
def fnExactFeatReadWrong : ChangeSpec := { name := "fnExactFeatRead", vars := ["loop.example/townland/impl.shapeNames"], fn := fun _ => fun
  | [d, g1] => { results := [.lit (.bool false)], args := [d], vars := [g1] }
  | _ => none }
def FnExactFeatReadWrongFalsely : Prop := fnExactFeatReadRow.holds Tryd.pinned (OpenSpec.ofChange fnExactFeatReadWrong)

/-- 'laws.FnFeatRead': WHATEVER THE INPUT: true; the input reads as it did. -/
def fnFeatReadSpec : ChangeSpec := { name := "fnFeatRead", vars := ["loop.example/townland/impl.shapeNames"], fn := fun _ => fun
  | [d, g1] => { results := [.lit (.bool true)], args := [d], vars := [g1] }
  | _ => none }
def fnFeatReadRow : OpenClaim := { program := "ytenpaemaiapapaadoor", sum := "172c053db1db18cdb939526b0ba3eef48803488cada430268235eb350a0264e1", func := "loop.example/townland/laws.FnFeatRead", spec := "fnFeatRead", inPlace := ["internal/bytealg.CountString", "internal/bytealg.IndexByteString", "internal/bytealg.IndexString"], recurses := true, named := ["unicode/utf8.first", "unicode/utf8.acceptRanges", "internal/bytealg.MaxLen", "loop.example/townland/impl.shapeNames", "strconv.ErrSyntax", "strconv.ErrRange", "internal/strconv.uint64pow10", "math/bits.deBruijn32tab", "math/bits.deBruijn64tab"], apart := false, laid := [("math/bits.deBruijn32tab", laid_math_bits_deBruijn32tab), ("math/bits.deBruijn64tab", laid_math_bits_deBruijn64tab), ("internal/strconv.uint64pow10", laid_internal_strconv_uint64pow10), ("unicode/utf8.acceptRanges", laid_unicode_utf8_acceptRanges), ("strconv.ErrRange", laid_strconv_ErrRange), ("strconv.ErrSyntax", laid_strconv_ErrSyntax), ("loop.example/townland/impl.shapeNames", laid_loop_example_townland_impl_shapeNames), ("unicode/utf8.first", laid_unicode_utf8_first)] }
def FnFeatReadSaid : Prop := fnFeatReadRow.holds Tryd.pinned (OpenSpec.ofChange fnFeatReadSpec)

/-- ITS FALSE NEIGHBOUR: 'it returns false'. Refute it at one input. -/
def fnFeatReadWrong : ChangeSpec := { name := "fnFeatRead", vars := ["loop.example/townland/impl.shapeNames"], fn := fun _ => fun
  | [d, g1] => { results := [.lit (.bool false)], args := [d], vars := [g1] }
  | _ => none }
def FnFeatReadWrongFalsely : Prop := fnFeatReadRow.holds Tryd.pinned (OpenSpec.ofChange fnFeatReadWrong)

/- THE SECOND FORM. 'bulk': how many values and letters a reading holds, each counted each time it is reached (what is shared counts as often as it is met; a slice's spare places count too). A statement '..UptoSaid' is the law's where the arguments, and the package variables that the reading takes, are together of bulk at most 1048576: NARROWER than '..Said'. Prove '..Said' where nothing that the law and all that it calls make is longer than what came in: it says more and counts as full. Else prove '..UptoSaid'. A law counts once. -/
mutual
def uptoBulk {H : Type} : DataW H → Nat
  | .lit (.string bytes) => bytes.length + 1
  | .lit _ => 1
  | .nil => 1
  | .ptr d => uptoBulk d + 1
  | .slice elems spare => uptoBulkAll elems + uptoBulkAll spare + 1
  | .agg parts => uptoBulkAll parts + 1
  | .iface _ d => uptoBulk d + 1
  | .map entries => uptoBulkEntries entries + 1
  | .held _ => 1
def uptoBulkAll {H : Type} : List (DataW H) → Nat
  | [] => 0
  | d :: r => uptoBulk d + uptoBulkAll r
def uptoBulkEntries {H : Type} : List (Lit × DataW H) → Nat
  | [] => 0
  | x :: r => uptoBulkEntry x + uptoBulkEntries r
def uptoBulkEntry {H : Type} : Lit × DataW H → Nat
  | (.string bytes, d) => bytes.length + uptoBulk d + 1
  | (_, d) => uptoBulk d + 1
 end
def uptoSmall : (H : Type) → List (DataW H) → Bool := fun _ ds => decide (uptoBulkAll ds ≤ 1048576)
def OpenSpec.upto (s : _root_.Go.ChangeSpec) : _root_.Go.OpenSpec := { _root_.Go.OpenSpec.ofChange s with cond := some uptoSmall }

/-- 'laws.FnExactSheetRead', WHERE WHAT IT READS IS OF BULK AT MOST 1048576: true; the input reads as it did. -/
def fnExactSheetReadUptoRow : OpenClaim := { program := "ytenpaemaiapapaadoor", sum := "172c053db1db18cdb939526b0ba3eef48803488cada430268235eb350a0264e1", func := "loop.example/townland/laws.FnExactSheetRead", spec := "fnExactSheetRead", inPlace := ["internal/bytealg.CountString", "internal/bytealg.IndexByteString", "internal/bytealg.IndexString"], named := ["unicode/utf8.first", "unicode/utf8.acceptRanges", "internal/bytealg.MaxLen", "loop.example/townland/impl.shapeNames", "strconv.ErrSyntax", "strconv.ErrRange", "internal/strconv.uint64pow10", "math/bits.deBruijn32tab", "math/bits.deBruijn64tab"], apart := false, laid := [("math/bits.deBruijn32tab", laid_math_bits_deBruijn32tab), ("math/bits.deBruijn64tab", laid_math_bits_deBruijn64tab), ("internal/strconv.uint64pow10", laid_internal_strconv_uint64pow10), ("unicode/utf8.acceptRanges", laid_unicode_utf8_acceptRanges), ("strconv.ErrRange", laid_strconv_ErrRange), ("strconv.ErrSyntax", laid_strconv_ErrSyntax), ("loop.example/townland/impl.shapeNames", laid_loop_example_townland_impl_shapeNames), ("unicode/utf8.first", laid_unicode_utf8_first)], narrowed := true }
def FnExactSheetReadUptoSaid : Prop := fnExactSheetReadUptoRow.holds Tryd.pinned (OpenSpec.upto fnExactSheetReadSpec)

/-- 'laws.FnExactShapeText', WHERE WHAT IT READS IS OF BULK AT MOST 1048576: true; the input reads as it did. -/
def fnExactShapeTextUptoRow : OpenClaim := { program := "ytenpaemaiapapaadoor", sum := "172c053db1db18cdb939526b0ba3eef48803488cada430268235eb350a0264e1", func := "loop.example/townland/laws.FnExactShapeText", spec := "fnExactShapeText", recurses := true, named := ["loop.example/townland/impl.shapeNames", "internal/strconv.uint64pow10", "math/bits.deBruijn32tab", "math/bits.deBruijn64tab"], apart := false, laid := [("math/bits.deBruijn32tab", laid_math_bits_deBruijn32tab), ("math/bits.deBruijn64tab", laid_math_bits_deBruijn64tab), ("internal/strconv.uint64pow10", laid_internal_strconv_uint64pow10), ("loop.example/townland/impl.shapeNames", laid_loop_example_townland_impl_shapeNames)], narrowed := true }
def FnExactShapeTextUptoSaid : Prop := fnExactShapeTextUptoRow.holds Tryd.pinned (OpenSpec.upto fnExactShapeTextSpec)

/-- 'laws.FnShapeSame', WHERE WHAT IT READS IS OF BULK AT MOST 1048576: true; the input reads as it did. -/
def fnShapeSameUptoRow : OpenClaim := { program := "ytenpaemaiapapaadoor", sum := "172c053db1db18cdb939526b0ba3eef48803488cada430268235eb350a0264e1", func := "loop.example/townland/laws.FnShapeSame", spec := "fnShapeSame", named := ["loop.example/townland/impl.shapeNames", "internal/strconv.uint64pow10", "math/bits.deBruijn32tab", "math/bits.deBruijn64tab"], apart := false, laid := [("math/bits.deBruijn32tab", laid_math_bits_deBruijn32tab), ("math/bits.deBruijn64tab", laid_math_bits_deBruijn64tab), ("internal/strconv.uint64pow10", laid_internal_strconv_uint64pow10), ("loop.example/townland/impl.shapeNames", laid_loop_example_townland_impl_shapeNames)], narrowed := true }
def FnShapeSameUptoSaid : Prop := fnShapeSameUptoRow.holds Tryd.pinned (OpenSpec.upto fnShapeSameSpec)

/-- 'laws.FnFeatSame', WHERE WHAT IT READS IS OF BULK AT MOST 1048576: true; the input reads as it did. -/
def fnFeatSameUptoRow : OpenClaim := { program := "ytenpaemaiapapaadoor", sum := "172c053db1db18cdb939526b0ba3eef48803488cada430268235eb350a0264e1", func := "loop.example/townland/laws.FnFeatSame", spec := "fnFeatSame", named := ["loop.example/townland/impl.shapeNames", "internal/strconv.uint64pow10", "math/bits.deBruijn32tab", "math/bits.deBruijn64tab"], apart := false, laid := [("math/bits.deBruijn32tab", laid_math_bits_deBruijn32tab), ("math/bits.deBruijn64tab", laid_math_bits_deBruijn64tab), ("internal/strconv.uint64pow10", laid_internal_strconv_uint64pow10), ("loop.example/townland/impl.shapeNames", laid_loop_example_townland_impl_shapeNames)], narrowed := true }
def FnFeatSameUptoSaid : Prop := fnFeatSameUptoRow.holds Tryd.pinned (OpenSpec.upto fnFeatSameSpec)

/-- 'laws.FnExactFeatText', WHERE WHAT IT READS IS OF BULK AT MOST 1048576: true; the input reads as it did. -/
def fnExactFeatTextUptoRow : OpenClaim := { program := "ytenpaemaiapapaadoor", sum := "172c053db1db18cdb939526b0ba3eef48803488cada430268235eb350a0264e1", func := "loop.example/townland/laws.FnExactFeatText", spec := "fnExactFeatText", recurses := true, named := ["loop.example/townland/impl.shapeNames", "internal/strconv.uint64pow10", "math/bits.deBruijn32tab", "math/bits.deBruijn64tab"], apart := false, laid := [("math/bits.deBruijn32tab", laid_math_bits_deBruijn32tab), ("math/bits.deBruijn64tab", laid_math_bits_deBruijn64tab), ("internal/strconv.uint64pow10", laid_internal_strconv_uint64pow10), ("loop.example/townland/impl.shapeNames", laid_loop_example_townland_impl_shapeNames)], narrowed := true }
def FnExactFeatTextUptoSaid : Prop := fnExactFeatTextUptoRow.holds Tryd.pinned (OpenSpec.upto fnExactFeatTextSpec)

/-- 'laws.FnExactSheetText', WHERE WHAT IT READS IS OF BULK AT MOST 1048576: true; the input reads as it did. -/
def fnExactSheetTextUptoRow : OpenClaim := { program := "ytenpaemaiapapaadoor", sum := "172c053db1db18cdb939526b0ba3eef48803488cada430268235eb350a0264e1", func := "loop.example/townland/laws.FnExactSheetText", spec := "fnExactSheetText", recurses := true, named := ["loop.example/townland/impl.shapeNames", "internal/strconv.uint64pow10", "math/bits.deBruijn32tab", "math/bits.deBruijn64tab"], apart := false, laid := [("math/bits.deBruijn32tab", laid_math_bits_deBruijn32tab), ("math/bits.deBruijn64tab", laid_math_bits_deBruijn64tab), ("internal/strconv.uint64pow10", laid_internal_strconv_uint64pow10), ("loop.example/townland/impl.shapeNames", laid_loop_example_townland_impl_shapeNames)], narrowed := true }
def FnExactSheetTextUptoSaid : Prop := fnExactSheetTextUptoRow.holds Tryd.pinned (OpenSpec.upto fnExactSheetTextSpec)

/-- 'laws.FnExactShapeRead', WHERE WHAT IT READS IS OF BULK AT MOST 1048576: true; the input reads as it did. -/
def fnExactShapeReadUptoRow : OpenClaim := { program := "ytenpaemaiapapaadoor", sum := "172c053db1db18cdb939526b0ba3eef48803488cada430268235eb350a0264e1", func := "loop.example/townland/laws.FnExactShapeRead", spec := "fnExactShapeRead", inPlace := ["internal/bytealg.CountString", "internal/bytealg.IndexByteString", "internal/bytealg.IndexString"], named := ["unicode/utf8.first", "unicode/utf8.acceptRanges", "internal/bytealg.MaxLen", "loop.example/townland/impl.shapeNames", "strconv.ErrSyntax", "strconv.ErrRange", "internal/strconv.uint64pow10", "math/bits.deBruijn32tab", "math/bits.deBruijn64tab"], apart := false, laid := [("math/bits.deBruijn32tab", laid_math_bits_deBruijn32tab), ("math/bits.deBruijn64tab", laid_math_bits_deBruijn64tab), ("internal/strconv.uint64pow10", laid_internal_strconv_uint64pow10), ("unicode/utf8.acceptRanges", laid_unicode_utf8_acceptRanges), ("strconv.ErrRange", laid_strconv_ErrRange), ("strconv.ErrSyntax", laid_strconv_ErrSyntax), ("loop.example/townland/impl.shapeNames", laid_loop_example_townland_impl_shapeNames), ("unicode/utf8.first", laid_unicode_utf8_first)], narrowed := true }
def FnExactShapeReadUptoSaid : Prop := fnExactShapeReadUptoRow.holds Tryd.pinned (OpenSpec.upto fnExactShapeReadSpec)

/-- 'laws.FnFeatWords', WHERE WHAT IT READS IS OF BULK AT MOST 1048576: true; the input reads as it did. -/
def fnFeatWordsUptoRow : OpenClaim := { program := "ytenpaemaiapapaadoor", sum := "172c053db1db18cdb939526b0ba3eef48803488cada430268235eb350a0264e1", func := "loop.example/townland/laws.FnFeatWords", spec := "fnFeatWords", inPlace := ["internal/bytealg.CountString", "internal/bytealg.IndexByteString", "internal/bytealg.IndexString"], recurses := true, named := ["loop.example/townland/impl.shapeNames", "internal/strconv.uint64pow10", "math/bits.deBruijn32tab", "math/bits.deBruijn64tab", "unicode/utf8.first", "unicode/utf8.acceptRanges", "internal/bytealg.MaxLen", "strconv.ErrSyntax", "strconv.ErrRange"], apart := false, laid := [("math/bits.deBruijn32tab", laid_math_bits_deBruijn32tab), ("math/bits.deBruijn64tab", laid_math_bits_deBruijn64tab), ("internal/strconv.uint64pow10", laid_internal_strconv_uint64pow10), ("unicode/utf8.acceptRanges", laid_unicode_utf8_acceptRanges), ("strconv.ErrRange", laid_strconv_ErrRange), ("strconv.ErrSyntax", laid_strconv_ErrSyntax), ("loop.example/townland/impl.shapeNames", laid_loop_example_townland_impl_shapeNames), ("unicode/utf8.first", laid_unicode_utf8_first)], narrowed := true }
def FnFeatWordsUptoSaid : Prop := fnFeatWordsUptoRow.holds Tryd.pinned (OpenSpec.upto fnFeatWordsSpec)

/-- 'laws.FnShape', WHERE WHAT IT READS IS OF BULK AT MOST 1048576: true; the input reads as it did. -/
def fnShapeUptoRow : OpenClaim := { program := "ytenpaemaiapapaadoor", sum := "172c053db1db18cdb939526b0ba3eef48803488cada430268235eb350a0264e1", func := "loop.example/townland/laws.FnShape", spec := "fnShape", inPlace := ["internal/bytealg.CountString", "internal/bytealg.IndexByteString", "internal/bytealg.IndexString"], recurses := true, named := ["loop.example/townland/impl.shapeNames", "internal/strconv.uint64pow10", "math/bits.deBruijn32tab", "math/bits.deBruijn64tab", "unicode/utf8.first", "unicode/utf8.acceptRanges", "internal/bytealg.MaxLen", "strconv.ErrSyntax", "strconv.ErrRange"], apart := false, laid := [("math/bits.deBruijn32tab", laid_math_bits_deBruijn32tab), ("math/bits.deBruijn64tab", laid_math_bits_deBruijn64tab), ("internal/strconv.uint64pow10", laid_internal_strconv_uint64pow10), ("unicode/utf8.acceptRanges", laid_unicode_utf8_acceptRanges), ("strconv.ErrRange", laid_strconv_ErrRange), ("strconv.ErrSyntax", laid_strconv_ErrSyntax), ("loop.example/townland/impl.shapeNames", laid_loop_example_townland_impl_shapeNames), ("unicode/utf8.first", laid_unicode_utf8_first)], narrowed := true }
def FnShapeUptoSaid : Prop := fnShapeUptoRow.holds Tryd.pinned (OpenSpec.upto fnShapeSpec)

/-- 'laws.FnExactFeatRead', WHERE WHAT IT READS IS OF BULK AT MOST 1048576: true; the input reads as it did. -/
def fnExactFeatReadUptoRow : OpenClaim := { program := "ytenpaemaiapapaadoor", sum := "172c053db1db18cdb939526b0ba3eef48803488cada430268235eb350a0264e1", func := "loop.example/townland/laws.FnExactFeatRead", spec := "fnExactFeatRead", inPlace := ["internal/bytealg.CountString", "internal/bytealg.IndexByteString", "internal/bytealg.IndexString"], named := ["unicode/utf8.first", "unicode/utf8.acceptRanges", "internal/bytealg.MaxLen", "loop.example/townland/impl.shapeNames", "strconv.ErrSyntax", "strconv.ErrRange", "internal/strconv.uint64pow10", "math/bits.deBruijn32tab", "math/bits.deBruijn64tab"], apart := false, laid := [("math/bits.deBruijn32tab", laid_math_bits_deBruijn32tab), ("math/bits.deBruijn64tab", laid_math_bits_deBruijn64tab), ("internal/strconv.uint64pow10", laid_internal_strconv_uint64pow10), ("unicode/utf8.acceptRanges", laid_unicode_utf8_acceptRanges), ("strconv.ErrRange", laid_strconv_ErrRange), ("strconv.ErrSyntax", laid_strconv_ErrSyntax), ("loop.example/townland/impl.shapeNames", laid_loop_example_townland_impl_shapeNames), ("unicode/utf8.first", laid_unicode_utf8_first)], narrowed := true }
def FnExactFeatReadUptoSaid : Prop := fnExactFeatReadUptoRow.holds Tryd.pinned (OpenSpec.upto fnExactFeatReadSpec)

/-- 'laws.FnFeatRead', WHERE WHAT IT READS IS OF BULK AT MOST 1048576: true; the input reads as it did. -/
def fnFeatReadUptoRow : OpenClaim := { program := "ytenpaemaiapapaadoor", sum := "172c053db1db18cdb939526b0ba3eef48803488cada430268235eb350a0264e1", func := "loop.example/townland/laws.FnFeatRead", spec := "fnFeatRead", inPlace := ["internal/bytealg.CountString", "internal/bytealg.IndexByteString", "internal/bytealg.IndexString"], recurses := true, named := ["unicode/utf8.first", "unicode/utf8.acceptRanges", "internal/bytealg.MaxLen", "loop.example/townland/impl.shapeNames", "strconv.ErrSyntax", "strconv.ErrRange", "internal/strconv.uint64pow10", "math/bits.deBruijn32tab", "math/bits.deBruijn64tab"], apart := false, laid := [("math/bits.deBruijn32tab", laid_math_bits_deBruijn32tab), ("math/bits.deBruijn64tab", laid_math_bits_deBruijn64tab), ("internal/strconv.uint64pow10", laid_internal_strconv_uint64pow10), ("unicode/utf8.acceptRanges", laid_unicode_utf8_acceptRanges), ("strconv.ErrRange", laid_strconv_ErrRange), ("strconv.ErrSyntax", laid_strconv_ErrSyntax), ("loop.example/townland/impl.shapeNames", laid_loop_example_townland_impl_shapeNames), ("unicode/utf8.first", laid_unicode_utf8_first)], narrowed := true }
def FnFeatReadUptoSaid : Prop := fnFeatReadUptoRow.holds Tryd.pinned (OpenSpec.upto fnFeatReadSpec)

end Rows
end Go.Proofs.YtenpaemaiapapaaDoor
