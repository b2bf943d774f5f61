/-
  NARROWER THAN 'FOR EVERY INPUT', by the rows' own cells (each row's printed sentence says how): FormulaBlanks: laid · FormulaFirst: laid · FormulaFree: loops, laid · FormulaPositives: loops, laid · FormulaValid: loops, laid · FormulaPositive: loops, laid · FormulaSames: loops, laid · FormulaTexts: loops, laid · FormulaBack: loops, laid · FormulaOwn: loops, laid.
  DERIVED. THE GIVEN ROWS OF THIS SEAT. 10 by the template 'for every input the law returns true; each argument reads behind the call as it read before'; 0 by the template 'total and deterministic' (their statements: YtadnnijdbcdkjaaGreatDoorTotals.lean).
  GIVEN WITH THE SEED: the statements are not yours to turn. If you find one false, say at which input.
  Laid BY PROGRAM, IN A SANDBOX (cutbox-rows.mjs): the forced cells as the released guide's own fill.sh prints them over the translation 65dd61ef1f3d7cce… (all of the seat's roots in one cut). By AI agents, Wed Nov 11 2026. No macro, syntax, notation, axiom, sorry.
-/
import Derived.Test.YtadnnijdbcdkjaaGreatDoorChecked
import GoSem.Claim
import GoSem.ClaimJoined
import GoSem.ClaimMapViews
import Derived.JoinedTies
import Derived.KernelRfl
namespace Go.Proofs.YtadnnijdbcdkjaaGreatDoor
/- THE CELL 'sum', in the pinned program and in every row, IS THE sha256 OF THE DUMP (.gsa) THAT YtadnnijdbcdkjaaGreatDoorProg.lean LOADS. Nothing in Lean hashes anything: it is a label: what it is worth is what the hold of that sum in a sandbox is worth. -/
noncomputable def Tryz.pinned : Pinned := { name := "ytadnnijdbcdkjaagreatdoor", sum := "65dd61ef1f3d7cce70aab7500fb77f6e2987c017f60c31c94e1f33a3ebe1092f", checked := Tryz.checked }
namespace Rows
def none {H : Type} : Left H := { results := [], args := [] }

/- WHAT THE LISTED PACKAGE-LEVEL VARIABLES READ AS WHEN THE CALL BEGINS. Each datum BY PROGRAM (the guide's laid-datum.mjs) off the statement by which the dump's own 'gosem.cut.vars' lays the variable. In a bare row this is a premise. The card (YtadnnijdbcdkjaaGreatDoorCards.lean) ties it to the program's text. -/
def laid_math_bits_deBruijn32tab {H : Type} : DataW H := .agg [.lit (.int .u8 0), .lit (.int .u8 1), .lit (.int .u8 28), .lit (.int .u8 2), .lit (.int .u8 29), .lit (.int .u8 14), .lit (.int .u8 24), .lit (.int .u8 3), .lit (.int .u8 30), .lit (.int .u8 22), .lit (.int .u8 20), .lit (.int .u8 15), .lit (.int .u8 25), .lit (.int .u8 17), .lit (.int .u8 4), .lit (.int .u8 8), .lit (.int .u8 31), .lit (.int .u8 27), .lit (.int .u8 13), .lit (.int .u8 23), .lit (.int .u8 21), .lit (.int .u8 19), .lit (.int .u8 16), .lit (.int .u8 7), .lit (.int .u8 26), .lit (.int .u8 12), .lit (.int .u8 18), .lit (.int .u8 6), .lit (.int .u8 11), .lit (.int .u8 5), .lit (.int .u8 10), .lit (.int .u8 9)]
def laid_math_bits_deBruijn64tab {H : Type} : DataW H := .agg [.lit (.int .u8 0), .lit (.int .u8 1), .lit (.int .u8 56), .lit (.int .u8 2), .lit (.int .u8 57), .lit (.int .u8 49), .lit (.int .u8 28), .lit (.int .u8 3), .lit (.int .u8 61), .lit (.int .u8 58), .lit (.int .u8 42), .lit (.int .u8 50), .lit (.int .u8 38), .lit (.int .u8 29), .lit (.int .u8 17), .lit (.int .u8 4), .lit (.int .u8 62), .lit (.int .u8 47), .lit (.int .u8 59), .lit (.int .u8 36), .lit (.int .u8 45), .lit (.int .u8 43), .lit (.int .u8 51), .lit (.int .u8 22), .lit (.int .u8 53), .lit (.int .u8 39), .lit (.int .u8 33), .lit (.int .u8 30), .lit (.int .u8 24), .lit (.int .u8 18), .lit (.int .u8 12), .lit (.int .u8 5), .lit (.int .u8 63), .lit (.int .u8 55), .lit (.int .u8 48), .lit (.int .u8 27), .lit (.int .u8 60), .lit (.int .u8 41), .lit (.int .u8 37), .lit (.int .u8 16), .lit (.int .u8 46), .lit (.int .u8 35), .lit (.int .u8 44), .lit (.int .u8 21), .lit (.int .u8 52), .lit (.int .u8 32), .lit (.int .u8 23), .lit (.int .u8 11), .lit (.int .u8 54), .lit (.int .u8 26), .lit (.int .u8 40), .lit (.int .u8 15), .lit (.int .u8 34), .lit (.int .u8 20), .lit (.int .u8 31), .lit (.int .u8 10), .lit (.int .u8 25), .lit (.int .u8 14), .lit (.int .u8 19), .lit (.int .u8 9), .lit (.int .u8 13), .lit (.int .u8 8), .lit (.int .u8 7), .lit (.int .u8 6)]
def laid_internal_strconv_uint64pow10 {H : Type} : DataW H := .agg [.lit (.int .u64 1), .lit (.int .u64 10), .lit (.int .u64 100), .lit (.int .u64 1000), .lit (.int .u64 10000), .lit (.int .u64 100000), .lit (.int .u64 1000000), .lit (.int .u64 10000000), .lit (.int .u64 100000000), .lit (.int .u64 1000000000), .lit (.int .u64 10000000000), .lit (.int .u64 100000000000), .lit (.int .u64 1000000000000), .lit (.int .u64 10000000000000), .lit (.int .u64 100000000000000), .lit (.int .u64 1000000000000000), .lit (.int .u64 10000000000000000), .lit (.int .u64 100000000000000000), .lit (.int .u64 1000000000000000000), .lit (.int .u64 10000000000000000000)]
def laid_strconv_ErrRange {H : Type} : DataW H := .iface "*errors.errorString" (.ptr (.agg [.lit (.string [118, 97, 108, 117, 101, 32, 111, 117, 116, 32, 111, 102, 32, 114, 97, 110, 103, 101])]))
def laid_strconv_ErrSyntax {H : Type} : DataW H := .iface "*errors.errorString" (.ptr (.agg [.lit (.string [105, 110, 118, 97, 108, 105, 100, 32, 115, 121, 110, 116, 97, 120])]))

/-- 'paraphrastlaw02.FormulaBlanks': WHATEVER THE INPUT: true; the input reads as it did. -/
def formulaBlanksSpec : ChangeSpec := { name := "formulaBlanks", fn := fun _ => fun
  | [d1, d2] => { results := [.lit (.bool true)], args := [d1, d2] }
  | _ => none }
def formulaBlanksRow : OpenClaim := { program := "ytadnnijdbcdkjaagreatdoor", sum := "65dd61ef1f3d7cce70aab7500fb77f6e2987c017f60c31c94e1f33a3ebe1092f", func := "paraphrast/paraphrastlaw02.FormulaBlanks", spec := "formulaBlanks", unfollowed := true, recurses := true, named := ["strconv.ErrSyntax", "strconv.ErrRange", "internal/strconv.uint64pow10", "math/bits.deBruijn32tab", "math/bits.deBruijn64tab"], apart := false, laid := [("math/bits.deBruijn32tab", laid_math_bits_deBruijn32tab), ("math/bits.deBruijn64tab", laid_math_bits_deBruijn64tab), ("internal/strconv.uint64pow10", laid_internal_strconv_uint64pow10), ("strconv.ErrRange", laid_strconv_ErrRange), ("strconv.ErrSyntax", laid_strconv_ErrSyntax)] }
def FormulaBlanksSaid : Prop := formulaBlanksRow.holds Tryz.pinned (OpenSpec.ofChange formulaBlanksSpec)

/-- ITS FALSE NEIGHBOUR: 'it returns false'. Refute it at one input. -/
def formulaBlanksWrong : ChangeSpec := { name := "formulaBlanks", fn := fun _ => fun
  | [d1, d2] => { results := [.lit (.bool false)], args := [d1, d2] }
  | _ => none }
def FormulaBlanksWrongFalsely : Prop := formulaBlanksRow.holds Tryz.pinned (OpenSpec.ofChange formulaBlanksWrong)

/-- 'paraphrastlaw02.FormulaFirst': WHATEVER THE INPUT: true; the input reads as it did. -/
def formulaFirstSpec : ChangeSpec := { name := "formulaFirst", fn := fun _ => fun
  | [d1, d2] => { results := [.lit (.bool true)], args := [d1, d2] }
  | _ => none }
def formulaFirstRow : OpenClaim := { program := "ytadnnijdbcdkjaagreatdoor", sum := "65dd61ef1f3d7cce70aab7500fb77f6e2987c017f60c31c94e1f33a3ebe1092f", func := "paraphrast/paraphrastlaw02.FormulaFirst", spec := "formulaFirst", unfollowed := true, recurses := true, named := ["strconv.ErrSyntax", "strconv.ErrRange", "internal/strconv.uint64pow10", "math/bits.deBruijn32tab", "math/bits.deBruijn64tab"], apart := false, laid := [("math/bits.deBruijn32tab", laid_math_bits_deBruijn32tab), ("math/bits.deBruijn64tab", laid_math_bits_deBruijn64tab), ("internal/strconv.uint64pow10", laid_internal_strconv_uint64pow10), ("strconv.ErrRange", laid_strconv_ErrRange), ("strconv.ErrSyntax", laid_strconv_ErrSyntax)] }
def FormulaFirstSaid : Prop := formulaFirstRow.holds Tryz.pinned (OpenSpec.ofChange formulaFirstSpec)

/-- ITS FALSE NEIGHBOUR: 'it returns false'. Refute it at one input. -/
def formulaFirstWrong : ChangeSpec := { name := "formulaFirst", fn := fun _ => fun
  | [d1, d2] => { results := [.lit (.bool false)], args := [d1, d2] }
  | _ => none }
def FormulaFirstWrongFalsely : Prop := formulaFirstRow.holds Tryz.pinned (OpenSpec.ofChange formulaFirstWrong)

/-- 'paraphrastlaw02.FormulaFree': WHATEVER THE INPUT: true; the input reads as it did. -/
def formulaFreeSpec : ChangeSpec := { name := "formulaFree", fn := fun _ => fun
  | [d] => { results := [.lit (.bool true)], args := [d] }
  | _ => none }
def formulaFreeRow : OpenClaim := { program := "ytadnnijdbcdkjaagreatdoor", sum := "65dd61ef1f3d7cce70aab7500fb77f6e2987c017f60c31c94e1f33a3ebe1092f", func := "paraphrast/paraphrastlaw02.FormulaFree", spec := "formulaFree", unfollowed := true, recurses := true, named := ["strconv.ErrSyntax", "strconv.ErrRange", "internal/strconv.uint64pow10", "math/bits.deBruijn32tab", "math/bits.deBruijn64tab"], loops := true, apart := false, laid := [("math/bits.deBruijn32tab", laid_math_bits_deBruijn32tab), ("math/bits.deBruijn64tab", laid_math_bits_deBruijn64tab), ("internal/strconv.uint64pow10", laid_internal_strconv_uint64pow10), ("strconv.ErrRange", laid_strconv_ErrRange), ("strconv.ErrSyntax", laid_strconv_ErrSyntax)] }
def FormulaFreeSaid : Prop := formulaFreeRow.holds Tryz.pinned (OpenSpec.ofChange formulaFreeSpec)

/-- ITS FALSE NEIGHBOUR: 'it returns false'. Refute it at one input. -/
def formulaFreeWrong : ChangeSpec := { name := "formulaFree", fn := fun _ => fun
  | [d] => { results := [.lit (.bool false)], args := [d] }
  | _ => none }
def FormulaFreeWrongFalsely : Prop := formulaFreeRow.holds Tryz.pinned (OpenSpec.ofChange formulaFreeWrong)

/-- 'paraphrastlaw02.FormulaPositives': WHATEVER THE INPUT: true; the input reads as it did. -/
def formulaPositivesSpec : ChangeSpec := { name := "formulaPositives", fn := fun _ => fun
  | [d1, d2] => { results := [.lit (.bool true)], args := [d1, d2] }
  | _ => none }
def formulaPositivesRow : OpenClaim := { program := "ytadnnijdbcdkjaagreatdoor", sum := "65dd61ef1f3d7cce70aab7500fb77f6e2987c017f60c31c94e1f33a3ebe1092f", func := "paraphrast/paraphrastlaw02.FormulaPositives", spec := "formulaPositives", unfollowed := true, recurses := true, named := ["strconv.ErrSyntax", "strconv.ErrRange", "internal/strconv.uint64pow10", "math/bits.deBruijn32tab", "math/bits.deBruijn64tab"], loops := true, apart := false, laid := [("math/bits.deBruijn32tab", laid_math_bits_deBruijn32tab), ("math/bits.deBruijn64tab", laid_math_bits_deBruijn64tab), ("internal/strconv.uint64pow10", laid_internal_strconv_uint64pow10), ("strconv.ErrRange", laid_strconv_ErrRange), ("strconv.ErrSyntax", laid_strconv_ErrSyntax)] }
def FormulaPositivesSaid : Prop := formulaPositivesRow.holds Tryz.pinned (OpenSpec.ofChange formulaPositivesSpec)

/-- ITS FALSE NEIGHBOUR: 'it returns false'. Refute it at one input. -/
def formulaPositivesWrong : ChangeSpec := { name := "formulaPositives", fn := fun _ => fun
  | [d1, d2] => { results := [.lit (.bool false)], args := [d1, d2] }
  | _ => none }
def FormulaPositivesWrongFalsely : Prop := formulaPositivesRow.holds Tryz.pinned (OpenSpec.ofChange formulaPositivesWrong)

/-- 'paraphrastlaw02.FormulaValid': WHATEVER THE INPUT: true; the input reads as it did. -/
def formulaValidSpec : ChangeSpec := { name := "formulaValid", fn := fun _ => fun
  | [d1, d2] => { results := [.lit (.bool true)], args := [d1, d2] }
  | _ => none }
def formulaValidRow : OpenClaim := { program := "ytadnnijdbcdkjaagreatdoor", sum := "65dd61ef1f3d7cce70aab7500fb77f6e2987c017f60c31c94e1f33a3ebe1092f", func := "paraphrast/paraphrastlaw02.FormulaValid", spec := "formulaValid", unfollowed := true, recurses := true, named := ["strconv.ErrSyntax", "strconv.ErrRange", "internal/strconv.uint64pow10", "math/bits.deBruijn32tab", "math/bits.deBruijn64tab"], loops := true, apart := false, laid := [("math/bits.deBruijn32tab", laid_math_bits_deBruijn32tab), ("math/bits.deBruijn64tab", laid_math_bits_deBruijn64tab), ("internal/strconv.uint64pow10", laid_internal_strconv_uint64pow10), ("strconv.ErrRange", laid_strconv_ErrRange), ("strconv.ErrSyntax", laid_strconv_ErrSyntax)] }
def FormulaValidSaid : Prop := formulaValidRow.holds Tryz.pinned (OpenSpec.ofChange formulaValidSpec)

/-- ITS FALSE NEIGHBOUR: 'it returns false'. Refute it at one input. -/
def formulaValidWrong : ChangeSpec := { name := "formulaValid", fn := fun _ => fun
  | [d1, d2] => { results := [.lit (.bool false)], args := [d1, d2] }
  | _ => none }
def FormulaValidWrongFalsely : Prop := formulaValidRow.holds Tryz.pinned (OpenSpec.ofChange formulaValidWrong)

/-- 'paraphrastlaw02.FormulaPositive': WHATEVER THE INPUT: true; the input reads as it did. -/
def formulaPositiveSpec : ChangeSpec := { name := "formulaPositive", fn := fun _ => fun
  | [d1, d2] => { results := [.lit (.bool true)], args := [d1, d2] }
  | _ => none }
def formulaPositiveRow : OpenClaim := { program := "ytadnnijdbcdkjaagreatdoor", sum := "65dd61ef1f3d7cce70aab7500fb77f6e2987c017f60c31c94e1f33a3ebe1092f", func := "paraphrast/paraphrastlaw02.FormulaPositive", spec := "formulaPositive", unfollowed := true, recurses := true, named := ["strconv.ErrSyntax", "strconv.ErrRange", "internal/strconv.uint64pow10", "math/bits.deBruijn32tab", "math/bits.deBruijn64tab"], loops := true, apart := false, laid := [("math/bits.deBruijn32tab", laid_math_bits_deBruijn32tab), ("math/bits.deBruijn64tab", laid_math_bits_deBruijn64tab), ("internal/strconv.uint64pow10", laid_internal_strconv_uint64pow10), ("strconv.ErrRange", laid_strconv_ErrRange), ("strconv.ErrSyntax", laid_strconv_ErrSyntax)] }
def FormulaPositiveSaid : Prop := formulaPositiveRow.holds Tryz.pinned (OpenSpec.ofChange formulaPositiveSpec)

/-- ITS FALSE NEIGHBOUR: 'it returns false'. Refute it at one input. -/
def formulaPositiveWrong : ChangeSpec := { name := "formulaPositive", fn := fun _ => fun
  | [d1, d2] => { results := [.lit (.bool false)], args := [d1, d2] }
  | _ => none }
def FormulaPositiveWrongFalsely : Prop := formulaPositiveRow.holds Tryz.pinned (OpenSpec.ofChange formulaPositiveWrong)

/-- 'paraphrastlaw02.FormulaSames': WHATEVER THE INPUT: true; the input reads as it did. -/
def formulaSamesSpec : ChangeSpec := { name := "formulaSames", fn := fun _ => fun
  | [d1, d2] => { results := [.lit (.bool true)], args := [d1, d2] }
  | _ => none }
def formulaSamesRow : OpenClaim := { program := "ytadnnijdbcdkjaagreatdoor", sum := "65dd61ef1f3d7cce70aab7500fb77f6e2987c017f60c31c94e1f33a3ebe1092f", func := "paraphrast/paraphrastlaw02.FormulaSames", spec := "formulaSames", unfollowed := true, recurses := true, named := ["strconv.ErrSyntax", "strconv.ErrRange", "internal/strconv.uint64pow10", "math/bits.deBruijn32tab", "math/bits.deBruijn64tab"], loops := true, apart := false, laid := [("math/bits.deBruijn32tab", laid_math_bits_deBruijn32tab), ("math/bits.deBruijn64tab", laid_math_bits_deBruijn64tab), ("internal/strconv.uint64pow10", laid_internal_strconv_uint64pow10), ("strconv.ErrRange", laid_strconv_ErrRange), ("strconv.ErrSyntax", laid_strconv_ErrSyntax)] }
def FormulaSamesSaid : Prop := formulaSamesRow.holds Tryz.pinned (OpenSpec.ofChange formulaSamesSpec)

/-- ITS FALSE NEIGHBOUR: 'it returns false'. Refute it at one input. -/
def formulaSamesWrong : ChangeSpec := { name := "formulaSames", fn := fun _ => fun
  | [d1, d2] => { results := [.lit (.bool false)], args := [d1, d2] }
  | _ => none }
def FormulaSamesWrongFalsely : Prop := formulaSamesRow.holds Tryz.pinned (OpenSpec.ofChange formulaSamesWrong)

/-- 'paraphrastlaw02.FormulaTexts': WHATEVER THE INPUT: true; the input reads as it did. -/
def formulaTextsSpec : ChangeSpec := { name := "formulaTexts", fn := fun _ => fun
  | [d] => { results := [.lit (.bool true)], args := [d] }
  | _ => none }
def formulaTextsRow : OpenClaim := { program := "ytadnnijdbcdkjaagreatdoor", sum := "65dd61ef1f3d7cce70aab7500fb77f6e2987c017f60c31c94e1f33a3ebe1092f", func := "paraphrast/paraphrastlaw02.FormulaTexts", spec := "formulaTexts", inPlace := ["internal/abi.NoEscape", "internal/bytealg.MakeNoZero"], unfollowed := true, recurses := true, named := ["strconv.ErrSyntax", "strconv.ErrRange", "internal/strconv.uint64pow10", "math/bits.deBruijn32tab", "math/bits.deBruijn64tab"], loops := true, apart := false, laid := [("math/bits.deBruijn32tab", laid_math_bits_deBruijn32tab), ("math/bits.deBruijn64tab", laid_math_bits_deBruijn64tab), ("internal/strconv.uint64pow10", laid_internal_strconv_uint64pow10), ("strconv.ErrRange", laid_strconv_ErrRange), ("strconv.ErrSyntax", laid_strconv_ErrSyntax)] }
def FormulaTextsSaid : Prop := formulaTextsRow.holds Tryz.pinned (OpenSpec.ofChange formulaTextsSpec)

/-- ITS FALSE NEIGHBOUR: 'it returns false'. Refute it at one input. -/
def formulaTextsWrong : ChangeSpec := { name := "formulaTexts", fn := fun _ => fun
  | [d] => { results := [.lit (.bool false)], args := [d] }
  | _ => none }
def FormulaTextsWrongFalsely : Prop := formulaTextsRow.holds Tryz.pinned (OpenSpec.ofChange formulaTextsWrong)

/-- 'paraphrastlaw02.FormulaBack': WHATEVER THE INPUT: true; the input reads as it did. -/
def formulaBackSpec : ChangeSpec := { name := "formulaBack", fn := fun _ => fun
  | [d1, d2] => { results := [.lit (.bool true)], args := [d1, d2] }
  | _ => none }
def formulaBackRow : OpenClaim := { program := "ytadnnijdbcdkjaagreatdoor", sum := "65dd61ef1f3d7cce70aab7500fb77f6e2987c017f60c31c94e1f33a3ebe1092f", func := "paraphrast/paraphrastlaw02.FormulaBack", spec := "formulaBack", inPlace := ["internal/abi.NoEscape", "internal/bytealg.MakeNoZero"], unfollowed := true, recurses := true, named := ["strconv.ErrSyntax", "strconv.ErrRange", "internal/strconv.uint64pow10", "math/bits.deBruijn32tab", "math/bits.deBruijn64tab"], loops := true, apart := false, laid := [("math/bits.deBruijn32tab", laid_math_bits_deBruijn32tab), ("math/bits.deBruijn64tab", laid_math_bits_deBruijn64tab), ("internal/strconv.uint64pow10", laid_internal_strconv_uint64pow10), ("strconv.ErrRange", laid_strconv_ErrRange), ("strconv.ErrSyntax", laid_strconv_ErrSyntax)] }
def FormulaBackSaid : Prop := formulaBackRow.holds Tryz.pinned (OpenSpec.ofChange formulaBackSpec)

/-- ITS FALSE NEIGHBOUR: 'it returns false'. Refute it at one input. -/
def formulaBackWrong : ChangeSpec := { name := "formulaBack", fn := fun _ => fun
  | [d1, d2] => { results := [.lit (.bool false)], args := [d1, d2] }
  | _ => none }
def FormulaBackWrongFalsely : Prop := formulaBackRow.holds Tryz.pinned (OpenSpec.ofChange formulaBackWrong)

/-- 'paraphrastlaw02.FormulaOwn': WHATEVER THE INPUT: true; the input reads as it did. -/
def formulaOwnSpec : ChangeSpec := { name := "formulaOwn", fn := fun _ => fun
  | [d1, d2] => { results := [.lit (.bool true)], args := [d1, d2] }
  | _ => none }
def formulaOwnRow : OpenClaim := { program := "ytadnnijdbcdkjaagreatdoor", sum := "65dd61ef1f3d7cce70aab7500fb77f6e2987c017f60c31c94e1f33a3ebe1092f", func := "paraphrast/paraphrastlaw02.FormulaOwn", spec := "formulaOwn", inPlace := ["internal/abi.NoEscape", "internal/bytealg.MakeNoZero"], unfollowed := true, recurses := true, named := ["strconv.ErrSyntax", "strconv.ErrRange", "internal/strconv.uint64pow10", "math/bits.deBruijn32tab", "math/bits.deBruijn64tab"], loops := true, apart := false, laid := [("math/bits.deBruijn32tab", laid_math_bits_deBruijn32tab), ("math/bits.deBruijn64tab", laid_math_bits_deBruijn64tab), ("internal/strconv.uint64pow10", laid_internal_strconv_uint64pow10), ("strconv.ErrRange", laid_strconv_ErrRange), ("strconv.ErrSyntax", laid_strconv_ErrSyntax)] }
def FormulaOwnSaid : Prop := formulaOwnRow.holds Tryz.pinned (OpenSpec.ofChange formulaOwnSpec)

/-- ITS FALSE NEIGHBOUR: 'it returns false'. Refute it at one input. -/
def formulaOwnWrong : ChangeSpec := { name := "formulaOwn", fn := fun _ => fun
  | [d1, d2] => { results := [.lit (.bool false)], args := [d1, d2] }
  | _ => none }
def FormulaOwnWrongFalsely : Prop := formulaOwnRow.holds Tryz.pinned (OpenSpec.ofChange formulaOwnWrong)

/- THE SECOND FORM. 'bulk': how many values and letters a reading holds, each counted each time it is reached (what is shared counts as often as it is met; a slice's spare places count too). A statement '..UptoSaid' is the law's where the arguments, and the package variables that the reading takes, are together of bulk at most 1048576: NARROWER than '..Said'. Prove '..Said' where nothing that the law and all that it calls make is longer than what came in: it says more and counts as full. Else prove '..UptoSaid'. A law counts once. -/
mutual
def uptoBulk {H : Type} : DataW H → Nat
  | .lit (.string bytes) => bytes.length + 1
  | .lit _ => 1
  | .nil => 1
  | .ptr d => uptoBulk d + 1
  | .slice elems spare => uptoBulkAll elems + uptoBulkAll spare + 1
  | .agg parts => uptoBulkAll parts + 1
  | .iface _ d => uptoBulk d + 1
  | .map entries => uptoBulkEntries entries + 1
  | .held _ => 1
def uptoBulkAll {H : Type} : List (DataW H) → Nat
  | [] => 0
  | d :: r => uptoBulk d + uptoBulkAll r
def uptoBulkEntries {H : Type} : List (Lit × DataW H) → Nat
  | [] => 0
  | x :: r => uptoBulkEntry x + uptoBulkEntries r
def uptoBulkEntry {H : Type} : Lit × DataW H → Nat
  | (.string bytes, d) => bytes.length + uptoBulk d + 1
  | (_, d) => uptoBulk d + 1
 end
def uptoSmall : (H : Type) → List (DataW H) → Bool := fun _ ds => decide (uptoBulkAll ds ≤ 1048576)
def OpenSpec.upto (s : _root_.Go.ChangeSpec) : _root_.Go.OpenSpec := { _root_.Go.OpenSpec.ofChange s with cond := some uptoSmall }

/-- 'paraphrastlaw02.FormulaBlanks', WHERE WHAT IT READS IS OF BULK AT MOST 1048576: true; the input reads as it did. -/
def formulaBlanksUptoRow : OpenClaim := { program := "ytadnnijdbcdkjaagreatdoor", sum := "65dd61ef1f3d7cce70aab7500fb77f6e2987c017f60c31c94e1f33a3ebe1092f", func := "paraphrast/paraphrastlaw02.FormulaBlanks", spec := "formulaBlanks", unfollowed := true, recurses := true, named := ["strconv.ErrSyntax", "strconv.ErrRange", "internal/strconv.uint64pow10", "math/bits.deBruijn32tab", "math/bits.deBruijn64tab"], apart := false, laid := [("math/bits.deBruijn32tab", laid_math_bits_deBruijn32tab), ("math/bits.deBruijn64tab", laid_math_bits_deBruijn64tab), ("internal/strconv.uint64pow10", laid_internal_strconv_uint64pow10), ("strconv.ErrRange", laid_strconv_ErrRange), ("strconv.ErrSyntax", laid_strconv_ErrSyntax)], narrowed := true }
def FormulaBlanksUptoSaid : Prop := formulaBlanksUptoRow.holds Tryz.pinned (OpenSpec.upto formulaBlanksSpec)

/-- 'paraphrastlaw02.FormulaFirst', WHERE WHAT IT READS IS OF BULK AT MOST 1048576: true; the input reads as it did. -/
def formulaFirstUptoRow : OpenClaim := { program := "ytadnnijdbcdkjaagreatdoor", sum := "65dd61ef1f3d7cce70aab7500fb77f6e2987c017f60c31c94e1f33a3ebe1092f", func := "paraphrast/paraphrastlaw02.FormulaFirst", spec := "formulaFirst", unfollowed := true, recurses := true, named := ["strconv.ErrSyntax", "strconv.ErrRange", "internal/strconv.uint64pow10", "math/bits.deBruijn32tab", "math/bits.deBruijn64tab"], apart := false, laid := [("math/bits.deBruijn32tab", laid_math_bits_deBruijn32tab), ("math/bits.deBruijn64tab", laid_math_bits_deBruijn64tab), ("internal/strconv.uint64pow10", laid_internal_strconv_uint64pow10), ("strconv.ErrRange", laid_strconv_ErrRange), ("strconv.ErrSyntax", laid_strconv_ErrSyntax)], narrowed := true }
def FormulaFirstUptoSaid : Prop := formulaFirstUptoRow.holds Tryz.pinned (OpenSpec.upto formulaFirstSpec)

/-- 'paraphrastlaw02.FormulaFree', WHERE WHAT IT READS IS OF BULK AT MOST 1048576: true; the input reads as it did. -/
def formulaFreeUptoRow : OpenClaim := { program := "ytadnnijdbcdkjaagreatdoor", sum := "65dd61ef1f3d7cce70aab7500fb77f6e2987c017f60c31c94e1f33a3ebe1092f", func := "paraphrast/paraphrastlaw02.FormulaFree", spec := "formulaFree", unfollowed := true, recurses := true, named := ["strconv.ErrSyntax", "strconv.ErrRange", "internal/strconv.uint64pow10", "math/bits.deBruijn32tab", "math/bits.deBruijn64tab"], loops := true, apart := false, laid := [("math/bits.deBruijn32tab", laid_math_bits_deBruijn32tab), ("math/bits.deBruijn64tab", laid_math_bits_deBruijn64tab), ("internal/strconv.uint64pow10", laid_internal_strconv_uint64pow10), ("strconv.ErrRange", laid_strconv_ErrRange), ("strconv.ErrSyntax", laid_strconv_ErrSyntax)], narrowed := true }
def FormulaFreeUptoSaid : Prop := formulaFreeUptoRow.holds Tryz.pinned (OpenSpec.upto formulaFreeSpec)

/-- 'paraphrastlaw02.FormulaPositives', WHERE WHAT IT READS IS OF BULK AT MOST 1048576: true; the input reads as it did. -/
def formulaPositivesUptoRow : OpenClaim := { program := "ytadnnijdbcdkjaagreatdoor", sum := "65dd61ef1f3d7cce70aab7500fb77f6e2987c017f60c31c94e1f33a3ebe1092f", func := "paraphrast/paraphrastlaw02.FormulaPositives", spec := "formulaPositives", unfollowed := true, recurses := true, named := ["strconv.ErrSyntax", "strconv.ErrRange", "internal/strconv.uint64pow10", "math/bits.deBruijn32tab", "math/bits.deBruijn64tab"], loops := true, apart := false, laid := [("math/bits.deBruijn32tab", laid_math_bits_deBruijn32tab), ("math/bits.deBruijn64tab", laid_math_bits_deBruijn64tab), ("internal/strconv.uint64pow10", laid_internal_strconv_uint64pow10), ("strconv.ErrRange", laid_strconv_ErrRange), ("strconv.ErrSyntax", laid_strconv_ErrSyntax)], narrowed := true }
def FormulaPositivesUptoSaid : Prop := formulaPositivesUptoRow.holds Tryz.pinned (OpenSpec.upto formulaPositivesSpec)

/-- 'paraphrastlaw02.FormulaValid', WHERE WHAT IT READS IS OF BULK AT MOST 1048576: true; the input reads as it did. -/
def formulaValidUptoRow : OpenClaim := { program := "ytadnnijdbcdkjaagreatdoor", sum := "65dd61ef1f3d7cce70aab7500fb77f6e2987c017f60c31c94e1f33a3ebe1092f", func := "paraphrast/paraphrastlaw02.FormulaValid", spec := "formulaValid", unfollowed := true, recurses := true, named := ["strconv.ErrSyntax", "strconv.ErrRange", "internal/strconv.uint64pow10", "math/bits.deBruijn32tab", "math/bits.deBruijn64tab"], loops := true, apart := false, laid := [("math/bits.deBruijn32tab", laid_math_bits_deBruijn32tab), ("math/bits.deBruijn64tab", laid_math_bits_deBruijn64tab), ("internal/strconv.uint64pow10", laid_internal_strconv_uint64pow10), ("strconv.ErrRange", laid_strconv_ErrRange), ("strconv.ErrSyntax", laid_strconv_ErrSyntax)], narrowed := true }
def FormulaValidUptoSaid : Prop := formulaValidUptoRow.holds Tryz.pinned (OpenSpec.upto formulaValidSpec)

/-- 'paraphrastlaw02.FormulaPositive', WHERE WHAT IT READS IS OF BULK AT MOST 1048576: true; the input reads as it did. -/
def formulaPositiveUptoRow : OpenClaim := { program := "ytadnnijdbcdkjaagreatdoor", sum := "65dd61ef1f3d7cce70aab7500fb77f6e2987c017f60c31c94e1f33a3ebe1092f", func := "paraphrast/paraphrastlaw02.FormulaPositive", spec := "formulaPositive", unfollowed := true, recurses := true, named := ["strconv.ErrSyntax", "strconv.ErrRange", "internal/strconv.uint64pow10", "math/bits.deBruijn32tab", "math/bits.deBruijn64tab"], loops := true, apart := false, laid := [("math/bits.deBruijn32tab", laid_math_bits_deBruijn32tab), ("math/bits.deBruijn64tab", laid_math_bits_deBruijn64tab), ("internal/strconv.uint64pow10", laid_internal_strconv_uint64pow10), ("strconv.ErrRange", laid_strconv_ErrRange), ("strconv.ErrSyntax", laid_strconv_ErrSyntax)], narrowed := true }
def FormulaPositiveUptoSaid : Prop := formulaPositiveUptoRow.holds Tryz.pinned (OpenSpec.upto formulaPositiveSpec)

/-- 'paraphrastlaw02.FormulaSames', WHERE WHAT IT READS IS OF BULK AT MOST 1048576: true; the input reads as it did. -/
def formulaSamesUptoRow : OpenClaim := { program := "ytadnnijdbcdkjaagreatdoor", sum := "65dd61ef1f3d7cce70aab7500fb77f6e2987c017f60c31c94e1f33a3ebe1092f", func := "paraphrast/paraphrastlaw02.FormulaSames", spec := "formulaSames", unfollowed := true, recurses := true, named := ["strconv.ErrSyntax", "strconv.ErrRange", "internal/strconv.uint64pow10", "math/bits.deBruijn32tab", "math/bits.deBruijn64tab"], loops := true, apart := false, laid := [("math/bits.deBruijn32tab", laid_math_bits_deBruijn32tab), ("math/bits.deBruijn64tab", laid_math_bits_deBruijn64tab), ("internal/strconv.uint64pow10", laid_internal_strconv_uint64pow10), ("strconv.ErrRange", laid_strconv_ErrRange), ("strconv.ErrSyntax", laid_strconv_ErrSyntax)], narrowed := true }
def FormulaSamesUptoSaid : Prop := formulaSamesUptoRow.holds Tryz.pinned (OpenSpec.upto formulaSamesSpec)

/-- 'paraphrastlaw02.FormulaTexts', WHERE WHAT IT READS IS OF BULK AT MOST 1048576: true; the input reads as it did. -/
def formulaTextsUptoRow : OpenClaim := { program := "ytadnnijdbcdkjaagreatdoor", sum := "65dd61ef1f3d7cce70aab7500fb77f6e2987c017f60c31c94e1f33a3ebe1092f", func := "paraphrast/paraphrastlaw02.FormulaTexts", spec := "formulaTexts", inPlace := ["internal/abi.NoEscape", "internal/bytealg.MakeNoZero"], unfollowed := true, recurses := true, named := ["strconv.ErrSyntax", "strconv.ErrRange", "internal/strconv.uint64pow10", "math/bits.deBruijn32tab", "math/bits.deBruijn64tab"], loops := true, apart := false, laid := [("math/bits.deBruijn32tab", laid_math_bits_deBruijn32tab), ("math/bits.deBruijn64tab", laid_math_bits_deBruijn64tab), ("internal/strconv.uint64pow10", laid_internal_strconv_uint64pow10), ("strconv.ErrRange", laid_strconv_ErrRange), ("strconv.ErrSyntax", laid_strconv_ErrSyntax)], narrowed := true }
def FormulaTextsUptoSaid : Prop := formulaTextsUptoRow.holds Tryz.pinned (OpenSpec.upto formulaTextsSpec)

/-- 'paraphrastlaw02.FormulaBack', WHERE WHAT IT READS IS OF BULK AT MOST 1048576: true; the input reads as it did. -/
def formulaBackUptoRow : OpenClaim := { program := "ytadnnijdbcdkjaagreatdoor", sum := "65dd61ef1f3d7cce70aab7500fb77f6e2987c017f60c31c94e1f33a3ebe1092f", func := "paraphrast/paraphrastlaw02.FormulaBack", spec := "formulaBack", inPlace := ["internal/abi.NoEscape", "internal/bytealg.MakeNoZero"], unfollowed := true, recurses := true, named := ["strconv.ErrSyntax", "strconv.ErrRange", "internal/strconv.uint64pow10", "math/bits.deBruijn32tab", "math/bits.deBruijn64tab"], loops := true, apart := false, laid := [("math/bits.deBruijn32tab", laid_math_bits_deBruijn32tab), ("math/bits.deBruijn64tab", laid_math_bits_deBruijn64tab), ("internal/strconv.uint64pow10", laid_internal_strconv_uint64pow10), ("strconv.ErrRange", laid_strconv_ErrRange), ("strconv.ErrSyntax", laid_strconv_ErrSyntax)], narrowed := true }
def FormulaBackUptoSaid : Prop := formulaBackUptoRow.holds Tryz.pinned (OpenSpec.upto formulaBackSpec)

/-- 'paraphrastlaw02.FormulaOwn', WHERE WHAT IT READS IS OF BULK AT MOST 1048576: true; the input reads as it did. -/
def formulaOwnUptoRow : OpenClaim := { program := "ytadnnijdbcdkjaagreatdoor", sum := "65dd61ef1f3d7cce70aab7500fb77f6e2987c017f60c31c94e1f33a3ebe1092f", func := "paraphrast/paraphrastlaw02.FormulaOwn", spec := "formulaOwn", inPlace := ["internal/abi.NoEscape", "internal/bytealg.MakeNoZero"], unfollowed := true, recurses := true, named := ["strconv.ErrSyntax", "strconv.ErrRange", "internal/strconv.uint64pow10", "math/bits.deBruijn32tab", "math/bits.deBruijn64tab"], loops := true, apart := false, laid := [("math/bits.deBruijn32tab", laid_math_bits_deBruijn32tab), ("math/bits.deBruijn64tab", laid_math_bits_deBruijn64tab), ("internal/strconv.uint64pow10", laid_internal_strconv_uint64pow10), ("strconv.ErrRange", laid_strconv_ErrRange), ("strconv.ErrSyntax", laid_strconv_ErrSyntax)], narrowed := true }
def FormulaOwnUptoSaid : Prop := formulaOwnUptoRow.holds Tryz.pinned (OpenSpec.upto formulaOwnSpec)

end Rows
end Go.Proofs.YtadnnijdbcdkjaaGreatDoor
