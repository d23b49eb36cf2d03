/-
  NARROWER THAN 'FOR EVERY INPUT', by the rows' own cells (each row's printed sentence says how): AttrTells: laid · AttrOrder: laid · AttrBest: laid · AttrPrints: laid · AttrLonger: laid · AttrWrong: laid · AttrKinds: laid · AttrFirst: laid.
  DERIVED. THE GIVEN ROWS OF THIS SEAT. 8 by the template 'for every input the law returns true; each argument reads behind the call as it read before'; 0 by the template 'total and deterministic' (their statements: YtmioaanbehacgaaDoorTotals.lean).
  GIVEN WITH THE SEED: the statements are not yours to turn. If you find one false, say at which input.
  Laid BY PROGRAM, IN A SANDBOX (cutbox-rows.mjs): the forced cells as the released guide's own fill.sh prints them over the translation 4379b6e95e957a18… (all of the seat's roots in one cut). By AI agents, Wed Nov 11 2026. No macro, syntax, notation, axiom, sorry.
-/
import Derived.Test.YtmioaanbehacgaaDoorChecked
import GoSem.Claim
import GoSem.ClaimJoined
import GoSem.ClaimMapViews
import Derived.JoinedTies
import Derived.KernelRfl
namespace Go.Proofs.YtmioaanbehacgaaDoor
/- THE CELL 'sum', in the pinned program and in every row, IS THE sha256 OF THE DUMP (.gsa) THAT YtmioaanbehacgaaDoorProg.lean LOADS. Nothing in Lean hashes anything: it is a label: what it is worth is what the hold of that sum in a sandbox is worth. -/
noncomputable def Tryd.pinned : Pinned := { name := "ytmioaanbehacgaadoor", sum := "4379b6e95e957a187d279b5d6e75fb2d1ac4f395ae0fbe65ed9fa59cbc6bb423", checked := Tryd.checked }
namespace Rows
def none {H : Type} : Left H := { results := [], args := [] }

/- WHAT THE LISTED PACKAGE-LEVEL VARIABLES READ AS WHEN THE CALL BEGINS. Each datum BY PROGRAM (the guide's laid-datum.mjs) off the statement by which the dump's own 'gosem.cut.vars' lays the variable. In a bare row this is a premise. The card (YtmioaanbehacgaaDoorCards.lean) ties it to the program's text. -/
def laid_math_bits_deBruijn32tab {H : Type} : DataW H := .agg [.lit (.int .u8 0), .lit (.int .u8 1), .lit (.int .u8 28), .lit (.int .u8 2), .lit (.int .u8 29), .lit (.int .u8 14), .lit (.int .u8 24), .lit (.int .u8 3), .lit (.int .u8 30), .lit (.int .u8 22), .lit (.int .u8 20), .lit (.int .u8 15), .lit (.int .u8 25), .lit (.int .u8 17), .lit (.int .u8 4), .lit (.int .u8 8), .lit (.int .u8 31), .lit (.int .u8 27), .lit (.int .u8 13), .lit (.int .u8 23), .lit (.int .u8 21), .lit (.int .u8 19), .lit (.int .u8 16), .lit (.int .u8 7), .lit (.int .u8 26), .lit (.int .u8 12), .lit (.int .u8 18), .lit (.int .u8 6), .lit (.int .u8 11), .lit (.int .u8 5), .lit (.int .u8 10), .lit (.int .u8 9)]
def laid_math_bits_deBruijn64tab {H : Type} : DataW H := .agg [.lit (.int .u8 0), .lit (.int .u8 1), .lit (.int .u8 56), .lit (.int .u8 2), .lit (.int .u8 57), .lit (.int .u8 49), .lit (.int .u8 28), .lit (.int .u8 3), .lit (.int .u8 61), .lit (.int .u8 58), .lit (.int .u8 42), .lit (.int .u8 50), .lit (.int .u8 38), .lit (.int .u8 29), .lit (.int .u8 17), .lit (.int .u8 4), .lit (.int .u8 62), .lit (.int .u8 47), .lit (.int .u8 59), .lit (.int .u8 36), .lit (.int .u8 45), .lit (.int .u8 43), .lit (.int .u8 51), .lit (.int .u8 22), .lit (.int .u8 53), .lit (.int .u8 39), .lit (.int .u8 33), .lit (.int .u8 30), .lit (.int .u8 24), .lit (.int .u8 18), .lit (.int .u8 12), .lit (.int .u8 5), .lit (.int .u8 63), .lit (.int .u8 55), .lit (.int .u8 48), .lit (.int .u8 27), .lit (.int .u8 60), .lit (.int .u8 41), .lit (.int .u8 37), .lit (.int .u8 16), .lit (.int .u8 46), .lit (.int .u8 35), .lit (.int .u8 44), .lit (.int .u8 21), .lit (.int .u8 52), .lit (.int .u8 32), .lit (.int .u8 23), .lit (.int .u8 11), .lit (.int .u8 54), .lit (.int .u8 26), .lit (.int .u8 40), .lit (.int .u8 15), .lit (.int .u8 34), .lit (.int .u8 20), .lit (.int .u8 31), .lit (.int .u8 10), .lit (.int .u8 25), .lit (.int .u8 14), .lit (.int .u8 19), .lit (.int .u8 9), .lit (.int .u8 13), .lit (.int .u8 8), .lit (.int .u8 7), .lit (.int .u8 6)]
def laid_internal_strconv_uint64pow10 {H : Type} : DataW H := .agg [.lit (.int .u64 1), .lit (.int .u64 10), .lit (.int .u64 100), .lit (.int .u64 1000), .lit (.int .u64 10000), .lit (.int .u64 100000), .lit (.int .u64 1000000), .lit (.int .u64 10000000), .lit (.int .u64 100000000), .lit (.int .u64 1000000000), .lit (.int .u64 10000000000), .lit (.int .u64 100000000000), .lit (.int .u64 1000000000000), .lit (.int .u64 10000000000000), .lit (.int .u64 100000000000000), .lit (.int .u64 1000000000000000), .lit (.int .u64 10000000000000000), .lit (.int .u64 100000000000000000), .lit (.int .u64 1000000000000000000), .lit (.int .u64 10000000000000000000)]

/-- 'backstaylaw06.AttrTells': WHATEVER THE INPUT: true; the input reads as it did. -/
def attrTellsSpec : ChangeSpec := { name := "attrTells", fn := fun _ => fun
  | [d1, d2] => { results := [.lit (.bool true)], args := [d1, d2] }
  | _ => none }
def attrTellsRow : OpenClaim := { program := "ytmioaanbehacgaadoor", sum := "4379b6e95e957a187d279b5d6e75fb2d1ac4f395ae0fbe65ed9fa59cbc6bb423", func := "backstay/backstaylaw06.AttrTells", spec := "attrTells", inPlace := ["internal/abi.NoEscape", "internal/bytealg.MakeNoZero"], unfollowed := true, recurses := true, named := ["internal/strconv.uint64pow10", "math/bits.deBruijn32tab", "math/bits.deBruijn64tab"], apart := false, laid := [("math/bits.deBruijn32tab", laid_math_bits_deBruijn32tab), ("math/bits.deBruijn64tab", laid_math_bits_deBruijn64tab), ("internal/strconv.uint64pow10", laid_internal_strconv_uint64pow10)] }
def AttrTellsSaid : Prop := attrTellsRow.holds Tryd.pinned (OpenSpec.ofChange attrTellsSpec)

/-- ITS FALSE NEIGHBOUR: 'it returns false'. Refute it at one input. -/
def attrTellsWrong : ChangeSpec := { name := "attrTells", fn := fun _ => fun
  | [d1, d2] => { results := [.lit (.bool false)], args := [d1, d2] }
  | _ => none }
def AttrTellsWrongFalsely : Prop := attrTellsRow.holds Tryd.pinned (OpenSpec.ofChange attrTellsWrong)

/-- 'backstaylaw06.AttrOrder': WHATEVER THE INPUT: true; the input reads as it did. -/
def attrOrderSpec : ChangeSpec := { name := "attrOrder", fn := fun _ => fun
  | [d1, d2, d3] => { results := [.lit (.bool true)], args := [d1, d2, d3] }
  | _ => none }
def attrOrderRow : OpenClaim := { program := "ytmioaanbehacgaadoor", sum := "4379b6e95e957a187d279b5d6e75fb2d1ac4f395ae0fbe65ed9fa59cbc6bb423", func := "backstay/backstaylaw06.AttrOrder", spec := "attrOrder", inPlace := ["internal/abi.NoEscape", "internal/bytealg.MakeNoZero"], unfollowed := true, recurses := true, named := ["internal/strconv.uint64pow10", "math/bits.deBruijn32tab", "math/bits.deBruijn64tab"], apart := false, laid := [("math/bits.deBruijn32tab", laid_math_bits_deBruijn32tab), ("math/bits.deBruijn64tab", laid_math_bits_deBruijn64tab), ("internal/strconv.uint64pow10", laid_internal_strconv_uint64pow10)] }
def AttrOrderSaid : Prop := attrOrderRow.holds Tryd.pinned (OpenSpec.ofChange attrOrderSpec)

/-- ITS FALSE NEIGHBOUR: 'it returns false'. Refute it at one input. -/
def attrOrderWrong : ChangeSpec := { name := "attrOrder", fn := fun _ => fun
  | [d1, d2, d3] => { results := [.lit (.bool false)], args := [d1, d2, d3] }
  | _ => none }
def AttrOrderWrongFalsely : Prop := attrOrderRow.holds Tryd.pinned (OpenSpec.ofChange attrOrderWrong)

/-- 'backstaylaw06.AttrBest': WHATEVER THE INPUT: true; the input reads as it did. -/
def attrBestSpec : ChangeSpec := { name := "attrBest", fn := fun _ => fun
  | [d1, d2] => { results := [.lit (.bool true)], args := [d1, d2] }
  | _ => none }
def attrBestRow : OpenClaim := { program := "ytmioaanbehacgaadoor", sum := "4379b6e95e957a187d279b5d6e75fb2d1ac4f395ae0fbe65ed9fa59cbc6bb423", func := "backstay/backstaylaw06.AttrBest", spec := "attrBest", inPlace := ["internal/abi.NoEscape", "internal/bytealg.MakeNoZero"], unfollowed := true, recurses := true, named := ["internal/strconv.uint64pow10", "math/bits.deBruijn32tab", "math/bits.deBruijn64tab"], apart := false, laid := [("math/bits.deBruijn32tab", laid_math_bits_deBruijn32tab), ("math/bits.deBruijn64tab", laid_math_bits_deBruijn64tab), ("internal/strconv.uint64pow10", laid_internal_strconv_uint64pow10)] }
def AttrBestSaid : Prop := attrBestRow.holds Tryd.pinned (OpenSpec.ofChange attrBestSpec)

/-- ITS FALSE NEIGHBOUR: 'it returns false'. Refute it at one input. -/
def attrBestWrong : ChangeSpec := { name := "attrBest", fn := fun _ => fun
  | [d1, d2] => { results := [.lit (.bool false)], args := [d1, d2] }
  | _ => none }
def AttrBestWrongFalsely : Prop := attrBestRow.holds Tryd.pinned (OpenSpec.ofChange attrBestWrong)

/-- 'backstaylaw06.AttrPrints': WHATEVER THE INPUT: true; the input reads as it did. -/
def attrPrintsSpec : ChangeSpec := { name := "attrPrints", fn := fun _ => fun
  | [d1, d2] => { results := [.lit (.bool true)], args := [d1, d2] }
  | _ => none }
def attrPrintsRow : OpenClaim := { program := "ytmioaanbehacgaadoor", sum := "4379b6e95e957a187d279b5d6e75fb2d1ac4f395ae0fbe65ed9fa59cbc6bb423", func := "backstay/backstaylaw06.AttrPrints", spec := "attrPrints", inPlace := ["internal/abi.NoEscape", "internal/bytealg.MakeNoZero"], unfollowed := true, recurses := true, named := ["internal/strconv.uint64pow10", "math/bits.deBruijn32tab", "math/bits.deBruijn64tab"], apart := false, laid := [("math/bits.deBruijn32tab", laid_math_bits_deBruijn32tab), ("math/bits.deBruijn64tab", laid_math_bits_deBruijn64tab), ("internal/strconv.uint64pow10", laid_internal_strconv_uint64pow10)] }
def AttrPrintsSaid : Prop := attrPrintsRow.holds Tryd.pinned (OpenSpec.ofChange attrPrintsSpec)

/-- ITS FALSE NEIGHBOUR: 'it returns false'. Refute it at one input. -/
def attrPrintsWrong : ChangeSpec := { name := "attrPrints", fn := fun _ => fun
  | [d1, d2] => { results := [.lit (.bool false)], args := [d1, d2] }
  | _ => none }
def AttrPrintsWrongFalsely : Prop := attrPrintsRow.holds Tryd.pinned (OpenSpec.ofChange attrPrintsWrong)

/-- 'backstaylaw06.AttrLonger': WHATEVER THE INPUT: true; the input reads as it did. -/
def attrLongerSpec : ChangeSpec := { name := "attrLonger", fn := fun _ => fun
  | [d1, d2, d3] => { results := [.lit (.bool true)], args := [d1, d2, d3] }
  | _ => none }
def attrLongerRow : OpenClaim := { program := "ytmioaanbehacgaadoor", sum := "4379b6e95e957a187d279b5d6e75fb2d1ac4f395ae0fbe65ed9fa59cbc6bb423", func := "backstay/backstaylaw06.AttrLonger", spec := "attrLonger", inPlace := ["internal/abi.NoEscape", "internal/bytealg.MakeNoZero"], unfollowed := true, recurses := true, named := ["internal/strconv.uint64pow10", "math/bits.deBruijn32tab", "math/bits.deBruijn64tab"], apart := false, laid := [("math/bits.deBruijn32tab", laid_math_bits_deBruijn32tab), ("math/bits.deBruijn64tab", laid_math_bits_deBruijn64tab), ("internal/strconv.uint64pow10", laid_internal_strconv_uint64pow10)] }
def AttrLongerSaid : Prop := attrLongerRow.holds Tryd.pinned (OpenSpec.ofChange attrLongerSpec)

/-- ITS FALSE NEIGHBOUR: 'it returns false'. Refute it at one input. -/
def attrLongerWrong : ChangeSpec := { name := "attrLonger", fn := fun _ => fun
  | [d1, d2, d3] => { results := [.lit (.bool false)], args := [d1, d2, d3] }
  | _ => none }
def AttrLongerWrongFalsely : Prop := attrLongerRow.holds Tryd.pinned (OpenSpec.ofChange attrLongerWrong)

/-- 'backstaylaw06.AttrWrong': WHATEVER THE INPUT: true; the input reads as it did. -/
def attrWrongSpec : ChangeSpec := { name := "attrWrong", fn := fun _ => fun
  | [d1, d2, d3] => { results := [.lit (.bool true)], args := [d1, d2, d3] }
  | _ => none }
def attrWrongRow : OpenClaim := { program := "ytmioaanbehacgaadoor", sum := "4379b6e95e957a187d279b5d6e75fb2d1ac4f395ae0fbe65ed9fa59cbc6bb423", func := "backstay/backstaylaw06.AttrWrong", spec := "attrWrong", inPlace := ["internal/abi.NoEscape", "internal/bytealg.MakeNoZero"], unfollowed := true, recurses := true, named := ["internal/strconv.uint64pow10", "math/bits.deBruijn32tab", "math/bits.deBruijn64tab"], apart := false, laid := [("math/bits.deBruijn32tab", laid_math_bits_deBruijn32tab), ("math/bits.deBruijn64tab", laid_math_bits_deBruijn64tab), ("internal/strconv.uint64pow10", laid_internal_strconv_uint64pow10)] }
def AttrWrongSaid : Prop := attrWrongRow.holds Tryd.pinned (OpenSpec.ofChange attrWrongSpec)

/-- ITS FALSE NEIGHBOUR: 'it returns false'. Refute it at one input. -/
def attrWrongWrong : ChangeSpec := { name := "attrWrong", fn := fun _ => fun
  | [d1, d2, d3] => { results := [.lit (.bool false)], args := [d1, d2, d3] }
  | _ => none }
def AttrWrongWrongFalsely : Prop := attrWrongRow.holds Tryd.pinned (OpenSpec.ofChange attrWrongWrong)

/-- 'backstaylaw06.AttrKinds': WHATEVER THE INPUT: true; the input reads as it did. -/
def attrKindsSpec : ChangeSpec := { name := "attrKinds", fn := fun _ => fun
  | [d1, d2, d3] => { results := [.lit (.bool true)], args := [d1, d2, d3] }
  | _ => none }
def attrKindsRow : OpenClaim := { program := "ytmioaanbehacgaadoor", sum := "4379b6e95e957a187d279b5d6e75fb2d1ac4f395ae0fbe65ed9fa59cbc6bb423", func := "backstay/backstaylaw06.AttrKinds", spec := "attrKinds", inPlace := ["internal/abi.NoEscape", "internal/bytealg.MakeNoZero"], unfollowed := true, recurses := true, named := ["internal/strconv.uint64pow10", "math/bits.deBruijn32tab", "math/bits.deBruijn64tab"], apart := false, laid := [("math/bits.deBruijn32tab", laid_math_bits_deBruijn32tab), ("math/bits.deBruijn64tab", laid_math_bits_deBruijn64tab), ("internal/strconv.uint64pow10", laid_internal_strconv_uint64pow10)] }
def AttrKindsSaid : Prop := attrKindsRow.holds Tryd.pinned (OpenSpec.ofChange attrKindsSpec)

/-- ITS FALSE NEIGHBOUR: 'it returns false'. Refute it at one input. -/
def attrKindsWrong : ChangeSpec := { name := "attrKinds", fn := fun _ => fun
  | [d1, d2, d3] => { results := [.lit (.bool false)], args := [d1, d2, d3] }
  | _ => none }
def AttrKindsWrongFalsely : Prop := attrKindsRow.holds Tryd.pinned (OpenSpec.ofChange attrKindsWrong)

/-- 'backstaylaw06.AttrFirst': WHATEVER THE INPUT: true; the input reads as it did. -/
def attrFirstSpec : ChangeSpec := { name := "attrFirst", fn := fun _ => fun
  | [d1, d2, d3] => { results := [.lit (.bool true)], args := [d1, d2, d3] }
  | _ => none }
def attrFirstRow : OpenClaim := { program := "ytmioaanbehacgaadoor", sum := "4379b6e95e957a187d279b5d6e75fb2d1ac4f395ae0fbe65ed9fa59cbc6bb423", func := "backstay/backstaylaw06.AttrFirst", spec := "attrFirst", inPlace := ["internal/abi.NoEscape", "internal/bytealg.MakeNoZero"], unfollowed := true, recurses := true, named := ["internal/strconv.uint64pow10", "math/bits.deBruijn32tab", "math/bits.deBruijn64tab"], apart := false, laid := [("math/bits.deBruijn32tab", laid_math_bits_deBruijn32tab), ("math/bits.deBruijn64tab", laid_math_bits_deBruijn64tab), ("internal/strconv.uint64pow10", laid_internal_strconv_uint64pow10)] }
def AttrFirstSaid : Prop := attrFirstRow.holds Tryd.pinned (OpenSpec.ofChange attrFirstSpec)

/-- ITS FALSE NEIGHBOUR: 'it returns false'. Refute it at one input. -/
def attrFirstWrong : ChangeSpec := { name := "attrFirst", fn := fun _ => fun
  | [d1, d2, d3] => { results := [.lit (.bool false)], args := [d1, d2, d3] }
  | _ => none }
def AttrFirstWrongFalsely : Prop := attrFirstRow.holds Tryd.pinned (OpenSpec.ofChange attrFirstWrong)

/- THE SECOND FORM. 'bulk': how many values and letters a reading holds, each counted each time it is reached (what is shared counts as often as it is met; a slice's spare places count too). A statement '..UptoSaid' is the law's where the arguments, and the package variables that the reading takes, are together of bulk at most 1048576: NARROWER than '..Said'. Prove '..Said' where nothing that the law and all that it calls make is longer than what came in: it says more and counts as full. Else prove '..UptoSaid'. A law counts once. -/
mutual
def uptoBulk {H : Type} : DataW H → Nat
  | .lit (.string bytes) => bytes.length + 1
  | .lit _ => 1
  | .nil => 1
  | .ptr d => uptoBulk d + 1
  | .slice elems spare => uptoBulkAll elems + uptoBulkAll spare + 1
  | .agg parts => uptoBulkAll parts + 1
  | .iface _ d => uptoBulk d + 1
  | .map entries => uptoBulkEntries entries + 1
  | .held _ => 1
def uptoBulkAll {H : Type} : List (DataW H) → Nat
  | [] => 0
  | d :: r => uptoBulk d + uptoBulkAll r
def uptoBulkEntries {H : Type} : List (Lit × DataW H) → Nat
  | [] => 0
  | x :: r => uptoBulkEntry x + uptoBulkEntries r
def uptoBulkEntry {H : Type} : Lit × DataW H → Nat
  | (.string bytes, d) => bytes.length + uptoBulk d + 1
  | (_, d) => uptoBulk d + 1
 end
def uptoSmall : (H : Type) → List (DataW H) → Bool := fun _ ds => decide (uptoBulkAll ds ≤ 1048576)
def OpenSpec.upto (s : _root_.Go.ChangeSpec) : _root_.Go.OpenSpec := { _root_.Go.OpenSpec.ofChange s with cond := some uptoSmall }

/-- 'backstaylaw06.AttrTells', WHERE WHAT IT READS IS OF BULK AT MOST 1048576: true; the input reads as it did. -/
def attrTellsUptoRow : OpenClaim := { program := "ytmioaanbehacgaadoor", sum := "4379b6e95e957a187d279b5d6e75fb2d1ac4f395ae0fbe65ed9fa59cbc6bb423", func := "backstay/backstaylaw06.AttrTells", spec := "attrTells", inPlace := ["internal/abi.NoEscape", "internal/bytealg.MakeNoZero"], unfollowed := true, recurses := true, named := ["internal/strconv.uint64pow10", "math/bits.deBruijn32tab", "math/bits.deBruijn64tab"], apart := false, laid := [("math/bits.deBruijn32tab", laid_math_bits_deBruijn32tab), ("math/bits.deBruijn64tab", laid_math_bits_deBruijn64tab), ("internal/strconv.uint64pow10", laid_internal_strconv_uint64pow10)], narrowed := true }
def AttrTellsUptoSaid : Prop := attrTellsUptoRow.holds Tryd.pinned (OpenSpec.upto attrTellsSpec)

/-- 'backstaylaw06.AttrOrder', WHERE WHAT IT READS IS OF BULK AT MOST 1048576: true; the input reads as it did. -/
def attrOrderUptoRow : OpenClaim := { program := "ytmioaanbehacgaadoor", sum := "4379b6e95e957a187d279b5d6e75fb2d1ac4f395ae0fbe65ed9fa59cbc6bb423", func := "backstay/backstaylaw06.AttrOrder", spec := "attrOrder", inPlace := ["internal/abi.NoEscape", "internal/bytealg.MakeNoZero"], unfollowed := true, recurses := true, named := ["internal/strconv.uint64pow10", "math/bits.deBruijn32tab", "math/bits.deBruijn64tab"], apart := false, laid := [("math/bits.deBruijn32tab", laid_math_bits_deBruijn32tab), ("math/bits.deBruijn64tab", laid_math_bits_deBruijn64tab), ("internal/strconv.uint64pow10", laid_internal_strconv_uint64pow10)], narrowed := true }
def AttrOrderUptoSaid : Prop := attrOrderUptoRow.holds Tryd.pinned (OpenSpec.upto attrOrderSpec)

/-- 'backstaylaw06.AttrBest', WHERE WHAT IT READS IS OF BULK AT MOST 1048576: true; the input reads as it did. -/
def attrBestUptoRow : OpenClaim := { program := "ytmioaanbehacgaadoor", sum := "4379b6e95e957a187d279b5d6e75fb2d1ac4f395ae0fbe65ed9fa59cbc6bb423", func := "backstay/backstaylaw06.AttrBest", spec := "attrBest", inPlace := ["internal/abi.NoEscape", "internal/bytealg.MakeNoZero"], unfollowed := true, recurses := true, named := ["internal/strconv.uint64pow10", "math/bits.deBruijn32tab", "math/bits.deBruijn64tab"], apart := false, laid := [("math/bits.deBruijn32tab", laid_math_bits_deBruijn32tab), ("math/bits.deBruijn64tab", laid_math_bits_deBruijn64tab), ("internal/strconv.uint64pow10", laid_internal_strconv_uint64pow10)], narrowed := true }
def AttrBestUptoSaid : Prop := attrBestUptoRow.holds Tryd.pinned (OpenSpec.upto attrBestSpec)

/-- 'backstaylaw06.AttrPrints', WHERE WHAT IT READS IS OF BULK AT MOST 1048576: true; the input reads as it did. -/
def attrPrintsUptoRow : OpenClaim := { program := "ytmioaanbehacgaadoor", sum := "4379b6e95e957a187d279b5d6e75fb2d1ac4f395ae0fbe65ed9fa59cbc6bb423", func := "backstay/backstaylaw06.AttrPrints", spec := "attrPrints", inPlace := ["internal/abi.NoEscape", "internal/bytealg.MakeNoZero"], unfollowed := true, recurses := true, named := ["internal/strconv.uint64pow10", "math/bits.deBruijn32tab", "math/bits.deBruijn64tab"], apart := false, laid := [("math/bits.deBruijn32tab", laid_math_bits_deBruijn32tab), ("math/bits.deBruijn64tab", laid_math_bits_deBruijn64tab), ("internal/strconv.uint64pow10", laid_internal_strconv_uint64pow10)], narrowed := true }
def AttrPrintsUptoSaid : Prop := attrPrintsUptoRow.holds Tryd.pinned (OpenSpec.upto attrPrintsSpec)

/-- 'backstaylaw06.AttrLonger', WHERE WHAT IT READS IS OF BULK AT MOST 1048576: true; the input reads as it did. -/
def attrLongerUptoRow : OpenClaim := { program := "ytmioaanbehacgaadoor", sum := "4379b6e95e957a187d279b5d6e75fb2d1ac4f395ae0fbe65ed9fa59cbc6bb423", func := "backstay/backstaylaw06.AttrLonger", spec := "attrLonger", inPlace := ["internal/abi.NoEscape", "internal/bytealg.MakeNoZero"], unfollowed := true, recurses := true, named := ["internal/strconv.uint64pow10", "math/bits.deBruijn32tab", "math/bits.deBruijn64tab"], apart := false, laid := [("math/bits.deBruijn32tab", laid_math_bits_deBruijn32tab), ("math/bits.deBruijn64tab", laid_math_bits_deBruijn64tab), ("internal/strconv.uint64pow10", laid_internal_strconv_uint64pow10)], narrowed := true }
def AttrLongerUptoSaid : Prop := attrLongerUptoRow.holds Tryd.pinned (OpenSpec.upto attrLongerSpec)

/-- 'backstaylaw06.AttrWrong', WHERE WHAT IT READS IS OF BULK AT MOST 1048576: true; the input reads as it did. -/
def attrWrongUptoRow : OpenClaim := { program := "ytmioaanbehacgaadoor", sum := "4379b6e95e957a187d279b5d6e75fb2d1ac4f395ae0fbe65ed9fa59cbc6bb423", func := "backstay/backstaylaw06.AttrWrong", spec := "attrWrong", inPlace := ["internal/abi.NoEscape", "internal/bytealg.MakeNoZero"], unfollowed := true, recurses := true, named := ["internal/strconv.uint64pow10", "math/bits.deBruijn32tab", "math/bits.deBruijn64tab"], apart := false, laid := [("math/bits.deBruijn32tab", laid_math_bits_deBruijn32tab), ("math/bits.deBruijn64tab", laid_math_bits_deBruijn64tab), ("internal/strconv.uint64pow10", laid_internal_strconv_uint64pow10)], narrowed := true }
def AttrWrongUptoSaid : Prop := attrWrongUptoRow.holds Tryd.pinned (OpenSpec.upto attrWrongSpec)

/-- 'backstaylaw06.AttrKinds', WHERE WHAT IT READS IS OF BULK AT MOST 1048576: true; the input reads as it did. -/
def attrKindsUptoRow : OpenClaim := { program := "ytmioaanbehacgaadoor", sum := "4379b6e95e957a187d279b5d6e75fb2d1ac4f395ae0fbe65ed9fa59cbc6bb423", func := "backstay/backstaylaw06.AttrKinds", spec := "attrKinds", inPlace := ["internal/abi.NoEscape", "internal/bytealg.MakeNoZero"], unfollowed := true, recurses := true, named := ["internal/strconv.uint64pow10", "math/bits.deBruijn32tab", "math/bits.deBruijn64tab"], apart := false, laid := [("math/bits.deBruijn32tab", laid_math_bits_deBruijn32tab), ("math/bits.deBruijn64tab", laid_math_bits_deBruijn64tab), ("internal/strconv.uint64pow10", laid_internal_strconv_uint64pow10)], narrowed := true }
def AttrKindsUptoSaid : Prop := attrKindsUptoRow.holds Tryd.pinned (OpenSpec.upto attrKindsSpec)

/-- 'backstaylaw06.AttrFirst', WHERE WHAT IT READS IS OF BULK AT MOST 1048576: true; the input reads as it did. -/
def attrFirstUptoRow : OpenClaim := { program := "ytmioaanbehacgaadoor", sum := "4379b6e95e957a187d279b5d6e75fb2d1ac4f395ae0fbe65ed9fa59cbc6bb423", func := "backstay/backstaylaw06.AttrFirst", spec := "attrFirst", inPlace := ["internal/abi.NoEscape", "internal/bytealg.MakeNoZero"], unfollowed := true, recurses := true, named := ["internal/strconv.uint64pow10", "math/bits.deBruijn32tab", "math/bits.deBruijn64tab"], apart := false, laid := [("math/bits.deBruijn32tab", laid_math_bits_deBruijn32tab), ("math/bits.deBruijn64tab", laid_math_bits_deBruijn64tab), ("internal/strconv.uint64pow10", laid_internal_strconv_uint64pow10)], narrowed := true }
def AttrFirstUptoSaid : Prop := attrFirstUptoRow.holds Tryd.pinned (OpenSpec.upto attrFirstSpec)

end Rows
end Go.Proofs.YtmioaanbehacgaaDoor
