/-
  NARROWER THAN 'FOR EVERY INPUT', by the rows' own cells (each row's printed sentence says how): TupleTotal: laid · TupleBinds: laid · TupleWithin: laid · TupleNear: laid · TupleMatches: laid · TupleMany: laid · TupleForms: laid · TupleRows: laid · TupleSets: laid · TupleChange: laid · TupleBack: laid.
  DERIVED. THE GIVEN ROWS OF THIS SEAT. 11 by the template 'for every input the law returns true; each argument reads behind the call as it read before'; 0 by the template 'total and deterministic' (their statements: YtdfahkeodlfopaaDoorTotals.lean).
  GIVEN WITH THE SEED: the statements are not yours to turn. If you find one false, say at which input.
  Laid BY PROGRAM, IN A SANDBOX (cutbox-rows.mjs): the forced cells as the released guide's own fill.sh prints them over the translation 06c99deea80b4163… (all of the seat's roots in one cut). By AI agents, Wed Nov 11 2026. No macro, syntax, notation, axiom, sorry.
-/
import Derived.Test.YtdfahkeodlfopaaDoorChecked
import GoSem.Claim
import GoSem.ClaimJoined
import GoSem.ClaimMapViews
import Derived.JoinedTies
import Derived.KernelRfl
namespace Go.Proofs.YtdfahkeodlfopaaDoor
/- THE CELL 'sum', in the pinned program and in every row, IS THE sha256 OF THE DUMP (.gsa) THAT YtdfahkeodlfopaaDoorProg.lean LOADS. Nothing in Lean hashes anything: it is a label: what it is worth is what the hold of that sum in a sandbox is worth. -/
noncomputable def Tryd.pinned : Pinned := { name := "ytdfahkeodlfopaadoor", sum := "06c99deea80b4163ff537bb6853a939503c5bf76d07dd67821b64b852932b002", checked := Tryd.checked }
namespace Rows
def none {H : Type} : Left H := { results := [], args := [] }

/- WHAT THE LISTED PACKAGE-LEVEL VARIABLES READ AS WHEN THE CALL BEGINS. Each datum BY PROGRAM (the guide's laid-datum.mjs) off the statement by which the dump's own 'gosem.cut.vars' lays the variable. In a bare row this is a premise. The card (YtdfahkeodlfopaaDoorCards.lean) ties it to the program's text. -/
def laid_math_bits_deBruijn32tab {H : Type} : DataW H := .agg [.lit (.int .u8 0), .lit (.int .u8 1), .lit (.int .u8 28), .lit (.int .u8 2), .lit (.int .u8 29), .lit (.int .u8 14), .lit (.int .u8 24), .lit (.int .u8 3), .lit (.int .u8 30), .lit (.int .u8 22), .lit (.int .u8 20), .lit (.int .u8 15), .lit (.int .u8 25), .lit (.int .u8 17), .lit (.int .u8 4), .lit (.int .u8 8), .lit (.int .u8 31), .lit (.int .u8 27), .lit (.int .u8 13), .lit (.int .u8 23), .lit (.int .u8 21), .lit (.int .u8 19), .lit (.int .u8 16), .lit (.int .u8 7), .lit (.int .u8 26), .lit (.int .u8 12), .lit (.int .u8 18), .lit (.int .u8 6), .lit (.int .u8 11), .lit (.int .u8 5), .lit (.int .u8 10), .lit (.int .u8 9)]
def laid_math_bits_deBruijn64tab {H : Type} : DataW H := .agg [.lit (.int .u8 0), .lit (.int .u8 1), .lit (.int .u8 56), .lit (.int .u8 2), .lit (.int .u8 57), .lit (.int .u8 49), .lit (.int .u8 28), .lit (.int .u8 3), .lit (.int .u8 61), .lit (.int .u8 58), .lit (.int .u8 42), .lit (.int .u8 50), .lit (.int .u8 38), .lit (.int .u8 29), .lit (.int .u8 17), .lit (.int .u8 4), .lit (.int .u8 62), .lit (.int .u8 47), .lit (.int .u8 59), .lit (.int .u8 36), .lit (.int .u8 45), .lit (.int .u8 43), .lit (.int .u8 51), .lit (.int .u8 22), .lit (.int .u8 53), .lit (.int .u8 39), .lit (.int .u8 33), .lit (.int .u8 30), .lit (.int .u8 24), .lit (.int .u8 18), .lit (.int .u8 12), .lit (.int .u8 5), .lit (.int .u8 63), .lit (.int .u8 55), .lit (.int .u8 48), .lit (.int .u8 27), .lit (.int .u8 60), .lit (.int .u8 41), .lit (.int .u8 37), .lit (.int .u8 16), .lit (.int .u8 46), .lit (.int .u8 35), .lit (.int .u8 44), .lit (.int .u8 21), .lit (.int .u8 52), .lit (.int .u8 32), .lit (.int .u8 23), .lit (.int .u8 11), .lit (.int .u8 54), .lit (.int .u8 26), .lit (.int .u8 40), .lit (.int .u8 15), .lit (.int .u8 34), .lit (.int .u8 20), .lit (.int .u8 31), .lit (.int .u8 10), .lit (.int .u8 25), .lit (.int .u8 14), .lit (.int .u8 19), .lit (.int .u8 9), .lit (.int .u8 13), .lit (.int .u8 8), .lit (.int .u8 7), .lit (.int .u8 6)]
def laid_internal_strconv_uint64pow10 {H : Type} : DataW H := .agg [.lit (.int .u64 1), .lit (.int .u64 10), .lit (.int .u64 100), .lit (.int .u64 1000), .lit (.int .u64 10000), .lit (.int .u64 100000), .lit (.int .u64 1000000), .lit (.int .u64 10000000), .lit (.int .u64 100000000), .lit (.int .u64 1000000000), .lit (.int .u64 10000000000), .lit (.int .u64 100000000000), .lit (.int .u64 1000000000000), .lit (.int .u64 10000000000000), .lit (.int .u64 100000000000000), .lit (.int .u64 1000000000000000), .lit (.int .u64 10000000000000000), .lit (.int .u64 100000000000000000), .lit (.int .u64 1000000000000000000), .lit (.int .u64 10000000000000000000)]
def laid_strconv_ErrRange {H : Type} : DataW H := .iface "*errors.errorString" (.ptr (.agg [.lit (.string [118, 97, 108, 117, 101, 32, 111, 117, 116, 32, 111, 102, 32, 114, 97, 110, 103, 101])]))
def laid_strconv_ErrSyntax {H : Type} : DataW H := .iface "*errors.errorString" (.ptr (.agg [.lit (.string [105, 110, 118, 97, 108, 105, 100, 32, 115, 121, 110, 116, 97, 120])]))

/-- 'pedigreelaw02.TupleTotal': WHATEVER THE INPUT: true; the input reads as it did. -/
def tupleTotalSpec : ChangeSpec := { name := "tupleTotal", fn := fun _ => fun
  | [d1, d2, d3] => { results := [.lit (.bool true)], args := [d1, d2, d3] }
  | _ => none }
def tupleTotalRow : OpenClaim := { program := "ytdfahkeodlfopaadoor", sum := "06c99deea80b4163ff537bb6853a939503c5bf76d07dd67821b64b852932b002", func := "pedigree/pedigreelaw02.TupleTotal", spec := "tupleTotal", inPlace := ["internal/abi.NoEscape", "internal/bytealg.MakeNoZero"], unfollowed := true, recurses := true, named := ["internal/strconv.uint64pow10", "math/bits.deBruijn32tab", "math/bits.deBruijn64tab"], apart := false, laid := [("math/bits.deBruijn32tab", laid_math_bits_deBruijn32tab), ("math/bits.deBruijn64tab", laid_math_bits_deBruijn64tab), ("internal/strconv.uint64pow10", laid_internal_strconv_uint64pow10)] }
def TupleTotalSaid : Prop := tupleTotalRow.holds Tryd.pinned (OpenSpec.ofChange tupleTotalSpec)

/-- ITS FALSE NEIGHBOUR: 'it returns false'. Refute it at one input. -/
def tupleTotalWrong : ChangeSpec := { name := "tupleTotal", fn := fun _ => fun
  | [d1, d2, d3] => { results := [.lit (.bool false)], args := [d1, d2, d3] }
  | _ => none }
def TupleTotalWrongFalsely : Prop := tupleTotalRow.holds Tryd.pinned (OpenSpec.ofChange tupleTotalWrong)

/-- 'pedigreelaw02.TupleBinds': WHATEVER THE INPUT: true; the input reads as it did. -/
def tupleBindsSpec : ChangeSpec := { name := "tupleBinds", fn := fun _ => fun
  | [d1, d2] => { results := [.lit (.bool true)], args := [d1, d2] }
  | _ => none }
def tupleBindsRow : OpenClaim := { program := "ytdfahkeodlfopaadoor", sum := "06c99deea80b4163ff537bb6853a939503c5bf76d07dd67821b64b852932b002", func := "pedigree/pedigreelaw02.TupleBinds", spec := "tupleBinds", inPlace := ["internal/abi.NoEscape", "internal/bytealg.MakeNoZero"], unfollowed := true, recurses := true, named := ["internal/strconv.uint64pow10", "math/bits.deBruijn32tab", "math/bits.deBruijn64tab"], apart := false, laid := [("math/bits.deBruijn32tab", laid_math_bits_deBruijn32tab), ("math/bits.deBruijn64tab", laid_math_bits_deBruijn64tab), ("internal/strconv.uint64pow10", laid_internal_strconv_uint64pow10)] }
def TupleBindsSaid : Prop := tupleBindsRow.holds Tryd.pinned (OpenSpec.ofChange tupleBindsSpec)

/-- ITS FALSE NEIGHBOUR: 'it returns false'. Refute it at one input. -/
def tupleBindsWrong : ChangeSpec := { name := "tupleBinds", fn := fun _ => fun
  | [d1, d2] => { results := [.lit (.bool false)], args := [d1, d2] }
  | _ => none }
def TupleBindsWrongFalsely : Prop := tupleBindsRow.holds Tryd.pinned (OpenSpec.ofChange tupleBindsWrong)

/-- 'pedigreelaw02.TupleWithin': WHATEVER THE INPUT: true; the input reads as it did. -/
def tupleWithinSpec : ChangeSpec := { name := "tupleWithin", fn := fun _ => fun
  | [d1, d2, d3] => { results := [.lit (.bool true)], args := [d1, d2, d3] }
  | _ => none }
def tupleWithinRow : OpenClaim := { program := "ytdfahkeodlfopaadoor", sum := "06c99deea80b4163ff537bb6853a939503c5bf76d07dd67821b64b852932b002", func := "pedigree/pedigreelaw02.TupleWithin", spec := "tupleWithin", inPlace := ["internal/abi.NoEscape", "internal/bytealg.MakeNoZero"], unfollowed := true, recurses := true, named := ["internal/strconv.uint64pow10", "math/bits.deBruijn32tab", "math/bits.deBruijn64tab"], apart := false, laid := [("math/bits.deBruijn32tab", laid_math_bits_deBruijn32tab), ("math/bits.deBruijn64tab", laid_math_bits_deBruijn64tab), ("internal/strconv.uint64pow10", laid_internal_strconv_uint64pow10)] }
def TupleWithinSaid : Prop := tupleWithinRow.holds Tryd.pinned (OpenSpec.ofChange tupleWithinSpec)

/-- ITS FALSE NEIGHBOUR: 'it returns false'. Refute it at one input. -/
def tupleWithinWrong : ChangeSpec := { name := "tupleWithin", fn := fun _ => fun
  | [d1, d2, d3] => { results := [.lit (.bool false)], args := [d1, d2, d3] }
  | _ => none }
def TupleWithinWrongFalsely : Prop := tupleWithinRow.holds Tryd.pinned (OpenSpec.ofChange tupleWithinWrong)

/-- 'pedigreelaw02.TupleNear': WHATEVER THE INPUT: true; the input reads as it did. -/
def tupleNearSpec : ChangeSpec := { name := "tupleNear", fn := fun _ => fun
  | [d1, d2, d3] => { results := [.lit (.bool true)], args := [d1, d2, d3] }
  | _ => none }
def tupleNearRow : OpenClaim := { program := "ytdfahkeodlfopaadoor", sum := "06c99deea80b4163ff537bb6853a939503c5bf76d07dd67821b64b852932b002", func := "pedigree/pedigreelaw02.TupleNear", spec := "tupleNear", inPlace := ["internal/abi.NoEscape", "internal/bytealg.MakeNoZero"], unfollowed := true, recurses := true, named := ["internal/strconv.uint64pow10", "math/bits.deBruijn32tab", "math/bits.deBruijn64tab"], apart := false, laid := [("math/bits.deBruijn32tab", laid_math_bits_deBruijn32tab), ("math/bits.deBruijn64tab", laid_math_bits_deBruijn64tab), ("internal/strconv.uint64pow10", laid_internal_strconv_uint64pow10)] }
def TupleNearSaid : Prop := tupleNearRow.holds Tryd.pinned (OpenSpec.ofChange tupleNearSpec)

/-- ITS FALSE NEIGHBOUR: 'it returns false'. Refute it at one input. -/
def tupleNearWrong : ChangeSpec := { name := "tupleNear", fn := fun _ => fun
  | [d1, d2, d3] => { results := [.lit (.bool false)], args := [d1, d2, d3] }
  | _ => none }
def TupleNearWrongFalsely : Prop := tupleNearRow.holds Tryd.pinned (OpenSpec.ofChange tupleNearWrong)

/-- 'pedigreelaw02.TupleMatches': WHATEVER THE INPUT: true; the input reads as it did. -/
def tupleMatchesSpec : ChangeSpec := { name := "tupleMatches", fn := fun _ => fun
  | [d1, d2, d3] => { results := [.lit (.bool true)], args := [d1, d2, d3] }
  | _ => none }
def tupleMatchesRow : OpenClaim := { program := "ytdfahkeodlfopaadoor", sum := "06c99deea80b4163ff537bb6853a939503c5bf76d07dd67821b64b852932b002", func := "pedigree/pedigreelaw02.TupleMatches", spec := "tupleMatches", inPlace := ["internal/abi.NoEscape", "internal/bytealg.MakeNoZero"], unfollowed := true, recurses := true, named := ["internal/strconv.uint64pow10", "math/bits.deBruijn32tab", "math/bits.deBruijn64tab"], apart := false, laid := [("math/bits.deBruijn32tab", laid_math_bits_deBruijn32tab), ("math/bits.deBruijn64tab", laid_math_bits_deBruijn64tab), ("internal/strconv.uint64pow10", laid_internal_strconv_uint64pow10)] }
def TupleMatchesSaid : Prop := tupleMatchesRow.holds Tryd.pinned (OpenSpec.ofChange tupleMatchesSpec)

/-- ITS FALSE NEIGHBOUR: 'it returns false'. Refute it at one input. -/
def tupleMatchesWrong : ChangeSpec := { name := "tupleMatches", fn := fun _ => fun
  | [d1, d2, d3] => { results := [.lit (.bool false)], args := [d1, d2, d3] }
  | _ => none }
def TupleMatchesWrongFalsely : Prop := tupleMatchesRow.holds Tryd.pinned (OpenSpec.ofChange tupleMatchesWrong)

/-- 'pedigreelaw02.TupleMany': WHATEVER THE INPUT: true; the input reads as it did. -/
def tupleManySpec : ChangeSpec := { name := "tupleMany", fn := fun _ => fun
  | [d] => { results := [.lit (.bool true)], args := [d] }
  | _ => none }
def tupleManyRow : OpenClaim := { program := "ytdfahkeodlfopaadoor", sum := "06c99deea80b4163ff537bb6853a939503c5bf76d07dd67821b64b852932b002", func := "pedigree/pedigreelaw02.TupleMany", spec := "tupleMany", inPlace := ["internal/abi.NoEscape", "internal/bytealg.MakeNoZero"], unfollowed := true, recurses := true, named := ["internal/strconv.uint64pow10", "math/bits.deBruijn32tab", "math/bits.deBruijn64tab"], apart := false, laid := [("math/bits.deBruijn32tab", laid_math_bits_deBruijn32tab), ("math/bits.deBruijn64tab", laid_math_bits_deBruijn64tab), ("internal/strconv.uint64pow10", laid_internal_strconv_uint64pow10)] }
def TupleManySaid : Prop := tupleManyRow.holds Tryd.pinned (OpenSpec.ofChange tupleManySpec)

/-- ITS FALSE NEIGHBOUR: 'it returns false'. Refute it at one input. -/
def tupleManyWrong : ChangeSpec := { name := "tupleMany", fn := fun _ => fun
  | [d] => { results := [.lit (.bool false)], args := [d] }
  | _ => none }
def TupleManyWrongFalsely : Prop := tupleManyRow.holds Tryd.pinned (OpenSpec.ofChange tupleManyWrong)

/-- 'pedigreelaw02.TupleForms': WHATEVER THE INPUT: true; the input reads as it did. -/
def tupleFormsSpec : ChangeSpec := { name := "tupleForms", fn := fun _ => fun
  | [d1, d2, d3] => { results := [.lit (.bool true)], args := [d1, d2, d3] }
  | _ => none }
def tupleFormsRow : OpenClaim := { program := "ytdfahkeodlfopaadoor", sum := "06c99deea80b4163ff537bb6853a939503c5bf76d07dd67821b64b852932b002", func := "pedigree/pedigreelaw02.TupleForms", spec := "tupleForms", inPlace := ["internal/abi.NoEscape", "internal/bytealg.MakeNoZero"], unfollowed := true, recurses := true, named := ["internal/strconv.uint64pow10", "math/bits.deBruijn32tab", "math/bits.deBruijn64tab"], apart := false, laid := [("math/bits.deBruijn32tab", laid_math_bits_deBruijn32tab), ("math/bits.deBruijn64tab", laid_math_bits_deBruijn64tab), ("internal/strconv.uint64pow10", laid_internal_strconv_uint64pow10)] }
def TupleFormsSaid : Prop := tupleFormsRow.holds Tryd.pinned (OpenSpec.ofChange tupleFormsSpec)

/-- ITS FALSE NEIGHBOUR: 'it returns false'. Refute it at one input. -/
def tupleFormsWrong : ChangeSpec := { name := "tupleForms", fn := fun _ => fun
  | [d1, d2, d3] => { results := [.lit (.bool false)], args := [d1, d2, d3] }
  | _ => none }
def TupleFormsWrongFalsely : Prop := tupleFormsRow.holds Tryd.pinned (OpenSpec.ofChange tupleFormsWrong)

/-- 'pedigreelaw02.TupleRows': WHATEVER THE INPUT: true; the input reads as it did. -/
def tupleRowsSpec : ChangeSpec := { name := "tupleRows", fn := fun _ => fun
  | [d1, d2] => { results := [.lit (.bool true)], args := [d1, d2] }
  | _ => none }
def tupleRowsRow : OpenClaim := { program := "ytdfahkeodlfopaadoor", sum := "06c99deea80b4163ff537bb6853a939503c5bf76d07dd67821b64b852932b002", func := "pedigree/pedigreelaw02.TupleRows", spec := "tupleRows", inPlace := ["internal/abi.NoEscape", "internal/bytealg.MakeNoZero"], unfollowed := true, recurses := true, named := ["internal/strconv.uint64pow10", "math/bits.deBruijn32tab", "math/bits.deBruijn64tab"], apart := false, laid := [("math/bits.deBruijn32tab", laid_math_bits_deBruijn32tab), ("math/bits.deBruijn64tab", laid_math_bits_deBruijn64tab), ("internal/strconv.uint64pow10", laid_internal_strconv_uint64pow10)] }
def TupleRowsSaid : Prop := tupleRowsRow.holds Tryd.pinned (OpenSpec.ofChange tupleRowsSpec)

/-- ITS FALSE NEIGHBOUR: 'it returns false'. Refute it at one input. -/
def tupleRowsWrong : ChangeSpec := { name := "tupleRows", fn := fun _ => fun
  | [d1, d2] => { results := [.lit (.bool false)], args := [d1, d2] }
  | _ => none }
def TupleRowsWrongFalsely : Prop := tupleRowsRow.holds Tryd.pinned (OpenSpec.ofChange tupleRowsWrong)

/-- 'pedigreelaw02.TupleSets': WHATEVER THE INPUT: true; the input reads as it did. -/
def tupleSetsSpec : ChangeSpec := { name := "tupleSets", fn := fun _ => fun
  | [d1, d2, d3] => { results := [.lit (.bool true)], args := [d1, d2, d3] }
  | _ => none }
def tupleSetsRow : OpenClaim := { program := "ytdfahkeodlfopaadoor", sum := "06c99deea80b4163ff537bb6853a939503c5bf76d07dd67821b64b852932b002", func := "pedigree/pedigreelaw02.TupleSets", spec := "tupleSets", inPlace := ["internal/abi.NoEscape", "internal/bytealg.MakeNoZero"], unfollowed := true, recurses := true, named := ["internal/strconv.uint64pow10", "math/bits.deBruijn32tab", "math/bits.deBruijn64tab"], apart := false, laid := [("math/bits.deBruijn32tab", laid_math_bits_deBruijn32tab), ("math/bits.deBruijn64tab", laid_math_bits_deBruijn64tab), ("internal/strconv.uint64pow10", laid_internal_strconv_uint64pow10)] }
def TupleSetsSaid : Prop := tupleSetsRow.holds Tryd.pinned (OpenSpec.ofChange tupleSetsSpec)

/-- ITS FALSE NEIGHBOUR: 'it returns false'. Refute it at one input. -/
def tupleSetsWrong : ChangeSpec := { name := "tupleSets", fn := fun _ => fun
  | [d1, d2, d3] => { results := [.lit (.bool false)], args := [d1, d2, d3] }
  | _ => none }
def TupleSetsWrongFalsely : Prop := tupleSetsRow.holds Tryd.pinned (OpenSpec.ofChange tupleSetsWrong)

/-- 'pedigreelaw02.TupleChange': WHATEVER THE INPUT: true; the input reads as it did. -/
def tupleChangeSpec : ChangeSpec := { name := "tupleChange", fn := fun _ => fun
  | [d1, d2] => { results := [.lit (.bool true)], args := [d1, d2] }
  | _ => none }
def tupleChangeRow : OpenClaim := { program := "ytdfahkeodlfopaadoor", sum := "06c99deea80b4163ff537bb6853a939503c5bf76d07dd67821b64b852932b002", func := "pedigree/pedigreelaw02.TupleChange", spec := "tupleChange", inPlace := ["internal/abi.NoEscape", "internal/bytealg.MakeNoZero"], unfollowed := true, recurses := true, named := ["internal/strconv.uint64pow10", "math/bits.deBruijn32tab", "math/bits.deBruijn64tab"], apart := false, laid := [("math/bits.deBruijn32tab", laid_math_bits_deBruijn32tab), ("math/bits.deBruijn64tab", laid_math_bits_deBruijn64tab), ("internal/strconv.uint64pow10", laid_internal_strconv_uint64pow10)] }
def TupleChangeSaid : Prop := tupleChangeRow.holds Tryd.pinned (OpenSpec.ofChange tupleChangeSpec)

/-- ITS FALSE NEIGHBOUR: 'it returns false'. Refute it at one input. -/
def tupleChangeWrong : ChangeSpec := { name := "tupleChange", fn := fun _ => fun
  | [d1, d2] => { results := [.lit (.bool false)], args := [d1, d2] }
  | _ => none }
def TupleChangeWrongFalsely : Prop := tupleChangeRow.holds Tryd.pinned (OpenSpec.ofChange tupleChangeWrong)

/-- 'pedigreelaw02.TupleBack': WHATEVER THE INPUT: true; the input reads as it did. -/
def tupleBackSpec : ChangeSpec := { name := "tupleBack", fn := fun _ => fun
  | [d1, d2] => { results := [.lit (.bool true)], args := [d1, d2] }
  | _ => none }
def tupleBackRow : OpenClaim := { program := "ytdfahkeodlfopaadoor", sum := "06c99deea80b4163ff537bb6853a939503c5bf76d07dd67821b64b852932b002", func := "pedigree/pedigreelaw02.TupleBack", spec := "tupleBack", inPlace := ["internal/abi.NoEscape", "internal/bytealg.MakeNoZero"], unfollowed := true, recurses := true, named := ["internal/strconv.uint64pow10", "math/bits.deBruijn32tab", "math/bits.deBruijn64tab", "strconv.ErrSyntax", "strconv.ErrRange"], apart := false, laid := [("math/bits.deBruijn32tab", laid_math_bits_deBruijn32tab), ("math/bits.deBruijn64tab", laid_math_bits_deBruijn64tab), ("internal/strconv.uint64pow10", laid_internal_strconv_uint64pow10), ("strconv.ErrRange", laid_strconv_ErrRange), ("strconv.ErrSyntax", laid_strconv_ErrSyntax)] }
def TupleBackSaid : Prop := tupleBackRow.holds Tryd.pinned (OpenSpec.ofChange tupleBackSpec)

/-- ITS FALSE NEIGHBOUR: 'it returns false'. Refute it at one input. -/
def tupleBackWrong : ChangeSpec := { name := "tupleBack", fn := fun _ => fun
  | [d1, d2] => { results := [.lit (.bool false)], args := [d1, d2] }
  | _ => none }
def TupleBackWrongFalsely : Prop := tupleBackRow.holds Tryd.pinned (OpenSpec.ofChange tupleBackWrong)

/- THE SECOND FORM. 'bulk': how many values and letters a reading holds, each counted each time it is reached (what is shared counts as often as it is met; a slice's spare places count too). A statement '..UptoSaid' is the law's where the arguments, and the package variables that the reading takes, are together of bulk at most 1048576: NARROWER than '..Said'. Prove '..Said' where nothing that the law and all that it calls make is longer than what came in: it says more and counts as full. Else prove '..UptoSaid'. A law counts once. -/
mutual
def uptoBulk {H : Type} : DataW H → Nat
  | .lit (.string bytes) => bytes.length + 1
  | .lit _ => 1
  | .nil => 1
  | .ptr d => uptoBulk d + 1
  | .slice elems spare => uptoBulkAll elems + uptoBulkAll spare + 1
  | .agg parts => uptoBulkAll parts + 1
  | .iface _ d => uptoBulk d + 1
  | .map entries => uptoBulkEntries entries + 1
  | .held _ => 1
def uptoBulkAll {H : Type} : List (DataW H) → Nat
  | [] => 0
  | d :: r => uptoBulk d + uptoBulkAll r
def uptoBulkEntries {H : Type} : List (Lit × DataW H) → Nat
  | [] => 0
  | x :: r => uptoBulkEntry x + uptoBulkEntries r
def uptoBulkEntry {H : Type} : Lit × DataW H → Nat
  | (.string bytes, d) => bytes.length + uptoBulk d + 1
  | (_, d) => uptoBulk d + 1
 end
def uptoSmall : (H : Type) → List (DataW H) → Bool := fun _ ds => decide (uptoBulkAll ds ≤ 1048576)
def OpenSpec.upto (s : _root_.Go.ChangeSpec) : _root_.Go.OpenSpec := { _root_.Go.OpenSpec.ofChange s with cond := some uptoSmall }

/-- 'pedigreelaw02.TupleTotal', WHERE WHAT IT READS IS OF BULK AT MOST 1048576: true; the input reads as it did. -/
def tupleTotalUptoRow : OpenClaim := { program := "ytdfahkeodlfopaadoor", sum := "06c99deea80b4163ff537bb6853a939503c5bf76d07dd67821b64b852932b002", func := "pedigree/pedigreelaw02.TupleTotal", spec := "tupleTotal", inPlace := ["internal/abi.NoEscape", "internal/bytealg.MakeNoZero"], unfollowed := true, recurses := true, named := ["internal/strconv.uint64pow10", "math/bits.deBruijn32tab", "math/bits.deBruijn64tab"], apart := false, laid := [("math/bits.deBruijn32tab", laid_math_bits_deBruijn32tab), ("math/bits.deBruijn64tab", laid_math_bits_deBruijn64tab), ("internal/strconv.uint64pow10", laid_internal_strconv_uint64pow10)], narrowed := true }
def TupleTotalUptoSaid : Prop := tupleTotalUptoRow.holds Tryd.pinned (OpenSpec.upto tupleTotalSpec)

/-- 'pedigreelaw02.TupleBinds', WHERE WHAT IT READS IS OF BULK AT MOST 1048576: true; the input reads as it did. -/
def tupleBindsUptoRow : OpenClaim := { program := "ytdfahkeodlfopaadoor", sum := "06c99deea80b4163ff537bb6853a939503c5bf76d07dd67821b64b852932b002", func := "pedigree/pedigreelaw02.TupleBinds", spec := "tupleBinds", inPlace := ["internal/abi.NoEscape", "internal/bytealg.MakeNoZero"], unfollowed := true, recurses := true, named := ["internal/strconv.uint64pow10", "math/bits.deBruijn32tab", "math/bits.deBruijn64tab"], apart := false, laid := [("math/bits.deBruijn32tab", laid_math_bits_deBruijn32tab), ("math/bits.deBruijn64tab", laid_math_bits_deBruijn64tab), ("internal/strconv.uint64pow10", laid_internal_strconv_uint64pow10)], narrowed := true }
def TupleBindsUptoSaid : Prop := tupleBindsUptoRow.holds Tryd.pinned (OpenSpec.upto tupleBindsSpec)

/-- 'pedigreelaw02.TupleWithin', WHERE WHAT IT READS IS OF BULK AT MOST 1048576: true; the input reads as it did. -/
def tupleWithinUptoRow : OpenClaim := { program := "ytdfahkeodlfopaadoor", sum := "06c99deea80b4163ff537bb6853a939503c5bf76d07dd67821b64b852932b002", func := "pedigree/pedigreelaw02.TupleWithin", spec := "tupleWithin", inPlace := ["internal/abi.NoEscape", "internal/bytealg.MakeNoZero"], unfollowed := true, recurses := true, named := ["internal/strconv.uint64pow10", "math/bits.deBruijn32tab", "math/bits.deBruijn64tab"], apart := false, laid := [("math/bits.deBruijn32tab", laid_math_bits_deBruijn32tab), ("math/bits.deBruijn64tab", laid_math_bits_deBruijn64tab), ("internal/strconv.uint64pow10", laid_internal_strconv_uint64pow10)], narrowed := true }
def TupleWithinUptoSaid : Prop := tupleWithinUptoRow.holds Tryd.pinned (OpenSpec.upto tupleWithinSpec)

/-- 'pedigreelaw02.TupleNear', WHERE WHAT IT READS IS OF BULK AT MOST 1048576: true; the input reads as it did. -/
def tupleNearUptoRow : OpenClaim := { program := "ytdfahkeodlfopaadoor", sum := "06c99deea80b4163ff537bb6853a939503c5bf76d07dd67821b64b852932b002", func := "pedigree/pedigreelaw02.TupleNear", spec := "tupleNear", inPlace := ["internal/abi.NoEscape", "internal/bytealg.MakeNoZero"], unfollowed := true, recurses := true, named := ["internal/strconv.uint64pow10", "math/bits.deBruijn32tab", "math/bits.deBruijn64tab"], apart := false, laid := [("math/bits.deBruijn32tab", laid_math_bits_deBruijn32tab), ("math/bits.deBruijn64tab", laid_math_bits_deBruijn64tab), ("internal/strconv.uint64pow10", laid_internal_strconv_uint64pow10)], narrowed := true }
def TupleNearUptoSaid : Prop := tupleNearUptoRow.holds Tryd.pinned (OpenSpec.upto tupleNearSpec)

/-- 'pedigreelaw02.TupleMatches', WHERE WHAT IT READS IS OF BULK AT MOST 1048576: true; the input reads as it did. -/
def tupleMatchesUptoRow : OpenClaim := { program := "ytdfahkeodlfopaadoor", sum := "06c99deea80b4163ff537bb6853a939503c5bf76d07dd67821b64b852932b002", func := "pedigree/pedigreelaw02.TupleMatches", spec := "tupleMatches", inPlace := ["internal/abi.NoEscape", "internal/bytealg.MakeNoZero"], unfollowed := true, recurses := true, named := ["internal/strconv.uint64pow10", "math/bits.deBruijn32tab", "math/bits.deBruijn64tab"], apart := false, laid := [("math/bits.deBruijn32tab", laid_math_bits_deBruijn32tab), ("math/bits.deBruijn64tab", laid_math_bits_deBruijn64tab), ("internal/strconv.uint64pow10", laid_internal_strconv_uint64pow10)], narrowed := true }
def TupleMatchesUptoSaid : Prop := tupleMatchesUptoRow.holds Tryd.pinned (OpenSpec.upto tupleMatchesSpec)

/-- 'pedigreelaw02.TupleMany', WHERE WHAT IT READS IS OF BULK AT MOST 1048576: true; the input reads as it did. -/
def tupleManyUptoRow : OpenClaim := { program := "ytdfahkeodlfopaadoor", sum := "06c99deea80b4163ff537bb6853a939503c5bf76d07dd67821b64b852932b002", func := "pedigree/pedigreelaw02.TupleMany", spec := "tupleMany", inPlace := ["internal/abi.NoEscape", "internal/bytealg.MakeNoZero"], unfollowed := true, recurses := true, named := ["internal/strconv.uint64pow10", "math/bits.deBruijn32tab", "math/bits.deBruijn64tab"], apart := false, laid := [("math/bits.deBruijn32tab", laid_math_bits_deBruijn32tab), ("math/bits.deBruijn64tab", laid_math_bits_deBruijn64tab), ("internal/strconv.uint64pow10", laid_internal_strconv_uint64pow10)], narrowed := true }
def TupleManyUptoSaid : Prop := tupleManyUptoRow.holds Tryd.pinned (OpenSpec.upto tupleManySpec)

/-- 'pedigreelaw02.TupleForms', WHERE WHAT IT READS IS OF BULK AT MOST 1048576: true; the input reads as it did. -/
def tupleFormsUptoRow : OpenClaim := { program := "ytdfahkeodlfopaadoor", sum := "06c99deea80b4163ff537bb6853a939503c5bf76d07dd67821b64b852932b002", func := "pedigree/pedigreelaw02.TupleForms", spec := "tupleForms", inPlace := ["internal/abi.NoEscape", "internal/bytealg.MakeNoZero"], unfollowed := true, recurses := true, named := ["internal/strconv.uint64pow10", "math/bits.deBruijn32tab", "math/bits.deBruijn64tab"], apart := false, laid := [("math/bits.deBruijn32tab", laid_math_bits_deBruijn32tab), ("math/bits.deBruijn64tab", laid_math_bits_deBruijn64tab), ("internal/strconv.uint64pow10", laid_internal_strconv_uint64pow10)], narrowed := true }
def TupleFormsUptoSaid : Prop := tupleFormsUptoRow.holds Tryd.pinned (OpenSpec.upto tupleFormsSpec)

/-- 'pedigreelaw02.TupleRows', WHERE WHAT IT READS IS OF BULK AT MOST 1048576: true; the input reads as it did. -/
def tupleRowsUptoRow : OpenClaim := { program := "ytdfahkeodlfopaadoor", sum := "06c99deea80b4163ff537bb6853a939503c5bf76d07dd67821b64b852932b002", func := "pedigree/pedigreelaw02.TupleRows", spec := "tupleRows", inPlace := ["internal/abi.NoEscape", "internal/bytealg.MakeNoZero"], unfollowed := true, recurses := true, named := ["internal/strconv.uint64pow10", "math/bits.deBruijn32tab", "math/bits.deBruijn64tab"], apart := false, laid := [("math/bits.deBruijn32tab", laid_math_bits_deBruijn32tab), ("math/bits.deBruijn64tab", laid_math_bits_deBruijn64tab), ("internal/strconv.uint64pow10", laid_internal_strconv_uint64pow10)], narrowed := true }
def TupleRowsUptoSaid : Prop := tupleRowsUptoRow.holds Tryd.pinned (OpenSpec.upto tupleRowsSpec)

/-- 'pedigreelaw02.TupleSets', WHERE WHAT IT READS IS OF BULK AT MOST 1048576: true; the input reads as it did. -/
def tupleSetsUptoRow : OpenClaim := { program := "ytdfahkeodlfopaadoor", sum := "06c99deea80b4163ff537bb6853a939503c5bf76d07dd67821b64b852932b002", func := "pedigree/pedigreelaw02.TupleSets", spec := "tupleSets", inPlace := ["internal/abi.NoEscape", "internal/bytealg.MakeNoZero"], unfollowed := true, recurses := true, named := ["internal/strconv.uint64pow10", "math/bits.deBruijn32tab", "math/bits.deBruijn64tab"], apart := false, laid := [("math/bits.deBruijn32tab", laid_math_bits_deBruijn32tab), ("math/bits.deBruijn64tab", laid_math_bits_deBruijn64tab), ("internal/strconv.uint64pow10", laid_internal_strconv_uint64pow10)], narrowed := true }
def TupleSetsUptoSaid : Prop := tupleSetsUptoRow.holds Tryd.pinned (OpenSpec.upto tupleSetsSpec)

/-- 'pedigreelaw02.TupleChange', WHERE WHAT IT READS IS OF BULK AT MOST 1048576: true; the input reads as it did. -/
def tupleChangeUptoRow : OpenClaim := { program := "ytdfahkeodlfopaadoor", sum := "06c99deea80b4163ff537bb6853a939503c5bf76d07dd67821b64b852932b002", func := "pedigree/pedigreelaw02.TupleChange", spec := "tupleChange", inPlace := ["internal/abi.NoEscape", "internal/bytealg.MakeNoZero"], unfollowed := true, recurses := true, named := ["internal/strconv.uint64pow10", "math/bits.deBruijn32tab", "math/bits.deBruijn64tab"], apart := false, laid := [("math/bits.deBruijn32tab", laid_math_bits_deBruijn32tab), ("math/bits.deBruijn64tab", laid_math_bits_deBruijn64tab), ("internal/strconv.uint64pow10", laid_internal_strconv_uint64pow10)], narrowed := true }
def TupleChangeUptoSaid : Prop := tupleChangeUptoRow.holds Tryd.pinned (OpenSpec.upto tupleChangeSpec)

/-- 'pedigreelaw02.TupleBack', WHERE WHAT IT READS IS OF BULK AT MOST 1048576: true; the input reads as it did. -/
def tupleBackUptoRow : OpenClaim := { program := "ytdfahkeodlfopaadoor", sum := "06c99deea80b4163ff537bb6853a939503c5bf76d07dd67821b64b852932b002", func := "pedigree/pedigreelaw02.TupleBack", spec := "tupleBack", inPlace := ["internal/abi.NoEscape", "internal/bytealg.MakeNoZero"], unfollowed := true, recurses := true, named := ["internal/strconv.uint64pow10", "math/bits.deBruijn32tab", "math/bits.deBruijn64tab", "strconv.ErrSyntax", "strconv.ErrRange"], apart := false, laid := [("math/bits.deBruijn32tab", laid_math_bits_deBruijn32tab), ("math/bits.deBruijn64tab", laid_math_bits_deBruijn64tab), ("internal/strconv.uint64pow10", laid_internal_strconv_uint64pow10), ("strconv.ErrRange", laid_strconv_ErrRange), ("strconv.ErrSyntax", laid_strconv_ErrSyntax)], narrowed := true }
def TupleBackUptoSaid : Prop := tupleBackUptoRow.holds Tryd.pinned (OpenSpec.upto tupleBackSpec)

end Rows
end Go.Proofs.YtdfahkeodlfopaaDoor
