/-
  NARROWER THAN 'FOR EVERY INPUT', by the rows' own cells (each row's printed sentence says how): TermTyped: loops, laid · TermEtas: loops, laid · TermSubsts: loops, laid · TermTypes: loops, laid · TermMoves: loops, laid · TermOne: loops, laid · TermSwaps: loops, laid · TermExpands: loops, laid · TermShifted: loops, laid · TermStays: loops, laid · TermOrders: loops, laid · TermLooks: loops, laid · TermTexts: loops, laid · TermBack: loops, laid.
  DERIVED. THE GIVEN ROWS OF THIS SEAT. 14 by the template 'for every input the law returns true; each argument reads behind the call as it read before'; 0 by the template 'total and deterministic' (their statements: YtpgbeapojjinmaaGreatDoorTotals.lean).
  GIVEN WITH THE SEED: the statements are not yours to turn. If you find one false, say at which input.
  Laid BY PROGRAM, IN A SANDBOX (cutbox-rows.mjs): the forced cells as the released guide's own fill.sh prints them over the translation 2895605f6c1ce05c… (all of the seat's roots in one cut). By AI agents, Wed Nov 11 2026. No macro, syntax, notation, axiom, sorry.
-/
import Derived.Test.YtpgbeapojjinmaaGreatDoorChecked
import GoSem.Claim
import GoSem.ClaimJoined
import GoSem.ClaimMapViews
import Derived.JoinedTies
import Derived.KernelRfl
namespace Go.Proofs.YtpgbeapojjinmaaGreatDoor
/- THE CELL 'sum', in the pinned program and in every row, IS THE sha256 OF THE DUMP (.gsa) THAT YtpgbeapojjinmaaGreatDoorProg.lean LOADS. Nothing in Lean hashes anything: it is a label: what it is worth is what the hold of that sum in a sandbox is worth. -/
noncomputable def Tryz.pinned : Pinned := { name := "ytpgbeapojjinmaagreatdoor", sum := "2895605f6c1ce05c23a0a8a6f8d95b28f5764a27a44579e6675f07f7151d39c4", checked := Tryz.checked }
namespace Rows
def none {H : Type} : Left H := { results := [], args := [] }

/- WHAT THE LISTED PACKAGE-LEVEL VARIABLES READ AS WHEN THE CALL BEGINS. Each datum BY PROGRAM (the guide's laid-datum.mjs) off the statement by which the dump's own 'gosem.cut.vars' lays the variable. In a bare row this is a premise. The card (YtpgbeapojjinmaaGreatDoorCards.lean) ties it to the program's text. -/
def laid_math_bits_deBruijn32tab {H : Type} : DataW H := .agg [.lit (.int .u8 0), .lit (.int .u8 1), .lit (.int .u8 28), .lit (.int .u8 2), .lit (.int .u8 29), .lit (.int .u8 14), .lit (.int .u8 24), .lit (.int .u8 3), .lit (.int .u8 30), .lit (.int .u8 22), .lit (.int .u8 20), .lit (.int .u8 15), .lit (.int .u8 25), .lit (.int .u8 17), .lit (.int .u8 4), .lit (.int .u8 8), .lit (.int .u8 31), .lit (.int .u8 27), .lit (.int .u8 13), .lit (.int .u8 23), .lit (.int .u8 21), .lit (.int .u8 19), .lit (.int .u8 16), .lit (.int .u8 7), .lit (.int .u8 26), .lit (.int .u8 12), .lit (.int .u8 18), .lit (.int .u8 6), .lit (.int .u8 11), .lit (.int .u8 5), .lit (.int .u8 10), .lit (.int .u8 9)]
def laid_math_bits_deBruijn64tab {H : Type} : DataW H := .agg [.lit (.int .u8 0), .lit (.int .u8 1), .lit (.int .u8 56), .lit (.int .u8 2), .lit (.int .u8 57), .lit (.int .u8 49), .lit (.int .u8 28), .lit (.int .u8 3), .lit (.int .u8 61), .lit (.int .u8 58), .lit (.int .u8 42), .lit (.int .u8 50), .lit (.int .u8 38), .lit (.int .u8 29), .lit (.int .u8 17), .lit (.int .u8 4), .lit (.int .u8 62), .lit (.int .u8 47), .lit (.int .u8 59), .lit (.int .u8 36), .lit (.int .u8 45), .lit (.int .u8 43), .lit (.int .u8 51), .lit (.int .u8 22), .lit (.int .u8 53), .lit (.int .u8 39), .lit (.int .u8 33), .lit (.int .u8 30), .lit (.int .u8 24), .lit (.int .u8 18), .lit (.int .u8 12), .lit (.int .u8 5), .lit (.int .u8 63), .lit (.int .u8 55), .lit (.int .u8 48), .lit (.int .u8 27), .lit (.int .u8 60), .lit (.int .u8 41), .lit (.int .u8 37), .lit (.int .u8 16), .lit (.int .u8 46), .lit (.int .u8 35), .lit (.int .u8 44), .lit (.int .u8 21), .lit (.int .u8 52), .lit (.int .u8 32), .lit (.int .u8 23), .lit (.int .u8 11), .lit (.int .u8 54), .lit (.int .u8 26), .lit (.int .u8 40), .lit (.int .u8 15), .lit (.int .u8 34), .lit (.int .u8 20), .lit (.int .u8 31), .lit (.int .u8 10), .lit (.int .u8 25), .lit (.int .u8 14), .lit (.int .u8 19), .lit (.int .u8 9), .lit (.int .u8 13), .lit (.int .u8 8), .lit (.int .u8 7), .lit (.int .u8 6)]
def laid_internal_strconv_uint64pow10 {H : Type} : DataW H := .agg [.lit (.int .u64 1), .lit (.int .u64 10), .lit (.int .u64 100), .lit (.int .u64 1000), .lit (.int .u64 10000), .lit (.int .u64 100000), .lit (.int .u64 1000000), .lit (.int .u64 10000000), .lit (.int .u64 100000000), .lit (.int .u64 1000000000), .lit (.int .u64 10000000000), .lit (.int .u64 100000000000), .lit (.int .u64 1000000000000), .lit (.int .u64 10000000000000), .lit (.int .u64 100000000000000), .lit (.int .u64 1000000000000000), .lit (.int .u64 10000000000000000), .lit (.int .u64 100000000000000000), .lit (.int .u64 1000000000000000000), .lit (.int .u64 10000000000000000000)]
def laid_strconv_ErrRange {H : Type} : DataW H := .iface "*errors.errorString" (.ptr (.agg [.lit (.string [118, 97, 108, 117, 101, 32, 111, 117, 116, 32, 111, 102, 32, 114, 97, 110, 103, 101])]))
def laid_strconv_ErrSyntax {H : Type} : DataW H := .iface "*errors.errorString" (.ptr (.agg [.lit (.string [105, 110, 118, 97, 108, 105, 100, 32, 115, 121, 110, 116, 97, 120])]))

/-- 'peculiumlaw04.TermTyped': WHATEVER THE INPUT: true; the input reads as it did. -/
def termTypedSpec : ChangeSpec := { name := "termTyped", fn := fun _ => fun
  | [d] => { results := [.lit (.bool true)], args := [d] }
  | _ => none }
def termTypedRow : OpenClaim := { program := "ytpgbeapojjinmaagreatdoor", sum := "2895605f6c1ce05c23a0a8a6f8d95b28f5764a27a44579e6675f07f7151d39c4", func := "peculium/peculiumlaw04.TermTyped", spec := "termTyped", inPlace := ["internal/bytealg.IndexByteString", "internal/abi.NoEscape", "internal/bytealg.MakeNoZero"], unfollowed := true, recurses := true, named := ["internal/strconv.uint64pow10", "math/bits.deBruijn32tab", "math/bits.deBruijn64tab"], loops := true, plainKeys := false, apart := false, laid := [("math/bits.deBruijn32tab", laid_math_bits_deBruijn32tab), ("math/bits.deBruijn64tab", laid_math_bits_deBruijn64tab), ("internal/strconv.uint64pow10", laid_internal_strconv_uint64pow10)] }
def TermTypedSaid : Prop := termTypedRow.holds Tryz.pinned (OpenSpec.ofChange termTypedSpec)

/-- ITS FALSE NEIGHBOUR: 'it returns false'. Refute it at one input. -/
def termTypedWrong : ChangeSpec := { name := "termTyped", fn := fun _ => fun
  | [d] => { results := [.lit (.bool false)], args := [d] }
  | _ => none }
def TermTypedWrongFalsely : Prop := termTypedRow.holds Tryz.pinned (OpenSpec.ofChange termTypedWrong)

/-- 'peculiumlaw04.TermEtas': WHATEVER THE INPUT: true; the input reads as it did. -/
def termEtasSpec : ChangeSpec := { name := "termEtas", fn := fun _ => fun
  | [d1, d2] => { results := [.lit (.bool true)], args := [d1, d2] }
  | _ => none }
def termEtasRow : OpenClaim := { program := "ytpgbeapojjinmaagreatdoor", sum := "2895605f6c1ce05c23a0a8a6f8d95b28f5764a27a44579e6675f07f7151d39c4", func := "peculium/peculiumlaw04.TermEtas", spec := "termEtas", inPlace := ["internal/bytealg.IndexByteString", "internal/abi.NoEscape", "internal/bytealg.MakeNoZero"], unfollowed := true, recurses := true, named := ["internal/strconv.uint64pow10", "math/bits.deBruijn32tab", "math/bits.deBruijn64tab"], loops := true, plainKeys := false, apart := false, laid := [("math/bits.deBruijn32tab", laid_math_bits_deBruijn32tab), ("math/bits.deBruijn64tab", laid_math_bits_deBruijn64tab), ("internal/strconv.uint64pow10", laid_internal_strconv_uint64pow10)] }
def TermEtasSaid : Prop := termEtasRow.holds Tryz.pinned (OpenSpec.ofChange termEtasSpec)

/-- ITS FALSE NEIGHBOUR: 'it returns false'. Refute it at one input. -/
def termEtasWrong : ChangeSpec := { name := "termEtas", fn := fun _ => fun
  | [d1, d2] => { results := [.lit (.bool false)], args := [d1, d2] }
  | _ => none }
def TermEtasWrongFalsely : Prop := termEtasRow.holds Tryz.pinned (OpenSpec.ofChange termEtasWrong)

/-- 'peculiumlaw04.TermSubsts': WHATEVER THE INPUT: true; the input reads as it did. -/
def termSubstsSpec : ChangeSpec := { name := "termSubsts", fn := fun _ => fun
  | [d1, d2, d3] => { results := [.lit (.bool true)], args := [d1, d2, d3] }
  | _ => none }
def termSubstsRow : OpenClaim := { program := "ytpgbeapojjinmaagreatdoor", sum := "2895605f6c1ce05c23a0a8a6f8d95b28f5764a27a44579e6675f07f7151d39c4", func := "peculium/peculiumlaw04.TermSubsts", spec := "termSubsts", inPlace := ["internal/bytealg.IndexByteString", "internal/abi.NoEscape", "internal/bytealg.MakeNoZero"], unfollowed := true, recurses := true, named := ["internal/strconv.uint64pow10", "math/bits.deBruijn32tab", "math/bits.deBruijn64tab"], loops := true, plainKeys := false, apart := false, laid := [("math/bits.deBruijn32tab", laid_math_bits_deBruijn32tab), ("math/bits.deBruijn64tab", laid_math_bits_deBruijn64tab), ("internal/strconv.uint64pow10", laid_internal_strconv_uint64pow10)] }
def TermSubstsSaid : Prop := termSubstsRow.holds Tryz.pinned (OpenSpec.ofChange termSubstsSpec)

/-- ITS FALSE NEIGHBOUR: 'it returns false'. Refute it at one input. -/
def termSubstsWrong : ChangeSpec := { name := "termSubsts", fn := fun _ => fun
  | [d1, d2, d3] => { results := [.lit (.bool false)], args := [d1, d2, d3] }
  | _ => none }
def TermSubstsWrongFalsely : Prop := termSubstsRow.holds Tryz.pinned (OpenSpec.ofChange termSubstsWrong)

/-- 'peculiumlaw04.TermTypes': WHATEVER THE INPUT: true; the input reads as it did. -/
def termTypesSpec : ChangeSpec := { name := "termTypes", fn := fun _ => fun
  | [d1, d2, d3] => { results := [.lit (.bool true)], args := [d1, d2, d3] }
  | _ => none }
def termTypesRow : OpenClaim := { program := "ytpgbeapojjinmaagreatdoor", sum := "2895605f6c1ce05c23a0a8a6f8d95b28f5764a27a44579e6675f07f7151d39c4", func := "peculium/peculiumlaw04.TermTypes", spec := "termTypes", inPlace := ["internal/bytealg.IndexByteString", "internal/abi.NoEscape", "internal/bytealg.MakeNoZero"], unfollowed := true, recurses := true, named := ["internal/strconv.uint64pow10", "math/bits.deBruijn32tab", "math/bits.deBruijn64tab"], loops := true, plainKeys := false, apart := false, laid := [("math/bits.deBruijn32tab", laid_math_bits_deBruijn32tab), ("math/bits.deBruijn64tab", laid_math_bits_deBruijn64tab), ("internal/strconv.uint64pow10", laid_internal_strconv_uint64pow10)] }
def TermTypesSaid : Prop := termTypesRow.holds Tryz.pinned (OpenSpec.ofChange termTypesSpec)

/-- ITS FALSE NEIGHBOUR: 'it returns false'. Refute it at one input. -/
def termTypesWrong : ChangeSpec := { name := "termTypes", fn := fun _ => fun
  | [d1, d2, d3] => { results := [.lit (.bool false)], args := [d1, d2, d3] }
  | _ => none }
def TermTypesWrongFalsely : Prop := termTypesRow.holds Tryz.pinned (OpenSpec.ofChange termTypesWrong)

/-- 'peculiumlaw04.TermMoves': WHATEVER THE INPUT: true; the input reads as it did. -/
def termMovesSpec : ChangeSpec := { name := "termMoves", fn := fun _ => fun
  | [d1, d2, d3] => { results := [.lit (.bool true)], args := [d1, d2, d3] }
  | _ => none }
def termMovesRow : OpenClaim := { program := "ytpgbeapojjinmaagreatdoor", sum := "2895605f6c1ce05c23a0a8a6f8d95b28f5764a27a44579e6675f07f7151d39c4", func := "peculium/peculiumlaw04.TermMoves", spec := "termMoves", inPlace := ["internal/bytealg.IndexByteString", "internal/abi.NoEscape", "internal/bytealg.MakeNoZero"], unfollowed := true, recurses := true, named := ["internal/strconv.uint64pow10", "math/bits.deBruijn32tab", "math/bits.deBruijn64tab"], loops := true, plainKeys := false, apart := false, laid := [("math/bits.deBruijn32tab", laid_math_bits_deBruijn32tab), ("math/bits.deBruijn64tab", laid_math_bits_deBruijn64tab), ("internal/strconv.uint64pow10", laid_internal_strconv_uint64pow10)] }
def TermMovesSaid : Prop := termMovesRow.holds Tryz.pinned (OpenSpec.ofChange termMovesSpec)

/-- ITS FALSE NEIGHBOUR: 'it returns false'. Refute it at one input. -/
def termMovesWrong : ChangeSpec := { name := "termMoves", fn := fun _ => fun
  | [d1, d2, d3] => { results := [.lit (.bool false)], args := [d1, d2, d3] }
  | _ => none }
def TermMovesWrongFalsely : Prop := termMovesRow.holds Tryz.pinned (OpenSpec.ofChange termMovesWrong)

/-- 'peculiumlaw04.TermOne': WHATEVER THE INPUT: true; the input reads as it did. -/
def termOneSpec : ChangeSpec := { name := "termOne", fn := fun _ => fun
  | [d1, d2, d3] => { results := [.lit (.bool true)], args := [d1, d2, d3] }
  | _ => none }
def termOneRow : OpenClaim := { program := "ytpgbeapojjinmaagreatdoor", sum := "2895605f6c1ce05c23a0a8a6f8d95b28f5764a27a44579e6675f07f7151d39c4", func := "peculium/peculiumlaw04.TermOne", spec := "termOne", inPlace := ["internal/bytealg.IndexByteString", "internal/abi.NoEscape", "internal/bytealg.MakeNoZero"], unfollowed := true, recurses := true, named := ["internal/strconv.uint64pow10", "math/bits.deBruijn32tab", "math/bits.deBruijn64tab"], loops := true, plainKeys := false, apart := false, laid := [("math/bits.deBruijn32tab", laid_math_bits_deBruijn32tab), ("math/bits.deBruijn64tab", laid_math_bits_deBruijn64tab), ("internal/strconv.uint64pow10", laid_internal_strconv_uint64pow10)] }
def TermOneSaid : Prop := termOneRow.holds Tryz.pinned (OpenSpec.ofChange termOneSpec)

/-- ITS FALSE NEIGHBOUR: 'it returns false'. Refute it at one input. -/
def termOneWrong : ChangeSpec := { name := "termOne", fn := fun _ => fun
  | [d1, d2, d3] => { results := [.lit (.bool false)], args := [d1, d2, d3] }
  | _ => none }
def TermOneWrongFalsely : Prop := termOneRow.holds Tryz.pinned (OpenSpec.ofChange termOneWrong)

/-- 'peculiumlaw04.TermSwaps': WHATEVER THE INPUT: true; the input reads as it did. -/
def termSwapsSpec : ChangeSpec := { name := "termSwaps", fn := fun _ => fun
  | [d] => { results := [.lit (.bool true)], args := [d] }
  | _ => none }
def termSwapsRow : OpenClaim := { program := "ytpgbeapojjinmaagreatdoor", sum := "2895605f6c1ce05c23a0a8a6f8d95b28f5764a27a44579e6675f07f7151d39c4", func := "peculium/peculiumlaw04.TermSwaps", spec := "termSwaps", inPlace := ["internal/bytealg.IndexByteString", "internal/abi.NoEscape", "internal/bytealg.MakeNoZero", "internal/bytealg.abigen_runtime_cmpstring"], unfollowed := true, recurses := true, named := ["internal/strconv.uint64pow10", "math/bits.deBruijn32tab", "math/bits.deBruijn64tab"], loops := true, plainKeys := false, apart := false, laid := [("math/bits.deBruijn32tab", laid_math_bits_deBruijn32tab), ("math/bits.deBruijn64tab", laid_math_bits_deBruijn64tab), ("internal/strconv.uint64pow10", laid_internal_strconv_uint64pow10)] }
def TermSwapsSaid : Prop := termSwapsRow.holds Tryz.pinned (OpenSpec.ofChange termSwapsSpec)

/-- ITS FALSE NEIGHBOUR: 'it returns false'. Refute it at one input. -/
def termSwapsWrong : ChangeSpec := { name := "termSwaps", fn := fun _ => fun
  | [d] => { results := [.lit (.bool false)], args := [d] }
  | _ => none }
def TermSwapsWrongFalsely : Prop := termSwapsRow.holds Tryz.pinned (OpenSpec.ofChange termSwapsWrong)

/-- 'peculiumlaw04.TermExpands': WHATEVER THE INPUT: true; the input reads as it did. -/
def termExpandsSpec : ChangeSpec := { name := "termExpands", fn := fun _ => fun
  | [d] => { results := [.lit (.bool true)], args := [d] }
  | _ => none }
def termExpandsRow : OpenClaim := { program := "ytpgbeapojjinmaagreatdoor", sum := "2895605f6c1ce05c23a0a8a6f8d95b28f5764a27a44579e6675f07f7151d39c4", func := "peculium/peculiumlaw04.TermExpands", spec := "termExpands", inPlace := ["internal/bytealg.IndexByteString", "internal/abi.NoEscape", "internal/bytealg.MakeNoZero", "internal/bytealg.abigen_runtime_cmpstring"], unfollowed := true, recurses := true, named := ["internal/strconv.uint64pow10", "math/bits.deBruijn32tab", "math/bits.deBruijn64tab"], loops := true, plainKeys := false, apart := false, laid := [("math/bits.deBruijn32tab", laid_math_bits_deBruijn32tab), ("math/bits.deBruijn64tab", laid_math_bits_deBruijn64tab), ("internal/strconv.uint64pow10", laid_internal_strconv_uint64pow10)] }
def TermExpandsSaid : Prop := termExpandsRow.holds Tryz.pinned (OpenSpec.ofChange termExpandsSpec)

/-- ITS FALSE NEIGHBOUR: 'it returns false'. Refute it at one input. -/
def termExpandsWrong : ChangeSpec := { name := "termExpands", fn := fun _ => fun
  | [d] => { results := [.lit (.bool false)], args := [d] }
  | _ => none }
def TermExpandsWrongFalsely : Prop := termExpandsRow.holds Tryz.pinned (OpenSpec.ofChange termExpandsWrong)

/-- 'peculiumlaw04.TermShifted': WHATEVER THE INPUT: true; the input reads as it did. -/
def termShiftedSpec : ChangeSpec := { name := "termShifted", fn := fun _ => fun
  | [d1, d2, d3] => { results := [.lit (.bool true)], args := [d1, d2, d3] }
  | _ => none }
def termShiftedRow : OpenClaim := { program := "ytpgbeapojjinmaagreatdoor", sum := "2895605f6c1ce05c23a0a8a6f8d95b28f5764a27a44579e6675f07f7151d39c4", func := "peculium/peculiumlaw04.TermShifted", spec := "termShifted", inPlace := ["internal/bytealg.IndexByteString", "internal/abi.NoEscape", "internal/bytealg.MakeNoZero", "internal/bytealg.abigen_runtime_cmpstring"], unfollowed := true, recurses := true, named := ["internal/strconv.uint64pow10", "math/bits.deBruijn32tab", "math/bits.deBruijn64tab"], loops := true, plainKeys := false, apart := false, laid := [("math/bits.deBruijn32tab", laid_math_bits_deBruijn32tab), ("math/bits.deBruijn64tab", laid_math_bits_deBruijn64tab), ("internal/strconv.uint64pow10", laid_internal_strconv_uint64pow10)] }
def TermShiftedSaid : Prop := termShiftedRow.holds Tryz.pinned (OpenSpec.ofChange termShiftedSpec)

/-- ITS FALSE NEIGHBOUR: 'it returns false'. Refute it at one input. -/
def termShiftedWrong : ChangeSpec := { name := "termShifted", fn := fun _ => fun
  | [d1, d2, d3] => { results := [.lit (.bool false)], args := [d1, d2, d3] }
  | _ => none }
def TermShiftedWrongFalsely : Prop := termShiftedRow.holds Tryz.pinned (OpenSpec.ofChange termShiftedWrong)

/-- 'peculiumlaw04.TermStays': WHATEVER THE INPUT: true; the input reads as it did. -/
def termStaysSpec : ChangeSpec := { name := "termStays", fn := fun _ => fun
  | [d] => { results := [.lit (.bool true)], args := [d] }
  | _ => none }
def termStaysRow : OpenClaim := { program := "ytpgbeapojjinmaagreatdoor", sum := "2895605f6c1ce05c23a0a8a6f8d95b28f5764a27a44579e6675f07f7151d39c4", func := "peculium/peculiumlaw04.TermStays", spec := "termStays", inPlace := ["internal/bytealg.IndexByteString", "internal/abi.NoEscape", "internal/bytealg.MakeNoZero", "internal/bytealg.abigen_runtime_cmpstring"], unfollowed := true, recurses := true, named := ["internal/strconv.uint64pow10", "math/bits.deBruijn32tab", "math/bits.deBruijn64tab"], loops := true, plainKeys := false, apart := false, laid := [("math/bits.deBruijn32tab", laid_math_bits_deBruijn32tab), ("math/bits.deBruijn64tab", laid_math_bits_deBruijn64tab), ("internal/strconv.uint64pow10", laid_internal_strconv_uint64pow10)] }
def TermStaysSaid : Prop := termStaysRow.holds Tryz.pinned (OpenSpec.ofChange termStaysSpec)

/-- ITS FALSE NEIGHBOUR: 'it returns false'. Refute it at one input. -/
def termStaysWrong : ChangeSpec := { name := "termStays", fn := fun _ => fun
  | [d] => { results := [.lit (.bool false)], args := [d] }
  | _ => none }
def TermStaysWrongFalsely : Prop := termStaysRow.holds Tryz.pinned (OpenSpec.ofChange termStaysWrong)

/-- 'peculiumlaw04.TermOrders': WHATEVER THE INPUT: true; the input reads as it did. -/
def termOrdersSpec : ChangeSpec := { name := "termOrders", fn := fun _ => fun
  | [d1, d2, d3] => { results := [.lit (.bool true)], args := [d1, d2, d3] }
  | _ => none }
def termOrdersRow : OpenClaim := { program := "ytpgbeapojjinmaagreatdoor", sum := "2895605f6c1ce05c23a0a8a6f8d95b28f5764a27a44579e6675f07f7151d39c4", func := "peculium/peculiumlaw04.TermOrders", spec := "termOrders", inPlace := ["internal/bytealg.IndexByteString", "internal/abi.NoEscape", "internal/bytealg.MakeNoZero", "internal/bytealg.abigen_runtime_cmpstring"], unfollowed := true, recurses := true, named := ["internal/strconv.uint64pow10", "math/bits.deBruijn32tab", "math/bits.deBruijn64tab"], loops := true, plainKeys := false, apart := false, laid := [("math/bits.deBruijn32tab", laid_math_bits_deBruijn32tab), ("math/bits.deBruijn64tab", laid_math_bits_deBruijn64tab), ("internal/strconv.uint64pow10", laid_internal_strconv_uint64pow10)] }
def TermOrdersSaid : Prop := termOrdersRow.holds Tryz.pinned (OpenSpec.ofChange termOrdersSpec)

/-- ITS FALSE NEIGHBOUR: 'it returns false'. Refute it at one input. -/
def termOrdersWrong : ChangeSpec := { name := "termOrders", fn := fun _ => fun
  | [d1, d2, d3] => { results := [.lit (.bool false)], args := [d1, d2, d3] }
  | _ => none }
def TermOrdersWrongFalsely : Prop := termOrdersRow.holds Tryz.pinned (OpenSpec.ofChange termOrdersWrong)

/-- 'peculiumlaw04.TermLooks': WHATEVER THE INPUT: true; the input reads as it did. -/
def termLooksSpec : ChangeSpec := { name := "termLooks", fn := fun _ => fun
  | [d1, d2, d3] => { results := [.lit (.bool true)], args := [d1, d2, d3] }
  | _ => none }
def termLooksRow : OpenClaim := { program := "ytpgbeapojjinmaagreatdoor", sum := "2895605f6c1ce05c23a0a8a6f8d95b28f5764a27a44579e6675f07f7151d39c4", func := "peculium/peculiumlaw04.TermLooks", spec := "termLooks", inPlace := ["internal/bytealg.IndexByteString", "internal/abi.NoEscape", "internal/bytealg.MakeNoZero", "internal/bytealg.abigen_runtime_cmpstring"], unfollowed := true, recurses := true, named := ["internal/strconv.uint64pow10", "math/bits.deBruijn32tab", "math/bits.deBruijn64tab"], loops := true, plainKeys := false, apart := false, laid := [("math/bits.deBruijn32tab", laid_math_bits_deBruijn32tab), ("math/bits.deBruijn64tab", laid_math_bits_deBruijn64tab), ("internal/strconv.uint64pow10", laid_internal_strconv_uint64pow10)] }
def TermLooksSaid : Prop := termLooksRow.holds Tryz.pinned (OpenSpec.ofChange termLooksSpec)

/-- ITS FALSE NEIGHBOUR: 'it returns false'. Refute it at one input. -/
def termLooksWrong : ChangeSpec := { name := "termLooks", fn := fun _ => fun
  | [d1, d2, d3] => { results := [.lit (.bool false)], args := [d1, d2, d3] }
  | _ => none }
def TermLooksWrongFalsely : Prop := termLooksRow.holds Tryz.pinned (OpenSpec.ofChange termLooksWrong)

/-- 'peculiumlaw04.TermTexts': WHATEVER THE INPUT: true; the input reads as it did. -/
def termTextsSpec : ChangeSpec := { name := "termTexts", fn := fun _ => fun
  | [d1, d2] => { results := [.lit (.bool true)], args := [d1, d2] }
  | _ => none }
def termTextsRow : OpenClaim := { program := "ytpgbeapojjinmaagreatdoor", sum := "2895605f6c1ce05c23a0a8a6f8d95b28f5764a27a44579e6675f07f7151d39c4", func := "peculium/peculiumlaw04.TermTexts", spec := "termTexts", inPlace := ["internal/bytealg.IndexByteString", "internal/abi.NoEscape", "internal/bytealg.MakeNoZero"], unfollowed := true, recurses := true, named := ["internal/strconv.uint64pow10", "math/bits.deBruijn32tab", "math/bits.deBruijn64tab", "strconv.ErrSyntax", "strconv.ErrRange"], loops := true, plainKeys := false, apart := false, laid := [("math/bits.deBruijn32tab", laid_math_bits_deBruijn32tab), ("math/bits.deBruijn64tab", laid_math_bits_deBruijn64tab), ("internal/strconv.uint64pow10", laid_internal_strconv_uint64pow10), ("strconv.ErrRange", laid_strconv_ErrRange), ("strconv.ErrSyntax", laid_strconv_ErrSyntax)] }
def TermTextsSaid : Prop := termTextsRow.holds Tryz.pinned (OpenSpec.ofChange termTextsSpec)

/-- ITS FALSE NEIGHBOUR: 'it returns false'. Refute it at one input. -/
def termTextsWrong : ChangeSpec := { name := "termTexts", fn := fun _ => fun
  | [d1, d2] => { results := [.lit (.bool false)], args := [d1, d2] }
  | _ => none }
def TermTextsWrongFalsely : Prop := termTextsRow.holds Tryz.pinned (OpenSpec.ofChange termTextsWrong)

/-- 'peculiumlaw04.TermBack': WHATEVER THE INPUT: true; the input reads as it did. -/
def termBackSpec : ChangeSpec := { name := "termBack", fn := fun _ => fun
  | [d1, d2] => { results := [.lit (.bool true)], args := [d1, d2] }
  | _ => none }
def termBackRow : OpenClaim := { program := "ytpgbeapojjinmaagreatdoor", sum := "2895605f6c1ce05c23a0a8a6f8d95b28f5764a27a44579e6675f07f7151d39c4", func := "peculium/peculiumlaw04.TermBack", spec := "termBack", inPlace := ["internal/bytealg.IndexByteString", "internal/abi.NoEscape", "internal/bytealg.MakeNoZero", "internal/bytealg.abigen_runtime_cmpstring"], unfollowed := true, recurses := true, named := ["internal/strconv.uint64pow10", "math/bits.deBruijn32tab", "math/bits.deBruijn64tab", "strconv.ErrSyntax", "strconv.ErrRange"], loops := true, plainKeys := false, apart := false, laid := [("math/bits.deBruijn32tab", laid_math_bits_deBruijn32tab), ("math/bits.deBruijn64tab", laid_math_bits_deBruijn64tab), ("internal/strconv.uint64pow10", laid_internal_strconv_uint64pow10), ("strconv.ErrRange", laid_strconv_ErrRange), ("strconv.ErrSyntax", laid_strconv_ErrSyntax)] }
def TermBackSaid : Prop := termBackRow.holds Tryz.pinned (OpenSpec.ofChange termBackSpec)

/-- ITS FALSE NEIGHBOUR: 'it returns false'. Refute it at one input. -/
def termBackWrong : ChangeSpec := { name := "termBack", fn := fun _ => fun
  | [d1, d2] => { results := [.lit (.bool false)], args := [d1, d2] }
  | _ => none }
def TermBackWrongFalsely : Prop := termBackRow.holds Tryz.pinned (OpenSpec.ofChange termBackWrong)

/- THE SECOND FORM. 'bulk': how many values and letters a reading holds, each counted each time it is reached (what is shared counts as often as it is met; a slice's spare places count too). A statement '..UptoSaid' is the law's where the arguments, and the package variables that the reading takes, are together of bulk at most 1048576: NARROWER than '..Said'. Prove '..Said' where nothing that the law and all that it calls make is longer than what came in: it says more and counts as full. Else prove '..UptoSaid'. A law counts once. -/
mutual
def uptoBulk {H : Type} : DataW H → Nat
  | .lit (.string bytes) => bytes.length + 1
  | .lit _ => 1
  | .nil => 1
  | .ptr d => uptoBulk d + 1
  | .slice elems spare => uptoBulkAll elems + uptoBulkAll spare + 1
  | .agg parts => uptoBulkAll parts + 1
  | .iface _ d => uptoBulk d + 1
  | .map entries => uptoBulkEntries entries + 1
  | .held _ => 1
def uptoBulkAll {H : Type} : List (DataW H) → Nat
  | [] => 0
  | d :: r => uptoBulk d + uptoBulkAll r
def uptoBulkEntries {H : Type} : List (Lit × DataW H) → Nat
  | [] => 0
  | x :: r => uptoBulkEntry x + uptoBulkEntries r
def uptoBulkEntry {H : Type} : Lit × DataW H → Nat
  | (.string bytes, d) => bytes.length + uptoBulk d + 1
  | (_, d) => uptoBulk d + 1
 end
def uptoSmall : (H : Type) → List (DataW H) → Bool := fun _ ds => decide (uptoBulkAll ds ≤ 1048576)
def OpenSpec.upto (s : _root_.Go.ChangeSpec) : _root_.Go.OpenSpec := { _root_.Go.OpenSpec.ofChange s with cond := some uptoSmall }

/-- 'peculiumlaw04.TermTyped', WHERE WHAT IT READS IS OF BULK AT MOST 1048576: true; the input reads as it did. -/
def termTypedUptoRow : OpenClaim := { program := "ytpgbeapojjinmaagreatdoor", sum := "2895605f6c1ce05c23a0a8a6f8d95b28f5764a27a44579e6675f07f7151d39c4", func := "peculium/peculiumlaw04.TermTyped", spec := "termTyped", inPlace := ["internal/bytealg.IndexByteString", "internal/abi.NoEscape", "internal/bytealg.MakeNoZero"], unfollowed := true, recurses := true, named := ["internal/strconv.uint64pow10", "math/bits.deBruijn32tab", "math/bits.deBruijn64tab"], loops := true, plainKeys := false, apart := false, laid := [("math/bits.deBruijn32tab", laid_math_bits_deBruijn32tab), ("math/bits.deBruijn64tab", laid_math_bits_deBruijn64tab), ("internal/strconv.uint64pow10", laid_internal_strconv_uint64pow10)], narrowed := true }
def TermTypedUptoSaid : Prop := termTypedUptoRow.holds Tryz.pinned (OpenSpec.upto termTypedSpec)

/-- 'peculiumlaw04.TermEtas', WHERE WHAT IT READS IS OF BULK AT MOST 1048576: true; the input reads as it did. -/
def termEtasUptoRow : OpenClaim := { program := "ytpgbeapojjinmaagreatdoor", sum := "2895605f6c1ce05c23a0a8a6f8d95b28f5764a27a44579e6675f07f7151d39c4", func := "peculium/peculiumlaw04.TermEtas", spec := "termEtas", inPlace := ["internal/bytealg.IndexByteString", "internal/abi.NoEscape", "internal/bytealg.MakeNoZero"], unfollowed := true, recurses := true, named := ["internal/strconv.uint64pow10", "math/bits.deBruijn32tab", "math/bits.deBruijn64tab"], loops := true, plainKeys := false, apart := false, laid := [("math/bits.deBruijn32tab", laid_math_bits_deBruijn32tab), ("math/bits.deBruijn64tab", laid_math_bits_deBruijn64tab), ("internal/strconv.uint64pow10", laid_internal_strconv_uint64pow10)], narrowed := true }
def TermEtasUptoSaid : Prop := termEtasUptoRow.holds Tryz.pinned (OpenSpec.upto termEtasSpec)

/-- 'peculiumlaw04.TermSubsts', WHERE WHAT IT READS IS OF BULK AT MOST 1048576: true; the input reads as it did. -/
def termSubstsUptoRow : OpenClaim := { program := "ytpgbeapojjinmaagreatdoor", sum := "2895605f6c1ce05c23a0a8a6f8d95b28f5764a27a44579e6675f07f7151d39c4", func := "peculium/peculiumlaw04.TermSubsts", spec := "termSubsts", inPlace := ["internal/bytealg.IndexByteString", "internal/abi.NoEscape", "internal/bytealg.MakeNoZero"], unfollowed := true, recurses := true, named := ["internal/strconv.uint64pow10", "math/bits.deBruijn32tab", "math/bits.deBruijn64tab"], loops := true, plainKeys := false, apart := false, laid := [("math/bits.deBruijn32tab", laid_math_bits_deBruijn32tab), ("math/bits.deBruijn64tab", laid_math_bits_deBruijn64tab), ("internal/strconv.uint64pow10", laid_internal_strconv_uint64pow10)], narrowed := true }
def TermSubstsUptoSaid : Prop := termSubstsUptoRow.holds Tryz.pinned (OpenSpec.upto termSubstsSpec)

/-- 'peculiumlaw04.TermTypes', WHERE WHAT IT READS IS OF BULK AT MOST 1048576: true; the input reads as it did. -/
def termTypesUptoRow : OpenClaim := { program := "ytpgbeapojjinmaagreatdoor", sum := "2895605f6c1ce05c23a0a8a6f8d95b28f5764a27a44579e6675f07f7151d39c4", func := "peculium/peculiumlaw04.TermTypes", spec := "termTypes", inPlace := ["internal/bytealg.IndexByteString", "internal/abi.NoEscape", "internal/bytealg.MakeNoZero"], unfollowed := true, recurses := true, named := ["internal/strconv.uint64pow10", "math/bits.deBruijn32tab", "math/bits.deBruijn64tab"], loops := true, plainKeys := false, apart := false, laid := [("math/bits.deBruijn32tab", laid_math_bits_deBruijn32tab), ("math/bits.deBruijn64tab", laid_math_bits_deBruijn64tab), ("internal/strconv.uint64pow10", laid_internal_strconv_uint64pow10)], narrowed := true }
def TermTypesUptoSaid : Prop := termTypesUptoRow.holds Tryz.pinned (OpenSpec.upto termTypesSpec)

/-- 'peculiumlaw04.TermMoves', WHERE WHAT IT READS IS OF BULK AT MOST 1048576: true; the input reads as it did. -/
def termMovesUptoRow : OpenClaim := { program := "ytpgbeapojjinmaagreatdoor", sum := "2895605f6c1ce05c23a0a8a6f8d95b28f5764a27a44579e6675f07f7151d39c4", func := "peculium/peculiumlaw04.TermMoves", spec := "termMoves", inPlace := ["internal/bytealg.IndexByteString", "internal/abi.NoEscape", "internal/bytealg.MakeNoZero"], unfollowed := true, recurses := true, named := ["internal/strconv.uint64pow10", "math/bits.deBruijn32tab", "math/bits.deBruijn64tab"], loops := true, plainKeys := false, apart := false, laid := [("math/bits.deBruijn32tab", laid_math_bits_deBruijn32tab), ("math/bits.deBruijn64tab", laid_math_bits_deBruijn64tab), ("internal/strconv.uint64pow10", laid_internal_strconv_uint64pow10)], narrowed := true }
def TermMovesUptoSaid : Prop := termMovesUptoRow.holds Tryz.pinned (OpenSpec.upto termMovesSpec)

/-- 'peculiumlaw04.TermOne', WHERE WHAT IT READS IS OF BULK AT MOST 1048576: true; the input reads as it did. -/
def termOneUptoRow : OpenClaim := { program := "ytpgbeapojjinmaagreatdoor", sum := "2895605f6c1ce05c23a0a8a6f8d95b28f5764a27a44579e6675f07f7151d39c4", func := "peculium/peculiumlaw04.TermOne", spec := "termOne", inPlace := ["internal/bytealg.IndexByteString", "internal/abi.NoEscape", "internal/bytealg.MakeNoZero"], unfollowed := true, recurses := true, named := ["internal/strconv.uint64pow10", "math/bits.deBruijn32tab", "math/bits.deBruijn64tab"], loops := true, plainKeys := false, apart := false, laid := [("math/bits.deBruijn32tab", laid_math_bits_deBruijn32tab), ("math/bits.deBruijn64tab", laid_math_bits_deBruijn64tab), ("internal/strconv.uint64pow10", laid_internal_strconv_uint64pow10)], narrowed := true }
def TermOneUptoSaid : Prop := termOneUptoRow.holds Tryz.pinned (OpenSpec.upto termOneSpec)

/-- 'peculiumlaw04.TermSwaps', WHERE WHAT IT READS IS OF BULK AT MOST 1048576: true; the input reads as it did. -/
def termSwapsUptoRow : OpenClaim := { program := "ytpgbeapojjinmaagreatdoor", sum := "2895605f6c1ce05c23a0a8a6f8d95b28f5764a27a44579e6675f07f7151d39c4", func := "peculium/peculiumlaw04.TermSwaps", spec := "termSwaps", inPlace := ["internal/bytealg.IndexByteString", "internal/abi.NoEscape", "internal/bytealg.MakeNoZero", "internal/bytealg.abigen_runtime_cmpstring"], unfollowed := true, recurses := true, named := ["internal/strconv.uint64pow10", "math/bits.deBruijn32tab", "math/bits.deBruijn64tab"], loops := true, plainKeys := false, apart := false, laid := [("math/bits.deBruijn32tab", laid_math_bits_deBruijn32tab), ("math/bits.deBruijn64tab", laid_math_bits_deBruijn64tab), ("internal/strconv.uint64pow10", laid_internal_strconv_uint64pow10)], narrowed := true }
def TermSwapsUptoSaid : Prop := termSwapsUptoRow.holds Tryz.pinned (OpenSpec.upto termSwapsSpec)

/-- 'peculiumlaw04.TermExpands', WHERE WHAT IT READS IS OF BULK AT MOST 1048576: true; the input reads as it did. -/
def termExpandsUptoRow : OpenClaim := { program := "ytpgbeapojjinmaagreatdoor", sum := "2895605f6c1ce05c23a0a8a6f8d95b28f5764a27a44579e6675f07f7151d39c4", func := "peculium/peculiumlaw04.TermExpands", spec := "termExpands", inPlace := ["internal/bytealg.IndexByteString", "internal/abi.NoEscape", "internal/bytealg.MakeNoZero", "internal/bytealg.abigen_runtime_cmpstring"], unfollowed := true, recurses := true, named := ["internal/strconv.uint64pow10", "math/bits.deBruijn32tab", "math/bits.deBruijn64tab"], loops := true, plainKeys := false, apart := false, laid := [("math/bits.deBruijn32tab", laid_math_bits_deBruijn32tab), ("math/bits.deBruijn64tab", laid_math_bits_deBruijn64tab), ("internal/strconv.uint64pow10", laid_internal_strconv_uint64pow10)], narrowed := true }
def TermExpandsUptoSaid : Prop := termExpandsUptoRow.holds Tryz.pinned (OpenSpec.upto termExpandsSpec)

/-- 'peculiumlaw04.TermShifted', WHERE WHAT IT READS IS OF BULK AT MOST 1048576: true; the input reads as it did. -/
def termShiftedUptoRow : OpenClaim := { program := "ytpgbeapojjinmaagreatdoor", sum := "2895605f6c1ce05c23a0a8a6f8d95b28f5764a27a44579e6675f07f7151d39c4", func := "peculium/peculiumlaw04.TermShifted", spec := "termShifted", inPlace := ["internal/bytealg.IndexByteString", "internal/abi.NoEscape", "internal/bytealg.MakeNoZero", "internal/bytealg.abigen_runtime_cmpstring"], unfollowed := true, recurses := true, named := ["internal/strconv.uint64pow10", "math/bits.deBruijn32tab", "math/bits.deBruijn64tab"], loops := true, plainKeys := false, apart := false, laid := [("math/bits.deBruijn32tab", laid_math_bits_deBruijn32tab), ("math/bits.deBruijn64tab", laid_math_bits_deBruijn64tab), ("internal/strconv.uint64pow10", laid_internal_strconv_uint64pow10)], narrowed := true }
def TermShiftedUptoSaid : Prop := termShiftedUptoRow.holds Tryz.pinned (OpenSpec.upto termShiftedSpec)

/-- 'peculiumlaw04.TermStays', WHERE WHAT IT READS IS OF BULK AT MOST 1048576: true; the input reads as it did. -/
def termStaysUptoRow : OpenClaim := { program := "ytpgbeapojjinmaagreatdoor", sum := "2895605f6c1ce05c23a0a8a6f8d95b28f5764a27a44579e6675f07f7151d39c4", func := "peculium/peculiumlaw04.TermStays", spec := "termStays", inPlace := ["internal/bytealg.IndexByteString", "internal/abi.NoEscape", "internal/bytealg.MakeNoZero", "internal/bytealg.abigen_runtime_cmpstring"], unfollowed := true, recurses := true, named := ["internal/strconv.uint64pow10", "math/bits.deBruijn32tab", "math/bits.deBruijn64tab"], loops := true, plainKeys := false, apart := false, laid := [("math/bits.deBruijn32tab", laid_math_bits_deBruijn32tab), ("math/bits.deBruijn64tab", laid_math_bits_deBruijn64tab), ("internal/strconv.uint64pow10", laid_internal_strconv_uint64pow10)], narrowed := true }
def TermStaysUptoSaid : Prop := termStaysUptoRow.holds Tryz.pinned (OpenSpec.upto termStaysSpec)

/-- 'peculiumlaw04.TermOrders', WHERE WHAT IT READS IS OF BULK AT MOST 1048576: true; the input reads as it did. -/
def termOrdersUptoRow : OpenClaim := { program := "ytpgbeapojjinmaagreatdoor", sum := "2895605f6c1ce05c23a0a8a6f8d95b28f5764a27a44579e6675f07f7151d39c4", func := "peculium/peculiumlaw04.TermOrders", spec := "termOrders", inPlace := ["internal/bytealg.IndexByteString", "internal/abi.NoEscape", "internal/bytealg.MakeNoZero", "internal/bytealg.abigen_runtime_cmpstring"], unfollowed := true, recurses := true, named := ["internal/strconv.uint64pow10", "math/bits.deBruijn32tab", "math/bits.deBruijn64tab"], loops := true, plainKeys := false, apart := false, laid := [("math/bits.deBruijn32tab", laid_math_bits_deBruijn32tab), ("math/bits.deBruijn64tab", laid_math_bits_deBruijn64tab), ("internal/strconv.uint64pow10", laid_internal_strconv_uint64pow10)], narrowed := true }
def TermOrdersUptoSaid : Prop := termOrdersUptoRow.holds Tryz.pinned (OpenSpec.upto termOrdersSpec)

/-- 'peculiumlaw04.TermLooks', WHERE WHAT IT READS IS OF BULK AT MOST 1048576: true; the input reads as it did. -/
def termLooksUptoRow : OpenClaim := { program := "ytpgbeapojjinmaagreatdoor", sum := "2895605f6c1ce05c23a0a8a6f8d95b28f5764a27a44579e6675f07f7151d39c4", func := "peculium/peculiumlaw04.TermLooks", spec := "termLooks", inPlace := ["internal/bytealg.IndexByteString", "internal/abi.NoEscape", "internal/bytealg.MakeNoZero", "internal/bytealg.abigen_runtime_cmpstring"], unfollowed := true, recurses := true, named := ["internal/strconv.uint64pow10", "math/bits.deBruijn32tab", "math/bits.deBruijn64tab"], loops := true, plainKeys := false, apart := false, laid := [("math/bits.deBruijn32tab", laid_math_bits_deBruijn32tab), ("math/bits.deBruijn64tab", laid_math_bits_deBruijn64tab), ("internal/strconv.uint64pow10", laid_internal_strconv_uint64pow10)], narrowed := true }
def TermLooksUptoSaid : Prop := termLooksUptoRow.holds Tryz.pinned (OpenSpec.upto termLooksSpec)

/-- 'peculiumlaw04.TermTexts', WHERE WHAT IT READS IS OF BULK AT MOST 1048576: true; the input reads as it did. -/
def termTextsUptoRow : OpenClaim := { program := "ytpgbeapojjinmaagreatdoor", sum := "2895605f6c1ce05c23a0a8a6f8d95b28f5764a27a44579e6675f07f7151d39c4", func := "peculium/peculiumlaw04.TermTexts", spec := "termTexts", inPlace := ["internal/bytealg.IndexByteString", "internal/abi.NoEscape", "internal/bytealg.MakeNoZero"], unfollowed := true, recurses := true, named := ["internal/strconv.uint64pow10", "math/bits.deBruijn32tab", "math/bits.deBruijn64tab", "strconv.ErrSyntax", "strconv.ErrRange"], loops := true, plainKeys := false, apart := false, laid := [("math/bits.deBruijn32tab", laid_math_bits_deBruijn32tab), ("math/bits.deBruijn64tab", laid_math_bits_deBruijn64tab), ("internal/strconv.uint64pow10", laid_internal_strconv_uint64pow10), ("strconv.ErrRange", laid_strconv_ErrRange), ("strconv.ErrSyntax", laid_strconv_ErrSyntax)], narrowed := true }
def TermTextsUptoSaid : Prop := termTextsUptoRow.holds Tryz.pinned (OpenSpec.upto termTextsSpec)

/-- 'peculiumlaw04.TermBack', WHERE WHAT IT READS IS OF BULK AT MOST 1048576: true; the input reads as it did. -/
def termBackUptoRow : OpenClaim := { program := "ytpgbeapojjinmaagreatdoor", sum := "2895605f6c1ce05c23a0a8a6f8d95b28f5764a27a44579e6675f07f7151d39c4", func := "peculium/peculiumlaw04.TermBack", spec := "termBack", inPlace := ["internal/bytealg.IndexByteString", "internal/abi.NoEscape", "internal/bytealg.MakeNoZero", "internal/bytealg.abigen_runtime_cmpstring"], unfollowed := true, recurses := true, named := ["internal/strconv.uint64pow10", "math/bits.deBruijn32tab", "math/bits.deBruijn64tab", "strconv.ErrSyntax", "strconv.ErrRange"], loops := true, plainKeys := false, apart := false, laid := [("math/bits.deBruijn32tab", laid_math_bits_deBruijn32tab), ("math/bits.deBruijn64tab", laid_math_bits_deBruijn64tab), ("internal/strconv.uint64pow10", laid_internal_strconv_uint64pow10), ("strconv.ErrRange", laid_strconv_ErrRange), ("strconv.ErrSyntax", laid_strconv_ErrSyntax)], narrowed := true }
def TermBackUptoSaid : Prop := termBackUptoRow.holds Tryz.pinned (OpenSpec.upto termBackSpec)

end Rows
end Go.Proofs.YtpgbeapojjinmaaGreatDoor
