/-
  NARROWER THAN 'FOR EVERY INPUT', by the rows' own cells (each row's printed sentence says how): WorkoutChecksMatchSpec: loops, laid · WorkoutReadMatchesSpec: laid · WorkoutTimelineMatchesSpec: loops, laid · WorkoutCostsGrow: laid · WorkoutCostsMatchSpec: laid · WorkoutFoldsMatchSpec: loops, laid · WorkoutFoldsUnfold: loops, laid · WorkoutTimelineIsWhole: loops, laid · WorkoutHoldMatchesSpec: loops, laid · WorkoutHoldIsLeast: loops, laid · WorkoutTextsComeBack: loops, laid · TopWorkoutsAreDone: loops, laid.
  DERIVED. THE GIVEN ROWS OF THIS SEAT. 12 by the template 'for every input the law returns true; each argument reads behind the call as it read before'; 0 by the template 'total and deterministic' (their statements: YtfphabkdgdgnbaaGreatDoorTotals.lean).
  GIVEN WITH THE SEED: the statements are not yours to turn. If you find one false, say at which input.
  Laid BY PROGRAM, IN A SANDBOX (cutbox-rows.mjs): the forced cells as the released guide's own fill.sh prints them over the translation bec383294754ced6… (all of the seat's roots in one cut). By AI agents, Wed Nov 11 2026. No macro, syntax, notation, axiom, sorry.
-/
import Derived.Test.YtfphabkdgdgnbaaGreatDoorChecked
import GoSem.PinnedTables
import GoSem.Claim
import GoSem.ClaimJoined
import GoSem.ClaimMapViews
import Derived.JoinedTies
import Derived.KernelRfl
namespace Go.Proofs.YtfphabkdgdgnbaaGreatDoor
/- THE CELL 'sum', in the pinned program and in every row, IS THE sha256 OF THE DUMP (.gsa) THAT YtfphabkdgdgnbaaGreatDoorProg.lean LOADS. Nothing in Lean hashes anything: it is a label: what it is worth is what the hold of that sum in a sandbox is worth. -/
noncomputable def Tryz.pinned : Pinned := { name := "ytfphabkdgdgnbaagreatdoor", sum := "bec383294754ced6b9c9231d0280ac723bfa86edcbe632fa2c1f124d21f75664", checked := Tryz.checked }
namespace Rows
def none {H : Type} : Left H := { results := [], args := [] }

/- WHAT THE LISTED PACKAGE-LEVEL VARIABLES READ AS WHEN THE CALL BEGINS. Each datum BY PROGRAM (the guide's laid-datum.mjs) off the statement by which the dump's own 'gosem.cut.vars' lays the variable. In a bare row this is a premise. The card (YtfphabkdgdgnbaaGreatDoorCards.lean) ties it to the program's text. -/
def laid_math_bits_deBruijn32tab {H : Type} : DataW H := .agg [.lit (.int .u8 0), .lit (.int .u8 1), .lit (.int .u8 28), .lit (.int .u8 2), .lit (.int .u8 29), .lit (.int .u8 14), .lit (.int .u8 24), .lit (.int .u8 3), .lit (.int .u8 30), .lit (.int .u8 22), .lit (.int .u8 20), .lit (.int .u8 15), .lit (.int .u8 25), .lit (.int .u8 17), .lit (.int .u8 4), .lit (.int .u8 8), .lit (.int .u8 31), .lit (.int .u8 27), .lit (.int .u8 13), .lit (.int .u8 23), .lit (.int .u8 21), .lit (.int .u8 19), .lit (.int .u8 16), .lit (.int .u8 7), .lit (.int .u8 26), .lit (.int .u8 12), .lit (.int .u8 18), .lit (.int .u8 6), .lit (.int .u8 11), .lit (.int .u8 5), .lit (.int .u8 10), .lit (.int .u8 9)]
def laid_math_bits_deBruijn64tab {H : Type} : DataW H := .agg [.lit (.int .u8 0), .lit (.int .u8 1), .lit (.int .u8 56), .lit (.int .u8 2), .lit (.int .u8 57), .lit (.int .u8 49), .lit (.int .u8 28), .lit (.int .u8 3), .lit (.int .u8 61), .lit (.int .u8 58), .lit (.int .u8 42), .lit (.int .u8 50), .lit (.int .u8 38), .lit (.int .u8 29), .lit (.int .u8 17), .lit (.int .u8 4), .lit (.int .u8 62), .lit (.int .u8 47), .lit (.int .u8 59), .lit (.int .u8 36), .lit (.int .u8 45), .lit (.int .u8 43), .lit (.int .u8 51), .lit (.int .u8 22), .lit (.int .u8 53), .lit (.int .u8 39), .lit (.int .u8 33), .lit (.int .u8 30), .lit (.int .u8 24), .lit (.int .u8 18), .lit (.int .u8 12), .lit (.int .u8 5), .lit (.int .u8 63), .lit (.int .u8 55), .lit (.int .u8 48), .lit (.int .u8 27), .lit (.int .u8 60), .lit (.int .u8 41), .lit (.int .u8 37), .lit (.int .u8 16), .lit (.int .u8 46), .lit (.int .u8 35), .lit (.int .u8 44), .lit (.int .u8 21), .lit (.int .u8 52), .lit (.int .u8 32), .lit (.int .u8 23), .lit (.int .u8 11), .lit (.int .u8 54), .lit (.int .u8 26), .lit (.int .u8 40), .lit (.int .u8 15), .lit (.int .u8 34), .lit (.int .u8 20), .lit (.int .u8 31), .lit (.int .u8 10), .lit (.int .u8 25), .lit (.int .u8 14), .lit (.int .u8 19), .lit (.int .u8 9), .lit (.int .u8 13), .lit (.int .u8 8), .lit (.int .u8 7), .lit (.int .u8 6)]
def laid_internal_strconv_uint64pow10 {H : Type} : DataW H := .agg [.lit (.int .u64 1), .lit (.int .u64 10), .lit (.int .u64 100), .lit (.int .u64 1000), .lit (.int .u64 10000), .lit (.int .u64 100000), .lit (.int .u64 1000000), .lit (.int .u64 10000000), .lit (.int .u64 100000000), .lit (.int .u64 1000000000), .lit (.int .u64 10000000000), .lit (.int .u64 100000000000), .lit (.int .u64 1000000000000), .lit (.int .u64 10000000000000), .lit (.int .u64 100000000000000), .lit (.int .u64 1000000000000000), .lit (.int .u64 10000000000000000), .lit (.int .u64 100000000000000000), .lit (.int .u64 1000000000000000000), .lit (.int .u64 10000000000000000000)]
def laid_unicode_utf8_acceptRanges {H : Type} : DataW H := .agg [.agg [.lit (.int .u8 128), .lit (.int .u8 191)], .agg [.lit (.int .u8 160), .lit (.int .u8 191)], .agg [.lit (.int .u8 128), .lit (.int .u8 159)], .agg [.lit (.int .u8 144), .lit (.int .u8 191)], .agg [.lit (.int .u8 128), .lit (.int .u8 143)], .agg [.lit (.int .u8 0), .lit (.int .u8 0)], .agg [.lit (.int .u8 0), .lit (.int .u8 0)], .agg [.lit (.int .u8 0), .lit (.int .u8 0)], .agg [.lit (.int .u8 0), .lit (.int .u8 0)], .agg [.lit (.int .u8 0), .lit (.int .u8 0)], .agg [.lit (.int .u8 0), .lit (.int .u8 0)], .agg [.lit (.int .u8 0), .lit (.int .u8 0)], .agg [.lit (.int .u8 0), .lit (.int .u8 0)], .agg [.lit (.int .u8 0), .lit (.int .u8 0)], .agg [.lit (.int .u8 0), .lit (.int .u8 0)], .agg [.lit (.int .u8 0), .lit (.int .u8 0)]]
def laid_strconv_ErrRange {H : Type} : DataW H := .iface "*errors.errorString" (.ptr (.agg [.lit (.string [118, 97, 108, 117, 101, 32, 111, 117, 116, 32, 111, 102, 32, 114, 97, 110, 103, 101])]))
def laid_strconv_ErrSyntax {H : Type} : DataW H := .iface "*errors.errorString" (.ptr (.agg [.lit (.string [105, 110, 118, 97, 108, 105, 100, 32, 115, 121, 110, 116, 97, 120])]))
/-- One of Go's own tables, pinned by name: the form's constant. -/
def laid_unicode_utf8_first : DataW Unit := Go.Pinned.utf8First

/-- 'harrierlaw7.WorkoutChecksMatchSpec': WHATEVER THE INPUT: true; the input reads as it did. -/
def workoutChecksMatchSpecSpec : ChangeSpec := { name := "workoutChecksMatchSpec", fn := fun _ => fun
  | [d1, d2] => { results := [.lit (.bool true)], args := [d1, d2] }
  | _ => none }
def workoutChecksMatchSpecRow : OpenClaim := { program := "ytfphabkdgdgnbaagreatdoor", sum := "bec383294754ced6b9c9231d0280ac723bfa86edcbe632fa2c1f124d21f75664", func := "harrier/harrierlaw7.WorkoutChecksMatchSpec", spec := "workoutChecksMatchSpec", inPlace := ["internal/bytealg.CountString", "internal/bytealg.IndexByteString", "internal/bytealg.IndexString"], unfollowed := true, recurses := true, named := ["unicode/utf8.first", "unicode/utf8.acceptRanges", "internal/bytealg.MaxLen", "math/bits.divideError", "math/bits.overflowError", "strconv.ErrSyntax", "strconv.ErrRange", "internal/strconv.uint64pow10", "math/bits.deBruijn32tab", "math/bits.deBruijn64tab"], loops := true, apart := false, laid := [("math/bits.deBruijn32tab", laid_math_bits_deBruijn32tab), ("math/bits.deBruijn64tab", laid_math_bits_deBruijn64tab), ("internal/strconv.uint64pow10", laid_internal_strconv_uint64pow10), ("unicode/utf8.acceptRanges", laid_unicode_utf8_acceptRanges), ("strconv.ErrRange", laid_strconv_ErrRange), ("strconv.ErrSyntax", laid_strconv_ErrSyntax), ("unicode/utf8.first", laid_unicode_utf8_first)] }
def WorkoutChecksMatchSpecSaid : Prop := workoutChecksMatchSpecRow.holds Tryz.pinned (OpenSpec.ofChange workoutChecksMatchSpecSpec)

/-- ITS FALSE NEIGHBOUR: 'it returns false'. Refute it at one input. -/
def workoutChecksMatchSpecWrong : ChangeSpec := { name := "workoutChecksMatchSpec", fn := fun _ => fun
  | [d1, d2] => { results := [.lit (.bool false)], args := [d1, d2] }
  | _ => none }
def WorkoutChecksMatchSpecWrongFalsely : Prop := workoutChecksMatchSpecRow.holds Tryz.pinned (OpenSpec.ofChange workoutChecksMatchSpecWrong)

/-- 'harrierlaw7.WorkoutReadMatchesSpec': WHATEVER THE INPUT: true; the input reads as it did. -/
def workoutReadMatchesSpecSpec : ChangeSpec := { name := "workoutReadMatchesSpec", fn := fun _ => fun
  | [d] => { results := [.lit (.bool true)], args := [d] }
  | _ => none }
def workoutReadMatchesSpecRow : OpenClaim := { program := "ytfphabkdgdgnbaagreatdoor", sum := "bec383294754ced6b9c9231d0280ac723bfa86edcbe632fa2c1f124d21f75664", func := "harrier/harrierlaw7.WorkoutReadMatchesSpec", spec := "workoutReadMatchesSpec", inPlace := ["internal/bytealg.CountString", "internal/bytealg.IndexByteString", "internal/bytealg.IndexString"], unfollowed := true, recurses := true, named := ["unicode/utf8.first", "unicode/utf8.acceptRanges", "internal/bytealg.MaxLen", "math/bits.divideError", "math/bits.overflowError", "strconv.ErrSyntax", "strconv.ErrRange", "internal/strconv.uint64pow10", "math/bits.deBruijn32tab", "math/bits.deBruijn64tab"], apart := false, laid := [("math/bits.deBruijn32tab", laid_math_bits_deBruijn32tab), ("math/bits.deBruijn64tab", laid_math_bits_deBruijn64tab), ("internal/strconv.uint64pow10", laid_internal_strconv_uint64pow10), ("unicode/utf8.acceptRanges", laid_unicode_utf8_acceptRanges), ("strconv.ErrRange", laid_strconv_ErrRange), ("strconv.ErrSyntax", laid_strconv_ErrSyntax), ("unicode/utf8.first", laid_unicode_utf8_first)] }
def WorkoutReadMatchesSpecSaid : Prop := workoutReadMatchesSpecRow.holds Tryz.pinned (OpenSpec.ofChange workoutReadMatchesSpecSpec)

/-- ITS FALSE NEIGHBOUR: 'it returns false'. Refute it at one input. -/
def workoutReadMatchesSpecWrong : ChangeSpec := { name := "workoutReadMatchesSpec", fn := fun _ => fun
  | [d] => { results := [.lit (.bool false)], args := [d] }
  | _ => none }
def WorkoutReadMatchesSpecWrongFalsely : Prop := workoutReadMatchesSpecRow.holds Tryz.pinned (OpenSpec.ofChange workoutReadMatchesSpecWrong)

/-- 'harrierlaw7.WorkoutTimelineMatchesSpec': WHATEVER THE INPUT: true; the input reads as it did. -/
def workoutTimelineMatchesSpecSpec : ChangeSpec := { name := "workoutTimelineMatchesSpec", fn := fun _ => fun
  | [d1, d2, d3] => { results := [.lit (.bool true)], args := [d1, d2, d3] }
  | _ => none }
def workoutTimelineMatchesSpecRow : OpenClaim := { program := "ytfphabkdgdgnbaagreatdoor", sum := "bec383294754ced6b9c9231d0280ac723bfa86edcbe632fa2c1f124d21f75664", func := "harrier/harrierlaw7.WorkoutTimelineMatchesSpec", spec := "workoutTimelineMatchesSpec", inPlace := ["internal/bytealg.CountString", "internal/bytealg.IndexByteString", "internal/bytealg.IndexString"], unfollowed := true, recurses := true, named := ["math/bits.divideError", "math/bits.overflowError", "unicode/utf8.first", "unicode/utf8.acceptRanges", "internal/bytealg.MaxLen", "strconv.ErrSyntax", "strconv.ErrRange", "internal/strconv.uint64pow10", "math/bits.deBruijn32tab", "math/bits.deBruijn64tab"], loops := true, apart := false, laid := [("math/bits.deBruijn32tab", laid_math_bits_deBruijn32tab), ("math/bits.deBruijn64tab", laid_math_bits_deBruijn64tab), ("internal/strconv.uint64pow10", laid_internal_strconv_uint64pow10), ("unicode/utf8.acceptRanges", laid_unicode_utf8_acceptRanges), ("strconv.ErrRange", laid_strconv_ErrRange), ("strconv.ErrSyntax", laid_strconv_ErrSyntax), ("unicode/utf8.first", laid_unicode_utf8_first)] }
def WorkoutTimelineMatchesSpecSaid : Prop := workoutTimelineMatchesSpecRow.holds Tryz.pinned (OpenSpec.ofChange workoutTimelineMatchesSpecSpec)

/-- ITS FALSE NEIGHBOUR: 'it returns false'. Refute it at one input. -/
def workoutTimelineMatchesSpecWrong : ChangeSpec := { name := "workoutTimelineMatchesSpec", fn := fun _ => fun
  | [d1, d2, d3] => { results := [.lit (.bool false)], args := [d1, d2, d3] }
  | _ => none }
def WorkoutTimelineMatchesSpecWrongFalsely : Prop := workoutTimelineMatchesSpecRow.holds Tryz.pinned (OpenSpec.ofChange workoutTimelineMatchesSpecWrong)

/-- 'harrierlaw7.WorkoutCostsGrow': WHATEVER THE INPUT: true; the input reads as it did. -/
def workoutCostsGrowSpec : ChangeSpec := { name := "workoutCostsGrow", fn := fun _ => fun
  | [d1, d2, d3] => { results := [.lit (.bool true)], args := [d1, d2, d3] }
  | _ => none }
def workoutCostsGrowRow : OpenClaim := { program := "ytfphabkdgdgnbaagreatdoor", sum := "bec383294754ced6b9c9231d0280ac723bfa86edcbe632fa2c1f124d21f75664", func := "harrier/harrierlaw7.WorkoutCostsGrow", spec := "workoutCostsGrow", inPlace := ["internal/bytealg.CountString", "internal/bytealg.IndexByteString", "internal/bytealg.IndexString"], unfollowed := true, recurses := true, named := ["unicode/utf8.first", "unicode/utf8.acceptRanges", "internal/bytealg.MaxLen", "math/bits.divideError", "math/bits.overflowError", "strconv.ErrSyntax", "strconv.ErrRange", "internal/strconv.uint64pow10", "math/bits.deBruijn32tab", "math/bits.deBruijn64tab"], apart := false, laid := [("math/bits.deBruijn32tab", laid_math_bits_deBruijn32tab), ("math/bits.deBruijn64tab", laid_math_bits_deBruijn64tab), ("internal/strconv.uint64pow10", laid_internal_strconv_uint64pow10), ("unicode/utf8.acceptRanges", laid_unicode_utf8_acceptRanges), ("strconv.ErrRange", laid_strconv_ErrRange), ("strconv.ErrSyntax", laid_strconv_ErrSyntax), ("unicode/utf8.first", laid_unicode_utf8_first)] }
def WorkoutCostsGrowSaid : Prop := workoutCostsGrowRow.holds Tryz.pinned (OpenSpec.ofChange workoutCostsGrowSpec)

/-- ITS FALSE NEIGHBOUR: 'it returns false'. Refute it at one input. -/
def workoutCostsGrowWrong : ChangeSpec := { name := "workoutCostsGrow", fn := fun _ => fun
  | [d1, d2, d3] => { results := [.lit (.bool false)], args := [d1, d2, d3] }
  | _ => none }
def WorkoutCostsGrowWrongFalsely : Prop := workoutCostsGrowRow.holds Tryz.pinned (OpenSpec.ofChange workoutCostsGrowWrong)

/-- 'harrierlaw7.WorkoutCostsMatchSpec': WHATEVER THE INPUT: true; the input reads as it did. -/
def workoutCostsMatchSpecSpec : ChangeSpec := { name := "workoutCostsMatchSpec", fn := fun _ => fun
  | [d1, d2] => { results := [.lit (.bool true)], args := [d1, d2] }
  | _ => none }
def workoutCostsMatchSpecRow : OpenClaim := { program := "ytfphabkdgdgnbaagreatdoor", sum := "bec383294754ced6b9c9231d0280ac723bfa86edcbe632fa2c1f124d21f75664", func := "harrier/harrierlaw7.WorkoutCostsMatchSpec", spec := "workoutCostsMatchSpec", inPlace := ["internal/bytealg.CountString", "internal/bytealg.IndexByteString", "internal/bytealg.IndexString"], unfollowed := true, recurses := true, named := ["unicode/utf8.first", "unicode/utf8.acceptRanges", "internal/bytealg.MaxLen", "math/bits.divideError", "math/bits.overflowError", "strconv.ErrSyntax", "strconv.ErrRange", "internal/strconv.uint64pow10", "math/bits.deBruijn32tab", "math/bits.deBruijn64tab"], apart := false, laid := [("math/bits.deBruijn32tab", laid_math_bits_deBruijn32tab), ("math/bits.deBruijn64tab", laid_math_bits_deBruijn64tab), ("internal/strconv.uint64pow10", laid_internal_strconv_uint64pow10), ("unicode/utf8.acceptRanges", laid_unicode_utf8_acceptRanges), ("strconv.ErrRange", laid_strconv_ErrRange), ("strconv.ErrSyntax", laid_strconv_ErrSyntax), ("unicode/utf8.first", laid_unicode_utf8_first)] }
def WorkoutCostsMatchSpecSaid : Prop := workoutCostsMatchSpecRow.holds Tryz.pinned (OpenSpec.ofChange workoutCostsMatchSpecSpec)

/-- ITS FALSE NEIGHBOUR: 'it returns false'. Refute it at one input. -/
def workoutCostsMatchSpecWrong : ChangeSpec := { name := "workoutCostsMatchSpec", fn := fun _ => fun
  | [d1, d2] => { results := [.lit (.bool false)], args := [d1, d2] }
  | _ => none }
def WorkoutCostsMatchSpecWrongFalsely : Prop := workoutCostsMatchSpecRow.holds Tryz.pinned (OpenSpec.ofChange workoutCostsMatchSpecWrong)

/-- 'harrierlaw7.WorkoutFoldsMatchSpec': WHATEVER THE INPUT: true; the input reads as it did. -/
def workoutFoldsMatchSpecSpec : ChangeSpec := { name := "workoutFoldsMatchSpec", fn := fun _ => fun
  | [d] => { results := [.lit (.bool true)], args := [d] }
  | _ => none }
def workoutFoldsMatchSpecRow : OpenClaim := { program := "ytfphabkdgdgnbaagreatdoor", sum := "bec383294754ced6b9c9231d0280ac723bfa86edcbe632fa2c1f124d21f75664", func := "harrier/harrierlaw7.WorkoutFoldsMatchSpec", spec := "workoutFoldsMatchSpec", inPlace := ["internal/bytealg.CountString", "internal/bytealg.IndexByteString", "internal/bytealg.IndexString"], unfollowed := true, recurses := true, named := ["unicode/utf8.first", "unicode/utf8.acceptRanges", "internal/bytealg.MaxLen", "math/bits.divideError", "math/bits.overflowError", "strconv.ErrSyntax", "strconv.ErrRange", "internal/strconv.uint64pow10", "math/bits.deBruijn32tab", "math/bits.deBruijn64tab"], loops := true, apart := false, laid := [("math/bits.deBruijn32tab", laid_math_bits_deBruijn32tab), ("math/bits.deBruijn64tab", laid_math_bits_deBruijn64tab), ("internal/strconv.uint64pow10", laid_internal_strconv_uint64pow10), ("unicode/utf8.acceptRanges", laid_unicode_utf8_acceptRanges), ("strconv.ErrRange", laid_strconv_ErrRange), ("strconv.ErrSyntax", laid_strconv_ErrSyntax), ("unicode/utf8.first", laid_unicode_utf8_first)] }
def WorkoutFoldsMatchSpecSaid : Prop := workoutFoldsMatchSpecRow.holds Tryz.pinned (OpenSpec.ofChange workoutFoldsMatchSpecSpec)

/-- ITS FALSE NEIGHBOUR: 'it returns false'. Refute it at one input. -/
def workoutFoldsMatchSpecWrong : ChangeSpec := { name := "workoutFoldsMatchSpec", fn := fun _ => fun
  | [d] => { results := [.lit (.bool false)], args := [d] }
  | _ => none }
def WorkoutFoldsMatchSpecWrongFalsely : Prop := workoutFoldsMatchSpecRow.holds Tryz.pinned (OpenSpec.ofChange workoutFoldsMatchSpecWrong)

/-- 'harrierlaw7.WorkoutFoldsUnfold': WHATEVER THE INPUT: true; the input reads as it did. -/
def workoutFoldsUnfoldSpec : ChangeSpec := { name := "workoutFoldsUnfold", fn := fun _ => fun
  | [d] => { results := [.lit (.bool true)], args := [d] }
  | _ => none }
def workoutFoldsUnfoldRow : OpenClaim := { program := "ytfphabkdgdgnbaagreatdoor", sum := "bec383294754ced6b9c9231d0280ac723bfa86edcbe632fa2c1f124d21f75664", func := "harrier/harrierlaw7.WorkoutFoldsUnfold", spec := "workoutFoldsUnfold", inPlace := ["internal/bytealg.CountString", "internal/bytealg.IndexByteString", "internal/bytealg.IndexString"], unfollowed := true, recurses := true, named := ["unicode/utf8.first", "unicode/utf8.acceptRanges", "internal/bytealg.MaxLen", "math/bits.divideError", "math/bits.overflowError", "strconv.ErrSyntax", "strconv.ErrRange", "internal/strconv.uint64pow10", "math/bits.deBruijn32tab", "math/bits.deBruijn64tab"], loops := true, apart := false, laid := [("math/bits.deBruijn32tab", laid_math_bits_deBruijn32tab), ("math/bits.deBruijn64tab", laid_math_bits_deBruijn64tab), ("internal/strconv.uint64pow10", laid_internal_strconv_uint64pow10), ("unicode/utf8.acceptRanges", laid_unicode_utf8_acceptRanges), ("strconv.ErrRange", laid_strconv_ErrRange), ("strconv.ErrSyntax", laid_strconv_ErrSyntax), ("unicode/utf8.first", laid_unicode_utf8_first)] }
def WorkoutFoldsUnfoldSaid : Prop := workoutFoldsUnfoldRow.holds Tryz.pinned (OpenSpec.ofChange workoutFoldsUnfoldSpec)

/-- ITS FALSE NEIGHBOUR: 'it returns false'. Refute it at one input. -/
def workoutFoldsUnfoldWrong : ChangeSpec := { name := "workoutFoldsUnfold", fn := fun _ => fun
  | [d] => { results := [.lit (.bool false)], args := [d] }
  | _ => none }
def WorkoutFoldsUnfoldWrongFalsely : Prop := workoutFoldsUnfoldRow.holds Tryz.pinned (OpenSpec.ofChange workoutFoldsUnfoldWrong)

/-- 'harrierlaw7.WorkoutTimelineIsWhole': WHATEVER THE INPUT: true; the input reads as it did. -/
def workoutTimelineIsWholeSpec : ChangeSpec := { name := "workoutTimelineIsWhole", fn := fun _ => fun
  | [d1, d2, d3] => { results := [.lit (.bool true)], args := [d1, d2, d3] }
  | _ => none }
def workoutTimelineIsWholeRow : OpenClaim := { program := "ytfphabkdgdgnbaagreatdoor", sum := "bec383294754ced6b9c9231d0280ac723bfa86edcbe632fa2c1f124d21f75664", func := "harrier/harrierlaw7.WorkoutTimelineIsWhole", spec := "workoutTimelineIsWhole", inPlace := ["internal/bytealg.CountString", "internal/bytealg.IndexByteString", "internal/bytealg.IndexString"], unfollowed := true, recurses := true, named := ["math/bits.divideError", "math/bits.overflowError", "unicode/utf8.first", "unicode/utf8.acceptRanges", "internal/bytealg.MaxLen", "strconv.ErrSyntax", "strconv.ErrRange", "internal/strconv.uint64pow10", "math/bits.deBruijn32tab", "math/bits.deBruijn64tab"], loops := true, apart := false, laid := [("math/bits.deBruijn32tab", laid_math_bits_deBruijn32tab), ("math/bits.deBruijn64tab", laid_math_bits_deBruijn64tab), ("internal/strconv.uint64pow10", laid_internal_strconv_uint64pow10), ("unicode/utf8.acceptRanges", laid_unicode_utf8_acceptRanges), ("strconv.ErrRange", laid_strconv_ErrRange), ("strconv.ErrSyntax", laid_strconv_ErrSyntax), ("unicode/utf8.first", laid_unicode_utf8_first)] }
def WorkoutTimelineIsWholeSaid : Prop := workoutTimelineIsWholeRow.holds Tryz.pinned (OpenSpec.ofChange workoutTimelineIsWholeSpec)

/-- ITS FALSE NEIGHBOUR: 'it returns false'. Refute it at one input. -/
def workoutTimelineIsWholeWrong : ChangeSpec := { name := "workoutTimelineIsWhole", fn := fun _ => fun
  | [d1, d2, d3] => { results := [.lit (.bool false)], args := [d1, d2, d3] }
  | _ => none }
def WorkoutTimelineIsWholeWrongFalsely : Prop := workoutTimelineIsWholeRow.holds Tryz.pinned (OpenSpec.ofChange workoutTimelineIsWholeWrong)

/-- 'harrierlaw7.WorkoutHoldMatchesSpec': WHATEVER THE INPUT: true; the input reads as it did. -/
def workoutHoldMatchesSpecSpec : ChangeSpec := { name := "workoutHoldMatchesSpec", fn := fun _ => fun
  | [d1, d2, d3] => { results := [.lit (.bool true)], args := [d1, d2, d3] }
  | _ => none }
def workoutHoldMatchesSpecRow : OpenClaim := { program := "ytfphabkdgdgnbaagreatdoor", sum := "bec383294754ced6b9c9231d0280ac723bfa86edcbe632fa2c1f124d21f75664", func := "harrier/harrierlaw7.WorkoutHoldMatchesSpec", spec := "workoutHoldMatchesSpec", inPlace := ["internal/bytealg.CountString", "internal/bytealg.IndexByteString", "internal/bytealg.IndexString"], unfollowed := true, recurses := true, named := ["math/bits.divideError", "math/bits.overflowError", "unicode/utf8.first", "unicode/utf8.acceptRanges", "internal/bytealg.MaxLen", "strconv.ErrSyntax", "strconv.ErrRange", "internal/strconv.uint64pow10", "math/bits.deBruijn32tab", "math/bits.deBruijn64tab"], loops := true, apart := false, laid := [("math/bits.deBruijn32tab", laid_math_bits_deBruijn32tab), ("math/bits.deBruijn64tab", laid_math_bits_deBruijn64tab), ("internal/strconv.uint64pow10", laid_internal_strconv_uint64pow10), ("unicode/utf8.acceptRanges", laid_unicode_utf8_acceptRanges), ("strconv.ErrRange", laid_strconv_ErrRange), ("strconv.ErrSyntax", laid_strconv_ErrSyntax), ("unicode/utf8.first", laid_unicode_utf8_first)] }
def WorkoutHoldMatchesSpecSaid : Prop := workoutHoldMatchesSpecRow.holds Tryz.pinned (OpenSpec.ofChange workoutHoldMatchesSpecSpec)

/-- ITS FALSE NEIGHBOUR: 'it returns false'. Refute it at one input. -/
def workoutHoldMatchesSpecWrong : ChangeSpec := { name := "workoutHoldMatchesSpec", fn := fun _ => fun
  | [d1, d2, d3] => { results := [.lit (.bool false)], args := [d1, d2, d3] }
  | _ => none }
def WorkoutHoldMatchesSpecWrongFalsely : Prop := workoutHoldMatchesSpecRow.holds Tryz.pinned (OpenSpec.ofChange workoutHoldMatchesSpecWrong)

/-- 'harrierlaw7.WorkoutHoldIsLeast': WHATEVER THE INPUT: true; the input reads as it did. -/
def workoutHoldIsLeastSpec : ChangeSpec := { name := "workoutHoldIsLeast", fn := fun _ => fun
  | [d1, d2, d3, d4] => { results := [.lit (.bool true)], args := [d1, d2, d3, d4] }
  | _ => none }
def workoutHoldIsLeastRow : OpenClaim := { program := "ytfphabkdgdgnbaagreatdoor", sum := "bec383294754ced6b9c9231d0280ac723bfa86edcbe632fa2c1f124d21f75664", func := "harrier/harrierlaw7.WorkoutHoldIsLeast", spec := "workoutHoldIsLeast", inPlace := ["internal/bytealg.CountString", "internal/bytealg.IndexByteString", "internal/bytealg.IndexString"], unfollowed := true, recurses := true, named := ["math/bits.divideError", "math/bits.overflowError", "unicode/utf8.first", "unicode/utf8.acceptRanges", "internal/bytealg.MaxLen", "strconv.ErrSyntax", "strconv.ErrRange", "internal/strconv.uint64pow10", "math/bits.deBruijn32tab", "math/bits.deBruijn64tab"], loops := true, apart := false, laid := [("math/bits.deBruijn32tab", laid_math_bits_deBruijn32tab), ("math/bits.deBruijn64tab", laid_math_bits_deBruijn64tab), ("internal/strconv.uint64pow10", laid_internal_strconv_uint64pow10), ("unicode/utf8.acceptRanges", laid_unicode_utf8_acceptRanges), ("strconv.ErrRange", laid_strconv_ErrRange), ("strconv.ErrSyntax", laid_strconv_ErrSyntax), ("unicode/utf8.first", laid_unicode_utf8_first)] }
def WorkoutHoldIsLeastSaid : Prop := workoutHoldIsLeastRow.holds Tryz.pinned (OpenSpec.ofChange workoutHoldIsLeastSpec)

/-- ITS FALSE NEIGHBOUR: 'it returns false'. Refute it at one input. -/
def workoutHoldIsLeastWrong : ChangeSpec := { name := "workoutHoldIsLeast", fn := fun _ => fun
  | [d1, d2, d3, d4] => { results := [.lit (.bool false)], args := [d1, d2, d3, d4] }
  | _ => none }
def WorkoutHoldIsLeastWrongFalsely : Prop := workoutHoldIsLeastRow.holds Tryz.pinned (OpenSpec.ofChange workoutHoldIsLeastWrong)

/-- 'harrierlaw7.WorkoutTextsComeBack': WHATEVER THE INPUT: true; the input reads as it did. -/
def workoutTextsComeBackSpec : ChangeSpec := { name := "workoutTextsComeBack", fn := fun _ => fun
  | [d] => { results := [.lit (.bool true)], args := [d] }
  | _ => none }
def workoutTextsComeBackRow : OpenClaim := { program := "ytfphabkdgdgnbaagreatdoor", sum := "bec383294754ced6b9c9231d0280ac723bfa86edcbe632fa2c1f124d21f75664", func := "harrier/harrierlaw7.WorkoutTextsComeBack", spec := "workoutTextsComeBack", inPlace := ["internal/abi.NoEscape", "internal/bytealg.MakeNoZero", "internal/bytealg.IndexByteString", "internal/bytealg.IndexString", "internal/bytealg.CountString"], unfollowed := true, recurses := true, named := ["internal/strconv.uint64pow10", "math/bits.deBruijn32tab", "math/bits.deBruijn64tab", "unicode/utf8.first", "unicode/utf8.acceptRanges", "internal/bytealg.MaxLen", "math/bits.divideError", "math/bits.overflowError", "strconv.ErrSyntax", "strconv.ErrRange"], loops := true, apart := false, laid := [("math/bits.deBruijn32tab", laid_math_bits_deBruijn32tab), ("math/bits.deBruijn64tab", laid_math_bits_deBruijn64tab), ("internal/strconv.uint64pow10", laid_internal_strconv_uint64pow10), ("unicode/utf8.acceptRanges", laid_unicode_utf8_acceptRanges), ("strconv.ErrRange", laid_strconv_ErrRange), ("strconv.ErrSyntax", laid_strconv_ErrSyntax), ("unicode/utf8.first", laid_unicode_utf8_first)] }
def WorkoutTextsComeBackSaid : Prop := workoutTextsComeBackRow.holds Tryz.pinned (OpenSpec.ofChange workoutTextsComeBackSpec)

/-- ITS FALSE NEIGHBOUR: 'it returns false'. Refute it at one input. -/
def workoutTextsComeBackWrong : ChangeSpec := { name := "workoutTextsComeBack", fn := fun _ => fun
  | [d] => { results := [.lit (.bool false)], args := [d] }
  | _ => none }
def WorkoutTextsComeBackWrongFalsely : Prop := workoutTextsComeBackRow.holds Tryz.pinned (OpenSpec.ofChange workoutTextsComeBackWrong)

/-- 'harriertop.TopWorkoutsAreDone': WHATEVER THE INPUT: true; the input reads as it did. -/
def topWorkoutsAreDoneSpec : ChangeSpec := { name := "topWorkoutsAreDone", fn := fun _ => fun
  | [d1, d2] => { results := [.lit (.bool true)], args := [d1, d2] }
  | _ => none }
def topWorkoutsAreDoneRow : OpenClaim := { program := "ytfphabkdgdgnbaagreatdoor", sum := "bec383294754ced6b9c9231d0280ac723bfa86edcbe632fa2c1f124d21f75664", func := "harrier/harriertop.TopWorkoutsAreDone", spec := "topWorkoutsAreDone", inPlace := ["internal/abi.NoEscape", "internal/bytealg.MakeNoZero", "internal/bytealg.IndexByteString", "internal/bytealg.IndexString", "internal/bytealg.CountString"], unfollowed := true, recurses := true, named := ["math/bits.divideError", "math/bits.overflowError", "internal/strconv.uint64pow10", "math/bits.deBruijn32tab", "math/bits.deBruijn64tab", "unicode/utf8.first", "unicode/utf8.acceptRanges", "internal/bytealg.MaxLen", "strconv.ErrSyntax", "strconv.ErrRange"], loops := true, apart := false, laid := [("math/bits.deBruijn32tab", laid_math_bits_deBruijn32tab), ("math/bits.deBruijn64tab", laid_math_bits_deBruijn64tab), ("internal/strconv.uint64pow10", laid_internal_strconv_uint64pow10), ("unicode/utf8.acceptRanges", laid_unicode_utf8_acceptRanges), ("strconv.ErrRange", laid_strconv_ErrRange), ("strconv.ErrSyntax", laid_strconv_ErrSyntax), ("unicode/utf8.first", laid_unicode_utf8_first)] }
def TopWorkoutsAreDoneSaid : Prop := topWorkoutsAreDoneRow.holds Tryz.pinned (OpenSpec.ofChange topWorkoutsAreDoneSpec)

/-- ITS FALSE NEIGHBOUR: 'it returns false'. Refute it at one input. -/
def topWorkoutsAreDoneWrong : ChangeSpec := { name := "topWorkoutsAreDone", fn := fun _ => fun
  | [d1, d2] => { results := [.lit (.bool false)], args := [d1, d2] }
  | _ => none }
def TopWorkoutsAreDoneWrongFalsely : Prop := topWorkoutsAreDoneRow.holds Tryz.pinned (OpenSpec.ofChange topWorkoutsAreDoneWrong)

/- THE SECOND FORM. 'bulk': how many values and letters a reading holds, each counted each time it is reached (what is shared counts as often as it is met; a slice's spare places count too). A statement '..UptoSaid' is the law's where the arguments, and the package variables that the reading takes, are together of bulk at most 1048576: NARROWER than '..Said'. Prove '..Said' where nothing that the law and all that it calls make is longer than what came in: it says more and counts as full. Else prove '..UptoSaid'. A law counts once. -/
mutual
def uptoBulk {H : Type} : DataW H → Nat
  | .lit (.string bytes) => bytes.length + 1
  | .lit _ => 1
  | .nil => 1
  | .ptr d => uptoBulk d + 1
  | .slice elems spare => uptoBulkAll elems + uptoBulkAll spare + 1
  | .agg parts => uptoBulkAll parts + 1
  | .iface _ d => uptoBulk d + 1
  | .map entries => uptoBulkEntries entries + 1
  | .held _ => 1
def uptoBulkAll {H : Type} : List (DataW H) → Nat
  | [] => 0
  | d :: r => uptoBulk d + uptoBulkAll r
def uptoBulkEntries {H : Type} : List (Lit × DataW H) → Nat
  | [] => 0
  | x :: r => uptoBulkEntry x + uptoBulkEntries r
def uptoBulkEntry {H : Type} : Lit × DataW H → Nat
  | (.string bytes, d) => bytes.length + uptoBulk d + 1
  | (_, d) => uptoBulk d + 1
 end
def uptoSmall : (H : Type) → List (DataW H) → Bool := fun _ ds => decide (uptoBulkAll ds ≤ 1048576)
def OpenSpec.upto (s : _root_.Go.ChangeSpec) : _root_.Go.OpenSpec := { _root_.Go.OpenSpec.ofChange s with cond := some uptoSmall }

/-- 'harrierlaw7.WorkoutChecksMatchSpec', WHERE WHAT IT READS IS OF BULK AT MOST 1048576: true; the input reads as it did. -/
def workoutChecksMatchSpecUptoRow : OpenClaim := { program := "ytfphabkdgdgnbaagreatdoor", sum := "bec383294754ced6b9c9231d0280ac723bfa86edcbe632fa2c1f124d21f75664", func := "harrier/harrierlaw7.WorkoutChecksMatchSpec", spec := "workoutChecksMatchSpec", inPlace := ["internal/bytealg.CountString", "internal/bytealg.IndexByteString", "internal/bytealg.IndexString"], unfollowed := true, recurses := true, named := ["unicode/utf8.first", "unicode/utf8.acceptRanges", "internal/bytealg.MaxLen", "math/bits.divideError", "math/bits.overflowError", "strconv.ErrSyntax", "strconv.ErrRange", "internal/strconv.uint64pow10", "math/bits.deBruijn32tab", "math/bits.deBruijn64tab"], loops := true, apart := false, laid := [("math/bits.deBruijn32tab", laid_math_bits_deBruijn32tab), ("math/bits.deBruijn64tab", laid_math_bits_deBruijn64tab), ("internal/strconv.uint64pow10", laid_internal_strconv_uint64pow10), ("unicode/utf8.acceptRanges", laid_unicode_utf8_acceptRanges), ("strconv.ErrRange", laid_strconv_ErrRange), ("strconv.ErrSyntax", laid_strconv_ErrSyntax), ("unicode/utf8.first", laid_unicode_utf8_first)], narrowed := true }
def WorkoutChecksMatchSpecUptoSaid : Prop := workoutChecksMatchSpecUptoRow.holds Tryz.pinned (OpenSpec.upto workoutChecksMatchSpecSpec)

/-- 'harrierlaw7.WorkoutReadMatchesSpec', WHERE WHAT IT READS IS OF BULK AT MOST 1048576: true; the input reads as it did. -/
def workoutReadMatchesSpecUptoRow : OpenClaim := { program := "ytfphabkdgdgnbaagreatdoor", sum := "bec383294754ced6b9c9231d0280ac723bfa86edcbe632fa2c1f124d21f75664", func := "harrier/harrierlaw7.WorkoutReadMatchesSpec", spec := "workoutReadMatchesSpec", inPlace := ["internal/bytealg.CountString", "internal/bytealg.IndexByteString", "internal/bytealg.IndexString"], unfollowed := true, recurses := true, named := ["unicode/utf8.first", "unicode/utf8.acceptRanges", "internal/bytealg.MaxLen", "math/bits.divideError", "math/bits.overflowError", "strconv.ErrSyntax", "strconv.ErrRange", "internal/strconv.uint64pow10", "math/bits.deBruijn32tab", "math/bits.deBruijn64tab"], apart := false, laid := [("math/bits.deBruijn32tab", laid_math_bits_deBruijn32tab), ("math/bits.deBruijn64tab", laid_math_bits_deBruijn64tab), ("internal/strconv.uint64pow10", laid_internal_strconv_uint64pow10), ("unicode/utf8.acceptRanges", laid_unicode_utf8_acceptRanges), ("strconv.ErrRange", laid_strconv_ErrRange), ("strconv.ErrSyntax", laid_strconv_ErrSyntax), ("unicode/utf8.first", laid_unicode_utf8_first)], narrowed := true }
def WorkoutReadMatchesSpecUptoSaid : Prop := workoutReadMatchesSpecUptoRow.holds Tryz.pinned (OpenSpec.upto workoutReadMatchesSpecSpec)

/-- 'harrierlaw7.WorkoutTimelineMatchesSpec', WHERE WHAT IT READS IS OF BULK AT MOST 1048576: true; the input reads as it did. -/
def workoutTimelineMatchesSpecUptoRow : OpenClaim := { program := "ytfphabkdgdgnbaagreatdoor", sum := "bec383294754ced6b9c9231d0280ac723bfa86edcbe632fa2c1f124d21f75664", func := "harrier/harrierlaw7.WorkoutTimelineMatchesSpec", spec := "workoutTimelineMatchesSpec", inPlace := ["internal/bytealg.CountString", "internal/bytealg.IndexByteString", "internal/bytealg.IndexString"], unfollowed := true, recurses := true, named := ["math/bits.divideError", "math/bits.overflowError", "unicode/utf8.first", "unicode/utf8.acceptRanges", "internal/bytealg.MaxLen", "strconv.ErrSyntax", "strconv.ErrRange", "internal/strconv.uint64pow10", "math/bits.deBruijn32tab", "math/bits.deBruijn64tab"], loops := true, apart := false, laid := [("math/bits.deBruijn32tab", laid_math_bits_deBruijn32tab), ("math/bits.deBruijn64tab", laid_math_bits_deBruijn64tab), ("internal/strconv.uint64pow10", laid_internal_strconv_uint64pow10), ("unicode/utf8.acceptRanges", laid_unicode_utf8_acceptRanges), ("strconv.ErrRange", laid_strconv_ErrRange), ("strconv.ErrSyntax", laid_strconv_ErrSyntax), ("unicode/utf8.first", laid_unicode_utf8_first)], narrowed := true }
def WorkoutTimelineMatchesSpecUptoSaid : Prop := workoutTimelineMatchesSpecUptoRow.holds Tryz.pinned (OpenSpec.upto workoutTimelineMatchesSpecSpec)

/-- 'harrierlaw7.WorkoutCostsGrow', WHERE WHAT IT READS IS OF BULK AT MOST 1048576: true; the input reads as it did. -/
def workoutCostsGrowUptoRow : OpenClaim := { program := "ytfphabkdgdgnbaagreatdoor", sum := "bec383294754ced6b9c9231d0280ac723bfa86edcbe632fa2c1f124d21f75664", func := "harrier/harrierlaw7.WorkoutCostsGrow", spec := "workoutCostsGrow", inPlace := ["internal/bytealg.CountString", "internal/bytealg.IndexByteString", "internal/bytealg.IndexString"], unfollowed := true, recurses := true, named := ["unicode/utf8.first", "unicode/utf8.acceptRanges", "internal/bytealg.MaxLen", "math/bits.divideError", "math/bits.overflowError", "strconv.ErrSyntax", "strconv.ErrRange", "internal/strconv.uint64pow10", "math/bits.deBruijn32tab", "math/bits.deBruijn64tab"], apart := false, laid := [("math/bits.deBruijn32tab", laid_math_bits_deBruijn32tab), ("math/bits.deBruijn64tab", laid_math_bits_deBruijn64tab), ("internal/strconv.uint64pow10", laid_internal_strconv_uint64pow10), ("unicode/utf8.acceptRanges", laid_unicode_utf8_acceptRanges), ("strconv.ErrRange", laid_strconv_ErrRange), ("strconv.ErrSyntax", laid_strconv_ErrSyntax), ("unicode/utf8.first", laid_unicode_utf8_first)], narrowed := true }
def WorkoutCostsGrowUptoSaid : Prop := workoutCostsGrowUptoRow.holds Tryz.pinned (OpenSpec.upto workoutCostsGrowSpec)

/-- 'harrierlaw7.WorkoutCostsMatchSpec', WHERE WHAT IT READS IS OF BULK AT MOST 1048576: true; the input reads as it did. -/
def workoutCostsMatchSpecUptoRow : OpenClaim := { program := "ytfphabkdgdgnbaagreatdoor", sum := "bec383294754ced6b9c9231d0280ac723bfa86edcbe632fa2c1f124d21f75664", func := "harrier/harrierlaw7.WorkoutCostsMatchSpec", spec := "workoutCostsMatchSpec", inPlace := ["internal/bytealg.CountString", "internal/bytealg.IndexByteString", "internal/bytealg.IndexString"], unfollowed := true, recurses := true, named := ["unicode/utf8.first", "unicode/utf8.acceptRanges", "internal/bytealg.MaxLen", "math/bits.divideError", "math/bits.overflowError", "strconv.ErrSyntax", "strconv.ErrRange", "internal/strconv.uint64pow10", "math/bits.deBruijn32tab", "math/bits.deBruijn64tab"], apart := false, laid := [("math/bits.deBruijn32tab", laid_math_bits_deBruijn32tab), ("math/bits.deBruijn64tab", laid_math_bits_deBruijn64tab), ("internal/strconv.uint64pow10", laid_internal_strconv_uint64pow10), ("unicode/utf8.acceptRanges", laid_unicode_utf8_acceptRanges), ("strconv.ErrRange", laid_strconv_ErrRange), ("strconv.ErrSyntax", laid_strconv_ErrSyntax), ("unicode/utf8.first", laid_unicode_utf8_first)], narrowed := true }
def WorkoutCostsMatchSpecUptoSaid : Prop := workoutCostsMatchSpecUptoRow.holds Tryz.pinned (OpenSpec.upto workoutCostsMatchSpecSpec)

/-- 'harrierlaw7.WorkoutFoldsMatchSpec', WHERE WHAT IT READS IS OF BULK AT MOST 1048576: true; the input reads as it did. -/
def workoutFoldsMatchSpecUptoRow : OpenClaim := { program := "ytfphabkdgdgnbaagreatdoor", sum := "bec383294754ced6b9c9231d0280ac723bfa86edcbe632fa2c1f124d21f75664", func := "harrier/harrierlaw7.WorkoutFoldsMatchSpec", spec := "workoutFoldsMatchSpec", inPlace := ["internal/bytealg.CountString", "internal/bytealg.IndexByteString", "internal/bytealg.IndexString"], unfollowed := true, recurses := true, named := ["unicode/utf8.first", "unicode/utf8.acceptRanges", "internal/bytealg.MaxLen", "math/bits.divideError", "math/bits.overflowError", "strconv.ErrSyntax", "strconv.ErrRange", "internal/strconv.uint64pow10", "math/bits.deBruijn32tab", "math/bits.deBruijn64tab"], loops := true, apart := false, laid := [("math/bits.deBruijn32tab", laid_math_bits_deBruijn32tab), ("math/bits.deBruijn64tab", laid_math_bits_deBruijn64tab), ("internal/strconv.uint64pow10", laid_internal_strconv_uint64pow10), ("unicode/utf8.acceptRanges", laid_unicode_utf8_acceptRanges), ("strconv.ErrRange", laid_strconv_ErrRange), ("strconv.ErrSyntax", laid_strconv_ErrSyntax), ("unicode/utf8.first", laid_unicode_utf8_first)], narrowed := true }
def WorkoutFoldsMatchSpecUptoSaid : Prop := workoutFoldsMatchSpecUptoRow.holds Tryz.pinned (OpenSpec.upto workoutFoldsMatchSpecSpec)

/-- 'harrierlaw7.WorkoutFoldsUnfold', WHERE WHAT IT READS IS OF BULK AT MOST 1048576: true; the input reads as it did. -/
def workoutFoldsUnfoldUptoRow : OpenClaim := { program := "ytfphabkdgdgnbaagreatdoor", sum := "bec383294754ced6b9c9231d0280ac723bfa86edcbe632fa2c1f124d21f75664", func := "harrier/harrierlaw7.WorkoutFoldsUnfold", spec := "workoutFoldsUnfold", inPlace := ["internal/bytealg.CountString", "internal/bytealg.IndexByteString", "internal/bytealg.IndexString"], unfollowed := true, recurses := true, named := ["unicode/utf8.first", "unicode/utf8.acceptRanges", "internal/bytealg.MaxLen", "math/bits.divideError", "math/bits.overflowError", "strconv.ErrSyntax", "strconv.ErrRange", "internal/strconv.uint64pow10", "math/bits.deBruijn32tab", "math/bits.deBruijn64tab"], loops := true, apart := false, laid := [("math/bits.deBruijn32tab", laid_math_bits_deBruijn32tab), ("math/bits.deBruijn64tab", laid_math_bits_deBruijn64tab), ("internal/strconv.uint64pow10", laid_internal_strconv_uint64pow10), ("unicode/utf8.acceptRanges", laid_unicode_utf8_acceptRanges), ("strconv.ErrRange", laid_strconv_ErrRange), ("strconv.ErrSyntax", laid_strconv_ErrSyntax), ("unicode/utf8.first", laid_unicode_utf8_first)], narrowed := true }
def WorkoutFoldsUnfoldUptoSaid : Prop := workoutFoldsUnfoldUptoRow.holds Tryz.pinned (OpenSpec.upto workoutFoldsUnfoldSpec)

/-- 'harrierlaw7.WorkoutTimelineIsWhole', WHERE WHAT IT READS IS OF BULK AT MOST 1048576: true; the input reads as it did. -/
def workoutTimelineIsWholeUptoRow : OpenClaim := { program := "ytfphabkdgdgnbaagreatdoor", sum := "bec383294754ced6b9c9231d0280ac723bfa86edcbe632fa2c1f124d21f75664", func := "harrier/harrierlaw7.WorkoutTimelineIsWhole", spec := "workoutTimelineIsWhole", inPlace := ["internal/bytealg.CountString", "internal/bytealg.IndexByteString", "internal/bytealg.IndexString"], unfollowed := true, recurses := true, named := ["math/bits.divideError", "math/bits.overflowError", "unicode/utf8.first", "unicode/utf8.acceptRanges", "internal/bytealg.MaxLen", "strconv.ErrSyntax", "strconv.ErrRange", "internal/strconv.uint64pow10", "math/bits.deBruijn32tab", "math/bits.deBruijn64tab"], loops := true, apart := false, laid := [("math/bits.deBruijn32tab", laid_math_bits_deBruijn32tab), ("math/bits.deBruijn64tab", laid_math_bits_deBruijn64tab), ("internal/strconv.uint64pow10", laid_internal_strconv_uint64pow10), ("unicode/utf8.acceptRanges", laid_unicode_utf8_acceptRanges), ("strconv.ErrRange", laid_strconv_ErrRange), ("strconv.ErrSyntax", laid_strconv_ErrSyntax), ("unicode/utf8.first", laid_unicode_utf8_first)], narrowed := true }
def WorkoutTimelineIsWholeUptoSaid : Prop := workoutTimelineIsWholeUptoRow.holds Tryz.pinned (OpenSpec.upto workoutTimelineIsWholeSpec)

/-- 'harrierlaw7.WorkoutHoldMatchesSpec', WHERE WHAT IT READS IS OF BULK AT MOST 1048576: true; the input reads as it did. -/
def workoutHoldMatchesSpecUptoRow : OpenClaim := { program := "ytfphabkdgdgnbaagreatdoor", sum := "bec383294754ced6b9c9231d0280ac723bfa86edcbe632fa2c1f124d21f75664", func := "harrier/harrierlaw7.WorkoutHoldMatchesSpec", spec := "workoutHoldMatchesSpec", inPlace := ["internal/bytealg.CountString", "internal/bytealg.IndexByteString", "internal/bytealg.IndexString"], unfollowed := true, recurses := true, named := ["math/bits.divideError", "math/bits.overflowError", "unicode/utf8.first", "unicode/utf8.acceptRanges", "internal/bytealg.MaxLen", "strconv.ErrSyntax", "strconv.ErrRange", "internal/strconv.uint64pow10", "math/bits.deBruijn32tab", "math/bits.deBruijn64tab"], loops := true, apart := false, laid := [("math/bits.deBruijn32tab", laid_math_bits_deBruijn32tab), ("math/bits.deBruijn64tab", laid_math_bits_deBruijn64tab), ("internal/strconv.uint64pow10", laid_internal_strconv_uint64pow10), ("unicode/utf8.acceptRanges", laid_unicode_utf8_acceptRanges), ("strconv.ErrRange", laid_strconv_ErrRange), ("strconv.ErrSyntax", laid_strconv_ErrSyntax), ("unicode/utf8.first", laid_unicode_utf8_first)], narrowed := true }
def WorkoutHoldMatchesSpecUptoSaid : Prop := workoutHoldMatchesSpecUptoRow.holds Tryz.pinned (OpenSpec.upto workoutHoldMatchesSpecSpec)

/-- 'harrierlaw7.WorkoutHoldIsLeast', WHERE WHAT IT READS IS OF BULK AT MOST 1048576: true; the input reads as it did. -/
def workoutHoldIsLeastUptoRow : OpenClaim := { program := "ytfphabkdgdgnbaagreatdoor", sum := "bec383294754ced6b9c9231d0280ac723bfa86edcbe632fa2c1f124d21f75664", func := "harrier/harrierlaw7.WorkoutHoldIsLeast", spec := "workoutHoldIsLeast", inPlace := ["internal/bytealg.CountString", "internal/bytealg.IndexByteString", "internal/bytealg.IndexString"], unfollowed := true, recurses := true, named := ["math/bits.divideError", "math/bits.overflowError", "unicode/utf8.first", "unicode/utf8.acceptRanges", "internal/bytealg.MaxLen", "strconv.ErrSyntax", "strconv.ErrRange", "internal/strconv.uint64pow10", "math/bits.deBruijn32tab", "math/bits.deBruijn64tab"], loops := true, apart := false, laid := [("math/bits.deBruijn32tab", laid_math_bits_deBruijn32tab), ("math/bits.deBruijn64tab", laid_math_bits_deBruijn64tab), ("internal/strconv.uint64pow10", laid_internal_strconv_uint64pow10), ("unicode/utf8.acceptRanges", laid_unicode_utf8_acceptRanges), ("strconv.ErrRange", laid_strconv_ErrRange), ("strconv.ErrSyntax", laid_strconv_ErrSyntax), ("unicode/utf8.first", laid_unicode_utf8_first)], narrowed := true }
def WorkoutHoldIsLeastUptoSaid : Prop := workoutHoldIsLeastUptoRow.holds Tryz.pinned (OpenSpec.upto workoutHoldIsLeastSpec)

/-- 'harrierlaw7.WorkoutTextsComeBack', WHERE WHAT IT READS IS OF BULK AT MOST 1048576: true; the input reads as it did. -/
def workoutTextsComeBackUptoRow : OpenClaim := { program := "ytfphabkdgdgnbaagreatdoor", sum := "bec383294754ced6b9c9231d0280ac723bfa86edcbe632fa2c1f124d21f75664", func := "harrier/harrierlaw7.WorkoutTextsComeBack", spec := "workoutTextsComeBack", inPlace := ["internal/abi.NoEscape", "internal/bytealg.MakeNoZero", "internal/bytealg.IndexByteString", "internal/bytealg.IndexString", "internal/bytealg.CountString"], unfollowed := true, recurses := true, named := ["internal/strconv.uint64pow10", "math/bits.deBruijn32tab", "math/bits.deBruijn64tab", "unicode/utf8.first", "unicode/utf8.acceptRanges", "internal/bytealg.MaxLen", "math/bits.divideError", "math/bits.overflowError", "strconv.ErrSyntax", "strconv.ErrRange"], loops := true, apart := false, laid := [("math/bits.deBruijn32tab", laid_math_bits_deBruijn32tab), ("math/bits.deBruijn64tab", laid_math_bits_deBruijn64tab), ("internal/strconv.uint64pow10", laid_internal_strconv_uint64pow10), ("unicode/utf8.acceptRanges", laid_unicode_utf8_acceptRanges), ("strconv.ErrRange", laid_strconv_ErrRange), ("strconv.ErrSyntax", laid_strconv_ErrSyntax), ("unicode/utf8.first", laid_unicode_utf8_first)], narrowed := true }
def WorkoutTextsComeBackUptoSaid : Prop := workoutTextsComeBackUptoRow.holds Tryz.pinned (OpenSpec.upto workoutTextsComeBackSpec)

/-- 'harriertop.TopWorkoutsAreDone', WHERE WHAT IT READS IS OF BULK AT MOST 1048576: true; the input reads as it did. -/
def topWorkoutsAreDoneUptoRow : OpenClaim := { program := "ytfphabkdgdgnbaagreatdoor", sum := "bec383294754ced6b9c9231d0280ac723bfa86edcbe632fa2c1f124d21f75664", func := "harrier/harriertop.TopWorkoutsAreDone", spec := "topWorkoutsAreDone", inPlace := ["internal/abi.NoEscape", "internal/bytealg.MakeNoZero", "internal/bytealg.IndexByteString", "internal/bytealg.IndexString", "internal/bytealg.CountString"], unfollowed := true, recurses := true, named := ["math/bits.divideError", "math/bits.overflowError", "internal/strconv.uint64pow10", "math/bits.deBruijn32tab", "math/bits.deBruijn64tab", "unicode/utf8.first", "unicode/utf8.acceptRanges", "internal/bytealg.MaxLen", "strconv.ErrSyntax", "strconv.ErrRange"], loops := true, apart := false, laid := [("math/bits.deBruijn32tab", laid_math_bits_deBruijn32tab), ("math/bits.deBruijn64tab", laid_math_bits_deBruijn64tab), ("internal/strconv.uint64pow10", laid_internal_strconv_uint64pow10), ("unicode/utf8.acceptRanges", laid_unicode_utf8_acceptRanges), ("strconv.ErrRange", laid_strconv_ErrRange), ("strconv.ErrSyntax", laid_strconv_ErrSyntax), ("unicode/utf8.first", laid_unicode_utf8_first)], narrowed := true }
def TopWorkoutsAreDoneUptoSaid : Prop := topWorkoutsAreDoneUptoRow.holds Tryz.pinned (OpenSpec.upto topWorkoutsAreDoneSpec)

end Rows
end Go.Proofs.YtfphabkdgdgnbaaGreatDoor
