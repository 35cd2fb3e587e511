/-
  NARROWER THAN 'FOR EVERY INPUT', by the rows' own cells (each row's printed sentence says how): FnLinesTwice: ifaces, laid · FnLinesWear: ifaces, laid · FnLinesWrap: ifaces, laid · FnExactLinesRun: ifaces, laid · FnLinesAll: ifaces, laid · FnLinesFall: ifaces, laid · FnLinesFill: ifaces, laid · FnLinesFlush: ifaces, laid · FnLinesNone: ifaces, laid · FnLinesPut: ifaces, laid · FnLinesQuiet: ifaces, laid · FnLinesRun: ifaces, laid.
  DERIVED. THE GIVEN ROWS OF THIS SEAT. 12 by the template 'for every input the law returns true; each argument reads behind the call as it read before'; 0 by the template 'total and deterministic' (their statements: YtoekfnjeceijaaaGreatDoorTotals.lean).
  GIVEN WITH THE SEED: the statements are not yours to turn. If you find one false, say at which input.
  Laid BY PROGRAM, IN A SANDBOX (cutbox-rows.mjs): the forced cells as the released guide's own fill.sh prints them over the translation d89c21adb484924c… (all of the seat's roots in one cut). By AI agents, Wed Nov 11 2026. No macro, syntax, notation, axiom, sorry.
-/
import Derived.Test.YtoekfnjeceijaaaGreatDoorChecked
import GoSem.PinnedTables
import GoSem.Claim
import GoSem.ClaimJoined
import GoSem.ClaimMapViews
import Derived.JoinedTies
import Derived.KernelRfl
namespace Go.Proofs.YtoekfnjeceijaaaGreatDoor
/- THE CELL 'sum', in the pinned program and in every row, IS THE sha256 OF THE DUMP (.gsa) THAT YtoekfnjeceijaaaGreatDoorProg.lean LOADS. Nothing in Lean hashes anything: it is a label: what it is worth is what the hold of that sum in a sandbox is worth. -/
noncomputable def Tryz.pinned : Pinned := { name := "ytoekfnjeceijaaagreatdoor", sum := "d89c21adb484924cf4118f0ca4fb9d3ce7cfc2f7c0b26f9bcee0cce8fe8cdf84", checked := Tryz.checked }
namespace Rows
def none {H : Type} : Left H := { results := [], args := [] }

/- WHAT THE LISTED PACKAGE-LEVEL VARIABLES READ AS WHEN THE CALL BEGINS. Each datum BY PROGRAM (the guide's laid-datum.mjs) off the statement by which the dump's own 'gosem.cut.vars' lays the variable. In a bare row this is a premise. The card (YtoekfnjeceijaaaGreatDoorCards.lean) ties it to the program's text. -/
def laid_math_bits_deBruijn32tab {H : Type} : DataW H := .agg [.lit (.int .u8 0), .lit (.int .u8 1), .lit (.int .u8 28), .lit (.int .u8 2), .lit (.int .u8 29), .lit (.int .u8 14), .lit (.int .u8 24), .lit (.int .u8 3), .lit (.int .u8 30), .lit (.int .u8 22), .lit (.int .u8 20), .lit (.int .u8 15), .lit (.int .u8 25), .lit (.int .u8 17), .lit (.int .u8 4), .lit (.int .u8 8), .lit (.int .u8 31), .lit (.int .u8 27), .lit (.int .u8 13), .lit (.int .u8 23), .lit (.int .u8 21), .lit (.int .u8 19), .lit (.int .u8 16), .lit (.int .u8 7), .lit (.int .u8 26), .lit (.int .u8 12), .lit (.int .u8 18), .lit (.int .u8 6), .lit (.int .u8 11), .lit (.int .u8 5), .lit (.int .u8 10), .lit (.int .u8 9)]
def laid_math_bits_deBruijn64tab {H : Type} : DataW H := .agg [.lit (.int .u8 0), .lit (.int .u8 1), .lit (.int .u8 56), .lit (.int .u8 2), .lit (.int .u8 57), .lit (.int .u8 49), .lit (.int .u8 28), .lit (.int .u8 3), .lit (.int .u8 61), .lit (.int .u8 58), .lit (.int .u8 42), .lit (.int .u8 50), .lit (.int .u8 38), .lit (.int .u8 29), .lit (.int .u8 17), .lit (.int .u8 4), .lit (.int .u8 62), .lit (.int .u8 47), .lit (.int .u8 59), .lit (.int .u8 36), .lit (.int .u8 45), .lit (.int .u8 43), .lit (.int .u8 51), .lit (.int .u8 22), .lit (.int .u8 53), .lit (.int .u8 39), .lit (.int .u8 33), .lit (.int .u8 30), .lit (.int .u8 24), .lit (.int .u8 18), .lit (.int .u8 12), .lit (.int .u8 5), .lit (.int .u8 63), .lit (.int .u8 55), .lit (.int .u8 48), .lit (.int .u8 27), .lit (.int .u8 60), .lit (.int .u8 41), .lit (.int .u8 37), .lit (.int .u8 16), .lit (.int .u8 46), .lit (.int .u8 35), .lit (.int .u8 44), .lit (.int .u8 21), .lit (.int .u8 52), .lit (.int .u8 32), .lit (.int .u8 23), .lit (.int .u8 11), .lit (.int .u8 54), .lit (.int .u8 26), .lit (.int .u8 40), .lit (.int .u8 15), .lit (.int .u8 34), .lit (.int .u8 20), .lit (.int .u8 31), .lit (.int .u8 10), .lit (.int .u8 25), .lit (.int .u8 14), .lit (.int .u8 19), .lit (.int .u8 9), .lit (.int .u8 13), .lit (.int .u8 8), .lit (.int .u8 7), .lit (.int .u8 6)]
def laid_internal_strconv_uint64pow10 {H : Type} : DataW H := .agg [.lit (.int .u64 1), .lit (.int .u64 10), .lit (.int .u64 100), .lit (.int .u64 1000), .lit (.int .u64 10000), .lit (.int .u64 100000), .lit (.int .u64 1000000), .lit (.int .u64 10000000), .lit (.int .u64 100000000), .lit (.int .u64 1000000000), .lit (.int .u64 10000000000), .lit (.int .u64 100000000000), .lit (.int .u64 1000000000000), .lit (.int .u64 10000000000000), .lit (.int .u64 100000000000000), .lit (.int .u64 1000000000000000), .lit (.int .u64 10000000000000000), .lit (.int .u64 100000000000000000), .lit (.int .u64 1000000000000000000), .lit (.int .u64 10000000000000000000)]
def laid_unicode_utf8_acceptRanges {H : Type} : DataW H := .agg [.agg [.lit (.int .u8 128), .lit (.int .u8 191)], .agg [.lit (.int .u8 160), .lit (.int .u8 191)], .agg [.lit (.int .u8 128), .lit (.int .u8 159)], .agg [.lit (.int .u8 144), .lit (.int .u8 191)], .agg [.lit (.int .u8 128), .lit (.int .u8 143)], .agg [.lit (.int .u8 0), .lit (.int .u8 0)], .agg [.lit (.int .u8 0), .lit (.int .u8 0)], .agg [.lit (.int .u8 0), .lit (.int .u8 0)], .agg [.lit (.int .u8 0), .lit (.int .u8 0)], .agg [.lit (.int .u8 0), .lit (.int .u8 0)], .agg [.lit (.int .u8 0), .lit (.int .u8 0)], .agg [.lit (.int .u8 0), .lit (.int .u8 0)], .agg [.lit (.int .u8 0), .lit (.int .u8 0)], .agg [.lit (.int .u8 0), .lit (.int .u8 0)], .agg [.lit (.int .u8 0), .lit (.int .u8 0)], .agg [.lit (.int .u8 0), .lit (.int .u8 0)]]
def laid_loop_example_buttery_impl_errTooLong {H : Type} : DataW H := .iface "*errors.errorString" (.ptr (.agg [.lit (.string [116, 111, 111, 32, 108, 111, 110, 103])]))
/-- One of Go's own tables, pinned by name: the form's constant. -/
def laid_unicode_utf8_first : DataW Unit := Go.Pinned.utf8First

/-- 'laws.FnLinesTwice': WHATEVER THE INPUT: true; the input reads as it did. -/
def fnLinesTwiceSpec : ChangeSpec := { name := "fnLinesTwice", vars := ["loop.example/buttery/impl.errTooLong"], fn := fun _ => fun
  | [d1, d2, g1] => { results := [.lit (.bool true)], args := [d1, d2], vars := [g1] }
  | _ => none }
def fnLinesTwiceRow : OpenClaim := { program := "ytoekfnjeceijaaagreatdoor", sum := "d89c21adb484924cf4118f0ca4fb9d3ce7cfc2f7c0b26f9bcee0cce8fe8cdf84", func := "loop.example/buttery/laws.FnLinesTwice", spec := "fnLinesTwice", inPlace := ["internal/bytealg.CountString", "internal/bytealg.IndexByteString", "internal/bytealg.IndexString", "internal/reflectlite.TypeOf", "internal/abi.NoEscape"], unfollowed := true, recurses := true, named := ["loop.example/buttery/impl.errTooLong", "unicode/utf8.first", "unicode/utf8.acceptRanges", "internal/bytealg.MaxLen", "internal/strconv.uint64pow10", "math/bits.deBruijn32tab", "math/bits.deBruijn64tab"], ifaces := true, apart := false, laid := [("math/bits.deBruijn32tab", laid_math_bits_deBruijn32tab), ("math/bits.deBruijn64tab", laid_math_bits_deBruijn64tab), ("internal/strconv.uint64pow10", laid_internal_strconv_uint64pow10), ("unicode/utf8.acceptRanges", laid_unicode_utf8_acceptRanges), ("loop.example/buttery/impl.errTooLong", laid_loop_example_buttery_impl_errTooLong), ("unicode/utf8.first", laid_unicode_utf8_first)] }
def FnLinesTwiceSaid : Prop := fnLinesTwiceRow.holds Tryz.pinned (OpenSpec.ofChange fnLinesTwiceSpec)

/-- ITS FALSE NEIGHBOUR: 'it returns false'. Refute it at one input. -/
def fnLinesTwiceWrong : ChangeSpec := { name := "fnLinesTwice", vars := ["loop.example/buttery/impl.errTooLong"], fn := fun _ => fun
  | [d1, d2, g1] => { results := [.lit (.bool false)], args := [d1, d2], vars := [g1] }
  | _ => none }
def FnLinesTwiceWrongFalsely : Prop := fnLinesTwiceRow.holds Tryz.pinned (OpenSpec.ofChange fnLinesTwiceWrong)

/-- 'laws.FnLinesWear': WHATEVER THE INPUT: true; the input reads as it did. -/
def fnLinesWearSpec : ChangeSpec := { name := "fnLinesWear", vars := ["loop.example/buttery/impl.errTooLong"], fn := fun _ => fun
  | [d, g1] => { results := [.lit (.bool true)], args := [d], vars := [g1] }
  | _ => none }
def fnLinesWearRow : OpenClaim := { program := "ytoekfnjeceijaaagreatdoor", sum := "d89c21adb484924cf4118f0ca4fb9d3ce7cfc2f7c0b26f9bcee0cce8fe8cdf84", func := "loop.example/buttery/laws.FnLinesWear", spec := "fnLinesWear", inPlace := ["internal/bytealg.CountString", "internal/bytealg.IndexByteString", "internal/bytealg.IndexString", "internal/reflectlite.TypeOf", "internal/abi.NoEscape"], unfollowed := true, recurses := true, named := ["loop.example/buttery/impl.errTooLong", "unicode/utf8.first", "unicode/utf8.acceptRanges", "internal/bytealg.MaxLen", "internal/strconv.uint64pow10", "math/bits.deBruijn32tab", "math/bits.deBruijn64tab"], ifaces := true, apart := false, laid := [("math/bits.deBruijn32tab", laid_math_bits_deBruijn32tab), ("math/bits.deBruijn64tab", laid_math_bits_deBruijn64tab), ("internal/strconv.uint64pow10", laid_internal_strconv_uint64pow10), ("unicode/utf8.acceptRanges", laid_unicode_utf8_acceptRanges), ("loop.example/buttery/impl.errTooLong", laid_loop_example_buttery_impl_errTooLong), ("unicode/utf8.first", laid_unicode_utf8_first)] }
def FnLinesWearSaid : Prop := fnLinesWearRow.holds Tryz.pinned (OpenSpec.ofChange fnLinesWearSpec)

/-- ITS FALSE NEIGHBOUR: 'it returns false'. Refute it at one input. -/
def fnLinesWearWrong : ChangeSpec := { name := "fnLinesWear", vars := ["loop.example/buttery/impl.errTooLong"], fn := fun _ => fun
  | [d, g1] => { results := [.lit (.bool false)], args := [d], vars := [g1] }
  | _ => none }
def FnLinesWearWrongFalsely : Prop := fnLinesWearRow.holds Tryz.pinned (OpenSpec.ofChange fnLinesWearWrong)

/-- 'laws.FnLinesWrap': WHATEVER THE INPUT: true; the input reads as it did. -/
def fnLinesWrapSpec : ChangeSpec := { name := "fnLinesWrap", vars := ["loop.example/buttery/impl.errTooLong"], fn := fun _ => fun
  | [d, g1] => { results := [.lit (.bool true)], args := [d], vars := [g1] }
  | _ => none }
def fnLinesWrapRow : OpenClaim := { program := "ytoekfnjeceijaaagreatdoor", sum := "d89c21adb484924cf4118f0ca4fb9d3ce7cfc2f7c0b26f9bcee0cce8fe8cdf84", func := "loop.example/buttery/laws.FnLinesWrap", spec := "fnLinesWrap", inPlace := ["internal/bytealg.CountString", "internal/bytealg.IndexByteString", "internal/bytealg.IndexString", "internal/reflectlite.TypeOf", "internal/abi.NoEscape"], unfollowed := true, recurses := true, named := ["loop.example/buttery/impl.errTooLong", "unicode/utf8.first", "unicode/utf8.acceptRanges", "internal/bytealg.MaxLen", "internal/strconv.uint64pow10", "math/bits.deBruijn32tab", "math/bits.deBruijn64tab"], ifaces := true, apart := false, laid := [("math/bits.deBruijn32tab", laid_math_bits_deBruijn32tab), ("math/bits.deBruijn64tab", laid_math_bits_deBruijn64tab), ("internal/strconv.uint64pow10", laid_internal_strconv_uint64pow10), ("unicode/utf8.acceptRanges", laid_unicode_utf8_acceptRanges), ("loop.example/buttery/impl.errTooLong", laid_loop_example_buttery_impl_errTooLong), ("unicode/utf8.first", laid_unicode_utf8_first)] }
def FnLinesWrapSaid : Prop := fnLinesWrapRow.holds Tryz.pinned (OpenSpec.ofChange fnLinesWrapSpec)

/-- ITS FALSE NEIGHBOUR: 'it returns false'. Refute it at one input. -/
def fnLinesWrapWrong : ChangeSpec := { name := "fnLinesWrap", vars := ["loop.example/buttery/impl.errTooLong"], fn := fun _ => fun
  | [d, g1] => { results := [.lit (.bool false)], args := [d], vars := [g1] }
  | _ => none }
def FnLinesWrapWrongFalsely : Prop := fnLinesWrapRow.holds Tryz.pinned (OpenSpec.ofChange fnLinesWrapWrong)

/-- 'laws.FnExactLinesRun': WHATEVER THE INPUT: true; the input reads as it did. -/
def fnExactLinesRunSpec : ChangeSpec := { name := "fnExactLinesRun", vars := ["loop.example/buttery/impl.errTooLong"], fn := fun _ => fun
  | [d, g1] => { results := [.lit (.bool true)], args := [d], vars := [g1] }
  | _ => none }
def fnExactLinesRunRow : OpenClaim := { program := "ytoekfnjeceijaaagreatdoor", sum := "d89c21adb484924cf4118f0ca4fb9d3ce7cfc2f7c0b26f9bcee0cce8fe8cdf84", func := "loop.example/buttery/laws.FnExactLinesRun", spec := "fnExactLinesRun", inPlace := ["internal/bytealg.CountString", "internal/bytealg.IndexByteString", "internal/bytealg.IndexString", "internal/reflectlite.TypeOf", "internal/abi.NoEscape"], unfollowed := true, recurses := true, named := ["loop.example/buttery/impl.errTooLong", "unicode/utf8.first", "unicode/utf8.acceptRanges", "internal/bytealg.MaxLen", "internal/strconv.uint64pow10", "math/bits.deBruijn32tab", "math/bits.deBruijn64tab"], ifaces := true, apart := false, laid := [("math/bits.deBruijn32tab", laid_math_bits_deBruijn32tab), ("math/bits.deBruijn64tab", laid_math_bits_deBruijn64tab), ("internal/strconv.uint64pow10", laid_internal_strconv_uint64pow10), ("unicode/utf8.acceptRanges", laid_unicode_utf8_acceptRanges), ("loop.example/buttery/impl.errTooLong", laid_loop_example_buttery_impl_errTooLong), ("unicode/utf8.first", laid_unicode_utf8_first)] }
def FnExactLinesRunSaid : Prop := fnExactLinesRunRow.holds Tryz.pinned (OpenSpec.ofChange fnExactLinesRunSpec)

/-- ITS FALSE NEIGHBOUR: 'it returns false'. Refute it at one input. -/
def fnExactLinesRunWrong : ChangeSpec := { name := "fnExactLinesRun", vars := ["loop.example/buttery/impl.errTooLong"], fn := fun _ => fun
  | [d, g1] => { results := [.lit (.bool false)], args := [d], vars := [g1] }
  | _ => none }
def FnExactLinesRunWrongFalsely : Prop := fnExactLinesRunRow.holds Tryz.pinned (OpenSpec.ofChange fnExactLinesRunWrong)

/-- 'laws.FnLinesAll': WHATEVER THE INPUT: true; the input reads as it did. -/
def fnLinesAllSpec : ChangeSpec := { name := "fnLinesAll", vars := ["loop.example/buttery/impl.errTooLong"], fn := fun _ => fun
  | [d, g1] => { results := [.lit (.bool true)], args := [d], vars := [g1] }
  | _ => none }
def fnLinesAllRow : OpenClaim := { program := "ytoekfnjeceijaaagreatdoor", sum := "d89c21adb484924cf4118f0ca4fb9d3ce7cfc2f7c0b26f9bcee0cce8fe8cdf84", func := "loop.example/buttery/laws.FnLinesAll", spec := "fnLinesAll", inPlace := ["internal/bytealg.CountString", "internal/bytealg.IndexByteString", "internal/bytealg.IndexString", "internal/reflectlite.TypeOf", "internal/abi.NoEscape"], unfollowed := true, recurses := true, named := ["loop.example/buttery/impl.errTooLong", "unicode/utf8.first", "unicode/utf8.acceptRanges", "internal/bytealg.MaxLen", "internal/strconv.uint64pow10", "math/bits.deBruijn32tab", "math/bits.deBruijn64tab"], ifaces := true, apart := false, laid := [("math/bits.deBruijn32tab", laid_math_bits_deBruijn32tab), ("math/bits.deBruijn64tab", laid_math_bits_deBruijn64tab), ("internal/strconv.uint64pow10", laid_internal_strconv_uint64pow10), ("unicode/utf8.acceptRanges", laid_unicode_utf8_acceptRanges), ("loop.example/buttery/impl.errTooLong", laid_loop_example_buttery_impl_errTooLong), ("unicode/utf8.first", laid_unicode_utf8_first)] }
def FnLinesAllSaid : Prop := fnLinesAllRow.holds Tryz.pinned (OpenSpec.ofChange fnLinesAllSpec)

/-- ITS FALSE NEIGHBOUR: 'it returns false'. Refute it at one input. -/
def fnLinesAllWrong : ChangeSpec := { name := "fnLinesAll", vars := ["loop.example/buttery/impl.errTooLong"], fn := fun _ => fun
  | [d, g1] => { results := [.lit (.bool false)], args := [d], vars := [g1] }
  | _ => none }
def FnLinesAllWrongFalsely : Prop := fnLinesAllRow.holds Tryz.pinned (OpenSpec.ofChange fnLinesAllWrong)

/-- 'laws.FnLinesFall': WHATEVER THE INPUT: true; the input reads as it did. -/
def fnLinesFallSpec : ChangeSpec := { name := "fnLinesFall", vars := ["loop.example/buttery/impl.errTooLong"], fn := fun _ => fun
  | [d, g1] => { results := [.lit (.bool true)], args := [d], vars := [g1] }
  | _ => none }
def fnLinesFallRow : OpenClaim := { program := "ytoekfnjeceijaaagreatdoor", sum := "d89c21adb484924cf4118f0ca4fb9d3ce7cfc2f7c0b26f9bcee0cce8fe8cdf84", func := "loop.example/buttery/laws.FnLinesFall", spec := "fnLinesFall", inPlace := ["internal/bytealg.CountString", "internal/bytealg.IndexByteString", "internal/bytealg.IndexString", "internal/reflectlite.TypeOf", "internal/abi.NoEscape"], unfollowed := true, recurses := true, named := ["loop.example/buttery/impl.errTooLong", "unicode/utf8.first", "unicode/utf8.acceptRanges", "internal/bytealg.MaxLen", "internal/strconv.uint64pow10", "math/bits.deBruijn32tab", "math/bits.deBruijn64tab"], ifaces := true, apart := false, laid := [("math/bits.deBruijn32tab", laid_math_bits_deBruijn32tab), ("math/bits.deBruijn64tab", laid_math_bits_deBruijn64tab), ("internal/strconv.uint64pow10", laid_internal_strconv_uint64pow10), ("unicode/utf8.acceptRanges", laid_unicode_utf8_acceptRanges), ("loop.example/buttery/impl.errTooLong", laid_loop_example_buttery_impl_errTooLong), ("unicode/utf8.first", laid_unicode_utf8_first)] }
def FnLinesFallSaid : Prop := fnLinesFallRow.holds Tryz.pinned (OpenSpec.ofChange fnLinesFallSpec)

/-- ITS FALSE NEIGHBOUR: 'it returns false'. Refute it at one input. -/
def fnLinesFallWrong : ChangeSpec := { name := "fnLinesFall", vars := ["loop.example/buttery/impl.errTooLong"], fn := fun _ => fun
  | [d, g1] => { results := [.lit (.bool false)], args := [d], vars := [g1] }
  | _ => none }
def FnLinesFallWrongFalsely : Prop := fnLinesFallRow.holds Tryz.pinned (OpenSpec.ofChange fnLinesFallWrong)

/-- 'laws.FnLinesFill': WHATEVER THE INPUT: true; the input reads as it did. -/
def fnLinesFillSpec : ChangeSpec := { name := "fnLinesFill", vars := ["loop.example/buttery/impl.errTooLong"], fn := fun _ => fun
  | [d, g1] => { results := [.lit (.bool true)], args := [d], vars := [g1] }
  | _ => none }
def fnLinesFillRow : OpenClaim := { program := "ytoekfnjeceijaaagreatdoor", sum := "d89c21adb484924cf4118f0ca4fb9d3ce7cfc2f7c0b26f9bcee0cce8fe8cdf84", func := "loop.example/buttery/laws.FnLinesFill", spec := "fnLinesFill", inPlace := ["internal/bytealg.CountString", "internal/bytealg.IndexByteString", "internal/bytealg.IndexString", "internal/reflectlite.TypeOf", "internal/abi.NoEscape"], unfollowed := true, recurses := true, named := ["loop.example/buttery/impl.errTooLong", "unicode/utf8.first", "unicode/utf8.acceptRanges", "internal/bytealg.MaxLen", "internal/strconv.uint64pow10", "math/bits.deBruijn32tab", "math/bits.deBruijn64tab"], ifaces := true, apart := false, laid := [("math/bits.deBruijn32tab", laid_math_bits_deBruijn32tab), ("math/bits.deBruijn64tab", laid_math_bits_deBruijn64tab), ("internal/strconv.uint64pow10", laid_internal_strconv_uint64pow10), ("unicode/utf8.acceptRanges", laid_unicode_utf8_acceptRanges), ("loop.example/buttery/impl.errTooLong", laid_loop_example_buttery_impl_errTooLong), ("unicode/utf8.first", laid_unicode_utf8_first)] }
def FnLinesFillSaid : Prop := fnLinesFillRow.holds Tryz.pinned (OpenSpec.ofChange fnLinesFillSpec)

/-- ITS FALSE NEIGHBOUR: 'it returns false'. Refute it at one input. -/
def fnLinesFillWrong : ChangeSpec := { name := "fnLinesFill", vars := ["loop.example/buttery/impl.errTooLong"], fn := fun _ => fun
  | [d, g1] => { results := [.lit (.bool false)], args := [d], vars := [g1] }
  | _ => none }
def FnLinesFillWrongFalsely : Prop := fnLinesFillRow.holds Tryz.pinned (OpenSpec.ofChange fnLinesFillWrong)

/-- 'laws.FnLinesFlush': WHATEVER THE INPUT: true; the input reads as it did. -/
def fnLinesFlushSpec : ChangeSpec := { name := "fnLinesFlush", vars := ["loop.example/buttery/impl.errTooLong"], fn := fun _ => fun
  | [d1, d2, g1] => { results := [.lit (.bool true)], args := [d1, d2], vars := [g1] }
  | _ => none }
def fnLinesFlushRow : OpenClaim := { program := "ytoekfnjeceijaaagreatdoor", sum := "d89c21adb484924cf4118f0ca4fb9d3ce7cfc2f7c0b26f9bcee0cce8fe8cdf84", func := "loop.example/buttery/laws.FnLinesFlush", spec := "fnLinesFlush", inPlace := ["internal/bytealg.CountString", "internal/bytealg.IndexByteString", "internal/bytealg.IndexString", "internal/reflectlite.TypeOf", "internal/abi.NoEscape"], unfollowed := true, recurses := true, named := ["loop.example/buttery/impl.errTooLong", "unicode/utf8.first", "unicode/utf8.acceptRanges", "internal/bytealg.MaxLen", "internal/strconv.uint64pow10", "math/bits.deBruijn32tab", "math/bits.deBruijn64tab"], ifaces := true, apart := false, laid := [("math/bits.deBruijn32tab", laid_math_bits_deBruijn32tab), ("math/bits.deBruijn64tab", laid_math_bits_deBruijn64tab), ("internal/strconv.uint64pow10", laid_internal_strconv_uint64pow10), ("unicode/utf8.acceptRanges", laid_unicode_utf8_acceptRanges), ("loop.example/buttery/impl.errTooLong", laid_loop_example_buttery_impl_errTooLong), ("unicode/utf8.first", laid_unicode_utf8_first)] }
def FnLinesFlushSaid : Prop := fnLinesFlushRow.holds Tryz.pinned (OpenSpec.ofChange fnLinesFlushSpec)

/-- ITS FALSE NEIGHBOUR: 'it returns false'. Refute it at one input. -/
def fnLinesFlushWrong : ChangeSpec := { name := "fnLinesFlush", vars := ["loop.example/buttery/impl.errTooLong"], fn := fun _ => fun
  | [d1, d2, g1] => { results := [.lit (.bool false)], args := [d1, d2], vars := [g1] }
  | _ => none }
def FnLinesFlushWrongFalsely : Prop := fnLinesFlushRow.holds Tryz.pinned (OpenSpec.ofChange fnLinesFlushWrong)

/-- 'laws.FnLinesNone': WHATEVER THE INPUT: true; the input reads as it did. -/
def fnLinesNoneSpec : ChangeSpec := { name := "fnLinesNone", vars := ["loop.example/buttery/impl.errTooLong"], fn := fun _ => fun
  | [d, g1] => { results := [.lit (.bool true)], args := [d], vars := [g1] }
  | _ => none }
def fnLinesNoneRow : OpenClaim := { program := "ytoekfnjeceijaaagreatdoor", sum := "d89c21adb484924cf4118f0ca4fb9d3ce7cfc2f7c0b26f9bcee0cce8fe8cdf84", func := "loop.example/buttery/laws.FnLinesNone", spec := "fnLinesNone", inPlace := ["internal/bytealg.CountString", "internal/bytealg.IndexByteString", "internal/bytealg.IndexString", "internal/reflectlite.TypeOf", "internal/abi.NoEscape"], unfollowed := true, recurses := true, named := ["loop.example/buttery/impl.errTooLong", "unicode/utf8.first", "unicode/utf8.acceptRanges", "internal/bytealg.MaxLen", "internal/strconv.uint64pow10", "math/bits.deBruijn32tab", "math/bits.deBruijn64tab"], ifaces := true, apart := false, laid := [("math/bits.deBruijn32tab", laid_math_bits_deBruijn32tab), ("math/bits.deBruijn64tab", laid_math_bits_deBruijn64tab), ("internal/strconv.uint64pow10", laid_internal_strconv_uint64pow10), ("unicode/utf8.acceptRanges", laid_unicode_utf8_acceptRanges), ("loop.example/buttery/impl.errTooLong", laid_loop_example_buttery_impl_errTooLong), ("unicode/utf8.first", laid_unicode_utf8_first)] }
def FnLinesNoneSaid : Prop := fnLinesNoneRow.holds Tryz.pinned (OpenSpec.ofChange fnLinesNoneSpec)

/-- ITS FALSE NEIGHBOUR: 'it returns false'. Refute it at one input. -/
def fnLinesNoneWrong : ChangeSpec := { name := "fnLinesNone", vars := ["loop.example/buttery/impl.errTooLong"], fn := fun _ => fun
  | [d, g1] => { results := [.lit (.bool false)], args := [d], vars := [g1] }
  | _ => none }
def FnLinesNoneWrongFalsely : Prop := fnLinesNoneRow.holds Tryz.pinned (OpenSpec.ofChange fnLinesNoneWrong)

/-- 'laws.FnLinesPut': WHATEVER THE INPUT: true; the input reads as it did. -/
def fnLinesPutSpec : ChangeSpec := { name := "fnLinesPut", vars := ["loop.example/buttery/impl.errTooLong"], fn := fun _ => fun
  | [d, g1] => { results := [.lit (.bool true)], args := [d], vars := [g1] }
  | _ => none }
def fnLinesPutRow : OpenClaim := { program := "ytoekfnjeceijaaagreatdoor", sum := "d89c21adb484924cf4118f0ca4fb9d3ce7cfc2f7c0b26f9bcee0cce8fe8cdf84", func := "loop.example/buttery/laws.FnLinesPut", spec := "fnLinesPut", inPlace := ["internal/bytealg.CountString", "internal/bytealg.IndexByteString", "internal/bytealg.IndexString", "internal/reflectlite.TypeOf", "internal/abi.NoEscape"], unfollowed := true, recurses := true, named := ["loop.example/buttery/impl.errTooLong", "unicode/utf8.first", "unicode/utf8.acceptRanges", "internal/bytealg.MaxLen", "internal/strconv.uint64pow10", "math/bits.deBruijn32tab", "math/bits.deBruijn64tab"], ifaces := true, apart := false, laid := [("math/bits.deBruijn32tab", laid_math_bits_deBruijn32tab), ("math/bits.deBruijn64tab", laid_math_bits_deBruijn64tab), ("internal/strconv.uint64pow10", laid_internal_strconv_uint64pow10), ("unicode/utf8.acceptRanges", laid_unicode_utf8_acceptRanges), ("loop.example/buttery/impl.errTooLong", laid_loop_example_buttery_impl_errTooLong), ("unicode/utf8.first", laid_unicode_utf8_first)] }
def FnLinesPutSaid : Prop := fnLinesPutRow.holds Tryz.pinned (OpenSpec.ofChange fnLinesPutSpec)

/-- ITS FALSE NEIGHBOUR: 'it returns false'. Refute it at one input. -/
def fnLinesPutWrong : ChangeSpec := { name := "fnLinesPut", vars := ["loop.example/buttery/impl.errTooLong"], fn := fun _ => fun
  | [d, g1] => { results := [.lit (.bool false)], args := [d], vars := [g1] }
  | _ => none }
def FnLinesPutWrongFalsely : Prop := fnLinesPutRow.holds Tryz.pinned (OpenSpec.ofChange fnLinesPutWrong)

/-- 'laws.FnLinesQuiet': WHATEVER THE INPUT: true; the input reads as it did. -/
def fnLinesQuietSpec : ChangeSpec := { name := "fnLinesQuiet", vars := ["loop.example/buttery/impl.errTooLong"], fn := fun _ => fun
  | [d1, d2, g1] => { results := [.lit (.bool true)], args := [d1, d2], vars := [g1] }
  | _ => none }
def fnLinesQuietRow : OpenClaim := { program := "ytoekfnjeceijaaagreatdoor", sum := "d89c21adb484924cf4118f0ca4fb9d3ce7cfc2f7c0b26f9bcee0cce8fe8cdf84", func := "loop.example/buttery/laws.FnLinesQuiet", spec := "fnLinesQuiet", inPlace := ["internal/bytealg.CountString", "internal/bytealg.IndexByteString", "internal/bytealg.IndexString", "internal/reflectlite.TypeOf", "internal/abi.NoEscape"], unfollowed := true, recurses := true, named := ["loop.example/buttery/impl.errTooLong", "unicode/utf8.first", "unicode/utf8.acceptRanges", "internal/bytealg.MaxLen", "internal/strconv.uint64pow10", "math/bits.deBruijn32tab", "math/bits.deBruijn64tab"], ifaces := true, apart := false, laid := [("math/bits.deBruijn32tab", laid_math_bits_deBruijn32tab), ("math/bits.deBruijn64tab", laid_math_bits_deBruijn64tab), ("internal/strconv.uint64pow10", laid_internal_strconv_uint64pow10), ("unicode/utf8.acceptRanges", laid_unicode_utf8_acceptRanges), ("loop.example/buttery/impl.errTooLong", laid_loop_example_buttery_impl_errTooLong), ("unicode/utf8.first", laid_unicode_utf8_first)] }
def FnLinesQuietSaid : Prop := fnLinesQuietRow.holds Tryz.pinned (OpenSpec.ofChange fnLinesQuietSpec)

/-- ITS FALSE NEIGHBOUR: 'it returns false'. Refute it at one input. -/
def fnLinesQuietWrong : ChangeSpec := { name := "fnLinesQuiet", vars := ["loop.example/buttery/impl.errTooLong"], fn := fun _ => fun
  | [d1, d2, g1] => { results := [.lit (.bool false)], args := [d1, d2], vars := [g1] }
  | _ => none }
def FnLinesQuietWrongFalsely : Prop := fnLinesQuietRow.holds Tryz.pinned (OpenSpec.ofChange fnLinesQuietWrong)

/-- 'laws.FnLinesRun': WHATEVER THE INPUT: true; the input reads as it did. -/
def fnLinesRunSpec : ChangeSpec := { name := "fnLinesRun", vars := ["loop.example/buttery/impl.errTooLong"], fn := fun _ => fun
  | [d, g1] => { results := [.lit (.bool true)], args := [d], vars := [g1] }
  | _ => none }
def fnLinesRunRow : OpenClaim := { program := "ytoekfnjeceijaaagreatdoor", sum := "d89c21adb484924cf4118f0ca4fb9d3ce7cfc2f7c0b26f9bcee0cce8fe8cdf84", func := "loop.example/buttery/laws.FnLinesRun", spec := "fnLinesRun", inPlace := ["internal/bytealg.CountString", "internal/bytealg.IndexByteString", "internal/bytealg.IndexString", "internal/reflectlite.TypeOf", "internal/abi.NoEscape"], unfollowed := true, recurses := true, named := ["loop.example/buttery/impl.errTooLong", "unicode/utf8.first", "unicode/utf8.acceptRanges", "internal/bytealg.MaxLen", "internal/strconv.uint64pow10", "math/bits.deBruijn32tab", "math/bits.deBruijn64tab"], ifaces := true, apart := false, laid := [("math/bits.deBruijn32tab", laid_math_bits_deBruijn32tab), ("math/bits.deBruijn64tab", laid_math_bits_deBruijn64tab), ("internal/strconv.uint64pow10", laid_internal_strconv_uint64pow10), ("unicode/utf8.acceptRanges", laid_unicode_utf8_acceptRanges), ("loop.example/buttery/impl.errTooLong", laid_loop_example_buttery_impl_errTooLong), ("unicode/utf8.first", laid_unicode_utf8_first)] }
def FnLinesRunSaid : Prop := fnLinesRunRow.holds Tryz.pinned (OpenSpec.ofChange fnLinesRunSpec)

/-- ITS FALSE NEIGHBOUR: 'it returns false'. Refute it at one input. -/
def fnLinesRunWrong : ChangeSpec := { name := "fnLinesRun", vars := ["loop.example/buttery/impl.errTooLong"], fn := fun _ => fun
  | [d, g1] => { results := [.lit (.bool false)], args := [d], vars := [g1] }
  | _ => none }
def FnLinesRunWrongFalsely : Prop := fnLinesRunRow.holds Tryz.pinned (OpenSpec.ofChange fnLinesRunWrong)

/- THE SECOND FORM. 'bulk': how many values and letters a reading holds, each counted each time it is reached (what is shared counts as often as it is met; a slice's spare places count too). A statement '..UptoSaid' is the law's where the arguments, and the package variables that the reading takes, are together of bulk at most 1048576: NARROWER than '..Said'. Prove '..Said' where nothing that the law and all that it calls make is longer than what came in: it says more and counts as full. Else prove '..UptoSaid'. A law counts once. -/
mutual
def uptoBulk {H : Type} : DataW H → Nat
  | .lit (.string bytes) => bytes.length + 1
  | .lit _ => 1
  | .nil => 1
  | .ptr d => uptoBulk d + 1
  | .slice elems spare => uptoBulkAll elems + uptoBulkAll spare + 1
  | .agg parts => uptoBulkAll parts + 1
  | .iface _ d => uptoBulk d + 1
  | .map entries => uptoBulkEntries entries + 1
  | .held _ => 1
def uptoBulkAll {H : Type} : List (DataW H) → Nat
  | [] => 0
  | d :: r => uptoBulk d + uptoBulkAll r
def uptoBulkEntries {H : Type} : List (Lit × DataW H) → Nat
  | [] => 0
  | x :: r => uptoBulkEntry x + uptoBulkEntries r
def uptoBulkEntry {H : Type} : Lit × DataW H → Nat
  | (.string bytes, d) => bytes.length + uptoBulk d + 1
  | (_, d) => uptoBulk d + 1
 end
def uptoSmall : (H : Type) → List (DataW H) → Bool := fun _ ds => decide (uptoBulkAll ds ≤ 1048576)
def OpenSpec.upto (s : _root_.Go.ChangeSpec) : _root_.Go.OpenSpec := { _root_.Go.OpenSpec.ofChange s with cond := some uptoSmall }

/-- 'laws.FnLinesTwice', WHERE WHAT IT READS IS OF BULK AT MOST 1048576: true; the input reads as it did. -/
def fnLinesTwiceUptoRow : OpenClaim := { program := "ytoekfnjeceijaaagreatdoor", sum := "d89c21adb484924cf4118f0ca4fb9d3ce7cfc2f7c0b26f9bcee0cce8fe8cdf84", func := "loop.example/buttery/laws.FnLinesTwice", spec := "fnLinesTwice", inPlace := ["internal/bytealg.CountString", "internal/bytealg.IndexByteString", "internal/bytealg.IndexString", "internal/reflectlite.TypeOf", "internal/abi.NoEscape"], unfollowed := true, recurses := true, named := ["loop.example/buttery/impl.errTooLong", "unicode/utf8.first", "unicode/utf8.acceptRanges", "internal/bytealg.MaxLen", "internal/strconv.uint64pow10", "math/bits.deBruijn32tab", "math/bits.deBruijn64tab"], ifaces := true, apart := false, laid := [("math/bits.deBruijn32tab", laid_math_bits_deBruijn32tab), ("math/bits.deBruijn64tab", laid_math_bits_deBruijn64tab), ("internal/strconv.uint64pow10", laid_internal_strconv_uint64pow10), ("unicode/utf8.acceptRanges", laid_unicode_utf8_acceptRanges), ("loop.example/buttery/impl.errTooLong", laid_loop_example_buttery_impl_errTooLong), ("unicode/utf8.first", laid_unicode_utf8_first)], narrowed := true }
def FnLinesTwiceUptoSaid : Prop := fnLinesTwiceUptoRow.holds Tryz.pinned (OpenSpec.upto fnLinesTwiceSpec)

/-- 'laws.FnLinesWear', WHERE WHAT IT READS IS OF BULK AT MOST 1048576: true; the input reads as it did. -/
def fnLinesWearUptoRow : OpenClaim := { program := "ytoekfnjeceijaaagreatdoor", sum := "d89c21adb484924cf4118f0ca4fb9d3ce7cfc2f7c0b26f9bcee0cce8fe8cdf84", func := "loop.example/buttery/laws.FnLinesWear", spec := "fnLinesWear", inPlace := ["internal/bytealg.CountString", "internal/bytealg.IndexByteString", "internal/bytealg.IndexString", "internal/reflectlite.TypeOf", "internal/abi.NoEscape"], unfollowed := true, recurses := true, named := ["loop.example/buttery/impl.errTooLong", "unicode/utf8.first", "unicode/utf8.acceptRanges", "internal/bytealg.MaxLen", "internal/strconv.uint64pow10", "math/bits.deBruijn32tab", "math/bits.deBruijn64tab"], ifaces := true, apart := false, laid := [("math/bits.deBruijn32tab", laid_math_bits_deBruijn32tab), ("math/bits.deBruijn64tab", laid_math_bits_deBruijn64tab), ("internal/strconv.uint64pow10", laid_internal_strconv_uint64pow10), ("unicode/utf8.acceptRanges", laid_unicode_utf8_acceptRanges), ("loop.example/buttery/impl.errTooLong", laid_loop_example_buttery_impl_errTooLong), ("unicode/utf8.first", laid_unicode_utf8_first)], narrowed := true }
def FnLinesWearUptoSaid : Prop := fnLinesWearUptoRow.holds Tryz.pinned (OpenSpec.upto fnLinesWearSpec)

/-- 'laws.FnLinesWrap', WHERE WHAT IT READS IS OF BULK AT MOST 1048576: true; the input reads as it did. -/
def fnLinesWrapUptoRow : OpenClaim := { program := "ytoekfnjeceijaaagreatdoor", sum := "d89c21adb484924cf4118f0ca4fb9d3ce7cfc2f7c0b26f9bcee0cce8fe8cdf84", func := "loop.example/buttery/laws.FnLinesWrap", spec := "fnLinesWrap", inPlace := ["internal/bytealg.CountString", "internal/bytealg.IndexByteString", "internal/bytealg.IndexString", "internal/reflectlite.TypeOf", "internal/abi.NoEscape"], unfollowed := true, recurses := true, named := ["loop.example/buttery/impl.errTooLong", "unicode/utf8.first", "unicode/utf8.acceptRanges", "internal/bytealg.MaxLen", "internal/strconv.uint64pow10", "math/bits.deBruijn32tab", "math/bits.deBruijn64tab"], ifaces := true, apart := false, laid := [("math/bits.deBruijn32tab", laid_math_bits_deBruijn32tab), ("math/bits.deBruijn64tab", laid_math_bits_deBruijn64tab), ("internal/strconv.uint64pow10", laid_internal_strconv_uint64pow10), ("unicode/utf8.acceptRanges", laid_unicode_utf8_acceptRanges), ("loop.example/buttery/impl.errTooLong", laid_loop_example_buttery_impl_errTooLong), ("unicode/utf8.first", laid_unicode_utf8_first)], narrowed := true }
def FnLinesWrapUptoSaid : Prop := fnLinesWrapUptoRow.holds Tryz.pinned (OpenSpec.upto fnLinesWrapSpec)

/-- 'laws.FnExactLinesRun', WHERE WHAT IT READS IS OF BULK AT MOST 1048576: true; the input reads as it did. -/
def fnExactLinesRunUptoRow : OpenClaim := { program := "ytoekfnjeceijaaagreatdoor", sum := "d89c21adb484924cf4118f0ca4fb9d3ce7cfc2f7c0b26f9bcee0cce8fe8cdf84", func := "loop.example/buttery/laws.FnExactLinesRun", spec := "fnExactLinesRun", inPlace := ["internal/bytealg.CountString", "internal/bytealg.IndexByteString", "internal/bytealg.IndexString", "internal/reflectlite.TypeOf", "internal/abi.NoEscape"], unfollowed := true, recurses := true, named := ["loop.example/buttery/impl.errTooLong", "unicode/utf8.first", "unicode/utf8.acceptRanges", "internal/bytealg.MaxLen", "internal/strconv.uint64pow10", "math/bits.deBruijn32tab", "math/bits.deBruijn64tab"], ifaces := true, apart := false, laid := [("math/bits.deBruijn32tab", laid_math_bits_deBruijn32tab), ("math/bits.deBruijn64tab", laid_math_bits_deBruijn64tab), ("internal/strconv.uint64pow10", laid_internal_strconv_uint64pow10), ("unicode/utf8.acceptRanges", laid_unicode_utf8_acceptRanges), ("loop.example/buttery/impl.errTooLong", laid_loop_example_buttery_impl_errTooLong), ("unicode/utf8.first", laid_unicode_utf8_first)], narrowed := true }
def FnExactLinesRunUptoSaid : Prop := fnExactLinesRunUptoRow.holds Tryz.pinned (OpenSpec.upto fnExactLinesRunSpec)

/-- 'laws.FnLinesAll', WHERE WHAT IT READS IS OF BULK AT MOST 1048576: true; the input reads as it did. -/
def fnLinesAllUptoRow : OpenClaim := { program := "ytoekfnjeceijaaagreatdoor", sum := "d89c21adb484924cf4118f0ca4fb9d3ce7cfc2f7c0b26f9bcee0cce8fe8cdf84", func := "loop.example/buttery/laws.FnLinesAll", spec := "fnLinesAll", inPlace := ["internal/bytealg.CountString", "internal/bytealg.IndexByteString", "internal/bytealg.IndexString", "internal/reflectlite.TypeOf", "internal/abi.NoEscape"], unfollowed := true, recurses := true, named := ["loop.example/buttery/impl.errTooLong", "unicode/utf8.first", "unicode/utf8.acceptRanges", "internal/bytealg.MaxLen", "internal/strconv.uint64pow10", "math/bits.deBruijn32tab", "math/bits.deBruijn64tab"], ifaces := true, apart := false, laid := [("math/bits.deBruijn32tab", laid_math_bits_deBruijn32tab), ("math/bits.deBruijn64tab", laid_math_bits_deBruijn64tab), ("internal/strconv.uint64pow10", laid_internal_strconv_uint64pow10), ("unicode/utf8.acceptRanges", laid_unicode_utf8_acceptRanges), ("loop.example/buttery/impl.errTooLong", laid_loop_example_buttery_impl_errTooLong), ("unicode/utf8.first", laid_unicode_utf8_first)], narrowed := true }
def FnLinesAllUptoSaid : Prop := fnLinesAllUptoRow.holds Tryz.pinned (OpenSpec.upto fnLinesAllSpec)

/-- 'laws.FnLinesFall', WHERE WHAT IT READS IS OF BULK AT MOST 1048576: true; the input reads as it did. -/
def fnLinesFallUptoRow : OpenClaim := { program := "ytoekfnjeceijaaagreatdoor", sum := "d89c21adb484924cf4118f0ca4fb9d3ce7cfc2f7c0b26f9bcee0cce8fe8cdf84", func := "loop.example/buttery/laws.FnLinesFall", spec := "fnLinesFall", inPlace := ["internal/bytealg.CountString", "internal/bytealg.IndexByteString", "internal/bytealg.IndexString", "internal/reflectlite.TypeOf", "internal/abi.NoEscape"], unfollowed := true, recurses := true, named := ["loop.example/buttery/impl.errTooLong", "unicode/utf8.first", "unicode/utf8.acceptRanges", "internal/bytealg.MaxLen", "internal/strconv.uint64pow10", "math/bits.deBruijn32tab", "math/bits.deBruijn64tab"], ifaces := true, apart := false, laid := [("math/bits.deBruijn32tab", laid_math_bits_deBruijn32tab), ("math/bits.deBruijn64tab", laid_math_bits_deBruijn64tab), ("internal/strconv.uint64pow10", laid_internal_strconv_uint64pow10), ("unicode/utf8.acceptRanges", laid_unicode_utf8_acceptRanges), ("loop.example/buttery/impl.errTooLong", laid_loop_example_buttery_impl_errTooLong), ("unicode/utf8.first", laid_unicode_utf8_first)], narrowed := true }
def FnLinesFallUptoSaid : Prop := fnLinesFallUptoRow.holds Tryz.pinned (OpenSpec.upto fnLinesFallSpec)

/-- 'laws.FnLinesFill', WHERE WHAT IT READS IS OF BULK AT MOST 1048576: true; the input reads as it did. -/
def fnLinesFillUptoRow : OpenClaim := { program := "ytoekfnjeceijaaagreatdoor", sum := "d89c21adb484924cf4118f0ca4fb9d3ce7cfc2f7c0b26f9bcee0cce8fe8cdf84", func := "loop.example/buttery/laws.FnLinesFill", spec := "fnLinesFill", inPlace := ["internal/bytealg.CountString", "internal/bytealg.IndexByteString", "internal/bytealg.IndexString", "internal/reflectlite.TypeOf", "internal/abi.NoEscape"], unfollowed := true, recurses := true, named := ["loop.example/buttery/impl.errTooLong", "unicode/utf8.first", "unicode/utf8.acceptRanges", "internal/bytealg.MaxLen", "internal/strconv.uint64pow10", "math/bits.deBruijn32tab", "math/bits.deBruijn64tab"], ifaces := true, apart := false, laid := [("math/bits.deBruijn32tab", laid_math_bits_deBruijn32tab), ("math/bits.deBruijn64tab", laid_math_bits_deBruijn64tab), ("internal/strconv.uint64pow10", laid_internal_strconv_uint64pow10), ("unicode/utf8.acceptRanges", laid_unicode_utf8_acceptRanges), ("loop.example/buttery/impl.errTooLong", laid_loop_example_buttery_impl_errTooLong), ("unicode/utf8.first", laid_unicode_utf8_first)], narrowed := true }
def FnLinesFillUptoSaid : Prop := fnLinesFillUptoRow.holds Tryz.pinned (OpenSpec.upto fnLinesFillSpec)

/-- 'laws.FnLinesFlush', WHERE WHAT IT READS IS OF BULK AT MOST 1048576: true; the input reads as it did. -/
def fnLinesFlushUptoRow : OpenClaim := { program := "ytoekfnjeceijaaagreatdoor", sum := "d89c21adb484924cf4118f0ca4fb9d3ce7cfc2f7c0b26f9bcee0cce8fe8cdf84", func := "loop.example/buttery/laws.FnLinesFlush", spec := "fnLinesFlush", inPlace := ["internal/bytealg.CountString", "internal/bytealg.IndexByteString", "internal/bytealg.IndexString", "internal/reflectlite.TypeOf", "internal/abi.NoEscape"], unfollowed := true, recurses := true, named := ["loop.example/buttery/impl.errTooLong", "unicode/utf8.first", "unicode/utf8.acceptRanges", "internal/bytealg.MaxLen", "internal/strconv.uint64pow10", "math/bits.deBruijn32tab", "math/bits.deBruijn64tab"], ifaces := true, apart := false, laid := [("math/bits.deBruijn32tab", laid_math_bits_deBruijn32tab), ("math/bits.deBruijn64tab", laid_math_bits_deBruijn64tab), ("internal/strconv.uint64pow10", laid_internal_strconv_uint64pow10), ("unicode/utf8.acceptRanges", laid_unicode_utf8_acceptRanges), ("loop.example/buttery/impl.errTooLong", laid_loop_example_buttery_impl_errTooLong), ("unicode/utf8.first", laid_unicode_utf8_first)], narrowed := true }
def FnLinesFlushUptoSaid : Prop := fnLinesFlushUptoRow.holds Tryz.pinned (OpenSpec.upto fnLinesFlushSpec)

/-- 'laws.FnLinesNone', WHERE WHAT IT READS IS OF BULK AT MOST 1048576: true; the input reads as it did. -/
def fnLinesNoneUptoRow : OpenClaim := { program := "ytoekfnjeceijaaagreatdoor", sum := "d89c21adb484924cf4118f0ca4fb9d3ce7cfc2f7c0b26f9bcee0cce8fe8cdf84", func := "loop.example/buttery/laws.FnLinesNone", spec := "fnLinesNone", inPlace := ["internal/bytealg.CountString", "internal/bytealg.IndexByteString", "internal/bytealg.IndexString", "internal/reflectlite.TypeOf", "internal/abi.NoEscape"], unfollowed := true, recurses := true, named := ["loop.example/buttery/impl.errTooLong", "unicode/utf8.first", "unicode/utf8.acceptRanges", "internal/bytealg.MaxLen", "internal/strconv.uint64pow10", "math/bits.deBruijn32tab", "math/bits.deBruijn64tab"], ifaces := true, apart := false, laid := [("math/bits.deBruijn32tab", laid_math_bits_deBruijn32tab), ("math/bits.deBruijn64tab", laid_math_bits_deBruijn64tab), ("internal/strconv.uint64pow10", laid_internal_strconv_uint64pow10), ("unicode/utf8.acceptRanges", laid_unicode_utf8_acceptRanges), ("loop.example/buttery/impl.errTooLong", laid_loop_example_buttery_impl_errTooLong), ("unicode/utf8.first", laid_unicode_utf8_first)], narrowed := true }
def FnLinesNoneUptoSaid : Prop := fnLinesNoneUptoRow.holds Tryz.pinned (OpenSpec.upto fnLinesNoneSpec)

/-- 'laws.FnLinesPut', WHERE WHAT IT READS IS OF BULK AT MOST 1048576: true; the input reads as it did. -/
def fnLinesPutUptoRow : OpenClaim := { program := "ytoekfnjeceijaaagreatdoor", sum := "d89c21adb484924cf4118f0ca4fb9d3ce7cfc2f7c0b26f9bcee0cce8fe8cdf84", func := "loop.example/buttery/laws.FnLinesPut", spec := "fnLinesPut", inPlace := ["internal/bytealg.CountString", "internal/bytealg.IndexByteString", "internal/bytealg.IndexString", "internal/reflectlite.TypeOf", "internal/abi.NoEscape"], unfollowed := true, recurses := true, named := ["loop.example/buttery/impl.errTooLong", "unicode/utf8.first", "unicode/utf8.acceptRanges", "internal/bytealg.MaxLen", "internal/strconv.uint64pow10", "math/bits.deBruijn32tab", "math/bits.deBruijn64tab"], ifaces := true, apart := false, laid := [("math/bits.deBruijn32tab", laid_math_bits_deBruijn32tab), ("math/bits.deBruijn64tab", laid_math_bits_deBruijn64tab), ("internal/strconv.uint64pow10", laid_internal_strconv_uint64pow10), ("unicode/utf8.acceptRanges", laid_unicode_utf8_acceptRanges), ("loop.example/buttery/impl.errTooLong", laid_loop_example_buttery_impl_errTooLong), ("unicode/utf8.first", laid_unicode_utf8_first)], narrowed := true }
def FnLinesPutUptoSaid : Prop := fnLinesPutUptoRow.holds Tryz.pinned (OpenSpec.upto fnLinesPutSpec)

/-- 'laws.FnLinesQuiet', WHERE WHAT IT READS IS OF BULK AT MOST 1048576: true; the input reads as it did. -/
def fnLinesQuietUptoRow : OpenClaim := { program := "ytoekfnjeceijaaagreatdoor", sum := "d89c21adb484924cf4118f0ca4fb9d3ce7cfc2f7c0b26f9bcee0cce8fe8cdf84", func := "loop.example/buttery/laws.FnLinesQuiet", spec := "fnLinesQuiet", inPlace := ["internal/bytealg.CountString", "internal/bytealg.IndexByteString", "internal/bytealg.IndexString", "internal/reflectlite.TypeOf", "internal/abi.NoEscape"], unfollowed := true, recurses := true, named := ["loop.example/buttery/impl.errTooLong", "unicode/utf8.first", "unicode/utf8.acceptRanges", "internal/bytealg.MaxLen", "internal/strconv.uint64pow10", "math/bits.deBruijn32tab", "math/bits.deBruijn64tab"], ifaces := true, apart := false, laid := [("math/bits.deBruijn32tab", laid_math_bits_deBruijn32tab), ("math/bits.deBruijn64tab", laid_math_bits_deBruijn64tab), ("internal/strconv.uint64pow10", laid_internal_strconv_uint64pow10), ("unicode/utf8.acceptRanges", laid_unicode_utf8_acceptRanges), ("loop.example/buttery/impl.errTooLong", laid_loop_example_buttery_impl_errTooLong), ("unicode/utf8.first", laid_unicode_utf8_first)], narrowed := true }
def FnLinesQuietUptoSaid : Prop := fnLinesQuietUptoRow.holds Tryz.pinned (OpenSpec.upto fnLinesQuietSpec)

/-- 'laws.FnLinesRun', WHERE WHAT IT READS IS OF BULK AT MOST 1048576: true; the input reads as it did. -/
def fnLinesRunUptoRow : OpenClaim := { program := "ytoekfnjeceijaaagreatdoor", sum := "d89c21adb484924cf4118f0ca4fb9d3ce7cfc2f7c0b26f9bcee0cce8fe8cdf84", func := "loop.example/buttery/laws.FnLinesRun", spec := "fnLinesRun", inPlace := ["internal/bytealg.CountString", "internal/bytealg.IndexByteString", "internal/bytealg.IndexString", "internal/reflectlite.TypeOf", "internal/abi.NoEscape"], unfollowed := true, recurses := true, named := ["loop.example/buttery/impl.errTooLong", "unicode/utf8.first", "unicode/utf8.acceptRanges", "internal/bytealg.MaxLen", "internal/strconv.uint64pow10", "math/bits.deBruijn32tab", "math/bits.deBruijn64tab"], ifaces := true, apart := false, laid := [("math/bits.deBruijn32tab", laid_math_bits_deBruijn32tab), ("math/bits.deBruijn64tab", laid_math_bits_deBruijn64tab), ("internal/strconv.uint64pow10", laid_internal_strconv_uint64pow10), ("unicode/utf8.acceptRanges", laid_unicode_utf8_acceptRanges), ("loop.example/buttery/impl.errTooLong", laid_loop_example_buttery_impl_errTooLong), ("unicode/utf8.first", laid_unicode_utf8_first)], narrowed := true }
def FnLinesRunUptoSaid : Prop := fnLinesRunUptoRow.holds Tryz.pinned (OpenSpec.upto fnLinesRunSpec)

end Rows
end Go.Proofs.YtoekfnjeceijaaaGreatDoor
