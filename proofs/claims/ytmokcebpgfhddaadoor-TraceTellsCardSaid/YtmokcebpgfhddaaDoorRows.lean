/-
  NARROWER THAN 'FOR EVERY INPUT', by the rows' own cells (each row's printed sentence says how): TraceWords: laid · TraceBegins: laid · TraceJoins: laid · TraceTells: laid · RetryTries: laid · RetryOnce: laid · RetryDoes: laid · TraceFloor: laid.
  DERIVED. THE GIVEN ROWS OF THIS SEAT. 8 by the template 'for every input the law returns true; each argument reads behind the call as it read before'; 0 by the template 'total and deterministic' (their statements: YtmokcebpgfhddaaDoorTotals.lean).
  GIVEN WITH THE SEED: the statements are not yours to turn. If you find one false, say at which input.
  Laid BY PROGRAM, IN A SANDBOX (cutbox-rows.mjs): the forced cells as the released guide's own fill.sh prints them over the translation 9024615cf32f6aa2… (all of the seat's roots in one cut). By AI agents, Wed Nov 11 2026. No macro, syntax, notation, axiom, sorry.
-/
import Derived.Test.YtmokcebpgfhddaaDoorChecked
import GoSem.PinnedTables
import GoSem.Claim
import GoSem.ClaimJoined
import GoSem.ClaimMapViews
import Derived.JoinedTies
import Derived.KernelRfl
namespace Go.Proofs.YtmokcebpgfhddaaDoor
/- THE CELL 'sum', in the pinned program and in every row, IS THE sha256 OF THE DUMP (.gsa) THAT YtmokcebpgfhddaaDoorProg.lean LOADS. Nothing in Lean hashes anything: it is a label: what it is worth is what the hold of that sum in a sandbox is worth. -/
noncomputable def Tryd.pinned : Pinned := { name := "ytmokcebpgfhddaadoor", sum := "9024615cf32f6aa24b7d886c337a9ded6365ca54a4419e9527e6f60bcc5e40fa", checked := Tryd.checked }
namespace Rows
def none {H : Type} : Left H := { results := [], args := [] }

/- WHAT THE LISTED PACKAGE-LEVEL VARIABLES READ AS WHEN THE CALL BEGINS. Each datum BY PROGRAM (the guide's laid-datum.mjs) off the statement by which the dump's own 'gosem.cut.vars' lays the variable. In a bare row this is a premise. The card (YtmokcebpgfhddaaDoorCards.lean) ties it to the program's text. -/
def laid_math_bits_deBruijn32tab {H : Type} : DataW H := .agg [.lit (.int .u8 0), .lit (.int .u8 1), .lit (.int .u8 28), .lit (.int .u8 2), .lit (.int .u8 29), .lit (.int .u8 14), .lit (.int .u8 24), .lit (.int .u8 3), .lit (.int .u8 30), .lit (.int .u8 22), .lit (.int .u8 20), .lit (.int .u8 15), .lit (.int .u8 25), .lit (.int .u8 17), .lit (.int .u8 4), .lit (.int .u8 8), .lit (.int .u8 31), .lit (.int .u8 27), .lit (.int .u8 13), .lit (.int .u8 23), .lit (.int .u8 21), .lit (.int .u8 19), .lit (.int .u8 16), .lit (.int .u8 7), .lit (.int .u8 26), .lit (.int .u8 12), .lit (.int .u8 18), .lit (.int .u8 6), .lit (.int .u8 11), .lit (.int .u8 5), .lit (.int .u8 10), .lit (.int .u8 9)]
def laid_math_bits_deBruijn64tab {H : Type} : DataW H := .agg [.lit (.int .u8 0), .lit (.int .u8 1), .lit (.int .u8 56), .lit (.int .u8 2), .lit (.int .u8 57), .lit (.int .u8 49), .lit (.int .u8 28), .lit (.int .u8 3), .lit (.int .u8 61), .lit (.int .u8 58), .lit (.int .u8 42), .lit (.int .u8 50), .lit (.int .u8 38), .lit (.int .u8 29), .lit (.int .u8 17), .lit (.int .u8 4), .lit (.int .u8 62), .lit (.int .u8 47), .lit (.int .u8 59), .lit (.int .u8 36), .lit (.int .u8 45), .lit (.int .u8 43), .lit (.int .u8 51), .lit (.int .u8 22), .lit (.int .u8 53), .lit (.int .u8 39), .lit (.int .u8 33), .lit (.int .u8 30), .lit (.int .u8 24), .lit (.int .u8 18), .lit (.int .u8 12), .lit (.int .u8 5), .lit (.int .u8 63), .lit (.int .u8 55), .lit (.int .u8 48), .lit (.int .u8 27), .lit (.int .u8 60), .lit (.int .u8 41), .lit (.int .u8 37), .lit (.int .u8 16), .lit (.int .u8 46), .lit (.int .u8 35), .lit (.int .u8 44), .lit (.int .u8 21), .lit (.int .u8 52), .lit (.int .u8 32), .lit (.int .u8 23), .lit (.int .u8 11), .lit (.int .u8 54), .lit (.int .u8 26), .lit (.int .u8 40), .lit (.int .u8 15), .lit (.int .u8 34), .lit (.int .u8 20), .lit (.int .u8 31), .lit (.int .u8 10), .lit (.int .u8 25), .lit (.int .u8 14), .lit (.int .u8 19), .lit (.int .u8 9), .lit (.int .u8 13), .lit (.int .u8 8), .lit (.int .u8 7), .lit (.int .u8 6)]
def laid_internal_strconv_uint64pow10 {H : Type} : DataW H := .agg [.lit (.int .u64 1), .lit (.int .u64 10), .lit (.int .u64 100), .lit (.int .u64 1000), .lit (.int .u64 10000), .lit (.int .u64 100000), .lit (.int .u64 1000000), .lit (.int .u64 10000000), .lit (.int .u64 100000000), .lit (.int .u64 1000000000), .lit (.int .u64 10000000000), .lit (.int .u64 100000000000), .lit (.int .u64 1000000000000), .lit (.int .u64 10000000000000), .lit (.int .u64 100000000000000), .lit (.int .u64 1000000000000000), .lit (.int .u64 10000000000000000), .lit (.int .u64 100000000000000000), .lit (.int .u64 1000000000000000000), .lit (.int .u64 10000000000000000000)]
def laid_unicode_utf8_acceptRanges {H : Type} : DataW H := .agg [.agg [.lit (.int .u8 128), .lit (.int .u8 191)], .agg [.lit (.int .u8 160), .lit (.int .u8 191)], .agg [.lit (.int .u8 128), .lit (.int .u8 159)], .agg [.lit (.int .u8 144), .lit (.int .u8 191)], .agg [.lit (.int .u8 128), .lit (.int .u8 143)], .agg [.lit (.int .u8 0), .lit (.int .u8 0)], .agg [.lit (.int .u8 0), .lit (.int .u8 0)], .agg [.lit (.int .u8 0), .lit (.int .u8 0)], .agg [.lit (.int .u8 0), .lit (.int .u8 0)], .agg [.lit (.int .u8 0), .lit (.int .u8 0)], .agg [.lit (.int .u8 0), .lit (.int .u8 0)], .agg [.lit (.int .u8 0), .lit (.int .u8 0)], .agg [.lit (.int .u8 0), .lit (.int .u8 0)], .agg [.lit (.int .u8 0), .lit (.int .u8 0)], .agg [.lit (.int .u8 0), .lit (.int .u8 0)], .agg [.lit (.int .u8 0), .lit (.int .u8 0)]]
/-- One of Go's own tables, pinned by name: the form's constant. -/
def laid_unicode_utf8_first : DataW Unit := Go.Pinned.utf8First

/-- 'squelchlaw23.TraceWords': WHATEVER THE INPUT: true; the input reads as it did. -/
def traceWordsSpec : ChangeSpec := { name := "traceWords", fn := fun _ => fun
  | [d1, d2, d3] => { results := [.lit (.bool true)], args := [d1, d2, d3] }
  | _ => none }
def traceWordsRow : OpenClaim := { program := "ytmokcebpgfhddaadoor", sum := "9024615cf32f6aa24b7d886c337a9ded6365ca54a4419e9527e6f60bcc5e40fa", func := "squelch/squelchlaw23.TraceWords", spec := "traceWords", inPlace := ["internal/abi.NoEscape"], recurses := true, named := ["internal/strconv.uint64pow10", "math/bits.deBruijn32tab", "math/bits.deBruijn64tab"], plainKeys := false, apart := false, laid := [("math/bits.deBruijn32tab", laid_math_bits_deBruijn32tab), ("math/bits.deBruijn64tab", laid_math_bits_deBruijn64tab), ("internal/strconv.uint64pow10", laid_internal_strconv_uint64pow10)] }
def TraceWordsSaid : Prop := traceWordsRow.holds Tryd.pinned (OpenSpec.ofChange traceWordsSpec)

/-- ITS FALSE NEIGHBOUR: 'it returns false'. Refute it at one input. -/
def traceWordsWrong : ChangeSpec := { name := "traceWords", fn := fun _ => fun
  | [d1, d2, d3] => { results := [.lit (.bool false)], args := [d1, d2, d3] }
  | _ => none }
def TraceWordsWrongFalsely : Prop := traceWordsRow.holds Tryd.pinned (OpenSpec.ofChange traceWordsWrong)

/-- 'squelchlaw23.TraceBegins': WHATEVER THE INPUT: true; the input reads as it did. -/
def traceBeginsSpec : ChangeSpec := { name := "traceBegins", fn := fun _ => fun
  | [d1, d2] => { results := [.lit (.bool true)], args := [d1, d2] }
  | _ => none }
def traceBeginsRow : OpenClaim := { program := "ytmokcebpgfhddaadoor", sum := "9024615cf32f6aa24b7d886c337a9ded6365ca54a4419e9527e6f60bcc5e40fa", func := "squelch/squelchlaw23.TraceBegins", spec := "traceBegins", inPlace := ["internal/abi.NoEscape"], named := ["internal/strconv.uint64pow10", "math/bits.deBruijn32tab", "math/bits.deBruijn64tab"], plainKeys := false, apart := false, laid := [("math/bits.deBruijn32tab", laid_math_bits_deBruijn32tab), ("math/bits.deBruijn64tab", laid_math_bits_deBruijn64tab), ("internal/strconv.uint64pow10", laid_internal_strconv_uint64pow10)] }
def TraceBeginsSaid : Prop := traceBeginsRow.holds Tryd.pinned (OpenSpec.ofChange traceBeginsSpec)

/-- ITS FALSE NEIGHBOUR: 'it returns false'. Refute it at one input. -/
def traceBeginsWrong : ChangeSpec := { name := "traceBegins", fn := fun _ => fun
  | [d1, d2] => { results := [.lit (.bool false)], args := [d1, d2] }
  | _ => none }
def TraceBeginsWrongFalsely : Prop := traceBeginsRow.holds Tryd.pinned (OpenSpec.ofChange traceBeginsWrong)

/-- 'squelchlaw23.TraceJoins': WHATEVER THE INPUT: true; the input reads as it did. -/
def traceJoinsSpec : ChangeSpec := { name := "traceJoins", fn := fun _ => fun
  | [d1, d2] => { results := [.lit (.bool true)], args := [d1, d2] }
  | _ => none }
def traceJoinsRow : OpenClaim := { program := "ytmokcebpgfhddaadoor", sum := "9024615cf32f6aa24b7d886c337a9ded6365ca54a4419e9527e6f60bcc5e40fa", func := "squelch/squelchlaw23.TraceJoins", spec := "traceJoins", inPlace := ["internal/abi.NoEscape"], named := ["internal/strconv.uint64pow10", "math/bits.deBruijn32tab", "math/bits.deBruijn64tab"], plainKeys := false, apart := false, laid := [("math/bits.deBruijn32tab", laid_math_bits_deBruijn32tab), ("math/bits.deBruijn64tab", laid_math_bits_deBruijn64tab), ("internal/strconv.uint64pow10", laid_internal_strconv_uint64pow10)] }
def TraceJoinsSaid : Prop := traceJoinsRow.holds Tryd.pinned (OpenSpec.ofChange traceJoinsSpec)

/-- ITS FALSE NEIGHBOUR: 'it returns false'. Refute it at one input. -/
def traceJoinsWrong : ChangeSpec := { name := "traceJoins", fn := fun _ => fun
  | [d1, d2] => { results := [.lit (.bool false)], args := [d1, d2] }
  | _ => none }
def TraceJoinsWrongFalsely : Prop := traceJoinsRow.holds Tryd.pinned (OpenSpec.ofChange traceJoinsWrong)

/-- 'squelchlaw23.TraceTells': WHATEVER THE INPUT: true; the input reads as it did. -/
def traceTellsSpec : ChangeSpec := { name := "traceTells", fn := fun _ => fun
  | [d] => { results := [.lit (.bool true)], args := [d] }
  | _ => none }
def traceTellsRow : OpenClaim := { program := "ytmokcebpgfhddaadoor", sum := "9024615cf32f6aa24b7d886c337a9ded6365ca54a4419e9527e6f60bcc5e40fa", func := "squelch/squelchlaw23.TraceTells", spec := "traceTells", inPlace := ["internal/abi.NoEscape"], named := ["internal/strconv.uint64pow10", "math/bits.deBruijn32tab", "math/bits.deBruijn64tab"], plainKeys := false, apart := false, laid := [("math/bits.deBruijn32tab", laid_math_bits_deBruijn32tab), ("math/bits.deBruijn64tab", laid_math_bits_deBruijn64tab), ("internal/strconv.uint64pow10", laid_internal_strconv_uint64pow10)] }
def TraceTellsSaid : Prop := traceTellsRow.holds Tryd.pinned (OpenSpec.ofChange traceTellsSpec)

/-- ITS FALSE NEIGHBOUR: 'it returns false'. Refute it at one input. -/
def traceTellsWrong : ChangeSpec := { name := "traceTells", fn := fun _ => fun
  | [d] => { results := [.lit (.bool false)], args := [d] }
  | _ => none }
def TraceTellsWrongFalsely : Prop := traceTellsRow.holds Tryd.pinned (OpenSpec.ofChange traceTellsWrong)

/-- 'squelchlaw17.RetryTries': WHATEVER THE INPUT: true; the input reads as it did. -/
def retryTriesSpec : ChangeSpec := { name := "retryTries", fn := fun _ => fun
  | [d] => { results := [.lit (.bool true)], args := [d] }
  | _ => none }
def retryTriesRow : OpenClaim := { program := "ytmokcebpgfhddaadoor", sum := "9024615cf32f6aa24b7d886c337a9ded6365ca54a4419e9527e6f60bcc5e40fa", func := "squelch/squelchlaw17.RetryTries", spec := "retryTries", inPlace := ["slices.overlaps[squelch/api.Heard]", "slices.overlaps[int]"], unfollowed := true, recurses := true, named := ["unicode/utf8.first", "unicode/utf8.acceptRanges"], plainKeys := false, apart := false, laid := [("unicode/utf8.acceptRanges", laid_unicode_utf8_acceptRanges), ("unicode/utf8.first", laid_unicode_utf8_first)] }
def RetryTriesSaid : Prop := retryTriesRow.holds Tryd.pinned (OpenSpec.ofChange retryTriesSpec)

/-- ITS FALSE NEIGHBOUR: 'it returns false'. Refute it at one input. -/
def retryTriesWrong : ChangeSpec := { name := "retryTries", fn := fun _ => fun
  | [d] => { results := [.lit (.bool false)], args := [d] }
  | _ => none }
def RetryTriesWrongFalsely : Prop := retryTriesRow.holds Tryd.pinned (OpenSpec.ofChange retryTriesWrong)

/-- 'squelchlaw17.RetryOnce': WHATEVER THE INPUT: true; the input reads as it did. -/
def retryOnceSpec : ChangeSpec := { name := "retryOnce", fn := fun _ => fun
  | [d] => { results := [.lit (.bool true)], args := [d] }
  | _ => none }
def retryOnceRow : OpenClaim := { program := "ytmokcebpgfhddaadoor", sum := "9024615cf32f6aa24b7d886c337a9ded6365ca54a4419e9527e6f60bcc5e40fa", func := "squelch/squelchlaw17.RetryOnce", spec := "retryOnce", inPlace := ["slices.overlaps[squelch/api.Heard]", "slices.overlaps[int]"], unfollowed := true, recurses := true, named := ["unicode/utf8.first", "unicode/utf8.acceptRanges"], plainKeys := false, apart := false, laid := [("unicode/utf8.acceptRanges", laid_unicode_utf8_acceptRanges), ("unicode/utf8.first", laid_unicode_utf8_first)] }
def RetryOnceSaid : Prop := retryOnceRow.holds Tryd.pinned (OpenSpec.ofChange retryOnceSpec)

/-- ITS FALSE NEIGHBOUR: 'it returns false'. Refute it at one input. -/
def retryOnceWrong : ChangeSpec := { name := "retryOnce", fn := fun _ => fun
  | [d] => { results := [.lit (.bool false)], args := [d] }
  | _ => none }
def RetryOnceWrongFalsely : Prop := retryOnceRow.holds Tryd.pinned (OpenSpec.ofChange retryOnceWrong)

/-- 'squelchlaw17.RetryDoes': WHATEVER THE INPUT: true; the input reads as it did. -/
def retryDoesSpec : ChangeSpec := { name := "retryDoes", fn := fun _ => fun
  | [d1, d2, d3] => { results := [.lit (.bool true)], args := [d1, d2, d3] }
  | _ => none }
def retryDoesRow : OpenClaim := { program := "ytmokcebpgfhddaadoor", sum := "9024615cf32f6aa24b7d886c337a9ded6365ca54a4419e9527e6f60bcc5e40fa", func := "squelch/squelchlaw17.RetryDoes", spec := "retryDoes", inPlace := ["slices.overlaps[squelch/api.Heard]", "slices.overlaps[int]"], unfollowed := true, recurses := true, named := ["unicode/utf8.first", "unicode/utf8.acceptRanges"], plainKeys := false, apart := false, laid := [("unicode/utf8.acceptRanges", laid_unicode_utf8_acceptRanges), ("unicode/utf8.first", laid_unicode_utf8_first)] }
def RetryDoesSaid : Prop := retryDoesRow.holds Tryd.pinned (OpenSpec.ofChange retryDoesSpec)

/-- ITS FALSE NEIGHBOUR: 'it returns false'. Refute it at one input. -/
def retryDoesWrong : ChangeSpec := { name := "retryDoes", fn := fun _ => fun
  | [d1, d2, d3] => { results := [.lit (.bool false)], args := [d1, d2, d3] }
  | _ => none }
def RetryDoesWrongFalsely : Prop := retryDoesRow.holds Tryd.pinned (OpenSpec.ofChange retryDoesWrong)

/-- 'squelchlaw23.TraceFloor': WHATEVER THE INPUT: true; the input reads as it did. -/
def traceFloorSpec : ChangeSpec := { name := "traceFloor", fn := fun _ => fun
  | [d] => { results := [.lit (.bool true)], args := [d] }
  | _ => none }
def traceFloorRow : OpenClaim := { program := "ytmokcebpgfhddaadoor", sum := "9024615cf32f6aa24b7d886c337a9ded6365ca54a4419e9527e6f60bcc5e40fa", func := "squelch/squelchlaw23.TraceFloor", spec := "traceFloor", inPlace := ["internal/abi.NoEscape", "slices.overlaps[int]", "slices.overlaps[squelch/api.Waiter]"], unfollowed := true, recurses := true, named := ["internal/strconv.uint64pow10", "math/bits.deBruijn32tab", "math/bits.deBruijn64tab"], plainKeys := false, apart := false, laid := [("math/bits.deBruijn32tab", laid_math_bits_deBruijn32tab), ("math/bits.deBruijn64tab", laid_math_bits_deBruijn64tab), ("internal/strconv.uint64pow10", laid_internal_strconv_uint64pow10)] }
def TraceFloorSaid : Prop := traceFloorRow.holds Tryd.pinned (OpenSpec.ofChange traceFloorSpec)

/-- ITS FALSE NEIGHBOUR: 'it returns false'. Refute it at one input. -/
def traceFloorWrong : ChangeSpec := { name := "traceFloor", fn := fun _ => fun
  | [d] => { results := [.lit (.bool false)], args := [d] }
  | _ => none }
def TraceFloorWrongFalsely : Prop := traceFloorRow.holds Tryd.pinned (OpenSpec.ofChange traceFloorWrong)

/- THE SECOND FORM. 'bulk': how many values and letters a reading holds, each counted each time it is reached (what is shared counts as often as it is met; a slice's spare places count too). A statement '..UptoSaid' is the law's where the arguments, and the package variables that the reading takes, are together of bulk at most 1048576: NARROWER than '..Said'. Prove '..Said' where nothing that the law and all that it calls make is longer than what came in: it says more and counts as full. Else prove '..UptoSaid'. A law counts once. -/
mutual
def uptoBulk {H : Type} : DataW H → Nat
  | .lit (.string bytes) => bytes.length + 1
  | .lit _ => 1
  | .nil => 1
  | .ptr d => uptoBulk d + 1
  | .slice elems spare => uptoBulkAll elems + uptoBulkAll spare + 1
  | .agg parts => uptoBulkAll parts + 1
  | .iface _ d => uptoBulk d + 1
  | .map entries => uptoBulkEntries entries + 1
  | .held _ => 1
def uptoBulkAll {H : Type} : List (DataW H) → Nat
  | [] => 0
  | d :: r => uptoBulk d + uptoBulkAll r
def uptoBulkEntries {H : Type} : List (Lit × DataW H) → Nat
  | [] => 0
  | x :: r => uptoBulkEntry x + uptoBulkEntries r
def uptoBulkEntry {H : Type} : Lit × DataW H → Nat
  | (.string bytes, d) => bytes.length + uptoBulk d + 1
  | (_, d) => uptoBulk d + 1
 end
def uptoSmall : (H : Type) → List (DataW H) → Bool := fun _ ds => decide (uptoBulkAll ds ≤ 1048576)
def OpenSpec.upto (s : _root_.Go.ChangeSpec) : _root_.Go.OpenSpec := { _root_.Go.OpenSpec.ofChange s with cond := some uptoSmall }

/-- 'squelchlaw23.TraceWords', WHERE WHAT IT READS IS OF BULK AT MOST 1048576: true; the input reads as it did. -/
def traceWordsUptoRow : OpenClaim := { program := "ytmokcebpgfhddaadoor", sum := "9024615cf32f6aa24b7d886c337a9ded6365ca54a4419e9527e6f60bcc5e40fa", func := "squelch/squelchlaw23.TraceWords", spec := "traceWords", inPlace := ["internal/abi.NoEscape"], recurses := true, named := ["internal/strconv.uint64pow10", "math/bits.deBruijn32tab", "math/bits.deBruijn64tab"], plainKeys := false, apart := false, laid := [("math/bits.deBruijn32tab", laid_math_bits_deBruijn32tab), ("math/bits.deBruijn64tab", laid_math_bits_deBruijn64tab), ("internal/strconv.uint64pow10", laid_internal_strconv_uint64pow10)], narrowed := true }
def TraceWordsUptoSaid : Prop := traceWordsUptoRow.holds Tryd.pinned (OpenSpec.upto traceWordsSpec)

/-- 'squelchlaw23.TraceBegins', WHERE WHAT IT READS IS OF BULK AT MOST 1048576: true; the input reads as it did. -/
def traceBeginsUptoRow : OpenClaim := { program := "ytmokcebpgfhddaadoor", sum := "9024615cf32f6aa24b7d886c337a9ded6365ca54a4419e9527e6f60bcc5e40fa", func := "squelch/squelchlaw23.TraceBegins", spec := "traceBegins", inPlace := ["internal/abi.NoEscape"], named := ["internal/strconv.uint64pow10", "math/bits.deBruijn32tab", "math/bits.deBruijn64tab"], plainKeys := false, apart := false, laid := [("math/bits.deBruijn32tab", laid_math_bits_deBruijn32tab), ("math/bits.deBruijn64tab", laid_math_bits_deBruijn64tab), ("internal/strconv.uint64pow10", laid_internal_strconv_uint64pow10)], narrowed := true }
def TraceBeginsUptoSaid : Prop := traceBeginsUptoRow.holds Tryd.pinned (OpenSpec.upto traceBeginsSpec)

/-- 'squelchlaw23.TraceJoins', WHERE WHAT IT READS IS OF BULK AT MOST 1048576: true; the input reads as it did. -/
def traceJoinsUptoRow : OpenClaim := { program := "ytmokcebpgfhddaadoor", sum := "9024615cf32f6aa24b7d886c337a9ded6365ca54a4419e9527e6f60bcc5e40fa", func := "squelch/squelchlaw23.TraceJoins", spec := "traceJoins", inPlace := ["internal/abi.NoEscape"], named := ["internal/strconv.uint64pow10", "math/bits.deBruijn32tab", "math/bits.deBruijn64tab"], plainKeys := false, apart := false, laid := [("math/bits.deBruijn32tab", laid_math_bits_deBruijn32tab), ("math/bits.deBruijn64tab", laid_math_bits_deBruijn64tab), ("internal/strconv.uint64pow10", laid_internal_strconv_uint64pow10)], narrowed := true }
def TraceJoinsUptoSaid : Prop := traceJoinsUptoRow.holds Tryd.pinned (OpenSpec.upto traceJoinsSpec)

/-- 'squelchlaw23.TraceTells', WHERE WHAT IT READS IS OF BULK AT MOST 1048576: true; the input reads as it did. -/
def traceTellsUptoRow : OpenClaim := { program := "ytmokcebpgfhddaadoor", sum := "9024615cf32f6aa24b7d886c337a9ded6365ca54a4419e9527e6f60bcc5e40fa", func := "squelch/squelchlaw23.TraceTells", spec := "traceTells", inPlace := ["internal/abi.NoEscape"], named := ["internal/strconv.uint64pow10", "math/bits.deBruijn32tab", "math/bits.deBruijn64tab"], plainKeys := false, apart := false, laid := [("math/bits.deBruijn32tab", laid_math_bits_deBruijn32tab), ("math/bits.deBruijn64tab", laid_math_bits_deBruijn64tab), ("internal/strconv.uint64pow10", laid_internal_strconv_uint64pow10)], narrowed := true }
def TraceTellsUptoSaid : Prop := traceTellsUptoRow.holds Tryd.pinned (OpenSpec.upto traceTellsSpec)

/-- 'squelchlaw17.RetryTries', WHERE WHAT IT READS IS OF BULK AT MOST 1048576: true; the input reads as it did. -/
def retryTriesUptoRow : OpenClaim := { program := "ytmokcebpgfhddaadoor", sum := "9024615cf32f6aa24b7d886c337a9ded6365ca54a4419e9527e6f60bcc5e40fa", func := "squelch/squelchlaw17.RetryTries", spec := "retryTries", inPlace := ["slices.overlaps[squelch/api.Heard]", "slices.overlaps[int]"], unfollowed := true, recurses := true, named := ["unicode/utf8.first", "unicode/utf8.acceptRanges"], plainKeys := false, apart := false, laid := [("unicode/utf8.acceptRanges", laid_unicode_utf8_acceptRanges), ("unicode/utf8.first", laid_unicode_utf8_first)], narrowed := true }
def RetryTriesUptoSaid : Prop := retryTriesUptoRow.holds Tryd.pinned (OpenSpec.upto retryTriesSpec)

/-- 'squelchlaw17.RetryOnce', WHERE WHAT IT READS IS OF BULK AT MOST 1048576: true; the input reads as it did. -/
def retryOnceUptoRow : OpenClaim := { program := "ytmokcebpgfhddaadoor", sum := "9024615cf32f6aa24b7d886c337a9ded6365ca54a4419e9527e6f60bcc5e40fa", func := "squelch/squelchlaw17.RetryOnce", spec := "retryOnce", inPlace := ["slices.overlaps[squelch/api.Heard]", "slices.overlaps[int]"], unfollowed := true, recurses := true, named := ["unicode/utf8.first", "unicode/utf8.acceptRanges"], plainKeys := false, apart := false, laid := [("unicode/utf8.acceptRanges", laid_unicode_utf8_acceptRanges), ("unicode/utf8.first", laid_unicode_utf8_first)], narrowed := true }
def RetryOnceUptoSaid : Prop := retryOnceUptoRow.holds Tryd.pinned (OpenSpec.upto retryOnceSpec)

/-- 'squelchlaw17.RetryDoes', WHERE WHAT IT READS IS OF BULK AT MOST 1048576: true; the input reads as it did. -/
def retryDoesUptoRow : OpenClaim := { program := "ytmokcebpgfhddaadoor", sum := "9024615cf32f6aa24b7d886c337a9ded6365ca54a4419e9527e6f60bcc5e40fa", func := "squelch/squelchlaw17.RetryDoes", spec := "retryDoes", inPlace := ["slices.overlaps[squelch/api.Heard]", "slices.overlaps[int]"], unfollowed := true, recurses := true, named := ["unicode/utf8.first", "unicode/utf8.acceptRanges"], plainKeys := false, apart := false, laid := [("unicode/utf8.acceptRanges", laid_unicode_utf8_acceptRanges), ("unicode/utf8.first", laid_unicode_utf8_first)], narrowed := true }
def RetryDoesUptoSaid : Prop := retryDoesUptoRow.holds Tryd.pinned (OpenSpec.upto retryDoesSpec)

/-- 'squelchlaw23.TraceFloor', WHERE WHAT IT READS IS OF BULK AT MOST 1048576: true; the input reads as it did. -/
def traceFloorUptoRow : OpenClaim := { program := "ytmokcebpgfhddaadoor", sum := "9024615cf32f6aa24b7d886c337a9ded6365ca54a4419e9527e6f60bcc5e40fa", func := "squelch/squelchlaw23.TraceFloor", spec := "traceFloor", inPlace := ["internal/abi.NoEscape", "slices.overlaps[int]", "slices.overlaps[squelch/api.Waiter]"], unfollowed := true, recurses := true, named := ["internal/strconv.uint64pow10", "math/bits.deBruijn32tab", "math/bits.deBruijn64tab"], plainKeys := false, apart := false, laid := [("math/bits.deBruijn32tab", laid_math_bits_deBruijn32tab), ("math/bits.deBruijn64tab", laid_math_bits_deBruijn64tab), ("internal/strconv.uint64pow10", laid_internal_strconv_uint64pow10)], narrowed := true }
def TraceFloorUptoSaid : Prop := traceFloorUptoRow.holds Tryd.pinned (OpenSpec.upto traceFloorSpec)

end Rows
end Go.Proofs.YtmokcebpgfhddaaDoor
