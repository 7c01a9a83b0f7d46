/-
  NARROWER THAN 'FOR EVERY INPUT', by the rows' own cells (each row's printed sentence says how): CommandCase: laid · CommandNames: laid · CommandTags: laid · CommandTail: laid · CommandSames: laid.
  DERIVED. THE GIVEN ROWS OF THIS SEAT. 5 by the template 'for every input the law returns true; each argument reads behind the call as it read before'; 0 by the template 'total and deterministic' (their statements: YtjamgkcmpcnfpaaGreatDoorTotals.lean).
  GIVEN WITH THE SEED: the statements are not yours to turn. If you find one false, say at which input.
  Laid BY PROGRAM, IN A SANDBOX (cutbox-rows.mjs): the forced cells as the released guide's own fill.sh prints them over the translation 5769429ee8741e15… (all of the seat's roots in one cut). By AI agents, Wed Nov 11 2026. No macro, syntax, notation, axiom, sorry.
-/
import Derived.Test.YtjamgkcmpcnfpaaGreatDoorChecked
import GoSem.Claim
import GoSem.ClaimJoined
import GoSem.ClaimMapViews
import Derived.JoinedTies
import Derived.KernelRfl
namespace Go.Proofs.YtjamgkcmpcnfpaaGreatDoor
/- THE CELL 'sum', in the pinned program and in every row, IS THE sha256 OF THE DUMP (.gsa) THAT YtjamgkcmpcnfpaaGreatDoorProg.lean LOADS. Nothing in Lean hashes anything: it is a label: what it is worth is what the hold of that sum in a sandbox is worth. -/
noncomputable def Tryz.pinned : Pinned := { name := "ytjamgkcmpcnfpaagreatdoor", sum := "5769429ee8741e15fe3ca318d6d5bb317bcb022f4fb6fbb7445d3f09b803efa0", checked := Tryz.checked }
namespace Rows
def none {H : Type} : Left H := { results := [], args := [] }

/- WHAT THE LISTED PACKAGE-LEVEL VARIABLES READ AS WHEN THE CALL BEGINS. Each datum BY PROGRAM (the guide's laid-datum.mjs) off the statement by which the dump's own 'gosem.cut.vars' lays the variable. In a bare row this is a premise. The card (YtjamgkcmpcnfpaaGreatDoorCards.lean) ties it to the program's text. -/
def laid_math_bits_deBruijn32tab {H : Type} : DataW H := .agg [.lit (.int .u8 0), .lit (.int .u8 1), .lit (.int .u8 28), .lit (.int .u8 2), .lit (.int .u8 29), .lit (.int .u8 14), .lit (.int .u8 24), .lit (.int .u8 3), .lit (.int .u8 30), .lit (.int .u8 22), .lit (.int .u8 20), .lit (.int .u8 15), .lit (.int .u8 25), .lit (.int .u8 17), .lit (.int .u8 4), .lit (.int .u8 8), .lit (.int .u8 31), .lit (.int .u8 27), .lit (.int .u8 13), .lit (.int .u8 23), .lit (.int .u8 21), .lit (.int .u8 19), .lit (.int .u8 16), .lit (.int .u8 7), .lit (.int .u8 26), .lit (.int .u8 12), .lit (.int .u8 18), .lit (.int .u8 6), .lit (.int .u8 11), .lit (.int .u8 5), .lit (.int .u8 10), .lit (.int .u8 9)]
def laid_math_bits_deBruijn64tab {H : Type} : DataW H := .agg [.lit (.int .u8 0), .lit (.int .u8 1), .lit (.int .u8 56), .lit (.int .u8 2), .lit (.int .u8 57), .lit (.int .u8 49), .lit (.int .u8 28), .lit (.int .u8 3), .lit (.int .u8 61), .lit (.int .u8 58), .lit (.int .u8 42), .lit (.int .u8 50), .lit (.int .u8 38), .lit (.int .u8 29), .lit (.int .u8 17), .lit (.int .u8 4), .lit (.int .u8 62), .lit (.int .u8 47), .lit (.int .u8 59), .lit (.int .u8 36), .lit (.int .u8 45), .lit (.int .u8 43), .lit (.int .u8 51), .lit (.int .u8 22), .lit (.int .u8 53), .lit (.int .u8 39), .lit (.int .u8 33), .lit (.int .u8 30), .lit (.int .u8 24), .lit (.int .u8 18), .lit (.int .u8 12), .lit (.int .u8 5), .lit (.int .u8 63), .lit (.int .u8 55), .lit (.int .u8 48), .lit (.int .u8 27), .lit (.int .u8 60), .lit (.int .u8 41), .lit (.int .u8 37), .lit (.int .u8 16), .lit (.int .u8 46), .lit (.int .u8 35), .lit (.int .u8 44), .lit (.int .u8 21), .lit (.int .u8 52), .lit (.int .u8 32), .lit (.int .u8 23), .lit (.int .u8 11), .lit (.int .u8 54), .lit (.int .u8 26), .lit (.int .u8 40), .lit (.int .u8 15), .lit (.int .u8 34), .lit (.int .u8 20), .lit (.int .u8 31), .lit (.int .u8 10), .lit (.int .u8 25), .lit (.int .u8 14), .lit (.int .u8 19), .lit (.int .u8 9), .lit (.int .u8 13), .lit (.int .u8 8), .lit (.int .u8 7), .lit (.int .u8 6)]
def laid_escheat_flag_named {H : Type} : DataW H := .agg [.agg [.lit (.string [92, 65, 110, 115, 119, 101, 114, 101, 100]), .lit (.int .i64 2)], .agg [.lit (.string [92, 70, 108, 97, 103, 103, 101, 100]), .lit (.int .i64 4)], .agg [.lit (.string [92, 68, 101, 108, 101, 116, 101, 100]), .lit (.int .i64 8)], .agg [.lit (.string [92, 83, 101, 101, 110]), .lit (.int .i64 1)], .agg [.lit (.string [92, 68, 114, 97, 102, 116]), .lit (.int .i64 16)]]
def laid_escheat_command_ops {H : Type} : DataW H := .map [(.string [97, 112, 112, 101, 110, 100], .lit (.int .i64 15)), (.string [97, 117, 116, 104, 101, 110, 116, 105, 99, 97, 116, 101], .lit (.int .i64 28)), (.string [99, 97, 112, 97, 98, 105, 108, 105, 116, 121], .lit (.int .i64 1)), (.string [99, 104, 101, 99, 107], .lit (.int .i64 16)), (.string [99, 108, 111, 115, 101], .lit (.int .i64 17)), (.string [99, 111, 112, 121], .lit (.int .i64 22)), (.string [99, 114, 101, 97, 116, 101], .lit (.int .i64 7)), (.string [100, 101, 108, 101, 116, 101], .lit (.int .i64 8)), (.string [101, 120, 97, 109, 105, 110, 101], .lit (.int .i64 6)), (.string [101, 120, 112, 117, 110, 103, 101], .lit (.int .i64 18)), (.string [102, 101, 116, 99, 104], .lit (.int .i64 20)), (.string [108, 105, 115, 116], .lit (.int .i64 12)), (.string [108, 111, 103, 105, 110], .lit (.int .i64 4)), (.string [108, 111, 103, 111, 117, 116], .lit (.int .i64 3)), (.string [108, 115, 117, 98], .lit (.int .i64 13)), (.string [110, 111, 111, 112], .lit (.int .i64 2)), (.string [114, 101, 110, 97, 109, 101], .lit (.int .i64 9)), (.string [115, 101, 97, 114, 99, 104], .lit (.int .i64 19)), (.string [115, 101, 108, 101, 99, 116], .lit (.int .i64 5)), (.string [115, 116, 97, 116, 117, 115], .lit (.int .i64 14)), (.string [115, 116, 111, 114, 101], .lit (.int .i64 21)), (.string [115, 117, 98, 115, 99, 114, 105, 98, 101], .lit (.int .i64 10)), (.string [117, 110, 115, 117, 98, 115, 99, 114, 105, 98, 101], .lit (.int .i64 11)), (.string [120, 104, 111, 108, 100], .lit (.int .i64 25)), (.string [120, 112, 117, 114, 103, 101], .lit (.int .i64 27)), (.string [120, 114, 101, 108, 101, 97, 115, 101], .lit (.int .i64 26)), (.string [120, 114, 101, 116, 101, 110, 116, 105, 111, 110], .lit (.int .i64 24)), (.string [120, 117, 110, 101, 120, 112, 117, 110, 103, 101], .lit (.int .i64 23))]

/-- 'escheatlaw24.CommandCase': WHATEVER THE INPUT: true; the input reads as it did. -/
def commandCaseSpec : ChangeSpec := { name := "commandCase", fn := fun _ => fun
  | [d1, d2] => { results := [.lit (.bool true)], args := [d1, d2] }
  | _ => none }
def commandCaseRow : OpenClaim := { program := "ytjamgkcmpcnfpaagreatdoor", sum := "5769429ee8741e15fe3ca318d6d5bb317bcb022f4fb6fbb7445d3f09b803efa0", func := "escheat/escheatlaw24.CommandCase", spec := "commandCase", inPlace := ["internal/bytealg.IndexByteString", "internal/bytealg.IndexString", "internal/abi.NoEscape", "internal/bytealg.CountString"], unfollowed := true, recurses := true, named := ["escheat/command.ops", "internal/bytealg.MaxLen", "unicode/utf8.first", "unicode/utf8.acceptRanges", "strconv.ErrSyntax", "strconv.ErrRange", "internal/strconv.uint64pow10", "math/bits.deBruijn32tab", "math/bits.deBruijn64tab", "unicode.asciiFold", "unicode.caseOrbit", "unicode.CaseRanges", "escheat/command.stats", "escheat/flag.named", "escheat/date.names", "escheat/date.ahead", "escheat/command.flags", "escheat/command.days", "escheat/command.fields", "escheat/command.macros", "escheat/command.whats"], apart := false, laid := [("math/bits.deBruijn32tab", laid_math_bits_deBruijn32tab), ("math/bits.deBruijn64tab", laid_math_bits_deBruijn64tab), ("escheat/flag.named", laid_escheat_flag_named), ("escheat/command.ops", laid_escheat_command_ops)] }
def CommandCaseSaid : Prop := commandCaseRow.holds Tryz.pinned (OpenSpec.ofChange commandCaseSpec)

/-- ITS FALSE NEIGHBOUR: 'it returns false'. Refute it at one input. -/
def commandCaseWrong : ChangeSpec := { name := "commandCase", fn := fun _ => fun
  | [d1, d2] => { results := [.lit (.bool false)], args := [d1, d2] }
  | _ => none }
def CommandCaseWrongFalsely : Prop := commandCaseRow.holds Tryz.pinned (OpenSpec.ofChange commandCaseWrong)

/-- 'escheatlaw24.CommandNames': WHATEVER THE INPUT: true; the input reads as it did. -/
def commandNamesSpec : ChangeSpec := { name := "commandNames", fn := fun _ => fun
  | [d1, d2, d3] => { results := [.lit (.bool true)], args := [d1, d2, d3] }
  | _ => none }
def commandNamesRow : OpenClaim := { program := "ytjamgkcmpcnfpaagreatdoor", sum := "5769429ee8741e15fe3ca318d6d5bb317bcb022f4fb6fbb7445d3f09b803efa0", func := "escheat/escheatlaw24.CommandNames", spec := "commandNames", inPlace := ["internal/bytealg.IndexByteString", "internal/bytealg.IndexString", "internal/abi.NoEscape", "internal/bytealg.CountString"], unfollowed := true, recurses := true, named := ["escheat/command.ops", "internal/bytealg.MaxLen", "unicode/utf8.first", "unicode/utf8.acceptRanges", "strconv.ErrSyntax", "strconv.ErrRange", "internal/strconv.uint64pow10", "math/bits.deBruijn32tab", "math/bits.deBruijn64tab", "unicode.asciiFold", "unicode.caseOrbit", "unicode.CaseRanges", "escheat/command.stats", "escheat/flag.named", "escheat/date.names", "escheat/date.ahead", "escheat/command.flags", "escheat/command.days", "escheat/command.fields", "escheat/command.macros", "escheat/command.whats"], apart := false, laid := [("math/bits.deBruijn32tab", laid_math_bits_deBruijn32tab), ("math/bits.deBruijn64tab", laid_math_bits_deBruijn64tab), ("escheat/flag.named", laid_escheat_flag_named), ("escheat/command.ops", laid_escheat_command_ops)] }
def CommandNamesSaid : Prop := commandNamesRow.holds Tryz.pinned (OpenSpec.ofChange commandNamesSpec)

/-- ITS FALSE NEIGHBOUR: 'it returns false'. Refute it at one input. -/
def commandNamesWrong : ChangeSpec := { name := "commandNames", fn := fun _ => fun
  | [d1, d2, d3] => { results := [.lit (.bool false)], args := [d1, d2, d3] }
  | _ => none }
def CommandNamesWrongFalsely : Prop := commandNamesRow.holds Tryz.pinned (OpenSpec.ofChange commandNamesWrong)

/-- 'escheatlaw24.CommandTags': WHATEVER THE INPUT: true; the input reads as it did. -/
def commandTagsSpec : ChangeSpec := { name := "commandTags", fn := fun _ => fun
  | [d1, d2] => { results := [.lit (.bool true)], args := [d1, d2] }
  | _ => none }
def commandTagsRow : OpenClaim := { program := "ytjamgkcmpcnfpaagreatdoor", sum := "5769429ee8741e15fe3ca318d6d5bb317bcb022f4fb6fbb7445d3f09b803efa0", func := "escheat/escheatlaw24.CommandTags", spec := "commandTags", inPlace := ["internal/bytealg.IndexByteString", "internal/bytealg.IndexString", "internal/abi.NoEscape", "internal/bytealg.CountString"], unfollowed := true, recurses := true, named := ["escheat/command.ops", "internal/bytealg.MaxLen", "unicode/utf8.first", "unicode/utf8.acceptRanges", "strconv.ErrSyntax", "strconv.ErrRange", "internal/strconv.uint64pow10", "math/bits.deBruijn32tab", "math/bits.deBruijn64tab", "unicode.asciiFold", "unicode.caseOrbit", "unicode.CaseRanges", "escheat/command.stats", "escheat/flag.named", "escheat/date.names", "escheat/date.ahead", "escheat/command.flags", "escheat/command.days", "escheat/command.fields", "escheat/command.macros", "escheat/command.whats"], apart := false, laid := [("math/bits.deBruijn32tab", laid_math_bits_deBruijn32tab), ("math/bits.deBruijn64tab", laid_math_bits_deBruijn64tab), ("escheat/flag.named", laid_escheat_flag_named), ("escheat/command.ops", laid_escheat_command_ops)] }
def CommandTagsSaid : Prop := commandTagsRow.holds Tryz.pinned (OpenSpec.ofChange commandTagsSpec)

/-- ITS FALSE NEIGHBOUR: 'it returns false'. Refute it at one input. -/
def commandTagsWrong : ChangeSpec := { name := "commandTags", fn := fun _ => fun
  | [d1, d2] => { results := [.lit (.bool false)], args := [d1, d2] }
  | _ => none }
def CommandTagsWrongFalsely : Prop := commandTagsRow.holds Tryz.pinned (OpenSpec.ofChange commandTagsWrong)

/-- 'escheatlaw24.CommandTail': WHATEVER THE INPUT: true; the input reads as it did. -/
def commandTailSpec : ChangeSpec := { name := "commandTail", fn := fun _ => fun
  | [d] => { results := [.lit (.bool true)], args := [d] }
  | _ => none }
def commandTailRow : OpenClaim := { program := "ytjamgkcmpcnfpaagreatdoor", sum := "5769429ee8741e15fe3ca318d6d5bb317bcb022f4fb6fbb7445d3f09b803efa0", func := "escheat/escheatlaw24.CommandTail", spec := "commandTail", inPlace := ["internal/bytealg.IndexByteString", "internal/bytealg.IndexString", "internal/abi.NoEscape", "internal/bytealg.CountString"], unfollowed := true, recurses := true, named := ["escheat/command.ops", "internal/bytealg.MaxLen", "unicode/utf8.first", "unicode/utf8.acceptRanges", "strconv.ErrSyntax", "strconv.ErrRange", "internal/strconv.uint64pow10", "math/bits.deBruijn32tab", "math/bits.deBruijn64tab", "unicode.asciiFold", "unicode.caseOrbit", "unicode.CaseRanges", "escheat/command.stats", "escheat/flag.named", "escheat/date.names", "escheat/date.ahead", "escheat/command.flags", "escheat/command.days", "escheat/command.fields", "escheat/command.macros", "escheat/command.whats"], apart := false, laid := [("math/bits.deBruijn32tab", laid_math_bits_deBruijn32tab), ("math/bits.deBruijn64tab", laid_math_bits_deBruijn64tab), ("escheat/flag.named", laid_escheat_flag_named), ("escheat/command.ops", laid_escheat_command_ops)] }
def CommandTailSaid : Prop := commandTailRow.holds Tryz.pinned (OpenSpec.ofChange commandTailSpec)

/-- ITS FALSE NEIGHBOUR: 'it returns false'. Refute it at one input. -/
def commandTailWrong : ChangeSpec := { name := "commandTail", fn := fun _ => fun
  | [d] => { results := [.lit (.bool false)], args := [d] }
  | _ => none }
def CommandTailWrongFalsely : Prop := commandTailRow.holds Tryz.pinned (OpenSpec.ofChange commandTailWrong)

/-- 'escheatlaw24.CommandSames': WHATEVER THE INPUT: true; the input reads as it did. -/
def commandSamesSpec : ChangeSpec := { name := "commandSames", fn := fun _ => fun
  | [d1, d2] => { results := [.lit (.bool true)], args := [d1, d2] }
  | _ => none }
def commandSamesRow : OpenClaim := { program := "ytjamgkcmpcnfpaagreatdoor", sum := "5769429ee8741e15fe3ca318d6d5bb317bcb022f4fb6fbb7445d3f09b803efa0", func := "escheat/escheatlaw24.CommandSames", spec := "commandSames", inPlace := ["internal/bytealg.IndexByteString", "internal/bytealg.IndexString", "internal/abi.NoEscape", "internal/bytealg.CountString"], unfollowed := true, recurses := true, named := ["escheat/command.ops", "internal/bytealg.MaxLen", "unicode/utf8.first", "unicode/utf8.acceptRanges", "strconv.ErrSyntax", "strconv.ErrRange", "internal/strconv.uint64pow10", "math/bits.deBruijn32tab", "math/bits.deBruijn64tab", "unicode.asciiFold", "unicode.caseOrbit", "unicode.CaseRanges", "escheat/command.stats", "escheat/flag.named", "escheat/date.names", "escheat/date.ahead", "escheat/command.flags", "escheat/command.days", "escheat/command.fields", "escheat/command.macros", "escheat/command.whats"], apart := false, laid := [("math/bits.deBruijn32tab", laid_math_bits_deBruijn32tab), ("math/bits.deBruijn64tab", laid_math_bits_deBruijn64tab), ("escheat/flag.named", laid_escheat_flag_named), ("escheat/command.ops", laid_escheat_command_ops)] }
def CommandSamesSaid : Prop := commandSamesRow.holds Tryz.pinned (OpenSpec.ofChange commandSamesSpec)

/-- ITS FALSE NEIGHBOUR: 'it returns false'. Refute it at one input. -/
def commandSamesWrong : ChangeSpec := { name := "commandSames", fn := fun _ => fun
  | [d1, d2] => { results := [.lit (.bool false)], args := [d1, d2] }
  | _ => none }
def CommandSamesWrongFalsely : Prop := commandSamesRow.holds Tryz.pinned (OpenSpec.ofChange commandSamesWrong)

/- THE SECOND FORM. 'bulk': how many values and letters a reading holds, each counted each time it is reached (what is shared counts as often as it is met; a slice's spare places count too). A statement '..UptoSaid' is the law's where the arguments, and the package variables that the reading takes, are together of bulk at most 1048576: NARROWER than '..Said'. Prove '..Said' where nothing that the law and all that it calls make is longer than what came in: it says more and counts as full. Else prove '..UptoSaid'. A law counts once. -/
mutual
def uptoBulk {H : Type} : DataW H → Nat
  | .lit (.string bytes) => bytes.length + 1
  | .lit _ => 1
  | .nil => 1
  | .ptr d => uptoBulk d + 1
  | .slice elems spare => uptoBulkAll elems + uptoBulkAll spare + 1
  | .agg parts => uptoBulkAll parts + 1
  | .iface _ d => uptoBulk d + 1
  | .map entries => uptoBulkEntries entries + 1
  | .held _ => 1
def uptoBulkAll {H : Type} : List (DataW H) → Nat
  | [] => 0
  | d :: r => uptoBulk d + uptoBulkAll r
def uptoBulkEntries {H : Type} : List (Lit × DataW H) → Nat
  | [] => 0
  | x :: r => uptoBulkEntry x + uptoBulkEntries r
def uptoBulkEntry {H : Type} : Lit × DataW H → Nat
  | (.string bytes, d) => bytes.length + uptoBulk d + 1
  | (_, d) => uptoBulk d + 1
 end
def uptoSmall : (H : Type) → List (DataW H) → Bool := fun _ ds => decide (uptoBulkAll ds ≤ 1048576)
def OpenSpec.upto (s : _root_.Go.ChangeSpec) : _root_.Go.OpenSpec := { _root_.Go.OpenSpec.ofChange s with cond := some uptoSmall }

/-- 'escheatlaw24.CommandCase', WHERE WHAT IT READS IS OF BULK AT MOST 1048576: true; the input reads as it did. -/
def commandCaseUptoRow : OpenClaim := { program := "ytjamgkcmpcnfpaagreatdoor", sum := "5769429ee8741e15fe3ca318d6d5bb317bcb022f4fb6fbb7445d3f09b803efa0", func := "escheat/escheatlaw24.CommandCase", spec := "commandCase", inPlace := ["internal/bytealg.IndexByteString", "internal/bytealg.IndexString", "internal/abi.NoEscape", "internal/bytealg.CountString"], unfollowed := true, recurses := true, named := ["escheat/command.ops", "internal/bytealg.MaxLen", "unicode/utf8.first", "unicode/utf8.acceptRanges", "strconv.ErrSyntax", "strconv.ErrRange", "internal/strconv.uint64pow10", "math/bits.deBruijn32tab", "math/bits.deBruijn64tab", "unicode.asciiFold", "unicode.caseOrbit", "unicode.CaseRanges", "escheat/command.stats", "escheat/flag.named", "escheat/date.names", "escheat/date.ahead", "escheat/command.flags", "escheat/command.days", "escheat/command.fields", "escheat/command.macros", "escheat/command.whats"], apart := false, laid := [("math/bits.deBruijn32tab", laid_math_bits_deBruijn32tab), ("math/bits.deBruijn64tab", laid_math_bits_deBruijn64tab), ("escheat/flag.named", laid_escheat_flag_named), ("escheat/command.ops", laid_escheat_command_ops)], narrowed := true }
def CommandCaseUptoSaid : Prop := commandCaseUptoRow.holds Tryz.pinned (OpenSpec.upto commandCaseSpec)

/-- 'escheatlaw24.CommandNames', WHERE WHAT IT READS IS OF BULK AT MOST 1048576: true; the input reads as it did. -/
def commandNamesUptoRow : OpenClaim := { program := "ytjamgkcmpcnfpaagreatdoor", sum := "5769429ee8741e15fe3ca318d6d5bb317bcb022f4fb6fbb7445d3f09b803efa0", func := "escheat/escheatlaw24.CommandNames", spec := "commandNames", inPlace := ["internal/bytealg.IndexByteString", "internal/bytealg.IndexString", "internal/abi.NoEscape", "internal/bytealg.CountString"], unfollowed := true, recurses := true, named := ["escheat/command.ops", "internal/bytealg.MaxLen", "unicode/utf8.first", "unicode/utf8.acceptRanges", "strconv.ErrSyntax", "strconv.ErrRange", "internal/strconv.uint64pow10", "math/bits.deBruijn32tab", "math/bits.deBruijn64tab", "unicode.asciiFold", "unicode.caseOrbit", "unicode.CaseRanges", "escheat/command.stats", "escheat/flag.named", "escheat/date.names", "escheat/date.ahead", "escheat/command.flags", "escheat/command.days", "escheat/command.fields", "escheat/command.macros", "escheat/command.whats"], apart := false, laid := [("math/bits.deBruijn32tab", laid_math_bits_deBruijn32tab), ("math/bits.deBruijn64tab", laid_math_bits_deBruijn64tab), ("escheat/flag.named", laid_escheat_flag_named), ("escheat/command.ops", laid_escheat_command_ops)], narrowed := true }
def CommandNamesUptoSaid : Prop := commandNamesUptoRow.holds Tryz.pinned (OpenSpec.upto commandNamesSpec)

/-- 'escheatlaw24.CommandTags', WHERE WHAT IT READS IS OF BULK AT MOST 1048576: true; the input reads as it did. -/
def commandTagsUptoRow : OpenClaim := { program := "ytjamgkcmpcnfpaagreatdoor", sum := "5769429ee8741e15fe3ca318d6d5bb317bcb022f4fb6fbb7445d3f09b803efa0", func := "escheat/escheatlaw24.CommandTags", spec := "commandTags", inPlace := ["internal/bytealg.IndexByteString", "internal/bytealg.IndexString", "internal/abi.NoEscape", "internal/bytealg.CountString"], unfollowed := true, recurses := true, named := ["escheat/command.ops", "internal/bytealg.MaxLen", "unicode/utf8.first", "unicode/utf8.acceptRanges", "strconv.ErrSyntax", "strconv.ErrRange", "internal/strconv.uint64pow10", "math/bits.deBruijn32tab", "math/bits.deBruijn64tab", "unicode.asciiFold", "unicode.caseOrbit", "unicode.CaseRanges", "escheat/command.stats", "escheat/flag.named", "escheat/date.names", "escheat/date.ahead", "escheat/command.flags", "escheat/command.days", "escheat/command.fields", "escheat/command.macros", "escheat/command.whats"], apart := false, laid := [("math/bits.deBruijn32tab", laid_math_bits_deBruijn32tab), ("math/bits.deBruijn64tab", laid_math_bits_deBruijn64tab), ("escheat/flag.named", laid_escheat_flag_named), ("escheat/command.ops", laid_escheat_command_ops)], narrowed := true }
def CommandTagsUptoSaid : Prop := commandTagsUptoRow.holds Tryz.pinned (OpenSpec.upto commandTagsSpec)

/-- 'escheatlaw24.CommandTail', WHERE WHAT IT READS IS OF BULK AT MOST 1048576: true; the input reads as it did. -/
def commandTailUptoRow : OpenClaim := { program := "ytjamgkcmpcnfpaagreatdoor", sum := "5769429ee8741e15fe3ca318d6d5bb317bcb022f4fb6fbb7445d3f09b803efa0", func := "escheat/escheatlaw24.CommandTail", spec := "commandTail", inPlace := ["internal/bytealg.IndexByteString", "internal/bytealg.IndexString", "internal/abi.NoEscape", "internal/bytealg.CountString"], unfollowed := true, recurses := true, named := ["escheat/command.ops", "internal/bytealg.MaxLen", "unicode/utf8.first", "unicode/utf8.acceptRanges", "strconv.ErrSyntax", "strconv.ErrRange", "internal/strconv.uint64pow10", "math/bits.deBruijn32tab", "math/bits.deBruijn64tab", "unicode.asciiFold", "unicode.caseOrbit", "unicode.CaseRanges", "escheat/command.stats", "escheat/flag.named", "escheat/date.names", "escheat/date.ahead", "escheat/command.flags", "escheat/command.days", "escheat/command.fields", "escheat/command.macros", "escheat/command.whats"], apart := false, laid := [("math/bits.deBruijn32tab", laid_math_bits_deBruijn32tab), ("math/bits.deBruijn64tab", laid_math_bits_deBruijn64tab), ("escheat/flag.named", laid_escheat_flag_named), ("escheat/command.ops", laid_escheat_command_ops)], narrowed := true }
def CommandTailUptoSaid : Prop := commandTailUptoRow.holds Tryz.pinned (OpenSpec.upto commandTailSpec)

/-- 'escheatlaw24.CommandSames', WHERE WHAT IT READS IS OF BULK AT MOST 1048576: true; the input reads as it did. -/
def commandSamesUptoRow : OpenClaim := { program := "ytjamgkcmpcnfpaagreatdoor", sum := "5769429ee8741e15fe3ca318d6d5bb317bcb022f4fb6fbb7445d3f09b803efa0", func := "escheat/escheatlaw24.CommandSames", spec := "commandSames", inPlace := ["internal/bytealg.IndexByteString", "internal/bytealg.IndexString", "internal/abi.NoEscape", "internal/bytealg.CountString"], unfollowed := true, recurses := true, named := ["escheat/command.ops", "internal/bytealg.MaxLen", "unicode/utf8.first", "unicode/utf8.acceptRanges", "strconv.ErrSyntax", "strconv.ErrRange", "internal/strconv.uint64pow10", "math/bits.deBruijn32tab", "math/bits.deBruijn64tab", "unicode.asciiFold", "unicode.caseOrbit", "unicode.CaseRanges", "escheat/command.stats", "escheat/flag.named", "escheat/date.names", "escheat/date.ahead", "escheat/command.flags", "escheat/command.days", "escheat/command.fields", "escheat/command.macros", "escheat/command.whats"], apart := false, laid := [("math/bits.deBruijn32tab", laid_math_bits_deBruijn32tab), ("math/bits.deBruijn64tab", laid_math_bits_deBruijn64tab), ("escheat/flag.named", laid_escheat_flag_named), ("escheat/command.ops", laid_escheat_command_ops)], narrowed := true }
def CommandSamesUptoSaid : Prop := commandSamesUptoRow.holds Tryz.pinned (OpenSpec.upto commandSamesSpec)

end Rows
end Go.Proofs.YtjamgkcmpcnfpaaGreatDoor
