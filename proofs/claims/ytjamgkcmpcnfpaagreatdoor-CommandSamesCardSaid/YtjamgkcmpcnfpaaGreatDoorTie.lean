/-
  DERIVED. GIVEN WITH THE SEED: THE PROGRAM's TIES (one call each: nine closed facts by the kernel) AND EACH ROW's TIE, after the 31st guide's Derived/Test/Toyas{Tie, Card}.lean. No idea stands in it: it is a product of the set-up. Laid BY PROGRAM, IN A SANDBOX (cutbox-door.mjs). By AI agents, Wed Nov 11 2026. No macro, syntax, notation, axiom, sorry.
-/
import Derived.Test.YtjamgkcmpcnfpaaGreatDoorRows
import Derived.LaidByTextLater
import Derived.SevenTiedAt
import Derived.LaidSub
import Derived.LaidOnce
namespace Go.Proofs.YtjamgkcmpcnfpaaGreatDoor
open Go
set_option maxRecDepth 100000
theorem seatTie1 : Tryz.prog.laidByTextLater [("math/bits.deBruijn32tab", Rows.laid_math_bits_deBruijn32tab), ("math/bits.deBruijn64tab", Rows.laid_math_bits_deBruijn64tab), ("escheat/flag.named", Rows.laid_escheat_flag_named), ("escheat/command.ops", Rows.laid_escheat_command_ops)] [.data, .data, .data, .mapped] true :=
  Program.laidByTextLater_by_one 519 8 189 (by kernel_rfl) (by kernel_rfl) (by kernel_rfl) (by kernel_rfl) (by kernel_rfl) (by kernel_rfl) (fun _ _ => by kernel_rfl)
theorem noOwnUnsafe : Tryz.pinned.checked.prog.headLifts.contains "ownunsafe" = false := by kernel_rfl
theorem tie : Tryz.prog.laidByTextLater [("math/bits.deBruijn32tab", Rows.laid_math_bits_deBruijn32tab), ("math/bits.deBruijn64tab", Rows.laid_math_bits_deBruijn64tab), ("escheat/flag.named", Rows.laid_escheat_flag_named), ("escheat/command.ops", Rows.laid_escheat_command_ops)] [.data, .data, .data, .mapped] true :=
  Program.laidByTextLater.sub seatTie1 ["math/bits.deBruijn32tab", "math/bits.deBruijn64tab", "escheat/flag.named", "escheat/command.ops"] (by kernel_rfl) (by kernel_rfl)
theorem commandCase_row_tie : Rows.commandCaseRow.laidByTextAt .later Tryz.pinned [.data, .data, .data, .mapped] true :=
  OpenClaim.laidByTextAt_later rfl rfl tie noOwnUnsafe
theorem commandNames_row_tie : Rows.commandNamesRow.laidByTextAt .later Tryz.pinned [.data, .data, .data, .mapped] true :=
  OpenClaim.laidByTextAt_later rfl rfl tie noOwnUnsafe
theorem commandTags_row_tie : Rows.commandTagsRow.laidByTextAt .later Tryz.pinned [.data, .data, .data, .mapped] true :=
  OpenClaim.laidByTextAt_later rfl rfl tie noOwnUnsafe
theorem commandTail_row_tie : Rows.commandTailRow.laidByTextAt .later Tryz.pinned [.data, .data, .data, .mapped] true :=
  OpenClaim.laidByTextAt_later rfl rfl tie noOwnUnsafe
theorem commandSames_row_tie : Rows.commandSamesRow.laidByTextAt .later Tryz.pinned [.data, .data, .data, .mapped] true :=
  OpenClaim.laidByTextAt_later rfl rfl tie noOwnUnsafe
theorem commandCaseUpto_row_tie : Rows.commandCaseUptoRow.laidByTextAt .later Tryz.pinned [.data, .data, .data, .mapped] true :=
  OpenClaim.laidByTextAt_later rfl rfl tie noOwnUnsafe
theorem commandNamesUpto_row_tie : Rows.commandNamesUptoRow.laidByTextAt .later Tryz.pinned [.data, .data, .data, .mapped] true :=
  OpenClaim.laidByTextAt_later rfl rfl tie noOwnUnsafe
theorem commandTagsUpto_row_tie : Rows.commandTagsUptoRow.laidByTextAt .later Tryz.pinned [.data, .data, .data, .mapped] true :=
  OpenClaim.laidByTextAt_later rfl rfl tie noOwnUnsafe
theorem commandTailUpto_row_tie : Rows.commandTailUptoRow.laidByTextAt .later Tryz.pinned [.data, .data, .data, .mapped] true :=
  OpenClaim.laidByTextAt_later rfl rfl tie noOwnUnsafe
theorem commandSamesUpto_row_tie : Rows.commandSamesUptoRow.laidByTextAt .later Tryz.pinned [.data, .data, .data, .mapped] true :=
  OpenClaim.laidByTextAt_later rfl rfl tie noOwnUnsafe
end Go.Proofs.YtjamgkcmpcnfpaaGreatDoor
