/-
  DERIVED. GIVEN WITH THE SEED: THE PROGRAM's TIES (one call each: nine closed facts by the kernel) AND EACH ROW's TIE, after the 31st guide's Derived/Test/Toyas{Tie, Card}.lean. No idea stands in it: it is a product of the set-up. Laid BY PROGRAM, IN A SANDBOX (cutbox-door.mjs). By AI agents, Wed Nov 11 2026. No macro, syntax, notation, axiom, sorry.
-/
import Derived.Test.YtifafmomkpkgdaaDoorRows
import Derived.LaidByTextLater
import Derived.SevenTiedAt
import Derived.LaidSub
import Derived.LaidOnce
namespace Go.Proofs.YtifafmomkpkgdaaDoor
open Go
set_option maxRecDepth 100000
theorem seatTie1 : Tryd.prog.laidByTextLater [("novation/observable.shapes", Rows.laid_novation_observable_shapes), ("novation/contract.parts", Rows.laid_novation_contract_parts)] [.mappedDeep, .mapped] true :=
  Program.laidByTextLater_by_one 146 8 4 (by kernel_rfl) (by kernel_rfl) (by kernel_rfl) (by kernel_rfl) (by kernel_rfl) (by kernel_rfl) (fun _ _ => by kernel_rfl)
theorem noOwnUnsafe : Tryd.pinned.checked.prog.headLifts.contains "ownunsafe" = false := by kernel_rfl
theorem tie : Tryd.prog.laidByTextLater [("novation/observable.shapes", Rows.laid_novation_observable_shapes), ("novation/contract.parts", Rows.laid_novation_contract_parts)] [.mappedDeep, .mapped] true :=
  Program.laidByTextLater.sub seatTie1 ["novation/observable.shapes", "novation/contract.parts"] (by kernel_rfl) (by kernel_rfl)
theorem contractBuilds_row_tie : Rows.contractBuildsRow.laidByTextAt .later Tryd.pinned [.mappedDeep, .mapped] true :=
  OpenClaim.laidByTextAt_later rfl rfl tie noOwnUnsafe
theorem contractSame_row_tie : Rows.contractSameRow.laidByTextAt .later Tryd.pinned [.mappedDeep, .mapped] true :=
  OpenClaim.laidByTextAt_later rfl rfl tie noOwnUnsafe
theorem contractChecks_row_tie : Rows.contractChecksRow.laidByTextAt .later Tryd.pinned [.mappedDeep, .mapped] true :=
  OpenClaim.laidByTextAt_later rfl rfl tie noOwnUnsafe
theorem contractParts_row_tie : Rows.contractPartsRow.laidByTextAt .later Tryd.pinned [.mappedDeep, .mapped] true :=
  OpenClaim.laidByTextAt_later rfl rfl tie noOwnUnsafe
theorem contractOrder_row_tie : Rows.contractOrderRow.laidByTextAt .later Tryd.pinned [.mappedDeep, .mapped] true :=
  OpenClaim.laidByTextAt_later rfl rfl tie noOwnUnsafe
theorem contractNames_row_tie : Rows.contractNamesRow.laidByTextAt .later Tryd.pinned [.mappedDeep, .mapped] true :=
  OpenClaim.laidByTextAt_later rfl rfl tie noOwnUnsafe
theorem contractBuildsUpto_row_tie : Rows.contractBuildsUptoRow.laidByTextAt .later Tryd.pinned [.mappedDeep, .mapped] true :=
  OpenClaim.laidByTextAt_later rfl rfl tie noOwnUnsafe
theorem contractSameUpto_row_tie : Rows.contractSameUptoRow.laidByTextAt .later Tryd.pinned [.mappedDeep, .mapped] true :=
  OpenClaim.laidByTextAt_later rfl rfl tie noOwnUnsafe
theorem contractChecksUpto_row_tie : Rows.contractChecksUptoRow.laidByTextAt .later Tryd.pinned [.mappedDeep, .mapped] true :=
  OpenClaim.laidByTextAt_later rfl rfl tie noOwnUnsafe
theorem contractPartsUpto_row_tie : Rows.contractPartsUptoRow.laidByTextAt .later Tryd.pinned [.mappedDeep, .mapped] true :=
  OpenClaim.laidByTextAt_later rfl rfl tie noOwnUnsafe
theorem contractOrderUpto_row_tie : Rows.contractOrderUptoRow.laidByTextAt .later Tryd.pinned [.mappedDeep, .mapped] true :=
  OpenClaim.laidByTextAt_later rfl rfl tie noOwnUnsafe
theorem contractNamesUpto_row_tie : Rows.contractNamesUptoRow.laidByTextAt .later Tryd.pinned [.mappedDeep, .mapped] true :=
  OpenClaim.laidByTextAt_later rfl rfl tie noOwnUnsafe
end Go.Proofs.YtifafmomkpkgdaaDoor
