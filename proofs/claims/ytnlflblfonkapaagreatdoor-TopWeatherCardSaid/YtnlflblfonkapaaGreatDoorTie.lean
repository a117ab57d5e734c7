/-
  DERIVED. GIVEN WITH THE SEED: THE PROGRAM's TIES (one call each: nine closed facts by the kernel) AND EACH ROW's TIE, after the 31st guide's Derived/Test/Toyas{Tie, Card}.lean. No idea stands in it: it is a product of the set-up. Laid BY PROGRAM, IN A SANDBOX (cutbox-door.mjs). By AI agents, Wed Nov 11 2026. No macro, syntax, notation, axiom, sorry.
-/
import Derived.Test.YtnlflblfonkapaaGreatDoorRows
import Derived.LaidByTextLater
import Derived.SevenTiedAt
import Derived.LaidSub
import Derived.LaidOnce
namespace Go.Proofs.YtnlflblfonkapaaGreatDoor
open Go
set_option maxRecDepth 100000
theorem seatTie1 : Tryz.prog.laidByTextLater [("macadam/claim.nowhere", Rows.laid_macadam_claim_nowhere), ("macadam/claim.kinds", Rows.laid_macadam_claim_kinds), ("macadam/drain.drains", Rows.laid_macadam_drain_drains), ("macadam/drain.nowhere", Rows.laid_macadam_drain_nowhere), ("macadam/rut.nowhere", Rows.laid_macadam_rut_nowhere), ("macadam/rut.asks", Rows.laid_macadam_rut_asks), ("macadam/stone.ends", Rows.laid_macadam_stone_ends), ("macadam/stone.nowhere", Rows.laid_macadam_stone_nowhere)] [.data, .funcs, .funcs, .data, .data, .funcs, .funcs, .data] true :=
  Program.laidByTextLater_by_one 49 8 3 (by kernel_rfl) (by kernel_rfl) (by kernel_rfl) (by kernel_rfl) (by kernel_rfl) (by kernel_rfl) (fun _ _ => by kernel_rfl)
theorem noOwnUnsafe : Tryz.pinned.checked.prog.headLifts.contains "ownunsafe" = false := by kernel_rfl
theorem tie : Tryz.prog.laidByTextLater [("macadam/claim.nowhere", Rows.laid_macadam_claim_nowhere), ("macadam/claim.kinds", Rows.laid_macadam_claim_kinds), ("macadam/drain.drains", Rows.laid_macadam_drain_drains), ("macadam/drain.nowhere", Rows.laid_macadam_drain_nowhere), ("macadam/rut.nowhere", Rows.laid_macadam_rut_nowhere), ("macadam/rut.asks", Rows.laid_macadam_rut_asks), ("macadam/stone.ends", Rows.laid_macadam_stone_ends), ("macadam/stone.nowhere", Rows.laid_macadam_stone_nowhere)] [.data, .funcs, .funcs, .data, .data, .funcs, .funcs, .data] true :=
  Program.laidByTextLater.sub seatTie1 ["macadam/claim.nowhere", "macadam/claim.kinds", "macadam/drain.drains", "macadam/drain.nowhere", "macadam/rut.nowhere", "macadam/rut.asks", "macadam/stone.ends", "macadam/stone.nowhere"] (by kernel_rfl) (by kernel_rfl)
theorem topWeather_row_tie : Rows.topWeatherRow.laidByTextAt .later Tryz.pinned [.data, .funcs, .funcs, .data, .data, .funcs, .funcs, .data] true :=
  OpenClaim.laidByTextAt_later rfl rfl tie noOwnUnsafe
theorem topWeatherUpto_row_tie : Rows.topWeatherUptoRow.laidByTextAt .later Tryz.pinned [.data, .funcs, .funcs, .data, .data, .funcs, .funcs, .data] true :=
  OpenClaim.laidByTextAt_later rfl rfl tie noOwnUnsafe
end Go.Proofs.YtnlflblfonkapaaGreatDoor
