/-
  DERIVED. GIVEN WITH THE SEED: THE PROGRAM's TIES (one call each: nine closed facts by the kernel) AND EACH ROW's TIE, after the 31st guide's Derived/Test/Toyas{Tie, Card}.lean. No idea stands in it: it is a product of the set-up. Laid BY PROGRAM, IN A SANDBOX (cutbox-door.mjs). By AI agents, Wed Nov 11 2026. No macro, syntax, notation, axiom, sorry.
-/
import Derived.Test.YtigjnfmbellpjaaDoorRows
import Derived.LaidByTextLater
import Derived.SevenTiedAt
import Derived.LaidSub
import Derived.LaidOnce
namespace Go.Proofs.YtigjnfmbellpjaaDoor
open Go
set_option maxRecDepth 100000
theorem seatTie1 : Tryd.prog.laidByTextLater [("math/bits.deBruijn64tab", Rows.laid_math_bits_deBruijn64tab), ("errors.errorType", Rows.laid_errors_errorType), ("cartulary/api.ErrNil", Rows.laid_cartulary_api_ErrNil), ("cartulary/api.ErrArg", Rows.laid_cartulary_api_ErrArg), ("cartulary/api.ErrInput", Rows.laid_cartulary_api_ErrInput), ("cartulary/api.ErrLimit", Rows.laid_cartulary_api_ErrLimit), ("cartulary/api.ErrRange", Rows.laid_cartulary_api_ErrRange), ("cartulary/api.ErrGone", Rows.laid_cartulary_api_ErrGone), ("cartulary/api.ErrUnavailable", Rows.laid_cartulary_api_ErrUnavailable), ("cartulary/api.ErrDead", Rows.laid_cartulary_api_ErrDead), ("cartulary/api.ErrCorrupt", Rows.laid_cartulary_api_ErrCorrupt), ("cartulary/api.ErrProof", Rows.laid_cartulary_api_ErrProof), ("cartulary/api.ErrSpent", Rows.laid_cartulary_api_ErrSpent), ("cartulary/api.ErrSigned", Rows.laid_cartulary_api_ErrSigned), ("cartulary/api.ErrFork", Rows.laid_cartulary_api_ErrFork), ("cartulary/api.ErrOld", Rows.laid_cartulary_api_ErrOld), ("cartulary/api.ErrStopped", Rows.laid_cartulary_api_ErrStopped), ("cartulary/api.ErrScript", Rows.laid_cartulary_api_ErrScript), ("cartulary/sha.table", Rows.laid_cartulary_sha_table)] [.data, .handle, .sentinel, .sentinel, .sentinel, .sentinel, .sentinel, .sentinel, .sentinel, .sentinel, .sentinel, .sentinel, .sentinel, .sentinel, .sentinel, .sentinel, .sentinel, .sentinel, .data] true :=
  Program.laidByTextLater_by_one 330 8 65 (by kernel_rfl) (by kernel_rfl) (by kernel_rfl) (by kernel_rfl) (by kernel_rfl) (by kernel_rfl) (fun _ _ => by kernel_rfl)
theorem noOwnUnsafe : Tryd.pinned.checked.prog.headLifts.contains "ownunsafe" = false := by kernel_rfl
theorem tie : Tryd.prog.laidByTextLater [("cartulary/api.ErrNil", Rows.laid_cartulary_api_ErrNil), ("cartulary/api.ErrLimit", Rows.laid_cartulary_api_ErrLimit), ("cartulary/api.ErrRange", Rows.laid_cartulary_api_ErrRange), ("cartulary/api.ErrProof", Rows.laid_cartulary_api_ErrProof), ("cartulary/sha.table", Rows.laid_cartulary_sha_table)] [.sentinel, .sentinel, .sentinel, .sentinel, .data] true :=
  Program.laidByTextLater.sub seatTie1 ["cartulary/api.ErrNil", "cartulary/api.ErrLimit", "cartulary/api.ErrRange", "cartulary/api.ErrProof", "cartulary/sha.table"] (by kernel_rfl) (by kernel_rfl)
theorem topForgedLeaf_row_tie : Rows.topForgedLeafRow.laidByTextAt .later Tryd.pinned [.sentinel, .sentinel, .sentinel, .sentinel, .data] true :=
  OpenClaim.laidByTextAt_later rfl rfl tie noOwnUnsafe
theorem topForgedRoot_row_tie : Rows.topForgedRootRow.laidByTextAt .later Tryd.pinned [.sentinel, .sentinel, .sentinel, .sentinel, .data] true :=
  OpenClaim.laidByTextAt_later rfl rfl tie noOwnUnsafe
theorem tie2 : Tryd.prog.laidByTextLater [("math/bits.deBruijn64tab", Rows.laid_math_bits_deBruijn64tab), ("cartulary/api.ErrNil", Rows.laid_cartulary_api_ErrNil), ("cartulary/api.ErrLimit", Rows.laid_cartulary_api_ErrLimit), ("cartulary/api.ErrRange", Rows.laid_cartulary_api_ErrRange), ("cartulary/sha.table", Rows.laid_cartulary_sha_table)] [.data, .sentinel, .sentinel, .sentinel, .data] true :=
  Program.laidByTextLater.sub seatTie1 ["math/bits.deBruijn64tab", "cartulary/api.ErrNil", "cartulary/api.ErrLimit", "cartulary/api.ErrRange", "cartulary/sha.table"] (by kernel_rfl) (by kernel_rfl)
theorem compactRoot_row_tie : Rows.compactRootRow.laidByTextAt .later Tryd.pinned [.data, .sentinel, .sentinel, .sentinel, .data] true :=
  OpenClaim.laidByTextAt_later rfl rfl tie2 noOwnUnsafe
theorem tie3 : Tryd.prog.laidByTextLater [("math/bits.deBruijn64tab", Rows.laid_math_bits_deBruijn64tab), ("cartulary/api.ErrNil", Rows.laid_cartulary_api_ErrNil), ("cartulary/api.ErrArg", Rows.laid_cartulary_api_ErrArg), ("cartulary/api.ErrLimit", Rows.laid_cartulary_api_ErrLimit), ("cartulary/api.ErrRange", Rows.laid_cartulary_api_ErrRange), ("cartulary/sha.table", Rows.laid_cartulary_sha_table)] [.data, .sentinel, .sentinel, .sentinel, .sentinel, .data] true :=
  Program.laidByTextLater.sub seatTie1 ["math/bits.deBruijn64tab", "cartulary/api.ErrNil", "cartulary/api.ErrArg", "cartulary/api.ErrLimit", "cartulary/api.ErrRange", "cartulary/sha.table"] (by kernel_rfl) (by kernel_rfl)
theorem compactCuts_row_tie : Rows.compactCutsRow.laidByTextAt .later Tryd.pinned [.data, .sentinel, .sentinel, .sentinel, .sentinel, .data] true :=
  OpenClaim.laidByTextAt_later rfl rfl tie3 noOwnUnsafe
theorem tie4 : Tryd.prog.laidByTextLater [("math/bits.deBruijn64tab", Rows.laid_math_bits_deBruijn64tab), ("errors.errorType", Rows.laid_errors_errorType), ("cartulary/api.ErrNil", Rows.laid_cartulary_api_ErrNil), ("cartulary/api.ErrArg", Rows.laid_cartulary_api_ErrArg), ("cartulary/api.ErrInput", Rows.laid_cartulary_api_ErrInput), ("cartulary/api.ErrLimit", Rows.laid_cartulary_api_ErrLimit), ("cartulary/api.ErrRange", Rows.laid_cartulary_api_ErrRange), ("cartulary/api.ErrGone", Rows.laid_cartulary_api_ErrGone), ("cartulary/api.ErrUnavailable", Rows.laid_cartulary_api_ErrUnavailable), ("cartulary/api.ErrDead", Rows.laid_cartulary_api_ErrDead), ("cartulary/api.ErrCorrupt", Rows.laid_cartulary_api_ErrCorrupt), ("cartulary/api.ErrProof", Rows.laid_cartulary_api_ErrProof), ("cartulary/api.ErrSpent", Rows.laid_cartulary_api_ErrSpent), ("cartulary/api.ErrSigned", Rows.laid_cartulary_api_ErrSigned), ("cartulary/api.ErrFork", Rows.laid_cartulary_api_ErrFork), ("cartulary/api.ErrOld", Rows.laid_cartulary_api_ErrOld), ("cartulary/api.ErrStopped", Rows.laid_cartulary_api_ErrStopped), ("cartulary/api.ErrScript", Rows.laid_cartulary_api_ErrScript), ("cartulary/sha.table", Rows.laid_cartulary_sha_table)] [.data, .handle, .sentinel, .sentinel, .sentinel, .sentinel, .sentinel, .sentinel, .sentinel, .sentinel, .sentinel, .sentinel, .sentinel, .sentinel, .sentinel, .sentinel, .sentinel, .sentinel, .data] true :=
  Program.laidByTextLater.sub seatTie1 ["math/bits.deBruijn64tab", "errors.errorType", "cartulary/api.ErrNil", "cartulary/api.ErrArg", "cartulary/api.ErrInput", "cartulary/api.ErrLimit", "cartulary/api.ErrRange", "cartulary/api.ErrGone", "cartulary/api.ErrUnavailable", "cartulary/api.ErrDead", "cartulary/api.ErrCorrupt", "cartulary/api.ErrProof", "cartulary/api.ErrSpent", "cartulary/api.ErrSigned", "cartulary/api.ErrFork", "cartulary/api.ErrOld", "cartulary/api.ErrStopped", "cartulary/api.ErrScript", "cartulary/sha.table"] (by kernel_rfl) (by kernel_rfl)
theorem compactRefuses_row_tie : Rows.compactRefusesRow.laidByTextAt .later Tryd.pinned [.data, .handle, .sentinel, .sentinel, .sentinel, .sentinel, .sentinel, .sentinel, .sentinel, .sentinel, .sentinel, .sentinel, .sentinel, .sentinel, .sentinel, .sentinel, .sentinel, .sentinel, .data] true :=
  OpenClaim.laidByTextAt_later rfl rfl tie4 noOwnUnsafe
theorem topForgedLeafUpto_row_tie : Rows.topForgedLeafUptoRow.laidByTextAt .later Tryd.pinned [.sentinel, .sentinel, .sentinel, .sentinel, .data] true :=
  OpenClaim.laidByTextAt_later rfl rfl tie noOwnUnsafe
theorem compactRootUpto_row_tie : Rows.compactRootUptoRow.laidByTextAt .later Tryd.pinned [.data, .sentinel, .sentinel, .sentinel, .data] true :=
  OpenClaim.laidByTextAt_later rfl rfl tie2 noOwnUnsafe
theorem compactCutsUpto_row_tie : Rows.compactCutsUptoRow.laidByTextAt .later Tryd.pinned [.data, .sentinel, .sentinel, .sentinel, .sentinel, .data] true :=
  OpenClaim.laidByTextAt_later rfl rfl tie3 noOwnUnsafe
theorem topForgedRootUpto_row_tie : Rows.topForgedRootUptoRow.laidByTextAt .later Tryd.pinned [.sentinel, .sentinel, .sentinel, .sentinel, .data] true :=
  OpenClaim.laidByTextAt_later rfl rfl tie noOwnUnsafe
theorem compactRefusesUpto_row_tie : Rows.compactRefusesUptoRow.laidByTextAt .later Tryd.pinned [.data, .handle, .sentinel, .sentinel, .sentinel, .sentinel, .sentinel, .sentinel, .sentinel, .sentinel, .sentinel, .sentinel, .sentinel, .sentinel, .sentinel, .sentinel, .sentinel, .sentinel, .data] true :=
  OpenClaim.laidByTextAt_later rfl rfl tie4 noOwnUnsafe
end Go.Proofs.YtigjnfmbellpjaaDoor
