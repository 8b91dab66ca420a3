/-
  DERIVED. GIVEN WITH THE SEED: THE PROGRAM's TIES (one call each: nine closed facts by the kernel) AND EACH ROW's TIE, after the 31st guide's Derived/Test/Toyas{Tie, Card}.lean. No idea stands in it: it is a product of the set-up. Laid BY PROGRAM, IN A SANDBOX (cutbox-door.mjs). By AI agents, Wed Nov 11 2026. No macro, syntax, notation, axiom, sorry.
-/
import Derived.Test.YtahkpcbemnfllaaDoorRows
import Derived.LaidByTextLater
import Derived.SevenTiedAt
import Derived.LaidSub
import Derived.LaidOnce
namespace Go.Proofs.YtahkpcbemnfllaaDoor
open Go
set_option maxRecDepth 100000
theorem seatTie1 : Tryd.prog.laidByTextLater [("annals/annalsref2.first", Rows.laid_annals_annalsref2_first), ("annals/annalsref2.table", Rows.laid_annals_annalsref2_table), ("annals/nums.halves", Rows.laid_annals_nums_halves), ("annals/sha.begin", Rows.laid_annals_sha_begin), ("annals/sha.table", Rows.laid_annals_sha_table)] [.data, .data, .data, .data, .data] true :=
  Program.laidByTextLater_by_one 34 8 65 (by kernel_rfl) (by kernel_rfl) (by kernel_rfl) (by kernel_rfl) (by kernel_rfl) (by kernel_rfl) (fun _ _ => by kernel_rfl)
theorem noOwnUnsafe : Tryd.pinned.checked.prog.headLifts.contains "ownunsafe" = false := by kernel_rfl
theorem tie : Tryd.prog.laidByTextLater [("annals/annalsref2.first", Rows.laid_annals_annalsref2_first), ("annals/annalsref2.table", Rows.laid_annals_annalsref2_table), ("annals/sha.begin", Rows.laid_annals_sha_begin), ("annals/sha.table", Rows.laid_annals_sha_table)] [.data, .data, .data, .data] true :=
  Program.laidByTextLater.sub seatTie1 ["annals/annalsref2.first", "annals/annalsref2.table", "annals/sha.begin", "annals/sha.table"] (by kernel_rfl) (by kernel_rfl)
theorem compRoot_row_tie : Rows.compRootRow.laidByTextAt .later Tryd.pinned [.data, .data, .data, .data] true :=
  OpenClaim.laidByTextAt_later rfl rfl tie noOwnUnsafe
theorem compPush_row_tie : Rows.compPushRow.laidByTextAt .later Tryd.pinned [.data, .data, .data, .data] true :=
  OpenClaim.laidByTextAt_later rfl rfl tie noOwnUnsafe
theorem compMerge_row_tie : Rows.compMergeRow.laidByTextAt .later Tryd.pinned [.data, .data, .data, .data] true :=
  OpenClaim.laidByTextAt_later rfl rfl tie noOwnUnsafe
theorem compFresh_row_tie : Rows.compFreshRow.laidByTextAt .later Tryd.pinned [.data, .data, .data, .data] true :=
  OpenClaim.laidByTextAt_later rfl rfl tie noOwnUnsafe
theorem tie2 : Tryd.prog.laidByTextLater [("annals/sha.begin", Rows.laid_annals_sha_begin), ("annals/sha.table", Rows.laid_annals_sha_table)] [.data, .data] true :=
  Program.laidByTextLater.sub seatTie1 ["annals/sha.begin", "annals/sha.table"] (by kernel_rfl) (by kernel_rfl)
theorem compParts_row_tie : Rows.compPartsRow.laidByTextAt .later Tryd.pinned [.data, .data] true :=
  OpenClaim.laidByTextAt_later rfl rfl tie2 noOwnUnsafe
theorem tie3 : Tryd.prog.laidByTextLater [("annals/nums.halves", Rows.laid_annals_nums_halves), ("annals/sha.begin", Rows.laid_annals_sha_begin), ("annals/sha.table", Rows.laid_annals_sha_table)] [.data, .data, .data] true :=
  Program.laidByTextLater.sub seatTie1 ["annals/nums.halves", "annals/sha.begin", "annals/sha.table"] (by kernel_rfl) (by kernel_rfl)
theorem compWork_row_tie : Rows.compWorkRow.laidByTextAt .later Tryd.pinned [.data, .data, .data] true :=
  OpenClaim.laidByTextAt_later rfl rfl tie3 noOwnUnsafe
theorem compRootUpto_row_tie : Rows.compRootUptoRow.laidByTextAt .later Tryd.pinned [.data, .data, .data, .data] true :=
  OpenClaim.laidByTextAt_later rfl rfl tie noOwnUnsafe
theorem compPushUpto_row_tie : Rows.compPushUptoRow.laidByTextAt .later Tryd.pinned [.data, .data, .data, .data] true :=
  OpenClaim.laidByTextAt_later rfl rfl tie noOwnUnsafe
theorem compMergeUpto_row_tie : Rows.compMergeUptoRow.laidByTextAt .later Tryd.pinned [.data, .data, .data, .data] true :=
  OpenClaim.laidByTextAt_later rfl rfl tie noOwnUnsafe
theorem compFreshUpto_row_tie : Rows.compFreshUptoRow.laidByTextAt .later Tryd.pinned [.data, .data, .data, .data] true :=
  OpenClaim.laidByTextAt_later rfl rfl tie noOwnUnsafe
theorem compPartsUpto_row_tie : Rows.compPartsUptoRow.laidByTextAt .later Tryd.pinned [.data, .data] true :=
  OpenClaim.laidByTextAt_later rfl rfl tie2 noOwnUnsafe
theorem compWorkUpto_row_tie : Rows.compWorkUptoRow.laidByTextAt .later Tryd.pinned [.data, .data, .data] true :=
  OpenClaim.laidByTextAt_later rfl rfl tie3 noOwnUnsafe
end Go.Proofs.YtahkpcbemnfllaaDoor
