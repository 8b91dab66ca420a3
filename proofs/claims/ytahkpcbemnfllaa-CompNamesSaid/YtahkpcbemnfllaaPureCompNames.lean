/- CompNames: a closed sentence: the errors and the limit of chapter 7 have their numbers; no condition. -/
import Derived.Test.YtahkpcbemnfllaaPCompNamesx1
namespace Go.Proofs.Ytahkpcbemnfllaa.Pure
open Go.RowKit Go.Proofs.Ytahkpcbemnfllaa.PCompNames Go.Proofs.YtahkpcbemnfllaaW.PrintWords Go.Proofs.YtahkpcbemnfllaaW.PrintLast

theorem CompNames : annalslaw7_CompNames.Pure := by
  rfl

end Go.Proofs.Ytahkpcbemnfllaa.Pure
