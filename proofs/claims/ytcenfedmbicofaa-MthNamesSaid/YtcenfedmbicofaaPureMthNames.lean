/- MthNames: a closed sentence: the errors of chapter 6 have their numbers; no condition. -/
import Derived.Test.YtcenfedmbicofaaPMthNamesx1
namespace Go.Proofs.Ytcenfedmbicofaa.Pure
open Go.RowKit Go.Proofs.Ytcenfedmbicofaa.PMthNames Go.Proofs.YtcenfedmbicofaaW.PrintWords Go.Proofs.YtcenfedmbicofaaW.PrintLast

theorem MthNames : annalslaw6_MthNames.Pure := by
  rfl

end Go.Proofs.Ytcenfedmbicofaa.Pure
