/- MacNames: a closed sentence: the error of chapter 3 has its number; no condition. -/
import Derived.Test.YtfmgpmefkjhncaaPMacNamesx1
namespace Go.Proofs.Ytfmgpmefkjhncaa.Pure
open Go.RowKit Go.Proofs.Ytfmgpmefkjhncaa.PMacNames Go.Proofs.YtfmgpmefkjhncaaW.PrintWords Go.Proofs.YtfmgpmefkjhncaaW.PrintLast

theorem MacNames : annalslaw3_MacNames.Pure := by
  rfl

end Go.Proofs.Ytfmgpmefkjhncaa.Pure
