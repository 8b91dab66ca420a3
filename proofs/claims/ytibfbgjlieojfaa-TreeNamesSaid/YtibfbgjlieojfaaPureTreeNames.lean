/- TreeNames: a closed sentence: the errors and limits of chapter 5 have their numbers, the first leaf is a node, and what is none is refused; no condition. -/
import Derived.Test.YtibfbgjlieojfaaPTreeNamesx1
namespace Go.Proofs.Ytibfbgjlieojfaa.Pure
open Go.RowKit Go.Proofs.Ytibfbgjlieojfaa.PTreeNames Go.Proofs.YtibfbgjlieojfaaW.PrintWords Go.Proofs.YtibfbgjlieojfaaW.PrintLast

theorem TreeNames : annalslaw5_TreeNames.Pure := by
  exact ⟨5, by decide +kernel⟩

end Go.Proofs.Ytibfbgjlieojfaa.Pure
