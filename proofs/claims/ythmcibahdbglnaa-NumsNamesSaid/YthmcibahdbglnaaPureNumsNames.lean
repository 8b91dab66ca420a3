/- The closed statement NumsNames (the numbers of the errors of chapter 1) answers true; no condition. -/
import Derived.Test.YthmcibahdbglnaaPNumsNamesx1
namespace Go.Proofs.Ythmcibahdbglnaa.Pure
open Go.RowKit Go.Proofs.Ythmcibahdbglnaa.PNumsNames Go.Proofs.YthmcibahdbglnaaW.PrintWords Go.Proofs.YthmcibahdbglnaaW.PrintLast

theorem NumsNames : annalslaw1_NumsNames.Pure := by
  first | rfl | exact ⟨1, rfl⟩ | (simp [annalslaw1_NumsNames.Pure, annalslaw1_NumsNames.f])

end Go.Proofs.Ythmcibahdbglnaa.Pure
