/-
  DERIVED. GIVEN WITH THE SEED: THE CARDS: each row of YthmcibahdbglnaaDoorRows.lean that lists a variable, with what it lists TIED to the program's text (the seventh form; the later family's looks); each row that meets fmt, with fmt's text TOLD by the authors' own Lean function (tested against real Go, not proved from fmt's source: count such statements apart). THE CARD IS WHAT COUNTS. Prove the row's statement (the work); the ties are given (YthmcibahdbglnaaDoorTie.lean); close each card by the builder's one call (the guide's Derived/Test/ToyasCard.lean, 'card_holds'). Laid BY PROGRAM, IN A SANDBOX (cutbox-door.mjs). By AI agents, Wed Nov 11 2026. No macro, syntax, notation, axiom, sorry.
-/
import Derived.Test.YthmcibahdbglnaaDoorRows
import GoSem.ClaimSeven
namespace Go.Proofs.YthmcibahdbglnaaDoor
namespace Rows

/-- THE TIED CARD OF 'annalslaw1.NumsDigits'. -/
def numsDigitsCard : Claim7 := { stood := { row := numsDigitsRow, standIns := [], harness := (true, "5f0cf4a454cf450dd563cd2d9e4bbadefa1e7da0e5323dabc7e22131dfc25791"), looks := false }, kinds := [], alts := [], laidByText := true, laidKinds := [.data], laidTests := true, laidLooks := .later }
def NumsDigitsCardSaid : Prop := Claim7.holds Tryd.pinned (.plain (OpenSpec.ofChange numsDigitsSpec)) numsDigitsCard

/-- THE TIED CARD OF 'annalslaw1.NumsShape'. -/
def numsShapeCard : Claim7 := { stood := { row := numsShapeRow, standIns := [], harness := (true, "5f0cf4a454cf450dd563cd2d9e4bbadefa1e7da0e5323dabc7e22131dfc25791"), looks := false }, kinds := [], alts := [], laidByText := true, laidKinds := [.data], laidTests := true, laidLooks := .later }
def NumsShapeCardSaid : Prop := Claim7.holds Tryd.pinned (.plain (OpenSpec.ofChange numsShapeSpec)) numsShapeCard

/-- THE SECOND FORM's CARD OF 'annalslaw1.NumsDigits'. -/
def numsDigitsUptoCard : Claim7 := { stood := { row := numsDigitsUptoRow, standIns := [], harness := (true, "5f0cf4a454cf450dd563cd2d9e4bbadefa1e7da0e5323dabc7e22131dfc25791"), looks := false }, kinds := [], alts := [], laidByText := true, laidKinds := [.data], laidTests := true, laidLooks := .later }
def NumsDigitsUptoCardSaid : Prop := Claim7.holds Tryd.pinned (.plain (OpenSpec.upto numsDigitsSpec)) numsDigitsUptoCard

/-- THE SECOND FORM's CARD OF 'annalslaw1.NumsShape'. -/
def numsShapeUptoCard : Claim7 := { stood := { row := numsShapeUptoRow, standIns := [], harness := (true, "5f0cf4a454cf450dd563cd2d9e4bbadefa1e7da0e5323dabc7e22131dfc25791"), looks := false }, kinds := [], alts := [], laidByText := true, laidKinds := [.data], laidTests := true, laidLooks := .later }
def NumsShapeUptoCardSaid : Prop := Claim7.holds Tryd.pinned (.plain (OpenSpec.upto numsShapeSpec)) numsShapeUptoCard
end Rows
end Go.Proofs.YthmcibahdbglnaaDoor
