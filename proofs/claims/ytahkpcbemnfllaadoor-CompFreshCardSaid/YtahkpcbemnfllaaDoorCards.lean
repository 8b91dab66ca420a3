/-
  DERIVED. GIVEN WITH THE SEED: THE CARDS: each row of YtahkpcbemnfllaaDoorRows.lean that lists a variable, with what it lists TIED to the program's text (the seventh form; the later family's looks); each row that meets fmt, with fmt's text TOLD by the authors' own Lean function (tested against real Go, not proved from fmt's source: count such statements apart). THE CARD IS WHAT COUNTS. Prove the row's statement (the work); the ties are given (YtahkpcbemnfllaaDoorTie.lean); close each card by the builder's one call (the guide's Derived/Test/ToyasCard.lean, 'card_holds'). Laid BY PROGRAM, IN A SANDBOX (cutbox-door.mjs). By AI agents, Wed Nov 11 2026. No macro, syntax, notation, axiom, sorry.
-/
import Derived.Test.YtahkpcbemnfllaaDoorRows
import GoSem.ClaimSeven
namespace Go.Proofs.YtahkpcbemnfllaaDoor
namespace Rows

/-- THE TIED CARD OF 'annalslaw7.CompRoot'. -/
def compRootCard : Claim7 := { stood := { row := compRootRow, standIns := [], harness := (true, "83d595f9ab087cc3a81a278aaed72d5057a9795af4d669f63c8c19b491db3ae6"), looks := false }, kinds := [], alts := [], laidByText := true, laidKinds := [.data, .data, .data, .data], laidTests := true, laidLooks := .later }
def CompRootCardSaid : Prop := Claim7.holds Tryd.pinned (.plain (OpenSpec.ofChange compRootSpec)) compRootCard

/-- THE TIED CARD OF 'annalslaw7.CompPush'. -/
def compPushCard : Claim7 := { stood := { row := compPushRow, standIns := [], harness := (true, "83d595f9ab087cc3a81a278aaed72d5057a9795af4d669f63c8c19b491db3ae6"), looks := false }, kinds := [], alts := [], laidByText := true, laidKinds := [.data, .data, .data, .data], laidTests := true, laidLooks := .later }
def CompPushCardSaid : Prop := Claim7.holds Tryd.pinned (.plain (OpenSpec.ofChange compPushSpec)) compPushCard

/-- THE TIED CARD OF 'annalslaw7.CompMerge'. -/
def compMergeCard : Claim7 := { stood := { row := compMergeRow, standIns := [], harness := (true, "83d595f9ab087cc3a81a278aaed72d5057a9795af4d669f63c8c19b491db3ae6"), looks := false }, kinds := [], alts := [], laidByText := true, laidKinds := [.data, .data, .data, .data], laidTests := true, laidLooks := .later }
def CompMergeCardSaid : Prop := Claim7.holds Tryd.pinned (.plain (OpenSpec.ofChange compMergeSpec)) compMergeCard

/-- THE TIED CARD OF 'annalslaw7.CompFresh'. -/
def compFreshCard : Claim7 := { stood := { row := compFreshRow, standIns := [], harness := (true, "83d595f9ab087cc3a81a278aaed72d5057a9795af4d669f63c8c19b491db3ae6"), looks := false }, kinds := [], alts := [], laidByText := true, laidKinds := [.data, .data, .data, .data], laidTests := true, laidLooks := .later }
def CompFreshCardSaid : Prop := Claim7.holds Tryd.pinned (.plain (OpenSpec.ofChange compFreshSpec)) compFreshCard

/-- THE TIED CARD OF 'annalslaw7.CompParts'. -/
def compPartsCard : Claim7 := { stood := { row := compPartsRow, standIns := [], harness := (true, "83d595f9ab087cc3a81a278aaed72d5057a9795af4d669f63c8c19b491db3ae6"), looks := false }, kinds := [], alts := [], laidByText := true, laidKinds := [.data, .data], laidTests := true, laidLooks := .later }
def CompPartsCardSaid : Prop := Claim7.holds Tryd.pinned (.plain (OpenSpec.ofChange compPartsSpec)) compPartsCard

/-- THE TIED CARD OF 'annalslaw7.CompWork'. -/
def compWorkCard : Claim7 := { stood := { row := compWorkRow, standIns := [], harness := (true, "83d595f9ab087cc3a81a278aaed72d5057a9795af4d669f63c8c19b491db3ae6"), looks := false }, kinds := [], alts := [], laidByText := true, laidKinds := [.data, .data, .data], laidTests := true, laidLooks := .later }
def CompWorkCardSaid : Prop := Claim7.holds Tryd.pinned (.plain (OpenSpec.ofChange compWorkSpec)) compWorkCard

/-- THE SECOND FORM's CARD OF 'annalslaw7.CompRoot'. -/
def compRootUptoCard : Claim7 := { stood := { row := compRootUptoRow, standIns := [], harness := (true, "83d595f9ab087cc3a81a278aaed72d5057a9795af4d669f63c8c19b491db3ae6"), looks := false }, kinds := [], alts := [], laidByText := true, laidKinds := [.data, .data, .data, .data], laidTests := true, laidLooks := .later }
def CompRootUptoCardSaid : Prop := Claim7.holds Tryd.pinned (.plain (OpenSpec.upto compRootSpec)) compRootUptoCard

/-- THE SECOND FORM's CARD OF 'annalslaw7.CompPush'. -/
def compPushUptoCard : Claim7 := { stood := { row := compPushUptoRow, standIns := [], harness := (true, "83d595f9ab087cc3a81a278aaed72d5057a9795af4d669f63c8c19b491db3ae6"), looks := false }, kinds := [], alts := [], laidByText := true, laidKinds := [.data, .data, .data, .data], laidTests := true, laidLooks := .later }
def CompPushUptoCardSaid : Prop := Claim7.holds Tryd.pinned (.plain (OpenSpec.upto compPushSpec)) compPushUptoCard

/-- THE SECOND FORM's CARD OF 'annalslaw7.CompMerge'. -/
def compMergeUptoCard : Claim7 := { stood := { row := compMergeUptoRow, standIns := [], harness := (true, "83d595f9ab087cc3a81a278aaed72d5057a9795af4d669f63c8c19b491db3ae6"), looks := false }, kinds := [], alts := [], laidByText := true, laidKinds := [.data, .data, .data, .data], laidTests := true, laidLooks := .later }
def CompMergeUptoCardSaid : Prop := Claim7.holds Tryd.pinned (.plain (OpenSpec.upto compMergeSpec)) compMergeUptoCard

/-- THE SECOND FORM's CARD OF 'annalslaw7.CompFresh'. -/
def compFreshUptoCard : Claim7 := { stood := { row := compFreshUptoRow, standIns := [], harness := (true, "83d595f9ab087cc3a81a278aaed72d5057a9795af4d669f63c8c19b491db3ae6"), looks := false }, kinds := [], alts := [], laidByText := true, laidKinds := [.data, .data, .data, .data], laidTests := true, laidLooks := .later }
def CompFreshUptoCardSaid : Prop := Claim7.holds Tryd.pinned (.plain (OpenSpec.upto compFreshSpec)) compFreshUptoCard

/-- THE SECOND FORM's CARD OF 'annalslaw7.CompParts'. -/
def compPartsUptoCard : Claim7 := { stood := { row := compPartsUptoRow, standIns := [], harness := (true, "83d595f9ab087cc3a81a278aaed72d5057a9795af4d669f63c8c19b491db3ae6"), looks := false }, kinds := [], alts := [], laidByText := true, laidKinds := [.data, .data], laidTests := true, laidLooks := .later }
def CompPartsUptoCardSaid : Prop := Claim7.holds Tryd.pinned (.plain (OpenSpec.upto compPartsSpec)) compPartsUptoCard

/-- THE SECOND FORM's CARD OF 'annalslaw7.CompWork'. -/
def compWorkUptoCard : Claim7 := { stood := { row := compWorkUptoRow, standIns := [], harness := (true, "83d595f9ab087cc3a81a278aaed72d5057a9795af4d669f63c8c19b491db3ae6"), looks := false }, kinds := [], alts := [], laidByText := true, laidKinds := [.data, .data, .data], laidTests := true, laidLooks := .later }
def CompWorkUptoCardSaid : Prop := Claim7.holds Tryd.pinned (.plain (OpenSpec.upto compWorkSpec)) compWorkUptoCard
end Rows
end Go.Proofs.YtahkpcbemnfllaaDoor
