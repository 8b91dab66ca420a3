/-
  DERIVED. GIVEN WITH THE SEED: THE CARDS: each row of YtkhcinnpfpkhnaaDoorRows.lean that lists a variable, with what it lists TIED to the program's text (the seventh form; the later family's looks); each row that meets fmt, with fmt's text TOLD by the authors' own Lean function (tested against real Go, not proved from fmt's source: count such statements apart). THE CARD IS WHAT COUNTS. Prove the row's statement (the work); the ties are given (YtkhcinnpfpkhnaaDoorTie.lean); close each card by the builder's one call (the guide's Derived/Test/ToyasCard.lean, 'card_holds'). Laid BY PROGRAM, IN A SANDBOX (cutbox-door.mjs). By AI agents, Wed Nov 11 2026. No macro, syntax, notation, axiom, sorry.
-/
import Derived.Test.YtkhcinnpfpkhnaaDoorRows
import GoSem.ClaimSeven
namespace Go.Proofs.YtkhcinnpfpkhnaaDoor
namespace Rows

/-- THE TIED CARD OF 'annalslaw2.ShaHistory'. -/
def shaHistoryCard : Claim7 := { stood := { row := shaHistoryRow, standIns := [], harness := (true, "4b2b1bbf169efa8b4e3d5e006ed3ced3fc3a32822576badf1077ff844c36feeb"), looks := false }, kinds := [], alts := [], laidByText := true, laidKinds := [.data, .data, .data, .data], laidTests := true, laidLooks := .later }
def ShaHistoryCardSaid : Prop := Claim7.holds Tryd.pinned (.plain (OpenSpec.ofChange shaHistorySpec)) shaHistoryCard

/-- THE TIED CARD OF 'annalslaw2.ShaSum'. -/
def shaSumCard : Claim7 := { stood := { row := shaSumRow, standIns := [], harness := (true, "4b2b1bbf169efa8b4e3d5e006ed3ced3fc3a32822576badf1077ff844c36feeb"), looks := false }, kinds := [], alts := [], laidByText := true, laidKinds := [.data, .data, .data, .data], laidTests := true, laidLooks := .later }
def ShaSumCardSaid : Prop := Claim7.holds Tryd.pinned (.plain (OpenSpec.ofChange shaSumSpec)) shaSumCard

/-- THE TIED CARD OF 'annalslaw2.ShaPieces'. -/
def shaPiecesCard : Claim7 := { stood := { row := shaPiecesRow, standIns := [], harness := (true, "4b2b1bbf169efa8b4e3d5e006ed3ced3fc3a32822576badf1077ff844c36feeb"), looks := false }, kinds := [], alts := [], laidByText := true, laidKinds := [.data, .data], laidTests := true, laidLooks := .later }
def ShaPiecesCardSaid : Prop := Claim7.holds Tryd.pinned (.plain (OpenSpec.ofChange shaPiecesSpec)) shaPiecesCard

/-- THE TIED CARD OF 'annalslaw2.ShaParts'. -/
def shaPartsCard : Claim7 := { stood := { row := shaPartsRow, standIns := [], harness := (true, "4b2b1bbf169efa8b4e3d5e006ed3ced3fc3a32822576badf1077ff844c36feeb"), looks := false }, kinds := [], alts := [], laidByText := true, laidKinds := [.data, .data], laidTests := true, laidLooks := .later }
def ShaPartsCardSaid : Prop := Claim7.holds Tryd.pinned (.plain (OpenSpec.ofChange shaPartsSpec)) shaPartsCard

/-- THE TIED CARD OF 'annalslaw2.ShaKnown'. -/
def shaKnownCard : Claim7 := { stood := { row := shaKnownRow, standIns := [], harness := (true, "4b2b1bbf169efa8b4e3d5e006ed3ced3fc3a32822576badf1077ff844c36feeb"), looks := false }, kinds := [], alts := [], laidByText := true, laidKinds := [.data, .data], laidTests := true, laidLooks := .later }
def ShaKnownCardSaid : Prop := Claim7.holds Tryd.pinned (.plain (OpenSpec.ofChange shaKnownSpec)) shaKnownCard

/-- THE TIED CARD OF 'annalslaw2.ShaCut'. -/
def shaCutCard : Claim7 := { stood := { row := shaCutRow, standIns := [], harness := (true, "4b2b1bbf169efa8b4e3d5e006ed3ced3fc3a32822576badf1077ff844c36feeb"), looks := false }, kinds := [], alts := [], laidByText := true, laidKinds := [.data, .data, .data, .data], laidTests := true, laidLooks := .later }
def ShaCutCardSaid : Prop := Claim7.holds Tryd.pinned (.plain (OpenSpec.ofChange shaCutSpec)) shaCutCard

/-- THE TIED CARD OF 'annalslaw2.ShaBegins'. -/
def shaBeginsCard : Claim7 := { stood := { row := shaBeginsRow, standIns := [], harness := (true, "4b2b1bbf169efa8b4e3d5e006ed3ced3fc3a32822576badf1077ff844c36feeb"), looks := false }, kinds := [], alts := [], laidByText := true, laidKinds := [.data, .data], laidTests := true, laidLooks := .later }
def ShaBeginsCardSaid : Prop := Claim7.holds Tryd.pinned (.plain (OpenSpec.ofChange shaBeginsSpec)) shaBeginsCard

/-- THE TIED CARD OF 'annalslaw3.MacNested'. -/
def macNestedCard : Claim7 := { stood := { row := macNestedRow, standIns := [], harness := (true, "4b2b1bbf169efa8b4e3d5e006ed3ced3fc3a32822576badf1077ff844c36feeb"), looks := false }, kinds := [], alts := [], laidByText := true, laidKinds := [.data, .data], laidTests := true, laidLooks := .later }
def MacNestedCardSaid : Prop := Claim7.holds Tryd.pinned (.plain (OpenSpec.ofChange macNestedSpec)) macNestedCard

/-- THE TIED CARD OF 'annalslaw3.MacKeyID'. -/
def macKeyIDCard : Claim7 := { stood := { row := macKeyIDRow, standIns := [], harness := (true, "4b2b1bbf169efa8b4e3d5e006ed3ced3fc3a32822576badf1077ff844c36feeb"), looks := false }, kinds := [], alts := [], laidByText := true, laidKinds := [.data, .data, .data, .data], laidTests := true, laidLooks := .later }
def MacKeyIDCardSaid : Prop := Claim7.holds Tryd.pinned (.plain (OpenSpec.ofChange macKeyIDSpec)) macKeyIDCard

/-- THE TIED CARD OF 'annalslaw3.MacSum'. -/
def macSumCard : Claim7 := { stood := { row := macSumRow, standIns := [], harness := (true, "4b2b1bbf169efa8b4e3d5e006ed3ced3fc3a32822576badf1077ff844c36feeb"), looks := false }, kinds := [], alts := [], laidByText := true, laidKinds := [.data, .data, .data, .data], laidTests := true, laidLooks := .later }
def MacSumCardSaid : Prop := Claim7.holds Tryd.pinned (.plain (OpenSpec.ofChange macSumSpec)) macSumCard

/-- THE TIED CARD OF 'annalslaw3.MacDerive'. -/
def macDeriveCard : Claim7 := { stood := { row := macDeriveRow, standIns := [], harness := (true, "4b2b1bbf169efa8b4e3d5e006ed3ced3fc3a32822576badf1077ff844c36feeb"), looks := false }, kinds := [], alts := [], laidByText := true, laidKinds := [.data, .data, .data, .data], laidTests := true, laidLooks := .later }
def MacDeriveCardSaid : Prop := Claim7.holds Tryd.pinned (.plain (OpenSpec.ofChange macDeriveSpec)) macDeriveCard

/-- THE TIED CARD OF 'annalslaw3.MacChain'. -/
def macChainCard : Claim7 := { stood := { row := macChainRow, standIns := [], harness := (true, "4b2b1bbf169efa8b4e3d5e006ed3ced3fc3a32822576badf1077ff844c36feeb"), looks := false }, kinds := [], alts := [], laidByText := true, laidKinds := [.data, .data], laidTests := true, laidLooks := .later }
def MacChainCardSaid : Prop := Claim7.holds Tryd.pinned (.plain (OpenSpec.ofChange macChainSpec)) macChainCard

/-- THE SECOND FORM's CARD OF 'annalslaw2.ShaHistory'. -/
def shaHistoryUptoCard : Claim7 := { stood := { row := shaHistoryUptoRow, standIns := [], harness := (true, "4b2b1bbf169efa8b4e3d5e006ed3ced3fc3a32822576badf1077ff844c36feeb"), looks := false }, kinds := [], alts := [], laidByText := true, laidKinds := [.data, .data, .data, .data], laidTests := true, laidLooks := .later }
def ShaHistoryUptoCardSaid : Prop := Claim7.holds Tryd.pinned (.plain (OpenSpec.upto shaHistorySpec)) shaHistoryUptoCard

/-- THE SECOND FORM's CARD OF 'annalslaw2.ShaSum'. -/
def shaSumUptoCard : Claim7 := { stood := { row := shaSumUptoRow, standIns := [], harness := (true, "4b2b1bbf169efa8b4e3d5e006ed3ced3fc3a32822576badf1077ff844c36feeb"), looks := false }, kinds := [], alts := [], laidByText := true, laidKinds := [.data, .data, .data, .data], laidTests := true, laidLooks := .later }
def ShaSumUptoCardSaid : Prop := Claim7.holds Tryd.pinned (.plain (OpenSpec.upto shaSumSpec)) shaSumUptoCard

/-- THE SECOND FORM's CARD OF 'annalslaw2.ShaPieces'. -/
def shaPiecesUptoCard : Claim7 := { stood := { row := shaPiecesUptoRow, standIns := [], harness := (true, "4b2b1bbf169efa8b4e3d5e006ed3ced3fc3a32822576badf1077ff844c36feeb"), looks := false }, kinds := [], alts := [], laidByText := true, laidKinds := [.data, .data], laidTests := true, laidLooks := .later }
def ShaPiecesUptoCardSaid : Prop := Claim7.holds Tryd.pinned (.plain (OpenSpec.upto shaPiecesSpec)) shaPiecesUptoCard

/-- THE SECOND FORM's CARD OF 'annalslaw2.ShaParts'. -/
def shaPartsUptoCard : Claim7 := { stood := { row := shaPartsUptoRow, standIns := [], harness := (true, "4b2b1bbf169efa8b4e3d5e006ed3ced3fc3a32822576badf1077ff844c36feeb"), looks := false }, kinds := [], alts := [], laidByText := true, laidKinds := [.data, .data], laidTests := true, laidLooks := .later }
def ShaPartsUptoCardSaid : Prop := Claim7.holds Tryd.pinned (.plain (OpenSpec.upto shaPartsSpec)) shaPartsUptoCard

/-- THE SECOND FORM's CARD OF 'annalslaw2.ShaKnown'. -/
def shaKnownUptoCard : Claim7 := { stood := { row := shaKnownUptoRow, standIns := [], harness := (true, "4b2b1bbf169efa8b4e3d5e006ed3ced3fc3a32822576badf1077ff844c36feeb"), looks := false }, kinds := [], alts := [], laidByText := true, laidKinds := [.data, .data], laidTests := true, laidLooks := .later }
def ShaKnownUptoCardSaid : Prop := Claim7.holds Tryd.pinned (.plain (OpenSpec.upto shaKnownSpec)) shaKnownUptoCard

/-- THE SECOND FORM's CARD OF 'annalslaw2.ShaCut'. -/
def shaCutUptoCard : Claim7 := { stood := { row := shaCutUptoRow, standIns := [], harness := (true, "4b2b1bbf169efa8b4e3d5e006ed3ced3fc3a32822576badf1077ff844c36feeb"), looks := false }, kinds := [], alts := [], laidByText := true, laidKinds := [.data, .data, .data, .data], laidTests := true, laidLooks := .later }
def ShaCutUptoCardSaid : Prop := Claim7.holds Tryd.pinned (.plain (OpenSpec.upto shaCutSpec)) shaCutUptoCard

/-- THE SECOND FORM's CARD OF 'annalslaw2.ShaBegins'. -/
def shaBeginsUptoCard : Claim7 := { stood := { row := shaBeginsUptoRow, standIns := [], harness := (true, "4b2b1bbf169efa8b4e3d5e006ed3ced3fc3a32822576badf1077ff844c36feeb"), looks := false }, kinds := [], alts := [], laidByText := true, laidKinds := [.data, .data], laidTests := true, laidLooks := .later }
def ShaBeginsUptoCardSaid : Prop := Claim7.holds Tryd.pinned (.plain (OpenSpec.upto shaBeginsSpec)) shaBeginsUptoCard

/-- THE SECOND FORM's CARD OF 'annalslaw3.MacNested'. -/
def macNestedUptoCard : Claim7 := { stood := { row := macNestedUptoRow, standIns := [], harness := (true, "4b2b1bbf169efa8b4e3d5e006ed3ced3fc3a32822576badf1077ff844c36feeb"), looks := false }, kinds := [], alts := [], laidByText := true, laidKinds := [.data, .data], laidTests := true, laidLooks := .later }
def MacNestedUptoCardSaid : Prop := Claim7.holds Tryd.pinned (.plain (OpenSpec.upto macNestedSpec)) macNestedUptoCard

/-- THE SECOND FORM's CARD OF 'annalslaw3.MacKeyID'. -/
def macKeyIDUptoCard : Claim7 := { stood := { row := macKeyIDUptoRow, standIns := [], harness := (true, "4b2b1bbf169efa8b4e3d5e006ed3ced3fc3a32822576badf1077ff844c36feeb"), looks := false }, kinds := [], alts := [], laidByText := true, laidKinds := [.data, .data, .data, .data], laidTests := true, laidLooks := .later }
def MacKeyIDUptoCardSaid : Prop := Claim7.holds Tryd.pinned (.plain (OpenSpec.upto macKeyIDSpec)) macKeyIDUptoCard

/-- THE SECOND FORM's CARD OF 'annalslaw3.MacSum'. -/
def macSumUptoCard : Claim7 := { stood := { row := macSumUptoRow, standIns := [], harness := (true, "4b2b1bbf169efa8b4e3d5e006ed3ced3fc3a32822576badf1077ff844c36feeb"), looks := false }, kinds := [], alts := [], laidByText := true, laidKinds := [.data, .data, .data, .data], laidTests := true, laidLooks := .later }
def MacSumUptoCardSaid : Prop := Claim7.holds Tryd.pinned (.plain (OpenSpec.upto macSumSpec)) macSumUptoCard

/-- THE SECOND FORM's CARD OF 'annalslaw3.MacDerive'. -/
def macDeriveUptoCard : Claim7 := { stood := { row := macDeriveUptoRow, standIns := [], harness := (true, "4b2b1bbf169efa8b4e3d5e006ed3ced3fc3a32822576badf1077ff844c36feeb"), looks := false }, kinds := [], alts := [], laidByText := true, laidKinds := [.data, .data, .data, .data], laidTests := true, laidLooks := .later }
def MacDeriveUptoCardSaid : Prop := Claim7.holds Tryd.pinned (.plain (OpenSpec.upto macDeriveSpec)) macDeriveUptoCard

/-- THE SECOND FORM's CARD OF 'annalslaw3.MacChain'. -/
def macChainUptoCard : Claim7 := { stood := { row := macChainUptoRow, standIns := [], harness := (true, "4b2b1bbf169efa8b4e3d5e006ed3ced3fc3a32822576badf1077ff844c36feeb"), looks := false }, kinds := [], alts := [], laidByText := true, laidKinds := [.data, .data], laidTests := true, laidLooks := .later }
def MacChainUptoCardSaid : Prop := Claim7.holds Tryd.pinned (.plain (OpenSpec.upto macChainSpec)) macChainUptoCard
end Rows
end Go.Proofs.YtkhcinnpfpkhnaaDoor
