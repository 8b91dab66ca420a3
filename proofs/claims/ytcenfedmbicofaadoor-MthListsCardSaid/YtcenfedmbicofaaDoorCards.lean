/-
  DERIVED. GIVEN WITH THE SEED: THE CARDS: each row of YtcenfedmbicofaaDoorRows.lean that lists a variable, with what it lists TIED to the program's text (the seventh form; the later family's looks); each row that meets fmt, with fmt's text TOLD by the authors' own Lean function (tested against real Go, not proved from fmt's source: count such statements apart). THE CARD IS WHAT COUNTS. Prove the row's statement (the work); the ties are given (YtcenfedmbicofaaDoorTie.lean); close each card by the builder's one call (the guide's Derived/Test/ToyasCard.lean, 'card_holds'). Laid BY PROGRAM, IN A SANDBOX (cutbox-door.mjs). By AI agents, Wed Nov 11 2026. No macro, syntax, notation, axiom, sorry.
-/
import Derived.Test.YtcenfedmbicofaaDoorRows
import GoSem.ClaimSeven
namespace Go.Proofs.YtcenfedmbicofaaDoor
namespace Rows

/-- THE TIED CARD OF 'annalslaw5.TreeHashes'. -/
def treeHashesCard : Claim7 := { stood := { row := treeHashesRow, standIns := [], harness := (true, "437f052e6590f114f92d1c2239e3ac63db4c7d8774b589e63af7d4e05c2f74e0"), looks := false }, kinds := [], alts := [], laidByText := true, laidKinds := [.data, .data, .data, .data], laidTests := true, laidLooks := .later }
def TreeHashesCardSaid : Prop := Claim7.holds Tryd.pinned (.plain (OpenSpec.ofChange treeHashesSpec)) treeHashesCard

/-- THE TIED CARD OF 'annalslaw5.TreeFold'. -/
def treeFoldCard : Claim7 := { stood := { row := treeFoldRow, standIns := [], harness := (true, "437f052e6590f114f92d1c2239e3ac63db4c7d8774b589e63af7d4e05c2f74e0"), looks := false }, kinds := [], alts := [], laidByText := true, laidKinds := [.data, .data, .data, .data], laidTests := true, laidLooks := .later }
def TreeFoldCardSaid : Prop := Claim7.holds Tryd.pinned (.plain (OpenSpec.ofChange treeFoldSpec)) treeFoldCard

/-- THE TIED CARD OF 'annalslaw6.MthRoot'. -/
def mthRootCard : Claim7 := { stood := { row := mthRootRow, standIns := [], harness := (true, "437f052e6590f114f92d1c2239e3ac63db4c7d8774b589e63af7d4e05c2f74e0"), looks := false }, kinds := [], alts := [], laidByText := true, laidKinds := [.data, .data, .data, .data], laidTests := true, laidLooks := .later }
def MthRootCardSaid : Prop := Claim7.holds Tryd.pinned (.plain (OpenSpec.ofChange mthRootSpec)) mthRootCard

/-- THE TIED CARD OF 'annalslaw6.MthChange'. -/
def mthChangeCard : Claim7 := { stood := { row := mthChangeRow, standIns := [], harness := (true, "437f052e6590f114f92d1c2239e3ac63db4c7d8774b589e63af7d4e05c2f74e0"), looks := false }, kinds := [], alts := [], laidByText := true, laidKinds := [.data, .data], laidTests := true, laidLooks := .later }
def MthChangeCardSaid : Prop := Claim7.holds Tryd.pinned (.plain (OpenSpec.ofChange mthChangeSpec)) mthChangeCard

/-- THE TIED CARD OF 'annalslaw6.MthPath'. -/
def mthPathCard : Claim7 := { stood := { row := mthPathRow, standIns := [], harness := (true, "437f052e6590f114f92d1c2239e3ac63db4c7d8774b589e63af7d4e05c2f74e0"), looks := false }, kinds := [], alts := [], laidByText := true, laidKinds := [.data, .data, .data, .data], laidTests := true, laidLooks := .later }
def MthPathCardSaid : Prop := Claim7.holds Tryd.pinned (.plain (OpenSpec.ofChange mthPathSpec)) mthPathCard

/-- THE TIED CARD OF 'annalslaw6.MthNode'. -/
def mthNodeCard : Claim7 := { stood := { row := mthNodeRow, standIns := [], harness := (true, "437f052e6590f114f92d1c2239e3ac63db4c7d8774b589e63af7d4e05c2f74e0"), looks := false }, kinds := [], alts := [], laidByText := true, laidKinds := [.data, .data, .data, .data], laidTests := true, laidLooks := .later }
def MthNodeCardSaid : Prop := Claim7.holds Tryd.pinned (.plain (OpenSpec.ofChange mthNodeSpec)) mthNodeCard

/-- THE TIED CARD OF 'annalslaw6.MthSplit'. -/
def mthSplitCard : Claim7 := { stood := { row := mthSplitRow, standIns := [], harness := (true, "437f052e6590f114f92d1c2239e3ac63db4c7d8774b589e63af7d4e05c2f74e0"), looks := false }, kinds := [], alts := [], laidByText := true, laidKinds := [.data, .data], laidTests := true, laidLooks := .later }
def MthSplitCardSaid : Prop := Claim7.holds Tryd.pinned (.plain (OpenSpec.ofChange mthSplitSpec)) mthSplitCard

/-- THE TIED CARD OF 'annalslaw6.MthLeads'. -/
def mthLeadsCard : Claim7 := { stood := { row := mthLeadsRow, standIns := [], harness := (true, "437f052e6590f114f92d1c2239e3ac63db4c7d8774b589e63af7d4e05c2f74e0"), looks := false }, kinds := [], alts := [], laidByText := true, laidKinds := [.data, .data], laidTests := true, laidLooks := .later }
def MthLeadsCardSaid : Prop := Claim7.holds Tryd.pinned (.plain (OpenSpec.ofChange mthLeadsSpec)) mthLeadsCard

/-- THE TIED CARD OF 'annalslaw6.MthProof'. -/
def mthProofCard : Claim7 := { stood := { row := mthProofRow, standIns := [], harness := (true, "437f052e6590f114f92d1c2239e3ac63db4c7d8774b589e63af7d4e05c2f74e0"), looks := false }, kinds := [], alts := [], laidByText := true, laidKinds := [.data, .data, .data, .data], laidTests := true, laidLooks := .later }
def MthProofCardSaid : Prop := Claim7.holds Tryd.pinned (.plain (OpenSpec.ofChange mthProofSpec)) mthProofCard

/-- THE TIED CARD OF 'annalslaw6.MthGrows'. -/
def mthGrowsCard : Claim7 := { stood := { row := mthGrowsRow, standIns := [], harness := (true, "437f052e6590f114f92d1c2239e3ac63db4c7d8774b589e63af7d4e05c2f74e0"), looks := false }, kinds := [], alts := [], laidByText := true, laidKinds := [.data, .data], laidTests := true, laidLooks := .later }
def MthGrowsCardSaid : Prop := Claim7.holds Tryd.pinned (.plain (OpenSpec.ofChange mthGrowsSpec)) mthGrowsCard

/-- THE TIED CARD OF 'annalslaw6.MthLists'. -/
def mthListsCard : Claim7 := { stood := { row := mthListsRow, standIns := [], harness := (true, "437f052e6590f114f92d1c2239e3ac63db4c7d8774b589e63af7d4e05c2f74e0"), looks := false }, kinds := [], alts := [], laidByText := true, laidKinds := [.data, .data, .data, .data], laidTests := true, laidLooks := .later }
def MthListsCardSaid : Prop := Claim7.holds Tryd.pinned (.plain (OpenSpec.ofChange mthListsSpec)) mthListsCard

/-- THE TIED CARD OF 'annalslaw5.TreeFolds'. -/
def treeFoldsCard : Claim7 := { stood := { row := treeFoldsRow, standIns := [], harness := (true, "437f052e6590f114f92d1c2239e3ac63db4c7d8774b589e63af7d4e05c2f74e0"), looks := false }, kinds := [], alts := [], laidByText := true, laidKinds := [.data, .data], laidTests := true, laidLooks := .later }
def TreeFoldsCardSaid : Prop := Claim7.holds Tryd.pinned (.plain (OpenSpec.ofChange treeFoldsSpec)) treeFoldsCard

/-- THE SECOND FORM's CARD OF 'annalslaw5.TreeHashes'. -/
def treeHashesUptoCard : Claim7 := { stood := { row := treeHashesUptoRow, standIns := [], harness := (true, "437f052e6590f114f92d1c2239e3ac63db4c7d8774b589e63af7d4e05c2f74e0"), looks := false }, kinds := [], alts := [], laidByText := true, laidKinds := [.data, .data, .data, .data], laidTests := true, laidLooks := .later }
def TreeHashesUptoCardSaid : Prop := Claim7.holds Tryd.pinned (.plain (OpenSpec.upto treeHashesSpec)) treeHashesUptoCard

/-- THE SECOND FORM's CARD OF 'annalslaw5.TreeFold'. -/
def treeFoldUptoCard : Claim7 := { stood := { row := treeFoldUptoRow, standIns := [], harness := (true, "437f052e6590f114f92d1c2239e3ac63db4c7d8774b589e63af7d4e05c2f74e0"), looks := false }, kinds := [], alts := [], laidByText := true, laidKinds := [.data, .data, .data, .data], laidTests := true, laidLooks := .later }
def TreeFoldUptoCardSaid : Prop := Claim7.holds Tryd.pinned (.plain (OpenSpec.upto treeFoldSpec)) treeFoldUptoCard

/-- THE SECOND FORM's CARD OF 'annalslaw6.MthRoot'. -/
def mthRootUptoCard : Claim7 := { stood := { row := mthRootUptoRow, standIns := [], harness := (true, "437f052e6590f114f92d1c2239e3ac63db4c7d8774b589e63af7d4e05c2f74e0"), looks := false }, kinds := [], alts := [], laidByText := true, laidKinds := [.data, .data, .data, .data], laidTests := true, laidLooks := .later }
def MthRootUptoCardSaid : Prop := Claim7.holds Tryd.pinned (.plain (OpenSpec.upto mthRootSpec)) mthRootUptoCard

/-- THE SECOND FORM's CARD OF 'annalslaw6.MthChange'. -/
def mthChangeUptoCard : Claim7 := { stood := { row := mthChangeUptoRow, standIns := [], harness := (true, "437f052e6590f114f92d1c2239e3ac63db4c7d8774b589e63af7d4e05c2f74e0"), looks := false }, kinds := [], alts := [], laidByText := true, laidKinds := [.data, .data], laidTests := true, laidLooks := .later }
def MthChangeUptoCardSaid : Prop := Claim7.holds Tryd.pinned (.plain (OpenSpec.upto mthChangeSpec)) mthChangeUptoCard

/-- THE SECOND FORM's CARD OF 'annalslaw6.MthPath'. -/
def mthPathUptoCard : Claim7 := { stood := { row := mthPathUptoRow, standIns := [], harness := (true, "437f052e6590f114f92d1c2239e3ac63db4c7d8774b589e63af7d4e05c2f74e0"), looks := false }, kinds := [], alts := [], laidByText := true, laidKinds := [.data, .data, .data, .data], laidTests := true, laidLooks := .later }
def MthPathUptoCardSaid : Prop := Claim7.holds Tryd.pinned (.plain (OpenSpec.upto mthPathSpec)) mthPathUptoCard

/-- THE SECOND FORM's CARD OF 'annalslaw6.MthNode'. -/
def mthNodeUptoCard : Claim7 := { stood := { row := mthNodeUptoRow, standIns := [], harness := (true, "437f052e6590f114f92d1c2239e3ac63db4c7d8774b589e63af7d4e05c2f74e0"), looks := false }, kinds := [], alts := [], laidByText := true, laidKinds := [.data, .data, .data, .data], laidTests := true, laidLooks := .later }
def MthNodeUptoCardSaid : Prop := Claim7.holds Tryd.pinned (.plain (OpenSpec.upto mthNodeSpec)) mthNodeUptoCard

/-- THE SECOND FORM's CARD OF 'annalslaw6.MthSplit'. -/
def mthSplitUptoCard : Claim7 := { stood := { row := mthSplitUptoRow, standIns := [], harness := (true, "437f052e6590f114f92d1c2239e3ac63db4c7d8774b589e63af7d4e05c2f74e0"), looks := false }, kinds := [], alts := [], laidByText := true, laidKinds := [.data, .data], laidTests := true, laidLooks := .later }
def MthSplitUptoCardSaid : Prop := Claim7.holds Tryd.pinned (.plain (OpenSpec.upto mthSplitSpec)) mthSplitUptoCard

/-- THE SECOND FORM's CARD OF 'annalslaw6.MthLeads'. -/
def mthLeadsUptoCard : Claim7 := { stood := { row := mthLeadsUptoRow, standIns := [], harness := (true, "437f052e6590f114f92d1c2239e3ac63db4c7d8774b589e63af7d4e05c2f74e0"), looks := false }, kinds := [], alts := [], laidByText := true, laidKinds := [.data, .data], laidTests := true, laidLooks := .later }
def MthLeadsUptoCardSaid : Prop := Claim7.holds Tryd.pinned (.plain (OpenSpec.upto mthLeadsSpec)) mthLeadsUptoCard

/-- THE SECOND FORM's CARD OF 'annalslaw6.MthProof'. -/
def mthProofUptoCard : Claim7 := { stood := { row := mthProofUptoRow, standIns := [], harness := (true, "437f052e6590f114f92d1c2239e3ac63db4c7d8774b589e63af7d4e05c2f74e0"), looks := false }, kinds := [], alts := [], laidByText := true, laidKinds := [.data, .data, .data, .data], laidTests := true, laidLooks := .later }
def MthProofUptoCardSaid : Prop := Claim7.holds Tryd.pinned (.plain (OpenSpec.upto mthProofSpec)) mthProofUptoCard

/-- THE SECOND FORM's CARD OF 'annalslaw6.MthGrows'. -/
def mthGrowsUptoCard : Claim7 := { stood := { row := mthGrowsUptoRow, standIns := [], harness := (true, "437f052e6590f114f92d1c2239e3ac63db4c7d8774b589e63af7d4e05c2f74e0"), looks := false }, kinds := [], alts := [], laidByText := true, laidKinds := [.data, .data], laidTests := true, laidLooks := .later }
def MthGrowsUptoCardSaid : Prop := Claim7.holds Tryd.pinned (.plain (OpenSpec.upto mthGrowsSpec)) mthGrowsUptoCard

/-- THE SECOND FORM's CARD OF 'annalslaw6.MthLists'. -/
def mthListsUptoCard : Claim7 := { stood := { row := mthListsUptoRow, standIns := [], harness := (true, "437f052e6590f114f92d1c2239e3ac63db4c7d8774b589e63af7d4e05c2f74e0"), looks := false }, kinds := [], alts := [], laidByText := true, laidKinds := [.data, .data, .data, .data], laidTests := true, laidLooks := .later }
def MthListsUptoCardSaid : Prop := Claim7.holds Tryd.pinned (.plain (OpenSpec.upto mthListsSpec)) mthListsUptoCard

/-- THE SECOND FORM's CARD OF 'annalslaw5.TreeFolds'. -/
def treeFoldsUptoCard : Claim7 := { stood := { row := treeFoldsUptoRow, standIns := [], harness := (true, "437f052e6590f114f92d1c2239e3ac63db4c7d8774b589e63af7d4e05c2f74e0"), looks := false }, kinds := [], alts := [], laidByText := true, laidKinds := [.data, .data], laidTests := true, laidLooks := .later }
def TreeFoldsUptoCardSaid : Prop := Claim7.holds Tryd.pinned (.plain (OpenSpec.upto treeFoldsSpec)) treeFoldsUptoCard
end Rows
end Go.Proofs.YtcenfedmbicofaaDoor
