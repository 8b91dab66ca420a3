/-
  NARROWER THAN 'FOR EVERY INPUT', by the rows' own cells (each row's printed sentence says how): TreeHashes: laid · TreeFold: laid · MthRoot: laid · MthChange: laid · MthPath: laid · MthNode: laid · MthSplit: laid · MthLeads: laid · MthProof: laid · MthGrows: laid · MthLists: laid · TreeFolds: laid.
  DERIVED. THE GIVEN ROWS OF THIS SEAT. 12 by the template 'for every input the law returns true; each argument reads behind the call as it read before'; 0 by the template 'total and deterministic' (their statements: YtcenfedmbicofaaDoorTotals.lean).
  GIVEN WITH THE SEED: the statements are not yours to turn. If you find one false, say at which input.
  Laid BY PROGRAM, IN A SANDBOX (cutbox-rows.mjs): the forced cells as the released guide's own fill.sh prints them over the translation e8b9e9f688f7c8b5… (all of the seat's roots in one cut). By AI agents, Wed Nov 11 2026. No macro, syntax, notation, axiom, sorry.
-/
import Derived.Test.YtcenfedmbicofaaDoorChecked
import GoSem.Claim
import GoSem.ClaimJoined
import GoSem.ClaimMapViews
import Derived.JoinedTies
import Derived.KernelRfl
namespace Go.Proofs.YtcenfedmbicofaaDoor
/- THE CELL 'sum', in the pinned program and in every row, IS THE sha256 OF THE DUMP (.gsa) THAT YtcenfedmbicofaaDoorProg.lean LOADS. Nothing in Lean hashes anything: it is a label: what it is worth is what the hold of that sum in a sandbox is worth. -/
noncomputable def Tryd.pinned : Pinned := { name := "ytcenfedmbicofaadoor", sum := "e8b9e9f688f7c8b56b09aa399b57e3d1f37fbd378c54db4bf347ccf3b70ddd75", checked := Tryd.checked }
namespace Rows
def none {H : Type} : Left H := { results := [], args := [] }

/- WHAT THE LISTED PACKAGE-LEVEL VARIABLES READ AS WHEN THE CALL BEGINS. Each datum BY PROGRAM (the guide's laid-datum.mjs) off the statement by which the dump's own 'gosem.cut.vars' lays the variable. In a bare row this is a premise. The card (YtcenfedmbicofaaDoorCards.lean) ties it to the program's text. -/
def laid_annals_annalsref2_first {H : Type} : DataW H := .agg [.lit (.int .u32 1779033703), .lit (.int .u32 3144134277), .lit (.int .u32 1013904242), .lit (.int .u32 2773480762), .lit (.int .u32 1359893119), .lit (.int .u32 2600822924), .lit (.int .u32 528734635), .lit (.int .u32 1541459225)]
def laid_annals_annalsref2_table {H : Type} : DataW H := .agg [.lit (.int .u32 1116352408), .lit (.int .u32 1899447441), .lit (.int .u32 3049323471), .lit (.int .u32 3921009573), .lit (.int .u32 961987163), .lit (.int .u32 1508970993), .lit (.int .u32 2453635748), .lit (.int .u32 2870763221), .lit (.int .u32 3624381080), .lit (.int .u32 310598401), .lit (.int .u32 607225278), .lit (.int .u32 1426881987), .lit (.int .u32 1925078388), .lit (.int .u32 2162078206), .lit (.int .u32 2614888103), .lit (.int .u32 3248222580), .lit (.int .u32 3835390401), .lit (.int .u32 4022224774), .lit (.int .u32 264347078), .lit (.int .u32 604807628), .lit (.int .u32 770255983), .lit (.int .u32 1249150122), .lit (.int .u32 1555081692), .lit (.int .u32 1996064986), .lit (.int .u32 2554220882), .lit (.int .u32 2821834349), .lit (.int .u32 2952996808), .lit (.int .u32 3210313671), .lit (.int .u32 3336571891), .lit (.int .u32 3584528711), .lit (.int .u32 113926993), .lit (.int .u32 338241895), .lit (.int .u32 666307205), .lit (.int .u32 773529912), .lit (.int .u32 1294757372), .lit (.int .u32 1396182291), .lit (.int .u32 1695183700), .lit (.int .u32 1986661051), .lit (.int .u32 2177026350), .lit (.int .u32 2456956037), .lit (.int .u32 2730485921), .lit (.int .u32 2820302411), .lit (.int .u32 3259730800), .lit (.int .u32 3345764771), .lit (.int .u32 3516065817), .lit (.int .u32 3600352804), .lit (.int .u32 4094571909), .lit (.int .u32 275423344), .lit (.int .u32 430227734), .lit (.int .u32 506948616), .lit (.int .u32 659060556), .lit (.int .u32 883997877), .lit (.int .u32 958139571), .lit (.int .u32 1322822218), .lit (.int .u32 1537002063), .lit (.int .u32 1747873779), .lit (.int .u32 1955562222), .lit (.int .u32 2024104815), .lit (.int .u32 2227730452), .lit (.int .u32 2361852424), .lit (.int .u32 2428436474), .lit (.int .u32 2756734187), .lit (.int .u32 3204031479), .lit (.int .u32 3329325298)]
def laid_annals_sha_begin {H : Type} : DataW H := .agg [.lit (.int .u32 1779033703), .lit (.int .u32 3144134277), .lit (.int .u32 1013904242), .lit (.int .u32 2773480762), .lit (.int .u32 1359893119), .lit (.int .u32 2600822924), .lit (.int .u32 528734635), .lit (.int .u32 1541459225)]
def laid_annals_sha_table {H : Type} : DataW H := .agg [.lit (.int .u32 1116352408), .lit (.int .u32 1899447441), .lit (.int .u32 3049323471), .lit (.int .u32 3921009573), .lit (.int .u32 961987163), .lit (.int .u32 1508970993), .lit (.int .u32 2453635748), .lit (.int .u32 2870763221), .lit (.int .u32 3624381080), .lit (.int .u32 310598401), .lit (.int .u32 607225278), .lit (.int .u32 1426881987), .lit (.int .u32 1925078388), .lit (.int .u32 2162078206), .lit (.int .u32 2614888103), .lit (.int .u32 3248222580), .lit (.int .u32 3835390401), .lit (.int .u32 4022224774), .lit (.int .u32 264347078), .lit (.int .u32 604807628), .lit (.int .u32 770255983), .lit (.int .u32 1249150122), .lit (.int .u32 1555081692), .lit (.int .u32 1996064986), .lit (.int .u32 2554220882), .lit (.int .u32 2821834349), .lit (.int .u32 2952996808), .lit (.int .u32 3210313671), .lit (.int .u32 3336571891), .lit (.int .u32 3584528711), .lit (.int .u32 113926993), .lit (.int .u32 338241895), .lit (.int .u32 666307205), .lit (.int .u32 773529912), .lit (.int .u32 1294757372), .lit (.int .u32 1396182291), .lit (.int .u32 1695183700), .lit (.int .u32 1986661051), .lit (.int .u32 2177026350), .lit (.int .u32 2456956037), .lit (.int .u32 2730485921), .lit (.int .u32 2820302411), .lit (.int .u32 3259730800), .lit (.int .u32 3345764771), .lit (.int .u32 3516065817), .lit (.int .u32 3600352804), .lit (.int .u32 4094571909), .lit (.int .u32 275423344), .lit (.int .u32 430227734), .lit (.int .u32 506948616), .lit (.int .u32 659060556), .lit (.int .u32 883997877), .lit (.int .u32 958139571), .lit (.int .u32 1322822218), .lit (.int .u32 1537002063), .lit (.int .u32 1747873779), .lit (.int .u32 1955562222), .lit (.int .u32 2024104815), .lit (.int .u32 2227730452), .lit (.int .u32 2361852424), .lit (.int .u32 2428436474), .lit (.int .u32 2756734187), .lit (.int .u32 3204031479), .lit (.int .u32 3329325298)]

/-- 'annalslaw5.TreeHashes': WHATEVER THE INPUT: true; the input reads as it did. -/
def treeHashesSpec : ChangeSpec := { name := "treeHashes", fn := fun _ => fun
  | [d1, d2, d3, d4] => { results := [.lit (.bool true)], args := [d1, d2, d3, d4] }
  | _ => none }
def treeHashesRow : OpenClaim := { program := "ytcenfedmbicofaadoor", sum := "e8b9e9f688f7c8b56b09aa399b57e3d1f37fbd378c54db4bf347ccf3b70ddd75", func := "annals/annalslaw5.TreeHashes", spec := "treeHashes", inPlace := ["internal/abi.NoEscape", "internal/bytealg.MakeNoZero"], unfollowed := true, recurses := true, named := ["annals/sha.begin", "annals/sha.table", "annals/annalsref2.first", "annals/annalsref2.table"], apart := false, laid := [("annals/annalsref2.first", laid_annals_annalsref2_first), ("annals/annalsref2.table", laid_annals_annalsref2_table), ("annals/sha.begin", laid_annals_sha_begin), ("annals/sha.table", laid_annals_sha_table)] }
def TreeHashesSaid : Prop := treeHashesRow.holds Tryd.pinned (OpenSpec.ofChange treeHashesSpec)

/-- ITS FALSE NEIGHBOUR: 'it returns false'. Refute it at one input. -/
def treeHashesWrong : ChangeSpec := { name := "treeHashes", fn := fun _ => fun
  | [d1, d2, d3, d4] => { results := [.lit (.bool false)], args := [d1, d2, d3, d4] }
  | _ => none }
def TreeHashesWrongFalsely : Prop := treeHashesRow.holds Tryd.pinned (OpenSpec.ofChange treeHashesWrong)

/-- 'annalslaw5.TreeFold': WHATEVER THE INPUT: true; the input reads as it did. -/
def treeFoldSpec : ChangeSpec := { name := "treeFold", fn := fun _ => fun
  | [d1, d2] => { results := [.lit (.bool true)], args := [d1, d2] }
  | _ => none }
def treeFoldRow : OpenClaim := { program := "ytcenfedmbicofaadoor", sum := "e8b9e9f688f7c8b56b09aa399b57e3d1f37fbd378c54db4bf347ccf3b70ddd75", func := "annals/annalslaw5.TreeFold", spec := "treeFold", inPlace := ["internal/abi.NoEscape", "internal/bytealg.MakeNoZero"], unfollowed := true, recurses := true, named := ["annals/sha.begin", "annals/sha.table", "annals/annalsref2.first", "annals/annalsref2.table"], apart := false, laid := [("annals/annalsref2.first", laid_annals_annalsref2_first), ("annals/annalsref2.table", laid_annals_annalsref2_table), ("annals/sha.begin", laid_annals_sha_begin), ("annals/sha.table", laid_annals_sha_table)] }
def TreeFoldSaid : Prop := treeFoldRow.holds Tryd.pinned (OpenSpec.ofChange treeFoldSpec)

/-- ITS FALSE NEIGHBOUR: 'it returns false'. Refute it at one input. -/
def treeFoldWrong : ChangeSpec := { name := "treeFold", fn := fun _ => fun
  | [d1, d2] => { results := [.lit (.bool false)], args := [d1, d2] }
  | _ => none }
def TreeFoldWrongFalsely : Prop := treeFoldRow.holds Tryd.pinned (OpenSpec.ofChange treeFoldWrong)

/-- 'annalslaw6.MthRoot': WHATEVER THE INPUT: true; the input reads as it did. -/
def mthRootSpec : ChangeSpec := { name := "mthRoot", fn := fun _ => fun
  | [d1, d2] => { results := [.lit (.bool true)], args := [d1, d2] }
  | _ => none }
def mthRootRow : OpenClaim := { program := "ytcenfedmbicofaadoor", sum := "e8b9e9f688f7c8b56b09aa399b57e3d1f37fbd378c54db4bf347ccf3b70ddd75", func := "annals/annalslaw6.MthRoot", spec := "mthRoot", inPlace := ["internal/abi.NoEscape", "internal/bytealg.MakeNoZero"], unfollowed := true, recurses := true, named := ["annals/sha.begin", "annals/sha.table", "annals/annalsref2.first", "annals/annalsref2.table"], apart := false, laid := [("annals/annalsref2.first", laid_annals_annalsref2_first), ("annals/annalsref2.table", laid_annals_annalsref2_table), ("annals/sha.begin", laid_annals_sha_begin), ("annals/sha.table", laid_annals_sha_table)] }
def MthRootSaid : Prop := mthRootRow.holds Tryd.pinned (OpenSpec.ofChange mthRootSpec)

/-- ITS FALSE NEIGHBOUR: 'it returns false'. Refute it at one input. -/
def mthRootWrong : ChangeSpec := { name := "mthRoot", fn := fun _ => fun
  | [d1, d2] => { results := [.lit (.bool false)], args := [d1, d2] }
  | _ => none }
def MthRootWrongFalsely : Prop := mthRootRow.holds Tryd.pinned (OpenSpec.ofChange mthRootWrong)

/-- 'annalslaw6.MthChange': WHATEVER THE INPUT: true; the input reads as it did. -/
def mthChangeSpec : ChangeSpec := { name := "mthChange", fn := fun _ => fun
  | [d1, d2, d3, d4] => { results := [.lit (.bool true)], args := [d1, d2, d3, d4] }
  | _ => none }
def mthChangeRow : OpenClaim := { program := "ytcenfedmbicofaadoor", sum := "e8b9e9f688f7c8b56b09aa399b57e3d1f37fbd378c54db4bf347ccf3b70ddd75", func := "annals/annalslaw6.MthChange", spec := "mthChange", inPlace := ["internal/abi.NoEscape", "internal/bytealg.MakeNoZero"], unfollowed := true, recurses := true, named := ["annals/sha.begin", "annals/sha.table"], apart := false, laid := [("annals/sha.begin", laid_annals_sha_begin), ("annals/sha.table", laid_annals_sha_table)] }
def MthChangeSaid : Prop := mthChangeRow.holds Tryd.pinned (OpenSpec.ofChange mthChangeSpec)

/-- ITS FALSE NEIGHBOUR: 'it returns false'. Refute it at one input. -/
def mthChangeWrong : ChangeSpec := { name := "mthChange", fn := fun _ => fun
  | [d1, d2, d3, d4] => { results := [.lit (.bool false)], args := [d1, d2, d3, d4] }
  | _ => none }
def MthChangeWrongFalsely : Prop := mthChangeRow.holds Tryd.pinned (OpenSpec.ofChange mthChangeWrong)

/-- 'annalslaw6.MthPath': WHATEVER THE INPUT: true; the input reads as it did. -/
def mthPathSpec : ChangeSpec := { name := "mthPath", fn := fun _ => fun
  | [d1, d2, d3] => { results := [.lit (.bool true)], args := [d1, d2, d3] }
  | _ => none }
def mthPathRow : OpenClaim := { program := "ytcenfedmbicofaadoor", sum := "e8b9e9f688f7c8b56b09aa399b57e3d1f37fbd378c54db4bf347ccf3b70ddd75", func := "annals/annalslaw6.MthPath", spec := "mthPath", inPlace := ["internal/abi.NoEscape", "internal/bytealg.MakeNoZero"], unfollowed := true, recurses := true, named := ["annals/sha.begin", "annals/sha.table", "annals/annalsref2.first", "annals/annalsref2.table"], apart := false, laid := [("annals/annalsref2.first", laid_annals_annalsref2_first), ("annals/annalsref2.table", laid_annals_annalsref2_table), ("annals/sha.begin", laid_annals_sha_begin), ("annals/sha.table", laid_annals_sha_table)] }
def MthPathSaid : Prop := mthPathRow.holds Tryd.pinned (OpenSpec.ofChange mthPathSpec)

/-- ITS FALSE NEIGHBOUR: 'it returns false'. Refute it at one input. -/
def mthPathWrong : ChangeSpec := { name := "mthPath", fn := fun _ => fun
  | [d1, d2, d3] => { results := [.lit (.bool false)], args := [d1, d2, d3] }
  | _ => none }
def MthPathWrongFalsely : Prop := mthPathRow.holds Tryd.pinned (OpenSpec.ofChange mthPathWrong)

/-- 'annalslaw6.MthNode': WHATEVER THE INPUT: true; the input reads as it did. -/
def mthNodeSpec : ChangeSpec := { name := "mthNode", fn := fun _ => fun
  | [d1, d2, d3] => { results := [.lit (.bool true)], args := [d1, d2, d3] }
  | _ => none }
def mthNodeRow : OpenClaim := { program := "ytcenfedmbicofaadoor", sum := "e8b9e9f688f7c8b56b09aa399b57e3d1f37fbd378c54db4bf347ccf3b70ddd75", func := "annals/annalslaw6.MthNode", spec := "mthNode", inPlace := ["internal/abi.NoEscape", "internal/bytealg.MakeNoZero"], unfollowed := true, recurses := true, named := ["annals/sha.begin", "annals/sha.table", "annals/annalsref2.first", "annals/annalsref2.table"], apart := false, laid := [("annals/annalsref2.first", laid_annals_annalsref2_first), ("annals/annalsref2.table", laid_annals_annalsref2_table), ("annals/sha.begin", laid_annals_sha_begin), ("annals/sha.table", laid_annals_sha_table)] }
def MthNodeSaid : Prop := mthNodeRow.holds Tryd.pinned (OpenSpec.ofChange mthNodeSpec)

/-- ITS FALSE NEIGHBOUR: 'it returns false'. Refute it at one input. -/
def mthNodeWrong : ChangeSpec := { name := "mthNode", fn := fun _ => fun
  | [d1, d2, d3] => { results := [.lit (.bool false)], args := [d1, d2, d3] }
  | _ => none }
def MthNodeWrongFalsely : Prop := mthNodeRow.holds Tryd.pinned (OpenSpec.ofChange mthNodeWrong)

/-- 'annalslaw6.MthSplit': WHATEVER THE INPUT: true; the input reads as it did. -/
def mthSplitSpec : ChangeSpec := { name := "mthSplit", fn := fun _ => fun
  | [d1, d2, d3] => { results := [.lit (.bool true)], args := [d1, d2, d3] }
  | _ => none }
def mthSplitRow : OpenClaim := { program := "ytcenfedmbicofaadoor", sum := "e8b9e9f688f7c8b56b09aa399b57e3d1f37fbd378c54db4bf347ccf3b70ddd75", func := "annals/annalslaw6.MthSplit", spec := "mthSplit", inPlace := ["internal/abi.NoEscape", "internal/bytealg.MakeNoZero"], unfollowed := true, recurses := true, named := ["annals/sha.begin", "annals/sha.table"], apart := false, laid := [("annals/sha.begin", laid_annals_sha_begin), ("annals/sha.table", laid_annals_sha_table)] }
def MthSplitSaid : Prop := mthSplitRow.holds Tryd.pinned (OpenSpec.ofChange mthSplitSpec)

/-- ITS FALSE NEIGHBOUR: 'it returns false'. Refute it at one input. -/
def mthSplitWrong : ChangeSpec := { name := "mthSplit", fn := fun _ => fun
  | [d1, d2, d3] => { results := [.lit (.bool false)], args := [d1, d2, d3] }
  | _ => none }
def MthSplitWrongFalsely : Prop := mthSplitRow.holds Tryd.pinned (OpenSpec.ofChange mthSplitWrong)

/-- 'annalslaw6.MthLeads': WHATEVER THE INPUT: true; the input reads as it did. -/
def mthLeadsSpec : ChangeSpec := { name := "mthLeads", fn := fun _ => fun
  | [d1, d2, d3] => { results := [.lit (.bool true)], args := [d1, d2, d3] }
  | _ => none }
def mthLeadsRow : OpenClaim := { program := "ytcenfedmbicofaadoor", sum := "e8b9e9f688f7c8b56b09aa399b57e3d1f37fbd378c54db4bf347ccf3b70ddd75", func := "annals/annalslaw6.MthLeads", spec := "mthLeads", inPlace := ["internal/abi.NoEscape", "internal/bytealg.MakeNoZero"], unfollowed := true, recurses := true, named := ["annals/sha.begin", "annals/sha.table"], apart := false, laid := [("annals/sha.begin", laid_annals_sha_begin), ("annals/sha.table", laid_annals_sha_table)] }
def MthLeadsSaid : Prop := mthLeadsRow.holds Tryd.pinned (OpenSpec.ofChange mthLeadsSpec)

/-- ITS FALSE NEIGHBOUR: 'it returns false'. Refute it at one input. -/
def mthLeadsWrong : ChangeSpec := { name := "mthLeads", fn := fun _ => fun
  | [d1, d2, d3] => { results := [.lit (.bool false)], args := [d1, d2, d3] }
  | _ => none }
def MthLeadsWrongFalsely : Prop := mthLeadsRow.holds Tryd.pinned (OpenSpec.ofChange mthLeadsWrong)

/-- 'annalslaw6.MthProof': WHATEVER THE INPUT: true; the input reads as it did. -/
def mthProofSpec : ChangeSpec := { name := "mthProof", fn := fun _ => fun
  | [d1, d2, d3] => { results := [.lit (.bool true)], args := [d1, d2, d3] }
  | _ => none }
def mthProofRow : OpenClaim := { program := "ytcenfedmbicofaadoor", sum := "e8b9e9f688f7c8b56b09aa399b57e3d1f37fbd378c54db4bf347ccf3b70ddd75", func := "annals/annalslaw6.MthProof", spec := "mthProof", inPlace := ["internal/abi.NoEscape", "internal/bytealg.MakeNoZero"], unfollowed := true, recurses := true, named := ["annals/sha.begin", "annals/sha.table", "annals/annalsref2.first", "annals/annalsref2.table"], apart := false, laid := [("annals/annalsref2.first", laid_annals_annalsref2_first), ("annals/annalsref2.table", laid_annals_annalsref2_table), ("annals/sha.begin", laid_annals_sha_begin), ("annals/sha.table", laid_annals_sha_table)] }
def MthProofSaid : Prop := mthProofRow.holds Tryd.pinned (OpenSpec.ofChange mthProofSpec)

/-- ITS FALSE NEIGHBOUR: 'it returns false'. Refute it at one input. -/
def mthProofWrong : ChangeSpec := { name := "mthProof", fn := fun _ => fun
  | [d1, d2, d3] => { results := [.lit (.bool false)], args := [d1, d2, d3] }
  | _ => none }
def MthProofWrongFalsely : Prop := mthProofRow.holds Tryd.pinned (OpenSpec.ofChange mthProofWrong)

/-- 'annalslaw6.MthGrows': WHATEVER THE INPUT: true; the input reads as it did. -/
def mthGrowsSpec : ChangeSpec := { name := "mthGrows", fn := fun _ => fun
  | [d1, d2, d3] => { results := [.lit (.bool true)], args := [d1, d2, d3] }
  | _ => none }
def mthGrowsRow : OpenClaim := { program := "ytcenfedmbicofaadoor", sum := "e8b9e9f688f7c8b56b09aa399b57e3d1f37fbd378c54db4bf347ccf3b70ddd75", func := "annals/annalslaw6.MthGrows", spec := "mthGrows", inPlace := ["internal/abi.NoEscape", "internal/bytealg.MakeNoZero"], unfollowed := true, recurses := true, named := ["annals/sha.begin", "annals/sha.table"], apart := false, laid := [("annals/sha.begin", laid_annals_sha_begin), ("annals/sha.table", laid_annals_sha_table)] }
def MthGrowsSaid : Prop := mthGrowsRow.holds Tryd.pinned (OpenSpec.ofChange mthGrowsSpec)

/-- ITS FALSE NEIGHBOUR: 'it returns false'. Refute it at one input. -/
def mthGrowsWrong : ChangeSpec := { name := "mthGrows", fn := fun _ => fun
  | [d1, d2, d3] => { results := [.lit (.bool false)], args := [d1, d2, d3] }
  | _ => none }
def MthGrowsWrongFalsely : Prop := mthGrowsRow.holds Tryd.pinned (OpenSpec.ofChange mthGrowsWrong)

/-- 'annalslaw6.MthLists': WHATEVER THE INPUT: true; the input reads as it did. -/
def mthListsSpec : ChangeSpec := { name := "mthLists", fn := fun _ => fun
  | [d1, d2, d3, d4] => { results := [.lit (.bool true)], args := [d1, d2, d3, d4] }
  | _ => none }
def mthListsRow : OpenClaim := { program := "ytcenfedmbicofaadoor", sum := "e8b9e9f688f7c8b56b09aa399b57e3d1f37fbd378c54db4bf347ccf3b70ddd75", func := "annals/annalslaw6.MthLists", spec := "mthLists", inPlace := ["internal/abi.NoEscape", "internal/bytealg.MakeNoZero"], unfollowed := true, recurses := true, named := ["annals/annalsref2.first", "annals/annalsref2.table", "annals/sha.begin", "annals/sha.table"], apart := false, laid := [("annals/annalsref2.first", laid_annals_annalsref2_first), ("annals/annalsref2.table", laid_annals_annalsref2_table), ("annals/sha.begin", laid_annals_sha_begin), ("annals/sha.table", laid_annals_sha_table)] }
def MthListsSaid : Prop := mthListsRow.holds Tryd.pinned (OpenSpec.ofChange mthListsSpec)

/-- ITS FALSE NEIGHBOUR: 'it returns false'. Refute it at one input. -/
def mthListsWrong : ChangeSpec := { name := "mthLists", fn := fun _ => fun
  | [d1, d2, d3, d4] => { results := [.lit (.bool false)], args := [d1, d2, d3, d4] }
  | _ => none }
def MthListsWrongFalsely : Prop := mthListsRow.holds Tryd.pinned (OpenSpec.ofChange mthListsWrong)

/-- 'annalslaw5.TreeFolds': WHATEVER THE INPUT: true; the input reads as it did. -/
def treeFoldsSpec : ChangeSpec := { name := "treeFolds", fn := fun _ => fun
  | [d1, d2] => { results := [.lit (.bool true)], args := [d1, d2] }
  | _ => none }
def treeFoldsRow : OpenClaim := { program := "ytcenfedmbicofaadoor", sum := "e8b9e9f688f7c8b56b09aa399b57e3d1f37fbd378c54db4bf347ccf3b70ddd75", func := "annals/annalslaw5.TreeFolds", spec := "treeFolds", inPlace := ["internal/abi.NoEscape", "internal/bytealg.MakeNoZero"], unfollowed := true, recurses := true, named := ["annals/sha.begin", "annals/sha.table"], apart := false, laid := [("annals/sha.begin", laid_annals_sha_begin), ("annals/sha.table", laid_annals_sha_table)] }
def TreeFoldsSaid : Prop := treeFoldsRow.holds Tryd.pinned (OpenSpec.ofChange treeFoldsSpec)

/-- ITS FALSE NEIGHBOUR: 'it returns false'. Refute it at one input. -/
def treeFoldsWrong : ChangeSpec := { name := "treeFolds", fn := fun _ => fun
  | [d1, d2] => { results := [.lit (.bool false)], args := [d1, d2] }
  | _ => none }
def TreeFoldsWrongFalsely : Prop := treeFoldsRow.holds Tryd.pinned (OpenSpec.ofChange treeFoldsWrong)

/- THE SECOND FORM. 'bulk': how many values and letters a reading holds, each counted each time it is reached (what is shared counts as often as it is met; a slice's spare places count too). A statement '..UptoSaid' is the law's where the arguments, and the package variables that the reading takes, are together of bulk at most 1048576: NARROWER than '..Said'. Prove '..Said' where nothing that the law and all that it calls make is longer than what came in: it says more and counts as full. Else prove '..UptoSaid'. A law counts once. -/
mutual
def uptoBulk {H : Type} : DataW H → Nat
  | .lit (.string bytes) => bytes.length + 1
  | .lit _ => 1
  | .nil => 1
  | .ptr d => uptoBulk d + 1
  | .slice elems spare => uptoBulkAll elems + uptoBulkAll spare + 1
  | .agg parts => uptoBulkAll parts + 1
  | .iface _ d => uptoBulk d + 1
  | .map entries => uptoBulkEntries entries + 1
  | .held _ => 1
def uptoBulkAll {H : Type} : List (DataW H) → Nat
  | [] => 0
  | d :: r => uptoBulk d + uptoBulkAll r
def uptoBulkEntries {H : Type} : List (Lit × DataW H) → Nat
  | [] => 0
  | x :: r => uptoBulkEntry x + uptoBulkEntries r
def uptoBulkEntry {H : Type} : Lit × DataW H → Nat
  | (.string bytes, d) => bytes.length + uptoBulk d + 1
  | (_, d) => uptoBulk d + 1
 end
def uptoSmall : (H : Type) → List (DataW H) → Bool := fun _ ds => decide (uptoBulkAll ds ≤ 1048576)
def OpenSpec.upto (s : _root_.Go.ChangeSpec) : _root_.Go.OpenSpec := { _root_.Go.OpenSpec.ofChange s with cond := some uptoSmall }

/-- 'annalslaw5.TreeHashes', WHERE WHAT IT READS IS OF BULK AT MOST 1048576: true; the input reads as it did. -/
def treeHashesUptoRow : OpenClaim := { program := "ytcenfedmbicofaadoor", sum := "e8b9e9f688f7c8b56b09aa399b57e3d1f37fbd378c54db4bf347ccf3b70ddd75", func := "annals/annalslaw5.TreeHashes", spec := "treeHashes", inPlace := ["internal/abi.NoEscape", "internal/bytealg.MakeNoZero"], unfollowed := true, recurses := true, named := ["annals/sha.begin", "annals/sha.table", "annals/annalsref2.first", "annals/annalsref2.table"], apart := false, laid := [("annals/annalsref2.first", laid_annals_annalsref2_first), ("annals/annalsref2.table", laid_annals_annalsref2_table), ("annals/sha.begin", laid_annals_sha_begin), ("annals/sha.table", laid_annals_sha_table)], narrowed := true }
def TreeHashesUptoSaid : Prop := treeHashesUptoRow.holds Tryd.pinned (OpenSpec.upto treeHashesSpec)

/-- 'annalslaw5.TreeFold', WHERE WHAT IT READS IS OF BULK AT MOST 1048576: true; the input reads as it did. -/
def treeFoldUptoRow : OpenClaim := { program := "ytcenfedmbicofaadoor", sum := "e8b9e9f688f7c8b56b09aa399b57e3d1f37fbd378c54db4bf347ccf3b70ddd75", func := "annals/annalslaw5.TreeFold", spec := "treeFold", inPlace := ["internal/abi.NoEscape", "internal/bytealg.MakeNoZero"], unfollowed := true, recurses := true, named := ["annals/sha.begin", "annals/sha.table", "annals/annalsref2.first", "annals/annalsref2.table"], apart := false, laid := [("annals/annalsref2.first", laid_annals_annalsref2_first), ("annals/annalsref2.table", laid_annals_annalsref2_table), ("annals/sha.begin", laid_annals_sha_begin), ("annals/sha.table", laid_annals_sha_table)], narrowed := true }
def TreeFoldUptoSaid : Prop := treeFoldUptoRow.holds Tryd.pinned (OpenSpec.upto treeFoldSpec)

/-- 'annalslaw6.MthRoot', WHERE WHAT IT READS IS OF BULK AT MOST 1048576: true; the input reads as it did. -/
def mthRootUptoRow : OpenClaim := { program := "ytcenfedmbicofaadoor", sum := "e8b9e9f688f7c8b56b09aa399b57e3d1f37fbd378c54db4bf347ccf3b70ddd75", func := "annals/annalslaw6.MthRoot", spec := "mthRoot", inPlace := ["internal/abi.NoEscape", "internal/bytealg.MakeNoZero"], unfollowed := true, recurses := true, named := ["annals/sha.begin", "annals/sha.table", "annals/annalsref2.first", "annals/annalsref2.table"], apart := false, laid := [("annals/annalsref2.first", laid_annals_annalsref2_first), ("annals/annalsref2.table", laid_annals_annalsref2_table), ("annals/sha.begin", laid_annals_sha_begin), ("annals/sha.table", laid_annals_sha_table)], narrowed := true }
def MthRootUptoSaid : Prop := mthRootUptoRow.holds Tryd.pinned (OpenSpec.upto mthRootSpec)

/-- 'annalslaw6.MthChange', WHERE WHAT IT READS IS OF BULK AT MOST 1048576: true; the input reads as it did. -/
def mthChangeUptoRow : OpenClaim := { program := "ytcenfedmbicofaadoor", sum := "e8b9e9f688f7c8b56b09aa399b57e3d1f37fbd378c54db4bf347ccf3b70ddd75", func := "annals/annalslaw6.MthChange", spec := "mthChange", inPlace := ["internal/abi.NoEscape", "internal/bytealg.MakeNoZero"], unfollowed := true, recurses := true, named := ["annals/sha.begin", "annals/sha.table"], apart := false, laid := [("annals/sha.begin", laid_annals_sha_begin), ("annals/sha.table", laid_annals_sha_table)], narrowed := true }
def MthChangeUptoSaid : Prop := mthChangeUptoRow.holds Tryd.pinned (OpenSpec.upto mthChangeSpec)

/-- 'annalslaw6.MthPath', WHERE WHAT IT READS IS OF BULK AT MOST 1048576: true; the input reads as it did. -/
def mthPathUptoRow : OpenClaim := { program := "ytcenfedmbicofaadoor", sum := "e8b9e9f688f7c8b56b09aa399b57e3d1f37fbd378c54db4bf347ccf3b70ddd75", func := "annals/annalslaw6.MthPath", spec := "mthPath", inPlace := ["internal/abi.NoEscape", "internal/bytealg.MakeNoZero"], unfollowed := true, recurses := true, named := ["annals/sha.begin", "annals/sha.table", "annals/annalsref2.first", "annals/annalsref2.table"], apart := false, laid := [("annals/annalsref2.first", laid_annals_annalsref2_first), ("annals/annalsref2.table", laid_annals_annalsref2_table), ("annals/sha.begin", laid_annals_sha_begin), ("annals/sha.table", laid_annals_sha_table)], narrowed := true }
def MthPathUptoSaid : Prop := mthPathUptoRow.holds Tryd.pinned (OpenSpec.upto mthPathSpec)

/-- 'annalslaw6.MthNode', WHERE WHAT IT READS IS OF BULK AT MOST 1048576: true; the input reads as it did. -/
def mthNodeUptoRow : OpenClaim := { program := "ytcenfedmbicofaadoor", sum := "e8b9e9f688f7c8b56b09aa399b57e3d1f37fbd378c54db4bf347ccf3b70ddd75", func := "annals/annalslaw6.MthNode", spec := "mthNode", inPlace := ["internal/abi.NoEscape", "internal/bytealg.MakeNoZero"], unfollowed := true, recurses := true, named := ["annals/sha.begin", "annals/sha.table", "annals/annalsref2.first", "annals/annalsref2.table"], apart := false, laid := [("annals/annalsref2.first", laid_annals_annalsref2_first), ("annals/annalsref2.table", laid_annals_annalsref2_table), ("annals/sha.begin", laid_annals_sha_begin), ("annals/sha.table", laid_annals_sha_table)], narrowed := true }
def MthNodeUptoSaid : Prop := mthNodeUptoRow.holds Tryd.pinned (OpenSpec.upto mthNodeSpec)

/-- 'annalslaw6.MthSplit', WHERE WHAT IT READS IS OF BULK AT MOST 1048576: true; the input reads as it did. -/
def mthSplitUptoRow : OpenClaim := { program := "ytcenfedmbicofaadoor", sum := "e8b9e9f688f7c8b56b09aa399b57e3d1f37fbd378c54db4bf347ccf3b70ddd75", func := "annals/annalslaw6.MthSplit", spec := "mthSplit", inPlace := ["internal/abi.NoEscape", "internal/bytealg.MakeNoZero"], unfollowed := true, recurses := true, named := ["annals/sha.begin", "annals/sha.table"], apart := false, laid := [("annals/sha.begin", laid_annals_sha_begin), ("annals/sha.table", laid_annals_sha_table)], narrowed := true }
def MthSplitUptoSaid : Prop := mthSplitUptoRow.holds Tryd.pinned (OpenSpec.upto mthSplitSpec)

/-- 'annalslaw6.MthLeads', WHERE WHAT IT READS IS OF BULK AT MOST 1048576: true; the input reads as it did. -/
def mthLeadsUptoRow : OpenClaim := { program := "ytcenfedmbicofaadoor", sum := "e8b9e9f688f7c8b56b09aa399b57e3d1f37fbd378c54db4bf347ccf3b70ddd75", func := "annals/annalslaw6.MthLeads", spec := "mthLeads", inPlace := ["internal/abi.NoEscape", "internal/bytealg.MakeNoZero"], unfollowed := true, recurses := true, named := ["annals/sha.begin", "annals/sha.table"], apart := false, laid := [("annals/sha.begin", laid_annals_sha_begin), ("annals/sha.table", laid_annals_sha_table)], narrowed := true }
def MthLeadsUptoSaid : Prop := mthLeadsUptoRow.holds Tryd.pinned (OpenSpec.upto mthLeadsSpec)

/-- 'annalslaw6.MthProof', WHERE WHAT IT READS IS OF BULK AT MOST 1048576: true; the input reads as it did. -/
def mthProofUptoRow : OpenClaim := { program := "ytcenfedmbicofaadoor", sum := "e8b9e9f688f7c8b56b09aa399b57e3d1f37fbd378c54db4bf347ccf3b70ddd75", func := "annals/annalslaw6.MthProof", spec := "mthProof", inPlace := ["internal/abi.NoEscape", "internal/bytealg.MakeNoZero"], unfollowed := true, recurses := true, named := ["annals/sha.begin", "annals/sha.table", "annals/annalsref2.first", "annals/annalsref2.table"], apart := false, laid := [("annals/annalsref2.first", laid_annals_annalsref2_first), ("annals/annalsref2.table", laid_annals_annalsref2_table), ("annals/sha.begin", laid_annals_sha_begin), ("annals/sha.table", laid_annals_sha_table)], narrowed := true }
def MthProofUptoSaid : Prop := mthProofUptoRow.holds Tryd.pinned (OpenSpec.upto mthProofSpec)

/-- 'annalslaw6.MthGrows', WHERE WHAT IT READS IS OF BULK AT MOST 1048576: true; the input reads as it did. -/
def mthGrowsUptoRow : OpenClaim := { program := "ytcenfedmbicofaadoor", sum := "e8b9e9f688f7c8b56b09aa399b57e3d1f37fbd378c54db4bf347ccf3b70ddd75", func := "annals/annalslaw6.MthGrows", spec := "mthGrows", inPlace := ["internal/abi.NoEscape", "internal/bytealg.MakeNoZero"], unfollowed := true, recurses := true, named := ["annals/sha.begin", "annals/sha.table"], apart := false, laid := [("annals/sha.begin", laid_annals_sha_begin), ("annals/sha.table", laid_annals_sha_table)], narrowed := true }
def MthGrowsUptoSaid : Prop := mthGrowsUptoRow.holds Tryd.pinned (OpenSpec.upto mthGrowsSpec)

/-- 'annalslaw6.MthLists', WHERE WHAT IT READS IS OF BULK AT MOST 1048576: true; the input reads as it did. -/
def mthListsUptoRow : OpenClaim := { program := "ytcenfedmbicofaadoor", sum := "e8b9e9f688f7c8b56b09aa399b57e3d1f37fbd378c54db4bf347ccf3b70ddd75", func := "annals/annalslaw6.MthLists", spec := "mthLists", inPlace := ["internal/abi.NoEscape", "internal/bytealg.MakeNoZero"], unfollowed := true, recurses := true, named := ["annals/annalsref2.first", "annals/annalsref2.table", "annals/sha.begin", "annals/sha.table"], apart := false, laid := [("annals/annalsref2.first", laid_annals_annalsref2_first), ("annals/annalsref2.table", laid_annals_annalsref2_table), ("annals/sha.begin", laid_annals_sha_begin), ("annals/sha.table", laid_annals_sha_table)], narrowed := true }
def MthListsUptoSaid : Prop := mthListsUptoRow.holds Tryd.pinned (OpenSpec.upto mthListsSpec)

/-- 'annalslaw5.TreeFolds', WHERE WHAT IT READS IS OF BULK AT MOST 1048576: true; the input reads as it did. -/
def treeFoldsUptoRow : OpenClaim := { program := "ytcenfedmbicofaadoor", sum := "e8b9e9f688f7c8b56b09aa399b57e3d1f37fbd378c54db4bf347ccf3b70ddd75", func := "annals/annalslaw5.TreeFolds", spec := "treeFolds", inPlace := ["internal/abi.NoEscape", "internal/bytealg.MakeNoZero"], unfollowed := true, recurses := true, named := ["annals/sha.begin", "annals/sha.table"], apart := false, laid := [("annals/sha.begin", laid_annals_sha_begin), ("annals/sha.table", laid_annals_sha_table)], narrowed := true }
def TreeFoldsUptoSaid : Prop := treeFoldsUptoRow.holds Tryd.pinned (OpenSpec.upto treeFoldsSpec)

end Rows
end Go.Proofs.YtcenfedmbicofaaDoor
