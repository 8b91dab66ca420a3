/-
  NARROWER THAN 'FOR EVERY INPUT', by the rows' own cells (each row's printed sentence says how): CompRoot: laid · CompPush: laid · CompMerge: laid · CompFresh: laid · CompParts: laid · CompWork: laid.
  DERIVED. THE GIVEN ROWS OF THIS SEAT. 6 by the template 'for every input the law returns true; each argument reads behind the call as it read before'; 0 by the template 'total and deterministic' (their statements: YtahkpcbemnfllaaDoorTotals.lean).
  GIVEN WITH THE SEED: the statements are not yours to turn. If you find one false, say at which input.
  Laid BY PROGRAM, IN A SANDBOX (cutbox-rows.mjs): the forced cells as the released guide's own fill.sh prints them over the translation c056ae0aa6477e9a… (all of the seat's roots in one cut). By AI agents, Wed Nov 11 2026. No macro, syntax, notation, axiom, sorry.
-/
import Derived.Test.YtahkpcbemnfllaaDoorChecked
import GoSem.Claim
import GoSem.ClaimJoined
import GoSem.ClaimMapViews
import Derived.JoinedTies
import Derived.KernelRfl
namespace Go.Proofs.YtahkpcbemnfllaaDoor
/- THE CELL 'sum', in the pinned program and in every row, IS THE sha256 OF THE DUMP (.gsa) THAT YtahkpcbemnfllaaDoorProg.lean LOADS. Nothing in Lean hashes anything: it is a label: what it is worth is what the hold of that sum in a sandbox is worth. -/
noncomputable def Tryd.pinned : Pinned := { name := "ytahkpcbemnfllaadoor", sum := "c056ae0aa6477e9afde72e305c9660a00e785acdd2e89d4d173f4c7c69a5cae1", checked := Tryd.checked }
namespace Rows
def none {H : Type} : Left H := { results := [], args := [] }

/- WHAT THE LISTED PACKAGE-LEVEL VARIABLES READ AS WHEN THE CALL BEGINS. Each datum BY PROGRAM (the guide's laid-datum.mjs) off the statement by which the dump's own 'gosem.cut.vars' lays the variable. In a bare row this is a premise. The card (YtahkpcbemnfllaaDoorCards.lean) ties it to the program's text. -/
def laid_annals_annalsref2_first {H : Type} : DataW H := .agg [.lit (.int .u32 1779033703), .lit (.int .u32 3144134277), .lit (.int .u32 1013904242), .lit (.int .u32 2773480762), .lit (.int .u32 1359893119), .lit (.int .u32 2600822924), .lit (.int .u32 528734635), .lit (.int .u32 1541459225)]
def laid_annals_annalsref2_table {H : Type} : DataW H := .agg [.lit (.int .u32 1116352408), .lit (.int .u32 1899447441), .lit (.int .u32 3049323471), .lit (.int .u32 3921009573), .lit (.int .u32 961987163), .lit (.int .u32 1508970993), .lit (.int .u32 2453635748), .lit (.int .u32 2870763221), .lit (.int .u32 3624381080), .lit (.int .u32 310598401), .lit (.int .u32 607225278), .lit (.int .u32 1426881987), .lit (.int .u32 1925078388), .lit (.int .u32 2162078206), .lit (.int .u32 2614888103), .lit (.int .u32 3248222580), .lit (.int .u32 3835390401), .lit (.int .u32 4022224774), .lit (.int .u32 264347078), .lit (.int .u32 604807628), .lit (.int .u32 770255983), .lit (.int .u32 1249150122), .lit (.int .u32 1555081692), .lit (.int .u32 1996064986), .lit (.int .u32 2554220882), .lit (.int .u32 2821834349), .lit (.int .u32 2952996808), .lit (.int .u32 3210313671), .lit (.int .u32 3336571891), .lit (.int .u32 3584528711), .lit (.int .u32 113926993), .lit (.int .u32 338241895), .lit (.int .u32 666307205), .lit (.int .u32 773529912), .lit (.int .u32 1294757372), .lit (.int .u32 1396182291), .lit (.int .u32 1695183700), .lit (.int .u32 1986661051), .lit (.int .u32 2177026350), .lit (.int .u32 2456956037), .lit (.int .u32 2730485921), .lit (.int .u32 2820302411), .lit (.int .u32 3259730800), .lit (.int .u32 3345764771), .lit (.int .u32 3516065817), .lit (.int .u32 3600352804), .lit (.int .u32 4094571909), .lit (.int .u32 275423344), .lit (.int .u32 430227734), .lit (.int .u32 506948616), .lit (.int .u32 659060556), .lit (.int .u32 883997877), .lit (.int .u32 958139571), .lit (.int .u32 1322822218), .lit (.int .u32 1537002063), .lit (.int .u32 1747873779), .lit (.int .u32 1955562222), .lit (.int .u32 2024104815), .lit (.int .u32 2227730452), .lit (.int .u32 2361852424), .lit (.int .u32 2428436474), .lit (.int .u32 2756734187), .lit (.int .u32 3204031479), .lit (.int .u32 3329325298)]
def laid_annals_sha_begin {H : Type} : DataW H := .agg [.lit (.int .u32 1779033703), .lit (.int .u32 3144134277), .lit (.int .u32 1013904242), .lit (.int .u32 2773480762), .lit (.int .u32 1359893119), .lit (.int .u32 2600822924), .lit (.int .u32 528734635), .lit (.int .u32 1541459225)]
def laid_annals_sha_table {H : Type} : DataW H := .agg [.lit (.int .u32 1116352408), .lit (.int .u32 1899447441), .lit (.int .u32 3049323471), .lit (.int .u32 3921009573), .lit (.int .u32 961987163), .lit (.int .u32 1508970993), .lit (.int .u32 2453635748), .lit (.int .u32 2870763221), .lit (.int .u32 3624381080), .lit (.int .u32 310598401), .lit (.int .u32 607225278), .lit (.int .u32 1426881987), .lit (.int .u32 1925078388), .lit (.int .u32 2162078206), .lit (.int .u32 2614888103), .lit (.int .u32 3248222580), .lit (.int .u32 3835390401), .lit (.int .u32 4022224774), .lit (.int .u32 264347078), .lit (.int .u32 604807628), .lit (.int .u32 770255983), .lit (.int .u32 1249150122), .lit (.int .u32 1555081692), .lit (.int .u32 1996064986), .lit (.int .u32 2554220882), .lit (.int .u32 2821834349), .lit (.int .u32 2952996808), .lit (.int .u32 3210313671), .lit (.int .u32 3336571891), .lit (.int .u32 3584528711), .lit (.int .u32 113926993), .lit (.int .u32 338241895), .lit (.int .u32 666307205), .lit (.int .u32 773529912), .lit (.int .u32 1294757372), .lit (.int .u32 1396182291), .lit (.int .u32 1695183700), .lit (.int .u32 1986661051), .lit (.int .u32 2177026350), .lit (.int .u32 2456956037), .lit (.int .u32 2730485921), .lit (.int .u32 2820302411), .lit (.int .u32 3259730800), .lit (.int .u32 3345764771), .lit (.int .u32 3516065817), .lit (.int .u32 3600352804), .lit (.int .u32 4094571909), .lit (.int .u32 275423344), .lit (.int .u32 430227734), .lit (.int .u32 506948616), .lit (.int .u32 659060556), .lit (.int .u32 883997877), .lit (.int .u32 958139571), .lit (.int .u32 1322822218), .lit (.int .u32 1537002063), .lit (.int .u32 1747873779), .lit (.int .u32 1955562222), .lit (.int .u32 2024104815), .lit (.int .u32 2227730452), .lit (.int .u32 2361852424), .lit (.int .u32 2428436474), .lit (.int .u32 2756734187), .lit (.int .u32 3204031479), .lit (.int .u32 3329325298)]
def laid_annals_nums_halves {H : Type} : DataW H := .agg [.lit (.int .i64 0), .lit (.int .i64 1), .lit (.int .i64 1), .lit (.int .i64 2), .lit (.int .i64 1), .lit (.int .i64 2), .lit (.int .i64 2), .lit (.int .i64 3), .lit (.int .i64 1), .lit (.int .i64 2), .lit (.int .i64 2), .lit (.int .i64 3), .lit (.int .i64 2), .lit (.int .i64 3), .lit (.int .i64 3), .lit (.int .i64 4)]

/-- 'annalslaw7.CompRoot': WHATEVER THE INPUT: true; the input reads as it did. -/
def compRootSpec : ChangeSpec := { name := "compRoot", fn := fun _ => fun
  | [d1, d2] => { results := [.lit (.bool true)], args := [d1, d2] }
  | _ => none }
def compRootRow : OpenClaim := { program := "ytahkpcbemnfllaadoor", sum := "c056ae0aa6477e9afde72e305c9660a00e785acdd2e89d4d173f4c7c69a5cae1", func := "annals/annalslaw7.CompRoot", spec := "compRoot", inPlace := ["internal/abi.NoEscape", "internal/bytealg.MakeNoZero"], unfollowed := true, recurses := true, named := ["annals/sha.begin", "annals/sha.table", "annals/annalsref2.first", "annals/annalsref2.table"], apart := false, laid := [("annals/annalsref2.first", laid_annals_annalsref2_first), ("annals/annalsref2.table", laid_annals_annalsref2_table), ("annals/sha.begin", laid_annals_sha_begin), ("annals/sha.table", laid_annals_sha_table)] }
def CompRootSaid : Prop := compRootRow.holds Tryd.pinned (OpenSpec.ofChange compRootSpec)

/-- ITS FALSE NEIGHBOUR: 'it returns false'. Refute it at one input. -/
def compRootWrong : ChangeSpec := { name := "compRoot", fn := fun _ => fun
  | [d1, d2] => { results := [.lit (.bool false)], args := [d1, d2] }
  | _ => none }
def CompRootWrongFalsely : Prop := compRootRow.holds Tryd.pinned (OpenSpec.ofChange compRootWrong)

/-- 'annalslaw7.CompPush': WHATEVER THE INPUT: true; the input reads as it did. -/
def compPushSpec : ChangeSpec := { name := "compPush", fn := fun _ => fun
  | [d1, d2, d3, d4] => { results := [.lit (.bool true)], args := [d1, d2, d3, d4] }
  | _ => none }
def compPushRow : OpenClaim := { program := "ytahkpcbemnfllaadoor", sum := "c056ae0aa6477e9afde72e305c9660a00e785acdd2e89d4d173f4c7c69a5cae1", func := "annals/annalslaw7.CompPush", spec := "compPush", inPlace := ["internal/abi.NoEscape", "internal/bytealg.MakeNoZero"], unfollowed := true, recurses := true, named := ["annals/sha.begin", "annals/sha.table", "annals/annalsref2.first", "annals/annalsref2.table"], apart := false, laid := [("annals/annalsref2.first", laid_annals_annalsref2_first), ("annals/annalsref2.table", laid_annals_annalsref2_table), ("annals/sha.begin", laid_annals_sha_begin), ("annals/sha.table", laid_annals_sha_table)] }
def CompPushSaid : Prop := compPushRow.holds Tryd.pinned (OpenSpec.ofChange compPushSpec)

/-- ITS FALSE NEIGHBOUR: 'it returns false'. Refute it at one input. -/
def compPushWrong : ChangeSpec := { name := "compPush", fn := fun _ => fun
  | [d1, d2, d3, d4] => { results := [.lit (.bool false)], args := [d1, d2, d3, d4] }
  | _ => none }
def CompPushWrongFalsely : Prop := compPushRow.holds Tryd.pinned (OpenSpec.ofChange compPushWrong)

/-- 'annalslaw7.CompMerge': WHATEVER THE INPUT: true; the input reads as it did. -/
def compMergeSpec : ChangeSpec := { name := "compMerge", fn := fun _ => fun
  | [d1, d2, d3] => { results := [.lit (.bool true)], args := [d1, d2, d3] }
  | _ => none }
def compMergeRow : OpenClaim := { program := "ytahkpcbemnfllaadoor", sum := "c056ae0aa6477e9afde72e305c9660a00e785acdd2e89d4d173f4c7c69a5cae1", func := "annals/annalslaw7.CompMerge", spec := "compMerge", inPlace := ["internal/abi.NoEscape", "internal/bytealg.MakeNoZero"], unfollowed := true, recurses := true, named := ["annals/sha.begin", "annals/sha.table", "annals/annalsref2.first", "annals/annalsref2.table"], apart := false, laid := [("annals/annalsref2.first", laid_annals_annalsref2_first), ("annals/annalsref2.table", laid_annals_annalsref2_table), ("annals/sha.begin", laid_annals_sha_begin), ("annals/sha.table", laid_annals_sha_table)] }
def CompMergeSaid : Prop := compMergeRow.holds Tryd.pinned (OpenSpec.ofChange compMergeSpec)

/-- ITS FALSE NEIGHBOUR: 'it returns false'. Refute it at one input. -/
def compMergeWrong : ChangeSpec := { name := "compMerge", fn := fun _ => fun
  | [d1, d2, d3] => { results := [.lit (.bool false)], args := [d1, d2, d3] }
  | _ => none }
def CompMergeWrongFalsely : Prop := compMergeRow.holds Tryd.pinned (OpenSpec.ofChange compMergeWrong)

/-- 'annalslaw7.CompFresh': WHATEVER THE INPUT: true; the input reads as it did. -/
def compFreshSpec : ChangeSpec := { name := "compFresh", fn := fun _ => fun
  | [d1, d2, d3, d4] => { results := [.lit (.bool true)], args := [d1, d2, d3, d4] }
  | _ => none }
def compFreshRow : OpenClaim := { program := "ytahkpcbemnfllaadoor", sum := "c056ae0aa6477e9afde72e305c9660a00e785acdd2e89d4d173f4c7c69a5cae1", func := "annals/annalslaw7.CompFresh", spec := "compFresh", inPlace := ["internal/abi.NoEscape", "internal/bytealg.MakeNoZero"], unfollowed := true, recurses := true, named := ["annals/sha.begin", "annals/sha.table", "annals/annalsref2.first", "annals/annalsref2.table"], apart := false, laid := [("annals/annalsref2.first", laid_annals_annalsref2_first), ("annals/annalsref2.table", laid_annals_annalsref2_table), ("annals/sha.begin", laid_annals_sha_begin), ("annals/sha.table", laid_annals_sha_table)] }
def CompFreshSaid : Prop := compFreshRow.holds Tryd.pinned (OpenSpec.ofChange compFreshSpec)

/-- ITS FALSE NEIGHBOUR: 'it returns false'. Refute it at one input. -/
def compFreshWrong : ChangeSpec := { name := "compFresh", fn := fun _ => fun
  | [d1, d2, d3, d4] => { results := [.lit (.bool false)], args := [d1, d2, d3, d4] }
  | _ => none }
def CompFreshWrongFalsely : Prop := compFreshRow.holds Tryd.pinned (OpenSpec.ofChange compFreshWrong)

/-- 'annalslaw7.CompParts': WHATEVER THE INPUT: true; the input reads as it did. -/
def compPartsSpec : ChangeSpec := { name := "compParts", fn := fun _ => fun
  | [d1, d2, d3, d4, d5] => { results := [.lit (.bool true)], args := [d1, d2, d3, d4, d5] }
  | _ => none }
def compPartsRow : OpenClaim := { program := "ytahkpcbemnfllaadoor", sum := "c056ae0aa6477e9afde72e305c9660a00e785acdd2e89d4d173f4c7c69a5cae1", func := "annals/annalslaw7.CompParts", spec := "compParts", inPlace := ["internal/abi.NoEscape", "internal/bytealg.MakeNoZero"], unfollowed := true, recurses := true, named := ["annals/sha.begin", "annals/sha.table"], apart := false, laid := [("annals/sha.begin", laid_annals_sha_begin), ("annals/sha.table", laid_annals_sha_table)] }
def CompPartsSaid : Prop := compPartsRow.holds Tryd.pinned (OpenSpec.ofChange compPartsSpec)

/-- ITS FALSE NEIGHBOUR: 'it returns false'. Refute it at one input. -/
def compPartsWrong : ChangeSpec := { name := "compParts", fn := fun _ => fun
  | [d1, d2, d3, d4, d5] => { results := [.lit (.bool false)], args := [d1, d2, d3, d4, d5] }
  | _ => none }
def CompPartsWrongFalsely : Prop := compPartsRow.holds Tryd.pinned (OpenSpec.ofChange compPartsWrong)

/-- 'annalslaw7.CompWork': WHATEVER THE INPUT: true; the input reads as it did. -/
def compWorkSpec : ChangeSpec := { name := "compWork", fn := fun _ => fun
  | [d1, d2, d3] => { results := [.lit (.bool true)], args := [d1, d2, d3] }
  | _ => none }
def compWorkRow : OpenClaim := { program := "ytahkpcbemnfllaadoor", sum := "c056ae0aa6477e9afde72e305c9660a00e785acdd2e89d4d173f4c7c69a5cae1", func := "annals/annalslaw7.CompWork", spec := "compWork", inPlace := ["internal/abi.NoEscape", "internal/bytealg.MakeNoZero"], unfollowed := true, recurses := true, named := ["annals/sha.begin", "annals/sha.table", "annals/nums.halves"], apart := false, laid := [("annals/nums.halves", laid_annals_nums_halves), ("annals/sha.begin", laid_annals_sha_begin), ("annals/sha.table", laid_annals_sha_table)] }
def CompWorkSaid : Prop := compWorkRow.holds Tryd.pinned (OpenSpec.ofChange compWorkSpec)

/-- ITS FALSE NEIGHBOUR: 'it returns false'. Refute it at one input. -/
def compWorkWrong : ChangeSpec := { name := "compWork", fn := fun _ => fun
  | [d1, d2, d3] => { results := [.lit (.bool false)], args := [d1, d2, d3] }
  | _ => none }
def CompWorkWrongFalsely : Prop := compWorkRow.holds Tryd.pinned (OpenSpec.ofChange compWorkWrong)

/- THE SECOND FORM. 'bulk': how many values and letters a reading holds, each counted each time it is reached (what is shared counts as often as it is met; a slice's spare places count too). A statement '..UptoSaid' is the law's where the arguments, and the package variables that the reading takes, are together of bulk at most 1048576: NARROWER than '..Said'. Prove '..Said' where nothing that the law and all that it calls make is longer than what came in: it says more and counts as full. Else prove '..UptoSaid'. A law counts once. -/
mutual
def uptoBulk {H : Type} : DataW H → Nat
  | .lit (.string bytes) => bytes.length + 1
  | .lit _ => 1
  | .nil => 1
  | .ptr d => uptoBulk d + 1
  | .slice elems spare => uptoBulkAll elems + uptoBulkAll spare + 1
  | .agg parts => uptoBulkAll parts + 1
  | .iface _ d => uptoBulk d + 1
  | .map entries => uptoBulkEntries entries + 1
  | .held _ => 1
def uptoBulkAll {H : Type} : List (DataW H) → Nat
  | [] => 0
  | d :: r => uptoBulk d + uptoBulkAll r
def uptoBulkEntries {H : Type} : List (Lit × DataW H) → Nat
  | [] => 0
  | x :: r => uptoBulkEntry x + uptoBulkEntries r
def uptoBulkEntry {H : Type} : Lit × DataW H → Nat
  | (.string bytes, d) => bytes.length + uptoBulk d + 1
  | (_, d) => uptoBulk d + 1
 end
def uptoSmall : (H : Type) → List (DataW H) → Bool := fun _ ds => decide (uptoBulkAll ds ≤ 1048576)
def OpenSpec.upto (s : _root_.Go.ChangeSpec) : _root_.Go.OpenSpec := { _root_.Go.OpenSpec.ofChange s with cond := some uptoSmall }

/-- 'annalslaw7.CompRoot', WHERE WHAT IT READS IS OF BULK AT MOST 1048576: true; the input reads as it did. -/
def compRootUptoRow : OpenClaim := { program := "ytahkpcbemnfllaadoor", sum := "c056ae0aa6477e9afde72e305c9660a00e785acdd2e89d4d173f4c7c69a5cae1", func := "annals/annalslaw7.CompRoot", spec := "compRoot", inPlace := ["internal/abi.NoEscape", "internal/bytealg.MakeNoZero"], unfollowed := true, recurses := true, named := ["annals/sha.begin", "annals/sha.table", "annals/annalsref2.first", "annals/annalsref2.table"], apart := false, laid := [("annals/annalsref2.first", laid_annals_annalsref2_first), ("annals/annalsref2.table", laid_annals_annalsref2_table), ("annals/sha.begin", laid_annals_sha_begin), ("annals/sha.table", laid_annals_sha_table)], narrowed := true }
def CompRootUptoSaid : Prop := compRootUptoRow.holds Tryd.pinned (OpenSpec.upto compRootSpec)

/-- 'annalslaw7.CompPush', WHERE WHAT IT READS IS OF BULK AT MOST 1048576: true; the input reads as it did. -/
def compPushUptoRow : OpenClaim := { program := "ytahkpcbemnfllaadoor", sum := "c056ae0aa6477e9afde72e305c9660a00e785acdd2e89d4d173f4c7c69a5cae1", func := "annals/annalslaw7.CompPush", spec := "compPush", inPlace := ["internal/abi.NoEscape", "internal/bytealg.MakeNoZero"], unfollowed := true, recurses := true, named := ["annals/sha.begin", "annals/sha.table", "annals/annalsref2.first", "annals/annalsref2.table"], apart := false, laid := [("annals/annalsref2.first", laid_annals_annalsref2_first), ("annals/annalsref2.table", laid_annals_annalsref2_table), ("annals/sha.begin", laid_annals_sha_begin), ("annals/sha.table", laid_annals_sha_table)], narrowed := true }
def CompPushUptoSaid : Prop := compPushUptoRow.holds Tryd.pinned (OpenSpec.upto compPushSpec)

/-- 'annalslaw7.CompMerge', WHERE WHAT IT READS IS OF BULK AT MOST 1048576: true; the input reads as it did. -/
def compMergeUptoRow : OpenClaim := { program := "ytahkpcbemnfllaadoor", sum := "c056ae0aa6477e9afde72e305c9660a00e785acdd2e89d4d173f4c7c69a5cae1", func := "annals/annalslaw7.CompMerge", spec := "compMerge", inPlace := ["internal/abi.NoEscape", "internal/bytealg.MakeNoZero"], unfollowed := true, recurses := true, named := ["annals/sha.begin", "annals/sha.table", "annals/annalsref2.first", "annals/annalsref2.table"], apart := false, laid := [("annals/annalsref2.first", laid_annals_annalsref2_first), ("annals/annalsref2.table", laid_annals_annalsref2_table), ("annals/sha.begin", laid_annals_sha_begin), ("annals/sha.table", laid_annals_sha_table)], narrowed := true }
def CompMergeUptoSaid : Prop := compMergeUptoRow.holds Tryd.pinned (OpenSpec.upto compMergeSpec)

/-- 'annalslaw7.CompFresh', WHERE WHAT IT READS IS OF BULK AT MOST 1048576: true; the input reads as it did. -/
def compFreshUptoRow : OpenClaim := { program := "ytahkpcbemnfllaadoor", sum := "c056ae0aa6477e9afde72e305c9660a00e785acdd2e89d4d173f4c7c69a5cae1", func := "annals/annalslaw7.CompFresh", spec := "compFresh", inPlace := ["internal/abi.NoEscape", "internal/bytealg.MakeNoZero"], unfollowed := true, recurses := true, named := ["annals/sha.begin", "annals/sha.table", "annals/annalsref2.first", "annals/annalsref2.table"], apart := false, laid := [("annals/annalsref2.first", laid_annals_annalsref2_first), ("annals/annalsref2.table", laid_annals_annalsref2_table), ("annals/sha.begin", laid_annals_sha_begin), ("annals/sha.table", laid_annals_sha_table)], narrowed := true }
def CompFreshUptoSaid : Prop := compFreshUptoRow.holds Tryd.pinned (OpenSpec.upto compFreshSpec)

/-- 'annalslaw7.CompParts', WHERE WHAT IT READS IS OF BULK AT MOST 1048576: true; the input reads as it did. -/
def compPartsUptoRow : OpenClaim := { program := "ytahkpcbemnfllaadoor", sum := "c056ae0aa6477e9afde72e305c9660a00e785acdd2e89d4d173f4c7c69a5cae1", func := "annals/annalslaw7.CompParts", spec := "compParts", inPlace := ["internal/abi.NoEscape", "internal/bytealg.MakeNoZero"], unfollowed := true, recurses := true, named := ["annals/sha.begin", "annals/sha.table"], apart := false, laid := [("annals/sha.begin", laid_annals_sha_begin), ("annals/sha.table", laid_annals_sha_table)], narrowed := true }
def CompPartsUptoSaid : Prop := compPartsUptoRow.holds Tryd.pinned (OpenSpec.upto compPartsSpec)

/-- 'annalslaw7.CompWork', WHERE WHAT IT READS IS OF BULK AT MOST 1048576: true; the input reads as it did. -/
def compWorkUptoRow : OpenClaim := { program := "ytahkpcbemnfllaadoor", sum := "c056ae0aa6477e9afde72e305c9660a00e785acdd2e89d4d173f4c7c69a5cae1", func := "annals/annalslaw7.CompWork", spec := "compWork", inPlace := ["internal/abi.NoEscape", "internal/bytealg.MakeNoZero"], unfollowed := true, recurses := true, named := ["annals/sha.begin", "annals/sha.table", "annals/nums.halves"], apart := false, laid := [("annals/nums.halves", laid_annals_nums_halves), ("annals/sha.begin", laid_annals_sha_begin), ("annals/sha.table", laid_annals_sha_table)], narrowed := true }
def CompWorkUptoSaid : Prop := compWorkUptoRow.holds Tryd.pinned (OpenSpec.upto compWorkSpec)

end Rows
end Go.Proofs.YtahkpcbemnfllaaDoor
