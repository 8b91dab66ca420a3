/-
  NARROWER THAN 'FOR EVERY INPUT', by the rows' own cells (each row's printed sentence says how): ShaHistory: laid · ShaSum: laid · ShaPieces: laid · ShaParts: laid · ShaKnown: laid · ShaCut: laid · ShaBegins: laid · MacNested: laid · MacKeyID: laid · MacSum: laid · MacDerive: laid · MacChain: laid.
  DERIVED. THE GIVEN ROWS OF THIS SEAT. 12 by the template 'for every input the law returns true; each argument reads behind the call as it read before'; 0 by the template 'total and deterministic' (their statements: YtkhcinnpfpkhnaaDoorTotals.lean).
  GIVEN WITH THE SEED: the statements are not yours to turn. If you find one false, say at which input.
  Laid BY PROGRAM, IN A SANDBOX (cutbox-rows.mjs): the forced cells as the released guide's own fill.sh prints them over the translation 5b75c0423fea5fcc… (all of the seat's roots in one cut). By AI agents, Wed Nov 11 2026. No macro, syntax, notation, axiom, sorry.
-/
import Derived.Test.YtkhcinnpfpkhnaaDoorChecked
import GoSem.Claim
import GoSem.ClaimJoined
import GoSem.ClaimMapViews
import Derived.JoinedTies
import Derived.KernelRfl
namespace Go.Proofs.YtkhcinnpfpkhnaaDoor
/- THE CELL 'sum', in the pinned program and in every row, IS THE sha256 OF THE DUMP (.gsa) THAT YtkhcinnpfpkhnaaDoorProg.lean LOADS. Nothing in Lean hashes anything: it is a label: what it is worth is what the hold of that sum in a sandbox is worth. -/
noncomputable def Tryd.pinned : Pinned := { name := "ytkhcinnpfpkhnaadoor", sum := "5b75c0423fea5fcc70037592434ece43c75adf71ab575fcf05a762d851b42559", checked := Tryd.checked }
namespace Rows
def none {H : Type} : Left H := { results := [], args := [] }

/- WHAT THE LISTED PACKAGE-LEVEL VARIABLES READ AS WHEN THE CALL BEGINS. Each datum BY PROGRAM (the guide's laid-datum.mjs) off the statement by which the dump's own 'gosem.cut.vars' lays the variable. In a bare row this is a premise. The card (YtkhcinnpfpkhnaaDoorCards.lean) ties it to the program's text. -/
def laid_annals_annalsref2_first {H : Type} : DataW H := .agg [.lit (.int .u32 1779033703), .lit (.int .u32 3144134277), .lit (.int .u32 1013904242), .lit (.int .u32 2773480762), .lit (.int .u32 1359893119), .lit (.int .u32 2600822924), .lit (.int .u32 528734635), .lit (.int .u32 1541459225)]
def laid_annals_annalsref2_table {H : Type} : DataW H := .agg [.lit (.int .u32 1116352408), .lit (.int .u32 1899447441), .lit (.int .u32 3049323471), .lit (.int .u32 3921009573), .lit (.int .u32 961987163), .lit (.int .u32 1508970993), .lit (.int .u32 2453635748), .lit (.int .u32 2870763221), .lit (.int .u32 3624381080), .lit (.int .u32 310598401), .lit (.int .u32 607225278), .lit (.int .u32 1426881987), .lit (.int .u32 1925078388), .lit (.int .u32 2162078206), .lit (.int .u32 2614888103), .lit (.int .u32 3248222580), .lit (.int .u32 3835390401), .lit (.int .u32 4022224774), .lit (.int .u32 264347078), .lit (.int .u32 604807628), .lit (.int .u32 770255983), .lit (.int .u32 1249150122), .lit (.int .u32 1555081692), .lit (.int .u32 1996064986), .lit (.int .u32 2554220882), .lit (.int .u32 2821834349), .lit (.int .u32 2952996808), .lit (.int .u32 3210313671), .lit (.int .u32 3336571891), .lit (.int .u32 3584528711), .lit (.int .u32 113926993), .lit (.int .u32 338241895), .lit (.int .u32 666307205), .lit (.int .u32 773529912), .lit (.int .u32 1294757372), .lit (.int .u32 1396182291), .lit (.int .u32 1695183700), .lit (.int .u32 1986661051), .lit (.int .u32 2177026350), .lit (.int .u32 2456956037), .lit (.int .u32 2730485921), .lit (.int .u32 2820302411), .lit (.int .u32 3259730800), .lit (.int .u32 3345764771), .lit (.int .u32 3516065817), .lit (.int .u32 3600352804), .lit (.int .u32 4094571909), .lit (.int .u32 275423344), .lit (.int .u32 430227734), .lit (.int .u32 506948616), .lit (.int .u32 659060556), .lit (.int .u32 883997877), .lit (.int .u32 958139571), .lit (.int .u32 1322822218), .lit (.int .u32 1537002063), .lit (.int .u32 1747873779), .lit (.int .u32 1955562222), .lit (.int .u32 2024104815), .lit (.int .u32 2227730452), .lit (.int .u32 2361852424), .lit (.int .u32 2428436474), .lit (.int .u32 2756734187), .lit (.int .u32 3204031479), .lit (.int .u32 3329325298)]
def laid_annals_sha_begin {H : Type} : DataW H := .agg [.lit (.int .u32 1779033703), .lit (.int .u32 3144134277), .lit (.int .u32 1013904242), .lit (.int .u32 2773480762), .lit (.int .u32 1359893119), .lit (.int .u32 2600822924), .lit (.int .u32 528734635), .lit (.int .u32 1541459225)]
def laid_annals_sha_table {H : Type} : DataW H := .agg [.lit (.int .u32 1116352408), .lit (.int .u32 1899447441), .lit (.int .u32 3049323471), .lit (.int .u32 3921009573), .lit (.int .u32 961987163), .lit (.int .u32 1508970993), .lit (.int .u32 2453635748), .lit (.int .u32 2870763221), .lit (.int .u32 3624381080), .lit (.int .u32 310598401), .lit (.int .u32 607225278), .lit (.int .u32 1426881987), .lit (.int .u32 1925078388), .lit (.int .u32 2162078206), .lit (.int .u32 2614888103), .lit (.int .u32 3248222580), .lit (.int .u32 3835390401), .lit (.int .u32 4022224774), .lit (.int .u32 264347078), .lit (.int .u32 604807628), .lit (.int .u32 770255983), .lit (.int .u32 1249150122), .lit (.int .u32 1555081692), .lit (.int .u32 1996064986), .lit (.int .u32 2554220882), .lit (.int .u32 2821834349), .lit (.int .u32 2952996808), .lit (.int .u32 3210313671), .lit (.int .u32 3336571891), .lit (.int .u32 3584528711), .lit (.int .u32 113926993), .lit (.int .u32 338241895), .lit (.int .u32 666307205), .lit (.int .u32 773529912), .lit (.int .u32 1294757372), .lit (.int .u32 1396182291), .lit (.int .u32 1695183700), .lit (.int .u32 1986661051), .lit (.int .u32 2177026350), .lit (.int .u32 2456956037), .lit (.int .u32 2730485921), .lit (.int .u32 2820302411), .lit (.int .u32 3259730800), .lit (.int .u32 3345764771), .lit (.int .u32 3516065817), .lit (.int .u32 3600352804), .lit (.int .u32 4094571909), .lit (.int .u32 275423344), .lit (.int .u32 430227734), .lit (.int .u32 506948616), .lit (.int .u32 659060556), .lit (.int .u32 883997877), .lit (.int .u32 958139571), .lit (.int .u32 1322822218), .lit (.int .u32 1537002063), .lit (.int .u32 1747873779), .lit (.int .u32 1955562222), .lit (.int .u32 2024104815), .lit (.int .u32 2227730452), .lit (.int .u32 2361852424), .lit (.int .u32 2428436474), .lit (.int .u32 2756734187), .lit (.int .u32 3204031479), .lit (.int .u32 3329325298)]

/-- 'annalslaw2.ShaHistory': WHATEVER THE INPUT: true; the input reads as it did. -/
def shaHistorySpec : ChangeSpec := { name := "shaHistory", fn := fun _ => fun
  | [d] => { results := [.lit (.bool true)], args := [d] }
  | _ => none }
def shaHistoryRow : OpenClaim := { program := "ytkhcinnpfpkhnaadoor", sum := "5b75c0423fea5fcc70037592434ece43c75adf71ab575fcf05a762d851b42559", func := "annals/annalslaw2.ShaHistory", spec := "shaHistory", unfollowed := true, recurses := true, named := ["annals/sha.begin", "annals/sha.table", "annals/annalsref2.first", "annals/annalsref2.table"], apart := false, laid := [("annals/annalsref2.first", laid_annals_annalsref2_first), ("annals/annalsref2.table", laid_annals_annalsref2_table), ("annals/sha.begin", laid_annals_sha_begin), ("annals/sha.table", laid_annals_sha_table)] }
def ShaHistorySaid : Prop := shaHistoryRow.holds Tryd.pinned (OpenSpec.ofChange shaHistorySpec)

/-- ITS FALSE NEIGHBOUR: 'it returns false'. Refute it at one input. -/
def shaHistoryWrong : ChangeSpec := { name := "shaHistory", fn := fun _ => fun
  | [d] => { results := [.lit (.bool false)], args := [d] }
  | _ => none }
def ShaHistoryWrongFalsely : Prop := shaHistoryRow.holds Tryd.pinned (OpenSpec.ofChange shaHistoryWrong)

/-- 'annalslaw2.ShaSum': WHATEVER THE INPUT: true; the input reads as it did. -/
def shaSumSpec : ChangeSpec := { name := "shaSum", fn := fun _ => fun
  | [d] => { results := [.lit (.bool true)], args := [d] }
  | _ => none }
def shaSumRow : OpenClaim := { program := "ytkhcinnpfpkhnaadoor", sum := "5b75c0423fea5fcc70037592434ece43c75adf71ab575fcf05a762d851b42559", func := "annals/annalslaw2.ShaSum", spec := "shaSum", unfollowed := true, recurses := true, named := ["annals/sha.begin", "annals/sha.table", "annals/annalsref2.first", "annals/annalsref2.table"], apart := false, laid := [("annals/annalsref2.first", laid_annals_annalsref2_first), ("annals/annalsref2.table", laid_annals_annalsref2_table), ("annals/sha.begin", laid_annals_sha_begin), ("annals/sha.table", laid_annals_sha_table)] }
def ShaSumSaid : Prop := shaSumRow.holds Tryd.pinned (OpenSpec.ofChange shaSumSpec)

/-- ITS FALSE NEIGHBOUR: 'it returns false'. Refute it at one input. -/
def shaSumWrong : ChangeSpec := { name := "shaSum", fn := fun _ => fun
  | [d] => { results := [.lit (.bool false)], args := [d] }
  | _ => none }
def ShaSumWrongFalsely : Prop := shaSumRow.holds Tryd.pinned (OpenSpec.ofChange shaSumWrong)

/-- 'annalslaw2.ShaPieces': WHATEVER THE INPUT: true; the input reads as it did. -/
def shaPiecesSpec : ChangeSpec := { name := "shaPieces", fn := fun _ => fun
  | [d] => { results := [.lit (.bool true)], args := [d] }
  | _ => none }
def shaPiecesRow : OpenClaim := { program := "ytkhcinnpfpkhnaadoor", sum := "5b75c0423fea5fcc70037592434ece43c75adf71ab575fcf05a762d851b42559", func := "annals/annalslaw2.ShaPieces", spec := "shaPieces", unfollowed := true, recurses := true, named := ["annals/sha.begin", "annals/sha.table"], apart := false, laid := [("annals/sha.begin", laid_annals_sha_begin), ("annals/sha.table", laid_annals_sha_table)] }
def ShaPiecesSaid : Prop := shaPiecesRow.holds Tryd.pinned (OpenSpec.ofChange shaPiecesSpec)

/-- ITS FALSE NEIGHBOUR: 'it returns false'. Refute it at one input. -/
def shaPiecesWrong : ChangeSpec := { name := "shaPieces", fn := fun _ => fun
  | [d] => { results := [.lit (.bool false)], args := [d] }
  | _ => none }
def ShaPiecesWrongFalsely : Prop := shaPiecesRow.holds Tryd.pinned (OpenSpec.ofChange shaPiecesWrong)

/-- 'annalslaw2.ShaParts': WHATEVER THE INPUT: true; the input reads as it did. -/
def shaPartsSpec : ChangeSpec := { name := "shaParts", fn := fun _ => fun
  | [d1, d2, d3, d4] => { results := [.lit (.bool true)], args := [d1, d2, d3, d4] }
  | _ => none }
def shaPartsRow : OpenClaim := { program := "ytkhcinnpfpkhnaadoor", sum := "5b75c0423fea5fcc70037592434ece43c75adf71ab575fcf05a762d851b42559", func := "annals/annalslaw2.ShaParts", spec := "shaParts", unfollowed := true, recurses := true, named := ["annals/sha.begin", "annals/sha.table"], apart := false, laid := [("annals/sha.begin", laid_annals_sha_begin), ("annals/sha.table", laid_annals_sha_table)] }
def ShaPartsSaid : Prop := shaPartsRow.holds Tryd.pinned (OpenSpec.ofChange shaPartsSpec)

/-- ITS FALSE NEIGHBOUR: 'it returns false'. Refute it at one input. -/
def shaPartsWrong : ChangeSpec := { name := "shaParts", fn := fun _ => fun
  | [d1, d2, d3, d4] => { results := [.lit (.bool false)], args := [d1, d2, d3, d4] }
  | _ => none }
def ShaPartsWrongFalsely : Prop := shaPartsRow.holds Tryd.pinned (OpenSpec.ofChange shaPartsWrong)

/-- 'annalslaw2.ShaKnown': WHATEVER THE INPUT: true; the input reads as it did. -/
def shaKnownSpec : ChangeSpec := { name := "shaKnown", fn := fun _ => fun
  | [] => { results := [.lit (.bool true)], args := [] }
  | _ => none }
def shaKnownRow : OpenClaim := { program := "ytkhcinnpfpkhnaadoor", sum := "5b75c0423fea5fcc70037592434ece43c75adf71ab575fcf05a762d851b42559", func := "annals/annalslaw2.ShaKnown", spec := "shaKnown", unfollowed := true, recurses := true, named := ["annals/sha.begin", "annals/sha.table"], apart := false, laid := [("annals/sha.begin", laid_annals_sha_begin), ("annals/sha.table", laid_annals_sha_table)] }
def ShaKnownSaid : Prop := shaKnownRow.holds Tryd.pinned (OpenSpec.ofChange shaKnownSpec)

/-- ITS FALSE NEIGHBOUR: 'it returns false'. Refute it at one input. -/
def shaKnownWrong : ChangeSpec := { name := "shaKnown", fn := fun _ => fun
  | [] => { results := [.lit (.bool false)], args := [] }
  | _ => none }
def ShaKnownWrongFalsely : Prop := shaKnownRow.holds Tryd.pinned (OpenSpec.ofChange shaKnownWrong)

/-- 'annalslaw2.ShaCut': WHATEVER THE INPUT: true; the input reads as it did. -/
def shaCutSpec : ChangeSpec := { name := "shaCut", fn := fun _ => fun
  | [d1, d2] => { results := [.lit (.bool true)], args := [d1, d2] }
  | _ => none }
def shaCutRow : OpenClaim := { program := "ytkhcinnpfpkhnaadoor", sum := "5b75c0423fea5fcc70037592434ece43c75adf71ab575fcf05a762d851b42559", func := "annals/annalslaw2.ShaCut", spec := "shaCut", unfollowed := true, recurses := true, named := ["annals/sha.begin", "annals/sha.table", "annals/annalsref2.first", "annals/annalsref2.table"], apart := false, laid := [("annals/annalsref2.first", laid_annals_annalsref2_first), ("annals/annalsref2.table", laid_annals_annalsref2_table), ("annals/sha.begin", laid_annals_sha_begin), ("annals/sha.table", laid_annals_sha_table)] }
def ShaCutSaid : Prop := shaCutRow.holds Tryd.pinned (OpenSpec.ofChange shaCutSpec)

/-- ITS FALSE NEIGHBOUR: 'it returns false'. Refute it at one input. -/
def shaCutWrong : ChangeSpec := { name := "shaCut", fn := fun _ => fun
  | [d1, d2] => { results := [.lit (.bool false)], args := [d1, d2] }
  | _ => none }
def ShaCutWrongFalsely : Prop := shaCutRow.holds Tryd.pinned (OpenSpec.ofChange shaCutWrong)

/-- 'annalslaw2.ShaBegins': WHATEVER THE INPUT: true; the input reads as it did. -/
def shaBeginsSpec : ChangeSpec := { name := "shaBegins", fn := fun _ => fun
  | [d1, d2] => { results := [.lit (.bool true)], args := [d1, d2] }
  | _ => none }
def shaBeginsRow : OpenClaim := { program := "ytkhcinnpfpkhnaadoor", sum := "5b75c0423fea5fcc70037592434ece43c75adf71ab575fcf05a762d851b42559", func := "annals/annalslaw2.ShaBegins", spec := "shaBegins", unfollowed := true, recurses := true, named := ["annals/sha.begin", "annals/sha.table"], apart := false, laid := [("annals/sha.begin", laid_annals_sha_begin), ("annals/sha.table", laid_annals_sha_table)] }
def ShaBeginsSaid : Prop := shaBeginsRow.holds Tryd.pinned (OpenSpec.ofChange shaBeginsSpec)

/-- ITS FALSE NEIGHBOUR: 'it returns false'. Refute it at one input. -/
def shaBeginsWrong : ChangeSpec := { name := "shaBegins", fn := fun _ => fun
  | [d1, d2] => { results := [.lit (.bool false)], args := [d1, d2] }
  | _ => none }
def ShaBeginsWrongFalsely : Prop := shaBeginsRow.holds Tryd.pinned (OpenSpec.ofChange shaBeginsWrong)

/-- 'annalslaw3.MacNested': WHATEVER THE INPUT: true; the input reads as it did. -/
def macNestedSpec : ChangeSpec := { name := "macNested", fn := fun _ => fun
  | [d1, d2] => { results := [.lit (.bool true)], args := [d1, d2] }
  | _ => none }
def macNestedRow : OpenClaim := { program := "ytkhcinnpfpkhnaadoor", sum := "5b75c0423fea5fcc70037592434ece43c75adf71ab575fcf05a762d851b42559", func := "annals/annalslaw3.MacNested", spec := "macNested", unfollowed := true, recurses := true, named := ["annals/sha.begin", "annals/sha.table"], apart := false, laid := [("annals/sha.begin", laid_annals_sha_begin), ("annals/sha.table", laid_annals_sha_table)] }
def MacNestedSaid : Prop := macNestedRow.holds Tryd.pinned (OpenSpec.ofChange macNestedSpec)

/-- ITS FALSE NEIGHBOUR: 'it returns false'. Refute it at one input. -/
def macNestedWrong : ChangeSpec := { name := "macNested", fn := fun _ => fun
  | [d1, d2] => { results := [.lit (.bool false)], args := [d1, d2] }
  | _ => none }
def MacNestedWrongFalsely : Prop := macNestedRow.holds Tryd.pinned (OpenSpec.ofChange macNestedWrong)

/-- 'annalslaw3.MacKeyID': WHATEVER THE INPUT: true; the input reads as it did. -/
def macKeyIDSpec : ChangeSpec := { name := "macKeyID", fn := fun _ => fun
  | [d1, d2] => { results := [.lit (.bool true)], args := [d1, d2] }
  | _ => none }
def macKeyIDRow : OpenClaim := { program := "ytkhcinnpfpkhnaadoor", sum := "5b75c0423fea5fcc70037592434ece43c75adf71ab575fcf05a762d851b42559", func := "annals/annalslaw3.MacKeyID", spec := "macKeyID", unfollowed := true, recurses := true, named := ["annals/sha.begin", "annals/sha.table", "annals/annalsref2.first", "annals/annalsref2.table"], apart := false, laid := [("annals/annalsref2.first", laid_annals_annalsref2_first), ("annals/annalsref2.table", laid_annals_annalsref2_table), ("annals/sha.begin", laid_annals_sha_begin), ("annals/sha.table", laid_annals_sha_table)] }
def MacKeyIDSaid : Prop := macKeyIDRow.holds Tryd.pinned (OpenSpec.ofChange macKeyIDSpec)

/-- ITS FALSE NEIGHBOUR: 'it returns false'. Refute it at one input. -/
def macKeyIDWrong : ChangeSpec := { name := "macKeyID", fn := fun _ => fun
  | [d1, d2] => { results := [.lit (.bool false)], args := [d1, d2] }
  | _ => none }
def MacKeyIDWrongFalsely : Prop := macKeyIDRow.holds Tryd.pinned (OpenSpec.ofChange macKeyIDWrong)

/-- 'annalslaw3.MacSum': WHATEVER THE INPUT: true; the input reads as it did. -/
def macSumSpec : ChangeSpec := { name := "macSum", fn := fun _ => fun
  | [d1, d2] => { results := [.lit (.bool true)], args := [d1, d2] }
  | _ => none }
def macSumRow : OpenClaim := { program := "ytkhcinnpfpkhnaadoor", sum := "5b75c0423fea5fcc70037592434ece43c75adf71ab575fcf05a762d851b42559", func := "annals/annalslaw3.MacSum", spec := "macSum", unfollowed := true, recurses := true, named := ["annals/sha.begin", "annals/sha.table", "annals/annalsref2.first", "annals/annalsref2.table"], apart := false, laid := [("annals/annalsref2.first", laid_annals_annalsref2_first), ("annals/annalsref2.table", laid_annals_annalsref2_table), ("annals/sha.begin", laid_annals_sha_begin), ("annals/sha.table", laid_annals_sha_table)] }
def MacSumSaid : Prop := macSumRow.holds Tryd.pinned (OpenSpec.ofChange macSumSpec)

/-- ITS FALSE NEIGHBOUR: 'it returns false'. Refute it at one input. -/
def macSumWrong : ChangeSpec := { name := "macSum", fn := fun _ => fun
  | [d1, d2] => { results := [.lit (.bool false)], args := [d1, d2] }
  | _ => none }
def MacSumWrongFalsely : Prop := macSumRow.holds Tryd.pinned (OpenSpec.ofChange macSumWrong)

/-- 'annalslaw3.MacDerive': WHATEVER THE INPUT: true; the input reads as it did. -/
def macDeriveSpec : ChangeSpec := { name := "macDerive", fn := fun _ => fun
  | [d1, d2, d3] => { results := [.lit (.bool true)], args := [d1, d2, d3] }
  | _ => none }
def macDeriveRow : OpenClaim := { program := "ytkhcinnpfpkhnaadoor", sum := "5b75c0423fea5fcc70037592434ece43c75adf71ab575fcf05a762d851b42559", func := "annals/annalslaw3.MacDerive", spec := "macDerive", unfollowed := true, recurses := true, named := ["annals/sha.begin", "annals/sha.table", "annals/annalsref2.first", "annals/annalsref2.table"], apart := false, laid := [("annals/annalsref2.first", laid_annals_annalsref2_first), ("annals/annalsref2.table", laid_annals_annalsref2_table), ("annals/sha.begin", laid_annals_sha_begin), ("annals/sha.table", laid_annals_sha_table)] }
def MacDeriveSaid : Prop := macDeriveRow.holds Tryd.pinned (OpenSpec.ofChange macDeriveSpec)

/-- ITS FALSE NEIGHBOUR: 'it returns false'. Refute it at one input. -/
def macDeriveWrong : ChangeSpec := { name := "macDerive", fn := fun _ => fun
  | [d1, d2, d3] => { results := [.lit (.bool false)], args := [d1, d2, d3] }
  | _ => none }
def MacDeriveWrongFalsely : Prop := macDeriveRow.holds Tryd.pinned (OpenSpec.ofChange macDeriveWrong)

/-- 'annalslaw3.MacChain': WHATEVER THE INPUT: true; the input reads as it did. -/
def macChainSpec : ChangeSpec := { name := "macChain", fn := fun _ => fun
  | [d1, d2, d3, d4] => { results := [.lit (.bool true)], args := [d1, d2, d3, d4] }
  | _ => none }
def macChainRow : OpenClaim := { program := "ytkhcinnpfpkhnaadoor", sum := "5b75c0423fea5fcc70037592434ece43c75adf71ab575fcf05a762d851b42559", func := "annals/annalslaw3.MacChain", spec := "macChain", unfollowed := true, recurses := true, named := ["annals/sha.begin", "annals/sha.table"], apart := false, laid := [("annals/sha.begin", laid_annals_sha_begin), ("annals/sha.table", laid_annals_sha_table)] }
def MacChainSaid : Prop := macChainRow.holds Tryd.pinned (OpenSpec.ofChange macChainSpec)

/-- ITS FALSE NEIGHBOUR: 'it returns false'. Refute it at one input. -/
def macChainWrong : ChangeSpec := { name := "macChain", fn := fun _ => fun
  | [d1, d2, d3, d4] => { results := [.lit (.bool false)], args := [d1, d2, d3, d4] }
  | _ => none }
def MacChainWrongFalsely : Prop := macChainRow.holds Tryd.pinned (OpenSpec.ofChange macChainWrong)

/- THE SECOND FORM. 'bulk': how many values and letters a reading holds, each counted each time it is reached (what is shared counts as often as it is met; a slice's spare places count too). A statement '..UptoSaid' is the law's where the arguments, and the package variables that the reading takes, are together of bulk at most 1048576: NARROWER than '..Said'. Prove '..Said' where nothing that the law and all that it calls make is longer than what came in: it says more and counts as full. Else prove '..UptoSaid'. A law counts once. -/
mutual
def uptoBulk {H : Type} : DataW H → Nat
  | .lit (.string bytes) => bytes.length + 1
  | .lit _ => 1
  | .nil => 1
  | .ptr d => uptoBulk d + 1
  | .slice elems spare => uptoBulkAll elems + uptoBulkAll spare + 1
  | .agg parts => uptoBulkAll parts + 1
  | .iface _ d => uptoBulk d + 1
  | .map entries => uptoBulkEntries entries + 1
  | .held _ => 1
def uptoBulkAll {H : Type} : List (DataW H) → Nat
  | [] => 0
  | d :: r => uptoBulk d + uptoBulkAll r
def uptoBulkEntries {H : Type} : List (Lit × DataW H) → Nat
  | [] => 0
  | x :: r => uptoBulkEntry x + uptoBulkEntries r
def uptoBulkEntry {H : Type} : Lit × DataW H → Nat
  | (.string bytes, d) => bytes.length + uptoBulk d + 1
  | (_, d) => uptoBulk d + 1
 end
def uptoSmall : (H : Type) → List (DataW H) → Bool := fun _ ds => decide (uptoBulkAll ds ≤ 1048576)
def OpenSpec.upto (s : _root_.Go.ChangeSpec) : _root_.Go.OpenSpec := { _root_.Go.OpenSpec.ofChange s with cond := some uptoSmall }

/-- 'annalslaw2.ShaHistory', WHERE WHAT IT READS IS OF BULK AT MOST 1048576: true; the input reads as it did. -/
def shaHistoryUptoRow : OpenClaim := { program := "ytkhcinnpfpkhnaadoor", sum := "5b75c0423fea5fcc70037592434ece43c75adf71ab575fcf05a762d851b42559", func := "annals/annalslaw2.ShaHistory", spec := "shaHistory", unfollowed := true, recurses := true, named := ["annals/sha.begin", "annals/sha.table", "annals/annalsref2.first", "annals/annalsref2.table"], apart := false, laid := [("annals/annalsref2.first", laid_annals_annalsref2_first), ("annals/annalsref2.table", laid_annals_annalsref2_table), ("annals/sha.begin", laid_annals_sha_begin), ("annals/sha.table", laid_annals_sha_table)], narrowed := true }
def ShaHistoryUptoSaid : Prop := shaHistoryUptoRow.holds Tryd.pinned (OpenSpec.upto shaHistorySpec)

/-- 'annalslaw2.ShaSum', WHERE WHAT IT READS IS OF BULK AT MOST 1048576: true; the input reads as it did. -/
def shaSumUptoRow : OpenClaim := { program := "ytkhcinnpfpkhnaadoor", sum := "5b75c0423fea5fcc70037592434ece43c75adf71ab575fcf05a762d851b42559", func := "annals/annalslaw2.ShaSum", spec := "shaSum", unfollowed := true, recurses := true, named := ["annals/sha.begin", "annals/sha.table", "annals/annalsref2.first", "annals/annalsref2.table"], apart := false, laid := [("annals/annalsref2.first", laid_annals_annalsref2_first), ("annals/annalsref2.table", laid_annals_annalsref2_table), ("annals/sha.begin", laid_annals_sha_begin), ("annals/sha.table", laid_annals_sha_table)], narrowed := true }
def ShaSumUptoSaid : Prop := shaSumUptoRow.holds Tryd.pinned (OpenSpec.upto shaSumSpec)

/-- 'annalslaw2.ShaPieces', WHERE WHAT IT READS IS OF BULK AT MOST 1048576: true; the input reads as it did. -/
def shaPiecesUptoRow : OpenClaim := { program := "ytkhcinnpfpkhnaadoor", sum := "5b75c0423fea5fcc70037592434ece43c75adf71ab575fcf05a762d851b42559", func := "annals/annalslaw2.ShaPieces", spec := "shaPieces", unfollowed := true, recurses := true, named := ["annals/sha.begin", "annals/sha.table"], apart := false, laid := [("annals/sha.begin", laid_annals_sha_begin), ("annals/sha.table", laid_annals_sha_table)], narrowed := true }
def ShaPiecesUptoSaid : Prop := shaPiecesUptoRow.holds Tryd.pinned (OpenSpec.upto shaPiecesSpec)

/-- 'annalslaw2.ShaParts', WHERE WHAT IT READS IS OF BULK AT MOST 1048576: true; the input reads as it did. -/
def shaPartsUptoRow : OpenClaim := { program := "ytkhcinnpfpkhnaadoor", sum := "5b75c0423fea5fcc70037592434ece43c75adf71ab575fcf05a762d851b42559", func := "annals/annalslaw2.ShaParts", spec := "shaParts", unfollowed := true, recurses := true, named := ["annals/sha.begin", "annals/sha.table"], apart := false, laid := [("annals/sha.begin", laid_annals_sha_begin), ("annals/sha.table", laid_annals_sha_table)], narrowed := true }
def ShaPartsUptoSaid : Prop := shaPartsUptoRow.holds Tryd.pinned (OpenSpec.upto shaPartsSpec)

/-- 'annalslaw2.ShaKnown', WHERE WHAT IT READS IS OF BULK AT MOST 1048576: true; the input reads as it did. -/
def shaKnownUptoRow : OpenClaim := { program := "ytkhcinnpfpkhnaadoor", sum := "5b75c0423fea5fcc70037592434ece43c75adf71ab575fcf05a762d851b42559", func := "annals/annalslaw2.ShaKnown", spec := "shaKnown", unfollowed := true, recurses := true, named := ["annals/sha.begin", "annals/sha.table"], apart := false, laid := [("annals/sha.begin", laid_annals_sha_begin), ("annals/sha.table", laid_annals_sha_table)], narrowed := true }
def ShaKnownUptoSaid : Prop := shaKnownUptoRow.holds Tryd.pinned (OpenSpec.upto shaKnownSpec)

/-- 'annalslaw2.ShaCut', WHERE WHAT IT READS IS OF BULK AT MOST 1048576: true; the input reads as it did. -/
def shaCutUptoRow : OpenClaim := { program := "ytkhcinnpfpkhnaadoor", sum := "5b75c0423fea5fcc70037592434ece43c75adf71ab575fcf05a762d851b42559", func := "annals/annalslaw2.ShaCut", spec := "shaCut", unfollowed := true, recurses := true, named := ["annals/sha.begin", "annals/sha.table", "annals/annalsref2.first", "annals/annalsref2.table"], apart := false, laid := [("annals/annalsref2.first", laid_annals_annalsref2_first), ("annals/annalsref2.table", laid_annals_annalsref2_table), ("annals/sha.begin", laid_annals_sha_begin), ("annals/sha.table", laid_annals_sha_table)], narrowed := true }
def ShaCutUptoSaid : Prop := shaCutUptoRow.holds Tryd.pinned (OpenSpec.upto shaCutSpec)

/-- 'annalslaw2.ShaBegins', WHERE WHAT IT READS IS OF BULK AT MOST 1048576: true; the input reads as it did. -/
def shaBeginsUptoRow : OpenClaim := { program := "ytkhcinnpfpkhnaadoor", sum := "5b75c0423fea5fcc70037592434ece43c75adf71ab575fcf05a762d851b42559", func := "annals/annalslaw2.ShaBegins", spec := "shaBegins", unfollowed := true, recurses := true, named := ["annals/sha.begin", "annals/sha.table"], apart := false, laid := [("annals/sha.begin", laid_annals_sha_begin), ("annals/sha.table", laid_annals_sha_table)], narrowed := true }
def ShaBeginsUptoSaid : Prop := shaBeginsUptoRow.holds Tryd.pinned (OpenSpec.upto shaBeginsSpec)

/-- 'annalslaw3.MacNested', WHERE WHAT IT READS IS OF BULK AT MOST 1048576: true; the input reads as it did. -/
def macNestedUptoRow : OpenClaim := { program := "ytkhcinnpfpkhnaadoor", sum := "5b75c0423fea5fcc70037592434ece43c75adf71ab575fcf05a762d851b42559", func := "annals/annalslaw3.MacNested", spec := "macNested", unfollowed := true, recurses := true, named := ["annals/sha.begin", "annals/sha.table"], apart := false, laid := [("annals/sha.begin", laid_annals_sha_begin), ("annals/sha.table", laid_annals_sha_table)], narrowed := true }
def MacNestedUptoSaid : Prop := macNestedUptoRow.holds Tryd.pinned (OpenSpec.upto macNestedSpec)

/-- 'annalslaw3.MacKeyID', WHERE WHAT IT READS IS OF BULK AT MOST 1048576: true; the input reads as it did. -/
def macKeyIDUptoRow : OpenClaim := { program := "ytkhcinnpfpkhnaadoor", sum := "5b75c0423fea5fcc70037592434ece43c75adf71ab575fcf05a762d851b42559", func := "annals/annalslaw3.MacKeyID", spec := "macKeyID", unfollowed := true, recurses := true, named := ["annals/sha.begin", "annals/sha.table", "annals/annalsref2.first", "annals/annalsref2.table"], apart := false, laid := [("annals/annalsref2.first", laid_annals_annalsref2_first), ("annals/annalsref2.table", laid_annals_annalsref2_table), ("annals/sha.begin", laid_annals_sha_begin), ("annals/sha.table", laid_annals_sha_table)], narrowed := true }
def MacKeyIDUptoSaid : Prop := macKeyIDUptoRow.holds Tryd.pinned (OpenSpec.upto macKeyIDSpec)

/-- 'annalslaw3.MacSum', WHERE WHAT IT READS IS OF BULK AT MOST 1048576: true; the input reads as it did. -/
def macSumUptoRow : OpenClaim := { program := "ytkhcinnpfpkhnaadoor", sum := "5b75c0423fea5fcc70037592434ece43c75adf71ab575fcf05a762d851b42559", func := "annals/annalslaw3.MacSum", spec := "macSum", unfollowed := true, recurses := true, named := ["annals/sha.begin", "annals/sha.table", "annals/annalsref2.first", "annals/annalsref2.table"], apart := false, laid := [("annals/annalsref2.first", laid_annals_annalsref2_first), ("annals/annalsref2.table", laid_annals_annalsref2_table), ("annals/sha.begin", laid_annals_sha_begin), ("annals/sha.table", laid_annals_sha_table)], narrowed := true }
def MacSumUptoSaid : Prop := macSumUptoRow.holds Tryd.pinned (OpenSpec.upto macSumSpec)

/-- 'annalslaw3.MacDerive', WHERE WHAT IT READS IS OF BULK AT MOST 1048576: true; the input reads as it did. -/
def macDeriveUptoRow : OpenClaim := { program := "ytkhcinnpfpkhnaadoor", sum := "5b75c0423fea5fcc70037592434ece43c75adf71ab575fcf05a762d851b42559", func := "annals/annalslaw3.MacDerive", spec := "macDerive", unfollowed := true, recurses := true, named := ["annals/sha.begin", "annals/sha.table", "annals/annalsref2.first", "annals/annalsref2.table"], apart := false, laid := [("annals/annalsref2.first", laid_annals_annalsref2_first), ("annals/annalsref2.table", laid_annals_annalsref2_table), ("annals/sha.begin", laid_annals_sha_begin), ("annals/sha.table", laid_annals_sha_table)], narrowed := true }
def MacDeriveUptoSaid : Prop := macDeriveUptoRow.holds Tryd.pinned (OpenSpec.upto macDeriveSpec)

/-- 'annalslaw3.MacChain', WHERE WHAT IT READS IS OF BULK AT MOST 1048576: true; the input reads as it did. -/
def macChainUptoRow : OpenClaim := { program := "ytkhcinnpfpkhnaadoor", sum := "5b75c0423fea5fcc70037592434ece43c75adf71ab575fcf05a762d851b42559", func := "annals/annalslaw3.MacChain", spec := "macChain", unfollowed := true, recurses := true, named := ["annals/sha.begin", "annals/sha.table"], apart := false, laid := [("annals/sha.begin", laid_annals_sha_begin), ("annals/sha.table", laid_annals_sha_table)], narrowed := true }
def MacChainUptoSaid : Prop := macChainUptoRow.holds Tryd.pinned (OpenSpec.upto macChainSpec)

end Rows
end Go.Proofs.YtkhcinnpfpkhnaaDoor
