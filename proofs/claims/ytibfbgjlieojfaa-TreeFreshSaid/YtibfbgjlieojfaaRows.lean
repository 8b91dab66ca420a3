/-
  No cell of these rows narrows 'for every input' (looked for: loops, veiled, ifaces, maps, wideKeys, modest, calm, conditions, laid).
  DERIVED. THE GIVEN ROWS OF THIS SEAT. 7 by the template 'for every input the law returns true; each argument reads behind the call as it read before'; 0 by the template 'total and deterministic' (their statements: YtibfbgjlieojfaaTotals.lean).
  GIVEN WITH THE SEED: the statements are not yours to turn. If you find one false, say at which input.
  Laid BY PROGRAM, IN A SANDBOX (cutbox-rows.mjs): the forced cells as the released guide's own fill.sh prints them over the translation 803ff14ec14049b6… (all of the seat's roots in one cut). By AI agents, Wed Nov 11 2026. No macro, syntax, notation, axiom, sorry.
-/
import Derived.Test.YtibfbgjlieojfaaChecked
import GoSem.Claim
import GoSem.ClaimJoined
import GoSem.ClaimMapViews
import Derived.JoinedTies
import Derived.KernelRfl
namespace Go.Proofs.Ytibfbgjlieojfaa
/- THE CELL 'sum', in the pinned program and in every row, IS THE sha256 OF THE DUMP (.gsa) THAT YtibfbgjlieojfaaProg.lean LOADS. Nothing in Lean hashes anything: it is a label: what it is worth is what the hold of that sum in a sandbox is worth. -/
noncomputable def Try.pinned : Pinned := { name := "ytibfbgjlieojfaa", sum := "803ff14ec14049b6a09179bc2ac5cf44487091cbb989864cbbc0b92134d00941", checked := Try.checked }
namespace Rows
def none {H : Type} : Left H := { results := [], args := [] }

/-- 'annalslaw5.TreeNames': WHATEVER THE INPUT: true; the input reads as it did. -/
def treeNamesSpec : ChangeSpec := { name := "treeNames", fn := fun _ => fun
  | [] => { results := [.lit (.bool true)], args := [] }
  | _ => none }
def treeNamesRow : OpenClaim := { program := "ytibfbgjlieojfaa", sum := "803ff14ec14049b6a09179bc2ac5cf44487091cbb989864cbbc0b92134d00941", func := "annals/annalslaw5.TreeNames", spec := "treeNames", apart := false }
def TreeNamesSaid : Prop := treeNamesRow.holds Try.pinned (OpenSpec.ofChange treeNamesSpec)

/-- ITS FALSE NEIGHBOUR: 'it returns false'. Refute it at one input. -/
def treeNamesWrong : ChangeSpec := { name := "treeNames", fn := fun _ => fun
  | [] => { results := [.lit (.bool false)], args := [] }
  | _ => none }
def TreeNamesWrongFalsely : Prop := treeNamesRow.holds Try.pinned (OpenSpec.ofChange treeNamesWrong)

/-- 'annalslaw5.TreeAddr': WHATEVER THE INPUT: true; the input reads as it did. -/
def treeAddrSpec : ChangeSpec := { name := "treeAddr", fn := fun _ => fun
  | [d] => { results := [.lit (.bool true)], args := [d] }
  | _ => none }
def treeAddrRow : OpenClaim := { program := "ytibfbgjlieojfaa", sum := "803ff14ec14049b6a09179bc2ac5cf44487091cbb989864cbbc0b92134d00941", func := "annals/annalslaw5.TreeAddr", spec := "treeAddr", apart := false }
def TreeAddrSaid : Prop := treeAddrRow.holds Try.pinned (OpenSpec.ofChange treeAddrSpec)

/-- ITS FALSE NEIGHBOUR: 'it returns false'. Refute it at one input. -/
def treeAddrWrong : ChangeSpec := { name := "treeAddr", fn := fun _ => fun
  | [d] => { results := [.lit (.bool false)], args := [d] }
  | _ => none }
def TreeAddrWrongFalsely : Prop := treeAddrRow.holds Try.pinned (OpenSpec.ofChange treeAddrWrong)

/-- 'annalslaw5.TreeKin': WHATEVER THE INPUT: true; the input reads as it did. -/
def treeKinSpec : ChangeSpec := { name := "treeKin", fn := fun _ => fun
  | [d] => { results := [.lit (.bool true)], args := [d] }
  | _ => none }
def treeKinRow : OpenClaim := { program := "ytibfbgjlieojfaa", sum := "803ff14ec14049b6a09179bc2ac5cf44487091cbb989864cbbc0b92134d00941", func := "annals/annalslaw5.TreeKin", spec := "treeKin", apart := false }
def TreeKinSaid : Prop := treeKinRow.holds Try.pinned (OpenSpec.ofChange treeKinSpec)

/-- ITS FALSE NEIGHBOUR: 'it returns false'. Refute it at one input. -/
def treeKinWrong : ChangeSpec := { name := "treeKin", fn := fun _ => fun
  | [d] => { results := [.lit (.bool false)], args := [d] }
  | _ => none }
def TreeKinWrongFalsely : Prop := treeKinRow.holds Try.pinned (OpenSpec.ofChange treeKinWrong)

/-- 'annalslaw5.TreeCover': WHATEVER THE INPUT: true; the input reads as it did. -/
def treeCoverSpec : ChangeSpec := { name := "treeCover", fn := fun _ => fun
  | [d1, d2] => { results := [.lit (.bool true)], args := [d1, d2] }
  | _ => none }
def treeCoverRow : OpenClaim := { program := "ytibfbgjlieojfaa", sum := "803ff14ec14049b6a09179bc2ac5cf44487091cbb989864cbbc0b92134d00941", func := "annals/annalslaw5.TreeCover", spec := "treeCover", unfollowed := true, recurses := true, apart := false }
def TreeCoverSaid : Prop := treeCoverRow.holds Try.pinned (OpenSpec.ofChange treeCoverSpec)

/-- ITS FALSE NEIGHBOUR: 'it returns false'. Refute it at one input. -/
def treeCoverWrong : ChangeSpec := { name := "treeCover", fn := fun _ => fun
  | [d1, d2] => { results := [.lit (.bool false)], args := [d1, d2] }
  | _ => none }
def TreeCoverWrongFalsely : Prop := treeCoverRow.holds Try.pinned (OpenSpec.ofChange treeCoverWrong)

/-- 'annalslaw5.TreeFresh': WHATEVER THE INPUT: true; the input reads as it did. -/
def treeFreshSpec : ChangeSpec := { name := "treeFresh", fn := fun _ => fun
  | [d1, d2, d3, d4] => { results := [.lit (.bool true)], args := [d1, d2, d3, d4] }
  | _ => none }
def treeFreshRow : OpenClaim := { program := "ytibfbgjlieojfaa", sum := "803ff14ec14049b6a09179bc2ac5cf44487091cbb989864cbbc0b92134d00941", func := "annals/annalslaw5.TreeFresh", spec := "treeFresh", unfollowed := true, recurses := true, apart := false }
def TreeFreshSaid : Prop := treeFreshRow.holds Try.pinned (OpenSpec.ofChange treeFreshSpec)

/-- ITS FALSE NEIGHBOUR: 'it returns false'. Refute it at one input. -/
def treeFreshWrong : ChangeSpec := { name := "treeFresh", fn := fun _ => fun
  | [d1, d2, d3, d4] => { results := [.lit (.bool false)], args := [d1, d2, d3, d4] }
  | _ => none }
def TreeFreshWrongFalsely : Prop := treeFreshRow.holds Try.pinned (OpenSpec.ofChange treeFreshWrong)

/-- 'annalslaw5.TreePeaks': WHATEVER THE INPUT: true; the input reads as it did. -/
def treePeaksSpec : ChangeSpec := { name := "treePeaks", fn := fun _ => fun
  | [d] => { results := [.lit (.bool true)], args := [d] }
  | _ => none }
def treePeaksRow : OpenClaim := { program := "ytibfbgjlieojfaa", sum := "803ff14ec14049b6a09179bc2ac5cf44487091cbb989864cbbc0b92134d00941", func := "annals/annalslaw5.TreePeaks", spec := "treePeaks", unfollowed := true, recurses := true, apart := false }
def TreePeaksSaid : Prop := treePeaksRow.holds Try.pinned (OpenSpec.ofChange treePeaksSpec)

/-- ITS FALSE NEIGHBOUR: 'it returns false'. Refute it at one input. -/
def treePeaksWrong : ChangeSpec := { name := "treePeaks", fn := fun _ => fun
  | [d] => { results := [.lit (.bool false)], args := [d] }
  | _ => none }
def TreePeaksWrongFalsely : Prop := treePeaksRow.holds Try.pinned (OpenSpec.ofChange treePeaksWrong)

/-- 'annalslaw5.TreeTiles': WHATEVER THE INPUT: true; the input reads as it did. -/
def treeTilesSpec : ChangeSpec := { name := "treeTiles", fn := fun _ => fun
  | [d1, d2] => { results := [.lit (.bool true)], args := [d1, d2] }
  | _ => none }
def treeTilesRow : OpenClaim := { program := "ytibfbgjlieojfaa", sum := "803ff14ec14049b6a09179bc2ac5cf44487091cbb989864cbbc0b92134d00941", func := "annals/annalslaw5.TreeTiles", spec := "treeTiles", unfollowed := true, recurses := true, apart := false }
def TreeTilesSaid : Prop := treeTilesRow.holds Try.pinned (OpenSpec.ofChange treeTilesSpec)

/-- ITS FALSE NEIGHBOUR: 'it returns false'. Refute it at one input. -/
def treeTilesWrong : ChangeSpec := { name := "treeTiles", fn := fun _ => fun
  | [d1, d2] => { results := [.lit (.bool false)], args := [d1, d2] }
  | _ => none }
def TreeTilesWrongFalsely : Prop := treeTilesRow.holds Try.pinned (OpenSpec.ofChange treeTilesWrong)

/- THE SECOND FORM. 'bulk': how many values and letters a reading holds, each counted each time it is reached (what is shared counts as often as it is met; a slice's spare places count too). A statement '..UptoSaid' is the law's where the arguments, and the package variables that the reading takes, are together of bulk at most 1048576: NARROWER than '..Said'. Prove '..Said' where nothing that the law and all that it calls make is longer than what came in: it says more and counts as full. Else prove '..UptoSaid'. A law counts once. -/
mutual
def uptoBulk {H : Type} : DataW H → Nat
  | .lit (.string bytes) => bytes.length + 1
  | .lit _ => 1
  | .nil => 1
  | .ptr d => uptoBulk d + 1
  | .slice elems spare => uptoBulkAll elems + uptoBulkAll spare + 1
  | .agg parts => uptoBulkAll parts + 1
  | .iface _ d => uptoBulk d + 1
  | .map entries => uptoBulkEntries entries + 1
  | .held _ => 1
def uptoBulkAll {H : Type} : List (DataW H) → Nat
  | [] => 0
  | d :: r => uptoBulk d + uptoBulkAll r
def uptoBulkEntries {H : Type} : List (Lit × DataW H) → Nat
  | [] => 0
  | x :: r => uptoBulkEntry x + uptoBulkEntries r
def uptoBulkEntry {H : Type} : Lit × DataW H → Nat
  | (.string bytes, d) => bytes.length + uptoBulk d + 1
  | (_, d) => uptoBulk d + 1
 end
def uptoSmall : (H : Type) → List (DataW H) → Bool := fun _ ds => decide (uptoBulkAll ds ≤ 1048576)
def OpenSpec.upto (s : _root_.Go.ChangeSpec) : _root_.Go.OpenSpec := { _root_.Go.OpenSpec.ofChange s with cond := some uptoSmall }

/-- 'annalslaw5.TreeNames', WHERE WHAT IT READS IS OF BULK AT MOST 1048576: true; the input reads as it did. -/
def treeNamesUptoRow : OpenClaim := { program := "ytibfbgjlieojfaa", sum := "803ff14ec14049b6a09179bc2ac5cf44487091cbb989864cbbc0b92134d00941", func := "annals/annalslaw5.TreeNames", spec := "treeNames", apart := false, narrowed := true }
def TreeNamesUptoSaid : Prop := treeNamesUptoRow.holds Try.pinned (OpenSpec.upto treeNamesSpec)

/-- 'annalslaw5.TreeAddr', WHERE WHAT IT READS IS OF BULK AT MOST 1048576: true; the input reads as it did. -/
def treeAddrUptoRow : OpenClaim := { program := "ytibfbgjlieojfaa", sum := "803ff14ec14049b6a09179bc2ac5cf44487091cbb989864cbbc0b92134d00941", func := "annals/annalslaw5.TreeAddr", spec := "treeAddr", apart := false, narrowed := true }
def TreeAddrUptoSaid : Prop := treeAddrUptoRow.holds Try.pinned (OpenSpec.upto treeAddrSpec)

/-- 'annalslaw5.TreeKin', WHERE WHAT IT READS IS OF BULK AT MOST 1048576: true; the input reads as it did. -/
def treeKinUptoRow : OpenClaim := { program := "ytibfbgjlieojfaa", sum := "803ff14ec14049b6a09179bc2ac5cf44487091cbb989864cbbc0b92134d00941", func := "annals/annalslaw5.TreeKin", spec := "treeKin", apart := false, narrowed := true }
def TreeKinUptoSaid : Prop := treeKinUptoRow.holds Try.pinned (OpenSpec.upto treeKinSpec)

/-- 'annalslaw5.TreeCover', WHERE WHAT IT READS IS OF BULK AT MOST 1048576: true; the input reads as it did. -/
def treeCoverUptoRow : OpenClaim := { program := "ytibfbgjlieojfaa", sum := "803ff14ec14049b6a09179bc2ac5cf44487091cbb989864cbbc0b92134d00941", func := "annals/annalslaw5.TreeCover", spec := "treeCover", unfollowed := true, recurses := true, apart := false, narrowed := true }
def TreeCoverUptoSaid : Prop := treeCoverUptoRow.holds Try.pinned (OpenSpec.upto treeCoverSpec)

/-- 'annalslaw5.TreeFresh', WHERE WHAT IT READS IS OF BULK AT MOST 1048576: true; the input reads as it did. -/
def treeFreshUptoRow : OpenClaim := { program := "ytibfbgjlieojfaa", sum := "803ff14ec14049b6a09179bc2ac5cf44487091cbb989864cbbc0b92134d00941", func := "annals/annalslaw5.TreeFresh", spec := "treeFresh", unfollowed := true, recurses := true, apart := false, narrowed := true }
def TreeFreshUptoSaid : Prop := treeFreshUptoRow.holds Try.pinned (OpenSpec.upto treeFreshSpec)

/-- 'annalslaw5.TreePeaks', WHERE WHAT IT READS IS OF BULK AT MOST 1048576: true; the input reads as it did. -/
def treePeaksUptoRow : OpenClaim := { program := "ytibfbgjlieojfaa", sum := "803ff14ec14049b6a09179bc2ac5cf44487091cbb989864cbbc0b92134d00941", func := "annals/annalslaw5.TreePeaks", spec := "treePeaks", unfollowed := true, recurses := true, apart := false, narrowed := true }
def TreePeaksUptoSaid : Prop := treePeaksUptoRow.holds Try.pinned (OpenSpec.upto treePeaksSpec)

/-- 'annalslaw5.TreeTiles', WHERE WHAT IT READS IS OF BULK AT MOST 1048576: true; the input reads as it did. -/
def treeTilesUptoRow : OpenClaim := { program := "ytibfbgjlieojfaa", sum := "803ff14ec14049b6a09179bc2ac5cf44487091cbb989864cbbc0b92134d00941", func := "annals/annalslaw5.TreeTiles", spec := "treeTiles", unfollowed := true, recurses := true, apart := false, narrowed := true }
def TreeTilesUptoSaid : Prop := treeTilesUptoRow.holds Try.pinned (OpenSpec.upto treeTilesSpec)

end Rows
end Go.Proofs.Ytibfbgjlieojfaa
