/-
  No cell of these rows narrows 'for every input' (looked for: loops, veiled, ifaces, maps, wideKeys, modest, calm, conditions, laid).
  DERIVED. THE GIVEN ROWS OF THIS SEAT. 8 by the template 'for every input the law returns true; each argument reads behind the call as it read before'; 0 by the template 'total and deterministic' (their statements: YthmcibahdbglnaaTotals.lean).
  GIVEN WITH THE SEED: the statements are not yours to turn. If you find one false, say at which input.
  Laid BY PROGRAM, IN A SANDBOX (cutbox-rows.mjs): the forced cells as the released guide's own fill.sh prints them over the translation 92ba08dc068a43db… (all of the seat's roots in one cut). By AI agents, Wed Nov 11 2026. No macro, syntax, notation, axiom, sorry.
-/
import Derived.Test.YthmcibahdbglnaaChecked
import GoSem.Claim
import GoSem.ClaimJoined
import GoSem.ClaimMapViews
import Derived.JoinedTies
import Derived.KernelRfl
namespace Go.Proofs.Ythmcibahdbglnaa
/- THE CELL 'sum', in the pinned program and in every row, IS THE sha256 OF THE DUMP (.gsa) THAT YthmcibahdbglnaaProg.lean LOADS. Nothing in Lean hashes anything: it is a label: what it is worth is what the hold of that sum in a sandbox is worth. -/
noncomputable def Try.pinned : Pinned := { name := "ythmcibahdbglnaa", sum := "92ba08dc068a43db0e543b3bf7f93eda7d14e1105f630378ad55f6549d16600b", checked := Try.checked }
namespace Rows
def none {H : Type} : Left H := { results := [], args := [] }

/-- 'annalslaw1.NumsNames': WHATEVER THE INPUT: true; the input reads as it did. -/
def numsNamesSpec : ChangeSpec := { name := "numsNames", fn := fun _ => fun
  | [] => { results := [.lit (.bool true)], args := [] }
  | _ => none }
def numsNamesRow : OpenClaim := { program := "ythmcibahdbglnaa", sum := "92ba08dc068a43db0e543b3bf7f93eda7d14e1105f630378ad55f6549d16600b", func := "annals/annalslaw1.NumsNames", spec := "numsNames", apart := false }
def NumsNamesSaid : Prop := numsNamesRow.holds Try.pinned (OpenSpec.ofChange numsNamesSpec)

/-- ITS FALSE NEIGHBOUR: 'it returns false'. Refute it at one input. -/
def numsNamesWrong : ChangeSpec := { name := "numsNames", fn := fun _ => fun
  | [] => { results := [.lit (.bool false)], args := [] }
  | _ => none }
def NumsNamesWrongFalsely : Prop := numsNamesRow.holds Try.pinned (OpenSpec.ofChange numsNamesWrong)

/-- 'annalslaw1.NumsSums': WHATEVER THE INPUT: true; the input reads as it did. -/
def numsSumsSpec : ChangeSpec := { name := "numsSums", fn := fun _ => fun
  | [d1, d2] => { results := [.lit (.bool true)], args := [d1, d2] }
  | _ => none }
def numsSumsRow : OpenClaim := { program := "ythmcibahdbglnaa", sum := "92ba08dc068a43db0e543b3bf7f93eda7d14e1105f630378ad55f6549d16600b", func := "annals/annalslaw1.NumsSums", spec := "numsSums", apart := false }
def NumsSumsSaid : Prop := numsSumsRow.holds Try.pinned (OpenSpec.ofChange numsSumsSpec)

/-- ITS FALSE NEIGHBOUR: 'it returns false'. Refute it at one input. -/
def numsSumsWrong : ChangeSpec := { name := "numsSums", fn := fun _ => fun
  | [d1, d2] => { results := [.lit (.bool false)], args := [d1, d2] }
  | _ => none }
def NumsSumsWrongFalsely : Prop := numsSumsRow.holds Try.pinned (OpenSpec.ofChange numsSumsWrong)

/-- 'annalslaw1.NumsPuts': WHATEVER THE INPUT: true; the input reads as it did. -/
def numsPutsSpec : ChangeSpec := { name := "numsPuts", fn := fun _ => fun
  | [d1, d2] => { results := [.lit (.bool true)], args := [d1, d2] }
  | _ => none }
def numsPutsRow : OpenClaim := { program := "ythmcibahdbglnaa", sum := "92ba08dc068a43db0e543b3bf7f93eda7d14e1105f630378ad55f6549d16600b", func := "annals/annalslaw1.NumsPuts", spec := "numsPuts", apart := false }
def NumsPutsSaid : Prop := numsPutsRow.holds Try.pinned (OpenSpec.ofChange numsPutsSpec)

/-- ITS FALSE NEIGHBOUR: 'it returns false'. Refute it at one input. -/
def numsPutsWrong : ChangeSpec := { name := "numsPuts", fn := fun _ => fun
  | [d1, d2] => { results := [.lit (.bool false)], args := [d1, d2] }
  | _ => none }
def NumsPutsWrongFalsely : Prop := numsPutsRow.holds Try.pinned (OpenSpec.ofChange numsPutsWrong)

/-- 'annalslaw1.NumsFixed': WHATEVER THE INPUT: true; the input reads as it did. -/
def numsFixedSpec : ChangeSpec := { name := "numsFixed", fn := fun _ => fun
  | [d1, d2, d3, d4, d5] => { results := [.lit (.bool true)], args := [d1, d2, d3, d4, d5] }
  | _ => none }
def numsFixedRow : OpenClaim := { program := "ythmcibahdbglnaa", sum := "92ba08dc068a43db0e543b3bf7f93eda7d14e1105f630378ad55f6549d16600b", func := "annals/annalslaw1.NumsFixed", spec := "numsFixed", apart := false }
def NumsFixedSaid : Prop := numsFixedRow.holds Try.pinned (OpenSpec.ofChange numsFixedSpec)

/-- ITS FALSE NEIGHBOUR: 'it returns false'. Refute it at one input. -/
def numsFixedWrong : ChangeSpec := { name := "numsFixed", fn := fun _ => fun
  | [d1, d2, d3, d4, d5] => { results := [.lit (.bool false)], args := [d1, d2, d3, d4, d5] }
  | _ => none }
def NumsFixedWrongFalsely : Prop := numsFixedRow.holds Try.pinned (OpenSpec.ofChange numsFixedWrong)

/-- 'annalslaw1.NumsBytes': WHATEVER THE INPUT: true; the input reads as it did. -/
def numsBytesSpec : ChangeSpec := { name := "numsBytes", fn := fun _ => fun
  | [d1, d2, d3] => { results := [.lit (.bool true)], args := [d1, d2, d3] }
  | _ => none }
def numsBytesRow : OpenClaim := { program := "ythmcibahdbglnaa", sum := "92ba08dc068a43db0e543b3bf7f93eda7d14e1105f630378ad55f6549d16600b", func := "annals/annalslaw1.NumsBytes", spec := "numsBytes", apart := false }
def NumsBytesSaid : Prop := numsBytesRow.holds Try.pinned (OpenSpec.ofChange numsBytesSpec)

/-- ITS FALSE NEIGHBOUR: 'it returns false'. Refute it at one input. -/
def numsBytesWrong : ChangeSpec := { name := "numsBytes", fn := fun _ => fun
  | [d1, d2, d3] => { results := [.lit (.bool false)], args := [d1, d2, d3] }
  | _ => none }
def NumsBytesWrongFalsely : Prop := numsBytesRow.holds Try.pinned (OpenSpec.ofChange numsBytesWrong)

/-- 'annalslaw1.NumsVarBack': WHATEVER THE INPUT: true; the input reads as it did. -/
def numsVarBackSpec : ChangeSpec := { name := "numsVarBack", fn := fun _ => fun
  | [d1, d2, d3] => { results := [.lit (.bool true)], args := [d1, d2, d3] }
  | _ => none }
def numsVarBackRow : OpenClaim := { program := "ythmcibahdbglnaa", sum := "92ba08dc068a43db0e543b3bf7f93eda7d14e1105f630378ad55f6549d16600b", func := "annals/annalslaw1.NumsVarBack", spec := "numsVarBack", apart := false }
def NumsVarBackSaid : Prop := numsVarBackRow.holds Try.pinned (OpenSpec.ofChange numsVarBackSpec)

/-- ITS FALSE NEIGHBOUR: 'it returns false'. Refute it at one input. -/
def numsVarBackWrong : ChangeSpec := { name := "numsVarBack", fn := fun _ => fun
  | [d1, d2, d3] => { results := [.lit (.bool false)], args := [d1, d2, d3] }
  | _ => none }
def NumsVarBackWrongFalsely : Prop := numsVarBackRow.holds Try.pinned (OpenSpec.ofChange numsVarBackWrong)

/-- 'annalslaw1.NumsVarForm': WHATEVER THE INPUT: true; the input reads as it did. -/
def numsVarFormSpec : ChangeSpec := { name := "numsVarForm", fn := fun _ => fun
  | [d1, d2, d3] => { results := [.lit (.bool true)], args := [d1, d2, d3] }
  | _ => none }
def numsVarFormRow : OpenClaim := { program := "ythmcibahdbglnaa", sum := "92ba08dc068a43db0e543b3bf7f93eda7d14e1105f630378ad55f6549d16600b", func := "annals/annalslaw1.NumsVarForm", spec := "numsVarForm", apart := false }
def NumsVarFormSaid : Prop := numsVarFormRow.holds Try.pinned (OpenSpec.ofChange numsVarFormSpec)

/-- ITS FALSE NEIGHBOUR: 'it returns false'. Refute it at one input. -/
def numsVarFormWrong : ChangeSpec := { name := "numsVarForm", fn := fun _ => fun
  | [d1, d2, d3] => { results := [.lit (.bool false)], args := [d1, d2, d3] }
  | _ => none }
def NumsVarFormWrongFalsely : Prop := numsVarFormRow.holds Try.pinned (OpenSpec.ofChange numsVarFormWrong)

/-- 'annalslaw1.NumsReads': WHATEVER THE INPUT: true; the input reads as it did. -/
def numsReadsSpec : ChangeSpec := { name := "numsReads", fn := fun _ => fun
  | [d1, d2, d3] => { results := [.lit (.bool true)], args := [d1, d2, d3] }
  | _ => none }
def numsReadsRow : OpenClaim := { program := "ythmcibahdbglnaa", sum := "92ba08dc068a43db0e543b3bf7f93eda7d14e1105f630378ad55f6549d16600b", func := "annals/annalslaw1.NumsReads", spec := "numsReads", apart := false }
def NumsReadsSaid : Prop := numsReadsRow.holds Try.pinned (OpenSpec.ofChange numsReadsSpec)

/-- ITS FALSE NEIGHBOUR: 'it returns false'. Refute it at one input. -/
def numsReadsWrong : ChangeSpec := { name := "numsReads", fn := fun _ => fun
  | [d1, d2, d3] => { results := [.lit (.bool false)], args := [d1, d2, d3] }
  | _ => none }
def NumsReadsWrongFalsely : Prop := numsReadsRow.holds Try.pinned (OpenSpec.ofChange numsReadsWrong)

/- THE SECOND FORM. 'bulk': how many values and letters a reading holds, each counted each time it is reached (what is shared counts as often as it is met; a slice's spare places count too). A statement '..UptoSaid' is the law's where the arguments, and the package variables that the reading takes, are together of bulk at most 1048576: NARROWER than '..Said'. Prove '..Said' where nothing that the law and all that it calls make is longer than what came in: it says more and counts as full. Else prove '..UptoSaid'. A law counts once. -/
mutual
def uptoBulk {H : Type} : DataW H → Nat
  | .lit (.string bytes) => bytes.length + 1
  | .lit _ => 1
  | .nil => 1
  | .ptr d => uptoBulk d + 1
  | .slice elems spare => uptoBulkAll elems + uptoBulkAll spare + 1
  | .agg parts => uptoBulkAll parts + 1
  | .iface _ d => uptoBulk d + 1
  | .map entries => uptoBulkEntries entries + 1
  | .held _ => 1
def uptoBulkAll {H : Type} : List (DataW H) → Nat
  | [] => 0
  | d :: r => uptoBulk d + uptoBulkAll r
def uptoBulkEntries {H : Type} : List (Lit × DataW H) → Nat
  | [] => 0
  | x :: r => uptoBulkEntry x + uptoBulkEntries r
def uptoBulkEntry {H : Type} : Lit × DataW H → Nat
  | (.string bytes, d) => bytes.length + uptoBulk d + 1
  | (_, d) => uptoBulk d + 1
 end
def uptoSmall : (H : Type) → List (DataW H) → Bool := fun _ ds => decide (uptoBulkAll ds ≤ 1048576)
def OpenSpec.upto (s : _root_.Go.ChangeSpec) : _root_.Go.OpenSpec := { _root_.Go.OpenSpec.ofChange s with cond := some uptoSmall }

/-- 'annalslaw1.NumsNames', WHERE WHAT IT READS IS OF BULK AT MOST 1048576: true; the input reads as it did. -/
def numsNamesUptoRow : OpenClaim := { program := "ythmcibahdbglnaa", sum := "92ba08dc068a43db0e543b3bf7f93eda7d14e1105f630378ad55f6549d16600b", func := "annals/annalslaw1.NumsNames", spec := "numsNames", apart := false, narrowed := true }
def NumsNamesUptoSaid : Prop := numsNamesUptoRow.holds Try.pinned (OpenSpec.upto numsNamesSpec)

/-- 'annalslaw1.NumsSums', WHERE WHAT IT READS IS OF BULK AT MOST 1048576: true; the input reads as it did. -/
def numsSumsUptoRow : OpenClaim := { program := "ythmcibahdbglnaa", sum := "92ba08dc068a43db0e543b3bf7f93eda7d14e1105f630378ad55f6549d16600b", func := "annals/annalslaw1.NumsSums", spec := "numsSums", apart := false, narrowed := true }
def NumsSumsUptoSaid : Prop := numsSumsUptoRow.holds Try.pinned (OpenSpec.upto numsSumsSpec)

/-- 'annalslaw1.NumsPuts', WHERE WHAT IT READS IS OF BULK AT MOST 1048576: true; the input reads as it did. -/
def numsPutsUptoRow : OpenClaim := { program := "ythmcibahdbglnaa", sum := "92ba08dc068a43db0e543b3bf7f93eda7d14e1105f630378ad55f6549d16600b", func := "annals/annalslaw1.NumsPuts", spec := "numsPuts", apart := false, narrowed := true }
def NumsPutsUptoSaid : Prop := numsPutsUptoRow.holds Try.pinned (OpenSpec.upto numsPutsSpec)

/-- 'annalslaw1.NumsFixed', WHERE WHAT IT READS IS OF BULK AT MOST 1048576: true; the input reads as it did. -/
def numsFixedUptoRow : OpenClaim := { program := "ythmcibahdbglnaa", sum := "92ba08dc068a43db0e543b3bf7f93eda7d14e1105f630378ad55f6549d16600b", func := "annals/annalslaw1.NumsFixed", spec := "numsFixed", apart := false, narrowed := true }
def NumsFixedUptoSaid : Prop := numsFixedUptoRow.holds Try.pinned (OpenSpec.upto numsFixedSpec)

/-- 'annalslaw1.NumsBytes', WHERE WHAT IT READS IS OF BULK AT MOST 1048576: true; the input reads as it did. -/
def numsBytesUptoRow : OpenClaim := { program := "ythmcibahdbglnaa", sum := "92ba08dc068a43db0e543b3bf7f93eda7d14e1105f630378ad55f6549d16600b", func := "annals/annalslaw1.NumsBytes", spec := "numsBytes", apart := false, narrowed := true }
def NumsBytesUptoSaid : Prop := numsBytesUptoRow.holds Try.pinned (OpenSpec.upto numsBytesSpec)

/-- 'annalslaw1.NumsVarBack', WHERE WHAT IT READS IS OF BULK AT MOST 1048576: true; the input reads as it did. -/
def numsVarBackUptoRow : OpenClaim := { program := "ythmcibahdbglnaa", sum := "92ba08dc068a43db0e543b3bf7f93eda7d14e1105f630378ad55f6549d16600b", func := "annals/annalslaw1.NumsVarBack", spec := "numsVarBack", apart := false, narrowed := true }
def NumsVarBackUptoSaid : Prop := numsVarBackUptoRow.holds Try.pinned (OpenSpec.upto numsVarBackSpec)

/-- 'annalslaw1.NumsVarForm', WHERE WHAT IT READS IS OF BULK AT MOST 1048576: true; the input reads as it did. -/
def numsVarFormUptoRow : OpenClaim := { program := "ythmcibahdbglnaa", sum := "92ba08dc068a43db0e543b3bf7f93eda7d14e1105f630378ad55f6549d16600b", func := "annals/annalslaw1.NumsVarForm", spec := "numsVarForm", apart := false, narrowed := true }
def NumsVarFormUptoSaid : Prop := numsVarFormUptoRow.holds Try.pinned (OpenSpec.upto numsVarFormSpec)

/-- 'annalslaw1.NumsReads', WHERE WHAT IT READS IS OF BULK AT MOST 1048576: true; the input reads as it did. -/
def numsReadsUptoRow : OpenClaim := { program := "ythmcibahdbglnaa", sum := "92ba08dc068a43db0e543b3bf7f93eda7d14e1105f630378ad55f6549d16600b", func := "annals/annalslaw1.NumsReads", spec := "numsReads", apart := false, narrowed := true }
def NumsReadsUptoSaid : Prop := numsReadsUptoRow.holds Try.pinned (OpenSpec.upto numsReadsSpec)

end Rows
end Go.Proofs.Ythmcibahdbglnaa
