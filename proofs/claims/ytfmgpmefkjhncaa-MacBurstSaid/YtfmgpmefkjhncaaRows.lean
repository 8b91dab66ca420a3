/-
  No cell of these rows narrows 'for every input' (looked for: loops, veiled, ifaces, maps, wideKeys, modest, calm, conditions, laid).
  DERIVED. THE GIVEN ROWS OF THIS SEAT. 5 by the template 'for every input the law returns true; each argument reads behind the call as it read before'; 0 by the template 'total and deterministic' (their statements: YtfmgpmefkjhncaaTotals.lean).
  GIVEN WITH THE SEED: the statements are not yours to turn. If you find one false, say at which input.
  Laid BY PROGRAM, IN A SANDBOX (cutbox-rows.mjs): the forced cells as the released guide's own fill.sh prints them over the translation 1cb657c15fac3966… (all of the seat's roots in one cut). By AI agents, Wed Nov 11 2026. No macro, syntax, notation, axiom, sorry.
-/
import Derived.Test.YtfmgpmefkjhncaaChecked
import GoSem.Claim
import GoSem.ClaimJoined
import GoSem.ClaimMapViews
import Derived.JoinedTies
import Derived.KernelRfl
namespace Go.Proofs.Ytfmgpmefkjhncaa
/- THE CELL 'sum', in the pinned program and in every row, IS THE sha256 OF THE DUMP (.gsa) THAT YtfmgpmefkjhncaaProg.lean LOADS. Nothing in Lean hashes anything: it is a label: what it is worth is what the hold of that sum in a sandbox is worth. -/
noncomputable def Try.pinned : Pinned := { name := "ytfmgpmefkjhncaa", sum := "1cb657c15fac39662a1ea134e9d11ddeced7513c1b9bf3a470a246cffdd5432f", checked := Try.checked }
namespace Rows
def none {H : Type} : Left H := { results := [], args := [] }

/-- 'annalslaw3.MacNames': WHATEVER THE INPUT: true; the input reads as it did. -/
def macNamesSpec : ChangeSpec := { name := "macNames", fn := fun _ => fun
  | [] => { results := [.lit (.bool true)], args := [] }
  | _ => none }
def macNamesRow : OpenClaim := { program := "ytfmgpmefkjhncaa", sum := "1cb657c15fac39662a1ea134e9d11ddeced7513c1b9bf3a470a246cffdd5432f", func := "annals/annalslaw3.MacNames", spec := "macNames", apart := false }
def MacNamesSaid : Prop := macNamesRow.holds Try.pinned (OpenSpec.ofChange macNamesSpec)

/-- ITS FALSE NEIGHBOUR: 'it returns false'. Refute it at one input. -/
def macNamesWrong : ChangeSpec := { name := "macNames", fn := fun _ => fun
  | [] => { results := [.lit (.bool false)], args := [] }
  | _ => none }
def MacNamesWrongFalsely : Prop := macNamesRow.holds Try.pinned (OpenSpec.ofChange macNamesWrong)

/-- 'annalslaw3.MacCrc': WHATEVER THE INPUT: true; the input reads as it did. -/
def macCrcSpec : ChangeSpec := { name := "macCrc", fn := fun _ => fun
  | [d1, d2] => { results := [.lit (.bool true)], args := [d1, d2] }
  | _ => none }
def macCrcRow : OpenClaim := { program := "ytfmgpmefkjhncaa", sum := "1cb657c15fac39662a1ea134e9d11ddeced7513c1b9bf3a470a246cffdd5432f", func := "annals/annalslaw3.MacCrc", spec := "macCrc", apart := false }
def MacCrcSaid : Prop := macCrcRow.holds Try.pinned (OpenSpec.ofChange macCrcSpec)

/-- ITS FALSE NEIGHBOUR: 'it returns false'. Refute it at one input. -/
def macCrcWrong : ChangeSpec := { name := "macCrc", fn := fun _ => fun
  | [d1, d2] => { results := [.lit (.bool false)], args := [d1, d2] }
  | _ => none }
def MacCrcWrongFalsely : Prop := macCrcRow.holds Try.pinned (OpenSpec.ofChange macCrcWrong)

/-- 'annalslaw3.MacOn': WHATEVER THE INPUT: true; the input reads as it did. -/
def macOnSpec : ChangeSpec := { name := "macOn", fn := fun _ => fun
  | [d1, d2] => { results := [.lit (.bool true)], args := [d1, d2] }
  | _ => none }
def macOnRow : OpenClaim := { program := "ytfmgpmefkjhncaa", sum := "1cb657c15fac39662a1ea134e9d11ddeced7513c1b9bf3a470a246cffdd5432f", func := "annals/annalslaw3.MacOn", spec := "macOn", apart := false }
def MacOnSaid : Prop := macOnRow.holds Try.pinned (OpenSpec.ofChange macOnSpec)

/-- ITS FALSE NEIGHBOUR: 'it returns false'. Refute it at one input. -/
def macOnWrong : ChangeSpec := { name := "macOn", fn := fun _ => fun
  | [d1, d2] => { results := [.lit (.bool false)], args := [d1, d2] }
  | _ => none }
def MacOnWrongFalsely : Prop := macOnRow.holds Try.pinned (OpenSpec.ofChange macOnWrong)

/-- 'annalslaw3.MacBurst': WHATEVER THE INPUT: true; the input reads as it did. -/
def macBurstSpec : ChangeSpec := { name := "macBurst", fn := fun _ => fun
  | [d1, d2, d3] => { results := [.lit (.bool true)], args := [d1, d2, d3] }
  | _ => none }
def macBurstRow : OpenClaim := { program := "ytfmgpmefkjhncaa", sum := "1cb657c15fac39662a1ea134e9d11ddeced7513c1b9bf3a470a246cffdd5432f", func := "annals/annalslaw3.MacBurst", spec := "macBurst", apart := false }
def MacBurstSaid : Prop := macBurstRow.holds Try.pinned (OpenSpec.ofChange macBurstSpec)

/-- ITS FALSE NEIGHBOUR: 'it returns false'. Refute it at one input. -/
def macBurstWrong : ChangeSpec := { name := "macBurst", fn := fun _ => fun
  | [d1, d2, d3] => { results := [.lit (.bool false)], args := [d1, d2, d3] }
  | _ => none }
def MacBurstWrongFalsely : Prop := macBurstRow.holds Try.pinned (OpenSpec.ofChange macBurstWrong)

/-- 'annalslaw3.MacLinear': WHATEVER THE INPUT: true; the input reads as it did. -/
def macLinearSpec : ChangeSpec := { name := "macLinear", fn := fun _ => fun
  | [d1, d2, d3] => { results := [.lit (.bool true)], args := [d1, d2, d3] }
  | _ => none }
def macLinearRow : OpenClaim := { program := "ytfmgpmefkjhncaa", sum := "1cb657c15fac39662a1ea134e9d11ddeced7513c1b9bf3a470a246cffdd5432f", func := "annals/annalslaw3.MacLinear", spec := "macLinear", apart := false }
def MacLinearSaid : Prop := macLinearRow.holds Try.pinned (OpenSpec.ofChange macLinearSpec)

/-- ITS FALSE NEIGHBOUR: 'it returns false'. Refute it at one input. -/
def macLinearWrong : ChangeSpec := { name := "macLinear", fn := fun _ => fun
  | [d1, d2, d3] => { results := [.lit (.bool false)], args := [d1, d2, d3] }
  | _ => none }
def MacLinearWrongFalsely : Prop := macLinearRow.holds Try.pinned (OpenSpec.ofChange macLinearWrong)

/- THE SECOND FORM. 'bulk': how many values and letters a reading holds, each counted each time it is reached (what is shared counts as often as it is met; a slice's spare places count too). A statement '..UptoSaid' is the law's where the arguments, and the package variables that the reading takes, are together of bulk at most 1048576: NARROWER than '..Said'. Prove '..Said' where nothing that the law and all that it calls make is longer than what came in: it says more and counts as full. Else prove '..UptoSaid'. A law counts once. -/
mutual
def uptoBulk {H : Type} : DataW H → Nat
  | .lit (.string bytes) => bytes.length + 1
  | .lit _ => 1
  | .nil => 1
  | .ptr d => uptoBulk d + 1
  | .slice elems spare => uptoBulkAll elems + uptoBulkAll spare + 1
  | .agg parts => uptoBulkAll parts + 1
  | .iface _ d => uptoBulk d + 1
  | .map entries => uptoBulkEntries entries + 1
  | .held _ => 1
def uptoBulkAll {H : Type} : List (DataW H) → Nat
  | [] => 0
  | d :: r => uptoBulk d + uptoBulkAll r
def uptoBulkEntries {H : Type} : List (Lit × DataW H) → Nat
  | [] => 0
  | x :: r => uptoBulkEntry x + uptoBulkEntries r
def uptoBulkEntry {H : Type} : Lit × DataW H → Nat
  | (.string bytes, d) => bytes.length + uptoBulk d + 1
  | (_, d) => uptoBulk d + 1
 end
def uptoSmall : (H : Type) → List (DataW H) → Bool := fun _ ds => decide (uptoBulkAll ds ≤ 1048576)
def OpenSpec.upto (s : _root_.Go.ChangeSpec) : _root_.Go.OpenSpec := { _root_.Go.OpenSpec.ofChange s with cond := some uptoSmall }

/-- 'annalslaw3.MacNames', WHERE WHAT IT READS IS OF BULK AT MOST 1048576: true; the input reads as it did. -/
def macNamesUptoRow : OpenClaim := { program := "ytfmgpmefkjhncaa", sum := "1cb657c15fac39662a1ea134e9d11ddeced7513c1b9bf3a470a246cffdd5432f", func := "annals/annalslaw3.MacNames", spec := "macNames", apart := false, narrowed := true }
def MacNamesUptoSaid : Prop := macNamesUptoRow.holds Try.pinned (OpenSpec.upto macNamesSpec)

/-- 'annalslaw3.MacCrc', WHERE WHAT IT READS IS OF BULK AT MOST 1048576: true; the input reads as it did. -/
def macCrcUptoRow : OpenClaim := { program := "ytfmgpmefkjhncaa", sum := "1cb657c15fac39662a1ea134e9d11ddeced7513c1b9bf3a470a246cffdd5432f", func := "annals/annalslaw3.MacCrc", spec := "macCrc", apart := false, narrowed := true }
def MacCrcUptoSaid : Prop := macCrcUptoRow.holds Try.pinned (OpenSpec.upto macCrcSpec)

/-- 'annalslaw3.MacOn', WHERE WHAT IT READS IS OF BULK AT MOST 1048576: true; the input reads as it did. -/
def macOnUptoRow : OpenClaim := { program := "ytfmgpmefkjhncaa", sum := "1cb657c15fac39662a1ea134e9d11ddeced7513c1b9bf3a470a246cffdd5432f", func := "annals/annalslaw3.MacOn", spec := "macOn", apart := false, narrowed := true }
def MacOnUptoSaid : Prop := macOnUptoRow.holds Try.pinned (OpenSpec.upto macOnSpec)

/-- 'annalslaw3.MacBurst', WHERE WHAT IT READS IS OF BULK AT MOST 1048576: true; the input reads as it did. -/
def macBurstUptoRow : OpenClaim := { program := "ytfmgpmefkjhncaa", sum := "1cb657c15fac39662a1ea134e9d11ddeced7513c1b9bf3a470a246cffdd5432f", func := "annals/annalslaw3.MacBurst", spec := "macBurst", apart := false, narrowed := true }
def MacBurstUptoSaid : Prop := macBurstUptoRow.holds Try.pinned (OpenSpec.upto macBurstSpec)

/-- 'annalslaw3.MacLinear', WHERE WHAT IT READS IS OF BULK AT MOST 1048576: true; the input reads as it did. -/
def macLinearUptoRow : OpenClaim := { program := "ytfmgpmefkjhncaa", sum := "1cb657c15fac39662a1ea134e9d11ddeced7513c1b9bf3a470a246cffdd5432f", func := "annals/annalslaw3.MacLinear", spec := "macLinear", apart := false, narrowed := true }
def MacLinearUptoSaid : Prop := macLinearUptoRow.holds Try.pinned (OpenSpec.upto macLinearSpec)

end Rows
end Go.Proofs.Ytfmgpmefkjhncaa
