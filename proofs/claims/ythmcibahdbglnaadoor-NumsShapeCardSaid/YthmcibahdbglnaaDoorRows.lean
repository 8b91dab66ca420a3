/-
  NARROWER THAN 'FOR EVERY INPUT', by the rows' own cells (each row's printed sentence says how): NumsDigits: laid · NumsShape: laid.
  DERIVED. THE GIVEN ROWS OF THIS SEAT. 2 by the template 'for every input the law returns true; each argument reads behind the call as it read before'; 0 by the template 'total and deterministic' (their statements: YthmcibahdbglnaaDoorTotals.lean).
  GIVEN WITH THE SEED: the statements are not yours to turn. If you find one false, say at which input.
  Laid BY PROGRAM, IN A SANDBOX (cutbox-rows.mjs): the forced cells as the released guide's own fill.sh prints them over the translation 67e821979b19b479… (all of the seat's roots in one cut). By AI agents, Wed Nov 11 2026. No macro, syntax, notation, axiom, sorry.
-/
import Derived.Test.YthmcibahdbglnaaDoorChecked
import GoSem.Claim
import GoSem.ClaimJoined
import GoSem.ClaimMapViews
import Derived.JoinedTies
import Derived.KernelRfl
namespace Go.Proofs.YthmcibahdbglnaaDoor
/- THE CELL 'sum', in the pinned program and in every row, IS THE sha256 OF THE DUMP (.gsa) THAT YthmcibahdbglnaaDoorProg.lean LOADS. Nothing in Lean hashes anything: it is a label: what it is worth is what the hold of that sum in a sandbox is worth. -/
noncomputable def Tryd.pinned : Pinned := { name := "ythmcibahdbglnaadoor", sum := "67e821979b19b479d931057b786c1c112347b2701452d1be39a975de2fe5b5d9", checked := Tryd.checked }
namespace Rows
def none {H : Type} : Left H := { results := [], args := [] }

/- WHAT THE LISTED PACKAGE-LEVEL VARIABLES READ AS WHEN THE CALL BEGINS. Each datum BY PROGRAM (the guide's laid-datum.mjs) off the statement by which the dump's own 'gosem.cut.vars' lays the variable. In a bare row this is a premise. The card (YthmcibahdbglnaaDoorCards.lean) ties it to the program's text. -/
def laid_annals_nums_halves {H : Type} : DataW H := .agg [.lit (.int .i64 0), .lit (.int .i64 1), .lit (.int .i64 1), .lit (.int .i64 2), .lit (.int .i64 1), .lit (.int .i64 2), .lit (.int .i64 2), .lit (.int .i64 3), .lit (.int .i64 1), .lit (.int .i64 2), .lit (.int .i64 2), .lit (.int .i64 3), .lit (.int .i64 2), .lit (.int .i64 3), .lit (.int .i64 3), .lit (.int .i64 4)]

/-- 'annalslaw1.NumsDigits': WHATEVER THE INPUT: true; the input reads as it did. -/
def numsDigitsSpec : ChangeSpec := { name := "numsDigits", fn := fun _ => fun
  | [d] => { results := [.lit (.bool true)], args := [d] }
  | _ => none }
def numsDigitsRow : OpenClaim := { program := "ythmcibahdbglnaadoor", sum := "67e821979b19b479d931057b786c1c112347b2701452d1be39a975de2fe5b5d9", func := "annals/annalslaw1.NumsDigits", spec := "numsDigits", named := ["annals/nums.halves"], apart := false, laid := [("annals/nums.halves", laid_annals_nums_halves)] }
def NumsDigitsSaid : Prop := numsDigitsRow.holds Tryd.pinned (OpenSpec.ofChange numsDigitsSpec)

/-- ITS FALSE NEIGHBOUR: 'it returns false'. Refute it at one input. -/
def numsDigitsWrong : ChangeSpec := { name := "numsDigits", fn := fun _ => fun
  | [d] => { results := [.lit (.bool false)], args := [d] }
  | _ => none }
def NumsDigitsWrongFalsely : Prop := numsDigitsRow.holds Tryd.pinned (OpenSpec.ofChange numsDigitsWrong)

/-- 'annalslaw1.NumsShape': WHATEVER THE INPUT: true; the input reads as it did. -/
def numsShapeSpec : ChangeSpec := { name := "numsShape", fn := fun _ => fun
  | [d] => { results := [.lit (.bool true)], args := [d] }
  | _ => none }
def numsShapeRow : OpenClaim := { program := "ythmcibahdbglnaadoor", sum := "67e821979b19b479d931057b786c1c112347b2701452d1be39a975de2fe5b5d9", func := "annals/annalslaw1.NumsShape", spec := "numsShape", named := ["annals/nums.halves"], apart := false, laid := [("annals/nums.halves", laid_annals_nums_halves)] }
def NumsShapeSaid : Prop := numsShapeRow.holds Tryd.pinned (OpenSpec.ofChange numsShapeSpec)

/-- ITS FALSE NEIGHBOUR: 'it returns false'. Refute it at one input. -/
def numsShapeWrong : ChangeSpec := { name := "numsShape", fn := fun _ => fun
  | [d] => { results := [.lit (.bool false)], args := [d] }
  | _ => none }
def NumsShapeWrongFalsely : Prop := numsShapeRow.holds Tryd.pinned (OpenSpec.ofChange numsShapeWrong)

/- THE SECOND FORM. 'bulk': how many values and letters a reading holds, each counted each time it is reached (what is shared counts as often as it is met; a slice's spare places count too). A statement '..UptoSaid' is the law's where the arguments, and the package variables that the reading takes, are together of bulk at most 1048576: NARROWER than '..Said'. Prove '..Said' where nothing that the law and all that it calls make is longer than what came in: it says more and counts as full. Else prove '..UptoSaid'. A law counts once. -/
mutual
def uptoBulk {H : Type} : DataW H → Nat
  | .lit (.string bytes) => bytes.length + 1
  | .lit _ => 1
  | .nil => 1
  | .ptr d => uptoBulk d + 1
  | .slice elems spare => uptoBulkAll elems + uptoBulkAll spare + 1
  | .agg parts => uptoBulkAll parts + 1
  | .iface _ d => uptoBulk d + 1
  | .map entries => uptoBulkEntries entries + 1
  | .held _ => 1
def uptoBulkAll {H : Type} : List (DataW H) → Nat
  | [] => 0
  | d :: r => uptoBulk d + uptoBulkAll r
def uptoBulkEntries {H : Type} : List (Lit × DataW H) → Nat
  | [] => 0
  | x :: r => uptoBulkEntry x + uptoBulkEntries r
def uptoBulkEntry {H : Type} : Lit × DataW H → Nat
  | (.string bytes, d) => bytes.length + uptoBulk d + 1
  | (_, d) => uptoBulk d + 1
 end
def uptoSmall : (H : Type) → List (DataW H) → Bool := fun _ ds => decide (uptoBulkAll ds ≤ 1048576)
def OpenSpec.upto (s : _root_.Go.ChangeSpec) : _root_.Go.OpenSpec := { _root_.Go.OpenSpec.ofChange s with cond := some uptoSmall }

/-- 'annalslaw1.NumsDigits', WHERE WHAT IT READS IS OF BULK AT MOST 1048576: true; the input reads as it did. -/
def numsDigitsUptoRow : OpenClaim := { program := "ythmcibahdbglnaadoor", sum := "67e821979b19b479d931057b786c1c112347b2701452d1be39a975de2fe5b5d9", func := "annals/annalslaw1.NumsDigits", spec := "numsDigits", named := ["annals/nums.halves"], apart := false, laid := [("annals/nums.halves", laid_annals_nums_halves)], narrowed := true }
def NumsDigitsUptoSaid : Prop := numsDigitsUptoRow.holds Tryd.pinned (OpenSpec.upto numsDigitsSpec)

/-- 'annalslaw1.NumsShape', WHERE WHAT IT READS IS OF BULK AT MOST 1048576: true; the input reads as it did. -/
def numsShapeUptoRow : OpenClaim := { program := "ythmcibahdbglnaadoor", sum := "67e821979b19b479d931057b786c1c112347b2701452d1be39a975de2fe5b5d9", func := "annals/annalslaw1.NumsShape", spec := "numsShape", named := ["annals/nums.halves"], apart := false, laid := [("annals/nums.halves", laid_annals_nums_halves)], narrowed := true }
def NumsShapeUptoSaid : Prop := numsShapeUptoRow.holds Tryd.pinned (OpenSpec.upto numsShapeSpec)

end Rows
end Go.Proofs.YthmcibahdbglnaaDoor
