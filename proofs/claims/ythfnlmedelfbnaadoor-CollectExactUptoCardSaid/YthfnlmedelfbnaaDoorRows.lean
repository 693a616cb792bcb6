/-
  NARROWER THAN 'FOR EVERY INPUT', by the rows' own cells (each row's printed sentence says how): CollectExact: laid.
  DERIVED. THE GIVEN ROWS OF THIS SEAT. 1 by the template 'for every input the law returns true; each argument reads behind the call as it read before'; 0 by the template 'total and deterministic' (their statements: YthfnlmedelfbnaaDoorTotals.lean).
  GIVEN WITH THE SEED: the statements are not yours to turn. If you find one false, say at which input.
  Laid BY PROGRAM, IN A SANDBOX (cutbox-rows.mjs): the forced cells as the released guide's own fill.sh prints them over the translation bc7b8d7ca9ae1062… (all of the seat's roots in one cut). By AI agents, Wed Nov 11 2026. No macro, syntax, notation, axiom, sorry.
-/
import Derived.Test.YthfnlmedelfbnaaDoorChecked
import GoSem.Claim
import GoSem.ClaimJoined
import GoSem.ClaimMapViews
import Derived.JoinedTies
import Derived.KernelRfl
namespace Go.Proofs.YthfnlmedelfbnaaDoor
/- THE CELL 'sum', in the pinned program and in every row, IS THE sha256 OF THE DUMP (.gsa) THAT YthfnlmedelfbnaaDoorProg.lean LOADS. Nothing in Lean hashes anything: it is a label: what it is worth is what the hold of that sum in a sandbox is worth. -/
noncomputable def Tryd.pinned : Pinned := { name := "ythfnlmedelfbnaadoor", sum := "bc7b8d7ca9ae106277a23f732ab5dd5b074b687914032bbc9bf634c9cf3d9713", checked := Tryd.checked }
namespace Rows
def none {H : Type} : Left H := { results := [], args := [] }

/- WHAT THE LISTED PACKAGE-LEVEL VARIABLES READ AS WHEN THE CALL BEGINS. Each datum BY PROGRAM (the guide's laid-datum.mjs) off the statement by which the dump's own 'gosem.cut.vars' lays the variable. In a bare row this is a premise. The card (YthfnlmedelfbnaaDoorCards.lean) ties it to the program's text. -/
def laid_arrears_collect_names {H : Type} : DataW H := .agg [.lit (.string []), .lit (.string [99, 117, 114, 114, 101, 110, 116]), .lit (.string [103, 114, 97, 99, 101]), .lit (.string [100, 101, 108, 105, 110, 113, 117, 101, 110, 116]), .lit (.string [112, 114, 111, 109, 105, 115, 101, 100]), .lit (.string [110, 111, 110, 45, 97, 99, 99, 114, 117, 97, 108]), .lit (.string [99, 117, 114, 101, 100]), .lit (.string [114, 101, 115, 116, 114, 117, 99, 116, 117, 114, 101, 100]), .lit (.string [99, 104, 97, 114, 103, 101, 100, 45, 111, 102, 102]), .lit (.string [99, 108, 111, 115, 101, 100])]

/-- 'arrearslaw13.CollectExact': WHATEVER THE INPUT: true; the input reads as it did. -/
def collectExactSpec : ChangeSpec := { name := "collectExact", fn := fun _ => fun
  | [d1, d2, d3] => { results := [.lit (.bool true)], args := [d1, d2, d3] }
  | _ => none }
def collectExactRow : OpenClaim := { program := "ythfnlmedelfbnaadoor", sum := "bc7b8d7ca9ae106277a23f732ab5dd5b074b687914032bbc9bf634c9cf3d9713", func := "arrears/arrearslaw13.CollectExact", spec := "collectExact", unfollowed := true, recurses := true, named := ["arrears/collect.names"], apart := false, laid := [("arrears/collect.names", laid_arrears_collect_names)] }
def CollectExactSaid : Prop := collectExactRow.holds Tryd.pinned (OpenSpec.ofChange collectExactSpec)

/-- ITS FALSE NEIGHBOUR: 'it returns false'. Refute it at one input. -/
def collectExactWrong : ChangeSpec := { name := "collectExact", fn := fun _ => fun
  | [d1, d2, d3] => { results := [.lit (.bool false)], args := [d1, d2, d3] }
  | _ => none }
def CollectExactWrongFalsely : Prop := collectExactRow.holds Tryd.pinned (OpenSpec.ofChange collectExactWrong)

/- THE SECOND FORM. 'bulk': how many values and letters a reading holds, each counted each time it is reached (what is shared counts as often as it is met; a slice's spare places count too). A statement '..UptoSaid' is the law's where the arguments, and the package variables that the reading takes, are together of bulk at most 1048576: NARROWER than '..Said'. Prove '..Said' where nothing that the law and all that it calls make is longer than what came in: it says more and counts as full. Else prove '..UptoSaid'. A law counts once. -/
mutual
def uptoBulk {H : Type} : DataW H → Nat
  | .lit (.string bytes) => bytes.length + 1
  | .lit _ => 1
  | .nil => 1
  | .ptr d => uptoBulk d + 1
  | .slice elems spare => uptoBulkAll elems + uptoBulkAll spare + 1
  | .agg parts => uptoBulkAll parts + 1
  | .iface _ d => uptoBulk d + 1
  | .map entries => uptoBulkEntries entries + 1
  | .held _ => 1
def uptoBulkAll {H : Type} : List (DataW H) → Nat
  | [] => 0
  | d :: r => uptoBulk d + uptoBulkAll r
def uptoBulkEntries {H : Type} : List (Lit × DataW H) → Nat
  | [] => 0
  | x :: r => uptoBulkEntry x + uptoBulkEntries r
def uptoBulkEntry {H : Type} : Lit × DataW H → Nat
  | (.string bytes, d) => bytes.length + uptoBulk d + 1
  | (_, d) => uptoBulk d + 1
 end
def uptoSmall : (H : Type) → List (DataW H) → Bool := fun _ ds => decide (uptoBulkAll ds ≤ 1048576)
def OpenSpec.upto (s : _root_.Go.ChangeSpec) : _root_.Go.OpenSpec := { _root_.Go.OpenSpec.ofChange s with cond := some uptoSmall }

/-- 'arrearslaw13.CollectExact', WHERE WHAT IT READS IS OF BULK AT MOST 1048576: true; the input reads as it did. -/
def collectExactUptoRow : OpenClaim := { program := "ythfnlmedelfbnaadoor", sum := "bc7b8d7ca9ae106277a23f732ab5dd5b074b687914032bbc9bf634c9cf3d9713", func := "arrears/arrearslaw13.CollectExact", spec := "collectExact", unfollowed := true, recurses := true, named := ["arrears/collect.names"], apart := false, laid := [("arrears/collect.names", laid_arrears_collect_names)], narrowed := true }
def CollectExactUptoSaid : Prop := collectExactUptoRow.holds Tryd.pinned (OpenSpec.upto collectExactSpec)

end Rows
end Go.Proofs.YthfnlmedelfbnaaDoor
