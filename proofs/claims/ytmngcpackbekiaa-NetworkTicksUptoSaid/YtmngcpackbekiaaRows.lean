/-
  No cell of these rows narrows 'for every input' (looked for: loops, veiled, ifaces, maps, wideKeys, modest, calm, conditions, laid).
  DERIVED. THE GIVEN ROWS OF THIS SEAT. 7 by the template 'for every input the law returns true; each argument reads behind the call as it read before'; 0 by the template 'total and deterministic' (their statements: YtmngcpackbekiaaTotals.lean).
  GIVEN WITH THE SEED: the statements are not yours to turn. If you find one false, say at which input.
  Laid BY PROGRAM, IN A SANDBOX (cutbox-rows.mjs): the forced cells as the released guide's own fill.sh prints them over the translation ffba68eab5bb9922… (all of the seat's roots in one cut). By AI agents, Wed Nov 11 2026. No macro, syntax, notation, axiom, sorry.
-/
import Derived.Test.YtmngcpackbekiaaChecked
import GoSem.Claim
import GoSem.ClaimJoined
import GoSem.ClaimMapViews
import Derived.JoinedTies
import Derived.KernelRfl
namespace Go.Proofs.Ytmngcpackbekiaa
/- THE CELL 'sum', in the pinned program and in every row, IS THE sha256 OF THE DUMP (.gsa) THAT YtmngcpackbekiaaProg.lean LOADS. Nothing in Lean hashes anything: it is a label: what it is worth is what the hold of that sum in a sandbox is worth. -/
noncomputable def Try.pinned : Pinned := { name := "ytmngcpackbekiaa", sum := "ffba68eab5bb9922f0ff3ad1e10262a374033c548885c216b9d8784ee377b430", checked := Try.checked }
namespace Rows
def none {H : Type} : Left H := { results := [], args := [] }

/-- 'arrearslaw16.NetworkLetters': WHATEVER THE INPUT: true; the input reads as it did. -/
def networkLettersSpec : ChangeSpec := { name := "networkLetters", fn := fun _ => fun
  | [d1, d2, d3] => { results := [.lit (.bool true)], args := [d1, d2, d3] }
  | _ => none }
def networkLettersRow : OpenClaim := { program := "ytmngcpackbekiaa", sum := "ffba68eab5bb9922f0ff3ad1e10262a374033c548885c216b9d8784ee377b430", func := "arrears/arrearslaw16.NetworkLetters", spec := "networkLetters", apart := false }
def NetworkLettersSaid : Prop := networkLettersRow.holds Try.pinned (OpenSpec.ofChange networkLettersSpec)

/-- ITS FALSE NEIGHBOUR: 'it returns false'. Refute it at one input. -/
def networkLettersWrong : ChangeSpec := { name := "networkLetters", fn := fun _ => fun
  | [d1, d2, d3] => { results := [.lit (.bool false)], args := [d1, d2, d3] }
  | _ => none }
def NetworkLettersWrongFalsely : Prop := networkLettersRow.holds Try.pinned (OpenSpec.ofChange networkLettersWrong)

/-- 'arrearslaw16.NetworkQueue': WHATEVER THE INPUT: true; the input reads as it did. -/
def networkQueueSpec : ChangeSpec := { name := "networkQueue", fn := fun _ => fun
  | [d1, d2] => { results := [.lit (.bool true)], args := [d1, d2] }
  | _ => none }
def networkQueueRow : OpenClaim := { program := "ytmngcpackbekiaa", sum := "ffba68eab5bb9922f0ff3ad1e10262a374033c548885c216b9d8784ee377b430", func := "arrears/arrearslaw16.NetworkQueue", spec := "networkQueue", apart := false }
def NetworkQueueSaid : Prop := networkQueueRow.holds Try.pinned (OpenSpec.ofChange networkQueueSpec)

/-- ITS FALSE NEIGHBOUR: 'it returns false'. Refute it at one input. -/
def networkQueueWrong : ChangeSpec := { name := "networkQueue", fn := fun _ => fun
  | [d1, d2] => { results := [.lit (.bool false)], args := [d1, d2] }
  | _ => none }
def NetworkQueueWrongFalsely : Prop := networkQueueRow.holds Try.pinned (OpenSpec.ofChange networkQueueWrong)

/-- 'arrearslaw16.NetworkOnce': WHATEVER THE INPUT: true; the input reads as it did. -/
def networkOnceSpec : ChangeSpec := { name := "networkOnce", fn := fun _ => fun
  | [d] => { results := [.lit (.bool true)], args := [d] }
  | _ => none }
def networkOnceRow : OpenClaim := { program := "ytmngcpackbekiaa", sum := "ffba68eab5bb9922f0ff3ad1e10262a374033c548885c216b9d8784ee377b430", func := "arrears/arrearslaw16.NetworkOnce", spec := "networkOnce", apart := false }
def NetworkOnceSaid : Prop := networkOnceRow.holds Try.pinned (OpenSpec.ofChange networkOnceSpec)

/-- ITS FALSE NEIGHBOUR: 'it returns false'. Refute it at one input. -/
def networkOnceWrong : ChangeSpec := { name := "networkOnce", fn := fun _ => fun
  | [d] => { results := [.lit (.bool false)], args := [d] }
  | _ => none }
def NetworkOnceWrongFalsely : Prop := networkOnceRow.holds Try.pinned (OpenSpec.ofChange networkOnceWrong)

/-- 'arrearslaw16.NetworkTicks': WHATEVER THE INPUT: true; the input reads as it did. -/
def networkTicksSpec : ChangeSpec := { name := "networkTicks", fn := fun _ => fun
  | [d] => { results := [.lit (.bool true)], args := [d] }
  | _ => none }
def networkTicksRow : OpenClaim := { program := "ytmngcpackbekiaa", sum := "ffba68eab5bb9922f0ff3ad1e10262a374033c548885c216b9d8784ee377b430", func := "arrears/arrearslaw16.NetworkTicks", spec := "networkTicks", apart := false }
def NetworkTicksSaid : Prop := networkTicksRow.holds Try.pinned (OpenSpec.ofChange networkTicksSpec)

/-- ITS FALSE NEIGHBOUR: 'it returns false'. Refute it at one input. -/
def networkTicksWrong : ChangeSpec := { name := "networkTicks", fn := fun _ => fun
  | [d] => { results := [.lit (.bool false)], args := [d] }
  | _ => none }
def NetworkTicksWrongFalsely : Prop := networkTicksRow.holds Try.pinned (OpenSpec.ofChange networkTicksWrong)

/-- 'arrearslaw16.NetworkTakes': WHATEVER THE INPUT: true; the input reads as it did. -/
def networkTakesSpec : ChangeSpec := { name := "networkTakes", fn := fun _ => fun
  | [d] => { results := [.lit (.bool true)], args := [d] }
  | _ => none }
def networkTakesRow : OpenClaim := { program := "ytmngcpackbekiaa", sum := "ffba68eab5bb9922f0ff3ad1e10262a374033c548885c216b9d8784ee377b430", func := "arrears/arrearslaw16.NetworkTakes", spec := "networkTakes", apart := false }
def NetworkTakesSaid : Prop := networkTakesRow.holds Try.pinned (OpenSpec.ofChange networkTakesSpec)

/-- ITS FALSE NEIGHBOUR: 'it returns false'. Refute it at one input. -/
def networkTakesWrong : ChangeSpec := { name := "networkTakes", fn := fun _ => fun
  | [d] => { results := [.lit (.bool false)], args := [d] }
  | _ => none }
def NetworkTakesWrongFalsely : Prop := networkTakesRow.holds Try.pinned (OpenSpec.ofChange networkTakesWrong)

/-- 'arrearslaw16.NetworkCalm': WHATEVER THE INPUT: true; the input reads as it did. -/
def networkCalmSpec : ChangeSpec := { name := "networkCalm", fn := fun _ => fun
  | [d1, d2, d3] => { results := [.lit (.bool true)], args := [d1, d2, d3] }
  | _ => none }
def networkCalmRow : OpenClaim := { program := "ytmngcpackbekiaa", sum := "ffba68eab5bb9922f0ff3ad1e10262a374033c548885c216b9d8784ee377b430", func := "arrears/arrearslaw16.NetworkCalm", spec := "networkCalm", apart := false }
def NetworkCalmSaid : Prop := networkCalmRow.holds Try.pinned (OpenSpec.ofChange networkCalmSpec)

/-- ITS FALSE NEIGHBOUR: 'it returns false'. Refute it at one input. -/
def networkCalmWrong : ChangeSpec := { name := "networkCalm", fn := fun _ => fun
  | [d1, d2, d3] => { results := [.lit (.bool false)], args := [d1, d2, d3] }
  | _ => none }
def NetworkCalmWrongFalsely : Prop := networkCalmRow.holds Try.pinned (OpenSpec.ofChange networkCalmWrong)

/-- 'arrearslaw16.NetworkExact': WHATEVER THE INPUT: true; the input reads as it did. -/
def networkExactSpec : ChangeSpec := { name := "networkExact", fn := fun _ => fun
  | [d] => { results := [.lit (.bool true)], args := [d] }
  | _ => none }
def networkExactRow : OpenClaim := { program := "ytmngcpackbekiaa", sum := "ffba68eab5bb9922f0ff3ad1e10262a374033c548885c216b9d8784ee377b430", func := "arrears/arrearslaw16.NetworkExact", spec := "networkExact", apart := false }
def NetworkExactSaid : Prop := networkExactRow.holds Try.pinned (OpenSpec.ofChange networkExactSpec)

/-- ITS FALSE NEIGHBOUR: 'it returns false'. Refute it at one input. -/
def networkExactWrong : ChangeSpec := { name := "networkExact", fn := fun _ => fun
  | [d] => { results := [.lit (.bool false)], args := [d] }
  | _ => none }
def NetworkExactWrongFalsely : Prop := networkExactRow.holds Try.pinned (OpenSpec.ofChange networkExactWrong)

/- THE SECOND FORM. 'bulk': how many values and letters a reading holds, each counted each time it is reached (what is shared counts as often as it is met; a slice's spare places count too). A statement '..UptoSaid' is the law's where the arguments, and the package variables that the reading takes, are together of bulk at most 1048576: NARROWER than '..Said'. Prove '..Said' where nothing that the law and all that it calls make is longer than what came in: it says more and counts as full. Else prove '..UptoSaid'. A law counts once. -/
mutual
def uptoBulk {H : Type} : DataW H → Nat
  | .lit (.string bytes) => bytes.length + 1
  | .lit _ => 1
  | .nil => 1
  | .ptr d => uptoBulk d + 1
  | .slice elems spare => uptoBulkAll elems + uptoBulkAll spare + 1
  | .agg parts => uptoBulkAll parts + 1
  | .iface _ d => uptoBulk d + 1
  | .map entries => uptoBulkEntries entries + 1
  | .held _ => 1
def uptoBulkAll {H : Type} : List (DataW H) → Nat
  | [] => 0
  | d :: r => uptoBulk d + uptoBulkAll r
def uptoBulkEntries {H : Type} : List (Lit × DataW H) → Nat
  | [] => 0
  | x :: r => uptoBulkEntry x + uptoBulkEntries r
def uptoBulkEntry {H : Type} : Lit × DataW H → Nat
  | (.string bytes, d) => bytes.length + uptoBulk d + 1
  | (_, d) => uptoBulk d + 1
 end
def uptoSmall : (H : Type) → List (DataW H) → Bool := fun _ ds => decide (uptoBulkAll ds ≤ 1048576)
def OpenSpec.upto (s : _root_.Go.ChangeSpec) : _root_.Go.OpenSpec := { _root_.Go.OpenSpec.ofChange s with cond := some uptoSmall }

/-- 'arrearslaw16.NetworkLetters', WHERE WHAT IT READS IS OF BULK AT MOST 1048576: true; the input reads as it did. -/
def networkLettersUptoRow : OpenClaim := { program := "ytmngcpackbekiaa", sum := "ffba68eab5bb9922f0ff3ad1e10262a374033c548885c216b9d8784ee377b430", func := "arrears/arrearslaw16.NetworkLetters", spec := "networkLetters", apart := false, narrowed := true }
def NetworkLettersUptoSaid : Prop := networkLettersUptoRow.holds Try.pinned (OpenSpec.upto networkLettersSpec)

/-- 'arrearslaw16.NetworkQueue', WHERE WHAT IT READS IS OF BULK AT MOST 1048576: true; the input reads as it did. -/
def networkQueueUptoRow : OpenClaim := { program := "ytmngcpackbekiaa", sum := "ffba68eab5bb9922f0ff3ad1e10262a374033c548885c216b9d8784ee377b430", func := "arrears/arrearslaw16.NetworkQueue", spec := "networkQueue", apart := false, narrowed := true }
def NetworkQueueUptoSaid : Prop := networkQueueUptoRow.holds Try.pinned (OpenSpec.upto networkQueueSpec)

/-- 'arrearslaw16.NetworkOnce', WHERE WHAT IT READS IS OF BULK AT MOST 1048576: true; the input reads as it did. -/
def networkOnceUptoRow : OpenClaim := { program := "ytmngcpackbekiaa", sum := "ffba68eab5bb9922f0ff3ad1e10262a374033c548885c216b9d8784ee377b430", func := "arrears/arrearslaw16.NetworkOnce", spec := "networkOnce", apart := false, narrowed := true }
def NetworkOnceUptoSaid : Prop := networkOnceUptoRow.holds Try.pinned (OpenSpec.upto networkOnceSpec)

/-- 'arrearslaw16.NetworkTicks', WHERE WHAT IT READS IS OF BULK AT MOST 1048576: true; the input reads as it did. -/
def networkTicksUptoRow : OpenClaim := { program := "ytmngcpackbekiaa", sum := "ffba68eab5bb9922f0ff3ad1e10262a374033c548885c216b9d8784ee377b430", func := "arrears/arrearslaw16.NetworkTicks", spec := "networkTicks", apart := false, narrowed := true }
def NetworkTicksUptoSaid : Prop := networkTicksUptoRow.holds Try.pinned (OpenSpec.upto networkTicksSpec)

/-- 'arrearslaw16.NetworkTakes', WHERE WHAT IT READS IS OF BULK AT MOST 1048576: true; the input reads as it did. -/
def networkTakesUptoRow : OpenClaim := { program := "ytmngcpackbekiaa", sum := "ffba68eab5bb9922f0ff3ad1e10262a374033c548885c216b9d8784ee377b430", func := "arrears/arrearslaw16.NetworkTakes", spec := "networkTakes", apart := false, narrowed := true }
def NetworkTakesUptoSaid : Prop := networkTakesUptoRow.holds Try.pinned (OpenSpec.upto networkTakesSpec)

/-- 'arrearslaw16.NetworkCalm', WHERE WHAT IT READS IS OF BULK AT MOST 1048576: true; the input reads as it did. -/
def networkCalmUptoRow : OpenClaim := { program := "ytmngcpackbekiaa", sum := "ffba68eab5bb9922f0ff3ad1e10262a374033c548885c216b9d8784ee377b430", func := "arrears/arrearslaw16.NetworkCalm", spec := "networkCalm", apart := false, narrowed := true }
def NetworkCalmUptoSaid : Prop := networkCalmUptoRow.holds Try.pinned (OpenSpec.upto networkCalmSpec)

/-- 'arrearslaw16.NetworkExact', WHERE WHAT IT READS IS OF BULK AT MOST 1048576: true; the input reads as it did. -/
def networkExactUptoRow : OpenClaim := { program := "ytmngcpackbekiaa", sum := "ffba68eab5bb9922f0ff3ad1e10262a374033c548885c216b9d8784ee377b430", func := "arrears/arrearslaw16.NetworkExact", spec := "networkExact", apart := false, narrowed := true }
def NetworkExactUptoSaid : Prop := networkExactUptoRow.holds Try.pinned (OpenSpec.upto networkExactSpec)

end Rows
end Go.Proofs.Ytmngcpackbekiaa
