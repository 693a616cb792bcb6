/-
  No cell of these rows narrows 'for every input' (looked for: loops, veiled, ifaces, maps, wideKeys, modest, calm, conditions, laid).
  DERIVED. THE GIVEN ROWS OF THIS SEAT. 8 by the template 'for every input the law returns true; each argument reads behind the call as it read before'; 0 by the template 'total and deterministic' (their statements: YtchfkkliechgoaaTotals.lean).
  GIVEN WITH THE SEED: the statements are not yours to turn. If you find one false, say at which input.
  Laid BY PROGRAM, IN A SANDBOX (cutbox-rows.mjs): the forced cells as the released guide's own fill.sh prints them over the translation f44ad18422c3a86a… (all of the seat's roots in one cut). By AI agents, Wed Nov 11 2026. No macro, syntax, notation, axiom, sorry.
-/
import Derived.Test.YtchfkkliechgoaaChecked
import GoSem.Claim
import GoSem.ClaimJoined
import GoSem.ClaimMapViews
import Derived.JoinedTies
import Derived.KernelRfl
namespace Go.Proofs.Ytchfkkliechgoaa
/- THE CELL 'sum', in the pinned program and in every row, IS THE sha256 OF THE DUMP (.gsa) THAT YtchfkkliechgoaaProg.lean LOADS. Nothing in Lean hashes anything: it is a label: what it is worth is what the hold of that sum in a sandbox is worth. -/
noncomputable def Try.pinned : Pinned := { name := "ytchfkkliechgoaa", sum := "f44ad18422c3a86a21874aa03e0b7bd8a0c578532661402e2f6e72485f94c0f5", checked := Try.checked }
namespace Rows
def none {H : Type} : Left H := { results := [], args := [] }

/-- 'arrearslaw17.OutboxAdds': WHATEVER THE INPUT: true; the input reads as it did. -/
def outboxAddsSpec : ChangeSpec := { name := "outboxAdds", fn := fun _ => fun
  | [d1, d2] => { results := [.lit (.bool true)], args := [d1, d2] }
  | _ => none }
def outboxAddsRow : OpenClaim := { program := "ytchfkkliechgoaa", sum := "f44ad18422c3a86a21874aa03e0b7bd8a0c578532661402e2f6e72485f94c0f5", func := "arrears/arrearslaw17.OutboxAdds", spec := "outboxAdds", unfollowed := true, recurses := true, apart := false }
def OutboxAddsSaid : Prop := outboxAddsRow.holds Try.pinned (OpenSpec.ofChange outboxAddsSpec)

/-- ITS FALSE NEIGHBOUR: 'it returns false'. Refute it at one input. -/
def outboxAddsWrong : ChangeSpec := { name := "outboxAdds", fn := fun _ => fun
  | [d1, d2] => { results := [.lit (.bool false)], args := [d1, d2] }
  | _ => none }
def OutboxAddsWrongFalsely : Prop := outboxAddsRow.holds Try.pinned (OpenSpec.ofChange outboxAddsWrong)

/-- 'arrearslaw17.OutboxAcks': WHATEVER THE INPUT: true; the input reads as it did. -/
def outboxAcksSpec : ChangeSpec := { name := "outboxAcks", fn := fun _ => fun
  | [d1, d2] => { results := [.lit (.bool true)], args := [d1, d2] }
  | _ => none }
def outboxAcksRow : OpenClaim := { program := "ytchfkkliechgoaa", sum := "f44ad18422c3a86a21874aa03e0b7bd8a0c578532661402e2f6e72485f94c0f5", func := "arrears/arrearslaw17.OutboxAcks", spec := "outboxAcks", unfollowed := true, recurses := true, apart := false }
def OutboxAcksSaid : Prop := outboxAcksRow.holds Try.pinned (OpenSpec.ofChange outboxAcksSpec)

/-- ITS FALSE NEIGHBOUR: 'it returns false'. Refute it at one input. -/
def outboxAcksWrong : ChangeSpec := { name := "outboxAcks", fn := fun _ => fun
  | [d1, d2] => { results := [.lit (.bool false)], args := [d1, d2] }
  | _ => none }
def OutboxAcksWrongFalsely : Prop := outboxAcksRow.holds Try.pinned (OpenSpec.ofChange outboxAcksWrong)

/-- 'arrearslaw17.OutboxDues': WHATEVER THE INPUT: true; the input reads as it did. -/
def outboxDuesSpec : ChangeSpec := { name := "outboxDues", fn := fun _ => fun
  | [d1, d2] => { results := [.lit (.bool true)], args := [d1, d2] }
  | _ => none }
def outboxDuesRow : OpenClaim := { program := "ytchfkkliechgoaa", sum := "f44ad18422c3a86a21874aa03e0b7bd8a0c578532661402e2f6e72485f94c0f5", func := "arrears/arrearslaw17.OutboxDues", spec := "outboxDues", unfollowed := true, recurses := true, apart := false }
def OutboxDuesSaid : Prop := outboxDuesRow.holds Try.pinned (OpenSpec.ofChange outboxDuesSpec)

/-- ITS FALSE NEIGHBOUR: 'it returns false'. Refute it at one input. -/
def outboxDuesWrong : ChangeSpec := { name := "outboxDues", fn := fun _ => fun
  | [d1, d2] => { results := [.lit (.bool false)], args := [d1, d2] }
  | _ => none }
def OutboxDuesWrongFalsely : Prop := outboxDuesRow.holds Try.pinned (OpenSpec.ofChange outboxDuesWrong)

/-- 'arrearslaw17.OutboxPendings': WHATEVER THE INPUT: true; the input reads as it did. -/
def outboxPendingsSpec : ChangeSpec := { name := "outboxPendings", fn := fun _ => fun
  | [d1, d2] => { results := [.lit (.bool true)], args := [d1, d2] }
  | _ => none }
def outboxPendingsRow : OpenClaim := { program := "ytchfkkliechgoaa", sum := "f44ad18422c3a86a21874aa03e0b7bd8a0c578532661402e2f6e72485f94c0f5", func := "arrears/arrearslaw17.OutboxPendings", spec := "outboxPendings", unfollowed := true, recurses := true, apart := false }
def OutboxPendingsSaid : Prop := outboxPendingsRow.holds Try.pinned (OpenSpec.ofChange outboxPendingsSpec)

/-- ITS FALSE NEIGHBOUR: 'it returns false'. Refute it at one input. -/
def outboxPendingsWrong : ChangeSpec := { name := "outboxPendings", fn := fun _ => fun
  | [d1, d2] => { results := [.lit (.bool false)], args := [d1, d2] }
  | _ => none }
def OutboxPendingsWrongFalsely : Prop := outboxPendingsRow.holds Try.pinned (OpenSpec.ofChange outboxPendingsWrong)

/-- 'arrearslaw17.OutboxExact': WHATEVER THE INPUT: true; the input reads as it did. -/
def outboxExactSpec : ChangeSpec := { name := "outboxExact", fn := fun _ => fun
  | [d1, d2] => { results := [.lit (.bool true)], args := [d1, d2] }
  | _ => none }
def outboxExactRow : OpenClaim := { program := "ytchfkkliechgoaa", sum := "f44ad18422c3a86a21874aa03e0b7bd8a0c578532661402e2f6e72485f94c0f5", func := "arrears/arrearslaw17.OutboxExact", spec := "outboxExact", unfollowed := true, recurses := true, apart := false }
def OutboxExactSaid : Prop := outboxExactRow.holds Try.pinned (OpenSpec.ofChange outboxExactSpec)

/-- ITS FALSE NEIGHBOUR: 'it returns false'. Refute it at one input. -/
def outboxExactWrong : ChangeSpec := { name := "outboxExact", fn := fun _ => fun
  | [d1, d2] => { results := [.lit (.bool false)], args := [d1, d2] }
  | _ => none }
def OutboxExactWrongFalsely : Prop := outboxExactRow.holds Try.pinned (OpenSpec.ofChange outboxExactWrong)

/-- 'arrearslaw17.OutboxRetries': WHATEVER THE INPUT: true; the input reads as it did. -/
def outboxRetriesSpec : ChangeSpec := { name := "outboxRetries", fn := fun _ => fun
  | [d1, d2, d3, d4, d5, d6] => { results := [.lit (.bool true)], args := [d1, d2, d3, d4, d5, d6] }
  | _ => none }
def outboxRetriesRow : OpenClaim := { program := "ytchfkkliechgoaa", sum := "f44ad18422c3a86a21874aa03e0b7bd8a0c578532661402e2f6e72485f94c0f5", func := "arrears/arrearslaw17.OutboxRetries", spec := "outboxRetries", unfollowed := true, recurses := true, apart := false }
def OutboxRetriesSaid : Prop := outboxRetriesRow.holds Try.pinned (OpenSpec.ofChange outboxRetriesSpec)

/-- ITS FALSE NEIGHBOUR: 'it returns false'. Refute it at one input. -/
def outboxRetriesWrong : ChangeSpec := { name := "outboxRetries", fn := fun _ => fun
  | [d1, d2, d3, d4, d5, d6] => { results := [.lit (.bool false)], args := [d1, d2, d3, d4, d5, d6] }
  | _ => none }
def OutboxRetriesWrongFalsely : Prop := outboxRetriesRow.holds Try.pinned (OpenSpec.ofChange outboxRetriesWrong)

/-- 'arrearslaw17.OutboxWindow': WHATEVER THE INPUT: true; the input reads as it did. -/
def outboxWindowSpec : ChangeSpec := { name := "outboxWindow", fn := fun _ => fun
  | [d1, d2] => { results := [.lit (.bool true)], args := [d1, d2] }
  | _ => none }
def outboxWindowRow : OpenClaim := { program := "ytchfkkliechgoaa", sum := "f44ad18422c3a86a21874aa03e0b7bd8a0c578532661402e2f6e72485f94c0f5", func := "arrears/arrearslaw17.OutboxWindow", spec := "outboxWindow", unfollowed := true, recurses := true, apart := false }
def OutboxWindowSaid : Prop := outboxWindowRow.holds Try.pinned (OpenSpec.ofChange outboxWindowSpec)

/-- ITS FALSE NEIGHBOUR: 'it returns false'. Refute it at one input. -/
def outboxWindowWrong : ChangeSpec := { name := "outboxWindow", fn := fun _ => fun
  | [d1, d2] => { results := [.lit (.bool false)], args := [d1, d2] }
  | _ => none }
def OutboxWindowWrongFalsely : Prop := outboxWindowRow.holds Try.pinned (OpenSpec.ofChange outboxWindowWrong)

/-- 'arrearslaw17.OutboxAlone': WHATEVER THE INPUT: true; the input reads as it did. -/
def outboxAloneSpec : ChangeSpec := { name := "outboxAlone", fn := fun _ => fun
  | [d1, d2, d3] => { results := [.lit (.bool true)], args := [d1, d2, d3] }
  | _ => none }
def outboxAloneRow : OpenClaim := { program := "ytchfkkliechgoaa", sum := "f44ad18422c3a86a21874aa03e0b7bd8a0c578532661402e2f6e72485f94c0f5", func := "arrears/arrearslaw17.OutboxAlone", spec := "outboxAlone", unfollowed := true, recurses := true, apart := false }
def OutboxAloneSaid : Prop := outboxAloneRow.holds Try.pinned (OpenSpec.ofChange outboxAloneSpec)

/-- ITS FALSE NEIGHBOUR: 'it returns false'. Refute it at one input. -/
def outboxAloneWrong : ChangeSpec := { name := "outboxAlone", fn := fun _ => fun
  | [d1, d2, d3] => { results := [.lit (.bool false)], args := [d1, d2, d3] }
  | _ => none }
def OutboxAloneWrongFalsely : Prop := outboxAloneRow.holds Try.pinned (OpenSpec.ofChange outboxAloneWrong)

/- THE SECOND FORM. 'bulk': how many values and letters a reading holds, each counted each time it is reached (what is shared counts as often as it is met; a slice's spare places count too). A statement '..UptoSaid' is the law's where the arguments, and the package variables that the reading takes, are together of bulk at most 1048576: NARROWER than '..Said'. Prove '..Said' where nothing that the law and all that it calls make is longer than what came in: it says more and counts as full. Else prove '..UptoSaid'. A law counts once. -/
mutual
def uptoBulk {H : Type} : DataW H → Nat
  | .lit (.string bytes) => bytes.length + 1
  | .lit _ => 1
  | .nil => 1
  | .ptr d => uptoBulk d + 1
  | .slice elems spare => uptoBulkAll elems + uptoBulkAll spare + 1
  | .agg parts => uptoBulkAll parts + 1
  | .iface _ d => uptoBulk d + 1
  | .map entries => uptoBulkEntries entries + 1
  | .held _ => 1
def uptoBulkAll {H : Type} : List (DataW H) → Nat
  | [] => 0
  | d :: r => uptoBulk d + uptoBulkAll r
def uptoBulkEntries {H : Type} : List (Lit × DataW H) → Nat
  | [] => 0
  | x :: r => uptoBulkEntry x + uptoBulkEntries r
def uptoBulkEntry {H : Type} : Lit × DataW H → Nat
  | (.string bytes, d) => bytes.length + uptoBulk d + 1
  | (_, d) => uptoBulk d + 1
 end
def uptoSmall : (H : Type) → List (DataW H) → Bool := fun _ ds => decide (uptoBulkAll ds ≤ 1048576)
def OpenSpec.upto (s : _root_.Go.ChangeSpec) : _root_.Go.OpenSpec := { _root_.Go.OpenSpec.ofChange s with cond := some uptoSmall }

/-- 'arrearslaw17.OutboxAdds', WHERE WHAT IT READS IS OF BULK AT MOST 1048576: true; the input reads as it did. -/
def outboxAddsUptoRow : OpenClaim := { program := "ytchfkkliechgoaa", sum := "f44ad18422c3a86a21874aa03e0b7bd8a0c578532661402e2f6e72485f94c0f5", func := "arrears/arrearslaw17.OutboxAdds", spec := "outboxAdds", unfollowed := true, recurses := true, apart := false, narrowed := true }
def OutboxAddsUptoSaid : Prop := outboxAddsUptoRow.holds Try.pinned (OpenSpec.upto outboxAddsSpec)

/-- 'arrearslaw17.OutboxAcks', WHERE WHAT IT READS IS OF BULK AT MOST 1048576: true; the input reads as it did. -/
def outboxAcksUptoRow : OpenClaim := { program := "ytchfkkliechgoaa", sum := "f44ad18422c3a86a21874aa03e0b7bd8a0c578532661402e2f6e72485f94c0f5", func := "arrears/arrearslaw17.OutboxAcks", spec := "outboxAcks", unfollowed := true, recurses := true, apart := false, narrowed := true }
def OutboxAcksUptoSaid : Prop := outboxAcksUptoRow.holds Try.pinned (OpenSpec.upto outboxAcksSpec)

/-- 'arrearslaw17.OutboxDues', WHERE WHAT IT READS IS OF BULK AT MOST 1048576: true; the input reads as it did. -/
def outboxDuesUptoRow : OpenClaim := { program := "ytchfkkliechgoaa", sum := "f44ad18422c3a86a21874aa03e0b7bd8a0c578532661402e2f6e72485f94c0f5", func := "arrears/arrearslaw17.OutboxDues", spec := "outboxDues", unfollowed := true, recurses := true, apart := false, narrowed := true }
def OutboxDuesUptoSaid : Prop := outboxDuesUptoRow.holds Try.pinned (OpenSpec.upto outboxDuesSpec)

/-- 'arrearslaw17.OutboxPendings', WHERE WHAT IT READS IS OF BULK AT MOST 1048576: true; the input reads as it did. -/
def outboxPendingsUptoRow : OpenClaim := { program := "ytchfkkliechgoaa", sum := "f44ad18422c3a86a21874aa03e0b7bd8a0c578532661402e2f6e72485f94c0f5", func := "arrears/arrearslaw17.OutboxPendings", spec := "outboxPendings", unfollowed := true, recurses := true, apart := false, narrowed := true }
def OutboxPendingsUptoSaid : Prop := outboxPendingsUptoRow.holds Try.pinned (OpenSpec.upto outboxPendingsSpec)

/-- 'arrearslaw17.OutboxExact', WHERE WHAT IT READS IS OF BULK AT MOST 1048576: true; the input reads as it did. -/
def outboxExactUptoRow : OpenClaim := { program := "ytchfkkliechgoaa", sum := "f44ad18422c3a86a21874aa03e0b7bd8a0c578532661402e2f6e72485f94c0f5", func := "arrears/arrearslaw17.OutboxExact", spec := "outboxExact", unfollowed := true, recurses := true, apart := false, narrowed := true }
def OutboxExactUptoSaid : Prop := outboxExactUptoRow.holds Try.pinned (OpenSpec.upto outboxExactSpec)

/-- 'arrearslaw17.OutboxRetries', WHERE WHAT IT READS IS OF BULK AT MOST 1048576: true; the input reads as it did. -/
def outboxRetriesUptoRow : OpenClaim := { program := "ytchfkkliechgoaa", sum := "f44ad18422c3a86a21874aa03e0b7bd8a0c578532661402e2f6e72485f94c0f5", func := "arrears/arrearslaw17.OutboxRetries", spec := "outboxRetries", unfollowed := true, recurses := true, apart := false, narrowed := true }
def OutboxRetriesUptoSaid : Prop := outboxRetriesUptoRow.holds Try.pinned (OpenSpec.upto outboxRetriesSpec)

/-- 'arrearslaw17.OutboxWindow', WHERE WHAT IT READS IS OF BULK AT MOST 1048576: true; the input reads as it did. -/
def outboxWindowUptoRow : OpenClaim := { program := "ytchfkkliechgoaa", sum := "f44ad18422c3a86a21874aa03e0b7bd8a0c578532661402e2f6e72485f94c0f5", func := "arrears/arrearslaw17.OutboxWindow", spec := "outboxWindow", unfollowed := true, recurses := true, apart := false, narrowed := true }
def OutboxWindowUptoSaid : Prop := outboxWindowUptoRow.holds Try.pinned (OpenSpec.upto outboxWindowSpec)

/-- 'arrearslaw17.OutboxAlone', WHERE WHAT IT READS IS OF BULK AT MOST 1048576: true; the input reads as it did. -/
def outboxAloneUptoRow : OpenClaim := { program := "ytchfkkliechgoaa", sum := "f44ad18422c3a86a21874aa03e0b7bd8a0c578532661402e2f6e72485f94c0f5", func := "arrears/arrearslaw17.OutboxAlone", spec := "outboxAlone", unfollowed := true, recurses := true, apart := false, narrowed := true }
def OutboxAloneUptoSaid : Prop := outboxAloneUptoRow.holds Try.pinned (OpenSpec.upto outboxAloneSpec)

end Rows
end Go.Proofs.Ytchfkkliechgoaa
