/-
  No cell of these rows narrows 'for every input' (looked for: loops, veiled, ifaces, maps, wideKeys, modest, calm, conditions, laid).
  DERIVED. THE GIVEN ROWS OF THIS SEAT. 10 by the template 'for every input the law returns true; each argument reads behind the call as it read before'; 0 by the template 'total and deterministic' (their statements: YthfnlmedelfbnaaTotals.lean).
  GIVEN WITH THE SEED: the statements are not yours to turn. If you find one false, say at which input.
  Laid BY PROGRAM, IN A SANDBOX (cutbox-rows.mjs): the forced cells as the released guide's own fill.sh prints them over the translation e93e10a9bd4954bf… (all of the seat's roots in one cut). By AI agents, Wed Nov 11 2026. No macro, syntax, notation, axiom, sorry.
-/
import Derived.Test.YthfnlmedelfbnaaChecked
import GoSem.Claim
import GoSem.ClaimJoined
import GoSem.ClaimMapViews
import Derived.JoinedTies
import Derived.KernelRfl
namespace Go.Proofs.Ythfnlmedelfbnaa
/- THE CELL 'sum', in the pinned program and in every row, IS THE sha256 OF THE DUMP (.gsa) THAT YthfnlmedelfbnaaProg.lean LOADS. Nothing in Lean hashes anything: it is a label: what it is worth is what the hold of that sum in a sandbox is worth. -/
noncomputable def Try.pinned : Pinned := { name := "ythfnlmedelfbnaa", sum := "e93e10a9bd4954bf5fd79fd829331b90355329d250697309e82b3945a7f64edc", checked := Try.checked }
namespace Rows
def none {H : Type} : Left H := { results := [], args := [] }

/-- 'arrearslaw13.CollectSteps': WHATEVER THE INPUT: true; the input reads as it did. -/
def collectStepsSpec : ChangeSpec := { name := "collectSteps", fn := fun _ => fun
  | [d1, d2] => { results := [.lit (.bool true)], args := [d1, d2] }
  | _ => none }
def collectStepsRow : OpenClaim := { program := "ythfnlmedelfbnaa", sum := "e93e10a9bd4954bf5fd79fd829331b90355329d250697309e82b3945a7f64edc", func := "arrears/arrearslaw13.CollectSteps", spec := "collectSteps", unfollowed := true, recurses := true, apart := false }
def CollectStepsSaid : Prop := collectStepsRow.holds Try.pinned (OpenSpec.ofChange collectStepsSpec)

/-- ITS FALSE NEIGHBOUR: 'it returns false'. Refute it at one input. -/
def collectStepsWrong : ChangeSpec := { name := "collectSteps", fn := fun _ => fun
  | [d1, d2] => { results := [.lit (.bool false)], args := [d1, d2] }
  | _ => none }
def CollectStepsWrongFalsely : Prop := collectStepsRow.holds Try.pinned (OpenSpec.ofChange collectStepsWrong)

/-- 'arrearslaw13.CollectRefused': WHATEVER THE INPUT: true; the input reads as it did. -/
def collectRefusedSpec : ChangeSpec := { name := "collectRefused", fn := fun _ => fun
  | [d1, d2] => { results := [.lit (.bool true)], args := [d1, d2] }
  | _ => none }
def collectRefusedRow : OpenClaim := { program := "ythfnlmedelfbnaa", sum := "e93e10a9bd4954bf5fd79fd829331b90355329d250697309e82b3945a7f64edc", func := "arrears/arrearslaw13.CollectRefused", spec := "collectRefused", unfollowed := true, recurses := true, apart := false }
def CollectRefusedSaid : Prop := collectRefusedRow.holds Try.pinned (OpenSpec.ofChange collectRefusedSpec)

/-- ITS FALSE NEIGHBOUR: 'it returns false'. Refute it at one input. -/
def collectRefusedWrong : ChangeSpec := { name := "collectRefused", fn := fun _ => fun
  | [d1, d2] => { results := [.lit (.bool false)], args := [d1, d2] }
  | _ => none }
def CollectRefusedWrongFalsely : Prop := collectRefusedRow.holds Try.pinned (OpenSpec.ofChange collectRefusedWrong)

/-- 'arrearslaw13.CollectTold': WHATEVER THE INPUT: true; the input reads as it did. -/
def collectToldSpec : ChangeSpec := { name := "collectTold", fn := fun _ => fun
  | [d1, d2] => { results := [.lit (.bool true)], args := [d1, d2] }
  | _ => none }
def collectToldRow : OpenClaim := { program := "ythfnlmedelfbnaa", sum := "e93e10a9bd4954bf5fd79fd829331b90355329d250697309e82b3945a7f64edc", func := "arrears/arrearslaw13.CollectTold", spec := "collectTold", unfollowed := true, recurses := true, apart := false }
def CollectToldSaid : Prop := collectToldRow.holds Try.pinned (OpenSpec.ofChange collectToldSpec)

/-- ITS FALSE NEIGHBOUR: 'it returns false'. Refute it at one input. -/
def collectToldWrong : ChangeSpec := { name := "collectTold", fn := fun _ => fun
  | [d1, d2] => { results := [.lit (.bool false)], args := [d1, d2] }
  | _ => none }
def CollectToldWrongFalsely : Prop := collectToldRow.holds Try.pinned (OpenSpec.ofChange collectToldWrong)

/-- 'arrearslaw13.CollectShape': WHATEVER THE INPUT: true; the input reads as it did. -/
def collectShapeSpec : ChangeSpec := { name := "collectShape", fn := fun _ => fun
  | [d1, d2] => { results := [.lit (.bool true)], args := [d1, d2] }
  | _ => none }
def collectShapeRow : OpenClaim := { program := "ythfnlmedelfbnaa", sum := "e93e10a9bd4954bf5fd79fd829331b90355329d250697309e82b3945a7f64edc", func := "arrears/arrearslaw13.CollectShape", spec := "collectShape", unfollowed := true, recurses := true, apart := false }
def CollectShapeSaid : Prop := collectShapeRow.holds Try.pinned (OpenSpec.ofChange collectShapeSpec)

/-- ITS FALSE NEIGHBOUR: 'it returns false'. Refute it at one input. -/
def collectShapeWrong : ChangeSpec := { name := "collectShape", fn := fun _ => fun
  | [d1, d2] => { results := [.lit (.bool false)], args := [d1, d2] }
  | _ => none }
def CollectShapeWrongFalsely : Prop := collectShapeRow.holds Try.pinned (OpenSpec.ofChange collectShapeWrong)

/-- 'arrearslaw13.CollectBudgets': WHATEVER THE INPUT: true; the input reads as it did. -/
def collectBudgetsSpec : ChangeSpec := { name := "collectBudgets", fn := fun _ => fun
  | [d1, d2] => { results := [.lit (.bool true)], args := [d1, d2] }
  | _ => none }
def collectBudgetsRow : OpenClaim := { program := "ythfnlmedelfbnaa", sum := "e93e10a9bd4954bf5fd79fd829331b90355329d250697309e82b3945a7f64edc", func := "arrears/arrearslaw13.CollectBudgets", spec := "collectBudgets", unfollowed := true, recurses := true, apart := false }
def CollectBudgetsSaid : Prop := collectBudgetsRow.holds Try.pinned (OpenSpec.ofChange collectBudgetsSpec)

/-- ITS FALSE NEIGHBOUR: 'it returns false'. Refute it at one input. -/
def collectBudgetsWrong : ChangeSpec := { name := "collectBudgets", fn := fun _ => fun
  | [d1, d2] => { results := [.lit (.bool false)], args := [d1, d2] }
  | _ => none }
def CollectBudgetsWrongFalsely : Prop := collectBudgetsRow.holds Try.pinned (OpenSpec.ofChange collectBudgetsWrong)

/-- 'arrearslaw13.CollectFinal': WHATEVER THE INPUT: true; the input reads as it did. -/
def collectFinalSpec : ChangeSpec := { name := "collectFinal", fn := fun _ => fun
  | [d1, d2, d3] => { results := [.lit (.bool true)], args := [d1, d2, d3] }
  | _ => none }
def collectFinalRow : OpenClaim := { program := "ythfnlmedelfbnaa", sum := "e93e10a9bd4954bf5fd79fd829331b90355329d250697309e82b3945a7f64edc", func := "arrears/arrearslaw13.CollectFinal", spec := "collectFinal", unfollowed := true, recurses := true, apart := false }
def CollectFinalSaid : Prop := collectFinalRow.holds Try.pinned (OpenSpec.ofChange collectFinalSpec)

/-- ITS FALSE NEIGHBOUR: 'it returns false'. Refute it at one input. -/
def collectFinalWrong : ChangeSpec := { name := "collectFinal", fn := fun _ => fun
  | [d1, d2, d3] => { results := [.lit (.bool false)], args := [d1, d2, d3] }
  | _ => none }
def CollectFinalWrongFalsely : Prop := collectFinalRow.holds Try.pinned (OpenSpec.ofChange collectFinalWrong)

/-- 'arrearslaw13.CollectPromise': WHATEVER THE INPUT: true; the input reads as it did. -/
def collectPromiseSpec : ChangeSpec := { name := "collectPromise", fn := fun _ => fun
  | [d1, d2, d3, d4, d5] => { results := [.lit (.bool true)], args := [d1, d2, d3, d4, d5] }
  | _ => none }
def collectPromiseRow : OpenClaim := { program := "ythfnlmedelfbnaa", sum := "e93e10a9bd4954bf5fd79fd829331b90355329d250697309e82b3945a7f64edc", func := "arrears/arrearslaw13.CollectPromise", spec := "collectPromise", unfollowed := true, recurses := true, apart := false }
def CollectPromiseSaid : Prop := collectPromiseRow.holds Try.pinned (OpenSpec.ofChange collectPromiseSpec)

/-- ITS FALSE NEIGHBOUR: 'it returns false'. Refute it at one input. -/
def collectPromiseWrong : ChangeSpec := { name := "collectPromise", fn := fun _ => fun
  | [d1, d2, d3, d4, d5] => { results := [.lit (.bool false)], args := [d1, d2, d3, d4, d5] }
  | _ => none }
def CollectPromiseWrongFalsely : Prop := collectPromiseRow.holds Try.pinned (OpenSpec.ofChange collectPromiseWrong)

/-- 'arrearslaw13.CollectResolves': WHATEVER THE INPUT: true; the input reads as it did. -/
def collectResolvesSpec : ChangeSpec := { name := "collectResolves", fn := fun _ => fun
  | [d1, d2, d3] => { results := [.lit (.bool true)], args := [d1, d2, d3] }
  | _ => none }
def collectResolvesRow : OpenClaim := { program := "ythfnlmedelfbnaa", sum := "e93e10a9bd4954bf5fd79fd829331b90355329d250697309e82b3945a7f64edc", func := "arrears/arrearslaw13.CollectResolves", spec := "collectResolves", unfollowed := true, recurses := true, apart := false }
def CollectResolvesSaid : Prop := collectResolvesRow.holds Try.pinned (OpenSpec.ofChange collectResolvesSpec)

/-- ITS FALSE NEIGHBOUR: 'it returns false'. Refute it at one input. -/
def collectResolvesWrong : ChangeSpec := { name := "collectResolves", fn := fun _ => fun
  | [d1, d2, d3] => { results := [.lit (.bool false)], args := [d1, d2, d3] }
  | _ => none }
def CollectResolvesWrongFalsely : Prop := collectResolvesRow.holds Try.pinned (OpenSpec.ofChange collectResolvesWrong)

/-- 'arrearslaw13.CollectRunSteps': WHATEVER THE INPUT: true; the input reads as it did. -/
def collectRunStepsSpec : ChangeSpec := { name := "collectRunSteps", fn := fun _ => fun
  | [d1, d2, d3] => { results := [.lit (.bool true)], args := [d1, d2, d3] }
  | _ => none }
def collectRunStepsRow : OpenClaim := { program := "ythfnlmedelfbnaa", sum := "e93e10a9bd4954bf5fd79fd829331b90355329d250697309e82b3945a7f64edc", func := "arrears/arrearslaw13.CollectRunSteps", spec := "collectRunSteps", unfollowed := true, recurses := true, apart := false }
def CollectRunStepsSaid : Prop := collectRunStepsRow.holds Try.pinned (OpenSpec.ofChange collectRunStepsSpec)

/-- ITS FALSE NEIGHBOUR: 'it returns false'. Refute it at one input. -/
def collectRunStepsWrong : ChangeSpec := { name := "collectRunSteps", fn := fun _ => fun
  | [d1, d2, d3] => { results := [.lit (.bool false)], args := [d1, d2, d3] }
  | _ => none }
def CollectRunStepsWrongFalsely : Prop := collectRunStepsRow.holds Try.pinned (OpenSpec.ofChange collectRunStepsWrong)

/-- 'arrearslaw13.CollectAges': WHATEVER THE INPUT: true; the input reads as it did. -/
def collectAgesSpec : ChangeSpec := { name := "collectAges", fn := fun _ => fun
  | [d1, d2, d3] => { results := [.lit (.bool true)], args := [d1, d2, d3] }
  | _ => none }
def collectAgesRow : OpenClaim := { program := "ythfnlmedelfbnaa", sum := "e93e10a9bd4954bf5fd79fd829331b90355329d250697309e82b3945a7f64edc", func := "arrears/arrearslaw13.CollectAges", spec := "collectAges", unfollowed := true, recurses := true, apart := false }
def CollectAgesSaid : Prop := collectAgesRow.holds Try.pinned (OpenSpec.ofChange collectAgesSpec)

/-- ITS FALSE NEIGHBOUR: 'it returns false'. Refute it at one input. -/
def collectAgesWrong : ChangeSpec := { name := "collectAges", fn := fun _ => fun
  | [d1, d2, d3] => { results := [.lit (.bool false)], args := [d1, d2, d3] }
  | _ => none }
def CollectAgesWrongFalsely : Prop := collectAgesRow.holds Try.pinned (OpenSpec.ofChange collectAgesWrong)

/- THE SECOND FORM. 'bulk': how many values and letters a reading holds, each counted each time it is reached (what is shared counts as often as it is met; a slice's spare places count too). A statement '..UptoSaid' is the law's where the arguments, and the package variables that the reading takes, are together of bulk at most 1048576: NARROWER than '..Said'. Prove '..Said' where nothing that the law and all that it calls make is longer than what came in: it says more and counts as full. Else prove '..UptoSaid'. A law counts once. -/
mutual
def uptoBulk {H : Type} : DataW H → Nat
  | .lit (.string bytes) => bytes.length + 1
  | .lit _ => 1
  | .nil => 1
  | .ptr d => uptoBulk d + 1
  | .slice elems spare => uptoBulkAll elems + uptoBulkAll spare + 1
  | .agg parts => uptoBulkAll parts + 1
  | .iface _ d => uptoBulk d + 1
  | .map entries => uptoBulkEntries entries + 1
  | .held _ => 1
def uptoBulkAll {H : Type} : List (DataW H) → Nat
  | [] => 0
  | d :: r => uptoBulk d + uptoBulkAll r
def uptoBulkEntries {H : Type} : List (Lit × DataW H) → Nat
  | [] => 0
  | x :: r => uptoBulkEntry x + uptoBulkEntries r
def uptoBulkEntry {H : Type} : Lit × DataW H → Nat
  | (.string bytes, d) => bytes.length + uptoBulk d + 1
  | (_, d) => uptoBulk d + 1
 end
def uptoSmall : (H : Type) → List (DataW H) → Bool := fun _ ds => decide (uptoBulkAll ds ≤ 1048576)
def OpenSpec.upto (s : _root_.Go.ChangeSpec) : _root_.Go.OpenSpec := { _root_.Go.OpenSpec.ofChange s with cond := some uptoSmall }

/-- 'arrearslaw13.CollectSteps', WHERE WHAT IT READS IS OF BULK AT MOST 1048576: true; the input reads as it did. -/
def collectStepsUptoRow : OpenClaim := { program := "ythfnlmedelfbnaa", sum := "e93e10a9bd4954bf5fd79fd829331b90355329d250697309e82b3945a7f64edc", func := "arrears/arrearslaw13.CollectSteps", spec := "collectSteps", unfollowed := true, recurses := true, apart := false, narrowed := true }
def CollectStepsUptoSaid : Prop := collectStepsUptoRow.holds Try.pinned (OpenSpec.upto collectStepsSpec)

/-- 'arrearslaw13.CollectRefused', WHERE WHAT IT READS IS OF BULK AT MOST 1048576: true; the input reads as it did. -/
def collectRefusedUptoRow : OpenClaim := { program := "ythfnlmedelfbnaa", sum := "e93e10a9bd4954bf5fd79fd829331b90355329d250697309e82b3945a7f64edc", func := "arrears/arrearslaw13.CollectRefused", spec := "collectRefused", unfollowed := true, recurses := true, apart := false, narrowed := true }
def CollectRefusedUptoSaid : Prop := collectRefusedUptoRow.holds Try.pinned (OpenSpec.upto collectRefusedSpec)

/-- 'arrearslaw13.CollectTold', WHERE WHAT IT READS IS OF BULK AT MOST 1048576: true; the input reads as it did. -/
def collectToldUptoRow : OpenClaim := { program := "ythfnlmedelfbnaa", sum := "e93e10a9bd4954bf5fd79fd829331b90355329d250697309e82b3945a7f64edc", func := "arrears/arrearslaw13.CollectTold", spec := "collectTold", unfollowed := true, recurses := true, apart := false, narrowed := true }
def CollectToldUptoSaid : Prop := collectToldUptoRow.holds Try.pinned (OpenSpec.upto collectToldSpec)

/-- 'arrearslaw13.CollectShape', WHERE WHAT IT READS IS OF BULK AT MOST 1048576: true; the input reads as it did. -/
def collectShapeUptoRow : OpenClaim := { program := "ythfnlmedelfbnaa", sum := "e93e10a9bd4954bf5fd79fd829331b90355329d250697309e82b3945a7f64edc", func := "arrears/arrearslaw13.CollectShape", spec := "collectShape", unfollowed := true, recurses := true, apart := false, narrowed := true }
def CollectShapeUptoSaid : Prop := collectShapeUptoRow.holds Try.pinned (OpenSpec.upto collectShapeSpec)

/-- 'arrearslaw13.CollectBudgets', WHERE WHAT IT READS IS OF BULK AT MOST 1048576: true; the input reads as it did. -/
def collectBudgetsUptoRow : OpenClaim := { program := "ythfnlmedelfbnaa", sum := "e93e10a9bd4954bf5fd79fd829331b90355329d250697309e82b3945a7f64edc", func := "arrears/arrearslaw13.CollectBudgets", spec := "collectBudgets", unfollowed := true, recurses := true, apart := false, narrowed := true }
def CollectBudgetsUptoSaid : Prop := collectBudgetsUptoRow.holds Try.pinned (OpenSpec.upto collectBudgetsSpec)

/-- 'arrearslaw13.CollectFinal', WHERE WHAT IT READS IS OF BULK AT MOST 1048576: true; the input reads as it did. -/
def collectFinalUptoRow : OpenClaim := { program := "ythfnlmedelfbnaa", sum := "e93e10a9bd4954bf5fd79fd829331b90355329d250697309e82b3945a7f64edc", func := "arrears/arrearslaw13.CollectFinal", spec := "collectFinal", unfollowed := true, recurses := true, apart := false, narrowed := true }
def CollectFinalUptoSaid : Prop := collectFinalUptoRow.holds Try.pinned (OpenSpec.upto collectFinalSpec)

/-- 'arrearslaw13.CollectPromise', WHERE WHAT IT READS IS OF BULK AT MOST 1048576: true; the input reads as it did. -/
def collectPromiseUptoRow : OpenClaim := { program := "ythfnlmedelfbnaa", sum := "e93e10a9bd4954bf5fd79fd829331b90355329d250697309e82b3945a7f64edc", func := "arrears/arrearslaw13.CollectPromise", spec := "collectPromise", unfollowed := true, recurses := true, apart := false, narrowed := true }
def CollectPromiseUptoSaid : Prop := collectPromiseUptoRow.holds Try.pinned (OpenSpec.upto collectPromiseSpec)

/-- 'arrearslaw13.CollectResolves', WHERE WHAT IT READS IS OF BULK AT MOST 1048576: true; the input reads as it did. -/
def collectResolvesUptoRow : OpenClaim := { program := "ythfnlmedelfbnaa", sum := "e93e10a9bd4954bf5fd79fd829331b90355329d250697309e82b3945a7f64edc", func := "arrears/arrearslaw13.CollectResolves", spec := "collectResolves", unfollowed := true, recurses := true, apart := false, narrowed := true }
def CollectResolvesUptoSaid : Prop := collectResolvesUptoRow.holds Try.pinned (OpenSpec.upto collectResolvesSpec)

/-- 'arrearslaw13.CollectRunSteps', WHERE WHAT IT READS IS OF BULK AT MOST 1048576: true; the input reads as it did. -/
def collectRunStepsUptoRow : OpenClaim := { program := "ythfnlmedelfbnaa", sum := "e93e10a9bd4954bf5fd79fd829331b90355329d250697309e82b3945a7f64edc", func := "arrears/arrearslaw13.CollectRunSteps", spec := "collectRunSteps", unfollowed := true, recurses := true, apart := false, narrowed := true }
def CollectRunStepsUptoSaid : Prop := collectRunStepsUptoRow.holds Try.pinned (OpenSpec.upto collectRunStepsSpec)

/-- 'arrearslaw13.CollectAges', WHERE WHAT IT READS IS OF BULK AT MOST 1048576: true; the input reads as it did. -/
def collectAgesUptoRow : OpenClaim := { program := "ythfnlmedelfbnaa", sum := "e93e10a9bd4954bf5fd79fd829331b90355329d250697309e82b3945a7f64edc", func := "arrears/arrearslaw13.CollectAges", spec := "collectAges", unfollowed := true, recurses := true, apart := false, narrowed := true }
def CollectAgesUptoSaid : Prop := collectAgesUptoRow.holds Try.pinned (OpenSpec.upto collectAgesSpec)

end Rows
end Go.Proofs.Ythfnlmedelfbnaa
