/-
  No cell of these rows narrows 'for every input' (looked for: loops, veiled, ifaces, maps, wideKeys, modest, calm, conditions, laid).
  DERIVED. THE GIVEN ROWS OF THIS SEAT. 8 by the template 'for every input the law returns true; each argument reads behind the call as it read before'; 0 by the template 'total and deterministic' (their statements: YtfjhbamjlffehaaTotals.lean).
  GIVEN WITH THE SEED: the statements are not yours to turn. If you find one false, say at which input.
  Laid BY PROGRAM, IN A SANDBOX (cutbox-rows.mjs): the forced cells as the released guide's own fill.sh prints them over the translation 1cc76628c620f27f… (all of the seat's roots in one cut). By AI agents, Wed Nov 11 2026. No macro, syntax, notation, axiom, sorry.
-/
import Derived.Test.YtfjhbamjlffehaaChecked
import GoSem.Claim
import GoSem.ClaimJoined
import GoSem.ClaimMapViews
import Derived.JoinedTies
import Derived.KernelRfl
namespace Go.Proofs.Ytfjhbamjlffehaa
/- THE CELL 'sum', in the pinned program and in every row, IS THE sha256 OF THE DUMP (.gsa) THAT YtfjhbamjlffehaaProg.lean LOADS. Nothing in Lean hashes anything: it is a label: what it is worth is what the hold of that sum in a sandbox is worth. -/
noncomputable def Try.pinned : Pinned := { name := "ytfjhbamjlffehaa", sum := "1cc76628c620f27ff57421bfd8678d711879bdf8023a969fcb2964e167e531df", checked := Try.checked }
namespace Rows
def none {H : Type} : Left H := { results := [], args := [] }

/-- 'arrearslaw12.PolicyChecks': WHATEVER THE INPUT: true; the input reads as it did. -/
def policyChecksSpec : ChangeSpec := { name := "policyChecks", fn := fun _ => fun
  | [d] => { results := [.lit (.bool true)], args := [d] }
  | _ => none }
def policyChecksRow : OpenClaim := { program := "ytfjhbamjlffehaa", sum := "1cc76628c620f27ff57421bfd8678d711879bdf8023a969fcb2964e167e531df", func := "arrears/arrearslaw12.PolicyChecks", spec := "policyChecks", unfollowed := true, recurses := true, apart := false }
def PolicyChecksSaid : Prop := policyChecksRow.holds Try.pinned (OpenSpec.ofChange policyChecksSpec)

/-- ITS FALSE NEIGHBOUR: 'it returns false'. Refute it at one input. -/
def policyChecksWrong : ChangeSpec := { name := "policyChecks", fn := fun _ => fun
  | [d] => { results := [.lit (.bool false)], args := [d] }
  | _ => none }
def PolicyChecksWrongFalsely : Prop := policyChecksRow.holds Try.pinned (OpenSpec.ofChange policyChecksWrong)

/-- 'arrearslaw12.PolicyMends': WHATEVER THE INPUT: true; the input reads as it did. -/
def policyMendsSpec : ChangeSpec := { name := "policyMends", fn := fun _ => fun
  | [d] => { results := [.lit (.bool true)], args := [d] }
  | _ => none }
def policyMendsRow : OpenClaim := { program := "ytfjhbamjlffehaa", sum := "1cc76628c620f27ff57421bfd8678d711879bdf8023a969fcb2964e167e531df", func := "arrears/arrearslaw12.PolicyMends", spec := "policyMends", unfollowed := true, recurses := true, apart := false }
def PolicyMendsSaid : Prop := policyMendsRow.holds Try.pinned (OpenSpec.ofChange policyMendsSpec)

/-- ITS FALSE NEIGHBOUR: 'it returns false'. Refute it at one input. -/
def policyMendsWrong : ChangeSpec := { name := "policyMends", fn := fun _ => fun
  | [d] => { results := [.lit (.bool false)], args := [d] }
  | _ => none }
def PolicyMendsWrongFalsely : Prop := policyMendsRow.holds Try.pinned (OpenSpec.ofChange policyMendsWrong)

/-- 'arrearslaw12.PolicyBackoffGrows': WHATEVER THE INPUT: true; the input reads as it did. -/
def policyBackoffGrowsSpec : ChangeSpec := { name := "policyBackoffGrows", fn := fun _ => fun
  | [d1, d2] => { results := [.lit (.bool true)], args := [d1, d2] }
  | _ => none }
def policyBackoffGrowsRow : OpenClaim := { program := "ytfjhbamjlffehaa", sum := "1cc76628c620f27ff57421bfd8678d711879bdf8023a969fcb2964e167e531df", func := "arrears/arrearslaw12.PolicyBackoffGrows", spec := "policyBackoffGrows", unfollowed := true, recurses := true, apart := false }
def PolicyBackoffGrowsSaid : Prop := policyBackoffGrowsRow.holds Try.pinned (OpenSpec.ofChange policyBackoffGrowsSpec)

/-- ITS FALSE NEIGHBOUR: 'it returns false'. Refute it at one input. -/
def policyBackoffGrowsWrong : ChangeSpec := { name := "policyBackoffGrows", fn := fun _ => fun
  | [d1, d2] => { results := [.lit (.bool false)], args := [d1, d2] }
  | _ => none }
def PolicyBackoffGrowsWrongFalsely : Prop := policyBackoffGrowsRow.holds Try.pinned (OpenSpec.ofChange policyBackoffGrowsWrong)

/-- 'arrearslaw12.PolicySendsInTime': WHATEVER THE INPUT: true; the input reads as it did. -/
def policySendsInTimeSpec : ChangeSpec := { name := "policySendsInTime", fn := fun _ => fun
  | [d1, d2] => { results := [.lit (.bool true)], args := [d1, d2] }
  | _ => none }
def policySendsInTimeRow : OpenClaim := { program := "ytfjhbamjlffehaa", sum := "1cc76628c620f27ff57421bfd8678d711879bdf8023a969fcb2964e167e531df", func := "arrears/arrearslaw12.PolicySendsInTime", spec := "policySendsInTime", unfollowed := true, recurses := true, apart := false }
def PolicySendsInTimeSaid : Prop := policySendsInTimeRow.holds Try.pinned (OpenSpec.ofChange policySendsInTimeSpec)

/-- ITS FALSE NEIGHBOUR: 'it returns false'. Refute it at one input. -/
def policySendsInTimeWrong : ChangeSpec := { name := "policySendsInTime", fn := fun _ => fun
  | [d1, d2] => { results := [.lit (.bool false)], args := [d1, d2] }
  | _ => none }
def PolicySendsInTimeWrongFalsely : Prop := policySendsInTimeRow.holds Try.pinned (OpenSpec.ofChange policySendsInTimeWrong)

/-- 'arrearslaw12.PolicyBounds': WHATEVER THE INPUT: true; the input reads as it did. -/
def policyBoundsSpec : ChangeSpec := { name := "policyBounds", fn := fun _ => fun
  | [d1, d2] => { results := [.lit (.bool true)], args := [d1, d2] }
  | _ => none }
def policyBoundsRow : OpenClaim := { program := "ytfjhbamjlffehaa", sum := "1cc76628c620f27ff57421bfd8678d711879bdf8023a969fcb2964e167e531df", func := "arrears/arrearslaw12.PolicyBounds", spec := "policyBounds", unfollowed := true, recurses := true, apart := false }
def PolicyBoundsSaid : Prop := policyBoundsRow.holds Try.pinned (OpenSpec.ofChange policyBoundsSpec)

/-- ITS FALSE NEIGHBOUR: 'it returns false'. Refute it at one input. -/
def policyBoundsWrong : ChangeSpec := { name := "policyBounds", fn := fun _ => fun
  | [d1, d2] => { results := [.lit (.bool false)], args := [d1, d2] }
  | _ => none }
def PolicyBoundsWrongFalsely : Prop := policyBoundsRow.holds Try.pinned (OpenSpec.ofChange policyBoundsWrong)

/-- 'arrearslaw12.PolicyFeeBetween': WHATEVER THE INPUT: true; the input reads as it did. -/
def policyFeeBetweenSpec : ChangeSpec := { name := "policyFeeBetween", fn := fun _ => fun
  | [d1, d2] => { results := [.lit (.bool true)], args := [d1, d2] }
  | _ => none }
def policyFeeBetweenRow : OpenClaim := { program := "ytfjhbamjlffehaa", sum := "1cc76628c620f27ff57421bfd8678d711879bdf8023a969fcb2964e167e531df", func := "arrears/arrearslaw12.PolicyFeeBetween", spec := "policyFeeBetween", unfollowed := true, recurses := true, named := ["math/bits.divideError", "math/bits.overflowError"], apart := false }
def PolicyFeeBetweenSaid : Prop := policyFeeBetweenRow.holds Try.pinned (OpenSpec.ofChange policyFeeBetweenSpec)

/-- ITS FALSE NEIGHBOUR: 'it returns false'. Refute it at one input. -/
def policyFeeBetweenWrong : ChangeSpec := { name := "policyFeeBetween", fn := fun _ => fun
  | [d1, d2] => { results := [.lit (.bool false)], args := [d1, d2] }
  | _ => none }
def PolicyFeeBetweenWrongFalsely : Prop := policyFeeBetweenRow.holds Try.pinned (OpenSpec.ofChange policyFeeBetweenWrong)

/-- 'arrearslaw12.PolicyAssesses': WHATEVER THE INPUT: true; the input reads as it did. -/
def policyAssessesSpec : ChangeSpec := { name := "policyAssesses", fn := fun _ => fun
  | [d1, d2, d3, d4] => { results := [.lit (.bool true)], args := [d1, d2, d3, d4] }
  | _ => none }
def policyAssessesRow : OpenClaim := { program := "ytfjhbamjlffehaa", sum := "1cc76628c620f27ff57421bfd8678d711879bdf8023a969fcb2964e167e531df", func := "arrears/arrearslaw12.PolicyAssesses", spec := "policyAssesses", unfollowed := true, recurses := true, named := ["math/bits.divideError", "math/bits.overflowError"], apart := false }
def PolicyAssessesSaid : Prop := policyAssessesRow.holds Try.pinned (OpenSpec.ofChange policyAssessesSpec)

/-- ITS FALSE NEIGHBOUR: 'it returns false'. Refute it at one input. -/
def policyAssessesWrong : ChangeSpec := { name := "policyAssesses", fn := fun _ => fun
  | [d1, d2, d3, d4] => { results := [.lit (.bool false)], args := [d1, d2, d3, d4] }
  | _ => none }
def PolicyAssessesWrongFalsely : Prop := policyAssessesRow.holds Try.pinned (OpenSpec.ofChange policyAssessesWrong)

/-- 'arrearslaw12.PolicyCapsHold': WHATEVER THE INPUT: true; the input reads as it did. -/
def policyCapsHoldSpec : ChangeSpec := { name := "policyCapsHold", fn := fun _ => fun
  | [d1, d2, d3] => { results := [.lit (.bool true)], args := [d1, d2, d3] }
  | _ => none }
def policyCapsHoldRow : OpenClaim := { program := "ytfjhbamjlffehaa", sum := "1cc76628c620f27ff57421bfd8678d711879bdf8023a969fcb2964e167e531df", func := "arrears/arrearslaw12.PolicyCapsHold", spec := "policyCapsHold", unfollowed := true, recurses := true, named := ["math/bits.divideError", "math/bits.overflowError"], apart := false }
def PolicyCapsHoldSaid : Prop := policyCapsHoldRow.holds Try.pinned (OpenSpec.ofChange policyCapsHoldSpec)

/-- ITS FALSE NEIGHBOUR: 'it returns false'. Refute it at one input. -/
def policyCapsHoldWrong : ChangeSpec := { name := "policyCapsHold", fn := fun _ => fun
  | [d1, d2, d3] => { results := [.lit (.bool false)], args := [d1, d2, d3] }
  | _ => none }
def PolicyCapsHoldWrongFalsely : Prop := policyCapsHoldRow.holds Try.pinned (OpenSpec.ofChange policyCapsHoldWrong)

/- THE SECOND FORM. 'bulk': how many values and letters a reading holds, each counted each time it is reached (what is shared counts as often as it is met; a slice's spare places count too). A statement '..UptoSaid' is the law's where the arguments, and the package variables that the reading takes, are together of bulk at most 1048576: NARROWER than '..Said'. Prove '..Said' where nothing that the law and all that it calls make is longer than what came in: it says more and counts as full. Else prove '..UptoSaid'. A law counts once. -/
mutual
def uptoBulk {H : Type} : DataW H → Nat
  | .lit (.string bytes) => bytes.length + 1
  | .lit _ => 1
  | .nil => 1
  | .ptr d => uptoBulk d + 1
  | .slice elems spare => uptoBulkAll elems + uptoBulkAll spare + 1
  | .agg parts => uptoBulkAll parts + 1
  | .iface _ d => uptoBulk d + 1
  | .map entries => uptoBulkEntries entries + 1
  | .held _ => 1
def uptoBulkAll {H : Type} : List (DataW H) → Nat
  | [] => 0
  | d :: r => uptoBulk d + uptoBulkAll r
def uptoBulkEntries {H : Type} : List (Lit × DataW H) → Nat
  | [] => 0
  | x :: r => uptoBulkEntry x + uptoBulkEntries r
def uptoBulkEntry {H : Type} : Lit × DataW H → Nat
  | (.string bytes, d) => bytes.length + uptoBulk d + 1
  | (_, d) => uptoBulk d + 1
 end
def uptoSmall : (H : Type) → List (DataW H) → Bool := fun _ ds => decide (uptoBulkAll ds ≤ 1048576)
def OpenSpec.upto (s : _root_.Go.ChangeSpec) : _root_.Go.OpenSpec := { _root_.Go.OpenSpec.ofChange s with cond := some uptoSmall }

/-- 'arrearslaw12.PolicyChecks', WHERE WHAT IT READS IS OF BULK AT MOST 1048576: true; the input reads as it did. -/
def policyChecksUptoRow : OpenClaim := { program := "ytfjhbamjlffehaa", sum := "1cc76628c620f27ff57421bfd8678d711879bdf8023a969fcb2964e167e531df", func := "arrears/arrearslaw12.PolicyChecks", spec := "policyChecks", unfollowed := true, recurses := true, apart := false, narrowed := true }
def PolicyChecksUptoSaid : Prop := policyChecksUptoRow.holds Try.pinned (OpenSpec.upto policyChecksSpec)

/-- 'arrearslaw12.PolicyMends', WHERE WHAT IT READS IS OF BULK AT MOST 1048576: true; the input reads as it did. -/
def policyMendsUptoRow : OpenClaim := { program := "ytfjhbamjlffehaa", sum := "1cc76628c620f27ff57421bfd8678d711879bdf8023a969fcb2964e167e531df", func := "arrears/arrearslaw12.PolicyMends", spec := "policyMends", unfollowed := true, recurses := true, apart := false, narrowed := true }
def PolicyMendsUptoSaid : Prop := policyMendsUptoRow.holds Try.pinned (OpenSpec.upto policyMendsSpec)

/-- 'arrearslaw12.PolicyBackoffGrows', WHERE WHAT IT READS IS OF BULK AT MOST 1048576: true; the input reads as it did. -/
def policyBackoffGrowsUptoRow : OpenClaim := { program := "ytfjhbamjlffehaa", sum := "1cc76628c620f27ff57421bfd8678d711879bdf8023a969fcb2964e167e531df", func := "arrears/arrearslaw12.PolicyBackoffGrows", spec := "policyBackoffGrows", unfollowed := true, recurses := true, apart := false, narrowed := true }
def PolicyBackoffGrowsUptoSaid : Prop := policyBackoffGrowsUptoRow.holds Try.pinned (OpenSpec.upto policyBackoffGrowsSpec)

/-- 'arrearslaw12.PolicySendsInTime', WHERE WHAT IT READS IS OF BULK AT MOST 1048576: true; the input reads as it did. -/
def policySendsInTimeUptoRow : OpenClaim := { program := "ytfjhbamjlffehaa", sum := "1cc76628c620f27ff57421bfd8678d711879bdf8023a969fcb2964e167e531df", func := "arrears/arrearslaw12.PolicySendsInTime", spec := "policySendsInTime", unfollowed := true, recurses := true, apart := false, narrowed := true }
def PolicySendsInTimeUptoSaid : Prop := policySendsInTimeUptoRow.holds Try.pinned (OpenSpec.upto policySendsInTimeSpec)

/-- 'arrearslaw12.PolicyBounds', WHERE WHAT IT READS IS OF BULK AT MOST 1048576: true; the input reads as it did. -/
def policyBoundsUptoRow : OpenClaim := { program := "ytfjhbamjlffehaa", sum := "1cc76628c620f27ff57421bfd8678d711879bdf8023a969fcb2964e167e531df", func := "arrears/arrearslaw12.PolicyBounds", spec := "policyBounds", unfollowed := true, recurses := true, apart := false, narrowed := true }
def PolicyBoundsUptoSaid : Prop := policyBoundsUptoRow.holds Try.pinned (OpenSpec.upto policyBoundsSpec)

/-- 'arrearslaw12.PolicyFeeBetween', WHERE WHAT IT READS IS OF BULK AT MOST 1048576: true; the input reads as it did. -/
def policyFeeBetweenUptoRow : OpenClaim := { program := "ytfjhbamjlffehaa", sum := "1cc76628c620f27ff57421bfd8678d711879bdf8023a969fcb2964e167e531df", func := "arrears/arrearslaw12.PolicyFeeBetween", spec := "policyFeeBetween", unfollowed := true, recurses := true, named := ["math/bits.divideError", "math/bits.overflowError"], apart := false, narrowed := true }
def PolicyFeeBetweenUptoSaid : Prop := policyFeeBetweenUptoRow.holds Try.pinned (OpenSpec.upto policyFeeBetweenSpec)

/-- 'arrearslaw12.PolicyAssesses', WHERE WHAT IT READS IS OF BULK AT MOST 1048576: true; the input reads as it did. -/
def policyAssessesUptoRow : OpenClaim := { program := "ytfjhbamjlffehaa", sum := "1cc76628c620f27ff57421bfd8678d711879bdf8023a969fcb2964e167e531df", func := "arrears/arrearslaw12.PolicyAssesses", spec := "policyAssesses", unfollowed := true, recurses := true, named := ["math/bits.divideError", "math/bits.overflowError"], apart := false, narrowed := true }
def PolicyAssessesUptoSaid : Prop := policyAssessesUptoRow.holds Try.pinned (OpenSpec.upto policyAssessesSpec)

/-- 'arrearslaw12.PolicyCapsHold', WHERE WHAT IT READS IS OF BULK AT MOST 1048576: true; the input reads as it did. -/
def policyCapsHoldUptoRow : OpenClaim := { program := "ytfjhbamjlffehaa", sum := "1cc76628c620f27ff57421bfd8678d711879bdf8023a969fcb2964e167e531df", func := "arrears/arrearslaw12.PolicyCapsHold", spec := "policyCapsHold", unfollowed := true, recurses := true, named := ["math/bits.divideError", "math/bits.overflowError"], apart := false, narrowed := true }
def PolicyCapsHoldUptoSaid : Prop := policyCapsHoldUptoRow.holds Try.pinned (OpenSpec.upto policyCapsHoldSpec)

end Rows
end Go.Proofs.Ytfjhbamjlffehaa
