/- The shape of every case. -/
import Derived.Test.YthfnlmedelfbnaaInv13b
namespace Go.Proofs.Ythfnlmedelfbnaa
open Go.RowKit Go.Proofs.YthfnlmedelfbnaaE
set_option linter.unusedSimpArgs false
set_option linter.unusedVariables false

/-- 13, Words. -/
structure Shape (k : Cas) : Prop where
  st : 1 ≤ k.status ∧ k.status ≤ 9
  since : isOpen k.status → 1 ≤ k.since ∧ k.since ≤ k.deadline
  shut : ¬ isOpen k.status → k.since = 0 ∧ k.deadline = 0 ∧ k.susp = false
  act : k.status = 4 → 1 ≤ k.promises ∧ 1 ≤ k.pdue ∧ 1 ≤ k.pamt ∧ 0 ≤ k.pgot ∧ k.pgot < k.pamt
  pas : k.status ≠ 4 → k.pdue = 0 ∧ k.pamt = 0 ∧ k.pgot = 0
  susT : k.status = 5 → k.susp = true
  susF : k.status = 3 → k.susp = false
theorem inv_shape {p : Pol} {N : Int} {k : Cas} (h : Inv p N k) : Shape k := by
  cases hg : goodP p with
  | false =>
    rw [h.2 hg]
    refine ⟨?_, ?_, ?_, ?_, ?_, ?_, ?_⟩ <;> simp [freshC, isOpen]
  | true =>
    have hk := h.1 hg
    have hco := (good_fine hg).chargeOff
    refine ⟨hk.st, fun ho => ⟨(hk.since ho).1, by have := (hk.dead ho).1; omega⟩, fun ho => ⟨(hk.shut ho).1, (hk.shut ho).2.1, (hk.shut ho).2.2.2.2⟩, fun ho => ?_, hk.pas, hk.susT, hk.susF⟩
    have := hk.act ho
    omega
end Go.Proofs.Ythfnlmedelfbnaa
