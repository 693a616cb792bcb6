/- The budgets of a step. -/
import Derived.Test.YthfnlmedelfbnaaDoorInv13
import Derived.Test.YthfnlmedelfbnaaDoorEvn13
namespace Go.Proofs.YthfnlmedelfbnaaDoor
open Go.RowKit Go.Proofs.YthfnlmedelfbnaaDoorE
set_option linter.unusedSimpArgs false
set_option linter.unusedVariables false

/-- Budgets: the case that comes about, what a fee may be, what is charged. -/
theorem step_bud {p : Pol} {N : Int} {k : Cas} {e : Evn} (hp : p.fine) (hk : CasOk p N k) (hv : e.wf) (hN : N ≤ 9000000000000000000) :
    CasOk p (N + 1) (stepP p k e).1 ∧ (e.kind = 6 ∧ (stepP p k e).2.2 = 0 → 1 ≤ e.amount ∧ e.amount ≤ p.lifeCap - k.lfees ∧ (stepP p k e).1.lfees = k.lfees + e.amount) ∧ (¬ (e.kind = 6 ∧ (stepP p k e).2.2 = 0) → (stepP p k e).1.lfees = k.lfees) := by
  by_cases h0 : (stepP p k e).2.2 = 0
  · obtain ⟨hr, hc⟩ := step_rel hp hv hk hN h0
    obtain ⟨_, _, _, he, _⟩ := step_ok h0
    refine ⟨hc, fun h6 => ?_, fun h6 => ?_⟩
    · have hf := hr.fees
      rw [if_pos h6.1] at hf
      simp only [errK, h6.1] at he
      have he' : feeE p k e = 0 := he
      unfold feeE at he'
      split at he'
      · cases he'
      split at he'
      · cases he'
      split at he'
      · cases he'
      split at he'
      · cases he'
      split at he'
      · cases he'
      exact ⟨by omega, by omega, hf⟩
    · have hf := hr.fees
      rw [if_neg (fun h => h6 ⟨h, h0⟩)] at hf
      omega
  · rw [(step_bad h0).1]
    exact ⟨ok_mono hk (by omega), fun h => absurd h.2 h0, fun _ => rfl⟩
end Go.Proofs.YthfnlmedelfbnaaDoor
