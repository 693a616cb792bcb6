/- The budgets of a step. -/
import Derived.Test.YthfnlmedelfbnaaInv13c
namespace Go.Proofs.Ythfnlmedelfbnaa
open Go.RowKit Go.Proofs.YthfnlmedelfbnaaE
set_option linter.unusedSimpArgs false
set_option linter.unusedVariables false

/-- An event in memory, though a block of the call's own is written. -/
theorem RE.at_gc {w w3 : World} {A : Option Addr} {es : List Evn} {gc i : Nat} (h : RE w A es) (hev : Evt (fun _ => False) w w3) (hg : w.heap.size ≤ gc) (hi : i < es.length) : ∃ b o, A = some ⟨b, o, none⟩ ∧ ∀ w', Evt (fun j => j = gc) w3 w' → ∀ j v, (evnC es[i])[j]? = some v → w'.cell? ⟨b, o + i * 4 + j, none⟩ = some v := by
  obtain ⟨b, o, rfl, hc⟩ := h.2 (by omega)
  refine ⟨b, o, rfl, fun w' he j v hv => ?_⟩
  have h0 := hc i _ (List.getElem?_eq_getElem hi) j v hv
  have hb := World.block_lt_of_cell? w _ h0
  simp only [] at hb
  exact cell_evt he (cell_evt hev h0 id) (by simp only []; omega)
/-- Budgets: the case that comes about, what a fee may be, what is charged. -/
theorem step_bud {p : Pol} {N : Int} {k : Cas} {e : Evn} (hp : p.fine) (hk : CasOk p N k) (hv : e.wf) (hN : N ≤ 9000000000000000000) :
    CasOk p (N + 1) (stepP p k e).1 ∧ (e.kind = 6 ∧ (stepP p k e).2.2 = 0 → 1 ≤ e.amount ∧ e.amount ≤ p.lifeCap - k.lfees ∧ (stepP p k e).1.lfees = k.lfees + e.amount) ∧ (¬ (e.kind = 6 ∧ (stepP p k e).2.2 = 0) → (stepP p k e).1.lfees = k.lfees) := by
  by_cases h0 : (stepP p k e).2.2 = 0
  · obtain ⟨hr, hc⟩ := step_rel hp hv hk hN h0
    obtain ⟨_, _, _, he, _⟩ := step_ok h0
    refine ⟨hc, fun h6 => ?_, fun h6 => ?_⟩
    · have hf := hr.fees
      rw [if_pos h6.1] at hf
      simp only [errK, h6.1] at he
      have he' : feeE p k e = 0 := he
      unfold feeE at he'
      split at he'
      · cases he'
      split at he'
      · cases he'
      split at he'
      · cases he'
      split at he'
      · cases he'
      split at he'
      · cases he'
      exact ⟨by omega, by omega, hf⟩
    · have hf := hr.fees
      rw [if_neg (fun h => h6 ⟨h, h0⟩)] at hf
      omega
  · rw [(step_bad h0).1]
    exact ⟨ok_mono hk (by omega), fun h => absurd h.2 h0, fun _ => rfl⟩
end Go.Proofs.Ythfnlmedelfbnaa
