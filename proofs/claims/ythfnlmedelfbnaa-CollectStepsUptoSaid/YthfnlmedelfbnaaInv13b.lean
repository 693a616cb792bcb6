/- Every step, from Fresh on. -/
import Derived.Test.YthfnlmedelfbnaaInv13
namespace Go.Proofs.Ythfnlmedelfbnaa
open Go.RowKit Go.Proofs.YthfnlmedelfbnaaE
set_option linter.unusedSimpArgs false
set_option linter.unusedVariables false

theorem step_rel {p : Pol} {N : Int} {k : Cas} {e : Evn} (hp : p.fine) (hv : e.wf) (hk : CasOk p N k) (hN : N ≤ 9000000000000000000) (h : (stepP p k e).2.2 = 0) : StepR p k e (stepP p k e).1 (stepP p k e).2.1 ∧ CasOk p (N + 1) (stepP p k e).1 := by
  obtain ⟨_, h1, h2, he, hs⟩ := step_ok h
  rw [hs]
  rcases kinds ⟨h1, h2⟩ with h1 | h1 | h1 | h1 | h1 | h1 | h1
  · simp only [errK, resK, h1] at he ⊢
    exact rel_age hp hv hk hN h1 he
  · simp only [errK, resK, h1] at he ⊢
    exact rel_paid hp hv hk hN h1 he
  · simp only [errK, resK, h1] at he ⊢
    exact rel_ret hp hv hk hN h1 he
  · simp only [errK, resK, h1] at he ⊢
    exact rel_prom hp hv hk hN h1 he
  · simp only [errK, resK, h1] at he ⊢
    exact rel_rest hp hv hk hN h1 he
  · simp only [errK, resK, h1] at he ⊢
    exact rel_fee hp hv hk hN h1 he
  · simp only [errK, resK, h1] at he ⊢
    exact rel_close hp hv hk hN h1 he
/-- A case from Fresh on. -/
def Inv (p : Pol) (N : Int) (k : Cas) : Prop := (goodP p = true → CasOk p N k) ∧ (goodP p = false → k = freshC)
theorem inv_fresh (p : Pol) : Inv p 0 freshC := ⟨fun h => ok_fresh (good_fine h), fun _ => rfl⟩
theorem inv_step {p : Pol} {N : Int} {k : Cas} {e : Evn} (h : Inv p N k) (hv : e.wf) (hN : N ≤ 9000000000000000000) : Inv p (N + 1) (stepP p k e).1 ∧ ((stepP p k e).2.2 = 0 → goodP p = true ∧ CasOk p N k ∧ StepR p k e (stepP p k e).1 (stepP p k e).2.1) := by
  by_cases h0 : (stepP p k e).2.2 = 0
  · have hg := (step_ok h0).1
    have hr := step_rel (good_fine hg) hv (h.1 hg) hN h0
    exact ⟨⟨fun _ => hr.2, fun hb => by rw [hg] at hb; cases hb⟩, fun _ => ⟨hg, h.1 hg, hr.1⟩⟩
  · refine ⟨?_, fun hh => absurd hh h0⟩
    rw [(step_bad h0).1]
    exact ⟨fun hg => ok_mono (h.1 hg) (by omega), h.2⟩
/-- What is told, of any step. -/
structure Told (k K : Cas) (acts : List Int) : Prop where
  broken : K.broken = k.broken + countI acts 1
  kept : K.kept = k.kept + countI acts 5
  cures : K.cures = k.cures + countI acts 6
  cycles : K.cycles = k.cycles + countI acts 2
  restr : K.restr = k.restr + countI acts 7
  off : (K.status = 8 ∧ k.status ≠ 8) ↔ countI acts 4 = 1
  closed : (K.status = 9 ∧ k.status ≠ 9) ↔ countI acts 8 = 1
  sus : K.susp = true → k.susp = false → countI acts 3 = 1
  len : acts.length ≤ 3
  cnt : ∀ a, 0 ≤ countI acts a ∧ countI acts a ≤ 3
theorem count_len (acts : List Int) (a : Int) : countI acts a ≤ acts.length := List.countP_le_length
theorem step_told {p : Pol} {N : Int} {k : Cas} {e : Evn} (h : Inv p N k) (hv : e.wf) (hN : N ≤ 9000000000000000000) : Told k (stepP p k e).1 (stepP p k e).2.1 := by
  by_cases h0 : (stepP p k e).2.2 = 0
  · obtain ⟨hg, hk, hr⟩ := (inv_step h hv hN).2 h0
    obtain ⟨c1, c2, c3, c4, c5, c6, c7, c8, c9, c10, c11, c12, c13, c14, c15⟩ := hr
    exact ⟨c1, c2, c3, c4, c5, by omega, by omega, c9, c10, fun a => ⟨by omega, by have := count_len (stepP p k e).2.1 a; omega⟩⟩
  · obtain ⟨h1, h2⟩ := step_bad h0
    rw [h1, h2]
    refine ⟨?_, ?_, ?_, ?_, ?_, ?_, ?_, ?_, ?_, ?_⟩ <;> simp [countI]
end Go.Proofs.Ythfnlmedelfbnaa
