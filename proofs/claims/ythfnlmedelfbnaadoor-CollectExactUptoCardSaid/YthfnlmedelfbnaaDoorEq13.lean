/- Cases compared; what a step is, in the plain. -/
import Derived.Test.YthfnlmedelfbnaaDoorEv13
namespace Go.Proofs.YthfnlmedelfbnaaDoor
open Go.RowKit Go.Proofs.YthfnlmedelfbnaaDoorE
set_option linter.unusedSimpArgs false
set_option linter.unusedVariables false

instance tflatC : TFlat Tryd.prog 27 [some .i64, none, some .i64, some .i64, some .i64, some .i64, some .i64, some .i64, some .i64, some .i64, some .i64, some .i64, some .i64, some .i64, some .i64] := ⟨by kernel_rfl⟩
instance tflatE : TFlat Tryd.prog 37 [some .i64, some .i64, some .i64, some .i64] := ⟨by kernel_rfl⟩
theorem casC_inj {a b : Cas} (h : casC a = casC b) : a = b := by
  cases a; cases b
  simp only [casC, List.cons.injEq, Value.int.injEq, Value.bool.injEq, and_true, true_and] at h
  obtain ⟨rfl, rfl, rfl, rfl, rfl, rfl, rfl, rfl, rfl, rfl, rfl, rfl, rfl, rfl, rfl⟩ := h
  rfl
theorem step_bad {p : Pol} {k : Cas} {e : Evn} (h : (stepP p k e).2.2 ≠ 0) : (stepP p k e).1 = k ∧ (stepP p k e).2.1 = [] := by
  unfold stepP at *
  split
  · exact ⟨rfl, rfl⟩
  · rename_i h1
    rw [if_neg h1] at h
    split
    · exact ⟨rfl, rfl⟩
    · rename_i h2
      rw [if_neg h2] at h
      split
      · exact ⟨rfl, rfl⟩
      · rename_i h3
        rw [if_neg h3] at h
        exact absurd rfl h
theorem step_ok {p : Pol} {k : Cas} {e : Evn} (h : (stepP p k e).2.2 = 0) : goodP p = true ∧ 1 ≤ e.kind ∧ e.kind ≤ 7 ∧ errK p k e = 0 ∧ stepP p k e = ((resK p k e).1, (resK p k e).2, 0) := by
  unfold stepP at *
  split at h
  · cases h
  · rename_i hg
    split at h
    · cases h
    · rename_i hk
      split at h
      · rename_i h0; exact absurd h h0
      · rename_i h0
        refine ⟨by cases hh : goodP p <;> simp_all, by omega, by omega, by omega, ?_⟩
        rw [if_neg hg, if_neg hk, if_neg h0]
end Go.Proofs.YthfnlmedelfbnaaDoor
