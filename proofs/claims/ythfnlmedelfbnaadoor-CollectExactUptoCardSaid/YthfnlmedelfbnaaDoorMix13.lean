/- Cases under any policies: what Step asks of a case stays. SHORT -/
import Derived.Test.YthfnlmedelfbnaaDoorRf13f
namespace Go.Proofs.YthfnlmedelfbnaaDoor
open Go.RowKit Go.Proofs.YthfnlmedelfbnaaDoorE
set_option linter.unusedSimpArgs false
set_option linter.unusedVariables false

structure CaseI (k : Cas) : Prop where
  cf : 0 ≤ k.cfees ∧ k.cfees ≤ 9223372036854775807
  lf : 0 ≤ k.lfees ∧ k.lfees ≤ 9223372036854775807
  act : k.status = 4 → 1 ≤ k.pamt ∧ k.pamt ≤ 9223372036854775807 ∧ 0 ≤ k.pgot ∧ k.pgot < k.pamt
theorem CaseI.ok {k : Cas} (h : CaseI k) : CaseOk k := ⟨h.cf, h.lf, fun hs => by have := h.act hs; omega⟩
theorem caseI_fresh : CaseI freshC := by constructor <;> simp [freshC]
theorem caseI_end {k : Cas} (h : CaseI k) {st : Int} (hs : st ≠ 4) : CaseI (endP k st) := ⟨by simp [endP], by simpa [endP] using h.lf, fun h' => absurd h' hs⟩
theorem caseI_cure {k : Cas} (h : CaseI k) : CaseI (cureP k) := caseI_end (k := { k with cures := incP k.cures }) ⟨h.cf, h.lf, h.act⟩ (by decide)
theorem caseI_back {k : Cas} (h : CaseI k) : CaseI (backP' k) := ⟨h.cf, h.lf, fun h' => by simp only [backP'] at h'; split at h' <;> omega⟩
theorem caseI_quiet (p : Pol) {k : Cas} (e : Evn) (acts : List Int) (h : CaseI k) : CaseI (quietP p k e acts).1 := by
  unfold quietP
  split
  · exact ⟨by simp, h.lf, fun h' => by simp at h'⟩
  · split
    · exact ⟨h.cf, h.lf, fun h' => by simp at h'⟩
    · split
      · exact ⟨h.cf, h.lf, fun h' => by simp at h'⟩
      · exact h
theorem caseI_age1 {k : Cas} (e : Evn) (h : CaseI k) : CaseI (age1 k e).1 := by
  unfold age1
  split
  · exact caseI_back (k := { k with broken := incP k.broken }) ⟨h.cf, h.lf, h.act⟩
  · exact h
theorem caseI_sus (p : Pol) {k : Cas} (e : Evn) (acts : List Int) (h : CaseI k) : CaseI (susP p k e acts).1 := by
  unfold susP
  split
  · refine ⟨h.cf, h.lf, fun h' => ?_⟩
    simp only [] at h'
    split at h'
    · omega
    · exact h.act h'
  · exact h
theorem caseI_due {k : Cas} (e : Evn) (acts : List Int) (h : CaseI k) : CaseI (dueP k e acts).1 := by
  unfold dueP
  split
  · exact caseI_end h (by decide)
  · exact h
theorem caseI_age (p : Pol) {k : Cas} (e : Evn) (h : CaseI k) : CaseI (ageP p k e).1 := by
  have h1 := caseI_age1 e h
  have h2 : CaseI (age2 p k e).1 := by
    unfold age2
    split
    · exact h1
    · exact caseI_quiet p e _ h1
  unfold ageP
  split
  · exact caseI_cure h1
  · split
    · exact h2
    · exact caseI_due e _ (caseI_sus p e _ h2)
theorem caseI_paid (p : Pol) {k : Cas} {e : Evn} (hv : e.wf) (he : paidE p k e = 0) (h : CaseI k) : CaseI (paidP p k e).1 := by
  have ha : 1 ≤ e.amount := by
    unfold paidE at he
    split at he
    · cases he
    · omega
  have h1 : CaseI (paid1 k e).1 := by
    unfold paid1
    split
    · rename_i h4
      have d := h.act h4
      have w1 : IntKind.i64.wrap (k.pamt - k.pgot) = k.pamt - k.pgot := i64R (by omega) (by omega)
      rw [w1]
      split
      · exact caseI_back (k := { k with kept := incP k.kept }) ⟨h.cf, h.lf, h.act⟩
      · have w2 : IntKind.i64.wrap (k.pgot + e.amount) = k.pgot + e.amount := i64R (by omega) (by omega)
        rw [w2]
        exact ⟨h.cf, h.lf, fun _ => ⟨d.1, d.2.1, by show 0 ≤ k.pgot + e.amount; omega, by show k.pgot + e.amount < k.pamt; omega⟩⟩
    · exact h
  unfold paidP
  split
  · exact h1
  · split
    · exact caseI_cure h1
    · split
      · exact ⟨h1.cf, h1.lf, fun h' => by simp at h'⟩
      · exact h1
theorem caseI_ret (p : Pol) {k : Cas} {e : Evn} (hv : e.wf) (he : retE p k e = 0) (h : CaseI k) : CaseI (retP p k e).1 := by
  have ha : 1 ≤ e.amount := by
    unfold retE at he
    split at he
    · cases he
    · omega
  obtain ⟨_, _, _, hv4⟩ := hv
  unfold retP
  split
  · rename_i h4
    have d := h.act h4
    have w1 : IntKind.i64.wrap (k.pgot - e.amount) = k.pgot - e.amount := i64R (by omega) (by omega)
    rw [w1]
    exact ⟨h.cf, h.lf, fun _ => ⟨d.1, d.2.1, by show 0 ≤ max 0 (k.pgot - e.amount); omega, by show max 0 (k.pgot - e.amount) < k.pamt; omega⟩⟩
  · exact h
theorem caseI_prom (p : Pol) {k : Cas} {e : Evn} (hv : e.wf) (he : promE p k e = 0) (h : CaseI k) : CaseI (promP p k e).1 := by
  obtain ⟨_, _, _, hv4⟩ := hv
  have ha : 1 ≤ e.amount := by
    unfold promE at he
    split at he
    · cases he
    · split at he
      · cases he
      · omega
  exact ⟨h.cf, h.lf, fun _ => ⟨ha, hv4.2, by simp [promP], by simp [promP]; omega⟩⟩
theorem caseI_fee {p : Pol} {k : Cas} {e : Evn} (hp : p.fine) (he : feeE p k e = 0) (h : CaseI k) : CaseI (feeP p k e).1 := by
  have hc := hp.cycleCap
  have hl := hp.lifeCap
  have h1 := h.cf
  have h2 := h.lf
  unfold feeE at he
  split at he
  · cases he
  split at he
  · cases he
  split at he
  · cases he
  split at he
  · cases he
  rename_i h4
  split at he
  · cases he
  have w1 : IntKind.i64.wrap (k.cfees + e.amount) = k.cfees + e.amount := i64R (by omega) (by omega)
  have w2 : IntKind.i64.wrap (k.lfees + e.amount) = k.lfees + e.amount := i64R (by omega) (by omega)
  unfold feeP
  rw [w1, w2]
  exact ⟨⟨by show 0 ≤ k.cfees + e.amount; omega, by show k.cfees + e.amount ≤ _; omega⟩, ⟨by show 0 ≤ k.lfees + e.amount; omega, by show k.lfees + e.amount ≤ _; omega⟩, fun h' => absurd h' h4⟩
theorem caseI_close (p : Pol) {k : Cas} (e : Evn) (h : CaseI k) : CaseI (closeP p k e).1 := by
  unfold closeP
  split
  · have := caseI_cure h
    exact ⟨this.cf, this.lf, fun h' => by simp at h'⟩
  · exact ⟨h.cf, h.lf, fun h' => by simp at h'⟩
/-- Whatever policies the steps go by. -/
theorem caseI_step {p : Pol} {k : Cas} {e : Evn} (hv : e.wf) (h : CaseI k) : CaseI (stepP p k e).1 := by
  by_cases h0 : (stepP p k e).2.2 = 0
  · obtain ⟨hg, h1, h2, he, hs⟩ := step_ok h0
    have hp := good_fine hg
    rw [hs]
    rcases kinds ⟨h1, h2⟩ with h1 | h1 | h1 | h1 | h1 | h1 | h1 <;> simp only [errK, resK, h1] at he ⊢
    · exact caseI_age p e h
    · exact caseI_paid p hv he h
    · exact caseI_ret p hv he h
    · exact caseI_prom p hv he h
    · exact caseI_end (k := { k with restr := incP k.restr }) ⟨h.cf, h.lf, h.act⟩ (by decide)
    · exact caseI_fee hp he h
    · exact caseI_close p e h
  · rw [(step_bad h0).1]
    exact h
end Go.Proofs.YthfnlmedelfbnaaDoor
