/- What a policy that may be is. -/
import Derived.Test.YtchfkkliechgoaaL12c
import Derived.Test.YtchfkkliechgoaaOps2
namespace Go.Proofs.Ytchfkkliechgoaa
open Go.RowKit Go.Proofs.YtchfkkliechgoaaE
set_option linter.unusedSimpArgs false
set_option linter.unusedVariables false
set_option maxRecDepth 4000

theorem checkF_all {p : Pol} {rs : List (Pol → Bool)} : ∀ {i : Nat}, (checkF p rs i).1 = 0 → ∀ r ∈ rs, r p = true := by
  induction rs with
  | nil => intro i _ r hr; cases hr
  | cons s ss ih =>
    intro i h r hr
    simp only [checkF] at h
    split at h
    · rename_i hs
      rcases List.mem_cons.1 hr with rfl | hr
      · exact hs
      · exact ih h r hr
    · simp at h
theorem checkF_at {p : Pol} {rs : List (Pol → Bool)} : ∀ {i k : Nat} {r : Pol → Bool}, rs[k]? = some r → r p = false → (∀ (j : Nat) s, j < k → rs[j]? = some s → s p = true) → checkF p rs i = (120, ((i + k : Nat) : Int) + 1) := by
  induction rs with
  | nil => intro i k r hk; simp at hk
  | cons s ss ih =>
    intro i k r hk hr hl
    cases k with
    | zero =>
      simp at hk
      subst hk
      simp [checkF, hr]
    | succ k =>
      have h0 := hl 0 s (by omega) rfl
      simp only [checkF, h0, if_true]
      have := ih (i := i + 1) (k := k) (r := r) (by simpa using hk) hr (fun j t hj ht => hl (j + 1) t (by omega) (by simpa using ht))
      rw [this]
      congr 2
      omega
theorem checkF_ok {p : Pol} {rs : List (Pol → Bool)} : ∀ {i : Nat}, (∀ r ∈ rs, r p = true) → checkF p rs i = (0, 0) := by
  induction rs with
  | nil => intro i _; rfl
  | cons s ss ih =>
    intro i h
    simp only [checkF, h s (List.mem_cons_self ..), if_true]
    exact ih (fun r hr => h r (List.mem_cons_of_mem _ hr))
theorem mayL_at {k : Nat} (hk : k < 18) : mayL[k]? = some (fun p => mayB p ((k : Int) + 1)) := by
  simp [mayL, hk]
theorem mayL_mem {r : Pol → Bool} (h : r ∈ mayL) : ∃ k : Nat, k < 18 ∧ r = fun p => mayB p ((k : Int) + 1) := by
  simp only [mayL, List.mem_map, List.mem_range] at h
  obtain ⟨k, hk, rfl⟩ := h
  exact ⟨k, hk, rfl⟩
theorem check_ok {p : Pol} (h : ∀ k : Nat, k < 18 → mayB p ((k : Int) + 1) = true) : checkP p = (0, 0) := by
  rw [← check_may]
  refine checkF_ok fun r hr => ?_
  obtain ⟨k, hk, rfl⟩ := mayL_mem hr
  exact h k hk
theorem check_at {p : Pol} {k : Nat} (hk : k < 18) (h : mayB p ((k : Int) + 1) = false) (hl : ∀ j : Nat, j < k → mayB p ((j : Int) + 1) = true) : checkP p = (120, (k : Int) + 1) := by
  rw [← check_may, checkF_at (mayL_at hk) h]
  · simp
  · intro j s hj hs
    rw [mayL_at (by omega)] at hs
    obtain rfl := Option.some.inj hs
    exact hl j hj
theorem check_all {p : Pol} (h : (checkP p).1 = 0) : ∀ k : Nat, k < 18 → mayB p ((k : Int) + 1) = true := by
  intro k hk
  rw [← check_may] at h
  exact checkF_all h _ (List.mem_of_getElem? (mayL_at hk))

def goodP (p : Pol) : Bool := decide ((checkP p).1 = 0)
structure Pol.fine (p : Pol) : Prop where
  firstDay : 1 ≤ p.firstDay ∧ p.firstDay ≤ 3652059
  grace : 0 ≤ p.grace ∧ p.grace ≤ 30
  nonAccrual : p.grace < p.nonAccrual ∧ p.nonAccrual ≤ 365
  chargeOff : 1 ≤ p.chargeOff ∧ p.chargeOff ≤ 365
  lateRate : 0 ≤ p.lateRate ∧ p.lateRate ≤ 10000
  lateMin : 0 ≤ p.lateMin ∧ p.lateMin ≤ 1000000000
  lateMax : p.lateMin ≤ p.lateMax ∧ p.lateMax ≤ 1000000000
  cycleCap : 0 ≤ p.cycleCap ∧ p.cycleCap ≤ 1000000000
  lifeCap : 0 ≤ p.lifeCap ∧ p.lifeCap ≤ 1000000000
  promises : 0 ≤ p.promises ∧ p.promises ≤ 8
  promiseDays : 1 ≤ p.promiseDays ∧ p.promiseDays ≤ 60
  restructures : 0 ≤ p.restructures ∧ p.restructures ≤ 4
  order : 0 ≤ p.order ∧ p.order ≤ 5
  rule : 0 ≤ p.rule ∧ p.rule ≤ 3
  retryBase : 1 ≤ p.retryBase ∧ p.retryBase ≤ 64
  retryCap : p.retryBase ≤ p.retryCap ∧ p.retryCap ≤ 64
  snapEvery : 0 ≤ p.snapEvery ∧ p.snapEvery ≤ 1000
  days : daysB p.hs = true
theorem fine_all {p : Pol} (h : p.fine) : ∀ k : Nat, k < 18 → mayB p ((k : Int) + 1) = true := by
  obtain ⟨h1, h2, h3, h4, h5, h6, h7, h8, h9, h10, h11, h12, h13, h14, h15, h16, h17, h18⟩ := h
  intro k hk
  obtain rfl | rfl | rfl | rfl | rfl | rfl | rfl | rfl | rfl | rfl | rfl | rfl | rfl | rfl | rfl | rfl | rfl | rfl : k = 0 ∨ k = 1 ∨ k = 2 ∨ k = 3 ∨ k = 4 ∨ k = 5 ∨ k = 6 ∨ k = 7 ∨ k = 8 ∨ k = 9 ∨ k = 10 ∨ k = 11 ∨ k = 12 ∨ k = 13 ∨ k = 14 ∨ k = 15 ∨ k = 16 ∨ k = 17 := by omega
  all_goals simp [mayB, inB, *]
theorem all_fine {p : Pol} (h : ∀ k : Nat, k < 18 → mayB p ((k : Int) + 1) = true) : p.fine := by
  refine ⟨?_, ?_, ?_, ?_, ?_, ?_, ?_, ?_, ?_, ?_, ?_, ?_, ?_, ?_, ?_, ?_, ?_, ?_⟩
  · simpa [mayB, inB] using h 0 (by omega)
  · simpa [mayB, inB] using h 1 (by omega)
  · simpa [mayB, inB] using h 2 (by omega)
  · simpa [mayB, inB] using h 3 (by omega)
  · simpa [mayB, inB] using h 4 (by omega)
  · simpa [mayB, inB] using h 5 (by omega)
  · simpa [mayB, inB] using h 6 (by omega)
  · simpa [mayB, inB] using h 7 (by omega)
  · simpa [mayB, inB] using h 8 (by omega)
  · simpa [mayB, inB] using h 9 (by omega)
  · simpa [mayB, inB] using h 10 (by omega)
  · simpa [mayB, inB] using h 11 (by omega)
  · simpa [mayB, inB] using h 12 (by omega)
  · simpa [mayB, inB] using h 13 (by omega)
  · simpa [mayB, inB] using h 14 (by omega)
  · simpa [mayB, inB] using h 15 (by omega)
  · simpa [mayB, inB] using h 16 (by omega)
  · simpa [mayB, inB] using h 17 (by omega)
theorem good_fine {p : Pol} (h : goodP p = true) : p.fine := all_fine (check_all (by simpa [goodP] using h))
theorem fine_check {p : Pol} (h : p.fine) : checkP p = (0, 0) := check_ok (fine_all h)
theorem fine_good {p : Pol} (h : p.fine) : goodP p = true := by simp [goodP, fine_check h]
theorem ret_int {a b : Int} {k : IntKind} (h : a = b) : Ending.returned (.int k a) = Ending.returned (.int k b) := by rw [h]
end Go.Proofs.Ytchfkkliechgoaa
