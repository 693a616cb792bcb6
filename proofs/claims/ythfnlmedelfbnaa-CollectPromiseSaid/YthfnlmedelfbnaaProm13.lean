/- 13.5 to 13.7: a promise, in the plain. -/
import Derived.Test.YthfnlmedelfbnaaFin13
namespace Go.Proofs.Ythfnlmedelfbnaa
open Go.RowKit Go.Proofs.YthfnlmedelfbnaaE
set_option linter.unusedSimpArgs false
set_option linter.unusedVariables false

/-- A step that is taken, by its kind. -/
theorem step_is {p : Pol} {k : Cas} {e : Evn} {R : Cas × List Int} (hp : p.fine) (hk : 1 ≤ e.kind ∧ e.kind ≤ 7) (he : errK p k e = 0) (hr : resK p k e = R) : stepP p k e = (R.1, R.2, 0) := by
  unfold stepP
  rw [if_neg (by simp [fine_good hp]), if_neg (by omega), if_neg (by rw [he]; decide), hr]
/-- A case that was opened on a day. -/
def openC (p : Pol) (day : Int) (su : Bool) : Cas := { freshC with cycles := 1, since := day, deadline := day + p.chargeOff, status := if su then 5 else 3, susp := su }
theorem prom1 {p : Pol} {day : Int} (hp : p.fine) (hd : 1 ≤ day ∧ day ≤ 3652059) : ∃ su acts, stepP p freshC { kind := 1, today := day, days := p.grace + 1, amount := 0 } = (openC p day su, 2 :: acts, 0) := by
  have hgr := hp.grace
  have hco := hp.chargeOff
  have h1 : age1 freshC { kind := 1, today := day, days := p.grace + 1, amount := 0 } = (freshC, []) := by simp [age1, freshC]
  have h2 : age2 p freshC { kind := 1, today := day, days := p.grace + 1, amount := 0 } = ({ freshC with cycles := 1, since := day, deadline := day + p.chargeOff, status := 3 }, [2]) := by
    unfold age2
    rw [h1, if_neg (by show ¬ (openB freshC = true); decide)]
    show quietP p freshC { kind := 1, today := day, days := p.grace + 1, amount := 0 } [] = _
    unfold quietP
    rw [if_pos (show p.grace < p.grace + 1 by omega)]
    rfl
  have he : errK p freshC { kind := 1, today := day, days := p.grace + 1, amount := 0 } = 0 := by simp [errK, ageE, overB, freshC]; omega
  have ha : resK p freshC { kind := 1, today := day, days := p.grace + 1, amount := 0 } = dueP (susP p { freshC with cycles := 1, since := day, deadline := day + p.chargeOff, status := 3 } { kind := 1, today := day, days := p.grace + 1, amount := 0 } [2]).1 { kind := 1, today := day, days := p.grace + 1, amount := 0 } (susP p { freshC with cycles := 1, since := day, deadline := day + p.chargeOff, status := 3 } { kind := 1, today := day, days := p.grace + 1, amount := 0 } [2]).2 := by
    simp only [resK, if_true]
    unfold ageP
    rw [if_neg (by rw [h1]; simp [openB, freshC]), h2, if_neg (by simp [openB])]
  have hn : ¬ (day + p.chargeOff ≤ day) := by omega
  rw [step_is hp (by simp) he ha]
  by_cases hs : p.nonAccrual ≤ p.grace + 1
  · refine ⟨true, [3], ?_⟩
    unfold susP
    rw [if_pos ⟨rfl, hs⟩]
    simp only [dueP, hn, if_false]
    rfl
  · refine ⟨false, [], ?_⟩
    unfold susP
    rw [if_neg (fun h => hs h.2)]
    simp only [dueP, hn, if_false]
    rfl
/-- A case with a promise. -/
def promC (p : Pol) (day days amount got : Int) (su : Bool) : Cas := { openC p day su with promises := 1, pdue := day + days, pamt := amount, pgot := got, deadline := day + p.chargeOff + days, status := 4 }
theorem i64r {x : Int} (h : -9223372036854775808 ≤ x) (h1 : x ≤ 9223372036854775807) : IntKind.i64.wrap x = x := by rw [IntKind.wrap_i64]; omega
theorem prom2 {p : Pol} {day days amount : Int} {su : Bool} (hp : p.fine) (hd : 1 ≤ day ∧ day ≤ 3651959) (hn : 1 ≤ days ∧ days ≤ p.promiseDays) (ha : 2 ≤ amount) (h1 : 1 ≤ p.promises) : stepP p (openC p day su) { kind := 4, today := day, days := days, amount := amount } = (promC p day days amount 0 su, [], 0) := by
  have hpd := hp.promiseDays
  have hco := hp.chargeOff
  have hs : (openC p day su).status = 3 ∨ (openC p day su).status = 5 := by cases su <;> simp [openC]
  refine (step_is hp (by simp) (R := (promC p day days amount 0 su, [])) ?_ ?_)
  · have ho : overB (openC p day su) = false := by simp [overB]; omega
    have hb : openB (openC p day su) = true := by simp [openB]; omega
    simp only [errK]
    unfold promE
    simp only [ho, hb]
    have h4 : (openC p day su).status ≠ 4 := by omega
    have h5 : ¬ (p.promises ≤ (openC p day su).promises) := by simp [openC, freshC]; omega
    simp [h4, h5]
    omega
  · simp only [resK]
    simp [promP, promC, openC, incP, freshC, i64r (x := day + p.chargeOff + days) (by omega) (by omega), IntKind.wrap_i64]
theorem prom3 {p : Pol} {day days amount part : Int} {su : Bool} (hp : p.fine) (ha : 2 ≤ amount ∧ amount ≤ 9223372036854775807) (hq : 1 ≤ part ∧ part < amount) : stepP p (promC p day days amount 0 su) { kind := 2, today := 0, days := 1, amount := part } = (promC p day days amount part su, [], 0) := by
  refine (step_is hp (by simp) (R := (promC p day days amount part su, [])) ?_ ?_)
  · simp [errK, paidE, overB, promC]
    omega
  · have h1 : paid1 (promC p day days amount 0 su) { kind := 2, today := 0, days := 1, amount := part } = (promC p day days amount part su, []) := by
      unfold paid1
      rw [if_pos (show (promC p day days amount 0 su).status = 4 from rfl), i64r (by simp [promC]; omega) (by simp [promC]; omega), if_neg (by simp [promC]; omega), i64r (by simp [promC]; omega) (by simp [promC]; omega)]
      simp [promC]
    simp only [resK]
    simp [paidP, h1]
/-- A promise kept. -/
theorem prom4 {p : Pol} {day days amount part : Int} {su : Bool} (hp : p.fine) (ha : 2 ≤ amount ∧ amount ≤ 9223372036854775807) (hq : 1 ≤ part ∧ part < amount) : ∃ K, stepP p (promC p day days amount part su) { kind := 2, today := 0, days := 1, amount := amount - part } = (K, [5], 0) ∧ K.kept = 1 ∧ openB K = true ∧ K.status ≠ 4 := by
  refine ⟨backP' { promC p day days amount part su with kept := incP (promC p day days amount part su).kept }, (step_is hp (by simp) (R := (_, [5])) ?_ ?_), ?_, ?_, ?_⟩
  · simp [errK, paidE, overB, promC]
    omega
  · have h1 : paid1 (promC p day days amount part su) { kind := 2, today := 0, days := 1, amount := amount - part } = (backP' { promC p day days amount part su with kept := incP (promC p day days amount part su).kept }, [5]) := by
      unfold paid1
      rw [if_pos (show (promC p day days amount part su).status = 4 from rfl), i64r (by simp [promC]; omega) (by simp [promC]; omega), if_pos (by simp [promC])]
    simp only [resK]
    simp [paidP, h1]
    rfl
  · simp [backP', promC, openC, freshC, incP, IntKind.wrap_i64]
  · cases su <;> simp [backP', promC, openC, openB]
  · cases su <;> simp [backP', promC, openC]
/-- Not broken on its last day. -/
theorem prom5 {p : Pol} {day days amount part : Int} {su : Bool} (hp : p.fine) (hd : 1 ≤ day ∧ day ≤ 3651959) (hn : 1 ≤ days ∧ days ≤ p.promiseDays) : ∃ K acts, stepP p (promC p day days amount part su) { kind := 1, today := day + days, days := 1, amount := 0 } = (K, acts, 0) ∧ K.status = 4 ∧ countI acts 1 = 0 := by
  have hpd := hp.promiseDays
  have hco := hp.chargeOff
  have hop : openB (promC p day days amount part su) = true := by simp [openB, promC]
  have h1 : age1 (promC p day days amount part su) { kind := 1, today := day + days, days := 1, amount := 0 } = (promC p day days amount part su, []) := by
    unfold age1
    rw [if_neg (by simp [promC])]
  have h2 : age2 p (promC p day days amount part su) { kind := 1, today := day + days, days := 1, amount := 0 } = (promC p day days amount part su, []) := by
    unfold age2
    rw [h1, if_pos hop]
  have he : errK p (promC p day days amount part su) { kind := 1, today := day + days, days := 1, amount := 0 } = 0 := by
    simp [errK, ageE, overB, promC]
    omega
  have ha : resK p (promC p day days amount part su) { kind := 1, today := day + days, days := 1, amount := 0 } = dueP (susP p (promC p day days amount part su) { kind := 1, today := day + days, days := 1, amount := 0 } []).1 { kind := 1, today := day + days, days := 1, amount := 0 } (susP p (promC p day days amount part su) { kind := 1, today := day + days, days := 1, amount := 0 } []).2 := by
    simp only [resK, if_true]
    unfold ageP
    rw [if_neg (by simp), h2, if_neg (by rw [hop]; decide)]
  rw [step_is hp (by simp) he ha]
  have hdl : ¬ ((promC p day days amount part su).deadline ≤ day + days) := by simp [promC]; omega
  by_cases hs : (promC p day days amount part su).susp = false ∧ p.nonAccrual ≤ 1
  · unfold susP
    rw [if_pos hs]
    unfold dueP
    rw [if_neg hdl]
    exact ⟨_, _, rfl, by simp [promC], by simp [countI]⟩
  · unfold susP
    rw [if_neg hs]
    unfold dueP
    rw [if_neg hdl]
    exact ⟨_, _, rfl, by simp [promC], by simp [countI]⟩
/-- Broken behind its last day. -/
theorem prom6 {p : Pol} {day days amount part : Int} {su : Bool} (hp : p.fine) (hd : 1 ≤ day ∧ day ≤ 3651959) (hn : 1 ≤ days ∧ days ≤ p.promiseDays) : ∃ K acts, stepP p (promC p day days amount part su) { kind := 1, today := day + days + 1, days := 1, amount := 0 } = (K, 1 :: acts, 0) ∧ K.status ≠ 4 ∧ K.broken = 1 := by
  have hpd := hp.promiseDays
  have hco := hp.chargeOff
  generalize hK : backP' { promC p day days amount part su with broken := incP (promC p day days amount part su).broken } = K1
  have hk1 : K1.status = 3 ∨ K1.status = 5 := by subst hK; cases su <;> simp [backP', promC, openC]
  have hk2 : K1.broken = 1 := by subst hK; simp [backP', promC, openC, freshC, incP, IntKind.wrap_i64]
  have hop : openB K1 = true := by simp [openB]; omega
  have h1 : age1 (promC p day days amount part su) { kind := 1, today := day + days + 1, days := 1, amount := 0 } = (K1, [1]) := by
    unfold age1
    rw [if_pos ⟨rfl, by simp [promC]; omega⟩, hK]
  have h2 : age2 p (promC p day days amount part su) { kind := 1, today := day + days + 1, days := 1, amount := 0 } = (K1, [1]) := by
    unfold age2
    rw [h1, if_pos hop]
  have he : errK p (promC p day days amount part su) { kind := 1, today := day + days + 1, days := 1, amount := 0 } = 0 := by
    simp [errK, ageE, overB, promC]
    omega
  have ha : resK p (promC p day days amount part su) { kind := 1, today := day + days + 1, days := 1, amount := 0 } = dueP (susP p K1 { kind := 1, today := day + days + 1, days := 1, amount := 0 } [1]).1 { kind := 1, today := day + days + 1, days := 1, amount := 0 } (susP p K1 { kind := 1, today := day + days + 1, days := 1, amount := 0 } [1]).2 := by
    simp only [resK, if_true]
    unfold ageP
    rw [if_neg (by simp), h2, if_neg (by rw [hop]; decide)]
  rw [step_is hp (by simp) he ha]
  have hs : ∃ K2 a2, susP p K1 { kind := 1, today := day + days + 1, days := 1, amount := 0 } [1] = (K2, 1 :: a2) ∧ K2.status ≠ 4 ∧ K2.broken = 1 := by
    unfold susP
    by_cases hs : K1.susp = false ∧ p.nonAccrual ≤ 1
    · rw [if_pos hs]
      refine ⟨_, [3], rfl, ?_, hk2⟩
      rcases hk1 with h | h <;> simp [h]
    · rw [if_neg hs]
      exact ⟨K1, [], rfl, by omega, hk2⟩
  obtain ⟨K2, a2, hs, h4, h5⟩ := hs
  rw [hs]
  unfold dueP
  by_cases hdl : K2.deadline ≤ day + days + 1
  · rw [if_pos hdl]
    exact ⟨_, a2 ++ [4], rfl, by simp [endP], by simp [endP, h5]⟩
  · rw [if_neg hdl]
    exact ⟨K2, a2, rfl, h4, h5⟩
end Go.Proofs.Ythfnlmedelfbnaa
