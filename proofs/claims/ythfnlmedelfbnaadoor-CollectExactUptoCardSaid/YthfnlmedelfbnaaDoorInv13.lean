/- What holds of every case that comes about, and of every step. -/
import Derived.Test.YthfnlmedelfbnaaDoorEq13
namespace Go.Proofs.YthfnlmedelfbnaaDoor
open Go.RowKit Go.Proofs.YthfnlmedelfbnaaDoorE
set_option linter.unusedSimpArgs false
set_option linter.unusedVariables false

def isOpen (s : Int) : Prop := s = 3 ∨ s = 4 ∨ s = 5
instance (s : Int) : Decidable (isOpen s) := inferInstanceAs (Decidable (_ ∨ _))
theorem openB_iff {k : Cas} : openB k = true ↔ isOpen k.status := by simp [openB, isOpen, or_assoc]
theorem openB_false {k : Cas} : openB k = false ↔ ¬ isOpen k.status := by rw [← openB_iff]; simp
theorem openB_eq (k : Cas) : openB k = decide (isOpen k.status) := by
  by_cases h : isOpen k.status
  · rw [openB_iff.2 h, decide_eq_true h]
  · rw [openB_false.2 h, decide_eq_false h]
structure CasOk (p : Pol) (N : Int) (k : Cas) : Prop where
  st : 1 ≤ k.status ∧ k.status ≤ 9
  cycles : 0 ≤ k.cycles ∧ k.cycles ≤ N
  kept : 0 ≤ k.kept ∧ k.kept ≤ N
  broken : 0 ≤ k.broken ∧ k.broken ≤ N
  cures : 0 ≤ k.cures ∧ k.cures ≤ N
  restr : 0 ≤ k.restr ∧ k.restr ≤ p.restructures
  since : isOpen k.status → 1 ≤ k.since ∧ k.since ≤ 3652059
  dead : isOpen k.status → k.since + p.chargeOff ≤ k.deadline ∧ k.deadline ≤ k.since + p.chargeOff + k.promises * p.promiseDays
  shut : ¬ isOpen k.status → k.since = 0 ∧ k.deadline = 0 ∧ k.promises = 0 ∧ k.cfees = 0 ∧ k.susp = false
  act : k.status = 4 → 1 ≤ k.promises ∧ 1 ≤ k.pdue ∧ 1 ≤ k.pamt ∧ k.pamt ≤ 9223372036854775807 ∧ 0 ≤ k.pgot ∧ k.pgot < k.pamt
  pas : k.status ≠ 4 → k.pdue = 0 ∧ k.pamt = 0 ∧ k.pgot = 0
  susT : k.status = 5 → k.susp = true
  susF : k.status = 3 → k.susp = false
  prom : 0 ≤ k.promises ∧ k.promises ≤ p.promises
  fee : 0 ≤ k.cfees ∧ k.cfees ≤ p.cycleCap ∧ k.cfees ≤ k.lfees ∧ k.lfees ≤ p.lifeCap
theorem ok_fresh {p : Pol} (hp : p.fine) : CasOk p 0 freshC := by
  have h1 := hp.restructures
  have h2 := hp.cycleCap
  have h3 := hp.lifeCap
  have h4 := hp.promises
  refine ⟨?_, ?_, ?_, ?_, ?_, ?_, ?_, ?_, ?_, ?_, ?_, ?_, ?_, ?_, ?_⟩ <;> simp [freshC, isOpen] <;> omega
theorem i64R {x : Int} (h : -9223372036854775808 ≤ x) (h1 : x ≤ 9223372036854775807) : IntKind.i64.wrap x = x := by rw [IntKind.wrap_i64]; omega
theorem incP_in {x : Int} (h : 0 ≤ x) (h1 : x ≤ 9000000000000000000) : incP x = x + 1 := by unfold incP; exact i64R (by omega) (by omega)
theorem mul_bound {a b : Int} (h : 0 ≤ a ∧ a ≤ 8) (k : 1 ≤ b ∧ b ≤ 60) : 0 ≤ a * b ∧ a * b ≤ 480 := by
  obtain rfl | rfl | rfl | rfl | rfl | rfl | rfl | rfl | rfl : a = 0 ∨ a = 1 ∨ a = 2 ∨ a = 3 ∨ a = 4 ∨ a = 5 ∨ a = 6 ∨ a = 7 ∨ a = 8 := by omega
  all_goals omega
theorem ok_mono {p : Pol} {N M : Int} {k : Cas} (h : CasOk p N k) (hm : N ≤ M) : CasOk p M k := by
  obtain ⟨c1, c2, c3, c4, c5, c6, c7, c8, c9, c10, c11, c12, c13, c14, c15⟩ := h
  exact ⟨c1, by omega, by omega, by omega, by omega, c6, c7, c8, c9, c10, c11, c12, c13, c14, c15⟩
/-- What a step that is taken does. -/
structure StepR (p : Pol) (k : Cas) (e : Evn) (K : Cas) (acts : List Int) : Prop where
  broken : K.broken = k.broken + countI acts 1
  kept : K.kept = k.kept + countI acts 5
  cures : K.cures = k.cures + countI acts 6
  cycles : K.cycles = k.cycles + countI acts 2
  restr : K.restr = k.restr + countI acts 7
  off : K.status = 8 ↔ countI acts 4 = 1
  closed : K.status = 9 ↔ countI acts 8 = 1
  was : k.status ≠ 8 ∧ k.status ≠ 9
  sus : K.susp = true → k.susp = false → countI acts 3 = 1
  len : acts.length ≤ 3
  fees : K.lfees = k.lfees + (if e.kind = 6 then e.amount else 0)
  opened : isOpen K.status → ¬ isOpen k.status → e.kind = 1 ∧ p.grace < e.days ∧ K.promises = 0 ∧ K.since = e.today ∧ K.deadline = e.today + p.chargeOff ∧ K.cycles = k.cycles + 1
  stays : isOpen K.status → isOpen k.status → K.cycles = k.cycles ∧ K.since = k.since ∧ K.deadline - K.promises * p.promiseDays ≤ k.deadline - k.promises * p.promiseDays
  aged : isOpen K.status → e.kind = 1 → e.today < K.deadline
  day : e.kind = 1 → 1 ≤ e.today ∧ e.today ≤ 3652059
theorem over_iff {k : Cas} : overB k = true ↔ k.status = 8 ∨ k.status = 9 := by simp [overB]
theorem over_false {k : Cas} : overB k = false ↔ k.status ≠ 8 ∧ k.status ≠ 9 := by simp [overB]
set_option maxHeartbeats 4000000 in
theorem rel_close {p : Pol} {N : Int} {k : Cas} {e : Evn} (hp : p.fine) (hv : e.wf) (hk : CasOk p N k) (hN : N ≤ 9000000000000000000) (h1 : e.kind = 7) (he : closeE p k e = 0) : StepR p k e (closeP p k e).1 (closeP p k e).2 ∧ CasOk p (N + 1) (closeP p k e).1 := by
  have hi1 := incP_in hk.cures.1 (by have := hk.cures.2; omega)
  have hi2 := incP_in hk.kept.1 (by have := hk.kept.2; omega)
  have hi3 := incP_in hk.broken.1 (by have := hk.broken.2; omega)
  have hi4 := incP_in hk.cycles.1 (by have := hk.cycles.2; omega)
  have hi5 := incP_in hk.restr.1 (by have := hk.restr.2; have := hp.restructures; omega)
  have hi6 := incP_in hk.prom.1 (by have := hk.prom.2; have := hp.promises; omega)
  have hm : (k.promises + 1) * p.promiseDays = k.promises * p.promiseDays + p.promiseDays := by rw [Int.add_mul, Int.one_mul]
  have hmb := mul_bound (a := k.promises) (b := p.promiseDays) (by have := hk.prom; have := hp.promises; omega) hp.promiseDays
  obtain ⟨c1, c2, c3, c4, c5, c6, c7, c8, c9, c10, c11, c12, c13, c14, c15⟩ := hk
  obtain ⟨_, g2, _, g4, _, _, _, g8, g9, g10, g11, g12, _⟩ := hp
  obtain ⟨v1, v2, v3, v4⟩ := hv
  unfold closeE at he
  split at he
  · cases he
  rename_i ho
  have ho' := over_false.1 (by simpa using ho)
  unfold closeP
  split
  · rename_i hop
    have hop' := openB_iff.1 hop
    have d1 := c7 hop'
    have d2 := c8 hop'
    clear hop ho c7 c8 c9
    (constructor <;> constructor <;> first | (simp only [countI, isOpen, endP, cureP, backP', clrP, List.countP_cons, List.countP_nil, List.length_cons, List.length_nil, List.nil_append, List.cons_append] at *; (try simp only [*]); (try simp); first | done | omega) | (simp_all (config := { decide := true }) [countI, isOpen, endP, cureP, backP', clrP] <;> omega))
  · rename_i hop
    have hop' := openB_false.1 (by simpa using hop)
    have d1 := c9 hop'
    clear hop ho c7 c8 c9
    (constructor <;> constructor <;> first | (simp only [countI, isOpen, endP, cureP, backP', clrP, List.countP_cons, List.countP_nil, List.length_cons, List.length_nil, List.nil_append, List.cons_append] at *; (try simp only [*]); (try simp); first | done | omega) | (simp_all (config := { decide := true }) [countI, isOpen, endP, cureP, backP', clrP] <;> omega))
set_option maxHeartbeats 4000000 in
theorem rel_rest {p : Pol} {N : Int} {k : Cas} {e : Evn} (hp : p.fine) (hv : e.wf) (hk : CasOk p N k) (hN : N ≤ 9000000000000000000) (h1 : e.kind = 5) (he : restE p k e = 0) : StepR p k e (restP p k e).1 (restP p k e).2 ∧ CasOk p (N + 1) (restP p k e).1 := by
  have hi1 := incP_in hk.cures.1 (by have := hk.cures.2; omega)
  have hi2 := incP_in hk.kept.1 (by have := hk.kept.2; omega)
  have hi3 := incP_in hk.broken.1 (by have := hk.broken.2; omega)
  have hi4 := incP_in hk.cycles.1 (by have := hk.cycles.2; omega)
  have hi5 := incP_in hk.restr.1 (by have := hk.restr.2; have := hp.restructures; omega)
  have hi6 := incP_in hk.prom.1 (by have := hk.prom.2; have := hp.promises; omega)
  have hm : (k.promises + 1) * p.promiseDays = k.promises * p.promiseDays + p.promiseDays := by rw [Int.add_mul, Int.one_mul]
  have hmb := mul_bound (a := k.promises) (b := p.promiseDays) (by have := hk.prom; have := hp.promises; omega) hp.promiseDays
  obtain ⟨c1, c2, c3, c4, c5, c6, c7, c8, c9, c10, c11, c12, c13, c14, c15⟩ := hk
  obtain ⟨_, g2, _, g4, _, _, _, g8, g9, g10, g11, g12, _⟩ := hp
  obtain ⟨v1, v2, v3, v4⟩ := hv
  unfold restE at he
  split at he
  · cases he
  rename_i ho
  have ho' := over_false.1 (by simpa using ho)
  split at he
  · cases he
  rename_i hop
  have hop' := openB_iff.1 (by simpa using hop)
  split at he
  · cases he
  have d1 := c7 hop'
  have d2 := c8 hop'
  clear hop ho c7 c8 c9
  unfold restP
  (constructor <;> constructor <;> first | (simp only [countI, isOpen, endP, cureP, backP', clrP, List.countP_cons, List.countP_nil, List.length_cons, List.length_nil, List.nil_append, List.cons_append] at *; (try simp only [*]); (try simp); first | done | omega) | (simp_all (config := { decide := true }) [countI, isOpen, endP, cureP, backP', clrP] <;> omega))
set_option maxHeartbeats 4000000 in
theorem rel_fee {p : Pol} {N : Int} {k : Cas} {e : Evn} (hp : p.fine) (hv : e.wf) (hk : CasOk p N k) (hN : N ≤ 9000000000000000000) (h1 : e.kind = 6) (he : feeE p k e = 0) : StepR p k e (feeP p k e).1 (feeP p k e).2 ∧ CasOk p (N + 1) (feeP p k e).1 := by
  have hi1 := incP_in hk.cures.1 (by have := hk.cures.2; omega)
  have hi2 := incP_in hk.kept.1 (by have := hk.kept.2; omega)
  have hi3 := incP_in hk.broken.1 (by have := hk.broken.2; omega)
  have hi4 := incP_in hk.cycles.1 (by have := hk.cycles.2; omega)
  have hi5 := incP_in hk.restr.1 (by have := hk.restr.2; have := hp.restructures; omega)
  have hi6 := incP_in hk.prom.1 (by have := hk.prom.2; have := hp.promises; omega)
  have hm : (k.promises + 1) * p.promiseDays = k.promises * p.promiseDays + p.promiseDays := by rw [Int.add_mul, Int.one_mul]
  have hmb := mul_bound (a := k.promises) (b := p.promiseDays) (by have := hk.prom; have := hp.promises; omega) hp.promiseDays
  obtain ⟨c1, c2, c3, c4, c5, c6, c7, c8, c9, c10, c11, c12, c13, c14, c15⟩ := hk
  obtain ⟨_, g2, _, g4, _, _, _, g8, g9, g10, g11, g12, _⟩ := hp
  obtain ⟨v1, v2, v3, v4⟩ := hv
  unfold feeE at he
  split at he
  · cases he
  split at he
  · cases he
  rename_i ho
  have ho' := over_false.1 (by simpa using ho)
  split at he
  · cases he
  rename_i hop
  have hop' := openB_iff.1 (by simpa using hop)
  split at he
  · cases he
  split at he
  · cases he
  have d1 := c7 hop'
  have d2 := c8 hop'
  clear hop ho c7 c8 c9
  have w1 : IntKind.i64.wrap (k.cfees + e.amount) = k.cfees + e.amount := i64R (by omega) (by omega)
  have w2 : IntKind.i64.wrap (k.lfees + e.amount) = k.lfees + e.amount := i64R (by omega) (by omega)
  unfold feeP
  rw [w1, w2]
  (constructor <;> constructor <;> first | (simp only [countI, isOpen, endP, cureP, backP', clrP, List.countP_cons, List.countP_nil, List.length_cons, List.length_nil, List.nil_append, List.cons_append] at *; (try simp only [*]); (try simp); first | done | omega) | (simp_all (config := { decide := true }) [countI, isOpen, endP, cureP, backP', clrP] <;> omega))
set_option maxHeartbeats 4000000 in
theorem rel_prom {p : Pol} {N : Int} {k : Cas} {e : Evn} (hp : p.fine) (hv : e.wf) (hk : CasOk p N k) (hN : N ≤ 9000000000000000000) (h1 : e.kind = 4) (he : promE p k e = 0) : StepR p k e (promP p k e).1 (promP p k e).2 ∧ CasOk p (N + 1) (promP p k e).1 := by
  have hi1 := incP_in hk.cures.1 (by have := hk.cures.2; omega)
  have hi2 := incP_in hk.kept.1 (by have := hk.kept.2; omega)
  have hi3 := incP_in hk.broken.1 (by have := hk.broken.2; omega)
  have hi4 := incP_in hk.cycles.1 (by have := hk.cycles.2; omega)
  have hi5 := incP_in hk.restr.1 (by have := hk.restr.2; have := hp.restructures; omega)
  have hi6 := incP_in hk.prom.1 (by have := hk.prom.2; have := hp.promises; omega)
  have hm : (k.promises + 1) * p.promiseDays = k.promises * p.promiseDays + p.promiseDays := by rw [Int.add_mul, Int.one_mul]
  have hmb := mul_bound (a := k.promises) (b := p.promiseDays) (by have := hk.prom; have := hp.promises; omega) hp.promiseDays
  obtain ⟨c1, c2, c3, c4, c5, c6, c7, c8, c9, c10, c11, c12, c13, c14, c15⟩ := hk
  obtain ⟨_, g2, _, g4, _, _, _, g8, g9, g10, g11, g12, _⟩ := hp
  obtain ⟨v1, v2, v3, v4⟩ := hv
  unfold promE at he
  split at he
  · cases he
  split at he
  · cases he
  split at he
  · cases he
  rename_i ho
  have ho' := over_false.1 (by simpa using ho)
  split at he
  · cases he
  rename_i hop
  have hop' := openB_iff.1 (by simpa using hop)
  split at he
  · cases he
  split at he
  · cases he
  have d1 := c7 hop'
  have d2 := c8 hop'
  clear hop ho c7 c8 c9
  have w1 : IntKind.i64.wrap (k.deadline + e.days) = k.deadline + e.days := i64R (by omega) (by omega)
  unfold promP
  rw [w1]
  (constructor <;> constructor <;> first | (simp only [countI, isOpen, endP, cureP, backP', clrP, List.countP_cons, List.countP_nil, List.length_cons, List.length_nil, List.nil_append, List.cons_append] at *; (try simp only [*]); (try simp); first | done | omega) | (simp_all (config := { decide := true }) [countI, isOpen, endP, cureP, backP', clrP] <;> omega))
set_option maxHeartbeats 4000000 in
theorem rel_ret {p : Pol} {N : Int} {k : Cas} {e : Evn} (hp : p.fine) (hv : e.wf) (hk : CasOk p N k) (hN : N ≤ 9000000000000000000) (h1 : e.kind = 3) (he : retE p k e = 0) : StepR p k e (retP p k e).1 (retP p k e).2 ∧ CasOk p (N + 1) (retP p k e).1 := by
  have hi1 := incP_in hk.cures.1 (by have := hk.cures.2; omega)
  have hi2 := incP_in hk.kept.1 (by have := hk.kept.2; omega)
  have hi3 := incP_in hk.broken.1 (by have := hk.broken.2; omega)
  have hi4 := incP_in hk.cycles.1 (by have := hk.cycles.2; omega)
  have hi5 := incP_in hk.restr.1 (by have := hk.restr.2; have := hp.restructures; omega)
  have hi6 := incP_in hk.prom.1 (by have := hk.prom.2; have := hp.promises; omega)
  have hm : (k.promises + 1) * p.promiseDays = k.promises * p.promiseDays + p.promiseDays := by rw [Int.add_mul, Int.one_mul]
  have hmb := mul_bound (a := k.promises) (b := p.promiseDays) (by have := hk.prom; have := hp.promises; omega) hp.promiseDays
  obtain ⟨c1, c2, c3, c4, c5, c6, c7, c8, c9, c10, c11, c12, c13, c14, c15⟩ := hk
  obtain ⟨_, g2, _, g4, _, _, _, g8, g9, g10, g11, g12, _⟩ := hp
  obtain ⟨v1, v2, v3, v4⟩ := hv
  unfold retE at he
  split at he
  · cases he
  split at he
  · cases he
  rename_i ho
  have ho' := over_false.1 (by simpa using ho)
  unfold retP
  split
  · rename_i h4
    have d0 := c10 h4
    have d1 := c7 (.inr (.inl h4))
    have d2 := c8 (.inr (.inl h4))
    have w1 : IntKind.i64.wrap (k.pgot - e.amount) = k.pgot - e.amount := i64R (by omega) (by omega)
    rw [w1]
    clear ho c7 c8 c9 c10 c11
    (constructor <;> constructor <;> first | (simp only [countI, isOpen, endP, cureP, backP', clrP, List.countP_cons, List.countP_nil, List.length_cons, List.length_nil, List.nil_append, List.cons_append] at *; (try simp only [*]); (try simp); first | done | omega) | (simp_all (config := { decide := true }) [countI, isOpen, endP, cureP, backP', clrP] <;> omega))
  · rename_i h4
    clear ho
    (constructor <;> constructor <;> first | (simp only [countI, isOpen, endP, cureP, backP', clrP, List.countP_cons, List.countP_nil, List.length_cons, List.length_nil, List.nil_append, List.cons_append] at *; (try simp only [*]); (try simp); first | done | omega) | (simp_all (config := { decide := true }) [countI, isOpen, endP, cureP, backP', clrP] <;> omega))
set_option maxHeartbeats 4000000 in
theorem rel_paid {p : Pol} {N : Int} {k : Cas} {e : Evn} (hp : p.fine) (hv : e.wf) (hk : CasOk p N k) (hN : N ≤ 9000000000000000000) (h1 : e.kind = 2) (he : paidE p k e = 0) : StepR p k e (paidP p k e).1 (paidP p k e).2 ∧ CasOk p (N + 1) (paidP p k e).1 := by
  have hi1 := incP_in hk.cures.1 (by have := hk.cures.2; omega)
  have hi2 := incP_in hk.kept.1 (by have := hk.kept.2; omega)
  have hi3 := incP_in hk.broken.1 (by have := hk.broken.2; omega)
  have hi4 := incP_in hk.cycles.1 (by have := hk.cycles.2; omega)
  have hi5 := incP_in hk.restr.1 (by have := hk.restr.2; have := hp.restructures; omega)
  have hi6 := incP_in hk.prom.1 (by have := hk.prom.2; have := hp.promises; omega)
  have hm : (k.promises + 1) * p.promiseDays = k.promises * p.promiseDays + p.promiseDays := by rw [Int.add_mul, Int.one_mul]
  have hmb := mul_bound (a := k.promises) (b := p.promiseDays) (by have := hk.prom; have := hp.promises; omega) hp.promiseDays
  obtain ⟨c1, c2, c3, c4, c5, c6, c7, c8, c9, c10, c11, c12, c13, c14, c15⟩ := hk
  obtain ⟨_, g2, _, g4, _, _, _, g8, g9, g10, g11, g12, _⟩ := hp
  obtain ⟨v1, v2, v3, v4⟩ := hv
  unfold paidE at he
  split at he
  · cases he
  split at he
  · cases he
  split at he
  · cases he
  rename_i ho
  have ho' := over_false.1 (by simpa using ho)
  clear ho
  by_cases h4 : k.status = 4
  · have d0 := c10 h4
    have d1 := c7 (.inr (.inl h4))
    have d2 := c8 (.inr (.inl h4))
    have w1 : IntKind.i64.wrap (k.pamt - k.pgot) = k.pamt - k.pgot := i64R (by omega) (by omega)
    clear c7 c8 c9 c10 c11 he
    by_cases hf : k.pamt - k.pgot ≤ e.amount
    · have hq : paid1 k e = (backP' { k with kept := incP k.kept }, [5]) := by unfold paid1; rw [if_pos h4, w1, if_pos hf]
      have hop : openB (backP' { k with kept := incP k.kept }) = true := by
        rw [openB_iff]
        cases hs : k.susp <;> simp [backP', isOpen, hs]
      unfold paidP
      rw [hq]
      by_cases hd : 0 < e.days
      · rw [if_pos hd]
        rcases Bool.eq_false_or_eq_true k.susp with hs | hs <;> (constructor <;> constructor <;> first | (simp only [countI, isOpen, endP, cureP, backP', clrP, List.countP_cons, List.countP_nil, List.length_cons, List.length_nil, List.nil_append, List.cons_append] at *; (try simp only [*]); (try simp); first | done | omega) | (simp_all (config := { decide := true }) [countI, isOpen, endP, cureP, backP', clrP] <;> omega))
      · rw [if_neg hd, if_pos hop]
        rcases Bool.eq_false_or_eq_true k.susp with hs | hs <;> (constructor <;> constructor <;> first | (simp only [countI, isOpen, endP, cureP, backP', clrP, List.countP_cons, List.countP_nil, List.length_cons, List.length_nil, List.nil_append, List.cons_append] at *; (try simp only [*]); (try simp); first | done | omega) | (simp_all (config := { decide := true }) [countI, isOpen, endP, cureP, backP', clrP] <;> omega))
    · have w2 : IntKind.i64.wrap (k.pgot + e.amount) = k.pgot + e.amount := i64R (by omega) (by omega)
      have hq : paid1 k e = ({ k with pgot := k.pgot + e.amount }, []) := by unfold paid1; rw [if_pos h4, w1, if_neg hf, w2]
      have hop : openB { k with pgot := k.pgot + e.amount } = true := by
        rw [openB_iff]
        exact .inr (.inl h4)
      unfold paidP
      rw [hq]
      by_cases hd : 0 < e.days
      · rw [if_pos hd]
        (constructor <;> constructor <;> first | (simp only [countI, isOpen, endP, cureP, backP', clrP, List.countP_cons, List.countP_nil, List.length_cons, List.length_nil, List.nil_append, List.cons_append] at *; (try simp only [*]); (try simp); first | done | omega) | (simp_all (config := { decide := true }) [countI, isOpen, endP, cureP, backP', clrP] <;> omega))
      · rw [if_neg hd, if_pos hop]
        (constructor <;> constructor <;> first | (simp only [countI, isOpen, endP, cureP, backP', clrP, List.countP_cons, List.countP_nil, List.length_cons, List.length_nil, List.nil_append, List.cons_append] at *; (try simp only [*]); (try simp); first | done | omega) | (simp_all (config := { decide := true }) [countI, isOpen, endP, cureP, backP', clrP] <;> omega))
  · have hq : paid1 k e = (k, []) := by unfold paid1; rw [if_neg h4]
    have d0 := c11 h4
    unfold paidP
    rw [hq]
    clear c10 c11 he
    split
    · (constructor <;> constructor <;> first | (simp only [countI, isOpen, endP, cureP, backP', clrP, List.countP_cons, List.countP_nil, List.length_cons, List.length_nil, List.nil_append, List.cons_append] at *; (try simp only [*]); (try simp); first | done | omega) | (simp_all (config := { decide := true }) [countI, isOpen, endP, cureP, backP', clrP] <;> omega))
    · split
      · rename_i hop
        have hop' := openB_iff.1 hop
        have d1 := c7 hop'
        have d2 := c8 hop'
        clear hop c7 c8 c9
        (constructor <;> constructor <;> first | (simp only [countI, isOpen, endP, cureP, backP', clrP, List.countP_cons, List.countP_nil, List.length_cons, List.length_nil, List.nil_append, List.cons_append] at *; (try simp only [*]); (try simp); first | done | omega) | (simp_all (config := { decide := true }) [countI, isOpen, endP, cureP, backP', clrP] <;> omega))
      · rename_i hop
        have hop' := openB_false.1 (by simpa using hop)
        have d1 := c9 hop'
        clear hop c7 c8 c9
        split <;> (constructor <;> constructor <;> first | (simp only [countI, isOpen, endP, cureP, backP', clrP, List.countP_cons, List.countP_nil, List.length_cons, List.length_nil, List.nil_append, List.cons_append] at *; (try simp only [*]); (try simp); first | done | omega) | (simp_all (config := { decide := true }) [countI, isOpen, endP, cureP, backP', clrP] <;> omega))
/-- A step of age, ahead of what is due. -/
structure Mid (p : Pol) (k : Cas) (e : Evn) (K : Cas) (acts : List Int) : Prop where
  broken : K.broken = k.broken + countI acts 1
  kept : K.kept = k.kept + countI acts 5
  cures : K.cures = k.cures + countI acts 6
  cycles : K.cycles = k.cycles + countI acts 2
  restr : K.restr = k.restr + countI acts 7
  none3 : countI acts 3 = 0
  none4 : countI acts 4 = 0
  none8 : countI acts 8 = 0
  was : k.status ≠ 8 ∧ k.status ≠ 9
  sus : K.susp = k.susp
  len : acts.length ≤ 1
  fees : K.lfees = k.lfees
  now : isOpen K.status
  opened : ¬ isOpen k.status → p.grace < e.days ∧ K.promises = 0 ∧ K.since = e.today ∧ K.deadline = e.today + p.chargeOff ∧ K.cycles = k.cycles + 1
  stays : isOpen k.status → K.cycles = k.cycles ∧ K.since = k.since ∧ K.deadline - K.promises * p.promiseDays ≤ k.deadline - k.promises * p.promiseDays
theorem count_one {acts : List Int} {a b : Int} : countI (acts ++ [a]) b = countI acts b + if a = b then 1 else 0 := by
  unfold countI
  rw [List.countP_append]
  congr 1
  by_cases h : a = b <;> simp [h]
set_option maxHeartbeats 4000000 in
theorem rel_tail {p : Pol} {N : Int} {k K : Cas} {e : Evn} {acts : List Int} (hp : p.fine) (hM : Mid p k e K acts) (hk : CasOk p N K) (h1 : e.kind = 1) (hday : 1 ≤ e.today ∧ e.today ≤ 3652059) : StepR p k e (dueP (susP p K e acts).1 e (susP p K e acts).2).1 (dueP (susP p K e acts).1 e (susP p K e acts).2).2 ∧ CasOk p N (dueP (susP p K e acts).1 e (susP p K e acts).2).1 := by
  obtain ⟨m1, m2, m3, m4, m5, m6, m7, m8, m9, m10, m11, m12, m13, m14, m15⟩ := hM
  obtain ⟨c1, c2, c3, c4, c5, c6, c7, c8, c9, c10, c11, c12, c13, c14, c15⟩ := hk
  obtain ⟨_, g2, _, g4, _, _, _, g8, g9, g10, g11, g12, _⟩ := hp
  have d1 := c7 m13
  have d2 := c8 m13
  clear c7 c8 c9
  have hs : (susP p K e acts = (K, acts)) ∨ (K.susp = false ∧ K.status = 3 ∧ susP p K e acts = ({ K with susp := true, status := 5 }, acts ++ [3])) ∨ (K.susp = false ∧ K.status = 4 ∧ susP p K e acts = ({ K with susp := true, status := 4 }, acts ++ [3])) := by
    unfold susP
    by_cases h : K.susp = false ∧ p.nonAccrual ≤ e.days
    · rw [if_pos h]
      rcases m13 with h3 | h3 | h3
      · rw [if_pos h3]
        exact .inr (.inl ⟨h.1, h3, rfl⟩)
      · rw [if_neg (by omega), h3]
        exact .inr (.inr ⟨h.1, rfl, rfl⟩)
      · rw [c12 h3] at h
        cases h.1
    · rw [if_neg h]
      exact .inl rfl
  unfold dueP
  rcases hs with hs | ⟨hs1, hs2, hs⟩ | ⟨hs1, hs2, hs⟩
  all_goals
    rw [hs]
    by_cases hd : K.deadline ≤ e.today
    · rw [if_pos hd]
      (constructor <;> constructor <;> first | (simp only [count_one, isOpen, endP, List.length_append, List.length_cons, List.length_nil] at *; (try simp only [*]); (try simp); first | done | omega) | (simp_all (config := { decide := true }) [count_one, isOpen, endP] <;> omega))
    · rw [if_neg hd]
      (constructor <;> constructor <;> first | (simp only [count_one, isOpen, endP, List.length_append, List.length_cons, List.length_nil] at *; (try simp only [*]); (try simp); first | done | omega) | (simp_all (config := { decide := true }) [count_one, isOpen, endP] <;> omega))
set_option maxHeartbeats 4000000 in
theorem rel_age {p : Pol} {N : Int} {k : Cas} {e : Evn} (hp : p.fine) (hv : e.wf) (hk : CasOk p N k) (hN : N ≤ 9000000000000000000) (h1 : e.kind = 1) (he : ageE p k e = 0) : StepR p k e (ageP p k e).1 (ageP p k e).2 ∧ CasOk p (N + 1) (ageP p k e).1 := by
  have hp0 := hp
  have hk0 := hk
  have hi1 := incP_in hk.cures.1 (by have := hk.cures.2; omega)
  have hi2 := incP_in hk.kept.1 (by have := hk.kept.2; omega)
  have hi3 := incP_in hk.broken.1 (by have := hk.broken.2; omega)
  have hi4 := incP_in hk.cycles.1 (by have := hk.cycles.2; omega)
  have hi5 := incP_in hk.restr.1 (by have := hk.restr.2; have := hp.restructures; omega)
  have hi6 := incP_in hk.prom.1 (by have := hk.prom.2; have := hp.promises; omega)
  have hm : (k.promises + 1) * p.promiseDays = k.promises * p.promiseDays + p.promiseDays := by rw [Int.add_mul, Int.one_mul]
  have hmb := mul_bound (a := k.promises) (b := p.promiseDays) (by have := hk.prom; have := hp.promises; omega) hp.promiseDays
  obtain ⟨c1, c2, c3, c4, c5, c6, c7, c8, c9, c10, c11, c12, c13, c14, c15⟩ := hk
  obtain ⟨_, g2, _, g4, _, _, _, g8, g9, g10, g11, g12, _⟩ := hp
  obtain ⟨v1, v2, v3, v4⟩ := hv
  unfold ageE at he
  split at he
  · cases he
  rename_i hday
  split at he
  · cases he
  rename_i ho
  have ho' := over_false.1 (by simpa using ho)
  clear ho he
  have hm2 : 1 ≤ e.today ∧ e.today ≤ 3652059 ∧ 0 ≤ e.days := by omega
  clear hday
  by_cases hop : openB k = true
  · have hop' := openB_iff.1 hop
    have d1 := c7 hop'
    have d2 := c8 hop'
    by_cases hb : k.status = 4 ∧ k.pdue < e.today
    · obtain ⟨h4, hlt⟩ := hb
      have d0 := c10 h4
      have hq : age1 k e = (backP' { k with broken := incP k.broken }, [1]) := by unfold age1; rw [if_pos ⟨h4, hlt⟩]
      have hop1 : openB (backP' { k with broken := incP k.broken }) = true := by
        rw [openB_iff]
        cases hs : k.susp <;> simp [backP', isOpen, hs]
      have hq2 : age2 p k e = age1 k e := by unfold age2; rw [hq, if_pos hop1]
      have hM : Mid p k e (backP' { k with broken := incP k.broken }) [1] ∧ CasOk p (N + 1) (backP' { k with broken := incP k.broken }) := by
        clear hop hop1 hq hq2 c7 c8 c9 c10 c11
        rcases Bool.eq_false_or_eq_true k.susp with hs | hs <;> (constructor <;> constructor <;> first | (simp only [countI, isOpen, endP, cureP, backP', clrP, List.countP_cons, List.countP_nil, List.length_cons, List.length_nil, List.nil_append, List.cons_append] at *; (try simp only [*]); (try simp); first | done | omega) | (simp_all (config := { decide := true }) [countI, isOpen, endP, cureP, backP', clrP] <;> omega))
      unfold ageP
      rw [hq2, hq]
      by_cases hd : e.days = 0
      · rw [if_pos ⟨hop1, hd⟩]
        clear hop hop1 hq hq2 c7 c8 c9 c10 c11 hM
        rcases Bool.eq_false_or_eq_true k.susp with hs | hs <;> (constructor <;> constructor <;> first | (simp only [countI, isOpen, endP, cureP, backP', clrP, List.countP_cons, List.countP_nil, List.length_cons, List.length_nil, List.nil_append, List.cons_append] at *; (try simp only [*]); (try simp); first | done | omega) | (simp_all (config := { decide := true }) [countI, isOpen, endP, cureP, backP', clrP] <;> omega))
      · rw [if_neg (fun h => hd h.2), if_neg (by rw [hop1]; decide)]
        exact rel_tail hp0 hM.1 hM.2 h1 ⟨hm2.1, hm2.2.1⟩
    · have hq : age1 k e = (k, []) := by unfold age1; rw [if_neg hb]
      have hq2 : age2 p k e = age1 k e := by unfold age2; rw [hq, if_pos hop]
      have hM : Mid p k e k [] := by
        clear hq hq2 c7 c8 c9 c10 c11 hb hop
        constructor <;> (try simp [countI]) <;> first | done | exact ho' | exact hop' | exact fun h => absurd hop' h | omega
      unfold ageP
      rw [hq2, hq]
      by_cases hd : e.days = 0
      · rw [if_pos ⟨hop, hd⟩]
        clear hop hq hq2 c7 c8 c9 c10 c11 hM hb
        (constructor <;> constructor <;> first | (simp only [countI, isOpen, endP, cureP, backP', clrP, List.countP_cons, List.countP_nil, List.length_cons, List.length_nil, List.nil_append, List.cons_append] at *; (try simp only [*]); (try simp); first | done | omega) | (simp_all (config := { decide := true }) [countI, isOpen, endP, cureP, backP', clrP] <;> omega))
      · rw [if_neg (fun h => hd h.2), if_neg (by rw [hop]; decide)]
        exact rel_tail hp0 hM (ok_mono hk0 (by omega)) h1 ⟨hm2.1, hm2.2.1⟩
  · have hop' := openB_false.1 (by simpa using hop)
    have d1 := c9 hop'
    have h4 : k.status ≠ 4 := fun h => hop' (.inr (.inl h))
    have d0 := c11 h4
    have hcl : openB k = false := by simpa using hop
    have hq : age1 k e = (k, []) := by unfold age1; rw [if_neg (fun h => h4 h.1)]
    have hq2 : age2 p k e = quietP p k e [] := by unfold age2; rw [hq, if_neg (by simpa using hop)]
    unfold ageP
    rw [hq2, hq, if_neg (by rw [hcl]; simp)]
    clear hop hq hq2 c7 c8 c9 c10 c11
    unfold quietP
    by_cases hg : p.grace < e.days
    · rw [if_pos hg, if_neg (by simp [openB])]
      have hM : Mid p k e { k with cycles := incP k.cycles, since := e.today, deadline := e.today + p.chargeOff, promises := 0, cfees := 0, status := 3 } ([] ++ [2]) ∧ CasOk p (N + 1) { k with cycles := incP k.cycles, since := e.today, deadline := e.today + p.chargeOff, promises := 0, cfees := 0, status := 3 } := by
        (constructor <;> constructor <;> first | (simp only [countI, isOpen, endP, cureP, backP', clrP, List.countP_cons, List.countP_nil, List.length_cons, List.length_nil, List.nil_append, List.cons_append] at *; (try simp only [*]); (try simp); first | done | omega) | (simp_all (config := { decide := true }) [countI, isOpen, endP, cureP, backP', clrP] <;> omega))
      exact rel_tail hp0 hM.1 hM.2 h1 ⟨hm2.1, hm2.2.1⟩
    · rw [if_neg hg]
      by_cases hd : 0 < e.days
      · rw [if_pos hd, if_pos (by simp [openB])]
        (constructor <;> constructor <;> first | (simp only [countI, isOpen, endP, cureP, backP', clrP, List.countP_cons, List.countP_nil, List.length_cons, List.length_nil, List.nil_append, List.cons_append] at *; (try simp only [*]); (try simp); first | done | omega) | (simp_all (config := { decide := true }) [countI, isOpen, endP, cureP, backP', clrP] <;> omega))
      · rw [if_neg hd]
        by_cases h2 : k.status = 2
        · rw [if_pos h2, if_pos (by simp [openB])]
          (constructor <;> constructor <;> first | (simp only [countI, isOpen, endP, cureP, backP', clrP, List.countP_cons, List.countP_nil, List.length_cons, List.length_nil, List.nil_append, List.cons_append] at *; (try simp only [*]); (try simp); first | done | omega) | (simp_all (config := { decide := true }) [countI, isOpen, endP, cureP, backP', clrP] <;> omega))
        · rw [if_neg h2, if_pos hcl]
          (constructor <;> constructor <;> first | (simp only [countI, isOpen, endP, cureP, backP', clrP, List.countP_cons, List.countP_nil, List.length_cons, List.length_nil, List.nil_append, List.cons_append] at *; (try simp only [*]); (try simp); first | done | omega) | (simp_all (config := { decide := true }) [countI, isOpen, endP, cureP, backP', clrP] <;> omega))
end Go.Proofs.YthfnlmedelfbnaaDoor
namespace Go.Proofs.YthfnlmedelfbnaaDoor
open Go.RowKit Go.Proofs.YthfnlmedelfbnaaDoorE
set_option linter.unusedSimpArgs false
set_option linter.unusedVariables false

theorem step_rel {p : Pol} {N : Int} {k : Cas} {e : Evn} (hp : p.fine) (hv : e.wf) (hk : CasOk p N k) (hN : N ≤ 9000000000000000000) (h : (stepP p k e).2.2 = 0) : StepR p k e (stepP p k e).1 (stepP p k e).2.1 ∧ CasOk p (N + 1) (stepP p k e).1 := by
  obtain ⟨_, h1, h2, he, hs⟩ := step_ok h
  rw [hs]
  rcases kinds ⟨h1, h2⟩ with h1 | h1 | h1 | h1 | h1 | h1 | h1
  · simp only [errK, resK, h1] at he ⊢
    exact rel_age hp hv hk hN h1 he
  · simp only [errK, resK, h1] at he ⊢
    exact rel_paid hp hv hk hN h1 he
  · simp only [errK, resK, h1] at he ⊢
    exact rel_ret hp hv hk hN h1 he
  · simp only [errK, resK, h1] at he ⊢
    exact rel_prom hp hv hk hN h1 he
  · simp only [errK, resK, h1] at he ⊢
    exact rel_rest hp hv hk hN h1 he
  · simp only [errK, resK, h1] at he ⊢
    exact rel_fee hp hv hk hN h1 he
  · simp only [errK, resK, h1] at he ⊢
    exact rel_close hp hv hk hN h1 he
/-- A case from Fresh on. -/
def Inv (p : Pol) (N : Int) (k : Cas) : Prop := (goodP p = true → CasOk p N k) ∧ (goodP p = false → k = freshC)
theorem inv_fresh (p : Pol) : Inv p 0 freshC := ⟨fun h => ok_fresh (good_fine h), fun _ => rfl⟩
theorem inv_step {p : Pol} {N : Int} {k : Cas} {e : Evn} (h : Inv p N k) (hv : e.wf) (hN : N ≤ 9000000000000000000) : Inv p (N + 1) (stepP p k e).1 ∧ ((stepP p k e).2.2 = 0 → goodP p = true ∧ CasOk p N k ∧ StepR p k e (stepP p k e).1 (stepP p k e).2.1) := by
  by_cases h0 : (stepP p k e).2.2 = 0
  · have hg := (step_ok h0).1
    have hr := step_rel (good_fine hg) hv (h.1 hg) hN h0
    exact ⟨⟨fun _ => hr.2, fun hb => by rw [hg] at hb; cases hb⟩, fun _ => ⟨hg, h.1 hg, hr.1⟩⟩
  · refine ⟨?_, fun hh => absurd hh h0⟩
    rw [(step_bad h0).1]
    exact ⟨fun hg => ok_mono (h.1 hg) (by omega), h.2⟩
/-- What is told, of any step. -/
structure Told (k K : Cas) (acts : List Int) : Prop where
  broken : K.broken = k.broken + countI acts 1
  kept : K.kept = k.kept + countI acts 5
  cures : K.cures = k.cures + countI acts 6
  cycles : K.cycles = k.cycles + countI acts 2
  restr : K.restr = k.restr + countI acts 7
  off : (K.status = 8 ∧ k.status ≠ 8) ↔ countI acts 4 = 1
  closed : (K.status = 9 ∧ k.status ≠ 9) ↔ countI acts 8 = 1
  sus : K.susp = true → k.susp = false → countI acts 3 = 1
  len : acts.length ≤ 3
  cnt : ∀ a, 0 ≤ countI acts a ∧ countI acts a ≤ 3
theorem count_len (acts : List Int) (a : Int) : countI acts a ≤ acts.length := List.countP_le_length
theorem step_told {p : Pol} {N : Int} {k : Cas} {e : Evn} (h : Inv p N k) (hv : e.wf) (hN : N ≤ 9000000000000000000) : Told k (stepP p k e).1 (stepP p k e).2.1 := by
  by_cases h0 : (stepP p k e).2.2 = 0
  · obtain ⟨hg, hk, hr⟩ := (inv_step h hv hN).2 h0
    obtain ⟨c1, c2, c3, c4, c5, c6, c7, c8, c9, c10, c11, c12, c13, c14, c15⟩ := hr
    exact ⟨c1, c2, c3, c4, c5, by omega, by omega, c9, c10, fun a => ⟨by omega, by have := count_len (stepP p k e).2.1 a; omega⟩⟩
  · obtain ⟨h1, h2⟩ := step_bad h0
    rw [h1, h2]
    refine ⟨?_, ?_, ?_, ?_, ?_, ?_, ?_, ?_, ?_, ?_⟩ <;> simp [countI]
end Go.Proofs.YthfnlmedelfbnaaDoor
namespace Go.Proofs.YthfnlmedelfbnaaDoor
open Go.RowKit Go.Proofs.YthfnlmedelfbnaaDoorE
set_option linter.unusedSimpArgs false
set_option linter.unusedVariables false

/-- 13, Words. -/
structure Shape (k : Cas) : Prop where
  st : 1 ≤ k.status ∧ k.status ≤ 9
  since : isOpen k.status → 1 ≤ k.since ∧ k.since ≤ k.deadline
  shut : ¬ isOpen k.status → k.since = 0 ∧ k.deadline = 0 ∧ k.susp = false
  act : k.status = 4 → 1 ≤ k.promises ∧ 1 ≤ k.pdue ∧ 1 ≤ k.pamt ∧ 0 ≤ k.pgot ∧ k.pgot < k.pamt
  pas : k.status ≠ 4 → k.pdue = 0 ∧ k.pamt = 0 ∧ k.pgot = 0
  susT : k.status = 5 → k.susp = true
  susF : k.status = 3 → k.susp = false
theorem inv_shape {p : Pol} {N : Int} {k : Cas} (h : Inv p N k) : Shape k := by
  cases hg : goodP p with
  | false =>
    rw [h.2 hg]
    refine ⟨?_, ?_, ?_, ?_, ?_, ?_, ?_⟩ <;> simp [freshC, isOpen]
  | true =>
    have hk := h.1 hg
    have hco := (good_fine hg).chargeOff
    refine ⟨hk.st, fun ho => ⟨(hk.since ho).1, by have := (hk.dead ho).1; omega⟩, fun ho => ⟨(hk.shut ho).1, (hk.shut ho).2.1, (hk.shut ho).2.2.2.2⟩, fun ho => ?_, hk.pas, hk.susT, hk.susF⟩
    have := hk.act ho
    omega
end Go.Proofs.YthfnlmedelfbnaaDoor
