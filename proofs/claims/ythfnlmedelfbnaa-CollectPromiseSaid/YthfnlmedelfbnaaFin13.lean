/- 13.3: who is charged off or closed. -/
import Derived.Test.YthfnlmedelfbnaaEvn13
import Derived.Test.YthfnlmedelfbnaaEq13
namespace Go.Proofs.Ythfnlmedelfbnaa
open Go.RowKit Go.Proofs.YthfnlmedelfbnaaE
set_option linter.unusedSimpArgs false
set_option linter.unusedVariables false

/-- A cut behind a region. -/
theorem s_cutR {P : Program} {Q : Exit → Act → World → Prop} {l : List Value} {ds : List Deferred} {w : World} {id : Nat} {ops : Array Oper} {dr : Bool} {c2 : Code} (W : List Nat) (J : (Nat → Value) → World → Prop)
    (h1 : (Code.region id ops dr).wp P (Exit.then (fun a w' => ∃ l', a = ⟨l'.toArray, ds⟩ ∧ setW l' W (fun _ => undef) = setW l W (fun _ => undef) ∧ J (lget l') w') Q) ⟨l.toArray, ds⟩ w)
    (h2 : ∀ u w', J u w' → c2.wp P Q ⟨(setW l W u).toArray, ds⟩ w') : ((Code.region id ops dr).seq c2).wp P Q ⟨l.toArray, ds⟩ w := by
  refine wp_seq (wp_mono h1 ?_)
  intro e a w' hq
  cases e with
  | normal =>
    obtain ⟨l', rfl, hs, hJ⟩ := hq
    have hl' : setW l W (lget l') = l' := by rw [← setW_over W (lget l') (fun _ => undef) l, ← hs, setW_over, setW_self]
    have := h2 _ _ hJ
    rw [hl'] at this
    exact this
  | _ => exact hq
theorem over_err {p : Pol} {k : Cas} {e : Evn} (h : overB k = true) : errK p k e ≠ 0 := by
  unfold errK ageE paidE retE promE restE feeE closeE
  simp only [h, if_true]
  repeat' split
  all_goals decide
theorem over_step {p : Pol} {k : Cas} {e : Evn} (h : overB k = true) : (stepP p k e).2.2 ≠ 0 := fun h0 => over_err h (step_ok h0).2.2.2.1
theorem over_late {p : Pol} {k : Cas} (hg : goodP p = true) (h : overB k = true) : (stepP p k { kind := 1, today := 1, days := 0, amount := 0 }).2.2 = 130 := by
  have he : errK p k { kind := 1, today := 1, days := 0, amount := 0 } = 130 := by simp [errK, ageE, h]
  unfold stepP
  rw [if_neg (by simp [hg]), if_neg (by simp), if_pos (by rw [he]; decide), he]
theorem over_paid {p : Pol} {k : Cas} (hg : goodP p = true) (h : overB k = true) : (stepP p k { kind := 2, today := 0, days := 0, amount := 1 }).2.2 = 130 := by
  have he : errK p k { kind := 2, today := 0, days := 0, amount := 1 } = 130 := by simp [errK, paidE, h]
  unfold stepP
  rw [if_neg (by simp [hg]), if_neg (by simp), if_pos (by rw [he]; decide), he]
theorem close_fresh {p : Pol} (hg : goodP p = true) : stepP p freshC { kind := 7, today := 0, days := 0, amount := 0 } = ({ freshC with status := 9 }, [8], 0) := by
  have he : errK p freshC { kind := 7, today := 0, days := 0, amount := 0 } = 0 := by simp [errK, closeE, overB, freshC]
  have hr : resK p freshC { kind := 7, today := 0, days := 0, amount := 0 } = ({ freshC with status := 9 }, [8]) := by simp [resK, closeP, openB, freshC]
  unfold stepP
  rw [if_neg (by simp [hg]), if_neg (by simp), if_neg (by rw [he]; decide), hr]
/-- Step, where what it comes to is known. -/
theorem stepW {p : Pol} {k : Cas} {e : Evn} {K : Cas} {acts : List Int} {er : Int} (h : stepP p k e = (K, acts, er)) (A : Option Addr) (c : Nat) (w : World) (hr : RI w A p.hs) (hv : e.wf) :
    Calls Try.prog 19 #[.agg (polC p A c).toArray, .agg (casC k).toArray, .agg (evnC e).toArray] w fun r w' =>
      ∃ V d, r = .returned (.tuple #[.agg (casC K).toArray, .slice V acts.length d, .int .i64 er]) ∧ OwnI w w' (.slice V acts.length d) acts ∧ Evt (fun _ => False) w w' := by
  refine (step_any p A c k e w hr hv).mono ?_
  rintro r w' ⟨v, rfl, ho, hev⟩
  rw [h] at ho ⊢
  obtain ⟨V, d, rfl⟩ := own_slice ho.row
  exact ⟨V, d, rfl, ho, hev⟩
end Go.Proofs.Ythfnlmedelfbnaa
