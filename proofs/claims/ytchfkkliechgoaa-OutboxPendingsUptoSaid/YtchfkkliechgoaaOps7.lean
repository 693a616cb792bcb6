/- Regions that draw their order, two chains of effects at most: a schedule that branches; what they come to is told once. -/
import Derived.Test.YtchfkkliechgoaaOps6
namespace Go.Proofs.YtchfkkliechgoaaE
open Go Go.RowKit
set_option linter.unusedSimpArgs false
set_option linter.unusedVariables false

inductive Sch where
  | done : Sch
  | pure : Nat → Sch → Sch
  | one : Nat → Sch → Sch
  | two : Nat → Sch → Nat → Sch → Sch
def Sch.ok (md : Region.Mode) (ops : Array Oper) : Sch → Array Bool → Bool
  | .done, listed => (Region.ready md ops listed).isEmpty
  | .pure i s, listed => (Region.ready md ops listed).contains i && Region.free md ops listed i && s.ok md ops (listed.setIfInBounds i true)
  | .one i s, listed => (Region.ready md ops listed == [i]) && s.ok md ops (listed.setIfInBounds i true)
  | .two i s j t, listed => (Region.ready md ops listed == [i, j]) && (s.ok md ops (listed.setIfInBounds i true) && t.ok md ops (listed.setIfInBounds j true))
/-- All its ways are so long. -/
def Sch.long : Nat → Sch → Bool
  | 0, .done => true
  | n + 1, .pure _ s => s.long n
  | n + 1, .one _ s => s.long n
  | n + 1, .two _ s _ t => s.long n && t.long n
  | _, _ => false
def wpT (P : Program) (ops : Array Oper) (S : World → Prop) (Q : Act → World → Prop) : Sch → Act → World → Prop
  | .done, a, w => Q a w
  | .pure i s, a, w => ∃ o v, ops[i]? = some o ∧ YieldsIf P ops S o v a ∧ wpT P ops S Q s (a.put o.dst v) w
  | .one i s, a, w => ∃ o, ops[i]? = some o ∧ wpList P ops (MixPost fun a' w' => S w' ∧ wpT P ops S Q s a' w') [o] a w
  | .two i s j t, a, w => (∃ o, ops[i]? = some o ∧ wpList P ops (MixPost fun a' w' => S w' ∧ wpT P ops S Q s a' w') [o] a w) ∧ (∃ o, ops[j]? = some o ∧ wpList P ops (MixPost fun a' w' => S w' ∧ wpT P ops S Q t a' w') [o] a w)
section
variable {P : Program} {ops : Array Oper} {S : World → Prop} {Q : Act → World → Prop}
theorem held_of_T (hs : Region.noSelect ops = true) (md : Region.Mode) : ∀ (n : Nat) (r : Sch) (listed : Array Bool) (a : Act) (w : World), r.long n = true → S w → r.ok md ops listed = true → wpT P ops S Q r a w → wpAnyH P md ops (MixPost fun a w => S w ∧ Q a w) S n listed a w
  | 0, .done, listed, a, w, _, hS, hB, h => ⟨by simpa [Sch.ok] using hB, hS, h⟩
  | n + 1, .pure i s, listed, a, w, hl, hS, hB, h => by
    obtain ⟨o, v, hi, hy, h⟩ := h
    simp only [Sch.ok, Bool.and_eq_true] at hB
    obtain ⟨⟨hr, hf⟩, hB⟩ := hB
    exact wpAnyH_take hi hs hf hr (fun c a w h => h) hy hS (held_of_T hs md n s _ _ _ (by simpa [Sch.long] using hl) hS hB h)
  | n + 1, .one i s, listed, a, w, hl, hS, hB, h => by
    obtain ⟨o, hi, h⟩ := h
    simp only [Sch.ok, Bool.and_eq_true, beq_iff_eq] at hB
    obtain ⟨hr, hB⟩ := hB
    refine wpAnyH_all (rs := [i]) hr (by simp) ?_
    intro j hj
    obtain rfl : j = i := by simpa using hj
    exact wpOp_mono (fun a' w' h' => ⟨h'.1, held_of_T hs md n s _ _ _ (by simpa [Sch.long] using hl) h'.1 hB h'.2⟩) (wpOp_of_list hi h)
  | n + 1, .two i s j t, listed, a, w, hl, hS, hB, h => by
    obtain ⟨⟨o, hi, h⟩, ⟨o', hj, h'⟩⟩ := h
    simp only [Sch.ok, Bool.and_eq_true, beq_iff_eq] at hB
    obtain ⟨hr, hB, hB'⟩ := hB
    simp only [Sch.long, Bool.and_eq_true] at hl
    refine wpAnyH_all (rs := [i, j]) hr (by simp) ?_
    intro k hk
    by_cases hki : k = i
    · subst hki
      exact wpOp_mono (fun a' w' h' => ⟨h'.1, held_of_T hs md n s _ _ _ hl.1 h'.1 hB h'.2⟩) (wpOp_of_list hi h)
    · obtain rfl : k = j := by simpa [hki] using hk
      exact wpOp_mono (fun a' w' h' => ⟨h'.1, held_of_T hs md n t _ _ _ hl.2 h'.1 hB' h'.2⟩) (wpOp_of_list hj h')
  | 0, .pure _ _, _, _, _, hl, _, _, _ => by simp [Sch.long] at hl
  | 0, .one _ _, _, _, _, hl, _, _, _ => by simp [Sch.long] at hl
  | 0, .two _ _ _ _, _, _, _, hl, _, _, _ => by simp [Sch.long] at hl
  | _ + 1, .done, _, _, _, hl, _, _, _ => by simp [Sch.long] at hl
/-- What the region comes to (J: of the slots in W and of the world), shown on each way of the schedule; the effects write T and what is new. -/
theorem w_tree {id : Nat} {Q : Exit → Act → World → Prop} {l : List Value} {ds : List Deferred} {w : World} (T : Nat → Prop) (sch : Sch) (W : List Nat) (J : (Nat → Value) → World → Prop) (hm : P.follows .mixedOrders = true) (hn : Region.noSelect ops = true) (hl : sch.long ops.size = true) (hB : sch.ok .any ops (Array.replicate ops.size false) = true)
    (h1 : ∀ wd, Evt (fun _ => False) w wd → w.heap.size ≤ wd.heap.size → wpT P ops (Evt T w) (fun a' w' => ∃ l', a' = ⟨l'.toArray, ds⟩ ∧ setW l' W (fun _ => undef) = setW l W (fun _ => undef) ∧ J (lget l') w') sch ⟨l.toArray, ds⟩ wd)
    (h2 : ∀ u w', Evt T w w' → w.heap.size ≤ w'.heap.size → J u w' → Q .normal ⟨(setW l W u).toArray, ds⟩ w') : (Code.region id ops true).wp P Q ⟨l.toArray, ds⟩ w := by
  have h := h1 { w with drawn := w.drawn + 1 } ⟨rfl, rfl, rfl, Nat.le_refl _, fun _ _ _ => rfl⟩ (Nat.le_refl _)
  have hS : Evt T w { w with drawn := w.drawn + 1 } := ⟨rfl, rfl, rfl, Nat.le_refl _, fun _ _ _ => rfl⟩
  have h3 := wp_region_held (id := id) (S := Evt T w) hm (held_of_T hn .any ops.size sch (Array.replicate ops.size false) ⟨l.toArray, ds⟩ _ hl hS hB h)
  exact wp_mono h3 fun e a w hh => by
    cases e with
    | normal =>
      obtain ⟨hT, l', rfl, hs, hJ⟩ := hh
      have hl' : setW l W (lget l') = l' := by rw [← setW_over W (lget l') (fun _ => undef) l, ← hs, setW_over, setW_self]
      have := h2 _ _ hT hT.size hJ
      rw [hl'] at this
      exact this
    | _ => exact hh.elim
end
section
variable {P : Program} {ops : Array Oper} {s t : Sch} {w : World} {S : World → Prop} {Q : Act → World → Prop} {ty : TypeId} {pos : String} {aft : Array Edge} {l : List Value} {ds : List Deferred} {N : Tmp} {op : Op} {i j : Nat}
theorem tt_nil {a : Act} (h : Q a w) : wpT P ops S Q .done a w := h
theorem tt_pure {v : Value} (hi : ops[i]? = some ⟨some N, op, ty, pos, aft, none⟩) (hv : ∀ w', S w' → Go1 P ⟨some N, op, ty, pos, aft, none⟩ l w' (fun u => u = v)) (h : wpT P ops S Q s ⟨(l.set N v).toArray, ds⟩ w) : wpT P ops S Q (.pure i s) ⟨l.toArray, ds⟩ w := by
  refine ⟨_, v, hi, .inl ⟨by simp [Region.wanted], fun w' hS => ?_⟩, by simpa [Act.put] using h⟩
  obtain ⟨u, hr, rfl⟩ := hv w' hS
  rw [ev_eq]
  exact hr w' (Evt.refl _ _)
theorem tt_off {g : Nat × Bool} (hi : ops[i]? = some ⟨some N, op, ty, pos, aft, some g⟩) (hw : Region.wanted ⟨some N, op, ty, pos, aft, some g⟩ (yielded ops l.toArray) = false) (h : wpT P ops S Q s ⟨(l.set N undef).toArray, ds⟩ w) : wpT P ops S Q (.pure i s) ⟨l.toArray, ds⟩ w :=
  ⟨_, undef, hi, .inr ⟨hw, rfl⟩, by simpa [Act.put] using h⟩
theorem tt_on {v : Value} {g : Nat × Bool} (hi : ops[i]? = some ⟨some N, op, ty, pos, aft, some g⟩) (hw : Region.wanted ⟨some N, op, ty, pos, aft, some g⟩ (yielded ops l.toArray) = true) (hv : ∀ w', S w' → Go1 P ⟨some N, op, ty, pos, aft, some g⟩ l w' (fun u => u = v)) (h : wpT P ops S Q s ⟨(l.set N v).toArray, ds⟩ w) : wpT P ops S Q (.pure i s) ⟨l.toArray, ds⟩ w := by
  refine ⟨_, v, hi, .inl ⟨hw, fun w' hS => ?_⟩, by simpa [Act.put] using h⟩
  obtain ⟨u, hr, rfl⟩ := hv w' hS
  rw [ev_eq]
  exact hr w' (Evt.refl _ _)
theorem tt_one {d : Option Tmp} {gd : Option (Nat × Bool)} {a : Act} (hi : ops[i]? = some ⟨d, op, ty, pos, aft, gd⟩) (h : wpList P ops (MixPost fun a' w' => S w' ∧ wpT P ops S Q s a' w') [⟨d, op, ty, pos, aft, gd⟩] a w) : wpT P ops S Q (.one i s) a w := ⟨_, hi, h⟩
theorem tt_two {d d2 : Option Tmp} {gd gd2 : Option (Nat × Bool)} {op2 : Op} {ty2 : TypeId} {pos2 : String} {aft2 : Array Edge} {a : Act} (hi : ops[i]? = some ⟨d, op, ty, pos, aft, gd⟩) (hj : ops[j]? = some ⟨d2, op2, ty2, pos2, aft2, gd2⟩)
    (h : wpList P ops (MixPost fun a' w' => S w' ∧ wpT P ops S Q s a' w') [⟨d, op, ty, pos, aft, gd⟩] a w) (h' : wpList P ops (MixPost fun a' w' => S w' ∧ wpT P ops S Q t a' w') [⟨d2, op2, ty2, pos2, aft2, gd2⟩] a w) : wpT P ops S Q (.two i s j t) a w := ⟨⟨_, hi, h⟩, ⟨_, hj, h'⟩⟩
theorem tt_done {a : Act} (hS : S w) (h : wpT P ops S Q s a w) : MixPost (fun a' w' => S w' ∧ wpT P ops S Q s a' w') .normal a w := ⟨hS, h⟩
end
end Go.Proofs.YtchfkkliechgoaaE
