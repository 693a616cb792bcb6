/- Regions that draw their order, whose effects stand in a chain: a schedule that takes what only reads as early as may be serves every order. -/
import Derived.Test.YtchfkkliechgoaaOps5
import Derived.OrdersHeld
namespace Go.Proofs.YtchfkkliechgoaaE
open Go Go.RowKit
set_option linter.unusedSimpArgs false
set_option linter.unusedVariables false

/-- May one go by this schedule? (true: an effect: it is the only one that may come up.) -/
def schedB (md : Region.Mode) (ops : Array Oper) : List (Bool × Nat) → Array Bool → Bool
  | [], listed => (Region.ready md ops listed).isEmpty
  | (false, i) :: r, listed => (Region.ready md ops listed).contains i && Region.free md ops listed i && schedB md ops r (listed.setIfInBounds i true)
  | (true, i) :: r, listed => (Region.ready md ops listed == [i]) && schedB md ops r (listed.setIfInBounds i true)
def MixPost (K : Act → World → Prop) : Exit → Act → World → Prop
  | .normal, a, w => K a w
  | _, _, _ => False
def wpMix (P : Program) (ops : Array Oper) (S : World → Prop) (Q : Act → World → Prop) : List (Bool × Nat) → Act → World → Prop
  | [], a, w => Q a w
  | (false, i) :: r, a, w => ∃ o v, ops[i]? = some o ∧ YieldsIf P ops S o v a ∧ wpMix P ops S Q r (a.put o.dst v) w
  | (true, i) :: r, a, w => ∃ o, ops[i]? = some o ∧ wpList P ops (MixPost fun a' w' => S w' ∧ wpMix P ops S Q r a' w') [o] a w
section
variable {P : Program} {ops : Array Oper} {S : World → Prop} {Q : Act → World → Prop}
theorem noLets (K : Act → World → Prop) : ¬ LetsOut (MixPost K) := fun ⟨_, _, h⟩ => h
theorem wp_mix {o : Oper} {a : Act} {w : World} {K K' Q Q' : Act → World → Prop} (h : ∀ a w, K a w → K' a w) (hh : o.wp P a w K (MixPost Q)) : o.wp P a w K' (MixPost Q') := by
  unfold Oper.wp at *
  generalize (execOp a.eval o).run P w = r at *
  cases r with
  | ok n w' =>
    cases n <;> simp only [Oper.upon] at hh ⊢ <;>
      first
        | exact h _ _ hh
        | exact Calls.mono hh (fun e w'' he => by
            cases e with
            | returned v => exact h _ _ he
            | panicked c => exact he
            | outgrown => exact absurd he (noLets _))
        | exact Rows.mono hh (fun _ _ he => h _ _ he)
  | halt x w' => cases x <;> simp only [Oper.upon] at hh ⊢ <;> exact hh
theorem wpOp_of_list {i : Nat} {o : Oper} {a : Act} {w : World} {K Q : Act → World → Prop} (hi : ops[i]? = some o) (h : wpList P ops (MixPost K) [o] a w) : wpOp P ops (MixPost Q) i K a w := by
  unfold wpList at h
  unfold wpOp
  simp only [hi]
  by_cases hw : Region.wanted o (yielded ops a.tmps) = true
  · rw [if_pos hw] at h ⊢
    rcases h with h | ⟨_, h⟩
    · exact .inl (wp_mix (fun a w h => h) h)
    · exact absurd h (noLets _)
  · rw [if_neg hw] at h ⊢
    exact h
theorem held_of_mix (hs : Region.noSelect ops = true) (md : Region.Mode) : ∀ (r : List (Bool × Nat)) (listed : Array Bool) (a : Act) (w : World), S w → schedB md ops r listed = true → wpMix P ops S Q r a w → wpAnyH P md ops (MixPost Q) S r.length listed a w
  | [], listed, a, w, hS, hB, h => ⟨by simpa [schedB] using hB, h⟩
  | (false, i) :: r, listed, a, w, hS, hB, h => by
    obtain ⟨o, v, hi, hy, h⟩ := h
    simp only [schedB, Bool.and_eq_true] at hB
    obtain ⟨⟨hr, hf⟩, hB⟩ := hB
    exact wpAnyH_take hi hs hf hr (fun c a w h => h) hy hS (held_of_mix hs md r _ _ _ hS hB h)
  | (true, i) :: r, listed, a, w, hS, hB, h => by
    obtain ⟨o, hi, h⟩ := h
    simp only [schedB, Bool.and_eq_true, beq_iff_eq] at hB
    obtain ⟨hr, hB⟩ := hB
    refine wpAnyH_all (rs := [i]) hr (by simp) ?_
    intro j hj
    obtain rfl : j = i := by simpa using hj
    exact wpOp_mono (fun a' w' h' => ⟨h'.1, held_of_mix hs md r _ _ _ h'.1 hB h'.2⟩) (wpOp_of_list hi h)
theorem w_mix {id : Nat} {Q : Exit → Act → World → Prop} {a : Act} {w : World} (S : World → Prop) (sched : List (Bool × Nat)) (hm : P.follows .mixedOrders = true) (hn : Region.noSelect ops = true) (hl : sched.length = ops.size) (hB : schedB .any ops sched (Array.replicate ops.size false) = true)
    (h : ∀ wd, Evt (fun _ => False) w wd → w.heap.size ≤ wd.heap.size → S wd ∧ wpMix P ops S (fun a' w' => Q .normal a' w') sched a wd) : (Code.region id ops true).wp P Q a w := by
  obtain ⟨hS, h⟩ := h { w with drawn := w.drawn + 1 } ⟨rfl, rfl, rfl, Nat.le_refl _, fun _ _ _ => rfl⟩ (Nat.le_refl _)
  have h1 : (Code.region id ops true).wp P (MixPost fun a' w' => Q .normal a' w') a w := by
    refine wp_region_held (S := S) hm ?_
    have := held_of_mix hn .any sched (Array.replicate ops.size false) a _ hS hB h
    rwa [hl] at this
  exact wp_mono h1 fun e a w hh => by
    cases e with
    | normal => exact hh
    | _ => exact hh.elim
end
section
variable {P : Program} {ops : Array Oper} {r : List (Bool × Nat)} {w : World} {S : World → Prop} {Q : Act → World → Prop} {ty : TypeId} {pos : String} {aft : Array Edge} {l : List Value} {ds : List Deferred} {N : Tmp} {op : Op} {i : Nat}
theorem mi_nil {a : Act} (h : Q a w) : wpMix P ops S Q [] a w := h
/-- What only reads: the same in every world between. -/
theorem mi_pure {v : Value} (hi : ops[i]? = some ⟨some N, op, ty, pos, aft, none⟩) (hv : ∀ w', S w' → Go1 P ⟨some N, op, ty, pos, aft, none⟩ l w' (fun u => u = v)) (h : wpMix P ops S Q r ⟨(l.set N v).toArray, ds⟩ w) : wpMix P ops S Q ((false, i) :: r) ⟨l.toArray, ds⟩ w := by
  refine ⟨_, v, hi, .inl ⟨by simp [Region.wanted], fun w' hS => ?_⟩, by simpa [Act.put] using h⟩
  obtain ⟨u, hr, rfl⟩ := hv w' hS
  rw [ev_eq]
  exact hr w' (Evt.refl _ _)
/-- Guarded, and not wanted. -/
theorem mi_off {g : Nat × Bool} (hi : ops[i]? = some ⟨some N, op, ty, pos, aft, some g⟩) (hw : Region.wanted ⟨some N, op, ty, pos, aft, some g⟩ (yielded ops l.toArray) = false) (h : wpMix P ops S Q r ⟨(l.set N undef).toArray, ds⟩ w) : wpMix P ops S Q ((false, i) :: r) ⟨l.toArray, ds⟩ w :=
  ⟨_, undef, hi, .inr ⟨hw, rfl⟩, by simpa [Act.put] using h⟩
/-- Guarded, and wanted. -/
theorem mi_on {v : Value} {g : Nat × Bool} (hi : ops[i]? = some ⟨some N, op, ty, pos, aft, some g⟩) (hw : Region.wanted ⟨some N, op, ty, pos, aft, some g⟩ (yielded ops l.toArray) = true) (hv : ∀ w', S w' → Go1 P ⟨some N, op, ty, pos, aft, some g⟩ l w' (fun u => u = v)) (h : wpMix P ops S Q r ⟨(l.set N v).toArray, ds⟩ w) : wpMix P ops S Q ((false, i) :: r) ⟨l.toArray, ds⟩ w := by
  refine ⟨_, v, hi, .inl ⟨hw, fun w' hS => ?_⟩, by simpa [Act.put] using h⟩
  obtain ⟨u, hr, rfl⟩ := hv w' hS
  rw [ev_eq]
  exact hr w' (Evt.refl _ _)
theorem mi_eff {d : Option Tmp} {gd : Option (Nat × Bool)} {a : Act} (hi : ops[i]? = some ⟨d, op, ty, pos, aft, gd⟩) (h : wpList P ops (MixPost fun a' w' => S w' ∧ wpMix P ops S Q r a' w') [⟨d, op, ty, pos, aft, gd⟩] a w) : wpMix P ops S Q ((true, i) :: r) a w := ⟨_, hi, h⟩
theorem mi_done {a : Act} (hS : S w) (h : wpMix P ops S Q r a w) : MixPost (fun a' w' => S w' ∧ wpMix P ops S Q r a' w') .normal a w := ⟨hS, h⟩
end
theorem mi_nil' {P : Program} {ops : Array Oper} {w : World} {S : World → Prop} {a : Act} {Q : Exit → Act → World → Prop} (h : Q .normal a w) : wpMix P ops S (fun a' w' => Q .normal a' w') [] a w := h
/-- The effects write T and what is new. -/
theorem w_mixE {P : Program} {ops : Array Oper} {id : Nat} {Q : Exit → Act → World → Prop} {a : Act} {w : World} (T : Nat → Prop) (sched : List (Bool × Nat)) (hm : P.follows .mixedOrders = true) (hn : Region.noSelect ops = true) (hl : sched.length = ops.size) (hB : schedB .any ops sched (Array.replicate ops.size false) = true)
    (h : ∀ wd, Evt (fun _ => False) w wd → w.heap.size ≤ wd.heap.size → wpMix P ops (Evt T w) (fun a' w' => Q .normal a' w') sched a wd) : (Code.region id ops true).wp P Q a w :=
  w_mix (Evt T w) sched hm hn hl hB (fun wd he hz => ⟨he.mono fun _ _ h => h.elim, h wd he hz⟩)
section
variable {P : Program} {ops : Array Oper} {rest : List Oper} {w : World} {Q : Exit → Act → World → Prop} {ty : TypeId} {pos : String} {aft : Array Edge} {l : List Value} {ds : List Deferred} {N : Tmp}
/-- append of nothing to nil. -/
theorem e_appendN0 {t e : TypeId} {sz bytes c : Nat} {A : Option Addr} {x y : Operand} (hx : ev l x = .slice none 0 0) (hy : ev l y = .slice A 0 c) [ht : TSlice P t e sz bytes]
    (h : wpList P ops Q rest ⟨(l.set N (.slice none 0 0)).toArray, ds⟩ w) :
    wpList P ops Q (⟨some N, .call { callee := .builtin .append, args := #[x, y], argTypes := #[t, t] }, ty, pos, aft, none⟩ :: rest) ⟨l.toArray, ds⟩ w := by
  have hi := ht.info
  cases hq : P.info? e with
  | none => simp [hq] at hi
  | some inf =>
    have hr : (Builtin.append_ #[t, t] ty #[.slice none 0 0, .slice A 0 c]).run P w = .ok (.slice none 0 0) w := by
      cases A <;> simp [Builtin.append_, run_underlying ht.ok, sizeOf, typeInfo, hq, Builtin.lenOf, Builtin.firstCells, loadCells, loadCellsFrom]
    refine l_event (v := .slice none 0 0) (w' := w) ?_ h
    simp only [execOp, Sem.run_bind, resolve, List.map_toArray, List.map_cons, List.map_nil, hx, hy, invoke, builtin, Sem.run_pure, Result.andThen_ok]
    first | (rw [hr]; rfl) | (simp only [Sem.run_bind, hr, Result.andThen_ok]; rfl)
end
end Go.Proofs.YtchfkkliechgoaaE
