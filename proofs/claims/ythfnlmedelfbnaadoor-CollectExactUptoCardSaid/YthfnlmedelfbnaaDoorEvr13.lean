/- Rows of events in memory of a call's own; Run; the plain law of timed days. -/
import Derived.Test.YthfnlmedelfbnaaDoorEvn13
namespace Go.Proofs.YthfnlmedelfbnaaDoor
open Go.RowKit Go.Proofs.YthfnlmedelfbnaaDoorE
set_option linter.unusedSimpArgs false
set_option linter.unusedVariables false

/-- The cells of events in a row. -/
def evCells (es : List Evn) : List Value := es.flatMap fun e => evnC e
theorem evCells_snoc (es : List Evn) (e : Evn) : evCells (es ++ [e]) = evCells es ++ evnC e := by simp [evCells]
theorem evCells_append (es fs : List Evn) : evCells (es ++ fs) = evCells es ++ evCells fs := by simp [evCells]
theorem evCells_length (es : List Evn) : (evCells es).length = es.length * 4 := by
  induction es with
  | nil => rfl
  | cons e es ih =>
    have : evCells (e :: es) = evnC e ++ evCells es := rfl
    rw [this, List.length_append, ih]
    simp [Nat.add_mul]
    omega
theorem evCells_at : ∀ (es : List Evn) (j i : Nat) (e : Evn) (v : Value), es[j]? = some e → (evnC e)[i]? = some v → (evCells es)[j * 4 + i]? = some v
  | [], j, i, e, v, hj, _ => by simp at hj
  | x :: es, 0, i, e, v, hj, hi => by
    simp only [List.getElem?_cons_zero, Option.some.injEq] at hj
    subst hj
    have h1 : evCells (x :: es) = evnC x ++ evCells es := rfl
    rw [h1, List.getElem?_append_left (by have := (List.getElem?_eq_some_iff.1 hi).1; omega), Nat.zero_mul, Nat.zero_add, hi]
  | x :: es, j + 1, i, e, v, hj, hi => by
    simp only [List.getElem?_cons_succ] at hj
    have h1 : evCells (x :: es) = evnC x ++ evCells es := rfl
    have hl : (evnC x).length = 4 := rfl
    rw [h1, List.getElem?_append_right (by omega), show (j + 1) * 4 + i - (evnC x).length = j * 4 + i by omega]
    exact evCells_at es j i e v hj hi
theorem evCells_get {es : List Evn} {k : Nat} {v : Value} (h : (evCells es)[k]? = some v) : ∃ e, es[k / 4]? = some e ∧ (evnC e)[k % 4]? = some v := by
  have hk := (List.getElem?_eq_some_iff.1 h).1
  rw [evCells_length] at hk
  have hj : k / 4 < es.length := by omega
  have he : es[k / 4]? = some es[k / 4] := List.getElem?_eq_getElem hj
  have hi : k % 4 < (evnC es[k / 4]).length := by show k % 4 < 4; omega
  have h2 := evCells_at es (k / 4) (k % 4) _ _ he (List.getElem?_eq_getElem hi)
  rw [show k / 4 * 4 + k % 4 = k by omega, h] at h2
  exact ⟨_, he, by rw [List.getElem?_eq_getElem hi]; exact h2.symm⟩
theorem evnC_one (e : Evn) : ∀ v ∈ evnC e, v.oneCell' = true := by intro v hv; simp only [evnC, List.mem_cons, List.not_mem_nil, or_false] at hv; rcases hv with rfl | rfl | rfl | rfl <;> rfl
theorem evCells_one (es : List Evn) : ∀ v ∈ evCells es, v.oneCell' = true := by
  intro v hv
  simp only [evCells, List.mem_flatMap] at hv
  obtain ⟨e, _, hv⟩ := hv
  exact evnC_one e v hv
theorem RE_of_own {w : World} {V : Option Addr} {c : Nat} {es : List Evn} (h : w.ownsRow 0 37 4 (.slice V es.length c) es.length (evCells es)) (hl : es.length ≤ 9223372036854775807) : RE w V es := by
  rcases Nat.eq_zero_or_pos es.length with h0 | hp
  · exact ⟨by omega, fun hn => by omega⟩
  · obtain ⟨g, cap, cur, he, hb, ht, _⟩ := own_form h hp
    simp only [Value.slice.injEq] at he
    rw [he.1]
    refine ⟨hl, fun _ => ⟨g, 0, rfl, fun j e hj i v hi => ?_⟩⟩
    rw [hb.cell?, Nat.zero_add]
    have h1 := evCells_at es j i e v hj hi
    rw [← ht, List.getElem?_take] at h1
    split at h1
    · exact h1
    · cases h1
section
variable {P : Program} {ops : Array Oper} {rest : List Oper} {w : World} {Q : Exit → Act → World → Prop} {ty : TypeId} {pos : String} {aft : Array Edge} {l : List Value} {ds : List Deferred} {N : Tmp}
/-- Events, appended to a row of the call's own. -/
theorem e_appEs {t : TypeId} {A : Option Addr} {c : Nat} {x y : Operand} {v z : Value} {xs ys : List Evn} (hx : ev l x = v) (hy : ev l y = .slice A ys.length c) [ht : TSlice P t 37 4 32] [hz : TZero P 37 z] (hzs : z.cells.size = 4) (hown : w.ownsRow 0 37 4 v xs.length (evCells xs)) (hr : RE w A ys) (hb : (xs.length + ys.length) * 32 ≤ 140737488355328)
    (h : ∀ v' w1, w1.ownsRow 0 37 4 v' (xs ++ ys).length (evCells (xs ++ ys)) → Evt (fun k => v.ownBlock = some k) w w1 → (v'.ownBlock = v.ownBlock ∨ v'.ownBlock = some w.heap.size) → w.heap.size ≤ w1.heap.size → wpList P ops Q rest ⟨(l.set N v').toArray, ds⟩ w1) :
    wpList P ops Q (⟨some N, .call { callee := .builtin .append, args := #[x, y], argTypes := #[t, t] }, ty, pos, aft, none⟩ :: rest) ⟨l.toArray, ds⟩ w := by
  have hi := ht.info
  have hz' := hz.ok
  cases hq : P.info? 37 with
  | none => simp [hq] at hi
  | some inf =>
    simp only [hq, Option.map_some, Option.some.injEq, Prod.mk.injEq] at hi hz'
    have hrun : ∃ v' w1, (Builtin.append_ #[t, t] ty #[v, .slice A ys.length c]).run P w = .ok v' w1 ∧ w1.ownsRow 0 37 4 v' (xs.length + ys.length) (evCells xs ++ evCells ys) ∧ Evt (fun k => v.ownBlock = some k) w w1 ∧ (v'.ownBlock = v.ownBlock ∨ v'.ownBlock = some w.heap.size) := by
      cases A with
      | none =>
        have h0 : ys = [] := by
          rcases Nat.eq_zero_or_pos ys.length with h0 | h0
          · exact List.eq_nil_of_length_eq_zero h0
          · obtain ⟨b, o, h1, _⟩ := hr.2 h0; cases h1
        subst h0
        refine ⟨v, w, ?_, by simpa [evCells] using hown, Evt.refl _ _, .inl rfl⟩
        obtain ⟨V, d, rfl⟩ := own_slice hown
        have hcap : xs.length ≤ d := by
          rcases hown.2 with ⟨h1, h2⟩ | ⟨g, cap, cur, h1, _, _, h2, _⟩
          · simp only [Value.slice.injEq] at h1; omega
          · simp only [Value.slice.injEq] at h1; omega
        cases V <;> simp [Builtin.append_, run_underlying ht.ok, sizeOf, typeInfo, hq, Builtin.lenOf, Builtin.firstCells, loadCells, loadCellsFrom, hcap, storeCells]
      | some a =>
        have hnews : ∀ j u, (evCells ys)[j]? = some u → w.cell? (a.add j) = some u := by
          intro j u hu
          obtain ⟨e, he, hv⟩ := evCells_get hu
          have hj : j / 4 < ys.length := (List.getElem?_eq_some_iff.1 he).1
          obtain ⟨b, o, h1, hc⟩ := hr.2 (by omega)
          cases h1
          have := hc _ _ he _ _ hv
          rw [add_off, show o + j = o + j / 4 * 4 + j % 4 by omega, this]
        obtain ⟨v', w1, h1, h2, h3, _, h5⟩ := run_append_own_at (P := P) w 0 t ty 37 inf z 4 32 ht.ok hq hz' hi.1 hi.2 hzs (by decide) v xs.length (evCells xs) hown a ys.length c (evCells ys) (evCells_length ys) hnews (evCells_one ys) (by simp only [maxLen]; omega) hb (Nat.zero_le _)
        exact ⟨v', w1, h1, h2, Evt.of_grown h3, h5⟩
    obtain ⟨v', w1, h1, h2, h3, h5⟩ := hrun
    refine l_event (v := v') (w' := w1) ?_ (h v' w1 (by rw [evCells_append, List.length_append]; exact h2) h3 h5 h3.size)
    simp only [execOp, Sem.run_bind, resolve, List.map_toArray, List.map_cons, List.map_nil, hx, hy, invoke, builtin, Sem.run_pure, Result.andThen_ok]
    first | (rw [h1]; rfl) | (simp only [Sem.run_bind, h1, Result.andThen_ok]; rfl)
end
end Go.Proofs.YthfnlmedelfbnaaDoor
