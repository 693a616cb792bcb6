/- Maps from numbers to blocks; slices held against nil; slices of no element. -/
import Derived.Test.YtchfkkliechgoaaOps12
import Derived.Lib.SlKeysI
import Derived.Lib.SliceRun
namespace Go.Proofs.YtchfkkliechgoaaE
open Go Go.RowKit
set_option linter.unusedSimpArgs false
set_option linter.unusedVariables false

/-- A pointer as a datum: its block's number. -/
def ptrR : Value → Option (DataW Unit × List MemPlace)
  | .pointer none => some (.nil, [])
  | .pointer (some ⟨g, 0, none⟩) => some (.lit (.int .i64 g), [])
  | _ => none
theorem ptrR_nil {v : Value} {ps : List MemPlace} (h : ptrR v = some (.nil, ps)) : v = .pointer none := by
  unfold ptrR at h
  split at h
  · rfl
  · simp at h
  · cases h
theorem ptrR_lit {v : Value} {ps : List MemPlace} {g : Nat} (h : ptrR v = some (.lit (.int .i64 g), ps)) : v = .pointer (some ⟨g, 0, none⟩) := by
  unfold ptrR at h
  split at h
  · simp at h
  · rename_i g'
    simp only [Option.some.injEq, Prod.mk.injEq, DataW.lit.injEq, Lit.int.injEq, true_and] at h
    have : g' = g := by omega
    rw [this]
  · cases h
/-- Block b is a map that holds these blocks under these numbers. -/
def PMap (P : Program) (k : TypeId) (w : World) (b n : Nat) (es : List (Int × Nat)) : Prop :=
  ∃ D : DataW Unit, w.ownsMap P k ptrR b n D ∧ (∀ a : Int, Maps.has D (.int .i64 a) = decide (a ∈ es.map (·.1))) ∧ ∀ a g, (a, g) ∈ es → D.atKey (.int .i64 a) .nil = .lit (.int .i64 (g : Nat))
theorem PMap.lt {P : Program} {k : TypeId} {w : World} {b n : Nat} {es : List (Int × Nat)} (h : PMap P k w b n es) : b < w.heap.size := by
  obtain ⟨D, h1, _⟩ := h
  exact h1.lt
theorem PMap.evt {P : Program} {k : TypeId} {S : Nat → Prop} {w w' : World} {b n : Nat} {es : List (Int × Nat)} (h : PMap P k w b n es) (he : Evt S w w') (hs : ¬ S b) : PMap P k w' b n es := by
  obtain ⟨D, ⟨xs, clock, hb, F, hn, hD⟩, h2⟩ := h
  have hlt := (Array.getElem?_eq_some_iff.1 hb).1
  exact ⟨D, ⟨xs, clock, (he.block b hlt hs).trans hb, F, hn, hD⟩, h2⟩
theorem PMap.ne {P : Program} {k : TypeId} {w : World} {b n g : Nat} {es : List (Int × Nat)} {t : TypeId} {cs : List Value} (h : PMap P k w b n es) (hg : Blk w g t cs) : g ≠ b := by
  rintro rfl
  obtain ⟨D, ⟨xs, clock, hb, _⟩, _⟩ := h
  unfold Blk at hg
  rw [hg] at hb
  cases hb
theorem PMap.same {P : Program} {k : TypeId} {w : World} {b n : Nat} {es es' : List (Int × Nat)} (h : PMap P k w b n es) (hm : ∀ x, x ∈ es' ↔ x ∈ es) : PMap P k w b n es' := by
  obtain ⟨D, h1, h2, h3⟩ := h
  refine ⟨D, h1, fun a => ?_, fun a g hg => h3 a g ((hm _).1 hg)⟩
  rw [h2 a]
  congr 1
  apply propext
  simp only [List.mem_map]
  constructor
  · rintro ⟨x, hx, rfl⟩; exact ⟨x, (hm x).2 hx, rfl⟩
  · rintro ⟨x, hx, rfl⟩; exact ⟨x, (hm x).1 hx, rfl⟩
/-- The keys of the datum. -/
theorem PMap.keys {P : Program} {k : TypeId} {w : World} {b n : Nat} {es : List (Int × Nat)} [hk : TInt P k .i64] (h : PMap P k w b n es) (hn : (es.map (·.1)).Nodup) : ∃ D : DataW Unit, w.ownsMap P k ptrR b n D ∧ (es.map (·.1)).Perm (intKeys D) ∧ Maps.size D = es.length := by
  obtain ⟨D, h1, h2, h3⟩ := h
  have hc : CollectedI D (fun _ => false) (es.map (·.1)) := ⟨hn, fun x => by rw [h2 x]; simp⟩
  have hp := hc.perm h1 (Maps.int_keyed hk.ok) hk.ok (fun _ => rfl)
  refine ⟨D, h1, hp, ?_⟩
  have hl := hp.length_eq
  rw [List.length_map] at hl
  obtain ⟨xs, hD, _⟩ := h1.entries (Maps.int_keyed hk.ok)
  rw [hl, hD]
  simp [Maps.size, intKeys]
section
variable {P : Program} {w : World} {ty : TypeId} {pos : String} {aft : Array Edge} {l : List Value} {d : Option Tmp} {g : Option (Nat × Bool)} {K : Value → Prop}
variable {t u : TypeId} {x y : Operand} {a b i : Int}
/-- What stands under a number. -/
def AtKey (es : List (Int × Nat)) (a : Int) (v : Value) : Prop := (∃ g, (a, g) ∈ es ∧ v = .pointer (some ⟨g, 0, none⟩)) ∨ (a ∉ es.map (·.1) ∧ v = .pointer none)
theorem pmap_at {es : List (Int × Nat)} {D : DataW Unit} (h2 : ∀ a : Int, Maps.has D (.int .i64 a) = decide (a ∈ es.map (·.1))) (h3 : ∀ a g, (a, g) ∈ es → D.atKey (.int .i64 a) .nil = .lit (.int .i64 (g : Nat))) {v v' : Value} {ps : List MemPlace} (h : ptrR v = some (D.atKey (.int .i64 a) .nil, ps)) (hv : AtKey es a v') : v = v' := by
  rcases hv with ⟨g, hg, rfl⟩ | ⟨hn, rfl⟩
  · rw [h3 a g hg] at h
    exact ptrR_lit h
  · have h4 := h2 a
    rw [decide_eq_false hn] at h4
    rw [Maps.atKey_of_not_has h4] at h
    exact ptrR_nil h
/-- m[k] -/
theorem g_lookP {k e : TypeId} {bl n : Nat} {es : List (Int × Nat)} {v' : Value} (hx : ev l x = .map (some bl)) (hy : ev l y = .int .i64 a) [ht : TMap P t k e] [hk : TInt P k .i64] [hz : TZero P e (.pointer none)] (hs : PMap P k w bl n es) (h0 : -9223372036854775808 ≤ a ∧ a ≤ 9223372036854775807) (hv : AtKey es a v')
    (h : K v') : Go1 P ⟨d, .lookup t x y false, ty, pos, aft, g⟩ l w K := by
  have hw : (Lit.int .i64 a).wf = true := WalkArith.wf_i64 (by omega)
  have key := Maps.keyOf_int_mk hk.ok hw
  refine ⟨v', fun w' he => ?_, h⟩
  obtain ⟨D, ho, h2, h3⟩ := hs.evt he id
  obtain ⟨v, ps, hrun, hR⟩ := ho.lookup (Maps.int_keyed hk.ok) ht.ok (run_zeroValue hz w') (zd := .nil) (zp := []) rfl key
  obtain rfl := pmap_at h2 h3 hR hv
  simp [execOp, hx, hy, hrun]
/-- v, ok := m[k] -/
theorem g_lookPok {k e : TypeId} {bl n : Nat} {es : List (Int × Nat)} {v' : Value} (hx : ev l x = .map (some bl)) (hy : ev l y = .int .i64 a) [ht : TMap P t k e] [hk : TInt P k .i64] [hz : TZero P e (.pointer none)] (hs : PMap P k w bl n es) (h0 : -9223372036854775808 ≤ a ∧ a ≤ 9223372036854775807) (hv : AtKey es a v')
    (h : K (.tuple [v', .bool (decide (a ∈ es.map (·.1)))].toArray)) : Go1 P ⟨d, .lookup t x y true, ty, pos, aft, g⟩ l w K := by
  have hw : (Lit.int .i64 a).wf = true := WalkArith.wf_i64 (by omega)
  have key := Maps.keyOf_int_mk hk.ok hw
  refine ⟨_, fun w' he => ?_, h⟩
  obtain ⟨D, ho, h2, h3⟩ := hs.evt he id
  obtain ⟨v, ps, hrun, hR⟩ := ho.look_ok (Maps.int_keyed hk.ok) ht.ok (run_zeroValue hz w') (zd := .nil) (zp := []) rfl key
  obtain rfl := pmap_at h2 h3 hR hv
  rw [h2 a] at hrun
  simp [execOp, hx, hy, hrun]
/-- x == nil, of a slice -/
theorem g_eqlSlN {e : TypeId} {sz bytes : Nat} {A : Option Addr} {m c : Nat} [ht : TSlice P t e sz bytes] (hx : ev l x = .slice A m c) (hy : ev l y = .slice none 0 0) (h : K (.bool A.isNone)) : Go1 P ⟨d, .binOp .eql t x y u, ty, pos, aft, g⟩ l w K :=
  ⟨_, fun n _ => by
    have hg : (eqGuard .eql t x y (.slice A m c) (.slice none 0 0)).run P n = .ok () n := rfl
    simp only [execOp, hx, hy, Sem.run_bind, hg, Lib.run_eql_slice_nil n t e A m c 0 0 ht.ok, Result.andThen_ok]
    rfl, h⟩
class TPtr (P : Program) (t : TypeId) : Prop where
  ok : P.underlying t = some (.pointer (P.pointee t))
/-- a pointer held against nil -/
theorem g_eqlPN {q : Option Addr} [hp : TPtr P t] (hx : ev l x = .pointer q) (hy : ev l y = .pointer none) (h : K (.bool q.isNone)) : Go1 P ⟨d, .binOp .eql t x y u, ty, pos, aft, g⟩ l w K :=
  ⟨_, fun n _ => by
    have hg : (eqGuard .eql t x y (.pointer q) (.pointer none)).run P n = .ok () n := rfl
    simp only [execOp, hx, hy, Sem.run_bind, hg, run_eql_pointer_nil n t q hp.ok, Result.andThen_ok]
    rfl, h⟩
theorem g_neqPN {q : Option Addr} [hp : TPtr P t] (hx : ev l x = .pointer q) (hy : ev l y = .pointer none) (h : K (.bool (!q.isNone))) : Go1 P ⟨d, .binOp .neq t x y u, ty, pos, aft, g⟩ l w K :=
  ⟨_, fun n _ => by
    have hg : (eqGuard .neq t x y (.pointer q) (.pointer none)).run P n = .ok () n := rfl
    simp only [execOp, hx, hy, Sem.run_bind, hg, run_neq_pointer_nil n t q hp.ok, Result.andThen_ok]
    rfl, h⟩
theorem g_eqlPS {q : Addr} [hp : TPtr P t] (hx : ev l x = .pointer (some q)) (hy : ev l y = .pointer none) (h : K (.bool false)) : Go1 P ⟨d, .binOp .eql t x y u, ty, pos, aft, g⟩ l w K := g_eqlPN hx hy h
theorem g_eqlP0 [hp : TPtr P t] (hx : ev l x = .pointer none) (hy : ev l y = .pointer none) (h : K (.bool true)) : Go1 P ⟨d, .binOp .eql t x y u, ty, pos, aft, g⟩ l w K := g_eqlPN hx hy h
theorem g_neqPS {q : Addr} [hp : TPtr P t] (hx : ev l x = .pointer (some q)) (hy : ev l y = .pointer none) (h : K (.bool true)) : Go1 P ⟨d, .binOp .neq t x y u, ty, pos, aft, g⟩ l w K := g_neqPN hx hy h
theorem g_neqP0 [hp : TPtr P t] (hx : ev l x = .pointer none) (hy : ev l y = .pointer none) (h : K (.bool false)) : Go1 P ⟨d, .binOp .neq t x y u, ty, pos, aft, g⟩ l w K := g_neqPN hx hy h
end
section
variable {P : Program} {ops : Array Oper} {rest : List Oper} {w w' : World} {Q : Exit → Act → World → Prop} {ty : TypeId} {pos : String} {aft : Array Edge} {l : List Value} {ds : List Deferred} {N : Tmp} {op : Op}
/-- An operation that turns the world; what it yields is dropped. -/
theorem l_eventN {v : Value} (hr : (execOp (ev l) ⟨none, op, ty, pos, aft, none⟩).run P w = .ok (.value v) w') (h : wpList P ops Q rest ⟨l.toArray, ds⟩ w') : wpList P ops Q (⟨none, op, ty, pos, aft, none⟩ :: rest) ⟨l.toArray, ds⟩ w := by
  refine wpList_plain rfl fun K hK => ?_
  unfold Oper.wp
  rw [ev_eq, hr, Oper.upon_value]
  have := hK _ _ h
  simpa [Act.put] using this
theorem e_makeMapP {t k e : TypeId} [ht : TMap P t k e]
    (h : ∀ b w1, w.heap.size ≤ b → b < w1.heap.size → PMap P k w1 b 0 [] → Evt (fun _ => False) w w1 → w.heap.size ≤ w1.heap.size → wpList P ops Q rest ⟨(l.set N (.map (some b))).toArray, ds⟩ w1) :
    wpList P ops Q (⟨some N, .makeMap t none, ty, pos, aft, none⟩ :: rest) ⟨l.toArray, ds⟩ w := by
  refine l_event (v := .map (some w.heap.size)) (w' := w.alloc (.map #[] 0)) ?_ (h _ _ (Nat.le_refl _) (by simp) ⟨_, World.ownsMap_made w P k _, fun a => by simp [Maps.has], fun a g hg => by cases hg⟩ (Evt.alloc _ _) (by simp))
  simp [execOp, run_makeMap]
theorem e_updP {t k e : TypeId} {x y z : Operand} {b n g : Nat} {es : List (Int × Nat)} {a : Int} (hx : ev l x = .map (some b)) (hy : ev l y = .int .i64 a) (hz : ev l z = .pointer (some ⟨g, 0, none⟩)) [ht : TMap P t k e] [hk : TInt P k .i64] (hs : PMap P k w b n es) (hn : n < 1000000000000) (ha : -9223372036854775808 ≤ a ∧ a ≤ 9223372036854775807) (hno : a ∉ es.map (·.1))
    (h : ∀ w1, PMap P k w1 b (n + 1) ((a, g) :: es) → Evt (fun j => j = b) w w1 → w.heap.size ≤ w1.heap.size → wpList P ops Q rest ⟨l.toArray, ds⟩ w1) :
    wpList P ops Q (⟨none, .mapUpdate t x y z, ty, pos, aft, none⟩ :: rest) ⟨l.toArray, ds⟩ w := by
  have hwa : (Lit.int .i64 a).wf = true := WalkArith.wf_i64 (by omega)
  obtain ⟨D, ho, hh, hat⟩ := hs
  obtain ⟨w1, hrun, ho1, htu⟩ := ho.store (Maps.int_keyed hk.ok) ht.ok (by simp only [maxLen]; omega) (Maps.keyOf_int_mk hk.ok hwa) (val := .pointer (some ⟨g, 0, none⟩)) (d := .lit (.int .i64 (g : Nat))) (ps := []) rfl
  have he := Evt.of_grown htu.grown
  refine l_store (w' := w1) ?_ (h w1 ⟨_, ho1, fun q => ?_, fun q g' hq => ?_⟩ (he.mono fun j _ hj => (Option.some.inj hj).symm) he.size)
  · simp only [execOp, hx, hy, hz, Sem.run_bind, hrun, Result.andThen_ok]
    rfl
  · by_cases hqa : q = a
    · subst hqa
      rw [Maps.has_put_same ho.isMap (by simp [WideAt.IsKeyLit])]
      simp
    · rw [Maps.has_put_other (by simp [hqa]), hh q]
      simp [hqa]
  · rcases List.mem_cons.1 hq with h1 | h1
    · cases h1
      rw [Maps.atKey_put_same ho.isMap (by simp [WideAt.IsKeyLit])]
    · have hqa : q ≠ a := fun e => hno (e ▸ List.mem_map.2 ⟨_, h1, rfl⟩)
      rw [Maps.atKey_put_other (by simp [hqa])]
      exact hat q g' h1
theorem e_delP {t k e : TypeId} {x y : Operand} {b n : Nat} {es : List (Int × Nat)} {a : Int} (hx : ev l x = .map (some b)) (hy : ev l y = .int .i64 a) [ht : TMap P t k e] [hk : TInt P k .i64] (hs : PMap P k w b n es) (ha : -9223372036854775808 ≤ a ∧ a ≤ 9223372036854775807)
    (h : ∀ w1, PMap P k w1 b n (es.filter fun x => decide (x.1 ≠ a)) → Evt (fun j => j = b) w w1 → w.heap.size ≤ w1.heap.size → wpList P ops Q rest ⟨l.toArray, ds⟩ w1) :
    wpList P ops Q (⟨none, .call { callee := .builtin .delete, args := #[x, y], argTypes := #[t, k] }, ty, pos, aft, none⟩ :: rest) ⟨l.toArray, ds⟩ w := by
  have hwa : (Lit.int .i64 a).wf = true := WalkArith.wf_i64 (by omega)
  obtain ⟨D, ho, hh, hat⟩ := hs
  obtain ⟨w1, hrun, ho1, htu⟩ := ho.drop (Maps.int_keyed hk.ok) ht.ok (Maps.keyOf_int_mk hk.ok hwa) ty
  have he := Evt.of_grown htu.grown
  refine l_eventN (v := .tuple #[]) (w' := w1) ?_ (h w1 ⟨_, ho1, fun q => ?_, fun q g' hq => ?_⟩ (he.mono fun j _ hj => (Option.some.inj hj).symm) he.size)
  · simp only [execOp, Sem.run_bind, resolve, List.map_toArray, List.map_cons, List.map_nil, hx, hy, invoke, builtin, Sem.run_pure, Result.andThen_ok]
    first | (rw [hrun]; rfl) | (simp only [Sem.run_bind, hrun, Result.andThen_ok]; rfl)
  · by_cases hqa : q = a
    · subst hqa
      rw [Maps.has_del_same]
      symm
      apply decide_eq_false
      simp only [List.mem_map, List.mem_filter]
      rintro ⟨p, ⟨_, h1⟩, h2⟩
      exact (of_decide_eq_true h1) h2
    · rw [Maps.has_del_other (by simp [hqa]), hh q]
      congr 1
      apply propext
      simp only [List.mem_map, List.mem_filter]
      constructor
      · rintro ⟨p, h1, rfl⟩; exact ⟨p, ⟨h1, decide_eq_true hqa⟩, rfl⟩
      · rintro ⟨p, ⟨h1, _⟩, rfl⟩; exact ⟨p, h1, rfl⟩
  · obtain ⟨h1, h2⟩ := List.mem_filter.1 hq
    have hqa : q ≠ a := of_decide_eq_true h2
    rw [Maps.atKey_del_other (by simp [hqa])]
    exact hat q g' h1
/-- A slice of no element that is not nil. -/
theorem own_empty {w : World} {g : Nat} {e : TypeId} {sz : Nat} (h : Blk w g e []) : w.ownsRow 0 e sz (.slice (some ⟨g, 0, none⟩) 0 0) 0 [] :=
  ⟨by simp, .inr ⟨g, 0, #[], rfl, Nat.zero_le _, h, Nat.le_refl _, by simp [maxLen], by simp, by simp⟩⟩
theorem e_slice0 {t e : TypeId} {sz bytes : Nat} {z : Value} [ht : TSlice P t e sz bytes] [hz : TZero P e z]
    (h : ∀ g w1, w.heap.size ≤ g → g < w1.heap.size → Blk w1 g e [] → Evt (fun _ => False) w w1 → w.heap.size ≤ w1.heap.size → wpList P ops Q rest ⟨(l.set N (.slice (some ⟨g, 0, none⟩) 0 0)).toArray, ds⟩ w1) :
    wpList P ops Q (⟨some N, .buildSlice t 0 #[], ty, pos, aft, none⟩ :: rest) ⟨l.toArray, ds⟩ w :=
  e_sliceLit (vs := []) rfl rfl (fun v hv => by cases hv) (by omega) (fun g w1 h1 h2 hb he hz' => h g w1 h1 h2 hb he hz')
end
end Go.Proofs.YtchfkkliechgoaaE
