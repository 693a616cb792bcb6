/- Step rules for walks: one rule an operation, the world under a name of its own. -/
import Derived.WalkKit
import Derived.KernelRfl
import Derived.Laws.EntriesVeiled
import Derived.Deep.Draws
import Derived.Deep.Quiet
import Derived.BigQuiet
import Derived.Deep.LoopGhost
namespace Go.Proofs.YtchfkkliechgoaaE
open Go.RowKit
set_option linter.unusedSimpArgs false
set_option linter.unusedVariables false

/-! ### frames -/
def lget : List Value → Nat → Value
  | [], _ => undef
  | x :: _, 0 => x
  | _ :: t, n + 1 => lget t n
def ev (l : List Value) : Operand → Value
  | .tmp t => lget l t
  | .const v => v
  | .global g => .pointer (some ⟨g, 0, none⟩)
  | .func f => .func (.func f) #[] #[]
theorem getD_lget (l : List Value) (j : Nat) : l.toArray.getD j undef = lget l j := by
  induction l generalizing j with
  | nil => simp [lget]
  | cons x t ih => cases j with
    | zero => simp [lget]
    | succ n => have := ih n; simp [lget] at this ⊢; exact this
theorem ev_eq (l : List Value) (ds : List Deferred) : Act.eval ⟨l.toArray, ds⟩ = ev l := by
  funext x
  cases x <;> simp [Act.eval, ev, ← getD_lget]

/-! ### blocks that are known whole -/
def Blk (w : World) (g : Nat) (t : TypeId) (cs : List Value) : Prop := w.heap[g]? = some (.cells cs.toArray t (0, 0))
section
variable {w w' : World} {g : Nat} {t : TypeId} {cs : List Value}
theorem Blk.lt (h : Blk w g t cs) : g < w.heap.size := by
  rcases Nat.lt_or_ge g w.heap.size with hlt | hge
  · exact hlt
  · unfold Blk at h; rw [Array.getElem?_eq_none hge] at h; cases h
theorem Blk.cell? (h : Blk w g t cs) (i : Nat) : w.cell? ⟨g, i, none⟩ = cs[i]? := by
  have := cell_of_row w g i cs.toArray t (0, 0) h
  simpa using this
theorem Blk.frozen (h : Blk w g t cs) (i : Nat) : w.frozen? ⟨g, i, none⟩ = false := by
  unfold Blk at h
  simp [World.frozen?, h]
theorem Blk.new (w : World) (t : TypeId) (cs : List Value) : Blk (w.alloc (.cells cs.toArray t)) w.heap.size t cs := heap_alloc_new w _
theorem Blk.drew (h : Blk w g t cs) : Blk w.drew g t cs := h
theorem Blk.drewN (h : Blk w g t cs) (n : Nat) : Blk (w.drewN n) g t cs := h
theorem Blk.alloc (h : Blk w g t cs) (o : Obj) : Blk (w.alloc o) g t cs := (Below.heap_alloc w o g h.lt).trans h
theorem Blk.far (h : Blk w g t cs) {p : Addr} (hp : g ≠ p.block) (u : Value) : Blk (w.setCell p u) g t cs := (Below.heap_setCell w p u g hp).trans h
theorem Blk.below {B : Nat} (h : Blk w g t cs) (hb : Below B w w') (hg : g < B) : Blk w' g t cs := (hb.block g hg).trans h
theorem Blk.up (h : Blk w g t cs) (hb : Below w.heap.size w w') : Blk w' g t cs := h.below hb h.lt
theorem Blk.set_ (h : Blk w g t cs) (i : Nat) (u : Value) : Blk (w.setCell ⟨g, i, none⟩ u) g t (cs.set i u) := by
  unfold Blk at h ⊢
  simp [World.setCell, Array.getElem?_modify, h]
end
theorem lget_some {cs : List Value} {i : Nat} (h : i < cs.length) : cs[i]? = some (lget cs i) := by
  induction cs generalizing i with
  | nil => simp at h
  | cons x t ih => cases i with
    | zero => simp [lget]
    | succ n => simp [lget]; exact ih (by simpa using h)

/-! ### how worlds follow one another -/
structure Evt (S : Nat → Prop) (w w' : World) : Prop where
  os : w'.os = w.os
  tape : w'.tape = w.tape
  output : w'.output = w.output
  size : w.heap.size ≤ w'.heap.size
  block : ∀ k, k < w.heap.size → ¬ S k → w'.heap[k]? = w.heap[k]?
theorem Evt.refl (S : Nat → Prop) (w : World) : Evt S w w := ⟨rfl, rfl, rfl, Nat.le_refl _, fun _ _ _ => rfl⟩
theorem Evt.trans {S : Nat → Prop} {a b c : World} (h : Evt S a b) (k : Evt S b c) : Evt S a c :=
  ⟨k.os.trans h.os, k.tape.trans h.tape, k.output.trans h.output, Nat.le_trans h.size k.size, fun i hi hs => (k.block i (Nat.lt_of_lt_of_le hi h.size) hs).trans (h.block i hi hs)⟩
theorem Evt.mono {S T : Nat → Prop} {a b : World} (h : Evt S a b) (hs : ∀ k, k < a.heap.size → S k → T k) : Evt T a b :=
  ⟨h.os, h.tape, h.output, h.size, fun k hk ht => h.block k hk (fun s => ht (hs k hk s))⟩
theorem Evt.of_below {w w' : World} (h : Below w.heap.size w w') : Evt (fun _ => False) w w' := ⟨h.os, h.tape, h.output, h.size, fun k hk _ => h.block k hk⟩
theorem Evt.below {w w' : World} (h : Evt (fun _ => False) w w') : Below w.heap.size w w' := ⟨h.os, h.tape, h.output, h.size, fun k hk => h.block k hk id⟩
/-! ### single operations -/
/-- The operation yields a value and leaves the world as it is (in every world that came of this one with no old block turned). -/
def Go1 (P : Program) (o : Oper) (l : List Value) (w : World) (K : Value → Prop) : Prop := ∃ v, (∀ w', Evt (fun _ => False) w w' → (execOp (ev l) o).run P w' = .ok (.value v) w') ∧ K v

section
variable {P : Program} {ops : Array Oper} {rest : List Oper} {w w' : World} {Q : Exit → Act → World → Prop} {ty : TypeId} {pos : String} {aft : Array Edge} {l : List Value} {ds : List Deferred} {N : Tmp} {op : Op} {g : Option (Nat × Bool)}

theorem l_step (h : Go1 P ⟨some N, op, ty, pos, aft, none⟩ l w (fun v => wpList P ops Q rest ⟨(l.set N v).toArray, ds⟩ w)) : wpList P ops Q (⟨some N, op, ty, pos, aft, none⟩ :: rest) ⟨l.toArray, ds⟩ w := by
  obtain ⟨v, hr, h⟩ := h
  refine wpList_plain rfl fun K hK => ?_
  unfold Oper.wp
  rw [ev_eq, show (execOp (ev l) ⟨some N, op, ty, pos, aft, none⟩).run P w = .ok (.value v) w from hr w (Evt.refl _ _), Oper.upon_value]
  have := hK _ _ h
  simpa [Act.put] using this
/-- An operation that turns the world. -/
theorem l_event {v : Value} (hr : (execOp (ev l) ⟨some N, op, ty, pos, aft, none⟩).run P w = .ok (.value v) w') (h : wpList P ops Q rest ⟨(l.set N v).toArray, ds⟩ w') : wpList P ops Q (⟨some N, op, ty, pos, aft, none⟩ :: rest) ⟨l.toArray, ds⟩ w := by
  refine wpList_plain rfl fun K hK => ?_
  unfold Oper.wp
  rw [ev_eq, hr, Oper.upon_value]
  have := hK _ _ h
  simpa [Act.put] using this
theorem l_store (hr : (execOp (ev l) ⟨none, op, ty, pos, aft, none⟩).run P w = .ok .skip w') (h : wpList P ops Q rest ⟨l.toArray, ds⟩ w') : wpList P ops Q (⟨none, op, ty, pos, aft, none⟩ :: rest) ⟨l.toArray, ds⟩ w := by
  refine wpList_plain rfl fun K hK => ?_
  unfold Oper.wp
  rw [ev_eq, hr, Oper.upon_skip]
  exact hK _ _ h
theorem l_on {d : Option Tmp} {gi : Nat} {gb : Bool} {a : Act} (hw : Region.wanted ⟨d, op, ty, pos, aft, some (gi, gb)⟩ (yielded ops a.tmps) = true) (h : wpList P ops Q (⟨d, op, ty, pos, aft, none⟩ :: rest) a w) : wpList P ops Q (⟨d, op, ty, pos, aft, some (gi, gb)⟩ :: rest) a w := by
  unfold wpList at h ⊢
  rw [if_pos hw]
  rw [if_pos (by simp [Region.wanted])] at h
  exact h
theorem l_off {gg : Nat × Bool} (hw : Region.wanted ⟨some N, op, ty, pos, aft, some gg⟩ (yielded ops l.toArray) = false) (h : wpList P ops Q rest ⟨(l.set N undef).toArray, ds⟩ w) : wpList P ops Q (⟨some N, op, ty, pos, aft, some gg⟩ :: rest) ⟨l.toArray, ds⟩ w := by
  refine wpList_skip hw ?_
  simpa [Act.put] using h
theorem l_offN {gg : Nat × Bool} (hw : Region.wanted ⟨none, op, ty, pos, aft, some gg⟩ (yielded ops l.toArray) = false) (h : wpList P ops Q rest ⟨l.toArray, ds⟩ w) : wpList P ops Q (⟨none, op, ty, pos, aft, some gg⟩ :: rest) ⟨l.toArray, ds⟩ w := wpList_skip hw h

/-! in a region that draws and only reads -/
theorem q_step {C : Act → Prop} (h : Go1 P ⟨some N, op, ty, pos, aft, none⟩ l w (fun v => wpQuiet P ops (Evt (fun _ => False) w) C rest ⟨(l.set N v).toArray, ds⟩)) : wpQuiet P ops (Evt (fun _ => False) w) C (⟨some N, op, ty, pos, aft, none⟩ :: rest) ⟨l.toArray, ds⟩ := by
  obtain ⟨v, hr, h⟩ := h
  unfold wpQuiet
  rw [if_pos (by simp [Region.wanted])]
  refine ⟨v, ?_, by simpa [Act.put] using h⟩
  intro w' hw'
  unfold Oper.quietAt
  rw [ev_eq, hr w' hw']
  exact ⟨rfl, rfl⟩
theorem q_on {d : Option Tmp} {gi : Nat} {gb : Bool} {a : Act} {C : World → Prop} {D : Act → Prop} (hw : Region.wanted ⟨d, op, ty, pos, aft, some (gi, gb)⟩ (yielded ops a.tmps) = true) (h : wpQuiet P ops C D (⟨d, op, ty, pos, aft, none⟩ :: rest) a) : wpQuiet P ops C D (⟨d, op, ty, pos, aft, some (gi, gb)⟩ :: rest) a := by
  unfold wpQuiet at h ⊢
  rw [if_pos hw]
  rw [if_pos (by simp [Region.wanted])] at h
  exact h
theorem q_off {gg : Nat × Bool} {C : World → Prop} {D : Act → Prop} (hw : Region.wanted ⟨some N, op, ty, pos, aft, some gg⟩ (yielded ops l.toArray) = false) (h : wpQuiet P ops C D rest ⟨(l.set N undef).toArray, ds⟩) : wpQuiet P ops C D (⟨some N, op, ty, pos, aft, some gg⟩ :: rest) ⟨l.toArray, ds⟩ := by
  unfold wpQuiet
  rw [if_neg (by simp [hw])]
  simpa [Act.put] using h
/-- A call in such a region: the callee leaves what was there as it was. -/
theorem q_call {f : FuncId} {as : Array Operand} {ts : Array TypeId} {C : Act → Prop} {args : List Value} (hent : ∀ args w, (callFunc f args).run P w = .ok (.enter f args) w) (hargs : as.toList.map (ev l) = args) {v : Value}
    (hc : ∀ w', Evt (fun _ => False) w w' → Calls P f args.toArray w' fun e w'' => e = .returned v ∧ Evt (fun _ => False) w' w'')
    (h : wpQuiet P ops (Evt (fun _ => False) w) C rest ⟨(l.set N v).toArray, ds⟩) :
    wpQuiet P ops (Evt (fun _ => False) w) C (⟨some N, .call { callee := .value (.func f), args := as, argTypes := ts }, ty, pos, aft, none⟩ :: rest) ⟨l.toArray, ds⟩ := by
  unfold wpQuiet
  rw [if_pos (by simp [Region.wanted])]
  refine ⟨v, ?_, by simpa [Act.put] using h⟩
  intro w' hw'
  unfold Oper.quietAt
  have hrun : (execOp (ev l) ⟨some N, .call { callee := .value (.func f), args := as, argTypes := ts }, ty, pos, aft, none⟩).run P w' = .ok (.enter f args.toArray) w' := by
    have ha : as.map (ev l) = args.toArray := by rw [← hargs]; apply Array.ext'; simp
    unfold execOp
    simp [resolve, Deferred.ofValue, invoke, ha, hent, ev]
  rw [ev_eq, hrun]
  refine ⟨rfl, (hc w' hw').mono ?_⟩
  rintro e w'' ⟨rfl, hw''⟩
  exact ⟨rfl, hw'.trans hw''⟩
/-- A region that draws its order and only reads, where its calls leave what was there as it was: walked once. -/
theorem w_quiet {id : Nat} {a : Act} {lops : List Oper} (hm : P.follows .mixedOrders = true) (hB : Region.lexB .any lops.toArray = true)
    (h : wpQuiet P lops.toArray (Evt (fun _ => False) w) (fun a' => ∀ w', Evt (fun _ => False) w w' → Q .normal a' w') lops a) : (Code.region id lops.toArray true).wp P Q a w :=
  wp_region_quiet (C := Evt (fun _ => False) w) hm hB ⟨rfl, rfl, rfl, Nat.le_refl _, fun _ _ _ => rfl⟩ (by simpa using h)
/-- A call. -/
theorem l_call {f : FuncId} {as : Array Operand} {ts : Array TypeId} {args : List Value} (hent : ∀ args w, (callFunc f args).run P w = .ok (.enter f args) w) (hargs : as.toList.map (ev l) = args)
    (h : Calls P f args.toArray w fun e w' => ∃ v, e = .returned v ∧ wpList P ops Q rest ⟨(l.set N v).toArray, ds⟩ w') :
    wpList P ops Q (⟨some N, .call { callee := .value (.func f), args := as, argTypes := ts }, ty, pos, aft, none⟩ :: rest) ⟨l.toArray, ds⟩ w := by
  refine wpList_plain rfl fun K hK => ?_
  have hrun : (execOp (ev l) ⟨some N, .call { callee := .value (.func f), args := as, argTypes := ts }, ty, pos, aft, none⟩).run P w = .ok (.enter f args.toArray) w := by
    have ha : as.map (ev l) = args.toArray := by rw [← hargs]; apply Array.ext'; simp
    unfold execOp
    simp [resolve, Deferred.ofValue, invoke, ha, hent, ev]
  unfold Oper.wp
  rw [ev_eq, hrun, Oper.upon_enter]
  refine h.mono fun e w'' hh => ?_
  obtain ⟨v, rfl, hk⟩ := hh
  have := hK _ _ hk
  simpa [Act.put] using this
/-- A call whose result is dropped. -/
theorem l_callN {f : FuncId} {as : Array Operand} {ts : Array TypeId} {args : List Value} (hent : ∀ args w, (callFunc f args).run P w = .ok (.enter f args) w) (hargs : as.toList.map (ev l) = args)
    (h : Calls P f args.toArray w fun e w' => ∃ v, e = .returned v ∧ wpList P ops Q rest ⟨l.toArray, ds⟩ w') :
    wpList P ops Q (⟨none, .call { callee := .value (.func f), args := as, argTypes := ts }, ty, pos, aft, none⟩ :: rest) ⟨l.toArray, ds⟩ w := by
  refine wpList_plain rfl fun K hK => ?_
  have hrun : (execOp (ev l) ⟨none, .call { callee := .value (.func f), args := as, argTypes := ts }, ty, pos, aft, none⟩).run P w = .ok (.enter f args.toArray) w := by
    have ha : as.map (ev l) = args.toArray := by rw [← hargs]; apply Array.ext'; simp
    unfold execOp
    simp [resolve, Deferred.ofValue, invoke, ha, hent, ev]
  unfold Oper.wp
  rw [ev_eq, hrun, Oper.upon_enter]
  refine h.mono fun e w'' hh => ?_
  obtain ⟨v, rfl, hk⟩ := hh
  exact hK _ _ hk
/-- A call of a function value. -/
theorem l_callv {j : Tmp} {f : FuncId} {caps : Array Value} {as : Array Operand} {ts : Array TypeId} {args : List Value} (hx : lget l j = .func (.func f) #[] caps) (hent : ∀ args w, (callFunc f args).run P w = .ok (.enter f args) w) (hargs : as.toList.map (ev l) = args)
    (h : Calls P f (args ++ caps.toList).toArray w fun e w' => ∃ v, e = .returned v ∧ wpList P ops Q rest ⟨(l.set N v).toArray, ds⟩ w') :
    wpList P ops Q (⟨some N, .call { callee := .value (.tmp j), args := as, argTypes := ts }, ty, pos, aft, none⟩ :: rest) ⟨l.toArray, ds⟩ w := by
  refine wpList_plain rfl fun K hK => ?_
  have hrun : (execOp (ev l) ⟨some N, .call { callee := .value (.tmp j), args := as, argTypes := ts }, ty, pos, aft, none⟩).run P w = .ok (.enter f (args ++ caps.toList).toArray) w := by
    have ha : as.map (ev l) = args.toArray := by rw [← hargs]; apply Array.ext'; simp
    have he : args.toArray ++ caps = (args ++ caps.toList).toArray := by apply Array.ext'; simp
    unfold execOp
    simp [resolve, Deferred.ofValue, invoke, ha, hent, ev, hx, he]
  unfold Oper.wp
  rw [ev_eq, hrun, Oper.upon_enter]
  refine h.mono fun e w'' hh => ?_
  obtain ⟨v, rfl, hk⟩ := hh
  have := hK _ _ hk
  simpa [Act.put] using this
/-- A function with a body is entered. -/
theorem enters_of {f : FuncId} {fn : Func} (hf : P.funcs[f]? = some fn) (hname : (fn.name == "runtime.NumGoroutine") = false) (hb : fn.body.isSome = true) (args : Array Value) (w : World) :
    (callFunc f args).run P w = .ok (.enter f args) w := by
  have hb' : fn.body ≠ none := by intro h; simp [h] at hb
  have hn' : fn.name ≠ "runtime.NumGoroutine" := by simpa using hname
  simp [callFunc, Sem.run_bind, program, Sem.run, hf, hn', hb']
end
end Go.Proofs.YtchfkkliechgoaaE
