/- Step rules for walks: one rule an operation, the world under a name of its own. -/
import Derived.WalkKit
import Derived.KernelRfl
import Derived.Laws.EntriesVeiled
import Derived.Deep.Draws
import Derived.Deep.Quiet
import Derived.BigQuiet
import Derived.Deep.LoopGhost
import Derived.Maps.AppendAt
import Derived.Laws.Bits64b
import Derived.StillTail
namespace Go.Proofs.YthfnlmedelfbnaaDoorE
open Go.RowKit
set_option linter.unusedSimpArgs false
set_option linter.unusedVariables false

/-! ### frames -/
def lget : List Value → Nat → Value
  | [], _ => undef
  | x :: _, 0 => x
  | _ :: t, n + 1 => lget t n
def ev (l : List Value) : Operand → Value
  | .tmp t => lget l t
  | .const v => v
  | .global g => .pointer (some ⟨g, 0, none⟩)
  | .func f => .func (.func f) #[] #[]
theorem getD_lget (l : List Value) (j : Nat) : l.toArray.getD j undef = lget l j := by
  induction l generalizing j with
  | nil => simp [lget]
  | cons x t ih => cases j with
    | zero => simp [lget]
    | succ n => have := ih n; simp [lget] at this ⊢; exact this
theorem ev_eq (l : List Value) (ds : List Deferred) : Act.eval ⟨l.toArray, ds⟩ = ev l := by
  funext x
  cases x <;> simp [Act.eval, ev, ← getD_lget]

/-! ### blocks that are known whole -/
def Blk (w : World) (g : Nat) (t : TypeId) (cs : List Value) : Prop := w.heap[g]? = some (.cells cs.toArray t (0, 0))
section
variable {w w' : World} {g : Nat} {t : TypeId} {cs : List Value}
theorem Blk.lt (h : Blk w g t cs) : g < w.heap.size := by
  rcases Nat.lt_or_ge g w.heap.size with hlt | hge
  · exact hlt
  · unfold Blk at h; rw [Array.getElem?_eq_none hge] at h; cases h
theorem Blk.cell? (h : Blk w g t cs) (i : Nat) : w.cell? ⟨g, i, none⟩ = cs[i]? := by
  have := cell_of_row w g i cs.toArray t (0, 0) h
  simpa using this
theorem Blk.frozen (h : Blk w g t cs) (i : Nat) : w.frozen? ⟨g, i, none⟩ = false := by
  unfold Blk at h
  simp [World.frozen?, h]
theorem Blk.new (w : World) (t : TypeId) (cs : List Value) : Blk (w.alloc (.cells cs.toArray t)) w.heap.size t cs := heap_alloc_new w _
theorem Blk.drew (h : Blk w g t cs) : Blk w.drew g t cs := h
theorem Blk.drewN (h : Blk w g t cs) (n : Nat) : Blk (w.drewN n) g t cs := h
theorem Blk.alloc (h : Blk w g t cs) (o : Obj) : Blk (w.alloc o) g t cs := (Below.heap_alloc w o g h.lt).trans h
theorem Blk.far (h : Blk w g t cs) {p : Addr} (hp : g ≠ p.block) (u : Value) : Blk (w.setCell p u) g t cs := (Below.heap_setCell w p u g hp).trans h
theorem Blk.below {B : Nat} (h : Blk w g t cs) (hb : Below B w w') (hg : g < B) : Blk w' g t cs := (hb.block g hg).trans h
theorem Blk.up (h : Blk w g t cs) (hb : Below w.heap.size w w') : Blk w' g t cs := h.below hb h.lt
theorem Blk.set_ (h : Blk w g t cs) (i : Nat) (u : Value) : Blk (w.setCell ⟨g, i, none⟩ u) g t (cs.set i u) := by
  unfold Blk at h ⊢
  simp [World.setCell, Array.getElem?_modify, h]
end
theorem lget_some {cs : List Value} {i : Nat} (h : i < cs.length) : cs[i]? = some (lget cs i) := by
  induction cs generalizing i with
  | nil => simp at h
  | cons x t ih => cases i with
    | zero => simp [lget]
    | succ n => simp [lget]; exact ih (by simpa using h)

/-! ### how worlds follow one another -/
structure Evt (S : Nat → Prop) (w w' : World) : Prop where
  os : w'.os = w.os
  tape : w'.tape = w.tape
  output : w'.output = w.output
  size : w.heap.size ≤ w'.heap.size
  block : ∀ k, k < w.heap.size → ¬ S k → w'.heap[k]? = w.heap[k]?
theorem Evt.refl (S : Nat → Prop) (w : World) : Evt S w w := ⟨rfl, rfl, rfl, Nat.le_refl _, fun _ _ _ => rfl⟩
theorem Evt.trans {S : Nat → Prop} {a b c : World} (h : Evt S a b) (k : Evt S b c) : Evt S a c :=
  ⟨k.os.trans h.os, k.tape.trans h.tape, k.output.trans h.output, Nat.le_trans h.size k.size, fun i hi hs => (k.block i (Nat.lt_of_lt_of_le hi h.size) hs).trans (h.block i hi hs)⟩
theorem Evt.mono {S T : Nat → Prop} {a b : World} (h : Evt S a b) (hs : ∀ k, k < a.heap.size → S k → T k) : Evt T a b :=
  ⟨h.os, h.tape, h.output, h.size, fun k hk ht => h.block k hk (fun s => ht (hs k hk s))⟩
theorem Evt.of_below {w w' : World} (h : Below w.heap.size w w') : Evt (fun _ => False) w w' := ⟨h.os, h.tape, h.output, h.size, fun k hk _ => h.block k hk⟩
theorem Evt.below {w w' : World} (h : Evt (fun _ => False) w w') : Below w.heap.size w w' := ⟨h.os, h.tape, h.output, h.size, fun k hk => h.block k hk id⟩
/-! ### single operations -/
/-- The operation yields a value and leaves the world as it is (in every world that came of this one with no old block turned). -/
def Go1 (P : Program) (o : Oper) (l : List Value) (w : World) (K : Value → Prop) : Prop := ∃ v, (∀ w', Evt (fun _ => False) w w' → (execOp (ev l) o).run P w' = .ok (.value v) w') ∧ K v

section
variable {P : Program} {ops : Array Oper} {rest : List Oper} {w w' : World} {Q : Exit → Act → World → Prop} {ty : TypeId} {pos : String} {aft : Array Edge} {l : List Value} {ds : List Deferred} {N : Tmp} {op : Op} {g : Option (Nat × Bool)}

theorem l_step (h : Go1 P ⟨some N, op, ty, pos, aft, none⟩ l w (fun v => wpList P ops Q rest ⟨(l.set N v).toArray, ds⟩ w)) : wpList P ops Q (⟨some N, op, ty, pos, aft, none⟩ :: rest) ⟨l.toArray, ds⟩ w := by
  obtain ⟨v, hr, h⟩ := h
  refine wpList_plain rfl fun K hK => ?_
  unfold Oper.wp
  rw [ev_eq, show (execOp (ev l) ⟨some N, op, ty, pos, aft, none⟩).run P w = .ok (.value v) w from hr w (Evt.refl _ _), Oper.upon_value]
  have := hK _ _ h
  simpa [Act.put] using this
/-- An operation that turns the world. -/
theorem l_event {v : Value} (hr : (execOp (ev l) ⟨some N, op, ty, pos, aft, none⟩).run P w = .ok (.value v) w') (h : wpList P ops Q rest ⟨(l.set N v).toArray, ds⟩ w') : wpList P ops Q (⟨some N, op, ty, pos, aft, none⟩ :: rest) ⟨l.toArray, ds⟩ w := by
  refine wpList_plain rfl fun K hK => ?_
  unfold Oper.wp
  rw [ev_eq, hr, Oper.upon_value]
  have := hK _ _ h
  simpa [Act.put] using this
theorem l_store (hr : (execOp (ev l) ⟨none, op, ty, pos, aft, none⟩).run P w = .ok .skip w') (h : wpList P ops Q rest ⟨l.toArray, ds⟩ w') : wpList P ops Q (⟨none, op, ty, pos, aft, none⟩ :: rest) ⟨l.toArray, ds⟩ w := by
  refine wpList_plain rfl fun K hK => ?_
  unfold Oper.wp
  rw [ev_eq, hr, Oper.upon_skip]
  exact hK _ _ h
theorem l_on {d : Option Tmp} {gi : Nat} {gb : Bool} {a : Act} (hw : Region.wanted ⟨d, op, ty, pos, aft, some (gi, gb)⟩ (yielded ops a.tmps) = true) (h : wpList P ops Q (⟨d, op, ty, pos, aft, none⟩ :: rest) a w) : wpList P ops Q (⟨d, op, ty, pos, aft, some (gi, gb)⟩ :: rest) a w := by
  unfold wpList at h ⊢
  rw [if_pos hw]
  rw [if_pos (by simp [Region.wanted])] at h
  exact h
theorem l_off {gg : Nat × Bool} (hw : Region.wanted ⟨some N, op, ty, pos, aft, some gg⟩ (yielded ops l.toArray) = false) (h : wpList P ops Q rest ⟨(l.set N undef).toArray, ds⟩ w) : wpList P ops Q (⟨some N, op, ty, pos, aft, some gg⟩ :: rest) ⟨l.toArray, ds⟩ w := by
  refine wpList_skip hw ?_
  simpa [Act.put] using h
theorem l_offN {gg : Nat × Bool} (hw : Region.wanted ⟨none, op, ty, pos, aft, some gg⟩ (yielded ops l.toArray) = false) (h : wpList P ops Q rest ⟨l.toArray, ds⟩ w) : wpList P ops Q (⟨none, op, ty, pos, aft, some gg⟩ :: rest) ⟨l.toArray, ds⟩ w := wpList_skip hw h

/-! in a region that draws and only reads -/
theorem q_step {C : Act → Prop} (h : Go1 P ⟨some N, op, ty, pos, aft, none⟩ l w (fun v => wpQuiet P ops (Evt (fun _ => False) w) C rest ⟨(l.set N v).toArray, ds⟩)) : wpQuiet P ops (Evt (fun _ => False) w) C (⟨some N, op, ty, pos, aft, none⟩ :: rest) ⟨l.toArray, ds⟩ := by
  obtain ⟨v, hr, h⟩ := h
  unfold wpQuiet
  rw [if_pos (by simp [Region.wanted])]
  refine ⟨v, ?_, by simpa [Act.put] using h⟩
  intro w' hw'
  unfold Oper.quietAt
  rw [ev_eq, hr w' hw']
  exact ⟨rfl, rfl⟩
theorem q_on {d : Option Tmp} {gi : Nat} {gb : Bool} {a : Act} {C : World → Prop} {D : Act → Prop} (hw : Region.wanted ⟨d, op, ty, pos, aft, some (gi, gb)⟩ (yielded ops a.tmps) = true) (h : wpQuiet P ops C D (⟨d, op, ty, pos, aft, none⟩ :: rest) a) : wpQuiet P ops C D (⟨d, op, ty, pos, aft, some (gi, gb)⟩ :: rest) a := by
  unfold wpQuiet at h ⊢
  rw [if_pos hw]
  rw [if_pos (by simp [Region.wanted])] at h
  exact h
theorem q_off {gg : Nat × Bool} {C : World → Prop} {D : Act → Prop} (hw : Region.wanted ⟨some N, op, ty, pos, aft, some gg⟩ (yielded ops l.toArray) = false) (h : wpQuiet P ops C D rest ⟨(l.set N undef).toArray, ds⟩) : wpQuiet P ops C D (⟨some N, op, ty, pos, aft, some gg⟩ :: rest) ⟨l.toArray, ds⟩ := by
  unfold wpQuiet
  rw [if_neg (by simp [hw])]
  simpa [Act.put] using h
/-- A call in such a region: the callee leaves what was there as it was. -/
theorem q_call {f : FuncId} {as : Array Operand} {ts : Array TypeId} {C : Act → Prop} {args : List Value} (hent : ∀ args w, (callFunc f args).run P w = .ok (.enter f args) w) (hargs : as.toList.map (ev l) = args) {v : Value}
    (hc : ∀ w', Evt (fun _ => False) w w' → Calls P f args.toArray w' fun e w'' => e = .returned v ∧ Evt (fun _ => False) w' w'')
    (h : wpQuiet P ops (Evt (fun _ => False) w) C rest ⟨(l.set N v).toArray, ds⟩) :
    wpQuiet P ops (Evt (fun _ => False) w) C (⟨some N, .call { callee := .value (.func f), args := as, argTypes := ts }, ty, pos, aft, none⟩ :: rest) ⟨l.toArray, ds⟩ := by
  unfold wpQuiet
  rw [if_pos (by simp [Region.wanted])]
  refine ⟨v, ?_, by simpa [Act.put] using h⟩
  intro w' hw'
  unfold Oper.quietAt
  have hrun : (execOp (ev l) ⟨some N, .call { callee := .value (.func f), args := as, argTypes := ts }, ty, pos, aft, none⟩).run P w' = .ok (.enter f args.toArray) w' := by
    have ha : as.map (ev l) = args.toArray := by rw [← hargs]; apply Array.ext'; simp
    unfold execOp
    simp [resolve, Deferred.ofValue, invoke, ha, hent, ev]
  rw [ev_eq, hrun]
  refine ⟨rfl, (hc w' hw').mono ?_⟩
  rintro e w'' ⟨rfl, hw''⟩
  exact ⟨rfl, hw'.trans hw''⟩
/-- A region that draws its order and only reads, where its calls leave what was there as it was: walked once. -/
theorem w_quiet {id : Nat} {a : Act} {lops : List Oper} (hm : P.follows .mixedOrders = true) (hB : Region.lexB .any lops.toArray = true)
    (h : wpQuiet P lops.toArray (Evt (fun _ => False) w) (fun a' => ∀ w', Evt (fun _ => False) w w' → Q .normal a' w') lops a) : (Code.region id lops.toArray true).wp P Q a w :=
  wp_region_quiet (C := Evt (fun _ => False) w) hm hB ⟨rfl, rfl, rfl, Nat.le_refl _, fun _ _ _ => rfl⟩ (by simpa using h)
/-- A call. -/
theorem l_call {f : FuncId} {as : Array Operand} {ts : Array TypeId} {args : List Value} (hent : ∀ args w, (callFunc f args).run P w = .ok (.enter f args) w) (hargs : as.toList.map (ev l) = args)
    (h : Calls P f args.toArray w fun e w' => ∃ v, e = .returned v ∧ wpList P ops Q rest ⟨(l.set N v).toArray, ds⟩ w') :
    wpList P ops Q (⟨some N, .call { callee := .value (.func f), args := as, argTypes := ts }, ty, pos, aft, none⟩ :: rest) ⟨l.toArray, ds⟩ w := by
  refine wpList_plain rfl fun K hK => ?_
  have hrun : (execOp (ev l) ⟨some N, .call { callee := .value (.func f), args := as, argTypes := ts }, ty, pos, aft, none⟩).run P w = .ok (.enter f args.toArray) w := by
    have ha : as.map (ev l) = args.toArray := by rw [← hargs]; apply Array.ext'; simp
    unfold execOp
    simp [resolve, Deferred.ofValue, invoke, ha, hent, ev]
  unfold Oper.wp
  rw [ev_eq, hrun, Oper.upon_enter]
  refine h.mono fun e w'' hh => ?_
  obtain ⟨v, rfl, hk⟩ := hh
  have := hK _ _ hk
  simpa [Act.put] using this
/-- A call whose result is dropped. -/
theorem l_callN {f : FuncId} {as : Array Operand} {ts : Array TypeId} {args : List Value} (hent : ∀ args w, (callFunc f args).run P w = .ok (.enter f args) w) (hargs : as.toList.map (ev l) = args)
    (h : Calls P f args.toArray w fun e w' => ∃ v, e = .returned v ∧ wpList P ops Q rest ⟨l.toArray, ds⟩ w') :
    wpList P ops Q (⟨none, .call { callee := .value (.func f), args := as, argTypes := ts }, ty, pos, aft, none⟩ :: rest) ⟨l.toArray, ds⟩ w := by
  refine wpList_plain rfl fun K hK => ?_
  have hrun : (execOp (ev l) ⟨none, .call { callee := .value (.func f), args := as, argTypes := ts }, ty, pos, aft, none⟩).run P w = .ok (.enter f args.toArray) w := by
    have ha : as.map (ev l) = args.toArray := by rw [← hargs]; apply Array.ext'; simp
    unfold execOp
    simp [resolve, Deferred.ofValue, invoke, ha, hent, ev]
  unfold Oper.wp
  rw [ev_eq, hrun, Oper.upon_enter]
  refine h.mono fun e w'' hh => ?_
  obtain ⟨v, rfl, hk⟩ := hh
  exact hK _ _ hk
/-- A call of a function value. -/
theorem l_callv {j : Tmp} {f : FuncId} {caps : Array Value} {as : Array Operand} {ts : Array TypeId} {args : List Value} (hx : lget l j = .func (.func f) #[] caps) (hent : ∀ args w, (callFunc f args).run P w = .ok (.enter f args) w) (hargs : as.toList.map (ev l) = args)
    (h : Calls P f (args ++ caps.toList).toArray w fun e w' => ∃ v, e = .returned v ∧ wpList P ops Q rest ⟨(l.set N v).toArray, ds⟩ w') :
    wpList P ops Q (⟨some N, .call { callee := .value (.tmp j), args := as, argTypes := ts }, ty, pos, aft, none⟩ :: rest) ⟨l.toArray, ds⟩ w := by
  refine wpList_plain rfl fun K hK => ?_
  have hrun : (execOp (ev l) ⟨some N, .call { callee := .value (.tmp j), args := as, argTypes := ts }, ty, pos, aft, none⟩).run P w = .ok (.enter f (args ++ caps.toList).toArray) w := by
    have ha : as.map (ev l) = args.toArray := by rw [← hargs]; apply Array.ext'; simp
    have he : args.toArray ++ caps = (args ++ caps.toList).toArray := by apply Array.ext'; simp
    unfold execOp
    simp [resolve, Deferred.ofValue, invoke, ha, hent, ev, hx, he]
  unfold Oper.wp
  rw [ev_eq, hrun, Oper.upon_enter]
  refine h.mono fun e w'' hh => ?_
  obtain ⟨v, rfl, hk⟩ := hh
  have := hK _ _ hk
  simpa [Act.put] using this
/-- A function with a body is entered. -/
theorem enters_of {f : FuncId} {fn : Func} (hf : P.funcs[f]? = some fn) (hname : (fn.name == "runtime.NumGoroutine") = false) (hb : fn.body.isSome = true) (args : Array Value) (w : World) :
    (callFunc f args).run P w = .ok (.enter f args) w := by
  have hb' : fn.body ≠ none := by intro h; simp [h] at hb
  have hn' : fn.name ≠ "runtime.NumGoroutine" := by simpa using hname
  simp [callFunc, Sem.run_bind, program, Sem.run, hf, hn', hb']
end
end Go.Proofs.YthfnlmedelfbnaaDoorE
namespace Go.Proofs.YthfnlmedelfbnaaDoorE
open Go.RowKit
set_option linter.unusedSimpArgs false
set_option linter.unusedVariables false

/-! ### what is known of types and functions -/
def fsz (os : List Nat) (n i : Nat) : Nat := (os[i + 1]?).getD n - (os[i]?).getD 0
def structB (P : Program) (t : TypeId) (os : List Nat) (n : Nat) : Bool :=
  (match P.underlying t with
   | some (.struct fs) => fs.size == os.length && (List.range fs.size).all fun i => match fs[i]?, os[i]? with
      | some f, some off => f.offset == off && (match P.info? f.type with | some inf => inf.size != 0 && inf.size == fsz os n i | none => false)
      | _, _ => false
   | _ => false) && (match P.info? t with | some inf => inf.size == n | none => false)
class TStruct (P : Program) (t : TypeId) (os : outParam (List Nat)) (n : outParam Nat) : Prop where
  ok : structB P t os n = true
def scalB (P : Program) (t : TypeId) : Bool := match P.underlying t with | some (.struct _) | some (.array _ _) | none => false | _ => (match P.info? t with | some inf => inf.size == 1 | none => false)
class TScal (P : Program) (t : TypeId) : Prop where
  ok : scalB P t = true
class TZero (P : Program) (t : TypeId) (z : outParam Value) : Prop where
  ok : (P.info? t).map (·.zero) = some (some z)
class TSlice (P : Program) (t : TypeId) (e : outParam TypeId) (sz bytes : outParam Nat) : Prop where
  ok : P.underlying t = some (.slice e)
  info : (P.info? e).map (fun i => (i.size, i.bytes)) = some (sz, bytes)
class TInt (P : Program) (t : TypeId) (k : outParam IntKind) : Prop where
  ok : P.underlying t = some (.int k)
class TBool (P : Program) (t : TypeId) : Prop where
  ok : P.underlying t = some .bool
class TStr (P : Program) (t : TypeId) : Prop where
  ok : P.underlying t = some .string
class TFn (P : Program) (f : FuncId) : Prop where
  ent : ∀ args w, (callFunc f args).run P w = .ok (.enter f args) w

/-- One step more, on what an elder world is. -/
theorem Evt.next {S T : Nat → Prop} {a b c : World} (k : Evt T b c) (h : Evt S a b) (hs : ∀ i, i < a.heap.size → T i → S i) : Evt S a c :=
  ⟨k.os.trans h.os, k.tape.trans h.tape, k.output.trans h.output, Nat.le_trans h.size k.size, fun i hi hn => (k.block i (Nat.lt_of_lt_of_le hi h.size) (fun t => hn (hs i hi t))).trans (h.block i hi hn)⟩
theorem Evt.drewN {S : Nat → Prop} (w : World) (n : Nat) : Evt S w (w.drewN n) := ⟨rfl, rfl, rfl, Nat.le_refl _, fun _ _ _ => rfl⟩
theorem Evt.alloc {S : Nat → Prop} (w : World) (o : Obj) : Evt S w (w.alloc o) := ⟨rfl, rfl, rfl, by simp, fun k hk _ => Below.heap_alloc _ _ _ hk⟩
theorem Evt.setCell (w : World) (a : Addr) (v : Value) : Evt (· = a.block) w (w.setCell a v) := ⟨rfl, rfl, rfl, by simp [World.setCell], fun k _ hs => Below.heap_setCell _ _ _ _ hs⟩
theorem Blk.evt {S : Nat → Prop} {w w' : World} {g : Nat} {t : TypeId} {cs : List Value} (he : Evt S w w') (h : Blk w g t cs) (hs : ¬ S g) : Blk w' g t cs := (he.block g h.lt hs).trans h
theorem cell_evt {S : Nat → Prop} {w w' : World} {a : Addr} {v : Value} (he : Evt S w w') (h : w.cell? a = some v) (hs : ¬ S a.block) : w'.cell? a = some v :=
  (World.cell?_of_block (he.block a.block (World.block_lt_of_cell? w a h) hs)).trans h

section
variable {P : Program} {w : World} {ty : TypeId} {pos : String} {aft : Array Edge} {l : List Value} {d : Option Tmp} {g : Option (Nat × Bool)} {K : Value → Prop}

theorem TStruct.und {t : TypeId} {os : List Nat} {n : Nat} (h : TStruct P t os n) : ∃ fs, P.underlying t = some (.struct fs) ∧ (P.info? t).map (·.size) = some n ∧ ∀ (i off : Nat), os[i]? = some off → ∃ f inf, fs[i]? = some f ∧ P.info? f.type = some inf ∧ inf.size ≠ 0 ∧ f.offset = off ∧ inf.size = fsz os n i := by
  have hk := h.ok
  unfold structB at hk
  rw [Bool.and_eq_true] at hk
  obtain ⟨h1, h2⟩ := hk
  split at h1
  · rename_i fs hu
    refine ⟨fs, hu, ?_, fun i off hi => ?_⟩
    · cases hq : P.info? t with
      | none => simp [hq] at h2
      | some inf => simp [hq] at h2; simp [h2]
    · simp only [Bool.and_eq_true, beq_iff_eq] at h1
      have hlt : i < fs.size := by rw [h1.1]; exact (List.getElem?_eq_some_iff.1 hi).1
      have := List.all_eq_true.1 h1.2 i (List.mem_range.2 hlt)
      rw [hi, Array.getElem?_eq_getElem hlt] at this
      simp only [Bool.and_eq_true, beq_iff_eq] at this
      cases hq : P.info? fs[i].type with
      | none => simp [hq] at this
      | some inf =>
        simp [hq] at this
        exact ⟨fs[i], inf, Array.getElem?_eq_getElem hlt, hq, this.2.1, this.1, this.2.2⟩
  · simp at h1
theorem run_sizeOf {t : TypeId} {n : Nat} (h : (P.info? t).map (·.size) = some n) (w : World) : (sizeOf t).run P w = .ok n w := by
  cases hq : P.info? t with
  | none => simp [hq] at h
  | some inf =>
    have : inf.size = n := by simpa [hq] using h
    simp [sizeOf, typeInfo, program, Sem.run_bind, Sem.run, hq, this]
theorem run_isAgg_struct {t : TypeId} {os : List Nat} {n : Nat} (h : TStruct P t os n) (w : World) : (isAgg t).run P w = .ok true w := by
  obtain ⟨fs, hu, _⟩ := h.und
  simp [isAgg, Sem.run_bind, run_underlying hu]
theorem run_isAgg_scal {t : TypeId} (h : TScal P t) (w : World) : (isAgg t).run P w = .ok false w := by
  have hk := h.ok
  unfold scalB at hk
  cases hq : P.underlying t with
  | none => simp [hq] at hk
  | some dd => cases dd <;> simp_all [isAgg, Sem.run_bind, run_underlying hq]
theorem run_sizeOf_scal {t : TypeId} (h : TScal P t) (w : World) : (sizeOf t).run P w = .ok 1 w := by
  have hk := h.ok
  unfold scalB at hk
  refine run_sizeOf ?_ w
  cases hq : P.info? t with
  | none => rw [hq] at hk; cases hu : P.underlying t with
    | none => simp [hu] at hk
    | some dd => cases dd <;> simp [hu] at hk
  | some inf => rw [hq] at hk; cases hu : P.underlying t with
    | none => simp [hu] at hk
    | some dd => cases dd <;> simp [hu] at hk <;> simp [hk]

theorem g_move {x : Operand} (h : K (ev l x)) : Go1 P ⟨d, .move x, ty, pos, aft, g⟩ l w K := ⟨_, fun n _ => by simp [execOp, go_sem], h⟩
theorem g_assign {x : Operand} (h : K (ev l x)) : Go1 P ⟨d, .assign x, ty, pos, aft, g⟩ l w K := ⟨_, fun n _ => by simp [execOp, go_sem], h⟩
theorem g_pickT {x y z : Operand} (hc : ev l x = .bool true) (h : K (ev l y)) : Go1 P ⟨d, .pick x y z, ty, pos, aft, g⟩ l w K := ⟨_, fun n _ => by simp [execOp, hc, go_sem], h⟩
theorem g_pickF {x y z : Operand} (hc : ev l x = .bool false) (h : K (ev l z)) : Go1 P ⟨d, .pick x y z, ty, pos, aft, g⟩ l w K := ⟨_, fun n _ => by simp [execOp, hc, go_sem], h⟩

section
variable {t u : TypeId} {x y : Operand} {k : IntKind} {a b : Int} (hx : ev l x = .int k a) (hy : ev l y = .int k b)
include hx hy
theorem g_add (h : K (.int k (k.wrap (a + b)))) : Go1 P ⟨d, .binOp .add t x y u, ty, pos, aft, g⟩ l w K := ⟨_, fun n _ => by simp [execOp, hx, hy, go_sem], h⟩
theorem g_sub (h : K (.int k (k.wrap (a - b)))) : Go1 P ⟨d, .binOp .sub t x y u, ty, pos, aft, g⟩ l w K := ⟨_, fun n _ => by simp [execOp, hx, hy, go_sem], h⟩
theorem g_mul (h : K (.int k (k.wrap (a * b)))) : Go1 P ⟨d, .binOp .mul t x y u, ty, pos, aft, g⟩ l w K := ⟨_, fun n _ => by simp [execOp, hx, hy, go_sem], h⟩
theorem g_lss (h1 : a < b → K (.bool true)) (h2 : b ≤ a → K (.bool false)) : Go1 P ⟨d, .binOp .lss t x y u, ty, pos, aft, g⟩ l w K := by
  by_cases c : a < b
  · exact ⟨_, fun n _ => by simp [execOp, hx, hy, go_sem]; exact c, h1 c⟩
  · exact ⟨_, fun n _ => by simp [execOp, hx, hy, go_sem]; omega, h2 (by omega)⟩
theorem g_leq (h1 : a ≤ b → K (.bool true)) (h2 : b < a → K (.bool false)) : Go1 P ⟨d, .binOp .leq t x y u, ty, pos, aft, g⟩ l w K := by
  by_cases c : a ≤ b
  · exact ⟨_, fun n _ => by simp [execOp, hx, hy, go_sem]; exact c, h1 c⟩
  · exact ⟨_, fun n _ => by simp [execOp, hx, hy, go_sem]; omega, h2 (by omega)⟩
theorem g_gtr (h1 : b < a → K (.bool true)) (h2 : a ≤ b → K (.bool false)) : Go1 P ⟨d, .binOp .gtr t x y u, ty, pos, aft, g⟩ l w K := by
  by_cases c : b < a
  · exact ⟨_, fun n _ => by simp [execOp, hx, hy, go_sem]; exact c, h1 c⟩
  · exact ⟨_, fun n _ => by simp [execOp, hx, hy, go_sem]; omega, h2 (by omega)⟩
theorem g_geq (h1 : b ≤ a → K (.bool true)) (h2 : a < b → K (.bool false)) : Go1 P ⟨d, .binOp .geq t x y u, ty, pos, aft, g⟩ l w K := by
  by_cases c : b ≤ a
  · exact ⟨_, fun n _ => by simp [execOp, hx, hy, go_sem]; exact c, h1 c⟩
  · exact ⟨_, fun n _ => by simp [execOp, hx, hy, go_sem]; omega, h2 (by omega)⟩
theorem g_eql (h1 : a = b → K (.bool true)) (h2 : a ≠ b → K (.bool false)) : Go1 P ⟨d, .binOp .eql t x y u, ty, pos, aft, g⟩ l w K := by
  by_cases c : a = b
  · exact ⟨_, fun n _ => by simp [execOp, hx, hy, go_sem]; exact c, h1 c⟩
  · exact ⟨_, fun n _ => by simp [execOp, hx, hy, go_sem]; exact c, h2 c⟩
theorem g_neq (h1 : a ≠ b → K (.bool true)) (h2 : a = b → K (.bool false)) : Go1 P ⟨d, .binOp .neq t x y u, ty, pos, aft, g⟩ l w K := by
  by_cases c : a = b
  · exact ⟨_, fun n _ => by simp [execOp, hx, hy, go_sem]; exact c, h2 c⟩
  · exact ⟨_, fun n _ => by simp [execOp, hx, hy, go_sem]; exact c, h1 c⟩
end
section
variable {t u : TypeId} {x y : Operand} {a b : Int} (hx : ev l x = .int .i64 a) (hy : ev l y = .int .i64 b)
include hx hy
theorem g_addN (h0 : -9223372036854775808 ≤ a + b) (h1 : a + b ≤ 9223372036854775807) (h : K (.int .i64 (a + b))) : Go1 P ⟨d, .binOp .add t x y u, ty, pos, aft, g⟩ l w K :=
  g_add hx hy (by rw [IntWalk.i64_in _ (by omega)]; exact h)
theorem g_subN (h0 : -9223372036854775808 ≤ a - b) (h1 : a - b ≤ 9223372036854775807) (h : K (.int .i64 (a - b))) : Go1 P ⟨d, .binOp .sub t x y u, ty, pos, aft, g⟩ l w K :=
  g_sub hx hy (by rw [IntWalk.i64_in _ (by omega)]; exact h)
theorem g_mulN (h0 : -9223372036854775808 ≤ a * b) (h1 : a * b ≤ 9223372036854775807) (h : K (.int .i64 (a * b))) : Go1 P ⟨d, .binOp .mul t x y u, ty, pos, aft, g⟩ l w K :=
  g_mul hx hy (by rw [IntWalk.i64_in _ (by omega)]; exact h)
end
section
variable {t u : TypeId} {x y : Operand} {a b : Bool} (hx : ev l x = .bool a) (hy : ev l y = .bool b) [ht : TBool P t]
include hx hy ht
theorem g_eqlB (h1 : a = b → K (.bool true)) (h2 : a ≠ b → K (.bool false)) : Go1 P ⟨d, .binOp .eql t x y u, ty, pos, aft, g⟩ l w K := by
  by_cases c : a = b
  · exact ⟨_, fun n _ => by simp [execOp, hx, hy, go_sem, run_eql_bool _ t _ _ ht.ok, c], h1 c⟩
  · exact ⟨_, fun n _ => by simp [execOp, hx, hy, go_sem, run_eql_bool _ t _ _ ht.ok, c], h2 c⟩
theorem g_neqB (h1 : a ≠ b → K (.bool true)) (h2 : a = b → K (.bool false)) : Go1 P ⟨d, .binOp .neq t x y u, ty, pos, aft, g⟩ l w K := by
  by_cases c : a = b
  · exact ⟨_, fun n _ => by simp [execOp, hx, hy, go_sem, run_neq_bool _ t _ _ ht.ok, c], h2 c⟩
  · exact ⟨_, fun n _ => by simp [execOp, hx, hy, go_sem, run_neq_bool _ t _ _ ht.ok, c], h1 c⟩
end
theorem g_notT {t : TypeId} {x : Operand} (hx : ev l x = .bool true) (h : K (.bool false)) : Go1 P ⟨d, .unOp .not t x, ty, pos, aft, g⟩ l w K := ⟨_, fun n _ => by simp [execOp, hx, go_sem], h⟩
theorem g_notF {t : TypeId} {x : Operand} (hx : ev l x = .bool false) (h : K (.bool true)) : Go1 P ⟨d, .unOp .not t x, ty, pos, aft, g⟩ l w K := ⟨_, fun n _ => by simp [execOp, hx, go_sem], h⟩
theorem g_convInt {s t : TypeId} {x : Operand} {k k' k2 : IntKind} {a : Int} (hx : ev l x = .int k2 a) [hs : TInt P s k] [ht : TInt P t k'] (h : K (.int k' (k'.wrap a))) : Go1 P ⟨d, .convert s t x, ty, pos, aft, g⟩ l w K :=
  ⟨_, fun n _ => by simp [execOp, hx, go_sem, hs.ok, ht.ok], h⟩
theorem g_extract {x : Operand} {i : Nat} {vs : List Value} {v : Value} (hx : ev l x = .tuple vs.toArray) (hv : vs[i]? = some v) (h : K v) : Go1 P ⟨d, .extract x i, ty, pos, aft, g⟩ l w K :=
  ⟨v, fun n _ => by simp [execOp, hx, go_sem, Instr.extract, hv], h⟩
theorem g_nilCheckP {x : Operand} {a : Addr} (hx : ev l x = .pointer (some a)) (h : K (.pointer (some a))) : Go1 P ⟨d, .nilCheck x, ty, pos, aft, g⟩ l w K := ⟨_, fun n _ => by simp [execOp, hx, go_sem], h⟩
theorem add_off (b o k : Nat) : (⟨b, o, none⟩ : Addr).add k = ⟨b, o + k, none⟩ := by unfold Addr.add; split <;> simp_all
theorem g_fieldAddr {t : TypeId} {x : Operand} {i : Nat} {b o off n : Nat} {os : List Nat} (hx : ev l x = .pointer (some ⟨b, o, none⟩)) [ht : TStruct P t os n] (ho : os[i]? = some off)
    (h : K (.pointer (some ⟨b, o + off, none⟩))) : Go1 P ⟨d, .fieldAddr t x i, ty, pos, aft, g⟩ l w K := by
  obtain ⟨fs, hu, _, hf⟩ := ht.und
  obtain ⟨f, inf, hfi, hinf, hsz, rfl, _⟩ := hf i off ho
  refine ⟨_, fun w' hw' => ?_, h⟩
  have hs : (sizeOf f.type).run P w' = .ok inf.size w' := run_sizeOf (by simp [hinf]) _
  simp [execOp, hx, Instr.fieldAt, Instr.sureAddr, Sem.run_bind, run_underlying hu, hfi, fieldPlace, hs, hsz, add_off]
theorem g_field {t : TypeId} {x : Operand} {i off n : Nat} {os : List Nat} {cs : List Value} {v : Value} (hx : ev l x = .agg cs.toArray) [ht : TStruct P t os n] (ho : os[i]? = some off)
    (hv : ∀ f fs, P.underlying t = some (.struct fs) → fs[i]? = some f → ∀ w, (part f.type cs.toArray off).run P w = .ok v w)
    (h : K v) : Go1 P ⟨d, .field t x i, ty, pos, aft, g⟩ l w K := by
  obtain ⟨fs, hu, _, hf⟩ := ht.und
  obtain ⟨f, inf, hfi, hinf, hsz, rfl, _⟩ := hf i off ho
  refine ⟨v, fun w' hw' => ?_, h⟩
  simp [execOp, hx, Instr.field, asAgg, Sem.run_bind, run_underlying hu, hfi, hv f fs hu hfi]
theorem g_indexAddr {t e : TypeId} {x y : Operand} {i : Int} {b o n c sz bytes : Nat} (hx : ev l x = .slice (some ⟨b, o, none⟩) n c) (hy : ev l y = .int .i64 i) [ht : TSlice P t e sz bytes] (h0 : 0 ≤ i) (h1 : i < n)
    (h : K (.pointer (some ⟨b, o + i.toNat * sz, none⟩))) : Go1 P ⟨d, .indexAddr t x y, ty, pos, aft, g⟩ l w K := by
  refine ⟨_, fun w' hw' => ?_, h⟩
  have hs : ∀ w, (sizeOf e).run P w = .ok sz w := fun w => run_sizeOf (by have := ht.info; cases hq : P.info? e <;> simp_all) w
  simp [execOp, hx, hy, go_sem, ht.ok, hs, h0, h1]
theorem g_loadC {t : TypeId} {x : Operand} {a : Addr} {v : Value} (hx : ev l x = .pointer (some a)) [ht : TScal P t] (hc : w.cell? a = some v) (h : K v) : Go1 P ⟨d, .load t x, ty, pos, aft, g⟩ l w K := by
  refine ⟨v, fun w' hw' => ?_, h⟩
  have hc' : w'.cell? a = some v := cell_evt hw' hc id
  have := run_isAgg_scal ht w'
  simp [execOp, hx, Instr.loadAt, Instr.sureAddr, loadVar, Sem.run_bind, this, load, Sem.run, hc']
theorem g_loadB {t t' : TypeId} {x : Operand} {b o : Nat} {v : Value} {cs : List Value} (hx : ev l x = .pointer (some ⟨b, o, none⟩)) [ht : TScal P t] (hb : Blk w b t' cs) (hc : cs[o]? = some v) (h : K v) : Go1 P ⟨d, .load t x, ty, pos, aft, g⟩ l w K :=
  g_loadC hx (by rw [hb.cell?]; exact hc) h
theorem g_loadR {t : TypeId} {x : Operand} {b o n : Nat} {os : List Nat} {vs : List Value} (hx : ev l x = .pointer (some ⟨b, o, none⟩)) [ht : TStruct P t os n] (hn : vs.length = n) (hc : ∀ j u, vs[j]? = some u → w.cell? ⟨b, o + j, none⟩ = some u) (h : K (.agg vs.toArray)) :
    Go1 P ⟨d, .load t x, ty, pos, aft, g⟩ l w K := by
  refine ⟨_, fun w' hw' => ?_, h⟩
  obtain ⟨fs, hu, hi, _⟩ := ht.und
  have hl : (loadCells ⟨b, o, none⟩ vs.length).run P w' = .ok vs.toArray w' :=
    run_loadCells_list (P := P) w' ⟨b, o, none⟩ vs (fun j v hv => by rw [add_off]; exact cell_evt hw' (hc j v hv) id)
  rw [hn] at hl
  simp [execOp, hx, Instr.loadAt, Instr.sureAddr, loadVar, Sem.run_bind, run_isAgg_struct ht, run_sizeOf hi, hl]
theorem g_loadS {t t' : TypeId} {x : Operand} {b o n : Nat} {os : List Nat} {cs : List Value} (hx : ev l x = .pointer (some ⟨b, o, none⟩)) [ht : TStruct P t os n] (hb : Blk w b t' cs) (hn : o + n ≤ cs.length) (h : K (.agg ((cs.drop o).take n).toArray)) :
    Go1 P ⟨d, .load t x, ty, pos, aft, g⟩ l w K :=
  g_loadR hx (by simp; omega) (fun j u hu => by
    rw [hb.cell?]
    rw [List.getElem?_take] at hu
    split at hu
    · simpa using hu
    · simp at hu) h
theorem g_lenS {t e : TypeId} {x : Operand} {A : Option Addr} {n c sz bytes : Nat} (hx : ev l x = .slice A n c) [ht : TSlice P t e sz bytes] (h : K (.int .i64 n)) : Go1 P ⟨d, .call { callee := .builtin .len, args := #[x], argTypes := #[t] }, ty, pos, aft, g⟩ l w K :=
  ⟨_, fun m _ => by simp [execOp, hx, go_sem, resolve, invoke, Builtin.len_, run_underlying ht.ok], h⟩
theorem g_lenStr {t : TypeId} {x : Operand} {s : ByteArray} (hx : ev l x = .string s) [ht : TStr P t] (h : K (.int .i64 s.size)) : Go1 P ⟨d, .call { callee := .builtin .len, args := #[x], argTypes := #[t] }, ty, pos, aft, g⟩ l w K :=
  ⟨_, fun m _ => by simp [execOp, hx, go_sem, resolve, invoke, Builtin.len_, run_underlying ht.ok], h⟩
theorem g_makeFunc {f : FuncId} {caps : Array Operand} {vs : List Value} (hc : caps.toList.map (ev l) = vs) (h : K (.func (.func f) #[] vs.toArray)) : Go1 P ⟨d, .makeFunc (.func f) #[] caps, ty, pos, aft, g⟩ l w K := by
  refine ⟨_, fun w' hw' => ?_, h⟩
  have ha : caps.map (ev l) = vs.toArray := by rw [← hc]; apply Array.ext'; simp
  simp [execOp, Instr.makeFunc, ha]
end
end Go.Proofs.YthfnlmedelfbnaaDoorE
namespace Go.Proofs.YthfnlmedelfbnaaDoorE
open Go.RowKit
set_option linter.unusedSimpArgs false
set_option linter.unusedVariables false

section
variable {P : Program} {ops : Array Oper} {rest : List Oper} {w : World} {Q : Exit → Act → World → Prop} {ty : TypeId} {pos : String} {aft : Array Edge} {l : List Value} {ds : List Deferred} {N : Tmp}

/-! ### control -/
theorem then_normal {next : Act → World → Prop} {a : Act} (h : next a w) : Exit.then next Q .normal a w := h
theorem then_ret {next : Act → World → Prop} {a : Act} (h : Q .ret a w) : Exit.then next Q .ret a w := h
theorem then_exit {next : Act → World → Prop} {a : Act} {i : Nat} (h : Q (.exit i) a w) : Exit.then next Q (.exit i) a w := h
theorem in_normal {a : Act} {i : Nat} (h : Q .normal a w) : Exit.inBlock i Q .normal a w := h
theorem in_ret {a : Act} {i : Nat} (h : Q .ret a w) : Exit.inBlock i Q .ret a w := h
theorem in_exit {a : Act} {i : Nat} (h : Q .normal a w) : Exit.inBlock i Q (.exit i) a w := by simp [Exit.inBlock, h]
theorem in_exit' {a : Act} {i j : Nat} (hij : ¬ j = i) (h : Q (.exit j) a w) : Exit.inBlock i Q (.exit j) a w := by simp [Exit.inBlock, hij, h]
theorem c_condT {c : Operand} {x y : Code} (hc : ev l c = .bool true) (h : x.wp P Q ⟨l.toArray, ds⟩ w) : (Code.cond c x y).wp P Q ⟨l.toArray, ds⟩ w := wp_cond_true (by rw [ev_eq]; exact hc) h
theorem c_condF {c : Operand} {x y : Code} (hc : ev l c = .bool false) (h : y.wp P Q ⟨l.toArray, ds⟩ w) : (Code.cond c x y).wp P Q ⟨l.toArray, ds⟩ w := wp_cond_false (by rw [ev_eq]; exact hc) h
theorem b_ret1 {fn : Func} {R : Ending → World → Prop} {t : Tmp} {v : Value} (hr : fn.results = #[.tmp t]) (hv : lget l t = v) (h : R (.returned v) w) : bodyPost P fn R .ret ⟨l.toArray, []⟩ w :=
  bodyPost_ret (by rw [results_tmp hr]; rw [getD_lget, hv]) rfl h
theorem b_ret2 {fn : Func} {R : Ending → World → Prop} {t u : Tmp} {v v' : Value} (hr : fn.results = #[.tmp t, .tmp u]) (hv : lget l t = v) (hv' : lget l u = v') (h : R (.returned (.tuple #[v, v'])) w) : bodyPost P fn R .ret ⟨l.toArray, []⟩ w :=
  bodyPost_ret (by rw [results_tmp2 hr]; rw [getD_lget, getD_lget, hv, hv']) rfl h
theorem b_ret0 {fn : Func} {R : Ending → World → Prop} (hr : fn.results = #[]) (h : R (.returned (.tuple #[])) w) : bodyPost P fn R .ret ⟨l.toArray, []⟩ w :=
  bodyPost_ret (by rw [results_none hr]) rfl h
theorem b_end0 {fn : Func} {R : Ending → World → Prop} (hr : fn.results = #[]) (h : R (.returned (.tuple #[])) w) : bodyPost P fn R .normal ⟨l.toArray, []⟩ w :=
  bodyPost_end (by rw [results_none hr]) rfl h
/-- One result that lies in a block: a struct. -/
theorem b_retC {fn : Func} {R : Ending → World → Prop} {p : Tmp} {t t' : TypeId} {g n : Nat} {os : List Nat} {cs : List Value} (hr : fn.results = #[.cell p t]) (ht : TStruct P t os n) (hp : lget l p = .pointer (some ⟨g, 0, none⟩)) (hb : Blk w g t' cs) (hn : cs.length = n)
    (h : R (.returned (.agg cs.toArray)) w) : bodyPost P fn R .ret ⟨l.toArray, []⟩ w := by
  obtain ⟨fs, hu, hi, _⟩ := ht.und
  refine bodyPost_ret ?_ rfl h
  exact results_cell_row hr _ w g t' cs.toArray (0, 0) (.struct fs) (by rw [getD_lget]; exact hp) hb hu rfl (by rw [hi]; simp [hn])

/-! ### new blocks -/
theorem e_boxS {t : TypeId} {x : Operand} {v : Value} (hx : ev l x = v) (hv : v.cells = #[v])
    (h : ∀ g w1, w.heap.size ≤ g → g < w1.heap.size → Blk w1 g t [v] → Evt (fun _ => False) w w1 → w.heap.size ≤ w1.heap.size → wpList P ops Q rest ⟨(l.set N (.pointer (some ⟨g, 0, none⟩))).toArray, ds⟩ w1) :
    wpList P ops Q (⟨some N, .box t x, ty, pos, aft, none⟩ :: rest) ⟨l.toArray, ds⟩ w := by
  refine l_event (v := .pointer (some ⟨w.heap.size, 0, none⟩)) (w' := w.alloc (.cells #[v] t)) ?_ (h _ _ (Nat.le_refl _) (by simp) (Blk.new w t [v]) (Evt.alloc _ _) (by simp))
  simp only [execOp, hx, Instr.box, newVar, newRow, hv]
  rfl
theorem e_boxA {t : TypeId} {x : Operand} {cs : List Value} (hx : ev l x = .agg cs.toArray)
    (h : ∀ g w1, w.heap.size ≤ g → g < w1.heap.size → Blk w1 g t cs → Evt (fun _ => False) w w1 → w.heap.size ≤ w1.heap.size → wpList P ops Q rest ⟨(l.set N (.pointer (some ⟨g, 0, none⟩))).toArray, ds⟩ w1) :
    wpList P ops Q (⟨some N, .box t x, ty, pos, aft, none⟩ :: rest) ⟨l.toArray, ds⟩ w := by
  refine l_event (v := .pointer (some ⟨w.heap.size, 0, none⟩)) (w' := w.alloc (.cells cs.toArray t)) ?_ (h _ _ (Nat.le_refl _) (by simp) (Blk.new w t cs) (Evt.alloc _ _) (by simp))
  simp only [execOp, hx, Instr.box, newVar, newRow, Value.cells]
  rfl
theorem run_zeroValue {t : TypeId} {z : Value} (h : TZero P t z) (w : World) : (zeroValue t).run P w = .ok z w := by
  have := h.ok
  cases hq : P.info? t with
  | none => simp [hq] at this
  | some inf =>
    have hz : inf.zero = some z := by simpa [hq] using this
    simp [zeroValue, typeInfo, program, Sem.run_bind, Sem.run, hq, hz]
theorem e_alloc {t : TypeId} {z : Value} {cs : List Value} [hz : TZero P t z] (hc : z.cells = cs.toArray)
    (h : ∀ g w1, w.heap.size ≤ g → g < w1.heap.size → Blk w1 g t cs → Evt (fun _ => False) w w1 → w.heap.size ≤ w1.heap.size → wpList P ops Q rest ⟨(l.set N (.pointer (some ⟨g, 0, none⟩))).toArray, ds⟩ w1) :
    wpList P ops Q (⟨some N, .alloc t, ty, pos, aft, none⟩ :: rest) ⟨l.toArray, ds⟩ w := by
  refine l_event (v := .pointer (some ⟨w.heap.size, 0, none⟩)) (w' := w.alloc (.cells cs.toArray t)) ?_ (h _ _ (Nat.le_refl _) (by simp) (Blk.new w t cs) (Evt.alloc _ _) (by simp))
  simp only [execOp, Instr.alloc, newVar, newRow, Sem.run_bind, run_zeroValue hz, Result.andThen_ok, hc]
  rfl

/-! ### stores -/
theorem e_storeB {t t' : TypeId} {x y : Operand} {g o : Nat} {cs : List Value} {v : Value} (hx : ev l x = .pointer (some ⟨g, o, none⟩)) (hy : ev l y = v) (hv : v.cells = #[v]) (hv' : v.oneCell' = true) [ht : TScal P t] (hb : Blk w g t' cs) (ho : o < cs.length)
    (h : ∀ w1, Blk w1 g t' (cs.set o v) → Evt (fun k => k = g) w w1 → w.heap.size ≤ w1.heap.size → wpList P ops Q rest ⟨l.toArray, ds⟩ w1) :
    wpList P ops Q (⟨none, .store t x y, ty, pos, aft, none⟩ :: rest) ⟨l.toArray, ds⟩ w := by
  refine l_store (w' := w.setCell ⟨g, o, none⟩ v) ?_ (h _ (hb.set_ o v) (Evt.setCell w ⟨g, o, none⟩ v) (by simp [World.setCell]))
  have hcell : w.cell? ⟨g, o, none⟩ = some (lget cs o) := by rw [hb.cell?]; exact lget_some ho
  have hfr := hb.frozen o
  have hsz := run_sizeOf_scal ht w
  have hstore : (store ⟨g, o, none⟩ v).run P w = .ok () (w.setCell ⟨g, o, none⟩ v) := by
    cases v <;> simp_all [store, Sem.run, Value.oneCell']
  simp [execOp, hx, hy, Instr.storeAt, Instr.sureAddr, storeVar, hv, Sem.run_bind, hsz, storeCells, add_off, hstore]

def splice (cs : List Value) : Nat → List Value → List Value
  | _, [] => cs
  | o, v :: vs => splice (cs.set o v) (o + 1) vs
theorem splice_length (vs : List Value) : ∀ (cs : List Value) (o : Nat), (splice cs o vs).length = cs.length := by
  induction vs with
  | nil => intro cs o; rfl
  | cons v vs ih => intro cs o; simp [splice, ih]
theorem run_storeCells {g : Nat} {t' : TypeId} (o : Nat) (vs : List Value) : ∀ (w : World) (i : Nat) (cs : List Value), Blk w g t' cs → (∀ v ∈ vs, v.oneCell' = true) → o + i + vs.length ≤ cs.length →
    ∃ w', (storeCells ⟨g, o, none⟩ vs i).run P w = .ok () w' ∧ Blk w' g t' (splice cs (o + i) vs) ∧ Evt (fun k => k = g) w w' := by
  induction vs with
  | nil => intro w i cs hb _ _; exact ⟨w, rfl, hb, Evt.refl _ _⟩
  | cons v vs ih =>
    intro w i cs hb h1 hl
    simp only [List.length_cons] at hl
    have hcell : w.cell? ⟨g, o + i, none⟩ = some (lget cs (o + i)) := by rw [hb.cell?]; exact lget_some (by omega)
    have hfr := hb.frozen (o + i)
    have hv := h1 v (by simp)
    have hstore : (store ⟨g, o + i, none⟩ v).run P w = .ok () (w.setCell ⟨g, o + i, none⟩ v) := by
      cases v <;> simp_all [store, Sem.run, Value.oneCell']
    obtain ⟨w', hr, hb', he⟩ := ih (w.setCell ⟨g, o + i, none⟩ v) (i + 1) (cs.set (o + i) v) (hb.set_ _ _) (fun u hu => h1 u (by simp [hu])) (by simp; omega)
    refine ⟨w', ?_, hb', (Evt.setCell w ⟨g, o + i, none⟩ v).trans he⟩
    simp [storeCells, Sem.run_bind, add_off, hstore, hr]
theorem e_storeR {t t' : TypeId} {x y : Operand} {g o n : Nat} {os : List Nat} {cs vs : List Value} (hx : ev l x = .pointer (some ⟨g, o, none⟩)) (hy : ev l y = .agg vs.toArray) [ht : TStruct P t os n] (hv' : ∀ v ∈ vs, v.oneCell' = true) (hb : Blk w g t' cs) (hn : vs.length = n) (ho : o + vs.length ≤ cs.length)
    (h : ∀ w1, Blk w1 g t' (splice cs o vs) → Evt (fun k => k = g) w w1 → w.heap.size ≤ w1.heap.size → wpList P ops Q rest ⟨l.toArray, ds⟩ w1) :
    wpList P ops Q (⟨none, .store t x y, ty, pos, aft, none⟩ :: rest) ⟨l.toArray, ds⟩ w := by
  obtain ⟨w', hr, hb', he⟩ := run_storeCells (P := P) o vs w 0 cs hb hv' (by omega)
  refine l_store (w' := w') ?_ (h _ hb' he he.size)
  obtain ⟨fs, hu, hi, _⟩ := ht.und
  simp [execOp, hx, hy, Instr.storeAt, Instr.sureAddr, storeVar, Value.cells, Sem.run_bind, run_sizeOf hi, hn, hr]

/-! ### structs that are built; slices -/
/-- What a composite literal holds: the parts laid over zeros. -/
def fillL (os : List Nat) : List Value → List (Nat × Value) → List Value
  | zs, [] => zs
  | zs, (i, v) :: ps => fillL os (splice zs (os.getD i 0) v.cells.toList) ps
theorem foldl_splice (vs : List Value) : ∀ (cs : List Value) (o j : Nat), (vs.zipIdx j).foldl (fun (cs : Array Value) (x : Value × Nat) => cs.setIfInBounds (o + x.2) x.1) cs.toArray = (splice cs (o + j) vs).toArray := by
  induction vs with
  | nil => intro cs o j; rfl
  | cons v vs ih =>
    intro cs o j
    rw [List.zipIdx_cons, List.foldl_cons]
    simp only [List.setIfInBounds_toArray]
    rw [ih]
    rfl
theorem fill_places {place : Nat → Option (Nat × Nat)} {os : List Nat} (ps : List (Nat × Value)) : ∀ (zs : List Value), (∀ p ∈ ps, ∃ off, os[p.1]? = some off ∧ place p.1 = some (off, p.2.cells.size) ∧ off + p.2.cells.size ≤ zs.length) →
    Instr.fill place zs.toArray ps = some (fillL os zs ps).toArray := by
  induction ps with
  | nil => intro zs _; rfl
  | cons p ps ih =>
    obtain ⟨i, v⟩ := p
    intro zs h
    obtain ⟨off, ho, hp, hl⟩ := h (i, v) (by simp)
    have hf := foldl_splice v.cells.toList zs off 0
    have hz : v.cells.zipIdx.foldl (fun (cs : Array Value) (x : Value × Nat) => cs.setIfInBounds (off + x.2) x.1) zs.toArray = (splice zs off v.cells.toList).toArray := by
      rw [← Array.foldl_toList]
      simpa using hf
    simp only at hp hl
    unfold Instr.fill
    rw [hp]
    have hc : ¬ (v.cells.size ≠ v.cells.size ∨ off + v.cells.size > zs.toArray.size) := by simp; omega
    simp only [ne_eq, not_true_eq_false, decide_false, Bool.false_or, List.size_toArray, gt_iff_lt, decide_eq_true_eq, Bool.or_eq_true]
    rw [if_neg (by omega)]
    have ih' := ih (splice zs off v.cells.toList) (fun q hq => by
      obtain ⟨off', h1, h2, h3⟩ := h q (by simp [hq])
      exact ⟨off', h1, h2, by rw [splice_length]; exact h3⟩)
    simp only [fillL, List.getD_eq_getElem?_getD, ho, Option.getD_some]
    rw [← ih']
    congr 1
def fillOk (os : List Nat) (n : Nat) (ps : List (Nat × Value)) : Bool := ps.all fun p => p.1 < os.length && p.2.cells.size == fsz os n p.1 && (os[p.1]?).getD 0 + p.2.cells.size ≤ n
theorem run_foldlM {α β : Type} (k : α → Sem β) (w : World) (xs : List α) : ∀ (r : List β) (bs : Array β), r.length = xs.length → (∀ (i : Nat) (x : α) (y : β), xs[i]? = some x → r[i]? = some y → (k x).run P w = .ok y w) →
    (xs.foldlM (fun bs a => bs.push <$> k a) bs).run P w = .ok (bs ++ r.toArray) w := by
  induction xs with
  | nil =>
    intro r bs hr _
    obtain rfl : r = [] := List.eq_nil_of_length_eq_zero (by simpa using hr)
    simp
  | cons x xs ih =>
    intro r bs hr h
    match r, hr with
    | y :: r, hr =>
      have h0 := h 0 x y rfl rfl
      have := ih r (bs.push y) (by simpa using hr) (fun i x' y' hx hy => h (i + 1) x' y' (by simpa using hx) (by simpa using hy))
      rw [List.foldlM_cons, Sem.run_bind]
      simp only [map_eq_pure_bind, Sem.run_bind, h0, Result.andThen_ok, Sem.run_pure]
      simp only [map_eq_pure_bind] at this
      rw [this]
      simp
theorem run_mapM {α β : Type} (k : α → Sem β) (as : Array α) (w : World) (r : List β) (hr : r.length = as.size) (h : ∀ (i : Nat) (x : α) (y : β), as[i]? = some x → r[i]? = some y → (k x).run P w = .ok y w) : (as.mapM k).run P w = .ok r.toArray w := by
  rw [Array.mapM_eq_foldlM, ← Array.foldlM_toList, run_foldlM k w as.toList r #[] (by simpa using hr) (fun i x y hx hy => h i x y (by simpa using hx) hy)]
  simp
theorem run_build {t : TypeId} {os : List Nat} {n : Nat} {zs : List Value} [ht : TStruct P t os n] [hz : TZero P t (.agg zs.toArray)] (hzl : zs.length = n) (ps : List (Nat × Value)) (hps : fillOk os n ps = true) (w : World) :
    (Instr.build t ps.toArray).run P w = .ok (.agg (fillL os zs ps).toArray) w := by
  obtain ⟨fs, hu, hi, hf⟩ := ht.und
  have hk := ht.ok
  unfold structB at hk
  rw [hu] at hk
  simp only [Bool.and_eq_true, beq_iff_eq] at hk
  have hlen : fs.size = os.length := hk.1.1
  have hpl : (fs.mapM fun (f : Field) => do let s ← sizeOf f.type; pure (f.offset, s) : Sem (Array (Nat × Nat))).run P w = .ok (((List.range fs.size).map fun i => ((os[i]?).getD 0, fsz os n i)).toArray) w := by
    refine run_mapM _ _ _ _ (by simp) ?_
    intro i f y hfi hy
    have hlt : i < os.length := by rw [← hlen]; exact (Array.getElem?_eq_some_iff.1 hfi).1
    obtain ⟨f', inf, h1, h2, h3, h4, h5⟩ := hf i os[i] (List.getElem?_eq_getElem hlt)
    have : f' = f := by rw [h1] at hfi; exact Option.some.inj hfi
    subst this
    rw [List.getElem?_map, List.getElem?_range (by omega)] at hy
    simp only [Option.map_some, Option.some.injEq] at hy
    subst hy
    have hs : (sizeOf f'.type).run P w = .ok (fsz os n i) w := run_sizeOf (by simp [h2, h5]) w
    simp [Sem.run_bind, hs, h4, hlt]
  have hfill : Instr.fill (((List.range fs.size).map fun i => ((os[i]?).getD 0, fsz os n i)).toArray[·]?) zs.toArray ps = some (fillL os zs ps).toArray := by
    refine fill_places ps zs ?_
    intro p hp
    have := List.all_eq_true.1 hps p hp
    simp only [Bool.and_eq_true, decide_eq_true_eq, beq_iff_eq] at this
    refine ⟨os[p.1], List.getElem?_eq_getElem this.1.1, ?_, ?_⟩
    · simp [hlen, this.1.1, this.1.2]
    · have h2 := this.2
      rw [List.getElem?_eq_getElem this.1.1] at h2
      simp only [Option.getD_some] at h2
      omega
  have hzr := run_zeroValue hz w
  simp only [Instr.build, Sem.run_bind, hzr, Result.andThen_ok, run_underlying hu, Value.cells]
  rw [hpl]
  simp only [Result.andThen_ok]
  rw [hfill]
  rfl
theorem g_build {d : Option Tmp} {g : Option (Nat × Bool)} {K : Value → Prop} {t : TypeId} {os : List Nat} {n : Nat} {zs : List Value} {parts : Array (Nat × Operand)} [ht : TStruct P t os n] [hz : TZero P t (.agg zs.toArray)] (hzl : zs.length = n) {ps : List (Nat × Value)} (hp : parts.toList.map (fun p => (p.1, ev l p.2)) = ps) (hps : fillOk os n ps = true)
    (h : K (.agg (fillL os zs ps).toArray)) : Go1 P ⟨d, .build t parts, ty, pos, aft, g⟩ l w K := by
  refine ⟨_, fun w' hw' => ?_, h⟩
  have ha : parts.map (fun (i, x) => (i, ev l x)) = ps.toArray := by rw [← hp]; apply Array.ext'; simp
  have := run_build (P := P) (t := t) hzl ps hps w'
  simp only [execOp, ha, Sem.run_bind, this, Result.andThen_ok]
  rfl
theorem splice_mid (vs : List Value) : ∀ (pre old post : List Value), old.length = vs.length → splice (pre ++ old ++ post) pre.length vs = pre ++ vs ++ post := by
  induction vs with
  | nil => intro pre old post h; obtain rfl := List.eq_nil_of_length_eq_zero h; simp [splice]
  | cons v vs ih =>
    intro pre old post h
    match old, h with
    | u :: old, h =>
      have := ih (pre ++ [v]) old post (by simpa using h)
      simp only [splice]
      rw [show (pre ++ u :: old ++ post).set pre.length v = pre ++ [v] ++ old ++ post by simp]
      rw [show pre.length + 1 = (pre ++ [v]).length by simp, this]
      simp
theorem fillL_rows (sz len : Nat) (vs : List Value) : ∀ (pre rest : List Value) (k : Nat), pre.length = k * sz → rest.length = vs.length * sz → k + vs.length = len → (∀ v ∈ vs, v.cells.size = sz) →
    fillL ((List.range len).map (· * sz)) (pre ++ rest) ((List.range' k vs.length).zip vs) = pre ++ vs.flatMap fun v => v.cells.toList := by
  induction vs with
  | nil => intro pre rest k _ hr _ _; obtain rfl : rest = [] := List.eq_nil_of_length_eq_zero (by simpa using hr); simp [fillL]
  | cons v vs ih =>
    intro pre rest k hp hr hk hv
    have hvs := hv v (by simp)
    simp only [List.length_cons, List.range'_succ, List.zip_cons_cons, fillL]
    have hget : ((List.range len).map (· * sz)).getD k 0 = k * sz := by
      rw [List.getD_eq_getElem?_getD, List.getElem?_map, List.getElem?_range (by simp at hk; omega)]; rfl
    rw [hget, ← hp]
    have hle : sz ≤ rest.length := by rw [hr]; simp [Nat.succ_mul]
    have hs := splice_mid v.cells.toList pre (rest.take sz) (rest.drop sz) (by simp [hvs]; omega)
    rw [List.append_assoc, List.take_append_drop] at hs
    rw [hs]
    rw [ih (pre ++ v.cells.toList) (rest.drop sz) (k + 1) (by simp [hp, hvs, Nat.succ_mul]) (by simp [hr, Nat.succ_mul]) (by simp at hk; omega) (fun u hu => hv u (by simp [hu]))]
    simp
theorem zip_of {α : Type} (xs : List (Nat × α)) (n : Nat) (h : xs.map (·.1) = List.range n) : xs = (List.range' 0 (xs.map (·.2)).length).zip (xs.map (·.2)) := by
  have hl : xs.length = n := by have := congrArg List.length h; simpa using this
  apply List.ext_getElem
  · simp
  · intro i h1 h2
    have hi : (xs.map (·.1))[i]'(by simpa using h1) = i := by simp [h]
    simp at hi ⊢
    exact Prod.ext hi rfl
/-- A slice written out whole: a new row. -/
theorem e_sliceLit {t e : TypeId} {sz bytes len : Nat} {z : Value} {parts : Array (Nat × Operand)} [ht : TSlice P t e sz bytes] [hz : TZero P e z] {vs : List Value} (hp : parts.toList.map (fun p => ev l p.2) = vs) (hi : parts.toList.map (·.1) = List.range len) (hv : ∀ v ∈ vs, v.cells.size = sz) (hlen : len * sz ≤ 65536)
    (h : ∀ g w1, w.heap.size ≤ g → g < w1.heap.size → Blk w1 g e (vs.flatMap fun v => v.cells.toList) → Evt (fun _ => False) w w1 → w.heap.size ≤ w1.heap.size → wpList P ops Q rest ⟨(l.set N (.slice (some ⟨g, 0, none⟩) len len)).toArray, ds⟩ w1) :
    wpList P ops Q (⟨some N, .buildSlice t len parts, ty, pos, aft, none⟩ :: rest) ⟨l.toArray, ds⟩ w := by
  have hs : (sizeOf e).run P w = .ok sz w := run_sizeOf (by have := ht.info; cases hq : P.info? e <;> simp_all) w
  have hvl : vs.length = len := by
    have := congrArg List.length hi
    rw [← hp]; simpa using this
  refine l_event (v := .slice (some ⟨w.heap.size, 0, none⟩) len len) (w' := w.alloc (.cells (vs.flatMap fun v => v.cells.toList).toArray e)) ?_ (h _ _ (Nat.le_refl _) (by simp) (Blk.new w e _) (Evt.alloc _ _) (by simp))
  have hps : (parts.map fun (i, x) => (i, ev l x)).toList = (List.range' 0 vs.length).zip vs := by
    have h1 : (parts.map fun (i, x) => (i, ev l x)).toList = parts.toList.map (fun p => (p.1, ev l p.2)) := by simp
    have h2 := zip_of (parts.toList.map (fun p => (p.1, ev l p.2))) len (by rw [List.map_map]; exact hi)
    rw [h1, h2]
    simp only [List.map_map]
    rw [show ((fun (x : Nat × Value) => x.2) ∘ fun (p : Nat × Operand) => (p.1, ev l p.2)) = fun p => ev l p.2 from rfl, hp]
  have key : ∀ z0 : Array Value, Instr.fill (fun i => some (i * sz, sz)) ((Array.range (len * sz)).map (z0[· % z0.size]!)) ((List.range' 0 vs.length).zip vs) = some (vs.flatMap fun v => v.cells.toList).toArray := by
    intro z0
    have h1 := fillL_rows sz len vs [] ((Array.range (len * sz)).map (z0[· % z0.size]!)).toList 0 (by simp) (by simp [hvl]) (by omega) hv
    have h2 := fill_places (place := fun i => some (i * sz, sz)) (os := (List.range len).map (· * sz)) ((List.range' 0 vs.length).zip vs) ((Array.range (len * sz)).map (z0[· % z0.size]!)).toList (by
      intro p hp'
      obtain ⟨hp1, hp2⟩ := List.of_mem_zip hp'
      have hlt : p.1 < len := by simp at hp1; omega
      refine ⟨p.1 * sz, by simp [hlt], by rw [hv _ hp2], ?_⟩
      rw [hv _ hp2]
      simp
      have := Nat.mul_le_mul_right sz (show p.1 + 1 ≤ len from hlt)
      rw [Nat.succ_mul] at this
      exact this)
    simp only [List.nil_append] at h1
    rw [h1, Array.toArray_toList] at h2
    exact h2
  have hno : ¬ len * sz > 2 ^ 24 := by omega
  simp only [execOp, Instr.buildSlice, Sem.run_bind, run_underlying ht.ok, Result.andThen_ok, hs]
  rw [if_neg hno]
  by_cases h0 : len * sz = 0
  · rw [if_pos h0, hps]
    simp only [Sem.run_bind, Sem.run_pure, Result.andThen_ok]
    rw [key]
    rfl
  · rw [if_neg h0, hps]
    simp only [Sem.run_bind, Sem.run_pure, Result.andThen_ok, run_zeroValue hz]
    rw [key]
    rfl

/-! ### loops -/
/-- The frame with the listed slots as told. -/
def setW (l : List Value) (W : List Nat) (u : Nat → Value) : List Value := W.foldl (fun l j => l.set j (u j)) l
theorem lget_set (l : List Value) (j k : Nat) (v : Value) (h : j ≠ k) : lget (l.set k v) j = lget l j := by
  induction l generalizing j k with
  | nil => rfl
  | cons x t ih =>
    cases k with
    | zero => cases j with
      | zero => exact absurd rfl h
      | succ j => rfl
    | succ k => cases j with
      | zero => rfl
      | succ j => simp only [List.set_cons_succ, lget]; exact ih _ _ (by omega)
theorem lget_set_same (l : List Value) (k : Nat) (v : Value) : lget (l.set k v) k = if k < l.length then v else lget l k := by
  induction l generalizing k with
  | nil => simp [lget]
  | cons x t ih => cases k with
    | zero => simp [lget]
    | succ k => simp [lget, ih]
theorem lget_ext {l l' : List Value} (hl : l.length = l'.length) (h : ∀ j, lget l j = lget l' j) : l = l' := by
  induction l generalizing l' with
  | nil => exact (List.eq_nil_of_length_eq_zero (by simpa using hl.symm)).symm
  | cons x t ih =>
    match l', hl with
    | y :: t', hl =>
      have h0 := h 0
      simp only [lget] at h0
      rw [h0, ih (by simpa using hl) (fun j => by have := h (j + 1); simpa [lget] using this)]
theorem setW_length (W : List Nat) (u : Nat → Value) : ∀ (l : List Value), (setW l W u).length = l.length := by
  induction W with
  | nil => intro l; rfl
  | cons k W ih => intro l; simp only [setW, List.foldl_cons]; exact (ih _).trans (by simp)
theorem lget_setW (W : List Nat) (u : Nat → Value) (j : Nat) : ∀ (l : List Value), lget (setW l W u) j = if j ∈ W ∧ j < l.length then u j else lget l j := by
  induction W with
  | nil => intro l; simp [setW]
  | cons k W ih =>
    intro l
    simp only [setW, List.foldl_cons]
    have := ih (l.set k (u k))
    simp only [setW] at this
    rw [this]
    by_cases hk : j = k
    · subst hk
      rw [lget_set_same]
      by_cases hl : j < l.length <;> simp [hl]
    · rw [lget_set _ _ _ _ hk]
      simp [hk]
theorem setW_over (W : List Nat) (u z : Nat → Value) (l : List Value) : setW (setW l W z) W u = setW l W u := by
  apply lget_ext
  · rw [setW_length, setW_length, setW_length]
  · intro j
    rw [lget_setW, lget_setW, lget_setW, setW_length]
    by_cases hj : j ∈ W ∧ j < l.length <;> simp [hj]
theorem setW_self (W : List Nat) (l : List Value) : setW l W (lget l) = l := by
  apply lget_ext
  · rw [setW_length]
  · intro j
    rw [lget_setW]
    split <;> rfl
/-- A loop: the listed slots are those that its rounds write; J: what is known of them and of the world with so many rounds at most to come. -/
theorem s_loop {c : Code} (W : List Nat) (J : Nat → (Nat → Value) → World → Prop) (n0 : Nat) (h0 : J n0 (lget l) w)
    (round : ∀ n u w', J n u w' → c.wp P (Exit.then (fun a' w'' => ∃ n' l', a' = ⟨l'.toArray, ds⟩ ∧ n' < n ∧ setW l' W (fun _ => undef) = setW l W (fun _ => undef) ∧ J n' (lget l') w'') Q) ⟨(setW l W u).toArray, ds⟩ w') :
    (Code.loop c).wp P Q ⟨l.toArray, ds⟩ w := by
  let I : Act → World → Prop := fun a w => ∃ n l', a = ⟨l'.toArray, ds⟩ ∧ setW l' W (fun _ => undef) = setW l W (fun _ => undef) ∧ J n (lget l') w
  have key : ∀ n l' w', setW l' W (fun _ => undef) = setW l W (fun _ => undef) → J n (lget l') w' → ∀ (b : Frame) (k : List Item) (cs : List Frame),
      ∃ e a' w'', Q e a' w'' ∧ Arrives P (lone (b.at ⟨l'.toArray, ds⟩ (.code c :: .inLoop c :: k)) cs w') b k cs e a' w'' := by
    intro n
    induction n using Nat.strongRecOn with
    | _ n ih =>
      intro l' w' hs hJ b k cs
      have hl' : setW l W (lget l') = l' := by
        rw [← setW_over W (lget l') (fun _ => undef) l, ← hs, setW_over, setW_self]
      have hr := round n (lget l') w' hJ
      rw [hl'] at hr
      obtain ⟨e, a₁, w₁, hq, harr⟩ := hr b (.inLoop c :: k) cs
      cases e with
      | normal =>
        obtain ⟨n', l'', rfl, hlt, hs', hJ'⟩ := hq
        obtain ⟨e₂, a₂, w₂, hq₂, harr₂⟩ := ih n' hlt l'' w₁ hs' hJ' b k cs
        exact ⟨e₂, a₂, w₂, hq₂, .of_steps (Steps.trans harr (.one step_inLoop)) harr₂⟩
      | exit id => exact ⟨_, a₁, w₁, hq, .pass (x := .inLoop c) rfl (fun _ _ => .inl (by simp)) harr⟩
      | goto l => exact ⟨_, a₁, w₁, hq, .pass (x := .inLoop c) rfl (fun _ _ => .inl (by simp)) harr⟩
      | ret => exact ⟨_, a₁, w₁, hq, .pass (x := .inLoop c) rfl (fun _ _ => .inl (by simp)) harr⟩
      | panic ch => exact ⟨_, a₁, w₁, hq, .pass (x := .inLoop c) rfl (fun _ _ => .inl (by simp)) harr⟩
      | outgrown => exact ⟨_, a₁, w₁, hq, .pass (x := .inLoop c) rfl (fun _ _ => .inl (by simp)) harr⟩
  intro b k cs
  obtain ⟨e, a', w', hq, harr⟩ := key n0 l w rfl h0 b k cs
  exact ⟨e, a', w', hq, .of_steps (.one step_loop) harr⟩

/-! ### append onto a row of the call's own; slices of slices -/
theorem own_evt {S : Nat → Prop} {w w' : World} {e : TypeId} {sz n : Nat} {v : Value} {xs : List Value} (he : Evt S w w') (h : w.ownsRow 0 e sz v n xs) (hs : ∀ k, v.ownBlock = some k → ¬ S k) : w'.ownsRow 0 e sz v n xs := by
  refine ⟨h.1, ?_⟩
  rcases h.2 with hn | ⟨g, cap, cur, rfl, hb, hh, rest⟩
  · exact .inl hn
  · exact .inr ⟨g, cap, cur, rfl, hb, (he.block g (Array.getElem?_eq_some_iff.1 hh).1 (hs g rfl)).trans hh, rest⟩
theorem own_blk {w : World} {g : Nat} {e : TypeId} {sz n : Nat} {xs : List Value} (h : Blk w g e xs) (hl : xs.length = n * sz) (hn : n ≤ maxLen) : w.ownsRow 0 e sz (.slice (some ⟨g, 0, none⟩) n n) n xs :=
  ⟨hl, .inr ⟨g, n, xs.toArray, rfl, Nat.zero_le _, h, Nat.le_refl _, hn, by simpa using hl, by simp [← hl]⟩⟩
theorem own_lt {w : World} {e : TypeId} {sz n : Nat} {v : Value} {xs : List Value} (h : w.ownsRow 0 e sz v n xs) : ∀ k, v.ownBlock = some k → k < w.heap.size := fun k hk => (h.lt k hk).2
theorem Evt.of_grown {w w' : World} {row : Option Nat} (h : w.grownBy w' row) : Evt (fun k => row = some k) w w' :=
  ⟨h.os, h.tape, h.output, h.size, fun k hk hs => h.block k hk (fun e => hs e.symm)⟩
/-- append: the source is read where it lies. -/
theorem e_append {t e : TypeId} {sz bytes n m c b o : Nat} {z v : Value} {x y : Operand} {xs news : List Value} (hx : ev l x = v) (hy : ev l y = .slice (some ⟨b, o, none⟩) m c) [ht : TSlice P t e sz bytes] [hz : TZero P e z] (hzs : z.cells.size = sz) (hsz : 0 < sz)
    (hown : w.ownsRow 0 e sz v n xs) (hl : news.length = m * sz) (hnews : ∀ j u, news[j]? = some u → w.cell? ⟨b, o + j, none⟩ = some u) (h1 : ∀ u ∈ news, u.oneCell' = true) (hb : (n + m) * bytes ≤ 140737488355328) (hm : n + m ≤ 4611686018427387904)
    (h : ∀ v' w1, w1.ownsRow 0 e sz v' (n + m) (xs ++ news) → Evt (fun k => v.ownBlock = some k) w w1 → (v' = .slice none 0 0 ↔ v = .slice none 0 0 ∧ m = 0) → (v'.ownBlock = v.ownBlock ∨ v'.ownBlock = some w.heap.size) → w.heap.size ≤ w1.heap.size → wpList P ops Q rest ⟨(l.set N v').toArray, ds⟩ w1) :
    wpList P ops Q (⟨some N, .call { callee := .builtin .append, args := #[x, y], argTypes := #[t, t] }, ty, pos, aft, none⟩ :: rest) ⟨l.toArray, ds⟩ w := by
  have hi := ht.info
  have hz' := hz.ok
  cases hq : P.info? e with
  | none => simp [hq] at hi
  | some inf =>
    simp only [hq, Option.map_some, Option.some.injEq, Prod.mk.injEq] at hi hz'
    obtain ⟨v', w1, hr, ho, hg, hn, hat⟩ := run_append_own_at (P := P) w 0 t ty e inf z sz bytes ht.ok hq hz' hi.1 hi.2 hzs hsz v n xs hown ⟨b, o, none⟩ m c news hl (fun j u hu => by rw [add_off]; exact hnews j u hu) h1 (by simp only [maxLen]; omega) hb (Nat.zero_le _)
    refine l_event (v := v') (w' := w1) ?_ (h v' w1 ho (Evt.of_grown hg) hn hat hg.size)
    simp only [execOp, Sem.run_bind, resolve, List.map_toArray, List.map_cons, List.map_nil, hx, hy, invoke, builtin, Sem.run_pure, Result.andThen_ok]
    first | (rw [hr]; rfl) | (simp only [Sem.run_bind, hr, Result.andThen_ok]; rfl)
/-- append of a nil slice: nothing happens. -/
theorem e_append0 {t e : TypeId} {sz bytes n : Nat} {v : Value} {x y : Operand} {xs : List Value} (hx : ev l x = v) (hy : ev l y = .slice none 0 0) [ht : TSlice P t e sz bytes]
    (hown : w.ownsRow 0 e sz v n xs) (h : wpList P ops Q rest ⟨(l.set N v).toArray, ds⟩ w) :
    wpList P ops Q (⟨some N, .call { callee := .builtin .append, args := #[x, y], argTypes := #[t, t] }, ty, pos, aft, none⟩ :: rest) ⟨l.toArray, ds⟩ w := by
  have hi := ht.info
  cases hq : P.info? e with
  | none => simp [hq] at hi
  | some inf =>
    have hr := run_append_owned_none (P := P) w 0 t ty e inf sz ht.ok hq v n xs hown
    refine l_event (v := v) (w' := w) ?_ h
    simp only [execOp, Sem.run_bind, resolve, List.map_toArray, List.map_cons, List.map_nil, hx, hy, invoke, builtin, Sem.run_pure, Result.andThen_ok]
    first | (rw [hr]; rfl) | (simp only [Sem.run_bind, hr, Result.andThen_ok]; rfl)
/-- x[:h] -/
theorem g_sliceH {d : Option Tmp} {g : Option (Nat × Bool)} {K : Value → Prop} {t e : TypeId} {x y : Operand} {A : Option Addr} {len cap sz bytes : Nat} {i : Int} (hx : ev l x = .slice A len cap) (hy : ev l y = .int .i64 i) [ht : TSlice P t e sz bytes] (h0 : 0 ≤ i) (h1 : i ≤ cap)
    (h : K (.slice A i.toNat cap)) : Go1 P ⟨d, .slice t x none (some y) none, ty, pos, aft, g⟩ l w K := by
  refine ⟨_, fun w' hw' => ?_, h⟩
  have hs : ∀ w, (sizeOf e).run P w = .ok sz w := fun w => run_sizeOf (by have := ht.info; cases hq : P.info? e <;> simp_all) w
  have hA : (if cap = 0 then A else A.map (·.add (0 * sz))) = A := by
    split
    · rfl
    · cases A with
      | none => rfl
      | some a => simp [Addr.add]
  have hc : 0 ≤ i ∧ i ≤ (cap : Int) := ⟨h0, h1⟩
  simp only [execOp, hx, hy, Option.map_some, Option.map_none, Instr.sliceAt, Sem.run_bind, run_underlying ht.ok, Result.andThen_ok, Instr.slice, Instr.sliceBounds, Sem.run_pure, Instr.sliceBound, asIntOf]
  rw [if_pos hc]
  simp only [Sem.run_pure, Result.andThen_ok, hs, hA]
  simp
/-- x[lo:] -/
theorem g_sliceL {d : Option Tmp} {g : Option (Nat × Bool)} {K : Value → Prop} {t e : TypeId} {x y : Operand} {b o len cap sz bytes : Nat} {i : Int} (hx : ev l x = .slice (some ⟨b, o, none⟩) len cap) (hy : ev l y = .int .i64 i) [ht : TSlice P t e sz bytes] (h0 : 0 ≤ i) (h1 : i ≤ len)
    (h : K (.slice (if cap = i.toNat then some ⟨b, o, none⟩ else some ⟨b, o + i.toNat * sz, none⟩) (len - i.toNat) (cap - i.toNat))) : Go1 P ⟨d, .slice t x (some y) none none, ty, pos, aft, g⟩ l w K := by
  refine ⟨_, fun w' hw' => ?_, h⟩
  have hs : ∀ w, (sizeOf e).run P w = .ok sz w := fun w => run_sizeOf (by have := ht.info; cases hq : P.info? e <;> simp_all) w
  have hc : 0 ≤ i ∧ i ≤ (len : Int) := ⟨h0, h1⟩
  simp only [execOp, hx, hy, Option.map_some, Option.map_none, Instr.sliceAt, Sem.run_bind, run_underlying ht.ok, Result.andThen_ok, Instr.slice, Instr.sliceBounds, Sem.run_pure, Instr.sliceBound, asIntOf]
  rw [if_pos hc]
  simp only [Sem.run_pure, Result.andThen_ok, hs, add_off]
theorem blk_src {w : World} {b : Nat} {t : TypeId} {cs : List Value} (h : Blk w b t cs) : ∀ (j : Nat) (u : Value), cs[j]? = some u → w.cell? ⟨b, 0 + j, none⟩ = some u := fun j u hj => by
  rw [Nat.zero_add, h.cell?, hj]
theorem q_nil {a : Act} (h : ∀ w1, Evt (fun _ => False) w w1 → w.heap.size ≤ w1.heap.size → Q .normal a w1) : wpQuiet P ops (Evt (fun _ => False) w) (fun a' => ∀ w', Evt (fun _ => False) w w' → Q .normal a' w') [] a := by
  refine wpQuiet_nil ?_
  intro w' hw'
  exact h _ hw' hw'.size
/-- Several results, some of them structs that lie in blocks: each by itself. -/
def ResAll (P : Program) (l : List Value) (w : World) : List ResultVar → List Value → Prop
  | [], [] => True
  | .tmp t :: rs, v :: vs => lget l t = v ∧ ResAll P l w rs vs
  | .cell p t :: rs, v :: vs => (∃ g t' cs os n, TStruct P t os n ∧ lget l p = .pointer (some ⟨g, 0, none⟩) ∧ Blk w g t' cs ∧ cs.length = n ∧ v = .agg cs.toArray) ∧ ResAll P l w rs vs
  | _, _ => False
theorem ra_nil : ResAll P l w [] [] := trivial
theorem ra_tmp {t : Tmp} {v : Value} {rs : List ResultVar} {vs : List Value} (hv : lget l t = v) (h : ResAll P l w rs vs) : ResAll P l w (.tmp t :: rs) (v :: vs) := ⟨hv, h⟩
theorem ra_cell {p : Tmp} {t t' : TypeId} {g n : Nat} {os : List Nat} {cs : List Value} {rs : List ResultVar} {vs : List Value} (hp : lget l p = .pointer (some ⟨g, 0, none⟩)) (ht : TStruct P t os n) (hb : Blk w g t' cs) (hn : cs.length = n) (h : ResAll P l w rs vs) :
    ResAll P l w (.cell p t :: rs) (.agg cs.toArray :: vs) := ⟨⟨g, t', cs, os, n, ht, hp, hb, hn, rfl⟩, h⟩
def resOf (l : List Value) : ResultVar → Sem Value
  | .tmp t => pure (l.toArray.getD t undef)
  | .cell a t => do loadVar t (← asAddr (l.toArray.getD a undef))
theorem run_resAll {rs : List ResultVar} : ∀ {vs : List Value}, ResAll P l w rs vs → vs.length = rs.length ∧ ∀ (i : Nat) (x : ResultVar) (y : Value), rs[i]? = some x → vs[i]? = some y →
    (resOf l x).run P w = .ok y w := by
  induction rs with
  | nil => intro vs h; cases vs with
    | nil => exact ⟨rfl, fun i x y hx => by simp at hx⟩
    | cons v vs => exact h.elim
  | cons r rs ih =>
    intro vs h
    cases vs with
    | nil => cases r <;> exact h.elim
    | cons v vs =>
      cases r with
      | tmp t =>
        obtain ⟨hv, h⟩ := h
        obtain ⟨hl, hi⟩ := ih h
        refine ⟨by simp [hl], fun i x y hx hy => ?_⟩
        cases i with
        | zero =>
          simp at hx hy; subst hx; subst hy
          show (pure (l.toArray.getD t undef) : Sem Value).run P w = _
          rw [getD_lget, hv]; rfl
        | succ i => exact hi i x y (by simpa using hx) (by simpa using hy)
      | cell p t =>
        obtain ⟨⟨g, t', cs, os, n, ht, hp, hb, hn, rfl⟩, h⟩ := h
        obtain ⟨hl, hi⟩ := ih h
        refine ⟨by simp [hl], fun i x y hx hy => ?_⟩
        cases i with
        | zero =>
          simp at hx hy; subst hx; subst hy
          obtain ⟨fs, hu, hsz, _⟩ := ht.und
          have hrow := run_loadVar_row (P := P) w g t' t cs.toArray (0, 0) (.struct fs) hb hu rfl (by rw [hsz]; simp [hn])
          show (do loadVar t (← asAddr (l.toArray.getD p undef)) : Sem Value).run P w = _
          rw [getD_lget, hp]
          simp only [asAddr, Sem.run_bind, Sem.run_pure, Result.andThen_ok, hrow]
        | succ i => exact hi i x y (by simpa using hx) (by simpa using hy)
theorem b_retN {fn : Func} {R : Ending → World → Prop} {rs : List ResultVar} {vs : List Value} (hr : fn.results = rs.toArray) (h2 : 2 ≤ rs.length) (hv : ResAll P l w rs vs)
    (h : R (.returned (.tuple vs.toArray)) w) : bodyPost P fn R .ret ⟨l.toArray, []⟩ w := by
  refine bodyPost_ret ?_ rfl h
  obtain ⟨hl, hi⟩ := run_resAll hv
  show ((do let vs ← fn.results.mapM (resOf l); pure (if h : vs.size = 1 then vs[0] else .tuple vs)) : Sem Value).run P w = _
  rw [hr, Sem.run_bind, run_mapM _ rs.toArray w vs (by simpa using hl) (fun i x y hx hy => hi i x y (by simpa using hx) hy)]
  simp only [Result.andThen_ok]
  rw [dif_neg (by simp; omega)]
  rfl
end
end Go.Proofs.YthfnlmedelfbnaaDoorE
namespace Go.Proofs.YthfnlmedelfbnaaDoorE
open Go Go.RowKit
set_option linter.unusedSimpArgs false
set_option linter.unusedVariables false

section
variable {P : Program} {w : World} {ty : TypeId} {pos : String} {aft : Array Edge} {l : List Value} {d : Option Tmp} {g : Option (Nat × Bool)} {K : Value → Prop}
variable {t u : TypeId} {ts : Array TypeId} {x y z : Operand} {k : IntKind} {a b c : Int}

theorem g_min2 (hx : ev l x = .int k a) (hy : ev l y = .int k b) (h : K (.int k (min a b))) : Go1 P ⟨d, .call { callee := .builtin .min, args := #[x, y], argTypes := ts }, ty, pos, aft, g⟩ l w K := by
  have e : (if b < a then b else a) = min a b := by split <;> omega
  exact ⟨_, fun m _ => by simp [execOp, hx, hy, go_sem, resolve, invoke, Builtin.min_, Builtin.min2, e], h⟩
theorem g_max2 (hx : ev l x = .int k a) (hy : ev l y = .int k b) (h : K (.int k (max a b))) : Go1 P ⟨d, .call { callee := .builtin .max, args := #[x, y], argTypes := ts }, ty, pos, aft, g⟩ l w K := by
  have e : (if a < b then b else a) = max a b := by split <;> omega
  exact ⟨_, fun m _ => by simp [execOp, hx, hy, go_sem, resolve, invoke, Builtin.max_, Builtin.max2, e], h⟩
theorem g_min3 (hx : ev l x = .int k a) (hy : ev l y = .int k b) (hz : ev l z = .int k c) (h : K (.int k (min (min a b) c))) : Go1 P ⟨d, .call { callee := .builtin .min, args := #[x, y, z], argTypes := ts }, ty, pos, aft, g⟩ l w K := by
  have e : (if b < a then b else a) = min a b := by split <;> omega
  have e' : (if c < min a b then c else min a b) = min (min a b) c := by split <;> omega
  exact ⟨_, fun m _ => by simp [execOp, hx, hy, hz, go_sem, resolve, invoke, Builtin.min_, Builtin.min2, e, e'], h⟩
theorem g_quo (hx : ev l x = .int k a) (hy : ev l y = .int k b) (hb : b ≠ 0) (h : K (.int k (k.wrap (a.tdiv b)))) : Go1 P ⟨d, .binOp .quo t x y u, ty, pos, aft, g⟩ l w K :=
  ⟨_, fun n _ => by simp [execOp, hx, hy, go_sem, hb, Op.intDiv], h⟩
theorem g_rem (hx : ev l x = .int k a) (hy : ev l y = .int k b) (hb : b ≠ 0) (h : K (.int k (a.tmod b))) : Go1 P ⟨d, .binOp .rem t x y u, ty, pos, aft, g⟩ l w K :=
  ⟨_, fun n _ => by simp [execOp, hx, hy, go_sem, hb, Op.intDiv], h⟩
end
end Go.Proofs.YthfnlmedelfbnaaDoorE
namespace Go.Proofs.YthfnlmedelfbnaaDoorE
open Go Go.RowKit
set_option linter.unusedSimpArgs false
set_option linter.unusedVariables false

/-! unsigned words of 64 bits -/
theorem wrapU_in {a : Int} (h0 : 0 ≤ a) (h1 : a < 18446744073709551616) : IntKind.u64.wrap a = a := by rw [IntKind.wrap_u64]; omega
section
variable {P : Program} {w : World} {ty : TypeId} {pos : String} {aft : Array Edge} {l : List Value} {d : Option Tmp} {g : Option (Nat × Bool)} {K : Value → Prop}
variable {t u : TypeId} {x y : Operand} {k k2 : IntKind} {a b c : Int}

theorem g_addU (hx : ev l x = .int .u64 a) (hy : ev l y = .int .u64 b) (h0 : 0 ≤ a + b) (h1 : a + b < 18446744073709551616) (h : K (.int .u64 (a + b))) : Go1 P ⟨d, .binOp .add t x y u, ty, pos, aft, g⟩ l w K :=
  g_add hx hy (by rw [wrapU_in h0 h1]; exact h)
theorem g_subU (hx : ev l x = .int .u64 a) (hy : ev l y = .int .u64 b) (h0 : 0 ≤ a - b) (h1 : a - b < 18446744073709551616) (h : K (.int .u64 (a - b))) : Go1 P ⟨d, .binOp .sub t x y u, ty, pos, aft, g⟩ l w K :=
  g_sub hx hy (by rw [wrapU_in h0 h1]; exact h)
theorem g_mulU (hx : ev l x = .int .u64 a) (hy : ev l y = .int .u64 b) (h0 : 0 ≤ a * b) (h1 : a * b < 18446744073709551616) (h : K (.int .u64 (a * b))) : Go1 P ⟨d, .binOp .mul t x y u, ty, pos, aft, g⟩ l w K :=
  g_mul hx hy (by rw [wrapU_in h0 h1]; exact h)
theorem g_addUm (hx : ev l x = .int .u64 a) (hy : ev l y = .int .u64 b) (h : K (.int .u64 ((a + b) % 18446744073709551616))) : Go1 P ⟨d, .binOp .add t x y u, ty, pos, aft, g⟩ l w K := g_add hx hy (by rw [IntKind.wrap_u64]; exact h)
theorem g_subUm (hx : ev l x = .int .u64 a) (hy : ev l y = .int .u64 b) (h : K (.int .u64 ((a - b) % 18446744073709551616))) : Go1 P ⟨d, .binOp .sub t x y u, ty, pos, aft, g⟩ l w K := g_sub hx hy (by rw [IntKind.wrap_u64]; exact h)
theorem g_mulUm (hx : ev l x = .int .u64 a) (hy : ev l y = .int .u64 b) (h : K (.int .u64 ((a * b) % 18446744073709551616))) : Go1 P ⟨d, .binOp .mul t x y u, ty, pos, aft, g⟩ l w K := g_mul hx hy (by rw [IntKind.wrap_u64]; exact h)
/-- x >> n, the amount a number. -/
theorem g_shr (n : Nat) (c : Int) (hp : (2 : Int) ^ (min n k.bits) = c ∧ 0 < c) (hx : ev l x = .int k a) (hy : ev l y = .int k2 n) (h : K (.int k (a / c))) : Go1 P ⟨d, .binOp .shr t x y u, ty, pos, aft, g⟩ l w K := by
  refine ⟨_, fun w' _ => ?_, h⟩
  have e : a.fdiv c = a / c := Int.fdiv_eq_ediv_of_nonneg a (by omega)
  have hn : ¬ ((n : Int) < 0) := by omega
  rw [← e, ← hp.1]
  simp [execOp, hx, hy, go_sem, Op.shift, hn]
theorem g_shl (n : Nat) (c : Int) (hp : (2 : Int) ^ (min n k.bits) = c) (hx : ev l x = .int k a) (hy : ev l y = .int k2 n) (h : K (.int k (k.wrap (a * c)))) : Go1 P ⟨d, .binOp .shl t x y u, ty, pos, aft, g⟩ l w K := by
  refine ⟨_, fun w' _ => ?_, h⟩
  have hn : ¬ ((n : Int) < 0) := by omega
  rw [← hp]
  simp [execOp, hx, hy, go_sem, Op.shift, hn]
theorem run_and {a b : Int} (w : World) : (Op.intBits .and .u64 a b).run P w = .ok (.int .u64 (bits .and .u64 a b)) w := by
  simp [Op.intBits, bits, go_sem]
/-- x & (2^32 - 1), x & 1 -/
theorem g_mask32 (hx : ev l x = .int .u64 a) (hy : ev l y = .int .u64 4294967295) (h0 : 0 ≤ a) (h1 : a < 18446744073709551616) (h : K (.int .u64 (a % 4294967296))) : Go1 P ⟨d, .binOp .and t x y u, ty, pos, aft, g⟩ l w K := by
  refine ⟨_, fun w' _ => ?_, h⟩
  obtain ⟨n, rfl⟩ := Int.eq_ofNat_of_zero_le h0
  have e := bits_and_u64_nat n 4294967295 (by omega) (by omega)
  have e2 : n &&& 4294967295 = n % 4294967296 := Nat.and_two_pow_sub_one_eq_mod n 32
  rw [e2] at e
  have e3 : bits .and .u64 (n : Int) 4294967295 = (n : Int) % 4294967296 := by
    have : ((4294967295 : Nat) : Int) = 4294967295 := rfl
    rw [← this, e]; omega
  simp [execOp, hx, hy, go_sem, run_and, e3]
theorem g_mask1 (hx : ev l x = .int .u64 a) (hy : ev l y = .int .u64 1) (h0 : 0 ≤ a) (h1 : a < 18446744073709551616) (h : K (.int .u64 (a % 2))) : Go1 P ⟨d, .binOp .and t x y u, ty, pos, aft, g⟩ l w K := by
  refine ⟨_, fun w' _ => ?_, h⟩
  obtain ⟨n, rfl⟩ := Int.eq_ofNat_of_zero_le h0
  have e := bits_and_u64_nat n 1 (by omega) (by omega)
  have e2 : n &&& 1 = n % 2 := Nat.and_one_is_mod n
  rw [e2] at e
  have e3 : bits .and .u64 (n : Int) 1 = (n : Int) % 2 := by
    have : ((1 : Nat) : Int) = 1 := rfl
    rw [← this, e]; omega
  simp [execOp, hx, hy, go_sem, run_and, e3]
theorem g_neg (hx : ev l x = .int k a) (h : K (.int k (k.wrap (0 - a)))) : Go1 P ⟨d, .unOp .neg t x, ty, pos, aft, g⟩ l w K :=
  ⟨_, fun w' _ => by simp [execOp, hx, go_sem, Op.unary], h⟩
end
end Go.Proofs.YthfnlmedelfbnaaDoorE
namespace Go.Proofs.YthfnlmedelfbnaaDoorE
open Go Go.RowKit
set_option linter.unusedSimpArgs false
set_option linter.unusedVariables false

/-- The head's operations one by one (so many), behind them the tail. -/
def wpTail (P : Program) (ops : Array Oper) (w : World) (Q : Exit → Act → World → Prop) : Nat → List Oper → Act → Prop
  | 0, rest, a => wpList P ops Q rest a w
  | _ + 1, [], _ => False
  | n + 1, o :: rest, a => if Region.wanted o (yielded ops a.tmps) then o.still P a w (wpTail P ops w Q n rest) else wpTail P ops w Q n rest (a.put o.dst undef)
section
variable {P : Program} {ops : Array Oper} {rest : List Oper} {w : World} {Q : Exit → Act → World → Prop} {ty : TypeId} {pos : String} {aft : Array Edge} {l : List Value} {ds : List Deferred} {N : Tmp} {op : Op} {n : Nat}
theorem wpTail_still : ∀ (n : Nat) (l : List Oper) (a : Act), wpTail P ops w Q n l a → wpStill P ops w (fun a' => wpList P ops Q (l.drop n) a' w) (l.take n) a := by
  intro n
  induction n with
  | zero => intro l a h; exact h
  | succ n ih =>
    intro l a h
    cases l with
    | nil => exact h.elim
    | cons o l =>
      unfold wpTail at h
      simp only [List.take_succ_cons, List.drop_succ_cons]
      unfold wpStill
      by_cases hw : Region.wanted o (yielded ops a.tmps) = true
      · rw [if_pos hw] at h ⊢
        exact Oper.still_mono (fun a' ha => ih l a' ha) h
      · rw [if_neg hw] at h ⊢
        exact ih l _ h
theorem w_tail {id : Nat} {a : Act} {lops : List Oper} (n : Nat) (hm : P.follows .mixedOrders = true) (hB : Region.lexTailB .any lops.toArray n = true)
    (h : ∀ wd, Evt (fun _ => False) w wd → w.heap.size ≤ wd.heap.size → wpTail P lops.toArray wd Q n lops a) : (Code.region id lops.toArray true).wp P Q a w :=
  wp_region_still_tail n hm hB (wpTail_still n lops a (h _ ⟨rfl, rfl, rfl, Nat.le_refl _, fun _ _ _ => rfl⟩ (Nat.le_refl _)))
theorem t_done {a : Act} (h : wpList P ops Q rest a w) : wpTail P ops w Q 0 rest a := h
theorem t_step (h : Go1 P ⟨some N, op, ty, pos, aft, none⟩ l w (fun v => wpTail P ops w Q n rest ⟨(l.set N v).toArray, ds⟩)) : wpTail P ops w Q (n + 1) (⟨some N, op, ty, pos, aft, none⟩ :: rest) ⟨l.toArray, ds⟩ := by
  obtain ⟨v, hr, h⟩ := h
  unfold wpTail
  rw [if_pos (by simp [Region.wanted])]
  unfold Oper.still
  rw [ev_eq, hr w (Evt.refl _ _), Oper.stillUpon_value]
  simpa [Act.put] using h
theorem t_on {d : Option Tmp} {gi : Nat} {gb : Bool} {a : Act} (hw : Region.wanted ⟨d, op, ty, pos, aft, some (gi, gb)⟩ (yielded ops a.tmps) = true) (h : wpTail P ops w Q (n + 1) (⟨d, op, ty, pos, aft, none⟩ :: rest) a) : wpTail P ops w Q (n + 1) (⟨d, op, ty, pos, aft, some (gi, gb)⟩ :: rest) a := by
  unfold wpTail at h ⊢
  rw [if_pos hw]
  rw [if_pos (by simp [Region.wanted])] at h
  exact h
theorem t_off {gg : Nat × Bool} (hw : Region.wanted ⟨some N, op, ty, pos, aft, some gg⟩ (yielded ops l.toArray) = false) (h : wpTail P ops w Q n rest ⟨(l.set N undef).toArray, ds⟩) : wpTail P ops w Q (n + 1) (⟨some N, op, ty, pos, aft, some gg⟩ :: rest) ⟨l.toArray, ds⟩ := by
  unfold wpTail
  rw [if_neg (by simp [hw])]
  simpa [Act.put] using h
/-- A call in the head that leaves the world as it is. -/
theorem t_call {f : FuncId} {as : Array Operand} {ts : Array TypeId} {args : List Value} (hent : ∀ args w, (callFunc f args).run P w = .ok (.enter f args) w) (hargs : as.toList.map (ev l) = args) {v : Value}
    (hc : Calls P f args.toArray w fun e w' => e = .returned v ∧ w' = w)
    (h : wpTail P ops w Q n rest ⟨(l.set N v).toArray, ds⟩) :
    wpTail P ops w Q (n + 1) (⟨some N, .call { callee := .value (.func f), args := as, argTypes := ts }, ty, pos, aft, none⟩ :: rest) ⟨l.toArray, ds⟩ := by
  unfold wpTail
  rw [if_pos (by simp [Region.wanted])]
  have hrun : (execOp (ev l) ⟨some N, .call { callee := .value (.func f), args := as, argTypes := ts }, ty, pos, aft, none⟩).run P w = .ok (.enter f args.toArray) w := by
    have ha : as.map (ev l) = args.toArray := by rw [← hargs]; apply Array.ext'; simp
    unfold execOp
    simp [resolve, Deferred.ofValue, invoke, ha, hent, ev]
  unfold Oper.still
  rw [ev_eq, hrun]
  exact ⟨rfl, v, hc, by simpa [Act.put] using h⟩
end
section
variable {P : Program} {w : World} {ty : TypeId} {pos : String} {aft : Array Edge} {l : List Value} {d : Option Tmp} {g : Option (Nat × Bool)} {K : Value → Prop}
variable {t u : TypeId} {x y : Operand} {k k2 : IntKind} {a b c : Int}
theorem g_shr32 (hx : ev l x = .int .u64 a) (hy : ev l y = .int k2 32) (h : K (.int .u64 (a / 4294967296))) : Go1 P ⟨d, .binOp .shr t x y u, ty, pos, aft, g⟩ l w K := g_shr 32 4294967296 (by decide) hx hy h
theorem g_shr8 (hx : ev l x = .int .u64 a) (hy : ev l y = .int k2 8) (h : K (.int .u64 (a / 256))) : Go1 P ⟨d, .binOp .shr t x y u, ty, pos, aft, g⟩ l w K := g_shr 8 256 (by decide) hx hy h
theorem g_shr50 (hx : ev l x = .int .u64 a) (hy : ev l y = .int k2 50) (h : K (.int .u64 (a / 1125899906842624))) : Go1 P ⟨d, .binOp .shr t x y u, ty, pos, aft, g⟩ l w K := g_shr 50 1125899906842624 (by decide) hx hy h
theorem g_shr14 (hx : ev l x = .int .u64 a) (hy : ev l y = .int k2 14) (h : K (.int .u64 (a / 16384))) : Go1 P ⟨d, .binOp .shr t x y u, ty, pos, aft, g⟩ l w K := g_shr 14 16384 (by decide) hx hy h
theorem g_shl50 (hx : ev l x = .int .u64 a) (hy : ev l y = .int k2 50) (h : K (.int .u64 (a * 1125899906842624 % 18446744073709551616))) : Go1 P ⟨d, .binOp .shl t x y u, ty, pos, aft, g⟩ l w K := g_shl 50 1125899906842624 (by decide) hx hy (by rw [IntKind.wrap_u64]; exact h)
theorem run_or {a b : Int} (w : World) : (Op.intBits .or .u64 a b).run P w = .ok (.int .u64 (bits .or .u64 a b)) w := by
  simp [Op.intBits, bits, go_sem]
/-- a of 2^50 parts, b below 2^50: laid side by side. -/
theorem g_or50 {h0 : Int} (hx : ev l x = .int .u64 a) (hy : ev l y = .int .u64 b) (ha : a = h0 * 1125899906842624) (h1 : 0 ≤ h0) (h2 : a < 18446744073709551616) (h3 : 0 ≤ b) (h4 : b < 1125899906842624) (h : K (.int .u64 (a + b))) : Go1 P ⟨d, .binOp .or t x y u, ty, pos, aft, g⟩ l w K := by
  refine ⟨_, fun w' _ => ?_, h⟩
  obtain ⟨m, rfl⟩ := Int.eq_ofNat_of_zero_le h1
  obtain ⟨n, rfl⟩ := Int.eq_ofNat_of_zero_le h3
  have hn : n < 2 ^ 50 := by have : (2 : Nat) ^ 50 = 1125899906842624 := by decide
                             omega
  have e := bits_or_u64_nat (2 ^ 50 * m) n (by have : (2 : Nat) ^ 50 = 1125899906842624 := by decide
                                               rw [this]; omega) (by omega)
  have e2 : 2 ^ 50 * m ||| n = 2 ^ 50 * m + n := (Nat.two_pow_add_eq_or_of_lt hn m).symm
  rw [e2] at e
  have e4 : ((2 ^ 50 * m : Nat) : Int) = a := by have : (2 : Nat) ^ 50 = 1125899906842624 := by decide
                                                 rw [this]; omega
  have e3 : bits .or .u64 a (n : Int) = a + n := by
    rw [← e4, e]; rfl
  simp [execOp, hx, hy, go_sem, run_or, e3]
/-- A value that is reckoned of literals alone. -/
theorem g_lit {op : Op} {v : Value} (hr : ∀ w', (execOp (ev l) ⟨d, op, ty, pos, aft, g⟩).run P w' = .ok (.value v) w') (h : K v) : Go1 P ⟨d, op, ty, pos, aft, g⟩ l w K := ⟨v, fun w' _ => hr w', h⟩
/-- The same value by another name. -/
theorem g_as {o : Oper} {a' : Int} (h : Go1 P o l w fun v => ∃ b, v = .int k b ∧ b = a' ∧ K (.int k a')) : Go1 P o l w K := by
  obtain ⟨v, hr, b, rfl, rfl, hk⟩ := h
  exact ⟨_, hr, hk⟩
theorem g_convU {s t : TypeId} {k : IntKind} (hx : ev l x = .int k2 a) [hs : TInt P s k] [ht : TInt P t .u64] (h0 : 0 ≤ a) (h1 : a < 18446744073709551616) (h : K (.int .u64 a)) : Go1 P ⟨d, .convert s t x, ty, pos, aft, g⟩ l w K :=
  g_convInt hx (by rw [wrapU_in h0 h1]; exact h)
theorem g_convI {s t : TypeId} {k : IntKind} (hx : ev l x = .int k2 a) [hs : TInt P s k] [ht : TInt P t .i64] (h0 : -9223372036854775808 ≤ a) (h1 : a ≤ 9223372036854775807) (h : K (.int .i64 a)) : Go1 P ⟨d, .convert s t x, ty, pos, aft, g⟩ l w K :=
  g_convInt hx (by rw [IntWalk.i64_in _ (by omega)]; exact h)
theorem g_quoI (hx : ev l x = .int .i64 a) (hy : ev l y = .int .i64 b) (h0 : 0 ≤ a) (h1 : a ≤ 9223372036854775807) (hb : 0 < b) (h : K (.int .i64 (a / b))) : Go1 P ⟨d, .binOp .quo t x y u, ty, pos, aft, g⟩ l w K := by
  have e1 : a.tdiv b = a / b := Int.tdiv_eq_ediv_of_nonneg h0
  have e2 : 0 ≤ a / b := Int.ediv_nonneg h0 (by omega)
  have e3 : a / b ≤ a := Int.ediv_le_self b h0
  exact g_quo hx hy (by omega) (by rw [e1, IntWalk.i64_in _ (by omega)]; exact h)
theorem g_quoU (hx : ev l x = .int .u64 a) (hy : ev l y = .int .u64 b) (h0 : 0 ≤ a) (h1 : a < 18446744073709551616) (hb : 0 < b) (h : K (.int .u64 (a / b))) : Go1 P ⟨d, .binOp .quo t x y u, ty, pos, aft, g⟩ l w K := by
  have e1 : a.tdiv b = a / b := Int.tdiv_eq_ediv_of_nonneg h0
  have e2 : 0 ≤ a / b := Int.ediv_nonneg h0 (by omega)
  have e3 : a / b ≤ a := Int.ediv_le_self b h0
  exact g_quo hx hy (by omega) (by rw [e1, wrapU_in e2 (by omega)]; exact h)
theorem g_remN (hx : ev l x = .int k a) (hy : ev l y = .int k b) (h0 : 0 ≤ a) (hb : 0 < b) (h : K (.int k (a % b))) : Go1 P ⟨d, .binOp .rem t x y u, ty, pos, aft, g⟩ l w K := by
  have e1 : a.tmod b = a % b := Int.tmod_eq_emod_of_nonneg h0
  exact g_rem hx hy (by omega) (by rw [e1]; exact h)
theorem g_eqlBTT (hx : ev l x = .bool true) (hy : ev l y = .bool true) [ht : TBool P t] (h : K (.bool true)) : Go1 P ⟨d, .binOp .eql t x y u, ty, pos, aft, g⟩ l w K := g_eqlB hx hy (fun _ => h) (fun c => absurd rfl c)
theorem g_eqlBTF (hx : ev l x = .bool true) (hy : ev l y = .bool false) [ht : TBool P t] (h : K (.bool false)) : Go1 P ⟨d, .binOp .eql t x y u, ty, pos, aft, g⟩ l w K := g_eqlB hx hy (fun c => by cases c) (fun _ => h)
theorem g_eqlBFT (hx : ev l x = .bool false) (hy : ev l y = .bool true) [ht : TBool P t] (h : K (.bool false)) : Go1 P ⟨d, .binOp .eql t x y u, ty, pos, aft, g⟩ l w K := g_eqlB hx hy (fun c => by cases c) (fun _ => h)
theorem g_eqlBFF (hx : ev l x = .bool false) (hy : ev l y = .bool false) [ht : TBool P t] (h : K (.bool true)) : Go1 P ⟨d, .binOp .eql t x y u, ty, pos, aft, g⟩ l w K := g_eqlB hx hy (fun _ => h) (fun c => absurd rfl c)
theorem g_neqBTT (hx : ev l x = .bool true) (hy : ev l y = .bool true) [ht : TBool P t] (h : K (.bool false)) : Go1 P ⟨d, .binOp .neq t x y u, ty, pos, aft, g⟩ l w K := g_neqB hx hy (fun c => absurd rfl c) (fun _ => h)
theorem g_neqBTF (hx : ev l x = .bool true) (hy : ev l y = .bool false) [ht : TBool P t] (h : K (.bool true)) : Go1 P ⟨d, .binOp .neq t x y u, ty, pos, aft, g⟩ l w K := g_neqB hx hy (fun _ => h) (fun c => by cases c)
theorem g_neqBFT (hx : ev l x = .bool false) (hy : ev l y = .bool true) [ht : TBool P t] (h : K (.bool true)) : Go1 P ⟨d, .binOp .neq t x y u, ty, pos, aft, g⟩ l w K := g_neqB hx hy (fun _ => h) (fun c => by cases c)
theorem g_neqBFF (hx : ev l x = .bool false) (hy : ev l y = .bool false) [ht : TBool P t] (h : K (.bool false)) : Go1 P ⟨d, .binOp .neq t x y u, ty, pos, aft, g⟩ l w K := g_neqB hx hy (fun c => absurd rfl c) (fun _ => h)
end
/-! what is known of an elder world, of a later one: the steps between are found by themselves -/
theorem be {S : Nat → Prop} {w w' : World} {g : Nat} {t : TypeId} {cs : List Value} (he : Evt S w w' := by assumption) (h : Blk w g t cs) (hs : ¬ S g := by first | exact id | omega | assumption) : Blk w' g t cs := h.evt he hs
theorem ce {S : Nat → Prop} {w w' : World} {a : Addr} {v : Value} (he : Evt S w w' := by assumption) (h : w.cell? a = some v) (hs : ¬ S a.block := by first | exact id | (simp only []; omega) | omega | assumption) : w'.cell? a = some v := cell_evt he h hs
theorem oe {S : Nat → Prop} {w w' : World} {e : TypeId} {sz n : Nat} {v : Value} {xs : List Value} (he : Evt S w w' := by assumption) (h : w.ownsRow 0 e sz v n xs) (hs : ∀ k, v.ownBlock = some k → ¬ S k := by first | exact fun _ _ h => h | assumption) : w'.ownsRow 0 e sz v n xs := own_evt he h hs
/-! short names of what the walk's frames are brought to form by -/
/-! the same, as deep as it takes: short to write -/
theorem en {S T : Nat → Prop} {a b c : World} (he : Evt S b c := by assumption) (h : Evt T a b) (hs : ∀ i, i < a.heap.size → S i → T i := by first | exact fun _ _ h => h | exact fun _ _ h => False.elim h | exact fun _ _ h => Or.inl h | exact fun _ _ h => Or.inr h | exact fun _ _ h => Or.inr (Or.inl h) | exact fun _ _ h => Or.inr (Or.inr h) | (intro i hi h; exfalso; have h' : i = _ := h; omega) | (intro i hi h; exfalso; have h' := hlb i h; omega)) : Evt T a c := Evt.next he h hs
theorem bqq {w : World} {g : Nat} {t : TypeId} {cs : List Value} (h : Blk w g t cs := by first | assumption | exact be (h := by first | assumption | exact be (h := by first | assumption | exact be (h := by first | assumption | exact be (h := by first | assumption | exact be (h := by first | assumption | exact be (h := by first | assumption | exact be (h := by first | assumption | exact be (h := by first | assumption | exact be (h := by first | assumption | exact be (h := by first | assumption | exact be (h := by first | assumption | exact be (h := by first | assumption | exact be (h := by first | assumption | exact be (h := by first | assumption))))))))))))))) : Blk w g t cs := h
theorem cqq {w : World} {a : Addr} {v : Value} (h : w.cell? a = some v := by first | assumption | exact ce (h := by first | assumption | exact ce (h := by first | assumption | exact ce (h := by first | assumption | exact ce (h := by first | assumption | exact ce (h := by first | assumption | exact ce (h := by first | assumption | exact ce (h := by first | assumption | exact ce (h := by first | assumption | exact ce (h := by first | assumption | exact ce (h := by first | assumption | exact ce (h := by first | assumption | exact ce (h := by first | assumption | exact ce (h := by first | assumption | exact ce (h := by first | assumption))))))))))))))) : w.cell? a = some v := h
theorem oqq {w : World} {e : TypeId} {sz n : Nat} {v : Value} {xs : List Value} (h : w.ownsRow 0 e sz v n xs := by first | assumption | exact oe (h := by first | assumption | exact oe (h := by first | assumption | exact oe (h := by first | assumption | exact oe (h := by first | assumption | exact oe (h := by first | assumption | exact oe (h := by first | assumption | exact oe (h := by first | assumption) (hs := by first | exact fun _ _ h => h | assumption | (intro k hk hg; have h1 := hnewO k hk; have h2 := hltO k hk; have h3 : k = _ := hg; omega))) (hs := by first | exact fun _ _ h => h | assumption | (intro k hk hg; have h1 := hnewO k hk; have h2 := hltO k hk; have h3 : k = _ := hg; omega))) (hs := by first | exact fun _ _ h => h | assumption | (intro k hk hg; have h1 := hnewO k hk; have h2 := hltO k hk; have h3 : k = _ := hg; omega))) (hs := by first | exact fun _ _ h => h | assumption | (intro k hk hg; have h1 := hnewO k hk; have h2 := hltO k hk; have h3 : k = _ := hg; omega))) (hs := by first | exact fun _ _ h => h | assumption | (intro k hk hg; have h1 := hnewO k hk; have h2 := hltO k hk; have h3 : k = _ := hg; omega))) (hs := by first | exact fun _ _ h => h | assumption | (intro k hk hg; have h1 := hnewO k hk; have h2 := hltO k hk; have h3 : k = _ := hg; omega))) (hs := by first | exact fun _ _ h => h | assumption | (intro k hk hg; have h1 := hnewO k hk; have h2 := hltO k hk; have h3 : k = _ := hg; omega))) : w.ownsRow 0 e sz v n xs := h
theorem eqq {S : Nat → Prop} {w w' : World} (h : Evt S w w' := by first | assumption | exact Evt.refl _ _ | exact en (h := by first | assumption | exact Evt.refl _ _ | exact en (h := by first | assumption | exact Evt.refl _ _ | exact en (h := by first | assumption | exact Evt.refl _ _ | exact en (h := by first | assumption | exact Evt.refl _ _ | exact en (h := by first | assumption | exact Evt.refl _ _ | exact en (h := by first | assumption | exact Evt.refl _ _ | exact en (h := by first | assumption | exact Evt.refl _ _ | exact en (h := by first | assumption | exact Evt.refl _ _ | exact en (h := by first | assumption | exact Evt.refl _ _ | exact en (h := by first | assumption | exact Evt.refl _ _ | exact en (h := by first | assumption | exact Evt.refl _ _ | exact en (h := by first | assumption | exact Evt.refl _ _ | exact en (h := by first | assumption | exact Evt.refl _ _ | exact en (h := by first | assumption | exact Evt.refl _ _ | exact en (h := by first | assumption | exact Evt.refl _ _ | exact en (h := by first | assumption | exact Evt.refl _ _ | exact en (h := by first | assumption | exact Evt.refl _ _ | exact en (h := by first | assumption | exact Evt.refl _ _ | exact en (h := by first | assumption | exact Evt.refl _ _ | exact en (h := by first | assumption | exact Evt.refl _ _ | exact en (h := by first | assumption | exact Evt.refl _ _ | exact en (h := by first | assumption | exact Evt.refl _ _ | exact en (h := by first | assumption | exact Evt.refl _ _ | exact en (h := by first | assumption | exact Evt.refl _ _))))))))))))))))))))))))) : Evt S w w' := h
theorem zA {α : Type} (a : α) (l : List α) (i : Nat) (x : α) : (a :: l).set (i + 1) x = a :: l.set i x := rfl
theorem zB {α : Type} (a : α) (l : List α) (x : α) : (a :: l).set 0 x = x :: l := rfl
theorem zC {α β : Type} (f : α → β) (a : α) (l : List α) : (a :: l).map f = f a :: l.map f := rfl
theorem zD {α β : Type} (f : α → β) : ([] : List α).map f = [] := rfl
theorem zE {α : Type} (l : List α) : l.drop 0 = l := rfl
theorem zF {α : Type} (a : α) (l : List α) (i : Nat) : (a :: l).drop (i + 1) = l.drop i := rfl
theorem zG {α : Type} (l : List α) : l.take 0 = [] := rfl
theorem zH {α : Type} (a : α) (l : List α) (i : Nat) : (a :: l).take (i + 1) = a :: l.take i := rfl
theorem zI (n : Nat) : (n : Int).toNat = n := rfl
theorem zJ : Int.toNat 0 = 0 := rfl
theorem zK (n : Nat) : n * 1 = n := Nat.mul_one n
theorem zL (n : Nat) : 0 * n = 0 := Nat.zero_mul n
theorem zM (n : Nat) : 0 + n = n := Nat.zero_add n
theorem zN (n : Nat) : n + 0 = n := rfl
/-- A cut behind a statement: the listed slots are those that it writes. -/
theorem s_cut {P : Program} {Q : Exit → Act → World → Prop} {l : List Value} {ds : List Deferred} {w : World} {id : Nat} {ops : Array Oper} {dr : Bool} {c c2 : Code} (W : List Nat) (J : (Nat → Value) → World → Prop)
    (h1 : ((Code.region id ops dr).seq c).wp P (Exit.then (fun a w' => ∃ l', a = ⟨l'.toArray, ds⟩ ∧ setW l' W (fun _ => undef) = setW l W (fun _ => undef) ∧ J (lget l') w') Q) ⟨l.toArray, ds⟩ w)
    (h2 : ∀ u w', J u w' → c2.wp P Q ⟨(setW l W u).toArray, ds⟩ w') : (((Code.region id ops dr).seq c).seq c2).wp P Q ⟨l.toArray, ds⟩ w := by
  refine wp_seq (wp_mono h1 ?_)
  intro e a w' hq
  cases e with
  | normal =>
    obtain ⟨l', rfl, hs, hJ⟩ := hq
    have hl' : setW l W (lget l') = l' := by rw [← setW_over W (lget l') (fun _ => undef) l, ← hs, setW_over, setW_self]
    have := h2 _ _ hJ
    rw [hl'] at this
    exact this
  | _ => exact hq
end Go.Proofs.YthfnlmedelfbnaaDoorE
