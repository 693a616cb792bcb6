/- Step rules, one an operation. -/
import Derived.Test.YtchfkkliechgoaaEng
namespace Go.Proofs.YtchfkkliechgoaaE
open Go.RowKit
set_option linter.unusedSimpArgs false
set_option linter.unusedVariables false

/-! ### what is known of types and functions -/
def fsz (os : List Nat) (n i : Nat) : Nat := (os[i + 1]?).getD n - (os[i]?).getD 0
def structB (P : Program) (t : TypeId) (os : List Nat) (n : Nat) : Bool :=
  (match P.underlying t with
   | some (.struct fs) => fs.size == os.length && (List.range fs.size).all fun i => match fs[i]?, os[i]? with
      | some f, some off => f.offset == off && (match P.info? f.type with | some inf => inf.size != 0 && inf.size == fsz os n i | none => false)
      | _, _ => false
   | _ => false) && (match P.info? t with | some inf => inf.size == n | none => false)
class TStruct (P : Program) (t : TypeId) (os : outParam (List Nat)) (n : outParam Nat) : Prop where
  ok : structB P t os n = true
def scalB (P : Program) (t : TypeId) : Bool := match P.underlying t with | some (.struct _) | some (.array _ _) | none => false | _ => (match P.info? t with | some inf => inf.size == 1 | none => false)
class TScal (P : Program) (t : TypeId) : Prop where
  ok : scalB P t = true
class TZero (P : Program) (t : TypeId) (z : outParam Value) : Prop where
  ok : (P.info? t).map (·.zero) = some (some z)
class TSlice (P : Program) (t : TypeId) (e : outParam TypeId) (sz bytes : outParam Nat) : Prop where
  ok : P.underlying t = some (.slice e)
  info : (P.info? e).map (fun i => (i.size, i.bytes)) = some (sz, bytes)
class TInt (P : Program) (t : TypeId) (k : outParam IntKind) : Prop where
  ok : P.underlying t = some (.int k)
class TBool (P : Program) (t : TypeId) : Prop where
  ok : P.underlying t = some .bool
class TStr (P : Program) (t : TypeId) : Prop where
  ok : P.underlying t = some .string
class TFn (P : Program) (f : FuncId) : Prop where
  ent : ∀ args w, (callFunc f args).run P w = .ok (.enter f args) w

/-- One step more, on what an elder world is. -/
theorem Evt.next {S T : Nat → Prop} {a b c : World} (k : Evt T b c) (h : Evt S a b) (hs : ∀ i, i < a.heap.size → T i → S i) : Evt S a c :=
  ⟨k.os.trans h.os, k.tape.trans h.tape, k.output.trans h.output, Nat.le_trans h.size k.size, fun i hi hn => (k.block i (Nat.lt_of_lt_of_le hi h.size) (fun t => hn (hs i hi t))).trans (h.block i hi hn)⟩
theorem Evt.drewN {S : Nat → Prop} (w : World) (n : Nat) : Evt S w (w.drewN n) := ⟨rfl, rfl, rfl, Nat.le_refl _, fun _ _ _ => rfl⟩
theorem Evt.alloc {S : Nat → Prop} (w : World) (o : Obj) : Evt S w (w.alloc o) := ⟨rfl, rfl, rfl, by simp, fun k hk _ => Below.heap_alloc _ _ _ hk⟩
theorem Evt.setCell (w : World) (a : Addr) (v : Value) : Evt (· = a.block) w (w.setCell a v) := ⟨rfl, rfl, rfl, by simp [World.setCell], fun k _ hs => Below.heap_setCell _ _ _ _ hs⟩
theorem Blk.evt {S : Nat → Prop} {w w' : World} {g : Nat} {t : TypeId} {cs : List Value} (he : Evt S w w') (h : Blk w g t cs) (hs : ¬ S g) : Blk w' g t cs := (he.block g h.lt hs).trans h
theorem cell_evt {S : Nat → Prop} {w w' : World} {a : Addr} {v : Value} (he : Evt S w w') (h : w.cell? a = some v) (hs : ¬ S a.block) : w'.cell? a = some v :=
  (World.cell?_of_block (he.block a.block (World.block_lt_of_cell? w a h) hs)).trans h

section
variable {P : Program} {w : World} {ty : TypeId} {pos : String} {aft : Array Edge} {l : List Value} {d : Option Tmp} {g : Option (Nat × Bool)} {K : Value → Prop}

theorem TStruct.und {t : TypeId} {os : List Nat} {n : Nat} (h : TStruct P t os n) : ∃ fs, P.underlying t = some (.struct fs) ∧ (P.info? t).map (·.size) = some n ∧ ∀ (i off : Nat), os[i]? = some off → ∃ f inf, fs[i]? = some f ∧ P.info? f.type = some inf ∧ inf.size ≠ 0 ∧ f.offset = off ∧ inf.size = fsz os n i := by
  have hk := h.ok
  unfold structB at hk
  rw [Bool.and_eq_true] at hk
  obtain ⟨h1, h2⟩ := hk
  split at h1
  · rename_i fs hu
    refine ⟨fs, hu, ?_, fun i off hi => ?_⟩
    · cases hq : P.info? t with
      | none => simp [hq] at h2
      | some inf => simp [hq] at h2; simp [h2]
    · simp only [Bool.and_eq_true, beq_iff_eq] at h1
      have hlt : i < fs.size := by rw [h1.1]; exact (List.getElem?_eq_some_iff.1 hi).1
      have := List.all_eq_true.1 h1.2 i (List.mem_range.2 hlt)
      rw [hi, Array.getElem?_eq_getElem hlt] at this
      simp only [Bool.and_eq_true, beq_iff_eq] at this
      cases hq : P.info? fs[i].type with
      | none => simp [hq] at this
      | some inf =>
        simp [hq] at this
        exact ⟨fs[i], inf, Array.getElem?_eq_getElem hlt, hq, this.2.1, this.1, this.2.2⟩
  · simp at h1
theorem run_sizeOf {t : TypeId} {n : Nat} (h : (P.info? t).map (·.size) = some n) (w : World) : (sizeOf t).run P w = .ok n w := by
  cases hq : P.info? t with
  | none => simp [hq] at h
  | some inf =>
    have : inf.size = n := by simpa [hq] using h
    simp [sizeOf, typeInfo, program, Sem.run_bind, Sem.run, hq, this]
theorem run_isAgg_struct {t : TypeId} {os : List Nat} {n : Nat} (h : TStruct P t os n) (w : World) : (isAgg t).run P w = .ok true w := by
  obtain ⟨fs, hu, _⟩ := h.und
  simp [isAgg, Sem.run_bind, run_underlying hu]
theorem run_isAgg_scal {t : TypeId} (h : TScal P t) (w : World) : (isAgg t).run P w = .ok false w := by
  have hk := h.ok
  unfold scalB at hk
  cases hq : P.underlying t with
  | none => simp [hq] at hk
  | some dd => cases dd <;> simp_all [isAgg, Sem.run_bind, run_underlying hq]
theorem run_sizeOf_scal {t : TypeId} (h : TScal P t) (w : World) : (sizeOf t).run P w = .ok 1 w := by
  have hk := h.ok
  unfold scalB at hk
  refine run_sizeOf ?_ w
  cases hq : P.info? t with
  | none => rw [hq] at hk; cases hu : P.underlying t with
    | none => simp [hu] at hk
    | some dd => cases dd <;> simp [hu] at hk
  | some inf => rw [hq] at hk; cases hu : P.underlying t with
    | none => simp [hu] at hk
    | some dd => cases dd <;> simp [hu] at hk <;> simp [hk]

theorem g_move {x : Operand} (h : K (ev l x)) : Go1 P ⟨d, .move x, ty, pos, aft, g⟩ l w K := ⟨_, fun n _ => by simp [execOp, go_sem], h⟩
theorem g_assign {x : Operand} (h : K (ev l x)) : Go1 P ⟨d, .assign x, ty, pos, aft, g⟩ l w K := ⟨_, fun n _ => by simp [execOp, go_sem], h⟩
theorem g_pickT {x y z : Operand} (hc : ev l x = .bool true) (h : K (ev l y)) : Go1 P ⟨d, .pick x y z, ty, pos, aft, g⟩ l w K := ⟨_, fun n _ => by simp [execOp, hc, go_sem], h⟩
theorem g_pickF {x y z : Operand} (hc : ev l x = .bool false) (h : K (ev l z)) : Go1 P ⟨d, .pick x y z, ty, pos, aft, g⟩ l w K := ⟨_, fun n _ => by simp [execOp, hc, go_sem], h⟩

section
variable {t u : TypeId} {x y : Operand} {k : IntKind} {a b : Int} (hx : ev l x = .int k a) (hy : ev l y = .int k b)
include hx hy
theorem g_add (h : K (.int k (k.wrap (a + b)))) : Go1 P ⟨d, .binOp .add t x y u, ty, pos, aft, g⟩ l w K := ⟨_, fun n _ => by simp [execOp, hx, hy, go_sem], h⟩
theorem g_sub (h : K (.int k (k.wrap (a - b)))) : Go1 P ⟨d, .binOp .sub t x y u, ty, pos, aft, g⟩ l w K := ⟨_, fun n _ => by simp [execOp, hx, hy, go_sem], h⟩
theorem g_mul (h : K (.int k (k.wrap (a * b)))) : Go1 P ⟨d, .binOp .mul t x y u, ty, pos, aft, g⟩ l w K := ⟨_, fun n _ => by simp [execOp, hx, hy, go_sem], h⟩
theorem g_lss (h1 : a < b → K (.bool true)) (h2 : b ≤ a → K (.bool false)) : Go1 P ⟨d, .binOp .lss t x y u, ty, pos, aft, g⟩ l w K := by
  by_cases c : a < b
  · exact ⟨_, fun n _ => by simp [execOp, hx, hy, go_sem]; exact c, h1 c⟩
  · exact ⟨_, fun n _ => by simp [execOp, hx, hy, go_sem]; omega, h2 (by omega)⟩
theorem g_leq (h1 : a ≤ b → K (.bool true)) (h2 : b < a → K (.bool false)) : Go1 P ⟨d, .binOp .leq t x y u, ty, pos, aft, g⟩ l w K := by
  by_cases c : a ≤ b
  · exact ⟨_, fun n _ => by simp [execOp, hx, hy, go_sem]; exact c, h1 c⟩
  · exact ⟨_, fun n _ => by simp [execOp, hx, hy, go_sem]; omega, h2 (by omega)⟩
theorem g_gtr (h1 : b < a → K (.bool true)) (h2 : a ≤ b → K (.bool false)) : Go1 P ⟨d, .binOp .gtr t x y u, ty, pos, aft, g⟩ l w K := by
  by_cases c : b < a
  · exact ⟨_, fun n _ => by simp [execOp, hx, hy, go_sem]; exact c, h1 c⟩
  · exact ⟨_, fun n _ => by simp [execOp, hx, hy, go_sem]; omega, h2 (by omega)⟩
theorem g_geq (h1 : b ≤ a → K (.bool true)) (h2 : a < b → K (.bool false)) : Go1 P ⟨d, .binOp .geq t x y u, ty, pos, aft, g⟩ l w K := by
  by_cases c : b ≤ a
  · exact ⟨_, fun n _ => by simp [execOp, hx, hy, go_sem]; exact c, h1 c⟩
  · exact ⟨_, fun n _ => by simp [execOp, hx, hy, go_sem]; omega, h2 (by omega)⟩
theorem g_eql (h1 : a = b → K (.bool true)) (h2 : a ≠ b → K (.bool false)) : Go1 P ⟨d, .binOp .eql t x y u, ty, pos, aft, g⟩ l w K := by
  by_cases c : a = b
  · exact ⟨_, fun n _ => by simp [execOp, hx, hy, go_sem]; exact c, h1 c⟩
  · exact ⟨_, fun n _ => by simp [execOp, hx, hy, go_sem]; exact c, h2 c⟩
theorem g_neq (h1 : a ≠ b → K (.bool true)) (h2 : a = b → K (.bool false)) : Go1 P ⟨d, .binOp .neq t x y u, ty, pos, aft, g⟩ l w K := by
  by_cases c : a = b
  · exact ⟨_, fun n _ => by simp [execOp, hx, hy, go_sem]; exact c, h2 c⟩
  · exact ⟨_, fun n _ => by simp [execOp, hx, hy, go_sem]; exact c, h1 c⟩
end
section
variable {t u : TypeId} {x y : Operand} {a b : Int} (hx : ev l x = .int .i64 a) (hy : ev l y = .int .i64 b)
include hx hy
theorem g_addN (h0 : -9223372036854775808 ≤ a + b) (h1 : a + b ≤ 9223372036854775807) (h : K (.int .i64 (a + b))) : Go1 P ⟨d, .binOp .add t x y u, ty, pos, aft, g⟩ l w K :=
  g_add hx hy (by rw [IntWalk.i64_in _ (by omega)]; exact h)
theorem g_subN (h0 : -9223372036854775808 ≤ a - b) (h1 : a - b ≤ 9223372036854775807) (h : K (.int .i64 (a - b))) : Go1 P ⟨d, .binOp .sub t x y u, ty, pos, aft, g⟩ l w K :=
  g_sub hx hy (by rw [IntWalk.i64_in _ (by omega)]; exact h)
theorem g_mulN (h0 : -9223372036854775808 ≤ a * b) (h1 : a * b ≤ 9223372036854775807) (h : K (.int .i64 (a * b))) : Go1 P ⟨d, .binOp .mul t x y u, ty, pos, aft, g⟩ l w K :=
  g_mul hx hy (by rw [IntWalk.i64_in _ (by omega)]; exact h)
end
section
variable {t u : TypeId} {x y : Operand} {a b : Bool} (hx : ev l x = .bool a) (hy : ev l y = .bool b) [ht : TBool P t]
include hx hy ht
theorem g_eqlB (h1 : a = b → K (.bool true)) (h2 : a ≠ b → K (.bool false)) : Go1 P ⟨d, .binOp .eql t x y u, ty, pos, aft, g⟩ l w K := by
  by_cases c : a = b
  · exact ⟨_, fun n _ => by simp [execOp, hx, hy, go_sem, run_eql_bool _ t _ _ ht.ok, c], h1 c⟩
  · exact ⟨_, fun n _ => by simp [execOp, hx, hy, go_sem, run_eql_bool _ t _ _ ht.ok, c], h2 c⟩
theorem g_neqB (h1 : a ≠ b → K (.bool true)) (h2 : a = b → K (.bool false)) : Go1 P ⟨d, .binOp .neq t x y u, ty, pos, aft, g⟩ l w K := by
  by_cases c : a = b
  · exact ⟨_, fun n _ => by simp [execOp, hx, hy, go_sem, run_neq_bool _ t _ _ ht.ok, c], h2 c⟩
  · exact ⟨_, fun n _ => by simp [execOp, hx, hy, go_sem, run_neq_bool _ t _ _ ht.ok, c], h1 c⟩
end
theorem g_notT {t : TypeId} {x : Operand} (hx : ev l x = .bool true) (h : K (.bool false)) : Go1 P ⟨d, .unOp .not t x, ty, pos, aft, g⟩ l w K := ⟨_, fun n _ => by simp [execOp, hx, go_sem], h⟩
theorem g_notF {t : TypeId} {x : Operand} (hx : ev l x = .bool false) (h : K (.bool true)) : Go1 P ⟨d, .unOp .not t x, ty, pos, aft, g⟩ l w K := ⟨_, fun n _ => by simp [execOp, hx, go_sem], h⟩
theorem g_convInt {s t : TypeId} {x : Operand} {k k' k2 : IntKind} {a : Int} (hx : ev l x = .int k2 a) [hs : TInt P s k] [ht : TInt P t k'] (h : K (.int k' (k'.wrap a))) : Go1 P ⟨d, .convert s t x, ty, pos, aft, g⟩ l w K :=
  ⟨_, fun n _ => by simp [execOp, hx, go_sem, hs.ok, ht.ok], h⟩
theorem g_extract {x : Operand} {i : Nat} {vs : List Value} {v : Value} (hx : ev l x = .tuple vs.toArray) (hv : vs[i]? = some v) (h : K v) : Go1 P ⟨d, .extract x i, ty, pos, aft, g⟩ l w K :=
  ⟨v, fun n _ => by simp [execOp, hx, go_sem, Instr.extract, hv], h⟩
theorem g_nilCheckP {x : Operand} {a : Addr} (hx : ev l x = .pointer (some a)) (h : K (.pointer (some a))) : Go1 P ⟨d, .nilCheck x, ty, pos, aft, g⟩ l w K := ⟨_, fun n _ => by simp [execOp, hx, go_sem], h⟩
theorem add_off (b o k : Nat) : (⟨b, o, none⟩ : Addr).add k = ⟨b, o + k, none⟩ := by unfold Addr.add; split <;> simp_all
theorem g_fieldAddr {t : TypeId} {x : Operand} {i : Nat} {b o off n : Nat} {os : List Nat} (hx : ev l x = .pointer (some ⟨b, o, none⟩)) [ht : TStruct P t os n] (ho : os[i]? = some off)
    (h : K (.pointer (some ⟨b, o + off, none⟩))) : Go1 P ⟨d, .fieldAddr t x i, ty, pos, aft, g⟩ l w K := by
  obtain ⟨fs, hu, _, hf⟩ := ht.und
  obtain ⟨f, inf, hfi, hinf, hsz, rfl, _⟩ := hf i off ho
  refine ⟨_, fun w' hw' => ?_, h⟩
  have hs : (sizeOf f.type).run P w' = .ok inf.size w' := run_sizeOf (by simp [hinf]) _
  simp [execOp, hx, Instr.fieldAt, Instr.sureAddr, Sem.run_bind, run_underlying hu, hfi, fieldPlace, hs, hsz, add_off]
theorem g_field {t : TypeId} {x : Operand} {i off n : Nat} {os : List Nat} {cs : List Value} {v : Value} (hx : ev l x = .agg cs.toArray) [ht : TStruct P t os n] (ho : os[i]? = some off)
    (hv : ∀ f fs, P.underlying t = some (.struct fs) → fs[i]? = some f → ∀ w, (part f.type cs.toArray off).run P w = .ok v w)
    (h : K v) : Go1 P ⟨d, .field t x i, ty, pos, aft, g⟩ l w K := by
  obtain ⟨fs, hu, _, hf⟩ := ht.und
  obtain ⟨f, inf, hfi, hinf, hsz, rfl, _⟩ := hf i off ho
  refine ⟨v, fun w' hw' => ?_, h⟩
  simp [execOp, hx, Instr.field, asAgg, Sem.run_bind, run_underlying hu, hfi, hv f fs hu hfi]
theorem g_indexAddr {t e : TypeId} {x y : Operand} {i : Int} {b o n c sz bytes : Nat} (hx : ev l x = .slice (some ⟨b, o, none⟩) n c) (hy : ev l y = .int .i64 i) [ht : TSlice P t e sz bytes] (h0 : 0 ≤ i) (h1 : i < n)
    (h : K (.pointer (some ⟨b, o + i.toNat * sz, none⟩))) : Go1 P ⟨d, .indexAddr t x y, ty, pos, aft, g⟩ l w K := by
  refine ⟨_, fun w' hw' => ?_, h⟩
  have hs : ∀ w, (sizeOf e).run P w = .ok sz w := fun w => run_sizeOf (by have := ht.info; cases hq : P.info? e <;> simp_all) w
  simp [execOp, hx, hy, go_sem, ht.ok, hs, h0, h1]
theorem g_loadC {t : TypeId} {x : Operand} {a : Addr} {v : Value} (hx : ev l x = .pointer (some a)) [ht : TScal P t] (hc : w.cell? a = some v) (h : K v) : Go1 P ⟨d, .load t x, ty, pos, aft, g⟩ l w K := by
  refine ⟨v, fun w' hw' => ?_, h⟩
  have hc' : w'.cell? a = some v := cell_evt hw' hc id
  have := run_isAgg_scal ht w'
  simp [execOp, hx, Instr.loadAt, Instr.sureAddr, loadVar, Sem.run_bind, this, load, Sem.run, hc']
theorem g_loadB {t t' : TypeId} {x : Operand} {b o : Nat} {v : Value} {cs : List Value} (hx : ev l x = .pointer (some ⟨b, o, none⟩)) [ht : TScal P t] (hb : Blk w b t' cs) (hc : cs[o]? = some v) (h : K v) : Go1 P ⟨d, .load t x, ty, pos, aft, g⟩ l w K :=
  g_loadC hx (by rw [hb.cell?]; exact hc) h
theorem g_loadR {t : TypeId} {x : Operand} {b o n : Nat} {os : List Nat} {vs : List Value} (hx : ev l x = .pointer (some ⟨b, o, none⟩)) [ht : TStruct P t os n] (hn : vs.length = n) (hc : ∀ j u, vs[j]? = some u → w.cell? ⟨b, o + j, none⟩ = some u) (h : K (.agg vs.toArray)) :
    Go1 P ⟨d, .load t x, ty, pos, aft, g⟩ l w K := by
  refine ⟨_, fun w' hw' => ?_, h⟩
  obtain ⟨fs, hu, hi, _⟩ := ht.und
  have hl : (loadCells ⟨b, o, none⟩ vs.length).run P w' = .ok vs.toArray w' :=
    run_loadCells_list (P := P) w' ⟨b, o, none⟩ vs (fun j v hv => by rw [add_off]; exact cell_evt hw' (hc j v hv) id)
  rw [hn] at hl
  simp [execOp, hx, Instr.loadAt, Instr.sureAddr, loadVar, Sem.run_bind, run_isAgg_struct ht, run_sizeOf hi, hl]
theorem g_loadS {t t' : TypeId} {x : Operand} {b o n : Nat} {os : List Nat} {cs : List Value} (hx : ev l x = .pointer (some ⟨b, o, none⟩)) [ht : TStruct P t os n] (hb : Blk w b t' cs) (hn : o + n ≤ cs.length) (h : K (.agg ((cs.drop o).take n).toArray)) :
    Go1 P ⟨d, .load t x, ty, pos, aft, g⟩ l w K :=
  g_loadR hx (by simp; omega) (fun j u hu => by
    rw [hb.cell?]
    rw [List.getElem?_take] at hu
    split at hu
    · simpa using hu
    · simp at hu) h
theorem g_lenS {t e : TypeId} {x : Operand} {A : Option Addr} {n c sz bytes : Nat} (hx : ev l x = .slice A n c) [ht : TSlice P t e sz bytes] (h : K (.int .i64 n)) : Go1 P ⟨d, .call { callee := .builtin .len, args := #[x], argTypes := #[t] }, ty, pos, aft, g⟩ l w K :=
  ⟨_, fun m _ => by simp [execOp, hx, go_sem, resolve, invoke, Builtin.len_, run_underlying ht.ok], h⟩
theorem g_lenStr {t : TypeId} {x : Operand} {s : ByteArray} (hx : ev l x = .string s) [ht : TStr P t] (h : K (.int .i64 s.size)) : Go1 P ⟨d, .call { callee := .builtin .len, args := #[x], argTypes := #[t] }, ty, pos, aft, g⟩ l w K :=
  ⟨_, fun m _ => by simp [execOp, hx, go_sem, resolve, invoke, Builtin.len_, run_underlying ht.ok], h⟩
theorem g_makeFunc {f : FuncId} {caps : Array Operand} {vs : List Value} (hc : caps.toList.map (ev l) = vs) (h : K (.func (.func f) #[] vs.toArray)) : Go1 P ⟨d, .makeFunc (.func f) #[] caps, ty, pos, aft, g⟩ l w K := by
  refine ⟨_, fun w' hw' => ?_, h⟩
  have ha : caps.map (ev l) = vs.toArray := by rw [← hc]; apply Array.ext'; simp
  simp [execOp, Instr.makeFunc, ha]
end
end Go.Proofs.YtchfkkliechgoaaE
