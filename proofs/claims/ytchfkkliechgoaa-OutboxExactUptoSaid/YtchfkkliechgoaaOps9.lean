/- x[lo:] of any slice; standing still ahead of a region. -/
import Derived.Test.YtchfkkliechgoaaOps8
namespace Go.Proofs.YtchfkkliechgoaaE
open Go Go.RowKit
set_option linter.unusedSimpArgs false
set_option linter.unusedVariables false

section
variable {P : Program} {w : World} {ty : TypeId} {pos : String} {aft : Array Edge} {l : List Value} {d : Option Tmp} {g : Option (Nat × Bool)} {K : Value → Prop}
/-- Where x[lo:] begins. -/
def from_ (A : Option Addr) (cap sz i : Nat) : Option Addr := if cap = i then A else A.map (·.add (i * sz))
theorem g_sliceLA {t e : TypeId} {x y : Operand} {A : Option Addr} {len cap sz bytes : Nat} {i : Int} (hx : ev l x = .slice A len cap) (hy : ev l y = .int .i64 i) [ht : TSlice P t e sz bytes] (h0 : 0 ≤ i) (h1 : i ≤ len)
    (h : K (.slice (from_ A cap sz i.toNat) (len - i.toNat) (cap - i.toNat))) : Go1 P ⟨d, .slice t x (some y) none none, ty, pos, aft, g⟩ l w K := by
  refine ⟨_, fun w' hw' => ?_, h⟩
  have hs : ∀ w, (sizeOf e).run P w = .ok sz w := fun w => run_sizeOf (by have := ht.info; cases hq : P.info? e <;> simp_all) w
  have hc : 0 ≤ i ∧ i ≤ (len : Int) := ⟨h0, h1⟩
  simp only [execOp, hx, hy, Option.map_some, Option.map_none, Instr.sliceAt, Sem.run_bind, run_underlying ht.ok, Result.andThen_ok, Instr.slice, Instr.sliceBounds, Sem.run_pure, Instr.sliceBound, asIntOf]
  rw [if_pos hc]
  simp only [Sem.run_pure, Result.andThen_ok, hs, from_]
end
theorem stop_reg {P : Program} {Q : Exit → Act → World → Prop} {a : Act} {w : World} {id : Nat} {ops : Array Oper} {dr : Bool} (h : Stop ((Code.region id ops dr).wp P Q a w)) : (Code.region id ops dr).wp P Q a w := h
end Go.Proofs.YtchfkkliechgoaaE
