import Derived.Test.YtchfkkliechgoaaEvs
namespace Go.Proofs.YtchfkkliechgoaaE
open Go Go.RowKit
set_option linter.unusedSimpArgs false
set_option linter.unusedVariables false

section
variable {P : Program} {w : World} {ty : TypeId} {pos : String} {aft : Array Edge} {l : List Value} {d : Option Tmp} {g : Option (Nat × Bool)} {K : Value → Prop}
variable {t u : TypeId} {ts : Array TypeId} {x y z : Operand} {k : IntKind} {a b c : Int}

theorem g_min2 (hx : ev l x = .int k a) (hy : ev l y = .int k b) (h : K (.int k (min a b))) : Go1 P ⟨d, .call { callee := .builtin .min, args := #[x, y], argTypes := ts }, ty, pos, aft, g⟩ l w K := by
  have e : (if b < a then b else a) = min a b := by split <;> omega
  exact ⟨_, fun m _ => by simp [execOp, hx, hy, go_sem, resolve, invoke, Builtin.min_, Builtin.min2, e], h⟩
theorem g_max2 (hx : ev l x = .int k a) (hy : ev l y = .int k b) (h : K (.int k (max a b))) : Go1 P ⟨d, .call { callee := .builtin .max, args := #[x, y], argTypes := ts }, ty, pos, aft, g⟩ l w K := by
  have e : (if a < b then b else a) = max a b := by split <;> omega
  exact ⟨_, fun m _ => by simp [execOp, hx, hy, go_sem, resolve, invoke, Builtin.max_, Builtin.max2, e], h⟩
theorem g_min3 (hx : ev l x = .int k a) (hy : ev l y = .int k b) (hz : ev l z = .int k c) (h : K (.int k (min (min a b) c))) : Go1 P ⟨d, .call { callee := .builtin .min, args := #[x, y, z], argTypes := ts }, ty, pos, aft, g⟩ l w K := by
  have e : (if b < a then b else a) = min a b := by split <;> omega
  have e' : (if c < min a b then c else min a b) = min (min a b) c := by split <;> omega
  exact ⟨_, fun m _ => by simp [execOp, hx, hy, hz, go_sem, resolve, invoke, Builtin.min_, Builtin.min2, e, e'], h⟩
theorem g_quo (hx : ev l x = .int k a) (hy : ev l y = .int k b) (hb : b ≠ 0) (h : K (.int k (k.wrap (a.tdiv b)))) : Go1 P ⟨d, .binOp .quo t x y u, ty, pos, aft, g⟩ l w K :=
  ⟨_, fun n _ => by simp [execOp, hx, hy, go_sem, hb, Op.intDiv], h⟩
theorem g_rem (hx : ev l x = .int k a) (hy : ev l y = .int k b) (hb : b ≠ 0) (h : K (.int k (a.tmod b))) : Go1 P ⟨d, .binOp .rem t x y u, ty, pos, aft, g⟩ l w K :=
  ⟨_, fun n _ => by simp [execOp, hx, hy, go_sem, hb, Op.intDiv], h⟩
end
end Go.Proofs.YtchfkkliechgoaaE
