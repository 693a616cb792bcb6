import Derived.Test.YtchfkkliechgoaaOps2
import Derived.Laws.Bits64b
namespace Go.Proofs.YtchfkkliechgoaaE
open Go Go.RowKit
set_option linter.unusedSimpArgs false
set_option linter.unusedVariables false

/-! unsigned words of 64 bits -/
theorem wrapU_in {a : Int} (h0 : 0 ≤ a) (h1 : a < 18446744073709551616) : IntKind.u64.wrap a = a := by rw [IntKind.wrap_u64]; omega
section
variable {P : Program} {w : World} {ty : TypeId} {pos : String} {aft : Array Edge} {l : List Value} {d : Option Tmp} {g : Option (Nat × Bool)} {K : Value → Prop}
variable {t u : TypeId} {x y : Operand} {k k2 : IntKind} {a b c : Int}

theorem g_addU (hx : ev l x = .int .u64 a) (hy : ev l y = .int .u64 b) (h0 : 0 ≤ a + b) (h1 : a + b < 18446744073709551616) (h : K (.int .u64 (a + b))) : Go1 P ⟨d, .binOp .add t x y u, ty, pos, aft, g⟩ l w K :=
  g_add hx hy (by rw [wrapU_in h0 h1]; exact h)
theorem g_subU (hx : ev l x = .int .u64 a) (hy : ev l y = .int .u64 b) (h0 : 0 ≤ a - b) (h1 : a - b < 18446744073709551616) (h : K (.int .u64 (a - b))) : Go1 P ⟨d, .binOp .sub t x y u, ty, pos, aft, g⟩ l w K :=
  g_sub hx hy (by rw [wrapU_in h0 h1]; exact h)
theorem g_mulU (hx : ev l x = .int .u64 a) (hy : ev l y = .int .u64 b) (h0 : 0 ≤ a * b) (h1 : a * b < 18446744073709551616) (h : K (.int .u64 (a * b))) : Go1 P ⟨d, .binOp .mul t x y u, ty, pos, aft, g⟩ l w K :=
  g_mul hx hy (by rw [wrapU_in h0 h1]; exact h)
theorem g_addUm (hx : ev l x = .int .u64 a) (hy : ev l y = .int .u64 b) (h : K (.int .u64 ((a + b) % 18446744073709551616))) : Go1 P ⟨d, .binOp .add t x y u, ty, pos, aft, g⟩ l w K := g_add hx hy (by rw [IntKind.wrap_u64]; exact h)
theorem g_subUm (hx : ev l x = .int .u64 a) (hy : ev l y = .int .u64 b) (h : K (.int .u64 ((a - b) % 18446744073709551616))) : Go1 P ⟨d, .binOp .sub t x y u, ty, pos, aft, g⟩ l w K := g_sub hx hy (by rw [IntKind.wrap_u64]; exact h)
theorem g_mulUm (hx : ev l x = .int .u64 a) (hy : ev l y = .int .u64 b) (h : K (.int .u64 ((a * b) % 18446744073709551616))) : Go1 P ⟨d, .binOp .mul t x y u, ty, pos, aft, g⟩ l w K := g_mul hx hy (by rw [IntKind.wrap_u64]; exact h)
/-- x >> n, the amount a number. -/
theorem g_shr (n : Nat) (c : Int) (hp : (2 : Int) ^ (min n k.bits) = c ∧ 0 < c) (hx : ev l x = .int k a) (hy : ev l y = .int k2 n) (h : K (.int k (a / c))) : Go1 P ⟨d, .binOp .shr t x y u, ty, pos, aft, g⟩ l w K := by
  refine ⟨_, fun w' _ => ?_, h⟩
  have e : a.fdiv c = a / c := Int.fdiv_eq_ediv_of_nonneg a (by omega)
  have hn : ¬ ((n : Int) < 0) := by omega
  rw [← e, ← hp.1]
  simp [execOp, hx, hy, go_sem, Op.shift, hn]
theorem g_shl (n : Nat) (c : Int) (hp : (2 : Int) ^ (min n k.bits) = c) (hx : ev l x = .int k a) (hy : ev l y = .int k2 n) (h : K (.int k (k.wrap (a * c)))) : Go1 P ⟨d, .binOp .shl t x y u, ty, pos, aft, g⟩ l w K := by
  refine ⟨_, fun w' _ => ?_, h⟩
  have hn : ¬ ((n : Int) < 0) := by omega
  rw [← hp]
  simp [execOp, hx, hy, go_sem, Op.shift, hn]
theorem run_and {a b : Int} (w : World) : (Op.intBits .and .u64 a b).run P w = .ok (.int .u64 (bits .and .u64 a b)) w := by
  simp [Op.intBits, bits, go_sem]
/-- x & (2^32 - 1), x & 1 -/
theorem g_mask32 (hx : ev l x = .int .u64 a) (hy : ev l y = .int .u64 4294967295) (h0 : 0 ≤ a) (h1 : a < 18446744073709551616) (h : K (.int .u64 (a % 4294967296))) : Go1 P ⟨d, .binOp .and t x y u, ty, pos, aft, g⟩ l w K := by
  refine ⟨_, fun w' _ => ?_, h⟩
  obtain ⟨n, rfl⟩ := Int.eq_ofNat_of_zero_le h0
  have e := bits_and_u64_nat n 4294967295 (by omega) (by omega)
  have e2 : n &&& 4294967295 = n % 4294967296 := Nat.and_two_pow_sub_one_eq_mod n 32
  rw [e2] at e
  have e3 : bits .and .u64 (n : Int) 4294967295 = (n : Int) % 4294967296 := by
    have : ((4294967295 : Nat) : Int) = 4294967295 := rfl
    rw [← this, e]; omega
  simp [execOp, hx, hy, go_sem, run_and, e3]
theorem g_mask1 (hx : ev l x = .int .u64 a) (hy : ev l y = .int .u64 1) (h0 : 0 ≤ a) (h1 : a < 18446744073709551616) (h : K (.int .u64 (a % 2))) : Go1 P ⟨d, .binOp .and t x y u, ty, pos, aft, g⟩ l w K := by
  refine ⟨_, fun w' _ => ?_, h⟩
  obtain ⟨n, rfl⟩ := Int.eq_ofNat_of_zero_le h0
  have e := bits_and_u64_nat n 1 (by omega) (by omega)
  have e2 : n &&& 1 = n % 2 := Nat.and_one_is_mod n
  rw [e2] at e
  have e3 : bits .and .u64 (n : Int) 1 = (n : Int) % 2 := by
    have : ((1 : Nat) : Int) = 1 := rfl
    rw [← this, e]; omega
  simp [execOp, hx, hy, go_sem, run_and, e3]
theorem g_neg (hx : ev l x = .int k a) (h : K (.int k (k.wrap (0 - a)))) : Go1 P ⟨d, .unOp .neg t x, ty, pos, aft, g⟩ l w K :=
  ⟨_, fun w' _ => by simp [execOp, hx, go_sem, Op.unary], h⟩
end
end Go.Proofs.YtchfkkliechgoaaE
