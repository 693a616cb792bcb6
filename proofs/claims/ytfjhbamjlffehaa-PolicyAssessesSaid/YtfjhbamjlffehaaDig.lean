/- Numbers as lists of digits in base two; rounding to the nearest, a half to the even. Plain. -/
import Derived.Test.YtfjhbamjlffehaaFacts
namespace Go.Proofs.Ytfjhbamjlffehaa
open Go.RowKit Go.Proofs.YtfjhbamjlffehaaE
set_option linter.unusedSimpArgs false
set_option linter.unusedVariables false

/-- What a list of digits of any size is worth. -/
def V : List Int → Int
  | [] => 0
  | x :: xs => x + 2 * V xs
theorem V_append (xs ys : List Int) : V (xs ++ ys) = V xs + 2 ^ xs.length * V ys := by
  induction xs with
  | nil => simp [V]
  | cons x xs ih =>
    simp only [List.cons_append, V, ih, List.length_cons, Int.pow_succ]
    have h : 2 * (2 ^ xs.length * V ys) = 2 ^ xs.length * 2 * V ys := by rw [Int.mul_comm (2 ^ xs.length) 2, Int.mul_assoc]
    omega
theorem V_set (xs : List Int) : ∀ (k : Nat) (y : Int), k < xs.length → V (xs.set k y) = V xs + 2 ^ k * (y - xs.getD k 0) := by
  induction xs with
  | nil => intro k y h; simp at h
  | cons x xs ih =>
    intro k y h
    cases k with
    | zero => simp [V]; omega
    | succ k =>
      have := ih k y (by simpa using h)
      simp only [List.set_cons_succ, V, this, List.getD_cons_succ, Int.pow_succ]
      have h2 : 2 * (2 ^ k * (y - xs.getD k 0)) = 2 ^ k * 2 * (y - xs.getD k 0) := by rw [Int.mul_comm (2 ^ k) 2, Int.mul_assoc]
      omega
theorem V_zeros (n : Nat) : V (List.replicate n 0) = 0 := by
  induction n with
  | zero => rfl
  | succ n ih => simp [List.replicate_succ, V, ih]
def Bits (xs : List Int) : Prop := ∀ x ∈ xs, x = 0 ∨ x = 1
theorem V_bits {xs : List Int} (h : Bits xs) : 0 ≤ V xs ∧ V xs < 2 ^ xs.length := by
  induction xs with
  | nil => simp [V]
  | cons x xs ih =>
    have h1 := h x (by simp)
    have h2 := ih (fun y hy => h y (by simp [hy]))
    simp only [V, List.length_cons, Int.pow_succ]
    omega
theorem V_nonneg {xs : List Int} (h : ∀ x ∈ xs, 0 ≤ x) : 0 ≤ V xs := by
  induction xs with
  | nil => simp [V]
  | cons x xs ih =>
    have h1 := h x (by simp)
    have h2 := ih (fun y hy => h y (by simp [hy]))
    simp only [V]; omega
theorem V_take (xs : List Int) (k : Nat) (h : k < xs.length) : V (xs.take (k + 1)) = V (xs.take k) + 2 ^ k * xs[k] := by
  rw [List.take_succ_eq_append_getElem h, V_append]
  simp [V]
  have : min k xs.length = k := by omega
  rw [this]
theorem V_drop (xs : List Int) (k : Nat) (h : k < xs.length) : V (xs.drop k) = xs[k] + 2 * V (xs.drop (k + 1)) := by
  rw [List.drop_eq_getElem_cons h, V]
/-- The digits of a number, the lowest first. -/
def digL : Nat → Int → List Int
  | 0, _ => []
  | n + 1, m => m % 2 :: digL n (m / 2)
theorem digL_length (n : Nat) : ∀ m, (digL n m).length = n := by
  induction n with
  | zero => intro m; rfl
  | succ n ih => intro m; simp [digL, ih]
theorem digL_bits (n : Nat) : ∀ m, Bits (digL n m) := by
  induction n with
  | zero => intro m x hx; simp [digL] at hx
  | succ n ih =>
    intro m x hx
    simp only [digL, List.mem_cons] at hx
    rcases hx with rfl | hx
    · omega
    · exact ih _ x hx
theorem digL_V (n : Nat) : ∀ m, 0 ≤ m → m < 2 ^ n → V (digL n m) = m := by
  induction n with
  | zero => intro m h0 h1; simp at h1; simp [digL, V]; omega
  | succ n ih =>
    intro m h0 h1
    rw [Int.pow_succ] at h1
    simp only [digL, V]
    rw [ih (m / 2) (by omega) (by omega)]
    omega
theorem digL_snoc (n : Nat) : ∀ m, digL (n + 1) m = digL n m ++ [m / 2 ^ n % 2] := by
  induction n with
  | zero => intro m; simp [digL]
  | succ n ih =>
    intro m
    rw [digL, ih]
    simp only [digL, List.cons_append, List.cons.injEq, true_and]
    have : m / 2 / 2 ^ n = m / 2 ^ (n + 1) := by
      rw [Int.ediv_ediv_of_nonneg (by omega), Int.pow_succ, Int.mul_comm]
    rw [this]
/-- The number in the middle of no two: nearest, a half to the even one; of n parts of 10000. -/
def rheP (n : Int) : Int := n / 10000 + if 5000 < n % 10000 ∨ (n % 10000 = 5000 ∧ n / 10000 % 2 = 1) then 1 else 0
theorem rheP_mono {a b : Int} (h : a ≤ b) : rheP a ≤ rheP b := by
  unfold rheP
  split <;> split <;> omega
theorem rheP_in {a bp : Int} (h0 : 0 ≤ a) (h1 : 0 ≤ bp) (h2 : bp ≤ 10000) : 0 ≤ rheP (a * bp) ∧ rheP (a * bp) ≤ a := by
  have h3 : 0 ≤ a * bp := Int.mul_nonneg h0 h1
  have h4 : a * bp ≤ a * 10000 := Int.mul_le_mul_of_nonneg_left h2 h0
  have h5 := rheP_mono h3
  have h6 := rheP_mono h4
  have h7 : rheP 0 = 0 := rfl
  have h8 : rheP (a * 10000) = a := by
    have e1 : a * 10000 % 10000 = 0 := by omega
    have e2 : a * 10000 / 10000 = a := by omega
    unfold rheP
    rw [e1, e2]
    simp
  omega
end Go.Proofs.Ytfjhbamjlffehaa
