/- How bytes and letters that are arguments read in memory. -/
import Derived.Test.YtmngcpackbekiaaOpn16
import Derived.ProofKit
import Derived.OpenShut
import Derived.ShutString
import Derived.ChangeOld
import Derived.SizedLaws
import Derived.Deep.Fields
namespace Go.Proofs.Ytmngcpackbekiaa
open Go.ChangeShapes Go.WideShapes Go.ChangeAt Go.RowKit Go.Deep Go.Proofs.YtmngcpackbekiaaE

theorem add_spot {w : World} {a : Addr} {i : Nat} {v : Value} (h : w.cell? (a.add i) = some v) (h0 : i = 0 ∨ a.spot = none) : ∃ b o, a = ⟨b, o, none⟩ := by
  obtain ⟨b, o, s⟩ := a
  rcases h0 with rfl | rfl
  · have hs := World.cell?_spot h
    simp [Addr.add] at hs
    subst hs
    exact ⟨b, o, rfl⟩
  · exact ⟨b, o, rfl⟩
theorem i64_of_wf {x : Int} (h : (Lit.int .i64 x).wf = true) : -9223372036854775808 ≤ x ∧ x ≤ 9223372036854775807 := by
  have h1 : decide (IntKind.i64.min ≤ x) && decide (x ≤ IntKind.i64.max) := h
  simp only [Bool.and_eq_true, decide_eq_true_eq] at h1
  exact h1
theorem u8_of_wf {x : Int} (h : (Lit.int .u8 x).wf = true) : 0 ≤ x ∧ x ≤ 255 := by
  have h1 : decide (IntKind.u8.min ≤ x) && decide (x ≤ IntKind.u8.max) := h
  simp only [Bool.and_eq_true, decide_eq_true_eq] at h1
  exact h1
theorem reach_slice {H : Type} {t e : TypeId} {elems spare : List (DataW H)} (hu : Try.prog.underlying t = some (.slice e)) (h : ∀ n ∈ (DataW.slice elems spare : DataW H).weights Try.prog t, n ≤ 140737488351232) : (elems.length + spare.length) * Try.prog.bytesOf e ≤ 140737488351232 :=
  h _ (by simp [DataW.weights, hu])
/-- A slice of bytes that came in. -/
theorem open_RB {H : Type} {enc : TypeId × Value → H} {W : World} {fuel : Nat} {v : Value} {x : DataW H × List MemPlace} (h : DataW.trod enc Try.prog W 0 (fun _ => true) true fuel 22 [v] = some x) :
    ∃ (A : Option Addr) (c : Nat) (xs : List Int), v = .slice A xs.length c ∧ RC W A (u8s xs) ∧ (∀ n ∈ xs, 0 ≤ n ∧ n ≤ 255) ∧ xs.length ≤ c ∧ ((∀ n ∈ x.1.weights Try.prog 22, n ≤ 140737488351232) → xs.length ≤ 140737488351232) := by
  rcases open_ints Try.underlying22 Try.underlying5 (by kernel_rfl) h with ⟨hcs, _⟩ | ⟨a, len, cap, zs, hcs, _, hl, hm, hz, hx, hcell, hwz⟩
  · simp only [List.cons.injEq, and_true] at hcs
    subst hcs
    exact ⟨none, 0, [], rfl, RC.nil _ _, by simp, by simp, by simp⟩
  · simp only [List.cons.injEq, and_true] at hcs
    subst hcs
    have hz' : zs.length = cap := by simpa using hz
    have htl : (zs.take len).length = len := by simp; omega
    refine ⟨some a, cap, zs.take len, by rw [htl], fun hn => ?_, fun n hn => u8_of_wf (hwz n (List.mem_of_mem_take hn)), by omega, fun hw => ?_⟩
    · rw [u8s_length, htl] at hn
      obtain ⟨b, o, rfl⟩ := add_spot (hcell 0 (by omega)) (.inl rfl)
      refine ⟨b, o, rfl, fun j v hj => ?_⟩
      have hjl : j < len := by have := (List.getElem?_eq_some_iff.1 hj).1; rw [u8s_length, htl] at this; exact this
      have h1 := hcell j (by omega)
      rw [add_off] at h1
      rw [h1]
      rw [u8s, List.getElem?_map, List.getElem?_take, if_pos hjl] at hj
      rw [List.getD_eq_getElem?_getD]
      cases hzj : zs[j]? with
      | none => rw [hzj] at hj; simp at hj
      | some z => rw [hzj] at hj; simpa using hj
    · rw [hx] at hw
      have := reach_slice Try.underlying22 hw
      have hb : Try.prog.bytesOf 5 = 1 := by kernel_rfl
      rw [hb] at this
      simp [lits] at this
      rw [htl]
      omega
theorem openArg_bytes {H : Type} {enc : TypeId × Value → H} {W : World} {r : Reach} {b0 : Nat} {v : Value} {d : DataW H} {ps : List MemPlace} (hv : Value.okWide Try.prog W r b0 22 v) (h : DataW.Trod enc Try.prog W 0 (fun _ => true) true 22 v d ps) :
    ∃ (A : Option Addr) (c : Nat) (xs : List Int), v = .slice A xs.length c ∧ RC W A (u8s xs) ∧ (∀ n ∈ xs, 0 ≤ n ∧ n ≤ 255) ∧ xs.length ≤ c ∧ ((∀ n ∈ d.weights Try.prog 22, n ≤ 140737488351232) → xs.length ≤ 140737488351232) := by
  obtain ⟨a, l, c, rfl⟩ := okWide_slice Try.underlying22 hv
  obtain ⟨fuel, hf⟩ := h
  exact open_RB hf
end Go.Proofs.Ytmngcpackbekiaa
