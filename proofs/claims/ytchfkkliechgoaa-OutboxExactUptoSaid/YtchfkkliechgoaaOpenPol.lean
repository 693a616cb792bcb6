/- How a policy that is an argument reads in memory. -/
import Derived.Test.YtchfkkliechgoaaPol
import Derived.ProofKit
import Derived.OpenShut
import Derived.ShutString
import Derived.ChangeOld
import Derived.SizedLaws
import Derived.Deep.Fields
namespace Go.Proofs.Ytchfkkliechgoaa
open Go.ChangeShapes Go.WideShapes Go.ChangeAt Go.RowKit Go.Deep Go.Proofs.YtchfkkliechgoaaE
set_option linter.unusedSimpArgs false
set_option linter.unusedVariables false
set_option maxRecDepth 4000

theorem add_spot {w : World} {a : Addr} {i : Nat} {v : Value} (h : w.cell? (a.add i) = some v) (h0 : i = 0 ∨ a.spot = none) : ∃ b o, a = ⟨b, o, none⟩ := by
  obtain ⟨b, o, s⟩ := a
  rcases h0 with rfl | rfl
  · have hs := World.cell?_spot h
    simp [Addr.add] at hs
    subst hs
    exact ⟨b, o, rfl⟩
  · exact ⟨b, o, rfl⟩
/-- A slice of ints that came in. -/
theorem open_RI {H : Type} {enc : TypeId × Value → H} {W : World} {fuel : Nat} {v : Value} {x : DataW H × List MemPlace} (h : DataW.trod enc Try.prog W 0 (fun _ => true) true fuel 22 [v] = some x) :
    ∃ (A : Option Addr) (c : Nat) (xs : List Int), v = .slice A xs.length c ∧ RI W A xs ∧ ∀ n ∈ xs, (Lit.int .i64 n).wf = true := by
  rcases open_ints Try.underlying22 Try.underlying3 (by kernel_rfl) h with ⟨hcs, _⟩ | ⟨a, len, cap, zs, hcs, _, hl, hm, hz, _, hcell, hwz⟩
  · simp only [List.cons.injEq, and_true] at hcs
    subst hcs
    exact ⟨none, 0, [], rfl, ⟨by simp, by simp⟩, by simp⟩
  · simp only [List.cons.injEq, and_true] at hcs
    subst hcs
    have hz' : zs.length = cap := by simpa using hz
    have htl : (zs.take len).length = len := by simp; omega
    refine ⟨some a, cap, zs.take len, by rw [htl], ⟨by unfold maxLen at hm; omega, fun hn => ?_⟩, fun n hn => hwz n (List.mem_of_mem_take hn)⟩
    obtain ⟨b, o, rfl⟩ := add_spot (hcell 0 (by omega)) (.inl rfl)
    refine ⟨b, o, rfl, fun j x hj => ?_⟩
    have hjl : j < len := by have := (List.getElem?_eq_some_iff.1 hj).1; omega
    have := hcell j (by omega)
    rw [add_off] at this
    rw [this]
    rw [List.getElem?_take, if_pos hjl] at hj
    simp [List.getD_eq_getElem?_getD, hj]
/-- The numbers of a policy are numbers of their kind. -/
theorem i64_of_wf {x : Int} (h : (Lit.int .i64 x).wf = true) : -9223372036854775808 ≤ x ∧ x ≤ 9223372036854775807 := by
  have h1 : decide (IntKind.i64.min ≤ x) && decide (x ≤ IntKind.i64.max) := h
  simp only [Bool.and_eq_true, decide_eq_true_eq] at h1
  exact h1
def Pol.wf (p : Pol) : Prop := (Lit.int .i64 p.firstDay).wf = true ∧ (Lit.int .i64 p.grace).wf = true ∧ (Lit.int .i64 p.nonAccrual).wf = true ∧ (Lit.int .i64 p.chargeOff).wf = true ∧ (Lit.int .i64 p.lateRate).wf = true ∧ (Lit.int .i64 p.lateMin).wf = true ∧ (Lit.int .i64 p.lateMax).wf = true ∧ (Lit.int .i64 p.cycleCap).wf = true ∧ (Lit.int .i64 p.lifeCap).wf = true ∧ (Lit.int .i64 p.promises).wf = true ∧ (Lit.int .i64 p.promiseDays).wf = true ∧ (Lit.int .i64 p.restructures).wf = true ∧ (Lit.int .i64 p.order).wf = true ∧ (Lit.int .i64 p.rule).wf = true ∧ (Lit.int .i64 p.retryBase).wf = true ∧ (Lit.int .i64 p.retryCap).wf = true ∧ (Lit.int .i64 p.snapEvery).wf = true ∧ ∀ n ∈ p.hs, (Lit.int .i64 n).wf = true
theorem open_pol {H : Type} {enc : TypeId × Value → H} {W : World} {r : Reach} {b0 : Nat} {v : Value} {d : DataW H} {ps : List MemPlace} (hv : Value.okWide Try.prog W r b0 24 v) (h : DataW.Trod enc Try.prog W 0 (fun _ => true) true 24 v d ps) :
    ∃ (p : Pol) (A : Option Addr) (c : Nat), v = .agg (polC p A c).toArray ∧ RI W A p.hs ∧ p.wf := by
  obtain ⟨cs, rfl, hsz⟩ := okWide_struct Try.underlying24 hv
  obtain ⟨l⟩ := cs
  have hC : Try.prog.cellsOf 24 = 18 := by kernel_rfl
  match l, hsz.trans hC with
  | [c0, c1, c2, c3, c4, c5, c6, c7, c8, c9, c10, c11, c12, c13, c14, c15, c16, c17], _ =>
    obtain ⟨fuel, hf⟩ := h
    obtain ⟨xs, n, _, hx, _, hlen, hg⟩ := DataW.trod_struct Try.underlying24 hf
    have hci : Try.prog.cellsOf 3 = 1 := by kernel_rfl
    have hcl : Try.prog.cellsOf 2 = 1 := by kernel_rfl
    have hcs : Try.prog.cellsOf 22 = 1 := by kernel_rfl
    match xs, hlen with
    | [y0, y1, y2, y3, y4, y5, y6, y7, y8, y9, y10, y11, y12, y13, y14, y15, y16, y17], _ =>
      have g0 : DataW.trod enc Try.prog W 0 (fun _ => true) true n 3 [c0] = some y0 := by simpa [Value.cells, hci] using hg 0 _ rfl
      obtain ⟨x0, e0, _, w0⟩ := DataW.trod_int Try.underlying3 g0
      simp only [List.cons.injEq, and_true] at e0
      subst e0
      have g1 : DataW.trod enc Try.prog W 0 (fun _ => true) true n 3 [c1] = some y1 := by simpa [Value.cells, hci] using hg 1 _ rfl
      obtain ⟨x1, e1, _, w1⟩ := DataW.trod_int Try.underlying3 g1
      simp only [List.cons.injEq, and_true] at e1
      subst e1
      have g2 : DataW.trod enc Try.prog W 0 (fun _ => true) true n 3 [c2] = some y2 := by simpa [Value.cells, hci] using hg 2 _ rfl
      obtain ⟨x2, e2, _, w2⟩ := DataW.trod_int Try.underlying3 g2
      simp only [List.cons.injEq, and_true] at e2
      subst e2
      have g3 : DataW.trod enc Try.prog W 0 (fun _ => true) true n 3 [c3] = some y3 := by simpa [Value.cells, hci] using hg 3 _ rfl
      obtain ⟨x3, e3, _, w3⟩ := DataW.trod_int Try.underlying3 g3
      simp only [List.cons.injEq, and_true] at e3
      subst e3
      have g4 : DataW.trod enc Try.prog W 0 (fun _ => true) true n 2 [c4] = some y4 := by simpa [Value.cells, hcl] using hg 4 _ rfl
      obtain ⟨x4, e4, _, w4⟩ := DataW.trod_int Try.underlying2 g4
      simp only [List.cons.injEq, and_true] at e4
      subst e4
      have g5 : DataW.trod enc Try.prog W 0 (fun _ => true) true n 2 [c5] = some y5 := by simpa [Value.cells, hcl] using hg 5 _ rfl
      obtain ⟨x5, e5, _, w5⟩ := DataW.trod_int Try.underlying2 g5
      simp only [List.cons.injEq, and_true] at e5
      subst e5
      have g6 : DataW.trod enc Try.prog W 0 (fun _ => true) true n 2 [c6] = some y6 := by simpa [Value.cells, hcl] using hg 6 _ rfl
      obtain ⟨x6, e6, _, w6⟩ := DataW.trod_int Try.underlying2 g6
      simp only [List.cons.injEq, and_true] at e6
      subst e6
      have g7 : DataW.trod enc Try.prog W 0 (fun _ => true) true n 2 [c7] = some y7 := by simpa [Value.cells, hcl] using hg 7 _ rfl
      obtain ⟨x7, e7, _, w7⟩ := DataW.trod_int Try.underlying2 g7
      simp only [List.cons.injEq, and_true] at e7
      subst e7
      have g8 : DataW.trod enc Try.prog W 0 (fun _ => true) true n 2 [c8] = some y8 := by simpa [Value.cells, hcl] using hg 8 _ rfl
      obtain ⟨x8, e8, _, w8⟩ := DataW.trod_int Try.underlying2 g8
      simp only [List.cons.injEq, and_true] at e8
      subst e8
      have g9 : DataW.trod enc Try.prog W 0 (fun _ => true) true n 3 [c9] = some y9 := by simpa [Value.cells, hci] using hg 9 _ rfl
      obtain ⟨x9, e9, _, w9⟩ := DataW.trod_int Try.underlying3 g9
      simp only [List.cons.injEq, and_true] at e9
      subst e9
      have g10 : DataW.trod enc Try.prog W 0 (fun _ => true) true n 3 [c10] = some y10 := by simpa [Value.cells, hci] using hg 10 _ rfl
      obtain ⟨x10, e10, _, w10⟩ := DataW.trod_int Try.underlying3 g10
      simp only [List.cons.injEq, and_true] at e10
      subst e10
      have g11 : DataW.trod enc Try.prog W 0 (fun _ => true) true n 3 [c11] = some y11 := by simpa [Value.cells, hci] using hg 11 _ rfl
      obtain ⟨x11, e11, _, w11⟩ := DataW.trod_int Try.underlying3 g11
      simp only [List.cons.injEq, and_true] at e11
      subst e11
      have g12 : DataW.trod enc Try.prog W 0 (fun _ => true) true n 3 [c12] = some y12 := by simpa [Value.cells, hci] using hg 12 _ rfl
      obtain ⟨x12, e12, _, w12⟩ := DataW.trod_int Try.underlying3 g12
      simp only [List.cons.injEq, and_true] at e12
      subst e12
      have g13 : DataW.trod enc Try.prog W 0 (fun _ => true) true n 3 [c13] = some y13 := by simpa [Value.cells, hci] using hg 13 _ rfl
      obtain ⟨x13, e13, _, w13⟩ := DataW.trod_int Try.underlying3 g13
      simp only [List.cons.injEq, and_true] at e13
      subst e13
      have g14 : DataW.trod enc Try.prog W 0 (fun _ => true) true n 3 [c14] = some y14 := by simpa [Value.cells, hci] using hg 14 _ rfl
      obtain ⟨x14, e14, _, w14⟩ := DataW.trod_int Try.underlying3 g14
      simp only [List.cons.injEq, and_true] at e14
      subst e14
      have g15 : DataW.trod enc Try.prog W 0 (fun _ => true) true n 3 [c15] = some y15 := by simpa [Value.cells, hci] using hg 15 _ rfl
      obtain ⟨x15, e15, _, w15⟩ := DataW.trod_int Try.underlying3 g15
      simp only [List.cons.injEq, and_true] at e15
      subst e15
      have g16 : DataW.trod enc Try.prog W 0 (fun _ => true) true n 3 [c16] = some y16 := by simpa [Value.cells, hci] using hg 16 _ rfl
      obtain ⟨x16, e16, _, w16⟩ := DataW.trod_int Try.underlying3 g16
      simp only [List.cons.injEq, and_true] at e16
      subst e16
      have g17 : DataW.trod enc Try.prog W 0 (fun _ => true) true n 22 [c17] = some y17 := by simpa [Value.cells, hcs] using hg 17 _ rfl
      obtain ⟨A, c, hs, rfl, hri, hwh⟩ := open_RI g17
      exact ⟨⟨x0, x1, x2, x3, x4, x5, x6, x7, x8, x9, x10, x11, x12, x13, x14, x15, x16, hs⟩, A, c, rfl, hri, w0, w1, w2, w3, w4, w5, w6, w7, w8, w9, w10, w11, w12, w13, w14, w15, w16, hwh⟩
end Go.Proofs.Ytchfkkliechgoaa
