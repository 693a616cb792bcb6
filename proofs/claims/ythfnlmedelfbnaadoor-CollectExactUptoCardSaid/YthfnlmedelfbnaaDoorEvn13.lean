/- An event that is an argument; two numbers in a row of the call's own. -/
import Derived.Test.YthfnlmedelfbnaaDoorEv13
namespace Go.Proofs.YthfnlmedelfbnaaDoor
open Go.ChangeShapes Go.WideShapes Go.ChangeAt Go.RowKit Go.Deep Go.Proofs.YthfnlmedelfbnaaDoorE

theorem open_evn {H : Type} {enc : TypeId × Value → H} {W : World} {r : Reach} {b0 : Nat} {v : Value} {d : DataW H} {ps : List MemPlace} (hv : Value.okWide Tryd.prog W r b0 37 v) (h : DataW.Trod enc Tryd.prog W 0 (fun _ => true) true 37 v d ps) :
    ∃ (e : Evn), v = .agg (evnC e).toArray ∧ e.wf := by
  obtain ⟨cs, rfl, hsz⟩ := okWide_struct Tryd.underlying37 hv
  obtain ⟨l⟩ := cs
  have hC : Tryd.prog.cellsOf 37 = 4 := by kernel_rfl
  match l, hsz.trans hC with
  | [c0, c1, c2, c3], _ =>
    obtain ⟨fuel, hf⟩ := h
    obtain ⟨xs, n, _, hx, _, hlen, hg⟩ := DataW.trod_struct Tryd.underlying37 hf
    have hci : Tryd.prog.cellsOf 3 = 1 := by kernel_rfl
    have hcl : Tryd.prog.cellsOf 2 = 1 := by kernel_rfl
    match xs, hlen with
    | [y0, y1, y2, y3], _ =>
      have g0 : DataW.trod enc Tryd.prog W 0 (fun _ => true) true n 3 [c0] = some y0 := by simpa [Value.cells, hci] using hg 0 _ rfl
      have g1 : DataW.trod enc Tryd.prog W 0 (fun _ => true) true n 3 [c1] = some y1 := by simpa [Value.cells, hci] using hg 1 _ rfl
      have g2 : DataW.trod enc Tryd.prog W 0 (fun _ => true) true n 3 [c2] = some y2 := by simpa [Value.cells, hci] using hg 2 _ rfl
      have g3 : DataW.trod enc Tryd.prog W 0 (fun _ => true) true n 2 [c3] = some y3 := by simpa [Value.cells, hcl] using hg 3 _ rfl
      obtain ⟨x0, e0, _, w0⟩ := DataW.trod_int Tryd.underlying3 g0
      obtain ⟨x1, e1, _, w1⟩ := DataW.trod_int Tryd.underlying3 g1
      obtain ⟨x2, e2, _, w2⟩ := DataW.trod_int Tryd.underlying3 g2
      obtain ⟨x3, e3, _, w3⟩ := DataW.trod_int Tryd.underlying2 g3
      simp only [List.cons.injEq, and_true] at e0 e1 e2 e3
      subst e0 e1 e2 e3
      exact ⟨⟨x0, x1, x2, x3⟩, rfl, i64_of_wf w0, i64_of_wf w1, i64_of_wf w2, i64_of_wf w3⟩
/-- An event in memory, though a block of the call's own is written. -/
theorem RE.at_gc {w w3 : World} {A : Option Addr} {es : List Evn} {gc i : Nat} (h : RE w A es) (hev : Evt (fun _ => False) w w3) (hg : w.heap.size ≤ gc) (hi : i < es.length) : ∃ b o, A = some ⟨b, o, none⟩ ∧ ∀ w', Evt (fun j => j = gc) w3 w' → ∀ j v, (evnC es[i])[j]? = some v → w'.cell? ⟨b, o + i * 4 + j, none⟩ = some v := by
  obtain ⟨b, o, rfl, hc⟩ := h.2 (by omega)
  refine ⟨b, o, rfl, fun w' he j v hv => ?_⟩
  have h0 := hc i _ (List.getElem?_eq_getElem hi) j v hv
  have hb := World.block_lt_of_cell? w _ h0
  simp only [] at hb
  exact cell_evt he (cell_evt hev h0 id) (by simp only []; omega)
/-- A row written out whole. -/
theorem RI_blk {w : World} {g : Nat} {xs : List Int} (h : Blk w g 3 (ints xs)) (hl : xs.length ≤ 9223372036854775807) : RI w (some ⟨g, 0, none⟩) xs :=
  ⟨hl, fun _ => ⟨g, 0, rfl, fun j x hj => by
    rw [Blk.cell? h]
    simp [ints, hj]⟩⟩
end Go.Proofs.YthfnlmedelfbnaaDoor
