/- How a script of collect's law that is an argument reads in memory; the table of words. -/
import Derived.Test.YthfnlmedelfbnaaDoorL13k
import Derived.Test.YthfnlmedelfbnaaDoorUp13
import Derived.Deep.DeepHandedRow
namespace Go.Proofs.YthfnlmedelfbnaaDoor
open Go.ChangeShapes Go.WideShapes Go.ChangeAt Go.RowKit Go.Deep Go.Proofs.YthfnlmedelfbnaaDoorE
set_option linter.unusedSimpArgs false
set_option linter.unusedVariables false

theorem evn_of {H : Type} {enc : TypeId × Value → H} {W : World} {n : Nat} {cs : List Value} {y : DataW H × List MemPlace} (h : DataW.trod enc Tryd.prog W 0 (fun _ => true) true n 37 cs = some y) : ∃ e : Evn, cs = evnC e ∧ e.wf := by
  obtain ⟨xs, m, _, hx, hl, hlen, hg⟩ := DataW.trod_struct Tryd.underlying37 h
  have hC : Tryd.prog.cellsOf 37 = 4 := by kernel_rfl
  have hci : Tryd.prog.cellsOf 3 = 1 := by kernel_rfl
  have hcl : Tryd.prog.cellsOf 2 = 1 := by kernel_rfl
  match cs, hl.trans hC with
  | [c0, c1, c2, c3], _ =>
    match xs, hlen with
    | [y0, y1, y2, y3], _ =>
      have g0 : DataW.trod enc Tryd.prog W 0 (fun _ => true) true m 3 [c0] = some y0 := by simpa [Value.cells, hci] using hg 0 _ rfl
      have g1 : DataW.trod enc Tryd.prog W 0 (fun _ => true) true m 3 [c1] = some y1 := by simpa [Value.cells, hci] using hg 1 _ rfl
      have g2 : DataW.trod enc Tryd.prog W 0 (fun _ => true) true m 3 [c2] = some y2 := by simpa [Value.cells, hci] using hg 2 _ rfl
      have g3 : DataW.trod enc Tryd.prog W 0 (fun _ => true) true m 2 [c3] = some y3 := by simpa [Value.cells, hcl] using hg 3 _ rfl
      obtain ⟨x0, e0, _, w0⟩ := DataW.trod_int Tryd.underlying3 g0
      obtain ⟨x1, e1, _, w1⟩ := DataW.trod_int Tryd.underlying3 g1
      obtain ⟨x2, e2, _, w2⟩ := DataW.trod_int Tryd.underlying3 g2
      obtain ⟨x3, e3, _, w3⟩ := DataW.trod_int Tryd.underlying2 g3
      simp only [List.cons.injEq, and_true] at e0 e1 e2 e3
      subst e0 e1 e2 e3
      exact ⟨⟨x0, x1, x2, x3⟩, rfl, i64_of_wf w0, i64_of_wf w1, i64_of_wf w2, i64_of_wf w3⟩
theorem opx_of {H : Type} {enc : TypeId × Value → H} {W : World} {n : Nat} {cs : List Value} {y : DataW H × List MemPlace} (h : DataW.trod enc Tryd.prog W 0 (fun _ => true) true n 39 cs = some y) : ∃ o : Opx, cs = opxC o ∧ o.ev.wf ∧ o.nxt.wf := by
  obtain ⟨xs, m, _, hx, hl, hlen, hg⟩ := DataW.trod_struct Tryd.underlying39 h
  have hC : Tryd.prog.cellsOf 39 = 13 := by kernel_rfl
  have hci : Tryd.prog.cellsOf 3 = 1 := by kernel_rfl
  have hcb : Tryd.prog.cellsOf 4 = 1 := by kernel_rfl
  have hce : Tryd.prog.cellsOf 37 = 4 := by kernel_rfl
  match cs, hl.trans hC with
  | [c0, c1, c2, c3, c4, c5, c6, c7, c8, c9, c10, c11, c12], _ =>
    match xs, hlen with
    | [y0, y1, y2, y3, y4, y5, y6], _ =>
      have g0 : DataW.trod enc Tryd.prog W 0 (fun _ => true) true m 37 [c0, c1, c2, c3] = some y0 := by simpa [hce] using hg 0 _ rfl
      have g1 : DataW.trod enc Tryd.prog W 0 (fun _ => true) true m 4 [c4] = some y1 := by simpa [hcb] using hg 1 _ rfl
      have g2 : DataW.trod enc Tryd.prog W 0 (fun _ => true) true m 4 [c5] = some y2 := by simpa [hcb] using hg 2 _ rfl
      have g3 : DataW.trod enc Tryd.prog W 0 (fun _ => true) true m 4 [c6] = some y3 := by simpa [hcb] using hg 3 _ rfl
      have g4 : DataW.trod enc Tryd.prog W 0 (fun _ => true) true m 4 [c7] = some y4 := by simpa [hcb] using hg 4 _ rfl
      have g5 : DataW.trod enc Tryd.prog W 0 (fun _ => true) true m 3 [c8] = some y5 := by simpa [hci] using hg 5 _ rfl
      have g6 : DataW.trod enc Tryd.prog W 0 (fun _ => true) true m 37 [c9, c10, c11, c12] = some y6 := by simpa [hce] using hg 6 _ rfl
      obtain ⟨e, he, hwe⟩ := evn_of g0
      obtain ⟨x1, e1, _⟩ := DataW.trod_bool Tryd.underlying4 g1
      obtain ⟨x2, e2, _⟩ := DataW.trod_bool Tryd.underlying4 g2
      obtain ⟨x3, e3, _⟩ := DataW.trod_bool Tryd.underlying4 g3
      obtain ⟨x4, e4, _⟩ := DataW.trod_bool Tryd.underlying4 g4
      obtain ⟨x5, e5, _, w5⟩ := DataW.trod_int Tryd.underlying3 g5
      obtain ⟨f, hf, hwf⟩ := evn_of g6
      simp only [List.cons.injEq, and_true] at e1 e2 e3 e4 e5 he hf
      obtain ⟨rfl, rfl, rfl, rfl⟩ := he
      obtain ⟨rfl, rfl, rfl, rfl⟩ := hf
      subst e1 e2 e3 e4 e5
      exact ⟨⟨e, x1, x2, x3, x4, x5, f⟩, rfl, hwe, hwf⟩
theorem open_RX {H : Type} {enc : TypeId × Value → H} {W : World} {r : Reach} {b0 : Nat} {v : Value} {d : DataW H} {ps : List MemPlace} (hv : Value.okWide Tryd.prog W r b0 25 v) (h : DataW.Trod enc Tryd.prog W 0 (fun _ => true) true 25 v d ps) :
    ∃ (A : Option Addr) (c : Nat) (os : List Opx), v = .slice A os.length c ∧ RX W A os ∧ (∀ o ∈ os, o.ev.wf ∧ o.nxt.wf) ∧ os.length ≤ Rows.uptoBulk d := by
  obtain ⟨a, l, c, rfl⟩ := okWide_slice Tryd.underlying25 hv
  obtain ⟨fuel, hf⟩ := h
  rcases open_slice Tryd.underlying25 hf with ⟨hcs, _⟩ | ⟨a', len, cap, m, n, D, Pl, hcs, hb, hl, hm, hmm, hx, hi⟩
  · simp only [Value.cells, List.cons.injEq, and_true] at hcs
    cases hcs
    exact ⟨none, 0, [], rfl, ⟨by simp, by simp⟩, by simp, by simp⟩
  · simp only [Value.cells, List.cons.injEq, and_true] at hcs
    cases hcs
    simp only [if_true] at hmm
    subst hmm
    have hC : Tryd.prog.cellsOf 39 = 13 := by kernel_rfl
    have hE : ∀ i, i < m → ∃ o : Opx, (o.ev.wf ∧ o.nxt.wf) ∧ ∀ j v, (opxC o)[j]? = some v → W.cell? (a'.add (i * 13 + j)) = some v := by
      intro i him
      obtain ⟨cs', hc, ht'⟩ := hi i him
      rw [hC] at hc
      obtain ⟨_, hcl, hat⟩ := World.cells?_some hc
      obtain ⟨o, rfl, hw⟩ := opx_of ht'
      refine ⟨o, hw, fun j v hj => ?_⟩
      have hjl : j < 13 := (List.getElem?_eq_some_iff.1 hj).1
      have := hat j hjl
      rw [← Go.Deep.add_add, this]
      exact hj
    have hch : ∃ F : Nat → Opx, ∀ i, i < m → ((F i).ev.wf ∧ (F i).nxt.wf) ∧ ∀ j v, (opxC (F i))[j]? = some v → W.cell? (a'.add (i * 13 + j)) = some v :=
      ⟨fun i => if h : i < m then Classical.choose (hE i h) else ⟨⟨0, 0, 0, 0⟩, false, false, false, false, 0, ⟨0, 0, 0, 0⟩⟩, fun i h => by simp only [h, dif_pos]; exact Classical.choose_spec (hE i h)⟩
    obtain ⟨F, hF⟩ := hch
    have hlen : ((List.range l).map F).length = l := by simp
    have hd : d = .slice ((List.range l).map D) ((List.range (m - l)).map fun j => D (l + j)) := congrArg Prod.fst hx
    refine ⟨some a', m, (List.range l).map F, by rw [hlen], ⟨by rw [hlen]; unfold maxLen at hm; omega, fun hn => ?_⟩, ?_, ?_⟩
    · rw [hlen] at hn
      obtain ⟨b, o, rfl⟩ := add_spot ((hF 0 (by omega)).2 0 _ rfl) (.inl rfl)
      refine ⟨b, o, rfl, fun j e hj i v hi => ?_⟩
      have hjl : j < l := by have := (List.getElem?_eq_some_iff.1 hj).1; rw [hlen] at this; exact this
      rw [List.getElem?_map, List.getElem?_range hjl] at hj
      simp only [Option.map_some, Option.some.injEq] at hj
      subst hj
      have := (hF j (by omega)).2 i v hi
      rw [add_off, ← Nat.add_assoc] at this
      exact this
    · intro e he
      simp only [List.mem_map, List.mem_range] at he
      obtain ⟨i, hi', rfl⟩ := he
      exact (hF i (by omega)).1
    · rw [hlen, hd]
      simp only [Rows.uptoBulk]
      have := bulk_len ((List.range l).map D)
      simp only [List.length_map, List.length_range] at this
      omega
theorem gNames : Tryd.prog.globalNamed "arrears/collect.names" = some 0 := by kernel_rfl
theorem tNames : (Tryd.prog.globals[0]?).map (·.type) = some 48 := by kernel_rfl
theorem laid_at {H : Type} : ∀ i : Nat, i < 10 → ([.lit (.string []), .lit (.string [99, 117, 114, 114, 101, 110, 116]), .lit (.string [103, 114, 97, 99, 101]), .lit (.string [100, 101, 108, 105, 110, 113, 117, 101, 110, 116]), .lit (.string [112, 114, 111, 109, 105, 115, 101, 100]), .lit (.string [110, 111, 110, 45, 97, 99, 99, 114, 117, 97, 108]), .lit (.string [99, 117, 114, 101, 100]), .lit (.string [114, 101, 115, 116, 114, 117, 99, 116, 117, 114, 101, 100]), .lit (.string [99, 104, 97, 114, 103, 101, 100, 45, 111, 102, 102]), .lit (.string [99, 108, 111, 115, 101, 100])] : List (DataW H))[i]? = some (.lit (.string (nameB i).data.toList))
  | 0, _ => by simp [nameB]
  | 1, _ => by simp [nameB]
  | 2, _ => by simp [nameB]
  | 3, _ => by simp [nameB]
  | 4, _ => by simp [nameB]
  | 5, _ => by simp [nameB]
  | 6, _ => by simp [nameB]
  | 7, _ => by simp [nameB]
  | 8, _ => by simp [nameB]
  | 9, _ => by simp [nameB]
  | n + 10, h => by omega
/-- What the row's list gives: the table of words. -/
theorem nms_of {W : World} (h : laidMetH Tryd.prog Rows.collectExactUptoRow.laid W) : Nms W := by
  have h' : laidMet Tryd.prog [("arrears/collect.names", Rows.laid_arrears_collect_names)] W := h
  obtain ⟨ps, ⟨g', t', cs, fuel, p, q, hg', ht', hvar, hd, _, _⟩, _⟩ := h'
  obtain rfl := Option.some.inj (gNames.symm.trans hg')
  obtain rfl := Option.some.inj (tNames.symm.trans ht')
  obtain ⟨xs, m, _, hx, hlc, hn, hel⟩ := DataW.trod_array Tryd.underlying48 hd
  have hcs : Tryd.prog.cellsOf 9 = 1 := by kernel_rfl
  intro i hi
  have h1 := hel i hi
  have hxi : xs[i]? = some (xs[i]'(by omega)) := List.getElem?_eq_getElem (by omega)
  rw [hcs, Nat.mul_one, hxi] at h1
  obtain ⟨s, h2, h3, _⟩ := DataW.trod_string Tryd.underlying9 h1
  have h4 : xs.map (·.1) = _ := (DataW.agg.inj (congrArg Prod.fst hx)).symm
  have h5 := laid_at (H := Unit) i hi
  have h6 : (xs.map (·.1))[i]? = some (.lit (.string (nameB i).data.toList)) := by rw [h4]; exact h5
  rw [List.getElem?_map, hxi] at h6
  simp only [Option.map_some, Option.some.injEq] at h6
  rw [h3] at h6
  simp only [DataW.lit.injEq, Lit.string.injEq] at h6
  have hs : s = nameB i := by
    apply ByteArray.ext
    exact Array.ext' h6
  subst hs
  have h7 := World.var?_cell gNames hvar i
  rw [h7]
  have h8 := congrArg (·[0]?) h2
  simp only [List.getElem?_take, List.getElem?_drop] at h8
  simpa using h8
end Go.Proofs.YthfnlmedelfbnaaDoor
