/- What came in, opened: policies, bytes. -/
import Derived.Test.YtchfkkliechgoaaOpenPol
import Derived.Test.YtchfkkliechgoaaBox17
import Derived.Deep.Slices
import Derived.Deep.Fields
import Derived.ChangeSame
import Derived.SizedLaws
namespace Go.Proofs.Ytchfkkliechgoaa
open Go.ChangeShapes Go.WideShapes Go.ChangeAt Go.RowKit Go.Deep Go.Proofs.YtchfkkliechgoaaE
set_option linter.unusedSimpArgs false
set_option linter.unusedVariables false
set_option maxRecDepth 4000

section
variable {H : Type} {enc : TypeId × Value → H} {P : Program} {w : World} {base : Nat} {spare : Nat → Bool} {held : Bool}
theorem open_slice_fields {t e : TypeId} {fs : Array Field} {fuel : Nat} {cs : List Value} {x : DataW H × List MemPlace} (ht : P.underlying t = some (.slice e)) (he : P.underlying e = some (.struct fs))
    (hone : oneCellFields P fs = true) (hC : P.cellsOf e = fs.size) (h : DataW.trod enc P w base spare held fuel t cs = some x) :
    (cs = [.slice none 0 0] ∧ x = (.nil, [])) ∨
    ∃ (a : Addr) (len cap m : Nat) (D : Nat → DataW H) (Pl : Nat → List MemPlace), cs = [.slice (some a) len cap] ∧ base ≤ a.block ∧ len ≤ cap ∧ cap ≤ maxLen ∧ m = (if spare a.block then cap else len) ∧
      x = (.slice ((List.range len).map D) ((List.range (m - len)).map fun j => D (len + j)), MemPlace.row a (m * fs.size) ++ (List.range m).flatMap Pl) ∧
      ∀ i, i < m → ∃ (ys : List (DataW H × List MemPlace)) (n : Nat), D i = .agg (ys.map (·.1)) ∧ Pl i = ys.flatMap (·.2) ∧ ys.length = fs.size ∧
        ∀ (j : Nat) (f : Field), fs[j]? = some f → ∃ (v : Value) (y : DataW H × List MemPlace), w.cell? (a.add (i * fs.size + j)) = some v ∧ ys[j]? = some y ∧ DataW.trod enc P w base spare held n f.type [v] = some y := by
  rcases open_slice ht h with h0 | ⟨a, len, cap, m, n, D, Pl, hcs, hb, hl, hm, hmm, hx, hi⟩
  · exact .inl h0
  · refine .inr ⟨a, len, cap, m, D, Pl, hcs, hb, hl, hm, hmm, by rw [hC] at hx; exact hx, fun i him => ?_⟩
    obtain ⟨cs', hc, ht'⟩ := hi i him
    rw [hC] at hc
    obtain ⟨ys, n', hn', hy, hlen, hyl, hf⟩ := DataW.trod_struct he ht'
    obtain ⟨_, hcl, hat⟩ := World.cells?_some hc
    simp only [Prod.mk.injEq] at hy
    refine ⟨ys, n', hy.1, hy.2, hyl, fun j f hj => ?_⟩
    obtain ⟨ho, hk⟩ := hone_of hone j f hj
    have hjl : j < fs.size := (Array.getElem?_eq_some_iff.1 hj).1
    have hcell := hat j hjl
    have hv : cs'[j]? = some (cs'[j]'(by omega)) := List.getElem?_eq_getElem (by omega)
    have h1 := hf j f hj
    rw [ho, hk] at h1
    have hone' : (cs'.drop j).take 1 = [cs'[j]'(by omega)] := by
      rw [List.drop_eq_getElem_cons (by omega)]
      rfl
    rw [hone'] at h1
    have hys : ys[j]? = some (ys[j]'(by omega)) := List.getElem?_eq_getElem (by omega)
    refine ⟨_, _, ?_, hys, h1.trans hys⟩
    rw [← Go.Deep.add_add, hcell, hv]
end

theorem reach_slice {H : Type} {t e : TypeId} {elems spare : List (DataW H)} (hu : Try.prog.underlying t = some (.slice e)) (h : ∀ n ∈ (DataW.slice elems spare : DataW H).weights Try.prog t, n ≤ 140737488351232) : (elems.length + spare.length) * Try.prog.bytesOf e ≤ 140737488351232 :=
  h _ (by simp [DataW.weights, hu])
theorem pol_sized {H : Type} {enc : TypeId × Value → H} {W : World} {p : Pol} {A : Option Addr} {c : Nat} {d : DataW H} {ps : List MemPlace} (h : DataW.Trod enc Try.prog W 0 (fun _ => true) true 24 (.agg (polC p A c).toArray) d ps) (hw : ∀ n ∈ d.weights Try.prog 24, n ≤ 140737488351232) : p.hs.length * 8 ≤ 140737488351232 := by
  obtain ⟨fuel, hf⟩ := h
  obtain ⟨xs, n, _, hx, _, hlen, hg⟩ := DataW.trod_struct Try.underlying24 hf
  have hcs : Try.prog.cellsOf 22 = 1 := by kernel_rfl
  have h17 := hg 17 _ rfl
  have hl17 : 17 < xs.length := by rw [hlen]; decide
  rw [List.getElem?_eq_getElem hl17] at h17
  have h18 : DataW.trod enc Try.prog W 0 (fun _ => true) true n 22 [.slice A p.hs.length c] = some xs[17] := by simpa [Value.cells, hcs] using h17
  simp only [Prod.mk.injEq] at hx
  have hd : (xs.map (·.1))[17]? = some xs[17].1 := by simp [hl17]
  rcases open_ints Try.underlying22 Try.underlying3 (by kernel_rfl) h18 with ⟨hcs', _⟩ | ⟨a, len, cap, zs, hcs', _, hl, hm, hz, hx17, hcell, hwz⟩
  · simp only [List.cons.injEq, and_true, Value.slice.injEq] at hcs'
    omega
  · simp only [List.cons.injEq, and_true, Value.slice.injEq] at hcs'
    have hz' : zs.length = cap := by simpa using hz
    have hwt : ∀ n ∈ (xs[17].1).weights Try.prog 22, n ≤ 140737488351232 := by
      intro n hn
      refine hw n ?_
      rw [hx.1]
      have hu : Try.prog.underlying 24 = some (.struct (Try.prog.fieldsOf 24)) := by kernel_rfl
      have hk : ((Try.prog.fieldsOf 24).toList.map (·.type))[17]? = some 22 := by kernel_rfl
      have hm' := DataW.weights_mem_each (P := Try.prog) (j := 17) hk hd n hn
      unfold DataW.weights
      rw [hu]
      exact hm'
    rw [hx17] at hwt
    have := reach_slice Try.underlying22 hwt
    have hb : Try.prog.bytesOf 3 = 8 := by kernel_rfl
    rw [hb] at this
    simp [lits, hz'] at this
    omega
theorem u8_of_wf {x : Int} (h : (Lit.int .u8 x).wf = true) : 0 ≤ x ∧ x ≤ 255 := by
  have h1 : decide (IntKind.u8.min ≤ x) && decide (x ≤ IntKind.u8.max) := h
  simp only [Bool.and_eq_true, decide_eq_true_eq] at h1
  exact h1
/-- A slice of bytes that came in. -/
theorem open_RB {H : Type} {enc : TypeId × Value → H} {W : World} {fuel : Nat} {v : Value} {x : DataW H × List MemPlace} (h : DataW.trod enc Try.prog W 0 (fun _ => true) true fuel 28 [v] = some x) :
    ∃ (A : Option Addr) (c : Nat) (xs : List Int), v = .slice A xs.length c ∧ RC W A (u8s xs) ∧ (∀ n ∈ xs, 0 ≤ n ∧ n ≤ 255) ∧ xs.length ≤ c ∧ ((∀ n ∈ x.1.weights Try.prog 28, n ≤ 140737488351232) → xs.length ≤ 140737488351232) := by
  rcases open_ints Try.underlying28 Try.underlying5 (by kernel_rfl) h with ⟨hcs, _⟩ | ⟨a, len, cap, zs, hcs, _, hl, hm, hz, hx, hcell, hwz⟩
  · simp only [List.cons.injEq, and_true] at hcs
    subst hcs
    exact ⟨none, 0, [], rfl, RC.nil _ _, by simp, by simp, by simp⟩
  · simp only [List.cons.injEq, and_true] at hcs
    subst hcs
    have hz' : zs.length = cap := by simpa using hz
    have htl : (zs.take len).length = len := by simp; omega
    refine ⟨some a, cap, zs.take len, by rw [htl], fun hn => ?_, fun n hn => u8_of_wf (hwz n (List.mem_of_mem_take hn)), by omega, fun hw => ?_⟩
    · rw [u8s_length, htl] at hn
      obtain ⟨b, o, rfl⟩ := add_spot (hcell 0 (by omega)) (.inl rfl)
      refine ⟨b, o, rfl, fun j v hj => ?_⟩
      have hjl : j < len := by have := (List.getElem?_eq_some_iff.1 hj).1; rw [u8s_length, htl] at this; exact this
      have h1 := hcell j (by omega)
      rw [add_off] at h1
      rw [h1]
      rw [u8s, List.getElem?_map, List.getElem?_take, if_pos hjl] at hj
      rw [List.getD_eq_getElem?_getD]
      cases hzj : zs[j]? with
      | none => rw [hzj] at hj; simp at hj
      | some z => rw [hzj] at hj; simpa using hj
    · rw [hx] at hw
      have := reach_slice Try.underlying28 hw
      have hb : Try.prog.bytesOf 5 = 1 := by kernel_rfl
      rw [hb] at this
      simp [lits] at this
      rw [htl]
      omega
theorem openArg_bytes {H : Type} {enc : TypeId × Value → H} {W : World} {r : Reach} {b0 : Nat} {v : Value} {d : DataW H} {ps : List MemPlace} (hv : Value.okWide Try.prog W r b0 28 v) (h : DataW.Trod enc Try.prog W 0 (fun _ => true) true 28 v d ps) :
    ∃ (A : Option Addr) (c : Nat) (xs : List Int), v = .slice A xs.length c ∧ RC W A (u8s xs) ∧ (∀ n ∈ xs, 0 ≤ n ∧ n ≤ 255) ∧ xs.length ≤ c ∧ ((∀ n ∈ d.weights Try.prog 28, n ≤ 140737488351232) → xs.length ≤ 140737488351232) := by
  obtain ⟨a, l, c, rfl⟩ := okWide_slice Try.underlying28 hv
  obtain ⟨fuel, hf⟩ := h
  exact open_RB hf
end Go.Proofs.Ytchfkkliechgoaa
