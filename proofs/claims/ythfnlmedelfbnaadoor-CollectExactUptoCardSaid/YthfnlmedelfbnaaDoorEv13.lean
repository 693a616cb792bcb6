/- How a slice of events that is an argument reads in memory; how long a policy's holidays are at most. -/
import Derived.Test.YthfnlmedelfbnaaDoorOpenPol
import Derived.Test.YthfnlmedelfbnaaDoorLaw13
import Derived.Test.YthfnlmedelfbnaaDoorOps5
import Derived.Deep.Slices
import Derived.Deep.Fields
import Derived.ChangeSame
import Derived.SizedLaws
import Derived.Laws.StructEq
namespace Go.Proofs.YthfnlmedelfbnaaDoor
open Go.ChangeShapes Go.WideShapes Go.ChangeAt Go.RowKit Go.Deep Go.Proofs.YthfnlmedelfbnaaDoorE

section
variable {H : Type} {enc : TypeId × Value → H} {P : Program} {w : World} {base : Nat} {spare : Nat → Bool} {held : Bool}
theorem open_slice_fields {t e : TypeId} {fs : Array Field} {fuel : Nat} {cs : List Value} {x : DataW H × List MemPlace} (ht : P.underlying t = some (.slice e)) (he : P.underlying e = some (.struct fs))
    (hone : oneCellFields P fs = true) (hC : P.cellsOf e = fs.size) (h : DataW.trod enc P w base spare held fuel t cs = some x) :
    (cs = [.slice none 0 0] ∧ x = (.nil, [])) ∨
    ∃ (a : Addr) (len cap m : Nat) (D : Nat → DataW H) (Pl : Nat → List MemPlace), cs = [.slice (some a) len cap] ∧ base ≤ a.block ∧ len ≤ cap ∧ cap ≤ maxLen ∧ m = (if spare a.block then cap else len) ∧
      x = (.slice ((List.range len).map D) ((List.range (m - len)).map fun j => D (len + j)), MemPlace.row a (m * fs.size) ++ (List.range m).flatMap Pl) ∧
      ∀ i, i < m → ∃ (ys : List (DataW H × List MemPlace)) (n : Nat), D i = .agg (ys.map (·.1)) ∧ Pl i = ys.flatMap (·.2) ∧ ys.length = fs.size ∧
        ∀ (j : Nat) (f : Field), fs[j]? = some f → ∃ (v : Value) (y : DataW H × List MemPlace), w.cell? (a.add (i * fs.size + j)) = some v ∧ ys[j]? = some y ∧ DataW.trod enc P w base spare held n f.type [v] = some y := by
  rcases open_slice ht h with h0 | ⟨a, len, cap, m, n, D, Pl, hcs, hb, hl, hm, hmm, hx, hi⟩
  · exact .inl h0
  · refine .inr ⟨a, len, cap, m, D, Pl, hcs, hb, hl, hm, hmm, by rw [hC] at hx; exact hx, fun i him => ?_⟩
    obtain ⟨cs', hc, ht'⟩ := hi i him
    rw [hC] at hc
    obtain ⟨ys, n', hn', hy, hlen, hyl, hf⟩ := DataW.trod_struct he ht'
    obtain ⟨_, hcl, hat⟩ := World.cells?_some hc
    simp only [Prod.mk.injEq] at hy
    refine ⟨ys, n', hy.1, hy.2, hyl, fun j f hj => ?_⟩
    obtain ⟨ho, hk⟩ := hone_of hone j f hj
    have hjl : j < fs.size := (Array.getElem?_eq_some_iff.1 hj).1
    have hcell := hat j hjl
    have hv : cs'[j]? = some (cs'[j]'(by omega)) := List.getElem?_eq_getElem (by omega)
    have h1 := hf j f hj
    rw [ho, hk] at h1
    have hone' : (cs'.drop j).take 1 = [cs'[j]'(by omega)] := by
      rw [List.drop_eq_getElem_cons (by omega)]
      rfl
    rw [hone'] at h1
    have hys : ys[j]? = some (ys[j]'(by omega)) := List.getElem?_eq_getElem (by omega)
    refine ⟨_, _, ?_, hys, h1.trans hys⟩
    rw [← Go.Deep.add_add, hcell, hv]
end

/-- What a slice of events is, in memory. -/
def RE (w : World) (A : Option Addr) (es : List Evn) : Prop := es.length ≤ 9223372036854775807 ∧ (0 < es.length → ∃ b o, A = some ⟨b, o, none⟩ ∧ ∀ j e, es[j]? = some e → ∀ i v, (evnC e)[i]? = some v → w.cell? ⟨b, o + j * 4 + i, none⟩ = some v)
theorem RE.up {w w' : World} {A : Option Addr} {es : List Evn} (h : RE w A es) (he : Evt (fun _ => False) w w') : RE w' A es :=
  ⟨h.1, fun hn => by
    obtain ⟨b, o, rfl, hc⟩ := h.2 hn
    exact ⟨b, o, rfl, fun j e hj i v hi => cell_evt he (hc j e hj i v hi) id⟩⟩
theorem RE.at_ {w : World} {A : Option Addr} {es : List Evn} (h : RE w A es) {i : Nat} (hi : i < es.length) : ∃ b o, A = some ⟨b, o, none⟩ ∧ ∀ w', Evt (fun _ => False) w w' → ∀ j v, (evnC es[i])[j]? = some v → w'.cell? ⟨b, o + i * 4 + j, none⟩ = some v := by
  obtain ⟨b, o, rfl, hc⟩ := h.2 (by omega)
  exact ⟨b, o, rfl, fun w' he j v hv => cell_evt he (hc i _ (List.getElem?_eq_getElem hi) j v hv) id⟩

theorem reach_slice {H : Type} {t e : TypeId} {elems spare : List (DataW H)} (hu : Tryd.prog.underlying t = some (.slice e)) (h : ∀ n ∈ (DataW.slice elems spare : DataW H).weights Tryd.prog t, n ≤ 140737488351232) : (elems.length + spare.length) * Tryd.prog.bytesOf e ≤ 140737488351232 :=
  h _ (by simp [DataW.weights, hu])
theorem open_RE {H : Type} {enc : TypeId × Value → H} {W : World} {r : Reach} {b0 : Nat} {v : Value} {d : DataW H} {ps : List MemPlace} (hv : Value.okWide Tryd.prog W r b0 49 v) (h : DataW.Trod enc Tryd.prog W 0 (fun _ => true) true 49 v d ps) :
    ∃ (A : Option Addr) (c : Nat) (es : List Evn), v = .slice A es.length c ∧ RE W A es ∧ (∀ e ∈ es, e.wf) ∧ ((∀ n ∈ d.weights Tryd.prog 49, n ≤ 140737488351232) → es.length * 32 ≤ 140737488351232) := by
  obtain ⟨a, l, c, rfl⟩ := okWide_slice Tryd.underlying49 hv
  obtain ⟨fuel, hf⟩ := h
  rcases open_slice_fields Tryd.underlying49 Tryd.underlying37 (by kernel_rfl) (by kernel_rfl) hf with ⟨hcs, _⟩ | ⟨a', len, cap, m, D, Pl, hcs, _, hl, hm, hmm, hx, hi⟩
  · simp only [Value.cells, List.cons.injEq, and_true] at hcs
    cases hcs
    exact ⟨none, 0, [], rfl, ⟨by simp, by simp⟩, by simp, by simp⟩
  · simp only [Value.cells, List.cons.injEq, and_true] at hcs
    cases hcs
    simp only [if_true] at hmm
    subst hmm
    have hE : ∀ i, i < m → ∃ e : Evn, e.wf ∧ ∀ j v, (evnC e)[j]? = some v → W.cell? (a'.add (i * 4 + j)) = some v := by
      intro i him
      obtain ⟨ys, n, _, _, _, hg⟩ := hi i him
      obtain ⟨v0, y0, c0, _, t0⟩ := hg 0 _ rfl
      obtain ⟨x0, e0, _, w0⟩ := DataW.trod_int Tryd.underlying3 t0
      simp only [List.cons.injEq, and_true] at e0
      subst e0
      obtain ⟨v1, y1, c1, _, t1⟩ := hg 1 _ rfl
      obtain ⟨x1, e1, _, w1⟩ := DataW.trod_int Tryd.underlying3 t1
      simp only [List.cons.injEq, and_true] at e1
      subst e1
      obtain ⟨v2, y2, c2, _, t2⟩ := hg 2 _ rfl
      obtain ⟨x2, e2, _, w2⟩ := DataW.trod_int Tryd.underlying3 t2
      simp only [List.cons.injEq, and_true] at e2
      subst e2
      obtain ⟨v3, y3, c3, _, t3⟩ := hg 3 _ rfl
      obtain ⟨x3, e3, _, w3⟩ := DataW.trod_int Tryd.underlying2 t3
      simp only [List.cons.injEq, and_true] at e3
      subst e3
      refine ⟨⟨x0, x1, x2, x3⟩, ⟨i64_of_wf w0, i64_of_wf w1, i64_of_wf w2, i64_of_wf w3⟩, ?_⟩
      intro j v hj
      match j, hj with
      | 0, hj => cases hj; exact c0
      | 1, hj => cases hj; exact c1
      | 2, hj => cases hj; exact c2
      | 3, hj => cases hj; exact c3
      | j + 4, hj => simp [evnC] at hj
    have hch : ∃ F : Nat → Evn, ∀ i, i < m → (F i).wf ∧ ∀ j v, (evnC (F i))[j]? = some v → W.cell? (a'.add (i * 4 + j)) = some v :=
      ⟨fun i => if h : i < m then Classical.choose (hE i h) else ⟨0, 0, 0, 0⟩, fun i h => by simp only [h, dif_pos]; exact Classical.choose_spec (hE i h)⟩
    obtain ⟨F, hF⟩ := hch
    have hlen : ((List.range l).map F).length = l := by simp
    refine ⟨some a', m, (List.range l).map F, by rw [hlen], ⟨by rw [hlen]; unfold maxLen at hm; omega, fun hn => ?_⟩, ?_, ?_⟩
    · rw [hlen] at hn
      obtain ⟨b, o, rfl⟩ := add_spot ((hF 0 (by omega)).2 0 _ rfl) (.inl rfl)
      refine ⟨b, o, rfl, fun j e hj i v hi => ?_⟩
      have hjl : j < l := by have := (List.getElem?_eq_some_iff.1 hj).1; rw [hlen] at this; exact this
      rw [List.getElem?_map, List.getElem?_range hjl] at hj
      simp only [Option.map_some, Option.some.injEq] at hj
      subst hj
      have := (hF j (by omega)).2 i v hi
      rw [add_off, ← Nat.add_assoc] at this
      exact this
    · intro e he
      simp only [List.mem_map, List.mem_range] at he
      obtain ⟨i, hi', rfl⟩ := he
      exact (hF i (by omega)).1
    · intro hw
      rw [hlen]
      simp only [Prod.mk.injEq] at hx
      rw [hx.1] at hw
      have := reach_slice Tryd.underlying49 hw
      have hb : Tryd.prog.bytesOf 37 = 32 := by kernel_rfl
      rw [hb] at this
      simp at this
      omega
theorem pol_sized {H : Type} {enc : TypeId × Value → H} {W : World} {p : Pol} {A : Option Addr} {c : Nat} {d : DataW H} {ps : List MemPlace} (h : DataW.Trod enc Tryd.prog W 0 (fun _ => true) true 24 (.agg (polC p A c).toArray) d ps) (hw : ∀ n ∈ d.weights Tryd.prog 24, n ≤ 140737488351232) : p.hs.length * 8 ≤ 140737488351232 := by
  obtain ⟨fuel, hf⟩ := h
  obtain ⟨xs, n, _, hx, _, hlen, hg⟩ := DataW.trod_struct Tryd.underlying24 hf
  have hcs : Tryd.prog.cellsOf 22 = 1 := by kernel_rfl
  have h17 := hg 17 _ rfl
  have hl17 : 17 < xs.length := by rw [hlen]; decide
  rw [List.getElem?_eq_getElem hl17] at h17
  have h18 : DataW.trod enc Tryd.prog W 0 (fun _ => true) true n 22 [.slice A p.hs.length c] = some xs[17] := by simpa [Value.cells, hcs] using h17
  simp only [Prod.mk.injEq] at hx
  have hd : (xs.map (·.1))[17]? = some xs[17].1 := by simp [hl17]
  rcases open_ints Tryd.underlying22 Tryd.underlying3 (by kernel_rfl) h18 with ⟨hcs', _⟩ | ⟨a, len, cap, zs, hcs', _, hl, hm, hz, hx17, hcell, hwz⟩
  · simp only [List.cons.injEq, and_true, Value.slice.injEq] at hcs'
    omega
  · simp only [List.cons.injEq, and_true, Value.slice.injEq] at hcs'
    have hz' : zs.length = cap := by simpa using hz
    have hwt : ∀ n ∈ (xs[17].1).weights Tryd.prog 22, n ≤ 140737488351232 := by
      intro n hn
      refine hw n ?_
      rw [hx.1]
      have hu : Tryd.prog.underlying 24 = some (.struct (Tryd.prog.fieldsOf 24)) := by kernel_rfl
      have hk : ((Tryd.prog.fieldsOf 24).toList.map (·.type))[17]? = some 22 := by kernel_rfl
      have hm' := DataW.weights_mem_each (P := Tryd.prog) (j := 17) hk hd n hn
      unfold DataW.weights
      rw [hu]
      exact hm'
    rw [hx17] at hwt
    have := reach_slice Tryd.underlying22 hwt
    have hb : Tryd.prog.bytesOf 3 = 8 := by kernel_rfl
    rw [hb] at this
    simp [lits, hz'] at this
    omega
end Go.Proofs.YthfnlmedelfbnaaDoor
