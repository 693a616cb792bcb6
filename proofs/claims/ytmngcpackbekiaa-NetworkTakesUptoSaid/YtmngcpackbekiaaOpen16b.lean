/- How a script that is an argument reads in memory; what the bound on the bulk gives. -/
import Derived.Test.YtmngcpackbekiaaOpen16
import Derived.Test.YtmngcpackbekiaaPly16b
import Derived.Test.YtmngcpackbekiaaRows
import Derived.Deep.Slices
import Derived.JoinedCond
import Derived.Deep.CondSized
namespace Go.Proofs.Ytmngcpackbekiaa
open Go.ChangeShapes Go.WideShapes Go.ChangeAt Go.RowKit Go.Deep Go.Proofs.YtmngcpackbekiaaE

theorem bulk_one {H : Type} (d : DataW H) : 1 ≤ Rows.uptoBulk d := by
  cases d with
  | lit l => cases l <;> simp [Rows.uptoBulk]
  | nil => simp [Rows.uptoBulk]
  | ptr d => simp [Rows.uptoBulk]
  | slice elems spare => simp [Rows.uptoBulk]
  | agg parts => simp [Rows.uptoBulk]
  | iface t d => simp [Rows.uptoBulk]
  | map entries => simp [Rows.uptoBulk]
  | held h => simp [Rows.uptoBulk]
theorem bulk_part {H : Type} {d : DataW H} {l : List (DataW H)} (h : d ∈ l) : Rows.uptoBulk d ≤ Rows.uptoBulkAll l := by
  induction l with
  | nil => cases h
  | cons x r ih =>
    simp only [Rows.uptoBulkAll]
    cases List.mem_cons.1 h with
    | inl e => subst e; omega
    | inr e => have := ih e; omega
theorem bulk_len {H : Type} (l : List (DataW H)) : l.length ≤ Rows.uptoBulkAll l := by
  induction l with
  | nil => simp
  | cons x r ih => have := bulk_one x; simp only [Rows.uptoBulkAll, List.length_cons]; omega
section
variable {H : Type} {enc : TypeId × Value → H} {P : Program} {w : World} {base : Nat} {spare : Nat → Bool} {held : Bool}
theorem open_slice_fields {t e : TypeId} {fs : Array Field} {fuel : Nat} {cs : List Value} {x : DataW H × List MemPlace} (ht : P.underlying t = some (.slice e)) (he : P.underlying e = some (.struct fs))
    (hone : oneCellFields P fs = true) (hC : P.cellsOf e = fs.size) (h : DataW.trod enc P w base spare held fuel t cs = some x) :
    (cs = [.slice none 0 0] ∧ x = (.nil, [])) ∨
    ∃ (a : Addr) (len cap m : Nat) (D : Nat → DataW H) (Pl : Nat → List MemPlace), cs = [.slice (some a) len cap] ∧ base ≤ a.block ∧ len ≤ cap ∧ cap ≤ maxLen ∧ m = (if spare a.block then cap else len) ∧
      x = (.slice ((List.range len).map D) ((List.range (m - len)).map fun j => D (len + j)), MemPlace.row a (m * fs.size) ++ (List.range m).flatMap Pl) ∧
      ∀ i, i < m → ∃ (ys : List (DataW H × List MemPlace)) (n : Nat), D i = .agg (ys.map (·.1)) ∧ Pl i = ys.flatMap (·.2) ∧ ys.length = fs.size ∧
        ∀ (j : Nat) (f : Field), fs[j]? = some f → ∃ (v : Value) (y : DataW H × List MemPlace), w.cell? (a.add (i * fs.size + j)) = some v ∧ ys[j]? = some y ∧ DataW.trod enc P w base spare held n f.type [v] = some y := by
  rcases open_slice ht h with h0 | ⟨a, len, cap, m, n, D, Pl, hcs, hb, hl, hm, hmm, hx, hi⟩
  · exact .inl h0
  · refine .inr ⟨a, len, cap, m, D, Pl, hcs, hb, hl, hm, hmm, by rw [hC] at hx; exact hx, fun i him => ?_⟩
    obtain ⟨cs', hc, ht'⟩ := hi i him
    rw [hC] at hc
    obtain ⟨ys, n', hn', hy, hlen, hyl, hf⟩ := DataW.trod_struct he ht'
    obtain ⟨_, hcl, hat⟩ := World.cells?_some hc
    simp only [Prod.mk.injEq] at hy
    refine ⟨ys, n', hy.1, hy.2, hyl, fun j f hj => ?_⟩
    obtain ⟨ho, hk⟩ := hone_of hone j f hj
    have hjl : j < fs.size := (Array.getElem?_eq_some_iff.1 hj).1
    have hcell := hat j hjl
    have hv : cs'[j]? = some (cs'[j]'(by omega)) := List.getElem?_eq_getElem (by omega)
    have h1 := hf j f hj
    rw [ho, hk] at h1
    have hone' : (cs'.drop j).take 1 = [cs'[j]'(by omega)] := by
      rw [List.drop_eq_getElem_cons (by omega)]
      rfl
    rw [hone'] at h1
    have hys : ys[j]? = some (ys[j]'(by omega)) := List.getElem?_eq_getElem (by omega)
    refine ⟨_, _, ?_, hys, h1.trans hys⟩
    rw [← Go.Deep.add_add, hcell, hv]
end
/-- Bytes that came in, and how much they weigh. -/
theorem open_RBb {H : Type} {enc : TypeId × Value → H} {W : World} {fuel : Nat} {v : Value} {x : DataW H × List MemPlace} (h : DataW.trod enc Try.prog W 0 (fun _ => true) true fuel 22 [v] = some x) :
    ∃ (A : Option Addr) (c : Nat) (xs : List Int), v = .slice A xs.length c ∧ RC W A (u8s xs) ∧ xs.length ≤ Rows.uptoBulk x.1 := by
  have h' := h
  rcases open_ints Try.underlying22 Try.underlying5 (by kernel_rfl) h with ⟨hcs, _⟩ | ⟨a, len, cap, zs, hcs, _, hl, hm, hz, hx, hcell, hwz⟩
  · simp only [List.cons.injEq, and_true] at hcs
    subst hcs
    exact ⟨none, 0, [], rfl, RC.nil _ _, by simp⟩
  · simp only [List.cons.injEq, and_true] at hcs
    subst hcs
    obtain ⟨A, c, xs, hv, hrc, _⟩ := open_RB h'
    refine ⟨A, c, xs, hv, hrc, ?_⟩
    simp only [Value.slice.injEq] at hv
    have hz' : zs.length = cap := by simpa using hz
    rw [hx]
    show _ ≤ Rows.uptoBulk (DataW.slice _ _)
    simp only [Rows.uptoBulk]
    have := bulk_len (H := H) (lits .u8 (zs.take len))
    have hl2 : (lits (H := H) .u8 (zs.take len)).length = len := by simp [lits]; omega
    omega
theorem openArg_bytesb {H : Type} {enc : TypeId × Value → H} {W : World} {r : Reach} {b0 : Nat} {v : Value} {d : DataW H} {ps : List MemPlace} (hv : Value.okWide Try.prog W r b0 22 v) (h : DataW.Trod enc Try.prog W 0 (fun _ => true) true 22 v d ps) :
    ∃ (A : Option Addr) (c : Nat) (xs : List Int), v = .slice A xs.length c ∧ RC W A (u8s xs) ∧ xs.length ≤ Rows.uptoBulk d := by
  obtain ⟨a, l, c, rfl⟩ := okWide_slice Try.underlying22 hv
  obtain ⟨fuel, hf⟩ := h
  exact open_RBb hf
theorem open_RO {H : Type} {enc : TypeId × Value → H} {W : World} {r : Reach} {b0 : Nat} {v : Value} {d : DataW H} {ps : List MemPlace} (hv : Value.okWide Try.prog W r b0 41 v) (h : DataW.Trod enc Try.prog W 0 (fun _ => true) true 41 v d ps) :
    ∃ (A : Option Addr) (c : Nat) (os : List Opr), v = .slice A os.length c ∧ RO W A os ∧ (∀ o ∈ os, (-9223372036854775808 ≤ o.id ∧ o.id ≤ 9223372036854775807) ∧ o.body.length ≤ Rows.uptoBulk d ∧ o.s.size ≤ 9223372036854775807) ∧ os.length ≤ Rows.uptoBulk d := by
  obtain ⟨a, l, c, rfl⟩ := okWide_slice Try.underlying41 hv
  obtain ⟨fuel, hf⟩ := h
  rcases open_slice_fields Try.underlying41 Try.underlying45 (by kernel_rfl) (by kernel_rfl) hf with ⟨hcs, _⟩ | ⟨a', len, cap, m, D, Pl, hcs, _, hl, hm, hmm, hx, hi⟩
  · simp only [Value.cells, List.cons.injEq, and_true] at hcs
    cases hcs
    exact ⟨none, 0, [], rfl, ⟨by simp, by simp, by simp⟩, by simp, by simp⟩
  · simp only [Value.cells, List.cons.injEq, and_true] at hcs
    cases hcs
    simp only [if_true] at hmm
    subst hmm
    have hd : d = .slice ((List.range l).map D) ((List.range (m - l)).map fun j => D (l + j)) := congrArg Prod.fst hx
    have hbl : ∀ i, i < l → Rows.uptoBulk (D i) ≤ Rows.uptoBulk d := fun i hi' => by
      rw [hd]
      simp only [Rows.uptoBulk]
      have := bulk_part (List.mem_map.2 ⟨i, List.mem_range.2 hi', rfl⟩ : D i ∈ (List.range l).map D)
      omega
    have hE : ∀ i, i < m → ∃ o : Opr, ((-9223372036854775808 ≤ o.id ∧ o.id ≤ 9223372036854775807) ∧ o.body.length ≤ Rows.uptoBulk (D i) ∧ o.s.size ≤ 9223372036854775807) ∧ RC W o.A (u8s o.body) ∧ ∀ j v, (opC o)[j]? = some v → W.cell? (a'.add (i * 6 + j)) = some v := by
      intro i him
      obtain ⟨ys, n, hDi, _, _, hg⟩ := hi i him
      obtain ⟨v0, y0, c0, _, t0⟩ := hg 0 _ rfl
      obtain ⟨x0, e0, _, w0⟩ := DataW.trod_int Try.underlying3 t0
      simp only [List.cons.injEq, and_true] at e0
      subst e0
      obtain ⟨v1, y1, c1, _, t1⟩ := hg 1 _ rfl
      obtain ⟨x1, e1, _⟩ := DataW.trod_bool Try.underlying4 t1
      simp only [List.cons.injEq, and_true] at e1
      subst e1
      obtain ⟨v2, y2, c2, _, t2⟩ := hg 2 _ rfl
      obtain ⟨x2, e2, _, w2⟩ := DataW.trod_string Try.underlying9 t2
      simp only [List.cons.injEq, and_true] at e2
      subst e2
      obtain ⟨v3, y3, c3, _, t3⟩ := hg 3 _ rfl
      obtain ⟨x3, e3, _, w3⟩ := DataW.trod_int Try.underlying3 t3
      simp only [List.cons.injEq, and_true] at e3
      subst e3
      obtain ⟨v4, y4, c4, _, t4⟩ := hg 4 _ rfl
      obtain ⟨x4, e4, _⟩ := DataW.trod_bool Try.underlying4 t4
      simp only [List.cons.injEq, and_true] at e4
      subst e4
      obtain ⟨v5, y5, c5, hy5, t5⟩ := hg 5 _ rfl
      obtain ⟨A5, k5, x5, rfl, rc5, b5⟩ := open_RBb t5
      refine ⟨⟨x0, x1, x2, x3, x4, x5, A5, k5⟩, ⟨i64_of_wf w3, ?_, by unfold maxLen at w2; omega⟩, rc5, ?_⟩
      · show x5.length ≤ _
        rw [hDi]
        simp only [Rows.uptoBulk]
        have := bulk_part (List.mem_map.2 ⟨y5, List.mem_of_getElem? hy5, rfl⟩ : y5.1 ∈ ys.map (·.1))
        omega
      intro j v hj
      match j, hj with
      | 0, hj => cases hj; exact c0
      | 1, hj => cases hj; exact c1
      | 2, hj => cases hj; exact c2
      | 3, hj => cases hj; exact c3
      | 4, hj => cases hj; exact c4
      | 5, hj => cases hj; exact c5
      | j + 6, hj => simp [opC] at hj
    have hch : ∃ F : Nat → Opr, ∀ i, i < m → (((-9223372036854775808 ≤ (F i).id ∧ (F i).id ≤ 9223372036854775807) ∧ (F i).body.length ≤ Rows.uptoBulk (D i) ∧ (F i).s.size ≤ 9223372036854775807) ∧ RC W (F i).A (u8s (F i).body) ∧ ∀ j v, (opC (F i))[j]? = some v → W.cell? (a'.add (i * 6 + j)) = some v) :=
      ⟨fun i => if h : i < m then Classical.choose (hE i h) else ⟨0, false, ⟨#[]⟩, 0, false, [], none, 0⟩, fun i h => by simp only [h, dif_pos]; exact Classical.choose_spec (hE i h)⟩
    obtain ⟨F, hF⟩ := hch
    have hlen : ((List.range l).map F).length = l := by simp
    refine ⟨some a', m, (List.range l).map F, by rw [hlen], ⟨by rw [hlen]; unfold maxLen at hm; omega, fun hn => ?_, fun o ho => ?_⟩, fun o ho => ?_, ?_⟩
    · rw [hlen] at hn
      obtain ⟨b, o, rfl⟩ := add_spot ((hF 0 (by omega)).2.2 0 _ rfl) (.inl rfl)
      refine ⟨b, o, rfl, fun j e hj i v hi => ?_⟩
      have hjl : j < l := by have := (List.getElem?_eq_some_iff.1 hj).1; rw [hlen] at this; exact this
      rw [List.getElem?_map, List.getElem?_range hjl] at hj
      simp only [Option.map_some, Option.some.injEq] at hj
      subst hj
      have := (hF j (by omega)).2.2 i v hi
      rw [add_off, ← Nat.add_assoc] at this
      exact this
    · simp only [List.mem_map, List.mem_range] at ho
      obtain ⟨i, hi', rfl⟩ := ho
      exact (hF i (by omega)).2.1
    · simp only [List.mem_map, List.mem_range] at ho
      obtain ⟨i, hi', rfl⟩ := ho
      obtain ⟨h1, h2, h3⟩ := (hF i (by omega)).1
      have := hbl i hi'
      exact ⟨h1, by omega, h3⟩
    · rw [hlen, hd]
      simp only [Rows.uptoBulk]
      have := bulk_len ((List.range l).map D)
      simp only [List.length_map, List.length_range] at this
      omega
end Go.Proofs.Ytmngcpackbekiaa
