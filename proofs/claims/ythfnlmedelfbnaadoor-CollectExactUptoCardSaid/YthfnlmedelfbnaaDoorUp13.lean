/- What the bound on the bulk gives. -/
import Derived.Test.YthfnlmedelfbnaaDoorEv13
import Derived.Test.YthfnlmedelfbnaaDoorRows
import Derived.Deep.Slices
import Derived.JoinedCond
import Derived.Deep.CondSized
namespace Go.Proofs.YthfnlmedelfbnaaDoor
open Go.ChangeShapes Go.WideShapes Go.ChangeAt Go.RowKit Go.Deep Go.Proofs.YthfnlmedelfbnaaDoorE

theorem bulk_one {H : Type} (d : DataW H) : 1 ≤ Rows.uptoBulk d := by
  cases d with
  | lit l => cases l <;> simp [Rows.uptoBulk]
  | nil => simp [Rows.uptoBulk]
  | ptr d => simp [Rows.uptoBulk]
  | slice elems spare => simp [Rows.uptoBulk]
  | agg parts => simp [Rows.uptoBulk]
  | iface t d => simp [Rows.uptoBulk]
  | map entries => simp [Rows.uptoBulk]
  | held h => simp [Rows.uptoBulk]
theorem bulk_part {H : Type} {d : DataW H} {l : List (DataW H)} (h : d ∈ l) : Rows.uptoBulk d ≤ Rows.uptoBulkAll l := by
  induction l with
  | nil => cases h
  | cons x r ih =>
    simp only [Rows.uptoBulkAll]
    cases List.mem_cons.1 h with
    | inl e => subst e; omega
    | inr e => have := ih e; omega
theorem bulk_len {H : Type} (l : List (DataW H)) : l.length ≤ Rows.uptoBulkAll l := by
  induction l with
  | nil => simp
  | cons x r ih => have := bulk_one x; simp only [Rows.uptoBulkAll, List.length_cons]; omega
theorem re_bulk {H : Type} {enc : TypeId × Value → H} {W : World} {A : Option Addr} {n c : Nat} {d : DataW H} {ps : List MemPlace} (h : DataW.Trod enc Tryd.prog W 0 (fun _ => true) true 49 (.slice A n c) d ps) : n ≤ Rows.uptoBulk d := by
  obtain ⟨fuel, hf⟩ := h
  rcases open_slice_fields Tryd.underlying49 Tryd.underlying37 (by kernel_rfl) (by kernel_rfl) hf with ⟨hcs, _⟩ | ⟨a', len, cap, m, D, Pl, hcs, _, hl, hm, hmm, hx, hi⟩
  · simp only [Value.cells, List.cons.injEq, and_true, Value.slice.injEq] at hcs
    omega
  · simp only [Value.cells, List.cons.injEq, and_true, Value.slice.injEq] at hcs
    have hd : d = .slice ((List.range len).map D) ((List.range (m - len)).map fun j => D (len + j)) := congrArg Prod.fst hx
    rw [hd]
    simp only [Rows.uptoBulk]
    have := bulk_len ((List.range len).map D)
    simp only [List.length_map, List.length_range] at this
    omega
theorem pol_bulk {H : Type} {enc : TypeId × Value → H} {W : World} {p : Pol} {A : Option Addr} {c : Nat} {d : DataW H} {ps : List MemPlace} (h : DataW.Trod enc Tryd.prog W 0 (fun _ => true) true 24 (.agg (polC p A c).toArray) d ps) : p.hs.length ≤ Rows.uptoBulk d := by
  obtain ⟨fuel, hf⟩ := h
  obtain ⟨xs, n, _, hx, _, hlen, hg⟩ := DataW.trod_struct Tryd.underlying24 hf
  have hcs : Tryd.prog.cellsOf 22 = 1 := by kernel_rfl
  have h17 := hg 17 _ rfl
  have hl17 : 17 < xs.length := by rw [hlen]; decide
  rw [List.getElem?_eq_getElem hl17] at h17
  have h18 : DataW.trod enc Tryd.prog W 0 (fun _ => true) true n 22 [.slice A p.hs.length c] = some xs[17] := by simpa [Value.cells, hcs] using h17
  simp only [Prod.mk.injEq] at hx
  have hd : xs[17].1 ∈ xs.map (·.1) := List.mem_map.2 ⟨_, List.getElem_mem hl17, rfl⟩
  have hb := bulk_part hd
  rw [hx.1]
  simp only [Rows.uptoBulk]
  rcases open_ints Tryd.underlying22 Tryd.underlying3 (by kernel_rfl) h18 with ⟨hcs', _⟩ | ⟨a, len, cap, zs, hcs', _, hl, hm, hz, hx17, hcell, hwz⟩
  · simp only [List.cons.injEq, and_true, Value.slice.injEq] at hcs'
    omega
  · simp only [List.cons.injEq, and_true, Value.slice.injEq] at hcs'
    have hz' : zs.length = cap := by simpa using hz
    rw [hx17] at hb
    simp only [Rows.uptoBulk] at hb
    have h1 := bulk_len (H := H) (lits .i64 (zs.take len))
    have h2 : (lits (H := H) .i64 (zs.take len)).length = len := by simp [lits]; omega
    omega
end Go.Proofs.YthfnlmedelfbnaaDoor
