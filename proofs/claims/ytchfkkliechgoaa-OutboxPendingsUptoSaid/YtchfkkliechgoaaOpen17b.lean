/- How a script that is an argument reads in memory; what the bound on the bulk gives. -/
import Derived.Test.YtchfkkliechgoaaOpen17
import Derived.Test.YtchfkkliechgoaaUpt17
import Derived.Test.YtchfkkliechgoaaRows
import Derived.Deep.Slices
import Derived.JoinedCond
import Derived.Deep.CondSized
namespace Go.Proofs.Ytchfkkliechgoaa
open Go.ChangeShapes Go.WideShapes Go.ChangeAt Go.RowKit Go.Deep Go.Proofs.YtchfkkliechgoaaE
set_option linter.unusedSimpArgs false
set_option linter.unusedVariables false
set_option maxRecDepth 4000

theorem bulk_one {H : Type} (d : DataW H) : 1 ≤ Rows.uptoBulk d := by
  cases d with
  | lit l => cases l <;> simp [Rows.uptoBulk]
  | nil => simp [Rows.uptoBulk]
  | ptr d => simp [Rows.uptoBulk]
  | slice elems spare => simp [Rows.uptoBulk]
  | agg parts => simp [Rows.uptoBulk]
  | iface t d => simp [Rows.uptoBulk]
  | map entries => simp [Rows.uptoBulk]
  | held h => simp [Rows.uptoBulk]
theorem bulk_part {H : Type} {d : DataW H} {l : List (DataW H)} (h : d ∈ l) : Rows.uptoBulk d ≤ Rows.uptoBulkAll l := by
  induction l with
  | nil => cases h
  | cons x r ih =>
    simp only [Rows.uptoBulkAll]
    cases List.mem_cons.1 h with
    | inl e => subst e; omega
    | inr e => have := ih e; omega
theorem bulk_len {H : Type} (l : List (DataW H)) : l.length ≤ Rows.uptoBulkAll l := by
  induction l with
  | nil => simp
  | cons x r ih => have := bulk_one x; simp only [Rows.uptoBulkAll, List.length_cons]; omega
theorem pol_bulk {H : Type} {enc : TypeId × Value → H} {W : World} {p : Pol} {A : Option Addr} {c : Nat} {d : DataW H} {ps : List MemPlace} (h : DataW.Trod enc Try.prog W 0 (fun _ => true) true 24 (.agg (polC p A c).toArray) d ps) : p.hs.length ≤ Rows.uptoBulk d := by
  obtain ⟨fuel, hf⟩ := h
  obtain ⟨xs, n, _, hx, _, hlen, hg⟩ := DataW.trod_struct Try.underlying24 hf
  have hcs : Try.prog.cellsOf 22 = 1 := by kernel_rfl
  have h17 := hg 17 _ rfl
  have hl17 : 17 < xs.length := by rw [hlen]; decide
  rw [List.getElem?_eq_getElem hl17] at h17
  have h18 : DataW.trod enc Try.prog W 0 (fun _ => true) true n 22 [.slice A p.hs.length c] = some xs[17] := by simpa [Value.cells, hcs] using h17
  simp only [Prod.mk.injEq] at hx
  have hd : xs[17].1 ∈ xs.map (·.1) := List.mem_map.2 ⟨_, List.getElem_mem hl17, rfl⟩
  have hb := bulk_part hd
  rw [hx.1]
  simp only [Rows.uptoBulk]
  rcases open_ints Try.underlying22 Try.underlying3 (by kernel_rfl) h18 with ⟨hcs', _⟩ | ⟨a, len, cap, zs, hcs', _, hl, hm, hz, hx17, hcell, hwz⟩
  · simp only [List.cons.injEq, and_true, Value.slice.injEq] at hcs'
    omega
  · simp only [List.cons.injEq, and_true, Value.slice.injEq] at hcs'
    have hz' : zs.length = cap := by simpa using hz
    rw [hx17] at hb
    simp only [Rows.uptoBulk] at hb
    have h1 := bulk_len (H := H) (lits .i64 (zs.take len))
    have h2 : (lits (H := H) .i64 (zs.take len)).length = len := by simp [lits]; omega
    omega
theorem open_RBb {H : Type} {enc : TypeId × Value → H} {W : World} {fuel : Nat} {v : Value} {x : DataW H × List MemPlace} (h : DataW.trod enc Try.prog W 0 (fun _ => true) true fuel 28 [v] = some x) :
    ∃ (A : Option Addr) (c : Nat) (xs : List Int), v = .slice A xs.length c ∧ RC W A (u8s xs) ∧ xs.length ≤ Rows.uptoBulk x.1 := by
  have h' := h
  rcases open_ints Try.underlying28 Try.underlying5 (by kernel_rfl) h with ⟨hcs, _⟩ | ⟨a, len, cap, zs, hcs, _, hl, hm, hz, hx, hcell, hwz⟩
  · simp only [List.cons.injEq, and_true] at hcs
    subst hcs
    exact ⟨none, 0, [], rfl, RC.nil _ _, by simp⟩
  · simp only [List.cons.injEq, and_true] at hcs
    subst hcs
    obtain ⟨A, c, xs, hv, hrc, _⟩ := open_RB h'
    refine ⟨A, c, xs, hv, hrc, ?_⟩
    simp only [Value.slice.injEq] at hv
    have hz' : zs.length = cap := by simpa using hz
    rw [hx]
    show _ ≤ Rows.uptoBulk (DataW.slice _ _)
    simp only [Rows.uptoBulk]
    have := bulk_len (H := H) (lits .u8 (zs.take len))
    have hl2 : (lits (H := H) .u8 (zs.take len)).length = len := by simp [lits]; omega
    omega
theorem RC.rows5 {α : Type} {f : α → List Value} {sz : Nat} (hf : ∀ x, (f x).length = sz) {w : World} {b o : Nat} {l : List α} (h : ∀ i e, l[i]? = some e → ∀ r v, (f e)[r]? = some v → w.cell? ⟨b, o + (i * sz + r), none⟩ = some v) : RC w (some ⟨b, o, none⟩) (l.flatMap f) := fun hn => by
  refine ⟨b, o, rfl, fun j v hj => ?_⟩
  have hlen := flat_len hf l
  have hjl := (List.getElem?_eq_some_iff.1 hj).1
  rw [hlen] at hjl
  have hsz : 0 < sz := by
    rcases Nat.eq_zero_or_pos sz with rfl | h1
    · omega
    · exact h1
  have hi : j / sz < l.length := Nat.div_lt_of_lt_mul (by rw [Nat.mul_comm]; exact hjl)
  have hr : j % sz < (f l[j / sz]).length := by rw [hf]; exact Nat.mod_lt _ hsz
  have h1 := flat_at hf l (j / sz) (j % sz) _ _ (List.getElem?_eq_getElem hi) (List.getElem?_eq_getElem hr)
  have h2 := h (j / sz) _ (List.getElem?_eq_getElem hi) (j % sz) _ (List.getElem?_eq_getElem hr)
  have hjj : j / sz * sz + j % sz = j := Nat.div_add_mod' j sz
  rw [hjj] at h1 h2
  rw [hj] at h1
  rw [h2, ← h1]
theorem bulk_len6 {H : Type} (l : List (DataW H)) (h : ∀ d ∈ l, 6 ≤ Rows.uptoBulk d) : 6 * l.length ≤ Rows.uptoBulkAll l := by
  induction l with
  | nil => simp
  | cons x r ih =>
    have h1 := h x (List.mem_cons_self ..)
    have h2 := ih (fun d hd => h d (List.mem_cons_of_mem _ hd))
    simp only [Rows.uptoBulkAll, List.length_cons]
    omega
theorem open_ROp {H : Type} {enc : TypeId × Value → H} {W : World} {r : Reach} {b0 : Nat} {v : Value} {d : DataW H} {ps : List MemPlace} (hv : Value.okWide Try.prog W r b0 25 v) (h : DataW.Trod enc Try.prog W 0 (fun _ => true) true 25 v d ps) (hbk : Rows.uptoBulk d ≤ 1048576) :
    ∃ (A : Option Addr) (c : Nat) (os : List Opr), v = .slice A os.length c ∧ OpsAt W A os ∧ os.length ≤ 1048570 := by
  obtain ⟨a, l, c, rfl⟩ := okWide_slice Try.underlying25 hv
  obtain ⟨fuel, hf⟩ := h
  rcases open_slice_fields Try.underlying25 Try.underlying30 (by kernel_rfl) (by kernel_rfl) hf with ⟨hcs, _⟩ | ⟨a', len, cap, m, D, Pl, hcs, _, hl, hm, hmm, hx, hi⟩
  · simp only [Value.cells, List.cons.injEq, and_true] at hcs
    cases hcs
    exact ⟨none, 0, [], rfl, ⟨RC.nil _ _, by simp, by simp⟩, by simp⟩
  · simp only [Value.cells, List.cons.injEq, and_true] at hcs
    cases hcs
    simp only [if_true] at hmm
    subst hmm
    have hd : d = .slice ((List.range l).map D) ((List.range (m - l)).map fun j => D (l + j)) := congrArg Prod.fst hx
    have hbl : ∀ i, i < l → Rows.uptoBulk (D i) ≤ Rows.uptoBulk d := fun i hi' => by
      rw [hd]
      simp only [Rows.uptoBulk]
      have := bulk_part (List.mem_map.2 ⟨i, List.mem_range.2 hi', rfl⟩ : D i ∈ (List.range l).map D)
      omega
    have hE : ∀ i, i < l → ∃ o : Opr, (OpOk o ∧ 6 ≤ Rows.uptoBulk (D i)) ∧ RC W o.A (u8s o.body) ∧ ∀ j v, (opC o)[j]? = some v → W.cell? (a'.add (i * 5 + j)) = some v := by
      intro i him
      obtain ⟨ys, n, hDi, _, hyl, hg⟩ := hi i (by omega)
      obtain ⟨v0, y0, c0, _, t0⟩ := hg 0 _ rfl
      obtain ⟨x0, e0, _, w0⟩ := DataW.trod_int Try.underlying3 t0
      simp only [List.cons.injEq, and_true] at e0
      subst e0
      obtain ⟨v1, y1, c1, _, t1⟩ := hg 1 _ rfl
      obtain ⟨x1, e1, _⟩ := DataW.trod_bool Try.underlying4 t1
      simp only [List.cons.injEq, and_true] at e1
      subst e1
      obtain ⟨v2, y2, c2, _, t2⟩ := hg 2 _ rfl
      obtain ⟨x2, e2, _, w2⟩ := DataW.trod_int Try.underlying3 t2
      simp only [List.cons.injEq, and_true] at e2
      subst e2
      obtain ⟨v3, y3, c3, _, t3⟩ := hg 3 _ rfl
      obtain ⟨x3, e3, _, w3⟩ := DataW.trod_int Try.underlying3 t3
      simp only [List.cons.injEq, and_true] at e3
      subst e3
      obtain ⟨v4, y4, c4, hy4, t4⟩ := hg 4 _ rfl
      obtain ⟨A4, k4, x4, rfl, rc4, b4⟩ := open_RBb t4
      have hb1 := hbl i him
      rw [hDi] at hb1
      simp only [Rows.uptoBulk] at hb1
      have hb2 := bulk_part (List.mem_map.2 ⟨y4, List.mem_of_getElem? hy4, rfl⟩ : y4.1 ∈ ys.map (·.1))
      have hb3 := bulk_len (ys.map (·.1))
      have hyl5 : ys.length = 5 := hyl.trans (by kernel_rfl)
      rw [List.length_map, hyl5] at hb3
      refine ⟨⟨x0, x1, x2, x3, x4, A4, k4⟩, ⟨⟨i64_of_wf w2, i64_of_wf w3, ?_⟩, ?_⟩, rc4, ?_⟩
      · show x4.length ≤ _
        omega
      · rw [hDi]
        simp only [Rows.uptoBulk]
        omega
      intro j v hj
      match j, hj with
      | 0, hj => cases hj; exact c0
      | 1, hj => cases hj; exact c1
      | 2, hj => cases hj; exact c2
      | 3, hj => cases hj; exact c3
      | 4, hj => cases hj; exact c4
      | j + 5, hj => simp [opC] at hj
    have hch : ∃ F : Nat → Opr, ∀ i, i < l → ((OpOk (F i) ∧ 6 ≤ Rows.uptoBulk (D i)) ∧ RC W (F i).A (u8s (F i).body) ∧ ∀ j v, (opC (F i))[j]? = some v → W.cell? (a'.add (i * 5 + j)) = some v) :=
      ⟨fun i => if h : i < l then Classical.choose (hE i h) else ⟨0, false, 0, 0, [], none, 0⟩, fun i h => by simp only [h, dif_pos]; exact Classical.choose_spec (hE i h)⟩
    obtain ⟨F, hF⟩ := hch
    have hlen : ((List.range l).map F).length = l := by simp
    refine ⟨some a', m, (List.range l).map F, by rw [hlen], ⟨fun hn => ?_, fun o ho => ?_, fun o ho => ?_⟩, ?_⟩
    · have hl0 : 0 < l := by
        rcases Nat.eq_zero_or_pos l with rfl | h1
        · simp at hn
        · exact h1
      obtain ⟨b, o, rfl⟩ := add_spot ((hF 0 hl0).2.2 0 _ rfl) (.inl rfl)
      refine RC.rows5 (f := opC) (sz := 5) (fun _ => rfl) (fun i e hie r v hr => ?_) hn
      have hil : i < l := by have := (List.getElem?_eq_some_iff.1 hie).1; rw [hlen] at this; exact this
      rw [List.getElem?_map, List.getElem?_range hil] at hie
      simp only [Option.map_some, Option.some.injEq] at hie
      subst hie
      have := (hF i hil).2.2 r v hr
      rw [add_off] at this
      exact this
    · simp only [List.mem_map, List.mem_range] at ho
      obtain ⟨i, hi', rfl⟩ := ho
      exact (hF i hi').2.1
    · simp only [List.mem_map, List.mem_range] at ho
      obtain ⟨i, hi', rfl⟩ := ho
      exact (hF i hi').1.1
    · rw [hlen]
      have h6 := bulk_len6 ((List.range l).map D) (fun d hd => by
        obtain ⟨i, hi', rfl⟩ := List.mem_map.1 hd
        exact (hF i (List.mem_range.1 hi')).1.2)
      rw [hd] at hbk
      simp only [Rows.uptoBulk] at hbk
      simp only [List.length_map, List.length_range] at h6
      omega
end Go.Proofs.Ytchfkkliechgoaa
