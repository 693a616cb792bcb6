/- How a life that is an argument reads in memory. -/
import Derived.Test.YtchfkkliechgoaaOpen17
import Derived.Test.YtchfkkliechgoaaLiv17
namespace Go.Proofs.Ytchfkkliechgoaa
open Go.ChangeShapes Go.WideShapes Go.ChangeAt Go.RowKit Go.Deep Go.Proofs.YtchfkkliechgoaaE
set_option linter.unusedSimpArgs false
set_option linter.unusedVariables false
set_option maxRecDepth 4000

theorem RC.rows {α : Type} {f : α → List Value} {sz : Nat} (hf : ∀ x, (f x).length = sz) {w : World} {b o : Nat} {l : List α} (h : ∀ i e, l[i]? = some e → ∀ r v, (f e)[r]? = some v → w.cell? ⟨b, o + (i * sz + r), none⟩ = some v) : RC w (some ⟨b, o, none⟩) (l.flatMap f) := fun hn => by
  refine ⟨b, o, rfl, fun j v hj => ?_⟩
  have hlen := flat_len hf l
  have hjl := (List.getElem?_eq_some_iff.1 hj).1
  rw [hlen] at hjl
  have hsz : 0 < sz := by
    rcases Nat.eq_zero_or_pos sz with rfl | h1
    · omega
    · exact h1
  have hi : j / sz < l.length := Nat.div_lt_of_lt_mul (by rw [Nat.mul_comm]; exact hjl)
  have hr : j % sz < (f l[j / sz]).length := by rw [hf]; exact Nat.mod_lt _ hsz
  have h1 := flat_at hf l (j / sz) (j % sz) _ _ (List.getElem?_eq_getElem hi) (List.getElem?_eq_getElem hr)
  have h2 := h (j / sz) _ (List.getElem?_eq_getElem hi) (j % sz) _ (List.getElem?_eq_getElem hr)
  have hjj : j / sz * sz + j % sz = j := Nat.div_add_mod' j sz
  rw [hjj] at h1 h2
  rw [hj] at h1
  rw [h2, ← h1]
theorem weights_all_mem {H : Type} {P : Program} {e : TypeId} : ∀ {l : List (DataW H)} {d : DataW H}, d ∈ l → ∀ n ∈ d.weights P e, n ∈ DataW.weightsAll P e l
  | [], _, h => by cases h
  | x :: r, d, h => fun n hn => by
    rw [DataW.weightsAll]
    rcases List.mem_cons.1 h with rfl | h
    · exact List.mem_append.2 (.inl hn)
    · exact List.mem_append.2 (.inr (weights_all_mem h n hn))
theorem open_RSm {H : Type} {enc : TypeId × Value → H} {W : World} {r : Reach} {b0 : Nat} {v : Value} {d : DataW H} {ps : List MemPlace} (hv : Value.okWide Try.prog W r b0 45 v) (h : DataW.Trod enc Try.prog W 0 (fun _ => true) true 45 v d ps) (hw : ∀ n ∈ d.weights Try.prog 45, n ≤ 140737488351232) :
    ∃ (A : Option Addr) (c : Nat) (os : List Sm), v = .slice A os.length c ∧ LifeAt W A os ∧ os.length ≤ 9223372036854775807 := by
  obtain ⟨a, l, c, rfl⟩ := okWide_slice Try.underlying45 hv
  obtain ⟨fuel, hf⟩ := h
  rcases open_slice_fields Try.underlying45 Try.underlying56 (by kernel_rfl) (by kernel_rfl) hf with ⟨hcs, _⟩ | ⟨a', len, cap, m, D, Pl, hcs, _, hl, hm, hmm, hx, hi⟩
  · simp only [Value.cells, List.cons.injEq, and_true] at hcs
    cases hcs
    exact ⟨none, 0, [], rfl, ⟨RC.nil _ _, by simp, by simp⟩, by simp⟩
  · simp only [Value.cells, List.cons.injEq, and_true] at hcs
    cases hcs
    simp only [if_true] at hmm
    subst hmm
    have hd : d = .slice ((List.range l).map D) ((List.range (m - l)).map fun j => D (l + j)) := congrArg Prod.fst hx
    have hwD : ∀ i, i < l → ∀ n ∈ (D i).weights Try.prog 56, n ≤ 140737488351232 := fun i hi' n hn => by
      refine hw n ?_
      rw [hd, DataW.weights, Try.underlying45]
      exact List.mem_cons.2 (.inr (List.mem_append.2 (.inl (weights_all_mem (List.mem_map.2 ⟨i, List.mem_range.2 hi', rfl⟩) n hn))))
    have hE : ∀ i, i < l → ∃ o : Sm, ((-9223372036854775808 ≤ o.id ∧ o.id ≤ 9223372036854775807) ∧ (-9223372036854775808 ≤ o.wait ∧ o.wait ≤ 9223372036854775807) ∧ o.body.length ≤ 140737488351232) ∧ RC W o.A (u8s o.body) ∧ ∀ j v, (smC o)[j]? = some v → W.cell? (a'.add (i * 4 + j)) = some v := by
      intro i him
      obtain ⟨ys, n, hDi, _, hyl, hg⟩ := hi i (by omega)
      obtain ⟨v0, y0, c0, _, t0⟩ := hg 0 _ rfl
      obtain ⟨x0, e0, _, w0⟩ := DataW.trod_int Try.underlying3 t0
      simp only [List.cons.injEq, and_true] at e0
      subst e0
      obtain ⟨v1, y1, c1, _, t1⟩ := hg 1 _ rfl
      obtain ⟨x1, e1, _, w1⟩ := DataW.trod_int Try.underlying3 t1
      simp only [List.cons.injEq, and_true] at e1
      subst e1
      obtain ⟨v2, y2, c2, _, t2⟩ := hg 2 _ rfl
      obtain ⟨x2, e2, _, w2⟩ := DataW.trod_int Try.underlying3 t2
      simp only [List.cons.injEq, and_true] at e2
      subst e2
      obtain ⟨v3, y3, c3, hy3, t3⟩ := hg 3 _ rfl
      obtain ⟨A3, k3, x3, rfl, rc3, _, _, b3⟩ := open_RB t3
      have hb3 : x3.length ≤ 140737488351232 := by
        refine b3 (fun n hn => hwD i him n ?_)
        rw [hDi]
        have hu : Try.prog.underlying 56 = some (.struct (Try.prog.fieldsOf 56)) := by kernel_rfl
        have hk : ((Try.prog.fieldsOf 56).toList.map (·.type))[3]? = some 28 := by kernel_rfl
        have hd3 : (ys.map (·.1))[3]? = some y3.1 := by simp [hy3]
        have hm' := DataW.weights_mem_each (P := Try.prog) (j := 3) hk hd3 n hn
        unfold DataW.weights
        rw [hu]
        exact hm'
      refine ⟨⟨x0, x1, x2, x3, A3, k3⟩, ⟨i64_of_wf w1, i64_of_wf w2, hb3⟩, rc3, ?_⟩
      intro j v hj
      match j, hj with
      | 0, hj => cases hj; exact c0
      | 1, hj => cases hj; exact c1
      | 2, hj => cases hj; exact c2
      | 3, hj => cases hj; exact c3
      | j + 4, hj => simp [smC] at hj
    have hch : ∃ F : Nat → Sm, ∀ i, i < l → (((-9223372036854775808 ≤ (F i).id ∧ (F i).id ≤ 9223372036854775807) ∧ (-9223372036854775808 ≤ (F i).wait ∧ (F i).wait ≤ 9223372036854775807) ∧ (F i).body.length ≤ 140737488351232) ∧ RC W (F i).A (u8s (F i).body) ∧ ∀ j v, (smC (F i))[j]? = some v → W.cell? (a'.add (i * 4 + j)) = some v) :=
      ⟨fun i => if h : i < l then Classical.choose (hE i h) else ⟨0, 0, 0, [], none, 0⟩, fun i h => by simp only [h, dif_pos]; exact Classical.choose_spec (hE i h)⟩
    obtain ⟨F, hF⟩ := hch
    have hlen : ((List.range l).map F).length = l := by simp
    refine ⟨some a', m, (List.range l).map F, by rw [hlen], ⟨fun hn => ?_, fun o ho => ?_, fun o ho => ?_⟩, by rw [hlen]; unfold maxLen at hm; omega⟩
    · have hl0 : 0 < l := by
        rcases Nat.eq_zero_or_pos l with rfl | h1
        · simp [smCs] at hn
        · exact h1
      obtain ⟨b, o, rfl⟩ := add_spot ((hF 0 hl0).2.2 0 _ rfl) (.inl rfl)
      refine RC.rows (f := smC) (sz := 4) (fun _ => rfl) (fun i e hie r v hr => ?_) hn
      have hil : i < l := by have := (List.getElem?_eq_some_iff.1 hie).1; rw [hlen] at this; exact this
      rw [List.getElem?_map, List.getElem?_range hil] at hie
      simp only [Option.map_some, Option.some.injEq] at hie
      subst hie
      have := (hF i hil).2.2 r v hr
      rw [add_off] at this
      exact this
    · simp only [List.mem_map, List.mem_range] at ho
      obtain ⟨i, hi', rfl⟩ := ho
      exact (hF i hi').2.1
    · simp only [List.mem_map, List.mem_range] at ho
      obtain ⟨i, hi', rfl⟩ := ho
      exact (hF i hi').1
end Go.Proofs.Ytchfkkliechgoaa
