/- OutboxAlone, the plain law; two boxes apart. SHORT NORMX -/
import Derived.Test.YtchfkkliechgoaaLiv17
namespace Go.Proofs.Ytchfkkliechgoaa
open Go.RowKit Go.Proofs.YtchfkkliechgoaaE
set_option linter.unusedSimpArgs false
set_option linter.unusedVariables false
set_option maxRecDepth 4000

/-- What the box holds of one number. -/
def soloP (l : List Ep) (nid : Int) : List Ep := l.filter fun e => decide (e.id = nid)
theorem solo_mem {l : List Ep} {nid : Int} : nid ∈ idsP (soloP l nid) ↔ nid ∈ idsP l := by
  simp only [idsP, soloP, List.mem_map, List.mem_filter, decide_eq_true_eq]
  constructor
  · rintro ⟨e, ⟨h1, h2⟩, h3⟩; exact ⟨e, h1, h3⟩
  · rintro ⟨e, h1, h3⟩; exact ⟨e, ⟨h1, h3⟩, h3⟩
theorem solo_nil {l : List Ep} {nid : Int} (h : nid ∉ idsP l) : soloP l nid = [] := by
  rw [soloP, List.filter_eq_nil_iff]
  intro e he hh
  exact h (List.mem_map.2 ⟨e, he, of_decide_eq_true hh⟩)
theorem solo_add {l : List Ep} {nid : Int} {b : List Int} {now : Int} : soloP (addP l nid b now).1 nid = (addP (soloP l nid) nid b now).1 ∧ (addP l nid b now).2 = (addP (soloP l nid) nid b now).2 := by
  unfold addP
  by_cases h1 : nid < 1
  · rw [if_pos h1, if_pos h1]
    exact ⟨rfl, rfl⟩
  · rw [if_neg h1, if_neg h1]
    by_cases h2 : nid ∈ idsP l
    · rw [if_pos h2, if_pos (solo_mem.2 h2)]
      exact ⟨rfl, rfl⟩
    · rw [if_neg h2, if_neg (fun h => h2 (solo_mem.1 h)), solo_nil h2]
      refine ⟨?_, rfl⟩
      have ha : (l.filter fun e => decide (e.id < nid)).filter (fun e => decide (e.id = nid)) = [] := by
        rw [List.filter_eq_nil_iff]
        intro e he hh
        have h3 := of_decide_eq_true (List.mem_filter.1 he).2
        have h4 := of_decide_eq_true hh
        omega
      have hb : (l.filter fun e => decide (nid < e.id)).filter (fun e => decide (e.id = nid)) = [] := by
        rw [List.filter_eq_nil_iff]
        intro e he hh
        have h3 := of_decide_eq_true (List.mem_filter.1 he).2
        have h4 := of_decide_eq_true hh
        omega
      simp only [soloP, List.filter_append, ha, List.filter_cons, hb, decide_true, if_true, List.nil_append, List.filter_nil]
theorem solo_part {l : List Ep} {nid : Int} {P : Ep → Bool} (h : ∀ e ∈ l, e.id = nid → P e = true) : soloP (l.filter P) nid = soloP l nid := by
  rw [soloP, soloP, List.filter_filter]
  refine List.filter_congr fun e he => ?_
  by_cases h1 : e.id = nid
  · simp [h1, h e he h1]
  · simp [h1]
theorem solo_none {l : List Ep} {nid : Int} {P : Ep → Bool} (h : ∀ e ∈ l, e.id = nid → P e = false) : soloP (l.filter P) nid = [] := by
  rw [soloP, List.filter_eq_nil_iff]
  intro e he hh
  obtain ⟨h1, h2⟩ := List.mem_filter.1 he
  rw [h e h1 (of_decide_eq_true hh)] at h2
  cases h2
theorem solo_add' {l : List Ep} {nid oid : Int} {b : List Int} {now : Int} (hne : ¬ oid = nid) : soloP (addP l oid b now).1 nid = soloP l nid := by
  unfold addP
  by_cases h1 : oid < 1
  · rw [if_pos h1]
  · rw [if_neg h1]
    by_cases h2 : oid ∈ idsP l
    · rw [if_pos h2]
    · rw [if_neg h2]
      have h3 : soloP (l.filter (fun e => decide (e.id < oid)) ++ ⟨oid, 0, now, b⟩ :: l.filter (fun e => decide (oid < e.id))) nid = soloP (l.filter fun e => decide (e.id < oid)) nid ++ soloP (l.filter fun e => decide (oid < e.id)) nid := by
        simp only [soloP, List.filter_append, List.filter_cons, hne, decide_false, Bool.false_eq_true, if_false]
      show soloP (l.filter (fun e => decide (e.id < oid)) ++ ⟨oid, 0, now, b⟩ :: l.filter (fun e => decide (oid < e.id))) nid = _
      rw [h3]
      rcases Int.lt_or_gt_of_ne hne with h4 | h4
      · rw [solo_none (l := l) (P := fun e => decide (e.id < oid)) (fun e _ he => decide_eq_false (by omega)), solo_part (l := l) (P := fun e => decide (oid < e.id)) (fun e _ he => decide_eq_true (by omega)), List.nil_append]
      · rw [solo_part (l := l) (P := fun e => decide (e.id < oid)) (fun e _ he => decide_eq_true (by omega)), solo_none (l := l) (P := fun e => decide (oid < e.id)) (fun e _ he => decide_eq_false (by omega)), List.append_nil]
theorem solo_ack {l : List Ep} {nid : Int} : soloP (ackP l nid) nid = ackP (soloP l nid) nid := by
  rw [ackP, solo_none (l := l) (fun e _ he => decide_eq_false (by simp [he])), ackP]
  symm
  rw [List.filter_eq_nil_iff]
  intro e he hh
  exact of_decide_eq_true hh (of_decide_eq_true (List.mem_filter.1 he).2)
theorem solo_ack' {l : List Ep} {nid oid : Int} (hne : ¬ oid = nid) : soloP (ackP l oid) nid = soloP l nid := by
  rw [ackP, solo_part (fun e _ he => decide_eq_true (by omega))]
theorem duP_id (p : Pol) (now : Int) (e : Ep) : (duP p now e).id = e.id := by
  unfold duP
  split <;> rfl
theorem duP_body (p : Pol) (now : Int) (e : Ep) : (duP p now e).body = e.body := by
  unfold duP
  split <;> rfl
theorem solo_due {p : Pol} {l : List Ep} {nid now : Int} : soloP (l.map (duP p now)) nid = (soloP l nid).map (duP p now) := by
  rw [soloP, List.filter_map, soloP]
  congr 1
  refine List.filter_congr fun e _ => ?_
  simp only [Function.comp, duP_id]
theorem solo_pk {l : List Ep} {nid now : Int} : (duePk now l).filter (fun k => decide (k.1 = nid)) = duePk now (soloP l nid) := by
  rw [duePk, List.filter_map, duePk, soloP, List.filter_filter, List.filter_filter]
  congr 1
  refine List.filter_congr fun e _ => ?_
  simp [Function.comp, Bool.and_comm]
theorem only_pk {ks : List Pk} {nid : Int} : (ks.filter fun k => decide (k.id = nid)).map pkP = (ks.map pkP).filter fun k => decide (k.1 = nid) := by
  rw [List.filter_map]
  rfl
/-- Where each number stands once. -/
theorem solo_one {l : List Ep} {nid : Int} {i : Nat} (hs : l.Pairwise (fun a b => a.id < b.id)) (hi : (idsP l)[i]? = some nid) : ∃ e, l[i]? = some e ∧ soloP l nid = [e] := by
  induction l generalizing i with
  | nil => simp [idsP] at hi
  | cons x l ih =>
    rw [List.pairwise_cons] at hs
    cases i with
    | zero =>
      simp only [idsP, List.map_cons, List.getElem?_cons_zero, Option.some.injEq] at hi
      refine ⟨x, rfl, ?_⟩
      rw [soloP, List.filter_cons, if_pos (decide_eq_true hi)]
      congr 1
      rw [List.filter_eq_nil_iff]
      intro e he hh
      have h1 := hs.1 e he
      have h2 := of_decide_eq_true hh
      omega
    | succ i =>
      have hi' : (idsP l)[i]? = some nid := by simpa [idsP] using hi
      obtain ⟨e, h1, h2⟩ := ih hs.2 hi'
      refine ⟨e, by simpa using h1, ?_⟩
      have hm : nid ∈ idsP l := List.mem_of_getElem? hi'
      obtain ⟨y, hy, hyi⟩ := List.mem_map.1 hm
      have h3 := hs.1 y hy
      have : soloP (x :: l) nid = soloP l nid := by
        rw [soloP, List.filter_cons, if_neg (by simp; omega), soloP]
      rw [this, h2]
theorem NB.srt {w0 w : World} {gb n : Nat} {p : Pol} {l : List Ep} (h : NB w0 w gb n p l) : l.Pairwise (fun a b => a.id < b.id) ∧ (∀ e ∈ l, 1 ≤ e.id ∧ e.id ≤ 9223372036854775807) ∧ (∀ e ∈ l, 0 ≤ e.att ∧ e.att ≤ n) ∧ (∀ e ∈ l, e.body.length ≤ 140737488351232) := by
  obtain ⟨F, L, ⟨A, c, mp, h1⟩, rfl, h3, h4⟩ := h
  refine ⟨List.pairwise_map.2 h1.srt, fun e he => ?_, fun e he => ?_, fun e he => ?_⟩
  · obtain ⟨x, hx, rfl⟩ := List.mem_map.1 he
    exact h1.rng x hx
  · obtain ⟨x, hx, rfl⟩ := List.mem_map.1 he
    exact h1.att x hx
  · obtain ⟨x, hx, rfl⟩ := List.mem_map.1 he
    exact h1.bln x hx
end Go.Proofs.Ytchfkkliechgoaa
