/- One letter: what comes of one notice, tick by tick. -/
import Derived.Test.YtmngcpackbekiaaNet16g
namespace Go.Proofs.Ytmngcpackbekiaa
open Go.RowKit Go.Proofs.YtmngcpackbekiaaE
set_option linter.unusedSimpArgs false
set_option linter.unusedVariables false

structure Sm where
  now : Int
  fly : List (Bool × Int)
  acc : Option Int
def smStep (s : Sm × Nat) (x : Bool × Int) : Sm × Nat := if x.1 then (s.1, s.2 + 1) else ({ now := s.1.now, fly := s.1.fly ++ [(true, 1)], acc := some (s.1.acc.getD s.1.now) }, s.2)
def smTick (s : Sm) : Sm × Nat :=
  ((s.fly.map fun x => (x.1, x.2 - 1)).filter fun x => x.2 = 0).foldl smStep ({ now := s.now + 1, fly := (s.fly.map fun x => (x.1, x.2 - 1)).filter fun x => x.2 ≠ 0, acc := s.acc }, 0)
def smCopies (c : Int) : List (Bool × Int) := if c = 120 then [] else if c = 100 then [(false, 1), (false, 2)] else [(false, c - 48)]
def smIter (c : Int) : Nat → Sm × Nat
  | 0 => ({ now := 0, fly := smCopies c, acc := none }, 0)
  | n + 1 => smTick (smIter c n).1
def lateC (c : Int) : Int := if c = 120 then 0 else if c = 100 then 1 else c - 48
def copC (c : Int) : Int := if c = 120 then 0 else if c = 100 then 2 else 1
/-- The network with one number, no fates waiting. -/
structure Rel (id : Int) (N : Net) (s : Sm) : Prop where
  fates : N.fates = []
  now : N.now = s.now
  fly : N.fly.map (fun m => (m.ack, m.left)) = s.fly
  ids : ∀ m ∈ N.fly, m.id = id
  acc : N.acc.map (fun a => (a.id, a.tick)) = match s.acc with | none => [] | some t => [(id, t)]
theorem rel_take {id : Int} {N : Net} {s : Sm} {m : Mf} (h : Rel id N s) (hm : m.id = id) : Rel id (takeN N m) { s with acc := some (s.acc.getD s.now) } := by
  obtain ⟨h1, h2, h3, h4, h5⟩ := h
  unfold takeN
  cases hs : s.acc with
  | none =>
    rw [hs] at h5
    have h0 : N.acc = [] := List.map_eq_nil_iff.1 h5
    rw [if_neg (by rw [h0]; simp)]
    exact ⟨h1, h2, h3, h4, by rw [h0]; simp [hm, h2]⟩
  | some t =>
    rw [hs] at h5
    have hmem : m.id ∈ N.acc.map (·.id) := by
      have h6 := congrArg (List.map (·.1)) h5
      rw [List.map_map] at h6
      have h7 : N.acc.map (·.id) = [id] := h6
      rw [h7, hm]
      simp
    rw [if_pos hmem]
    exact ⟨h1, h2, h3, h4, h5⟩
theorem rel_hand {id : Int} {N : Net} {s : Sm} {m : Mf} (h : Rel id N s) (hm : m.id = id) : Rel id (handN N (ackM m)) { s with fly := s.fly ++ [(true, 1)] } := by
  obtain ⟨h1, h2, h3, h4, h5⟩ := h
  have hc : copies (N.fates.headD 49) (ackM m) = [{ ackM m with left := 49 - 48 }] := by rw [h1]; simp [copies]
  refine ⟨by simp [handN, h1], h2, ?_, ?_, h5⟩
  · show (N.fly ++ copies (N.fates.headD 49) (ackM m)).map _ = _
    rw [hc, List.map_append, h3]
    simp [ackM]
  · intro x hx
    have hx' : x ∈ N.fly ++ copies (N.fates.headD 49) (ackM m) := hx
    rw [hc] at hx'
    rcases List.mem_append.1 hx' with h6 | h6
    · exact h4 x h6
    · rw [List.mem_singleton] at h6
      subst h6
      exact hm
theorem rel_fold {id : Int} : ∀ (D : List Mf) (N : Net) (ids : List Int) (s : Sm) (k : Nat), (∀ m ∈ D, m.id = id) → Rel id N s → ids = List.replicate k id →
    Rel id (D.foldl stepD (N, ids)).1 ((D.map fun m => (m.ack, m.left)).foldl smStep (s, k)).1 ∧ (D.foldl stepD (N, ids)).2 = List.replicate ((D.map fun m => (m.ack, m.left)).foldl smStep (s, k)).2 id
  | [], N, ids, s, k, _, hR, hi => ⟨hR, hi⟩
  | m :: D, N, ids, s, k, hD, hR, hi => by
    have hm := hD m (by simp)
    rw [List.foldl_cons, List.map_cons, List.foldl_cons]
    cases hack : m.ack with
    | true =>
      have e1 : stepD (N, ids) m = (N, ids ++ [m.id]) := by rw [stepD, if_pos hack]
      have e2 : smStep (s, k) (true, m.left) = (s, k + 1) := rfl
      rw [e1, e2]
      exact rel_fold D N _ s (k + 1) (fun x hx => hD x (by simp [hx])) hR (by rw [hi, hm, List.replicate_succ', ])
    | false =>
      have e1 : stepD (N, ids) m = (handN (takeN N m) (ackM m), ids) := by rw [stepD, if_neg (by rw [hack]; decide)]
      have e2 : smStep (s, k) (false, m.left) = ({ now := s.now, fly := s.fly ++ [(true, 1)], acc := some (s.acc.getD s.now) }, k) := rfl
      rw [e1, e2]
      exact rel_fold D _ ids _ k (fun x hx => hD x (by simp [hx])) (rel_hand (rel_take hR hm) hm) hi
theorem due_map (fs : List Mf) : (dueL fs).map (fun m => (m.ack, m.left)) = ((fs.map fun m => (m.ack, m.left)).map fun x => (x.1, x.2 - 1)).filter fun x => x.2 = 0 := by
  unfold dueL
  induction fs with
  | nil => rfl
  | cons m fs ih =>
    simp only [List.map_cons, List.filter_cons]
    by_cases h : m.left - 1 = 0
    · simp only [decM, h, decide_true, if_true, List.map_cons]
      rw [← ih]
    · simp only [decM, h, decide_false, Bool.false_eq_true, if_false]
      rw [← ih]
theorem rest_map (fs : List Mf) : (restL fs).map (fun m => (m.ack, m.left)) = ((fs.map fun m => (m.ack, m.left)).map fun x => (x.1, x.2 - 1)).filter fun x => x.2 ≠ 0 := by
  unfold restL
  induction fs with
  | nil => rfl
  | cons m fs ih =>
    simp only [List.map_cons, List.filter_cons]
    by_cases h : m.left - 1 = 0
    · simp only [decM, h, ne_eq, not_true, decide_false, Bool.false_eq_true, if_false]
      rw [← ih]
    · simp only [decM, h, ne_eq, not_false_eq_true, decide_true, if_true, List.map_cons]
      rw [← ih]
theorem rel_tick {id : Int} {N : Net} {s : Sm} (h : Rel id N s) : Rel id (tickN N).1 (smTick s).1 ∧ (tickN N).2 = List.replicate (smTick s).2 id := by
  obtain ⟨h1, h2, h3, h4, h5⟩ := h
  have hd : ∀ m ∈ dueL N.fly, m.id = id := fun m hm => by
    obtain ⟨m0, h6, rfl, _⟩ := mem_dueL hm
    exact h4 m0 h6
  have hR : Rel id { N with now := N.now + 1, fly := restL N.fly } { now := s.now + 1, fly := (s.fly.map fun x => (x.1, x.2 - 1)).filter fun x => x.2 ≠ 0, acc := s.acc } :=
    ⟨h1, by show N.now + 1 = _; rw [h2], by show (restL N.fly).map _ = _; rw [rest_map, h3], fun m hm => by
      obtain ⟨m0, h6, rfl, _⟩ := mem_restL hm
      exact h4 m0 h6, h5⟩
  have := rel_fold (dueL N.fly) _ [] _ 0 hd hR rfl
  rw [due_map, h3] at this
  exact this
/-- What is seen behind tick t of a letter: the tick of the acceptance, how many acknowledgements arrive. -/
def rowOk (c : Int) (t : Nat) : Bool :=
  (((smIter c t).1.acc.getD 0) == (if 0 < copC c ∧ 1 ≤ t ∧ lateC c ≤ t then lateC c else 0)) && (((smIter c t).2 : Int) == (if 0 < copC c ∧ ((t : Int) = lateC c + 1 ∨ copC c = 2 ∧ (t : Int) = lateC c + 2) then 1 else 0)) && ((smIter c t).1.now == t) && ((smIter c t).1.fly.all fun x => 1 ≤ x.2 && x.2 ≤ 9) && decide ((smIter c t).1.fly.length ≤ 3) && decide (t = 0 → ((smIter c t).1.fly.length : Int) = copC c)
def lettersL : List Int := [120, 100, 49, 50, 51, 52, 53, 54, 55, 56, 57]
theorem rows_ok : (lettersL.all fun c => ((List.range 13).all fun t => rowOk c t) && (smIter c 12).1.fly.isEmpty) = true := by decide +kernel
theorem letter_mem {c : Int} (h : letterB c) : c ∈ lettersL := by
  unfold letterB at h
  simp only [lettersL, List.mem_cons, List.not_mem_nil, or_false]
  omega
theorem row_ok {c : Int} (h : letterB c) {t : Nat} (h2 : t ≤ 12) : (smIter c t).1.acc.getD 0 = (if 0 < copC c ∧ 1 ≤ t ∧ lateC c ≤ t then lateC c else 0) ∧ ((smIter c t).2 : Int) = (if 0 < copC c ∧ ((t : Int) = lateC c + 1 ∨ copC c = 2 ∧ (t : Int) = lateC c + 2) then 1 else 0) ∧ (smIter c t).1.now = t ∧ (∀ x ∈ (smIter c t).1.fly, 1 ≤ x.2 ∧ x.2 ≤ 9) ∧ (smIter c t).1.fly.length ≤ 3 ∧ (t = 0 → ((smIter c t).1.fly.length : Int) = copC c) := by
  have h3 := List.all_eq_true.1 rows_ok c (letter_mem h)
  simp only [Bool.and_eq_true] at h3
  have h4 := List.all_eq_true.1 h3.1 t (List.mem_range.2 (by omega))
  simp only [rowOk, Bool.and_eq_true, beq_iff_eq, List.all_eq_true, decide_eq_true_eq] at h4
  exact ⟨h4.1.1.1.1.1, h4.1.1.1.1.2, h4.1.1.1.2, h4.1.1.2, h4.1.2, h4.2⟩
theorem row_end {c : Int} (h : letterB c) : (smIter c 12).1.fly = [] := by
  have h3 := List.all_eq_true.1 rows_ok c (letter_mem h)
  simp only [Bool.and_eq_true, List.isEmpty_iff] at h3
  exact h3.2
/-- Bytes of a kind, and so all that comes of them. -/
structure Bod (p : List Int → Prop) (N : Net) : Prop where
  fly : ∀ m ∈ N.fly, p m.body
  acc : ∀ m ∈ N.acc, p m.body
theorem bod_hand {p : List Int → Prop} {N : Net} {m : Mf} (h : Bod p N) (hm : p m.body) : Bod p (handN N m) := by
  refine ⟨fun x hx => ?_, h.acc⟩
  have hx' : x ∈ N.fly ++ copies (N.fates.headD 49) m := hx
  rcases List.mem_append.1 hx' with h1 | h1
  · exact h.fly x h1
  · unfold copies at h1
    split at h1
    · simp at h1
    · split at h1
      · simp only [List.mem_cons, List.not_mem_nil, or_false] at h1
        rcases h1 with rfl | rfl <;> exact hm
      · simp only [List.mem_cons, List.not_mem_nil, or_false] at h1
        subst h1
        exact hm
theorem bod_take {p : List Int → Prop} {N : Net} {m : Mf} (h : Bod p N) (hm : p m.body) : Bod p (takeN N m) := by
  unfold takeN
  split
  · exact h
  · refine ⟨h.fly, fun x hx => ?_⟩
    rcases List.mem_append.1 hx with h1 | h1
    · exact h.acc x h1
    · rw [List.mem_singleton] at h1
      subst h1
      exact hm
theorem bod_fold {p : List Int → Prop} (h0 : p []) : ∀ (D : List Mf) (N : Net) (ids : List Int), (∀ m ∈ D, p m.body) → Bod p N → Bod p (D.foldl stepD (N, ids)).1
  | [], _, _, _, h => h
  | m :: D, N, ids, hD, h => by
    rw [List.foldl_cons]
    by_cases hack : m.ack = true
    · rw [stepD, if_pos hack]
      exact bod_fold h0 D N _ (fun x hx => hD x (by simp [hx])) h
    · rw [stepD, if_neg hack]
      exact bod_fold h0 D _ ids (fun x hx => hD x (by simp [hx])) (bod_hand (bod_take h (hD m (by simp))) h0)
theorem bod_tick {p : List Int → Prop} (h0 : p []) {N : Net} (h : Bod p N) : Bod p (tickN N).1 := by
  refine bod_fold h0 (dueL N.fly) _ [] (fun m hm => ?_) ⟨fun m hm => ?_, h.acc⟩
  · obtain ⟨m0, h1, rfl, _⟩ := mem_dueL hm
    exact h.fly m0 h1
  · obtain ⟨m0, h1, rfl, _⟩ := mem_restL hm
    exact h.fly m0 h1
end Go.Proofs.Ytmngcpackbekiaa
