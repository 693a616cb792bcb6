/- The network and the document's, side by side. -/
import Derived.Test.YtmngcpackbekiaaRef16e
namespace Go.Proofs.Ytmngcpackbekiaa
open Go.RowKit Go.Proofs.YtmngcpackbekiaaE
set_option linter.unusedSimpArgs false
set_option linter.unusedVariables false

def seeF (m : Mf) : Bool × Int × List Int × Int := (m.ack, m.id, m.body, m.left)
/-- A message's copies that are still ahead. -/
def flOf (n : Int) (m : Mm) : List (Bool × Int × List Int × Int) := (if n < m.at_ then [(m.ack, m.id, m.body, m.at_ - n)] else []) ++ (if n < m.again then [(m.ack, m.id, m.body, m.again - n)] else [])
structure RelNR (N : Net) (S : Rp) : Prop where
  now : N.now = S.now
  pos : 0 ≤ S.now
  fates : N.fates = S.fates
  acc : N.acc.map seeA = S.acc.map seeA
  fly : N.fly.map seeF = S.msgs.flatMap (flOf S.now)
  inv : ∀ m ∈ S.msgs, m.again = 0 ∨ m.again = m.at_ + 1
theorem nr_begin : RelNR newN ⟨0, [], [], []⟩ := ⟨rfl, by simp, rfl, rfl, rfl, by simp⟩
theorem flOf_len (n : Int) : ∀ l : List Mm, ((l.flatMap (flOf n)).length : Int) = cntR n l
  | [] => rfl
  | m :: l => by
    have := flOf_len n l
    rw [List.flatMap_cons, List.length_append, cntR]
    unfold flOf at *
    split <;> split <;> simp at * <;> omega
theorem nr_flying {N : Net} {S : Rp} (h : RelNR N S) : (N.fly.length : Int) = cntR S.now S.msgs := by
  rw [← flOf_len, ← h.fly, List.length_map]
theorem nr_hand {N : Net} {S : Rp} {m : Mf} {mm : Mm} (h : RelNR N S) (hl : ∀ c ∈ N.fates, letterB c) (ha : m.ack = mm.ack) (hi : m.id = mm.id) (hb : m.body = mm.body) (h0 : mm.again = 0) :
    RelNR (handN N m) { S with fates := S.fates.tail, msgs := S.msgs ++ copR S.now (S.fates.headD 49) mm } := by
  have hc := head_letter hl
  rw [h.fates] at hc
  have hp := h.pos
  refine ⟨h.now, h.pos, by show N.fates.tail = _; rw [h.fates], h.acc, ?_, ?_⟩
  · show (N.fly ++ copies (N.fates.headD 49) m).map seeF = (S.msgs ++ copR S.now (S.fates.headD 49) mm).flatMap (flOf S.now)
    rw [List.map_append, List.flatMap_append, h.fly, h.fates]
    congr 1
    generalize S.fates.headD 49 = c at *
    unfold letterB at hc
    unfold copies copR
    rcases hc with rfl | rfl | hc
    · rfl
    · have e5 : flOf S.now { mm with at_ := S.now + 1, again := S.now + 2 } = [(mm.ack, mm.id, mm.body, 1), (mm.ack, mm.id, mm.body, 2)] := by
        unfold flOf
        rw [if_pos (show S.now < S.now + 1 by omega), if_pos (show S.now < S.now + 2 by omega)]
        show [(mm.ack, mm.id, mm.body, S.now + 1 - S.now)] ++ [(mm.ack, mm.id, mm.body, S.now + 2 - S.now)] = _
        rw [show S.now + 1 - S.now = 1 by omega, show S.now + 2 - S.now = 2 by omega]
        rfl
      rw [if_neg (by omega), if_pos rfl, if_neg (by omega), if_pos rfl, List.flatMap_cons, List.flatMap_nil, List.append_nil, e5]
      simp [seeF, ha, hi, hb]
    · have e1 : ¬ c = 120 := by omega
      have e2 : ¬ c = 100 := by omega
      rw [if_neg e1, if_neg e2, if_neg e1, if_neg e2]
      have e5 : flOf S.now { mm with at_ := S.now + (c - 48) } = [(mm.ack, mm.id, mm.body, c - 48)] := by
        unfold flOf
        rw [if_pos (show S.now < S.now + (c - 48) by omega), if_neg (show ¬ S.now < mm.again by omega)]
        show [(mm.ack, mm.id, mm.body, S.now + (c - 48) - S.now)] ++ [] = _
        rw [show S.now + (c - 48) - S.now = c - 48 by omega]
        rfl
      rw [List.flatMap_cons, List.flatMap_nil, List.append_nil, e5]
      simp [seeF, ha, hi, hb]
  · intro x hx
    rcases List.mem_append.1 hx with h1 | h1
    · exact h.inv x h1
    · unfold copR at h1
      split at h1
      · simp at h1
      · split at h1
        · rw [List.mem_singleton] at h1
          subst h1
          right
          show S.now + 2 = S.now + 1 + 1
          omega
        · rw [List.mem_singleton] at h1
          subst h1
          exact .inl h0
theorem nr_take {N : Net} {S : Rp} {m : Mf} {mm : Mm} (h : RelNR N S) (hi : m.id = mm.id) (hb : m.body = mm.body) : RelNR (takeN N m) { S with acc := takeA S.now S.acc mm } := by
  have hids := see_ids h.acc
  unfold takeN takeA
  by_cases hm : m.id ∈ N.acc.map (·.id)
  · rw [if_pos hm, if_pos (by rw [← hids, ← hi]; exact hm)]
    exact h
  · rw [if_neg hm, if_neg (by rw [← hids, ← hi]; exact hm)]
    refine ⟨h.now, h.pos, h.fates, ?_, h.fly, h.inv⟩
    show (N.acc ++ [_]).map seeA = (S.acc ++ [_]).map seeA
    rw [List.map_append, List.map_append, h.acc]
    simp [seeA, hi, hb, h.now]
/-- The tick: the copies that are due, and those that are left. -/
theorem due_see (n : Int) : ∀ (F : List Mf) (l : List (Bool × Int × List Int × Int)), F.map seeF = l → (dueL F).map (fun m => (m.ack, m.id, m.body)) = (l.filter fun x => x.2.2.2 = 1).map (fun x => (x.1, x.2.1, x.2.2.1)) ∧ (restL F).map seeF = (l.filter fun x => x.2.2.2 ≠ 1).map (fun x => (x.1, x.2.1, x.2.2.1, x.2.2.2 - 1))
  | [], l, h => by subst h; exact ⟨rfl, rfl⟩
  | m :: F, l, h => by
    subst h
    obtain ⟨h1, h2⟩ := due_see n F _ rfl
    rw [due_cons, rest_cons, List.map_cons, List.filter_cons, List.filter_cons]
    by_cases hm : m.left = 1
    · have e1 : m.left - 1 = 0 := by omega
      rw [if_pos e1, if_pos e1, if_pos (show decide ((seeF m).2.2.2 = 1) = true from decide_eq_true hm), if_neg (show ¬ decide ((seeF m).2.2.2 ≠ 1) = true from fun hh => (of_decide_eq_true hh) hm), List.map_cons, List.map_cons, h1, h2]
      exact ⟨rfl, rfl⟩
    · have e1 : ¬ m.left - 1 = 0 := by omega
      rw [if_neg e1, if_neg e1, if_neg (show ¬ decide ((seeF m).2.2.2 = 1) = true from fun hh => hm (of_decide_eq_true hh)), if_pos (show decide ((seeF m).2.2.2 ≠ 1) = true from decide_eq_true hm), List.map_cons, List.map_cons, h1, h2]
      exact ⟨rfl, rfl⟩
theorem due_ref (n : Int) (hn : 0 ≤ n) : ∀ l : List Mm, (∀ m ∈ l, m.again = 0 ∨ m.again = m.at_ + 1) → ((l.flatMap (flOf n)).filter fun x => x.2.2.2 = 1).map (fun x => (x.1, x.2.1, x.2.2.1)) = (dueM (n + 1) l).map (fun m => (m.ack, m.id, m.body)) ∧ ((l.flatMap (flOf n)).filter fun x => x.2.2.2 ≠ 1).map (fun x => (x.1, x.2.1, x.2.2.1, x.2.2.2 - 1)) = (leftM (n + 1) l).flatMap (flOf (n + 1))
  | [], _ => ⟨rfl, rfl⟩
  | m :: l, h => by
    obtain ⟨h1, h2⟩ := due_ref n hn l (fun x hx => h x (by simp [hx]))
    have hm := h m (by simp)
    have ed : dueM (n + 1) (m :: l) = (if m.at_ = n + 1 ∨ m.again = n + 1 then [m] else []) ++ dueM (n + 1) l := by
      unfold dueM
      rw [List.filter_cons]
      by_cases hh : m.at_ = n + 1 ∨ m.again = n + 1
      · rw [if_pos (by simpa using hh), if_pos hh]; rfl
      · rw [if_neg (by simpa using hh), if_neg hh]; rfl
    have el : leftM (n + 1) (m :: l) = (if n + 1 < m.at_ ∨ n + 1 < m.again then [m] else []) ++ leftM (n + 1) l := by
      unfold leftM
      rw [List.filter_cons]
      by_cases hh : n + 1 < m.at_ ∨ n + 1 < m.again
      · rw [if_pos (by simpa using hh), if_pos hh]; rfl
      · rw [if_neg (by simpa using hh), if_neg hh]; rfl
    rw [ed, el, List.flatMap_cons, List.filter_append, List.filter_append, List.map_append, List.map_append, List.map_append, List.flatMap_append, h1, h2]
    have key : ((flOf n m).filter fun x => x.2.2.2 = 1).map (fun x => (x.1, x.2.1, x.2.2.1)) = (if m.at_ = n + 1 ∨ m.again = n + 1 then [m] else []).map (fun m => (m.ack, m.id, m.body)) ∧ ((flOf n m).filter fun x => x.2.2.2 ≠ 1).map (fun x => (x.1, x.2.1, x.2.2.1, x.2.2.2 - 1)) = (if n + 1 < m.at_ ∨ n + 1 < m.again then [m] else []).flatMap (flOf (n + 1)) := by
      unfold flOf
      by_cases a1 : n < m.at_
      all_goals by_cases a2 : n < m.again
      all_goals by_cases b1 : m.at_ = n + 1
      all_goals by_cases b2 : m.again = n + 1
      all_goals try (exfalso; omega)
      all_goals by_cases b3 : n + 1 < m.at_
      all_goals by_cases b4 : n + 1 < m.again
      all_goals try (exfalso; omega)
      all_goals by_cases b5 : m.at_ - n = 1
      all_goals by_cases b6 : m.again - n = 1
      all_goals try (exfalso; omega)
      all_goals have e1 : m.at_ - n - 1 = m.at_ - (n + 1) := by omega
      all_goals have e2 : m.again - n - 1 = m.again - (n + 1) := by omega
      all_goals first | have c1 := eq_false a1 | have c1 := eq_true a1
      all_goals first | have c2 := eq_false a2 | have c2 := eq_true a2
      all_goals first | have d1 := eq_false b1 | have d1 := eq_true b1
      all_goals first | have d2 := eq_false b2 | have d2 := eq_true b2
      all_goals first | have d3 := eq_false b3 | have d3 := eq_true b3
      all_goals first | have d4 := eq_false b4 | have d4 := eq_true b4
      all_goals first | have d5 := eq_false b5 | have d5 := eq_true b5
      all_goals first | have d6 := eq_false b6 | have d6 := eq_true b6
      all_goals simp only [c1, c2, d1, d2, d3, d4, List.nil_append, List.append_nil, List.cons_append, List.filter_cons, List.filter_nil, d5, d6, decide_true, decide_false, or_true, true_or, or_false, false_or, if_true, if_false, List.map_cons, List.map_nil, List.flatMap_cons, List.flatMap_nil, ne_eq, not_true, not_false_eq_true, e1, e2, Bool.false_eq_true, and_self, or_self]
    rw [key.1, key.2]
    exact ⟨rfl, rfl⟩
theorem nr_fold : ∀ (D : List Mf) (D' : List Mm) (N : Net) (S : Rp) (ids : List Int), D.map (fun m => (m.ack, m.id, m.body)) = D'.map (fun m => (m.ack, m.id, m.body)) → RelNR N S → (∀ c ∈ N.fates, letterB c) →
    RelNR (D.foldl stepD (N, ids)).1 (D'.foldl stR (S, ids)).1 ∧ (D.foldl stepD (N, ids)).2 = (D'.foldl stR (S, ids)).2
  | [], D', N, S, ids, hd, h, _ => by
    cases D' with
    | nil => exact ⟨h, rfl⟩
    | cons y D' => simp at hd
  | m :: D, D', N, S, ids, hd, h, hl => by
    cases D' with
    | nil => simp at hd
    | cons y D' =>
      simp only [List.map_cons, List.cons.injEq, Prod.mk.injEq] at hd
      obtain ⟨⟨h1, h2, h3⟩, h4⟩ := hd
      rw [List.foldl_cons, List.foldl_cons]
      by_cases ha : m.ack = true
      · have e1 : stepD (N, ids) m = (N, ids ++ [m.id]) := by rw [stepD, if_pos ha]
        have e2 : stR (S, ids) y = (S, ids ++ [y.id]) := by rw [stR, if_pos (h1 ▸ ha)]
        rw [e1, e2, h2]
        exact nr_fold D D' N S _ h4 h hl
      · have e1 : stepD (N, ids) m = (handN (takeN N m) (ackM m), ids) := by rw [stepD, if_neg ha]
        have e2 : stR (S, ids) y = (tkP S y, ids) := by rw [stR, if_neg (h1 ▸ ha)]
        rw [e1, e2]
        have ht := nr_take h h2 h3
        have hf := (takeN_same N m).1
        have hh := nr_hand (m := ackM m) (mm := ackR y) ht (by rw [hf]; exact hl) rfl h2 rfl rfl
        exact nr_fold D D' _ _ ids h4 hh (fun c hc => hl c (by rw [← hf]; exact List.mem_of_mem_tail hc))
theorem nr_tick {N : Net} {S : Rp} (h : RelNR N S) (hl : ∀ c ∈ N.fates, letterB c) : RelNR (tickN N).1 (tickR S).1 ∧ (tickN N).2 = (tickR S).2 := by
  obtain ⟨d1, d2⟩ := due_see S.now N.fly _ h.fly
  obtain ⟨r1, r2⟩ := due_ref S.now h.pos S.msgs h.inv
  have h0 : RelNR { N with now := N.now + 1, fly := restL N.fly } { S with now := S.now + 1, msgs := leftM (S.now + 1) S.msgs } :=
    ⟨by show N.now + 1 = S.now + 1; rw [h.now], by have := h.pos; show 0 ≤ S.now + 1; omega, h.fates, h.acc, by show (restL N.fly).map seeF = _; rw [d2, r2], fun m hm => h.inv m (List.mem_filter.1 hm).1⟩
  exact nr_fold (dueL N.fly) (dueM (S.now + 1) S.msgs) _ _ [] (by rw [d1, r1]) h0 hl
theorem nr_calm {N : Net} {S : Rp} (h : RelNR N S) : RelNR { N with fates := [] } { S with fates := [] } := ⟨h.now, h.pos, rfl, h.acc, h.fly, h.inv⟩
theorem nr_fate {N : Net} {S : Rp} (l : List Int) (h : RelNR N S) : RelNR (fateN N l).1 { S with fates := (fateN N l).1.fates } := by
  have e : (fateN N l).1.now = N.now ∧ (fateN N l).1.acc = N.acc ∧ (fateN N l).1.fly = N.fly := by
    unfold fateN
    repeat' split
    all_goals exact ⟨rfl, rfl, rfl⟩
  exact ⟨by rw [e.1]; exact h.now, h.pos, rfl, by rw [e.2.1]; exact h.acc, by rw [e.2.2]; exact h.fly, h.inv⟩
end Go.Proofs.Ytmngcpackbekiaa
