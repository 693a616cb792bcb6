/- Networks without their addresses; one number's part of a network; the plain law of NetworkQueue. -/
import Derived.Test.YtmngcpackbekiaaOpn16
namespace Go.Proofs.Ytmngcpackbekiaa
open Go.RowKit Go.Proofs.YtmngcpackbekiaaE
set_option linter.unusedSimpArgs false
set_option linter.unusedVariables false

def eF (m : Mf) : Mf := { m with A := none, c := 0 }
def eA (m : Ma) : Ma := { m with A := none, c := 0 }
/-- The network without addresses. -/
def er (N : Net) : Net := { N with fly := N.fly.map eF, acc := N.acc.map eA }
theorem copies_er (c : Int) (m : Mf) : (copies c m).map eF = copies c (eF m) := by
  unfold copies
  split
  · rfl
  · split <;> rfl
theorem hand_er (N : Net) (m : Mf) : er (handN N m) = handN (er N) (eF m) := by
  simp only [er, handN, List.map_append, copies_er]
theorem take_er (N : Net) (m : Mf) : er (takeN N m) = takeN (er N) (eF m) := by
  have h : (er N).acc.map (·.id) = N.acc.map (·.id) := by
    show (N.acc.map eA).map (·.id) = _
    rw [List.map_map]
    rfl
  unfold takeN
  rw [h]
  by_cases hm : m.id ∈ N.acc.map (·.id)
  · rw [if_pos hm, if_pos (show (eF m).id ∈ _ from hm)]
  · rw [if_neg hm, if_neg (show (eF m).id ∉ _ from hm)]
    simp only [er, List.map_append]
    rfl
theorem fold_er : ∀ (D : List Mf) (N : Net) (ids : List Int), er (D.foldl stepD (N, ids)).1 = ((D.map eF).foldl stepD (er N, ids)).1 ∧ (D.foldl stepD (N, ids)).2 = ((D.map eF).foldl stepD (er N, ids)).2
  | [], _, _ => ⟨rfl, rfl⟩
  | m :: D, N, ids => by
    rw [List.foldl_cons, List.map_cons, List.foldl_cons]
    by_cases h : m.ack = true
    · rw [stepD, if_pos h, stepD, if_pos (show (eF m).ack = true from h)]
      exact fold_er D N _
    · rw [stepD, if_neg h, stepD, if_neg (show ¬ (eF m).ack = true from h)]
      have := fold_er D (handN (takeN N m) (ackM m)) ids
      rw [hand_er, take_er] at this
      exact this
theorem due_cons (m : Mf) (fs : List Mf) : dueL (m :: fs) = if m.left - 1 = 0 then decM m :: dueL fs else dueL fs := by
  unfold dueL
  rw [List.map_cons, List.filter_cons]
  by_cases h : m.left - 1 = 0 <;> simp [decM, h]
theorem rest_cons (m : Mf) (fs : List Mf) : restL (m :: fs) = if m.left - 1 = 0 then restL fs else decM m :: restL fs := by
  unfold restL
  rw [List.map_cons, List.filter_cons]
  by_cases h : m.left - 1 = 0 <;> simp [decM, h]
theorem due_er : ∀ fs : List Mf, (dueL fs).map eF = dueL (fs.map eF)
  | [] => rfl
  | m :: fs => by
    rw [List.map_cons, due_cons, due_cons, ← due_er fs]
    by_cases h : m.left - 1 = 0
    · rw [if_pos h, if_pos (show (eF m).left - 1 = 0 from h)]; rfl
    · rw [if_neg h, if_neg (show ¬ (eF m).left - 1 = 0 from h)]
theorem rest_er : ∀ fs : List Mf, (restL fs).map eF = restL (fs.map eF)
  | [] => rfl
  | m :: fs => by
    rw [List.map_cons, rest_cons, rest_cons, ← rest_er fs]
    by_cases h : m.left - 1 = 0
    · rw [if_pos h, if_pos (show (eF m).left - 1 = 0 from h)]
    · rw [if_neg h, if_neg (show ¬ (eF m).left - 1 = 0 from h)]; rfl
theorem tick_er (N : Net) : er (tickN N).1 = (tickN (er N)).1 ∧ (tickN N).2 = (tickN (er N)).2 := by
  have h := fold_er (dueL N.fly) { N with now := N.now + 1, fly := restL N.fly } []
  have h1 : er { N with now := N.now + 1, fly := restL N.fly } = { er N with now := (er N).now + 1, fly := restL (er N).fly } := by
    simp only [er, rest_er]
  rw [h1, due_er] at h
  exact h
/-- What concerns one number. -/
def pj (id : Int) (N : Net) : Net := { N with fly := N.fly.filter fun m => m.id = id, acc := N.acc.filter fun m => m.id = id }
theorem hand_pj {id : Int} {N : Net} {m : Mf} (h0 : N.fates = []) : pj id (handN N m) = if m.id = id then handN (pj id N) m else pj id N := by
  have hc : copies (N.fates.headD 49) m = [{ m with left := 49 - 48 }] := by rw [h0]; simp [copies]
  have e1 : handN N m = { N with fates := [], fly := N.fly ++ [{ m with left := 49 - 48 }] } := by unfold handN; rw [hc, h0]; rfl
  have hc2 : copies ((pj id N).fates.headD 49) m = [{ m with left := 49 - 48 }] := hc
  have e2 : handN (pj id N) m = { pj id N with fates := [], fly := (pj id N).fly ++ [{ m with left := 49 - 48 }] } := by unfold handN; rw [hc2, show (pj id N).fates = [] from h0]; rfl
  rw [e1, e2]
  by_cases h : m.id = id
  · rw [if_pos h]
    simp [pj, List.filter_append, h]
  · rw [if_neg h]
    simp [pj, List.filter_append, h, h0]
theorem take_pj {id : Int} {N : Net} {m : Mf} : pj id (takeN N m) = if m.id = id then takeN (pj id N) m else pj id N := by
  by_cases h : m.id = id
  · rw [if_pos h]
    have hm : m.id ∈ N.acc.map (·.id) ↔ m.id ∈ (pj id N).acc.map (·.id) := by
      simp only [pj, List.mem_map, List.mem_filter, decide_eq_true_eq]
      constructor
      · rintro ⟨a, ha, e⟩
        exact ⟨a, ⟨ha, e.trans h⟩, e⟩
      · rintro ⟨a, ha, e⟩
        exact ⟨a, ha.1, e⟩
    unfold takeN
    by_cases hq : m.id ∈ N.acc.map (·.id)
    · rw [if_pos hq, if_pos (hm.1 hq)]
    · rw [if_neg hq, if_neg (fun hh => hq (hm.2 hh))]
      simp [pj, List.filter_append, h]
  · rw [if_neg h]
    unfold takeN
    split
    · rfl
    · simp [pj, List.filter_append, h]
theorem hand_fates {N : Net} {m : Mf} (h : N.fates = []) : (handN N m).fates = [] := by simp [handN, h]
theorem fold_pj {id : Int} : ∀ (D : List Mf) (N : Net) (ids ids' : List Int), N.fates = [] → pj id (D.foldl stepD (N, ids)).1 = ((D.filter fun m => m.id = id).foldl stepD (pj id N, ids')).1 ∧ (D.foldl stepD (N, ids)).1.fates = []
  | [], _, _, _, h => ⟨rfl, h⟩
  | m :: D, N, ids, ids', h => by
    rw [List.foldl_cons, List.filter_cons]
    by_cases ha : m.ack = true
    · rw [stepD, if_pos ha]
      by_cases hm : m.id = id
      · rw [if_pos (by simpa using hm), List.foldl_cons, stepD, if_pos ha]
        exact fold_pj D N _ _ h
      · rw [if_neg (by simpa using hm)]
        exact fold_pj D N _ _ h
    · rw [stepD, if_neg ha]
      have ht : (takeN N m).fates = [] := by rw [(takeN_same N m).1, h]
      have hp := hand_pj (id := id) (m := ackM m) ht
      rw [take_pj] at hp
      by_cases hm : m.id = id
      · rw [if_pos (by simpa using hm), List.foldl_cons, stepD, if_neg ha]
        rw [if_pos (show (ackM m).id = id from hm), if_pos hm] at hp
        have := fold_pj (id := id) D (handN (takeN N m) (ackM m)) ids ids' (hand_fates ht)
        rw [hp] at this
        exact this
      · rw [if_neg (by simpa using hm)]
        rw [if_neg (show ¬ (ackM m).id = id from hm), if_neg hm] at hp
        have := fold_pj (id := id) D (handN (takeN N m) (ackM m)) ids ids' (hand_fates ht)
        rw [hp] at this
        exact this
theorem due_pj {id : Int} : ∀ fs : List Mf, (dueL fs).filter (fun m => m.id = id) = dueL (fs.filter fun m => m.id = id)
  | [] => rfl
  | m :: fs => by
    have ih := due_pj (id := id) fs
    by_cases hm : m.id = id
    · have e : (m :: fs).filter (fun m => m.id = id) = m :: fs.filter (fun m => m.id = id) := by rw [List.filter_cons, if_pos (by simpa using hm)]
      have e2 : ∀ l, (decM m :: l).filter (fun m => m.id = id) = decM m :: l.filter (fun m => m.id = id) := fun l => by rw [List.filter_cons, if_pos (show decide ((decM m).id = id) = true from decide_eq_true hm)]
      rw [e, due_cons, due_cons, ← ih]
      by_cases h : m.left - 1 = 0
      · rw [if_pos h, if_pos h]; try rw [e2]
      · rw [if_neg h, if_neg h]; try rw [e2]
    · have e : (m :: fs).filter (fun m => m.id = id) = fs.filter (fun m => m.id = id) := by rw [List.filter_cons, if_neg (by simpa using hm)]
      have e2 : ∀ l, (decM m :: l).filter (fun m => m.id = id) = l.filter (fun m => m.id = id) := fun l => by rw [List.filter_cons, if_neg (show ¬ decide ((decM m).id = id) = true from fun hh => hm (of_decide_eq_true hh))]
      rw [e, due_cons, ← ih]
      by_cases h : m.left - 1 = 0
      · rw [if_pos h]; try rw [e2]
      · rw [if_neg h]; try rw [e2]
theorem rest_pj {id : Int} : ∀ fs : List Mf, (restL fs).filter (fun m => m.id = id) = restL (fs.filter fun m => m.id = id)
  | [] => rfl
  | m :: fs => by
    have ih := rest_pj (id := id) fs
    by_cases hm : m.id = id
    · have e : (m :: fs).filter (fun m => m.id = id) = m :: fs.filter (fun m => m.id = id) := by rw [List.filter_cons, if_pos (by simpa using hm)]
      have e2 : ∀ l, (decM m :: l).filter (fun m => m.id = id) = decM m :: l.filter (fun m => m.id = id) := fun l => by rw [List.filter_cons, if_pos (show decide ((decM m).id = id) = true from decide_eq_true hm)]
      rw [e, rest_cons, rest_cons, ← ih]
      by_cases h : m.left - 1 = 0
      · rw [if_pos h, if_pos h]; try rw [e2]
      · rw [if_neg h, if_neg h]; try rw [e2]
    · have e : (m :: fs).filter (fun m => m.id = id) = fs.filter (fun m => m.id = id) := by rw [List.filter_cons, if_neg (by simpa using hm)]
      have e2 : ∀ l, (decM m :: l).filter (fun m => m.id = id) = l.filter (fun m => m.id = id) := fun l => by rw [List.filter_cons, if_neg (show ¬ decide ((decM m).id = id) = true from fun hh => hm (of_decide_eq_true hh))]
      rw [e, rest_cons, ← ih]
      by_cases h : m.left - 1 = 0
      · rw [if_pos h]; try rw [e2]
      · rw [if_neg h]; try rw [e2]
theorem tick_pj {id : Int} {N : Net} (h : N.fates = []) : pj id (tickN N).1 = (tickN (pj id N)).1 ∧ (tickN N).1.fates = [] := by
  have h2 := fold_pj (id := id) (dueL N.fly) { N with now := N.now + 1, fly := restL N.fly } [] [] h
  have h1 : pj id { N with now := N.now + 1, fly := restL N.fly } = { pj id N with now := (pj id N).now + 1, fly := restL (pj id N).fly } := by
    simp only [pj, rest_pj]
  rw [h1, due_pj] at h2
  exact h2
theorem accT_pj (id : Int) : ∀ l : List Ma, accT (l.filter fun m => m.id = id) id = accT l id
  | [] => rfl
  | m :: l => by
    rw [List.filter_cons]
    by_cases h : m.id = id
    · rw [if_pos (by simpa using h), accT, accT, if_pos h, if_pos h]
    · rw [if_neg (by simpa using h), accT, if_neg h]
      exact accT_pj id l
/-- How long the lists are. -/
theorem fold_len : ∀ (D : List Mf) (N : Net) (ids : List Int), N.fates = [] → (D.foldl stepD (N, ids)).1.fly.length ≤ N.fly.length + D.length ∧ (D.foldl stepD (N, ids)).1.acc.length ≤ N.acc.length + D.length ∧ (D.foldl stepD (N, ids)).1.now = N.now
  | [], _, _, _ => ⟨by simp, by simp, rfl⟩
  | m :: D, N, ids, h => by
    rw [List.foldl_cons, List.length_cons]
    by_cases ha : m.ack = true
    · have e : stepD (N, ids) m = (N, ids ++ [m.id]) := by rw [stepD, if_pos ha]
      rw [e]
      have := fold_len D N (ids ++ [m.id]) h
      exact ⟨by omega, by omega, this.2.2⟩
    · have e : stepD (N, ids) m = (handN (takeN N m) (ackM m), ids) := by rw [stepD, if_neg ha]
      rw [e]
      obtain ⟨t1, t2, t3, t4⟩ := takeN_same N m
      have ht : (takeN N m).fates = [] := by rw [t1, h]
      have := fold_len D (handN (takeN N m) (ackM m)) ids (hand_fates ht)
      have hl : (handN (takeN N m) (ackM m)).fly.length = N.fly.length + 1 := by
        have hc : copies ((takeN N m).fates.headD 49) (ackM m) = [{ ackM m with left := 49 - 48 }] := by rw [ht]; simp [copies]
        show ((takeN N m).fly ++ copies ((takeN N m).fates.headD 49) (ackM m)).length = _
        rw [hc, t2, List.length_append]
        rfl
      have ha2 : (handN (takeN N m) (ackM m)).acc.length = (takeN N m).acc.length := rfl
      have hn : (handN (takeN N m) (ackM m)).now = (takeN N m).now := rfl
      exact ⟨by omega, by omega, by rw [this.2.2, hn, t3]⟩
theorem due_rest : ∀ fs : List Mf, (dueL fs).length + (restL fs).length = fs.length
  | [] => rfl
  | m :: fs => by
    have := due_rest fs
    rw [due_cons, rest_cons]
    by_cases h : m.left - 1 = 0
    · rw [if_pos h, if_pos h, List.length_cons, List.length_cons]; omega
    · rw [if_neg h, if_neg h, List.length_cons, List.length_cons]; omega
theorem tick_len {N : Net} (h : N.fates = []) : (tickN N).1.fly.length ≤ N.fly.length ∧ (tickN N).1.acc.length ≤ N.acc.length + N.fly.length ∧ (tickN N).1.now = N.now + 1 := by
  obtain ⟨h1, h2, h3⟩ := fold_len (dueL N.fly) { N with now := N.now + 1, fly := restL N.fly } [] h
  have h4 := due_rest N.fly
  have e1 : ({ N with now := N.now + 1, fly := restL N.fly } : Net).fly.length = (restL N.fly).length := rfl
  have e2 : ({ N with now := N.now + 1, fly := restL N.fly } : Net).acc.length = N.acc.length := rfl
  unfold tickN
  exact ⟨by omega, by omega, h3⟩
/-- A property of numbers and bytes, kept. -/
structure Al (p : Int → List Int → Prop) (N : Net) : Prop where
  fly : ∀ m ∈ N.fly, p m.id m.body
  acc : ∀ m ∈ N.acc, p m.id m.body
theorem al_hand {p : Int → List Int → Prop} {N : Net} {m : Mf} (h : Al p N) (hm : p m.id m.body) : Al p (handN N m) := by
  refine ⟨fun x hx => ?_, h.acc⟩
  have hx' : x ∈ N.fly ++ copies (N.fates.headD 49) m := hx
  rcases List.mem_append.1 hx' with h1 | h1
  · exact h.fly x h1
  · unfold copies at h1
    split at h1
    · simp at h1
    · split at h1
      · simp only [List.mem_cons, List.not_mem_nil, or_false] at h1
        rcases h1 with rfl | rfl <;> exact hm
      · simp only [List.mem_cons, List.not_mem_nil, or_false] at h1
        subst h1
        exact hm
theorem al_take {p : Int → List Int → Prop} {N : Net} {m : Mf} (h : Al p N) (hm : p m.id m.body) : Al p (takeN N m) := by
  unfold takeN
  split
  · exact h
  · refine ⟨h.fly, fun x hx => ?_⟩
    rcases List.mem_append.1 hx with h1 | h1
    · exact h.acc x h1
    · rw [List.mem_singleton] at h1
      subst h1
      exact hm
theorem al_fold {p : Int → List Int → Prop} (h0 : ∀ i b, p i b → p i []) : ∀ (D : List Mf) (N : Net) (ids : List Int), (∀ m ∈ D, p m.id m.body) → Al p N → Al p (D.foldl stepD (N, ids)).1
  | [], _, _, _, h => h
  | m :: D, N, ids, hD, h => by
    rw [List.foldl_cons]
    by_cases hack : m.ack = true
    · rw [stepD, if_pos hack]
      exact al_fold h0 D N _ (fun x hx => hD x (by simp [hx])) h
    · rw [stepD, if_neg hack]
      exact al_fold h0 D _ ids (fun x hx => hD x (by simp [hx])) (al_hand (al_take h (hD m (by simp))) (h0 _ _ (hD m (by simp))))
theorem al_tick {p : Int → List Int → Prop} (h0 : ∀ i b, p i b → p i []) {N : Net} (h : Al p N) : Al p (tickN N).1 := by
  refine al_fold h0 (dueL N.fly) _ [] (fun m hm => ?_) ⟨fun m hm => ?_, h.acc⟩
  · obtain ⟨m0, h1, rfl, _⟩ := mem_dueL hm
    exact h.fly m0 h1
  · obtain ⟨m0, h1, rfl, _⟩ := mem_restL hm
    exact h.fly m0 h1
/-- Notices 1, 2, 3 .. were sent. -/
def ntc (i : Nat) : Mf := { ack := false, id := (i : Int) + 1, body := [], left := 0, A := none, c := 0 }
def Qn (ls : List Int) (k : Nat) : Net := { now := 0, fates := ls.drop k, fly := (List.range k).flatMap fun i => copies (ls.getD i 0) (ntc i), acc := [] }
theorem qn_step {ls : List Int} {k : Nat} (h : k < ls.length) : handN (Qn ls k) (ntc k) = Qn ls (k + 1) := by
  have e1 : (ls.drop k).headD 49 = ls.getD k 0 := by
    rw [List.drop_eq_getElem_cons h, List.headD_cons, List.getD_eq_getElem?_getD, List.getElem?_eq_getElem h]
    rfl
  have e2 : (ls.drop k).tail = ls.drop (k + 1) := by rw [List.tail_drop]
  unfold Qn handN
  simp only [e1, e2, List.range_succ, List.flatMap_append, List.flatMap_cons, List.flatMap_nil, List.append_nil]
theorem copies_copC (c : Int) (m : Mf) : ((copies c m).length : Int) = copC c := by
  unfold copies copC
  repeat' split
  all_goals simp
theorem qn_len (ls : List Int) (k : Nat) : ((Qn ls (k + 1)).fly.length : Int) = (Qn ls k).fly.length + copC (ls.getD k 0) := by
  simp only [Qn, List.range_succ, List.flatMap_append, List.flatMap_cons, List.flatMap_nil, List.append_nil, List.length_append, Int.natCast_add, copies_copC]
theorem qn_len2 (ls : List Int) : ∀ k, (Qn ls k).fly.length ≤ 2 * k
  | 0 => by simp [Qn]
  | k + 1 => by
    have h1 := qn_len2 ls k
    have h2 := qn_len ls k
    have h3 : copC (ls.getD k 0) ≤ 2 := by unfold copC; repeat' split; all_goals omega
    omega
theorem copies_mem {c : Int} {m x : Mf} (h : x ∈ copies c m) : x.id = m.id ∧ x.body = m.body := by
  unfold copies at h
  split at h
  · simp at h
  · split at h
    · simp only [List.mem_cons, List.not_mem_nil, or_false] at h
      rcases h with rfl | rfl <;> exact ⟨rfl, rfl⟩
    · simp only [List.mem_cons, List.not_mem_nil, or_false] at h
      subst h
      exact ⟨rfl, rfl⟩
theorem qn_pj (ls : List Int) (i : Nat) : ∀ k, (pj ((i : Int) + 1) (Qn ls k)).fly = if i < k then copies (ls.getD i 0) (ntc i) else []
  | 0 => by simp [pj, Qn]
  | k + 1 => by
    have ih := qn_pj ls i k
    have e : (pj ((i : Int) + 1) (Qn ls (k + 1))).fly = (pj ((i : Int) + 1) (Qn ls k)).fly ++ (copies (ls.getD k 0) (ntc k)).filter (fun m => m.id = (i : Int) + 1) := by
      simp only [pj, Qn, List.range_succ, List.flatMap_append, List.flatMap_cons, List.flatMap_nil, List.append_nil, List.filter_append]
    rw [e, ih]
    by_cases hik : i = k
    · subst hik
      rw [if_neg (by omega), if_pos (by omega), List.nil_append, List.filter_eq_self.2]
      intro x hx
      rw [(copies_mem hx).1]
      simp [ntc]
    · have : (copies (ls.getD k 0) (ntc k)).filter (fun m => m.id = (i : Int) + 1) = [] := by
        rw [List.filter_eq_nil_iff]
        intro x hx
        rw [(copies_mem hx).1]
        intro hh
        have hh' : (k : Int) + 1 = (i : Int) + 1 := of_decide_eq_true hh
        exact hik (by omega)
      rw [this, List.append_nil]
      by_cases h1 : i < k
      · rw [if_pos h1, if_pos (by omega)]
      · rw [if_neg h1, if_neg (by omega)]
theorem qn_al (ls : List Int) : ∀ k, k ≤ ls.length → Al (fun i b => (1 ≤ i ∧ i ≤ (ls.length : Int)) ∧ b = []) (Qn ls k)
  | 0, _ => ⟨by simp [Qn], by simp [Qn]⟩
  | k + 1, h => by
    rw [← qn_step (by omega)]
    exact al_hand (qn_al ls k (by omega)) ⟨⟨by simp only [ntc]; omega, by simp only [ntc]; omega⟩, rfl⟩
def Tn (ls : List Int) : Nat → Net
  | 0 => Qn ls ls.length
  | t + 1 => (tickN (Tn ls t)).1
structure TOk (ls : List Int) (t : Nat) (N : Net) : Prop where
  fates : N.fates = []
  now : N.now = t
  al : Al (fun i b => (1 ≤ i ∧ i ≤ (ls.length : Int)) ∧ b = []) N
  fly : N.fly.length ≤ 128
  acc : N.acc.length ≤ 128 * t
  rel : ∀ i, i < ls.length → Rel ((i : Int) + 1) (pj ((i : Int) + 1) N) (smIter (ls.getD i 0) t).1
theorem t_ok (ls : List Int) (hl : ls.length ≤ 64) : ∀ t, TOk ls t (Tn ls t)
  | 0 => {
    fates := by simp [Tn, Qn]
    now := rfl
    al := qn_al ls _ (Nat.le_refl _)
    fly := by have := qn_len2 ls ls.length; show (Qn ls ls.length).fly.length ≤ _; omega
    acc := by simp [Tn, Qn]
    rel := fun i hi => by
      have h1 := qn_pj ls i ls.length
      rw [if_pos hi] at h1
      refine ⟨by simp [Tn, pj, Qn], rfl, ?_, ?_, rfl⟩
      · show (pj _ (Qn ls ls.length)).fly.map _ = smCopies _
        rw [h1]
        unfold copies smCopies
        repeat' split
        all_goals rfl
      · intro m hm
        have hm' : m ∈ (pj ((i : Int) + 1) (Qn ls ls.length)).fly := hm
        rw [h1] at hm'
        rw [(copies_mem hm').1]
        rfl }
  | t + 1 => by
    have ih := t_ok ls hl t
    obtain ⟨l1, l2, l3⟩ := tick_len ih.fates
    have hf := ih.fly
    have ha := ih.acc
    exact {
      fates := (tick_pj (id := 0) ih.fates).2
      now := by show (tickN (Tn ls t)).1.now = _; rw [l3, ih.now]; omega
      al := al_tick (fun i b h => ⟨h.1, rfl⟩) ih.al
      fly := by show (tickN (Tn ls t)).1.fly.length ≤ _; omega
      acc := by show (tickN (Tn ls t)).1.acc.length ≤ _; omega
      rel := fun i hi => by
        have h1 := (rel_tick (ih.rel i hi)).1
        rw [← (tick_pj ih.fates).1] at h1
        exact h1 }
/-- Any network that is, but for addresses, one of these. -/
theorem t_netok {ls : List Int} {t : Nat} {N : Net} (hl : ls.length ≤ 64) (ht : t ≤ 12) (hall : ∀ c ∈ ls, letterB c) (h : er N = Tn ls t) : NetOk N := by
  have hk := t_ok ls hl t
  rw [← h] at hk
  have hfl : (er N).fly.length = N.fly.length := by simp [er]
  have hal : (er N).acc.length = N.acc.length := by simp [er]
  have h1 := hk.fly
  have h2 := hk.acc
  have hmem : ∀ m ∈ N.fly, eF m ∈ (er N).fly := fun m hm => List.mem_map.2 ⟨m, hm, rfl⟩
  exact {
    now := by have h3 : N.now = t := hk.now; omega
    let_ := by have h3 : N.fates = [] := hk.fates; rw [h3]; simp
    left := fun m hm => by
      obtain ⟨⟨h3, h4⟩, _⟩ := hk.al.fly _ (hmem m hm)
      have h3' : 1 ≤ m.id := h3
      have h4' : m.id ≤ (ls.length : Int) := h4
      have hi : (m.id - 1).toNat < ls.length := by omega
      have he : (((m.id - 1).toNat : Nat) : Int) + 1 = m.id := by omega
      have hr := hk.rel _ hi
      rw [he] at hr
      have hlt : letterB (ls.getD (m.id - 1).toNat 0) := hall _ (by rw [List.getD_eq_getElem?_getD, List.getElem?_eq_getElem hi]; exact List.getElem_mem hi)
      obtain ⟨_, _, _, r4, _⟩ := row_ok hlt (t := t) (by omega)
      exact r4 (m.ack, m.left) (by
        rw [← hr.fly]
        exact List.mem_map.2 ⟨eF m, List.mem_filter.2 ⟨hmem m hm, by simp [eF]⟩, rfl⟩)
    ids := fun m hm => by
      obtain ⟨⟨h3, h4⟩, _⟩ := hk.al.fly _ (hmem m hm)
      have h3' : 1 ≤ m.id := h3
      have h4' : m.id ≤ (ls.length : Int) := h4
      omega
    fly := by omega
    acc := by omega }
theorem accT_er (id : Int) : ∀ l : List Ma, accT (l.map eA) id = accT l id
  | [] => rfl
  | m :: l => by
    rw [List.map_cons, accT, accT, accT_er id l]
    rfl
def lawLate (c : Int) : Int := if c = 120 then 100 else if c = 100 then 1 else c - 48
theorem t_acc {ls : List Int} {t : Nat} {N : Net} (hl : ls.length ≤ 64) (h0 : 1 ≤ t) (ht : t ≤ 12) (hall : ∀ c ∈ ls, letterB c) (h : er N = Tn ls t) {i : Nat} (hi : i < ls.length) : (accT N.acc ((i : Int) + 1) ≠ 0) ↔ lawLate (ls.getD i 0) ≤ t := by
  have hk := t_ok ls hl t
  rw [← h] at hk
  have h1 := rel_acc (hk.rel i hi)
  have h2 : (pj ((i : Int) + 1) (er N)).acc = (N.acc.map eA).filter fun m => m.id = (i : Int) + 1 := rfl
  rw [h2, accT_pj, accT_er] at h1
  have hlt : letterB (ls.getD i 0) := hall _ (by rw [List.getD_eq_getElem?_getD, List.getElem?_eq_getElem hi]; exact List.getElem_mem hi)
  obtain ⟨r1, _⟩ := row_ok hlt (t := t) (by omega)
  rw [r1] at h1
  rw [h1]
  generalize ls.getD i 0 = c at *
  unfold letterB at hlt
  unfold lateC copC lawLate
  rcases hlt with h3 | h3 | h3
  · simp [h3]; omega
  · simp [h3]; omega
  · have e1 : ¬ c = 120 := by omega
    have e2 : ¬ c = 100 := by omega
    simp only [if_neg e1, if_neg e2]
    by_cases h4 : c - 48 ≤ (t : Int)
    · rw [if_pos ⟨by omega, by omega, h4⟩]; omega
    · rw [if_neg (by omega)]; omega
theorem see_er {N M : Net} (h : er N = er M) : N.acc.map seeA = M.acc.map seeA := by
  have h1 : (er N).acc.map seeA = (er M).acc.map seeA := by rw [h]
  have e : ∀ N : Net, (er N).acc.map seeA = N.acc.map seeA := fun N => by
    show (N.acc.map eA).map seeA = _
    rw [List.map_map]
    rfl
  rwa [e, e] at h1
end Go.Proofs.Ytmngcpackbekiaa
