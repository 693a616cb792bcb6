/- What every network keeps to: the plain law of NetworkOnce. -/
import Derived.Test.YtmngcpackbekiaaPly16b
namespace Go.Proofs.Ytmngcpackbekiaa
open Go.RowKit Go.Proofs.YtmngcpackbekiaaE
set_option linter.unusedSimpArgs false
set_option linter.unusedVariables false

def wtM (m : Mf) : Nat := if m.ack = true then 1 else 3
def wtL : List Mf → Nat
  | [] => 0
  | m :: l => wtM m + wtL l
theorem wtL_app : ∀ (l l' : List Mf), wtL (l ++ l') = wtL l + wtL l'
  | [], l' => by simp [wtL]
  | m :: l, l' => by rw [List.cons_append, wtL, wtL, wtL_app l l']; omega
theorem wtM_pos (m : Mf) : 1 ≤ wtM m ∧ wtM m ≤ 3 := by unfold wtM; split <;> omega
theorem wtL_len : ∀ l : List Mf, l.length ≤ wtL l
  | [] => by simp
  | m :: l => by have h1 := wtL_len l; have h2 := wtM_pos m; rw [List.length_cons, wtL]; omega
theorem wtL_due : ∀ fs : List Mf, wtL (dueL fs) + wtL (restL fs) = wtL fs
  | [] => rfl
  | m :: fs => by
    have h1 := wtL_due fs
    have h2 : wtM (decM m) = wtM m := rfl
    rw [due_cons, rest_cons]
    by_cases h : m.left - 1 = 0
    · rw [if_pos h, if_pos h, wtL, wtL]; omega
    · rw [if_neg h, if_neg h, wtL, wtL]; omega
def pot (N : Net) : Nat := wtL N.fly + N.acc.length
structure FlyOk (S : Int → List Int → Prop) (acc : List Ma) (m : Mf) : Prop where
  a : m.ack = true → m.id ∈ acc.map (·.id)
  s : m.ack = false → S m.id m.body
  r : -9223372036854775808 ≤ m.id ∧ m.id ≤ 9223372036854775807
structure OI (S : Int → List Int → Prop) (N : Net) : Prop where
  let_ : ∀ c ∈ N.fates, letterB c
  fl : N.fates.length ≤ 4096
  now : 0 ≤ N.now
  left : ∀ m ∈ N.fly, 1 ≤ m.left ∧ m.left ≤ 9
  fly : ∀ m ∈ N.fly, FlyOk S N.acc m
  acc : ∀ a ∈ N.acc, S a.id a.body ∧ 1 ≤ a.tick ∧ a.tick ≤ N.now
  nd : (N.acc.map (·.id)).Nodup
theorem oi_new (S : Int → List Int → Prop) : OI S newN where
  let_ := by simp [newN]
  fl := by simp [newN]
  now := by simp [newN]
  left := by simp [newN]
  fly := by simp [newN]
  acc := by simp [newN]
  nd := by simp [newN]
theorem OI.mono {S S' : Int → List Int → Prop} {N : Net} (h : OI S N) (hs : ∀ i b, S i b → S' i b) : OI S' N where
  let_ := h.let_
  fl := h.fl
  now := h.now
  left := h.left
  fly := fun m hm => ⟨(h.fly m hm).a, fun ha => hs _ _ ((h.fly m hm).s ha), (h.fly m hm).r⟩
  acc := fun a ha => ⟨hs _ _ (h.acc a ha).1, (h.acc a ha).2⟩
  nd := h.nd
theorem copies_all {c : Int} {m x : Mf} (hc : letterB c) (h : x ∈ copies c m) : x.id = m.id ∧ x.body = m.body ∧ x.ack = m.ack ∧ 1 ≤ x.left ∧ x.left ≤ 9 := by
  unfold letterB at hc
  unfold copies at h
  split at h
  · simp at h
  · split at h
    · simp only [List.mem_cons, List.not_mem_nil, or_false] at h
      rcases h with rfl | rfl <;> exact ⟨rfl, rfl, rfl, by simp, by simp⟩
    · simp only [List.mem_cons, List.not_mem_nil, or_false] at h
      subst h
      exact ⟨rfl, rfl, rfl, by show 1 ≤ c - 48; omega, by show c - 48 ≤ 9; omega⟩
theorem head_letter {l : List Int} (h : ∀ c ∈ l, letterB c) : letterB (l.headD 49) := by
  cases l with
  | nil => unfold letterB; simp
  | cons x l => exact h x (by simp)
theorem wtL_copies (c : Int) (m : Mf) : wtL (copies c m) ≤ 2 * wtM m := by
  have h := (wtM_pos m).1
  have e : ∀ k, wtM { m with left := k } = wtM m := fun _ => rfl
  unfold copies
  split
  · simp [wtL]
  · split
    · simp only [wtL, e]; omega
    · simp only [wtL, e]; omega
theorem oi_hand {S : Int → List Int → Prop} {N : Net} {m : Mf} (h : OI S N) (hm : FlyOk S N.acc m) : OI S (handN N m) ∧ pot (handN N m) ≤ pot N + 2 * wtM m := by
  have hl := head_letter h.let_
  have hc : ∀ x ∈ (handN N m).fly, x ∈ N.fly ∨ x ∈ copies (N.fates.headD 49) m := fun x hx => List.mem_append.1 hx
  refine ⟨{
    let_ := fun c hc => h.let_ c (List.mem_of_mem_tail hc)
    fl := by
      have h1 := h.fl
      have h2 : (handN N m).fates.length = N.fates.length - 1 := by show N.fates.tail.length = _; rw [List.length_tail]
      omega
    now := h.now
    left := fun x hx => by
      rcases hc x hx with h1 | h1
      · exact h.left x h1
      · exact (copies_all hl h1).2.2.2
    fly := fun x hx => by
      rcases hc x hx with h1 | h1
      · exact h.fly x h1
      · obtain ⟨e1, e2, e3, _⟩ := copies_all hl h1
        exact ⟨fun ha => by rw [e1]; exact hm.a (e3 ▸ ha), fun ha => by rw [e1, e2]; exact hm.s (e3 ▸ ha), by rw [e1]; exact hm.r⟩
    acc := h.acc
    nd := h.nd }, ?_⟩
  show wtL (N.fly ++ copies (N.fates.headD 49) m) + N.acc.length ≤ wtL N.fly + N.acc.length + 2 * wtM m
  have := wtL_copies (N.fates.headD 49) m
  rw [wtL_app]
  omega
theorem oi_take {S : Int → List Int → Prop} {N : Net} {m : Mf} (h : OI S N) (hs : S m.id m.body) (hn : 1 ≤ N.now) :
    OI S (takeN N m) ∧ m.id ∈ (takeN N m).acc.map (·.id) ∧ pot (takeN N m) ≤ pot N + 1 ∧ ∃ new, (takeN N m).acc = N.acc ++ new ∧ ∀ x ∈ new, x.tick = N.now ∧ S x.id x.body := by
  unfold takeN
  by_cases hm : m.id ∈ N.acc.map (·.id)
  · rw [if_pos hm]
    exact ⟨h, hm, by omega, [], by simp, by simp⟩
  · rw [if_neg hm]
    refine ⟨{
      let_ := h.let_
      fl := h.fl
      now := h.now
      left := h.left
      fly := fun x hx => ⟨fun ha => by rw [List.map_append]; exact List.mem_append.2 (.inl ((h.fly x hx).a ha)), (h.fly x hx).s, (h.fly x hx).r⟩
      acc := fun a ha => by
        rcases List.mem_append.1 ha with h1 | h1
        · exact h.acc a h1
        · rw [List.mem_singleton] at h1
          subst h1
          exact ⟨hs, hn, Int.le_refl _⟩
      nd := by
        rw [List.map_append, List.nodup_append]
        refine ⟨h.nd, by simp, fun a ha b hb => ?_⟩
        simp only [List.map_cons, List.map_nil, List.mem_singleton] at hb
        subst hb
        rintro rfl
        exact hm ha }, ?_, ?_, _, rfl, ?_⟩
    · rw [List.map_append]
      exact List.mem_append.2 (.inr (by simp))
    · show wtL N.fly + (N.acc ++ [_]).length ≤ wtL N.fly + N.acc.length + 1
      rw [List.length_append, List.length_singleton]
      omega
    · intro x hx
      rw [List.mem_singleton] at hx
      subst hx
      exact ⟨rfl, hs⟩
theorem FlyOk.more {S : Int → List Int → Prop} {acc acc' : List Ma} {m : Mf} (h : FlyOk S acc m) (ha : ∀ i ∈ acc.map (·.id), i ∈ acc'.map (·.id)) : FlyOk S acc' m := ⟨fun h1 => ha _ (h.a h1), h.s, h.r⟩
theorem oi_fold {S : Int → List Int → Prop} {q : Int → Prop} : ∀ (D : List Mf) (N : Net) (ids : List Int), OI S N → 1 ≤ N.now → (∀ m ∈ D, FlyOk S N.acc m) → (∀ m ∈ D, m.ack = true → q m.id) → (∀ i ∈ ids, q i) →
    OI S (D.foldl stepD (N, ids)).1 ∧ (D.foldl stepD (N, ids)).1.now = N.now ∧ pot (D.foldl stepD (N, ids)).1 ≤ pot N + wtL D ∧ (∃ new, (D.foldl stepD (N, ids)).1.acc = N.acc ++ new ∧ ∀ x ∈ new, x.tick = N.now ∧ S x.id x.body) ∧ (∀ i ∈ (D.foldl stepD (N, ids)).2, q i)
  | [], N, ids, h, _, _, _, hi => ⟨h, rfl, by simp [wtL], ⟨[], by simp, by simp⟩, hi⟩
  | m :: D, N, ids, h, hn, hD, hq, hi => by
    rw [List.foldl_cons]
    have hm := hD m (by simp)
    by_cases ha : m.ack = true
    · have e : stepD (N, ids) m = (N, ids ++ [m.id]) := by rw [stepD, if_pos ha]
      rw [e]
      obtain ⟨h1, h2, h3, h4, h5⟩ := oi_fold D N (ids ++ [m.id]) h hn (fun x hx => hD x (by simp [hx])) (fun x hx => hq x (by simp [hx])) (fun i hi' => by
        rcases List.mem_append.1 hi' with h6 | h6
        · exact hi i h6
        · rw [List.mem_singleton] at h6
          subst h6
          exact hq m (by simp) ha)
      exact ⟨h1, h2, by rw [wtL]; omega, h4, h5⟩
    · have e : stepD (N, ids) m = (handN (takeN N m) (ackM m), ids) := by rw [stepD, if_neg ha]
      rw [e]
      have haf : m.ack = false := by simpa using ha
      obtain ⟨t1, t2, t3, new1, t4, t5⟩ := oi_take h (hm.s haf) hn
      obtain ⟨s1, s2⟩ := oi_hand (m := ackM m) t1 ⟨fun _ => t2, fun hh => by simp [ackM] at hh, hm.r⟩
      have hnow : (handN (takeN N m) (ackM m)).now = N.now := (takeN_same N m).2.2.1
      have hmono : ∀ i ∈ N.acc.map (·.id), i ∈ (handN (takeN N m) (ackM m)).acc.map (·.id) := fun i hi' => by
        show i ∈ (takeN N m).acc.map (·.id)
        rw [t4, List.map_append]
        exact List.mem_append.2 (.inl hi')
      obtain ⟨h1, h2, h3, ⟨new2, h4, h4'⟩, h5⟩ := oi_fold D (handN (takeN N m) (ackM m)) ids s1 (by rw [hnow]; exact hn) (fun x hx => (hD x (by simp [hx])).more hmono) (fun x hx => hq x (by simp [hx])) hi
      have hw : wtM m = 3 := by rw [wtM, if_neg ha]
      have hw2 : wtM (ackM m) = 1 := rfl
      refine ⟨h1, by rw [h2, hnow], by rw [wtL]; omega, ⟨new1 ++ new2, ?_, ?_⟩, h5⟩
      · rw [h4]
        show (takeN N m).acc ++ new2 = _
        rw [t4, List.append_assoc]
      · intro x hx
        rcases List.mem_append.1 hx with h6 | h6
        · exact t5 x h6
        · rw [← hnow]; exact h4' x h6
theorem oi_tick {S : Int → List Int → Prop} {N : Net} (h : OI S N) :
    OI S (tickN N).1 ∧ (tickN N).1.now = N.now + 1 ∧ pot (tickN N).1 ≤ pot N ∧ (∃ new, (tickN N).1.acc = N.acc ++ new ∧ ∀ x ∈ new, x.tick = N.now + 1 ∧ S x.id x.body) ∧ (∀ i ∈ (tickN N).2, i ∈ N.acc.map (·.id)) := by
  have h0 : OI S { N with now := N.now + 1, fly := restL N.fly } := {
    let_ := h.let_
    fl := h.fl
    now := by have := h.now; show 0 ≤ N.now + 1; omega
    left := fun m hm => by
      obtain ⟨m0, h1, rfl, h2⟩ := mem_restL hm
      have := h.left m0 h1
      have h3 : m0.left - 1 ≠ 0 := h2
      show 1 ≤ m0.left - 1 ∧ m0.left - 1 ≤ 9
      omega
    fly := fun m hm => by
      obtain ⟨m0, h1, rfl, _⟩ := mem_restL hm
      exact ⟨(h.fly m0 h1).a, (h.fly m0 h1).s, (h.fly m0 h1).r⟩
    acc := fun a ha => by
      obtain ⟨h1, h2, h3⟩ := h.acc a ha
      exact ⟨h1, h2, by show a.tick ≤ N.now + 1; omega⟩
    nd := h.nd }
  have hD : ∀ m ∈ dueL N.fly, FlyOk S N.acc m := fun m hm => by
    obtain ⟨m0, h1, rfl, _⟩ := mem_dueL hm
    exact ⟨(h.fly m0 h1).a, (h.fly m0 h1).s, (h.fly m0 h1).r⟩
  obtain ⟨h1, h2, h3, h4, h5⟩ := oi_fold (q := fun i => i ∈ N.acc.map (·.id)) (dueL N.fly) _ [] h0 (by have := h.now; show 1 ≤ N.now + 1; omega) hD (fun m hm ha => (hD m hm).a ha) (by simp)
  refine ⟨h1, h2, ?_, h4, h5⟩
  have h6 := wtL_due N.fly
  have h7 : pot { N with now := N.now + 1, fly := restL N.fly } = wtL (restL N.fly) + N.acc.length := rfl
  have h8 : pot N = wtL N.fly + N.acc.length := rfl
  unfold tickN
  omega
/-- One step of a script. -/
theorem oi_play {os : List Opr} {i : Nat} {N N' : Net} {ids : List Int} (hi : i < os.length) (h : OI (Sent os i) N) (hr : -9223372036854775808 ≤ os[i].id ∧ os[i].id ≤ 9223372036854775807) (hp : PlayR N os[i] N' ids) :
    OI (Sent os (i + 1)) N' ∧ N.now ≤ N'.now ∧ N'.now ≤ N.now + 1 ∧ pot N' ≤ pot N + 6 ∧ (∃ new, N'.acc = N.acc ++ new ∧ (∀ x ∈ new, x.tick = N'.now ∧ Sent os i x.id x.body) ∧ (os[i].kind ≠ 4 → new = [])) ∧ (∀ j ∈ ids, j ∈ N.acc.map (·.id) ∧ N'.now = N.now + 1) := by
  have hS : ∀ a b, Sent os i a b → Sent os (i + 1) a b := fun a b hh => hh.mono (by omega)
  rcases hp with ⟨hk, rfl, rfl⟩ | ⟨hk, rfl, rfl⟩ | ⟨hk, ⟨A, c, rfl⟩, rfl⟩ | ⟨hk, ht⟩ | ⟨hk, rfl, rfl⟩
  · have hsame : ∀ l, OI (Sent os (i + 1)) (fateN N l).1 ∧ (fateN N l).1.now = N.now ∧ pot (fateN N l).1 = pot N ∧ (fateN N l).1.acc = N.acc := fun l => by
      unfold fateN
      split
      · exact ⟨h.mono hS, rfl, rfl, rfl⟩
      · split
        · exact ⟨h.mono hS, rfl, rfl, rfl⟩
        · split
          · exact ⟨h.mono hS, rfl, rfl, rfl⟩
          · split
            · exact ⟨h.mono hS, rfl, rfl, rfl⟩
            · rename_i h1 h2 h3 h4
              have h5 := h.mono hS
              refine ⟨{ h5 with
                let_ := fun c hc => by
                  rcases List.mem_append.1 hc with h6 | h6
                  · exact h.let_ c h6
                  · exact (Decidable.not_not.1 h3) c h6
                fl := by show (N.fates ++ l).length ≤ 4096; rw [List.length_append]; omega }, rfl, rfl, rfl⟩
    obtain ⟨h1, h2, h3, h4⟩ := hsame (strI os[i].s)
    exact ⟨h1, by omega, by omega, by omega, ⟨[], by rw [h4]; simp, by simp, fun _ => rfl⟩, by simp⟩
  · have h5 := h.mono hS
    exact ⟨{ h5 with let_ := by simp, fl := by simp }, Int.le_refl _, by show N.now ≤ N.now + 1; omega, by show pot N ≤ pot N + 6; omega, ⟨[], by simp, by simp, fun _ => rfl⟩, by simp⟩
  · have h5 := h.mono hS
    obtain ⟨h1, h2⟩ := oi_hand (m := { ack := false, id := os[i].id, body := os[i].body, left := 0, A := A, c := c }) h5 ⟨fun hh => by simp at hh, fun _ => ⟨i, hi, by omega, hk, rfl, rfl⟩, hr⟩
    have hw : wtM { ack := false, id := os[i].id, body := os[i].body, left := 0, A := A, c := c } = 3 := rfl
    exact ⟨h1, Int.le_refl _, by show N.now ≤ N.now + 1; omega, by omega, ⟨[], by simp [handN], by simp, fun _ => rfl⟩, by simp⟩
  · obtain ⟨h1, h2, h3, ⟨new, h4, h4'⟩, h5⟩ := oi_tick h
    rw [ht] at h1 h2 h3 h4 h5
    simp only at h1 h2 h3 h4 h5
    exact ⟨h1.mono hS, by omega, by omega, by omega, ⟨new, h4, fun x hx => by rw [h2]; exact h4' x hx, fun hh => absurd hk hh⟩, fun j hj => ⟨h5 j hj, h2⟩⟩
  · exact ⟨h.mono hS, Int.le_refl _, by omega, by omega, ⟨[], by simp, by simp, fun _ => rfl⟩, by simp⟩
theorem oi_netok {S : Int → List Int → Prop} {N : Net} {i : Nat} (h : OI S N) (hn : N.now ≤ i) (hp : pot N ≤ 6 * i) (hi : i ≤ 10000000) : NetOk N where
  now := by have := h.now; omega
  let_ := h.let_
  left := h.left
  ids := fun m hm => (h.fly m hm).r
  fly := by have h1 := wtL_len N.fly; have h2 : pot N = wtL N.fly + N.acc.length := rfl; omega
  acc := by have h2 : pot N = wtL N.fly + N.acc.length := rfl; omega
theorem play_ids {N N' : Net} {o : Opr} {ids : List Int} (h : PlayR N o N' ids) : ids.length ≤ pot N := by
  rcases h with ⟨_, _, rfl⟩ | ⟨_, _, rfl⟩ | ⟨_, _, rfl⟩ | ⟨_, ht⟩ | ⟨_, _, rfl⟩
  · simp
  · simp
  · simp
  · have h1 : ids = (tickN N).2 := by rw [ht]
    have h2 : ∀ (D : List Mf) (N : Net) (ids : List Int), (D.foldl stepD (N, ids)).2.length ≤ ids.length + D.length := by
      intro D
      induction D with
      | nil => intro N ids; simp
      | cons m D ih =>
        intro N ids
        rw [List.foldl_cons, List.length_cons]
        by_cases ha : m.ack = true
        · have e : stepD (N, ids) m = (N, ids ++ [m.id]) := by rw [stepD, if_pos ha]
          rw [e]
          have := ih N (ids ++ [m.id])
          rw [List.length_append, List.length_singleton] at this
          omega
        · have e : stepD (N, ids) m = (handN (takeN N m) (ackM m), ids) := by rw [stepD, if_neg ha]
          rw [e]
          have := ih (handN (takeN N m) (ackM m)) ids
          omega
    have h3 := h2 (dueL N.fly) { N with now := N.now + 1, fly := restL N.fly } []
    have h4 := dueL_len N.fly
    have h5 := wtL_len N.fly
    have h6 : pot N = wtL N.fly + N.acc.length := rfl
    rw [h1]
    unfold tickN
    simp only [List.length_nil, Nat.zero_add] at h3
    omega
  · simp
theorem accT_mem {l : List Ma} {id : Int} (h : id ∈ l.map (·.id)) : ∃ a ∈ l, accT l id = a.tick := by
  induction l with
  | nil => simp at h
  | cons x l ih =>
    rw [accT]
    by_cases hx : x.id = id
    · rw [if_pos hx]
      exact ⟨x, by simp, rfl⟩
    · rw [if_neg hx]
      rw [List.map_cons, List.mem_cons] at h
      rcases h with h1 | h1
      · exact absurd h1.symm hx
      · obtain ⟨a, h2, h3⟩ := ih h1
        exact ⟨a, by simp [h2], h3⟩
theorem accT_not {l : List Ma} {id : Int} (h : id ∉ l.map (·.id)) : accT l id = 0 := by
  induction l with
  | nil => rfl
  | cons x l ih =>
    rw [List.map_cons, List.mem_cons, not_or] at h
    rw [accT, if_neg (fun hh => h.1 hh.symm)]
    exact ih h.2
theorem nodup_take {l : List Ma} (h : (l.map (·.id)).Nodup) {k : Nat} (hk : k < l.length) : l[k].id ∉ (l.take k).map (·.id) := by
  have h1 : l = l.take k ++ l[k] :: l.drop (k + 1) := by rw [← List.drop_eq_getElem_cons hk, List.take_append_drop]
  rw [h1, List.map_append, List.nodup_append] at h
  intro hh
  exact h.2.2 _ hh _ (List.mem_map.2 ⟨l[k], List.mem_cons_self, rfl⟩) rfl
theorem see_ids {l l' : List Ma} (h : l.map seeA = l'.map seeA) : l.map (·.id) = l'.map (·.id) := by
  have h1 := congrArg (List.map (fun x : Int × Int × List Int => x.1)) h
  rw [List.map_map, List.map_map] at h1
  exact h1
theorem AccAt.take {w : World} {G : Nat → Prop} {A : Option Addr} {l : List Ma} (h : AccAt w G A l) (k : Nat) : AccAt w G A (l.take k) where
  row := fun hn => by
    have hlen : 0 < (acCs l).length := by
      rw [acCs_len] at hn ⊢
      rw [List.length_take] at hn
      omega
    obtain ⟨b, o, hA, hg, hc⟩ := h.row hlen
    refine ⟨b, o, hA, hg, fun j v hj => hc j v ?_⟩
    have h1 : acCs l = acCs (l.take k) ++ acCs (l.drop k) := by
      unfold acCs
      rw [← List.flatMap_append, List.take_append_drop]
    rw [h1, List.getElem?_append_left (List.getElem?_eq_some_iff.1 hj).1]
    exact hj
  bod := fun m hm => h.bod m (List.mem_of_mem_take hm)
end Go.Proofs.Ytmngcpackbekiaa
