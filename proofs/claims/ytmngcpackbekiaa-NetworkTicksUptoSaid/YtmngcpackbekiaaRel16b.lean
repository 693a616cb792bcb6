/- A network and the document's through a script: what they keep to. -/
import Derived.Test.YtmngcpackbekiaaRel16
import Derived.Test.YtmngcpackbekiaaOnc16
namespace Go.Proofs.Ytmngcpackbekiaa
open Go.RowKit Go.Proofs.YtmngcpackbekiaaE
set_option linter.unusedSimpArgs false
set_option linter.unusedVariables false

/-- Each message has a copy ahead. -/
def Live (S : Rp) : Prop := ∀ m ∈ S.msgs, S.now < m.at_ ∨ S.now < m.again
theorem live_begin : Live ⟨0, [], [], []⟩ := by intro m hm; cases hm
theorem copR_live {now c : Int} {mm m : Mm} (hc : letterB c) (h : m ∈ copR now c mm) : now < m.at_ ∨ now < m.again := by
  unfold letterB at hc
  unfold copR at h
  split at h
  · simp at h
  · split at h
    · rw [List.mem_singleton] at h
      subst h
      left
      show now < now + 1
      omega
    · rw [List.mem_singleton] at h
      subst h
      left
      show now < now + (c - 48)
      omega
theorem live_hand {S : Rp} (mm : Mm) (h : Live S) (hl : ∀ c ∈ S.fates, letterB c) : Live { S with fates := S.fates.tail, msgs := S.msgs ++ copR S.now (S.fates.headD 49) mm } := by
  intro m hm
  rcases List.mem_append.1 hm with h1 | h1
  · exact h m h1
  · exact copR_live (head_letter hl) h1
theorem live_fold : ∀ (D : List Mm) (S : Rp) (ids : List Int), Live S → (∀ c ∈ S.fates, letterB c) → Live (D.foldl stR (S, ids)).1
  | [], S, ids, h, _ => h
  | m :: D, S, ids, h, hl => by
    rw [List.foldl_cons]
    by_cases ha : m.ack = true
    · rw [show stR (S, ids) m = (S, ids ++ [m.id]) by rw [stR, if_pos ha]]
      exact live_fold D S _ h hl
    · rw [show stR (S, ids) m = (tkP S m, ids) by rw [stR, if_neg ha]]
      exact live_fold D _ ids (fun x hx => live_hand (ackR m) h hl x hx) (fun c hc => hl c (List.mem_of_mem_tail hc))
theorem live_tick {S : Rp} (hl : ∀ c ∈ S.fates, letterB c) : Live (tickR S).1 :=
  live_fold _ _ _ (fun m hm => by
    have h1 := (List.mem_filter.1 hm).2
    simpa using h1) hl
theorem flat_ge {α β : Type} (f : α → List β) : ∀ l : List α, (∀ m ∈ l, 1 ≤ (f m).length) → l.length ≤ (l.flatMap f).length
  | [], _ => by simp
  | m :: l, h => by
    have h1 := flat_ge f l (fun x hx => h x (by simp [hx]))
    have h2 := h m (by simp)
    rw [List.flatMap_cons, List.length_append, List.length_cons]
    omega
theorem live_len {N : Net} {S : Rp} (h : Live S) (hr : RelNR N S) : S.msgs.length ≤ N.fly.length := by
  have h1 := congrArg List.length hr.fly
  rw [List.length_map] at h1
  rw [h1]
  refine flat_ge _ _ fun m hm => ?_
  unfold flOf
  rw [List.length_append]
  rcases h m hm with h2 | h2
  · rw [if_pos h2]
    simp only [List.length_singleton]
    omega
  · rw [if_pos h2 (α := List _)]
    simp only [List.length_singleton]
    omega
theorem nodup_len : ∀ (l l' : List Int), l.Nodup → (∀ x ∈ l, x ∈ l') → l.length ≤ l'.length
  | [], l', _, _ => by simp
  | x :: l, l', h, hs => by
    rw [List.nodup_cons] at h
    have hx := hs x (by simp)
    have h1 := nodup_len l (l'.erase x) h.2 (fun y hy => (List.mem_erase_of_ne (fun hh => by subst hh; exact h.1 hy)).2 (hs y (by simp [hy])))
    have h2 := List.length_erase_of_mem hx
    have h3 := List.length_pos_of_mem hx
    rw [List.length_cons]
    omega
/-- What a network and the document's keep to behind i steps. -/
structure PI (os : List Opr) (i : Nat) (N : Net) (S : Rp) : Prop where
  oi : OI (Sent os i) N
  nr : RelNR N S
  lv : Live S
  now : N.now ≤ i
  pt : pot N ≤ 6 * i
theorem pi_begin (os : List Opr) : PI os 0 newN ⟨0, [], [], []⟩ := ⟨oi_new _, nr_begin, live_begin, by simp [newN], by simp [newN, pot, wtL]⟩
theorem PI.mono {os : List Opr} {i j : Nat} {N : Net} {S : Rp} (h : PI os i N S) (hij : i ≤ j) : PI os j N S :=
  ⟨h.oi.mono (fun _ _ hh => hh.mono hij), h.nr, h.lv, by have := h.now; omega, by have := h.pt; omega⟩
theorem PI.accl {os : List Opr} {i : Nat} {N : Net} {S : Rp} (h : PI os i N S) (hi : i ≤ os.length) : N.acc.length ≤ i ∧ S.acc.length = N.acc.length := by
  refine ⟨?_, ?_⟩
  · have h1 := nodup_len (N.acc.map (·.id)) ((os.take i).map (·.id)) h.oi.nd (fun x hx => by
      obtain ⟨a, ha, rfl⟩ := List.mem_map.1 hx
      obtain ⟨j, hj, hji, _, hid, _⟩ := (h.oi.acc a ha).1
      refine List.mem_map.2 ⟨os[j], ?_, hid⟩
      have : (os.take i)[j]? = some os[j] := by rw [List.getElem?_take, if_pos hji, List.getElem?_eq_getElem hj]
      exact List.mem_of_getElem? this)
    rw [List.length_map, List.length_map, List.length_take] at h1
    omega
  · have h1 := congrArg List.length h.nr.acc
    rw [List.length_map, List.length_map] at h1
    exact h1.symm
theorem PI.msgl {os : List Opr} {i : Nat} {N : Net} {S : Rp} (h : PI os i N S) : S.msgs.length ≤ 6 * i ∧ N.fly.length ≤ 6 * i := by
  have h1 := live_len h.lv h.nr
  have h2 := wtL_len N.fly
  have h3 : pot N = wtL N.fly + N.acc.length := rfl
  have h4 := h.pt
  exact ⟨by omega, by omega⟩
theorem PI.ok {os : List Opr} {i : Nat} {N : Net} {S : Rp} (h : PI os i N S) (hi : i ≤ 10000000) : NetOk N := oi_netok h.oi h.now h.pt hi
theorem PI.fates {os : List Opr} {i : Nat} {N : Net} {S : Rp} (h : PI os i N S) : N.fates = S.fates ∧ (∀ c ∈ S.fates, letterB c) ∧ S.fates.length ≤ 4096 := by
  have h1 := h.nr.fates
  exact ⟨h1, fun c hc => h.oi.let_ c (h1 ▸ hc), by rw [← h1]; exact h.oi.fl⟩
theorem PI.bodl {os : List Opr} {i : Nat} {N : Net} {S : Rp} (h : PI os i N S) {b : Nat} (hb : ∀ o ∈ os, o.body.length ≤ b) : (∀ m ∈ N.acc, m.body.length ≤ b) ∧ (∀ m ∈ S.acc, m.body.length ≤ b) := by
  have h1 : ∀ m ∈ N.acc, m.body.length ≤ b := fun m hm => by
    obtain ⟨j, hj, _, _, _, e⟩ := (h.oi.acc m hm).1
    rw [← e]
    exact hb _ (List.getElem_mem hj)
  refine ⟨h1, fun m hm => ?_⟩
  have h2 : seeA m ∈ N.acc.map seeA := by rw [h.nr.acc]; exact List.mem_map.2 ⟨m, hm, rfl⟩
  obtain ⟨m', h4, h5⟩ := List.mem_map.1 h2
  have h6 : m'.body = m.body := by
    simp only [seeA, Prod.mk.injEq] at h5
    exact h5.2.2
  rw [← h6]
  exact h1 m' h4
/-- One step of both. -/
def StepNR (N : Net) (S : Rp) (o : Opr) (N' : Net) (S' : Rp) : Prop :=
  (o.kind = 1 ∧ N' = (fateN N (strI o.s)).1 ∧ S' = { S with fates := (fateN N (strI o.s)).1.fates }) ∨ (o.kind = 2 ∧ N' = { N with fates := [] } ∧ S' = { S with fates := [] }) ∨
  (o.kind = 3 ∧ (∃ A c, N' = handN N { ack := false, id := o.id, body := o.body, left := 0, A := A, c := c }) ∧ ∃ A c, S' = { S with fates := S.fates.tail, msgs := S.msgs ++ copR S.now (S.fates.headD 49) { ack := false, id := o.id, body := o.body, at_ := 0, again := 0, A := A, c := c } }) ∨
  (o.kind = 4 ∧ N' = (tickN N).1 ∧ S' = (tickR S).1) ∨ ((o.kind ≠ 1 ∧ o.kind ≠ 2 ∧ o.kind ≠ 3 ∧ o.kind ≠ 4) ∧ N' = N ∧ S' = S)
theorem pi_step {os : List Opr} {i : Nat} {N N' : Net} {S S' : Rp} (hi : i < os.length) (hr : -9223372036854775808 ≤ os[i].id ∧ os[i].id ≤ 9223372036854775807) (h : PI os i N S) (hs : StepNR N S os[i] N' S') : PI os (i + 1) N' S' := by
  have hnow := h.now
  have hpot := h.pt
  have hl := h.oi.let_
  obtain ⟨_, hlS, _⟩ := h.fates
  rcases hs with ⟨hk, rfl, rfl⟩ | ⟨hk, rfl, rfl⟩ | ⟨hk, ⟨A, c, rfl⟩, A', c', rfl⟩ | ⟨hk, rfl, rfl⟩ | ⟨hk, rfl, rfl⟩
  · obtain ⟨h1, h2, h3, h4, _⟩ := oi_play hi h.oi hr (.inl ⟨hk, rfl, rfl⟩)
    exact ⟨h1, nr_fate _ h.nr, h.lv, by omega, by omega⟩
  · obtain ⟨h1, h2, h3, h4, _⟩ := oi_play hi h.oi hr (.inr (.inl ⟨hk, rfl, rfl⟩))
    exact ⟨h1, nr_calm h.nr, h.lv, by omega, by omega⟩
  · obtain ⟨h1, h2, h3, h4, _⟩ := oi_play hi h.oi hr (.inr (.inr (.inl ⟨hk, ⟨A, c, rfl⟩, rfl⟩)))
    exact ⟨h1, nr_hand h.nr hl rfl rfl rfl rfl, live_hand _ h.lv hlS, by omega, by omega⟩
  · obtain ⟨h1, h2, h3, h4, _⟩ := oi_play (N' := (tickN N).1) (ids := (tickN N).2) hi h.oi hr (.inr (.inr (.inr (.inl ⟨hk, rfl⟩))))
    exact ⟨h1, (nr_tick h.nr hl).1, live_tick hlS, by omega, by omega⟩
  · obtain ⟨h1, h2, h3, h4, _⟩ := oi_play hi h.oi hr (.inr (.inr (.inr (.inr ⟨hk, rfl, rfl⟩))))
    exact ⟨h1, h.nr, h.lv, by omega, by omega⟩
end Go.Proofs.Ytmngcpackbekiaa
