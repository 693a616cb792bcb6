/- Behind a Calm: the plain law of NetworkCalm. -/
import Derived.Test.YtmngcpackbekiaaOnc16
namespace Go.Proofs.Ytmngcpackbekiaa
open Go.RowKit Go.Proofs.YtmngcpackbekiaaE
set_option linter.unusedSimpArgs false
set_option linter.unusedVariables false

/-- With no fates waiting: what is on its way behind the fold, and what was told. -/
theorem fold_fly : ∀ (D : List Mf) (N : Net) (ids : List Int), N.fates = [] →
    (∀ x ∈ (D.foldl stepD (N, ids)).1.fly, x ∈ N.fly ∨ ∃ m ∈ D, m.ack = false ∧ x.ack = true ∧ x.left = 1 ∧ x.id = m.id) ∧
    (∀ x ∈ N.fly, x ∈ (D.foldl stepD (N, ids)).1.fly) ∧ (∀ a ∈ N.acc.map (·.id), a ∈ (D.foldl stepD (N, ids)).1.acc.map (·.id)) ∧ (∀ i ∈ ids, i ∈ (D.foldl stepD (N, ids)).2) ∧
    (∀ m ∈ D, m.ack = false → m.id ∈ (D.foldl stepD (N, ids)).1.acc.map (·.id) ∧ ∃ x ∈ (D.foldl stepD (N, ids)).1.fly, x.ack = true ∧ x.left = 1 ∧ x.id = m.id) ∧
    (∀ m ∈ D, m.ack = true → m.id ∈ (D.foldl stepD (N, ids)).2) ∧ (D.foldl stepD (N, ids)).1.fates = []
  | [], N, ids, h => ⟨fun x hx => .inl hx, fun x hx => hx, fun a ha => ha, fun i hi => hi, by simp, by simp, h⟩
  | m :: D, N, ids, h => by
    rw [List.foldl_cons]
    by_cases ha : m.ack = true
    · have e : stepD (N, ids) m = (N, ids ++ [m.id]) := by rw [stepD, if_pos ha]
      rw [e]
      obtain ⟨h1, h2, h3, h4, h5, h6, h7⟩ := fold_fly D N (ids ++ [m.id]) h
      refine ⟨fun x hx => ?_, h2, h3, fun i hi => h4 i (by simp [hi]), fun y hy hya => ?_, fun y hy hya => ?_, h7⟩
      · rcases h1 x hx with h8 | ⟨y, hy, h8⟩
        · exact .inl h8
        · exact .inr ⟨y, by simp [hy], h8⟩
      · rcases List.mem_cons.1 hy with rfl | h8
        · rw [ha] at hya; cases hya
        · exact h5 y h8 hya
      · rcases List.mem_cons.1 hy with rfl | h8
        · exact h4 _ (by simp)
        · exact h6 y h8 hya
    · have e : stepD (N, ids) m = (handN (takeN N m) (ackM m), ids) := by rw [stepD, if_neg ha]
      have haf : m.ack = false := by simpa using ha
      have ht : (takeN N m).fates = [] := by rw [(takeN_same N m).1, h]
      have hfl : (handN (takeN N m) (ackM m)).fly = N.fly ++ [{ ackM m with left := 1 }] := by
        have hc : copies ((takeN N m).fates.headD 49) (ackM m) = [{ ackM m with left := 49 - 48 }] := by rw [ht]; simp [copies]
        show (takeN N m).fly ++ copies ((takeN N m).fates.headD 49) (ackM m) = _
        rw [hc, (takeN_same N m).2.1]
        rfl
      have hac : (handN (takeN N m) (ackM m)).acc = (takeN N m).acc := rfl
      have htm : m.id ∈ (takeN N m).acc.map (·.id) ∧ ∀ a ∈ N.acc.map (·.id), a ∈ (takeN N m).acc.map (·.id) := by
        unfold takeN
        split
        · rename_i h8
          exact ⟨h8, fun a ha => ha⟩
        · rw [List.map_append]
          exact ⟨List.mem_append.2 (.inr (by simp)), fun a ha => List.mem_append.2 (.inl ha)⟩
      rw [e]
      obtain ⟨h1, h2, h3, h4, h5, h6, h7⟩ := fold_fly D (handN (takeN N m) (ackM m)) ids (hand_fates ht)
      rw [hfl] at h1 h2
      rw [hac] at h3
      refine ⟨fun x hx => ?_, fun x hx => h2 x (by simp [hx]), fun a ha => h3 a (htm.2 a ha), h4, fun y hy hya => ?_, fun y hy hya => ?_, h7⟩
      · rcases h1 x hx with h8 | ⟨y, hy, h8⟩
        · rcases List.mem_append.1 h8 with h9 | h9
          · exact .inl h9
          · rw [List.mem_singleton] at h9
            subst h9
            exact .inr ⟨m, by simp, haf, rfl, rfl, rfl⟩
        · exact .inr ⟨y, by simp [hy], h8⟩
      · rcases List.mem_cons.1 hy with rfl | h8
        · exact ⟨h3 _ htm.1, _, h2 _ (List.mem_append.2 (.inr (List.mem_singleton.2 rfl))), rfl, rfl, rfl⟩
        · exact h5 y h8 hya
      · rcases List.mem_cons.1 hy with rfl | h8
        · exact absurd hya ha
        · exact h6 y h8 hya
/-- t ticks behind a Calm. -/
structure CB (t : Int) (N : Net) : Prop where
  fates : N.fates = []
  ntc : ∀ m ∈ N.fly, m.ack = false → m.left ≤ 9 - t
  ack : ∀ m ∈ N.fly, m.ack = true → m.left ≤ 10 - t
theorem mem_due {fs : List Mf} {m : Mf} (h : m ∈ fs) (hl : m.left = 1) : decM m ∈ dueL fs := by
  unfold dueL
  rw [List.mem_filter]
  refine ⟨List.mem_map.2 ⟨m, h, rfl⟩, ?_⟩
  simp [decM, hl]
theorem cb_tick {S : Int → List Int → Prop} {t : Int} {N : Net} (h : CB t N) (ho : OI S N) : CB (t + 1) (tickN N).1 ∧
    (∀ m ∈ N.fly, m.ack = false → m.left = 1 → m.id ∈ (tickN N).1.acc.map (·.id) ∧ ∃ x ∈ (tickN N).1.fly, x.ack = true ∧ x.left = 1 ∧ x.id = m.id) ∧ (∀ m ∈ N.fly, m.ack = true → m.left = 1 → m.id ∈ (tickN N).2) := by
  obtain ⟨h1, h2, h3, h4, h5, h6, h7⟩ := fold_fly (dueL N.fly) { N with now := N.now + 1, fly := restL N.fly } [] h.fates
  refine ⟨⟨h7, fun m hm ha => ?_, fun m hm ha => ?_⟩, fun m hm ha hl => h5 (decM m) (mem_due hm hl) ha, fun m hm ha hl => h6 (decM m) (mem_due hm hl) ha⟩
  · rcases h1 m hm with h8 | ⟨y, hy, h8⟩
    · obtain ⟨m0, h9, rfl, _⟩ := mem_restL h8
      have := h.ntc m0 h9 ha
      show m0.left - 1 ≤ _
      omega
    · rw [h8.2.1] at ha; cases ha
  · rcases h1 m hm with h8 | ⟨y, hy, h8, h9, h10, h11⟩
    · obtain ⟨m0, h9, rfl, _⟩ := mem_restL h8
      have := h.ack m0 h9 ha
      show m0.left - 1 ≤ _
      omega
    · obtain ⟨m0, h12, rfl, h13⟩ := mem_dueL hy
      have h14 := h.ntc m0 h12 h8
      have h15 : m0.left - 1 = 0 := h13
      omega
theorem cb_end {S : Int → List Int → Prop} {N : Net} (h : CB 10 N) (ho : OI S N) : N.fly = [] := by
  cases hf : N.fly with
  | nil => rfl
  | cons m l =>
    have hm : m ∈ N.fly := by rw [hf]; simp
    have h1 := ho.left m hm
    cases ha : m.ack with
    | true => have := h.ack m hm ha; omega
    | false => have := h.ntc m hm ha; omega
theorem has_t (A : Option Addr) (c n : Nat) (xs : List Int) (a : Int) (w : World) (hr : RC w A (ints xs)) (hn : xs.length = n) (hl : n ≤ 9223372036854775807) (h : a ∈ xs) :
    Calls Try.prog 27 #[.slice A n c, .int .i64 a] w fun e w' => e = .returned (.bool true) ∧ Evt (fun _ => False) w w' := by
  refine (has_any A c n xs a w hr hn hl).mono ?_
  rintro e w' ⟨rfl, he⟩
  exact ⟨by rw [decide_eq_true h], he⟩
theorem tick_idl (N : Net) : (tickN N).2.length ≤ pot N := play_ids (o := ⟨4, false, ⟨#[]⟩, 0, false, [], none, 0⟩) (N' := (tickN N).1) (.inr (.inr (.inr (.inl ⟨rfl, rfl⟩))))
end Go.Proofs.Ytmngcpackbekiaa
