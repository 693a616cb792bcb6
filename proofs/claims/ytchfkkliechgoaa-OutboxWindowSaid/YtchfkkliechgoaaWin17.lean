/- OutboxWindow, the plain law: in a cap's rounds each notice is sent. SHORT NORMX -/
import Derived.Test.YtchfkkliechgoaaTwo17
import Derived.Test.YtchfkkliechgoaaLiv17
namespace Go.Proofs.Ytchfkkliechgoaa
open Go.RowKit Go.Proofs.YtchfkkliechgoaaE
set_option linter.unusedSimpArgs false
set_option linter.unusedVariables false
set_option maxRecDepth 4000

theorem cap_rng {p : Pol} (h : goodP p = true) : 1 ≤ p.retryCap ∧ p.retryCap ≤ 64 := by
  have h1 := (good_fine h).retryBase
  have h2 := (good_fine h).retryCap
  omega
theorem du_nxt {p : Pol} (hg : goodP p = true) {t : Int} {e : Ep} (h : e.nxt ≤ t + p.retryCap) : (duP p t e).nxt ≤ t + p.retryCap := by
  unfold duP
  split
  · have hb : backP p (e.att + 1) ≤ p.retryCap := by
      simp only [backP, hg, if_true]
      omega
    show laterP t (backP p (e.att + 1)) ≤ _
    unfold laterP
    split <;> omega
  · exact h
theorem tickP_ge (now wait : Int) : now ≤ tickP now wait := by
  unfold tickP
  split <;> omega
theorem live_nxt {p : Pol} (hg : goodP p = true) {s : List Ep × Int} {o : Sm} (h : ∀ e ∈ s.1, e.nxt ≤ s.2 + p.retryCap) : ∀ e ∈ (liveP p s o).1, e.nxt ≤ (liveP p s o).2 + p.retryCap := by
  have ht := tickP_ge s.2 o.wait
  have hc := cap_rng hg
  have h' : ∀ e ∈ s.1, e.nxt ≤ tickP s.2 o.wait + p.retryCap := fun e he => by
    have := h e he
    omega
  unfold liveP
  show ∀ e ∈ (if o.kind = 1 then _ else _), _
  split
  · unfold addP
    split
    · exact h'
    · split
      · exact h'
      · intro e he
        rcases List.mem_append.1 he with h1 | h1
        · exact h' e (List.mem_filter.1 h1).1
        · rcases List.mem_cons.1 h1 with rfl | h1
          · show tickP s.2 o.wait ≤ _
            omega
          · exact h' e (List.mem_filter.1 h1).1
  · split
    · intro e he
      exact h' e (List.mem_filter.1 he).1
    · split
      · intro e he
        obtain ⟨x, hx, rfl⟩ := List.mem_map.1 he
        exact du_nxt hg (h' x hx)
      · exact h'
theorem lives_nxt {p : Pol} (hg : goodP p = true) (life : List Sm) : ∀ e ∈ (livesP p life).1, e.nxt ≤ (livesP p life).2 + p.retryCap := by
  unfold livesP
  suffices H : ∀ (l : List Sm) (s : List Ep × Int), (∀ e ∈ s.1, e.nxt ≤ s.2 + p.retryCap) → ∀ e ∈ (l.foldl (liveP p) s).1, e.nxt ≤ (l.foldl (liveP p) s).2 + p.retryCap from H _ _ (by simp)
  intro l
  induction l with
  | nil => intro s h; exact h
  | cons x l ih => intro s h; exact ih _ (live_nxt hg h)
/-- What was seen, behind the packets of some numbers. -/
def bumpP (ids s done : List Int) : List Int := List.zipWith (fun i x => if i ∈ done then x + 1 else x) ids s
theorem bump_len {ids s done : List Int} (h : s.length = ids.length) : (bumpP ids s done).length = ids.length := by
  rw [bumpP, List.length_zipWith]
  omega
theorem bump_get {ids s done : List Int} {j : Nat} : (bumpP ids s done)[j]? = (ids[j]?).bind fun i => (s[j]?).map fun x => if i ∈ done then x + 1 else x := by
  rw [bumpP, List.getElem?_zipWith]
  cases ids[j]? <;> cases s[j]? <;> rfl
theorem bump_nil {ids s : List Int} (h : s.length = ids.length) : bumpP ids s [] = s := by
  refine List.ext_getElem? fun j => ?_
  rw [bump_get]
  cases hi : ids[j]? with
  | none =>
    rw [List.getElem?_eq_none_iff] at hi
    rw [List.getElem?_eq_none (by omega)]
    rfl
  | some i => cases s[j]? <;> simp
theorem bump_snoc {ids s done : List Int} {id : Int} {i0 : Nat} (hp : ids.Pairwise (· < ·)) (hl : s.length = ids.length) (hi : ids[i0]? = some id) (hn : id ∉ done) :
    ∃ x, s[i0]? = some x ∧ (bumpP ids s done)[i0]? = some x ∧ (bumpP ids s done).set i0 (x + 1) = bumpP ids s (done ++ [id]) := by
  have hil := (List.getElem?_eq_some_iff.1 hi).1
  have hx : s[i0]? = some (s[i0]'(by omega)) := List.getElem?_eq_getElem (by omega)
  have hb : (bumpP ids s done)[i0]? = some (s[i0]'(by omega)) := by
    rw [bump_get, hi, hx]
    simp [hn]
  refine ⟨_, hx, hb, List.ext_getElem? fun j => ?_⟩
  rw [List.getElem?_set]
  by_cases hj : i0 = j
  · subst hj
    rw [if_pos rfl, if_pos (by rw [bump_len hl]; exact hil), bump_get, hi, hx]
    simp
  · rw [if_neg hj, bump_get, bump_get]
    cases hij : ids[j]? with
    | none => rfl
    | some i =>
      have hjl := (List.getElem?_eq_some_iff.1 hij).1
      have hne : i ≠ id := by
        have e1 := (List.getElem?_eq_some_iff.1 hi).2
        have e2 := (List.getElem?_eq_some_iff.1 hij).2
        rw [List.pairwise_iff_getElem] at hp
        rcases Nat.lt_or_gt_of_ne hj with h | h
        · have := hp _ _ hil hjl h
          omega
        · have := hp _ _ hjl hil h
          omega
      simp [hne]
/-- Where the window stands behind k rounds. -/
def WinP (p : Pol) (now : Int) (k : Nat) (l : List Ep) (s : List Int) : Prop := s.length = l.length ∧ ∀ (j : Nat) (e : Ep) (x : Int), l[j]? = some e → s[j]? = some x → 0 ≤ x ∧ x ≤ k ∧ (1 ≤ x ∨ (e.nxt ≤ now + p.retryCap ∧ (k = 0 ∨ now + k < e.nxt)))
theorem win_zero {p : Pol} {now : Int} {l : List Ep} {n : Nat} (hn : n = l.length) (h : ∀ e ∈ l, e.nxt ≤ now + p.retryCap) : WinP p now 0 l (List.replicate n 0) := by
  subst hn
  refine ⟨by simp, fun j e x h1 h2 => ?_⟩
  have h3 : x = 0 := by
    have h4 := List.mem_of_getElem? h2
    exact (List.mem_replicate.1 h4).2
  subst h3
  exact ⟨by omega, by omega, .inr ⟨h e (List.mem_of_getElem? h1), .inl rfl⟩⟩
theorem due_ids {l : List Ep} {t : Int} (hp : l.Pairwise fun a b => a.id < b.id) {e : Ep} {j : Nat} (h : l[j]? = some e) : e.id ∈ (duePk t l).map (·.1) ↔ e.nxt ≤ t := by
  rw [duePk, List.map_map, List.mem_map]
  constructor
  · rintro ⟨x, hx, hxe⟩
    obtain ⟨h1, h2⟩ := List.mem_filter.1 hx
    have hxe' : x.id = e.id := hxe
    obtain ⟨i, hi, rfl⟩ := List.mem_iff_getElem.1 h1
    obtain ⟨hj, rfl⟩ := List.getElem?_eq_some_iff.1 h
    rw [List.pairwise_iff_getElem] at hp
    have : i = j := by
      rcases Nat.lt_trichotomy i j with h | h | h
      · have := hp _ _ hi hj h
        omega
      · exact h
      · have := hp _ _ hj hi h
        omega
    subst this
    exact of_decide_eq_true h2
  · intro h1
    exact ⟨e, List.mem_filter.2 ⟨List.mem_of_getElem? h, decide_eq_true h1⟩, rfl⟩
theorem win_step {p : Pol} {now : Int} {k : Nat} {l : List Ep} {s : List Int} (hp : l.Pairwise fun a b => a.id < b.id) (h : WinP p now k l s) :
    WinP p now (k + 1) (l.map (duP p (now + ((k : Int) + 1)))) (bumpP (idsP l) s ((duePk (now + ((k : Int) + 1)) l).map (·.1))) := by
  have hil : (idsP l).length = l.length := List.length_map _
  refine ⟨by rw [bump_len (by rw [hil, h.1]), hil, List.length_map], fun j e x h1 h2 => ?_⟩
  rw [List.getElem?_map] at h1
  cases hl : l[j]? with
  | none => rw [hl] at h1; cases h1
  | some e0 =>
    rw [hl] at h1
    simp only [Option.map_some, Option.some.injEq] at h1
    subst h1
    have hj := (List.getElem?_eq_some_iff.1 hl).1
    have hsx : s[j]? = some (s[j]'(by rw [h.1]; exact hj)) := List.getElem?_eq_getElem (by rw [h.1]; exact hj)
    have h3 := h.2 j e0 _ hl hsx
    have hid : (idsP l)[j]? = some e0.id := by rw [idsP, List.getElem?_map, hl]; rfl
    rw [bump_get, hid, hsx] at h2
    simp only [Option.bind_some, Option.map_some, Option.some.injEq] at h2
    have h4 := due_ids (t := now + ((k : Int) + 1)) hp hl
    by_cases hd : e0.nxt ≤ now + ((k : Int) + 1)
    · rw [if_pos (h4.2 hd)] at h2
      refine ⟨by omega, by omega, .inl (by omega)⟩
    · rw [if_neg (fun hh => hd (h4.1 hh))] at h2
      have h5 : duP p (now + ((k : Int) + 1)) e0 = e0 := if_neg hd
      rw [h5]
      refine ⟨by omega, by omega, ?_⟩
      rcases h3.2.2 with h6 | h6
      · exact .inl (by omega)
      · exact .inr ⟨h6.1, .inr (by omega)⟩
theorem win_end {p : Pol} {now : Int} {k : Nat} {l : List Ep} {s : List Int} (hg : goodP p = true) (h : WinP p now k l s) (hk : (k : Int) = p.retryCap) : ∀ x ∈ s, 1 ≤ x := by
  intro x hx
  obtain ⟨j, hj, rfl⟩ := List.mem_iff_getElem.1 hx
  have h1 := h.2 j (l[j]'(by rw [← h.1]; exact hj)) _ (List.getElem?_eq_getElem _) (List.getElem?_eq_getElem hj)
  have h2 := cap_rng hg
  omega
def pairP (l : List Ep) : List (Int × List Int) := l.map fun e => (e.id, e.body)
theorem pair_du {p : Pol} {t : Int} {l : List Ep} : pairP (l.map (duP p t)) = pairP l := by
  rw [pairP, pairP, List.map_map]
  refine List.map_congr_left fun e _ => ?_
  simp only [Function.comp, duP_id, duP_body]
theorem pair_ids {l : List Ep} : idsP l = (pairP l).map (·.1) := by
  rw [idsP, pairP, List.map_map]
  rfl
theorem due_sub (t : Int) (l : List Ep) : List.Sublist (duePk t l) (pairP l) := (List.filter_sublist).map _
theorem pair_lt {l : List Ep} (h : l.Pairwise fun a b => a.id < b.id) : (pairP l).Pairwise fun a b => a.1 < b.1 := List.pairwise_map.2 h
/-- One packet of a round: it is of a held notice, and the numbers rise. -/
theorem pk_held {ks : List Pk} {hs : List Nt} {l : List Ep} {t : Int} (hk : ks.map pkP = duePk t l) (hh : pairP l = pairP (hs.map ntP)) (hp : l.Pairwise fun a b => a.id < b.id) {i : Nat} (hi : i < ks.length) :
    ks[i].id ∈ hs.map (·.id) ∧ (∀ (j : Nat) (hj : j < hs.length), hs[j].id = ks[i].id → ks[i].b.body = hs[j].b.body) ∧ ks[i].id ∉ (ks.take i).map (·.id) ∧ (∀ i' (hi' : i' < ks.length), i' < i → ks[i'].id < ks[i].id) := by
  have hlt := pair_lt hp
  have hsub := due_sub t l
  rw [← hk] at hsub
  have hmem : pkP ks[i] ∈ pairP (hs.map ntP) := by
    rw [← hh]
    exact hsub.subset (List.mem_map.2 ⟨_, List.getElem_mem hi, rfl⟩)
  have hkp : (ks.map pkP).Pairwise fun a b => a.1 < b.1 := hlt.sublist hsub
  rw [List.pairwise_map, List.pairwise_iff_getElem] at hkp
  refine ⟨?_, fun j hj he => ?_, fun hm => ?_, fun i' hi' h => hkp _ _ hi' hi h⟩
  · obtain ⟨x, hx, hxe⟩ := List.mem_map.1 hmem
    obtain ⟨y, hy, rfl⟩ := List.mem_map.1 hx
    exact List.mem_map.2 ⟨y, hy, congrArg Prod.fst hxe⟩
  · rw [hh] at hlt
    obtain ⟨j2, hj2, he2⟩ := List.mem_iff_getElem.1 hmem
    have hj2' : j2 < hs.length := by simpa [pairP] using hj2
    have hj' : j < (pairP (hs.map ntP)).length := by simpa [pairP] using hj
    have e3 : (pairP (hs.map ntP))[j] = (hs[j].id, hs[j].b.body) := by simp [pairP, ntP]
    have e4 : (pairP (hs.map ntP))[j2] = (ks[i].id, ks[i].b.body) := he2
    rw [List.pairwise_iff_getElem] at hlt
    have hjj : j = j2 := by
      rcases Nat.lt_trichotomy j j2 with h | h | h
      · have := hlt _ _ hj' hj2 h
        rw [e3, e4] at this
        simp only [] at this
        omega
      · exact h
      · have := hlt _ _ hj2 hj' h
        rw [e3, e4] at this
        simp only [] at this
        omega
    subst hjj
    rw [e3] at e4
    exact (congrArg Prod.snd e4).symm
  · obtain ⟨x, hx, hxe⟩ := List.mem_map.1 hm
    obtain ⟨i', hi', rfl⟩ := List.mem_iff_getElem.1 hx
    rw [List.length_take] at hi'
    rw [List.getElem_take] at hxe
    have := hkp i' i (by omega) hi (by omega)
    have h' : (pkP ks[i']).1 < (pkP ks[i]).1 := this
    have h1 : (pkP ks[i']).1 = ks[i'].id := rfl
    have h2 : (pkP ks[i]).1 = ks[i].id := rfl
    omega
/-- A box in its own footprint. -/
def NBF (F : Nat → Prop) (w : World) (gb n : Nat) (p : Pol) (l : List Ep) : Prop := ∃ L, BoxAt w F gb p n L ∧ L.map pur = l ∧ L.length ≤ n
theorem NBF.nb {F : Nat → Prop} {w0 w : World} {gb n : Nat} {p : Pol} {l : List Ep} (h : NBF F w gb n p l) (hF : ∀ k, F k → w0.heap.size ≤ k) : NB w0 w gb n p l := by
  obtain ⟨L, h1, h2, h3⟩ := h
  exact ⟨F, L, h1, h2, h3, hF⟩
theorem NBF.evt {F S : Nat → Prop} {w w' : World} {gb n : Nat} {p : Pol} {l : List Ep} (h : NBF F w gb n p l) (he : Evt S w w') (hs : ∀ k, F k → ¬ S k) : NBF F w' gb n p l := by
  obtain ⟨L, h1, h2, h3⟩ := h
  have hb := h1.lt
  exact ⟨L, h1.evt he hs (fun _ h => h) (fun k hk => Nat.lt_of_lt_of_le (hb k hk) he.size), h2, h3⟩
theorem NBF.up {F : Nat → Prop} {w w' : World} {gb n : Nat} {p : Pol} {l : List Ep} (h : NBF F w gb n p l) (he : Evt (fun _ => False) w w') : NBF F w' gb n p l := h.evt he (fun _ _ h => h)
/-- Pending, handed out in blocks of its own. -/
theorem pend_F (w0 w : World) (gb n : Nat) (p : Pol) (l : List Ep) (h0 : NB w0 w gb n p l) (hn : n < 1000000000000) :
    Calls Try.prog 20 #[.pointer (some ⟨gb, 0, none⟩)] w fun e w' => ∃ V d ks F, e = .returned (.slice V (ks : List Nt).length d) ∧ NBF F w' gb n p l ∧ (∀ k, F k → w0.heap.size ≤ k ∧ k < w.heap.size) ∧ ks.map ntP = l ∧ (∀ w'', Evt (fun k => k < w.heap.size ∨ w'.heap.size ≤ k) w' w'' → NtAt w'' V ks) ∧ (∀ k ∈ ks, k.b.body.length ≤ 9223372036854775807) ∧ ks.length ≤ n ∧ Evt (fun _ => False) w w' := by
  obtain ⟨F, L, h1, rfl, h3, h4⟩ := h0
  have hb := h1.lt
  refine (pending_any w F gb n p L h1 (by omega)).mono ?_
  rintro e w' ⟨V, d, ks, rfl, h5, h6, h7, h8, h9⟩
  have hlen : ks.length ≤ n := by
    have h11 := congrArg List.length h5
    rw [List.length_map, List.length_map] at h11
    omega
  refine ⟨V, d, ks, F, rfl, ⟨L, h1.up h9, rfl, h3⟩, fun k hk => ⟨h4 k hk, hb k hk⟩, h5, fun w'' he => ?_, fun k hk => h8.len _ (List.mem_map.2 ⟨k, hk, rfl⟩), hlen, h9⟩
  exact ntAt_own (lo := 0) (own_evt he h6 (fun k hk hh => by have h1 := h7 k hk; rcases hh with hh | hh; omega; have := own_lt h6 k hk; omega)) (h8.evt he (fun k cur h1 h2 hh => by rcases hh with hh | hh; omega; have := h1.lt; omega) (Nat.zero_le _))
theorem due_F (F : Nat → Prop) (w : World) (gb n : Nat) (p : Pol) (l : List Ep) (now : Int) (h0 : NBF F w gb n p l) (hn : n < 1000000000000) (hnow : -9223372036854775808 ≤ now ∧ now ≤ 9223372036854775807) :
    Calls Try.prog 18 #[.pointer (some ⟨gb, 0, none⟩), .int .i64 now] w fun e w' => ∃ V d ks, e = .returned (.slice V (ks : List Pk).length d) ∧ NBF F w' gb (n + 1) p (l.map (duP p now)) ∧ ks.map pkP = duePk now l ∧ (∀ w'', Evt (fun k => k < w.heap.size) w' w'' → PkAt w'' V ks) ∧ (∀ k ∈ ks, k.b.body.length ≤ 9223372036854775807) ∧ ks.length ≤ n ∧ Evt F w w' := by
  obtain ⟨L, a, rfl, d⟩ := h0
  refine (due_any w F gb n p L now a (by omega) hn hnow).mono ?_
  rintro x w' ⟨V, dd, ks, rfl, h5, h6, h7, h8, h9, h10⟩
  have hlen : ks.length ≤ n := by
    have h11 := congrArg List.length h6
    rw [List.length_map] at h11
    have h12 := dueL_len now L
    omega
  refine ⟨V, dd, ks, rfl, ⟨_, h5, due_pur p now L, by rw [List.length_map]; omega⟩, by rw [h6, dueL_pur]; rfl, fun w'' he => ?_, fun k hk => h9.len _ (List.mem_map.2 ⟨k, hk, rfl⟩), hlen, h10⟩
  exact pkAt_own (lo := 0) (own_evt he h7 (fun k hk hh => by have h1 := h8 k hk; have h' : k < w.heap.size := hh; omega)) (h9.evt he (fun k cur _ hk hh => by have h' : k < w.heap.size := hh; omega) (Nat.zero_le _))
end Go.Proofs.Ytchfkkliechgoaa
