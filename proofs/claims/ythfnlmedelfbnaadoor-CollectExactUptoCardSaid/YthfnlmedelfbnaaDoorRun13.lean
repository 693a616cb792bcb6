/- Run: its plain law, its walk; fresh; ahead. -/
import Derived.Test.YthfnlmedelfbnaaDoorEvr13
import Derived.Test.YthfnlmedelfbnaaDoorInv13d
namespace Go.Proofs.YthfnlmedelfbnaaDoor
open Go.RowKit Go.Proofs.YthfnlmedelfbnaaDoorE
set_option linter.unusedSimpArgs false
set_option linter.unusedVariables false

/-- Events, one after the other: the case, all the actions. -/
def runP (p : Pol) (k : Cas) (es : List Evn) : Cas × List Int := es.foldl (fun s e => ((stepP p s.1 e).1, s.2 ++ (stepP p s.1 e).2.1)) (k, [])
theorem runP_snoc (p : Pol) (k : Cas) (es : List Evn) (e : Evn) : runP p k (es ++ [e]) = ((stepP p (runP p k es).1 e).1, (runP p k es).2 ++ (stepP p (runP p k es).1 e).2.1) := by simp [runP, List.foldl_append]
theorem run_from (p : Pol) (es : List Evn) : ∀ (k : Cas) (l : List Int), es.foldl (fun s e => ((stepP p s.1 e).1, s.2 ++ (stepP p s.1 e).2.1)) (k, l) = ((runP p k es).1, l ++ (runP p k es).2) := by
  induction es with
  | nil => intro k l; simp [runP]
  | cons e es ih =>
    intro k l
    simp only [runP, List.foldl_cons]
    rw [ih, ih]
    simp
theorem runP_append (p : Pol) (k : Cas) (es fs : List Evn) : runP p k (es ++ fs) = ((runP p (runP p k es).1 fs).1, (runP p k es).2 ++ (runP p (runP p k es).1 fs).2) := by
  rw [runP, List.foldl_append]
  have h : es.foldl (fun s e => ((stepP p s.1 e).1, s.2 ++ (stepP p s.1 e).2.1)) (k, []) = runP p k es := rfl
  rw [h]
  rw [show runP p k es = ((runP p k es).1, (runP p k es).2) from rfl, run_from]
theorem runP_take {p : Pol} {k : Cas} {es : List Evn} {i : Nat} (h : i < es.length) : runP p k (es.take (i + 1)) = ((stepP p (runP p k (es.take i)).1 es[i]).1, (runP p k (es.take i)).2 ++ (stepP p (runP p k (es.take i)).1 es[i]).2.1) := by
  rw [List.take_succ_eq_append_getElem h, runP_snoc]
theorem step_len (p : Pol) (k : Cas) (e : Evn) : (stepP p k e).2.1.length ≤ 4 := by
  have ha : (ageP p k e).2.length ≤ 4 := by
    have h1 : (age1 k e).2.length ≤ 1 := by unfold age1; split <;> simp
    have h2 : (age2 p k e).2.length ≤ 2 := by
      unfold age2
      split
      · omega
      · have := quiet_len p (age1 k e).1 e (age1 k e).2
        omega
    have h3 : ∀ (K : Cas) (l : List Int), (susP p K e l).2.length ≤ l.length + 1 := by intro K l; unfold susP; split <;> simp
    have h4 : ∀ (K : Cas) (l : List Int), (dueP K e l).2.length ≤ l.length + 1 := by intro K l; unfold dueP; split <;> simp
    unfold ageP
    split
    · simp; omega
    · split
      · omega
      · have := h3 (age2 p k e).1 (age2 p k e).2
        have := h4 (susP p (age2 p k e).1 e (age2 p k e).2).1 (susP p (age2 p k e).1 e (age2 p k e).2).2
        omega
  have hb : (paidP p k e).2.length ≤ 4 := by
    have h1 : (paid1 k e).2.length ≤ 1 := by unfold paid1; repeat' split
                                             all_goals simp
    unfold paidP
    split
    · omega
    · split
      · simp; omega
      · split
        · simp; omega
        · omega
  unfold stepP
  split
  · simp
  split
  · simp
  split
  · simp
  simp only []
  unfold resK
  split
  · exact ha
  split
  · exact hb
  split
  · simp only [retP]; repeat' split
    all_goals simp
  split
  · simp [promP]
  split
  · simp [restP]
  split
  · simp [feeP]
  unfold closeP
  repeat' split
  all_goals simp
theorem run_len (p : Pol) (es : List Evn) : ∀ (k : Cas), (runP p k es).2.length ≤ 4 * es.length := by
  induction es with
  | nil => intro k; simp [runP]
  | cons e es ih =>
    intro k
    have h := runP_append p k [e] es
    rw [List.singleton_append] at h
    rw [h]
    have h1 : (runP p k [e]).2 = (stepP p k e).2.1 := by simp [runP]
    have h2 := step_len p k e
    have h3 := ih (runP p k [e]).1
    simp only [List.length_append, List.length_cons, h1]
    omega
theorem run_ok {p : Pol} (hp : p.fine) (hg : goodP p = true) (es : List Evn) (hv : ∀ e ∈ es, e.wf) (hl : es.length ≤ 9000000000000000000) : ∀ i, i ≤ es.length → CasOk p i (runP p freshC (es.take i)).1 := by
  intro i
  induction i with
  | zero => intro _; exact ok_fresh hp
  | succ i ih =>
    intro hi
    rw [runP_take (by omega)]
    have h := (inv_step (p := p) (N := i) (k := (runP p freshC (es.take i)).1) (e := es[i]'(by omega)) ⟨fun _ => ih (by omega), fun h => by rw [hg] at h; cases h⟩ (hv _ (List.getElem_mem _)) (by omega)).1.1 hg
    exact h
/-- The events of a part. -/
theorem RE.take {w : World} {A : Option Addr} {es : List Evn} (h : RE w A es) (k : Nat) : RE w A (es.take k) := by
  have hl : (es.take k).length ≤ es.length := by rw [List.length_take]; omega
  refine ⟨by have := h.1; omega, fun hn => ?_⟩
  obtain ⟨b, o, rfl, hc⟩ := h.2 (by omega)
  refine ⟨b, o, rfl, fun j e hj => hc j e ?_⟩
  rw [List.getElem?_take] at hj
  split at hj
  · exact hj
  · cases hj

set_option maxHeartbeats 4000000 in
theorem run_any (p : Pol) (A : Option Addr) (c : Nat) (k : Cas) (B : Option Addr) (es : List Evn) (d0 : Nat) (w : World) (hr : RI w A p.hs) (hs : RE w B es) (hv : ∀ e ∈ es, e.wf) (hsz2 : es.length * 32 ≤ 140737488351232) :
    Calls Tryd.prog 15 #[.agg (polC p A c).toArray, .agg (casC k).toArray, .slice B es.length d0] w fun e w' => ∃ V d, e = .returned (.tuple #[.agg (casC (runP p k es).1).toArray, .slice V (runP p k es).2.length d]) ∧ OwnI w w' (.slice V (runP p k es).2.length d) (runP p k es).2 ∧ Evt (fun _ => False) w w' := by
  have hl1 := hs.1
  go_enter Tryd.func15, Tryd.ntmps15
  repeat' (first | (with_reducible (first | refine' wp_seq ?_ | refine' wp_region_lit ?_ | refine' wpList_nil ?_ | refine' then_normal ?_ | refine' wp_block ?_)) | ((with_reducible refine' l_step ?_); ((first | (with_reducible refine' g_move ?_) | (with_reducible refine' g_assign ?_) | ((with_reducible refine' g_lenS ?hx ?_); (case hx => rfl))); (conv => arg 5; simp only [zA, zB, ev, lget, zC, zD, zE, zF, zG, zH, zI, zJ, zK, zL, zM, zN]))) | ((first | ((with_reducible refine' e_boxA ?hx ?_); (case hx => rfl)) | ((with_reducible refine' e_alloc ?hx ?_); (case hx => rfl))); intro _ _ _ _ _ _ _; (conv => arg 5; simp only [zA, zB, ev, lget, zC, zD, zE, zF, zG, zH, zI, zJ, zK, zL, zM, zN])))
  rename_i gq wq q1 q2 hgq hevq hzq gc wc c1 c2 hgc0 hevc hzc gr wr r1 r2 hgr hevr hzr
  have hlq := hgq.lt
  have hlc := hgc0.lt
  have hgqS : Blk wr gq 24 (polC p A c) := by (first | assumption | exact be (h := by first | assumption | exact be (h := by first | assumption | exact be (h := by first | assumption | exact be (h := by first | assumption | exact be (h := by first | assumption | exact be (h := by first | assumption | exact be (h := by first | assumption | exact be (h := by first | assumption | exact be (h := by first | assumption | exact be (h := by first | assumption)))))))))))
  have hgcS : Blk wr gc 27 (casC k) := by (first | assumption | exact be (h := by first | assumption | exact be (h := by first | assumption | exact be (h := by first | assumption | exact be (h := by first | assumption | exact be (h := by first | assumption | exact be (h := by first | assumption | exact be (h := by first | assumption | exact be (h := by first | assumption | exact be (h := by first | assumption | exact be (h := by first | assumption)))))))))))
  have hevS0 : Evt (fun _ => False) w wr := by (repeat (first | assumption | exact Evt.refl _ _ | (refine Evt.next (by assumption) ?_ ?hs; (case hs => first | exact fun _ _ h => h | exact fun _ _ h => False.elim h | exact fun _ _ h => Or.inl h | exact fun _ _ h => Or.inr h | exact Wr.rel (by assumption) | (intro i hi h; exfalso; have h' : i = _ := h; omega) | (intro i hi h; exfalso; have h' := hlb i h; omega)))))
  clear hevq hevc hevr hgq hgc0
  refine' s_loop [8, 10, 11, 14, 15, 16, 17, 18, 19, 20, 21, 22, 23, 24, 25, 26, 27, 28, 29] (fun n u w' => ∃ (i : Nat) (V : Option Addr) (d : Nat), n = es.length - i ∧ i ≤ es.length ∧ u 14 = .int .i64 i ∧ u 8 = .slice V (runP p k (es.take i)).2.length d ∧ w'.ownsRow 0 3 1 (.slice V (runP p k (es.take i)).2.length d) (runP p k (es.take i)).2.length (ints (runP p k (es.take i)).2) ∧
    (∀ j, (Value.slice V (runP p k (es.take i)).2.length d).ownBlock = some j → wr.heap.size ≤ j) ∧ Blk w' gc 27 (casC (runP p k (es.take i)).1) ∧ Evt (fun j => j = gc) wr w') es.length ?h0 ?round
  case h0 => exact ⟨0, none, 0, rfl, by omega, rfl, rfl, World.ownsRow_nil _ _ _ _, by simp [Value.ownBlock], hgcS, Evt.refl _ _⟩
  case round =>
    rintro n u w3 ⟨i, V, d, rfl, hi, h14, h8, hown, hlb, hgc3, hev3⟩
    simp only [setW, List.foldl_cons, List.foldl_nil, List.set_cons_succ, List.set_cons_zero]
    simp only [h14, h8]
    have hz3 := hev3.size
    have hgq3 : Blk w3 gq 24 (polC p A c) := hgqS.evt hev3 (by omega)
    have hev03 : Evt (fun _ => False) w w3 := Evt.next hev3 hevS0 (by intro i hi h; exfalso; have h' : i = _ := h; omega)
    by_cases hlt : i < es.length
    · have hnx := runP_take (p := p) (k := k) hlt
      have hrl := run_len p (es.take i) k
      have htl : (es.take i).length = i := by rw [List.length_take]; omega
      obtain ⟨b, o, rfl, hcellE⟩ := hs.at_gc (gc := gc) hev03 (by omega) hlt
      have hvi := hv es[i] (List.getElem_mem hlt)
      generalize runP p k (es.take i) = R at *
      obtain ⟨K, all⟩ := R
      simp only [] at hnx hrl hown hlb hgc3
      generalize es[i] = ei at *
      have hsl := step_len p K ei
      clear hgqS hgcS hevS0
      repeat' (first | (go_at_call 20; refine (step_any p A c K ei _ (hr.up (by (repeat (first | assumption | exact Evt.refl _ _ | (refine Evt.next (by assumption) ?_ ?hs; (case hs => first | exact fun _ _ h => h | exact fun _ _ h => False.elim h | exact fun _ _ h => Or.inl h | exact fun _ _ h => Or.inr h | exact Wr.rel (by assumption) | (intro i hi h; exfalso; have h' : i = _ := h; omega) | (intro i hi h; exfalso; have h' := hlb i h; omega))))))) hvi).mono ?_; rintro e w4 ⟨v4, rfl, hown4, hev4⟩; have hz4 := hev4.size; have hrow4 := hown4.row; have hnewO := hown4.new; have hltO := own_lt hrow4; obtain ⟨V4, d4, rfl⟩ := own_slice hrow4; refine ⟨_, rfl, ?_⟩; (conv => arg 5; simp only [zA, zB, ev, lget, zC, zD, zE, zF, zG, zH, zI, zJ, zK, zL, zM, zN])) | (with_reducible (first | refine' wp_seq ?_ | refine' wp_region_lit ?_ | refine' wpList_nil ?_ | refine' then_normal ?_ | refine' wp_block ?_ | refine' wp_skip ?_)) | ((with_reducible refine' c_condT ?hx ?_); (case hx => rfl)) | ((with_reducible refine' l_step ?_); (first | ((first | (with_reducible refine' g_move ?_) | (with_reducible refine' g_assign ?_) | ((with_reducible refine' g_loadS ?hx ?hb ?hn ?_); (case hx => rfl); (case hb => (first | assumption | exact be (h := by first | assumption | exact be (h := by first | assumption | exact be (h := by first | assumption | exact be (h := by first | assumption | exact be (h := by first | assumption | exact be (h := by first | assumption | exact be (h := by first | assumption | exact be (h := by first | assumption | exact be (h := by first | assumption | exact be (h := by first | assumption)))))))))))); first | (case hc => rfl) | (case hn => simp only [List.length_cons, List.length_nil]; omega)) | ((with_reducible refine' g_loadR ?hx ?hn ?hc ?_); (case hx => rfl); (case hc => exact hcellE _ (by (repeat (first | assumption | exact Evt.refl _ _ | (refine Evt.next (by assumption) ?_ ?hs; (case hs => first | exact fun _ _ h => h | exact fun _ _ h => False.elim h | exact fun _ _ h => Or.inl h | exact fun _ _ h => Or.inr h | exact Wr.rel (by assumption) | (intro i hi h; exfalso; have h' : i = _ := h; omega) | (intro i hi h; exfalso; have h' := hlb i h; omega))))))); (case hn => rfl)) | ((with_reducible refine' g_extract ?hx ?hv ?_); (case hx => rfl); (case hv => rfl)) | ((with_reducible refine' g_indexAddr ?hx ?hy ?h0 ?h1 ?_); (case hx => rfl); (case hy => rfl); (case h0 => omega); (case h1 => omega))); (conv => arg 5; simp only [zA, zB, ev, lget, zC, zD, zE, zF, zG, zH, zI, zJ, zK, zL, zM, zN])) | (((with_reducible refine' g_lss ?hx ?hy (fun _ => ?_) (fun _ => ?_)); (case hx => rfl)); (case hy => rfl); all_goals (first | (exfalso; omega) | (conv => arg 5; simp only [zA, zB, ev, lget, zC, zD, zE, zF, zG, zH, zI, zJ, zK, zL, zM, zN]))))) | (((with_reducible refine' e_alloc ?hx ?_); (case hx => rfl)); intro _ _ _ _ _ _ _; (conv => arg 5; simp only [zA, zB, ev, lget, zC, zD, zE, zF, zG, zH, zI, zJ, zK, zL, zM, zN])) | ((first | ((with_reducible refine' e_storeB ?hx ?hy ?hv ?h1 ?hb ?ho ?_); (case hx => rfl); (case hy => ((try simp only [ev, lget]); (try rfl))); (case hv => rfl); (case h1 => rfl)) | ((with_reducible refine' e_storeR ?hx ?hy ?h1 ?hb ?hn ?ho ?_); (case hx => rfl); (case hy => rfl); (case h1 => simp [Value.oneCell']); (case hn => rfl))); (case hb => (first | assumption | exact be (h := by first | assumption | exact be (h := by first | assumption | exact be (h := by first | assumption | exact be (h := by first | assumption | exact be (h := by first | assumption | exact be (h := by first | assumption | exact be (h := by first | assumption | exact be (h := by first | assumption | exact be (h := by first | assumption | exact be (h := by first | assumption)))))))))))); (case ho => first | (simp only [List.length_cons, List.length_nil]; omega) | omega | (simp; omega) | simp); (try simp only [splice, zA, zB]); intro _ _ _ _) | ((with_reducible refine' l_call TFn.ent ?ha ?_); (case ha => simp only [zC, zD, ev, lget]; (try rfl))))
      (with_reducible refine' e_appI (v := .slice V all.length d) (xs := all) (ys := (stepP p K ei).2.1) ?hx ?hy ?hown ?hr ?hb ?_); (case hx => rfl); (case hy => rfl)
      case hown => exact own_evt (S := fun j => j = gc) (by (repeat (first | assumption | exact Evt.refl _ _ | (refine Evt.next (by assumption) ?_ ?hs; (case hs => first | exact fun _ _ h => h | exact fun _ _ h => False.elim h | exact fun _ _ h => Or.inl h | exact fun _ _ h => Or.inr h | exact Wr.rel (by assumption) | (intro i hi h; exfalso; have h' : i = _ := h; omega) | (intro i hi h; exfalso; have h' := hlb i h; omega)))))) hown (fun k hk hg => by have h1 := hlb k hk; have h2 : k = gc := hg; omega)
      case hr => exact (hown4.ri rfl).evt (S := fun j => j = gc) (by (repeat (first | assumption | exact Evt.refl _ _ | (refine Evt.next (by assumption) ?_ ?hs; (case hs => first | exact fun _ _ h => h | exact fun _ _ h => False.elim h | exact fun _ _ h => Or.inl h | exact fun _ _ h => Or.inr h | exact Wr.rel (by assumption) | (intro i hi h; exfalso; have h' : i = _ := h; omega) | (intro i hi h; exfalso; have h' := hlb i h; omega)))))) (fun b o hb hg => by have h1 := hnewO b (by subst hb; rfl); have h2 : b = gc := hg; omega)
      case hb => omega
      intro v' w1 hownA hevA hatA hzA
      obtain ⟨V5, d5, rfl⟩ := own_slice hownA
      have hlbA := lb_step (B := wr.heap.size) hlb hatA (by omega)
      have hboc : ¬ (Value.slice V all.length d).ownBlock = some gc := fun h => by have := hlb _ h; omega
      (conv => arg 5; simp only [zA, zB, ev, lget, zC, zD, zE, zF, zG, zH, zI, zJ, zK, zL, zM, zN])
      repeat' (first | (with_reducible (first | refine' wp_region_lit ?_ | refine' wpList_nil ?_ | refine' then_normal ?_ | refine' in_normal ?_)) | ((with_reducible refine' l_step ?_); ((first | (with_reducible refine' g_move ?_) | (with_reducible refine' g_assign ?_) | ((with_reducible refine' g_addN ?hx ?hy ?h0 ?h1 ?_); (case hx => rfl); (case hy => rfl); (case h0 => omega); (case h1 => omega))); (conv => arg 5; simp only [zA, zB, ev, lget, zC, zD, zE, zF, zG, zH, zI, zJ, zK, zL, zM, zN]))))
      refine ⟨_, _, rfl, (by omega : es.length - (i + 1) < es.length - i), by simp only [zA, zB], i + 1, V5, d5, rfl, by omega, rfl, ?_⟩
      rw [hnx]
      exact ⟨rfl, hownA, hlbA, by (first | assumption | exact be (h := by first | assumption | exact be (h := by first | assumption | exact be (h := by first | assumption | exact be (h := by first | assumption | exact be (h := by first | assumption | exact be (h := by first | assumption | exact be (h := by first | assumption | exact be (h := by first | assumption | exact be (h := by first | assumption | exact be (h := by first | assumption))))))))))), by (repeat (first | assumption | exact Evt.refl _ _ | (refine Evt.next (by assumption) ?_ ?hs; (case hs => first | exact fun _ _ h => h | exact fun _ _ h => False.elim h | exact fun _ _ h => Or.inl h | exact fun _ _ h => Or.inr h | exact Wr.rel (by assumption) | (intro i hi h; exfalso; have h' : i = _ := h; omega) | (intro i hi h; exfalso; have h' := hlb i h; omega)))))⟩
    · obtain rfl : i = es.length := by omega
      rw [List.take_length] at *
      generalize runP p k es = R at *
      obtain ⟨K, all⟩ := R
      simp only [] at hown hlb hgc3
      have hgr3 : Blk w3 gr 27 _ := hgr.evt hev3 (by omega)
      repeat' (first | (with_reducible (first | refine' wp_seq ?_ | refine' wp_region_lit ?_ | refine' wpList_nil ?_ | refine' then_normal ?_ | refine' wp_ret ?_ | refine' wp_exit ?_ | refine' then_exit ?_ | refine' in_exit ?_)) | ((with_reducible refine' c_condF ?hx ?_); (case hx => rfl)) | ((with_reducible refine' b_retN ?hr ?h2 ?ha ?_); (case hr => rfl); (case h2 => decide); (case ha => first | exact ra_nil | ((first | ((with_reducible refine' ra_tmp ?rv2 ?rh2); (case rv2 => ((try simp only [ev, lget]); (try rfl)))) | ((with_reducible refine' ra_cell ?rp2 ?rt2 ?rq2 ?rn2 ?rh2); (case rp2 => rfl); (case rt2 => infer_instance); (case rq2 => (first | assumption | exact be (h := by first | assumption | exact be (h := by first | assumption | exact be (h := by first | assumption | exact be (h := by first | assumption | exact be (h := by first | assumption | exact be (h := by first | assumption | exact be (h := by first | assumption | exact be (h := by first | assumption | exact be (h := by first | assumption | exact be (h := by first | assumption)))))))))))); (case rn2 => rfl))); (case rh2 => first | exact ra_nil | ((first | ((with_reducible refine' ra_tmp ?rv1 ?rh1); (case rv1 => ((try simp only [ev, lget]); (try rfl)))) | ((with_reducible refine' ra_cell ?rp1 ?rt1 ?rq1 ?rn1 ?rh1); (case rp1 => rfl); (case rt1 => infer_instance); (case rq1 => (first | assumption | exact be (h := by first | assumption | exact be (h := by first | assumption | exact be (h := by first | assumption | exact be (h := by first | assumption | exact be (h := by first | assumption | exact be (h := by first | assumption | exact be (h := by first | assumption | exact be (h := by first | assumption | exact be (h := by first | assumption | exact be (h := by first | assumption)))))))))))); (case rn1 => rfl))); (case rh1 => first | exact ra_nil)))))) | ((with_reducible refine' l_step ?_); (first | ((first | (with_reducible refine' g_move ?_) | (with_reducible refine' g_assign ?_) | ((with_reducible refine' g_loadS ?hx ?hb ?hn ?_); (case hx => rfl); (case hb => (first | assumption | exact be (h := by first | assumption | exact be (h := by first | assumption | exact be (h := by first | assumption | exact be (h := by first | assumption | exact be (h := by first | assumption | exact be (h := by first | assumption | exact be (h := by first | assumption | exact be (h := by first | assumption | exact be (h := by first | assumption | exact be (h := by first | assumption)))))))))))); first | (case hc => rfl) | (case hn => simp only [List.length_cons, List.length_nil]; omega))); (conv => arg 5; simp only [zA, zB, ev, lget, zC, zD, zE, zF, zG, zH, zI, zJ, zK, zL, zM, zN])) | (((with_reducible refine' g_lss ?hx ?hy (fun _ => ?_) (fun _ => ?_)); (case hx => rfl)); (case hy => rfl); all_goals (first | (exfalso; omega) | (conv => arg 5; simp only [zA, zB, ev, lget, zC, zD, zE, zF, zG, zH, zI, zJ, zK, zL, zM, zN]))))) | ((first | ((with_reducible refine' e_storeB ?hx ?hy ?hv ?h1 ?hb ?ho ?_); (case hx => rfl); (case hy => ((try simp only [ev, lget]); (try rfl))); (case hv => rfl); (case h1 => rfl)) | ((with_reducible refine' e_storeR ?hx ?hy ?h1 ?hb ?hn ?ho ?_); (case hx => rfl); (case hy => rfl); (case h1 => simp [Value.oneCell']); (case hn => rfl))); (case hb => (first | assumption | exact be (h := by first | assumption | exact be (h := by first | assumption | exact be (h := by first | assumption | exact be (h := by first | assumption | exact be (h := by first | assumption | exact be (h := by first | assumption | exact be (h := by first | assumption | exact be (h := by first | assumption | exact be (h := by first | assumption | exact be (h := by first | assumption)))))))))))); (case ho => first | (simp only [List.length_cons, List.length_nil]; omega) | omega | (simp; omega) | simp); (try simp only [splice, zA, zB]); intro _ _ _ _))
      exact ⟨V, d, rfl, ⟨own_evt (S := fun j => j = gr) (by (repeat (first | assumption | exact Evt.refl _ _ | (refine Evt.next (by assumption) ?_ ?hs; (case hs => first | exact fun _ _ h => h | exact fun _ _ h => False.elim h | exact fun _ _ h => Or.inl h | exact fun _ _ h => Or.inr h | exact Wr.rel (by assumption) | (intro i hi h; exfalso; have h' : i = _ := h; omega) | (intro i hi h; exfalso; have h' := hlb i h; omega)))))) hown (fun k hk hg => by have h1 := hlb k hk; have h2 : k = gr := hg; omega), fun k hk => by have h1 := hlb k hk; omega⟩, by (repeat (first | assumption | exact Evt.refl _ _ | (refine Evt.next (by assumption) ?_ ?hs; (case hs => first | exact fun _ _ h => h | exact fun _ _ h => False.elim h | exact fun _ _ h => Or.inl h | exact fun _ _ h => Or.inr h | exact Wr.rel (by assumption) | (intro i hi h; exfalso; have h' : i = _ := h; omega) | (intro i hi h; exfalso; have h' := hlb i h; omega)))))⟩
end Go.Proofs.YthfnlmedelfbnaaDoor
