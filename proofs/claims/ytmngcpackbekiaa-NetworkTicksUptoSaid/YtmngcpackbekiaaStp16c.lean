/- A step on both: a tick; what was accepted. -/
import Derived.Test.YtmngcpackbekiaaStp16b
namespace Go.Proofs.Ytmngcpackbekiaa
open Go.RowKit Go.Proofs.YtmngcpackbekiaaE
set_option linter.unusedSimpArgs false
set_option linter.unusedVariables false

theorem tick_ilen (N : Net) : (tickN N).2.length ≤ N.fly.length := by
  have h2 : ∀ (D : List Mf) (N : Net) (ids : List Int), (D.foldl stepD (N, ids)).2.length ≤ ids.length + D.length := by
    intro D
    induction D with
    | nil => intro N ids; simp
    | cons m D ih =>
      intro N ids
      rw [List.foldl_cons, List.length_cons]
      by_cases ha : m.ack = true
      · have e : stepD (N, ids) m = (N, ids ++ [m.id]) := by rw [stepD, if_pos ha]
        rw [e]
        have := ih N (ids ++ [m.id])
        rw [List.length_append, List.length_singleton] at this
        omega
      · have e : stepD (N, ids) m = (handN (takeN N m) (ackM m), ids) := by rw [stepD, if_neg ha]
        rw [e]
        have := ih (handN (takeN N m) (ackM m)) ids
        omega
  have h3 := h2 (dueL N.fly) { N with now := N.now + 1, fly := restL N.fly } []
  have h4 := dueL_len N.fly
  unfold tickN
  simp only [List.length_nil, Nat.zero_add] at h3
  omega
theorem sameIDs_t (A B : Option Addr) (c d n m : Nat) (xs ys : List Int) (w : World) (hr : RC w A (ints xs)) (hs : RC w B (ints ys)) (hn : xs.length = n) (hm : ys.length = m) (hl : n ≤ 9223372036854775807) (hl2 : m ≤ 9223372036854775807) (h : xs = ys) :
    Calls Try.prog 18 #[.slice A n c, .slice B m d] w fun e w' => e = .returned (.bool true) ∧ Evt (fun _ => False) w w' := by
  refine (sameIDs_any A B c d n m xs ys w hr hs hn hm hl hl2).mono ?_
  rintro e w' ⟨rfl, he⟩
  exact ⟨by rw [decide_eq_true h], he⟩
set_option maxRecDepth 20000 in
set_option maxHeartbeats 8000000 in
theorem step4_any (F G FB : Nat → Prop) (g : Nat) (N : Net) (R : Rn) (gB : Nat) (B : Bm) (o : Opr) (w : World) (hS : St w F G FB g N R gB B) (hr : Rdy N R) (hbn : B.ids.length < 100000000000) (hk : o.kind = 4) :
    Calls Try.prog 31 #[.agg (prC g R).toArray, .agg (opC o).toArray, .pointer (some ⟨gB, 0, none⟩)] w fun e w' => ∃ F' G' FB' N' R' B', e = .returned (.tuple #[.agg (prC g R').toArray, .bool true]) ∧ StepAt w w' F G FB g N R gB B o F' G' FB' N' R' B' := by
  obtain ⟨N', ids, htk⟩ : ∃ N' ids, tickN N = (N', ids) := ⟨_, _, rfl⟩
  obtain ⟨S', ids2, htr⟩ : ∃ S' ids2, tickR R.p = (S', ids2) := ⟨_, _, rfl⟩
  have hlR : ∀ c ∈ R.fates, letterB c := fun c hc => hr.ok.let_ c (by rw [hr.fe]; exact hc)
  have hnt := nr_tick hr.nr hr.ok.let_
  rw [htk, htr] at hnt
  have hids : ids = ids2 := hnt.2
  have hil : ids.length ≤ N.fly.length := by have h1 := tick_ilen N; rw [htk] at h1; exact h1
  have hil2 : ids2.length ≤ N.fly.length := by rw [← hids]; exact hil
  have hfl := hr.ok.fly
  go_enter Try.func31, Try.ntmps31
  repeat' (first | (with_reducible refine' stop_reg (id := 1) ?_) | (with_reducible (first | refine' wp_seq ?_ | refine' wp_region_lit ?_ | refine' wpList_nil ?_ | refine' then_normal ?_)) | ((with_reducible refine' l_step ?_); ((with_reducible refine' g_assign ?_); (conv => arg 5; simp only [zA, zB, ev, lget, zC, zD, zE, zF, zG, zH, zI, zJ, zK, zL, zM, zN, zO]))) | ((first | ((with_reducible refine' e_boxA ?hx ?_); (case hx => rfl)) | ((with_reducible refine' e_alloc ?hx ?_); (case hx => rfl))); intro _ _ _ _ _ _ _; (conv => arg 5; simp only [zA, zB, ev, lget, zC, zD, zE, zF, zG, zH, zI, zJ, zK, zL, zM, zN, zO])))
  refine stop_go ?_
  rename_i gx wx x1 x2 hx ex zx gO wo o1 o2 hO eO zO' gr wr r1 r2 hrr er zr
  have eR : Evt (fun _ => False) w wr := Evt.next er (Evt.next eO ex (fun _ _ h => h)) (fun _ _ h => h)
  have hxr := (hx.evt eO (fun h => h)).evt er (fun h => h)
  have hOr := hO.evt er (fun h => h)
  have nF : ∀ k, w.heap.size ≤ k → ¬ F k := fun k hk hh => by have := hS.net.lt k hh; omega
  have hFx : ¬ F gx := nF gx (by omega)
  have hFr : ¬ F gr := nF gr (by omega)
  have hFO : ¬ F gO := nF gO (by omega)
  clear hx hO
  repeat' (first | (with_reducible refine' stop_reg (id := 14) ?_) | (go_at_call 36; have hfr := tick_r G R _ (hS.ref.up (by exact eqq)) hlR (fun k hk => by have := hS.gl k hk; omega) hr.msgs hr.acc hr.now; simp only [htr] at hfr; refine hfr.mono ?_; clear hfr; rintro e wF ⟨R', VW, dW, rfl, q1, hR2, hW, evF⟩; have zF := evF.size; refine ⟨_, rfl, ?_⟩; simp only [rnC]; (conv => arg 5; simp only [zA, zB, ev, lget, zC, zD, zE, zF, zG, zH, zI, zJ, zK, zL, zM, zN, zO])) | (with_reducible (first | refine' wp_seq ?_ | refine' wp_region_lit ?_ | refine' wpList_nil ?_ | refine' then_normal ?_ | refine' wp_block ?_)) | ((with_reducible refine' c_condT ?hx ?_); (case hx => rfl)) | ((with_reducible refine' c_condF ?hx ?_); (case hx => rfl)) | ((with_reducible refine' l_step ?_); (first | ((first | (with_reducible refine' g_move ?_) | (with_reducible refine' g_assign ?_) | ((with_reducible refine' g_fieldAddr ?hx ?ho ?_); (case hx => rfl); (case ho => rfl)) | ((first | (with_reducible refine' g_loadB ?hx ?hb ?hc ?_) | (with_reducible refine' g_loadS ?hx ?hb ?hn ?_)); (case hx => rfl); (case hb => exact bqq); first | (case hc => rfl) | (case hn => simp only [List.length_cons, List.length_nil]; omega)) | ((with_reducible refine' g_extract ?hx ?hv ?_); (case hx => rfl); (case hv => rfl))); (conv => arg 5; simp only [zA, zB, ev, lget, zC, zD, zE, zF, zG, zH, zI, zJ, zK, zL, zM, zN, zO])) | (((with_reducible refine' g_eql ?hx ?hy (fun _ => ?_) (fun _ => ?_)); (case hx => rfl)); (case hy => rfl); all_goals (first | (exfalso; omega) | (conv => arg 5; simp only [zA, zB, ev, lget, zC, zD, zE, zF, zG, zH, zI, zJ, zK, zL, zM, zN, zO]))))) | (((with_reducible refine' e_alloc ?hx ?_); (case hx => rfl)); intro _ _ _ _ _ _ _; (conv => arg 5; simp only [zA, zB, ev, lget, zC, zD, zE, zF, zG, zH, zI, zJ, zK, zL, zM, zN, zO])) | ((first | ((with_reducible refine' e_storeB ?hx ?hy ?hv ?h1 ?hb ?ho ?_); (case hx => rfl); (case hy => ((try simp only [ev, lget]); (try rfl))); (case hv => rfl); (case h1 => rfl)) | ((with_reducible refine' e_storeR ?hx ?hy ?h1 ?hb ?hn ?ho ?_); (case hx => rfl); (case hy => rfl); (case h1 => simp [Value.oneCell']); (case hn => rfl))); (case hb => exact bqq); (case ho => first | (simp only [List.length_cons, List.length_nil]; omega) | omega | (simp; omega) | simp); (try simp only [splice, zA, zB]); intro _ _ _ _) | ((with_reducible refine' l_call TFn.ent ?ha ?_); (case ha => simp only [zC, zD, ev, lget]; (try rfl))))
  refine stop_go ?_
  rename_i g8 w8 p1 p2 hb8 e8 z8 w9 hb9 e9 z9 w10 hb10 e10 z10
  have e010 : Evt (fun _ => False) w w10 := Evt.next e10 (Evt.next e9 (Evt.next e8 (Evt.next evF eR (fun _ _ h => h)) (fun _ _ h => h)) (fun k hk0 hk => by have h' : k = g8 := hk; omega)) (fun k hk0 hk => by have h' : k = gx := hk; omega)
  have eF10 : Evt (fun k => k = gx) wF w10 := Evt.next e10 (Evt.next e9 (e8.mono fun _ _ h => h.elim) (fun k hk0 hk => by exfalso; have h' : k = g8 := hk; omega)) (fun _ _ h => h)
  have hx10 : Blk w10 gx 67 (prC g R') := hb10
  have hr10 := (hrr.evt evF (fun h => h)).evt eF10 (by omega)
  have hN10 := hS.net.up e010
  have nGx : ∀ k, Gn G wr wF k → ¬ k = gx := fun k hk hh => by
    rcases hk with h1 | h1
    · have := hS.gl k h1; omega
    · omega
  have hR10 : RefAt w10 (Gn G wr wF) R' := hR2.evt eF10 (fun k _ hk hh => nGx k hk hh) (fun _ h => h)
  have hW10 : RG w10 (Gn G wr wF) VW (ints ids2) := hW.evt eF10 (fun k _ hk hh => nGx k hk hh) (fun _ h => h)
  clear hxr hOr hrr hR2 evF e8 e9 e10 eF10 hb10 hb8 er ex eO hb9 hW
  repeat' (first | (with_reducible refine' stop_reg (id := 15) ?_) | (go_at_call 15; (refine (tick_n g F N N' ids ids.length _ (hN10.up (by exact eqq)) hr.ok htk rfl).mono ?_); rintro e wT ⟨F2, VT, dT, rfl, hNT, hoT, hnT, hFT, hevT⟩; have hzT := hevT.size; refine ⟨_, rfl, ?_⟩; (conv => arg 5; simp only [zA, zB, ev, lget, zC, zD, zE, zF, zG, zH, zI, zJ, zK, zL, zM, zN, zO])) | (with_reducible (first | refine' wp_seq ?_ | refine' wp_region_lit ?_ | refine' wpList_nil ?_ | refine' then_normal ?_)) | ((with_reducible refine' l_step ?_); ((first | (with_reducible refine' g_assign ?_) | ((with_reducible refine' g_fieldAddr ?hx ?ho ?_); (case hx => rfl); (case ho => rfl)) | ((with_reducible refine' g_loadB ?hx ?hb ?hc ?_); (case hx => rfl); (case hb => exact bqq); first | (case hc => rfl) | (case hn => simp only [List.length_cons, List.length_nil]; omega))); (conv => arg 5; simp only [zA, zB, ev, lget, zC, zD, zE, zF, zG, zH, zI, zJ, zK, zL, zM, zN, zO]))) | ((with_reducible refine' l_call TFn.ent ?ha ?_); (case ha => simp only [zC, zD, ev, lget]; (try rfl))))
  refine stop_go ?_
  have nGF : ∀ k, Gn G wr wF k → ¬ F k := fun k hk hh => by
    rcases hk with h1 | h1
    · exact hS.fg k hh h1
    · exact nF k (by omega) hh
  have hGl : ∀ k, Gn G wr wF k → k < w10.heap.size := fun k hk => by
    rcases hk with h1 | h1
    · have := hS.gl k h1; omega
    · omega
  have hRT : RefAt wT (Gn G wr wF) R' := hR10.evt hevT (fun k _ hk => nGF k hk) (fun _ h => h)
  have hWT : RG wT (Gn G wr wF) VW (ints ids2) := hW10.evt hevT (fun k _ hk => nGF k hk) (fun _ h => h)
  have hxT := hx10.evt hevT hFx
  have hrT := hr10.evt hevT hFr
  have hBT : BookAt wT FB gB B := (hS.book.up e010).evt hevT (fun k hk hh => hS.fb k hh hk)
  have hBl := hS.book.lt
  have e0T : Evt F w wT := Evt.next hevT (e010.mono fun _ _ h => h.elim) (fun _ _ h => h)
  clear hx10 hr10 hR10 hW10 hN10
  repeat' (first | (with_reducible refine' stop_reg (id := 17) ?_) | (go_at_call 18; (refine (sameIDs_t VT VW dT dW ids.length ids2.length ids ids2 _ ((RC.own hoT).up (by exact eqq)) (hWT.rc.up (by exact eqq)) rfl rfl (by omega) (by omega) hids).mono ?_); rintro e wI ⟨rfl, evI⟩; have zI := evI.size; refine ⟨_, rfl, ?_⟩; (conv => arg 5; simp only [zA, zB, ev, lget, zC, zD, zE, zF, zG, zH, zI, zJ, zK, zL, zM, zN, zO])) | (go_at_call 37; (refine (ids_n FB gB B VT ids.length dT _ _ (hBT.up (by exact eqq)) (own_evt (S := fun _ => False) (by exact eqq) hoT (fun _ _ h => h)) (fun k hk hh => by have := (hnT k hk).1; have := hBl k hh; omega) (by omega) hbn).mono ?_); rintro e wJ ⟨rfl, B', FB', hB', b1, b2, b3, hFB', evJ⟩; have zJ' := evJ.size; refine ⟨_, rfl, ?_⟩; (conv => arg 5; simp only [zA, zB, ev, lget, zC, zD, zE, zF, zG, zH, zI, zJ, zK, zL, zM, zN, zO])) | (with_reducible (first | refine' wp_seq ?_ | refine' wp_region_lit ?_ | refine' wpList_nil ?_ | refine' then_normal ?_)) | ((with_reducible refine' l_step ?_); ((first | (with_reducible refine' g_move ?_) | (with_reducible refine' g_assign ?_)); (conv => arg 5; simp only [zA, zB, ev, lget, zC, zD, zE, zF, zG, zH, zI, zJ, zK, zL, zM, zN, zO]))) | ((with_reducible refine' l_call TFn.ent ?ha ?_); (case ha => simp only [zC, zD, ev, lget]; (try rfl))))
  refine stop_go ?_
  have nFB : ∀ k, w.heap.size ≤ k → ¬ FB k := fun k hk hh => by have := hBl k hh; omega
  have nJ : ∀ k, w.heap.size ≤ k → k < w10.heap.size → ¬ (FB k ∨ (Value.slice VT ids.length dT).ownBlock = some k) := fun k h1 h2 hh => by
    rcases hh with h3 | h3
    · exact nFB k h1 h3
    · have := (hnT k h3).1; omega
  have lF2 := hNT.lt
  have nFJ : ∀ k, F2 k → ¬ (FB k ∨ (Value.slice VT ids.length dT).ownBlock = some k) := fun k hk hh => by
    rcases hh with h3 | h3
    · rcases hFT k hk with h4 | h4
      · exact hS.fb k h4 h3
      · exact nFB k (by omega) h3
    · exact (hnT k h3).2 hk
  have nGJ : ∀ k, Gn G wr wF k → ¬ (FB k ∨ (Value.slice VT ids.length dT).ownBlock = some k) := fun k hk hh => by
    rcases hh with h3 | h3
    · rcases hk with h4 | h4
      · exact hS.gb k h4 h3
      · exact nFB k (by omega) h3
    · have h4 := (hnT k h3).1
      have h5 := hGl k hk
      omega
  have hxJ := (hxT.evt evI (fun h => h)).evt evJ (nJ gx (by omega) (by omega))
  have hrJ := (hrT.evt evI (fun h => h)).evt evJ (nJ gr (by omega) (by omega))
  have hNJ : NetAt wJ F2 g N' := (hNT.up evI).evt evJ (fun k hk => nFJ k hk) (fun _ h => h) (fun k hk => by have := lF2 k hk; omega)
  have hRJ : RefAt wJ (Gn G wr wF) R' := (hRT.up evI).evt evJ (fun k _ hk => nGJ k hk) (fun _ h => h)
  clear hxT hrT hNT hRT hBT hWT
  repeat' (first | (with_reducible (first | refine' wp_region_lit ?_ | refine' wpList_nil ?_ | refine' then_normal ?_ | refine' wp_ret ?_ | refine' then_ret ?_ | refine' in_ret ?_)) | ((with_reducible refine' b_retN ?hr ?h2 ?ha ?_); (case hr => rfl); (case h2 => decide); (case ha => first | exact ra_nil | ((first | ((with_reducible refine' ra_tmp ?rv2 ?rh2); (case rv2 => ((try simp only [ev, lget]); (try rfl)))) | ((with_reducible refine' ra_cell ?rp2 ?rt2 ?rq2 ?rn2 ?rh2); (case rp2 => rfl); (case rt2 => infer_instance); (case rq2 => exact bqq); (case rn2 => rfl))); (case rh2 => first | exact ra_nil | ((first | ((with_reducible refine' ra_tmp ?rv1 ?rh1); (case rv1 => ((try simp only [ev, lget]); (try rfl)))) | ((with_reducible refine' ra_cell ?rp1 ?rt1 ?rq1 ?rn1 ?rh1); (case rp1 => rfl); (case rt1 => infer_instance); (case rq1 => exact bqq); (case rn1 => rfl))); (case rh1 => first | exact ra_nil)))))) | ((with_reducible refine' l_step ?_); ((first | (with_reducible refine' g_move ?_) | (with_reducible refine' g_assign ?_) | ((with_reducible refine' g_loadS ?hx ?hb ?hn ?_); (case hx => rfl); (case hb => exact bqq); first | (case hc => rfl) | (case hn => simp only [List.length_cons, List.length_nil]; omega))); (conv => arg 5; simp only [zA, zB, ev, lget, zC, zD, zE, zF, zG, zH, zI, zJ, zK, zL, zM, zN, zO]))) | ((first | ((with_reducible refine' e_storeB ?hx ?hy ?hv ?h1 ?hb ?ho ?_); (case hx => rfl); (case hy => ((try simp only [ev, lget]); (try rfl))); (case hv => rfl); (case h1 => rfl)) | ((with_reducible refine' e_storeR ?hx ?hy ?h1 ?hb ?hn ?ho ?_); (case hx => rfl); (case hy => rfl); (case h1 => simp [Value.oneCell']); (case hn => rfl))); (case hb => exact bqq); (case ho => first | (simp only [List.length_cons, List.length_nil]; omega) | omega | (simp; omega) | simp); (try simp only [splice, zA, zB]); intro _ _ _ _))
  rename_i w6 h6 e6 z6
  have lFB' := hB'.lt
  have n6 : ∀ k, w10.heap.size ≤ k ∨ k < w.heap.size → ¬ k = gr := fun k hk hh => by omega
  have nB6 : ∀ k, FB' k → ¬ k = gr := fun k hk => by
    rcases hFB' k hk with h1 | h1 | h1
    · exact n6 k (.inr (hBl k h1))
    · exact n6 k (.inl (hnT k h1).1)
    · exact n6 k (.inl (by omega))
  have nF6 : ∀ k, F2 k → ¬ k = gr := fun k hk => by
    rcases hFT k hk with h1 | h1
    · exact n6 k (.inr (hS.net.lt k h1))
    · exact n6 k (.inl h1)
  have nG6 : ∀ k, Gn G wr wF k → ¬ k = gr := fun k hk hh => by
    rcases hk with h1 | h1
    · have := hS.gl k h1; omega
    · omega
  refine ⟨F2, Gn G wr wF, FB', N', R', B', rfl, {
    st := {
      net := hNJ.evt e6 (fun k hk => nF6 k hk) (fun _ h => h) (fun k hk => by have := lF2 k hk; omega)
      ref := hRJ.evt e6 (fun k _ hk => nG6 k hk) (fun _ h => h)
      book := hB'.evt e6 (fun k hk => nB6 k hk)
      fg := fun k hk hh => ?_
      fb := fun k hk hh => ?_
      gb := fun k hk hh => ?_
      gl := fun k hk => by have := hGl k hk; omega }
    rel := .inr (.inr (.inr (.inl ⟨hk, by rw [htk], by rw [htr]; exact q1⟩)))
    fF := fun k hk => ?_
    gG := fun k hk => ?_
    fB := fun k hk => ?_
    gU := fun k hk => .inl hk
    evt := Evt.next e6 (Evt.next evJ (Evt.next evI (e0T.mono fun _ _ h => .inl h) (fun _ _ h => h.elim)) (fun k hk0 hk => ?_)) (fun k hk0 hk => by have h' : k = gr := hk; omega)
    bI := by omega
    bL := by omega
    bB := by omega }⟩
  · rcases hFT k hk with h1 | h1
    · rcases hh with h2 | h2
      · exact hS.fg k h1 h2
      · exact nF k (by omega) h1
    · have := hGl k hh; omega
  · rcases hFB' k hh with h1 | h1 | h1
    · exact nFJ k hk (.inl h1)
    · exact nFJ k hk (.inr h1)
    · have := lF2 k hk; omega
  · rcases hFB' k hh with h1 | h1 | h1
    · exact nGJ k hk (.inl h1)
    · exact nGJ k hk (.inr h1)
    · have := hGl k hk; omega
  · rcases hFT k hk with h1 | h1
    · exact .inl h1
    · exact .inr (by omega)
  · rcases hk with h1 | h1
    · exact .inl h1
    · exact .inr (by omega)
  · rcases hFB' k hk with h1 | h1 | h1
    · exact .inl h1
    · exact .inr (by have := (hnT k h1).1; omega)
    · exact .inr (by omega)
  · rcases hk with h1 | h1
    · exact .inr h1
    · have := (hnT k h1).1; omega
theorem AccOwn.evt {S : Nat → Prop} {w w' : World} {lo go : Nat} {l : List Ma} (h : AccOwn w lo go l) (he : Evt S w w') (hs : ∀ k, lo ≤ k → k < w.heap.size → ¬ S k) : AccOwn w' lo go l :=
  ⟨h.row.evt he (hs go h.glo h.row.lt), h.glo, ⟨fun m hm => own_evt he (h.bods.own m hm) (fun k hk => hs k (h.bods.low m hm k hk).1 (own_lt (h.bods.own m hm) k hk)), h.bods.low, h.bods.dis⟩⟩
theorem AccOwn.at_ {w : World} {lo go : Nat} {l : List Ma} (h : AccOwn w lo go l) : AccAt w (fun _ => True) (some ⟨go, 0, none⟩) l :=
  ⟨RG.blk h.row _ List.take_length trivial, fun m hm => RG.own (h.bods.own m hm) (fun _ _ => trivial)⟩
theorem bodOwn_lo {w : World} {lo go : Nat} {l : List Ma} (h : AccOwn w lo go l) : ∀ k, bodOwn l k → lo ≤ k ∧ k < w.heap.size := fun k hk => by
  obtain ⟨m, hm, hk⟩ := hk
  exact ⟨(h.bods.low m hm k hk).1, own_lt (h.bods.own m hm) k hk⟩
set_option maxRecDepth 20000 in
set_option maxHeartbeats 8000000 in
theorem step6_any (F G FB : Nat → Prop) (g : Nat) (N : Net) (R : Rn) (gB : Nat) (B : Bm) (o : Opr) (w : World) (hS : St w F G FB g N R gB B) (hr : Rdy N R) (hal : N.acc.length ≤ 1048576) (hbn : B.lists.length + 2 ≤ 100000000000) (hbb : B.bods.length + 4 * N.acc.length ≤ 5000000000000) (hk : o.kind = 6) :
    Calls Try.prog 31 #[.agg (prC g R).toArray, .agg (opC o).toArray, .pointer (some ⟨gB, 0, none⟩)] w fun e w' => ∃ F' G' FB' N' R' B', e = .returned (.tuple #[.agg (prC g R').toArray, .bool true]) ∧ StepAt w w' F G FB g N R gB B o F' G' FB' N' R' B' := by
  go_enter Try.func31, Try.ntmps31
  repeat' (first | (with_reducible refine' stop_reg (id := 1) ?_) | (with_reducible (first | refine' wp_seq ?_ | refine' wp_region_lit ?_ | refine' wpList_nil ?_ | refine' then_normal ?_)) | ((with_reducible refine' l_step ?_); ((with_reducible refine' g_assign ?_); (conv => arg 5; simp only [zA, zB, ev, lget, zC, zD, zE, zF, zG, zH, zI, zJ, zK, zL, zM, zN, zO]))) | ((first | ((with_reducible refine' e_boxA ?hx ?_); (case hx => rfl)) | ((with_reducible refine' e_alloc ?hx ?_); (case hx => rfl))); intro _ _ _ _ _ _ _; (conv => arg 5; simp only [zA, zB, ev, lget, zC, zD, zE, zF, zG, zH, zI, zJ, zK, zL, zM, zN, zO])))
  refine stop_go ?_
  rename_i gx wx x1 x2 hx ex zx gO wo o1 o2 hO eO zO' gr wr r1 r2 hrr er zr
  have eR : Evt (fun _ => False) w wr := Evt.next er (Evt.next eO ex (fun _ _ h => h)) (fun _ _ h => h)
  have hxr := (hx.evt eO (fun h => h)).evt er (fun h => h)
  have hOr := hO.evt er (fun h => h)
  have nF : ∀ k, w.heap.size ≤ k → ¬ F k := fun k hk hh => by have := hS.net.lt k hh; omega
  have hFx : ¬ F gx := nF gx (by omega)
  have hFr : ¬ F gr := nF gr (by omega)
  have hFO : ¬ F gO := nF gO (by omega)
  clear hx hO
  have hN0 := hS.net.up eR
  have hBl := hS.book.lt
  have hbod := hr.bod
  have hbodR := hr.bodR
  have haR : R.acc.length = N.acc.length := by have h1 := congrArg List.length hr.nr.acc; rw [List.length_map, List.length_map] at h1; exact h1.symm
  repeat' (first | (with_reducible refine' stop_reg (id := 22) ?_) | (go_at_call 17; (with_reducible refine (accepted_own g F N _ hN0 (by omega) (fun m hm => by have := hbod m hm; omega)).mono ?_); rintro e wA ⟨go1, l1, rfl, hA1, hs1, hN1, evA⟩; have zA' := evA.size; refine ⟨_, rfl, ?_⟩; (conv => arg 5; simp only [zA, zB, ev, lget, zC, zD, zE, zF, zG, zH, zI, zJ, zK, zL, zM, zN, zO])) | (with_reducible (first | refine' wp_seq ?_ | refine' wp_region_lit ?_ | refine' wpList_nil ?_ | refine' then_normal ?_ | refine' wp_block ?_)) | ((with_reducible refine' c_condT ?hx ?_); (case hx => rfl)) | ((with_reducible refine' c_condF ?hx ?_); (case hx => rfl)) | ((with_reducible refine' l_step ?_); (first | ((first | (with_reducible refine' g_assign ?_) | ((with_reducible refine' g_fieldAddr ?hx ?ho ?_); (case hx => rfl); (case ho => rfl)) | ((with_reducible refine' g_loadB ?hx ?hb ?hc ?_); (case hx => rfl); (case hb => exact bqq); first | (case hc => rfl) | (case hn => simp only [List.length_cons, List.length_nil]; omega))); (conv => arg 5; simp only [zA, zB, ev, lget, zC, zD, zE, zF, zG, zH, zI, zJ, zK, zL, zM, zN, zO])) | (((with_reducible refine' g_eql ?hx ?hy (fun _ => ?_) (fun _ => ?_)); (case hx => rfl)); (case hy => rfl); all_goals (first | (exfalso; omega) | (conv => arg 5; simp only [zA, zB, ev, lget, zC, zD, zE, zF, zG, zH, zI, zJ, zK, zL, zM, zN, zO]))))) | ((with_reducible refine' l_call TFn.ent ?ha ?_); (case ha => simp only [zC, zD, ev, lget]; (try rfl))))
  refine stop_go ?_
  have hxA := hxr.evt evA (fun h => h)
  have hrA := hrr.evt evA (fun h => h)
  clear hxr hrr hOr
  repeat' (first | (with_reducible refine' stop_reg (id := 23) ?_) | (go_at_call 17; (with_reducible refine (accepted_own g F N _ hN1 (by omega) (fun m hm => by have := hbod m hm; omega)).mono ?_); rintro e wB ⟨go2, l2, rfl, hA2, hs2, hN2, evB⟩; have zB' := evB.size; refine ⟨_, rfl, ?_⟩; (conv => arg 5; simp only [zA, zB, ev, lget, zC, zD, zE, zF, zG, zH, zI, zJ, zK, zL, zM, zN, zO])) | (with_reducible (first | refine' wp_seq ?_ | refine' wp_region_lit ?_ | refine' wpList_nil ?_ | refine' then_normal ?_)) | ((with_reducible refine' l_step ?_); ((first | (with_reducible refine' g_assign ?_) | ((with_reducible refine' g_fieldAddr ?hx ?ho ?_); (case hx => rfl); (case ho => rfl)) | ((with_reducible refine' g_loadB ?hx ?hb ?hc ?_); (case hx => rfl); (case hb => exact bqq); first | (case hc => rfl) | (case hn => simp only [List.length_cons, List.length_nil]; omega))); (conv => arg 5; simp only [zA, zB, ev, lget, zC, zD, zE, zF, zG, zH, zI, zJ, zK, zL, zM, zN, zO]))) | ((with_reducible refine' l_call TFn.ent ?ha ?_); (case ha => simp only [zC, zD, ev, lget]; (try rfl))))
  refine stop_go ?_
  have hl1 : l1.length = N.acc.length := by have h1 := congrArg List.length hs1; simpa using h1
  have hl2 : l2.length = N.acc.length := by have h1 := congrArg List.length hs2; simpa using h1
  have hb1 := (see_bod2 hs1 hbod).2
  have hb2 := (see_bod2 hs2 hbod).2
  have e0B : Evt (fun _ => False) w wB := Evt.next evB (Evt.next evA eR (fun _ _ h => h)) (fun _ _ h => h)
  have hxB := hxA.evt evB (fun h => h)
  have hrB := hrA.evt evB (fun h => h)
  have hA1B := hA1.evt evB (fun _ _ _ h => h)
  have hRB := hS.ref.up e0B
  have hBB := hS.book.up e0B
  have g1 := hA1.glo
  have g2 := hA2.glo
  have g3 := hA1.row.lt
  have g4 := hA2.row.lt
  have hsA : l1.map seeA = R.acc.map seeA := hs1.trans hr.nr.acc
  have hsB : l2.map seeA = R.acc.map seeA := hs2.trans hr.nr.acc
  have lo1 := bodOwn_lo hA1
  clear hxA hrA hA1 hN0 hN1
  repeat' (first | (with_reducible refine' stop_reg (id := 24) ?_) | (go_at_call 19; (refine (sameAcc_t (some ⟨go1, 0, none⟩) R.AA l1.length R.cA l1.length R.acc.length _ _ l1 R.acc _ (hA1B.at_.up (by exact eqq)) (hRB.acc.up (by exact eqq)) rfl rfl (by omega) (by omega) (fun x hx => by have := hb1 x hx; omega) (fun x hx => by have := hbodR x hx; omega) hsA).mono ?_); rintro e wC ⟨rfl, evC⟩; have zC' := evC.size; refine ⟨_, rfl, ?_⟩; (conv => arg 5; simp only [zA, zB, ev, lget, zC, zD, zE, zF, zG, zH, zI, zJ, zK, zL, zM, zN, zO])) | (with_reducible (first | refine' wp_seq ?_ | refine' wp_region_lit ?_ | refine' wpList_nil ?_ | refine' then_normal ?_)) | ((with_reducible refine' l_step ?_); ((first | (with_reducible refine' g_move ?_) | (with_reducible refine' g_assign ?_) | ((with_reducible refine' g_fieldAddr ?hx ?ho ?_); (case hx => rfl); (case ho => rfl)) | ((with_reducible refine' g_loadB ?hx ?hb ?hc ?_); (case hx => rfl); (case hb => exact bqq); first | (case hc => rfl) | (case hn => simp only [List.length_cons, List.length_nil]; omega))); (conv => arg 5; simp only [zA, zB, ev, lget, zC, zD, zE, zF, zG, zH, zI, zJ, zK, zL, zM, zN, zO]))) | ((with_reducible refine' l_call TFn.ent ?ha ?_); (case ha => simp only [zC, zD, ev, lget]; (try rfl))))
  refine stop_go ?_
  have nFB : ∀ k, w.heap.size ≤ k → ¬ FB k := fun k hk hh => by have := hBl k hh; omega
  have lo2 := bodOwn_lo hA2
  repeat' (first | (with_reducible refine' stop_reg (id := 25) ?_) | (go_at_call 38; (refine (bacc_n FB gB B _ go1 l1 _ (hBB.up (by exact eqq)) (hA1B.evt (S := fun _ => False) (by exact eqq) (fun _ _ _ h => h)) (nFB go1 (by omega)) (fun k hk => nFB k (by have := (lo1 k hk).1; omega)) hb1 (by omega) (by omega) (by omega)).mono ?_); rintro e wD ⟨rfl, B1, FB1, hBD, c1, c2, c3, hFB1, evD⟩; have zD' := evD.size; refine ⟨_, rfl, ?_⟩; (conv => arg 5; simp only [zA, zB, ev, lget, zC, zD, zE, zF, zG, zH, zI, zJ, zK, zL, zM, zN, zO])) | (with_reducible (first | refine' wp_seq ?_ | refine' wp_region_lit ?_ | refine' wpList_nil ?_ | refine' then_normal ?_)) | ((with_reducible refine' l_step ?_); ((with_reducible refine' g_move ?_); (conv => arg 5; simp only [zA, zB, ev, lget, zC, zD, zE, zF, zG, zH, zI, zJ, zK, zL, zM, zN, zO]))) | ((with_reducible refine' l_call TFn.ent ?ha ?_); (case ha => simp only [zC, zD, ev, lget]; (try rfl))))
  refine stop_go ?_
  have n1 : ∀ k, k < wr.heap.size → ¬ FB k → ¬ (FB k ∨ k = go1 ∨ bodOwn l1 k) := fun k h1 h2 hh => by
    rcases hh with h3 | h3 | h3
    · exact h2 h3
    · omega
    · have := (lo1 k h3).1; omega
  have n2 : ∀ k, wA.heap.size ≤ k → ¬ (FB k ∨ k = go1 ∨ bodOwn l1 k) := fun k h1 hh => by
    rcases hh with h3 | h3 | h3
    · exact nFB k (by omega) h3
    · omega
    · have := (lo1 k h3).2; omega
  have hxD := (hxB.evt evC (fun h => h)).evt evD (n1 gx (by omega) (nFB gx (by omega)))
  have hrD := (hrB.evt evC (fun h => h)).evt evD (n1 gr (by omega) (nFB gr (by omega)))
  have hA2D := (hA2.evt evC (fun _ _ _ h => h)).evt evD (fun k h1 _ => n2 k h1)
  have hRD : RefAt wD G R := (hRB.up evC).evt evD (fun k _ hk => n1 k (by have := hS.gl k hk; omega) (hS.gb k hk)) (fun _ h => h)
  have hND : NetAt wD F g N := (hN2.up evC).evt evD (fun k hk => n1 k (by have := hS.net.lt k hk; omega) (hS.fb k hk)) (fun _ h => h) (fun k hk => by have := hS.net.lt k hk; omega)
  clear hxB hrB hRB hBB hN2 hA1B
  repeat' (first | (with_reducible refine' stop_reg (id := 26) ?_) | (go_at_call 19; (refine (sameAcc_t (some ⟨go2, 0, none⟩) R.AA l2.length R.cA l2.length R.acc.length _ _ l2 R.acc _ (hA2D.at_.up (by exact eqq)) (hRD.acc.up (by exact eqq)) rfl rfl (by omega) (by omega) (fun x hx => by have := hb2 x hx; omega) (fun x hx => by have := hbodR x hx; omega) hsB).mono ?_); rintro e wE ⟨rfl, evE⟩; have zE' := evE.size; refine ⟨_, rfl, ?_⟩; (conv => arg 5; simp only [zA, zB, ev, lget, zC, zD, zE, zF, zG, zH, zI, zJ, zK, zL, zM, zN, zO])) | (with_reducible (first | refine' wp_seq ?_ | refine' wp_region_lit ?_ | refine' wpList_nil ?_ | refine' then_normal ?_)) | ((with_reducible refine' l_step ?_); ((first | (with_reducible refine' g_move ?_) | (with_reducible refine' g_assign ?_) | ((with_reducible refine' g_fieldAddr ?hx ?ho ?_); (case hx => rfl); (case ho => rfl)) | ((with_reducible refine' g_loadB ?hx ?hb ?hc ?_); (case hx => rfl); (case hb => exact bqq); first | (case hc => rfl) | (case hn => simp only [List.length_cons, List.length_nil]; omega)) | ((with_reducible refine' g_pickT ?hx ?_); (case hx => rfl))); (conv => arg 5; simp only [zA, zB, ev, lget, zC, zD, zE, zF, zG, zH, zI, zJ, zK, zL, zM, zN, zO]))) | ((with_reducible refine' l_on ?hw ?_); (case hw => rfl)) | ((with_reducible refine' l_call TFn.ent ?ha ?_); (case ha => simp only [zC, zD, ev, lget]; (try rfl))))
  refine stop_go ?_
  have lF1 := hBD.lt
  have nF1 : ∀ k, (wA.heap.size ≤ k ∧ k < wB.heap.size) ∨ (k < wr.heap.size ∧ ¬ FB k) → ¬ FB1 k := fun k hk hh => by
    rcases hFB1 k hh with h3 | h3 | h3 | h3
    · rcases hk with hk | hk
      · exact nFB k (by omega) h3
      · exact hk.2 h3
    · omega
    · have := lo1 k h3; omega
    · omega
  repeat' (first | (with_reducible refine' stop_reg (id := 27) ?_) | (go_at_call 38; (refine (bacc_n FB1 gB B1 _ go2 l2 _ (hBD.up (by exact eqq)) (hA2D.evt (S := fun _ => False) (by exact eqq) (fun _ _ _ h => h)) (nF1 go2 (.inl ⟨by omega, by omega⟩)) (fun k hk => nF1 k (.inl (lo2 k hk))) hb2 (by omega) (by omega) (by omega)).mono ?_); rintro e wG ⟨rfl, B2, FB2, hBG, d1, d2, d3, hFB2, evG⟩; have zG' := evG.size; refine ⟨_, rfl, ?_⟩; (conv => arg 5; simp only [zA, zB, ev, lget, zC, zD, zE, zF, zG, zH, zI, zJ, zK, zL, zM, zN, zO])) | (with_reducible (first | refine' wp_seq ?_ | refine' wp_region_lit ?_ | refine' wpList_nil ?_ | refine' then_normal ?_)) | ((with_reducible refine' l_step ?_); ((with_reducible refine' g_move ?_); (conv => arg 5; simp only [zA, zB, ev, lget, zC, zD, zE, zF, zG, zH, zI, zJ, zK, zL, zM, zN, zO]))) | ((with_reducible refine' l_call TFn.ent ?ha ?_); (case ha => simp only [zC, zD, ev, lget]; (try rfl))))
  refine stop_go ?_
  have n3 : ∀ k, k < wr.heap.size → ¬ FB k → ¬ (FB1 k ∨ k = go2 ∨ bodOwn l2 k) := fun k h1 h2 hh => by
    rcases hh with h3 | h3 | h3
    · exact nF1 k (.inr ⟨h1, h2⟩) h3
    · omega
    · have := (lo2 k h3).1; omega
  have hxG := (hxD.evt evE (fun h => h)).evt evG (n3 gx (by omega) (nFB gx (by omega)))
  have hrG := (hrD.evt evE (fun h => h)).evt evG (n3 gr (by omega) (nFB gr (by omega)))
  have hRG : RefAt wG G R := (hRD.up evE).evt evG (fun k _ hk => n3 k (by have := hS.gl k hk; omega) (hS.gb k hk)) (fun _ h => h)
  have hNG : NetAt wG F g N := (hND.up evE).evt evG (fun k hk => n3 k (by have := hS.net.lt k hk; omega) (hS.fb k hk)) (fun _ h => h) (fun k hk => by have := hS.net.lt k hk; omega)
  clear hxD hrD hRD hND hA2D hBD
  repeat' (first | (with_reducible (first | refine' wp_region_lit ?_ | refine' wpList_nil ?_ | refine' then_normal ?_ | refine' wp_ret ?_ | refine' then_ret ?_ | refine' in_ret ?_)) | ((with_reducible refine' b_retN ?hr ?h2 ?ha ?_); (case hr => rfl); (case h2 => decide); (case ha => first | exact ra_nil | ((first | ((with_reducible refine' ra_tmp ?rv2 ?rh2); (case rv2 => ((try simp only [ev, lget]); (try rfl)))) | ((with_reducible refine' ra_cell ?rp2 ?rt2 ?rq2 ?rn2 ?rh2); (case rp2 => rfl); (case rt2 => infer_instance); (case rq2 => exact bqq); (case rn2 => rfl))); (case rh2 => first | exact ra_nil | ((first | ((with_reducible refine' ra_tmp ?rv1 ?rh1); (case rv1 => ((try simp only [ev, lget]); (try rfl)))) | ((with_reducible refine' ra_cell ?rp1 ?rt1 ?rq1 ?rn1 ?rh1); (case rp1 => rfl); (case rt1 => infer_instance); (case rq1 => exact bqq); (case rn1 => rfl))); (case rh1 => first | exact ra_nil)))))) | ((with_reducible refine' l_step ?_); ((first | (with_reducible refine' g_move ?_) | (with_reducible refine' g_assign ?_) | ((with_reducible refine' g_loadS ?hx ?hb ?hn ?_); (case hx => rfl); (case hb => exact bqq); first | (case hc => rfl) | (case hn => simp only [List.length_cons, List.length_nil]; omega))); (conv => arg 5; simp only [zA, zB, ev, lget, zC, zD, zE, zF, zG, zH, zI, zJ, zK, zL, zM, zN, zO]))) | ((first | ((with_reducible refine' e_storeB ?hx ?hy ?hv ?h1 ?hb ?ho ?_); (case hx => rfl); (case hy => ((try simp only [ev, lget]); (try rfl))); (case hv => rfl); (case h1 => rfl)) | ((with_reducible refine' e_storeR ?hx ?hy ?h1 ?hb ?hn ?ho ?_); (case hx => rfl); (case hy => rfl); (case h1 => simp [Value.oneCell']); (case hn => rfl))); (case hb => exact bqq); (case ho => first | (simp only [List.length_cons, List.length_nil]; omega) | omega | (simp; omega) | simp); (try simp only [splice, zA, zB]); intro _ _ _ _))
  rename_i w6 h6 e6 z6
  have nW : ∀ k, FB2 k → FB k ∨ wr.heap.size ≤ k := fun k hk => by
    rcases hFB2 k hk with h1 | h1 | h1 | h1
    · rcases hFB1 k h1 with h3 | h3 | h3 | h3
      · exact .inl h3
      · exact .inr (by omega)
      · exact .inr (by have := lo1 k h3; omega)
      · exact .inr (by omega)
    · exact .inr (by omega)
    · exact .inr (by have := lo2 k h1; omega)
    · exact .inr (by omega)
  refine ⟨F, G, FB2, N, R, B2, rfl, {
    st := {
      net := hNG.evt e6 (fun k hk hh => hFr (by have h' : k = gr := hh; exact h' ▸ hk)) (fun _ h => h) (fun k hk => by have := hS.net.lt k hk; omega)
      ref := hRG.evt e6 (fun k _ hk hh => by have h' : k = gr := hh; have := hS.gl k hk; omega) (fun _ h => h)
      book := hBG.evt e6 (fun k hk hh => by
        have h' : k = gr := hh
        rcases nW k hk with h1 | h1
        · exact nFB k (by omega) h1
        · omega)
      fg := hS.fg
      fb := fun k hk hh => by
        rcases nW k hh with h1 | h1
        · exact hS.fb k hk h1
        · exact nF k (by omega) hk
      gb := fun k hk hh => by
        rcases nW k hh with h1 | h1
        · exact hS.gb k hk h1
        · have := hS.gl k hk; omega
      gl := fun k hk => by have := hS.gl k hk; omega }
    rel := .inr (.inr (.inr (.inr ⟨⟨by omega, by omega, by omega, by omega⟩, rfl, rfl⟩)))
    fF := fun k hk => .inl hk
    gG := fun k hk => .inl hk
    fB := fun k hk => by
      rcases nW k hk with h1 | h1
      · exact .inl h1
      · exact .inr (by omega)
    gU := fun k hk => hk
    evt := Evt.next e6 (Evt.next evG (Evt.next evE (Evt.next evD (Evt.next evC (e0B.mono fun _ _ h => h.elim) (fun _ _ h => h.elim)) (fun k hk0 hk => ?_)) (fun _ _ h => h.elim)) (fun k hk0 hk => ?_)) (fun k hk0 hk => by have h' : k = gr := hk; omega)
    bI := by omega
    bL := by omega
    bB := by omega }⟩
  · rcases hk with h3 | h3 | h3
    · exact .inr h3
    · omega
    · have := (lo1 k h3).1; omega
  · rcases hk with h3 | h3 | h3
    · rcases hFB1 k h3 with h4 | h4 | h4 | h4
      · exact .inr h4
      · omega
      · have := lo1 k h4; omega
      · omega
    · omega
    · have := (lo2 k h3).1; omega
end Go.Proofs.Ytmngcpackbekiaa
