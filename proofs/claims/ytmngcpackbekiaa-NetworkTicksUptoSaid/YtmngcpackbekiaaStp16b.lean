/- A step on both: fates, calm, what is asked. -/
import Derived.Test.YtmngcpackbekiaaStp16
namespace Go.Proofs.Ytmngcpackbekiaa
open Go.RowKit Go.Proofs.YtmngcpackbekiaaE
set_option linter.unusedSimpArgs false
set_option linter.unusedVariables false

structure St (w : World) (F G FB : Nat → Prop) (g : Nat) (N : Net) (R : Rn) (gB : Nat) (B : Bm) : Prop where
  net : NetAt w F g N
  ref : RefAt w G R
  book : BookAt w FB gB B
  fg : ∀ k, F k → ¬ G k
  fb : ∀ k, F k → ¬ FB k
  gb : ∀ k, G k → ¬ FB k
  gl : ∀ k, G k → k < w.heap.size
structure StepAt (w w' : World) (F G FB : Nat → Prop) (g : Nat) (N : Net) (R : Rn) (gB : Nat) (B : Bm) (o : Opr) (F' G' FB' : Nat → Prop) (N' : Net) (R' : Rn) (B' : Bm) : Prop where
  st : St w' F' G' FB' g N' R' gB B'
  rel : StepNR N R.p o N' R'.p
  fF : ∀ k, F' k → F k ∨ w.heap.size ≤ k
  gG : ∀ k, G' k → G k ∨ w.heap.size ≤ k
  fB : ∀ k, FB' k → FB k ∨ w.heap.size ≤ k
  gU : ∀ k, G k → G' k
  evt : Evt (fun k => F k ∨ FB k) w w'
  bI : B'.ids.length ≤ B.ids.length + 1
  bL : B'.lists.length ≤ B.lists.length + 2
  bB : B'.bods.length ≤ B.bods.length + 4 * N.acc.length
/-- The book stays. -/
theorem step_fin {w w2 : World} {F G FB F' G' : Nat → Prop} {g gB : Nat} {N N' : Net} {R R' : Rn} {B : Bm} {o : Opr} (h : St w F G FB g N R gB B) (hr : StepNR N R.p o N' R'.p) (hN : NetAt w2 F' g N') (hR : RefAt w2 G' R')
    (fF : ∀ k, F' k → F k ∨ w.heap.size ≤ k) (gG : ∀ k, G' k → G k ∨ w.heap.size ≤ k) (gU : ∀ k, G k → G' k) (gl : ∀ k, G' k → k < w2.heap.size) (fg : ∀ k, F' k → ¬ G' k) (he : Evt F w w2) : StepAt w w2 F G FB g N R gB B o F' G' FB N' R' B where
  st := {
    net := hN
    ref := hR
    book := h.book.evt he (fun k hk hh => h.fb k hh hk)
    fg := fg
    fb := fun k hk hh => by
      rcases fF k hk with h1 | h1
      · exact h.fb k h1 hh
      · have := h.book.lt k hh; omega
    gb := fun k hk hh => by
      rcases gG k hk with h1 | h1
      · exact h.gb k h1 hh
      · have := h.book.lt k hh; omega
    gl := gl }
  rel := hr
  fF := fF
  gG := gG
  fB := fun k hk => .inl hk
  gU := gU
  evt := he.mono fun _ _ h => .inl h
  bI := by omega
  bL := by omega
  bB := by omega
/-- The book stays; blocks of the call's own are written behind. -/
theorem step_fin2 {w w1 w2 : World} {F G FB F' G' : Nat → Prop} {g gB m : Nat} {N N' : Net} {R R' : Rn} {B : Bm} {o : Opr} (h : St w F G FB g N R gB B) (hr : StepNR N R.p o N' R'.p) (hN : NetAt w1 F' g N') (hR : RefAt w1 G' R') (e1 : Evt F w w1) (hm : w.heap.size ≤ m)
    (fF : ∀ k, F' k → F k ∨ m ≤ k) (gG : ∀ k, G' k → G k ∨ m ≤ k) (gU : ∀ k, G k → G' k) (gl : ∀ k, G' k → k < w1.heap.size) (fg : ∀ k, F' k → ¬ G' k) (e2 : Evt (fun k => w.heap.size ≤ k ∧ k < m) w1 w2) : StepAt w w2 F G FB g N R gB B o F' G' FB N' R' B := by
  have z1 := e1.size
  have z2 := e2.size
  refine step_fin h hr (hN.evt e2 (fun k hk hh => ?_) (fun _ h => h) (fun k hk => Nat.lt_of_lt_of_le (hN.lt k hk) z2)) (hR.evt e2 (fun k _ hk hh => ?_) (fun _ h => h)) (fun k hk => ?_) (fun k hk => ?_) gU (fun k hk => by have := gl k hk; omega) fg (Evt.next e2 e1 (fun k hk0 hk => by omega))
  · rcases fF k hk with h1 | h1
    · have := h.net.lt k h1; omega
    · omega
  · rcases gG k hk with h1 | h1
    · have := h.gl k h1; omega
    · omega
  · rcases fF k hk with h1 | h1
    · exact .inl h1
    · exact .inr (by omega)
  · rcases gG k hk with h1 | h1
    · exact .inl h1
    · exact .inr (by omega)
theorem flying_q (g : Nat) (F : Nat → Prop) (N : Net) (w : World) (h : NetAt w F g N) :
    Calls Try.prog 14 #[.pointer (some ⟨g, 0, none⟩)] w fun e w' => e = .returned (.int .i64 N.fly.length) ∧ Evt (fun _ => False) w w' := by
  refine (flying_any g F N w h).mono ?_
  rintro e w' ⟨rfl, rfl⟩
  exact ⟨rfl, Evt.refl _ _⟩
set_option maxRecDepth 20000 in
set_option maxHeartbeats 8000000 in
theorem step1_any (F G FB : Nat → Prop) (g : Nat) (N : Net) (R : Rn) (gB : Nat) (B : Bm) (o : Opr) (w : World) (hS : St w F G FB g N R gB B) (hr : Rdy N R) (hss : o.s.size ≤ 9223372036854775807) (hk : o.kind = 1) :
    Calls Try.prog 31 #[.agg (prC g R).toArray, .agg (opC o).toArray, .pointer (some ⟨gB, 0, none⟩)] w fun e w' => ∃ F' G' FB' N' R' B', e = .returned (.tuple #[.agg (prC g R').toArray, .bool true]) ∧ StepAt w w' F G FB g N R gB B o F' G' FB' N' R' B' := by
  obtain ⟨N2, e2, hf⟩ : ∃ N2 e2, fateN N (strI o.s) = (N2, e2) := ⟨_, _, rfl⟩
  go_enter Try.func31, Try.ntmps31
  repeat' (first | (with_reducible refine' stop_reg (id := 1) ?_) | (with_reducible (first | refine' wp_seq ?_ | refine' wp_region_lit ?_ | refine' wpList_nil ?_ | refine' then_normal ?_)) | ((with_reducible refine' l_step ?_); ((with_reducible refine' g_assign ?_); (conv => arg 5; simp only [zA, zB, ev, lget, zC, zD, zE, zF, zG, zH, zI, zJ, zK, zL, zM, zN, zO]))) | ((first | ((with_reducible refine' e_boxA ?hx ?_); (case hx => rfl)) | ((with_reducible refine' e_alloc ?hx ?_); (case hx => rfl))); intro _ _ _ _ _ _ _; (conv => arg 5; simp only [zA, zB, ev, lget, zC, zD, zE, zF, zG, zH, zI, zJ, zK, zL, zM, zN, zO])))
  refine stop_go ?_
  rename_i gx wx x1 x2 hx ex zx gO wo o1 o2 hO eO zO' gr wr r1 r2 hrr er zr
  have eR : Evt (fun _ => False) w wr := Evt.next er (Evt.next eO ex (fun _ _ h => h)) (fun _ _ h => h)
  have hxr := (hx.evt eO (fun h => h)).evt er (fun h => h)
  have hOr := hO.evt er (fun h => h)
  have nF : ∀ k, w.heap.size ≤ k → ¬ F k := fun k hk hh => by have := hS.net.lt k hh; omega
  clear hx hO
  repeat' (first | (with_reducible refine' stop_reg (id := 5) ?_) | (go_at_call 33; have hfr := fate_r G R N o.s _ (hS.ref.up (by exact eqq)) hr.fe (by rw [← hr.fe]; exact hr.fl) hss; simp only [hf] at hfr; refine hfr.mono ?_; clear hfr; rintro e wF ⟨R', rfl, q1, q2, q3, q4, hR2, evF⟩; have zF := evF.size; refine ⟨_, rfl, ?_⟩; simp only [rnC]; (conv => arg 5; simp only [zA, zB, ev, lget, zC, zD, zE, zF, zG, zH, zI, zJ, zK, zL, zM, zN, zO])) | (with_reducible (first | refine' wp_seq ?_ | refine' wp_region_lit ?_ | refine' wpList_nil ?_ | refine' then_normal ?_ | refine' wp_block ?_)) | ((with_reducible refine' c_condT ?hx ?_); (case hx => rfl)) | ((with_reducible refine' l_step ?_); (first | ((first | (with_reducible refine' g_move ?_) | (with_reducible refine' g_assign ?_) | ((with_reducible refine' g_fieldAddr ?hx ?ho ?_); (case hx => rfl); (case ho => rfl)) | ((first | (with_reducible refine' g_loadB ?hx ?hb ?hc ?_) | (with_reducible refine' g_loadS ?hx ?hb ?hn ?_)); (case hx => rfl); (case hb => exact bqq); first | (case hc => rfl) | (case hn => simp only [List.length_cons, List.length_nil]; omega)) | ((with_reducible refine' g_extract ?hx ?hv ?_); (case hx => rfl); (case hv => rfl))); (conv => arg 5; simp only [zA, zB, ev, lget, zC, zD, zE, zF, zG, zH, zI, zJ, zK, zL, zM, zN, zO])) | (((with_reducible refine' g_eql ?hx ?hy (fun _ => ?_) (fun _ => ?_)); (case hx => rfl)); (case hy => rfl); all_goals (first | (exfalso; omega) | (conv => arg 5; simp only [zA, zB, ev, lget, zC, zD, zE, zF, zG, zH, zI, zJ, zK, zL, zM, zN, zO]))))) | (((with_reducible refine' e_alloc ?hx ?_); (case hx => rfl)); intro _ _ _ _ _ _ _; (conv => arg 5; simp only [zA, zB, ev, lget, zC, zD, zE, zF, zG, zH, zI, zJ, zK, zL, zM, zN, zO])) | ((first | ((with_reducible refine' e_storeB ?hx ?hy ?hv ?h1 ?hb ?ho ?_); (case hx => rfl); (case hy => ((try simp only [ev, lget]); (try rfl))); (case hv => rfl); (case h1 => rfl)) | ((with_reducible refine' e_storeR ?hx ?hy ?h1 ?hb ?hn ?ho ?_); (case hx => rfl); (case hy => rfl); (case h1 => simp [Value.oneCell']); (case hn => rfl))); (case hb => exact bqq); (case ho => first | (simp only [List.length_cons, List.length_nil]; omega) | omega | (simp; omega) | simp); (try simp only [splice, zA, zB]); intro _ _ _ _) | ((with_reducible refine' l_call TFn.ent ?ha ?_); (case ha => simp only [zC, zD, ev, lget]; (try rfl))))
  refine stop_go ?_
  rename_i g8 w8 p1 p2 hb8 e8 z8 w9 hb9 e9 z9 w10 hb10 e10 z10
  have e010 : Evt (fun _ => False) w w10 := Evt.next e10 (Evt.next e9 (Evt.next e8 (Evt.next evF eR (fun _ _ h => h)) (fun _ _ h => h)) (fun k hk0 hk => by have h' : k = g8 := hk; omega)) (fun k hk0 hk => by have h' : k = gx := hk; omega)
  have eF10 : Evt (fun k => k = gx) wF w10 := Evt.next e10 (Evt.next e9 (e8.mono fun _ _ h => h.elim) (fun k hk0 hk => by exfalso; have h' : k = g8 := hk; omega)) (fun _ _ h => h)
  have hx10 : Blk w10 gx 67 (prC g R') := hb10
  have hO10 := (hOr.evt evF (fun h => h)).evt eF10 (by omega)
  have hr10 := (hrr.evt evF (fun h => h)).evt eF10 (by omega)
  have hN10 := hS.net.up e010
  have hR10 : RefAt w10 (Gn G wr wF) R' := hR2.evt eF10 (fun k _ hk hh => by
    have h' : k = gx := hh
    rcases hk with h1 | h1
    · have := hS.gl k h1; omega
    · omega) (fun _ h => h)
  have hTx : ¬ (F gx ∨ gx = gr) := fun hh => hh.elim (nF gx (by omega)) (by omega)
  have hTO : ¬ (F gO ∨ gO = gr) := fun hh => hh.elim (nF gO (by omega)) (by omega)
  have hFx : ¬ F gx := nF gx (by omega)
  have hFr : ¬ F gr := nF gr (by omega)
  have hFO : ¬ F gO := nF gO (by omega)
  clear hxr hOr hrr hR2 evF e8 e9 e10 eF10 hb10 hb8 er ex eO eR hb9
  repeat' (first | ((with_reducible refine' w_tree (id := 5) (fun k => F k ∨ k = gr) (.pure 0 (.pure 1 (.pure 2 (.pure 3 (.pure 4 (.pure 6 (.one 5 (.pure 7 (.one 8 (.pure 9 .done)))))))))) [7, 31, 32, 33, 34, 35, 36, 37, 38] (fun u w' => ∃ F', NetAt w' F' g N2 ∧ (∀ k, F' k → F k ∨ w10.heap.size ≤ k) ∧ Blk w' gr 67 (prC g R') ∧ u 7 = .bool true) ?hm ?hn ?hl ?hB ?ta5 ?tb5); (case hm => kernel_rfl); (case hn => kernel_rfl); (case hl => kernel_rfl); (case hB => kernel_rfl); intro _ _ _) | ((with_reducible refine' tt_pure ?hi ?hv ?_); (case hi => rfl); (case hv => intro _ hqS; have hqz := hqS.size; (first | ((first | (with_reducible refine' g_move ?_) | (with_reducible refine' g_assign ?_) | ((with_reducible refine' g_fieldAddr ?hx ?ho ?_); (case hx => rfl); (case ho => rfl)) | ((first | (with_reducible refine' g_loadB ?hx ?hb ?hc ?_) | (with_reducible refine' g_loadS ?hx ?hb ?hn ?_)); (case hx => rfl); (case hb => exact bqq); first | (case hc => rfl) | (case hn => simp only [List.length_cons, List.length_nil]; omega))); exact rfl) | (((with_reducible refine' g_eql ?hx ?hy (fun _ => ?_) (fun _ => ?_)); (case hx => rfl)); (case hy => rfl); all_goals (first | (exfalso; omega) | exact rfl)))); (conv => arg 6; simp only [zA, zB, ev, lget, zC, zD, zE, zF, zG, zH, zI, zJ, zK, zL, zM, zN, zO])) | ((with_reducible refine' tt_one ?hi ?_); (case hi => rfl)) | ((with_reducible refine' tt_done ?hS ?_); (case hS => exact eqq)) | (with_reducible refine' tt_nil ?_) | (go_at_call 11; (refine (fate_n g F N _ _ o.s _ (hN10.up (by exact eqq)) hr.fl hss hf).mono ?_); rintro e wG ⟨F1, rfl, hN1, hF1, evG⟩; have zG := evG.size; refine ⟨_, rfl, ?_⟩; (conv => arg 5; simp only [zA, zB, ev, lget, zC, zD, zE, zF, zG, zH, zI, zJ, zK, zL, zM, zN, zO])) | (with_reducible refine' wpList_nil ?_) | ((first | ((with_reducible refine' e_storeB ?hx ?hy ?hv ?h1 ?hb ?ho ?_); (case hx => rfl); (case hy => ((try simp only [ev, lget]); (try rfl))); (case hv => rfl); (case h1 => rfl)) | ((with_reducible refine' e_storeR ?hx ?hy ?h1 ?hb ?hn ?ho ?_); (case hx => rfl); (case hy => rfl); (case h1 => simp [Value.oneCell']); (case hn => rfl))); (case hb => exact bqq); (case ho => first | (simp only [List.length_cons, List.length_nil]; omega) | omega | (simp; omega) | simp); (try simp only [splice, zA, zB]); intro _ _ _ _) | ((with_reducible refine' l_call TFn.ent ?ha ?_); (case ha => simp only [zC, zD, ev, lget]; (try rfl))))
  all_goals try exact ⟨_, rfl, by simp only [setW, List.foldl_cons, List.foldl_nil, List.set_cons_succ, List.set_cons_zero], F1, hN1.evt (by assumption) (fun k hk hh => by
    have h' : k = gr := hh
    rcases hF1 k hk with h1 | h1
    · exact hFr (h' ▸ h1)
    · omega) (fun _ h => h) (fun k hk => Nat.lt_of_lt_of_le (hN1.lt k hk) (by assumption)), fun k hk => by
      rcases hF1 k hk with h1 | h1
      · exact .inl h1
      · exact .inr (by omega), by assumption, rfl⟩
  rintro u w' ev' hz' ⟨F', hN', hF', hr', h7⟩
  simp only [setW, List.foldl_cons, List.foldl_nil, List.set_cons_succ, List.set_cons_zero]
  simp only [h7]
  repeat' (first | (with_reducible (first | refine' then_normal ?_ | refine' wp_ret ?_ | refine' then_ret ?_ | refine' in_ret ?_)) | ((with_reducible refine' b_retN ?hr ?h2 ?ha ?_); (case hr => rfl); (case h2 => decide); (case ha => first | exact ra_nil | ((first | ((with_reducible refine' ra_tmp ?rv2 ?rh2); (case rv2 => ((try simp only [ev, lget]); (try rfl)))) | ((with_reducible refine' ra_cell ?rp2 ?rt2 ?rq2 ?rn2 ?rh2); (case rp2 => rfl); (case rt2 => infer_instance); (case rq2 => exact bqq); (case rn2 => rfl))); (case rh2 => first | exact ra_nil | ((first | ((with_reducible refine' ra_tmp ?rv1 ?rh1); (case rv1 => ((try simp only [ev, lget]); (try rfl)))) | ((with_reducible refine' ra_cell ?rp1 ?rt1 ?rq1 ?rn1 ?rh1); (case rp1 => rfl); (case rt1 => infer_instance); (case rq1 => exact bqq); (case rn1 => rfl))); (case rh1 => first | exact ra_nil)))))))
  refine ⟨F', Gn G wr wF, FB, N2, R', B, rfl, step_fin hS (.inl ⟨hk, by rw [hf], ?_⟩) hN' (hR10.evt ev' (fun k _ hk hh => ?_) (fun _ h => h)) (fun k hk => ?_) (fun k hk => ?_) (fun k hk => .inl hk) (fun k hk => ?_) (fun k hk hh => ?_) (Evt.next ev' (e010.mono fun _ _ h => h.elim) (fun k hk0 hk => ?_))⟩
  · show (⟨R'.now, R'.fates, R'.acc, R'.msgs⟩ : Rp) = _
    rw [q1, q2, q3, q4, hf]
    rfl
  · rcases hk with h1 | h1
    · rcases hh with h2 | h2
      · exact hS.fg k h2 h1
      · have := hS.gl k h1; omega
    · rcases hh with h2 | h2
      · exact nF k (by omega) h2
      · omega
  · rcases hF' k hk with h1 | h1
    · exact .inl h1
    · exact .inr (by omega)
  · rcases hk with h1 | h1
    · exact .inl h1
    · exact .inr (by omega)
  · rcases hk with h1 | h1
    · have := hS.gl k h1; omega
    · omega
  · rcases hF' k hk with h1 | h1
    · rcases hh with h2 | h2
      · exact hS.fg k h1 h2
      · exact nF k (by omega) h1
    · rcases hh with h2 | h2
      · have := hS.gl k h2; omega
      · omega
  · rcases hk with h1 | h1
    · exact h1
    · omega
set_option maxRecDepth 20000 in
set_option maxHeartbeats 8000000 in
theorem step2_any (F G FB : Nat → Prop) (g : Nat) (N : Net) (R : Rn) (gB : Nat) (B : Bm) (o : Opr) (w : World) (hS : St w F G FB g N R gB B) (hr : Rdy N R) (hk : o.kind = 2) :
    Calls Try.prog 31 #[.agg (prC g R).toArray, .agg (opC o).toArray, .pointer (some ⟨gB, 0, none⟩)] w fun e w' => ∃ F' G' FB' N' R' B', e = .returned (.tuple #[.agg (prC g R').toArray, .bool true]) ∧ StepAt w w' F G FB g N R gB B o F' G' FB' N' R' B' := by
  go_enter Try.func31, Try.ntmps31
  repeat' (first | (with_reducible refine' stop_reg (id := 1) ?_) | (with_reducible (first | refine' wp_seq ?_ | refine' wp_region_lit ?_ | refine' wpList_nil ?_ | refine' then_normal ?_)) | ((with_reducible refine' l_step ?_); ((with_reducible refine' g_assign ?_); (conv => arg 5; simp only [zA, zB, ev, lget, zC, zD, zE, zF, zG, zH, zI, zJ, zK, zL, zM, zN, zO]))) | ((first | ((with_reducible refine' e_boxA ?hx ?_); (case hx => rfl)) | ((with_reducible refine' e_alloc ?hx ?_); (case hx => rfl))); intro _ _ _ _ _ _ _; (conv => arg 5; simp only [zA, zB, ev, lget, zC, zD, zE, zF, zG, zH, zI, zJ, zK, zL, zM, zN, zO])))
  refine stop_go ?_
  rename_i gx wx x1 x2 hx ex zx gO wo o1 o2 hO eO zO' gr wr r1 r2 hrr er zr
  have eR : Evt (fun _ => False) w wr := Evt.next er (Evt.next eO ex (fun _ _ h => h)) (fun _ _ h => h)
  have hxr := (hx.evt eO (fun h => h)).evt er (fun h => h)
  have hOr := hO.evt er (fun h => h)
  have nF : ∀ k, w.heap.size ≤ k → ¬ F k := fun k hk hh => by have := hS.net.lt k hh; omega
  have hFx : ¬ F gx := nF gx (by omega)
  have hFr : ¬ F gr := nF gr (by omega)
  have hFO : ¬ F gO := nF gO (by omega)
  clear hx hO
  have hN0 := hS.net.up eR
  repeat' (first | (with_reducible refine' stop_reg (id := 8) ?_) | (go_at_call 26; (with_reducible refine (calm_any g F N _ hN0).mono ?_); rintro e wC ⟨rfl, hN1, evC⟩; have zC' := evC.size; refine ⟨_, rfl, ?_⟩; (conv => arg 5; simp only [zA, zB, ev, lget, zC, zD, zE, zF, zG, zH, zI, zJ, zK, zL, zM, zN, zO])) | (with_reducible (first | refine' wp_seq ?_ | refine' wp_region_lit ?_ | refine' wpList_nil ?_ | refine' then_normal ?_ | refine' wp_block ?_)) | ((with_reducible refine' c_condT ?hx ?_); (case hx => rfl)) | ((with_reducible refine' c_condF ?hx ?_); (case hx => rfl)) | ((with_reducible refine' l_step ?_); (first | ((first | (with_reducible refine' g_assign ?_) | ((with_reducible refine' g_fieldAddr ?hx ?ho ?_); (case hx => rfl); (case ho => rfl)) | ((with_reducible refine' g_loadB ?hx ?hb ?hc ?_); (case hx => rfl); (case hb => exact bqq); first | (case hc => rfl) | (case hn => simp only [List.length_cons, List.length_nil]; omega))); (conv => arg 5; simp only [zA, zB, ev, lget, zC, zD, zE, zF, zG, zH, zI, zJ, zK, zL, zM, zN, zO])) | (((with_reducible refine' g_eql ?hx ?hy (fun _ => ?_) (fun _ => ?_)); (case hx => rfl)); (case hy => rfl); all_goals (first | (exfalso; omega) | (conv => arg 5; simp only [zA, zB, ev, lget, zC, zD, zE, zF, zG, zH, zI, zJ, zK, zL, zM, zN, zO]))))) | ((with_reducible refine' l_call TFn.ent ?ha ?_); (case ha => simp only [zC, zD, ev, lget]; (try rfl))))
  refine stop_go ?_
  have hxC := hxr.evt evC hFx
  have hOC := hOr.evt evC hFO
  have hrC := hrr.evt evC hFr
  have hRC : RefAt wC G R := (hS.ref.up eR).evt evC (fun k _ hk hh => hS.fg k hh hk) (fun _ h => h)
  have e0C : Evt F w wC := Evt.next evC (eR.mono fun _ _ h => h.elim) (fun _ _ h => h)
  clear hxr hOr hrr
  repeat' (first | (with_reducible refine' stop_reg (id := 30) ?_) | (go_at_call 34; (refine (calm_r G R _ (hRC.up (by exact eqq))).mono ?_); rintro e wR ⟨rfl, hR2, evR⟩; have zR := evR.size; refine ⟨_, rfl, ?_⟩; simp only [rnC]; (conv => arg 5; simp only [zA, zB, ev, lget, zC, zD, zE, zF, zG, zH, zI, zJ, zK, zL, zM, zN, zO])) | (with_reducible (first | refine' wp_seq ?_ | refine' wp_region_lit ?_ | refine' wpList_nil ?_ | refine' then_normal ?_ | refine' in_normal ?_)) | ((with_reducible refine' l_step ?_); ((first | ((with_reducible refine' g_fieldAddr ?hx ?ho ?_); (case hx => rfl); (case ho => rfl)) | ((with_reducible refine' g_loadS ?hx ?hb ?hn ?_); (case hx => rfl); (case hb => exact bqq); first | (case hc => rfl) | (case hn => simp only [List.length_cons, List.length_nil]; omega))); (conv => arg 5; simp only [zA, zB, ev, lget, zC, zD, zE, zF, zG, zH, zI, zJ, zK, zL, zM, zN, zO]))) | ((first | ((with_reducible refine' e_storeB ?hx ?hy ?hv ?h1 ?hb ?ho ?_); (case hx => rfl); (case hy => ((try simp only [ev, lget]); (try rfl))); (case hv => rfl); (case h1 => rfl)) | ((with_reducible refine' e_storeR ?hx ?hy ?h1 ?hb ?hn ?ho ?_); (case hx => rfl); (case hy => rfl); (case h1 => simp [Value.oneCell']); (case hn => rfl))); (case hb => exact bqq); (case ho => first | (simp only [List.length_cons, List.length_nil]; omega) | omega | (simp; omega) | simp); (try simp only [splice, zA, zB]); intro _ _ _ _) | ((with_reducible refine' l_call TFn.ent ?ha ?_); (case ha => simp only [zC, zD, ev, lget]; (try rfl))))
  refine stop_go ?_
  repeat' (first | (with_reducible (first | refine' wp_region_lit ?_ | refine' wpList_nil ?_ | refine' then_normal ?_ | refine' wp_ret ?_)) | ((with_reducible refine' b_retN ?hr ?h2 ?ha ?_); (case hr => rfl); (case h2 => decide); (case ha => first | exact ra_nil | ((first | ((with_reducible refine' ra_tmp ?rv2 ?rh2); (case rv2 => ((try simp only [ev, lget]); (try rfl)))) | ((with_reducible refine' ra_cell ?rp2 ?rt2 ?rq2 ?rn2 ?rh2); (case rp2 => rfl); (case rt2 => infer_instance); (case rq2 => exact bqq); (case rn2 => rfl))); (case rh2 => first | exact ra_nil | ((first | ((with_reducible refine' ra_tmp ?rv1 ?rh1); (case rv1 => ((try simp only [ev, lget]); (try rfl)))) | ((with_reducible refine' ra_cell ?rp1 ?rt1 ?rq1 ?rn1 ?rh1); (case rp1 => rfl); (case rt1 => infer_instance); (case rq1 => exact bqq); (case rn1 => rfl))); (case rh1 => first | exact ra_nil)))))) | ((with_reducible refine' l_step ?_); ((first | (with_reducible refine' g_assign ?_) | ((with_reducible refine' g_loadS ?hx ?hb ?hn ?_); (case hx => rfl); (case hb => exact bqq); first | (case hc => rfl) | (case hn => simp only [List.length_cons, List.length_nil]; omega))); (conv => arg 5; simp only [zA, zB, ev, lget, zC, zD, zE, zF, zG, zH, zI, zJ, zK, zL, zM, zN, zO]))) | ((first | ((with_reducible refine' e_storeB ?hx ?hy ?hv ?h1 ?hb ?ho ?_); (case hx => rfl); (case hy => ((try simp only [ev, lget]); (try rfl))); (case hv => rfl); (case h1 => rfl)) | ((with_reducible refine' e_storeR ?hx ?hy ?h1 ?hb ?hn ?ho ?_); (case hx => rfl); (case hy => rfl); (case h1 => simp [Value.oneCell']); (case hn => rfl))); (case hb => exact bqq); (case ho => first | (simp only [List.length_cons, List.length_nil]; omega) | omega | (simp; omega) | simp); (try simp only [splice, zA, zB]); intro _ _ _ _))
  rename_i w5 h5 e5 z5 w6 h6 e6 z6
  have e56 : Evt (fun k => w.heap.size ≤ k ∧ k < wr.heap.size) wR w6 := Evt.next e6 (e5.mono fun k _ hk => by have h' : k = gx := hk; omega) (fun k _ hk => by have h' : k = gr := hk; omega)
  exact ⟨F, Gn G wC wR, FB, { N with fates := [] }, { R with fates := [], AF := none, cF := 0 }, B, rfl, step_fin2 (m := wr.heap.size) hS (.inr (.inl ⟨hk, rfl, rfl⟩)) (hN1.up evR) hR2 (Evt.next evR e0C (fun _ _ h => h.elim)) (by omega) (fun k hk => .inl hk) (fun k hk => by
    rcases hk with h1 | h1
    · exact .inl h1
    · exact .inr (by omega)) (fun k hk => .inl hk) (fun k hk => by
    rcases hk with h1 | h1
    · have := hS.gl k h1; omega
    · omega) (fun k hk hh => by
    rcases hh with h1 | h1
    · exact hS.fg k hk h1
    · exact nF k (by omega) hk) e56⟩
set_option maxRecDepth 20000 in
set_option maxHeartbeats 8000000 in
theorem step3_any (F G FB H : Nat → Prop) (g : Nat) (N : Net) (R : Rn) (gB : Nat) (B : Bm) (o : Opr) (w : World) (hS : St w F G FB g N R gB B) (hr : Rdy N R) (hrg : RG w H o.A (u8s o.body)) (hH : ∀ k, H k → ¬ F k ∧ k < w.heap.size) (hbl : o.body.length ≤ 1048576) (hk : o.kind = 3) :
    Calls Try.prog 31 #[.agg (prC g R).toArray, .agg (opC o).toArray, .pointer (some ⟨gB, 0, none⟩)] w fun e w' => ∃ F' G' FB' N' R' B', e = .returned (.tuple #[.agg (prC g R').toArray, .bool true]) ∧ StepAt w w' F G FB g N R gB B o F' G' FB' N' R' B' := by
  go_enter Try.func31, Try.ntmps31
  repeat' (first | (with_reducible refine' stop_reg (id := 1) ?_) | (with_reducible (first | refine' wp_seq ?_ | refine' wp_region_lit ?_ | refine' wpList_nil ?_ | refine' then_normal ?_)) | ((with_reducible refine' l_step ?_); ((with_reducible refine' g_assign ?_); (conv => arg 5; simp only [zA, zB, ev, lget, zC, zD, zE, zF, zG, zH, zI, zJ, zK, zL, zM, zN, zO]))) | ((first | ((with_reducible refine' e_boxA ?hx ?_); (case hx => rfl)) | ((with_reducible refine' e_alloc ?hx ?_); (case hx => rfl))); intro _ _ _ _ _ _ _; (conv => arg 5; simp only [zA, zB, ev, lget, zC, zD, zE, zF, zG, zH, zI, zJ, zK, zL, zM, zN, zO])))
  refine stop_go ?_
  rename_i gx wx x1 x2 hx ex zx gO wo o1 o2 hO eO zO' gr wr r1 r2 hrr er zr
  have eR : Evt (fun _ => False) w wr := Evt.next er (Evt.next eO ex (fun _ _ h => h)) (fun _ _ h => h)
  have hxr := (hx.evt eO (fun h => h)).evt er (fun h => h)
  have hOr := hO.evt er (fun h => h)
  have nF : ∀ k, w.heap.size ≤ k → ¬ F k := fun k hk hh => by have := hS.net.lt k hh; omega
  have hFx : ¬ F gx := nF gx (by omega)
  have hFr : ¬ F gr := nF gr (by omega)
  have hFO : ¬ F gO := nF gO (by omega)
  clear hx hO
  repeat' (first | (go_at_call 35; (refine (sent_any F G H g N R o _ (hS.net.up eR) (hS.ref.up eR) (fun k hk => by have := hS.gl k hk; omega) hS.fg hr (hrg.evt eR (fun _ _ _ h => h) (fun _ h => h)) (fun k hk => ⟨(hH k hk).1, by have := (hH k hk).2; omega⟩) hbl).mono ?_); rintro e wS ⟨F', G', N', R', rfl, hT⟩; have zS := hT.evt.size; have hrS := hrr.evt hT.evt hFr; refine ⟨_, rfl, ?_⟩; (conv => arg 5; simp only [zA, zB, ev, lget, zC, zD, zE, zF, zG, zH, zI, zJ, zK, zL, zM, zN, zO])) | (with_reducible (first | refine' wp_seq ?_ | refine' wp_region_lit ?_ | refine' wpList_nil ?_ | refine' then_normal ?_ | refine' wp_block ?_ | refine' wp_ret ?_ | refine' then_ret ?_ | refine' in_ret ?_)) | ((with_reducible refine' c_condT ?hx ?_); (case hx => rfl)) | ((with_reducible refine' c_condF ?hx ?_); (case hx => rfl)) | ((with_reducible refine' b_retN ?hr ?h2 ?ha ?_); (case hr => rfl); (case h2 => decide); (case ha => first | exact ra_nil | ((first | ((with_reducible refine' ra_tmp ?rv2 ?rh2); (case rv2 => ((try simp only [ev, lget]); (try rfl)))) | ((with_reducible refine' ra_cell ?rp2 ?rt2 ?rq2 ?rn2 ?rh2); (case rp2 => rfl); (case rt2 => infer_instance); (case rq2 => exact bqq); (case rn2 => rfl))); (case rh2 => first | exact ra_nil | ((first | ((with_reducible refine' ra_tmp ?rv1 ?rh1); (case rv1 => ((try simp only [ev, lget]); (try rfl)))) | ((with_reducible refine' ra_cell ?rp1 ?rt1 ?rq1 ?rn1 ?rh1); (case rp1 => rfl); (case rt1 => infer_instance); (case rq1 => exact bqq); (case rn1 => rfl))); (case rh1 => first | exact ra_nil)))))) | ((with_reducible refine' l_step ?_); (first | ((first | (with_reducible refine' g_assign ?_) | ((with_reducible refine' g_fieldAddr ?hx ?ho ?_); (case hx => rfl); (case ho => rfl)) | ((first | (with_reducible refine' g_loadB ?hx ?hb ?hc ?_) | (with_reducible refine' g_loadS ?hx ?hb ?hn ?_)); (case hx => rfl); (case hb => exact bqq); first | (case hc => rfl) | (case hn => simp only [List.length_cons, List.length_nil]; omega)) | ((with_reducible refine' g_extract ?hx ?hv ?_); (case hx => rfl); (case hv => rfl))); (conv => arg 5; simp only [zA, zB, ev, lget, zC, zD, zE, zF, zG, zH, zI, zJ, zK, zL, zM, zN, zO])) | (((with_reducible refine' g_eql ?hx ?hy (fun _ => ?_) (fun _ => ?_)); (case hx => rfl)); (case hy => rfl); all_goals (first | (exfalso; omega) | (conv => arg 5; simp only [zA, zB, ev, lget, zC, zD, zE, zF, zG, zH, zI, zJ, zK, zL, zM, zN, zO]))))) | ((first | ((with_reducible refine' e_storeB ?hx ?hy ?hv ?h1 ?hb ?ho ?_); (case hx => rfl); (case hy => ((try simp only [ev, lget]); (try rfl))); (case hv => rfl); (case h1 => rfl)) | ((with_reducible refine' e_storeR ?hx ?hy ?h1 ?hb ?hn ?ho ?_); (case hx => rfl); (case hy => rfl); (case h1 => simp [Value.oneCell']); (case hn => rfl))); (case hb => exact bqq); (case ho => first | (simp only [List.length_cons, List.length_nil]; omega) | omega | (simp; omega) | simp); (try simp only [splice, zA, zB]); intro _ _ _ _) | ((with_reducible refine' l_call TFn.ent ?ha ?_); (case ha => simp only [zC, zD, ev, lget]; (try rfl))))
  rename_i w6 h6 e6 z6
  exact ⟨F', G', FB, N', R', B, rfl, step_fin2 (m := wr.heap.size) hS (.inr (.inr (.inl ⟨hk, hT.hN, hT.hR⟩))) hT.net hT.ref (Evt.next hT.evt (eR.mono fun _ _ h => h.elim) (fun _ _ h => h)) (by omega) hT.fF hT.gG hT.gU hT.gl hT.fg (e6.mono fun k _ hk => by have h' : k = gr := hk; omega)⟩
set_option maxRecDepth 20000 in
set_option maxHeartbeats 8000000 in
theorem step5_any (F G FB : Nat → Prop) (g : Nat) (N : Net) (R : Rn) (gB : Nat) (B : Bm) (o : Opr) (w : World) (hS : St w F G FB g N R gB B) (hr : Rdy N R) (hk : o.kind = 5) :
    Calls Try.prog 31 #[.agg (prC g R).toArray, .agg (opC o).toArray, .pointer (some ⟨gB, 0, none⟩)] w fun e w' => ∃ F' G' FB' N' R' B', e = .returned (.tuple #[.agg (prC g R').toArray, .bool true]) ∧ StepAt w w' F G FB g N R gB B o F' G' FB' N' R' B' := by
  go_enter Try.func31, Try.ntmps31
  repeat' (first | (with_reducible refine' stop_reg (id := 1) ?_) | (with_reducible (first | refine' wp_seq ?_ | refine' wp_region_lit ?_ | refine' wpList_nil ?_ | refine' then_normal ?_)) | ((with_reducible refine' l_step ?_); ((with_reducible refine' g_assign ?_); (conv => arg 5; simp only [zA, zB, ev, lget, zC, zD, zE, zF, zG, zH, zI, zJ, zK, zL, zM, zN, zO]))) | ((first | ((with_reducible refine' e_boxA ?hx ?_); (case hx => rfl)) | ((with_reducible refine' e_alloc ?hx ?_); (case hx => rfl))); intro _ _ _ _ _ _ _; (conv => arg 5; simp only [zA, zB, ev, lget, zC, zD, zE, zF, zG, zH, zI, zJ, zK, zL, zM, zN, zO])))
  refine stop_go ?_
  rename_i gx wx x1 x2 hx ex zx gO wo o1 o2 hO eO zO' gr wr r1 r2 hrr er zr
  have eR : Evt (fun _ => False) w wr := Evt.next er (Evt.next eO ex (fun _ _ h => h)) (fun _ _ h => h)
  have hxr := (hx.evt eO (fun h => h)).evt er (fun h => h)
  have hOr := hO.evt er (fun h => h)
  have nF : ∀ k, w.heap.size ≤ k → ¬ F k := fun k hk hh => by have := hS.net.lt k hh; omega
  have hFx : ¬ F gx := nF gx (by omega)
  have hFr : ¬ F gr := nF gr (by omega)
  have hFO : ¬ F gO := nF gO (by omega)
  clear hx hO
  have hnw : N.now = R.now := hr.nr.now
  have hN0 := hS.net.up eR
  repeat' (first | ((with_reducible refine' w_tree (id := 19) (fun k => k = gr) (.pure 0 (.pure 1 (.pure 2 (.pure 4 (.pure 5 (.pure 6 (.one 3 (.pure 7 (.one 8 (.pure 9 .done)))))))))) [7, 78, 79, 80, 81, 82, 83, 84, 85] (fun u w' => Blk w' gr 67 (prC g R) ∧ u 7 = .bool true) ?hm ?hn ?hl ?hB ?ta19 ?tb19); (case hm => kernel_rfl); (case hn => kernel_rfl); (case hl => kernel_rfl); (case hB => kernel_rfl); intro _ _ _) | ((with_reducible refine' tt_pure ?hi ?hv ?_); (case hi => rfl); (case hv => intro _ hqS; have hqz := hqS.size; (first | ((first | (with_reducible refine' g_assign ?_) | ((with_reducible refine' g_fieldAddr ?hx ?ho ?_); (case hx => rfl); (case ho => rfl)) | ((first | (with_reducible refine' g_loadB ?hx ?hb ?hc ?_) | (with_reducible refine' g_loadS ?hx ?hb ?hn ?_)); (case hx => rfl); (case hb => exact bqq); first | (case hc => rfl) | (case hn => simp only [List.length_cons, List.length_nil]; omega))); exact rfl) | (((with_reducible refine' g_eql ?hx ?hy (fun _ => ?_) (fun _ => ?_)); (case hx => rfl)); (case hy => rfl); all_goals (first | (exfalso; omega) | exact rfl)))); (conv => arg 6; simp only [zA, zB, ev, lget, zC, zD, zE, zF, zG, zH, zI, zJ, zK, zL, zM, zN, zO])) | ((with_reducible refine' tt_one ?hi ?_); (case hi => rfl)) | ((with_reducible refine' tt_done ?hS ?_); (case hS => exact eqq)) | (with_reducible refine' tt_nil ?_) | (go_at_call 22; (with_reducible refine (now_q g F N _ (hN0.up (by exact eqq))).mono ?_); rintro e wG ⟨rfl, evG⟩; have zG := evG.size; refine ⟨_, rfl, ?_⟩; (conv => arg 5; simp only [zA, zB, ev, lget, zC, zD, zE, zF, zG, zH, zI, zJ, zK, zL, zM, zN, zO])) | (with_reducible (first | refine' wp_seq ?_ | refine' wp_region_lit ?_ | refine' wpList_nil ?_ | refine' then_normal ?_ | refine' wp_block ?_)) | ((with_reducible refine' c_condT ?hx ?_); (case hx => rfl)) | ((with_reducible refine' c_condF ?hx ?_); (case hx => rfl)) | ((with_reducible refine' l_step ?_); (first | ((first | (with_reducible refine' g_assign ?_) | ((with_reducible refine' g_fieldAddr ?hx ?ho ?_); (case hx => rfl); (case ho => rfl)) | ((with_reducible refine' g_loadB ?hx ?hb ?hc ?_); (case hx => rfl); (case hb => exact bqq); first | (case hc => rfl) | (case hn => simp only [List.length_cons, List.length_nil]; omega))); (conv => arg 5; simp only [zA, zB, ev, lget, zC, zD, zE, zF, zG, zH, zI, zJ, zK, zL, zM, zN, zO])) | (((with_reducible refine' g_eql ?hx ?hy (fun _ => ?_) (fun _ => ?_)); (case hx => rfl)); (case hy => rfl); all_goals (first | (exfalso; omega) | (conv => arg 5; simp only [zA, zB, ev, lget, zC, zD, zE, zF, zG, zH, zI, zJ, zK, zL, zM, zN, zO]))))) | ((first | ((with_reducible refine' e_storeB ?hx ?hy ?hv ?h1 ?hb ?ho ?_); (case hx => rfl); (case hy => ((try simp only [ev, lget]); (try rfl))); (case hv => rfl); (case h1 => rfl)) | ((with_reducible refine' e_storeR ?hx ?hy ?h1 ?hb ?hn ?ho ?_); (case hx => rfl); (case hy => rfl); (case h1 => simp [Value.oneCell']); (case hn => rfl))); (case hb => exact bqq); (case ho => first | (simp only [List.length_cons, List.length_nil]; omega) | omega | (simp; omega) | simp); (try simp only [splice, zA, zB]); intro _ _ _ _) | ((with_reducible refine' l_call TFn.ent ?ha ?_); (case ha => simp only [zC, zD, ev, lget]; (try rfl))))
  all_goals try exact ⟨_, rfl, by simp only [setW, List.foldl_cons, List.foldl_nil, List.set_cons_succ, List.set_cons_zero], by assumption, rfl⟩
  rintro u w' ev' hz' ⟨hr', h7⟩
  simp only [setW, List.foldl_cons, List.foldl_nil, List.set_cons_succ, List.set_cons_zero]
  simp only [h7]
  repeat' (first | (with_reducible (first | refine' then_normal ?_ | refine' wp_ret ?_ | refine' then_ret ?_ | refine' in_ret ?_)) | ((with_reducible refine' b_retN ?hr ?h2 ?ha ?_); (case hr => rfl); (case h2 => decide); (case ha => first | exact ra_nil | ((first | ((with_reducible refine' ra_tmp ?rv2 ?rh2); (case rv2 => ((try simp only [ev, lget]); (try rfl)))) | ((with_reducible refine' ra_cell ?rp2 ?rt2 ?rq2 ?rn2 ?rh2); (case rp2 => rfl); (case rt2 => infer_instance); (case rq2 => exact bqq); (case rn2 => rfl))); (case rh2 => first | exact ra_nil | ((first | ((with_reducible refine' ra_tmp ?rv1 ?rh1); (case rv1 => ((try simp only [ev, lget]); (try rfl)))) | ((with_reducible refine' ra_cell ?rp1 ?rt1 ?rq1 ?rn1 ?rh1); (case rp1 => rfl); (case rt1 => infer_instance); (case rq1 => exact bqq); (case rn1 => rfl))); (case rh1 => first | exact ra_nil)))))))
  exact ⟨F, G, FB, N, R, B, rfl, step_fin2 (m := wr.heap.size) hS (.inr (.inr (.inr (.inr ⟨⟨by omega, by omega, by omega, by omega⟩, rfl, rfl⟩)))) hN0 (hS.ref.up eR) (eR.mono fun _ _ h => h.elim) (by omega) (fun k hk => .inl hk) (fun k hk => .inl hk) (fun k hk => hk) (fun k hk => by have := hS.gl k hk; omega) hS.fg (ev'.mono fun k _ hk => by have h' : k = gr := hk; omega)⟩
set_option maxRecDepth 20000 in
set_option maxHeartbeats 8000000 in
theorem step7_any (F G FB : Nat → Prop) (g : Nat) (N : Net) (R : Rn) (gB : Nat) (B : Bm) (o : Opr) (w : World) (hS : St w F G FB g N R gB B) (hr : Rdy N R) (hk : o.kind = 7) :
    Calls Try.prog 31 #[.agg (prC g R).toArray, .agg (opC o).toArray, .pointer (some ⟨gB, 0, none⟩)] w fun e w' => ∃ F' G' FB' N' R' B', e = .returned (.tuple #[.agg (prC g R').toArray, .bool true]) ∧ StepAt w w' F G FB g N R gB B o F' G' FB' N' R' B' := by
  go_enter Try.func31, Try.ntmps31
  repeat' (first | (with_reducible refine' stop_reg (id := 1) ?_) | (with_reducible (first | refine' wp_seq ?_ | refine' wp_region_lit ?_ | refine' wpList_nil ?_ | refine' then_normal ?_)) | ((with_reducible refine' l_step ?_); ((with_reducible refine' g_assign ?_); (conv => arg 5; simp only [zA, zB, ev, lget, zC, zD, zE, zF, zG, zH, zI, zJ, zK, zL, zM, zN, zO]))) | ((first | ((with_reducible refine' e_boxA ?hx ?_); (case hx => rfl)) | ((with_reducible refine' e_alloc ?hx ?_); (case hx => rfl))); intro _ _ _ _ _ _ _; (conv => arg 5; simp only [zA, zB, ev, lget, zC, zD, zE, zF, zG, zH, zI, zJ, zK, zL, zM, zN, zO])))
  refine stop_go ?_
  rename_i gx wx x1 x2 hx ex zx gO wo o1 o2 hO eO zO' gr wr r1 r2 hrr er zr
  have eR : Evt (fun _ => False) w wr := Evt.next er (Evt.next eO ex (fun _ _ h => h)) (fun _ _ h => h)
  have hxr := (hx.evt eO (fun h => h)).evt er (fun h => h)
  have hOr := hO.evt er (fun h => h)
  have nF : ∀ k, w.heap.size ≤ k → ¬ F k := fun k hk hh => by have := hS.net.lt k hh; omega
  have hFx : ¬ F gx := nF gx (by omega)
  have hFr : ¬ F gr := nF gr (by omega)
  have hFO : ¬ F gO := nF gO (by omega)
  clear hx hO
  have hfl : (N.fly.length : Int) = cntR R.now R.msgs := nr_flying hr.nr
  have hN0 := hS.net.up eR
  have hR0 := hS.ref.up eR
  repeat' (first | ((with_reducible refine' w_tree (id := 29) (fun k => k = gr) (.pure 0 (.pure 1 (.pure 2 (.pure 4 (.pure 5 (.one 3 (.one 6 (.pure 7 (.one 8 (.pure 9 .done)))))))))) [7, 117, 118, 119, 120, 121, 122, 123, 124] (fun u w' => Blk w' gr 67 (prC g R) ∧ u 7 = .bool true) ?hm ?hn ?hl ?hB ?ta29 ?tb29); (case hm => kernel_rfl); (case hn => kernel_rfl); (case hl => kernel_rfl); (case hB => kernel_rfl); intro _ _ _) | ((with_reducible refine' tt_pure ?hi ?hv ?_); (case hi => rfl); (case hv => intro _ hqS; have hqz := hqS.size; (first | ((first | (with_reducible refine' g_assign ?_) | ((with_reducible refine' g_fieldAddr ?hx ?ho ?_); (case hx => rfl); (case ho => rfl)) | ((first | (with_reducible refine' g_loadB ?hx ?hb ?hc ?_) | (with_reducible refine' g_loadS ?hx ?hb ?hn ?_)); (case hx => rfl); (case hb => exact bqq); first | (case hc => rfl) | (case hn => simp only [List.length_cons, List.length_nil]; omega))); exact rfl) | (((with_reducible refine' g_eql ?hx ?hy (fun _ => ?_) (fun _ => ?_)); (case hx => rfl)); (case hy => rfl); all_goals (first | (exfalso; omega) | exact rfl)))); (conv => arg 6; simp only [zA, zB, ev, lget, zC, zD, zE, zF, zG, zH, zI, zJ, zK, zL, zM, zN, zO])) | ((with_reducible refine' tt_one ?hi ?_); (case hi => rfl)) | ((with_reducible refine' tt_done ?hS ?_); (case hS => exact eqq)) | (with_reducible refine' tt_nil ?_) | (go_at_call 14; (with_reducible refine (flying_q g F N _ (hN0.up (by exact eqq))).mono ?_); rintro e wG ⟨rfl, evG⟩; have zG := evG.size; refine ⟨_, rfl, ?_⟩; (conv => arg 5; simp only [zA, zB, ev, lget, zC, zD, zE, zF, zG, zH, zI, zJ, zK, zL, zM, zN, zO])) | (go_at_call 39; (refine (flying_r G R _ (hR0.up (by exact eqq)) (by have := hr.msgs; omega)).mono ?_); rintro e wH ⟨rfl, evH⟩; have zH := evH.size; refine ⟨_, rfl, ?_⟩; (conv => arg 5; simp only [zA, zB, ev, lget, zC, zD, zE, zF, zG, zH, zI, zJ, zK, zL, zM, zN, zO])) | (with_reducible (first | refine' wp_seq ?_ | refine' wp_region_lit ?_ | refine' wpList_nil ?_ | refine' then_normal ?_ | refine' wp_block ?_)) | ((with_reducible refine' c_condT ?hx ?_); (case hx => rfl)) | ((with_reducible refine' c_condF ?hx ?_); (case hx => rfl)) | ((with_reducible refine' l_step ?_); (first | ((first | (with_reducible refine' g_assign ?_) | ((with_reducible refine' g_fieldAddr ?hx ?ho ?_); (case hx => rfl); (case ho => rfl)) | ((with_reducible refine' g_loadB ?hx ?hb ?hc ?_); (case hx => rfl); (case hb => exact bqq); first | (case hc => rfl) | (case hn => simp only [List.length_cons, List.length_nil]; omega))); (conv => arg 5; simp only [zA, zB, ev, lget, zC, zD, zE, zF, zG, zH, zI, zJ, zK, zL, zM, zN, zO])) | (((with_reducible refine' g_eql ?hx ?hy (fun _ => ?_) (fun _ => ?_)); (case hx => rfl)); (case hy => rfl); all_goals (first | (exfalso; omega) | (conv => arg 5; simp only [zA, zB, ev, lget, zC, zD, zE, zF, zG, zH, zI, zJ, zK, zL, zM, zN, zO]))))) | ((first | ((with_reducible refine' e_storeB ?hx ?hy ?hv ?h1 ?hb ?ho ?_); (case hx => rfl); (case hy => ((try simp only [ev, lget]); (try rfl))); (case hv => rfl); (case h1 => rfl)) | ((with_reducible refine' e_storeR ?hx ?hy ?h1 ?hb ?hn ?ho ?_); (case hx => rfl); (case hy => rfl); (case h1 => simp [Value.oneCell']); (case hn => rfl))); (case hb => exact bqq); (case ho => first | (simp only [List.length_cons, List.length_nil]; omega) | omega | (simp; omega) | simp); (try simp only [splice, zA, zB]); intro _ _ _ _) | ((with_reducible refine' l_call TFn.ent ?ha ?_); (case ha => simp only [zC, zD, ev, lget]; (try rfl))))
  all_goals try exact ⟨_, rfl, by simp only [setW, List.foldl_cons, List.foldl_nil, List.set_cons_succ, List.set_cons_zero], by assumption, rfl⟩
  rintro u w' ev' hz' ⟨hr', h7⟩
  simp only [setW, List.foldl_cons, List.foldl_nil, List.set_cons_succ, List.set_cons_zero]
  simp only [h7]
  repeat' (first | (with_reducible (first | refine' then_normal ?_ | refine' wp_ret ?_ | refine' then_ret ?_ | refine' in_ret ?_)) | ((with_reducible refine' b_retN ?hr ?h2 ?ha ?_); (case hr => rfl); (case h2 => decide); (case ha => first | exact ra_nil | ((first | ((with_reducible refine' ra_tmp ?rv2 ?rh2); (case rv2 => ((try simp only [ev, lget]); (try rfl)))) | ((with_reducible refine' ra_cell ?rp2 ?rt2 ?rq2 ?rn2 ?rh2); (case rp2 => rfl); (case rt2 => infer_instance); (case rq2 => exact bqq); (case rn2 => rfl))); (case rh2 => first | exact ra_nil | ((first | ((with_reducible refine' ra_tmp ?rv1 ?rh1); (case rv1 => ((try simp only [ev, lget]); (try rfl)))) | ((with_reducible refine' ra_cell ?rp1 ?rt1 ?rq1 ?rn1 ?rh1); (case rp1 => rfl); (case rt1 => infer_instance); (case rq1 => exact bqq); (case rn1 => rfl))); (case rh1 => first | exact ra_nil)))))))
  exact ⟨F, G, FB, N, R, B, rfl, step_fin2 (m := wr.heap.size) hS (.inr (.inr (.inr (.inr ⟨⟨by omega, by omega, by omega, by omega⟩, rfl, rfl⟩)))) hN0 (hS.ref.up eR) (eR.mono fun _ _ h => h.elim) (by omega) (fun k hk => .inl hk) (fun k hk => .inl hk) (fun k hk => hk) (fun k hk => by have := hS.gl k hk; omega) hS.fg (ev'.mono fun k _ hk => by have h' : k = gr := hk; omega)⟩
set_option maxRecDepth 20000 in
set_option maxHeartbeats 8000000 in
theorem step0_any (F G FB : Nat → Prop) (g : Nat) (N : Net) (R : Rn) (gB : Nat) (B : Bm) (o : Opr) (w : World) (hS : St w F G FB g N R gB B) (hr : Rdy N R) (hk : o.kind ≠ 1 ∧ o.kind ≠ 2 ∧ o.kind ≠ 3 ∧ o.kind ≠ 4 ∧ o.kind ≠ 5 ∧ o.kind ≠ 6 ∧ o.kind ≠ 7) :
    Calls Try.prog 31 #[.agg (prC g R).toArray, .agg (opC o).toArray, .pointer (some ⟨gB, 0, none⟩)] w fun e w' => ∃ F' G' FB' N' R' B', e = .returned (.tuple #[.agg (prC g R').toArray, .bool true]) ∧ StepAt w w' F G FB g N R gB B o F' G' FB' N' R' B' := by
  obtain ⟨c1, c2, c3, c4, c5, c6, c7⟩ := hk
  go_enter Try.func31, Try.ntmps31
  repeat' (first | (with_reducible refine' stop_reg (id := 1) ?_) | (with_reducible (first | refine' wp_seq ?_ | refine' wp_region_lit ?_ | refine' wpList_nil ?_ | refine' then_normal ?_)) | ((with_reducible refine' l_step ?_); ((with_reducible refine' g_assign ?_); (conv => arg 5; simp only [zA, zB, ev, lget, zC, zD, zE, zF, zG, zH, zI, zJ, zK, zL, zM, zN, zO]))) | ((first | ((with_reducible refine' e_boxA ?hx ?_); (case hx => rfl)) | ((with_reducible refine' e_alloc ?hx ?_); (case hx => rfl))); intro _ _ _ _ _ _ _; (conv => arg 5; simp only [zA, zB, ev, lget, zC, zD, zE, zF, zG, zH, zI, zJ, zK, zL, zM, zN, zO])))
  refine stop_go ?_
  rename_i gx wx x1 x2 hx ex zx gO wo o1 o2 hO eO zO' gr wr r1 r2 hrr er zr
  have eR : Evt (fun _ => False) w wr := Evt.next er (Evt.next eO ex (fun _ _ h => h)) (fun _ _ h => h)
  have hxr := (hx.evt eO (fun h => h)).evt er (fun h => h)
  have hOr := hO.evt er (fun h => h)
  have nF : ∀ k, w.heap.size ≤ k → ¬ F k := fun k hk hh => by have := hS.net.lt k hh; omega
  have hFx : ¬ F gx := nF gx (by omega)
  have hFr : ¬ F gr := nF gr (by omega)
  have hFO : ¬ F gO := nF gO (by omega)
  clear hx hO
  repeat' (first | (with_reducible (first | refine' wp_seq ?_ | refine' wp_region_lit ?_ | refine' wpList_nil ?_ | refine' then_normal ?_ | refine' wp_block ?_ | refine' wp_ret ?_ | refine' wp_skip ?_ | refine' in_normal ?_)) | ((with_reducible refine' c_condF ?hx ?_); (case hx => rfl)) | ((with_reducible refine' b_retN ?hr ?h2 ?ha ?_); (case hr => rfl); (case h2 => decide); (case ha => first | exact ra_nil | ((first | ((with_reducible refine' ra_tmp ?rv2 ?rh2); (case rv2 => ((try simp only [ev, lget]); (try rfl)))) | ((with_reducible refine' ra_cell ?rp2 ?rt2 ?rq2 ?rn2 ?rh2); (case rp2 => rfl); (case rt2 => infer_instance); (case rq2 => exact bqq); (case rn2 => rfl))); (case rh2 => first | exact ra_nil | ((first | ((with_reducible refine' ra_tmp ?rv1 ?rh1); (case rv1 => ((try simp only [ev, lget]); (try rfl)))) | ((with_reducible refine' ra_cell ?rp1 ?rt1 ?rq1 ?rn1 ?rh1); (case rp1 => rfl); (case rt1 => infer_instance); (case rq1 => exact bqq); (case rn1 => rfl))); (case rh1 => first | exact ra_nil)))))) | ((with_reducible refine' l_step ?_); (first | ((first | (with_reducible refine' g_assign ?_) | ((with_reducible refine' g_fieldAddr ?hx ?ho ?_); (case hx => rfl); (case ho => rfl)) | ((first | (with_reducible refine' g_loadB ?hx ?hb ?hc ?_) | (with_reducible refine' g_loadS ?hx ?hb ?hn ?_)); (case hx => rfl); (case hb => exact bqq); first | (case hc => rfl) | (case hn => simp only [List.length_cons, List.length_nil]; omega))); (conv => arg 5; simp only [zA, zB, ev, lget, zC, zD, zE, zF, zG, zH, zI, zJ, zK, zL, zM, zN, zO])) | (((with_reducible refine' g_eql ?hx ?hy (fun _ => ?_) (fun _ => ?_)); (case hx => rfl)); (case hy => rfl); all_goals (first | (exfalso; omega) | (conv => arg 5; simp only [zA, zB, ev, lget, zC, zD, zE, zF, zG, zH, zI, zJ, zK, zL, zM, zN, zO]))))) | ((first | ((with_reducible refine' e_storeB ?hx ?hy ?hv ?h1 ?hb ?ho ?_); (case hx => rfl); (case hy => ((try simp only [ev, lget]); (try rfl))); (case hv => rfl); (case h1 => rfl)) | ((with_reducible refine' e_storeR ?hx ?hy ?h1 ?hb ?hn ?ho ?_); (case hx => rfl); (case hy => rfl); (case h1 => simp [Value.oneCell']); (case hn => rfl))); (case hb => exact bqq); (case ho => first | (simp only [List.length_cons, List.length_nil]; omega) | omega | (simp; omega) | simp); (try simp only [splice, zA, zB]); intro _ _ _ _))
  rename_i w6 h6 e6 z6
  exact ⟨F, G, FB, N, R, B, rfl, step_fin2 (m := wr.heap.size) hS (.inr (.inr (.inr (.inr ⟨⟨c1, c2, c3, c4⟩, rfl, rfl⟩)))) (hS.net.up eR) (hS.ref.up eR) (eR.mono fun _ _ h => h.elim) (by omega) (fun k hk => .inl hk) (fun k hk => .inl hk) (fun k hk => hk) (fun k hk => by have := hS.gl k hk; omega) hS.fg (e6.mono fun k _ hk => by have h' : k = gr := hk; omega)⟩
end Go.Proofs.Ytmngcpackbekiaa
