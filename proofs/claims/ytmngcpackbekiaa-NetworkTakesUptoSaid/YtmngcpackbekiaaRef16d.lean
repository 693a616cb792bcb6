/- The document's network: a notice is sent; a notice is taken. -/
import Derived.Test.YtmngcpackbekiaaRef16c
namespace Go.Proofs.Ytmngcpackbekiaa
open Go.RowKit Go.Proofs.YtmngcpackbekiaaE
set_option linter.unusedSimpArgs false
set_option linter.unusedVariables false

theorem gn_lt {G : Nat → Prop} {w : World} (h : ∀ k, G k → k < w.heap.size) : ∀ k, G k → ¬ w.heap.size ≤ k := fun k hk hh => by have := h k hk; omega
set_option maxHeartbeats 4000000 in
theorem send_r (G : Nat → Prop) (R : Rn) (ack : Bool) (idn : Int) (body : List Int) (A : Option Addr) (c : Nat) (w : World) (h : RefAt w G R) (hrc : RC w A (u8s body)) (hbl : body.length ≤ 1000000000000) (hl : ∀ c ∈ R.fates, letterB c) (hGlt : ∀ k, G k → k < w.heap.size) (hn : R.msgs.length ≤ 1000000000000) (hnow : 0 ≤ R.now ∧ R.now ≤ 1000000000000000000) :
    Calls Try.prog 41 #[.agg (rnC R).toArray, .agg (pkC ack idn A body.length c).toArray] w fun e w' => ∃ R' V d, e = .returned (.agg (rnC R').toArray) ∧ R'.now = R.now ∧ R'.fates = R.fates.tail ∧ R'.acc = R.acc ∧ R'.msgs = R.msgs ++ copR R.now (R.fates.headD 49) { ack := false, id := idn, body := body, at_ := 0, again := 0, A := V, c := d } ∧ RefAt w' (Gn G w w') R' ∧ Evt (fun _ => False) w w' := by
  go_enter Try.func41, Try.ntmps41
  repeat' (first | (with_reducible refine' stop_reg (id := 1) ?_) | (with_reducible (first | refine' wp_seq ?_ | refine' wp_region_lit ?_ | refine' wpList_nil ?_ | refine' then_normal ?_)) | ((first | ((with_reducible refine' e_boxA ?hx ?_); (case hx => rfl)) | ((with_reducible refine' e_alloc ?hx ?_); (case hx => rfl))); intro _ _ _ _ _ _ _; (conv => arg 5; simp only [zA, zB, ev, lget, zC, zD, zE, zF, zG, zH, zI, zJ, zK, zL, zM, zN, zO])))
  refine stop_go ?_
  rename_i gR wR a1 a2 hR eR zR gM wM b1 b2 hM eM zM gO wO c1 c2 hO eO zO'
  have eW : Evt (fun _ => False) w wO := by exact eqq
  have hR' : Blk wO gR 64 (rnC R) := (hR.evt eM (fun h => h)).evt eO (fun h => h)
  have hM' : Blk wO gM 30 (pkC ack idn A body.length c) := hM.evt eO (fun h => h)
  clear hR hM
  repeat' (first | (with_reducible (first | refine' wp_seq ?_ | refine' wp_region_lit ?_ | refine' wpList_nil ?_ | refine' then_normal ?_ | refine' wp_block ?_)) | ((with_reducible refine' l_step ?_); ((with_reducible refine' g_assign ?_); (conv => arg 5; simp only [zA, zB, ev, lget, zC, zD, zE, zF, zG, zH, zI, zJ, zK, zL, zM, zN, zO]))))
  refine' s_loop [5, 6, 7, 8, 9, 10, 11, 12, 13, 14, 15, 16, 17, 18, 19, 20, 21] (fun n u w' => ∃ (i : Nat) (V : Option Addr) (d : Nat), n = body.length - i ∧ i ≤ body.length ∧ u 6 = .int .i64 i ∧ u 5 = .slice V i d ∧ w'.ownsRow 0 5 1 (.slice V i d) i (u8s (body.take i)) ∧ (∀ k, (Value.slice V i d).ownBlock = some k → wO.heap.size ≤ k) ∧ Evt (fun _ => False) wO w') body.length ?h1 ?round1
  case h1 => exact ⟨0, none, 0, rfl, by omega, rfl, rfl, World.ownsRow_nil _ _ _ _, by simp [Value.ownBlock], Evt.refl _ _⟩
  case round1 =>
    rintro n u3 w3 ⟨i, V, d, rfl, hi3, h8, h7, hoI, hlb, e3⟩
    simp only [setW, List.foldl_cons, List.foldl_nil, List.set_cons_succ, List.set_cons_zero]
    simp only [h8, h7]
    have z3 := e3.size
    have hR3 := hR'.evt e3 (fun h => h)
    have hM3 := hM'.evt e3 (fun h => h)
    have hO3 := hO.evt e3 (fun h => h)
    have hltI := own_lt hoI
    have eW3 : Evt (fun _ => False) w w3 := Evt.next e3 eW (fun _ _ h => h)
    clear hR' hM' hO
    by_cases hlt3 : i < body.length
    · obtain ⟨b, o, hA, hc⟩ := RC.at_ (hrc.up eW3) hlt3
      have htk : u8s (body.take (i + 1)) = u8s (body.take i) ++ [.int .u8 body[i]] := by rw [List.take_succ_eq_append_getElem hlt3, u8s_snoc]
      generalize body[i] = fi at *
      simp only [pkC, hA] at hM3
      repeat' (first | (((with_reducible refine' e_append ?hx ?hy ?hzs ?hsz ?hown ?hl ?hnews ?h1 ?hb ?hm ?_); (case hx => ((try simp only [ev, lget]); (try rfl))); (case hy => rfl); (case hzs => rfl); (case hsz => decide); (case hown => exact oqq); (case hnews => refine' blk_src ?hbb; (case hbb => exact bqq)); (case hl => rfl); (case h1 => simp [Value.oneCell']); (case hb => omega); (case hm => omega); intro vA wA hoA heA hnA haA hzA; (conv => arg 5; simp only [zA, zB, ev, lget, zC, zD, zE, zF, zG, zH, zI, zJ, zK, zL, zM, zN, zO])); have hlA := own_lt hoA; obtain ⟨VA, dA, hVA⟩ := own_slice hoA; subst hVA) | (with_reducible (first | refine' wp_seq ?_ | refine' wp_region_lit ?_ | refine' wpList_nil ?_ | refine' then_normal ?_ | refine' wp_block ?_ | refine' wp_skip ?_ | refine' in_normal ?_)) | ((with_reducible refine' c_condT ?hx ?_); (case hx => rfl)) | ((with_reducible refine' l_step ?_); (first | ((first | (with_reducible refine' g_move ?_) | (with_reducible refine' g_assign ?_) | ((with_reducible refine' g_fieldAddr ?hx ?ho ?_); (case hx => rfl); (case ho => rfl)) | ((with_reducible refine' g_loadB ?hx ?hb ?hc ?_); (case hx => rfl); (case hb => exact bqq); first | (case hc => rfl) | (case hn => simp only [List.length_cons, List.length_nil]; omega)) | ((with_reducible refine' g_loadC ?hx ?hc ?_); (case hx => rfl); (case hc => exact cqq)) | ((with_reducible refine' g_addN ?hx ?hy ?h0 ?h1 ?_); (case hx => rfl); (case hy => rfl); (case h0 => omega); (case h1 => omega)) | ((with_reducible refine' g_lenS ?hx ?_); (case hx => rfl)) | ((with_reducible refine' g_indexAddr ?hx ?hy ?h0 ?h1 ?_); (case hx => rfl); (case hy => rfl); (case h0 => omega); (case h1 => omega))); (conv => arg 5; simp only [zA, zB, ev, lget, zC, zD, zE, zF, zG, zH, zI, zJ, zK, zL, zM, zN, zO])) | (((with_reducible refine' g_lss ?hx ?hy (fun _ => ?_) (fun _ => ?_)); (case hx => rfl)); (case hy => rfl); all_goals (first | (exfalso; omega) | (conv => arg 5; simp only [zA, zB, ev, lget, zC, zD, zE, zF, zG, zH, zI, zJ, zK, zL, zM, zN, zO]))))) | (((with_reducible refine' e_sliceLit ?hx ?hi ?hv ?hn ?_); (case hx => simp only [zC, zD, ev, lget]; (try rfl)); (case hi => rfl); (case hv => simp [Value.cells]); (case hn => decide); simp only [List.flatMap_cons, List.flatMap_nil, Value.cells, List.cons_append, List.nil_append]); intro _ _ _ _ _ _ _; (conv => arg 5; simp only [zA, zB, ev, lget, zC, zD, zE, zF, zG, zH, zI, zJ, zK, zL, zM, zN, zO])))
      exact ⟨_, _, rfl, (by omega : body.length - (i + 1) < body.length - i), by simp only [zA, zB], i + 1, VA, dA, rfl, by omega, rfl, rfl, by rw [htk]; exact hoA, lb_step hlb haA (by omega), by exact eqq⟩
    · obtain rfl : i = body.length := by omega
      rw [List.take_length] at hoI
      have hG3 : RefAt w3 (fun k => G k ∨ (Value.slice V body.length d).ownBlock = some k) R := h.evt eW3 (fun _ _ _ h => h) (fun _ h => .inl h)
      repeat' (first | (with_reducible refine' stop_reg (id := 6) ?_) | (with_reducible (first | refine' wp_seq ?_ | refine' wp_region_lit ?_ | refine' wpList_nil ?_ | refine' then_normal ?_ | refine' wp_exit ?_ | refine' then_exit ?_ | refine' in_exit ?_)) | ((with_reducible refine' c_condF ?hx ?_); (case hx => rfl)) | ((with_reducible refine' l_step ?_); (first | ((first | (with_reducible refine' g_move ?_) | ((with_reducible refine' g_fieldAddr ?hx ?ho ?_); (case hx => rfl); (case ho => rfl)) | ((with_reducible refine' g_loadB ?hx ?hb ?hc ?_); (case hx => rfl); (case hb => exact bqq); first | (case hc => rfl) | (case hn => simp only [List.length_cons, List.length_nil]; omega)) | ((with_reducible refine' g_lenS ?hx ?_); (case hx => rfl))); (conv => arg 5; simp only [zA, zB, ev, lget, zC, zD, zE, zF, zG, zH, zI, zJ, zK, zL, zM, zN, zO])) | (((with_reducible refine' g_lss ?hx ?hy (fun _ => ?_) (fun _ => ?_)); (case hx => rfl)); (case hy => rfl); all_goals (first | (exfalso; omega) | (conv => arg 5; simp only [zA, zB, ev, lget, zC, zD, zE, zF, zG, zH, zI, zJ, zK, zL, zM, zN, zO]))))))
      refine stop_go ?_
      repeat' (first | (go_at_call 43; refine (handed_r (fun k => G k ∨ (Value.slice V body.length d).ownBlock = some k) R { ack := false, id := idn, body := body, at_ := 0, again := 0, A := V, c := d } _ hG3 (RG.own hoI (fun k hk => .inr hk)) hl (fun k hk hh => by
        rcases hk with h1 | h1
        · have := hGlt k h1; omega
        · have := hltI k h1; omega) hn hnow).mono ?_; rintro e w4 ⟨R', rfl, q1, q2, q3, q4, q5, e4⟩; have z4 := e4.size; refine ⟨_, rfl, ?_⟩; simp only [rnC]; (conv => arg 5; simp only [zA, zB, ev, lget, zC, zD, zE, zF, zG, zH, zI, zJ, zK, zL, zM, zN, zO])) | (with_reducible (first | refine' wp_region_lit ?_ | refine' wpList_nil ?_ | refine' then_normal ?_ | refine' wp_ret ?_)) | ((with_reducible refine' b_retC ?hr ?ht ?hp ?hb ?hn ?_); (case hr => rfl); (case ht => infer_instance); (case hp => rfl); (case hb => exact bqq); (case hn => rfl)) | ((with_reducible refine' l_step ?_); (first | ((first | (with_reducible refine' g_move ?_) | ((with_reducible refine' g_fieldAddr ?hx ?ho ?_); (case hx => rfl); (case ho => rfl)) | ((first | (with_reducible refine' g_loadB ?hx ?hb ?hc ?_) | (with_reducible refine' g_loadS ?hx ?hb ?hn ?_)); (case hx => rfl); (case hb => exact bqq); first | (case hc => rfl) | (case hn => simp only [List.length_cons, List.length_nil]; omega))); (conv => arg 5; simp only [zA, zB, ev, lget, zC, zD, zE, zF, zG, zH, zI, zJ, zK, zL, zM, zN, zO])) | ((with_reducible refine' g_build ?hl ?hp ?hs ?_); (case hl => rfl); (case hp => rfl); (case hs => rfl); (conv => arg 5; simp only [zA, zB, ev, lget, zC, zD, zE, zF, zG, zH, zI, zJ, zK, zL, zM, zN, zO, fillL, splice, List.getD_cons_zero, List.getD_cons_succ, Value.cells])))) | ((first | ((with_reducible refine' e_storeB ?hx ?hy ?hv ?h1 ?hb ?ho ?_); (case hx => rfl); (case hy => ((try simp only [ev, lget]); (try rfl))); (case hv => rfl); (case h1 => rfl)) | ((with_reducible refine' e_storeR ?hx ?hy ?h1 ?hb ?hn ?ho ?_); (case hx => rfl); (case hy => rfl); (case h1 => simp [Value.oneCell']); (case hn => rfl))); (case hb => exact bqq); (case ho => first | (simp only [List.length_cons, List.length_nil]; omega) | omega | (simp; omega) | simp); (try simp only [splice, zA, zB]); intro _ _ _ _) | ((with_reducible refine' l_call TFn.ent ?ha ?_); (case ha => simp only [zC, zD, ev, lget]; (try rfl))))
      rename_i w5 h5 e5 z5
      have eF : Evt (fun _ => False) w w5 := by exact eqq
      refine ⟨R', V, d, rfl, q1, q2, q3, q4, q5.evt e5 (fun k hk hg hh => ?_) (fun k hk => ?_), eF⟩
      · have hh' : k = gO := hh
        rcases hg with (h1 | h1) | h1
        · have := hGlt k h1; omega
        · have := hlb k h1; omega
        · omega
      · rcases hk with (h1 | h1) | h1
        · exact .inl h1
        · have h2 := hlb k h1; have h3 := hltI k h1
          exact .inr (by omega)
        · exact .inr (by omega)
def takeA (now : Int) (acc : List Ma) (m : Mm) : List Ma := if m.id ∈ acc.map (·.id) then acc else acc ++ [{ id := m.id, tick := now, body := m.body, A := m.A, c := m.c }]
def ackR (m : Mm) : Mm := { ack := true, id := m.id, body := [], at_ := 0, again := 0, A := none, c := 0 }
set_option maxHeartbeats 4000000 in
theorem taken_r (G : Nat → Prop) (R : Rn) (m : Mm) (w : World) (h : RefAt w G R) (hm : RG w G m.A (u8s m.body)) (hl : ∀ c ∈ R.fates, letterB c) (hGlt : ∀ k, G k → k < w.heap.size) (hn : R.msgs.length ≤ 1000000000000) (hna : R.acc.length ≤ 1000000000000) (hnow : 0 ≤ R.now ∧ R.now ≤ 1000000000000000000) :
    Calls Try.prog 42 #[.agg (rnC R).toArray, .agg (mmC m).toArray] w fun e w' => ∃ R', e = .returned (.agg (rnC R').toArray) ∧ R'.now = R.now ∧ R'.fates = R.fates.tail ∧ R'.acc = takeA R.now R.acc m ∧ R'.msgs = R.msgs ++ copR R.now (R.fates.headD 49) (ackR m) ∧ RefAt w' (Gn G w w') R' ∧ Evt (fun _ => False) w w' := by
  go_enter Try.func42, Try.ntmps42
  repeat' (first | (with_reducible refine' stop_at (id := 1) ?_) | (with_reducible (first | refine' wp_seq ?_ | refine' wp_region_lit ?_ | refine' wpList_nil ?_ | refine' then_normal ?_)) | ((first | ((with_reducible refine' e_boxA ?hx ?_); (case hx => rfl)) | ((with_reducible refine' e_alloc ?hx ?_); (case hx => rfl))); intro _ _ _ _ _ _ _; (conv => arg 5; simp only [zA, zB, ev, lget, zC, zD, zE, zF, zG, zH, zI, zJ, zK, zL, zM, zN, zO])))
  refine stop_go ?_
  rename_i gR wR a1 a2 hR eR zR gM wM b1 b2 hM eM zM gO wO c1 c2 hO eO zO'
  have eW : Evt (fun _ => False) w wO := by exact eqq
  have hR' : Blk wO gR 64 (rnC R) := (hR.evt eM (fun h => h)).evt eO (fun h => h)
  have hM' : Blk wO gM 88 (mmC m) := hM.evt eO (fun h => h)
  clear hR hM
  refine' s_cut [5, 6, 7, 8, 9, 10, 11, 12, 13, 14, 15, 16, 17, 18, 19, 20, 21, 22, 23, 24, 25, 26, 27, 28, 29, 30, 31, 32, 33, 34, 35, 36, 37] (fun u w' => ∃ T : Rn, T.now = R.now ∧ T.fates = R.fates ∧ T.msgs = R.msgs ∧ T.acc = takeA R.now R.acc m ∧ RefAt w' (fun k => G k ∨ (wO.heap.size ≤ k ∧ k < w'.heap.size)) T ∧ Blk w' gR 64 (rnC T) ∧ Evt (fun k => k = gR) wO w') ?k1 ?k2
  case k1 =>
    by_cases hin : m.id ∈ R.acc.map (·.id)
    · have hta : takeA R.now R.acc m = R.acc := by rw [takeA, if_pos hin]
      rw [hta]
      repeat' (first | (go_at_call 44; (with_reducible refine (has_r G R m.id _ (h.up (by exact eqq)) hna).mono ?_); rintro e wh ⟨rfl, hevh⟩; have hzh := hevh.size; rw [decide_eq_true hin]; refine ⟨_, rfl, ?_⟩; (conv => arg 5; simp only [zA, zB, ev, lget, zC, zD, zE, zF, zG, zH, zI, zJ, zK, zL, zM, zN, zO])) | (with_reducible (first | refine' wp_seq ?_ | refine' wp_region_lit ?_ | refine' wpList_nil ?_ | refine' then_normal ?_ | refine' wp_skip ?_)) | ((with_reducible refine' c_condF ?hx ?_); (case hx => rfl)) | ((with_reducible refine' l_step ?_); ((first | ((with_reducible refine' g_fieldAddr ?hx ?ho ?_); (case hx => rfl); (case ho => rfl)) | ((first | (with_reducible refine' g_loadB ?hx ?hb ?hc ?_) | (with_reducible refine' g_loadS ?hx ?hb ?hn ?_)); (case hx => rfl); (case hb => exact bqq); first | (case hc => rfl) | (case hn => simp only [List.length_cons, List.length_nil]; omega)) | ((with_reducible refine' g_notT ?hx ?_); (case hx => rfl))); (conv => arg 5; simp only [zA, zB, ev, lget, zC, zD, zE, zF, zG, zH, zI, zJ, zK, zL, zM, zN, zO]))) | ((with_reducible refine' l_call TFn.ent ?ha ?_); (case ha => simp only [zC, zD, ev, lget]; (try rfl))))
      exact ⟨_, rfl, by simp only [setW, List.foldl_cons, List.foldl_nil, List.set_cons_succ, List.set_cons_zero], R, rfl, rfl, rfl, rfl, (h.up eW).evt hevh (fun _ _ _ h => h) (fun _ h => .inl h), hR'.evt hevh (fun h => h), hevh.mono fun _ _ h => h.elim⟩
    · have hta : takeA R.now R.acc m = R.acc ++ [{ id := m.id, tick := R.now, body := m.body, A := m.A, c := m.c }] := by rw [takeA, if_neg hin]
      rw [hta]
      repeat' (first | (with_reducible refine' stop_reg (id := 3) ?_) | (go_at_call 44; (with_reducible refine (has_r G R m.id _ (h.up (by exact eqq)) hna).mono ?_); rintro e wh ⟨rfl, hevh⟩; have hzh := hevh.size; rw [decide_eq_false hin]; refine ⟨_, rfl, ?_⟩; (conv => arg 5; simp only [zA, zB, ev, lget, zC, zD, zE, zF, zG, zH, zI, zJ, zK, zL, zM, zN, zO])) | (with_reducible (first | refine' wp_seq ?_ | refine' wp_region_lit ?_ | refine' wpList_nil ?_ | refine' then_normal ?_)) | ((with_reducible refine' c_condT ?hx ?_); (case hx => rfl)) | ((with_reducible refine' l_step ?_); ((first | (with_reducible refine' g_assign ?_) | ((with_reducible refine' g_fieldAddr ?hx ?ho ?_); (case hx => rfl); (case ho => rfl)) | ((first | (with_reducible refine' g_loadB ?hx ?hb ?hc ?_) | (with_reducible refine' g_loadS ?hx ?hb ?hn ?_)); (case hx => rfl); (case hb => exact bqq); first | (case hc => rfl) | (case hn => simp only [List.length_cons, List.length_nil]; omega)) | ((with_reducible refine' g_notF ?hx ?_); (case hx => rfl))); (conv => arg 5; simp only [zA, zB, ev, lget, zC, zD, zE, zF, zG, zH, zI, zJ, zK, zL, zM, zN, zO]))) | ((with_reducible refine' l_call TFn.ent ?ha ?_); (case ha => simp only [zC, zD, ev, lget]; (try rfl))))
      refine stop_go ?_
      have hRh := hR'.evt hevh (fun h => h)
      have hMh := hM'.evt hevh (fun h => h)
      have eWh : Evt (fun _ => False) w wh := Evt.next hevh eW (fun _ _ h => h)
      have hacc := h.acc.up eWh
      clear hR' hM' hO
      repeat' (first | (with_reducible (first | refine' wp_region_lit ?_ | refine' wpList_nil ?_ | refine' then_normal ?_ | refine' wp_block ?_)) | ((with_reducible refine' l_step ?_); ((with_reducible refine' g_assign ?_); (conv => arg 5; simp only [zA, zB, ev, lget, zC, zD, zE, zF, zG, zH, zI, zJ, zK, zL, zM, zN, zO]))))
      refine' s_loop [5, 6, 12, 13, 14, 15, 16, 17, 18, 19, 20, 21, 22, 23, 24, 25, 26] (fun n u w' => ∃ (i : Nat) (V : Option Addr) (d : Nat), n = R.acc.length - i ∧ i ≤ R.acc.length ∧ u 6 = .int .i64 i ∧ u 5 = .slice V i d ∧ w'.ownsRow 0 47 3 (.slice V i d) i (acCs (R.acc.take i)) ∧ (∀ k, (Value.slice V i d).ownBlock = some k → wh.heap.size ≤ k) ∧ Evt (fun _ => False) wh w') R.acc.length ?h1 ?round1
      case h1 => exact ⟨0, none, 0, rfl, by omega, rfl, rfl, World.ownsRow_nil _ _ _ _, by simp [Value.ownBlock], Evt.refl _ _⟩
      case round1 =>
        rintro n u3 w3 ⟨i, V, d, rfl, hi3, h8, h7, hoI, hlb, e3⟩
        simp only [setW, List.foldl_cons, List.foldl_nil, List.set_cons_succ, List.set_cons_zero]
        simp only [h8, h7]
        have z3 := e3.size
        have hR3 := hRh.evt e3 (fun h => h)
        have hM3 := hMh.evt e3 (fun h => h)
        have hltI := own_lt hoI
        clear hRh hMh
        by_cases hlt3 : i < R.acc.length
        · obtain ⟨b, o, hA, hcellE⟩ := (hacc.up e3).at_ hlt3
          have htk : acCs (R.acc.take (i + 1)) = acCs (R.acc.take i) ++ acC R.acc[i] := by rw [List.take_succ_eq_append_getElem hlt3, acCs_snoc]
          generalize R.acc[i] = fi at *
          simp only [rnC, hA] at hR3
          repeat' (first | (((with_reducible refine' e_append ?hx ?hy ?hzs ?hsz ?hown ?hl ?hnews ?h1 ?hb ?hm ?_); (case hx => ((try simp only [ev, lget]); (try rfl))); (case hy => rfl); (case hzs => rfl); (case hsz => decide); (case hown => exact oqq); (case hnews => refine' blk_src ?hbb; (case hbb => exact bqq)); (case hl => rfl); (case h1 => simp [Value.oneCell']); (case hb => omega); (case hm => omega); intro vA wA hoA heA hnA haA hzA; (conv => arg 5; simp only [zA, zB, ev, lget, zC, zD, zE, zF, zG, zH, zI, zJ, zK, zL, zM, zN, zO])); have hlA := own_lt hoA; obtain ⟨VA, dA, hVA⟩ := own_slice hoA; subst hVA) | (with_reducible (first | refine' wp_seq ?_ | refine' wp_region_lit ?_ | refine' wpList_nil ?_ | refine' then_normal ?_ | refine' wp_block ?_ | refine' wp_skip ?_ | refine' in_normal ?_)) | ((with_reducible refine' c_condT ?hx ?_); (case hx => rfl)) | ((with_reducible refine' l_step ?_); (first | ((first | (with_reducible refine' g_move ?_) | (with_reducible refine' g_assign ?_) | ((with_reducible refine' g_fieldAddr ?hx ?ho ?_); (case hx => rfl); (case ho => rfl)) | ((first | (with_reducible refine' g_loadB ?hx ?hb ?hc ?_) | (with_reducible refine' g_loadS ?hx ?hb ?hn ?_)); (case hx => rfl); (case hb => exact bqq); first | (case hc => rfl) | (case hn => simp only [List.length_cons, List.length_nil]; omega)) | ((with_reducible refine' g_loadR ?hx ?hn ?hc ?_); (case hx => rfl); (case hc => first | exact hcellE _ (by exact eqq) | exact hcellF _ (by exact eqq)); (case hn => rfl)) | ((with_reducible refine' g_addN ?hx ?hy ?h0 ?h1 ?_); (case hx => rfl); (case hy => rfl); (case h0 => omega); (case h1 => omega)) | ((with_reducible refine' g_lenS ?hx ?_); (case hx => rfl)) | ((with_reducible refine' g_indexAddr ?hx ?hy ?h0 ?h1 ?_); (case hx => rfl); (case hy => rfl); (case h0 => omega); (case h1 => omega))); (conv => arg 5; simp only [zA, zB, ev, lget, zC, zD, zE, zF, zG, zH, zI, zJ, zK, zL, zM, zN, zO])) | (((with_reducible refine' g_lss ?hx ?hy (fun _ => ?_) (fun _ => ?_)); (case hx => rfl)); (case hy => rfl); all_goals (first | (exfalso; omega) | (conv => arg 5; simp only [zA, zB, ev, lget, zC, zD, zE, zF, zG, zH, zI, zJ, zK, zL, zM, zN, zO]))))) | (((with_reducible refine' e_sliceLit ?hx ?hi ?hv ?hn ?_); (case hx => simp only [zC, zD, ev, lget]; (try rfl)); (case hi => rfl); (case hv => simp [Value.cells]); (case hn => decide); simp only [List.flatMap_cons, List.flatMap_nil, Value.cells, List.cons_append, List.nil_append]); intro _ _ _ _ _ _ _; (conv => arg 5; simp only [zA, zB, ev, lget, zC, zD, zE, zF, zG, zH, zI, zJ, zK, zL, zM, zN, zO])))
          exact ⟨_, _, rfl, (by omega : R.acc.length - (i + 1) < R.acc.length - i), by simp only [zA, zB], i + 1, VA, dA, rfl, by omega, rfl, rfl, by rw [htk]; exact hoA, lb_step hlb haA (by omega), by exact eqq⟩
        · obtain rfl : i = R.acc.length := by omega
          rw [List.take_length] at hoI
          have hgV : ¬ (Value.slice V R.acc.length d).ownBlock = some gR := fun hh => by have := hlb _ hh; omega
          have hgM : ¬ (Value.slice V R.acc.length d).ownBlock = some gM := fun hh => by have := hlb _ hh; omega
          repeat' (first | (((with_reducible refine' e_append ?hx ?hy ?hzs ?hsz ?hown ?hl ?hnews ?h1 ?hb ?hm ?_); (case hx => ((try simp only [ev, lget]); (try rfl))); (case hy => rfl); (case hzs => rfl); (case hsz => decide); (case hown => exact oqq); (case hnews => refine' blk_src ?hbb; (case hbb => exact bqq)); (case hl => rfl); (case h1 => simp [Value.oneCell']); (case hb => omega); (case hm => omega); intro vA wA hoA heA hnA haA hzA; (conv => arg 5; simp only [zA, zB, ev, lget, zC, zD, zE, zF, zG, zH, zI, zJ, zK, zL, zM, zN, zO])); have hlA := own_lt hoA; obtain ⟨VA, dA, hVA⟩ := own_slice hoA; subst hVA) | (with_reducible (first | refine' wp_seq ?_ | refine' wp_region_lit ?_ | refine' wpList_nil ?_ | refine' then_normal ?_ | refine' wp_exit ?_ | refine' then_exit ?_ | refine' in_exit ?_)) | ((with_reducible refine' c_condF ?hx ?_); (case hx => rfl)) | ((with_reducible refine' l_step ?_); (first | ((first | (with_reducible refine' g_move ?_) | ((with_reducible refine' g_fieldAddr ?hx ?ho ?_); (case hx => rfl); (case ho => rfl)) | ((with_reducible refine' g_loadB ?hx ?hb ?hc ?_); (case hx => rfl); (case hb => exact bqq); first | (case hc => rfl) | (case hn => simp only [List.length_cons, List.length_nil]; omega)) | ((with_reducible refine' g_lenS ?hx ?_); (case hx => rfl))); (conv => arg 5; simp only [zA, zB, ev, lget, zC, zD, zE, zF, zG, zH, zI, zJ, zK, zL, zM, zN, zO])) | (((with_reducible refine' g_lss ?hx ?hy (fun _ => ?_) (fun _ => ?_)); (case hx => rfl)); (case hy => rfl); all_goals (first | (exfalso; omega) | (conv => arg 5; simp only [zA, zB, ev, lget, zC, zD, zE, zF, zG, zH, zI, zJ, zK, zL, zM, zN, zO]))) | ((with_reducible refine' g_build ?hl ?hp ?hs ?_); (case hl => rfl); (case hp => rfl); (case hs => rfl); (conv => arg 5; simp only [zA, zB, ev, lget, zC, zD, zE, zF, zG, zH, zI, zJ, zK, zL, zM, zN, zO, fillL, splice, List.getD_cons_zero, List.getD_cons_succ, Value.cells])))) | (((with_reducible refine' e_sliceLit ?hx ?hi ?hv ?hn ?_); (case hx => simp only [zC, zD, ev, lget]; (try rfl)); (case hi => rfl); (case hv => simp [Value.cells]); (case hn => decide); simp only [List.flatMap_cons, List.flatMap_nil, Value.cells, List.cons_append, List.nil_append]); intro _ _ _ _ _ _ _; (conv => arg 5; simp only [zA, zB, ev, lget, zC, zD, zE, zF, zG, zH, zI, zJ, zK, zL, zM, zN, zO])) | ((first | ((with_reducible refine' e_storeB ?hx ?hy ?hv ?h1 ?hb ?ho ?_); (case hx => rfl); (case hy => ((try simp only [ev, lget]); (try rfl))); (case hv => rfl); (case h1 => rfl)) | ((with_reducible refine' e_storeR ?hx ?hy ?h1 ?hb ?hn ?ho ?_); (case hx => rfl); (case hy => rfl); (case h1 => simp [Value.oneCell']); (case hn => rfl))); (case hb => exact bqq); (case ho => first | (simp only [List.length_cons, List.length_nil]; omega) | omega | (simp; omega) | simp); (try simp only [splice, zA, zB]); intro _ _ _ _))
          rename_i x1 x2 x3 x4 x5 x6 x7 wB hB eB zB
          have hAl := lb_step hlb haA (by omega)
          have eF : Evt (fun k => k = gR) wO wB := Evt.next eB (Evt.next heA (Evt.next x6 (Evt.next e3 (hevh.mono fun _ _ h => h.elim) (fun _ _ h => h.elim)) (fun _ _ h => h.elim)) (fun i hi hh => by have := hlb i hh; omega)) (fun _ _ h => h)
          have eFw : Evt (fun _ => False) w wB := by exact eqq
          have hoB : wB.ownsRow 0 47 3 (.slice VA (R.acc.length + 1) dA) (R.acc.length + 1) (acCs (R.acc ++ [{ id := m.id, tick := R.now, body := m.body, A := m.A, c := m.c }])) := by
            rw [acCs_snoc]
            exact own_evt eB hoA (fun k hk hh => by have h1 := hAl k hk; have h2 : k = gR := hh; omega)
          have hTn : RefAt wB (fun k => G k ∨ (wO.heap.size ≤ k ∧ k < wB.heap.size)) R := h.evt eFw (fun _ _ _ h => h) (fun _ h => .inl h)
          have hmn : RG wB (fun k => G k ∨ (wO.heap.size ≤ k ∧ k < wB.heap.size)) m.A (u8s m.body) := hm.evt eFw (fun _ _ _ h => h) (fun _ h => .inl h)
          refine ⟨_, rfl, by simp only [setW, List.foldl_cons, List.foldl_nil, List.set_cons_succ, List.set_cons_zero], { R with acc := R.acc ++ [{ id := m.id, tick := R.now, body := m.body, A := m.A, c := m.c }], AA := VA, cA := dA }, rfl, rfl, rfl, rfl, ⟨⟨RG.own hoB (fun k hk => .inr ⟨by have := hAl k hk; omega, own_lt hoB k hk⟩), fun x hx => ?_⟩, hTn.fates, hTn.msgs, hTn.bod, hTn.cap⟩, by simp only [rnC, List.length_append, List.length_singleton]; exact hB, eF⟩
          rcases List.mem_append.1 hx with h1 | h1
          · exact hTn.acc.bod x h1
          · rw [List.mem_singleton] at h1
            rw [h1]
            exact hmn
  case k2 =>
    rintro u w1 ⟨T, q1, q2, q3, q4, hT, hR1, e1⟩
    have z1 := e1.size
    have hM1 := hM'.evt e1 (by omega)
    have hO1 := hO.evt e1 (by omega)
    have eW1 : Evt (fun _ => False) w w1 := Evt.next e1 eW (fun i hi hh => by have h' : i = gR := hh; omega)
    clear hR' hM' hO
    rw [← q2] at hl
    rw [← q3] at hn
    rw [← q1] at hnow
    simp only [setW, List.foldl_cons, List.foldl_nil, List.set_cons_succ, List.set_cons_zero]
    repeat' (first | (go_at_call 43; refine (handed_r _ T (ackR m) _ hT (fun hh => by simp [ackR, u8s] at hh) hl (fun k hk hh => by
      rcases hk with h1 | h1
      · have := hGlt k h1; omega
      · omega) hn hnow).mono ?_; rintro e w4 ⟨R', rfl, p1, p2, p3, p4, p5, e4⟩; have z4 := e4.size; refine ⟨_, rfl, ?_⟩; simp only [rnC]; (conv => arg 5; simp only [zA, zB, ev, lget, zC, zD, zE, zF, zG, zH, zI, zJ, zK, zL, zM, zN, zO])) | (with_reducible (first | refine' wp_seq ?_ | refine' wp_region_lit ?_ | refine' wpList_nil ?_ | refine' then_normal ?_ | refine' wp_ret ?_)) | ((with_reducible refine' b_retC ?hr ?ht ?hp ?hb ?hn ?_); (case hr => rfl); (case ht => infer_instance); (case hp => rfl); (case hb => exact bqq); (case hn => rfl)) | ((with_reducible refine' l_step ?_); (first | ((first | ((with_reducible refine' g_fieldAddr ?hx ?ho ?_); (case hx => rfl); (case ho => rfl)) | ((first | (with_reducible refine' g_loadB ?hx ?hb ?hc ?_) | (with_reducible refine' g_loadS ?hx ?hb ?hn ?_)); (case hx => rfl); (case hb => exact bqq); first | (case hc => rfl) | (case hn => simp only [List.length_cons, List.length_nil]; omega))); (conv => arg 5; simp only [zA, zB, ev, lget, zC, zD, zE, zF, zG, zH, zI, zJ, zK, zL, zM, zN, zO])) | ((with_reducible refine' g_build ?hl ?hp ?hs ?_); (case hl => rfl); (case hp => rfl); (case hs => rfl); (conv => arg 5; simp only [zA, zB, ev, lget, zC, zD, zE, zF, zG, zH, zI, zJ, zK, zL, zM, zN, zO, fillL, splice, List.getD_cons_zero, List.getD_cons_succ, Value.cells])))) | ((first | ((with_reducible refine' e_storeB ?hx ?hy ?hv ?h1 ?hb ?ho ?_); (case hx => rfl); (case hy => ((try simp only [ev, lget]); (try rfl))); (case hv => rfl); (case h1 => rfl)) | ((with_reducible refine' e_storeR ?hx ?hy ?h1 ?hb ?hn ?ho ?_); (case hx => rfl); (case hy => rfl); (case h1 => simp [Value.oneCell']); (case hn => rfl))); (case hb => exact bqq); (case ho => first | (simp only [List.length_cons, List.length_nil]; omega) | omega | (simp; omega) | simp); (try simp only [splice, zA, zB]); intro _ _ _ _) | ((with_reducible refine' l_call TFn.ent ?ha ?_); (case ha => simp only [zC, zD, ev, lget]; (try rfl))))
    rename_i w5 h5 e5 z5
    have eF : Evt (fun _ => False) w w5 := by exact eqq
    refine ⟨R', rfl, p1.trans q1, by rw [p2, q2], p3.trans q4, by rw [p4, q3, q1, q2], p5.evt e5 (fun k hk hg hh => ?_) (fun k hk => ?_), eF⟩
    · have hh' : k = gO := hh
      rcases hg with (h1 | h1) | h1
      · have := hGlt k h1; omega
      · omega
      · omega
    · rcases hk with (h1 | h1) | h1
      · exact .inl h1
      · exact .inr (by omega)
      · exact .inr (by omega)
end Go.Proofs.Ytmngcpackbekiaa
