/- The whole script is played on two boxes. SHORT NORMX -/
import Derived.Test.YtchfkkliechgoaaUpt17
namespace Go.Proofs.Ytchfkkliechgoaa
open Go.RowKit Go.Proofs.YtchfkkliechgoaaE
set_option linter.unusedSimpArgs false
set_option linter.unusedVariables false
set_option maxRecDepth 4000

set_option maxRecDepth 20000 in
set_option maxHeartbeats 16000000 in
theorem upTo_any (p : Pol) (A : Option Addr) (c : Nat) (B : Option Addr) (os : List Opr) (cB : Nat) (lo hi : Int) (w : World) (hr : RI w A p.hs) (hsz : p.hs.length * 8 ≤ 140737488351232) (hop : OpsAt w B os) (hb : os.length ≤ 1048576) :
    Calls Try.prog 11 #[.agg (polC p A c).toArray, .slice B os.length cB, .int .i64 lo, .int .i64 hi] w fun e w' => e = .returned (.bool true) ∧ Evt (fun _ => False) w w' := by
  go_enter Try.func11, Try.ntmps11
  repeat' (first | (with_reducible refine' stop_reg (id := 1) ?_) | (with_reducible (first | refine' wp_seq ?_ | refine' wp_region_lit ?_ | refine' wpList_nil ?_ | refine' then_normal ?_)) | ((with_reducible refine' l_step ?_); ((with_reducible refine' g_assign ?_); (conv => arg 5; simp only [zA, zB, ev, lget, zC, zD, zE, zF, zG, zH, zI, zJ, zK, zL, zM, zN, zO]))) | (((with_reducible refine' e_boxA ?hx ?_); (case hx => rfl)); intro _ _ _ _ _ _ _; (conv => arg 5; simp only [zA, zB, ev, lget, zC, zD, zE, zF, zG, zH, zI, zJ, zK, zL, zM, zN, zO])))
  rename_i gP wB c1 c2 hP evB zB_
  have hrB := hr.up evB
  have hopB := hop.up evB
  have hopB0 := hopB
  refine stop_go ?_
  repeat' (first | (with_reducible refine' stop_reg (id := 2) ?_) | (go_at_call 14; refine (own_any p A c _ (hr.up (by exact eqq)) hsz).mono ?_; rintro e wO ⟨VO, dO, rfl, hoO, hnO, evO⟩; have zO_ := evO.size; refine ⟨_, rfl, ?_⟩; (conv => arg 5; simp only [zA, zB, ev, lget, zC, zD, zE, zF, zG, zH, zI, zJ, zK, zL, zM, zN, zO])) | (with_reducible (first | refine' wp_seq ?_ | refine' wp_region_lit ?_ | refine' wpList_nil ?_ | refine' then_normal ?_)) | ((with_reducible refine' l_step ?_); (((with_reducible refine' g_loadS ?hx ?hb ?hn ?_); (case hx => rfl); (case hb => exact bqq); first | (case hc => rfl) | (case hn => simp only [List.length_cons, List.length_nil]; omega)); (conv => arg 5; simp only [zA, zB, ev, lget, zC, zD, zE, zF, zG, zH, zI, zJ, zK, zL, zM, zN, zO]))) | (((with_reducible refine' e_alloc ?hx ?_); (case hx => rfl)); intro _ _ _ _ _ _ _; (conv => arg 5; simp only [zA, zB, ev, lget, zC, zD, zE, zF, zG, zH, zI, zJ, zK, zL, zM, zN, zO])) | ((first | ((with_reducible refine' e_storeB ?hx ?hy ?hv ?h1 ?hb ?ho ?_); (case hx => rfl); (case hy => ((try simp only [ev, lget]); (try rfl))); (case hv => rfl); (case h1 => rfl)) | ((with_reducible refine' e_storeR ?hx ?hy ?h1 ?hb ?hn ?ho ?_); (case hx => rfl); (case hy => rfl); (case h1 => simp [Value.oneCell']); (case hn => rfl))); (case hb => exact bqq); (case ho => first | (simp only [List.length_cons, List.length_nil]; omega) | omega | (simp; omega) | simp); (try simp only [splice, zA, zB]); intro _ _ _ _) | ((with_reducible refine' l_call TFn.ent ?ha ?_); (case ha => simp only [zC, zD, ev, lget]; (try rfl))))
  rename_i gQ wa a1 a2 ha0 ea za_ wb hQ0 eb zb_
  have ev1 : Evt (fun _ => False) wB wb := Evt.next eb (Evt.next ea evO (fun _ _ h => h)) (fun k hk hh => by have h' : k = gQ := hh; omega)
  have evOb : Evt (fun _ => False) wO wb := Evt.next eb ea (fun k hk hh => by have h' : k = gQ := hh; omega)
  have hoQ := own_evt evOb hoO (fun _ _ h => h)
  have hrQ := own_ri hoQ (by omega)
  have hlQ := own_lt hoQ
  have hPb := hP.evt ev1 (fun h => h)
  have z1 := ev1.size
  clear ha0 ea eb evO evOb hoO hP
  refine stop_go ?_
  repeat' (first | (with_reducible refine' stop_reg (id := 3) ?_) | (go_at_call 13; refine (new_any p VO dO _ (hrQ.up (by exact eqq)) hsz).mono ?_; rintro e wn ⟨gb1, F1, rfl, hB1, hF1, evn⟩; have zn_ := evn.size; refine ⟨_, rfl, ?_⟩; (conv => arg 5; simp only [zA, zB, ev, lget, zC, zD, zE, zF, zG, zH, zI, zJ, zK, zL, zM, zN, zO])) | (with_reducible (first | refine' wp_seq ?_ | refine' wp_region_lit ?_ | refine' wpList_nil ?_ | refine' then_normal ?_)) | ((with_reducible refine' l_step ?_); (first | (((with_reducible refine' g_loadS ?hx ?hb ?hn ?_); (case hx => rfl); (case hb => exact bqq); first | (case hc => rfl) | (case hn => simp only [List.length_cons, List.length_nil]; omega)); (conv => arg 5; simp only [zA, zB, ev, lget, zC, zD, zE, zF, zG, zH, zI, zJ, zK, zL, zM, zN, zO])) | ((with_reducible refine' g_build ?hl ?hp ?hs ?_); (case hl => rfl); (case hp => rfl); (case hs => rfl); (conv => arg 5; simp only [zA, zB, ev, lget, zC, zD, zE, zF, zG, zH, zI, zJ, zK, zL, zM, zN, zO, fillL, splice, List.getD_cons_zero, List.getD_cons_succ, Value.cells])))) | (((with_reducible refine' e_alloc ?hx ?_); (case hx => rfl)); intro _ _ _ _ _ _ _; (conv => arg 5; simp only [zA, zB, ev, lget, zC, zD, zE, zF, zG, zH, zI, zJ, zK, zL, zM, zN, zO])) | ((first | ((with_reducible refine' e_storeB ?hx ?hy ?hv ?h1 ?hb ?ho ?_); (case hx => rfl); (case hy => ((try simp only [ev, lget]); (try rfl))); (case hv => rfl); (case h1 => rfl)) | ((with_reducible refine' e_storeR ?hx ?hy ?h1 ?hb ?hn ?ho ?_); (case hx => rfl); (case hy => rfl); (case h1 => simp [Value.oneCell']); (case hn => rfl))); (case hb => exact bqq); (case ho => first | (simp only [List.length_cons, List.length_nil]; omega) | omega | (simp; omega) | simp); (try simp only [splice, zA, zB]); intro _ _ _ _) | ((with_reducible refine' l_call TFn.ent ?ha ?_); (case ha => simp only [zC, zD, ev, lget]; (try rfl))))
  rename_i gp1 wc b1 b2 hc0 ec zc_ wd hp1 ed zd_
  have e2 : Evt (fun k => k = gp1) wn wd := Evt.next ed (ec.mono fun _ _ h => h.elim) (fun _ _ h => h)
  have ev2 : Evt (fun _ => False) wb wd := Evt.next ed (Evt.next ec evn (fun _ _ h => h)) (fun k hk hh => by have h' : k = gp1 := hh; omega)
  have hL1 := hB1.lt
  have hB1d := hB1.evt e2 (fun k hk hh => by have h' : k = gp1 := hh; have := hL1 k hk; omega) (fun _ h => h) (fun k hk => by have := hL1 k hk; have := e2.size; omega)
  have hPd := hPb.evt ev2 (fun h => h)
  have hQd := hQ0.evt ev2 (fun h => h)
  have hoQd := own_evt ev2 hoQ (fun _ _ h => h)
  have hrBd := hrB.up (Evt.next ev2 ev1 (fun _ _ h => h))
  have hp1' : Blk wd gp1 65 (prC gb1 none 0 0) := hp1
  have z2 := ev2.size
  have ev12 : Evt (fun _ => False) wB wd := Evt.next ev2 ev1 (fun _ _ h => h)
  have hrB0 := hrB
  clear hc0 ec ed evn e2 hB1 hPb hQ0 hoQ hrQ hrB hp1 ev2 ev1
  rename RI wd A p.hs => hrB
  refine stop_go ?_
  repeat' (first | (with_reducible refine' stop_reg (id := 4) ?_) | (go_at_call 14; refine (own_any p A c _ (hrB.up (by exact eqq)) hsz).mono ?_; rintro e wO2 ⟨VO2, dO2, rfl, hoO2, hnO2, evO2⟩; have zO2_ := evO2.size; have hrO2 := own_ri hoO2 (by omega); refine ⟨_, rfl, ?_⟩; (conv => arg 5; simp only [zA, zB, ev, lget, zC, zD, zE, zF, zG, zH, zI, zJ, zK, zL, zM, zN, zO])) | (go_at_call 13; refine (new_any p VO2 dO2 _ (hrO2.up (by exact eqq)) hsz).mono ?_; rintro e wn2 ⟨gb2, F2, rfl, hB2, hF2, evn2⟩; have zn2_ := evn2.size; refine ⟨_, rfl, ?_⟩; (conv => arg 5; simp only [zA, zB, ev, lget, zC, zD, zE, zF, zG, zH, zI, zJ, zK, zL, zM, zN, zO])) | (with_reducible (first | refine' wp_seq ?_ | refine' wp_region_lit ?_ | refine' wpList_nil ?_ | refine' then_normal ?_)) | ((with_reducible refine' l_step ?_); (first | (((with_reducible refine' g_loadS ?hx ?hb ?hn ?_); (case hx => rfl); (case hb => exact bqq); first | (case hc => rfl) | (case hn => simp only [List.length_cons, List.length_nil]; omega)); (conv => arg 5; simp only [zA, zB, ev, lget, zC, zD, zE, zF, zG, zH, zI, zJ, zK, zL, zM, zN, zO])) | ((with_reducible refine' g_build ?hl ?hp ?hs ?_); (case hl => rfl); (case hp => rfl); (case hs => rfl); (conv => arg 5; simp only [zA, zB, ev, lget, zC, zD, zE, zF, zG, zH, zI, zJ, zK, zL, zM, zN, zO, fillL, splice, List.getD_cons_zero, List.getD_cons_succ, Value.cells])))) | (((with_reducible refine' e_alloc ?hx ?_); (case hx => rfl)); intro _ _ _ _ _ _ _; (conv => arg 5; simp only [zA, zB, ev, lget, zC, zD, zE, zF, zG, zH, zI, zJ, zK, zL, zM, zN, zO])) | ((first | ((with_reducible refine' e_storeB ?hx ?hy ?hv ?h1 ?hb ?ho ?_); (case hx => rfl); (case hy => ((try simp only [ev, lget]); (try rfl))); (case hv => rfl); (case h1 => rfl)) | ((with_reducible refine' e_storeR ?hx ?hy ?h1 ?hb ?hn ?ho ?_); (case hx => rfl); (case hy => rfl); (case h1 => simp [Value.oneCell']); (case hn => rfl))); (case hb => exact bqq); (case ho => first | (simp only [List.length_cons, List.length_nil]; omega) | omega | (simp; omega) | simp); (try simp only [splice, zA, zB]); intro _ _ _ _) | ((with_reducible refine' l_call TFn.ent ?ha ?_); (case ha => simp only [zC, zD, ev, lget]; (try rfl))))
  rename_i gp2 we d1 d2 he0 ee ze_ wf hp2 ef zf_
  have e3 : Evt (fun k => k = gp2) wn2 wf := Evt.next ef (ee.mono fun _ _ h => h.elim) (fun _ _ h => h)
  have ev3 : Evt (fun _ => False) wd wf := Evt.next ef (Evt.next ee (Evt.next evn2 evO2 (fun _ _ h => h)) (fun _ _ h => h)) (fun k hk hh => by have h' : k = gp2 := hh; omega)
  have hL2 := hB2.lt
  have hB2f := hB2.evt e3 (fun k hk hh => by have h' : k = gp2 := hh; have := hL2 k hk; omega) (fun _ h => h) (fun k hk => by have := hL2 k hk; have := e3.size; omega)
  have hB1f := hB1d.up ev3
  have hPf := hPd.evt ev3 (fun h => h)
  have hQf : Blk wf gQ 24 (polC p VO dO) := hQd.evt ev3 (fun h => h)
  have hoQf := own_evt ev3 hoQd (fun _ _ h => h)
  have hp1f := hp1'.evt ev3 (fun h => h)
  have hp2f : Blk wf gp2 65 (prC gb2 none 0 0) := hp2
  have z3 := ev3.size
  have evBf : Evt (fun _ => False) wB wf := Evt.next ev3 ev12 (fun _ _ h => h)
  have hrf := hrB.up ev3
  clear he0 ee ef e3 evO2 evn2 hoO2 hrO2 hB2 hB1d hPd hQd hoQd hp1' hp2 hrB ev3 ev12
  refine stop_go ?_
  repeat' (first | (with_reducible refine' stop_reg (id := 6) ?_) | ((with_reducible refine' l_step ?_); (with_reducible refine' g_eqlPS ?hx ?hy ?_); (case hx => rfl); (case hy => rfl); (conv => arg 5; simp only [zA, zB, ev, lget, zC, zD, zE, zF, zG, zH, zI, zJ, zK, zL, zM, zN, zO])) | (with_reducible (first | refine' wp_seq ?_ | refine' wp_region_lit ?_ | refine' wpList_nil ?_ | refine' then_normal ?_ | refine' wp_skip ?_)) | ((with_reducible refine' c_condF ?hx ?_); (case hx => rfl)) | ((with_reducible refine' l_step ?_); (first | ((first | (with_reducible refine' g_move ?_) | ((with_reducible refine' g_fieldAddr ?hx ?ho ?_); (case hx => rfl); (case ho => rfl)) | ((with_reducible refine' g_loadB ?hx ?hb ?hc ?_); (case hx => rfl); (case hb => exact bqq); first | (case hc => rfl) | (case hn => simp only [List.length_cons, List.length_nil]; omega)) | ((with_reducible refine' g_pickF ?hx ?_); (case hx => rfl)) | ((with_reducible refine' g_lenS ?hx ?_); (case hx => rfl))); (conv => arg 5; simp only [zA, zB, ev, lget, zC, zD, zE, zF, zG, zH, zI, zJ, zK, zL, zM, zN, zO])) | (((with_reducible refine' g_neq ?hx ?hy (fun _ => ?_) (fun _ => ?_)); (case hx => rfl)); (case hy => rfl); all_goals (first | (exfalso; omega) | (conv => arg 5; simp only [zA, zB, ev, lget, zC, zD, zE, zF, zG, zH, zI, zJ, zK, zL, zM, zN, zO]))))) | ((with_reducible refine' l_on ?hw ?_); (case hw => rfl)))
  refine stop_go ?_
  repeat' (first | (with_reducible (first | refine' wp_region_lit ?_ | refine' wpList_nil ?_ | refine' then_normal ?_ | refine' wp_block ?_)) | ((with_reducible refine' l_step ?_); ((with_reducible refine' g_assign ?_); (conv => arg 5; simp only [zA, zB, ev, lget, zC, zD, zE, zF, zG, zH, zI, zJ, zK, zL, zM, zN, zO]))))
  refine' s_loop [8, 12, 46, 47, 48, 49, 50, 51, 52, 53, 54, 55, 56, 57, 58, 59, 60, 61, 62, 63, 64, 65, 66, 67] (fun n u w' => ∃ (i : Nat), n = p.hs.length - i ∧ i ≤ p.hs.length ∧ u 12 = .int .i64 i ∧ (∀ g, (Value.slice VO p.hs.length dO).ownBlock = some g → ∃ cur, VO = some ⟨g, 0, none⟩ ∧ Blk w' g 3 cur ∧ cur.length = dO ∧ ∀ j (hj : j < p.hs.length), i ≤ j → cur[j]? = some (.int .i64 p.hs[j])) ∧ Evt (fun k => (Value.slice VO p.hs.length dO).ownBlock = some k) wf w') p.hs.length ?h0 ?round
  case h0 =>
    refine ⟨0, rfl, by omega, rfl, fun g hg => ?_, Evt.refl _ _⟩
    rcases own_blk_of hoQf with ⟨h1, _⟩ | ⟨g', cap, cur, h1, hb, ht, hl, _⟩
    · rw [h1] at hg
      simp [Value.ownBlock] at hg
    · simp only [Value.slice.injEq] at h1
      obtain ⟨rfl, _, rfl⟩ := h1
      simp only [Value.ownBlock, Option.some.injEq] at hg
      subst hg
      refine ⟨cur, rfl, hb, by simpa using hl, fun j hj _ => ?_⟩
      have h1 : (ints p.hs)[j]? = some (.int .i64 p.hs[j]) := by simp [ints, hj]
      rw [← ht, List.getElem?_take] at h1
      split at h1
      · exact h1
      · cases h1
  case round =>
    rintro n u w6 ⟨i, rfl, hi, h12, hV6, ev6⟩
    simp only [setW, List.foldl_cons, List.foldl_nil, List.set_cons_succ, List.set_cons_zero]
    simp only [h12]
    have z6 := ev6.size
    have hty : ∀ {k : Nat} {tt : TypeId} {cs : List Value}, Blk wf k tt cs → 3 ≠ tt → ¬ (Value.slice VO p.hs.length dO).ownBlock = some k := fun hk ht hh => by
      obtain ⟨c0, hc0⟩ := own_typ hoQf _ hh
      exact Blk.ne hc0 hk ht rfl
    have hP6 := hPf.evt ev6 (hty hPf (by decide))
    have hQ6 := hQf.evt ev6 (hty hQf (by decide))
    by_cases hlt : i < p.hs.length
    · obtain ⟨gV, cur0, hA, hobV, hbV0, _, _, hc1, _⟩ := own_some hoQf (by omega)
      obtain ⟨cur, _, hbV, hlV, hcj⟩ := hV6 gV hobV
      subst hA
      obtain ⟨bP, oP, rfl, hcP⟩ := hrf.2 (by omega)
      have hgV := hnO gV hobV
      obtain ⟨bP', oP', hA', hcP0⟩ := hrB0.2 (by omega)
      cases hA'
      have hbP : bP < wB.heap.size := cell_bl0 (hcP0 i _ (List.getElem?_eq_getElem hlt))
      have hcp : w6.cell? ⟨bP, oP + i, none⟩ = some (.int .i64 p.hs[i]) := cell_evt ev6 (hcP i _ (List.getElem?_eq_getElem hlt)) (fun hh => by
        have hh' : (Value.slice (some ⟨gV, 0, none⟩) p.hs.length dO).ownBlock = some bP := hh
        rw [hobV] at hh'
        have := Option.some.inj hh'
        omega)
      have hcq : w6.cell? ⟨gV, i, none⟩ = some (.int .i64 p.hs[i]) := by
        rw [hbV.cell?]
        exact hcj i hlt (Nat.le_refl _)
      clear hty
      have hcl : i < cur.length := by omega
      clear hPf hQf hp1f hp2f hB1f hB2f hbV0 hcP hcP0 hV6 hrf hopB
      generalize p.hs[i] = hx at *
      repeat' (first | (with_reducible (first | refine' wp_seq ?_ | refine' wp_region_lit ?_ | refine' wpList_nil ?_ | refine' then_normal ?_ | refine' wp_block ?_ | refine' wp_skip ?_ | refine' in_normal ?_)) | ((with_reducible refine' c_condT ?hx ?_); (case hx => rfl)) | ((with_reducible refine' c_condF ?hx ?_); (case hx => rfl)) | ((with_reducible refine' l_step ?_); (first | ((first | (with_reducible refine' g_move ?_) | (with_reducible refine' g_assign ?_) | ((with_reducible refine' g_fieldAddr ?hx ?ho ?_); (case hx => rfl); (case ho => rfl)) | ((with_reducible refine' g_loadB ?hx ?hb ?hc ?_); (case hx => rfl); (case hb => exact bqq); first | (case hc => rfl) | (case hn => simp only [List.length_cons, List.length_nil]; omega)) | ((with_reducible refine' g_addN ?hx ?hy ?h0 ?h1 ?_); (case hx => rfl); (case hy => rfl); (case h0 => omega); (case h1 => omega)) | ((with_reducible refine' g_lenS ?hx ?_); (case hx => rfl)) | ((with_reducible refine' g_indexAddr ?hx ?hy ?h0 ?h1 ?_); (case hx => rfl); (case hy => rfl); (case h0 => omega); (case h1 => omega))); (conv => arg 5; simp only [zA, zB, ev, lget, zC, zD, zE, zF, zG, zH, zI, zJ, zK, zL, zM, zN, zO])) | (((with_reducible refine' g_lss ?hx ?hy (fun _ => ?_) (fun _ => ?_)); (case hx => rfl)); (case hy => rfl); all_goals (first | (exfalso; omega) | (conv => arg 5; simp only [zA, zB, ev, lget, zC, zD, zE, zF, zG, zH, zI, zJ, zK, zL, zM, zN, zO]))))) | ((first | ((with_reducible refine' e_storeB ?hx ?hy ?hv ?h1 ?hb ?ho ?_); (case hx => rfl); (case hy => ((try simp only [ev, lget]); (try rfl))); (case hv => rfl); (case h1 => rfl)) | ((with_reducible refine' e_storeR ?hx ?hy ?h1 ?hb ?hn ?ho ?_); (case hx => rfl); (case hy => rfl); (case h1 => simp [Value.oneCell']); (case hn => rfl))); (case hb => exact bqq); (case ho => first | (simp only [List.length_cons, List.length_nil]; omega) | omega | (simp; omega) | simp); (try simp only [splice, zA, zB]); intro _ _ _ _) | ((with_reducible refine' w_quiet (id := 9) ?hm ?hB ?_); (case hm => kernel_rfl); (case hB => kernel_rfl)) | ((with_reducible refine' q_nil ?_); intro _ _ _) | ((with_reducible refine' q_step ?_); (first | ((first | (with_reducible refine' g_move ?_) | ((with_reducible refine' g_fieldAddr ?hx ?ho ?_); (case hx => rfl); (case ho => rfl)) | ((with_reducible refine' g_loadB ?hx ?hb ?hc ?_); (case hx => rfl); (case hb => exact bqq); first | (case hc => rfl) | (case hn => simp only [List.length_cons, List.length_nil]; omega)) | ((with_reducible refine' g_loadC ?hx ?hc ?_); (case hx => rfl); (case hc => exact cqq)) | ((with_reducible refine' g_indexAddr ?hx ?hy ?h0 ?h1 ?_); (case hx => rfl); (case hy => rfl); (case h0 => omega); (case h1 => omega))); (conv => arg 6; simp only [zA, zB, ev, lget, zC, zD, zE, zF, zG, zH, zI, zJ, zK, zL, zM, zN, zO])) | (((with_reducible refine' g_neq ?hx ?hy (fun _ => ?_) (fun _ => ?_)); (case hx => rfl)); (case hy => rfl); all_goals (first | (exfalso; omega) | (conv => arg 6; simp only [zA, zB, ev, lget, zC, zD, zE, zF, zG, zH, zI, zJ, zK, zL, zM, zN, zO]))))))
      rename_i w7 f7 y7 w8 hb8 e8 z8
      have e68 : Evt (fun k => k = gV) w6 w8 := Evt.next e8 (f7.mono fun _ _ h => h.elim) (fun _ _ h => h)
      exact ⟨_, _, rfl, (by omega : p.hs.length - (i + 1) < p.hs.length - i), by simp only [zA, zB], i + 1, rfl, by omega, rfl, fun g hg => by
        rw [hobV] at hg
        obtain rfl := Option.some.inj hg
        exact ⟨_, rfl, hb8, by rw [List.length_set]; exact hlV, fun j hj hij => by rw [List.getElem?_set, if_neg (by omega)]; exact hcj j hj (by omega)⟩, Evt.next e68 ev6 (fun k hk hh => by have h' : k = gV := hh; rw [h']; exact hobV)⟩
    · have hnV : ∀ k, k < wB.heap.size ∨ wb.heap.size ≤ k → ¬ (Value.slice VO p.hs.length dO).ownBlock = some k := fun k hk hh => by
        have h1 := hnO k hh
        have h2 := hlQ k hh
        omega
      have hp16 := hp1f.evt ev6 (hnV _ (by omega))
      have hp26 := hp2f.evt ev6 (hnV _ (by omega))
      have hB16 := hB1f.evt ev6 (fun k hk => hnV k (by have := hF1 k hk; omega)) (fun _ h => h) (fun k hk => by have := hL1 k hk; omega)
      have hB26 := hB2f.evt ev6 (fun k hk => hnV k (by have := hF2 k hk; omega)) (fun _ h => h) (fun k hk => by have := hL2 k hk; omega)
      have evB6 : Evt (fun _ => False) wB w6 := Evt.next ev6 evBf (fun k hk hh => by have := hnO k hh; omega)
      clear hPf hQf hp1f hp2f hB1f hB2f hV6 hrf ev6 evBf hoQf hty
      repeat' (first | (with_reducible refine' stop_reg (id := 16) ?_) | (with_reducible (first | refine' wp_seq ?_ | refine' wp_region_lit ?_ | refine' wpList_nil ?_ | refine' then_normal ?_ | refine' wp_exit ?_ | refine' then_exit ?_ | refine' in_exit ?_)) | ((with_reducible refine' c_condF ?hx ?_); (case hx => rfl)) | ((with_reducible refine' l_step ?_); (first | ((first | (with_reducible refine' g_move ?_) | (with_reducible refine' g_assign ?_) | ((with_reducible refine' g_fieldAddr ?hx ?ho ?_); (case hx => rfl); (case ho => rfl)) | ((with_reducible refine' g_loadB ?hx ?hb ?hc ?_); (case hx => rfl); (case hb => exact bqq); first | (case hc => rfl) | (case hn => simp only [List.length_cons, List.length_nil]; omega)) | ((with_reducible refine' g_lenS ?hx ?_); (case hx => rfl))); (conv => arg 5; simp only [zA, zB, ev, lget, zC, zD, zE, zF, zG, zH, zI, zJ, zK, zL, zM, zN, zO])) | (((with_reducible refine' g_lss ?hx ?hy (fun _ => ?_) (fun _ => ?_)); (case hx => rfl)); (case hy => rfl); all_goals (first | (exfalso; omega) | (conv => arg 5; simp only [zA, zB, ev, lget, zC, zD, zE, zF, zG, zH, zI, zJ, zK, zL, zM, zN, zO]))))) | (((with_reducible refine' e_alloc ?hx ?_); (case hx => rfl)); intro _ _ _ _ _ _ _; (conv => arg 5; simp only [zA, zB, ev, lget, zC, zD, zE, zF, zG, zH, zI, zJ, zK, zL, zM, zN, zO])))
      rename_i gU w7 q1 q2 hU7 e7 z7
      have hP7 := hP6.evt e7 (fun h => h)
      have hp17 := hp16.evt e7 (fun h => h)
      have hp27 := hp26.evt e7 (fun h => h)
      have hB17 := hB16.up e7
      have hB27 := hB26.up e7
      have evB7 : Evt (fun _ => False) wB w7 := Evt.next e7 evB6 (fun _ _ h => h)
      have hPB : Blk w7 gP 24 (polC p A c) := hP7
      have hC0 : UC wB w7 p (fun k => k = gp1 ∨ k = gp2 ∨ k = gU) F1 F2 (fun _ => False) gb1 gb2 0 0 none [] none [] none 0 [] none 0 [] := {
        s1 := ⟨⟨[], hB17, rfl, Nat.le_refl _⟩, ⟨fun hn => by simp [ntCs] at hn, by simp⟩, by simp, fun _ _ h => h, fun _ h => h.elim⟩
        s2 := ⟨⟨[], hB27, rfl, Nat.le_refl _⟩, ⟨fun hn => by simp [ntCs] at hn, by simp⟩, by simp, fun _ _ h => h, fun _ h => h.elim⟩
        dis := fun k h1 h2 => by
          have := hL1 k h1
          have := hF2 k h2
          omega
        ho := World.ownsRow_nil _ _ _ _
        hb := ⟨by simp, by simp⟩
        lr := World.ownsRow_nil _ _ _ _
        lo := ⟨by simp, by simp, List.Pairwise.nil, by simp⟩
        lbG := by simp
        ow := fun k hk => by simp [hV, Value.ownBlock] at hk
        low := fun k hk => by
          rcases hk with h1 | h1 | h1
          · have := hL1 k h1
            have := hF1 k h1
            exact ⟨by omega, by omega⟩
          · have := hL2 k h1
            have := hF2 k h1
            exact ⟨by omega, by omega⟩
          · exact h1.elim
        xl := fun k hk => by omega }
      have gPB : gP < wB.heap.size := c2
      have gp1B : wB.heap.size ≤ gp1 := by omega
      have gp2B : wB.heap.size ≤ gp2 := by omega
      have gUB : wB.heap.size ≤ gU := by omega
      have g12 : gp1 ≠ gp2 := by omega
      have g1U : gp1 ≠ gU := by omega
      have g2U : gp2 ≠ gU := by omega
      clear hP6 hQ6 hp16 hp26 hB16 hB26 evB6 e7 hB17 hB27 hnV hnO hlQ hF1 hF2 hL1 hL2 hnO2
      refine stop_go ?_
      repeat' (first | (with_reducible (first | refine' wp_region_lit ?_ | refine' wpList_nil ?_ | refine' then_normal ?_ | refine' wp_block ?_)) | ((with_reducible refine' l_step ?_); ((with_reducible refine' g_assign ?_); (conv => arg 5; simp only [zA, zB, ev, lget, zC, zD, zE, zF, zG, zH, zI, zJ, zK, zL, zM, zN, zO]))))
      refine' s_loop [8, 13, 14, 15, 17, 18, 19, 68, 69, 70, 71, 72, 73, 74, 75, 76, 77, 78, 79, 80, 81, 82, 83, 84, 85, 86, 87, 88, 89, 90, 91, 92, 93, 94, 95, 96, 97, 98, 99, 100, 101, 102, 103, 104, 105, 106, 107, 108, 109, 110, 111, 112, 113, 114, 115, 116, 117, 118, 119, 120, 121, 122, 123, 124] (fun n u w' => ∃ (i : Nat) (F1 F2 G : Nat → Prop) (n1 n2 : Nat) (A1 : Option Addr) (c1 : Nat) (rs1 : List Nt) (A2 : Option Addr) (c2 : Nat) (rs2 : List Nt) (VH : Option Addr) (dH : Nat) (hs : List Hd) (VL : Option Addr) (dL : Nat) (ls : List Ls) (x y : Value), n = os.length - i ∧ i ≤ os.length ∧ u 17 = .int .i64 i ∧ u 14 = .slice VH hs.length dH ∧ u 15 = .slice VL ls.length dL ∧ n1 ≤ i ∧ n2 ≤ i ∧ hs.length ≤ 1048576 * i ∧ ls.length = i ∧ Blk w' gP 24 (polC p A c) ∧ Blk w' gp1 65 (prC gb1 A1 rs1.length c1) ∧ Blk w' gp2 65 (prC gb2 A2 rs2.length c2) ∧ Blk w' gU 70 [x, y] ∧ UC wB w' p (fun k => k = gp1 ∨ k = gp2 ∨ k = gU) F1 F2 G gb1 gb2 n1 n2 A1 rs1 A2 rs2 VH dH hs VL dL ls ∧ Evt (fun _ => False) wB w') os.length ?h5 ?round5
      case h5 => exact ⟨0, F1, F2, _, 0, 0, none, 0, [], none, 0, [], none, 0, [], none, 0, [], _, _, rfl, by omega, rfl, rfl, rfl, Nat.le_refl _, Nat.le_refl _, by simp, rfl, hPB, hp17, hp27, hU7, hC0, evB7⟩
      clear hPB hp17 hp27 hU7 hC0 evB7 hP7
      case round5 =>
        rintro n u w3 ⟨i, F1, F2, G, n1, n2, A1, c1, rs1, A2, c2, rs2, VH, dH, hs, VL, dL, ls, x, y, rfl, hi, h17, h14, h15, hn1, hn2, hhl, hll, hP3, hp13, hp23, hU3, hC, hev⟩
        simp only [setW, List.foldl_cons, List.foldl_nil, List.set_cons_succ, List.set_cons_zero]
        simp only [h17, h14, h15]
        have hz := hev.size
        have l1 := hp13.lt
        have l2 := hp23.lt
        have lU := hU3.lt
        by_cases hlt : i < os.length
        · obtain ⟨b, o, rfl, hcellE⟩ := RC.flat (f := opC) (sz := 5) (fun _ => rfl) (hopB0.row.up hev) (by omega) hlt
          have hok := hopB0.ok _ (List.getElem_mem hlt)
          have hrg0 := rg_of (hopB0.bod _ (List.getElem_mem hlt))
          generalize os[i] = oi at *
          obtain ⟨ok, oth, oid, onow, ob, oA, oc⟩ := oi
          cases oth
          · repeat' (first | (with_reducible refine' stop_reg (id := 23) ?_) | (with_reducible (first | refine' wp_seq ?_ | refine' wp_region_lit ?_ | refine' wpList_nil ?_ | refine' then_normal ?_ | refine' wp_block ?_ | refine' wp_skip ?_)) | ((with_reducible refine' c_condT ?hx ?_); (case hx => rfl)) | ((with_reducible refine' c_condF ?hx ?_); (case hx => rfl)) | ((with_reducible refine' l_step ?_); (first | ((first | (with_reducible refine' g_move ?_) | (with_reducible refine' g_assign ?_) | ((with_reducible refine' g_fieldAddr ?hx ?ho ?_); (case hx => rfl); (case ho => rfl)) | ((first | (with_reducible refine' g_loadB ?hx ?hb ?hc ?_) | (with_reducible refine' g_loadS ?hx ?hb ?hn ?_)); (case hx => rfl); (case hb => exact bqq); first | (case hc => rfl) | (case hn => simp only [List.length_cons, List.length_nil]; omega)) | ((with_reducible refine' g_loadR ?hx ?hn ?hc ?_); (case hx => rfl); (case hc => first | exact hcellE _ (by exact eqq) | exact hcellF _ (by exact eqq)); (case hn => rfl)) | ((with_reducible refine' g_mulN ?hx ?hy ?h0 ?h1 ?_); (case hx => rfl); (case hy => rfl); (case h0 => omega); (case h1 => omega)) | ((with_reducible refine' g_lenS ?hx ?_); (case hx => rfl)) | ((with_reducible refine' g_convInt ?hx ?_); (case hx => rfl)) | ((with_reducible refine' g_indexAddr ?hx ?hy ?h0 ?h1 ?_); (case hx => rfl); (case hy => rfl); (case h0 => omega); (case h1 => omega))); (conv => arg 5; simp only [zA, zB, ev, lget, zC, zD, zE, zF, zG, zH, zI, zJ, zK, zL, zM, zN, zO])) | (((with_reducible refine' g_lss ?hx ?hy (fun _ => ?_) (fun _ => ?_)); (case hx => rfl)); (case hy => rfl); all_goals (first | (exfalso; omega) | (conv => arg 5; simp only [zA, zB, ev, lget, zC, zD, zE, zF, zG, zH, zI, zJ, zK, zL, zM, zN, zO]))))) | (((with_reducible refine' e_alloc ?hx ?_); (case hx => rfl)); intro _ _ _ _ _ _ _; (conv => arg 5; simp only [zA, zB, ev, lget, zC, zD, zE, zF, zG, zH, zI, zJ, zK, zL, zM, zN, zO])) | ((first | ((with_reducible refine' e_storeB ?hx ?hy ?hv ?h1 ?hb ?ho ?_); (case hx => rfl); (case hy => ((try simp only [ev, lget]); (try rfl))); (case hv => rfl); (case h1 => rfl)) | ((with_reducible refine' e_storeR ?hx ?hy ?h1 ?hb ?hn ?ho ?_); (case hx => rfl); (case hy => rfl); (case h1 => simp [Value.oneCell']); (case hn => rfl))); (case hb => exact bqq); (case ho => first | (simp only [List.length_cons, List.length_nil]; omega) | omega | (simp; omega) | simp); (try simp only [splice, zA, zB]); intro _ _ _ _))
            rename_i gO wo o1 o2 hO0 eO0 zO0_ w8 hO8 eO1 z8_
            have e38 : Evt (fun _ => False) w3 w8 := Evt.next eO1 eO0 (fun k hk hh => by have h' : k = gO := hh; omega)
            have hP8 := hP3.evt e38 (fun h => h)
            have hp18 := hp13.evt e38 (fun h => h)
            have hp28 := hp23.evt e38 (fun h => h)
            have hU8 := hU3.evt e38 (fun h => h)
            have hC8 := (hC.evt e38 (fun _ _ h => h.elim))
            have hevB8 : Evt (fun _ => False) wB w8 := Evt.next e38 hev (fun _ _ h => h)
            have hrg8 : RG w8 (fun k => k < wB.heap.size) oA (u8s ob) := hrg0.evt hevB8 (fun _ _ _ h => h) (fun _ h => h)
            have hr8 := hrB0.up hevB8
            have fP : ¬ F1 gP := fun hh => by have := (hC8.low gP (.inl hh)).1; omega
            have f1 : ¬ F1 gp1 := fun hh => (hC8.low gp1 (.inl hh)).2 (.inl rfl)
            have f2 : ¬ F1 gp2 := fun hh => (hC8.low gp2 (.inl hh)).2 (.inr (.inl rfl))
            have fU : ¬ F1 gU := fun hh => (hC8.low gU (.inl hh)).2 (.inr (.inr rfl))
            have fO : ¬ F1 gO := fun hh => by have := hC.s1.fl gO hh; omega
            have hHF : ∀ k, k < wB.heap.size → ¬ F1 k ∧ k < w8.heap.size := fun k hk => ⟨fun hh => by have := (hC8.low k (.inl hh)).1; omega, by have := hevB8.size; omega⟩
            have zB8 := hevB8.size
            have hevB8' := hevB8
            clear hO0 eO0 eO1 e38 hP3 hp13 hp23 hU3 hC hcellE hrg0 hev hevB8
            refine stop_go ?_
            repeat' (first | (go_at_call 29; refine (step_any F1 G gb1 n1 p A c A1 c1 rs1 ⟨ok, false, oid, onow, ob, oA, oc⟩ (IntKind.u8.wrap (7 * (i : Int))) _ hC8.s1 hr8 (fun k => k < wB.heap.size) hrg8 hHF hok (by omega)).mono ?_; rintro e wS ⟨Fa', G', na', Aa', ca', rsa', Bb, cb, bs, l, rfl, hT⟩; have evT := hT.evt; have zS_ := evT.size; refine ⟨_, rfl, ?_⟩; (conv => arg 5; simp only [zA, zB, ev, lget, zC, zD, zE, zF, zG, zH, zI, zJ, zK, zL, zM, zN, zO])) | (with_reducible refine' stop_reg (id := 24) ?_) | (with_reducible (first | refine' wp_seq ?_ | refine' wp_region_lit ?_ | refine' wpList_nil ?_ | refine' then_normal ?_)) | ((with_reducible refine' l_step ?_); ((first | (with_reducible refine' g_move ?_) | (with_reducible refine' g_assign ?_) | ((with_reducible refine' g_loadS ?hx ?hb ?hn ?_); (case hx => rfl); (case hb => exact bqq); first | (case hc => rfl) | (case hn => simp only [List.length_cons, List.length_nil]; omega)) | ((with_reducible refine' g_extract ?hx ?hv ?_); (case hx => rfl); (case hv => rfl))); (conv => arg 5; simp only [zA, zB, ev, lget, zC, zD, zE, zF, zG, zH, zI, zJ, zK, zL, zM, zN, zO]))) | ((first | ((with_reducible refine' e_storeB ?hx ?hy ?hv ?h1 ?hb ?ho ?_); (case hx => rfl); (case hy => ((try simp only [ev, lget]); (try rfl))); (case hv => rfl); (case h1 => rfl)) | ((with_reducible refine' e_storeR ?hx ?hy ?h1 ?hb ?hn ?ho ?_); (case hx => rfl); (case hy => rfl); (case h1 => simp [Value.oneCell']); (case hn => rfl))); (case hb => exact bqq); (case ho => first | (simp only [List.length_cons, List.length_nil]; omega) | omega | (simp; omega) | simp); (try simp only [splice, zA, zB]); intro _ _ _ _) | ((with_reducible refine' l_call TFn.ent ?ha ?_); (case ha => simp only [zC, zD, ev, lget]; (try rfl))))
            rename_i w9 h9 e9 z9_ wX hUX eX zX_
            have evSX : Evt (fun k => k = gp1 ∨ k = gU) wS wX := Evt.next (eX.mono fun _ _ h => .inr h) (e9.mono fun _ _ h => .inl h) (fun _ _ h => h)
            have hCX := (hC8.step (by omega) hT).evt evSX (fun k _ hk => by rcases hk with h | h; exact .inl h; exact .inr (.inr h))
            have hPX := (hP8.evt evT fP).evt evSX (by omega)
            have hpaX : Blk wX gp1 65 (prC gb1 Aa' rsa'.length ca') := h9.evt eX (by omega)
            have hpbX := (hp28.evt evT f2).evt evSX (by omega)
            have hUX' : Blk wX gU 70 [.slice Bb bs.length cb, lsV l] := hUX
            have hOX := (hO8.evt evT fO).evt evSX (by omega)
            have nG' : ∀ k, G' k → ¬ (k = gp1 ∨ k = gU) := fun k hk hh => (hCX.low k (.inr (.inr hk))).2 (by rcases hh with h | h; exact .inl h; exact .inr (.inr h))
            have hrowX := hT.row.evt evSX (fun k _ hk => nG' k hk) (fun _ h => h)
            have hbodX : HdG wX G' (hdOf (IntKind.u8.wrap (7 * (i : Int))) bs) := ⟨fun m hm => by
              obtain ⟨j, hj, rfl⟩ := hdOf_mem hm
              exact (hT.bod j hj).evt evSX (fun k _ hk => nG' k hk) (fun _ h => h), fun m hm => by
              obtain ⟨j, hj, rfl⟩ := hdOf_mem hm
              have := hT.bln _ (List.getElem_mem hj)
              show (bs[j]).body.length ≤ _
              omega⟩
            have hlX := own_evt evSX hT.lo (fun k hk => nG' k (hT.lb k hk).1)
            have hln : ∀ m ∈ ls, ∀ k, (lsV m).ownBlock = some k → ¬ (lsV l).ownBlock = some k := fun m hm k h1 h2 => by
              have h3 := own_lt (hC8.lo.own m hm) k h1
              have h4 := (hT.lb k h2).2
              omega
            have hoH0 := hCX.ho
            have hlR0 := hCX.lr
            have hneB : ∀ b o, Bb = some ⟨b, o, none⟩ → 0 < bs.length → ¬ (Value.slice VH hs.length dH).ownBlock = some b := fun b' o' hB' h0 hh => by
              obtain ⟨b2, o2, hA2, hg2, _⟩ := hrowX (by simpa [bdCs] using h0)
              rw [hB'] at hA2
              cases hA2
              exact (hCX.ow _ (.inl hh)).2.2.1 hg2
            have hbsl := hT.bsl
            have hnn := hT.nn
            have zX3 : wB.heap.size ≤ wX.heap.size := by omega
            have oH : ∀ k, (hV VH hs.length dH).ownBlock = some k → ¬ (k = gp1 ∨ k = gp2 ∨ k = gU) ∧ wB.heap.size ≤ k := fun k hk => ⟨(hCX.ow k (.inl hk)).2.2.2.1, (hCX.ow k (.inl hk)).2.2.2.2⟩
            have oL : ∀ k, (hV VL ls.length dL).ownBlock = some k → ¬ (k = gp1 ∨ k = gp2 ∨ k = gU) ∧ wB.heap.size ≤ k := fun k hk => ⟨(hCX.ow k (.inr hk)).2.2.2.1, (hCX.ow k (.inr hk)).2.2.2.2⟩
            have evX : Evt (fun _ => False) wB wX := Evt.next evSX (Evt.next evT hevB8' (fun k hk hh => by have := (hC8.low k (.inl hh)).1; omega)) (fun k hk hh => by omega)
            have hlG : ∀ k, (lsV l).ownBlock = some k → G' k := fun k hk => (hT.lb k hk).1
            have hli := hT.li
            have hll2 := hT.ll
            clear hP8 hp18 hp28 hU8 hC8 hO8 evT e9 eX evSX hUX h9 hT hrg8 hr8
            refine stop_go ?_
            repeat' (first | (go_at_call 30; refine (hold_r VH dH hs Bb cb _ bs (IntKind.u8.wrap (7 * (i : Int))) _ hoH0 hrowX.rc hneB rfl (by omega)).mono ?_; rintro e wH ⟨VH', dH', rfl, hoH, hnH, evH⟩; have zH_ := evH.size; refine ⟨_, rfl, ?_⟩; (conv => arg 5; simp only [zA, zB, ev, lget, zC, zD, zE, zF, zG, zH, zI, zJ, zK, zL, zM, zN, zO])) | (with_reducible refine' stop_reg (id := 27) ?_) | (with_reducible (first | refine' wp_seq ?_ | refine' wp_region_lit ?_ | refine' wpList_nil ?_ | refine' then_normal ?_ | refine' wp_skip ?_)) | ((with_reducible refine' c_condF ?hx ?_); (case hx => rfl)) | ((with_reducible refine' l_step ?_); ((first | (with_reducible refine' g_move ?_) | (with_reducible refine' g_assign ?_) | ((with_reducible refine' g_fieldAddr ?hx ?ho ?_); (case hx => rfl); (case ho => rfl)) | ((with_reducible refine' g_loadB ?hx ?hb ?hc ?_); (case hx => rfl); (case hb => exact bqq); first | (case hc => rfl) | (case hn => simp only [List.length_cons, List.length_nil]; omega)) | ((with_reducible refine' g_pickF ?hx ?_); (case hx => rfl)) | ((with_reducible refine' g_notT ?hx ?_); (case hx => rfl))); (conv => arg 5; simp only [zA, zB, ev, lget, zC, zD, zE, zF, zG, zH, zI, zJ, zK, zL, zM, zN, zO]))) | ((with_reducible refine' l_off ?hw ?_); (case hw => rfl); (conv => arg 5; simp only [zA, zB, ev, lget, zC, zD, zE, zF, zG, zH, zI, zJ, zK, zL, zM, zN, zO])) | ((with_reducible refine' l_call TFn.ent ?ha ?_); (case ha => simp only [zC, zD, ev, lget]; (try rfl))))
            have hCH := hCX.hold zX3 hoH hnH evH hbodX
            have hPH := hPX.evt evH (fun hh => by have := (oH _ hh).2; omega)
            have hpaH := hpaX.evt evH (fun hh => (oH _ hh).1 (.inl rfl))
            have hpbH := hpbX.evt evH (fun hh => (oH _ hh).1 (.inr (.inl rfl)))
            have hUH := hUX'.evt evH (fun hh => (oH _ hh).1 (.inr (.inr rfl)))
            have hlH := own_evt evH hlX (fun k h1 hh => by
              have h2 := hlG k h1
              exact (hCX.ow k (.inl hh)).2.2.1 h2)
            have hlR := hCH.lr
            have evBH : Evt (fun _ => False) wB wH := Evt.next evH evX (fun k hk hh => by have := (oH k hh).2; omega)
            clear hPX hpaX hpbX hUX' hOX hlX hoH hnH hoH0 hlR0 hCX hrowX evX hevB8' evH hneB hbodX
            refine stop_go ?_
            repeat' (first | ((with_reducible refine' e_appS (v := .slice VL ls.length dL) (n := ls.length) (m := 1) (xs := lsCs ls) (news := [lsV l]) ?hx ?hy ?hzs ?hsz ?hown ?hl ?hr ?h1 ?hb ?hm ?_); (case hx => rfl); (case hy => rfl); (case hzs => rfl); (case hsz => decide); (case hown => exact oqq); (case hl => rfl); (case hr => exact RC.blk (by exact bqq) 1 rfl); (case h1 => simp [Value.oneCell']); (case hb => omega); (case hm => omega); intro vA wA hoA heA haA hzA; obtain ⟨VA, dA, hVA⟩ := own_slice hoA; subst hVA; (conv => arg 5; simp only [zA, zB, ev, lget, zC, zD, zE, zF, zG, zH, zI, zJ, zK, zL, zM, zN, zO])) | (with_reducible (first | refine' wp_region_lit ?_ | refine' wpList_nil ?_ | refine' then_normal ?_ | refine' in_normal ?_)) | ((with_reducible refine' l_step ?_); ((first | (with_reducible refine' g_move ?_) | (with_reducible refine' g_assign ?_) | ((with_reducible refine' g_fieldAddr ?hx ?ho ?_); (case hx => rfl); (case ho => rfl)) | ((with_reducible refine' g_loadB ?hx ?hb ?hc ?_); (case hx => rfl); (case hb => exact bqq); first | (case hc => rfl) | (case hn => simp only [List.length_cons, List.length_nil]; omega)) | ((with_reducible refine' g_addN ?hx ?hy ?h0 ?h1 ?_); (case hx => rfl); (case hy => rfl); (case h0 => omega); (case h1 => omega))); (conv => arg 5; simp only [zA, zB, ev, lget, zC, zD, zE, zF, zG, zH, zI, zJ, zK, zL, zM, zN, zO]))) | (((with_reducible refine' e_sliceLit ?hx ?hi ?hv ?hn ?_); (case hx => simp only [zC, zD, ev, lget]; (try rfl)); (case hi => rfl); (case hv => simp [Value.cells]); (case hn => decide); simp only [List.flatMap_cons, List.flatMap_nil, Value.cells, List.cons_append, List.nil_append]); intro _ _ _ _ _ _ _; (conv => arg 5; simp only [zA, zB, ev, lget, zC, zD, zE, zF, zG, zH, zI, zJ, zK, zL, zM, zN, zO])))
            rename_i gL wl1 m1 m2 hbL evl zl_
            have hlG' := hlG
            have evHL : Evt (fun _ => False) wH wl1 := evl
            have hCL := hCH.evt (S := fun _ => False) evHL (fun _ _ h => h.elim)
            have hlL := own_evt evHL hlH (fun _ _ h => h)
            have hoA' : wA.ownsRow 0 39 1 (hV VA (ls ++ [l]).length dA) (ls ++ [l]).length (lsCs (ls ++ [l])) := by
              rw [lsCs_snoc, List.length_append]
              exact hoA
            have hnA' : ∀ k, (hV VA (ls ++ [l]).length dA).ownBlock = some k → (hV VL ls.length dL).ownBlock = some k ∨ wl1.heap.size ≤ k := fun k hk => by
              rw [List.length_append] at hk
              have hk' : (Value.slice VA (ls.length + 1) dA).ownBlock = some k := hk
              rcases haA with h1 | ⟨h1, _⟩
              · rw [h1] at hk'
                exact .inl hk'
              · rw [h1] at hk'
                have := Option.some.inj hk'
                exact .inr (by omega)
            have hCA := hCL.list (by omega) hoA' hnA' heA hlL hlG hln hli (by omega)
            have hPA := (hPH.evt evHL (fun h => h)).evt heA (fun hh => by have := (oL _ hh).2; omega)
            have hpaA := (hpaH.evt evHL (fun h => h)).evt heA (fun hh => (oL _ hh).1 (.inl rfl))
            have hpbA := (hpbH.evt evHL (fun h => h)).evt heA (fun hh => (oL _ hh).1 (.inr (.inl rfl)))
            have hUA := (hUH.evt evHL (fun h => h)).evt heA (fun hh => (oL _ hh).1 (.inr (.inr rfl)))
            have evBA : Evt (fun _ => False) wB wA := Evt.next heA (Evt.next evHL evBH (fun _ _ h => h)) (fun k hk hh => by have := (oL k hh).2; omega)
            have hnl : (hs ++ hdOf (IntKind.u8.wrap (7 * (i : Int))) bs).length = hs.length + bs.length := by rw [List.length_append, hdOf_len]
            exact ⟨_, _, rfl, (by omega : os.length - (i + 1) < os.length - i), by simp only [zA, zB], i + 1, Fa', F2, G', na', n2, Aa', ca', rsa', A2, c2, rs2, VH', dH', hs ++ hdOf (IntKind.u8.wrap (7 * (i : Int))) bs, VA, dA, ls ++ [l], _, _, rfl, by omega, rfl, rfl, congrArg (fun z => Value.slice VA z dA) (by simp : ls.length + 1 = (ls ++ [l]).length), by omega, by omega, by omega, by rw [List.length_append, hll]; rfl, hPA, hpaA, hpbA, hUA, hCA, evBA⟩
          · repeat' (first | (with_reducible refine' stop_reg (id := 22) ?_) | (with_reducible (first | refine' wp_seq ?_ | refine' wp_region_lit ?_ | refine' wpList_nil ?_ | refine' then_normal ?_ | refine' wp_block ?_ | refine' wp_skip ?_)) | ((with_reducible refine' c_condT ?hx ?_); (case hx => rfl)) | ((with_reducible refine' l_step ?_); (first | ((first | (with_reducible refine' g_move ?_) | (with_reducible refine' g_assign ?_) | ((with_reducible refine' g_fieldAddr ?hx ?ho ?_); (case hx => rfl); (case ho => rfl)) | ((first | (with_reducible refine' g_loadB ?hx ?hb ?hc ?_) | (with_reducible refine' g_loadS ?hx ?hb ?hn ?_)); (case hx => rfl); (case hb => exact bqq); first | (case hc => rfl) | (case hn => simp only [List.length_cons, List.length_nil]; omega)) | ((with_reducible refine' g_loadR ?hx ?hn ?hc ?_); (case hx => rfl); (case hc => first | exact hcellE _ (by exact eqq) | exact hcellF _ (by exact eqq)); (case hn => rfl)) | ((with_reducible refine' g_mulN ?hx ?hy ?h0 ?h1 ?_); (case hx => rfl); (case hy => rfl); (case h0 => omega); (case h1 => omega)) | ((with_reducible refine' g_lenS ?hx ?_); (case hx => rfl)) | ((with_reducible refine' g_convInt ?hx ?_); (case hx => rfl)) | ((with_reducible refine' g_indexAddr ?hx ?hy ?h0 ?h1 ?_); (case hx => rfl); (case hy => rfl); (case h0 => omega); (case h1 => omega))); (conv => arg 5; simp only [zA, zB, ev, lget, zC, zD, zE, zF, zG, zH, zI, zJ, zK, zL, zM, zN, zO])) | (((with_reducible refine' g_lss ?hx ?hy (fun _ => ?_) (fun _ => ?_)); (case hx => rfl)); (case hy => rfl); all_goals (first | (exfalso; omega) | (conv => arg 5; simp only [zA, zB, ev, lget, zC, zD, zE, zF, zG, zH, zI, zJ, zK, zL, zM, zN, zO]))))) | (((with_reducible refine' e_alloc ?hx ?_); (case hx => rfl)); intro _ _ _ _ _ _ _; (conv => arg 5; simp only [zA, zB, ev, lget, zC, zD, zE, zF, zG, zH, zI, zJ, zK, zL, zM, zN, zO])) | ((first | ((with_reducible refine' e_storeB ?hx ?hy ?hv ?h1 ?hb ?ho ?_); (case hx => rfl); (case hy => ((try simp only [ev, lget]); (try rfl))); (case hv => rfl); (case h1 => rfl)) | ((with_reducible refine' e_storeR ?hx ?hy ?h1 ?hb ?hn ?ho ?_); (case hx => rfl); (case hy => rfl); (case h1 => simp [Value.oneCell']); (case hn => rfl))); (case hb => exact bqq); (case ho => first | (simp only [List.length_cons, List.length_nil]; omega) | omega | (simp; omega) | simp); (try simp only [splice, zA, zB]); intro _ _ _ _))
            rename_i gO wo o1 o2 hO0 eO0 zO0_ w8 hO8 eO1 z8_
            have e38 : Evt (fun _ => False) w3 w8 := Evt.next eO1 eO0 (fun k hk hh => by have h' : k = gO := hh; omega)
            have hP8 := hP3.evt e38 (fun h => h)
            have hp18 := hp13.evt e38 (fun h => h)
            have hp28 := hp23.evt e38 (fun h => h)
            have hU8 := hU3.evt e38 (fun h => h)
            have hC8 := (hC.evt e38 (fun _ _ h => h.elim)).swap
            have hevB8 : Evt (fun _ => False) wB w8 := Evt.next e38 hev (fun _ _ h => h)
            have hrg8 : RG w8 (fun k => k < wB.heap.size) oA (u8s ob) := hrg0.evt hevB8 (fun _ _ _ h => h) (fun _ h => h)
            have hr8 := hrB0.up hevB8
            have fP : ¬ F2 gP := fun hh => by have := (hC8.low gP (.inl hh)).1; omega
            have f1 : ¬ F2 gp1 := fun hh => (hC8.low gp1 (.inl hh)).2 (.inl rfl)
            have f2 : ¬ F2 gp2 := fun hh => (hC8.low gp2 (.inl hh)).2 (.inr (.inl rfl))
            have fU : ¬ F2 gU := fun hh => (hC8.low gU (.inl hh)).2 (.inr (.inr rfl))
            have fO : ¬ F2 gO := fun hh => by have := hC.swap.s1.fl gO hh; omega
            have hHF : ∀ k, k < wB.heap.size → ¬ F2 k ∧ k < w8.heap.size := fun k hk => ⟨fun hh => by have := (hC8.low k (.inl hh)).1; omega, by have := hevB8.size; omega⟩
            have zB8 := hevB8.size
            have hevB8' := hevB8
            clear hO0 eO0 eO1 e38 hP3 hp13 hp23 hU3 hC hcellE hrg0 hev hevB8
            refine stop_go ?_
            repeat' (first | (go_at_call 29; refine (step_any F2 G gb2 n2 p A c A2 c2 rs2 ⟨ok, true, oid, onow, ob, oA, oc⟩ (IntKind.u8.wrap (7 * (i : Int))) _ hC8.s1 hr8 (fun k => k < wB.heap.size) hrg8 hHF hok (by omega)).mono ?_; rintro e wS ⟨Fa', G', na', Aa', ca', rsa', Bb, cb, bs, l, rfl, hT⟩; have evT := hT.evt; have zS_ := evT.size; refine ⟨_, rfl, ?_⟩; (conv => arg 5; simp only [zA, zB, ev, lget, zC, zD, zE, zF, zG, zH, zI, zJ, zK, zL, zM, zN, zO])) | (with_reducible refine' stop_reg (id := 24) ?_) | (with_reducible (first | refine' wp_seq ?_ | refine' wp_region_lit ?_ | refine' wpList_nil ?_ | refine' then_normal ?_)) | ((with_reducible refine' l_step ?_); ((first | (with_reducible refine' g_move ?_) | (with_reducible refine' g_assign ?_) | ((with_reducible refine' g_loadS ?hx ?hb ?hn ?_); (case hx => rfl); (case hb => exact bqq); first | (case hc => rfl) | (case hn => simp only [List.length_cons, List.length_nil]; omega)) | ((with_reducible refine' g_extract ?hx ?hv ?_); (case hx => rfl); (case hv => rfl))); (conv => arg 5; simp only [zA, zB, ev, lget, zC, zD, zE, zF, zG, zH, zI, zJ, zK, zL, zM, zN, zO]))) | ((first | ((with_reducible refine' e_storeB ?hx ?hy ?hv ?h1 ?hb ?ho ?_); (case hx => rfl); (case hy => ((try simp only [ev, lget]); (try rfl))); (case hv => rfl); (case h1 => rfl)) | ((with_reducible refine' e_storeR ?hx ?hy ?h1 ?hb ?hn ?ho ?_); (case hx => rfl); (case hy => rfl); (case h1 => simp [Value.oneCell']); (case hn => rfl))); (case hb => exact bqq); (case ho => first | (simp only [List.length_cons, List.length_nil]; omega) | omega | (simp; omega) | simp); (try simp only [splice, zA, zB]); intro _ _ _ _) | ((with_reducible refine' l_call TFn.ent ?ha ?_); (case ha => simp only [zC, zD, ev, lget]; (try rfl))))
            rename_i w9 h9 e9 z9_ wX hUX eX zX_
            have evSX : Evt (fun k => k = gp2 ∨ k = gU) wS wX := Evt.next (eX.mono fun _ _ h => .inr h) (e9.mono fun _ _ h => .inl h) (fun _ _ h => h)
            have hCX := (hC8.step (by omega) hT).evt evSX (fun k _ hk => by rcases hk with h | h; exact .inr (.inl h); exact .inr (.inr h))
            have hPX := (hP8.evt evT fP).evt evSX (by omega)
            have hpaX : Blk wX gp2 65 (prC gb2 Aa' rsa'.length ca') := h9.evt eX (by omega)
            have hpbX := (hp18.evt evT f1).evt evSX (by omega)
            have hUX' : Blk wX gU 70 [.slice Bb bs.length cb, lsV l] := hUX
            have hOX := (hO8.evt evT fO).evt evSX (by omega)
            have nG' : ∀ k, G' k → ¬ (k = gp2 ∨ k = gU) := fun k hk hh => (hCX.low k (.inr (.inr hk))).2 (by rcases hh with h | h; exact .inr (.inl h); exact .inr (.inr h))
            have hrowX := hT.row.evt evSX (fun k _ hk => nG' k hk) (fun _ h => h)
            have hbodX : HdG wX G' (hdOf (IntKind.u8.wrap (7 * (i : Int))) bs) := ⟨fun m hm => by
              obtain ⟨j, hj, rfl⟩ := hdOf_mem hm
              exact (hT.bod j hj).evt evSX (fun k _ hk => nG' k hk) (fun _ h => h), fun m hm => by
              obtain ⟨j, hj, rfl⟩ := hdOf_mem hm
              have := hT.bln _ (List.getElem_mem hj)
              show (bs[j]).body.length ≤ _
              omega⟩
            have hlX := own_evt evSX hT.lo (fun k hk => nG' k (hT.lb k hk).1)
            have hln : ∀ m ∈ ls, ∀ k, (lsV m).ownBlock = some k → ¬ (lsV l).ownBlock = some k := fun m hm k h1 h2 => by
              have h3 := own_lt (hC8.lo.own m hm) k h1
              have h4 := (hT.lb k h2).2
              omega
            have hoH0 := hCX.ho
            have hlR0 := hCX.lr
            have hneB : ∀ b o, Bb = some ⟨b, o, none⟩ → 0 < bs.length → ¬ (Value.slice VH hs.length dH).ownBlock = some b := fun b' o' hB' h0 hh => by
              obtain ⟨b2, o2, hA2, hg2, _⟩ := hrowX (by simpa [bdCs] using h0)
              rw [hB'] at hA2
              cases hA2
              exact (hCX.ow _ (.inl hh)).2.2.1 hg2
            have hbsl := hT.bsl
            have hnn := hT.nn
            have zX3 : wB.heap.size ≤ wX.heap.size := by omega
            have oH : ∀ k, (hV VH hs.length dH).ownBlock = some k → ¬ (k = gp1 ∨ k = gp2 ∨ k = gU) ∧ wB.heap.size ≤ k := fun k hk => ⟨(hCX.ow k (.inl hk)).2.2.2.1, (hCX.ow k (.inl hk)).2.2.2.2⟩
            have oL : ∀ k, (hV VL ls.length dL).ownBlock = some k → ¬ (k = gp1 ∨ k = gp2 ∨ k = gU) ∧ wB.heap.size ≤ k := fun k hk => ⟨(hCX.ow k (.inr hk)).2.2.2.1, (hCX.ow k (.inr hk)).2.2.2.2⟩
            have evX : Evt (fun _ => False) wB wX := Evt.next evSX (Evt.next evT hevB8' (fun k hk hh => by have := (hC8.low k (.inl hh)).1; omega)) (fun k hk hh => by omega)
            have hlG : ∀ k, (lsV l).ownBlock = some k → G' k := fun k hk => (hT.lb k hk).1
            have hli := hT.li
            have hll2 := hT.ll
            clear hP8 hp18 hp28 hU8 hC8 hO8 evT e9 eX evSX hUX h9 hT hrg8 hr8
            refine stop_go ?_
            repeat' (first | (go_at_call 30; refine (hold_r VH dH hs Bb cb _ bs (IntKind.u8.wrap (7 * (i : Int))) _ hoH0 hrowX.rc hneB rfl (by omega)).mono ?_; rintro e wH ⟨VH', dH', rfl, hoH, hnH, evH⟩; have zH_ := evH.size; refine ⟨_, rfl, ?_⟩; (conv => arg 5; simp only [zA, zB, ev, lget, zC, zD, zE, zF, zG, zH, zI, zJ, zK, zL, zM, zN, zO])) | (with_reducible refine' stop_reg (id := 27) ?_) | (with_reducible (first | refine' wp_seq ?_ | refine' wp_region_lit ?_ | refine' wpList_nil ?_ | refine' then_normal ?_ | refine' wp_skip ?_)) | ((with_reducible refine' c_condF ?hx ?_); (case hx => rfl)) | ((with_reducible refine' l_step ?_); ((first | (with_reducible refine' g_move ?_) | (with_reducible refine' g_assign ?_) | ((with_reducible refine' g_fieldAddr ?hx ?ho ?_); (case hx => rfl); (case ho => rfl)) | ((with_reducible refine' g_loadB ?hx ?hb ?hc ?_); (case hx => rfl); (case hb => exact bqq); first | (case hc => rfl) | (case hn => simp only [List.length_cons, List.length_nil]; omega)) | ((with_reducible refine' g_pickF ?hx ?_); (case hx => rfl)) | ((with_reducible refine' g_notT ?hx ?_); (case hx => rfl))); (conv => arg 5; simp only [zA, zB, ev, lget, zC, zD, zE, zF, zG, zH, zI, zJ, zK, zL, zM, zN, zO]))) | ((with_reducible refine' l_off ?hw ?_); (case hw => rfl); (conv => arg 5; simp only [zA, zB, ev, lget, zC, zD, zE, zF, zG, zH, zI, zJ, zK, zL, zM, zN, zO])) | ((with_reducible refine' l_call TFn.ent ?ha ?_); (case ha => simp only [zC, zD, ev, lget]; (try rfl))))
            have hCH := hCX.hold zX3 hoH hnH evH hbodX
            have hPH := hPX.evt evH (fun hh => by have := (oH _ hh).2; omega)
            have hpaH := hpaX.evt evH (fun hh => (oH _ hh).1 (.inr (.inl rfl)))
            have hpbH := hpbX.evt evH (fun hh => (oH _ hh).1 (.inl rfl))
            have hUH := hUX'.evt evH (fun hh => (oH _ hh).1 (.inr (.inr rfl)))
            have hlH := own_evt evH hlX (fun k h1 hh => by
              have h2 := hlG k h1
              exact (hCX.ow k (.inl hh)).2.2.1 h2)
            have hlR := hCH.lr
            have evBH : Evt (fun _ => False) wB wH := Evt.next evH evX (fun k hk hh => by have := (oH k hh).2; omega)
            clear hPX hpaX hpbX hUX' hOX hlX hoH hnH hoH0 hlR0 hCX hrowX evX hevB8' evH hneB hbodX
            refine stop_go ?_
            repeat' (first | ((with_reducible refine' e_appS (v := .slice VL ls.length dL) (n := ls.length) (m := 1) (xs := lsCs ls) (news := [lsV l]) ?hx ?hy ?hzs ?hsz ?hown ?hl ?hr ?h1 ?hb ?hm ?_); (case hx => rfl); (case hy => rfl); (case hzs => rfl); (case hsz => decide); (case hown => exact oqq); (case hl => rfl); (case hr => exact RC.blk (by exact bqq) 1 rfl); (case h1 => simp [Value.oneCell']); (case hb => omega); (case hm => omega); intro vA wA hoA heA haA hzA; obtain ⟨VA, dA, hVA⟩ := own_slice hoA; subst hVA; (conv => arg 5; simp only [zA, zB, ev, lget, zC, zD, zE, zF, zG, zH, zI, zJ, zK, zL, zM, zN, zO])) | (with_reducible (first | refine' wp_region_lit ?_ | refine' wpList_nil ?_ | refine' then_normal ?_ | refine' in_normal ?_)) | ((with_reducible refine' l_step ?_); ((first | (with_reducible refine' g_move ?_) | (with_reducible refine' g_assign ?_) | ((with_reducible refine' g_fieldAddr ?hx ?ho ?_); (case hx => rfl); (case ho => rfl)) | ((with_reducible refine' g_loadB ?hx ?hb ?hc ?_); (case hx => rfl); (case hb => exact bqq); first | (case hc => rfl) | (case hn => simp only [List.length_cons, List.length_nil]; omega)) | ((with_reducible refine' g_addN ?hx ?hy ?h0 ?h1 ?_); (case hx => rfl); (case hy => rfl); (case h0 => omega); (case h1 => omega))); (conv => arg 5; simp only [zA, zB, ev, lget, zC, zD, zE, zF, zG, zH, zI, zJ, zK, zL, zM, zN, zO]))) | (((with_reducible refine' e_sliceLit ?hx ?hi ?hv ?hn ?_); (case hx => simp only [zC, zD, ev, lget]; (try rfl)); (case hi => rfl); (case hv => simp [Value.cells]); (case hn => decide); simp only [List.flatMap_cons, List.flatMap_nil, Value.cells, List.cons_append, List.nil_append]); intro _ _ _ _ _ _ _; (conv => arg 5; simp only [zA, zB, ev, lget, zC, zD, zE, zF, zG, zH, zI, zJ, zK, zL, zM, zN, zO])))
            rename_i gL wl1 m1 m2 hbL evl zl_
            have hlG' := hlG
            have evHL : Evt (fun _ => False) wH wl1 := evl
            have hCL := hCH.evt (S := fun _ => False) evHL (fun _ _ h => h.elim)
            have hlL := own_evt evHL hlH (fun _ _ h => h)
            have hoA' : wA.ownsRow 0 39 1 (hV VA (ls ++ [l]).length dA) (ls ++ [l]).length (lsCs (ls ++ [l])) := by
              rw [lsCs_snoc, List.length_append]
              exact hoA
            have hnA' : ∀ k, (hV VA (ls ++ [l]).length dA).ownBlock = some k → (hV VL ls.length dL).ownBlock = some k ∨ wl1.heap.size ≤ k := fun k hk => by
              rw [List.length_append] at hk
              have hk' : (Value.slice VA (ls.length + 1) dA).ownBlock = some k := hk
              rcases haA with h1 | ⟨h1, _⟩
              · rw [h1] at hk'
                exact .inl hk'
              · rw [h1] at hk'
                have := Option.some.inj hk'
                exact .inr (by omega)
            have hCA := hCL.list (by omega) hoA' hnA' heA hlL hlG hln hli (by omega)
            have hPA := (hPH.evt evHL (fun h => h)).evt heA (fun hh => by have := (oL _ hh).2; omega)
            have hpaA := (hpaH.evt evHL (fun h => h)).evt heA (fun hh => (oL _ hh).1 (.inr (.inl rfl)))
            have hpbA := (hpbH.evt evHL (fun h => h)).evt heA (fun hh => (oL _ hh).1 (.inl rfl))
            have hUA := (hUH.evt evHL (fun h => h)).evt heA (fun hh => (oL _ hh).1 (.inr (.inr rfl)))
            have evBA : Evt (fun _ => False) wB wA := Evt.next heA (Evt.next evHL evBH (fun _ _ h => h)) (fun k hk hh => by have := (oL k hh).2; omega)
            have hnl : (hs ++ hdOf (IntKind.u8.wrap (7 * (i : Int))) bs).length = hs.length + bs.length := by rw [List.length_append, hdOf_len]
            exact ⟨_, _, rfl, (by omega : os.length - (i + 1) < os.length - i), by simp only [zA, zB], i + 1, F1, Fa', G', n1, na', A1, c1, rs1, Aa', ca', rsa', VH', dH', hs ++ hdOf (IntKind.u8.wrap (7 * (i : Int))) bs, VA, dA, ls ++ [l], _, _, rfl, by omega, rfl, rfl, congrArg (fun z => Value.slice VA z dA) (by simp : ls.length + 1 = (ls ++ [l]).length), by omega, by omega, by omega, by rw [List.length_append, hll]; rfl, hPA, hpbA, hpaA, hUA, hCA.swap, evBA⟩
        · have hi' : i = os.length := by omega
          have hhd := hC.hb
          have hhr := own_rc hC.ho
          have hlr := own_rc hC.lr
          have hlo := hC.lo
          have hGlo : ∀ m ∈ ls, ∀ k, (lsV m).ownBlock = some k → wB.heap.size ≤ k := fun m hm k hk => (hC.low k (.inr (.inr (hC.lbG m hm k hk)))).1
          have hnel : ∀ b o, VL = some ⟨b, o, none⟩ → ∀ m ∈ ls, ¬ (lsV m).ownBlock = some b := fun b o hV' m hm hh => by
            subst hV'
            rcases Nat.eq_zero_or_pos ls.length with h0 | h0
            · have h1 := List.eq_nil_of_length_eq_zero h0
              subst h1
              cases hm
            · obtain ⟨g, cur, hA, hob, _⟩ := own_some hC.lr h0
              cases hA
              exact (hC.ow _ (.inr hob)).2.2.1 (hC.lbG m hm _ hh)
          clear hP3 hp13 hp23 hU3
          repeat' (first | (go_at_call 31; refine (held_r VH dH _ hs _ (hhr.up (by exact eqq)) G (hhd.evt (S := fun _ => False) (by exact eqq) (fun _ _ _ h => h) (fun _ h => h)) rfl (by omega)).mono ?_; rintro e wI ⟨rfl, evI⟩; have zI_ := evI.size; refine ⟨_, rfl, ?_⟩; (conv => arg 5; simp only [zA, zB, ev, lget, zC, zD, zE, zF, zG, zH, zI, zJ, zK, zL, zM, zN, zO])) | (go_at_call 32; refine (kept_r VL dL _ ls _ (hlr.up (by exact eqq)) ⟨fun m hm => own_evt (by exact eqq : Evt (fun _ => False) w3 _) (hlo.own m hm) (fun _ _ h => h), hlo.ids, hlo.dis, hlo.len⟩ hnel rfl (by omega)).mono ?_; rintro e wJ ⟨rfl, evJ⟩; have zJ_ := evJ.size; refine ⟨_, rfl, ?_⟩; (conv => arg 5; simp only [zA, zB, ev, lget, zC, zD, zE, zF, zG, zH, zI, zJ, zK, zL, zM, zN, zO])) | (with_reducible (first | refine' wp_seq ?_ | refine' wp_region_lit ?_ | refine' wpList_nil ?_ | refine' then_normal ?_ | refine' wp_ret ?_ | refine' wp_exit ?_ | refine' then_exit ?_ | refine' in_exit ?_)) | ((with_reducible refine' c_condF ?hx ?_); (case hx => rfl)) | ((with_reducible refine' b_ret1 ?hr ?hv ?_); (case hr => rfl); (case hv => ((try simp only [ev, lget]); (try rfl)))) | ((with_reducible refine' l_step ?_); (first | ((first | (with_reducible refine' g_move ?_) | (with_reducible refine' g_assign ?_) | ((with_reducible refine' g_pickT ?hx ?_); (case hx => rfl)) | ((with_reducible refine' g_lenS ?hx ?_); (case hx => rfl))); (conv => arg 5; simp only [zA, zB, ev, lget, zC, zD, zE, zF, zG, zH, zI, zJ, zK, zL, zM, zN, zO])) | (((with_reducible refine' g_lss ?hx ?hy (fun _ => ?_) (fun _ => ?_)); (case hx => rfl)); (case hy => rfl); all_goals (first | (exfalso; omega) | (conv => arg 5; simp only [zA, zB, ev, lget, zC, zD, zE, zF, zG, zH, zI, zJ, zK, zL, zM, zN, zO]))))) | ((with_reducible refine' l_on ?hw ?_); (case hw => rfl)) | ((with_reducible refine' l_call TFn.ent ?ha ?_); (case ha => simp only [zC, zD, ev, lget]; (try rfl))))
          exact ⟨rfl, Evt.next evJ (Evt.next evI (Evt.next hev evB (fun _ _ h => h)) (fun _ _ h => h)) (fun k hk hh => by
            obtain ⟨m, hm, h⟩ := hh
            have := hGlo m hm k h
            omega)⟩
end Go.Proofs.Ytchfkkliechgoaa
