/- The document's Step. SHORT -/
import Derived.Test.YthfnlmedelfbnaaDoorRf13e
namespace Go.Proofs.YthfnlmedelfbnaaDoor
open Go.RowKit Go.Proofs.YthfnlmedelfbnaaDoorE
set_option linter.unusedSimpArgs false
set_option linter.unusedVariables false

/-- What a case that comes about keeps to, as far as Step asks. -/
structure CaseOk (k : Cas) : Prop where
  cf : 0 ≤ k.cfees ∧ k.cfees ≤ 9223372036854775807
  lf : 0 ≤ k.lfees ∧ k.lfees ≤ 9223372036854775807
  got : k.status = 4 → 0 ≤ k.pgot ∧ k.pgot ≤ 9223372036854775807
theorem caseOk_of {p : Pol} {N : Int} {k : Cas} (h : Inv p N k) : CaseOk k := by
  cases hg : goodP p with
  | false =>
    rw [h.2 hg]
    exact ⟨by simp [freshC], by simp [freshC], by simp [freshC]⟩
  | true =>
    have hk := h.1 hg
    have hf := good_fine hg
    have h1 := hf.cycleCap
    have h2 := hf.lifeCap
    have h3 := hk.fee
    exact ⟨by omega, by omega, fun hs => by have := hk.act hs; omega⟩
theorem takeOk_of {p : Pol} {k : Cas} {e : Evn} (hp : p.fine) (hv : e.wf) (hk : CaseOk k) (hn : numbersP p e = 0) : TakeOk p k e := by
  obtain ⟨hv1, hv2, hv3, hv4⟩ := hv
  have hpd := hp.promiseDays
  refine ⟨fun h => ?_, fun h => ?_, fun h => ?_, fun h => ?_⟩
  all_goals simp only [numbersP, h, Int.reduceEq, if_true, if_false, reduceIte, or_false, or_true, true_or, false_or] at hn
  · split at hn <;> omega
  · split at hn
    · omega
    · split at hn <;> omega
  · split at hn
    · omega
    · exact ⟨by omega, hk.got⟩
  · split at hn
    · omega
    · omega
set_option maxRecDepth 20000 in
set_option maxHeartbeats 8000000 in
theorem refStep_r (p : Pol) (A : Option Addr) (c : Nat) (k : Cas) (e : Evn) (w : World) (hr : RI w A p.hs) (hv : e.wf) (hk : CaseOk k) :
    Calls Tryd.prog 21 #[.agg (polC p A c).toArray, .agg (casC k).toArray, .agg (evnC e).toArray] w fun r w' => ∃ v, r = .returned (.tuple #[.agg (casC (stepP p k e).1).toArray, v, .int .i64 (stepP p k e).2.2]) ∧ OwnI w w' v (stepP p k e).2.1 ∧ Evt (fun _ => False) w w' := by
  cases hg : goodP p with
  | false =>
    have hc : (checkP p).1 = 120 := by
      rcases checkF_err (p := p) (rs := ruleL) (i := 0) with h | h
      · have : goodP p = true := by simp only [goodP, decide_eq_true_eq]; exact h
        rw [hg] at this; cases this
      · exact h
    have hq : stepP p k e = (k, [], 120) := by unfold stepP; rw [if_pos hg]
    rw [hq]
    go_enter Tryd.func21, Tryd.ntmps21
    repeat' (first | (go_at_call 25; refine (refCheck_any p A c _ (hr.up (by exact eqq))).mono ?_; rintro r wc ⟨rfl, evc⟩; have zc := evc.size; rw [hc]; refine ⟨_, rfl, ?_⟩; (conv => arg 5; simp only [zA, zB, ev, lget, zC, zD, zE, zF, zG, zH, zI, zJ, zK, zL, zM, zN])) | (with_reducible (first | refine' wp_seq ?_ | refine' wp_region_lit ?_ | refine' wpList_nil ?_ | refine' then_normal ?_ | refine' wp_ret ?_ | refine' then_ret ?_)) | ((with_reducible refine' c_condT ?hx ?_); (case hx => rfl)) | ((with_reducible refine' b_retN ?hr ?h2 ?ha ?_); (case hr => rfl); (case h2 => decide); (case ha => first | exact ra_nil | ((first | ((with_reducible refine' ra_tmp ?rv3 ?rh3); (case rv3 => ((try simp only [ev, lget]); (try rfl)))) | ((with_reducible refine' ra_cell ?rp3 ?rt3 ?rq3 ?rn3 ?rh3); (case rp3 => rfl); (case rt3 => infer_instance); (case rq3 => exact bqq); (case rn3 => rfl))); (case rh3 => first | exact ra_nil | ((first | ((with_reducible refine' ra_tmp ?rv2 ?rh2); (case rv2 => ((try simp only [ev, lget]); (try rfl)))) | ((with_reducible refine' ra_cell ?rp2 ?rt2 ?rq2 ?rn2 ?rh2); (case rp2 => rfl); (case rt2 => infer_instance); (case rq2 => exact bqq); (case rn2 => rfl))); (case rh2 => first | exact ra_nil | ((first | ((with_reducible refine' ra_tmp ?rv1 ?rh1); (case rv1 => ((try simp only [ev, lget]); (try rfl)))) | ((with_reducible refine' ra_cell ?rp1 ?rt1 ?rq1 ?rn1 ?rh1); (case rp1 => rfl); (case rt1 => infer_instance); (case rq1 => exact bqq); (case rn1 => rfl))); (case rh1 => first | exact ra_nil)))))))) | ((with_reducible refine' l_step ?_); (first | ((first | (with_reducible refine' g_move ?_) | (with_reducible refine' g_assign ?_) | ((with_reducible refine' g_loadS ?hx ?hb ?hn ?_); (case hx => rfl); (case hb => exact bqq); first | (case hc => rfl) | (case hn => simp only [List.length_cons, List.length_nil]; omega)) | ((with_reducible refine' g_extract ?hx ?hv ?_); (case hx => rfl); (case hv => rfl))); (conv => arg 5; simp only [zA, zB, ev, lget, zC, zD, zE, zF, zG, zH, zI, zJ, zK, zL, zM, zN])) | (((with_reducible refine' g_neq ?hx ?hy (fun _ => ?_) (fun _ => ?_)); (case hx => rfl)); (case hy => rfl); all_goals (first | (exfalso; omega) | (conv => arg 5; simp only [zA, zB, ev, lget, zC, zD, zE, zF, zG, zH, zI, zJ, zK, zL, zM, zN]))))) | ((first | ((with_reducible refine' e_boxA ?hx ?_); (case hx => rfl)) | ((with_reducible refine' e_alloc ?hx ?_); (case hx => rfl))); intro _ _ _ _ _ _ _; (conv => arg 5; simp only [zA, zB, ev, lget, zC, zD, zE, zF, zG, zH, zI, zJ, zK, zL, zM, zN])) | ((first | ((with_reducible refine' e_storeB ?hx ?hy ?hv ?h1 ?hb ?ho ?_); (case hx => rfl); (case hy => ((try simp only [ev, lget]); (try rfl))); (case hv => rfl); (case h1 => rfl)) | ((with_reducible refine' e_storeR ?hx ?hy ?h1 ?hb ?hn ?ho ?_); (case hx => rfl); (case hy => rfl); (case h1 => simp [Value.oneCell']); (case hn => rfl))); (case hb => exact bqq); (case ho => first | (simp only [List.length_cons, List.length_nil]; omega) | omega | (simp; omega) | simp); (try simp only [splice, zA, zB]); intro _ _ _ _) | ((with_reducible refine' l_call TFn.ent ?ha ?_); (case ha => simp only [zC, zD, ev, lget]; (try rfl))))
    exact ⟨_, rfl, OwnI.nil _ _, by exact eqq⟩
  | true =>
    have hp := good_fine hg
    have hc := good_check hg
    by_cases hkd : e.kind < 1 ∨ 7 < e.kind
    · have hq : stepP p k e = (k, [], 2) := by unfold stepP; rw [if_neg (by rw [hg]; simp), if_pos hkd]
      rw [hq]
      go_enter Tryd.func21, Tryd.ntmps21
      repeat' (first | (go_at_call 25; refine (refCheck_any p A c _ (hr.up (by exact eqq))).mono ?_; rintro r wc ⟨rfl, evc⟩; have zc := evc.size; rw [hc]; refine ⟨_, rfl, ?_⟩; (conv => arg 5; simp only [zA, zB, ev, lget, zC, zD, zE, zF, zG, zH, zI, zJ, zK, zL, zM, zN])) | (with_reducible (first | refine' wp_seq ?_ | refine' wp_region_lit ?_ | refine' wpList_nil ?_ | refine' then_normal ?_ | refine' wp_ret ?_ | refine' wp_skip ?_ | refine' then_ret ?_)) | ((with_reducible refine' c_condT ?hx ?_); (case hx => rfl)) | ((with_reducible refine' c_condF ?hx ?_); (case hx => rfl)) | ((with_reducible refine' b_retN ?hr ?h2 ?ha ?_); (case hr => rfl); (case h2 => decide); (case ha => first | exact ra_nil | ((first | ((with_reducible refine' ra_tmp ?rv3 ?rh3); (case rv3 => ((try simp only [ev, lget]); (try rfl)))) | ((with_reducible refine' ra_cell ?rp3 ?rt3 ?rq3 ?rn3 ?rh3); (case rp3 => rfl); (case rt3 => infer_instance); (case rq3 => exact bqq); (case rn3 => rfl))); (case rh3 => first | exact ra_nil | ((first | ((with_reducible refine' ra_tmp ?rv2 ?rh2); (case rv2 => ((try simp only [ev, lget]); (try rfl)))) | ((with_reducible refine' ra_cell ?rp2 ?rt2 ?rq2 ?rn2 ?rh2); (case rp2 => rfl); (case rt2 => infer_instance); (case rq2 => exact bqq); (case rn2 => rfl))); (case rh2 => first | exact ra_nil | ((first | ((with_reducible refine' ra_tmp ?rv1 ?rh1); (case rv1 => ((try simp only [ev, lget]); (try rfl)))) | ((with_reducible refine' ra_cell ?rp1 ?rt1 ?rq1 ?rn1 ?rh1); (case rp1 => rfl); (case rt1 => infer_instance); (case rq1 => exact bqq); (case rn1 => rfl))); (case rh1 => first | exact ra_nil)))))))) | ((with_reducible refine' l_step ?_); (first | ((first | (with_reducible refine' g_move ?_) | (with_reducible refine' g_assign ?_) | ((with_reducible refine' g_fieldAddr ?hx ?ho ?_); (case hx => rfl); (case ho => rfl)) | ((first | (with_reducible refine' g_loadB ?hx ?hb ?hc ?_) | (with_reducible refine' g_loadS ?hx ?hb ?hn ?_)); (case hx => rfl); (case hb => exact bqq); first | (case hc => rfl) | (case hn => simp only [List.length_cons, List.length_nil]; omega)) | ((with_reducible refine' g_pickT ?hx ?_); (case hx => rfl)) | ((with_reducible refine' g_pickF ?hx ?_); (case hx => rfl)) | ((with_reducible refine' g_extract ?hx ?hv ?_); (case hx => rfl); (case hv => rfl))); (conv => arg 5; simp only [zA, zB, ev, lget, zC, zD, zE, zF, zG, zH, zI, zJ, zK, zL, zM, zN])) | ((first | ((with_reducible refine' g_lss ?hx ?hy (fun _ => ?_) (fun _ => ?_)); (case hx => rfl)) | ((with_reducible refine' g_gtr ?hx ?hy (fun _ => ?_) (fun _ => ?_)); (case hx => rfl)) | ((with_reducible refine' g_neq ?hx ?hy (fun _ => ?_) (fun _ => ?_)); (case hx => rfl))); (case hy => rfl); all_goals (first | (exfalso; omega) | (conv => arg 5; simp only [zA, zB, ev, lget, zC, zD, zE, zF, zG, zH, zI, zJ, zK, zL, zM, zN]))))) | ((with_reducible refine' l_on ?hw ?_); (case hw => rfl)) | ((with_reducible refine' l_off ?hw ?_); (case hw => rfl); (conv => arg 5; simp only [zA, zB, ev, lget, zC, zD, zE, zF, zG, zH, zI, zJ, zK, zL, zM, zN])) | ((first | ((with_reducible refine' e_boxA ?hx ?_); (case hx => rfl)) | ((with_reducible refine' e_alloc ?hx ?_); (case hx => rfl))); intro _ _ _ _ _ _ _; (conv => arg 5; simp only [zA, zB, ev, lget, zC, zD, zE, zF, zG, zH, zI, zJ, zK, zL, zM, zN])) | ((first | ((with_reducible refine' e_storeB ?hx ?hy ?hv ?h1 ?hb ?ho ?_); (case hx => rfl); (case hy => ((try simp only [ev, lget]); (try rfl))); (case hv => rfl); (case h1 => rfl)) | ((with_reducible refine' e_storeR ?hx ?hy ?h1 ?hb ?hn ?ho ?_); (case hx => rfl); (case hy => rfl); (case h1 => simp [Value.oneCell']); (case hn => rfl))); (case hb => exact bqq); (case ho => first | (simp only [List.length_cons, List.length_nil]; omega) | omega | (simp; omega) | simp); (try simp only [splice, zA, zB]); intro _ _ _ _) | ((with_reducible refine' l_call TFn.ent ?ha ?_); (case ha => simp only [zC, zD, ev, lget]; (try rfl))))
      all_goals exact ⟨_, rfl, OwnI.nil _ _, by exact eqq⟩
    · have hkd' : 1 ≤ e.kind ∧ e.kind ≤ 7 := by omega
      have hee := err_eq (k := k) hp hkd'
      have hq : stepP p k e = if errK p k e ≠ 0 then (k, [], errK p k e) else ((resK p k e).1, (resK p k e).2, 0) := by unfold stepP; rw [if_neg (by rw [hg]; simp), if_neg hkd]
      have htk := fun hn => takeOk_of hp hv hk hn
      have htr := fun hn w => taken_r p A c k e w hp hkd' (htk hn)
      have hnr := fun w => numbers_r p A c e w
      have hsr := fun w => standing_r p A c k e w hp hk.cf hk.lf
      rw [hq]
      obtain ⟨n, hn⟩ : ∃ n, numbersP p e = n := ⟨_, rfl⟩
      obtain ⟨m, hm⟩ : ∃ n, standingP p k e = n := ⟨_, rfl⟩
      obtain ⟨Q, hQ⟩ : ∃ Q, resK p k e = Q := ⟨_, rfl⟩
      rw [hn, hm] at hee
      rw [hn] at htr
      simp only [hn] at hnr
      simp only [hm] at hsr
      simp only [hQ] at htr
      rw [hQ]
      go_enter Tryd.func21, Tryd.ntmps21
      repeat' (first | (go_at_call 25; refine (refCheck_any p A c _ (hr.up (by exact eqq))).mono ?_; rintro r wc ⟨rfl, evc⟩; have zc := evc.size; rw [hc]; refine ⟨_, rfl, ?_⟩; (conv => arg 5; simp only [zA, zB, ev, lget, zC, zD, zE, zF, zG, zH, zI, zJ, zK, zL, zM, zN])) | (go_at_call 26; refine (hnr _).mono ?_; rintro r wn ⟨rfl, evn⟩; have zn := evn.size; refine ⟨_, rfl, ?_⟩; (conv => arg 5; simp only [zA, zB, ev, lget, zC, zD, zE, zF, zG, zH, zI, zJ, zK, zL, zM, zN])) | (go_at_call 27; refine (hsr _).mono ?_; rintro r ws ⟨rfl, evs⟩; have zs := evs.size; refine ⟨_, rfl, ?_⟩; (conv => arg 5; simp only [zA, zB, ev, lget, zC, zD, zE, zF, zG, zH, zI, zJ, zK, zL, zM, zN])) | (go_at_call 28; refine (htr (by omega) _).mono ?_; rintro r wt ⟨vt, rfl, hot, evt⟩; have zt := evt.size; refine ⟨_, rfl, ?_⟩; simp only [casC]; (conv => arg 5; simp only [zA, zB, ev, lget, zC, zD, zE, zF, zG, zH, zI, zJ, zK, zL, zM, zN])) | (with_reducible (first | refine' wp_seq ?_ | refine' wp_region_lit ?_ | refine' wpList_nil ?_ | refine' then_normal ?_ | refine' wp_ret ?_ | refine' wp_skip ?_ | refine' then_ret ?_)) | ((with_reducible refine' c_condT ?hx ?_); (case hx => rfl)) | ((with_reducible refine' c_condF ?hx ?_); (case hx => rfl)) | ((with_reducible refine' b_retN ?hr ?h2 ?ha ?_); (case hr => rfl); (case h2 => decide); (case ha => first | exact ra_nil | ((first | ((with_reducible refine' ra_tmp ?rv3 ?rh3); (case rv3 => ((try simp only [ev, lget]); (try rfl)))) | ((with_reducible refine' ra_cell ?rp3 ?rt3 ?rq3 ?rn3 ?rh3); (case rp3 => rfl); (case rt3 => infer_instance); (case rq3 => exact bqq); (case rn3 => rfl))); (case rh3 => first | exact ra_nil | ((first | ((with_reducible refine' ra_tmp ?rv2 ?rh2); (case rv2 => ((try simp only [ev, lget]); (try rfl)))) | ((with_reducible refine' ra_cell ?rp2 ?rt2 ?rq2 ?rn2 ?rh2); (case rp2 => rfl); (case rt2 => infer_instance); (case rq2 => exact bqq); (case rn2 => rfl))); (case rh2 => first | exact ra_nil | ((first | ((with_reducible refine' ra_tmp ?rv1 ?rh1); (case rv1 => ((try simp only [ev, lget]); (try rfl)))) | ((with_reducible refine' ra_cell ?rp1 ?rt1 ?rq1 ?rn1 ?rh1); (case rp1 => rfl); (case rt1 => infer_instance); (case rq1 => exact bqq); (case rn1 => rfl))); (case rh1 => first | exact ra_nil)))))))) | ((with_reducible refine' l_step ?_); (first | ((first | (with_reducible refine' g_move ?_) | (with_reducible refine' g_assign ?_) | ((with_reducible refine' g_fieldAddr ?hx ?ho ?_); (case hx => rfl); (case ho => rfl)) | ((first | (with_reducible refine' g_loadB ?hx ?hb ?hc ?_) | (with_reducible refine' g_loadS ?hx ?hb ?hn ?_)); (case hx => rfl); (case hb => exact bqq); first | (case hc => rfl) | (case hn => simp only [List.length_cons, List.length_nil]; omega)) | ((with_reducible refine' g_pickF ?hx ?_); (case hx => rfl)) | ((with_reducible refine' g_extract ?hx ?hv ?_); (case hx => rfl); (case hv => rfl))); (conv => arg 5; simp only [zA, zB, ev, lget, zC, zD, zE, zF, zG, zH, zI, zJ, zK, zL, zM, zN])) | ((first | ((with_reducible refine' g_lss ?hx ?hy (fun _ => ?_) (fun _ => ?_)); (case hx => rfl)) | ((with_reducible refine' g_gtr ?hx ?hy (fun _ => ?_) (fun _ => ?_)); (case hx => rfl)) | ((with_reducible refine' g_neq ?hx ?hy (fun _ => ?_) (fun _ => ?_)); (case hx => rfl))); (case hy => rfl); all_goals (first | (exfalso; omega) | (conv => arg 5; simp only [zA, zB, ev, lget, zC, zD, zE, zF, zG, zH, zI, zJ, zK, zL, zM, zN]))))) | ((with_reducible refine' l_on ?hw ?_); (case hw => rfl)) | ((first | ((with_reducible refine' e_boxA ?hx ?_); (case hx => rfl)) | ((with_reducible refine' e_alloc ?hx ?_); (case hx => rfl))); intro _ _ _ _ _ _ _; (conv => arg 5; simp only [zA, zB, ev, lget, zC, zD, zE, zF, zG, zH, zI, zJ, zK, zL, zM, zN])) | ((first | ((with_reducible refine' e_storeB ?hx ?hy ?hv ?h1 ?hb ?ho ?_); (case hx => rfl); (case hy => ((try simp only [ev, lget]); (try rfl))); (case hv => rfl); (case h1 => rfl)) | ((with_reducible refine' e_storeR ?hx ?hy ?h1 ?hb ?hn ?ho ?_); (case hx => rfl); (case hy => rfl); (case h1 => simp [Value.oneCell']); (case hn => rfl))); (case hb => exact bqq); (case ho => first | (simp only [List.length_cons, List.length_nil]; omega) | omega | (simp; omega) | simp); (try simp only [splice, zA, zB]); intro _ _ _ _) | ((with_reducible refine' l_call TFn.ent ?ha ?_); (case ha => simp only [zC, zD, ev, lget]; (try rfl))))
      · have he2 : errK p k e = n := by rw [hee, if_pos (by assumption)]
        rw [he2, if_pos (by assumption)]
        exact ⟨_, rfl, OwnI.nil _ _, by exact eqq⟩
      · have he2 : errK p k e = m := by rw [hee, if_neg (by omega)]
        rw [he2, if_pos (by assumption)]
        exact ⟨_, rfl, OwnI.nil _ _, by exact eqq⟩
      · have he2 : errK p k e = 0 := by rw [hee, if_neg (by omega)]; omega
        rw [he2, if_neg (by simp)]
        have hno := hot.new
        have hlo := hot.lt
        have ho9 : OwnI w wt vt Q.2 := ⟨hot.row, fun j hj => by have := hno j hj; omega⟩
        rename_i g9 w8 f1 f2 h8 e8 z8 w9 h9 e9 z9 w10 h10 e10 z10
        have eF : Evt (fun _ => False) w w10 := by exact eqq
        have eT : Evt (fun j => w.heap.size ≤ j ∧ ∀ i, vt.ownBlock = some i → j ≠ i) wt w10 := by
          refine Evt.next e10 (Evt.next e9 (e8.mono fun _ _ h => h.elim) (fun i hi hh => ?_)) (fun i hi hh => ?_)
          · have h' : i = g9 := hh
            omega
          · have h' : i = _ := hh
            exact ⟨by omega, fun j hj => by have := hno j hj; omega⟩
        exact ⟨_, rfl, ho9.evt eT (fun j hj hh => hh.2 j hj rfl), eF⟩
end Go.Proofs.YthfnlmedelfbnaaDoor
