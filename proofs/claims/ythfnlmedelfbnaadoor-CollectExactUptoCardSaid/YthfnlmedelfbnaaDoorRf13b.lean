/- The document's answer for collect: quiet, paid, returned. SHORT -/
import Derived.Test.YthfnlmedelfbnaaDoorRf13
namespace Go.Proofs.YthfnlmedelfbnaaDoor
open Go.RowKit Go.Proofs.YthfnlmedelfbnaaDoorE
set_option linter.unusedSimpArgs false
set_option linter.unusedVariables false

theorem ownI_one {w0 w w' : World} {S : Nat → Prop} {g : Nat} {a : Int} (hb : Blk w g 3 [.int .i64 a]) (he : Evt S w w') (hs : ¬ S g) (hg : w0.heap.size ≤ g) : OwnI w0 w' (.slice (some ⟨g, 0, none⟩) 1 1) [a] :=
  ⟨own_evt he (own_blk (n := 1) (sz := 1) hb rfl (by simp [maxLen])) (fun k hk hh => by
    have h1 : g = k := by simpa [Value.ownBlock] using hk
    subst h1
    exact hs hh), fun k hk => by
    have h1 : g = k := by simpa [Value.ownBlock] using hk
    omega⟩
set_option maxHeartbeats 2000000 in
theorem quiet_r (p : Pol) (A : Option Addr) (c : Nat) (k : Cas) (e : Evn) (w : World) (hp : p.fine) (hd : 0 ≤ e.days) (hdd : 1 ≤ e.today ∧ e.today ≤ 3652059) :
    Calls Tryd.prog 79 #[.agg (polC p A c).toArray, .agg (casC k).toArray, .agg (evnC e).toArray] w fun r w' => ∃ v, r = .returned (.tuple #[.agg (casC (quietP p k e []).1).toArray, v]) ∧ OwnI w w' v (quietP p k e []).2 ∧ Evt (fun _ => False) w w' := by
  have hgr := hp.grace
  have hco := hp.chargeOff
  go_enter Tryd.func79, Tryd.ntmps79
  repeat' (first | (with_reducible (first | refine' wp_seq ?_ | refine' wp_region_lit ?_ | refine' wpList_nil ?_ | refine' then_normal ?_ | refine' wp_ret ?_ | refine' wp_skip ?_ | refine' then_ret ?_)) | ((with_reducible refine' c_condT ?hx ?_); (case hx => rfl)) | ((with_reducible refine' c_condF ?hx ?_); (case hx => rfl)) | ((with_reducible refine' b_retN ?hr ?h2 ?ha ?_); (case hr => rfl); (case h2 => decide); (case ha => first | exact ra_nil | ((first | ((with_reducible refine' ra_tmp ?rv2 ?rh2); (case rv2 => ((try simp only [ev, lget]); (try rfl)))) | ((with_reducible refine' ra_cell ?rp2 ?rt2 ?rq2 ?rn2 ?rh2); (case rp2 => rfl); (case rt2 => infer_instance); (case rq2 => exact bqq); (case rn2 => rfl))); (case rh2 => first | exact ra_nil | ((first | ((with_reducible refine' ra_tmp ?rv1 ?rh1); (case rv1 => ((try simp only [ev, lget]); (try rfl)))) | ((with_reducible refine' ra_cell ?rp1 ?rt1 ?rq1 ?rn1 ?rh1); (case rp1 => rfl); (case rt1 => infer_instance); (case rq1 => exact bqq); (case rn1 => rfl))); (case rh1 => first | exact ra_nil)))))) | ((with_reducible refine' l_step ?_); (first | ((first | (with_reducible refine' g_assign ?_) | ((with_reducible refine' g_fieldAddr ?hx ?ho ?_); (case hx => rfl); (case ho => rfl)) | ((first | (with_reducible refine' g_loadB ?hx ?hb ?hc ?_) | (with_reducible refine' g_loadS ?hx ?hb ?hn ?_)); (case hx => rfl); (case hb => exact bqq); first | (case hc => rfl) | (case hn => simp only [List.length_cons, List.length_nil]; omega)) | ((with_reducible refine' g_addN ?hx ?hy ?h0 ?h1 ?_); (case hx => rfl); (case hy => rfl); (case h0 => omega); (case h1 => omega)) | ((with_reducible refine' g_add ?hx ?hy ?_); (case hx => rfl); (case hy => rfl))); (conv => arg 5; simp only [zA, zB, ev, lget, zC, zD, zE, zF, zG, zH, zI, zJ, zK, zL, zM, zN])) | ((first | ((with_reducible refine' g_leq ?hx ?hy (fun _ => ?_) (fun _ => ?_)); (case hx => rfl)) | ((with_reducible refine' g_eql ?hx ?hy (fun _ => ?_) (fun _ => ?_)); (case hx => rfl))); (case hy => rfl); all_goals (first | (exfalso; omega) | (conv => arg 5; simp only [zA, zB, ev, lget, zC, zD, zE, zF, zG, zH, zI, zJ, zK, zL, zM, zN]))))) | ((first | ((with_reducible refine' e_boxA ?hx ?_); (case hx => rfl)) | ((with_reducible refine' e_alloc ?hx ?_); (case hx => rfl)) | ((with_reducible refine' e_sliceLit ?hx ?hi ?hv ?hn ?_); (case hx => simp only [zC, zD, ev, lget]; (try rfl)); (case hi => rfl); (case hv => simp [Value.cells]); (case hn => decide); simp only [List.flatMap_cons, List.flatMap_nil, Value.cells, List.cons_append, List.nil_append])); intro _ _ _ _ _ _ _; (conv => arg 5; simp only [zA, zB, ev, lget, zC, zD, zE, zF, zG, zH, zI, zJ, zK, zL, zM, zN])) | ((first | ((with_reducible refine' e_storeB ?hx ?hy ?hv ?h1 ?hb ?ho ?_); (case hx => rfl); (case hy => ((try simp only [ev, lget]); (try rfl))); (case hv => rfl); (case h1 => rfl)) | ((with_reducible refine' e_storeR ?hx ?hy ?h1 ?hb ?hn ?ho ?_); (case hx => rfl); (case hy => rfl); (case h1 => simp [Value.oneCell']); (case hn => rfl))); (case hb => exact bqq); (case ho => first | (simp only [List.length_cons, List.length_nil]; omega) | omega | (simp; omega) | simp); (try simp only [splice, zA, zB]); intro _ _ _ _))
  · have hq : quietP p k e [] = ({ k with status := 1 }, []) := by unfold quietP; rw [if_neg (by omega), if_neg (by omega), if_pos (by omega)]
    rw [hq]
    exact ⟨_, rfl, OwnI.nil _ _, by exact eqq⟩
  · have hq : quietP p k e [] = (k, []) := by unfold quietP; rw [if_neg (by omega), if_neg (by omega), if_neg (by omega)]
    rw [hq]
    exact ⟨_, rfl, OwnI.nil _ _, by exact eqq⟩
  · have hq : quietP p k e [] = ({ k with status := 2 }, []) := by unfold quietP; rw [if_neg (by omega), if_pos (by omega)]
    rw [hq]
    exact ⟨_, rfl, OwnI.nil _ _, by exact eqq⟩
  · have hq : quietP p k e [] = ({ k with cycles := incP k.cycles, since := e.today, deadline := e.today + p.chargeOff, promises := 0, cfees := 0, status := 3 }, [2]) := by unfold quietP; rw [if_pos (by omega)]; rfl
    rw [hq]
    rename_i gb wb b1 b2 hbb ebb zbb w9 h9 e9 z9
    exact ⟨_, rfl, ownI_one hbb e9 (by omega) (by omega), by exact eqq⟩
theorem ret_r (p : Pol) (k : Cas) (e : Evn) (w : World) (ha : 1 ≤ e.amount ∧ e.amount ≤ 9223372036854775807) (hg : k.status = 4 → 0 ≤ k.pgot ∧ k.pgot ≤ 9223372036854775807) :
    Calls Tryd.prog 41 #[.agg (casC k).toArray, .agg (evnC e).toArray] w fun r w' => r = .returned (.agg (casC (retP p k e).1).toArray) ∧ Evt (fun _ => False) w w' := by
  by_cases h4 : k.status = 4
  · obtain ⟨g1, g2⟩ := hg h4
    by_cases hge : k.pgot ≤ e.amount
    · have hq : (retP p k e).1 = { k with pgot := 0 } := by
        unfold retP
        rw [if_pos h4]
        have h5 : max 0 (IntKind.i64.wrap (k.pgot - e.amount)) = 0 := by
          rw [i64R (by omega) (by omega)]
          omega
        rw [h5]
      rw [hq]
      go_enter Tryd.func41, Tryd.ntmps41
      repeat' (first | (with_reducible (first | refine' wp_seq ?_ | refine' wp_region_lit ?_ | refine' wpList_nil ?_ | refine' then_normal ?_ | refine' wp_ret ?_)) | ((with_reducible refine' c_condT ?hx ?_); (case hx => rfl)) | ((with_reducible refine' b_retC ?hr ?ht ?hp ?hb ?hn ?_); (case hr => rfl); (case ht => infer_instance); (case hp => rfl); (case hb => exact bqq); (case hn => rfl)) | ((with_reducible refine' l_step ?_); (first | ((first | ((with_reducible refine' g_fieldAddr ?hx ?ho ?_); (case hx => rfl); (case ho => rfl)) | ((first | (with_reducible refine' g_loadB ?hx ?hb ?hc ?_) | (with_reducible refine' g_loadS ?hx ?hb ?hn ?_)); (case hx => rfl); (case hb => exact bqq); first | (case hc => rfl) | (case hn => simp only [List.length_cons, List.length_nil]; omega))); (conv => arg 5; simp only [zA, zB, ev, lget, zC, zD, zE, zF, zG, zH, zI, zJ, zK, zL, zM, zN])) | ((first | ((with_reducible refine' g_geq ?hx ?hy (fun _ => ?_) (fun _ => ?_)); (case hx => rfl)) | ((with_reducible refine' g_eql ?hx ?hy (fun _ => ?_) (fun _ => ?_)); (case hx => rfl))); (case hy => rfl); all_goals (first | (exfalso; omega) | (conv => arg 5; simp only [zA, zB, ev, lget, zC, zD, zE, zF, zG, zH, zI, zJ, zK, zL, zM, zN]))))) | ((first | ((with_reducible refine' e_boxA ?hx ?_); (case hx => rfl)) | ((with_reducible refine' e_alloc ?hx ?_); (case hx => rfl))); intro _ _ _ _ _ _ _; (conv => arg 5; simp only [zA, zB, ev, lget, zC, zD, zE, zF, zG, zH, zI, zJ, zK, zL, zM, zN])) | ((first | ((with_reducible refine' e_storeB ?hx ?hy ?hv ?h1 ?hb ?ho ?_); (case hx => rfl); (case hy => ((try simp only [ev, lget]); (try rfl))); (case hv => rfl); (case h1 => rfl)) | ((with_reducible refine' e_storeR ?hx ?hy ?h1 ?hb ?hn ?ho ?_); (case hx => rfl); (case hy => rfl); (case h1 => simp [Value.oneCell']); (case hn => rfl))); (case hb => exact bqq); (case ho => first | (simp only [List.length_cons, List.length_nil]; omega) | omega | (simp; omega) | simp); (try simp only [splice, zA, zB]); intro _ _ _ _))
      exact ⟨rfl, by exact eqq⟩
    · have hq : (retP p k e).1 = { k with pgot := k.pgot - e.amount } := by
        unfold retP
        rw [if_pos h4]
        have h5 : max 0 (IntKind.i64.wrap (k.pgot - e.amount)) = k.pgot - e.amount := by
          rw [i64R (by omega) (by omega)]
          omega
        rw [h5]
      rw [hq]
      go_enter Tryd.func41, Tryd.ntmps41
      repeat' (first | (with_reducible (first | refine' wp_seq ?_ | refine' wp_region_lit ?_ | refine' wpList_nil ?_ | refine' then_normal ?_ | refine' wp_ret ?_)) | ((with_reducible refine' c_condT ?hx ?_); (case hx => rfl)) | ((with_reducible refine' c_condF ?hx ?_); (case hx => rfl)) | ((with_reducible refine' b_retC ?hr ?ht ?hp ?hb ?hn ?_); (case hr => rfl); (case ht => infer_instance); (case hp => rfl); (case hb => exact bqq); (case hn => rfl)) | ((with_reducible refine' l_step ?_); (first | ((first | ((with_reducible refine' g_fieldAddr ?hx ?ho ?_); (case hx => rfl); (case ho => rfl)) | ((first | (with_reducible refine' g_loadB ?hx ?hb ?hc ?_) | (with_reducible refine' g_loadS ?hx ?hb ?hn ?_)); (case hx => rfl); (case hb => exact bqq); first | (case hc => rfl) | (case hn => simp only [List.length_cons, List.length_nil]; omega)) | ((with_reducible refine' g_subN ?hx ?hy ?h0 ?h1 ?_); (case hx => rfl); (case hy => rfl); (case h0 => omega); (case h1 => omega))); (conv => arg 5; simp only [zA, zB, ev, lget, zC, zD, zE, zF, zG, zH, zI, zJ, zK, zL, zM, zN])) | ((first | ((with_reducible refine' g_geq ?hx ?hy (fun _ => ?_) (fun _ => ?_)); (case hx => rfl)) | ((with_reducible refine' g_eql ?hx ?hy (fun _ => ?_) (fun _ => ?_)); (case hx => rfl))); (case hy => rfl); all_goals (first | (exfalso; omega) | (conv => arg 5; simp only [zA, zB, ev, lget, zC, zD, zE, zF, zG, zH, zI, zJ, zK, zL, zM, zN]))))) | ((first | ((with_reducible refine' e_boxA ?hx ?_); (case hx => rfl)) | ((with_reducible refine' e_alloc ?hx ?_); (case hx => rfl))); intro _ _ _ _ _ _ _; (conv => arg 5; simp only [zA, zB, ev, lget, zC, zD, zE, zF, zG, zH, zI, zJ, zK, zL, zM, zN])) | ((first | ((with_reducible refine' e_storeB ?hx ?hy ?hv ?h1 ?hb ?ho ?_); (case hx => rfl); (case hy => ((try simp only [ev, lget]); (try rfl))); (case hv => rfl); (case h1 => rfl)) | ((with_reducible refine' e_storeR ?hx ?hy ?h1 ?hb ?hn ?ho ?_); (case hx => rfl); (case hy => rfl); (case h1 => simp [Value.oneCell']); (case hn => rfl))); (case hb => exact bqq); (case ho => first | (simp only [List.length_cons, List.length_nil]; omega) | omega | (simp; omega) | simp); (try simp only [splice, zA, zB]); intro _ _ _ _))
      exact ⟨rfl, by exact eqq⟩
  · have hq : (retP p k e).1 = k := by unfold retP; rw [if_neg h4]
    rw [hq]
    go_enter Tryd.func41, Tryd.ntmps41
    repeat' (first | (with_reducible (first | refine' wp_seq ?_ | refine' wp_region_lit ?_ | refine' wpList_nil ?_ | refine' then_normal ?_ | refine' wp_ret ?_ | refine' wp_skip ?_)) | ((with_reducible refine' c_condF ?hx ?_); (case hx => rfl)) | ((with_reducible refine' b_retC ?hr ?ht ?hp ?hb ?hn ?_); (case hr => rfl); (case ht => infer_instance); (case hp => rfl); (case hb => exact bqq); (case hn => rfl)) | ((with_reducible refine' l_step ?_); (first | ((first | ((with_reducible refine' g_fieldAddr ?hx ?ho ?_); (case hx => rfl); (case ho => rfl)) | ((first | (with_reducible refine' g_loadB ?hx ?hb ?hc ?_) | (with_reducible refine' g_loadS ?hx ?hb ?hn ?_)); (case hx => rfl); (case hb => exact bqq); first | (case hc => rfl) | (case hn => simp only [List.length_cons, List.length_nil]; omega))); (conv => arg 5; simp only [zA, zB, ev, lget, zC, zD, zE, zF, zG, zH, zI, zJ, zK, zL, zM, zN])) | (((with_reducible refine' g_eql ?hx ?hy (fun _ => ?_) (fun _ => ?_)); (case hx => rfl)); (case hy => rfl); all_goals (first | (exfalso; omega) | (conv => arg 5; simp only [zA, zB, ev, lget, zC, zD, zE, zF, zG, zH, zI, zJ, zK, zL, zM, zN]))))) | ((first | ((with_reducible refine' e_boxA ?hx ?_); (case hx => rfl)) | ((with_reducible refine' e_alloc ?hx ?_); (case hx => rfl))); intro _ _ _ _ _ _ _; (conv => arg 5; simp only [zA, zB, ev, lget, zC, zD, zE, zF, zG, zH, zI, zJ, zK, zL, zM, zN])) | ((first | ((with_reducible refine' e_storeB ?hx ?hy ?hv ?h1 ?hb ?ho ?_); (case hx => rfl); (case hy => ((try simp only [ev, lget]); (try rfl))); (case hv => rfl); (case h1 => rfl)) | ((with_reducible refine' e_storeR ?hx ?hy ?h1 ?hb ?hn ?ho ?_); (case hx => rfl); (case hy => rfl); (case h1 => simp [Value.oneCell']); (case hn => rfl))); (case hb => exact bqq); (case ho => first | (simp only [List.length_cons, List.length_nil]; omega) | omega | (simp; omega) | simp); (try simp only [splice, zA, zB]); intro _ _ _ _))
    exact ⟨rfl, by exact eqq⟩
end Go.Proofs.YthfnlmedelfbnaaDoor
