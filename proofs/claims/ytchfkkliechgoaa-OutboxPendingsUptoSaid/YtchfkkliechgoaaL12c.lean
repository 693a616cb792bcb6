/- Contract of the reference's Check: it is policy.Check's answer. -/
import Derived.Test.YtchfkkliechgoaaL12b
namespace Go.Proofs.Ytchfkkliechgoaa
open Go.RowKit Go.Proofs.YtchfkkliechgoaaE
set_option linter.unusedSimpArgs false
set_option linter.unusedVariables false
set_option maxRecDepth 4000

def mayL : List (Pol → Bool) := (List.range 18).map fun (k : Nat) p => mayB p ((k : Int) + 1)
theorem mayL_get {i : Nat} (h : i < 18) : mayL.drop i = (fun p => mayB p ((i : Int) + 1)) :: mayL.drop (i + 1) := by
  have hl : mayL.length = 18 := rfl
  rw [List.drop_eq_getElem_cons (by omega)]
  congr 1
  simp [mayL]
theorem checkF_cons {p : Pol} {r s : Pol → Bool} {rs ss : List (Pol → Bool)} {i : Nat} (h : r p = s p) (h2 : r p = true → checkF p rs (i + 1) = checkF p ss (i + 1)) : checkF p (r :: rs) i = checkF p (s :: ss) i := by
  simp only [checkF, ← h]
  split
  · rename_i hr; exact h2 hr
  · rfl
theorem check_may (p : Pol) : checkF p mayL 0 = checkP p := by
  have hm : mayL = [fun p => mayB p 1, fun p => mayB p 2, fun p => mayB p 3, fun p => mayB p 4, fun p => mayB p 5, fun p => mayB p 6, fun p => mayB p 7, fun p => mayB p 8, fun p => mayB p 9, fun p => mayB p 10, fun p => mayB p 11, fun p => mayB p 12, fun p => mayB p 13, fun p => mayB p 14, fun p => mayB p 15, fun p => mayB p 16, fun p => mayB p 17, fun p => mayB p 18] := rfl
  rw [hm]
  unfold checkP ruleL
  refine checkF_cons ?_ (fun h1 => ?_)
  · simp [mayB, inB]
  refine checkF_cons ?_ (fun h2 => ?_)
  · simp [mayB, inB]
  refine checkF_cons ?_ (fun h3 => ?_)
  · simp [mayB, inB] at h2
    show mayB p 3 = (decide (IntKind.i64.wrap (p.grace + 1) ≤ p.nonAccrual) && decide (p.nonAccrual ≤ 365))
    rw [IntWalk.i64_in _ (by omega)]
    simp only [mayB]
    simp
    rw [Bool.eq_iff_iff]
    simp
    omega
  refine checkF_cons ?_ (fun h4 => ?_)
  · simp [mayB, inB]
  refine checkF_cons ?_ (fun h5 => ?_)
  · simp [mayB, inB]
  refine checkF_cons ?_ (fun h6 => ?_)
  · simp [mayB, inB]
  refine checkF_cons ?_ (fun h7 => ?_)
  · simp [mayB, inB]
  refine checkF_cons ?_ (fun h8 => ?_)
  · simp [mayB, inB]
  refine checkF_cons ?_ (fun h9 => ?_)
  · simp [mayB, inB]
  refine checkF_cons ?_ (fun h10 => ?_)
  · simp [mayB, inB]
  refine checkF_cons ?_ (fun h11 => ?_)
  · simp [mayB, inB]
  refine checkF_cons ?_ (fun h12 => ?_)
  · simp [mayB, inB]
  refine checkF_cons ?_ (fun h13 => ?_)
  · simp [mayB, inB]
  refine checkF_cons ?_ (fun h14 => ?_)
  · simp [mayB, inB]
  refine checkF_cons ?_ (fun h15 => ?_)
  · simp [mayB, inB]
  refine checkF_cons ?_ (fun h16 => ?_)
  · simp [mayB, inB]
  refine checkF_cons ?_ (fun h17 => ?_)
  · simp [mayB, inB]
  refine checkF_cons ?_ (fun h18 => ?_)
  · simp [mayB, inB]
  rfl

set_option maxHeartbeats 2000000 in
theorem refCheck_any (p : Pol) (A : Option Addr) (c : Nat) (w : World) (hr : RI w A p.hs) :
    Calls Try.prog 87 #[.agg (polC p A c).toArray] w fun e w' => e = .returned (.tuple #[.int .i64 (checkP p).1, .int .i64 (checkP p).2]) ∧ Evt (fun _ => False) w w' := by
  have hcm := check_may p
  go_enter Try.func87, Try.ntmps87
  repeat' (first | (with_reducible (first | refine' wp_seq ?_ | refine' wp_region_lit ?_ | refine' wpList_nil ?_ | refine' then_normal ?_ | refine' wp_block ?_ | refine' wp_ret ?_ | refine' wp_skip ?_ | refine' wp_exit ?_ | refine' then_ret ?_ | refine' then_exit ?_ | refine' in_normal ?_ | refine' in_ret ?_ | refine' in_exit ?_)) | ((with_reducible refine' c_condT ?hx ?_); (case hx => rfl)) | ((with_reducible refine' c_condF ?hx ?_); (case hx => rfl)) | ((with_reducible refine' in_exit' ?hx ?_); (case hx => decide)) | ((with_reducible refine' b_ret2 ?hr ?hv ?hw ?_); (case hr => rfl); (case hv => ((try simp only [ev, lget]); (try rfl))); (case hw => ((try simp only [ev, lget]); (try rfl)))) | ((with_reducible refine' l_step ?_); (first | ((first | (with_reducible refine' g_move ?_) | (with_reducible refine' g_assign ?_) | ((first | (with_reducible refine' g_loadB ?hx ?hb ?hc ?_) | (with_reducible refine' g_loadS ?hx ?hb ?hn ?_)); (case hx => rfl); (case hb => (first | assumption | exact be (h := by first | assumption | exact be (h := by first | assumption | exact be (h := by first | assumption | exact be (h := by first | assumption | exact be (h := by first | assumption | exact be (h := by first | assumption | exact be (h := by first | assumption | exact be (h := by first | assumption | exact be (h := by first | assumption | exact be (h := by first | assumption)))))))))))); first | (case hc => rfl) | (case hn => simp only [List.length_cons, List.length_nil]; omega)) | ((with_reducible refine' g_loadC ?hx ?hc ?_); (case hx => rfl); (case hc => (first | assumption | exact ce (h := by first | assumption | exact ce (h := by first | assumption | exact ce (h := by first | assumption | exact ce (h := by first | assumption | exact ce (h := by first | assumption | exact ce (h := by first | assumption | exact ce (h := by first | assumption | exact ce (h := by first | assumption | exact ce (h := by first | assumption | exact ce (h := by first | assumption))))))))))))) | ((with_reducible refine' g_addN ?hx ?hy ?h0 ?h1 ?_); (case hx => rfl); (case hy => rfl); (case h0 => omega); (case h1 => omega)) | ((with_reducible refine' g_add ?hx ?hy ?_); (case hx => rfl); (case hy => rfl)) | ((with_reducible refine' g_notT ?hx ?_); (case hx => rfl)) | ((with_reducible refine' g_notF ?hx ?_); (case hx => rfl))); (conv => arg 5; simp only [zA, zB, ev, lget, zC, zD, zE, zF, zG, zH, zI, zJ, zK, zL, zM, zN, zO])) | (((with_reducible refine' g_leq ?hx ?hy (fun _ => ?_) (fun _ => ?_)); (case hx => rfl)); (case hy => rfl); all_goals (first | (exfalso; omega) | (conv => arg 5; simp only [zA, zB, ev, lget, zC, zD, zE, zF, zG, zH, zI, zJ, zK, zL, zM, zN, zO]))))) | ((first | ((with_reducible refine' e_boxA ?hx ?_); (case hx => rfl)) | ((with_reducible refine' e_boxS ?hx ?hv ?_); (case hx => ((try simp only [ev, lget]); (try rfl))); (case hv => rfl))); intro _ _ _ _ _ _ _; (conv => arg 5; simp only [zA, zB, ev, lget, zC, zD, zE, zF, zG, zH, zI, zJ, zK, zL, zM, zN, zO])) | ((first | (with_reducible refine' l_call TFn.ent ?ha ?_) | (with_reducible refine' l_callN TFn.ent ?ha ?_)); (case ha => simp only [zC, zD, ev, lget]; (try rfl))))
  rename_i gp wp _ _ hgp hwp _
  refine' s_loop [2, 3, 4, 5, 6, 7, 8, 9, 10, 11, 12, 13] (fun n u w' => ∃ (i : Nat), n = 18 - i ∧ i ≤ 18 ∧ u 4 = .int .i64 ((i : Int) + 1) ∧ checkP p = checkF p (mayL.drop i) i ∧ Evt (fun _ => False) wp w') 18 ?h0 ?round
  case h0 => exact ⟨0, rfl, by omega, rfl, hcm.symm, Evt.refl _ _⟩
  case round =>
    rintro n u w2 ⟨i, rfl, hi, h4, hck, hev⟩
    simp only [setW, List.foldl_cons, List.foldl_nil, List.set_cons_succ, List.set_cons_zero]
    simp only [h4]
    have hz := hev.size
    have hgp2 := hgp.evt hev id
    clear hgp
    by_cases hlt : i < 18
    · rw [mayL_get hlt] at hck
      replace hck : checkP p = (if mayB p ((i : Int) + 1) then checkF p (mayL.drop (i + 1)) (i + 1) else (120, (i : Int) + 1)) := hck
      repeat' (first | (go_at_call 99; refine (may_any p A c _ _ ((hr.up hwp).up hev)).mono ?_; rintro e w' ⟨rfl, _⟩; refine ⟨_, rfl, ?_⟩; (conv => arg 5; simp only [zA, zB, ev, lget, zC, zD, zE, zF, zG, zH, zI, zJ, zK, zL, zM, zN, zO]); cases hb : mayB p ((i : Int) + 1)) | (with_reducible (first | refine' wp_seq ?_ | refine' wp_region_lit ?_ | refine' wpList_nil ?_ | refine' then_normal ?_ | refine' wp_block ?_ | refine' wp_ret ?_ | refine' wp_skip ?_ | refine' wp_exit ?_ | refine' then_ret ?_ | refine' then_exit ?_ | refine' in_normal ?_ | refine' in_ret ?_ | refine' in_exit ?_)) | ((with_reducible refine' c_condT ?hx ?_); (case hx => rfl)) | ((with_reducible refine' c_condF ?hx ?_); (case hx => rfl)) | ((with_reducible refine' in_exit' ?hx ?_); (case hx => decide)) | ((with_reducible refine' b_ret2 ?hr ?hv ?hw ?_); (case hr => rfl); (case hv => ((try simp only [ev, lget]); (try rfl))); (case hw => ((try simp only [ev, lget]); (try rfl)))) | ((with_reducible refine' l_step ?_); (first | ((first | (with_reducible refine' g_move ?_) | (with_reducible refine' g_assign ?_) | ((first | (with_reducible refine' g_loadB ?hx ?hb ?hc ?_) | (with_reducible refine' g_loadS ?hx ?hb ?hn ?_)); (case hx => rfl); (case hb => (first | assumption | exact be (h := by first | assumption | exact be (h := by first | assumption | exact be (h := by first | assumption | exact be (h := by first | assumption | exact be (h := by first | assumption | exact be (h := by first | assumption | exact be (h := by first | assumption | exact be (h := by first | assumption | exact be (h := by first | assumption | exact be (h := by first | assumption)))))))))))); first | (case hc => rfl) | (case hn => simp only [List.length_cons, List.length_nil]; omega)) | ((with_reducible refine' g_loadC ?hx ?hc ?_); (case hx => rfl); (case hc => (first | assumption | exact ce (h := by first | assumption | exact ce (h := by first | assumption | exact ce (h := by first | assumption | exact ce (h := by first | assumption | exact ce (h := by first | assumption | exact ce (h := by first | assumption | exact ce (h := by first | assumption | exact ce (h := by first | assumption | exact ce (h := by first | assumption | exact ce (h := by first | assumption))))))))))))) | ((with_reducible refine' g_addN ?hx ?hy ?h0 ?h1 ?_); (case hx => rfl); (case hy => rfl); (case h0 => omega); (case h1 => omega)) | ((with_reducible refine' g_add ?hx ?hy ?_); (case hx => rfl); (case hy => rfl)) | ((with_reducible refine' g_notT ?hx ?_); (case hx => rfl)) | ((with_reducible refine' g_notF ?hx ?_); (case hx => rfl))); (conv => arg 5; simp only [zA, zB, ev, lget, zC, zD, zE, zF, zG, zH, zI, zJ, zK, zL, zM, zN, zO])) | (((with_reducible refine' g_leq ?hx ?hy (fun _ => ?_) (fun _ => ?_)); (case hx => rfl)); (case hy => rfl); all_goals (first | (exfalso; omega) | (conv => arg 5; simp only [zA, zB, ev, lget, zC, zD, zE, zF, zG, zH, zI, zJ, zK, zL, zM, zN, zO]))))) | ((first | ((with_reducible refine' e_boxA ?hx ?_); (case hx => rfl)) | ((with_reducible refine' e_boxS ?hx ?hv ?_); (case hx => ((try simp only [ev, lget]); (try rfl))); (case hv => rfl))); intro _ _ _ _ _ _ _; (conv => arg 5; simp only [zA, zB, ev, lget, zC, zD, zE, zF, zG, zH, zI, zJ, zK, zL, zM, zN, zO])) | ((first | (with_reducible refine' l_call TFn.ent ?ha ?_) | (with_reducible refine' l_callN TFn.ent ?ha ?_)); (case ha => simp only [zC, zD, ev, lget]; (try rfl))))
      · exact ⟨by rw [hck, hb]; rfl, by (repeat (first | assumption | exact Evt.refl _ _ | (refine Evt.next (by assumption) ?_ ?hs; (case hs => first | exact fun _ _ h => h | exact fun _ _ h => False.elim h | exact fun _ _ h => Or.inl h | exact fun _ _ h => Or.inr h | exact Wr.rel (by assumption) | (intro i hi h; exfalso; have h' : i = _ := h; omega) | (intro i hi h; exfalso; have h' := hlb i h; omega)))))⟩
      · rw [hb, if_pos rfl] at hck
        exact ⟨_, _, rfl, (by omega : 18 - (i + 1) < 18 - i), by simp only [zA, zB], i + 1, rfl, by omega, rfl, hck, by (repeat (first | assumption | exact Evt.refl _ _ | (refine Evt.next (by assumption) ?_ ?hs; (case hs => first | exact fun _ _ h => h | exact fun _ _ h => False.elim h | exact fun _ _ h => Or.inl h | exact fun _ _ h => Or.inr h | exact Wr.rel (by assumption) | (intro i hi h; exfalso; have h' : i = _ := h; omega) | (intro i hi h; exfalso; have h' := hlb i h; omega)))))⟩
    · obtain rfl : i = 18 := by omega
      repeat' (first | (with_reducible (first | refine' wp_seq ?_ | refine' wp_region_lit ?_ | refine' wpList_nil ?_ | refine' then_normal ?_ | refine' wp_block ?_ | refine' wp_ret ?_ | refine' wp_skip ?_ | refine' wp_exit ?_ | refine' then_ret ?_ | refine' then_exit ?_ | refine' in_normal ?_ | refine' in_ret ?_ | refine' in_exit ?_)) | ((with_reducible refine' c_condT ?hx ?_); (case hx => rfl)) | ((with_reducible refine' c_condF ?hx ?_); (case hx => rfl)) | ((with_reducible refine' in_exit' ?hx ?_); (case hx => decide)) | ((with_reducible refine' b_ret2 ?hr ?hv ?hw ?_); (case hr => rfl); (case hv => ((try simp only [ev, lget]); (try rfl))); (case hw => ((try simp only [ev, lget]); (try rfl)))) | ((with_reducible refine' l_step ?_); (first | ((first | (with_reducible refine' g_move ?_) | (with_reducible refine' g_assign ?_) | ((first | (with_reducible refine' g_loadB ?hx ?hb ?hc ?_) | (with_reducible refine' g_loadS ?hx ?hb ?hn ?_)); (case hx => rfl); (case hb => (first | assumption | exact be (h := by first | assumption | exact be (h := by first | assumption | exact be (h := by first | assumption | exact be (h := by first | assumption | exact be (h := by first | assumption | exact be (h := by first | assumption | exact be (h := by first | assumption | exact be (h := by first | assumption | exact be (h := by first | assumption | exact be (h := by first | assumption)))))))))))); first | (case hc => rfl) | (case hn => simp only [List.length_cons, List.length_nil]; omega)) | ((with_reducible refine' g_loadC ?hx ?hc ?_); (case hx => rfl); (case hc => (first | assumption | exact ce (h := by first | assumption | exact ce (h := by first | assumption | exact ce (h := by first | assumption | exact ce (h := by first | assumption | exact ce (h := by first | assumption | exact ce (h := by first | assumption | exact ce (h := by first | assumption | exact ce (h := by first | assumption | exact ce (h := by first | assumption | exact ce (h := by first | assumption))))))))))))) | ((with_reducible refine' g_addN ?hx ?hy ?h0 ?h1 ?_); (case hx => rfl); (case hy => rfl); (case h0 => omega); (case h1 => omega)) | ((with_reducible refine' g_add ?hx ?hy ?_); (case hx => rfl); (case hy => rfl)) | ((with_reducible refine' g_notT ?hx ?_); (case hx => rfl)) | ((with_reducible refine' g_notF ?hx ?_); (case hx => rfl))); (conv => arg 5; simp only [zA, zB, ev, lget, zC, zD, zE, zF, zG, zH, zI, zJ, zK, zL, zM, zN, zO])) | (((with_reducible refine' g_leq ?hx ?hy (fun _ => ?_) (fun _ => ?_)); (case hx => rfl)); (case hy => rfl); all_goals (first | (exfalso; omega) | (conv => arg 5; simp only [zA, zB, ev, lget, zC, zD, zE, zF, zG, zH, zI, zJ, zK, zL, zM, zN, zO]))))) | ((first | ((with_reducible refine' e_boxA ?hx ?_); (case hx => rfl)) | ((with_reducible refine' e_boxS ?hx ?hv ?_); (case hx => ((try simp only [ev, lget]); (try rfl))); (case hv => rfl))); intro _ _ _ _ _ _ _; (conv => arg 5; simp only [zA, zB, ev, lget, zC, zD, zE, zF, zG, zH, zI, zJ, zK, zL, zM, zN, zO])) | ((first | (with_reducible refine' l_call TFn.ent ?ha ?_) | (with_reducible refine' l_callN TFn.ent ?ha ?_)); (case ha => simp only [zC, zD, ev, lget]; (try rfl))))
      exact ⟨by rw [hck]; rfl, by (repeat (first | assumption | exact Evt.refl _ _ | (refine Evt.next (by assumption) ?_ ?hs; (case hs => first | exact fun _ _ h => h | exact fun _ _ h => False.elim h | exact fun _ _ h => Or.inl h | exact fun _ _ h => Or.inr h | exact Wr.rel (by assumption) | (intro i hi h; exfalso; have h' : i = _ := h; omega) | (intro i hi h; exfalso; have h' := hlb i h; omega)))))⟩
end Go.Proofs.Ytchfkkliechgoaa
