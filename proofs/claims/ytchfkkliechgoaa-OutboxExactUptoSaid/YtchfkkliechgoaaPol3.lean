/- Contracts of package policy: rules, Check. -/
import Derived.Test.YtchfkkliechgoaaPol2
namespace Go.Proofs.Ytchfkkliechgoaa
open Go.RowKit Go.Proofs.YtchfkkliechgoaaE
set_option linter.unusedSimpArgs false
set_option linter.unusedVariables false
set_option maxRecDepth 4000

def ruleL : List (Pol → Bool) := [
  fun p => decide (1 ≤ p.firstDay) && decide (p.firstDay ≤ 3652059),
  fun p => decide (0 ≤ p.grace) && decide (p.grace ≤ 30),
  fun p => decide (IntKind.i64.wrap (p.grace + 1) ≤ p.nonAccrual) && decide (p.nonAccrual ≤ 365),
  fun p => decide (1 ≤ p.chargeOff) && decide (p.chargeOff ≤ 365),
  fun p => decide (0 ≤ p.lateRate) && decide (p.lateRate ≤ 10000),
  fun p => decide (0 ≤ p.lateMin) && decide (p.lateMin ≤ 1000000000),
  fun p => decide (p.lateMin ≤ p.lateMax) && decide (p.lateMax ≤ 1000000000),
  fun p => decide (0 ≤ p.cycleCap) && decide (p.cycleCap ≤ 1000000000),
  fun p => decide (0 ≤ p.lifeCap) && decide (p.lifeCap ≤ 1000000000),
  fun p => decide (0 ≤ p.promises) && decide (p.promises ≤ 8),
  fun p => decide (1 ≤ p.promiseDays) && decide (p.promiseDays ≤ 60),
  fun p => decide (0 ≤ p.restructures) && decide (p.restructures ≤ 4),
  fun p => decide (0 ≤ p.order) && decide (p.order ≤ 5),
  fun p => decide (0 ≤ p.rule) && decide (p.rule ≤ 3),
  fun p => decide (1 ≤ p.retryBase) && decide (p.retryBase ≤ 64),
  fun p => decide (p.retryBase ≤ p.retryCap) && decide (p.retryCap ≤ 64),
  fun p => decide (0 ≤ p.snapEvery) && decide (p.snapEvery ≤ 1000),
  fun p => daysB p.hs]
inductive All2 {α β : Type} (R : α → β → Prop) : List α → List β → Prop
  | nil : All2 R [] []
  | cons {a : α} {b : β} {xs : List α} {ys : List β} : R a b → All2 R xs ys → All2 R (a :: xs) (b :: ys)
def fval (x : FuncId × List Value) : Value := .func (.func x.1) #[] x.2.toArray

set_option maxHeartbeats 4000000 in
set_option maxRecDepth 100000 in
theorem rules_any (w : World) : Calls Try.prog 43 #[] w fun e w' => ∃ g fs, e = .returned (.slice (some ⟨g, 0, none⟩) 18 18) ∧ Blk w' g 102 (fs.map fval) ∧
    All2 (fun (x : FuncId × List Value) r => TakesBool x.1 x.2 w' r) fs ruleL ∧ Evt (fun _ => False) w w' := by
  go_enter Try.func43, Try.ntmps43
  repeat' (first | (go_at_call 53; refine (from_int _ _).mono ?_; rintro e w' ⟨_, _, rfl, _, _⟩; refine ⟨_, rfl, ?_⟩; (conv => arg 5; simp only [zA, zB, ev, lget, zC, zD, zE, zF, zG, zH, zI, zJ, zK, zL, zM, zN, zO])) | (go_at_call 60; refine (from_int64 _ _).mono ?_; rintro e w' ⟨_, _, rfl, _, _⟩; refine ⟨_, rfl, ?_⟩; (conv => arg 5; simp only [zA, zB, ev, lget, zC, zD, zE, zF, zG, zH, zI, zJ, zK, zL, zM, zN, zO])) | (go_at_call 51; refine' (between_int _ _ _ _ _ _ _ _ ?hf ?hg).mono ?_; (case hf => first | assumption | exact take1 _ | exact take2 _ | exact take3 _ | exact take4 _ | exact take5 _ | exact take6 _ | exact take7 _ | exact take8 _ | exact take9 _ | exact take10 _ | exact take11 _ | exact take12 _ | exact take13 _ | exact take14 _ | exact take15 _ | exact take16 _ | exact take17 _ | exact take18 _ | exact take19 _ | exact take20 _); (case hg => first | assumption | exact take1 _ | exact take2 _ | exact take3 _ | exact take4 _ | exact take5 _ | exact take6 _ | exact take7 _ | exact take8 _ | exact take9 _ | exact take10 _ | exact take11 _ | exact take12 _ | exact take13 _ | exact take14 _ | exact take15 _ | exact take16 _ | exact take17 _ | exact take18 _ | exact take19 _ | exact take20 _); rintro e w' ⟨_, _, rfl, _, _⟩; refine ⟨_, rfl, ?_⟩; (conv => arg 5; simp only [zA, zB, ev, lget, zC, zD, zE, zF, zG, zH, zI, zJ, zK, zL, zM, zN, zO])) | (go_at_call 58; refine' (between_int64 _ _ _ _ _ _ _ _ ?hf ?hg).mono ?_; (case hf => first | assumption | exact take1 _ | exact take2 _ | exact take3 _ | exact take4 _ | exact take5 _ | exact take6 _ | exact take7 _ | exact take8 _ | exact take9 _ | exact take10 _ | exact take11 _ | exact take12 _ | exact take13 _ | exact take14 _ | exact take15 _ | exact take16 _ | exact take17 _ | exact take18 _ | exact take19 _ | exact take20 _); (case hg => first | assumption | exact take1 _ | exact take2 _ | exact take3 _ | exact take4 _ | exact take5 _ | exact take6 _ | exact take7 _ | exact take8 _ | exact take9 _ | exact take10 _ | exact take11 _ | exact take12 _ | exact take13 _ | exact take14 _ | exact take15 _ | exact take16 _ | exact take17 _ | exact take18 _ | exact take19 _ | exact take20 _); rintro e w' ⟨_, _, rfl, _, _⟩; refine ⟨_, rfl, ?_⟩; (conv => arg 5; simp only [zA, zB, ev, lget, zC, zD, zE, zF, zG, zH, zI, zJ, zK, zL, zM, zN, zO])) | (with_reducible (first | refine' wp_seq ?_ | refine' wp_region_lit ?_ | refine' wpList_nil ?_ | refine' then_normal ?_ | refine' wp_block ?_ | refine' wp_ret ?_ | refine' wp_skip ?_ | refine' wp_exit ?_ | refine' then_ret ?_ | refine' then_exit ?_ | refine' in_normal ?_ | refine' in_ret ?_ | refine' in_exit ?_)) | ((with_reducible refine' c_condT ?hx ?_); (case hx => rfl)) | ((with_reducible refine' c_condF ?hx ?_); (case hx => rfl)) | ((with_reducible refine' in_exit' ?hx ?_); (case hx => decide)) | ((with_reducible refine' b_ret1 ?hr ?hv ?_); (case hr => rfl); (case hv => ((try simp only [ev, lget]); (try rfl)))) | ((with_reducible refine' l_step ?_); (first | ((first | (with_reducible refine' g_move ?_) | (with_reducible refine' g_assign ?_)); (conv => arg 5; simp only [zA, zB, ev, lget, zC, zD, zE, zF, zG, zH, zI, zJ, zK, zL, zM, zN, zO])) | ((with_reducible refine' g_build ?hl ?hp ?hs ?_); (case hl => rfl); (case hp => rfl); (case hs => rfl); (conv => arg 5; simp only [zA, zB, ev, lget, zC, zD, zE, zF, zG, zH, zI, zJ, zK, zL, zM, zN, zO, fillL, splice, List.getD_cons_zero, List.getD_cons_succ, Value.cells])))) | (((with_reducible refine' e_sliceLit ?hx ?hi ?hv ?hn ?_); (case hx => simp only [zC, zD, ev, lget]; (try rfl)); (case hi => rfl); (case hv => simp [Value.cells]); (case hn => decide); simp only [List.flatMap_cons, List.flatMap_nil, Value.cells, List.cons_append, List.nil_append]); intro _ _ _ _ _ _ _; (conv => arg 5; simp only [zA, zB, ev, lget, zC, zD, zE, zF, zG, zH, zI, zJ, zK, zL, zM, zN, zO])) | ((first | (with_reducible refine' l_call TFn.ent ?ha ?_) | (with_reducible refine' l_callN TFn.ent ?ha ?_)); (case ha => simp only [zC, zD, ev, lget]; (try rfl))))
  refine' ⟨_, [(_, _), (_, _), (_, _), (_, _), (_, _), (_, _), (_, _), (_, _), (_, _), (_, _), (_, _), (_, _), (_, _), (_, _), (_, _), (_, _), (_, _), (_, _)], rfl, by assumption, ?_, by (repeat (first | assumption | exact Evt.refl _ _ | (refine Evt.next (by assumption) ?_ ?hs; (case hs => first | exact fun _ _ h => h | exact fun _ _ h => False.elim h | exact fun _ _ h => Or.inl h | exact fun _ _ h => Or.inr h | exact Wr.rel (by assumption) | (intro i hi h; exfalso; have h' : i = _ := h; omega) | (intro i hi h; exfalso; have h' := hlb i h; omega)))))⟩
  unfold ruleL
  repeat' (first | exact All2.nil | (with_reducible refine' All2.cons ?_ ?_))
  all_goals dsimp only
  all_goals first | exact days_takes _ | ((with_reducible refine' TakesBool.later ?ha ?hb); (case ha => assumption); (case hb => (repeat (first | assumption | exact Evt.refl _ _ | (refine Evt.next (by assumption) ?_ ?hs; (case hs => first | exact fun _ _ h => h | exact fun _ _ h => False.elim h | exact fun _ _ h => Or.inl h | exact fun _ _ h => Or.inr h | exact Wr.rel (by assumption) | (intro i hi h; exfalso; have h' : i = _ := h; omega) | (intro i hi h; exfalso; have h' := hlb i h; omega)))))))
end Go.Proofs.Ytchfkkliechgoaa
