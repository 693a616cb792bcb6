/- The document's Run. SHORT -/
import Derived.Test.YthfnlmedelfbnaaDoorRun13
import Derived.Test.YthfnlmedelfbnaaDoorMix13
namespace Go.Proofs.YthfnlmedelfbnaaDoor
open Go.RowKit Go.Proofs.YthfnlmedelfbnaaDoorE
set_option linter.unusedSimpArgs false
set_option linter.unusedVariables false

theorem run_caseI {p : Pol} {k : Cas} {es : List Evn} (hk : CaseI k) (hv : ∀ e ∈ es, e.wf) : ∀ i, i ≤ es.length → CaseI (runP p k (es.take i)).1 := by
  intro i
  induction i with
  | zero => intro _; exact hk
  | succ i ih =>
    intro hi
    rw [runP_take (by omega)]
    exact caseI_step (hv _ (List.getElem_mem _)) (ih (by omega))
set_option maxRecDepth 20000 in
set_option maxHeartbeats 4000000 in
theorem refRun_r (p : Pol) (A : Option Addr) (c : Nat) (k : Cas) (B : Option Addr) (es : List Evn) (d0 : Nat) (w : World) (hr : RI w A p.hs) (hs : RE w B es) (hv : ∀ e ∈ es, e.wf) (hk : CaseI k) (hsz : es.length ≤ 1000000) :
    Calls Tryd.prog 17 #[.agg (polC p A c).toArray, .agg (casC k).toArray, .slice B es.length d0] w fun e w' => ∃ V d, e = .returned (.tuple #[.agg (casC (runP p k es).1).toArray, .slice V (runP p k es).2.length d]) ∧ OwnI w w' (.slice V (runP p k es).2.length d) (runP p k es).2 ∧ Evt (fun _ => False) w w' := by
  have hI := run_caseI (p := p) hk hv
  go_enter Tryd.func17, Tryd.ntmps17
  repeat' (first | (with_reducible (first | refine' wp_seq ?_ | refine' wp_region_lit ?_ | refine' wpList_nil ?_ | refine' then_normal ?_ | refine' wp_block ?_)) | ((with_reducible refine' l_step ?_); ((with_reducible refine' g_assign ?_); (conv => arg 5; simp only [zA, zB, ev, lget, zC, zD, zE, zF, zG, zH, zI, zJ, zK, zL, zM, zN]))) | ((first | ((with_reducible refine' e_boxA ?hx ?_); (case hx => rfl)) | ((with_reducible refine' e_alloc ?hx ?_); (case hx => rfl))); intro _ _ _ _ _ _ _; (conv => arg 5; simp only [zA, zB, ev, lget, zC, zD, zE, zF, zG, zH, zI, zJ, zK, zL, zM, zN])))
  rename_i gq wq q1 q2 hgq hevq hzq gc wc c1 c2 hgc0 hevc hzc gr wr r1 r2 hgr hevr hzr
  have hlq := hgq.lt
  have hlc := hgc0.lt
  have hgqS : Blk wr gq 24 (polC p A c) := by exact bqq
  have hgcS : Blk wr gc 27 (casC k) := by exact bqq
  have hevS0 : Evt (fun _ => False) w wr := by exact eqq
  clear hevq hevc hevr hgq hgc0
  refine' s_loop [8, 9, 10, 11, 12, 13, 14, 15, 16, 17, 18, 19, 20, 21, 22, 23, 24, 25, 26, 27, 28, 29, 30, 31, 32, 33] (fun n u w' => ∃ (i : Nat) (V : Option Addr) (d : Nat), n = es.length - i ∧ i ≤ es.length ∧ u 9 = .int .i64 i ∧ u 8 = .slice V (runP p k (es.take i)).2.length d ∧ w'.ownsRow 0 3 1 (.slice V (runP p k (es.take i)).2.length d) (runP p k (es.take i)).2.length (ints (runP p k (es.take i)).2) ∧
    (∀ j, (Value.slice V (runP p k (es.take i)).2.length d).ownBlock = some j → wr.heap.size ≤ j) ∧ Blk w' gc 27 (casC (runP p k (es.take i)).1) ∧ Evt (fun j => j = gc) wr w') es.length ?h0 ?round
  case h0 => exact ⟨0, none, 0, rfl, by omega, rfl, rfl, World.ownsRow_nil _ _ _ _, by simp [Value.ownBlock], hgcS, Evt.refl _ _⟩
  case round =>
    rintro n u w3 ⟨i, V, d, rfl, hi, h9, h8, hown, hlb, hgc3, hev3⟩
    simp only [setW, List.foldl_cons, List.foldl_nil, List.set_cons_succ, List.set_cons_zero]
    simp only [h9, h8]
    have hz3 := hev3.size
    have hgq3 : Blk w3 gq 24 (polC p A c) := hgqS.evt hev3 (by omega)
    have hev03 : Evt (fun _ => False) w w3 := Evt.next hev3 hevS0 (by intro i hi h; exfalso; have h' : i = _ := h; omega)
    by_cases hlt : i < es.length
    · have hnx := runP_take (p := p) (k := k) hlt
      have hrl := run_len p (es.take i) k
      have htl : (es.take i).length = i := by rw [List.length_take]; omega
      have hKI := hI i hi
      obtain ⟨b, o, rfl, hcellE⟩ := hs.at_gc (gc := gc) hev03 (by omega) hlt
      have hvi := hv es[i] (List.getElem_mem hlt)
      generalize runP p k (es.take i) = R at *
      obtain ⟨K, all⟩ := R
      simp only [] at hnx hrl hown hlb hgc3 hKI
      generalize es[i] = ei at *
      have hsl := step_len p K ei
      clear hgqS hgcS hevS0
      repeat' (first | ((with_reducible refine' w_tree (id := 5) (fun _ => False) (.pure 0 (.pure 1 (.pure 2 (.pure 3 (.pure 4 (.pure 5 (.two 6 (.pure 7 (.pure 8 (.pure 9 (.pure 10 (.one 11 (.one 12 (.pure 13 (.pure 14 .done)))))))) 11 (.one 6 (.pure 7 (.pure 8 (.pure 9 (.pure 10 (.one 12 (.pure 13 (.pure 14 .done))))))))))))))) [10, 11, 12, 19, 20, 21, 22, 23, 24, 25, 26, 27, 28, 29] (fun u w' => ∃ gd v, u 10 = .pointer (some ⟨gd, 0, none⟩) ∧ Blk w' gd 27 (casC (stepP p K ei).1) ∧ w3.heap.size ≤ gd ∧ u 11 = v ∧ OwnI w3 w' v (stepP p K ei).2.1) ?hm ?hn ?hl ?hB ?ta5 ?tb5); (case hm => kernel_rfl); (case hn => kernel_rfl); (case hl => kernel_rfl); (case hB => kernel_rfl); intro _ _ _) | ((with_reducible refine' tt_pure ?hi ?hv ?_); (case hi => rfl); (case hv => intro _ hqS; have hqz := hqS.size; ((first | (with_reducible refine' g_move ?_) | (with_reducible refine' g_assign ?_) | ((with_reducible refine' g_loadS ?hx ?hb ?hn ?_); (case hx => rfl); (case hb => exact bqq); first | (case hc => rfl) | (case hn => simp only [List.length_cons, List.length_nil]; omega)) | ((with_reducible refine' g_loadR ?hx ?hn ?hc ?_); (case hx => rfl); (case hc => exact hcellE _ (by exact eqq)); (case hn => rfl)) | ((with_reducible refine' g_extract ?hx ?hv ?_); (case hx => rfl); (case hv => rfl)) | ((with_reducible refine' g_indexAddr ?hx ?hy ?h0 ?h1 ?_); (case hx => rfl); (case hy => rfl); (case h0 => omega); (case h1 => omega))); exact rfl)); (conv => arg 6; simp only [zA, zB, ev, lget, zC, zD, zE, zF, zG, zH, zI, zJ, zK, zL, zM, zN])) | ((with_reducible refine' tt_one ?hi ?_); (case hi => rfl)) | ((with_reducible refine' tt_two ?hi ?hj ?_ ?_); (case hi => rfl); (case hj => rfl)) | ((with_reducible refine' tt_done ?hS ?_); (case hS => exact eqq)) | (with_reducible refine' tt_nil ?_) | (go_at_call 21; refine (refStep_r p A c K ei _ (hr.up (by exact eqq)) hvi hKI.ok).mono ?_; rintro e w4 ⟨v4, rfl, hown4, hev4⟩; have hz4 := hev4.size; have hrow4 := hown4.row; have hnewO := hown4.new; have hltO := own_lt hrow4; refine ⟨_, rfl, ?_⟩; (conv => arg 5; simp only [zA, zB, ev, lget, zC, zD, zE, zF, zG, zH, zI, zJ, zK, zL, zM, zN])) | (with_reducible (first | refine' wp_seq ?_ | refine' wp_region_lit ?_ | refine' wpList_nil ?_ | refine' then_normal ?_ | refine' wp_block ?_ | refine' wp_skip ?_)) | ((with_reducible refine' c_condT ?hx ?_); (case hx => rfl)) | ((with_reducible refine' l_step ?_); (first | ((first | (with_reducible refine' g_move ?_) | ((with_reducible refine' g_lenS ?hx ?_); (case hx => rfl))); (conv => arg 5; simp only [zA, zB, ev, lget, zC, zD, zE, zF, zG, zH, zI, zJ, zK, zL, zM, zN])) | (((with_reducible refine' g_lss ?hx ?hy (fun _ => ?_) (fun _ => ?_)); (case hx => rfl)); (case hy => rfl); all_goals (first | (exfalso; omega) | (conv => arg 5; simp only [zA, zB, ev, lget, zC, zD, zE, zF, zG, zH, zI, zJ, zK, zL, zM, zN]))))) | (((with_reducible refine' e_alloc ?hx ?_); (case hx => rfl)); intro _ _ _ _ _ _ _; (conv => arg 5; simp only [zA, zB, ev, lget, zC, zD, zE, zF, zG, zH, zI, zJ, zK, zL, zM, zN])) | ((first | ((with_reducible refine' e_storeB ?hx ?hy ?hv ?h1 ?hb ?ho ?_); (case hx => rfl); (case hy => ((try simp only [ev, lget]); (try rfl))); (case hv => rfl); (case h1 => rfl)) | ((with_reducible refine' e_storeR ?hx ?hy ?h1 ?hb ?hn ?ho ?_); (case hx => rfl); (case hy => rfl); (case h1 => simp [Value.oneCell']); (case hn => rfl))); (case hb => exact bqq); (case ho => first | (simp only [List.length_cons, List.length_nil]; omega) | omega | (simp; omega) | simp); (try simp only [splice, zA, zB]); intro _ _ _ _) | ((with_reducible refine' l_call TFn.ent ?ha ?_); (case ha => simp only [zC, zD, ev, lget]; (try rfl))))
      all_goals try exact ⟨_, rfl, by simp only [setW, List.foldl_cons, List.foldl_nil, List.set_cons_succ, List.set_cons_zero], _, v4, rfl, by exact bqq, by omega, rfl, ⟨by exact oqq, fun k hk => by have := hnewO k hk; omega⟩⟩
      rintro u w5 hev5 hz5 ⟨gd, v5, h10, hgd5, hgdl, h11, hown5⟩
      have hown' : w5.ownsRow 0 3 1 (.slice V all.length d) all.length (ints all) := own_evt hev5 hown (fun _ _ h => h)
      obtain ⟨V5, d5, rfl⟩ := own_slice hown5.row
      have hnew5 := hown5.new
      simp only [setW, List.foldl_cons, List.foldl_nil, List.set_cons_succ, List.set_cons_zero]
      simp only [h10, h11]
      repeat' (first | (with_reducible (first | refine' wp_seq ?_ | refine' wp_region_lit ?_ | refine' wpList_nil ?_ | refine' then_normal ?_)) | ((with_reducible refine' l_step ?_); ((first | (with_reducible refine' g_move ?_) | ((with_reducible refine' g_loadS ?hx ?hb ?hn ?_); (case hx => rfl); (case hb => exact bqq); first | (case hc => rfl) | (case hn => simp only [List.length_cons, List.length_nil]; omega))); (conv => arg 5; simp only [zA, zB, ev, lget, zC, zD, zE, zF, zG, zH, zI, zJ, zK, zL, zM, zN]))) | ((first | ((with_reducible refine' e_storeB ?hx ?hy ?hv ?h1 ?hb ?ho ?_); (case hx => rfl); (case hy => ((try simp only [ev, lget]); (try rfl))); (case hv => rfl); (case h1 => rfl)) | ((with_reducible refine' e_storeR ?hx ?hy ?h1 ?hb ?hn ?ho ?_); (case hx => rfl); (case hy => rfl); (case h1 => simp [Value.oneCell']); (case hn => rfl))); (case hb => exact bqq); (case ho => first | (simp only [List.length_cons, List.length_nil]; omega) | omega | (simp; omega) | simp); (try simp only [splice, zA, zB]); intro _ _ _ _))
      (with_reducible refine' e_appI (v := .slice V all.length d) (xs := all) (ys := (stepP p K ei).2.1) ?hx ?hy ?hown ?hr ?hb ?_); (case hx => rfl); (case hy => rfl)
      case hown => exact own_evt (S := fun j => j = gc) (by exact eqq) hown' (fun k hk hg => by have h1 := hlb k hk; have h2 : k = gc := hg; omega)
      case hr => exact (hown5.ri rfl).evt (S := fun j => j = gc) (by exact eqq) (fun b o hb hg => by have h1 := hnew5 b (by subst hb; rfl); have h2 : b = gc := hg; omega)
      case hb => omega
      intro v' w1 hownA hevA hatA hzA
      obtain ⟨V6, d6, rfl⟩ := own_slice hownA
      have hlbA := lb_step (B := wr.heap.size) hlb hatA (by omega)
      have hboc : ¬ (Value.slice V all.length d).ownBlock = some gc := fun h => by have := hlb _ h; omega
      (conv => arg 5; simp only [zA, zB, ev, lget, zC, zD, zE, zF, zG, zH, zI, zJ, zK, zL, zM, zN])
      repeat' (first | (with_reducible (first | refine' wp_region_lit ?_ | refine' wpList_nil ?_ | refine' then_normal ?_ | refine' in_normal ?_)) | ((with_reducible refine' l_step ?_); ((first | (with_reducible refine' g_move ?_) | (with_reducible refine' g_assign ?_) | ((with_reducible refine' g_addN ?hx ?hy ?h0 ?h1 ?_); (case hx => rfl); (case hy => rfl); (case h0 => omega); (case h1 => omega))); (conv => arg 5; simp only [zA, zB, ev, lget, zC, zD, zE, zF, zG, zH, zI, zJ, zK, zL, zM, zN]))))
      refine ⟨_, _, rfl, (by omega : es.length - (i + 1) < es.length - i), by simp only [zA, zB], i + 1, V6, d6, rfl, by omega, rfl, ?_⟩
      rw [hnx]
      exact ⟨rfl, hownA, hlbA, by exact bqq, by exact eqq⟩
    · obtain rfl : i = es.length := by omega
      rw [List.take_length] at *
      generalize runP p k es = R at *
      obtain ⟨K, all⟩ := R
      simp only [] at hown hlb hgc3
      have hgr3 : Blk w3 gr 27 _ := hgr.evt hev3 (by omega)
      repeat' (first | (with_reducible (first | refine' wp_seq ?_ | refine' wp_region_lit ?_ | refine' wpList_nil ?_ | refine' then_normal ?_ | refine' wp_ret ?_ | refine' wp_exit ?_ | refine' then_exit ?_ | refine' in_exit ?_)) | ((with_reducible refine' c_condF ?hx ?_); (case hx => rfl)) | ((with_reducible refine' b_retN ?hr ?h2 ?ha ?_); (case hr => rfl); (case h2 => decide); (case ha => first | exact ra_nil | ((first | ((with_reducible refine' ra_tmp ?rv2 ?rh2); (case rv2 => ((try simp only [ev, lget]); (try rfl)))) | ((with_reducible refine' ra_cell ?rp2 ?rt2 ?rq2 ?rn2 ?rh2); (case rp2 => rfl); (case rt2 => infer_instance); (case rq2 => exact bqq); (case rn2 => rfl))); (case rh2 => first | exact ra_nil | ((first | ((with_reducible refine' ra_tmp ?rv1 ?rh1); (case rv1 => ((try simp only [ev, lget]); (try rfl)))) | ((with_reducible refine' ra_cell ?rp1 ?rt1 ?rq1 ?rn1 ?rh1); (case rp1 => rfl); (case rt1 => infer_instance); (case rq1 => exact bqq); (case rn1 => rfl))); (case rh1 => first | exact ra_nil)))))) | ((with_reducible refine' l_step ?_); (first | ((first | (with_reducible refine' g_move ?_) | (with_reducible refine' g_assign ?_) | ((with_reducible refine' g_loadS ?hx ?hb ?hn ?_); (case hx => rfl); (case hb => exact bqq); first | (case hc => rfl) | (case hn => simp only [List.length_cons, List.length_nil]; omega)) | ((with_reducible refine' g_lenS ?hx ?_); (case hx => rfl))); (conv => arg 5; simp only [zA, zB, ev, lget, zC, zD, zE, zF, zG, zH, zI, zJ, zK, zL, zM, zN])) | (((with_reducible refine' g_lss ?hx ?hy (fun _ => ?_) (fun _ => ?_)); (case hx => rfl)); (case hy => rfl); all_goals (first | (exfalso; omega) | (conv => arg 5; simp only [zA, zB, ev, lget, zC, zD, zE, zF, zG, zH, zI, zJ, zK, zL, zM, zN]))))) | ((first | ((with_reducible refine' e_storeB ?hx ?hy ?hv ?h1 ?hb ?ho ?_); (case hx => rfl); (case hy => ((try simp only [ev, lget]); (try rfl))); (case hv => rfl); (case h1 => rfl)) | ((with_reducible refine' e_storeR ?hx ?hy ?h1 ?hb ?hn ?ho ?_); (case hx => rfl); (case hy => rfl); (case h1 => simp [Value.oneCell']); (case hn => rfl))); (case hb => exact bqq); (case ho => first | (simp only [List.length_cons, List.length_nil]; omega) | omega | (simp; omega) | simp); (try simp only [splice, zA, zB]); intro _ _ _ _))
      exact ⟨V, d, rfl, ⟨own_evt (S := fun j => j = gr) (by exact eqq) hown (fun k hk hg => by have h1 := hlb k hk; have h2 : k = gr := hg; omega), fun k hk => by have h1 := hlb k hk; omega⟩, by exact eqq⟩
end Go.Proofs.YthfnlmedelfbnaaDoor
