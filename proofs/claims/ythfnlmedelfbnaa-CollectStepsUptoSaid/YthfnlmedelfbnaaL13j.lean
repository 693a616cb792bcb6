/- CollectSteps. SHORT NORMX -/
import Derived.Test.YthfnlmedelfbnaaSt13b
import Derived.Test.YthfnlmedelfbnaaEv13
import Derived.Test.YthfnlmedelfbnaaRows
namespace Go.Proofs.Ythfnlmedelfbnaa
open Go.ChangeShapes Go.WideShapes Go.ChangeAt Go.RowKit Go.Deep Go.Proofs.YthfnlmedelfbnaaE

theorem step_len {p : Pol} {N : Int} {k : Cas} {e : Evn} (h : Inv p N k) (hv : e.wf) (hN : N ≤ 9000000000000000000) : (stepP p k e).2.1.length ≤ 3 := by
  by_cases h0 : (stepP p k e).2.2 = 0
  · exact ((inv_step h hv hN).2 h0).2.2.len
  · by_cases h1 : goodP p = false
    · simp only [stepP, if_pos h1, List.length_nil]; omega
    · by_cases h2 : e.kind < 1 ∨ 7 < e.kind
      · simp only [stepP, if_neg h1, if_pos h2, List.length_nil]; omega
      · by_cases h3 : errK p k e ≠ 0
        · simp only [stepP, if_neg h1, if_neg h2, if_pos h3, List.length_nil]; omega
        · exact absurd (by simp only [stepP, if_neg h1, if_neg h2, if_neg h3]) h0
theorem rg_all {w : World} {A : Option Addr} {xs : List Int} (h : RI w A xs) : RG w (fun j => j < w.heap.size) A (ints xs) := fun hn => by
  obtain ⟨b, o, hA, hc⟩ := h.2 (by rw [ints_length] at hn; exact hn)
  have hc' : ∀ j v, (ints xs)[j]? = some v → w.cell? ⟨b, o + j, none⟩ = some v := fun j v hj => by
    rw [ints, List.getElem?_map] at hj
    obtain ⟨x, hx, rfl⟩ := Option.map_eq_some_iff.1 hj
    exact hc j x hx
  refine ⟨b, o, hA, ?_, hc'⟩
  have h0 : 0 < xs.length := by rw [ints_length] at hn; exact hn
  have h1 := World.block_lt_of_cell? w _ (hc 0 _ (List.getElem?_eq_getElem h0))
  exact h1
theorem begun_any (w : World) : Calls Try.prog 13 #[] w fun e w' => e = .returned (.tuple #[.agg (pairC freshC freshC).toArray, .bool true]) ∧ Evt (fun _ => False) w w' := by
  go_enter Try.func13, Try.ntmps13
  repeat' (first | (with_reducible refine' stop_reg (id := 2) ?_) | (go_at_call 18; refine (fresh_any _).mono ?_; rintro e wf ⟨rfl, hevf⟩; have hzf := hevf.size; refine ⟨_, rfl, ?_⟩; (conv => arg 5; simp only [zA, zB, ev, lget, zC, zD, zE, zF, zG, zH, zI, zJ, zK, zL, zM, zN])) | (go_at_call 29; refine (fresh_r _).mono ?_; rintro e wg ⟨rfl, hevg⟩; have hzg := hevg.size; refine ⟨_, rfl, ?_⟩; (conv => arg 5; simp only [zA, zB, ev, lget, zC, zD, zE, zF, zG, zH, zI, zJ, zK, zL, zM, zN])) | (with_reducible (first | refine' wp_seq ?_ | refine' wp_region_lit ?_ | refine' wpList_nil ?_ | refine' then_normal ?_)) | ((with_reducible refine' l_step ?_); (first | ((with_reducible refine' g_assign ?_); (conv => arg 5; simp only [zA, zB, ev, lget, zC, zD, zE, zF, zG, zH, zI, zJ, zK, zL, zM, zN])) | ((with_reducible refine' g_build ?hl ?hp ?hs ?_); (case hl => rfl); (case hp => rfl); (case hs => rfl); (conv => arg 5; simp only [zA, zB, ev, lget, zC, zD, zE, zF, zG, zH, zI, zJ, zK, zL, zM, zN, fillL, splice, List.getD_cons_zero, List.getD_cons_succ, Value.cells])))) | (((with_reducible refine' e_alloc ?hx ?_); (case hx => rfl)); intro _ _ _ _ _ _ _; (conv => arg 5; simp only [zA, zB, ev, lget, zC, zD, zE, zF, zG, zH, zI, zJ, zK, zL, zM, zN])) | ((first | ((with_reducible refine' e_storeB ?hx ?hy ?hv ?h1 ?hb ?ho ?_); (case hx => rfl); (case hy => ((try simp only [ev, lget]); (try rfl))); (case hv => rfl); (case h1 => rfl)) | ((with_reducible refine' e_storeR ?hx ?hy ?h1 ?hb ?hn ?ho ?_); (case hx => rfl); (case hy => rfl); (case h1 => simp [Value.oneCell']); (case hn => rfl))); (case hb => exact bqq); (case ho => first | (simp only [List.length_cons, List.length_nil]; omega) | omega | (simp; omega) | simp); (try simp only [splice, zA, zB]); intro _ _ _ _) | ((with_reducible refine' l_call TFn.ent ?ha ?_); (case ha => simp only [zC, zD, ev, lget]; (try rfl))))
  refine stop_go ?_
  rename_i g0 w0 a1 a2 h0 e0 z0 g2 w2 b1 b2 h2 e2 z2 w3 h3 e3 z3
  have hlt0 := h0.lt
  repeat' (first | ((with_reducible refine' tt_pure ?hi ?hv ?_); (case hi => rfl); (case hv => intro _ hqS; (with_reducible refine' g_eqlS ?hx ?hy ?hxs ?hys (fun _ => ?hk) (fun c => absurd rfl c)); (case hx => rfl); (case hy => rfl); (case hxs => rfl); (case hys => rfl); (case hk => rfl)); (conv => arg 5; simp only [zA, zB, ev, lget, zC, zD, zE, zF, zG, zH, zI, zJ, zK, zL, zM, zN])) | ((with_reducible refine' w_tree (id := 2) (fun j => j = g0) (.pure 0 (.pure 1 (.pure 2 (.pure 3 (.pure 4 (.pure 5 (.one 6 (.pure 7 .done)))))))) [1, 6, 7, 8, 9, 10, 11] (fun u w' => u 1 = .bool true ∧ Blk w' g0 29 (pairC freshC freshC)) ?hm ?hn ?hl ?hB ?ta2 ?tb2); (case hm => kernel_rfl); (case hn => kernel_rfl); (case hl => kernel_rfl); (case hB => kernel_rfl); intro _ _ _) | ((with_reducible refine' tt_pure ?hi ?hv ?_); (case hi => rfl); (case hv => intro _ hqS; have hqz := hqS.size; ((first | (with_reducible refine' g_assign ?_) | ((with_reducible refine' g_fieldAddr ?hx ?ho ?_); (case hx => rfl); (case ho => rfl)) | ((with_reducible refine' g_loadS ?hx ?hb ?hn ?_); (case hx => rfl); (case hb => exact bqq); first | (case hc => rfl) | (case hn => simp only [List.length_cons, List.length_nil]; omega))); exact rfl)); (conv => arg 6; simp only [zA, zB, ev, lget, zC, zD, zE, zF, zG, zH, zI, zJ, zK, zL, zM, zN, fillL, splice, List.getD_cons_zero, List.getD_cons_succ, Value.cells])) | ((with_reducible refine' tt_one ?hi ?_); (case hi => rfl)) | ((with_reducible refine' tt_done ?hS ?_); (case hS => exact eqq)) | (with_reducible refine' tt_nil ?_) | (with_reducible refine' wpList_nil ?_) | ((first | ((with_reducible refine' e_storeB ?hx ?hy ?hv ?h1 ?hb ?ho ?_); (case hx => rfl); (case hy => ((try simp only [ev, lget]); (try rfl))); (case hv => rfl); (case h1 => rfl)) | ((with_reducible refine' e_storeR ?hx ?hy ?h1 ?hb ?hn ?ho ?_); (case hx => rfl); (case hy => rfl); (case h1 => simp [Value.oneCell']); (case hn => rfl))); (case hb => exact bqq); (case ho => first | (simp only [List.length_cons, List.length_nil]; omega) | omega | (simp; omega) | simp); (try simp only [splice, zA, zB]); intro _ _ _ _))
  all_goals try exact ⟨_, rfl, by simp only [setW, List.foldl_cons, List.foldl_nil, List.set_cons_succ, List.set_cons_zero], rfl, by exact bqq⟩
  rintro u wz evz zz ⟨hu1, hbz⟩
  simp only [setW, List.foldl_cons, List.foldl_nil, List.set_cons_succ, List.set_cons_zero]
  simp only [hu1]
  repeat' (first | (with_reducible (first | refine' then_normal ?_ | refine' wp_ret ?_)) | ((with_reducible refine' b_retN ?hr ?h2 ?ha ?_); (case hr => rfl); (case h2 => decide); (case ha => first | exact ra_nil | ((first | ((with_reducible refine' ra_tmp ?rv2 ?rh2); (case rv2 => ((try simp only [ev, lget]); (try rfl)))) | ((with_reducible refine' ra_cell ?rp2 ?rt2 ?rq2 ?rn2 ?rh2); (case rp2 => rfl); (case rt2 => infer_instance); (case rq2 => exact bqq); (case rn2 => rfl))); (case rh2 => first | exact ra_nil | ((first | ((with_reducible refine' ra_tmp ?rv1 ?rh1); (case rv1 => ((try simp only [ev, lget]); (try rfl)))) | ((with_reducible refine' ra_cell ?rp1 ?rt1 ?rq1 ?rn1 ?rh1); (case rp1 => rfl); (case rt1 => infer_instance); (case rq1 => exact bqq); (case rn1 => rfl))); (case rh1 => first | exact ra_nil)))))))
  exact ⟨rfl, by exact eqq⟩
set_option maxHeartbeats 8000000 in
set_option maxRecDepth 20000 in
theorem CollectSteps_walk (p : Pol) (A : Option Addr) (c : Nat) (B : Option Addr) (es : List Evn) (d0 : Nat) (w : World) (hr : RI w A p.hs) (hsz : p.hs.length ≤ 1048576) (hs : RE w B es) (hv : ∀ e ∈ es, e.wf) (hes : es.length ≤ 1048576) :
    Calls Try.prog 3 #[.agg (polC p A c).toArray, .slice B es.length d0] w fun e w' => e = .returned (.bool true) ∧ Evt (fun _ => False) w w' := by
  have hg := rg_all hr
  go_enter Try.func3, Try.ntmps3
  repeat' (first | (with_reducible refine' stop_reg (id := 2) ?_) | (go_at_call 13; refine (begun_any _).mono ?_; rintro e wb ⟨rfl, evb⟩; have zb := evb.size; refine ⟨_, rfl, ?_⟩; (conv => arg 5; simp only [zA, zB, ev, lget, zC, zD, zE, zF, zG, zH, zI, zJ, zK, zL, zM, zN])) | (with_reducible (first | refine' wp_seq ?_ | refine' wp_region_lit ?_ | refine' wpList_nil ?_ | refine' then_normal ?_)) | ((with_reducible refine' l_step ?_); ((first | (with_reducible refine' g_move ?_) | (with_reducible refine' g_assign ?_) | ((with_reducible refine' g_extract ?hx ?hv ?_); (case hx => rfl); (case hv => rfl))); (conv => arg 5; simp only [zA, zB, ev, lget, zC, zD, zE, zF, zG, zH, zI, zJ, zK, zL, zM, zN]))) | ((first | ((with_reducible refine' e_boxA ?hx ?_); (case hx => rfl)) | ((with_reducible refine' e_alloc ?hx ?_); (case hx => rfl))); intro _ _ _ _ _ _ _; (conv => arg 5; simp only [zA, zB, ev, lget, zC, zD, zE, zF, zG, zH, zI, zJ, zK, zL, zM, zN])) | ((first | ((with_reducible refine' e_storeB ?hx ?hy ?hv ?h1 ?hb ?ho ?_); (case hx => rfl); (case hy => ((try simp only [ev, lget]); (try rfl))); (case hv => rfl); (case h1 => rfl)) | ((with_reducible refine' e_storeR ?hx ?hy ?h1 ?hb ?hn ?ho ?_); (case hx => rfl); (case hy => rfl); (case h1 => simp [Value.oneCell']); (case hn => rfl))); (case hb => exact bqq); (case ho => first | (simp only [List.length_cons, List.length_nil]; omega) | omega | (simp; omega) | simp); (try simp only [splice, zA, zB]); intro _ _ _ _) | ((with_reducible refine' l_call TFn.ent ?ha ?_); (case ha => simp only [zC, zD, ev, lget]; (try rfl))))
  refine stop_go ?_
  rename_i gq wq a1 a2 hq eq0 zq gx wx b1 b2 hx0 ex zx w2 hx e2 z2
  have hlx := hx.lt
  have hlq := hq.lt
  have hq2 : Blk w2 gq 24 (polC p A c) := by exact bqq
  have e02 : Evt (fun _ => False) w w2 := by exact eqq
  have z02 := e02.size
  clear hq eq0 hx0 ex e2 evb
  repeat' (first | (with_reducible (first | refine' wp_seq ?_ | refine' wp_region_lit ?_ | refine' wpList_nil ?_ | refine' then_normal ?_ | refine' wp_block ?_)) | ((with_reducible refine' l_step ?_); (first | ((with_reducible refine' g_assign ?_); (conv => arg 5; simp only [zA, zB, ev, lget, zC, zD, zE, zF, zG, zH, zI, zJ, zK, zL, zM, zN])) | ((with_reducible refine' g_build ?hl ?hp ?hs ?_); (case hl => rfl); (case hp => rfl); (case hs => rfl); (conv => arg 5; simp only [zA, zB, ev, lget, zC, zD, zE, zF, zG, zH, zI, zJ, zK, zL, zM, zN, fillL, splice, List.getD_cons_zero, List.getD_cons_succ, Value.cells])))) | (((with_reducible refine' e_boxA ?hx ?_); (case hx => rfl)); intro _ _ _ _ _ _ _; (conv => arg 5; simp only [zA, zB, ev, lget, zC, zD, zE, zF, zG, zH, zI, zJ, zK, zL, zM, zN])))
  rename_i gS wS c1 c2 hS0 eS zS
  have hlS := hS0.lt
  have hqS := hq2.evt eS (fun h => h)
  have hxS := hx.evt eS (fun h => h)
  have e0S : Evt (fun _ => False) w wS := Evt.next eS e02 (fun _ _ h => h)
  have hSh : ShelfV wS (fun _ => False) gS [] [] (.slice none 0 0) (.slice none 0 0) := ⟨hS0, World.ownsRow_nil _ _ _ _, World.ownsRow_nil _ _ _ _, rfl, fun i s h => by simp at h, fun i s t h => by simp at h, fun _ _ h => h, fun _ _ h => h, fun h => h, fun k h => by simp [Value.ownBlock] at h, fun _ h => h.elim, by simp⟩
  have hgS := hg.up e0S
  clear hq2 hx eS e02
  refine' s_loop [6, 8, 15, 16, 17, 18, 19, 20, 21, 22, 23, 24, 25, 26, 27, 28, 29, 30, 31, 32, 33, 34] (fun n u w' => ∃ (i : Nat) (k : Cas) (D : Nat → Prop) (ls ms : List Sl) (vI vL : Value), n = es.length - i ∧ i ≤ es.length ∧ u 8 = .int .i64 i ∧ u 6 = .bool true ∧ Inv p i k ∧ ls.length = 2 * i ∧ ShelfV w' D gS ls ms vI vL ∧ (∀ j, Shl D gS vI vL j → w2.heap.size ≤ j) ∧ Blk w' gx 29 (pairC k k) ∧ Evt (fun j => w2.heap.size ≤ j ∨ j = gx) wS w') es.length ?h0 ?round
  case h0 =>
    refine ⟨0, freshC, fun _ => False, [], [], _, _, rfl, by omega, rfl, rfl, inv_fresh p, rfl, hSh, ?_, hxS, Evt.refl _ _⟩
    rintro j (h | h | h | h)
    · exact h.elim
    · omega
    · simp [Value.ownBlock] at h
    · simp [Value.ownBlock] at h
  case round =>
    rintro n u w3 ⟨i, k, D, ls, ms, vI, vL, rfl, hi, h8, h6, hin, hln2, hS3, hlow, hx3, ev3⟩
    simp only [setW, List.foldl_cons, List.foldl_nil, List.set_cons_succ, List.set_cons_zero]
    simp only [h8, h6]
    have z3 := ev3.size
    have hq3 : Blk w3 gq 24 (polC p A c) := hqS.evt ev3 (by omega)
    have e03 : Evt (fun _ => False) w w3 := Evt.next ev3 e0S (by intro j hj h; have h' : w2.heap.size ≤ j ∨ j = gx := h; omega)
    have hg3 := hg.up e03
    clear hqS hxS hSh hgS hS0
    by_cases hlt : i < es.length
    · obtain ⟨b, o, rfl, hcell⟩ := hs.2 (by omega)
      have hb0 : b < w.heap.size := World.block_lt_of_cell? w _ (hcell i _ (List.getElem?_eq_getElem hlt) 0 _ rfl)
      have hcellE : ∀ w', Evt (fun j => Shl D gS vI vL j ∨ j = gx) w3 w' → ∀ j v, (evnC es[i])[j]? = some v → w'.cell? ⟨b, o + i * 4 + j, none⟩ = some v := fun w' he j v hj => cell_evt he (cell_evt e03 (hcell i _ (List.getElem?_eq_getElem hlt) j v hj) (fun h => h)) (by
        rintro (h | h)
        · have h1 := hlow b h; omega
        · have h' : b = gx := h; omega)
      clear hcell
      have hvi := hv es[i] (List.getElem_mem hlt)
      generalize es[i] = ei at *
      have hstp : ∀ wd, Evt (fun _ => False) w3 wd → _ := fun wd hwd => stepped_any p A c k ei D (fun j => j < w.heap.size) gS ls ms vI vL wd (hg3.up hwd) hsz (fun j hj => ⟨fun h => by have h1 := hlow j h; omega, by have h1 := hwd.size; omega⟩) (hS3.up hwd) (by omega) hvi (caseOk_of hin) (step_len hin hvi (by omega))
      have hin' := (inv_step (e := ei) hin hvi (by omega)).1
      generalize stepP p k ei = K at *
      have hxS3 : ∀ j, Shl D gS vI vL j → ¬ j = gx := fun j h hh => by have h1 := hlow j h; omega
      have ngx : ¬ Shl D gS vI vL gx := fun h => hxS3 gx h rfl
      have ngq : ¬ (Shl D gS vI vL gq ∨ gq = gx) := by
        rintro (h | h)
        · have h1 := hlow gq h; omega
        · omega
      repeat' (first | ((with_reducible refine' w_tree (id := 6) (fun j => Shl D gS vI vL j ∨ j = gx) (.pure 0 (.pure 2 (.pure 3 (.pure 4 (.pure 5 (.pure 6 (.one 1 (.one 7 (.pure 8 (.pure 9 (.pure 10 (.one 11 (.pure 12 .done))))))))))))) [6, 24, 25, 26, 27, 28, 29, 30, 31, 32, 33, 34] (fun u w' => u 6 = .bool true ∧ Blk w' gx 29 (pairC K.1 K.1) ∧ ∃ D' ls' ms' vI' vL', ShelfV w' D' gS ls' ms' vI' vL' ∧ ls'.length = ls.length + 2 ∧ ∀ j, Shl D' gS vI' vL' j → Shl D gS vI vL j ∨ w3.heap.size ≤ j) ?hm ?hn ?hl ?hB ?ta6 ?tb6); (case hm => kernel_rfl); (case hn => kernel_rfl); (case hl => kernel_rfl); (case hB => kernel_rfl); intro _ _ _) | ((with_reducible refine' tt_pure ?hi ?hv ?_); (case hi => rfl); (case hv => intro _ hqS; have hqz := hqS.size; ((first | (with_reducible refine' g_move ?_) | (with_reducible refine' g_assign ?_) | ((with_reducible refine' g_loadS ?hx ?hb ?hn ?_); (case hx => rfl); (case hb => exact bqq); first | (case hc => rfl) | (case hn => simp only [List.length_cons, List.length_nil]; omega)) | ((with_reducible refine' g_loadR ?hx ?hn ?hc ?_); (case hx => rfl); (case hc => exact hcellE _ (by exact eqq)); (case hn => rfl)) | ((with_reducible refine' g_extract ?hx ?hv ?_); (case hx => rfl); (case hv => rfl)) | ((with_reducible refine' g_indexAddr ?hx ?hy ?h0 ?h1 ?_); (case hx => rfl); (case hy => rfl); (case h0 => omega); (case h1 => omega))); exact rfl)); (conv => arg 6; simp only [zA, zB, ev, lget, zC, zD, zE, zF, zG, zH, zI, zJ, zK, zL, zM, zN, fillL, splice, List.getD_cons_zero, List.getD_cons_succ, Value.cells])) | ((with_reducible refine' tt_one ?hi ?_); (case hi => rfl)) | ((with_reducible refine' tt_done ?hS ?_); (case hS => exact eqq)) | (with_reducible refine' tt_nil ?_) | (go_at_call 14; refine (hstp _ (by exact eqq)).mono ?_; rintro r wa ⟨rfl, D', ls', ms', vI', vL', hst'⟩; have eva := hst'.evt; have za := eva.size; refine ⟨_, rfl, ?_⟩; (conv => arg 5; simp only [zA, zB, ev, lget, zC, zD, zE, zF, zG, zH, zI, zJ, zK, zL, zM, zN])) | (with_reducible (first | refine' wp_seq ?_ | refine' wp_region_lit ?_ | refine' wpList_nil ?_ | refine' then_normal ?_ | refine' wp_block ?_ | refine' wp_skip ?_)) | ((with_reducible refine' c_condT ?hx ?_); (case hx => rfl)) | ((with_reducible refine' l_step ?_); (first | ((first | (with_reducible refine' g_move ?_) | ((with_reducible refine' g_loadS ?hx ?hb ?hn ?_); (case hx => rfl); (case hb => exact bqq); first | (case hc => rfl) | (case hn => simp only [List.length_cons, List.length_nil]; omega)) | ((with_reducible refine' g_pickT ?hx ?_); (case hx => rfl)) | ((with_reducible refine' g_lenS ?hx ?_); (case hx => rfl))); (conv => arg 5; simp only [zA, zB, ev, lget, zC, zD, zE, zF, zG, zH, zI, zJ, zK, zL, zM, zN])) | (((with_reducible refine' g_lss ?hx ?hy (fun _ => ?_) (fun _ => ?_)); (case hx => rfl)); (case hy => rfl); all_goals (first | (exfalso; omega) | (conv => arg 5; simp only [zA, zB, ev, lget, zC, zD, zE, zF, zG, zH, zI, zJ, zK, zL, zM, zN]))))) | ((with_reducible refine' l_on ?hw ?_); (case hw => rfl)) | ((first | ((with_reducible refine' e_storeB ?hx ?hy ?hv ?h1 ?hb ?ho ?_); (case hx => rfl); (case hy => ((try simp only [ev, lget]); (try rfl))); (case hv => rfl); (case h1 => rfl)) | ((with_reducible refine' e_storeR ?hx ?hy ?h1 ?hb ?hn ?ho ?_); (case hx => rfl); (case hy => rfl); (case h1 => simp [Value.oneCell']); (case hn => rfl))); (case hb => exact bqq); (case ho => first | (simp only [List.length_cons, List.length_nil]; omega) | omega | (simp; omega) | simp); (try simp only [splice, zA, zB]); intro _ _ _ _) | ((with_reducible refine' l_call TFn.ent ?ha ?_); (case ha => simp only [zC, zD, ev, lget]; (try rfl))))
      all_goals try (rename_i wd evd zd w9 h9 e9 z9; exact ⟨_, rfl, by simp only [setW, List.foldl_cons, List.foldl_nil, List.set_cons_succ, List.set_cons_zero], rfl, h9, D', ls', ms', vI', vL', hst'.shelf.evt e9 (fun j h hh => by
        have h' : j = gx := hh
        rcases hst'.low j h with h1 | h1
        · exact hxS3 j h1 h'
        · omega), hst'.more, fun j h => (hst'.low j h).imp (fun h => h) (fun h => by omega)⟩)
      rintro u6 w6 ev6 z6 ⟨hu6, hx6, D', ls', ms', vI', vL', hS6, hl6, hlow6⟩
      simp only [setW, List.foldl_cons, List.foldl_nil, List.set_cons_succ, List.set_cons_zero]
      simp only [hu6]
      repeat' (first | (with_reducible (first | refine' wp_region_lit ?_ | refine' wpList_nil ?_ | refine' then_normal ?_ | refine' in_normal ?_)) | ((with_reducible refine' l_step ?_); ((first | (with_reducible refine' g_move ?_) | (with_reducible refine' g_assign ?_) | ((with_reducible refine' g_addN ?hx ?hy ?h0 ?h1 ?_); (case hx => rfl); (case hy => rfl); (case h0 => omega); (case h1 => omega))); (conv => arg 5; simp only [zA, zB, ev, lget, zC, zD, zE, zF, zG, zH, zI, zJ, zK, zL, zM, zN]))))
      exact ⟨_, _, rfl, (by omega : es.length - (i + 1) < es.length - i), by simp only [zA, zB], i + 1, K.1, D', ls', ms', vI', vL', rfl, by omega, rfl, rfl, hin', by omega, hS6, fun j h => by
        rcases hlow6 j h with h1 | h1
        · exact hlow j h1
        · omega, hx6, Evt.next ev6 ev3 (fun j _ h => by
        rcases h with h1 | h1
        · exact .inl (hlow j h1)
        · exact .inr h1)⟩
    · obtain rfl : i = es.length := by omega
      repeat' (first | (go_at_call 15; refine (still_any D gS ls ms vI vL _ (hS3.up (by exact eqq))).mono ?_; rintro r wt ⟨rfl, evt⟩; have zt := evt.size; refine ⟨_, rfl, ?_⟩; (conv => arg 5; simp only [zA, zB, ev, lget, zC, zD, zE, zF, zG, zH, zI, zJ, zK, zL, zM, zN])) | (with_reducible (first | refine' wp_seq ?_ | refine' wp_region_lit ?_ | refine' wpList_nil ?_ | refine' then_normal ?_ | refine' wp_ret ?_ | refine' wp_exit ?_ | refine' then_exit ?_ | refine' in_exit ?_)) | ((with_reducible refine' c_condF ?hx ?_); (case hx => rfl)) | ((with_reducible refine' b_ret1 ?hr ?hv ?_); (case hr => rfl); (case hv => ((try simp only [ev, lget]); (try rfl)))) | ((with_reducible refine' l_step ?_); (first | ((first | (with_reducible refine' g_move ?_) | (with_reducible refine' g_assign ?_) | ((with_reducible refine' g_pickT ?hx ?_); (case hx => rfl)) | ((with_reducible refine' g_pickF ?hx ?_); (case hx => rfl)) | ((with_reducible refine' g_lenS ?hx ?_); (case hx => rfl))); (conv => arg 5; simp only [zA, zB, ev, lget, zC, zD, zE, zF, zG, zH, zI, zJ, zK, zL, zM, zN])) | (((with_reducible refine' g_lss ?hx ?hy (fun _ => ?_) (fun _ => ?_)); (case hx => rfl)); (case hy => rfl); all_goals (first | (exfalso; omega) | (conv => arg 5; simp only [zA, zB, ev, lget, zC, zD, zE, zF, zG, zH, zI, zJ, zK, zL, zM, zN]))))) | ((with_reducible refine' l_on ?hw ?_); (case hw => rfl)) | ((with_reducible refine' l_off ?hw ?_); (case hw => rfl); (conv => arg 5; simp only [zA, zB, ev, lget, zC, zD, zE, zF, zG, zH, zI, zJ, zK, zL, zM, zN])) | ((with_reducible refine' l_call TFn.ent ?ha ?_); (case ha => simp only [zC, zD, ev, lget]; (try rfl))))
      exact ⟨rfl, by exact eqq⟩
end Go.Proofs.Ythfnlmedelfbnaa
