/- The document's Add. SHORT NORMX -/
import Derived.Test.YtchfkkliechgoaaDoc17b
namespace Go.Proofs.Ytchfkkliechgoaa
open Go.RowKit Go.Proofs.YtchfkkliechgoaaE
set_option linter.unusedSimpArgs false
set_option linter.unusedVariables false
set_option maxRecDepth 4000

set_option maxHeartbeats 4000000 in
theorem refAdd_r (G : Nat → Prop) (A : Option Addr) (c n : Nat) (rs : List Nt) (nid now : Int) (body : List Int) (A0 : Option Addr) (c0 : Nat) (w : World) (h : NtG w G A rs) (hn : rs.length = n) (hl : n ≤ 1000000000000) (hrc : RC w A0 (u8s body)) (hbl : body.length ≤ 140737488351232) :
    Calls Try.prog 39 #[.agg #[.slice A n c], .int .i64 nid, .slice A0 body.length c0, .int .i64 now] w fun e w' => ∃ A' c' rs', e = .returned (.tuple #[.agg #[.slice A' (rs' : List Nt).length c'], .int .i64 (addP (rs.map ntP) nid body now).2]) ∧ rs'.map ntP = (addP (rs.map ntP) nid body now).1 ∧ NtG w' (Gn G w w') A' rs' ∧ Evt (fun _ => False) w w' := by
  subst hn
  have hids : idsP (rs.map ntP) = rs.map (·.id) := by simp [idsP, ntP]
  obtain ⟨q, hq⟩ : ∃ q, decide (nid ∈ rs.map (·.id)) = q := ⟨_, rfl⟩
  go_enter Try.func39, Try.ntmps39
  repeat' (first | (with_reducible refine' stop_reg (id := 1) ?_) | (with_reducible (first | refine' wp_seq ?_ | refine' wp_region_lit ?_ | refine' wpList_nil ?_ | refine' then_normal ?_)) | ((with_reducible refine' l_step ?_); ((with_reducible refine' g_assign ?_); (conv => arg 5; simp only [zA, zB, ev, lget, zC, zD, zE, zF, zG, zH, zI, zJ, zK, zL, zM, zN, zO]))) | ((first | ((with_reducible refine' e_boxA ?hx ?_); (case hx => rfl)) | ((with_reducible refine' e_alloc ?hx ?_); (case hx => rfl))); intro _ _ _ _ _ _ _; (conv => arg 5; simp only [zA, zB, ev, lget, zC, zD, zE, zF, zG, zH, zI, zJ, zK, zL, zM, zN, zO])))
  rename_i gp w1 c1 c2 hgp ev1 z1 gr wB c3 c4 hgr ev2 z2
  have evB : Evt (fun _ => False) w wB := Evt.next ev2 ev1 (fun _ _ h => h)
  have hgpB := hgp.evt ev2 (fun h => h)
  have hB := h.nt.up evB
  clear hgp
  by_cases h1 : nid < 1
  · have hadd : addP (rs.map ntP) nid body now = (rs.map ntP, 2) := by rw [addP, if_pos h1]
    rw [hadd]
    refine stop_go ?_
    repeat' (first | (with_reducible (first | refine' wp_seq ?_ | refine' wp_region_lit ?_ | refine' wpList_nil ?_ | refine' then_normal ?_ | refine' wp_ret ?_ | refine' then_ret ?_)) | ((with_reducible refine' c_condT ?hx ?_); (case hx => rfl)) | ((with_reducible refine' b_retN ?hr ?h2 ?ha ?_); (case hr => rfl); (case h2 => decide); (case ha => first | exact ra_nil | ((first | ((with_reducible refine' ra_tmp ?rv2 ?rh2); (case rv2 => ((try simp only [ev, lget]); (try rfl)))) | ((with_reducible refine' ra_cell ?rp2 ?rt2 ?rq2 ?rn2 ?rh2); (case rp2 => rfl); (case rt2 => infer_instance); (case rq2 => exact bqq); (case rn2 => rfl))); (case rh2 => first | exact ra_nil | ((first | ((with_reducible refine' ra_tmp ?rv1 ?rh1); (case rv1 => ((try simp only [ev, lget]); (try rfl)))) | ((with_reducible refine' ra_cell ?rp1 ?rt1 ?rq1 ?rn1 ?rh1); (case rp1 => rfl); (case rt1 => infer_instance); (case rq1 => exact bqq); (case rn1 => rfl))); (case rh1 => first | exact ra_nil)))))) | ((with_reducible refine' l_step ?_); (first | ((first | (with_reducible refine' g_move ?_) | (with_reducible refine' g_assign ?_) | ((with_reducible refine' g_loadS ?hx ?hb ?hn ?_); (case hx => rfl); (case hb => exact bqq); first | (case hc => rfl) | (case hn => simp only [List.length_cons, List.length_nil]; omega))); (conv => arg 5; simp only [zA, zB, ev, lget, zC, zD, zE, zF, zG, zH, zI, zJ, zK, zL, zM, zN, zO])) | (((with_reducible refine' g_lss ?hx ?hy (fun _ => ?_) (fun _ => ?_)); (case hx => rfl)); (case hy => rfl); all_goals (first | (exfalso; omega) | (conv => arg 5; simp only [zA, zB, ev, lget, zC, zD, zE, zF, zG, zH, zI, zJ, zK, zL, zM, zN, zO]))))) | ((first | ((with_reducible refine' e_storeB ?hx ?hy ?hv ?h1 ?hb ?ho ?_); (case hx => rfl); (case hy => ((try simp only [ev, lget]); (try rfl))); (case hv => rfl); (case h1 => rfl)) | ((with_reducible refine' e_storeR ?hx ?hy ?h1 ?hb ?hn ?ho ?_); (case hx => rfl); (case hy => rfl); (case h1 => simp [Value.oneCell']); (case hn => rfl))); (case hb => exact bqq); (case ho => first | (simp only [List.length_cons, List.length_nil]; omega) | omega | (simp; omega) | simp); (try simp only [splice, zA, zB]); intro _ _ _ _))
    rename_i w9 hg9 ev9 z9
    have evW : Evt (fun _ => False) w w9 := Evt.next ev9 evB (fun j hj hh => by have h' : j = gr := hh; omega)
    exact ⟨A, c, rs, rfl, rfl, h.evt evW (fun _ _ _ h => h) (fun _ h => .inl h), evW⟩
  · cases q
    · have hnm : nid ∉ idsP (rs.map ntP) := by
        rw [hids]
        exact of_decide_eq_false hq
      have hadd : addP (rs.map ntP) nid body now = ((rs.map ntP).filter (fun e => decide (e.id < nid)) ++ ⟨nid, 0, now, body⟩ :: (rs.map ntP).filter (fun e => decide (nid < e.id)), 0) := by rw [addP, if_neg h1, if_neg hnm]
      rw [hadd]
      refine stop_go ?_
      repeat' (first | (go_at_call 47; refine (holds_r A c _ rs nid _ (h.nt.up (by exact eqq)) rfl (by omega)).mono ?_; rw [hq]; rintro e wH ⟨rfl, evH⟩; have zH_ := evH.size; refine ⟨_, rfl, ?_⟩; (conv => arg 5; simp only [zA, zB, ev, lget, zC, zD, zE, zF, zG, zH, zI, zJ, zK, zL, zM, zN, zO])) | (go_at_call 48; refine (copied_r A0 c0 _ body _ (hrc.up (by exact eqq)) rfl hbl).mono ?_; rintro e wC ⟨VB, dB, rfl, hoB, hnB, evC⟩; have zC_ := evC.size; refine ⟨_, rfl, ?_⟩; (conv => arg 5; simp only [zA, zB, ev, lget, zC, zD, zE, zF, zG, zH, zI, zJ, zK, zL, zM, zN, zO])) | (with_reducible refine' stop_reg (id := 6) ?_) | (with_reducible (first | refine' wp_seq ?_ | refine' wp_region_lit ?_ | refine' wpList_nil ?_ | refine' then_normal ?_ | refine' wp_skip ?_)) | ((with_reducible refine' c_condF ?hx ?_); (case hx => rfl)) | ((with_reducible refine' l_step ?_); (first | ((first | (with_reducible refine' g_move ?_) | ((with_reducible refine' g_loadS ?hx ?hb ?hn ?_); (case hx => rfl); (case hb => exact bqq); first | (case hc => rfl) | (case hn => simp only [List.length_cons, List.length_nil]; omega))); (conv => arg 5; simp only [zA, zB, ev, lget, zC, zD, zE, zF, zG, zH, zI, zJ, zK, zL, zM, zN, zO])) | (((with_reducible refine' g_lss ?hx ?hy (fun _ => ?_) (fun _ => ?_)); (case hx => rfl)); (case hy => rfl); all_goals (first | (exfalso; omega) | (conv => arg 5; simp only [zA, zB, ev, lget, zC, zD, zE, zF, zG, zH, zI, zJ, zK, zL, zM, zN, zO]))) | ((with_reducible refine' g_build ?hl ?hp ?hs ?_); (case hl => rfl); (case hp => rfl); (case hs => rfl); (conv => arg 5; simp only [zA, zB, ev, lget, zC, zD, zE, zF, zG, zH, zI, zJ, zK, zL, zM, zN, zO, fillL, splice, List.getD_cons_zero, List.getD_cons_succ, Value.cells])))) | (((with_reducible refine' e_alloc ?hx ?_); (case hx => rfl)); intro _ _ _ _ _ _ _; (conv => arg 5; simp only [zA, zB, ev, lget, zC, zD, zE, zF, zG, zH, zI, zJ, zK, zL, zM, zN, zO])) | ((first | ((with_reducible refine' e_storeB ?hx ?hy ?hv ?h1 ?hb ?ho ?_); (case hx => rfl); (case hy => ((try simp only [ev, lget]); (try rfl))); (case hv => rfl); (case h1 => rfl)) | ((with_reducible refine' e_storeR ?hx ?hy ?h1 ?hb ?hn ?ho ?_); (case hx => rfl); (case hy => rfl); (case h1 => simp [Value.oneCell']); (case hn => rfl))); (case hb => exact bqq); (case ho => first | (simp only [List.length_cons, List.length_nil]; omega) | omega | (simp; omega) | simp); (try simp only [splice, zA, zB]); intro _ _ _ _) | ((with_reducible refine' l_call TFn.ent ?ha ?_); (case ha => simp only [zC, zD, ev, lget]; (try rfl))))
      rename_i gq wq q1 q2 hbq evq zq wS hbS evS zS
      have evCS : Evt (fun _ => False) wC wS := Evt.next evS evq (fun j hj hh => by have h' : j = gq := hh; omega)
      have evBS : Evt (fun _ => False) wB wS := Evt.next evCS (Evt.next evC evH (fun _ _ h => h)) (fun _ _ h => h)
      have hgpS := hgpB.evt evBS (fun h => h)
      have hgrS := hgr.evt evBS (fun h => h)
      have hBS := hB.up evBS
      have hoBS := own_evt evCS hoB (fun _ _ h => h)
      have zS0 := evBS.size
      clear hbq hgpB hgr hB
      refine stop_go ?_
      repeat' (first | (with_reducible (first | refine' wp_seq ?_ | refine' wp_region_lit ?_ | refine' wpList_nil ?_ | refine' then_normal ?_ | refine' wp_block ?_)) | ((with_reducible refine' l_step ?_); ((with_reducible refine' g_assign ?_); (conv => arg 5; simp only [zA, zB, ev, lget, zC, zD, zE, zF, zG, zH, zI, zJ, zK, zL, zM, zN, zO]))))
      refine' s_loop [11, 12, 26, 27, 28, 29, 30, 31, 32, 33, 34, 35, 36, 37, 38, 39, 40, 41, 42, 43, 44, 45, 46, 47, 48] (fun n u w' => ∃ (i : Nat) (V' : Option Addr) (d' : Nat) (fs : List Nt), n = rs.length - i ∧ i ≤ rs.length ∧ fs = (rs.take i).filter (fun k => decide (k.id < nid)) ∧ u 12 = .int .i64 i ∧ u 11 = .slice V' fs.length d' ∧ w'.ownsRow 0 53 4 (.slice V' fs.length d') fs.length (ntCs fs) ∧ (∀ k, (Value.slice V' fs.length d').ownBlock = some k → wS.heap.size ≤ k) ∧ Evt (fun _ => False) wS w') rs.length ?h01 ?round1
      case h01 => exact ⟨0, none, 0, [], rfl, by omega, rfl, rfl, rfl, World.ownsRow_nil _ _ _ _, by simp [Value.ownBlock], Evt.refl _ _⟩
      case round1 =>
        rintro n u w2 ⟨i, V', d', fs, rfl, hi, hfs, h7, h6, ho, hnw, hev⟩
        simp only [setW, List.foldl_cons, List.foldl_nil, List.set_cons_succ, List.set_cons_zero]
        simp only [h7, h6]
        have hz := hev.size
        have hgp2 := hgpS.evt hev (fun h => h)
        have hgr2 := hgrS.evt hev (fun h => h)
        have hbS2 := hbS.evt hev (fun h => h)
        have hlf : fs.length ≤ i := by
          rw [hfs]
          have h1 := List.length_filter_le (fun k : Nt => decide (k.id < nid)) (rs.take i)
          rw [List.length_take] at h1
          skip
          omega
        by_cases hlt : i < rs.length
        · obtain ⟨b, o, rfl, hcellE⟩ := (hBS.up hev).at_ hlt
          have htx : ∀ (q : Bool), decide (rs[i].id < nid) = q → (rs.take (i + 1)).filter (fun k => decide (k.id < nid)) = fs ++ (if q then [rs[i]] else []) := fun q hq => by
            rw [List.take_succ_eq_append_getElem hlt, List.filter_append, ← hfs]
            subst hq
            by_cases h1 : rs[i].id < nid <;> simp [h1]
          have hltO := own_lt ho
          clear hfs hBS hgpS hgrS hbS
          generalize rs[i] = x at *
          repeat' (first | (((with_reducible refine' e_append ?hx ?hy ?hzs ?hsz ?hown ?hl ?hnews ?h1 ?hb ?hm ?_); (case hx => ((try simp only [ev, lget]); (try rfl))); (case hy => rfl); (case hzs => rfl); (case hsz => decide); (case hown => exact oqq); (case hnews => refine' blk_src ?hbb; (case hbb => exact bqq)); (case hl => rfl); (case h1 => simp [Value.oneCell']); (case hb => omega); (case hm => omega); intro vA wA hoA heA hnA haA hzA; (conv => arg 5; simp only [zA, zB, ev, lget, zC, zD, zE, zF, zG, zH, zI, zJ, zK, zL, zM, zN, zO])); have hlA := own_lt hoA; obtain ⟨VA, dA, hVA⟩ := own_slice hoA; subst hVA) | (with_reducible (first | refine' wp_seq ?_ | refine' wp_region_lit ?_ | refine' wpList_nil ?_ | refine' then_normal ?_ | refine' wp_block ?_ | refine' wp_skip ?_ | refine' in_normal ?_)) | ((with_reducible refine' c_condT ?hx ?_); (case hx => rfl)) | ((with_reducible refine' c_condF ?hx ?_); (case hx => rfl)) | ((with_reducible refine' l_step ?_); (first | ((first | (with_reducible refine' g_move ?_) | (with_reducible refine' g_assign ?_) | ((with_reducible refine' g_fieldAddr ?hx ?ho ?_); (case hx => rfl); (case ho => rfl)) | ((first | (with_reducible refine' g_loadB ?hx ?hb ?hc ?_) | (with_reducible refine' g_loadS ?hx ?hb ?hn ?_)); (case hx => rfl); (case hb => exact bqq); first | (case hc => rfl) | (case hn => simp only [List.length_cons, List.length_nil]; omega)) | ((with_reducible refine' g_loadR ?hx ?hn ?hc ?_); (case hx => rfl); (case hc => first | exact hcellE _ (by exact eqq) | exact hcellF _ (by exact eqq)); (case hn => rfl)) | ((with_reducible refine' g_loadC ?hx ?hc ?_); (case hx => rfl); (case hc => first | exact hcellE _ (by exact eqq) 0 _ rfl | exact hcellE _ (by exact eqq) _ _ rfl | exact hcellF _ (by exact eqq) 0 _ rfl | exact hcellF _ (by exact eqq) _ _ rfl)) | ((with_reducible refine' g_addN ?hx ?hy ?h0 ?h1 ?_); (case hx => rfl); (case hy => rfl); (case h0 => omega); (case h1 => omega)) | ((with_reducible refine' g_lenS ?hx ?_); (case hx => rfl)) | ((with_reducible refine' g_indexAddr ?hx ?hy ?h0 ?h1 ?_); (case hx => rfl); (case hy => rfl); (case h0 => omega); (case h1 => omega))); (conv => arg 5; simp only [zA, zB, ev, lget, zC, zD, zE, zF, zG, zH, zI, zJ, zK, zL, zM, zN, zO])) | (((with_reducible refine' g_lss ?hx ?hy (fun _ => ?_) (fun _ => ?_)); (case hx => rfl)); (case hy => rfl); all_goals (first | (exfalso; omega) | (conv => arg 5; simp only [zA, zB, ev, lget, zC, zD, zE, zF, zG, zH, zI, zJ, zK, zL, zM, zN, zO]))))) | (((with_reducible refine' e_sliceLit ?hx ?hi ?hv ?hn ?_); (case hx => simp only [zC, zD, ev, lget]; (try rfl)); (case hi => rfl); (case hv => simp [Value.cells]); (case hn => decide); simp only [List.flatMap_cons, List.flatMap_nil, Value.cells, List.cons_append, List.nil_append]); intro _ _ _ _ _ _ _; (conv => arg 5; simp only [zA, zB, ev, lget, zC, zD, zE, zF, zG, zH, zI, zJ, zK, zL, zM, zN, zO])))
          · rename_i g1 w1' p1 p2 hb1 ev1' z1'
            have hxi : x.id < nid := by assumption
            have ev2A : Evt (fun k => (Value.slice V' fs.length d').ownBlock = some k) w2 wA := by exact eqq
            refine ⟨_, _, rfl, (by omega : rs.length - (i + 1) < rs.length - i), by simp only [zA, zB], i + 1, VA, dA, fs ++ [x], rfl, by omega, (htx true (decide_eq_true hxi)).symm, rfl, by rw [List.length_append]; rfl, ?_, ?_, Evt.next ev2A hev (fun j hj hh => by have := hnw j hh; omega)⟩
            · rw [List.length_append, ntCs_snoc]
              exact hoA
            · rw [List.length_append]
              exact new_low haA hnw (by omega)
          · have hxi : ¬ x.id < nid := by omega
            exact ⟨_, _, rfl, (by omega : rs.length - (i + 1) < rs.length - i), by simp only [zA, zB], i + 1, V', d', fs, rfl, by omega, by rw [htx false (decide_eq_false hxi)]; simp, rfl, rfl, ho, hnw, hev⟩
        · have hi' : i = rs.length := by omega
          subst hi'
          rw [List.take_length] at hfs
          have hpl : (fs ++ [(⟨nid, 0, now, ⟨body, VB, dB⟩⟩ : Nt)]).length = fs.length + 1 := by simp
          have hltO := own_lt ho
          have kBS : ∀ w', Evt (fun _ => False) wS w' → NtAt w' A rs ∧ Blk w' gp 63 [.slice A rs.length c] ∧ Blk w' gr 63 [.slice none 0 0] ∧ Blk w' gq 53 [.int .i64 nid, .int .i64 0, .int .i64 now, .slice VB body.length dB] := fun w' he => ⟨hBS.up he, hgpS.evt he (fun h => h), hgrS.evt he (fun h => h), hbS.evt he (fun h => h)⟩
          clear hBS hgpS hgrS hbS
          repeat' (first | (((with_reducible refine' e_append ?hx ?hy ?hzs ?hsz ?hown ?hl ?hnews ?h1 ?hb ?hm ?_); (case hx => ((try simp only [ev, lget]); (try rfl))); (case hy => rfl); (case hzs => rfl); (case hsz => decide); (case hown => exact oqq); (case hnews => refine' blk_src ?hbb; (case hbb => exact bqq)); (case hl => rfl); (case h1 => simp [Value.oneCell']); (case hb => omega); (case hm => omega); intro vA wA hoA heA hnA haA hzA; (conv => arg 5; simp only [zA, zB, ev, lget, zC, zD, zE, zF, zG, zH, zI, zJ, zK, zL, zM, zN, zO])); have hlA := own_lt hoA; obtain ⟨VA, dA, hVA⟩ := own_slice hoA; subst hVA) | (with_reducible refine' stop_reg (id := 13) ?_) | (with_reducible (first | refine' wp_seq ?_ | refine' wp_region_lit ?_ | refine' wpList_nil ?_ | refine' then_normal ?_ | refine' wp_exit ?_ | refine' then_exit ?_ | refine' in_exit ?_)) | ((with_reducible refine' c_condF ?hx ?_); (case hx => rfl)) | ((with_reducible refine' l_step ?_); (first | ((first | (with_reducible refine' g_move ?_) | (with_reducible refine' g_assign ?_) | ((with_reducible refine' g_fieldAddr ?hx ?ho ?_); (case hx => rfl); (case ho => rfl)) | ((first | (with_reducible refine' g_loadB ?hx ?hb ?hc ?_) | (with_reducible refine' g_loadS ?hx ?hb ?hn ?_)); (case hx => rfl); (case hb => exact bqq); first | (case hc => rfl) | (case hn => simp only [List.length_cons, List.length_nil]; omega)) | ((with_reducible refine' g_lenS ?hx ?_); (case hx => rfl))); (conv => arg 5; simp only [zA, zB, ev, lget, zC, zD, zE, zF, zG, zH, zI, zJ, zK, zL, zM, zN, zO])) | (((with_reducible refine' g_lss ?hx ?hy (fun _ => ?_) (fun _ => ?_)); (case hx => rfl)); (case hy => rfl); all_goals (first | (exfalso; omega) | (conv => arg 5; simp only [zA, zB, ev, lget, zC, zD, zE, zF, zG, zH, zI, zJ, zK, zL, zM, zN, zO]))))) | (((with_reducible refine' e_sliceLit ?hx ?hi ?hv ?hn ?_); (case hx => simp only [zC, zD, ev, lget]; (try rfl)); (case hi => rfl); (case hv => simp [Value.cells]); (case hn => decide); simp only [List.flatMap_cons, List.flatMap_nil, Value.cells, List.cons_append, List.nil_append]); intro _ _ _ _ _ _ _; (conv => arg 5; simp only [zA, zB, ev, lget, zC, zD, zE, zF, zG, zH, zI, zJ, zK, zL, zM, zN, zO])))
          rename_i g1 w1' p1 p2 hb1 ev1' z1'
          have ev2A : Evt (fun k => (Value.slice V' fs.length d').ownBlock = some k) w2 wA := by exact eqq
          have hevX : Evt (fun _ => False) wS wA := Evt.next ev2A hev (fun j hj hh => by have := hnw j hh; omega)
          have hnX := new_low haA hnw (B := wS.heap.size) (by omega)
          have hoX : wA.ownsRow 0 53 4 (.slice VA (fs.length + 1) dA) (fs.length + 1) (ntCs (fs ++ [⟨nid, 0, now, ⟨body, VB, dB⟩⟩])) := by
            rw [ntCs_snoc]
            exact hoA
          obtain ⟨pre, hpre⟩ : ∃ pre : List Nt, fs ++ [⟨nid, 0, now, ⟨body, VB, dB⟩⟩] = pre := ⟨_, rfl⟩
          rw [hpre] at hoX hpl
          have hfs1 : pre = (rs.filter fun k => decide (k.id < nid)) ++ [⟨nid, 0, now, ⟨body, VB, dB⟩⟩] := by rw [← hpre, hfs]
          have hprl : pre.length ≤ rs.length + 1 := by omega
          obtain ⟨hBS, hgpS, hgrS, hbS⟩ := kBS wS (Evt.refl _ _)
          clear ev2A hb1 ev1' heA hoA ho hgp2 hgr2 hbS2 hev hlf hfs hpre h7 h6 hltO hnw
          refine stop_go ?_
          repeat' (first | (with_reducible (first | refine' wp_region_lit ?_ | refine' wpList_nil ?_ | refine' then_normal ?_ | refine' wp_block ?_)) | ((with_reducible refine' l_step ?_); ((with_reducible refine' g_assign ?_); (conv => arg 5; simp only [zA, zB, ev, lget, zC, zD, zE, zF, zG, zH, zI, zJ, zK, zL, zM, zN, zO]))))
          refine' s_loop [11, 13, 53, 54, 55, 56, 57, 58, 59, 60, 61, 62, 63, 64, 65, 66, 67, 68, 69, 70, 71, 72, 73, 74, 75] (fun n u w' => ∃ (i : Nat) (V' : Option Addr) (d' : Nat) (fs : List Nt), n = rs.length - i ∧ i ≤ rs.length ∧ fs = pre ++ (rs.take i).filter (fun k => decide (nid < k.id)) ∧ u 13 = .int .i64 i ∧ u 11 = .slice V' fs.length d' ∧ w'.ownsRow 0 53 4 (.slice V' fs.length d') fs.length (ntCs fs) ∧ (∀ k, (Value.slice V' fs.length d').ownBlock = some k → wS.heap.size ≤ k) ∧ Evt (fun _ => False) wS w') rs.length ?h02 ?round2
          case h02 => exact ⟨0, VA, dA, pre, rfl, by omega, by simp, rfl, by rw [hpl]; rfl, by rw [hpl]; exact hoX, by rw [hpl]; exact hnX, hevX⟩
          case round2 =>
            rintro n u w2 ⟨i, V', d', fs, rfl, hi, hfs, h7, h6, ho, hnw, hev⟩
            simp only [setW, List.foldl_cons, List.foldl_nil, List.set_cons_succ, List.set_cons_zero]
            simp only [h7, h6]
            have hz := hev.size
            have hgp2 := hgpS.evt hev (fun h => h)
            have hgr2 := hgrS.evt hev (fun h => h)
            have hbS2 := hbS.evt hev (fun h => h)
            have hlf : fs.length ≤ i + pre.length := by
              rw [hfs]
              have h1 := List.length_filter_le (fun k : Nt => decide (nid < k.id)) (rs.take i)
              rw [List.length_take] at h1
              rw [List.length_append]
              omega
            by_cases hlt : i < rs.length
            · obtain ⟨b, o, rfl, hcellE⟩ := (hBS.up hev).at_ hlt
              have htx : ∀ (q : Bool), decide (nid < rs[i].id) = q → pre ++ (rs.take (i + 1)).filter (fun k => decide (nid < k.id)) = fs ++ (if q then [rs[i]] else []) := fun q hq => by
                rw [List.take_succ_eq_append_getElem hlt, List.filter_append, ← List.append_assoc, ← hfs]
                subst hq
                by_cases h1 : nid < rs[i].id <;> simp [h1]
              have hltO := own_lt ho
              clear hfs hBS hgpS hgrS hbS
              generalize rs[i] = x at *
              repeat' (first | (((with_reducible refine' e_append ?hx ?hy ?hzs ?hsz ?hown ?hl ?hnews ?h1 ?hb ?hm ?_); (case hx => ((try simp only [ev, lget]); (try rfl))); (case hy => rfl); (case hzs => rfl); (case hsz => decide); (case hown => exact oqq); (case hnews => refine' blk_src ?hbb; (case hbb => exact bqq)); (case hl => rfl); (case h1 => simp [Value.oneCell']); (case hb => omega); (case hm => omega); intro vA wA hoA heA hnA haA hzA; (conv => arg 5; simp only [zA, zB, ev, lget, zC, zD, zE, zF, zG, zH, zI, zJ, zK, zL, zM, zN, zO])); have hlA := own_lt hoA; obtain ⟨VA, dA, hVA⟩ := own_slice hoA; subst hVA) | (with_reducible (first | refine' wp_seq ?_ | refine' wp_region_lit ?_ | refine' wpList_nil ?_ | refine' then_normal ?_ | refine' wp_block ?_ | refine' wp_skip ?_ | refine' in_normal ?_)) | ((with_reducible refine' c_condT ?hx ?_); (case hx => rfl)) | ((with_reducible refine' c_condF ?hx ?_); (case hx => rfl)) | ((with_reducible refine' l_step ?_); (first | ((first | (with_reducible refine' g_move ?_) | (with_reducible refine' g_assign ?_) | ((with_reducible refine' g_fieldAddr ?hx ?ho ?_); (case hx => rfl); (case ho => rfl)) | ((first | (with_reducible refine' g_loadB ?hx ?hb ?hc ?_) | (with_reducible refine' g_loadS ?hx ?hb ?hn ?_)); (case hx => rfl); (case hb => exact bqq); first | (case hc => rfl) | (case hn => simp only [List.length_cons, List.length_nil]; omega)) | ((with_reducible refine' g_loadR ?hx ?hn ?hc ?_); (case hx => rfl); (case hc => first | exact hcellE _ (by exact eqq) | exact hcellF _ (by exact eqq)); (case hn => rfl)) | ((with_reducible refine' g_loadC ?hx ?hc ?_); (case hx => rfl); (case hc => first | exact hcellE _ (by exact eqq) 0 _ rfl | exact hcellE _ (by exact eqq) _ _ rfl | exact hcellF _ (by exact eqq) 0 _ rfl | exact hcellF _ (by exact eqq) _ _ rfl)) | ((with_reducible refine' g_addN ?hx ?hy ?h0 ?h1 ?_); (case hx => rfl); (case hy => rfl); (case h0 => omega); (case h1 => omega)) | ((with_reducible refine' g_lenS ?hx ?_); (case hx => rfl)) | ((with_reducible refine' g_indexAddr ?hx ?hy ?h0 ?h1 ?_); (case hx => rfl); (case hy => rfl); (case h0 => omega); (case h1 => omega))); (conv => arg 5; simp only [zA, zB, ev, lget, zC, zD, zE, zF, zG, zH, zI, zJ, zK, zL, zM, zN, zO])) | ((first | ((with_reducible refine' g_lss ?hx ?hy (fun _ => ?_) (fun _ => ?_)); (case hx => rfl)) | ((with_reducible refine' g_gtr ?hx ?hy (fun _ => ?_) (fun _ => ?_)); (case hx => rfl))); (case hy => rfl); all_goals (first | (exfalso; omega) | (conv => arg 5; simp only [zA, zB, ev, lget, zC, zD, zE, zF, zG, zH, zI, zJ, zK, zL, zM, zN, zO]))))) | (((with_reducible refine' e_sliceLit ?hx ?hi ?hv ?hn ?_); (case hx => simp only [zC, zD, ev, lget]; (try rfl)); (case hi => rfl); (case hv => simp [Value.cells]); (case hn => decide); simp only [List.flatMap_cons, List.flatMap_nil, Value.cells, List.cons_append, List.nil_append]); intro _ _ _ _ _ _ _; (conv => arg 5; simp only [zA, zB, ev, lget, zC, zD, zE, zF, zG, zH, zI, zJ, zK, zL, zM, zN, zO])))
              · rename_i g1 w1' p1 p2 hb1 ev1' z1'
                have hxi : nid < x.id := by assumption
                have ev2A : Evt (fun k => (Value.slice V' fs.length d').ownBlock = some k) w2 wA := by exact eqq
                refine ⟨_, _, rfl, (by omega : rs.length - (i + 1) < rs.length - i), by simp only [zA, zB], i + 1, VA, dA, fs ++ [x], rfl, by omega, (htx true (decide_eq_true hxi)).symm, rfl, by rw [List.length_append]; rfl, ?_, ?_, Evt.next ev2A hev (fun j hj hh => by have := hnw j hh; omega)⟩
                · rw [List.length_append, ntCs_snoc]
                  exact hoA
                · rw [List.length_append]
                  exact new_low haA hnw (by omega)
              · have hxi : ¬ nid < x.id := by omega
                exact ⟨_, _, rfl, (by omega : rs.length - (i + 1) < rs.length - i), by simp only [zA, zB], i + 1, V', d', fs, rfl, by omega, by rw [htx false (decide_eq_false hxi)]; simp, rfl, rfl, ho, hnw, hev⟩
            · have hi' : i = rs.length := by omega
              subst hi'
              rw [List.take_length] at hfs
              clear kBS
              have hm1 : ∀ (P : Int → Bool), (rs.map ntP).filter (fun e => P e.id) = (rs.filter fun k => P k.id).map ntP := fun P => by
                rw [List.filter_map]
                rfl
              have hpp : fs.map ntP = (rs.map ntP).filter (fun e => decide (e.id < nid)) ++ ⟨nid, 0, now, body⟩ :: (rs.map ntP).filter (fun e => decide (nid < e.id)) := by
                rw [hfs, hfs1, hm1 (fun z => decide (z < nid)), hm1 (fun z => decide (nid < z)), List.map_append, List.map_append, List.append_assoc]
                rfl
              have hmem : ∀ m ∈ fs, m ∈ rs ∨ m = ⟨nid, 0, now, ⟨body, VB, dB⟩⟩ := fun m hm => by
                rw [hfs, hfs1] at hm
                rcases List.mem_append.1 hm with h1 | h1
                · rcases List.mem_append.1 h1 with h2 | h2
                  · exact .inl (List.mem_filter.1 h2).1
                  · exact .inr (List.mem_singleton.1 h2)
                · exact .inl (List.mem_filter.1 h1).1
              clear hfs hfs1
              repeat' (first | (with_reducible (first | refine' wp_seq ?_ | refine' wp_region_lit ?_ | refine' wpList_nil ?_ | refine' then_normal ?_ | refine' wp_ret ?_ | refine' wp_exit ?_ | refine' then_exit ?_ | refine' in_exit ?_)) | ((with_reducible refine' c_condF ?hx ?_); (case hx => rfl)) | ((with_reducible refine' b_retN ?hr ?h2 ?ha ?_); (case hr => rfl); (case h2 => decide); (case ha => first | exact ra_nil | ((first | ((with_reducible refine' ra_tmp ?rv2 ?rh2); (case rv2 => ((try simp only [ev, lget]); (try rfl)))) | ((with_reducible refine' ra_cell ?rp2 ?rt2 ?rq2 ?rn2 ?rh2); (case rp2 => rfl); (case rt2 => infer_instance); (case rq2 => exact bqq); (case rn2 => rfl))); (case rh2 => first | exact ra_nil | ((first | ((with_reducible refine' ra_tmp ?rv1 ?rh1); (case rv1 => ((try simp only [ev, lget]); (try rfl)))) | ((with_reducible refine' ra_cell ?rp1 ?rt1 ?rq1 ?rn1 ?rh1); (case rp1 => rfl); (case rt1 => infer_instance); (case rq1 => exact bqq); (case rn1 => rfl))); (case rh1 => first | exact ra_nil)))))) | ((with_reducible refine' l_step ?_); (first | ((first | (with_reducible refine' g_move ?_) | (with_reducible refine' g_assign ?_) | ((with_reducible refine' g_fieldAddr ?hx ?ho ?_); (case hx => rfl); (case ho => rfl)) | ((with_reducible refine' g_loadB ?hx ?hb ?hc ?_); (case hx => rfl); (case hb => exact bqq); first | (case hc => rfl) | (case hn => simp only [List.length_cons, List.length_nil]; omega)) | ((with_reducible refine' g_lenS ?hx ?_); (case hx => rfl))); (conv => arg 5; simp only [zA, zB, ev, lget, zC, zD, zE, zF, zG, zH, zI, zJ, zK, zL, zM, zN, zO])) | (((with_reducible refine' g_lss ?hx ?hy (fun _ => ?_) (fun _ => ?_)); (case hx => rfl)); (case hy => rfl); all_goals (first | (exfalso; omega) | (conv => arg 5; simp only [zA, zB, ev, lget, zC, zD, zE, zF, zG, zH, zI, zJ, zK, zL, zM, zN, zO]))) | ((with_reducible refine' g_build ?hl ?hp ?hs ?_); (case hl => rfl); (case hp => rfl); (case hs => rfl); (conv => arg 5; simp only [zA, zB, ev, lget, zC, zD, zE, zF, zG, zH, zI, zJ, zK, zL, zM, zN, zO, fillL, splice, List.getD_cons_zero, List.getD_cons_succ, Value.cells])))) | ((first | ((with_reducible refine' e_storeB ?hx ?hy ?hv ?h1 ?hb ?ho ?_); (case hx => rfl); (case hy => ((try simp only [ev, lget]); (try rfl))); (case hv => rfl); (case h1 => rfl)) | ((with_reducible refine' e_storeR ?hx ?hy ?h1 ?hb ?hn ?ho ?_); (case hx => rfl); (case hy => rfl); (case h1 => simp [Value.oneCell']); (case hn => rfl))); (case hb => exact bqq); (case ho => first | (simp only [List.length_cons, List.length_nil]; omega) | omega | (simp; omega) | simp); (try simp only [splice, zA, zB]); intro _ _ _ _))
              rename_i w9 hg9 ev9 z9
              have ho9 := own_evt ev9 ho (fun k hk hh => by
                obtain ⟨cur, hc⟩ := own_typ ho k hk
                have h' : k = gr := hh
                subst h'
                exact Blk.ne hgr2 hc (by decide) rfl)
              have evW : Evt (fun _ => False) w w9 := Evt.next ev9 (Evt.next hev (Evt.next evBS evB (fun _ _ h => h)) (fun _ _ h => h)) (fun j hj hh => by have h' : j = gr := hh; omega)
              have hoB9 := own_evt (Evt.next ev9 (hev.mono fun _ _ h => h.elim) (fun _ _ h => h)) hoBS (fun k hk hh => by
                obtain ⟨cur, hc⟩ := own_typ hoBS k hk
                have h' : k = gr := hh
                subst h'
                exact Blk.ne (hgrS) hc (by decide) rfl)
              exact ⟨V', d', fs, rfl, hpp, NtG.own ho9 (fun k hk => by have := hnw k hk; omega) (fun m hm => by
                rcases hmem m hm with h1 | rfl
                · exact (h.bod m h1).gn evW
                · exact RG.own hoB9 (fun k hk => .inr ⟨by have := hnB k hk; omega, own_lt hoB9 k hk⟩)), evW⟩
    · have hnm : nid ∈ idsP (rs.map ntP) := by
        rw [hids]
        exact of_decide_eq_true hq
      have hadd : addP (rs.map ntP) nid body now = (rs.map ntP, 110) := by rw [addP, if_neg h1, if_pos hnm]
      rw [hadd]
      refine stop_go ?_
      repeat' (first | (go_at_call 47; refine (holds_r A c _ rs nid _ (h.nt.up (by exact eqq)) rfl (by omega)).mono ?_; rw [hq]; rintro e wH ⟨rfl, evH⟩; have zH_ := evH.size; refine ⟨_, rfl, ?_⟩; (conv => arg 5; simp only [zA, zB, ev, lget, zC, zD, zE, zF, zG, zH, zI, zJ, zK, zL, zM, zN, zO])) | (with_reducible (first | refine' wp_seq ?_ | refine' wp_region_lit ?_ | refine' wpList_nil ?_ | refine' then_normal ?_ | refine' wp_ret ?_ | refine' wp_skip ?_ | refine' then_ret ?_)) | ((with_reducible refine' c_condT ?hx ?_); (case hx => rfl)) | ((with_reducible refine' c_condF ?hx ?_); (case hx => rfl)) | ((with_reducible refine' b_retN ?hr ?h2 ?ha ?_); (case hr => rfl); (case h2 => decide); (case ha => first | exact ra_nil | ((first | ((with_reducible refine' ra_tmp ?rv2 ?rh2); (case rv2 => ((try simp only [ev, lget]); (try rfl)))) | ((with_reducible refine' ra_cell ?rp2 ?rt2 ?rq2 ?rn2 ?rh2); (case rp2 => rfl); (case rt2 => infer_instance); (case rq2 => exact bqq); (case rn2 => rfl))); (case rh2 => first | exact ra_nil | ((first | ((with_reducible refine' ra_tmp ?rv1 ?rh1); (case rv1 => ((try simp only [ev, lget]); (try rfl)))) | ((with_reducible refine' ra_cell ?rp1 ?rt1 ?rq1 ?rn1 ?rh1); (case rp1 => rfl); (case rt1 => infer_instance); (case rq1 => exact bqq); (case rn1 => rfl))); (case rh1 => first | exact ra_nil)))))) | ((with_reducible refine' l_step ?_); (first | ((first | (with_reducible refine' g_move ?_) | (with_reducible refine' g_assign ?_) | ((with_reducible refine' g_loadS ?hx ?hb ?hn ?_); (case hx => rfl); (case hb => exact bqq); first | (case hc => rfl) | (case hn => simp only [List.length_cons, List.length_nil]; omega))); (conv => arg 5; simp only [zA, zB, ev, lget, zC, zD, zE, zF, zG, zH, zI, zJ, zK, zL, zM, zN, zO])) | (((with_reducible refine' g_lss ?hx ?hy (fun _ => ?_) (fun _ => ?_)); (case hx => rfl)); (case hy => rfl); all_goals (first | (exfalso; omega) | (conv => arg 5; simp only [zA, zB, ev, lget, zC, zD, zE, zF, zG, zH, zI, zJ, zK, zL, zM, zN, zO]))))) | ((first | ((with_reducible refine' e_storeB ?hx ?hy ?hv ?h1 ?hb ?ho ?_); (case hx => rfl); (case hy => ((try simp only [ev, lget]); (try rfl))); (case hv => rfl); (case h1 => rfl)) | ((with_reducible refine' e_storeR ?hx ?hy ?h1 ?hb ?hn ?ho ?_); (case hx => rfl); (case hy => rfl); (case h1 => simp [Value.oneCell']); (case hn => rfl))); (case hb => exact bqq); (case ho => first | (simp only [List.length_cons, List.length_nil]; omega) | omega | (simp; omega) | simp); (try simp only [splice, zA, zB]); intro _ _ _ _) | ((with_reducible refine' l_call TFn.ent ?ha ?_); (case ha => simp only [zC, zD, ev, lget]; (try rfl))))
      rename_i w9 hg9 ev9 z9
      have evW : Evt (fun _ => False) w w9 := Evt.next ev9 (Evt.next evH evB (fun _ _ h => h)) (fun j hj hh => by have h' : j = gr := hh; omega)
      exact ⟨A, c, rs, rfl, rfl, h.evt evW (fun _ _ _ h => h) (fun _ h => .inl h), evW⟩
end Go.Proofs.Ytchfkkliechgoaa
