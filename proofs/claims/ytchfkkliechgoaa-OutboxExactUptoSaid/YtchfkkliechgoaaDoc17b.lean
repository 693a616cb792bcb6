/- The document's Ack. SHORT NORMX -/
import Derived.Test.YtchfkkliechgoaaDoc17
namespace Go.Proofs.Ytchfkkliechgoaa
open Go.RowKit Go.Proofs.YtchfkkliechgoaaE
set_option linter.unusedSimpArgs false
set_option linter.unusedVariables false
set_option maxRecDepth 4000

@[reducible] def rbC (A : Option Addr) (n c : Nat) : List Value := [.slice A n c]
theorem new_low {V VA : Option Addr} {n n' d dA s : Nat} {B : Nat} (haA : (Value.slice VA n' dA).ownBlock = (Value.slice V n d).ownBlock ∨ (Value.slice VA n' dA).ownBlock = some s) (hV : ∀ k, (Value.slice V n d).ownBlock = some k → B ≤ k) (hs : B ≤ s) : ∀ k, (Value.slice VA n' dA).ownBlock = some k → B ≤ k := by
  intro k hk
  rcases haA with h1 | h1
  · exact hV k (h1 ▸ hk)
  · rw [h1] at hk
    have := Option.some.inj hk
    omega
set_option maxHeartbeats 2000000 in
theorem ack_r (G : Nat → Prop) (A : Option Addr) (c n : Nat) (rs : List Nt) (nid : Int) (w : World) (h : NtG w G A rs) (hn : rs.length = n) (hl : n ≤ 1000000000000) :
    Calls Try.prog 40 #[.agg #[.slice A n c], .int .i64 nid] w fun e w' => ∃ A' c' rs', e = .returned (.tuple #[.agg #[.slice A' (rs' : List Nt).length c'], .bool (decide (nid ∈ rs.map (·.id)))]) ∧ rs'.map ntP = ackP (rs.map ntP) nid ∧ NtG w' (Gn G w w') A' rs' ∧ Evt (fun _ => False) w w' := by
  subst hn
  go_enter Try.func40, Try.ntmps40
  repeat' (first | (with_reducible refine' stop_reg (id := 1) ?_) | (with_reducible (first | refine' wp_seq ?_ | refine' wp_region_lit ?_ | refine' wpList_nil ?_ | refine' then_normal ?_)) | ((with_reducible refine' l_step ?_); ((with_reducible refine' g_assign ?_); (conv => arg 5; simp only [zA, zB, ev, lget, zC, zD, zE, zF, zG, zH, zI, zJ, zK, zL, zM, zN, zO]))) | ((first | ((with_reducible refine' e_boxA ?hx ?_); (case hx => rfl)) | ((with_reducible refine' e_alloc ?hx ?_); (case hx => rfl))); intro _ _ _ _ _ _ _; (conv => arg 5; simp only [zA, zB, ev, lget, zC, zD, zE, zF, zG, zH, zI, zJ, zK, zL, zM, zN, zO])))
  rename_i gp w1 c1 c2 hgp ev1 z1 gr wB c3 c4 hgr ev2 z2
  have evB : Evt (fun _ => False) w wB := Evt.next ev2 ev1 (fun _ _ h => h)
  have hgpB := hgp.evt ev2 (fun h => h)
  have hB := h.nt.up evB
  clear hgp
  refine stop_go ?_
  repeat' (first | (with_reducible (first | refine' wp_seq ?_ | refine' wp_region_lit ?_ | refine' wpList_nil ?_ | refine' then_normal ?_ | refine' wp_block ?_)) | ((with_reducible refine' l_step ?_); ((with_reducible refine' g_assign ?_); (conv => arg 5; simp only [zA, zB, ev, lget, zC, zD, zE, zF, zG, zH, zI, zJ, zK, zL, zM, zN, zO]))))
  refine' s_loop [6, 7, 8, 9, 10, 11, 12, 13, 14, 15, 16, 17, 18, 19, 20, 21, 22, 23, 24, 25, 26, 27, 28, 29, 30] (fun n u w' => ∃ (i : Nat) (V' : Option Addr) (d' : Nat) (fs : List Nt), n = rs.length - i ∧ i ≤ rs.length ∧ fs = (rs.take i).filter (fun k => decide (k.id ≠ nid)) ∧ u 7 = .int .i64 i ∧ u 6 = .slice V' fs.length d' ∧ w'.ownsRow 0 53 4 (.slice V' fs.length d') fs.length (ntCs fs) ∧ (∀ k, (Value.slice V' fs.length d').ownBlock = some k → wB.heap.size ≤ k) ∧ Evt (fun _ => False) wB w') rs.length ?h0 ?round
  case h0 => exact ⟨0, none, 0, [], rfl, by omega, rfl, rfl, rfl, World.ownsRow_nil _ _ _ _, by simp [Value.ownBlock], Evt.refl _ _⟩
  case round =>
    rintro n u w2 ⟨i, V', d', fs, rfl, hi, hfs, h7, h6, ho, hnw, hev⟩
    simp only [setW, List.foldl_cons, List.foldl_nil, List.set_cons_succ, List.set_cons_zero]
    simp only [h7, h6]
    have hz := hev.size
    have hgp2 := hgpB.evt hev (fun h => h)
    have hgr2 := hgr.evt hev (fun h => h)
    have hlf : fs.length ≤ i := by
      rw [hfs]
      have h1 := List.length_filter_le (fun k : Nt => decide (k.id ≠ nid)) (rs.take i)
      rw [List.length_take] at h1
      omega
    clear hgpB hgr
    by_cases hlt : i < rs.length
    · obtain ⟨b, o, rfl, hcellE⟩ := (hB.up hev).at_ hlt
      have htx : ∀ (q : Bool), decide (rs[i].id ≠ nid) = q → (rs.take (i + 1)).filter (fun k => decide (k.id ≠ nid)) = fs ++ (if q then [rs[i]] else []) := fun q hq => by
        rw [List.take_succ_eq_append_getElem hlt, List.filter_append, ← hfs]
        subst hq
        by_cases h1 : rs[i].id = nid <;> simp [h1]
      have hltO := own_lt ho
      clear hfs hB
      generalize rs[i] = x at *
      repeat' (first | (((with_reducible refine' e_append ?hx ?hy ?hzs ?hsz ?hown ?hl ?hnews ?h1 ?hb ?hm ?_); (case hx => ((try simp only [ev, lget]); (try rfl))); (case hy => rfl); (case hzs => rfl); (case hsz => decide); (case hown => exact oqq); (case hnews => refine' blk_src ?hbb; (case hbb => exact bqq)); (case hl => rfl); (case h1 => simp [Value.oneCell']); (case hb => omega); (case hm => omega); intro vA wA hoA heA hnA haA hzA; (conv => arg 5; simp only [zA, zB, ev, lget, zC, zD, zE, zF, zG, zH, zI, zJ, zK, zL, zM, zN, zO])); have hlA := own_lt hoA; obtain ⟨VA, dA, hVA⟩ := own_slice hoA; subst hVA) | (with_reducible (first | refine' wp_seq ?_ | refine' wp_region_lit ?_ | refine' wpList_nil ?_ | refine' then_normal ?_ | refine' wp_block ?_ | refine' wp_skip ?_ | refine' in_normal ?_)) | ((with_reducible refine' c_condT ?hx ?_); (case hx => rfl)) | ((with_reducible refine' c_condF ?hx ?_); (case hx => rfl)) | ((with_reducible refine' l_step ?_); (first | ((first | (with_reducible refine' g_move ?_) | (with_reducible refine' g_assign ?_) | ((with_reducible refine' g_fieldAddr ?hx ?ho ?_); (case hx => rfl); (case ho => rfl)) | ((first | (with_reducible refine' g_loadB ?hx ?hb ?hc ?_) | (with_reducible refine' g_loadS ?hx ?hb ?hn ?_)); (case hx => rfl); (case hb => exact bqq); first | (case hc => rfl) | (case hn => simp only [List.length_cons, List.length_nil]; omega)) | ((with_reducible refine' g_loadR ?hx ?hn ?hc ?_); (case hx => rfl); (case hc => first | exact hcellE _ (by exact eqq) | exact hcellF _ (by exact eqq)); (case hn => rfl)) | ((with_reducible refine' g_loadC ?hx ?hc ?_); (case hx => rfl); (case hc => first | exact hcellE _ (by exact eqq) 0 _ rfl | exact hcellE _ (by exact eqq) _ _ rfl | exact hcellF _ (by exact eqq) 0 _ rfl | exact hcellF _ (by exact eqq) _ _ rfl)) | ((with_reducible refine' g_addN ?hx ?hy ?h0 ?h1 ?_); (case hx => rfl); (case hy => rfl); (case h0 => omega); (case h1 => omega)) | ((with_reducible refine' g_lenS ?hx ?_); (case hx => rfl)) | ((with_reducible refine' g_indexAddr ?hx ?hy ?h0 ?h1 ?_); (case hx => rfl); (case hy => rfl); (case h0 => omega); (case h1 => omega))); (conv => arg 5; simp only [zA, zB, ev, lget, zC, zD, zE, zF, zG, zH, zI, zJ, zK, zL, zM, zN, zO])) | ((first | ((with_reducible refine' g_lss ?hx ?hy (fun _ => ?_) (fun _ => ?_)); (case hx => rfl)) | ((with_reducible refine' g_neq ?hx ?hy (fun _ => ?_) (fun _ => ?_)); (case hx => rfl))); (case hy => rfl); all_goals (first | (exfalso; omega) | (conv => arg 5; simp only [zA, zB, ev, lget, zC, zD, zE, zF, zG, zH, zI, zJ, zK, zL, zM, zN, zO]))))) | (((with_reducible refine' e_sliceLit ?hx ?hi ?hv ?hn ?_); (case hx => simp only [zC, zD, ev, lget]; (try rfl)); (case hi => rfl); (case hv => simp [Value.cells]); (case hn => decide); simp only [List.flatMap_cons, List.flatMap_nil, Value.cells, List.cons_append, List.nil_append]); intro _ _ _ _ _ _ _; (conv => arg 5; simp only [zA, zB, ev, lget, zC, zD, zE, zF, zG, zH, zI, zJ, zK, zL, zM, zN, zO])))
      · rename_i g1 w1' p1 p2 hb1 ev1' z1'
        have hxi : x.id ≠ nid := by assumption
        have ev2A : Evt (fun k => (Value.slice V' fs.length d').ownBlock = some k) w2 wA := by exact eqq
        refine ⟨_, _, rfl, (by omega : rs.length - (i + 1) < rs.length - i), by simp only [zA, zB], i + 1, VA, dA, fs ++ [x], rfl, by omega, (htx true (decide_eq_true hxi)).symm, rfl, by rw [List.length_append]; rfl, ?_, ?_, Evt.next ev2A hev (fun j hj hh => by have := hnw j hh; omega)⟩
        · rw [List.length_append, ntCs_snoc]
          exact hoA
        · rw [List.length_append]
          exact new_low haA hnw (by omega)
      · have hxi : ¬ x.id ≠ nid := fun hh => hh (by assumption)
        exact ⟨_, _, rfl, (by omega : rs.length - (i + 1) < rs.length - i), by simp only [zA, zB], i + 1, V', d', fs, rfl, by omega, by rw [htx false (decide_eq_false hxi)]; simp, rfl, rfl, ho, hnw, hev⟩
    · have hi' : i = rs.length := by omega
      subst hi'
      rw [List.take_length] at hfs
      have hpp : fs.map ntP = ackP (rs.map ntP) nid := by
        rw [hfs, ackP, List.filter_map]
        rfl
      have hbod : ∀ m ∈ fs, m ∈ rs := fun m hm => by
        rw [hfs] at hm
        exact (List.mem_filter.1 hm).1
      clear hfs
      repeat' (first | (go_at_call 47; refine (holds_r A c _ rs nid _ (h.nt.up (by exact eqq)) rfl (by omega)).mono ?_; rintro e wH ⟨rfl, evH⟩; have zH_ := evH.size; refine ⟨_, rfl, ?_⟩; (conv => arg 5; simp only [zA, zB, ev, lget, zC, zD, zE, zF, zG, zH, zI, zJ, zK, zL, zM, zN, zO])) | (with_reducible (first | refine' wp_seq ?_ | refine' wp_region_lit ?_ | refine' wpList_nil ?_ | refine' then_normal ?_ | refine' wp_ret ?_ | refine' wp_exit ?_ | refine' then_exit ?_ | refine' in_exit ?_)) | ((with_reducible refine' c_condF ?hx ?_); (case hx => rfl)) | ((with_reducible refine' b_retN ?hr ?h2 ?ha ?_); (case hr => rfl); (case h2 => decide); (case ha => first | exact ra_nil | ((first | ((with_reducible refine' ra_tmp ?rv2 ?rh2); (case rv2 => ((try simp only [ev, lget]); (try rfl)))) | ((with_reducible refine' ra_cell ?rp2 ?rt2 ?rq2 ?rn2 ?rh2); (case rp2 => rfl); (case rt2 => infer_instance); (case rq2 => exact bqq); (case rn2 => rfl))); (case rh2 => first | exact ra_nil | ((first | ((with_reducible refine' ra_tmp ?rv1 ?rh1); (case rv1 => ((try simp only [ev, lget]); (try rfl)))) | ((with_reducible refine' ra_cell ?rp1 ?rt1 ?rq1 ?rn1 ?rh1); (case rp1 => rfl); (case rt1 => infer_instance); (case rq1 => exact bqq); (case rn1 => rfl))); (case rh1 => first | exact ra_nil)))))) | ((with_reducible refine' l_step ?_); (first | ((first | (with_reducible refine' g_move ?_) | (with_reducible refine' g_assign ?_) | ((with_reducible refine' g_fieldAddr ?hx ?ho ?_); (case hx => rfl); (case ho => rfl)) | ((first | (with_reducible refine' g_loadB ?hx ?hb ?hc ?_) | (with_reducible refine' g_loadS ?hx ?hb ?hn ?_)); (case hx => rfl); (case hb => exact bqq); first | (case hc => rfl) | (case hn => simp only [List.length_cons, List.length_nil]; omega)) | ((with_reducible refine' g_lenS ?hx ?_); (case hx => rfl))); (conv => arg 5; simp only [zA, zB, ev, lget, zC, zD, zE, zF, zG, zH, zI, zJ, zK, zL, zM, zN, zO])) | (((with_reducible refine' g_lss ?hx ?hy (fun _ => ?_) (fun _ => ?_)); (case hx => rfl)); (case hy => rfl); all_goals (first | (exfalso; omega) | (conv => arg 5; simp only [zA, zB, ev, lget, zC, zD, zE, zF, zG, zH, zI, zJ, zK, zL, zM, zN, zO]))) | ((with_reducible refine' g_build ?hl ?hp ?hs ?_); (case hl => rfl); (case hp => rfl); (case hs => rfl); (conv => arg 5; simp only [zA, zB, ev, lget, zC, zD, zE, zF, zG, zH, zI, zJ, zK, zL, zM, zN, zO, fillL, splice, List.getD_cons_zero, List.getD_cons_succ, Value.cells])))) | ((first | ((with_reducible refine' e_storeB ?hx ?hy ?hv ?h1 ?hb ?ho ?_); (case hx => rfl); (case hy => ((try simp only [ev, lget]); (try rfl))); (case hv => rfl); (case h1 => rfl)) | ((with_reducible refine' e_storeR ?hx ?hy ?h1 ?hb ?hn ?ho ?_); (case hx => rfl); (case hy => rfl); (case h1 => simp [Value.oneCell']); (case hn => rfl))); (case hb => exact bqq); (case ho => first | (simp only [List.length_cons, List.length_nil]; omega) | omega | (simp; omega) | simp); (try simp only [splice, zA, zB]); intro _ _ _ _) | ((with_reducible refine' l_call TFn.ent ?ha ?_); (case ha => simp only [zC, zD, ev, lget]; (try rfl))))
      rename_i w9 hg9 ev9 z9
      have e29 : Evt (fun k => k = gr) w2 w9 := Evt.next ev9 (evH.mono fun _ _ h => h.elim) (fun _ _ h => h)
      have ho9 := own_evt e29 ho (fun k hk hh => by
        obtain ⟨cur, hc⟩ := own_typ ho k hk
        have h' : k = gr := hh
        subst h'
        exact Blk.ne hgr2 hc (by decide) rfl)
      have evW : Evt (fun _ => False) w w9 := Evt.next e29 (Evt.next hev evB (fun _ _ h => h)) (fun j hj hh => by have h' : j = gr := hh; omega)
      exact ⟨V', d', fs, rfl, hpp, NtG.own ho9 (fun k hk => by have := hnw k hk; omega) (fun m hm => (h.bod m (hbod m hm)).gn evW), evW⟩
end Go.Proofs.Ytchfkkliechgoaa
