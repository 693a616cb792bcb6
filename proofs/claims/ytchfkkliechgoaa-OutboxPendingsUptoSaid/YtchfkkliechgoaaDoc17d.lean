/- The document's Due. SHORT NORMX -/
import Derived.Test.YtchfkkliechgoaaDoc17b
namespace Go.Proofs.Ytchfkkliechgoaa
open Go.RowKit Go.Proofs.YtchfkkliechgoaaE
set_option linter.unusedSimpArgs false
set_option linter.unusedVariables false
set_option maxRecDepth 4000

theorem duePk_snoc (now : Int) (l : List Ep) (e : Ep) : duePk now (l ++ [e]) = duePk now l ++ (if e.nxt ≤ now then [(e.id, e.body)] else []) := by
  rw [duePk, List.filter_append, List.map_append]
  by_cases h : e.nxt ≤ now
  · rw [if_pos h, List.filter_cons_of_pos (by simpa using h)]
    rfl
  · rw [if_neg h, List.filter_cons_of_neg (by simpa using h)]
    rfl
theorem duePk_len (now : Int) (l : List Ep) : (duePk now l).length ≤ l.length := by
  rw [duePk, List.length_map]
  exact List.length_filter_le _ _
set_option maxHeartbeats 4000000 in
theorem refDue_r (G : Nat → Prop) (p : Pol) (Ap : Option Addr) (cp : Nat) (A : Option Addr) (c n : Nat) (rs : List Nt) (now : Int) (w : World) (hr : RI w Ap p.hs) (h : NtG w G A rs) (hn : rs.length = n) (hl : n ≤ 1000000000000) (hnow : -9223372036854775808 ≤ now ∧ now ≤ 9223372036854775807) (hat : ∀ m ∈ rs, 0 ≤ m.att ∧ m.att ≤ 1000000000000) (hbls : ∀ m ∈ rs, m.b.body.length ≤ 140737488351232) :
    Calls Try.prog 41 #[.agg (polC p Ap cp).toArray, .agg #[.slice A n c], .int .i64 now] w fun e w' => ∃ A' c' rs' V d ks, e = .returned (.tuple #[.agg #[.slice A' (rs' : List Nt).length c'], .slice V (ks : List Pk).length d]) ∧ rs'.map ntP = (rs.map ntP).map (duP p now) ∧ ks.map pkP = duePk now (rs.map ntP) ∧ NtG w' (Gn G w w') A' rs' ∧ PkG w' (Gn G w w') V ks ∧ Evt (fun _ => False) w w' := by
  subst hn
  go_enter Try.func41, Try.ntmps41
  repeat' (first | (with_reducible refine' stop_reg (id := 1) ?_) | (with_reducible (first | refine' wp_seq ?_ | refine' wp_region_lit ?_ | refine' wpList_nil ?_ | refine' then_normal ?_)) | ((with_reducible refine' l_step ?_); ((with_reducible refine' g_assign ?_); (conv => arg 5; simp only [zA, zB, ev, lget, zC, zD, zE, zF, zG, zH, zI, zJ, zK, zL, zM, zN, zO]))) | ((first | ((with_reducible refine' e_boxA ?hx ?_); (case hx => rfl)) | ((with_reducible refine' e_alloc ?hx ?_); (case hx => rfl))); intro _ _ _ _ _ _ _; (conv => arg 5; simp only [zA, zB, ev, lget, zC, zD, zE, zF, zG, zH, zI, zJ, zK, zL, zM, zN, zO])))
  rename_i gP wa p1 p2 hgP eva za_ gX wb p3 p4 hgX evb zb_ gR wB p5 p6 hgR evc zc_
  have evB : Evt (fun _ => False) w wB := Evt.next evc (Evt.next evb eva (fun _ _ h => h)) (fun _ _ h => h)
  have hgPB : Blk wB gP 24 (polC p Ap cp) := (hgP.evt evb (fun h => h)).evt evc (fun h => h)
  have hgXB := hgX.evt evc (fun h => h)
  have hB := h.nt.up evB
  have hrB := hr.up evB
  clear hgP hgX eva evb evc
  refine stop_go ?_
  repeat' (first | (with_reducible (first | refine' wp_seq ?_ | refine' wp_region_lit ?_ | refine' wpList_nil ?_ | refine' then_normal ?_ | refine' wp_block ?_)) | ((with_reducible refine' l_step ?_); ((with_reducible refine' g_assign ?_); (conv => arg 5; simp only [zA, zB, ev, lget, zC, zD, zE, zF, zG, zH, zI, zJ, zK, zL, zM, zN, zO]))))
  refine' s_loop [8, 9, 10, 11, 12, 13, 14, 15, 16, 17, 18, 19, 20, 21, 22, 23, 24, 25, 26, 27, 28, 29, 30, 31, 32, 33, 34, 35, 36, 37, 38, 39, 40, 41, 42, 43, 44, 45, 46, 47, 48, 49, 50, 51] (fun n u w' => ∃ (i : Nat) (V : Option Addr) (d : Nat) (fs : List Nt) (VK : Option Addr) (dK : Nat) (ks : List Pk), n = rs.length - i ∧ i ≤ rs.length ∧ u 10 = .int .i64 i ∧ u 8 = .slice V fs.length d ∧ u 9 = .slice VK ks.length dK ∧ fs.length = i ∧ ks.length ≤ i ∧ fs.map ntP = ((rs.take i).map ntP).map (duP p now) ∧ ks.map pkP = duePk now ((rs.take i).map ntP) ∧ (∀ m ∈ fs, ∃ x ∈ rs, m.b = x.b) ∧
      w'.ownsRow 0 53 4 (.slice V fs.length d) fs.length (ntCs fs) ∧ (∀ k, (Value.slice V fs.length d).ownBlock = some k → wB.heap.size ≤ k) ∧ w'.ownsRow 0 50 3 (.slice VK ks.length dK) ks.length (pkCs ks) ∧ (∀ k, (Value.slice VK ks.length dK).ownBlock = some k → wB.heap.size ≤ k) ∧ OB w' wB.heap.size (ks.map (·.b)) ∧ Evt (fun _ => False) wB w') rs.length ?h0 ?round
  case h0 => exact ⟨0, none, 0, [], none, 0, [], rfl, by omega, rfl, rfl, rfl, rfl, by simp, rfl, rfl, by simp, World.ownsRow_nil _ _ _ _, by simp [Value.ownBlock], World.ownsRow_nil _ _ _ _, by simp [Value.ownBlock], OB.nil, Evt.refl _ _⟩
  case round =>
    rintro n u w2 ⟨i, V, d, fs, VK, dK, ks, rfl, hi, h10, h8, h9, hfl, hkl, hfp, hkp, hfb, hoF, hnF, hoK, hnK, hOB, hev⟩
    simp only [setW, List.foldl_cons, List.foldl_nil, List.set_cons_succ, List.set_cons_zero]
    simp only [h10, h8, h9]
    have hz := hev.size
    have hgP2 := hgPB.evt hev (fun h => h)
    have hgX2 := hgXB.evt hev (fun h => h)
    have hgR2 := hgR.evt hev (fun h => h)
    by_cases hlt : i < rs.length
    · obtain ⟨b, o, rfl, hcellE⟩ := (hB.up hev).at_ hlt
      have hrx0 := (hB.up hev).bod rs[i] (List.getElem_mem hlt)
      have hrP0 := hrB.up hev
      have htx : (rs.take (i + 1)).map ntP = (rs.take i).map ntP ++ [ntP rs[i]] := by rw [List.take_succ_eq_append_getElem hlt, List.map_append]; rfl
      have hds := duePk_snoc now ((rs.take i).map ntP) (ntP rs[i])
      have hxm := List.getElem_mem hlt
      have hatx := hat _ hxm
      have hbl := hbls _ hxm
      have hltF := own_lt hoF
      have hltK := own_lt hoK
      clear hgPB hgXB hgR hB hrB
      generalize rs[i] = x at *
      have hbk := back_rng p (x.att + 1)
      repeat' (first | (with_reducible refine' stop_reg (id := 7) ?_) | (with_reducible (first | refine' wp_seq ?_ | refine' wp_region_lit ?_ | refine' wpList_nil ?_ | refine' then_normal ?_ | refine' wp_block ?_ | refine' wp_skip ?_)) | ((with_reducible refine' c_condT ?hx ?_); (case hx => rfl)) | ((with_reducible refine' l_step ?_); (first | ((first | (with_reducible refine' g_move ?_) | ((with_reducible refine' g_fieldAddr ?hx ?ho ?_); (case hx => rfl); (case ho => rfl)) | ((first | (with_reducible refine' g_loadB ?hx ?hb ?hc ?_) | (with_reducible refine' g_loadS ?hx ?hb ?hn ?_)); (case hx => rfl); (case hb => exact bqq); first | (case hc => rfl) | (case hn => simp only [List.length_cons, List.length_nil]; omega)) | ((with_reducible refine' g_loadR ?hx ?hn ?hc ?_); (case hx => rfl); (case hc => first | exact hcellE _ (by exact eqq) | exact hcellF _ (by exact eqq)); (case hn => rfl)) | ((with_reducible refine' g_lenS ?hx ?_); (case hx => rfl)) | ((with_reducible refine' g_indexAddr ?hx ?hy ?h0 ?h1 ?_); (case hx => rfl); (case hy => rfl); (case h0 => omega); (case h1 => omega))); (conv => arg 5; simp only [zA, zB, ev, lget, zC, zD, zE, zF, zG, zH, zI, zJ, zK, zL, zM, zN, zO])) | (((with_reducible refine' g_lss ?hx ?hy (fun _ => ?_) (fun _ => ?_)); (case hx => rfl)); (case hy => rfl); all_goals (first | (exfalso; omega) | (conv => arg 5; simp only [zA, zB, ev, lget, zC, zD, zE, zF, zG, zH, zI, zJ, zK, zL, zM, zN, zO]))))) | (((with_reducible refine' e_alloc ?hx ?_); (case hx => rfl)); intro _ _ _ _ _ _ _; (conv => arg 5; simp only [zA, zB, ev, lget, zC, zD, zE, zF, zG, zH, zI, zJ, zK, zL, zM, zN, zO])) | ((first | ((with_reducible refine' e_storeB ?hx ?hy ?hv ?h1 ?hb ?ho ?_); (case hx => rfl); (case hy => ((try simp only [ev, lget]); (try rfl))); (case hv => rfl); (case h1 => rfl)) | ((with_reducible refine' e_storeR ?hx ?hy ?h1 ?hb ?hn ?ho ?_); (case hx => rfl); (case hy => rfl); (case h1 => simp [Value.oneCell']); (case hn => rfl))); (case hb => exact bqq); (case ho => first | (simp only [List.length_cons, List.length_nil]; omega) | omega | (simp; omega) | simp); (try simp only [splice, zA, zB]); intro _ _ _ _))
      rename_i gE we q1 q2 hE0 evE0 zE0_ wE hE evE zE_
      have evE2 : Evt (fun _ => False) w2 wE := Evt.next evE evE0 (fun j hj hh => by have h' : j = gE := hh; omega)
      have zE2 := evE2.size
      clear hE0 hcellE
      refine stop_go ?_
      by_cases hdue : x.nxt ≤ now
      · have hrP : ∀ w', Evt (fun k => k = gE) wE w' → RI w' Ap p.hs := fun w' he => hrP0.up (Evt.next he evE2 (fun j hj hh => by have h' : j = gE := hh; omega))
        repeat' (first | (with_reducible refine' stop_reg (id := 8) ?_) | (with_reducible (first | refine' wp_seq ?_ | refine' wp_region_lit ?_ | refine' wpList_nil ?_ | refine' then_normal ?_)) | ((with_reducible refine' c_condT ?hx ?_); (case hx => rfl)) | ((with_reducible refine' l_step ?_); (first | ((first | (with_reducible refine' g_move ?_) | ((with_reducible refine' g_fieldAddr ?hx ?ho ?_); (case hx => rfl); (case ho => rfl)) | ((with_reducible refine' g_loadB ?hx ?hb ?hc ?_); (case hx => rfl); (case hb => exact bqq); first | (case hc => rfl) | (case hn => simp only [List.length_cons, List.length_nil]; omega))); (conv => arg 5; simp only [zA, zB, ev, lget, zC, zD, zE, zF, zG, zH, zI, zJ, zK, zL, zM, zN, zO])) | (((with_reducible refine' g_leq ?hx ?hy (fun _ => ?_) (fun _ => ?_)); (case hx => rfl)); (case hy => rfl); all_goals (first | (exfalso; omega) | (conv => arg 5; simp only [zA, zB, ev, lget, zC, zD, zE, zF, zG, zH, zI, zJ, zK, zL, zM, zN, zO]))))))
        refine stop_go ?_
        repeat' (first | (go_at_call 50; refine (refBackoff_any p Ap cp (x.att + 1) _ (hrP _ (by exact eqq)) (by omega)).mono ?_; rintro e wK ⟨rfl, evK⟩; have zK_ := evK.size; refine ⟨_, rfl, ?_⟩; (conv => arg 5; simp only [zA, zB, ev, lget, zC, zD, zE, zF, zG, zH, zI, zJ, zK, zL, zM, zN, zO])) | (go_at_call 49; refine (later_r now (backP p (x.att + 1)) _ hnow hbk).mono ?_; rintro e wL ⟨rfl, evL⟩; have zL_ := evL.size; refine ⟨_, rfl, ?_⟩; (conv => arg 5; simp only [zA, zB, ev, lget, zC, zD, zE, zF, zG, zH, zI, zJ, zK, zL, zM, zN, zO])) | (with_reducible refine' stop_reg (id := 10) ?_) | (with_reducible (first | refine' wp_seq ?_ | refine' wp_region_lit ?_ | refine' wpList_nil ?_ | refine' then_normal ?_)) | ((with_reducible refine' l_step ?_); ((first | (with_reducible refine' g_move ?_) | ((with_reducible refine' g_fieldAddr ?hx ?ho ?_); (case hx => rfl); (case ho => rfl)) | ((first | (with_reducible refine' g_loadB ?hx ?hb ?hc ?_) | (with_reducible refine' g_loadS ?hx ?hb ?hn ?_)); (case hx => rfl); (case hb => exact bqq); first | (case hc => rfl) | (case hn => simp only [List.length_cons, List.length_nil]; omega)) | ((with_reducible refine' g_addN ?hx ?hy ?h0 ?h1 ?_); (case hx => rfl); (case hy => rfl); (case h0 => omega); (case h1 => omega))); (conv => arg 5; simp only [zA, zB, ev, lget, zC, zD, zE, zF, zG, zH, zI, zJ, zK, zL, zM, zN, zO]))) | ((first | ((with_reducible refine' e_storeB ?hx ?hy ?hv ?h1 ?hb ?ho ?_); (case hx => rfl); (case hy => ((try simp only [ev, lget]); (try rfl))); (case hv => rfl); (case h1 => rfl)) | ((with_reducible refine' e_storeR ?hx ?hy ?h1 ?hb ?hn ?ho ?_); (case hx => rfl); (case hy => rfl); (case h1 => simp [Value.oneCell']); (case hn => rfl))); (case hb => exact bqq); (case ho => first | (simp only [List.length_cons, List.length_nil]; omega) | omega | (simp; omega) | simp); (try simp only [splice, zA, zB]); intro _ _ _ _) | ((with_reducible refine' l_call TFn.ent ?ha ?_); (case ha => simp only [zC, zD, ev, lget]; (try rfl))))
        rename_i w8 h8' ev8 z8 w9 h9' ev9 z9
        have evE9 : Evt (fun k => k = gE) wE w9 := Evt.next ev9 (Evt.next (evL.mono fun _ _ h => h.elim) (Evt.next (evK.mono fun _ _ h => h.elim) ev8 (fun _ _ h => h)) (fun _ _ h => h)) (fun _ _ h => h)
        have ev29 : Evt (fun _ => False) w2 w9 := Evt.next evE9 evE2 (fun j hj hh => by have h' : j = gE := hh; omega)
        have hrx : ∀ w', Evt (fun _ => False) w9 w' → RC w' x.b.A (u8s x.b.body) := fun w' he => hrx0.up (Evt.next he ev29 (fun _ _ h => h))
        have hoF9 := own_evt ev29 hoF (fun _ _ h => h)
        have hoK9 := own_evt ev29 hoK (fun _ _ h => h)
        have hOB9 : OB w9 wB.heap.size (ks.map (·.b)) := hOB.evt ev29 (fun _ _ _ _ h => h) (Nat.le_refl _)
        have k2 : ∀ w', Evt (fun _ => False) w2 w' → Blk w' gR 63 [.slice none 0 0] := fun w' he => hgR2.evt he (fun h => h)
        have z29 := ev29.size
        clear h8' hE evE hrP hrP0 hoF hoK hOB hgP2 hgX2 hgR2 evK evL ev8 ev9
        refine stop_go ?_
        have hltK9 := own_lt hoK9
        have hltF9 := own_lt hoF9
        have hgK : ¬ (Value.slice VK ks.length dK).ownBlock = some gE := fun hh => by have := hltK gE hh; omega
        repeat' (first | ((with_reducible refine' w_tree (id := 10) (fun k => (Value.slice VK ks.length dK).ownBlock = some k) (.pure 0 (.pure 1 (.pure 2 (.pure 3 (.pure 4 (.one 5 (.pure 6 (.one 7 (.one 8 (.pure 9 .done)))))))))) [9, 39, 40, 41, 42, 43, 44, 45, 46, 47] (fun u w' => ∃ VB dB VA dA, u 9 = .slice VA (ks.length + 1) dA ∧ w'.ownsRow 0 50 3 (.slice VA (ks.length + 1) dA) (ks.length + 1) (pkCs (ks ++ [⟨x.id, ⟨x.b.body, VB, dB⟩⟩])) ∧ (∀ k, (Value.slice VA (ks.length + 1) dA).ownBlock = some k → wB.heap.size ≤ k) ∧ w'.ownsRow 0 5 1 (.slice VB x.b.body.length dB) x.b.body.length (u8s x.b.body) ∧ (∀ k, (Value.slice VB x.b.body.length dB).ownBlock = some k → w9.heap.size ≤ k)) ?hm ?hn ?hl ?hB ?ta10 ?tb10); (case hm => kernel_rfl); (case hn => kernel_rfl); (case hl => kernel_rfl); (case hB => kernel_rfl); intro _ _ _) | ((with_reducible refine' tt_pure ?hi ?hv ?_); (case hi => rfl); (case hv => intro _ hqS; have hqz := hqS.size; (first | ((first | (with_reducible refine' g_move ?_) | (with_reducible refine' g_assign ?_) | ((with_reducible refine' g_fieldAddr ?hx ?ho ?_); (case hx => rfl); (case ho => rfl)) | ((with_reducible refine' g_loadB ?hx ?hb ?hc ?_); (case hx => rfl); (case hb => exact bqq); first | (case hc => rfl) | (case hn => simp only [List.length_cons, List.length_nil]; omega))); exact rfl) | ((with_reducible refine' g_build ?hl ?hp ?hs ?_); (case hl => rfl); (case hp => rfl); (case hs => rfl); exact rfl))); (conv => arg 6; simp only [zA, zB, ev, lget, zC, zD, zE, zF, zG, zH, zI, zJ, zK, zL, zM, zN, zO, fillL, splice, List.getD_cons_zero, List.getD_cons_succ, Value.cells])) | ((with_reducible refine' tt_one ?hi ?_); (case hi => rfl)) | ((with_reducible refine' tt_done ?hS ?_); (case hS => exact eqq)) | (with_reducible refine' tt_nil ?_) | (go_at_call 48; refine (copied_r x.b.A x.b.c _ x.b.body _ (hrx _ (by exact eqq)) rfl hbl).mono ?_; rintro e wC ⟨VB, dB, rfl, hoB, hnB, evC⟩; have zC_ := evC.size; refine ⟨_, rfl, ?_⟩; (conv => arg 5; simp only [zA, zB, ev, lget, zC, zD, zE, zF, zG, zH, zI, zJ, zK, zL, zM, zN, zO])) | (((with_reducible refine' e_append ?hx ?hy ?hzs ?hsz ?hown ?hl ?hnews ?h1 ?hb ?hm ?_); (case hx => ((try simp only [ev, lget]); (try rfl))); (case hy => rfl); (case hzs => rfl); (case hsz => decide); (case hown => exact oqq); (case hnews => refine' blk_src ?hbb; (case hbb => exact bqq)); (case hl => rfl); (case h1 => simp [Value.oneCell']); (case hb => omega); (case hm => omega); intro vA wA hoA heA hnA haA hzA; (conv => arg 5; simp only [zA, zB, ev, lget, zC, zD, zE, zF, zG, zH, zI, zJ, zK, zL, zM, zN, zO])); have hlA := own_lt hoA; obtain ⟨VA, dA, hVA⟩ := own_slice hoA; subst hVA) | (with_reducible refine' wpList_nil ?_) | (((with_reducible refine' e_sliceLit ?hx ?hi ?hv ?hn ?_); (case hx => simp only [zC, zD, ev, lget]; (try rfl)); (case hi => rfl); (case hv => simp [Value.cells]); (case hn => decide); simp only [List.flatMap_cons, List.flatMap_nil, Value.cells, List.cons_append, List.nil_append]); intro _ _ _ _ _ _ _; (conv => arg 5; simp only [zA, zB, ev, lget, zC, zD, zE, zF, zG, zH, zI, zJ, zK, zL, zM, zN, zO])) | ((with_reducible refine' l_call TFn.ent ?ha ?_); (case ha => simp only [zC, zD, ev, lget]; (try rfl))))
        all_goals try (rename_i wd evd zd_ g1 wP p7 p8 hbP evP zP; exact ⟨_, rfl, by simp only [setW, List.foldl_cons, List.foldl_nil, List.set_cons_succ, List.set_cons_zero], VB, dB, VA, dA, rfl, by rw [pkCs_snoc]; exact hoA, new_low haA hnK (by omega), own_evt heA (own_evt evP hoB (fun _ _ h => h)) (fun k hk hh => by have h1 := hnB k hk; have h2 := hltK9 k hh; omega), fun k hk => by have h1 := hnB k hk; omega⟩)
        rintro u9 wX evX zX_ ⟨VB, dB, VK', dK', h9u, hoKA, hnKA, hoBX, hnB⟩
        simp only [setW, List.foldl_cons, List.foldl_nil, List.set_cons_succ, List.set_cons_zero]
        simp only [h9u]
        have hOBX : OB wX wB.heap.size (ks.map (·.b)) := hOB9.evt evX (fun k cur hk _ hh => by obtain ⟨cur', hc⟩ := own_typ hoK9 k hh; exact Blk.ne hk hc (by decide) rfl) (Nat.le_refl _)
        have hOBS := hOBX.snoc (m := ⟨x.b.body, VB, dB⟩) (B := w9.heap.size) (fun y hy k hk => hOB9.lt y hy k hk) hoBX (fun k hk => by have h1 := hnB k hk; exact ⟨by omega, h1⟩)
        have hoFA := own_evt evX hoF9 (fun k hk hh => by
          obtain ⟨cur, hc⟩ := own_typ hoF9 k hk
          obtain ⟨cur', hc'⟩ := own_typ hoK9 k hh
          exact Blk.ne hc hc' (by decide) rfl)
        have hE9A := h9'.evt evX hgK
        have ev2X : Evt (fun k => (Value.slice VK ks.length dK).ownBlock = some k) w2 wX := Evt.next evX (ev29.mono fun _ _ h => h.elim) (fun _ _ h => h)
        have evBX : Evt (fun _ => False) wB wX := Evt.next ev2X hev (fun j hj hh => by have := hnK j hh; omega)
        have hltFA := own_lt hoFA
        have hzBX := evBX.size
        clear evX h9' hoF9 hOB9 hOBX hoBX hoK9 hrx evE9 ev29 evE2 evE0 hev ev2X hrx0
        refine stop_go ?_
        repeat' (first | (((with_reducible refine' e_append ?hx ?hy ?hzs ?hsz ?hown ?hl ?hnews ?h1 ?hb ?hm ?_); (case hx => ((try simp only [ev, lget]); (try rfl))); (case hy => rfl); (case hzs => rfl); (case hsz => decide); (case hown => exact oqq); (case hnews => refine' blk_src ?hbb; (case hbb => exact bqq)); (case hl => rfl); (case h1 => simp [Value.oneCell']); (case hb => omega); (case hm => omega); intro vA wA hoA heA hnA haA hzA; (conv => arg 5; simp only [zA, zB, ev, lget, zC, zD, zE, zF, zG, zH, zI, zJ, zK, zL, zM, zN, zO])); have hlA := own_lt hoA; obtain ⟨VN, dN, hVN⟩ := own_slice hoA; subst hVN) | (with_reducible (first | refine' wp_region_lit ?_ | refine' wpList_nil ?_ | refine' then_normal ?_ | refine' in_normal ?_)) | ((with_reducible refine' l_step ?_); ((first | (with_reducible refine' g_move ?_) | (with_reducible refine' g_assign ?_) | ((with_reducible refine' g_loadS ?hx ?hb ?hn ?_); (case hx => rfl); (case hb => exact bqq); first | (case hc => rfl) | (case hn => simp only [List.length_cons, List.length_nil]; omega)) | ((with_reducible refine' g_addN ?hx ?hy ?h0 ?h1 ?_); (case hx => rfl); (case hy => rfl); (case h0 => omega); (case h1 => omega))); (conv => arg 5; simp only [zA, zB, ev, lget, zC, zD, zE, zF, zG, zH, zI, zJ, zK, zL, zM, zN, zO]))) | (((with_reducible refine' e_sliceLit ?hx ?hi ?hv ?hn ?_); (case hx => simp only [zC, zD, ev, lget]; (try rfl)); (case hi => rfl); (case hv => simp [Value.cells]); (case hn => decide); simp only [List.flatMap_cons, List.flatMap_nil, Value.cells, List.cons_append, List.nil_append]); intro _ _ _ _ _ _ _; (conv => arg 5; simp only [zA, zB, ev, lget, zC, zD, zE, zF, zG, zH, zI, zJ, zK, zL, zM, zN, zO])))
        rename_i gT wT p9 pA hbT evT zT_
        have evTA : Evt (fun k => (Value.slice V fs.length d).ownBlock = some k) wX wA := Evt.next heA (evT.mono fun _ _ h => h.elim) (fun _ _ h => h)
        have hoK' := own_evt evTA hoKA (fun k hk hh => by
          obtain ⟨cur, hc⟩ := own_typ hoKA k hk
          obtain ⟨cur', hc'⟩ := own_typ hoFA k hh
          exact Blk.ne hc hc' (by decide) rfl)
        have hOB' := hOBS.evt evTA (fun k cur hk _ hh => by obtain ⟨cur', hc⟩ := own_typ hoFA k hh; exact Blk.ne hk hc (by decide) rfl) (Nat.le_refl _)
        have hnF' := new_low (B := wB.heap.size) haA hnF (by omega)
        refine ⟨_, _, rfl, (by omega : rs.length - (i + 1) < rs.length - i), by simp only [zA, zB], i + 1, VN, dN, fs ++ [⟨x.id, x.att + 1, laterP now (backP p (x.att + 1)), x.b⟩], VK', dK', ks ++ [⟨x.id, ⟨x.b.body, VB, dB⟩⟩], rfl, by omega, rfl, by rw [List.length_append]; rfl, by rw [List.length_append]; rfl, by rw [List.length_append, hfl]; rfl, by rw [List.length_append]; simp only [List.length_cons, List.length_nil]; omega, ?_, ?_, ?_, ?_, ?_, ?_, ?_, ?_, Evt.next evTA evBX (fun j hj hh => by have := hnF j hh; omega)⟩
        · rw [List.map_append, hfp, htx, List.map_append]
          congr 1
          simp only [List.map_cons, List.map_nil, duP, ntP, sentP, if_pos hdue]
        · rw [List.map_append, hkp, htx, hds, if_pos (show (ntP x).nxt ≤ now from hdue)]
          rfl
        · intro m hm
          rcases List.mem_append.1 hm with h1 | h1
          · exact hfb m h1
          · rw [List.mem_singleton] at h1
            subst h1
            exact ⟨x, hxm, rfl⟩
        · rw [List.length_append, ntCs_snoc]
          exact hoA
        · rw [List.length_append]
          exact hnF'
        · rw [List.length_append]
          exact hoK'
        · rw [List.length_append]
          exact hnKA
        · rw [List.map_append]
          exact hOB'
      · have hfz : duP p now (ntP x) = ntP x := if_neg hdue
        rw [if_neg (show ¬ (ntP x).nxt ≤ now from hdue), List.append_nil] at hds
        have hoFE := own_evt evE2 hoF (fun _ _ h => h)
        have hoKE := own_evt evE2 hoK (fun _ _ h => h)
        have hOBE := hOB.evt (lo' := wB.heap.size) evE2 (fun _ _ _ _ h => h) (Nat.le_refl _)
        have evBE : Evt (fun _ => False) wB wE := Evt.next evE2 hev (fun _ _ h => h)
        have hltFE := own_lt hoFE
        clear evE hoF hoK hOB hgP2 hgX2 hgR2 evE2 hev evE0
        repeat' (first | (with_reducible refine' stop_reg (id := 11) ?_) | (with_reducible (first | refine' wp_region_lit ?_ | refine' wpList_nil ?_ | refine' then_normal ?_ | refine' wp_skip ?_)) | ((with_reducible refine' c_condF ?hx ?_); (case hx => rfl)) | ((with_reducible refine' l_step ?_); (first | ((first | (with_reducible refine' g_move ?_) | ((with_reducible refine' g_fieldAddr ?hx ?ho ?_); (case hx => rfl); (case ho => rfl)) | ((with_reducible refine' g_loadB ?hx ?hb ?hc ?_); (case hx => rfl); (case hb => exact bqq); first | (case hc => rfl) | (case hn => simp only [List.length_cons, List.length_nil]; omega))); (conv => arg 5; simp only [zA, zB, ev, lget, zC, zD, zE, zF, zG, zH, zI, zJ, zK, zL, zM, zN, zO])) | (((with_reducible refine' g_leq ?hx ?hy (fun _ => ?_) (fun _ => ?_)); (case hx => rfl)); (case hy => rfl); all_goals (first | (exfalso; omega) | (conv => arg 5; simp only [zA, zB, ev, lget, zC, zD, zE, zF, zG, zH, zI, zJ, zK, zL, zM, zN, zO]))))))
        refine stop_go ?_
        repeat' (first | (((with_reducible refine' e_append ?hx ?hy ?hzs ?hsz ?hown ?hl ?hnews ?h1 ?hb ?hm ?_); (case hx => ((try simp only [ev, lget]); (try rfl))); (case hy => rfl); (case hzs => rfl); (case hsz => decide); (case hown => exact oqq); (case hnews => refine' blk_src ?hbb; (case hbb => exact bqq)); (case hl => rfl); (case h1 => simp [Value.oneCell']); (case hb => omega); (case hm => omega); intro vA wA hoA heA hnA haA hzA; (conv => arg 5; simp only [zA, zB, ev, lget, zC, zD, zE, zF, zG, zH, zI, zJ, zK, zL, zM, zN, zO])); have hlA := own_lt hoA; obtain ⟨VN, dN, hVN⟩ := own_slice hoA; subst hVN) | (with_reducible (first | refine' wp_region_lit ?_ | refine' wpList_nil ?_ | refine' then_normal ?_ | refine' in_normal ?_)) | ((with_reducible refine' l_step ?_); ((first | (with_reducible refine' g_move ?_) | (with_reducible refine' g_assign ?_) | ((with_reducible refine' g_loadS ?hx ?hb ?hn ?_); (case hx => rfl); (case hb => exact bqq); first | (case hc => rfl) | (case hn => simp only [List.length_cons, List.length_nil]; omega)) | ((with_reducible refine' g_addN ?hx ?hy ?h0 ?h1 ?_); (case hx => rfl); (case hy => rfl); (case h0 => omega); (case h1 => omega))); (conv => arg 5; simp only [zA, zB, ev, lget, zC, zD, zE, zF, zG, zH, zI, zJ, zK, zL, zM, zN, zO]))) | (((with_reducible refine' e_sliceLit ?hx ?hi ?hv ?hn ?_); (case hx => simp only [zC, zD, ev, lget]; (try rfl)); (case hi => rfl); (case hv => simp [Value.cells]); (case hn => decide); simp only [List.flatMap_cons, List.flatMap_nil, Value.cells, List.cons_append, List.nil_append]); intro _ _ _ _ _ _ _; (conv => arg 5; simp only [zA, zB, ev, lget, zC, zD, zE, zF, zG, zH, zI, zJ, zK, zL, zM, zN, zO])))
        rename_i gT wT p9 pA hbT evT zT_
        have evTA : Evt (fun k => (Value.slice V fs.length d).ownBlock = some k) wE wA := Evt.next heA (evT.mono fun _ _ h => h.elim) (fun _ _ h => h)
        have hoK' := own_evt evTA hoKE (fun k hk hh => by
          obtain ⟨cur, hc⟩ := own_typ hoKE k hk
          obtain ⟨cur', hc'⟩ := own_typ hoFE k hh
          exact Blk.ne hc hc' (by decide) rfl)
        have hOB' := hOBE.evt (lo' := wB.heap.size) evTA (fun k cur hk _ hh => by obtain ⟨cur', hc⟩ := own_typ hoFE k hh; exact Blk.ne hk hc (by decide) rfl) (Nat.le_refl _)
        have hnF' := new_low (B := wB.heap.size) haA hnF (by omega)
        refine ⟨_, _, rfl, (by omega : rs.length - (i + 1) < rs.length - i), by simp only [zA, zB], i + 1, VN, dN, fs ++ [x], VK, dK, ks, rfl, by omega, rfl, by rw [List.length_append]; rfl, rfl, by rw [List.length_append, hfl]; rfl, by omega, ?_, ?_, ?_, ?_, ?_, hoK', hnK, hOB', Evt.next evTA evBE (fun j hj hh => by have := hnF j hh; omega)⟩
        · rw [List.map_append, hfp, htx, List.map_append]
          congr 1
          simp only [List.map_cons, List.map_nil, hfz]
        · rw [hkp, htx, hds]
        · intro m hm
          rcases List.mem_append.1 hm with h1 | h1
          · exact hfb m h1
          · rw [List.mem_singleton] at h1
            subst h1
            exact ⟨m, hxm, rfl⟩
        · rw [List.length_append, ntCs_snoc]
          exact hoA
        · rw [List.length_append]
          exact hnF'
    · have hi' : i = rs.length := by omega
      rw [hi', List.take_length] at hfp hkp
      clear hgP2 hgX2
      repeat' (first | (with_reducible (first | refine' wp_seq ?_ | refine' wp_region_lit ?_ | refine' wpList_nil ?_ | refine' then_normal ?_ | refine' wp_ret ?_ | refine' wp_exit ?_ | refine' then_exit ?_ | refine' in_exit ?_)) | ((with_reducible refine' c_condF ?hx ?_); (case hx => rfl)) | ((with_reducible refine' b_retN ?hr ?h2 ?ha ?_); (case hr => rfl); (case h2 => decide); (case ha => first | exact ra_nil | ((first | ((with_reducible refine' ra_tmp ?rv2 ?rh2); (case rv2 => ((try simp only [ev, lget]); (try rfl)))) | ((with_reducible refine' ra_cell ?rp2 ?rt2 ?rq2 ?rn2 ?rh2); (case rp2 => rfl); (case rt2 => infer_instance); (case rq2 => exact bqq); (case rn2 => rfl))); (case rh2 => first | exact ra_nil | ((first | ((with_reducible refine' ra_tmp ?rv1 ?rh1); (case rv1 => ((try simp only [ev, lget]); (try rfl)))) | ((with_reducible refine' ra_cell ?rp1 ?rt1 ?rq1 ?rn1 ?rh1); (case rp1 => rfl); (case rt1 => infer_instance); (case rq1 => exact bqq); (case rn1 => rfl))); (case rh1 => first | exact ra_nil)))))) | ((with_reducible refine' l_step ?_); (first | ((first | (with_reducible refine' g_move ?_) | (with_reducible refine' g_assign ?_) | ((with_reducible refine' g_fieldAddr ?hx ?ho ?_); (case hx => rfl); (case ho => rfl)) | ((with_reducible refine' g_loadB ?hx ?hb ?hc ?_); (case hx => rfl); (case hb => exact bqq); first | (case hc => rfl) | (case hn => simp only [List.length_cons, List.length_nil]; omega)) | ((with_reducible refine' g_lenS ?hx ?_); (case hx => rfl))); (conv => arg 5; simp only [zA, zB, ev, lget, zC, zD, zE, zF, zG, zH, zI, zJ, zK, zL, zM, zN, zO])) | (((with_reducible refine' g_lss ?hx ?hy (fun _ => ?_) (fun _ => ?_)); (case hx => rfl)); (case hy => rfl); all_goals (first | (exfalso; omega) | (conv => arg 5; simp only [zA, zB, ev, lget, zC, zD, zE, zF, zG, zH, zI, zJ, zK, zL, zM, zN, zO]))) | ((with_reducible refine' g_build ?hl ?hp ?hs ?_); (case hl => rfl); (case hp => rfl); (case hs => rfl); (conv => arg 5; simp only [zA, zB, ev, lget, zC, zD, zE, zF, zG, zH, zI, zJ, zK, zL, zM, zN, zO, fillL, splice, List.getD_cons_zero, List.getD_cons_succ, Value.cells])))) | ((first | ((with_reducible refine' e_storeB ?hx ?hy ?hv ?h1 ?hb ?ho ?_); (case hx => rfl); (case hy => ((try simp only [ev, lget]); (try rfl))); (case hv => rfl); (case h1 => rfl)) | ((with_reducible refine' e_storeR ?hx ?hy ?h1 ?hb ?hn ?ho ?_); (case hx => rfl); (case hy => rfl); (case h1 => simp [Value.oneCell']); (case hn => rfl))); (case hb => exact bqq); (case ho => first | (simp only [List.length_cons, List.length_nil]; omega) | omega | (simp; omega) | simp); (try simp only [splice, zA, zB]); intro _ _ _ _))
      rename_i w9 hg9 ev9 z9
      have hoF' := own_evt ev9 hoF (fun k hk hh => by
        obtain ⟨cur, hc⟩ := own_typ hoF k hk
        have h' : k = gR := hh
        subst h'
        exact Blk.ne hgR2 hc (by decide) rfl)
      have hoK' := own_evt ev9 hoK (fun k hk hh => by
        obtain ⟨cur, hc⟩ := own_typ hoK k hk
        have h' : k = gR := hh
        subst h'
        exact Blk.ne hgR2 hc (by decide) rfl)
      have hOB' := hOB.evt (lo' := wB.heap.size) ev9 (fun k cur hk _ hh => by
        have h' : k = gR := hh
        subst h'
        exact Blk.ne hgR2 hk (by decide) rfl) (Nat.le_refl _)
      have evW : Evt (fun _ => False) w w9 := Evt.next ev9 (Evt.next hev evB (fun _ _ h => h)) (fun j hj hh => by have h' : j = gR := hh; omega)
      refine ⟨V, d, fs, VK, dK, ks, rfl, hfp, hkp, NtG.own hoF' (fun k hk => by have := hnF k hk; omega) (fun m hm => ?_), ⟨RG.own hoK' (fun k hk => .inr ⟨by have := hnK k hk; omega, own_lt hoK' k hk⟩), fun m hm => ?_⟩, evW⟩
      · obtain ⟨x, hx, hxb⟩ := hfb m hm
        rw [hxb]
        exact (h.bod x hx).gn evW
      · have hm' : m.b ∈ ks.map (·.b) := List.mem_map.2 ⟨m, hm, rfl⟩
        exact RG.own (hOB'.own _ hm') (fun k hk => .inr ⟨by have := hOB'.low _ hm' k hk; omega, own_lt (hOB'.own _ hm') k hk⟩)
end Go.Proofs.Ytchfkkliechgoaa
