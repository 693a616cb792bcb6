/- The outbox: Due. SHORT NORMX -/
import Derived.Test.YtchfkkliechgoaaBox17e
namespace Go.Proofs.Ytchfkkliechgoaa
open Go.RowKit Go.Proofs.YtchfkkliechgoaaE
set_option linter.unusedSimpArgs false
set_option linter.unusedVariables false
set_option maxRecDepth 4000

set_option maxHeartbeats 4000000 in
theorem due_any (w : World) (F : Nat → Prop) (gb n : Nat) (p : Pol) (L : List En) (now : Int) (h0 : BoxAt w F gb p n L) (hl : L.length ≤ 1000000000000) (hn : n < 1000000000000) (hnow : -9223372036854775808 ≤ now ∧ now ≤ 9223372036854775807) :
    Calls Try.prog 18 #[.pointer (some ⟨gb, 0, none⟩), .int .i64 now] w fun e w' => ∃ V d ks, e = .returned (.slice V (ks : List Pk).length d) ∧ BoxAt w' F gb p (n + 1) (L.map (dueE p now)) ∧ ks.map pkP = dueL now L ∧ w'.ownsRow 0 50 3 (.slice V ks.length d) ks.length (pkCs ks) ∧ (∀ k, (Value.slice V ks.length d).ownBlock = some k → w.heap.size ≤ k) ∧ OB w' w.heap.size (ks.map (·.b)) ∧ Evt F w w' := by
  obtain ⟨A, c, mp, h⟩ := h0
  go_enter Try.func18, Try.ntmps18
  repeat' (first | (go_at_call 36; refine (ids_any _ F gb n p L ⟨A, c, mp, h.up (by exact eqq)⟩ hl).mono ?_; rintro e w1 ⟨VI, dI, rfl, hoI, hnI, ev1⟩; have z1 := ev1.size; refine ⟨_, rfl, ?_⟩; (conv => arg 5; simp only [zA, zB, ev, lget, zC, zD, zE, zF, zG, zH, zI, zJ, zK, zL, zM, zN, zO])) | (with_reducible (first | refine' wp_seq ?_ | refine' wp_region_lit ?_ | refine' wpList_nil ?_ | refine' then_normal ?_ | refine' wp_block ?_)) | ((with_reducible refine' l_step ?_); ((first | (with_reducible refine' g_move ?_) | (with_reducible refine' g_assign ?_) | ((with_reducible refine' g_lenS ?hx ?_); (case hx => rfl))); (conv => arg 5; simp only [zA, zB, ev, lget, zC, zD, zE, zF, zG, zH, zI, zJ, zK, zL, zM, zN, zO]))) | ((with_reducible refine' l_call TFn.ent ?ha ?_); (case ha => simp only [zC, zD, ev, lget]; (try rfl))))
  have h1 := (h.up ev1).mono (Nat.le_succ n)
  refine' s_loop [5, 7, 8, 12, 13, 14, 15, 16, 17, 18, 19, 20, 21, 22, 23, 24, 25, 26, 27, 28, 29, 30, 31, 32, 33, 34, 35, 36, 37, 38, 39, 40, 41, 42, 43, 44, 45, 46, 47, 48, 49, 50, 51, 52, 53, 54, 55, 56, 57, 58, 59, 60, 61, 62] (fun m u w' => ∃ (i : Nat) (V : Option Addr) (d : Nat) (ks : List Pk), m = L.length - i ∧ i ≤ L.length ∧ u 12 = .int .i64 i ∧ u 5 = .slice V ks.length d ∧ BoxV w' F gb p (n + 1) ((L.take i).map (dueE p now) ++ L.drop i) A c mp ∧ ks.map pkP = dueL now (L.take i) ∧
      w'.ownsRow 0 50 3 (.slice V ks.length d) ks.length (pkCs ks) ∧ (∀ k, (Value.slice V ks.length d).ownBlock = some k → w1.heap.size ≤ k) ∧ OB w' w1.heap.size (ks.map (·.b)) ∧ Evt F w1 w') L.length ?h0 ?round
  case h0 => exact ⟨0, none, 0, [], rfl, by omega, rfl, rfl, by simpa using h1, rfl, World.ownsRow_nil _ _ _ _, by simp [Value.ownBlock], OB.nil, Evt.refl _ _⟩
  case round =>
    rintro m u w3 ⟨i, V, d, ks, rfl, hi, h12, h5, hv, hks, hoP, hnP, hOB, ev3⟩
    simp only [setW, List.foldl_cons, List.foldl_nil, List.set_cons_succ, List.set_cons_zero]
    simp only [h12, h5]
    have hz3 := ev3.size
    have hFw : ∀ k, F k → k < w.heap.size := h.lt
    have hoI3 := own_evt ev3 hoI (fun k hk hh => by have := hnI k hk; have := hFw k hh; omega)
    by_cases hlt : i < L.length
    · obtain ⟨b, cap, hvb, hob, hblt, hcell⟩ := own_form2 hoI3 hlt
      simp only [Value.slice.injEq] at hvb
      obtain ⟨rfl, _, rfl⟩ := hvb
      have hbn : w.heap.size ≤ b := hnI b rfl
      have hc0 := hcell i (.int .i64 (L[i]).id) (by simp [ints, hlt])
      rw [Nat.zero_add] at hc0
      clear hcell
      have hdu := dueL_snoc now (L.take i) L[i]
      rw [← List.take_succ_eq_append_getElem hlt] at hdu
      have hnx : (L.take (i + 1)).map (dueE p now) ++ L.drop (i + 1) = (L.take i).map (dueE p now) ++ dueE p now L[i] :: L.drop (i + 1) := by
        rw [List.take_succ_eq_append_getElem hlt, List.map_append, List.append_assoc]
        rfl
      rw [List.drop_eq_getElem_cons hlt] at hv
      have hkl : ks.length ≤ i := by
        have h2 := congrArg List.length hks
        rw [List.length_map] at h2
        have h3 := dueL_len now (L.take i)
        rw [List.length_take] at h3
        omega
      have hattL := h.att _ (List.getElem_mem hlt)
      have hblL := h.bln _ (List.getElem_mem hlt)
      generalize (L.take i).map (dueE p now) = X at *
      generalize hY : L.drop (i + 1) = Y at *
      generalize L[i] = e at *
      have hmem : e ∈ X ++ e :: Y := List.mem_append_right _ (List.mem_cons_self ..)
      have hrg := hv.rng e hmem
      have hid : -9223372036854775808 ≤ e.id ∧ e.id ≤ 9223372036854775807 := by omega
      have hat : AtKey (keysE (X ++ e :: Y)) e.id (.pointer (some ⟨e.g, 0, none⟩)) := .inl ⟨e.g, List.mem_map.2 ⟨e, hmem, rfl⟩, rfl⟩
      have hent := hv.ent e hmem
      have hb3 := hv.blk
      have hatt := hv.att e hmem
      have hbk := back_rng p (e.att + 1)
      have hge : ¬ gb = e.g := fun hh => Blk.ne hb3 hent (by decide) hh
      by_cases hdue : e.nxt ≤ now
      · rw [if_pos hdue] at hdu
        rw [dueE, if_pos hdue] at hnx
        repeat' (first | ((with_reducible refine' l_step ?_); (with_reducible refine' g_lookP (k := 3) (e := 82) (bl := mp) (n := n + 1) (es := keysE (X ++ e :: Y)) ?hx ?hy ?hs ?h0 ?hv ?_); (case hx => rfl); (case hy => rfl); (case hs => exact hv.map); (case h0 => exact hid); (case hv => exact hat); (conv => arg 5; simp only [zA, zB, ev, lget, zC, zD, zE, zF, zG, zH, zI, zJ, zK, zL, zM, zN, zO])) | (with_reducible refine' stop_reg (id := 8) ?_) | (with_reducible (first | refine' wp_seq ?_ | refine' wp_region_lit ?_ | refine' wpList_nil ?_ | refine' then_normal ?_ | refine' wp_block ?_ | refine' wp_skip ?_)) | ((with_reducible refine' c_condT ?hx ?_); (case hx => rfl)) | ((with_reducible refine' c_condF ?hx ?_); (case hx => rfl)) | ((with_reducible refine' l_step ?_); (first | ((first | (with_reducible refine' g_move ?_) | (with_reducible refine' g_assign ?_) | ((with_reducible refine' g_fieldAddr ?hx ?ho ?_); (case hx => rfl); (case ho => rfl)) | ((with_reducible refine' g_loadB ?hx ?hb ?hc ?_); (case hx => rfl); (case hb => exact bqq); first | (case hc => rfl) | (case hn => simp only [List.length_cons, List.length_nil]; omega)) | ((with_reducible refine' g_loadC ?hx ?hc ?_); (case hx => rfl); (case hc => exact cqq)) | ((with_reducible refine' g_addN ?hx ?hy ?h0 ?h1 ?_); (case hx => rfl); (case hy => rfl); (case h0 => omega); (case h1 => omega)) | ((with_reducible refine' g_nilCheckP ?hx ?_); (case hx => rfl)) | ((with_reducible refine' g_indexAddr ?hx ?hy ?h0 ?h1 ?_); (case hx => rfl); (case hy => rfl); (case h0 => omega); (case h1 => omega))); (conv => arg 5; simp only [zA, zB, ev, lget, zC, zD, zE, zF, zG, zH, zI, zJ, zK, zL, zM, zN, zO])) | ((first | ((with_reducible refine' g_lss ?hx ?hy (fun _ => ?_) (fun _ => ?_)); (case hx => rfl)) | ((with_reducible refine' g_gtr ?hx ?hy (fun _ => ?_) (fun _ => ?_)); (case hx => rfl))); (case hy => rfl); all_goals (first | (exfalso; omega) | (conv => arg 5; simp only [zA, zB, ev, lget, zC, zD, zE, zF, zG, zH, zI, zJ, zK, zL, zM, zN, zO]))))) | ((first | ((with_reducible refine' e_storeB ?hx ?hy ?hv ?h1 ?hb ?ho ?_); (case hx => rfl); (case hy => ((try simp only [ev, lget]); (try rfl))); (case hv => rfl); (case h1 => rfl)) | ((with_reducible refine' e_storeR ?hx ?hy ?h1 ?hb ?hn ?ho ?_); (case hx => rfl); (case hy => rfl); (case h1 => simp [Value.oneCell']); (case hn => rfl))); (case hb => exact bqq); (case ho => first | (simp only [List.length_cons, List.length_nil]; omega) | omega | (simp; omega) | simp); (try simp only [splice, zA, zB]); intro _ _ _ _))
        refine stop_go ?_
        rename_i wS hbS evS zS
        have hvS := hv.set (att := e.att + 1) (nxt := e.nxt) (by exact eqq) hbS ⟨by omega, by omega⟩
        have hriS : ∀ w', Evt (fun _ => False) wS w' → RI w' A p.hs := fun w' he => (hvS.hol.up he).ri hvS.hln
        have hbk2 : 0 ≤ backP p (e.att + 1) ∧ backP p (e.att + 1) ≤ 64 := hbk
        repeat' (first | ((with_reducible refine' w_tree (id := 8) (fun j => j = e.g) (.pure 0 (.pure 1 (.pure 2 (.pure 3 (.pure 4 (.pure 5 (.pure 6 (.pure 7 (.pure 8 (.pure 9 (.one 10 (.one 11 (.one 12 .done))))))))))))) [38, 39, 40, 41, 42, 43, 44, 45, 46, 47, 48, 49, 50] (fun u w' => Blk w' e.g 85 (enC (sentE p now e))) ?hm ?hn ?hl ?hB ?ta8 ?tb8); (case hm => kernel_rfl); (case hn => kernel_rfl); (case hl => kernel_rfl); (case hB => kernel_rfl); intro _ _ _) | ((with_reducible refine' tt_pure ?hi ?hv ?_); (case hi => rfl); (case hv => intro _ hqS; have hqz := hqS.size; ((first | (with_reducible refine' g_move ?_) | ((with_reducible refine' g_fieldAddr ?hx ?ho ?_); (case hx => rfl); (case ho => rfl)) | ((with_reducible refine' g_loadS ?hx ?hb ?hn ?_); (case hx => rfl); (case hb => exact bqq); first | (case hc => rfl) | (case hn => simp only [List.length_cons, List.length_nil]; omega)) | ((with_reducible refine' g_nilCheckP ?hx ?_); (case hx => rfl))); exact rfl)); (conv => arg 6; simp only [zA, zB, ev, lget, zC, zD, zE, zF, zG, zH, zI, zJ, zK, zL, zM, zN, zO, fillL, splice, List.getD_cons_zero, List.getD_cons_succ, Value.cells])) | ((with_reducible refine' tt_one ?hi ?_); (case hi => rfl)) | ((with_reducible refine' tt_done ?hS ?_); (case hS => exact eqq)) | (with_reducible refine' tt_nil ?_) | (go_at_call 38; refine (backoff_any p A c (e.att + 1) _ (hriS _ (by exact eqq)) (by omega)).mono ?_; rintro x wB ⟨rfl, evB⟩; have zB := evB.size; refine ⟨_, rfl, ?_⟩; (conv => arg 5; simp only [zA, zB, ev, lget, zC, zD, zE, zF, zG, zH, zI, zJ, zK, zL, zM, zN, zO])) | (go_at_call 37; refine (sent_any _ { e with att := e.att + 1 } now (backP p (e.att + 1)) (hbS.evt (by exact eqq) (fun h => h)) hnow hbk2).mono ?_; rintro x wT ⟨rfl, hbT, evT⟩; have zT := evT.size; refine ⟨_, rfl, ?_⟩; (conv => arg 5; simp only [zA, zB, ev, lget, zC, zD, zE, zF, zG, zH, zI, zJ, zK, zL, zM, zN, zO])) | (with_reducible refine' wpList_nil ?_) | ((with_reducible refine' l_step ?_); (((with_reducible refine' g_loadB ?hx ?hb ?hc ?_); (case hx => rfl); (case hb => exact bqq); first | (case hc => rfl) | (case hn => simp only [List.length_cons, List.length_nil]; omega)); (conv => arg 5; simp only [zA, zB, ev, lget, zC, zD, zE, zF, zG, zH, zI, zJ, zK, zL, zM, zN, zO]))) | ((with_reducible refine' l_call TFn.ent ?ha ?_); (case ha => simp only [zC, zD, ev, lget]; (try rfl))))
        all_goals try exact ⟨_, rfl, by simp only [setW, List.foldl_cons, List.foldl_nil, List.set_cons_succ, List.set_cons_zero], hbT⟩
        rintro u2 wR evR zR hbR
        simp only [setW, List.foldl_cons, List.foldl_nil, List.set_cons_succ, List.set_cons_zero]
        have evSR : Evt (fun j => j = e.g) w3 wR := Evt.next evR evS (fun _ _ h => h)
        have hvR : BoxV wR F gb p (n + 1) (X ++ sentE p now e :: Y) A c mp := hv.set evSR hbR ⟨by omega, by omega⟩
        have hoPR := own_evt evSR hoP (fun k hk hh => by obtain ⟨cur, hc⟩ := own_typ hoP k hk; have h' : k = e.g := hh; subst h'; exact Blk.ne hent hc (by decide) rfl)
        have hOBR : OB wR w1.heap.size (ks.map (·.b)) := hOB.evt evSR (fun k cur hk _ hh => by have h' : k = e.g := hh; subst h'; exact Blk.ne hent hk (by decide) rfl) (Nat.le_refl _)
        have hrcR : RC wR e.A (u8s e.body) := (hvR.bod _ (List.mem_append_right _ (List.mem_cons_self ..))).rc
        have hevR3 : w1.heap.size ≤ wR.heap.size := by omega
        have hF3 : Evt F w1 wR := Evt.next evSR ev3 (fun j hj hh => by have h' : j = e.g := hh; rw [h']; exact hv.fe e hmem)
        clear hbS evS hvS hriS hoP hOB hent hb3
        repeat' (first | (go_at_call 35; refine (clone_any e.A e.body.length e.c e.body _ (hrcR.up (by exact eqq)) rfl hblL).mono ?_; rintro x wC ⟨VB, dB, rfl, hoB, hnB, evC⟩; have zC_ := evC.size; refine ⟨_, rfl, ?_⟩; have hoPC := own_evt evC hoPR (fun _ _ h => h); (conv => arg 5; simp only [zA, zB, ev, lget, zC, zD, zE, zF, zG, zH, zI, zJ, zK, zL, zM, zN, zO])) | (((with_reducible refine' e_append ?hx ?hy ?hzs ?hsz ?hown ?hl ?hnews ?h1 ?hb ?hm ?_); (case hx => ((try simp only [ev, lget]); (try rfl))); (case hy => rfl); (case hzs => rfl); (case hsz => decide); (case hown => exact oqq); (case hnews => refine' blk_src ?hbb; (case hbb => exact bqq)); (case hl => rfl); (case h1 => simp [Value.oneCell']); (case hb => omega); (case hm => omega); intro vA wA hoA heA hnA haA hzA; (conv => arg 5; simp only [zA, zB, ev, lget, zC, zD, zE, zF, zG, zH, zI, zJ, zK, zL, zM, zN, zO])); have hlA := own_lt hoA; obtain ⟨VA, dA, hVA⟩ := own_slice hoA; subst hVA) | (with_reducible (first | refine' wp_region_lit ?_ | refine' wpList_nil ?_ | refine' then_normal ?_ | refine' in_normal ?_)) | ((with_reducible refine' l_step ?_); (first | ((first | (with_reducible refine' g_move ?_) | (with_reducible refine' g_assign ?_) | ((with_reducible refine' g_fieldAddr ?hx ?ho ?_); (case hx => rfl); (case ho => rfl)) | ((with_reducible refine' g_loadB ?hx ?hb ?hc ?_); (case hx => rfl); (case hb => exact bqq); first | (case hc => rfl) | (case hn => simp only [List.length_cons, List.length_nil]; omega)) | ((with_reducible refine' g_addN ?hx ?hy ?h0 ?h1 ?_); (case hx => rfl); (case hy => rfl); (case h0 => omega); (case h1 => omega)) | ((with_reducible refine' g_nilCheckP ?hx ?_); (case hx => rfl))); (conv => arg 5; simp only [zA, zB, ev, lget, zC, zD, zE, zF, zG, zH, zI, zJ, zK, zL, zM, zN, zO])) | ((with_reducible refine' g_build ?hl ?hp ?hs ?_); (case hl => rfl); (case hp => rfl); (case hs => rfl); (conv => arg 5; simp only [zA, zB, ev, lget, zC, zD, zE, zF, zG, zH, zI, zJ, zK, zL, zM, zN, zO, fillL, splice, List.getD_cons_zero, List.getD_cons_succ, Value.cells])))) | (((with_reducible refine' e_sliceLit ?hx ?hi ?hv ?hn ?_); (case hx => simp only [zC, zD, ev, lget]; (try rfl)); (case hi => rfl); (case hv => simp [Value.cells]); (case hn => decide); simp only [List.flatMap_cons, List.flatMap_nil, Value.cells, List.cons_append, List.nil_append]); intro _ _ _ _ _ _ _; (conv => arg 5; simp only [zA, zB, ev, lget, zC, zD, zE, zF, zG, zH, zI, zJ, zK, zL, zM, zN, zO])) | ((with_reducible refine' l_call TFn.ent ?ha ?_); (case ha => simp only [zC, zD, ev, lget]; (try rfl))))
        rename_i gS wP p1 p2 hbP evP zP
        have hltP := own_lt hoPR
        have hltB := own_lt hoB
        have evRA : Evt (fun k => (Value.slice V ks.length d).ownBlock = some k) wR wA := by exact eqq
        have hoBA := own_evt heA (own_evt evP hoB (fun _ _ h => h)) (fun k hk hh => by have h1 := hnB k hk; have h2 := hltP k hh; omega)
        have hOBA : OB wA w1.heap.size (ks.map (·.b)) := hOBR.evt evRA (fun k cur hk _ hh => by obtain ⟨cur', hc⟩ := own_typ hoPR k hh; exact Blk.ne hk hc (by decide) rfl) (Nat.le_refl _)
        have hVA : ∀ k, (Value.slice VA (ks.length + 1) dA).ownBlock = some k → w1.heap.size ≤ k := fun k hk => by
          rcases haA with h1 | h1
          · exact hnP k (h1 ▸ hk)
          · rw [h1] at hk
            have := Option.some.inj hk
            omega
        have hnwF : ∀ k, F k → ¬ (Value.slice V ks.length d).ownBlock = some k := fun k hk hh => by have h1 := hFw k hk; have h2 := hnP k hh; omega
        refine ⟨_, _, rfl, (by omega : L.length - (i + 1) < L.length - i), by simp only [zA, zB], i + 1, VA, dA, ks ++ [⟨e.id, ⟨e.body, VB, dB⟩⟩], rfl, by omega, rfl, by rw [List.length_append]; rfl, ?_, ?_, ?_, ?_, ?_, Evt.next evRA hF3 (fun j hj hh => by have h1 := hnP j hh; omega)⟩
        · rw [hY, hnx]
          exact hvR.evt evRA hnwF (fun _ h => h) (fun k hk => Nat.lt_of_lt_of_le (hvR.lt k hk) evRA.size)
        · rw [List.map_append, hks, hdu]
          rfl
        · rw [List.length_append, pkCs_snoc]
          exact hoA
        · rw [List.length_append]
          exact hVA
        · rw [List.map_append]
          exact hOBA.snoc (B := wR.heap.size) (fun x hx k hk => hOBR.lt x hx k hk) hoBA (fun k hk => by have h1 := hnB k hk; exact ⟨by omega, h1⟩)
      · rw [if_neg hdue, List.append_nil] at hdu
        rw [dueE, if_neg hdue] at hnx
        repeat' (first | ((with_reducible refine' l_step ?_); (with_reducible refine' g_lookP (k := 3) (e := 82) (bl := mp) (n := n + 1) (es := keysE (X ++ e :: Y)) ?hx ?hy ?hs ?h0 ?hv ?_); (case hx => rfl); (case hy => rfl); (case hs => exact hv.map); (case h0 => exact hid); (case hv => exact hat); (conv => arg 5; simp only [zA, zB, ev, lget, zC, zD, zE, zF, zG, zH, zI, zJ, zK, zL, zM, zN, zO])) | (with_reducible (first | refine' wp_seq ?_ | refine' wp_region_lit ?_ | refine' wpList_nil ?_ | refine' then_normal ?_ | refine' wp_block ?_ | refine' wp_skip ?_ | refine' wp_exit ?_ | refine' then_exit ?_ | refine' in_exit ?_)) | ((with_reducible refine' c_condT ?hx ?_); (case hx => rfl)) | ((with_reducible refine' l_step ?_); (first | ((first | (with_reducible refine' g_move ?_) | (with_reducible refine' g_assign ?_) | ((with_reducible refine' g_fieldAddr ?hx ?ho ?_); (case hx => rfl); (case ho => rfl)) | ((with_reducible refine' g_loadB ?hx ?hb ?hc ?_); (case hx => rfl); (case hb => exact bqq); first | (case hc => rfl) | (case hn => simp only [List.length_cons, List.length_nil]; omega)) | ((with_reducible refine' g_loadC ?hx ?hc ?_); (case hx => rfl); (case hc => exact cqq)) | ((with_reducible refine' g_addN ?hx ?hy ?h0 ?h1 ?_); (case hx => rfl); (case hy => rfl); (case h0 => omega); (case h1 => omega)) | ((with_reducible refine' g_nilCheckP ?hx ?_); (case hx => rfl)) | ((with_reducible refine' g_indexAddr ?hx ?hy ?h0 ?h1 ?_); (case hx => rfl); (case hy => rfl); (case h0 => omega); (case h1 => omega))); (conv => arg 5; simp only [zA, zB, ev, lget, zC, zD, zE, zF, zG, zH, zI, zJ, zK, zL, zM, zN, zO])) | ((first | ((with_reducible refine' g_lss ?hx ?hy (fun _ => ?_) (fun _ => ?_)); (case hx => rfl)) | ((with_reducible refine' g_gtr ?hx ?hy (fun _ => ?_) (fun _ => ?_)); (case hx => rfl))); (case hy => rfl); all_goals (first | (exfalso; omega) | (conv => arg 5; simp only [zA, zB, ev, lget, zC, zD, zE, zF, zG, zH, zI, zJ, zK, zL, zM, zN, zO]))))))
        exact ⟨_, _, rfl, (by omega : L.length - (i + 1) < L.length - i), by simp only [zA, zB], i + 1, V, d, ks, rfl, by omega, rfl, rfl, by rw [hY, hnx]; exact hv, by rw [hks, hdu], hoP, hnP, hOB, ev3⟩
    · obtain rfl : i = L.length := by omega
      rw [List.take_length] at hks
      simp only [List.take_length, List.drop_length, List.append_nil] at hv
      repeat' (first | (with_reducible (first | refine' wp_seq ?_ | refine' wp_region_lit ?_ | refine' wpList_nil ?_ | refine' then_normal ?_ | refine' wp_ret ?_ | refine' wp_exit ?_ | refine' then_exit ?_ | refine' in_exit ?_)) | ((with_reducible refine' c_condF ?hx ?_); (case hx => rfl)) | ((with_reducible refine' b_ret1 ?hr ?hv ?_); (case hr => rfl); (case hv => ((try simp only [ev, lget]); (try rfl)))) | ((with_reducible refine' l_step ?_); (first | ((first | (with_reducible refine' g_move ?_) | (with_reducible refine' g_assign ?_)); (conv => arg 5; simp only [zA, zB, ev, lget, zC, zD, zE, zF, zG, zH, zI, zJ, zK, zL, zM, zN, zO])) | (((with_reducible refine' g_lss ?hx ?hy (fun _ => ?_) (fun _ => ?_)); (case hx => rfl)); (case hy => rfl); all_goals (first | (exfalso; omega) | (conv => arg 5; simp only [zA, zB, ev, lget, zC, zD, zE, zF, zG, zH, zI, zJ, zK, zL, zM, zN, zO]))))))
      exact ⟨V, d, ks, rfl, ⟨A, c, mp, hv⟩, hks, hoP, fun k hk => by have := hnP k hk; omega, hOB.evt (Evt.refl _ _) (fun _ _ _ _ h => h) z1, Evt.next ev3 (ev1.mono (fun _ _ h => h.elim)) (fun _ _ h => h)⟩
end Go.Proofs.Ytchfkkliechgoaa
