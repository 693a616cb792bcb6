/- The shelf: one more. SHORT -/
import Derived.Test.YthfnlmedelfbnaaDoorShl13
namespace Go.Proofs.YthfnlmedelfbnaaDoor
open Go.RowKit Go.Proofs.YthfnlmedelfbnaaDoorE
set_option linter.unusedSimpArgs false
set_option linter.unusedVariables false

set_option maxRecDepth 20000 in
set_option maxHeartbeats 8000000 in
theorem put_any (D : Nat → Prop) (gS : Nat) (ls ms : List Sl) (vI vL : Value) (V : Option Addr) (n d : Nat) (xs : List Value) (w : World) (h : ShelfV w D gS ls ms vI vL) (hV : w.ownsRow 0 3 1 (.slice V n d) n xs) (hVD : ∀ k, (Value.slice V n d).ownBlock = some k → ¬ D k) (hn : n ≤ 1000000000) (hbn : ls.length < 1000000000000) :
    Calls Tryd.prog 19 #[.pointer (some ⟨gS, 0, none⟩), .slice V n d] w fun e w' => e = .returned (.tuple #[]) ∧ ∃ s1 s2 vI' vL' D', ShelfV w' D' gS (ls ++ [s1]) (ms ++ [s2]) vI' vL' ∧ (∀ k, D' k → D k ∨ (Value.slice V n d).ownBlock = some k ∨ w.heap.size ≤ k) ∧
      (∀ k, vI'.ownBlock = some k → vI.ownBlock = some k ∨ w.heap.size ≤ k) ∧ (∀ k, vL'.ownBlock = some k → vL.ownBlock = some k ∨ w.heap.size ≤ k) ∧ Evt (fun k => k = gS ∨ vI.ownBlock = some k ∨ vL.ownBlock = some k ∨ (Value.slice V n d).ownBlock = some k) w w' := by
  have hblk := h.blk
  obtain ⟨AI, cI, rfl⟩ := own_slice h.rI
  obtain ⟨AL, cL, rfl⟩ := own_slice h.rL
  have hltV := own_lt hV
  have hVb : ∀ k, (Value.slice V n d).ownBlock = some k → ∃ cur, Blk w k 3 cur := own_typ hV
  have hVg : ∀ k, (Value.slice V n d).ownBlock = some k → ¬ k = gS := fun k hk hh => by
    obtain ⟨cur, hc⟩ := hVb k hk
    subst hh
    exact Blk.ne hblk hc (by decide) rfl
  have hlm := h.len
  go_enter Tryd.func19, Tryd.ntmps19
  repeat' (first | (with_reducible (first | refine' wp_seq ?_ | refine' wp_region_lit ?_ | refine' wpList_nil ?_ | refine' then_normal ?_ | refine' wp_block ?_)) | ((with_reducible refine' l_step ?_); ((with_reducible refine' g_assign ?_); (conv => arg 5; simp only [zA, zB, ev, lget, zC, zD, zE, zF, zG, zH, zI, zJ, zK, zL, zM, zN]))))
  refine' s_loop [4, 6, 7, 8, 9, 10, 11, 12, 13, 14, 15, 16, 17, 18, 19, 20] (fun k u w' => ∃ i : Nat, k = n - i ∧ i ≤ n ∧ u 4 = .int .i64 i ∧ (∀ g, (Value.slice V n d).ownBlock = some g → ∃ cur, V = some ⟨g, 0, none⟩ ∧ Blk w' g 3 cur ∧ cur.length = d ∧ cur.take i = List.replicate i (.int .i64 (mkS ls.length))) ∧ Evt (fun k => (Value.slice V n d).ownBlock = some k) w w') n ?h0 ?round
  case h0 =>
    refine ⟨0, rfl, by omega, rfl, fun g hg => ?_, Evt.refl _ _⟩
    rcases own_blk_of hV with ⟨h1, h2⟩ | ⟨g', cap, cur, h1, hb, ht, hl, hc, _⟩
    · rw [h1] at hg
      simp [Value.ownBlock] at hg
    · simp only [Value.slice.injEq] at h1
      obtain ⟨rfl, _, rfl⟩ := h1
      simp only [Value.ownBlock, Option.some.injEq] at hg
      subst hg
      exact ⟨cur, rfl, hb, by simpa using hl, by simp⟩
  case round =>
    rintro k u w1 ⟨i, rfl, hi, h4, hrow, ev1⟩
    simp only [setW, List.foldl_cons, List.foldl_nil, List.set_cons_succ, List.set_cons_zero]
    simp only [h4]
    have z1 := ev1.size
    have hb1 := hblk.evt ev1 (fun hh => hVg gS hh rfl)
    by_cases hlt : i < n
    · obtain ⟨gV, hgV⟩ : ∃ g, (Value.slice V n d).ownBlock = some g := by
        rcases own_blk_of hV with ⟨h1, h2⟩ | ⟨g', cap, cur, h1, _⟩
        · omega
        · exact ⟨g', by rw [h1]; rfl⟩
      obtain ⟨cur, rfl, hbV, hcl, hct⟩ := hrow gV hgV
      have hnd := own_cap hV (by omega)
      clear hrow hblk
      repeat' (first | (with_reducible (first | refine' wp_seq ?_ | refine' wp_region_lit ?_ | refine' wpList_nil ?_ | refine' then_normal ?_ | refine' wp_block ?_ | refine' wp_skip ?_ | refine' in_normal ?_)) | ((with_reducible refine' c_condT ?hx ?_); (case hx => rfl)) | ((with_reducible refine' l_step ?_); (first | ((first | (with_reducible refine' g_move ?_) | (with_reducible refine' g_assign ?_) | ((with_reducible refine' g_fieldAddr ?hx ?ho ?_); (case hx => rfl); (case ho => rfl)) | ((with_reducible refine' g_loadB ?hx ?hb ?hc ?_); (case hx => rfl); (case hb => exact bqq); first | (case hc => rfl) | (case hn => simp only [List.length_cons, List.length_nil]; omega)) | ((first | (with_reducible refine' g_addN ?hx ?hy ?h0 ?h1 ?_) | (with_reducible refine' g_subN ?hx ?hy ?h0 ?h1 ?_)); (case hx => rfl); (case hy => rfl); (case h0 => omega); (case h1 => omega)) | ((with_reducible refine' g_nilCheckP ?hx ?_); (case hx => rfl)) | ((with_reducible refine' g_lenS ?hx ?_); (case hx => rfl)) | ((with_reducible refine' g_indexAddr ?hx ?hy ?h0 ?h1 ?_); (case hx => rfl); (case hy => rfl); (case h0 => omega); (case h1 => omega))); (conv => arg 5; simp only [zA, zB, ev, lget, zC, zD, zE, zF, zG, zH, zI, zJ, zK, zL, zM, zN])) | (((with_reducible refine' g_lss ?hx ?hy (fun _ => ?_) (fun _ => ?_)); (case hx => rfl)); (case hy => rfl); all_goals (first | (exfalso; omega) | (conv => arg 5; simp only [zA, zB, ev, lget, zC, zD, zE, zF, zG, zH, zI, zJ, zK, zL, zM, zN]))))) | ((first | ((with_reducible refine' e_storeB ?hx ?hy ?hv ?h1 ?hb ?ho ?_); (case hx => rfl); (case hy => ((try simp only [ev, lget]); (try rfl))); (case hv => rfl); (case h1 => rfl)) | ((with_reducible refine' e_storeR ?hx ?hy ?h1 ?hb ?hn ?ho ?_); (case hx => rfl); (case hy => rfl); (case h1 => simp [Value.oneCell']); (case hn => rfl))); (case hb => exact bqq); (case ho => first | (simp only [List.length_cons, List.length_nil]; omega) | omega | (simp; omega) | simp); (try simp only [splice, zA, zB]); intro _ _ _ _))
      rename_i w2 hb2 e2 z2
      exact ⟨_, _, rfl, (by omega : n - (i + 1) < n - i), by simp only [zA, zB], i + 1, rfl, by omega, rfl, fun g hg => by
        have hgg : gV = g := Option.some.inj (hgV.symm.trans hg)
        subst hgg
        exact ⟨_, rfl, hb2, by rw [List.length_set]; exact hcl, take_set1 hct (by omega)⟩, Evt.next e2 ev1 (fun k _ hk => by have h' : k = gV := hk; rw [h']; exact hgV)⟩
    · obtain rfl : i = n := by omega
      have hV1 : w1.ownsRow 0 3 1 (.slice V i d) i (List.replicate i (.int .i64 (mkS ls.length))) := by
        rcases own_blk_of hV with ⟨h1, h2⟩ | ⟨g', cap, cur0, h1, _, _, _, hc1, hc2⟩
        · subst h2
          rw [h1]
          exact World.ownsRow_nil _ _ _ _
        · simp only [Value.slice.injEq] at h1
          obtain ⟨rfl, _, rfl⟩ := h1
          obtain ⟨cur, _, hb1, hcl, hct⟩ := hrow g' rfl
          exact ⟨by rw [List.length_replicate, Nat.mul_one], .inr ⟨g', d, cur.toArray, rfl, Nat.zero_le _, hb1, hc1, hc2, by simpa using hcl, by simpa using hct⟩⟩
      have hI1 := own_evt ev1 h.rI (fun k hk hh => by
        obtain ⟨c1, hc1⟩ := own_typ h.rI k hk
        obtain ⟨c2, hc2⟩ := hVb k hh
        exact Blk.ne hc1 hc2 (by decide) rfl)
      have hL1 := own_evt ev1 h.rL (fun k hk hh => by
        obtain ⟨c1, hc1⟩ := own_typ h.rL k hk
        obtain ⟨c2, hc2⟩ := hVb k hh
        exact Blk.ne hc1 hc2 (by decide) rfl)
      have hIg : ¬ (Value.slice AI ls.length cI).ownBlock = some gS := fun hh => by
        obtain ⟨c1, hc1⟩ := own_typ h.rI gS hh
        exact Blk.ne h.blk hc1 (by decide) rfl
      have hLg : ¬ (Value.slice AL ms.length cL).ownBlock = some gS := fun hh => by
        obtain ⟨c1, hc1⟩ := own_typ h.rL gS hh
        exact Blk.ne h.blk hc1 (by decide) rfl
      clear hblk
      repeat' (first | (with_reducible refine' stop_reg (id := 5) ?_) | (((with_reducible refine' e_append ?hx ?hy ?hzs ?hsz ?hown ?hl ?hnews ?h1 ?hb ?hm ?_); (case hx => ((try simp only [ev, lget]); (try rfl))); (case hy => rfl); (case hzs => rfl); (case hsz => decide); (case hown => exact oqq); (case hnews => refine' blk_src ?hbb; (case hbb => exact bqq)); (case hl => rfl); (case h1 => simp [Value.oneCell']); (case hb => omega); (case hm => omega); intro vA wA hoA heA hnA haA hzA; (conv => arg 5; simp only [zA, zB, ev, lget, zC, zD, zE, zF, zG, zH, zI, zJ, zK, zL, zM, zN])); have hlA := own_lt hoA; obtain ⟨VA, dA, hVA⟩ := own_slice hoA; subst hVA) | (with_reducible (first | refine' wp_seq ?_ | refine' wp_region_lit ?_ | refine' wpList_nil ?_ | refine' then_normal ?_ | refine' wp_exit ?_ | refine' then_exit ?_ | refine' in_exit ?_)) | ((with_reducible refine' c_condF ?hx ?_); (case hx => rfl)) | ((with_reducible refine' l_step ?_); (first | ((first | (with_reducible refine' g_move ?_) | ((with_reducible refine' g_fieldAddr ?hx ?ho ?_); (case hx => rfl); (case ho => rfl)) | ((with_reducible refine' g_loadB ?hx ?hb ?hc ?_); (case hx => rfl); (case hb => exact bqq); first | (case hc => rfl) | (case hn => simp only [List.length_cons, List.length_nil]; omega)) | ((with_reducible refine' g_nilCheckP ?hx ?_); (case hx => rfl)) | ((with_reducible refine' g_lenS ?hx ?_); (case hx => rfl))); (conv => arg 5; simp only [zA, zB, ev, lget, zC, zD, zE, zF, zG, zH, zI, zJ, zK, zL, zM, zN])) | (((with_reducible refine' g_lss ?hx ?hy (fun _ => ?_) (fun _ => ?_)); (case hx => rfl)); (case hy => rfl); all_goals (first | (exfalso; omega) | (conv => arg 5; simp only [zA, zB, ev, lget, zC, zD, zE, zF, zG, zH, zI, zJ, zK, zL, zM, zN]))))) | (((with_reducible refine' e_sliceLit ?hx ?hi ?hv ?hn ?_); (case hx => simp only [zC, zD, ev, lget]; (try rfl)); (case hi => rfl); (case hv => simp [Value.cells]); (case hn => decide); simp only [List.flatMap_cons, List.flatMap_nil, Value.cells, List.cons_append, List.nil_append]); intro _ _ _ _ _ _ _; (conv => arg 5; simp only [zA, zB, ev, lget, zC, zD, zE, zF, zG, zH, zI, zJ, zK, zL, zM, zN])) | ((first | ((with_reducible refine' e_storeB ?hx ?hy ?hv ?h1 ?hb ?ho ?_); (case hx => rfl); (case hy => ((try simp only [ev, lget]); (try rfl))); (case hv => rfl); (case h1 => rfl)) | ((with_reducible refine' e_storeR ?hx ?hy ?h1 ?hb ?hn ?ho ?_); (case hx => rfl); (case hy => rfl); (case h1 => simp [Value.oneCell']); (case hn => rfl))); (case hb => exact bqq); (case ho => first | (simp only [List.length_cons, List.length_nil]; omega) | omega | (simp; omega) | simp); (try simp only [splice, zA, zB]); intro _ _ _ _))
      refine stop_go ?_
      rename_i g0 w0 y1 y2 y3 y4 y5 w6 hb6 e6 z6
      have hAI := own_typ hI1
      have hV6 := own_evt e6 (own_evt heA (own_evt y4 hV1 (fun _ _ h => h)) (fun k hk hh => by
        obtain ⟨c1, hc1⟩ := hAI k hh
        obtain ⟨c2, hc2⟩ := own_typ hV1 k hk
        exact Blk.ne hc1 hc2 (by decide) rfl)) (fun k hk hh => hVg k hk hh)
      have hLne : ∀ k, (Value.slice AL ms.length cL).ownBlock = some k → ¬ (Value.slice AI ls.length cI).ownBlock = some k := fun k hk hh => h.dis k hh hk
      have hL6 := own_evt e6 (own_evt heA (own_evt y4 hL1 (fun _ _ h => h)) (fun k hk hh => hLne k hk hh)) (fun k hk hh => hLg (by have h' : k = gS := hh; rw [← h']; exact hk))
      have hLV : ∀ k, (Value.slice AL ms.length cL).ownBlock = some k → ¬ (Value.slice V i d).ownBlock = some k := fun k hk hh => by
        obtain ⟨c1, hc1⟩ := own_typ hL1 k hk
        obtain ⟨c2, hc2⟩ := own_typ hV1 k hh
        exact Blk.ne hc1 hc2 (by decide) rfl
      have oA : ∀ k, (Value.slice VA (ls.length + 1) dA).ownBlock = some k → (Value.slice AI ls.length cI).ownBlock = some k ∨ w.heap.size ≤ k := own_or1 haA (by omega)
      have hgl := h.blk.lt
      have nA : ∀ k, (Value.slice VA (ls.length + 1) dA).ownBlock = some k → ¬ k = gS := fun k hk hh => by
        rcases oA k hk with h1 | h1
        · exact hIg (by rw [← hh]; exact h1)
        · omega
      have hA6 := own_evt e6 hoA (fun k hk hh => nA k hk hh)
      have eW6 : Evt (fun k => k = gS ∨ (Value.slice AI ls.length cI).ownBlock = some k ∨ (Value.slice AL ms.length cL).ownBlock = some k ∨ (Value.slice V i d).ownBlock = some k) w w6 := Evt.next e6 (Evt.next heA (Evt.next y4 (ev1.mono fun _ _ h => .inr (.inr (.inr h))) (fun _ _ h => h.elim)) (fun _ _ h => .inr (.inl h))) (fun _ _ h => .inl h)
      have hVgS : ¬ (Value.slice V i d).ownBlock = some gS := fun hh => hVg gS hh rfl
      clear hb1 hI1 hL1 hV1 heA y4 y3 e6 hoA ev1 hrow
      repeat' (first | ((with_reducible refine' e_appZ (v := .slice V i d) (n := i) (m := 64) (xs := List.replicate i (.int .i64 (mkS ls.length))) ?hx ?hy ?hzs ?hz1 ?hown ?hm0 ?hb ?hm ?_); (case hx => rfl); (case hy => rfl); (case hzs => rfl); (case hz1 => rfl); (case hown => exact oqq); (case hm0 => decide); (case hb => omega); (case hm => omega); intro vC wC hoC heC haC hzC; obtain ⟨VC, dC, hVC⟩ := own_slice hoC; subst hVC; (conv => arg 5; simp only [zA, zB, ev, lget, zC, zD, zE, zF, zG, zH, zI, zJ, zK, zL, zM, zN])) | ((with_reducible refine' e_append ?hx ?hy ?hzs ?hsz ?hown ?hl ?hnews ?h1 ?hb ?hm ?_); (case hx => rfl); (case hy => rfl); (case hzs => rfl); (case hsz => decide); (case hown => exact oqq); (case hnews => refine' blk_src ?hbb; (case hbb => exact bqq)); (case hl => rfl); (case h1 => simp [Value.oneCell']); (case hb => omega); (case hm => omega); intro vE wE hoE heE hnE haE hzE; obtain ⟨VE, dE, hVE⟩ := own_slice hoE; subst hVE; (conv => arg 5; simp only [zA, zB, ev, lget, zC, zD, zE, zF, zG, zH, zI, zJ, zK, zL, zM, zN])) | (with_reducible (first | refine' wp_region_lit ?_ | refine' wpList_nil ?_ | refine' then_normal ?_)) | ((with_reducible refine' b_end0 ?hr ?_); (case hr => rfl)) | ((with_reducible refine' l_step ?_); ((first | (with_reducible refine' g_move ?_) | (with_reducible refine' g_assign ?_) | ((with_reducible refine' g_fieldAddr ?hx ?ho ?_); (case hx => rfl); (case ho => rfl)) | ((with_reducible refine' g_loadB ?hx ?hb ?hc ?_); (case hx => rfl); (case hb => exact bqq); first | (case hc => rfl) | (case hn => simp only [List.length_cons, List.length_nil]; omega)) | ((with_reducible refine' g_nilCheckP ?hx ?_); (case hx => rfl))); (conv => arg 5; simp only [zA, zB, ev, lget, zC, zD, zE, zF, zG, zH, zI, zJ, zK, zL, zM, zN]))) | (((with_reducible refine' e_sliceLit ?hx ?hi ?hv ?hn ?_); (case hx => simp only [zC, zD, ev, lget]; (try rfl)); (case hi => rfl); (case hv => simp [Value.cells]); (case hn => decide); simp only [List.flatMap_cons, List.flatMap_nil, Value.cells, List.cons_append, List.nil_append]); intro _ _ _ _ _ _ _; (conv => arg 5; simp only [zA, zB, ev, lget, zC, zD, zE, zF, zG, zH, zI, zJ, zK, zL, zM, zN])) | ((first | ((with_reducible refine' e_storeB ?hx ?hy ?hv ?h1 ?hb ?ho ?_); (case hx => rfl); (case hy => ((try simp only [ev, lget]); (try rfl))); (case hv => rfl); (case h1 => rfl)) | ((with_reducible refine' e_storeR ?hx ?hy ?h1 ?hb ?hn ?ho ?_); (case hx => rfl); (case hy => rfl); (case h1 => simp [Value.oneCell']); (case hn => rfl))); (case hb => exact bqq); (case ho => first | (simp only [List.length_cons, List.length_nil]; omega) | omega | (simp; omega) | simp); (try simp only [splice, zA, zB]); intro _ _ _ _))
      rename_i g1 w7 q1 q2 q3 ev7 q5 w9 hb9 e9 z9
      have z69 : w.heap.size ≤ w6.heap.size := eW6.size
      have oC : ∀ k, (Value.slice VC (i + 64) dC).ownBlock = some k → (Value.slice V i d).ownBlock = some k ∨ w.heap.size ≤ k := own_or1 (haC.imp id (fun h => h.1)) (by omega)
      have oE : ∀ k, (Value.slice VE (ms.length + 1) dE).ownBlock = some k → (Value.slice AL ms.length cL).ownBlock = some k ∨ w.heap.size ≤ k := own_or1 haE (by omega)
      have oE6 : ∀ k, (Value.slice VE (ms.length + 1) dE).ownBlock = some k → (Value.slice AL ms.length cL).ownBlock = some k ∨ w6.heap.size ≤ k := own_or1 haE (by omega)
      have nE : ∀ k, (Value.slice VE (ms.length + 1) dE).ownBlock = some k → ¬ k = gS := fun k hk hh => by
        rcases oE k hk with h1 | h1
        · exact hLg (by rw [← hh]; exact h1)
        · omega
      have hE9 := own_evt e9 hoE nE
      have eT : Evt (fun k => k = gS ∨ (Value.slice AL ms.length cL).ownBlock = some k) wC w9 := Evt.next e9 (Evt.next heE (ev7.mono fun _ _ h => h.elim) (fun _ _ h => .inr h)) (fun _ _ h => .inl h)
      have hkeep := keep_head hV6 hoC haC
      have hlong : RG wC (fun k => (Value.slice VC (i + 64) dC).ownBlock = some k) VC (longC i (mkS ls.length)) := RG.own hoC (fun k hk => hk)
      have nVT : ∀ k, (Value.slice V i d).ownBlock = some k → ¬ (k = gS ∨ (Value.slice AL ms.length cL).ownBlock = some k) := fun k hk hh => by
        rcases hh with h1 | h1
        · exact hVg k hk h1
        · exact hLV k h1 hk
      have hlL := own_lt h.rL
      have hlI := own_lt h.rI
      have nCT : ∀ k, (Value.slice VC (i + 64) dC).ownBlock = some k → ¬ (k = gS ∨ (Value.slice AL ms.length cL).ownBlock = some k) := fun k hk hh => by
        rcases oC k hk with h2 | h2
        · exact nVT k h2 hh
        · rcases hh with h1 | h1
          · omega
          · have := hlL k h1; omega
      have hC9 := own_evt eT hoC nCT
      have hAC := own_evt heC hA6 (fun k hk hh => by
        obtain ⟨c1, hc1⟩ := own_typ hA6 k hk
        obtain ⟨c2, hc2⟩ := own_typ hV6 k hh
        exact Blk.ne hc1 hc2 (by decide) rfl)
      have hA9 := own_evt eT hAC (fun k hk hh => by
        rcases hh with h1 | h1
        · exact nA k hk h1
        · rcases oA k hk with h2 | h2
          · exact hLne k h1 h2
          · have := hlL k h1; omega)
      have eAll : Evt (fun k => k = gS ∨ (Value.slice AI ls.length cI).ownBlock = some k ∨ (Value.slice AL ms.length cL).ownBlock = some k ∨ (Value.slice V i d).ownBlock = some k) w w9 := Evt.next eT (Evt.next heC eW6 (fun _ _ h => .inr (.inr (.inr h)))) (fun _ _ h => h.elim (fun h => .inl h) (fun h => .inr (.inr (.inl h))))
      have hDl := h.lt
      have eD : ∀ k, D k → ¬ (k = gS ∨ (Value.slice AI ls.length cI).ownBlock = some k ∨ (Value.slice AL ms.length cL).ownBlock = some k ∨ (Value.slice V i d).ownBlock = some k) := fun k hk hh => by
        rcases hh with h1 | h1 | h1 | h1
        · exact h.apg (h1 ▸ hk)
        · exact h.apI k h1 hk
        · exact h.apL k h1 hk
        · exact hVD k h1 hk
      have lC := own_lt hC9
      have tC := own_typ hC9
      have apO : ∀ {t : TypeId} {cs : List Value} (k : Nat), Blk w k t cs → t ≠ 3 → ¬ D k → ¬ (D k ∨ (Value.slice V i d).ownBlock = some k ∨ (Value.slice VC (i + 64) dC).ownBlock = some k) := fun k hb hn hd hh => by
        rcases hh with h1 | h1 | h1
        · exact hd h1
        · obtain ⟨c1, hc1⟩ := hVb k h1
          exact Blk.ne hb hc1 hn rfl
        · rcases oC k h1 with h2 | h2
          · obtain ⟨c1, hc1⟩ := hVb k h2
            exact Blk.ne hb hc1 hn rfl
          · have := hb.lt
            omega
      have apN : ∀ {t : TypeId} {cs : List Value} (k : Nat), w.heap.size ≤ k → Blk w9 k t cs → t ≠ 3 → ¬ (D k ∨ (Value.slice V i d).ownBlock = some k ∨ (Value.slice VC (i + 64) dC).ownBlock = some k) := fun k h1 hb hn hh => by
        rcases hh with h2 | h2 | h2
        · have := hDl k h2; omega
        · have := hltV k h2; omega
        · obtain ⟨c1, hc1⟩ := tC k h2
          exact Blk.ne hb hc1 hn rfl
      refine ⟨rfl, ⟨V, i, d⟩, ⟨VC, i + 64, dC⟩, .slice VA (ls.length + 1) dA, .slice VE (ms.length + 1) dE, (fun k => D k ∨ (Value.slice V i d).ownBlock = some k ∨ (Value.slice VC (i + 64) dC).ownBlock = some k), {
        blk := hb9
        rI := by rw [List.length_append, List.map_append]; exact hA9
        rL := by rw [List.length_append, List.map_append]; exact hE9
        len := by rw [List.length_append, List.length_append, h.len]; rfl
        dI := fun j s hs => ?b1
        dL := fun j s t hs ht => ?b2
        apI := fun k hk => ?c1
        apL := fun k hk => ?c2
        apg := apO gS h.blk (by decide) h.apg
        dis := fun k hk hh => ?c6
        lt := fun k hk => ?c7
        bd := by rw [List.length_append, List.length_singleton]; omega }, ?d1, fun k hk => oA k hk, fun k hk => oE k hk, eAll⟩
      case b1 =>
        rcases snoc_get hs with hs1 | ⟨rfl, rfl⟩
        · exact ⟨(h.dI j s hs1).1, (h.dI j s hs1).2.evt eAll (fun k _ hk => eD k hk) (fun _ h => .inl h)⟩
        · exact ⟨by show i ≤ _; omega, hkeep.evt eT (fun k _ hk => nVT k hk) (fun _ h => .inr (.inl h))⟩
      case b2 =>
        rcases snoc_get hs with hs1 | ⟨rfl, rfl⟩
        · have hj : j < ls.length := (List.getElem?_eq_some_iff.1 hs1).1
          rcases snoc_get ht with ht1 | ⟨hj2, _⟩
          · exact ⟨(h.dL j s t hs1 ht1).1, (h.dL j s t hs1 ht1).2.evt eAll (fun k _ hk => eD k hk) (fun _ h => .inl h)⟩
          · omega
        · rcases snoc_get ht with ht1 | ⟨_, rfl⟩
          · have := (List.getElem?_eq_some_iff.1 ht1).1; omega
          · exact ⟨rfl, hlong.evt eT (fun k _ hk => nCT k hk) (fun _ h => .inr (.inr h))⟩
      case c1 =>
        intro hh
        rcases oA k hk with h1 | h1
        · obtain ⟨c, hc⟩ := own_typ h.rI k h1; exact apO k hc (by decide) (h.apI k h1) hh
        · obtain ⟨c, hc⟩ := own_typ hA9 k hk; exact apN k h1 hc (by decide) hh
      case c2 =>
        intro hh
        rcases oE k hk with h1 | h1
        · obtain ⟨c, hc⟩ := own_typ h.rL k h1; exact apO k hc (by decide) (h.apL k h1) hh
        · obtain ⟨c, hc⟩ := own_typ hE9 k hk; exact apN k h1 hc (by decide) hh
      case c6 =>
        have l6 := own_lt hA6 k hk
        rcases oA k hk with h1 | h1
        · rcases oE k hh with h2 | h2
          · exact h.dis k h1 h2
          · have := hlI k h1; omega
        · rcases oE6 k hh with h2 | h2
          · have := hlL k h2; omega
          · omega
      case c7 =>
        rcases hk with h1 | h1 | h1
        · have := hDl k h1; have := eAll.size; omega
        · have := hltV k h1; have := eAll.size; omega
        · exact lC k h1
      case d1 =>
        intro k hk
        rcases hk with h1 | h1 | h1
        · exact .inl h1
        · exact .inr (.inl h1)
        · rcases oC k h1 with h2 | h2
          · exact .inr (.inl h2)
          · exact .inr (.inr h2)
end Go.Proofs.YthfnlmedelfbnaaDoor
