/- The book: an answer of Tick is kept. EVT3 -/
import Derived.Test.YtmngcpackbekiaaBok16
namespace Go.Proofs.Ytmngcpackbekiaa
open Go.RowKit Go.Proofs.YtmngcpackbekiaaE
set_option linter.unusedSimpArgs false
set_option linter.unusedVariables false

/-- The old cells behind an append. -/
theorem keep_head {w1 wC : World} {e : TypeId} {V VC : Option Addr} {i d dC m : Nat} {xs news : List Value} (hV : w1.ownsRow 0 e 1 (.slice V i d) i xs) (hC : wC.ownsRow 0 e 1 (.slice VC (i + m) dC) (i + m) (xs ++ news)) (ha : (Value.slice VC (i + m) dC).ownBlock = (Value.slice V i d).ownBlock ∨ ((Value.slice VC (i + m) dC).ownBlock = some w1.heap.size ∧ Evt (fun _ => False) w1 wC)) :
    RG wC (fun k => (Value.slice V i d).ownBlock = some k) V xs := by
  rcases ha with ha | ⟨_, he⟩
  · intro hn
    rcases own_blk_of hV with ⟨_, h2⟩ | ⟨g, cap, cur, h1, _⟩
    · have := hV.1
      omega
    · have hg : (Value.slice V i d).ownBlock = some g := by rw [h1]; rfl
      simp only [Value.slice.injEq] at h1
      obtain ⟨rfl, _, _⟩ := h1
      rcases own_blk_of hC with ⟨h3, h4⟩ | ⟨g', cap', cur', h3, _⟩
      · rw [h3, hg] at ha
        simp [Value.ownBlock] at ha
      · have hg' : (Value.slice VC (i + m) dC).ownBlock = some g' := by rw [h3]; rfl
        rw [hg', hg] at ha
        obtain rfl := Option.some.inj ha
        simp only [Value.slice.injEq] at h3
        obtain ⟨rfl, _, _⟩ := h3
        obtain ⟨b, o, hb, hc⟩ := (RC.own hC) (by rw [List.length_append]; omega)
        cases hb
        exact ⟨_, 0, rfl, hg, fun j v hj => hc j v (by rw [List.getElem?_append_left (List.getElem?_eq_some_iff.1 hj).1]; exact hj)⟩
  · exact (RG.own hV (fun k hk => hk)).evt he (fun _ _ _ h => h) (fun _ h => h)
theorem snoc_get {α : Type} {l : List α} {x y : α} {j : Nat} (h : (l ++ [x])[j]? = some y) : l[j]? = some y ∨ (j = l.length ∧ y = x) := by
  rcases Nat.lt_or_ge j l.length with hj | hj
  · rw [List.getElem?_append_left hj] at h
    exact .inl h
  · rw [List.getElem?_append_right hj] at h
    have h1 : j - l.length < 1 := by have := (List.getElem?_eq_some_iff.1 h).1; simpa using this
    have h2 : j = l.length := by omega
    subst h2
    rw [Nat.sub_self] at h
    exact .inr ⟨rfl, (Option.some.inj h).symm⟩
theorem take_set1 {cur : List Value} {i : Nat} {v : Value} (h : cur.take i = List.replicate i v) (hi : i < cur.length) : (cur.set i v).take (i + 1) = List.replicate (i + 1) v := by
  have hl : i < (cur.set i v).length := by rw [List.length_set]; exact hi
  rw [List.take_succ_eq_append_getElem hl, List.getElem_set_self, List.replicate_succ']
  congr 1
  rw [← h]
  apply List.ext_getElem?
  intro k
  rw [List.getElem?_take, List.getElem?_take]
  by_cases hk : k < i
  · rw [if_pos hk, if_pos hk, List.getElem?_set_ne (by omega)]
  · rw [if_neg hk, if_neg hk]
set_option maxHeartbeats 4000000 in
theorem ids_any (D : Nat → Prop) (gB : Nat) (B : Bm) (vI vL vA vB vM : Value) (V : Option Addr) (n d : Nat) (xs : List Value) (w : World) (h : BookV w D gB B vI vL vA vB vM) (hV : w.ownsRow 0 3 1 (.slice V n d) n xs) (hVD : ∀ k, (Value.slice V n d).ownBlock = some k → ¬ D k) (hn : n ≤ 100000000000) (hbn : B.ids.length < 100000000000) :
    Calls Try.prog 37 #[.pointer (some ⟨gB, 0, none⟩), .slice V n d] w fun e w' => e = .returned (.tuple #[]) ∧ ∃ s1 s2 vI' vL' D', BookV w' D' gB { B with ids := B.ids ++ [s1], longs := B.longs ++ [s2] } vI' vL' vA vB vM ∧ (∀ k, D' k → D k ∨ (Value.slice V n d).ownBlock = some k ∨ (w.heap.size ≤ k ∧ k < w'.heap.size)) ∧
      (∀ k, vI'.ownBlock = some k → vI.ownBlock = some k ∨ w.heap.size ≤ k) ∧ (∀ k, vL'.ownBlock = some k → vL.ownBlock = some k ∨ w.heap.size ≤ k) ∧ Evt (fun k => k = gB ∨ vI.ownBlock = some k ∨ vL.ownBlock = some k ∨ (Value.slice V n d).ownBlock = some k) w w' := by
  have hblk := h.blk
  obtain ⟨AI, cI, rfl⟩ := own_slice h.rI
  obtain ⟨AL, cL, rfl⟩ := own_slice h.rL
  have hltV := own_lt hV
  have hVb : ∀ k, (Value.slice V n d).ownBlock = some k → ∃ cur, Blk w k 3 cur := own_typ hV
  have hVg : ∀ k, (Value.slice V n d).ownBlock = some k → ¬ k = gB := fun k hk hh => by
    obtain ⟨cur, hc⟩ := hVb k hk
    subst hh
    exact Blk.ne hblk hc (by decide) rfl
  go_enter Try.func37, Try.ntmps37
  repeat' (first | (with_reducible (first | refine' wp_seq ?_ | refine' wp_region_lit ?_ | refine' wpList_nil ?_ | refine' then_normal ?_ | refine' wp_block ?_)) | ((with_reducible refine' l_step ?_); ((first | (with_reducible refine' g_move ?_) | (with_reducible refine' g_assign ?_) | ((with_reducible refine' g_fieldAddr ?hx ?ho ?_); (case hx => rfl); (case ho => rfl)) | ((with_reducible refine' g_loadB ?hx ?hb ?hc ?_); (case hx => rfl); (case hb => exact bqq); first | (case hc => rfl) | (case hn => simp only [List.length_cons, List.length_nil]; omega)) | ((with_reducible refine' g_subN ?hx ?hy ?h0 ?h1 ?_); (case hx => rfl); (case hy => rfl); (case h0 => omega); (case h1 => omega)) | ((with_reducible refine' g_nilCheckP ?hx ?_); (case hx => rfl)) | ((with_reducible refine' g_lenS ?hx ?_); (case hx => rfl))); (conv => arg 5; simp only [zA, zB, ev, lget, zC, zD, zE, zF, zG, zH, zI, zJ, zK, zL, zM, zN, zO]))))
  refine' s_loop [5, 12, 13, 14, 15, 16, 17, 18, 19, 20, 21] (fun k u w' => ∃ i : Nat, k = n - i ∧ i ≤ n ∧ u 5 = .int .i64 i ∧ (∀ g, (Value.slice V n d).ownBlock = some g → ∃ cur, V = some ⟨g, 0, none⟩ ∧ Blk w' g 3 cur ∧ cur.length = d ∧ cur.take i = List.replicate i (.int .i64 (-7 - (B.ids.length : Int)))) ∧ Evt (fun k => (Value.slice V n d).ownBlock = some k) w w') n ?h0 ?round
  case h0 =>
    refine ⟨0, rfl, by omega, rfl, fun g hg => ?_, Evt.refl _ _⟩
    rcases own_blk_of hV with ⟨h1, h2⟩ | ⟨g', cap, cur, h1, hb, ht, hl, hc, _⟩
    · rw [h1] at hg
      simp [Value.ownBlock] at hg
    · simp only [Value.slice.injEq] at h1
      obtain ⟨rfl, _, rfl⟩ := h1
      simp only [Value.ownBlock, Option.some.injEq] at hg
      subst hg
      exact ⟨cur, rfl, hb, by simpa using hl, by simp⟩
  case round =>
    rintro k u w1 ⟨i, rfl, hi, h5, hrow, ev1⟩
    simp only [setW, List.foldl_cons, List.foldl_nil, List.set_cons_succ, List.set_cons_zero]
    simp only [h5]
    have z1 := ev1.size
    by_cases hlt : i < n
    · obtain ⟨gV, hgV⟩ : ∃ g, (Value.slice V n d).ownBlock = some g := by
        rcases own_blk_of hV with ⟨h1, h2⟩ | ⟨g', cap, cur, h1, _⟩
        · omega
        · exact ⟨g', by rw [h1]; rfl⟩
      obtain ⟨cur, rfl, hb1, hcl, hct⟩ := hrow gV hgV
      have hnd := own_cap hV (by omega)
      clear hrow
      repeat' (first | (with_reducible (first | refine' wp_seq ?_ | refine' wp_region_lit ?_ | refine' wpList_nil ?_ | refine' then_normal ?_ | refine' wp_block ?_ | refine' wp_skip ?_ | refine' in_normal ?_)) | ((with_reducible refine' c_condT ?hx ?_); (case hx => rfl)) | ((with_reducible refine' l_step ?_); (first | ((first | (with_reducible refine' g_move ?_) | (with_reducible refine' g_assign ?_) | ((with_reducible refine' g_addN ?hx ?hy ?h0 ?h1 ?_); (case hx => rfl); (case hy => rfl); (case h0 => omega); (case h1 => omega)) | ((with_reducible refine' g_lenS ?hx ?_); (case hx => rfl)) | ((with_reducible refine' g_indexAddr ?hx ?hy ?h0 ?h1 ?_); (case hx => rfl); (case hy => rfl); (case h0 => omega); (case h1 => omega))); (conv => arg 5; simp only [zA, zB, ev, lget, zC, zD, zE, zF, zG, zH, zI, zJ, zK, zL, zM, zN, zO])) | (((with_reducible refine' g_lss ?hx ?hy (fun _ => ?_) (fun _ => ?_)); (case hx => rfl)); (case hy => rfl); all_goals (first | (exfalso; omega) | (conv => arg 5; simp only [zA, zB, ev, lget, zC, zD, zE, zF, zG, zH, zI, zJ, zK, zL, zM, zN, zO]))))) | ((first | ((with_reducible refine' e_storeB ?hx ?hy ?hv ?h1 ?hb ?ho ?_); (case hx => rfl); (case hy => ((try simp only [ev, lget]); (try rfl))); (case hv => rfl); (case h1 => rfl)) | ((with_reducible refine' e_storeR ?hx ?hy ?h1 ?hb ?hn ?ho ?_); (case hx => rfl); (case hy => rfl); (case h1 => simp [Value.oneCell']); (case hn => rfl))); (case hb => exact bqq); (case ho => first | (simp only [List.length_cons, List.length_nil]; omega) | omega | (simp; omega) | simp); (try simp only [splice, zA, zB]); intro _ _ _ _))
      rename_i w2 hb2 e2 z2
      exact ⟨_, _, rfl, (by omega : n - (i + 1) < n - i), by simp only [zA, zB], i + 1, rfl, by omega, rfl, fun g hg => by
        have hgg : gV = g := Option.some.inj (hgV.symm.trans hg)
        subst hgg
        exact ⟨_, rfl, hb2, by rw [List.length_set]; exact hcl, take_set1 hct (by omega)⟩, Evt.next e2 ev1 (fun k _ hk => by have h' : k = gV := hk; rw [h']; exact hgV)⟩
    · obtain rfl : i = n := by omega
      have hV1 : w1.ownsRow 0 3 1 (.slice V i d) i (List.replicate i (.int .i64 (-7 - (B.ids.length : Int)))) := by
        rcases own_blk_of hV with ⟨h1, h2⟩ | ⟨g', cap, cur0, h1, _, _, _, hc1, hc2⟩
        · subst h2
          rw [h1]
          exact World.ownsRow_nil _ _ _ _
        · simp only [Value.slice.injEq] at h1
          obtain ⟨rfl, _, rfl⟩ := h1
          obtain ⟨cur, _, hb1, hcl, hct⟩ := hrow g' rfl
          exact ⟨by rw [List.length_replicate, Nat.mul_one], .inr ⟨g', d, cur.toArray, rfl, Nat.zero_le _, hb1, hc1, hc2, by simpa using hcl, by simpa using hct⟩⟩
      have hb1 := hblk.evt ev1 (fun hh => hVg gB hh rfl)
      have hI1 := own_evt ev1 h.rI (fun k hk hh => by
        obtain ⟨c1, hc1⟩ := own_typ h.rI k hk
        obtain ⟨c2, hc2⟩ := hVb k hh
        exact Blk.ne hc1 hc2 (by decide) rfl)
      have hL1 := own_evt ev1 h.rL (fun k hk hh => by
        obtain ⟨c1, hc1⟩ := own_typ h.rL k hk
        obtain ⟨c2, hc2⟩ := hVb k hh
        exact Blk.ne hc1 hc2 (by decide) rfl)
      have hIg : ¬ (Value.slice AI B.ids.length cI).ownBlock = some gB := fun hh => by
        obtain ⟨c1, hc1⟩ := own_typ h.rI gB hh
        exact Blk.ne hblk hc1 (by decide) rfl
      have hLg : ¬ (Value.slice AL B.longs.length cL).ownBlock = some gB := fun hh => by
        obtain ⟨c1, hc1⟩ := own_typ h.rL gB hh
        exact Blk.ne hblk hc1 (by decide) rfl
      clear hblk
      repeat' (first | (with_reducible refine' stop_reg (id := 6) ?_) | (((with_reducible refine' e_append ?hx ?hy ?hzs ?hsz ?hown ?hl ?hnews ?h1 ?hb ?hm ?_); (case hx => ((try simp only [ev, lget]); (try rfl))); (case hy => rfl); (case hzs => rfl); (case hsz => decide); (case hown => exact oqq); (case hnews => refine' blk_src ?hbb; (case hbb => exact bqq)); (case hl => rfl); (case h1 => simp [Value.oneCell']); (case hb => omega); (case hm => omega); intro vA wA hoA heA hnA haA hzA; (conv => arg 5; simp only [zA, zB, ev, lget, zC, zD, zE, zF, zG, zH, zI, zJ, zK, zL, zM, zN, zO])); have hlA := own_lt hoA; obtain ⟨VA, dA, hVA⟩ := own_slice hoA; subst hVA) | (with_reducible (first | refine' wp_seq ?_ | refine' wp_region_lit ?_ | refine' wpList_nil ?_ | refine' then_normal ?_ | refine' wp_exit ?_ | refine' then_exit ?_ | refine' in_exit ?_)) | ((with_reducible refine' c_condF ?hx ?_); (case hx => rfl)) | ((with_reducible refine' l_step ?_); (first | ((first | (with_reducible refine' g_move ?_) | ((with_reducible refine' g_fieldAddr ?hx ?ho ?_); (case hx => rfl); (case ho => rfl)) | ((with_reducible refine' g_loadB ?hx ?hb ?hc ?_); (case hx => rfl); (case hb => exact bqq); first | (case hc => rfl) | (case hn => simp only [List.length_cons, List.length_nil]; omega)) | ((with_reducible refine' g_nilCheckP ?hx ?_); (case hx => rfl)) | ((with_reducible refine' g_lenS ?hx ?_); (case hx => rfl))); (conv => arg 5; simp only [zA, zB, ev, lget, zC, zD, zE, zF, zG, zH, zI, zJ, zK, zL, zM, zN, zO])) | (((with_reducible refine' g_lss ?hx ?hy (fun _ => ?_) (fun _ => ?_)); (case hx => rfl)); (case hy => rfl); all_goals (first | (exfalso; omega) | (conv => arg 5; simp only [zA, zB, ev, lget, zC, zD, zE, zF, zG, zH, zI, zJ, zK, zL, zM, zN, zO]))))) | (((with_reducible refine' e_sliceLit ?hx ?hi ?hv ?hn ?_); (case hx => simp only [zC, zD, ev, lget]; (try rfl)); (case hi => rfl); (case hv => simp [Value.cells]); (case hn => decide); simp only [List.flatMap_cons, List.flatMap_nil, Value.cells, List.cons_append, List.nil_append]); intro _ _ _ _ _ _ _; (conv => arg 5; simp only [zA, zB, ev, lget, zC, zD, zE, zF, zG, zH, zI, zJ, zK, zL, zM, zN, zO])) | ((first | ((with_reducible refine' e_storeB ?hx ?hy ?hv ?h1 ?hb ?ho ?_); (case hx => rfl); (case hy => ((try simp only [ev, lget]); (try rfl))); (case hv => rfl); (case h1 => rfl)) | ((with_reducible refine' e_storeR ?hx ?hy ?h1 ?hb ?hn ?ho ?_); (case hx => rfl); (case hy => rfl); (case h1 => simp [Value.oneCell']); (case hn => rfl))); (case hb => exact bqq); (case ho => first | (simp only [List.length_cons, List.length_nil]; omega) | omega | (simp; omega) | simp); (try simp only [splice, zA, zB]); intro _ _ _ _))
      refine stop_go ?_
      rename_i g0 w0 y1 y2 y3 y4 y5 w6 hb6 e6 z6
      have hAI := own_typ hI1
      have hV6 := own_evt e6 (own_evt heA (own_evt y4 hV1 (fun _ _ h => h)) (fun k hk hh => by
        obtain ⟨c1, hc1⟩ := hAI k hh
        obtain ⟨c2, hc2⟩ := own_typ hV1 k hk
        exact Blk.ne hc1 hc2 (by decide) rfl)) (fun k hk hh => hVg k hk hh)
      have hLne : ∀ k, (Value.slice AL B.longs.length cL).ownBlock = some k → ¬ (Value.slice AI B.ids.length cI).ownBlock = some k := fun k hk hh => h.dis k hh hk
      have hL6 := own_evt e6 (own_evt heA (own_evt y4 hL1 (fun _ _ h => h)) (fun k hk hh => hLne k hk hh)) (fun k hk hh => hLg (by have h' : k = gB := hh; rw [← h']; exact hk))
      have hLV : ∀ k, (Value.slice AL B.longs.length cL).ownBlock = some k → ¬ (Value.slice V i d).ownBlock = some k := fun k hk hh => by
        obtain ⟨c1, hc1⟩ := own_typ hL1 k hk
        obtain ⟨c2, hc2⟩ := own_typ hV1 k hh
        exact Blk.ne hc1 hc2 (by decide) rfl
      have hlL := h.lL
      have hVgB : ¬ (Value.slice V i d).ownBlock = some gB := fun hh => hVg gB hh rfl
      clear hb1 hI1
      repeat' (first | ((with_reducible refine' w_tree (id := 6) (fun k => (Value.slice V i d).ownBlock = some k ∨ (Value.slice AL B.longs.length cL).ownBlock = some k ∨ k = gB) (.pure 0 (.pure 1 (.pure 2 (.pure 3 (.pure 5 (.pure 6 (.pure 7 (.two 4 (.one 8 (.one 9 (.one 10 (.one 11 (.pure 12 (.pure 13 (.one 14 .done))))))) 8 (.two 4 (.one 9 (.one 10 (.one 11 (.pure 12 (.pure 13 (.one 14 .done)))))) 9 (.two 4 (.one 10 (.one 11 (.pure 12 (.pure 13 (.one 14 .done))))) 10 (.one 4 (.one 11 (.pure 12 (.pure 13 (.one 14 .done))))))))))))))) [32, 33, 34, 35, 36, 37, 38, 39, 40, 41, 42, 43, 44, 45] (fun u w' => ∃ VC dC VE dE, Blk w' gB 73 [.slice VA (B.ids.length + 1) dA, .slice VE (B.longs.length + 1) dE, vA, vB, vM] ∧ w'.ownsRow 0 32 1 (.slice VE (B.longs.length + 1) dE) (B.longs.length + 1) (B.longs.map slV ++ [.slice VC (i + 2) dC]) ∧ RG w' (fun k => (Value.slice V i d).ownBlock = some k) V (List.replicate i (.int .i64 (-7 - (B.ids.length : Int)))) ∧ w'.ownsRow 0 3 1 (.slice VC (i + 2) dC) (i + 2) (List.replicate i (.int .i64 (-7 - (B.ids.length : Int))) ++ [.int .i64 (-7 - (B.ids.length : Int)), .int .i64 (-7 - (B.ids.length : Int))]) ∧ (∀ k, (Value.slice VC (i + 2) dC).ownBlock = some k → (Value.slice V i d).ownBlock = some k ∨ w6.heap.size ≤ k) ∧ (∀ k, (Value.slice VE (B.longs.length + 1) dE).ownBlock = some k → (Value.slice AL B.longs.length cL).ownBlock = some k ∨ w6.heap.size ≤ k)) ?hm ?hn ?hl ?hB ?ta6 ?tb6); (case hm => kernel_rfl); (case hn => kernel_rfl); (case hl => kernel_rfl); (case hB => kernel_rfl); intro _ _ _) | ((with_reducible refine' tt_pure ?hi ?hv ?_); (case hi => rfl); (case hv => intro _ hqS; have hqz := hqS.size; ((first | (with_reducible refine' g_move ?_) | ((with_reducible refine' g_fieldAddr ?hx ?ho ?_); (case hx => rfl); (case ho => rfl)) | ((with_reducible refine' g_nilCheckP ?hx ?_); (case hx => rfl))); exact rfl)); (conv => arg 6; simp only [zA, zB, ev, lget, zC, zD, zE, zF, zG, zH, zI, zJ, zK, zL, zM, zN, zO])) | ((with_reducible refine' tt_one ?hi ?_); (case hi => rfl)) | ((with_reducible refine' tt_two ?hi ?hj ?_ ?_); (case hi => rfl); (case hj => rfl)) | ((with_reducible refine' tt_done ?hS ?_); (case hS => exact eqq)) | (with_reducible refine' tt_nil ?_) | ((with_reducible refine' e_appS (v := .slice V i d) (n := i) (m := 2) (xs := List.replicate i (.int .i64 (-7 - (B.ids.length : Int)))) (news := [.int .i64 (-7 - (B.ids.length : Int)), .int .i64 (-7 - (B.ids.length : Int))]) ?hx ?hy ?hzs ?hsz ?hown ?hl ?hr ?h1 ?hb ?hm ?_); (case hx => rfl); (case hy => rfl); (case hzs => rfl); (case hsz => decide); (case hown => exact oqq); (case hl => rfl); (case hr => exact RC.blk (by exact bqq) 2 rfl); (case h1 => simp [Value.oneCell']); (case hb => omega); (case hm => omega); intro vC wC hoC heC haC hzC; obtain ⟨VC, dC, hVC⟩ := own_slice hoC; subst hVC; (conv => arg 5; simp only [zA, zB, ev, lget, zC, zD, zE, zF, zG, zH, zI, zJ, zK, zL, zM, zN, zO])) | ((with_reducible refine' e_appS (v := .slice AL B.longs.length cL) (n := B.longs.length) (m := 1) (xs := B.longs.map slV) (news := [.slice VC (i + 2) dC]) ?hx ?hy ?hzs ?hsz ?hown ?hl ?hr ?h1 ?hb ?hm ?_); (case hx => rfl); (case hy => rfl); (case hzs => rfl); (case hsz => decide); (case hown => exact oqq); (case hl => rfl); (case hr => exact RC.blk (by exact bqq) 1 rfl); (case h1 => simp [Value.oneCell']); (case hb => omega); (case hm => omega); intro vE wE hoE heE haE hzE; obtain ⟨VE, dE, hVE⟩ := own_slice hoE; subst hVE; (conv => arg 5; simp only [zA, zB, ev, lget, zC, zD, zE, zF, zG, zH, zI, zJ, zK, zL, zM, zN, zO])) | (with_reducible refine' wpList_nil ?_) | ((with_reducible refine' l_step ?_); (((with_reducible refine' g_loadB ?hx ?hb ?hc ?_); (case hx => rfl); (case hb => exact bqq); first | (case hc => rfl) | (case hn => simp only [List.length_cons, List.length_nil]; omega)); (conv => arg 5; simp only [zA, zB, ev, lget, zC, zD, zE, zF, zG, zH, zI, zJ, zK, zL, zM, zN, zO]))) | (((with_reducible refine' e_sliceLit ?hx ?hi ?hv ?hn ?_); (case hx => simp only [zC, zD, ev, lget]; (try rfl)); (case hi => rfl); (case hv => simp [Value.cells]); (case hn => decide); simp only [List.flatMap_cons, List.flatMap_nil, Value.cells, List.cons_append, List.nil_append]); intro _ _ _ _ _ _ _; (conv => arg 5; simp only [zA, zB, ev, lget, zC, zD, zE, zF, zG, zH, zI, zJ, zK, zL, zM, zN, zO])) | ((first | ((with_reducible refine' e_storeB ?hx ?hy ?hv ?h1 ?hb ?ho ?_); (case hx => rfl); (case hy => ((try simp only [ev, lget]); (try rfl))); (case hv => rfl); (case h1 => rfl)) | ((with_reducible refine' e_storeR ?hx ?hy ?h1 ?hb ?hn ?ho ?_); (case hx => rfl); (case hy => rfl); (case h1 => simp [Value.oneCell']); (case hn => rfl))); (case hb => exact bqq); (case ho => first | (simp only [List.length_cons, List.length_nil]; omega) | omega | (simp; omega) | simp); (try simp only [splice, zA, zB]); intro _ _ _ _))
      all_goals try (
        rename_i wd k1 k2 g1 w2 k3 k4 k5 ev2 k6 g2 w3 k7 k8 k9 ev3 k10 w9 hb9 e9 z9
        have hgB6 := hb6.lt
        have hlV6 := own_lt hV6
        have hlL6 := own_lt hL6
        have oC := own_or (B := w6.heap.size) (haC.imp id (fun h => h.1)) (by omega)
        have oE := own_or (B := w6.heap.size) (haE.imp id (fun h => h.1)) (by omega)
        have qV := own_evt ev2 (own_evt k1 hV6 (fun _ _ h => h)) (fun _ _ h => h)
        have qK := keep_head qV hoC haC
        have aV : ∀ k, (Value.slice V i d).ownBlock = some k → ¬ (Value.slice AL B.longs.length cL).ownBlock = some k := fun k hk hh => hLV k hh hk
        have aC : ∀ k, (Value.slice VC (i + 2) dC).ownBlock = some k → ¬ (Value.slice AL B.longs.length cL).ownBlock = some k := fun k hk hh => by
          rcases oC k hk with h1 | h1
          · exact hLV k hh h1
          · have := hlL6 k hh; omega
        have nV : ∀ k, (Value.slice V i d).ownBlock = some k → ¬ k = gB := fun k hk hh => hVg k hk hh
        have nC : ∀ k, (Value.slice VC (i + 2) dC).ownBlock = some k → ¬ k = gB := fun k hk hh => by
          rcases oC k hk with h1 | h1
          · exact hVg k h1 hh
          · omega
        have nE : ∀ k, (Value.slice VE (B.longs.length + 1) dE).ownBlock = some k → ¬ k = gB := fun k hk hh => by
          rcases oE k hk with h1 | h1
          · exact hLg (by rw [← hh]; exact h1)
          · omega
        exact ⟨_, rfl, by simp only [setW, List.foldl_cons, List.foldl_nil, List.set_cons_succ, List.set_cons_zero], VC, dC, VE, dE, hb9, own_evt e9 hoE nE, ((qK.evt ev3 (fun _ _ _ h => h) (fun _ h => h)).evt heE (fun k _ hk => aV k hk) (fun _ h => h)).evt e9 (fun k _ hk => nV k hk) (fun _ h => h), own_evt e9 (own_evt heE (own_evt ev3 hoC (fun _ _ h => h)) aC) nC, oC, oE⟩)
      rintro u9 w9 ev9 hz9 ⟨VC, dC, VE, dE, hb9, hoE9, hk9, hoC9, oC, oE⟩
      have eAll : Evt (fun k => k = gB ∨ (Value.slice AI B.ids.length cI).ownBlock = some k ∨ (Value.slice AL B.longs.length cL).ownBlock = some k ∨ (Value.slice V i d).ownBlock = some k) w w9 := Evt.next ev9 (Evt.next e6 (Evt.next heA (Evt.next y4 (ev1.mono fun _ _ h => .inr (.inr (.inr h))) (fun _ _ h => h.elim)) (fun _ _ h => .inr (.inl h))) (fun _ _ h => .inl h)) (fun _ _ h => by
        rcases h with h1 | h1 | h1
        · exact .inr (.inr (.inr h1))
        · exact .inr (.inr (.inl h1))
        · exact .inl h1)
      have oA : ∀ k, (Value.slice VA (B.ids.length + 1) dA).ownBlock = some k → (Value.slice AI B.ids.length cI).ownBlock = some k ∨ w.heap.size ≤ k := own_or haA (by omega)
      have hgl := h.blk.lt
      have nA : ∀ k, (Value.slice VA (B.ids.length + 1) dA).ownBlock = some k → ¬ k = gB := fun k hk hh => by
        rcases oA k hk with h1 | h1
        · exact hIg (by rw [← hh]; exact h1)
        · omega
      have hA6 := own_evt e6 hoA (fun k hk hh => nA k hk hh)
      have hA9 := own_evt ev9 hA6 (fun k hk hh => by
        rcases hh with h1 | h1 | h1
        · obtain ⟨c1, hc1⟩ := own_typ hA6 k hk
          obtain ⟨c2, hc2⟩ := own_typ hV6 k h1
          exact Blk.ne hc1 hc2 (by decide) rfl
        · rcases oA k hk with h2 | h2
          · exact hLne k h1 h2
          · have := own_lt h.rL k h1
            omega
        · exact nA k hk h1)
      have hDl := h.lt
      have z69 : w.heap.size ≤ w6.heap.size := by omega
      have oE' : ∀ k, (Value.slice VE (B.longs.length + 1) dE).ownBlock = some k → (Value.slice AL B.longs.length cL).ownBlock = some k ∨ w.heap.size ≤ k := fun k hk => by
        rcases oE k hk with h1 | h1
        · exact .inl h1
        · exact .inr (by omega)
      have oC' : ∀ k, (Value.slice VC (i + 2) dC).ownBlock = some k → (Value.slice V i d).ownBlock = some k ∨ w.heap.size ≤ k := fun k hk => by
        rcases oC k hk with h1 | h1
        · exact .inl h1
        · exact .inr (by omega)
      have eD : ∀ k, D k → ¬ (k = gB ∨ (Value.slice AI B.ids.length cI).ownBlock = some k ∨ (Value.slice AL B.longs.length cL).ownBlock = some k ∨ (Value.slice V i d).ownBlock = some k) := fun k hk hh => by
        rcases hh with h1 | h1 | h1 | h1
        · exact h.apg (h1 ▸ hk)
        · exact h.apI k h1 hk
        · exact h.apL k h1 hk
        · exact hVD k h1 hk
      have tV : ∀ k, (Value.slice V i d).ownBlock = some k → ∃ c, Blk w k 3 c := hVb
      have lC := own_lt hoC9
      have tC : ∀ k, (Value.slice VC (i + 2) dC).ownBlock = some k → ∃ c, Blk w9 k 3 c := own_typ hoC9
      have apO : ∀ {t : TypeId} {cs : List Value} (k : Nat), Blk w k t cs → t ≠ 3 → ¬ D k → ¬ (D k ∨ (Value.slice V i d).ownBlock = some k ∨ (Value.slice VC (i + 2) dC).ownBlock = some k) := fun k hb hn hd hh => by
        rcases hh with h1 | h1 | h1
        · exact hd h1
        · obtain ⟨c1, hc1⟩ := tV k h1
          exact Blk.ne hb hc1 hn rfl
        · rcases oC' k h1 with h2 | h2
          · obtain ⟨c1, hc1⟩ := tV k h2
            exact Blk.ne hb hc1 hn rfl
          · have := hb.lt
            omega
      have apN : ∀ {t : TypeId} {cs : List Value} (k : Nat), w.heap.size ≤ k → Blk w9 k t cs → t ≠ 3 → ¬ (D k ∨ (Value.slice V i d).ownBlock = some k ∨ (Value.slice VC (i + 2) dC).ownBlock = some k) := fun k h1 hb hn hh => by
        rcases hh with h2 | h2 | h2
        · have := hDl k h2
          omega
        · have := hltV k h2
          omega
        · obtain ⟨c1, hc1⟩ := tC k h2
          exact Blk.ne hb hc1 hn rfl
      repeat' (first | ((with_reducible refine' b_end0 ?hr ?_); (case hr => rfl)))
      refine ⟨rfl, ⟨V, i, d⟩, ⟨VC, i + 2, dC⟩, .slice VA (B.ids.length + 1) dA, .slice VE (B.longs.length + 1) dE, (fun k => D k ∨ (Value.slice V i d).ownBlock = some k ∨ (Value.slice VC (i + 2) dC).ownBlock = some k), {
        blk := hb9
        rI := by rw [List.length_append, List.map_append]; exact hA9
        rL := by rw [List.length_append, List.map_append]; exact hoE9
        rA := own_evt eAll h.rA (fun k hk hh => ?a1)
        rB := own_evt eAll h.rB (fun k hk hh => ?a2)
        rM := own_evt eAll h.rM (fun k hk hh => ?a3)
        lL := by rw [List.length_append, List.length_append, h.lL]; rfl
        lM := h.lM
        dI := fun j s hs => ?b1
        dL := fun j s hs => ?b2
        dA := fun j s hs => ⟨(h.dA j s hs).1, (h.dA j s hs).2.evt eAll (fun k _ hk => eD k hk) (fun _ h => .inl h)⟩
        dB := fun j s m hs hm => ⟨(h.dB j s m hs hm).1, (h.dB j s m hs hm).2.evt eAll (fun k _ hk => eD k hk) (fun _ h => .inl h)⟩
        apI := fun k hk => ?c1
        apL := fun k hk => ?c2
        apA := fun k hk => ?c3
        apB := fun k hk => ?c4
        apM := fun k hk => ?c5
        apg := apO gB h.blk (by decide) h.apg
        dis := fun k hk hh => ?c6
        lt := fun k hk => ?c7
        len := ⟨by rw [List.length_append, List.length_singleton]; omega, h.len.2⟩ }, ?d1, ?d2, ?d3, eAll⟩
      case a1 =>
        obtain ⟨c1, hc1⟩ := own_typ h.rA k hk
        rcases hh with h1 | h1 | h1 | h1
        · subst h1; exact Blk.ne h.blk hc1 (by decide) rfl
        · obtain ⟨c2, hc2⟩ := own_typ h.rI k h1; exact Blk.ne hc1 hc2 (by decide) rfl
        · obtain ⟨c2, hc2⟩ := own_typ h.rL k h1; exact Blk.ne hc1 hc2 (by decide) rfl
        · obtain ⟨c2, hc2⟩ := hVb k h1; exact Blk.ne hc1 hc2 (by decide) rfl
      case a2 =>
        obtain ⟨c1, hc1⟩ := own_typ h.rB k hk
        rcases hh with h1 | h1 | h1 | h1
        · subst h1; exact Blk.ne h.blk hc1 (by decide) rfl
        · obtain ⟨c2, hc2⟩ := own_typ h.rI k h1; exact Blk.ne hc1 hc2 (by decide) rfl
        · obtain ⟨c2, hc2⟩ := own_typ h.rL k h1; exact Blk.ne hc1 hc2 (by decide) rfl
        · obtain ⟨c2, hc2⟩ := hVb k h1; exact Blk.ne hc1 hc2 (by decide) rfl
      case a3 =>
        obtain ⟨c1, hc1⟩ := own_typ h.rM k hk
        rcases hh with h1 | h1 | h1 | h1
        · subst h1; exact Blk.ne h.blk hc1 (by decide) rfl
        · obtain ⟨c2, hc2⟩ := own_typ h.rI k h1; exact Blk.ne hc1 hc2 (by decide) rfl
        · obtain ⟨c2, hc2⟩ := own_typ h.rL k h1; exact Blk.ne hc1 hc2 (by decide) rfl
        · obtain ⟨c2, hc2⟩ := hVb k h1; exact Blk.ne hc1 hc2 (by decide) rfl
      case b1 =>
        rcases snoc_get hs with hs1 | ⟨rfl, rfl⟩
        · exact ⟨(h.dI j s hs1).1, (h.dI j s hs1).2.evt eAll (fun k _ hk => eD k hk) (fun _ h => .inl h)⟩
        · exact ⟨by show i ≤ _; omega, hk9.evt (Evt.refl (fun _ => False) w9) (fun _ _ _ h => h) (fun _ h => .inr (.inl h))⟩
      case b2 =>
        rcases snoc_get hs with hs1 | ⟨rfl, rfl⟩
        · exact ⟨(h.dL j s hs1).1, (h.dL j s hs1).2.evt eAll (fun k _ hk => eD k hk) (fun _ h => .inl h)⟩
        · refine ⟨by show i + 2 ≤ _; omega, ?_⟩
          show RG w9 _ VC (List.replicate (i + 2) _)
          rw [show List.replicate (i + 2) (Value.int .i64 (-7 - ((B.longs.length : Nat) : Int))) = List.replicate i (.int .i64 (-7 - ((B.longs.length : Nat) : Int))) ++ [.int .i64 (-7 - ((B.longs.length : Nat) : Int)), .int .i64 (-7 - ((B.longs.length : Nat) : Int))] by rw [← List.replicate_append_replicate]; rfl, hlL]
          exact RG.own hoC9 (fun k hk => .inr (.inr hk))
      case c1 =>
        intro hh
        rcases oA k hk with h1 | h1
        · obtain ⟨c, hc⟩ := own_typ h.rI k h1; exact apO k hc (by decide) (h.apI k h1) hh
        · obtain ⟨c, hc⟩ := own_typ hA9 k hk; exact apN k h1 hc (by decide) hh
      case c2 =>
        intro hh
        rcases oE' k hk with h1 | h1
        · obtain ⟨c, hc⟩ := own_typ h.rL k h1; exact apO k hc (by decide) (h.apL k h1) hh
        · obtain ⟨c, hc⟩ := own_typ hoE9 k hk; exact apN k h1 hc (by decide) hh
      case c3 => obtain ⟨c, hc⟩ := own_typ h.rA k hk; exact apO k hc (by decide) (h.apA k hk)
      case c4 => obtain ⟨c, hc⟩ := own_typ h.rB k hk; exact apO k hc (by decide) (h.apB k hk)
      case c5 => obtain ⟨c, hc⟩ := own_typ h.rM k hk; exact apO k hc (by decide) (h.apM k hk)
      case c6 =>
        rcases oA k hk with h1 | h1
        · rcases oE k hh with h2 | h2
          · exact h.dis k h1 h2
          · have := own_lt h.rI k h1
            omega
        · rcases oE k hh with h2 | h2
          · have := own_lt h.rL k h2
            omega
          · have := own_lt hA6 k hk
            omega
      case c7 =>
        rcases hk with h1 | h1 | h1
        · have := hDl k h1; omega
        · have := hltV k h1; omega
        · exact lC k h1
      case d1 =>
        intro k hk
        rcases hk with h1 | h1 | h1
        · exact .inl h1
        · exact .inr (.inl h1)
        · rcases oC' k h1 with h2 | h2
          · exact .inr (.inl h2)
          · exact .inr (.inr ⟨h2, lC k h1⟩)
      case d2 => exact fun k hk => oA k hk
      case d3 => exact fun k hk => oE' k hk
end Go.Proofs.Ytmngcpackbekiaa
