/- The shelf: is each list as its holder left it? SHORT -/
import Derived.Test.YthfnlmedelfbnaaDoorShl13b
namespace Go.Proofs.YthfnlmedelfbnaaDoor
open Go.RowKit Go.Proofs.YthfnlmedelfbnaaDoorE
set_option linter.unusedSimpArgs false
set_option linter.unusedVariables false

theorem longC_lo {n : Nat} {m : Int} {k : Nat} (h : k < n) : (longC n m)[k]? = some (.int .i64 m) := by
  unfold longC
  rw [List.getElem?_append_left (by rw [List.length_replicate]; exact h), List.getElem?_replicate, if_pos h]
theorem longC_hi {n : Nat} {m : Int} {k : Nat} (h : n ≤ k) (h2 : k < n + 64) : (longC n m)[k]? = some (.int .i64 0) := by
  unfold longC
  rw [List.getElem?_append_right (by rw [List.length_replicate]; exact h), List.length_replicate, List.getElem?_replicate, if_pos (by omega)]
theorem RG.at {w : World} {G : Nat → Prop} {A : Option Addr} {cs : List Value} {k : Nat} {v : Value} (h : RG w G A cs) (hk : cs[k]? = some v) : ∃ b o, A = some ⟨b, o, none⟩ ∧ w.cell? ⟨b, o + k, none⟩ = some v := by
  obtain ⟨b, o, hA, _, hc⟩ := h (by have := (List.getElem?_eq_some_iff.1 hk).1; omega)
  exact ⟨b, o, hA, hc k v hk⟩
set_option maxRecDepth 20000 in
set_option maxHeartbeats 8000000 in
theorem still_any (D : Nat → Prop) (gS : Nat) (ls ms : List Sl) (vI vL : Value) (w : World) (h : ShelfV w D gS ls ms vI vL) :
    Calls Tryd.prog 12 #[.pointer (some ⟨gS, 0, none⟩)] w fun e w' => e = .returned (.bool true) ∧ Evt (fun _ => False) w w' := by
  have hblk := h.blk
  obtain ⟨AI, cI, rfl⟩ := own_slice h.rI
  obtain ⟨AL, cL, rfl⟩ := own_slice h.rL
  have hbd := h.bd
  have hlm := h.len
  go_enter Tryd.func12, Tryd.ntmps12
  repeat' (first | (with_reducible (first | refine' wp_seq ?_ | refine' wp_region_lit ?_ | refine' wpList_nil ?_ | refine' then_normal ?_ | refine' wp_block ?_)) | ((with_reducible refine' l_step ?_); ((with_reducible refine' g_assign ?_); (conv => arg 5; simp only [zA, zB, ev, lget, zC, zD, zE, zF, zG, zH, zI, zJ, zK, zL, zM, zN]))))
  refine' s_loop [2, 3, 4, 5, 6, 7, 8, 9, 10, 11, 12, 13, 14, 15, 16, 17, 18, 19, 20, 21, 22, 23, 24, 25, 26, 27, 28, 29, 30, 31, 32, 33, 34, 35, 36, 37, 38, 39, 40, 41, 42, 43, 44, 45, 46, 47, 48, 49, 50, 51, 52, 53, 54, 55, 56, 57, 58, 59, 60, 61, 62, 63, 64, 65, 66, 67, 68, 69, 70, 71, 72, 73, 74, 75, 76, 77, 78, 79, 80, 81, 82, 83, 84, 85] (fun n u w' => ∃ i : Nat, n = ls.length - i ∧ i ≤ ls.length ∧ u 3 = .int .i64 i ∧ w' = w) ls.length ?h0 ?round
  case h0 => exact ⟨0, rfl, by omega, rfl, rfl⟩
  case round =>
    rintro n u w1 ⟨i, rfl, hi, h3, rfl⟩
    simp only [setW, List.foldl_cons, List.foldl_nil, List.set_cons_succ, List.set_cons_zero]
    simp only [h3]
    by_cases hlt : i < ls.length
    · obtain ⟨b1, k1, e1, hc1⟩ := own_at h.rI rfl hlt
      obtain ⟨b2, k2, e2, hc2⟩ := own_at h.rL rfl (by omega : i < ms.length)
      simp only [Value.slice.injEq] at e1 e2
      obtain ⟨rfl, _, rfl⟩ := e1
      obtain ⟨rfl, _, rfl⟩ := e2
      have hd1 := h.dI i _ (List.getElem?_eq_getElem hlt)
      have hd2 := h.dL i _ _ (List.getElem?_eq_getElem hlt) (List.getElem?_eq_getElem (by omega : i < ms.length))
      generalize ls[i] = s1 at *
      generalize ms[i]'(by omega) = s2 at *
      obtain ⟨A1, n1, c1⟩ := s1
      obtain ⟨A2, n2, c2⟩ := s2
      obtain ⟨hn1, hd1⟩ := hd1
      obtain ⟨hn2, hd2⟩ := hd2
      have hn2' : n2 = n1 + 64 := hn2
      subst hn2'
      have hn1' : n1 ≤ 1000000000 := hn1
      simp only [slV] at hc1 hc2
      simp only [mkS] at hd1 hd2
      repeat' (first | (with_reducible (first | refine' wp_seq ?_ | refine' wp_region_lit ?_ | refine' wpList_nil ?_ | refine' then_normal ?_ | refine' wp_block ?_ | refine' wp_skip ?_)) | ((with_reducible refine' c_condT ?hx ?_); (case hx => rfl)) | ((with_reducible refine' l_step ?_); (first | ((first | (with_reducible refine' g_move ?_) | (with_reducible refine' g_assign ?_) | ((with_reducible refine' g_fieldAddr ?hx ?ho ?_); (case hx => rfl); (case ho => rfl)) | ((with_reducible refine' g_loadB ?hx ?hb ?hc ?_); (case hx => rfl); (case hb => exact bqq); first | (case hc => rfl) | (case hn => simp only [List.length_cons, List.length_nil]; omega)) | ((with_reducible refine' g_nilCheckP ?hx ?_); (case hx => rfl)) | ((with_reducible refine' g_lenS ?hx ?_); (case hx => rfl))); (conv => arg 5; simp only [zA, zB, ev, lget, zC, zD, zE, zF, zG, zH, zI, zJ, zK, zL, zM, zN])) | (((with_reducible refine' g_lss ?hx ?hy (fun _ => ?_) (fun _ => ?_)); (case hx => rfl)); (case hy => rfl); all_goals (first | (exfalso; omega) | (conv => arg 5; simp only [zA, zB, ev, lget, zC, zD, zE, zF, zG, zH, zI, zJ, zK, zL, zM, zN]))))))
      refine' s_loop [2, 4, 15, 16, 17, 18, 19, 20, 21, 22, 23, 24, 25, 26, 27, 28, 29, 30, 31, 32, 33, 34, 35, 36, 37, 38, 39, 40, 41, 42, 43, 44, 45, 46, 47, 48, 49, 50, 51, 52, 53, 54] (fun n u w' => ∃ k : Nat, n = n1 - k ∧ k ≤ n1 ∧ u 4 = .int .i64 k ∧ w' = w1) n1 ?h1 ?round1
      case h1 => exact ⟨0, rfl, by omega, rfl, rfl⟩
      case round1 =>
        rintro n u2 w2 ⟨k, rfl, hk, h4, rfl⟩
        simp only [setW, List.foldl_cons, List.foldl_nil, List.set_cons_succ, List.set_cons_zero]
        simp only [h4]
        by_cases hkl : k < n1
        · obtain ⟨b3, o3, hA3, hc3⟩ := RG.rep hd1 hkl
          have hA3' : A1 = some ⟨b3, o3, none⟩ := hA3
          subst hA3'
          obtain ⟨b4, o4, hA4, hc4⟩ := RG.at hd2 (longC_lo hkl)
          have hA4' : A2 = some ⟨b4, o4, none⟩ := hA4
          subst hA4'
          repeat' (first | (with_reducible (first | refine' wp_seq ?_ | refine' wp_region_lit ?_ | refine' wpList_nil ?_ | refine' then_normal ?_ | refine' wp_block ?_ | refine' wp_skip ?_ | refine' in_normal ?_)) | ((with_reducible refine' c_condT ?hx ?_); (case hx => rfl)) | ((with_reducible refine' c_condF ?hx ?_); (case hx => rfl)) | ((with_reducible refine' l_step ?_); (first | ((first | (with_reducible refine' g_move ?_) | (with_reducible refine' g_assign ?_) | ((with_reducible refine' g_fieldAddr ?hx ?ho ?_); (case hx => rfl); (case ho => rfl)) | ((with_reducible refine' g_loadB ?hx ?hb ?hc ?_); (case hx => rfl); (case hb => exact bqq); first | (case hc => rfl) | (case hn => simp only [List.length_cons, List.length_nil]; omega)) | ((with_reducible refine' g_loadC ?hx ?hc ?_); (case hx => rfl); (case hc => exact cqq)) | ((first | (with_reducible refine' g_addN ?hx ?hy ?h0 ?h1 ?_) | (with_reducible refine' g_subN ?hx ?hy ?h0 ?h1 ?_)); (case hx => rfl); (case hy => rfl); (case h0 => omega); (case h1 => omega)) | ((with_reducible refine' g_pickF ?hx ?_); (case hx => rfl)) | ((with_reducible refine' g_nilCheckP ?hx ?_); (case hx => rfl)) | ((with_reducible refine' g_lenS ?hx ?_); (case hx => rfl)) | ((with_reducible refine' g_indexAddr ?hx ?hy ?h0 ?h1 ?_); (case hx => rfl); (case hy => rfl); (case h0 => omega); (case h1 => omega))); (conv => arg 5; simp only [zA, zB, ev, lget, zC, zD, zE, zF, zG, zH, zI, zJ, zK, zL, zM, zN])) | ((first | ((with_reducible refine' g_lss ?hx ?hy (fun _ => ?_) (fun _ => ?_)); (case hx => rfl)) | ((with_reducible refine' g_neq ?hx ?hy (fun _ => ?_) (fun _ => ?_)); (case hx => rfl))); (case hy => rfl); all_goals (first | (exfalso; omega) | (conv => arg 5; simp only [zA, zB, ev, lget, zC, zD, zE, zF, zG, zH, zI, zJ, zK, zL, zM, zN]))))) | ((with_reducible refine' l_on ?hw ?_); (case hw => rfl)))
          all_goals exact ⟨_, _, rfl, (by omega : n1 - (k + 1) < n1 - k), by simp only [zA, zB], k + 1, rfl, by omega, rfl, rfl⟩
        · obtain rfl : k = n1 := by omega
          repeat' (first | (with_reducible (first | refine' wp_seq ?_ | refine' wp_region_lit ?_ | refine' wpList_nil ?_ | refine' then_normal ?_ | refine' wp_block ?_ | refine' wp_exit ?_ | refine' then_exit ?_ | refine' in_exit ?_)) | ((with_reducible refine' c_condF ?hx ?_); (case hx => rfl)) | ((with_reducible refine' l_step ?_); (first | ((first | (with_reducible refine' g_move ?_) | (with_reducible refine' g_assign ?_) | ((with_reducible refine' g_fieldAddr ?hx ?ho ?_); (case hx => rfl); (case ho => rfl)) | ((with_reducible refine' g_loadB ?hx ?hb ?hc ?_); (case hx => rfl); (case hb => exact bqq); first | (case hc => rfl) | (case hn => simp only [List.length_cons, List.length_nil]; omega)) | ((with_reducible refine' g_loadC ?hx ?hc ?_); (case hx => rfl); (case hc => exact cqq)) | ((with_reducible refine' g_nilCheckP ?hx ?_); (case hx => rfl)) | ((with_reducible refine' g_lenS ?hx ?_); (case hx => rfl)) | ((with_reducible refine' g_indexAddr ?hx ?hy ?h0 ?h1 ?_); (case hx => rfl); (case hy => rfl); (case h0 => omega); (case h1 => omega))); (conv => arg 5; simp only [zA, zB, ev, lget, zC, zD, zE, zF, zG, zH, zI, zJ, zK, zL, zM, zN])) | (((with_reducible refine' g_lss ?hx ?hy (fun _ => ?_) (fun _ => ?_)); (case hx => rfl)); (case hy => rfl); all_goals (first | (exfalso; omega) | (conv => arg 5; simp only [zA, zB, ev, lget, zC, zD, zE, zF, zG, zH, zI, zJ, zK, zL, zM, zN]))))))
          refine' s_loop [2, 5, 63, 64, 65, 66, 67, 68, 69, 70, 71, 72, 73, 74, 75, 76, 77, 78, 79, 80, 81, 82, 83, 84, 85] (fun n u w' => ∃ j : Nat, n = (k + 64) - j ∧ k ≤ j ∧ j ≤ k + 64 ∧ u 5 = .int .i64 j ∧ w' = w2) 64 ?h2 ?round2
          case h2 => exact ⟨k, by omega, by omega, by omega, rfl, rfl⟩
          case round2 =>
            rintro n u3 w3 ⟨j, rfl, hj1, hj2, h5, rfl⟩
            simp only [setW, List.foldl_cons, List.foldl_nil, List.set_cons_succ, List.set_cons_zero]
            simp only [h5]
            by_cases hjl : j < k + 64
            · obtain ⟨b4, o4, hA4, hc4⟩ := RG.at hd2 (longC_hi hj1 hjl)
              have hA4' : A2 = some ⟨b4, o4, none⟩ := hA4
              subst hA4'
              repeat' (first | (with_reducible (first | refine' wp_seq ?_ | refine' wp_region_lit ?_ | refine' wpList_nil ?_ | refine' then_normal ?_ | refine' wp_block ?_ | refine' wp_skip ?_ | refine' in_normal ?_)) | ((with_reducible refine' c_condT ?hx ?_); (case hx => rfl)) | ((with_reducible refine' c_condF ?hx ?_); (case hx => rfl)) | ((with_reducible refine' l_step ?_); (first | ((first | (with_reducible refine' g_move ?_) | (with_reducible refine' g_assign ?_) | ((with_reducible refine' g_fieldAddr ?hx ?ho ?_); (case hx => rfl); (case ho => rfl)) | ((with_reducible refine' g_loadB ?hx ?hb ?hc ?_); (case hx => rfl); (case hb => exact bqq); first | (case hc => rfl) | (case hn => simp only [List.length_cons, List.length_nil]; omega)) | ((with_reducible refine' g_loadC ?hx ?hc ?_); (case hx => rfl); (case hc => exact cqq)) | ((with_reducible refine' g_addN ?hx ?hy ?h0 ?h1 ?_); (case hx => rfl); (case hy => rfl); (case h0 => omega); (case h1 => omega)) | ((with_reducible refine' g_nilCheckP ?hx ?_); (case hx => rfl)) | ((with_reducible refine' g_lenS ?hx ?_); (case hx => rfl)) | ((with_reducible refine' g_indexAddr ?hx ?hy ?h0 ?h1 ?_); (case hx => rfl); (case hy => rfl); (case h0 => omega); (case h1 => omega))); (conv => arg 5; simp only [zA, zB, ev, lget, zC, zD, zE, zF, zG, zH, zI, zJ, zK, zL, zM, zN])) | ((first | ((with_reducible refine' g_lss ?hx ?hy (fun _ => ?_) (fun _ => ?_)); (case hx => rfl)) | ((with_reducible refine' g_neq ?hx ?hy (fun _ => ?_) (fun _ => ?_)); (case hx => rfl))); (case hy => rfl); all_goals (first | (exfalso; omega) | (conv => arg 5; simp only [zA, zB, ev, lget, zC, zD, zE, zF, zG, zH, zI, zJ, zK, zL, zM, zN]))))))
              all_goals exact ⟨_, _, rfl, (by omega : k + 64 - (j + 1) < k + 64 - j), by simp only [zA, zB], j + 1, rfl, by omega, by omega, rfl, rfl⟩
            · obtain rfl : j = k + 64 := by omega
              repeat' (first | (with_reducible (first | refine' wp_seq ?_ | refine' wp_region_lit ?_ | refine' wpList_nil ?_ | refine' then_normal ?_ | refine' wp_exit ?_ | refine' then_exit ?_ | refine' in_normal ?_ | refine' in_exit ?_)) | ((with_reducible refine' c_condF ?hx ?_); (case hx => rfl)) | ((with_reducible refine' l_step ?_); (first | ((first | (with_reducible refine' g_move ?_) | (with_reducible refine' g_assign ?_) | ((with_reducible refine' g_fieldAddr ?hx ?ho ?_); (case hx => rfl); (case ho => rfl)) | ((with_reducible refine' g_loadB ?hx ?hb ?hc ?_); (case hx => rfl); (case hb => exact bqq); first | (case hc => rfl) | (case hn => simp only [List.length_cons, List.length_nil]; omega)) | ((with_reducible refine' g_loadC ?hx ?hc ?_); (case hx => rfl); (case hc => exact cqq)) | ((with_reducible refine' g_addN ?hx ?hy ?h0 ?h1 ?_); (case hx => rfl); (case hy => rfl); (case h0 => omega); (case h1 => omega)) | ((with_reducible refine' g_nilCheckP ?hx ?_); (case hx => rfl)) | ((with_reducible refine' g_lenS ?hx ?_); (case hx => rfl)) | ((with_reducible refine' g_indexAddr ?hx ?hy ?h0 ?h1 ?_); (case hx => rfl); (case hy => rfl); (case h0 => omega); (case h1 => omega))); (conv => arg 5; simp only [zA, zB, ev, lget, zC, zD, zE, zF, zG, zH, zI, zJ, zK, zL, zM, zN])) | (((with_reducible refine' g_lss ?hx ?hy (fun _ => ?_) (fun _ => ?_)); (case hx => rfl)); (case hy => rfl); all_goals (first | (exfalso; omega) | (conv => arg 5; simp only [zA, zB, ev, lget, zC, zD, zE, zF, zG, zH, zI, zJ, zK, zL, zM, zN]))))))
              all_goals exact ⟨_, _, rfl, (by omega : ls.length - (i + 1) < ls.length - i), by simp only [zA, zB], i + 1, rfl, by omega, rfl, rfl⟩
    · obtain rfl : i = ls.length := by omega
      repeat' (first | (with_reducible (first | refine' wp_seq ?_ | refine' wp_region_lit ?_ | refine' wpList_nil ?_ | refine' then_normal ?_ | refine' wp_ret ?_ | refine' wp_exit ?_ | refine' then_exit ?_ | refine' in_exit ?_)) | ((with_reducible refine' c_condF ?hx ?_); (case hx => rfl)) | ((with_reducible refine' b_ret1 ?hr ?hv ?_); (case hr => rfl); (case hv => ((try simp only [ev, lget]); (try rfl)))) | ((with_reducible refine' l_step ?_); (first | ((first | (with_reducible refine' g_move ?_) | (with_reducible refine' g_assign ?_) | ((with_reducible refine' g_fieldAddr ?hx ?ho ?_); (case hx => rfl); (case ho => rfl)) | ((with_reducible refine' g_loadB ?hx ?hb ?hc ?_); (case hx => rfl); (case hb => exact bqq); first | (case hc => rfl) | (case hn => simp only [List.length_cons, List.length_nil]; omega)) | ((with_reducible refine' g_nilCheckP ?hx ?_); (case hx => rfl)) | ((with_reducible refine' g_lenS ?hx ?_); (case hx => rfl))); (conv => arg 5; simp only [zA, zB, ev, lget, zC, zD, zE, zF, zG, zH, zI, zJ, zK, zL, zM, zN])) | (((with_reducible refine' g_lss ?hx ?hy (fun _ => ?_) (fun _ => ?_)); (case hx => rfl)); (case hy => rfl); all_goals (first | (exfalso; omega) | (conv => arg 5; simp only [zA, zB, ev, lget, zC, zD, zE, zF, zG, zH, zI, zJ, zK, zL, zM, zN]))))))
      exact ⟨rfl, Evt.refl _ _⟩
end Go.Proofs.YthfnlmedelfbnaaDoor
