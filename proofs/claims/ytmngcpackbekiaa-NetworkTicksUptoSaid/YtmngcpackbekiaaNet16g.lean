/- The network: the laws' own helpers. -/
import Derived.Test.YtmngcpackbekiaaNet16f
namespace Go.Proofs.Ytmngcpackbekiaa
open Go.RowKit Go.Proofs.YtmngcpackbekiaaE
set_option linter.unusedSimpArgs false
set_option linter.unusedVariables false

theorem ret_bool {x y : Bool} (h : x = y) : Ending.returned (.bool x) = Ending.returned (.bool y) := by rw [h]
theorem RC.at_ {α : Type} {f : α → Value} {w : World} {A : Option Addr} {xs : List α} (h : RC w A (xs.map f)) {i : Nat} (hi : i < xs.length) : ∃ b o, A = some ⟨b, o, none⟩ ∧ w.cell? ⟨b, o + i, none⟩ = some (f xs[i]) := by
  obtain ⟨b, o, rfl, hc⟩ := h (by rw [List.length_map]; omega)
  exact ⟨b, o, rfl, hc i _ (by simp [hi])⟩
set_option maxHeartbeats 2000000 in
theorem sameIDs_any (A B : Option Addr) (c d n m : Nat) (xs ys : List Int) (w : World) (hr : RC w A (ints xs)) (hs : RC w B (ints ys)) (hn : xs.length = n) (hm : ys.length = m) (hl : n ≤ 9223372036854775807) (hl2 : m ≤ 9223372036854775807) :
    Calls Try.prog 18 #[.slice A n c, .slice B m d] w fun e w' => e = .returned (.bool (decide (xs = ys))) ∧ Evt (fun _ => False) w w' := by
  subst hn
  subst hm
  go_enter Try.func18, Try.ntmps18
  repeat' (first | (with_reducible (first | refine' wp_seq ?_ | refine' wp_region_lit ?_ | refine' wpList_nil ?_ | refine' then_normal ?_ | refine' wp_block ?_ | refine' wp_ret ?_ | refine' wp_skip ?_ | refine' then_ret ?_)) | ((with_reducible refine' c_condT ?hx ?_); (case hx => rfl)) | ((with_reducible refine' c_condF ?hx ?_); (case hx => rfl)) | ((with_reducible refine' b_ret1 ?hr ?hv ?_); (case hr => rfl); (case hv => ((try simp only [ev, lget]); (try rfl)))) | ((with_reducible refine' l_step ?_); (first | ((first | (with_reducible refine' g_move ?_) | (with_reducible refine' g_assign ?_) | ((with_reducible refine' g_lenS ?hx ?_); (case hx => rfl))); (conv => arg 5; simp only [zA, zB, ev, lget, zC, zD, zE, zF, zG, zH, zI, zJ, zK, zL, zM, zN, zO])) | (((with_reducible refine' g_neq ?hx ?hy (fun _ => ?_) (fun _ => ?_)); (case hx => rfl)); (case hy => rfl); all_goals (first | (exfalso; omega) | (conv => arg 5; simp only [zA, zB, ev, lget, zC, zD, zE, zF, zG, zH, zI, zJ, zK, zL, zM, zN, zO]))))))
  · exact ⟨ret_bool (by symm; simp; intro h; subst h; omega), Evt.refl _ _⟩
  refine' s_loop [4, 5, 11, 12, 13, 14, 15, 16, 17, 18, 19, 20, 21, 22, 23, 24, 25] (fun n u w' => ∃ (i : Nat), n = xs.length - i ∧ i ≤ xs.length ∧ u 5 = .int .i64 i ∧ xs.take i = ys.take i ∧ Evt (fun _ => False) w w') xs.length ?h0 ?round
  case h0 => exact ⟨0, rfl, by omega, rfl, rfl, Evt.refl _ _⟩
  case round =>
    rintro n u w2 ⟨i, rfl, hi, h5, heq, hev⟩
    simp only [setW, List.foldl_cons, List.foldl_nil, List.set_cons_succ, List.set_cons_zero]
    simp only [h5]
    have hz := hev.size
    by_cases hlt : i < xs.length
    · have hlt2 : i < ys.length := by omega
      obtain ⟨b, o, rfl, hc⟩ := RC.at_ (hr.up hev) hlt
      obtain ⟨b', o', rfl, hc'⟩ := RC.at_ (hs.up hev) hlt2
      clear hr hs
      repeat' (first | (with_reducible (first | refine' wp_seq ?_ | refine' wp_region_lit ?_ | refine' wpList_nil ?_ | refine' then_normal ?_ | refine' wp_block ?_ | refine' wp_ret ?_ | refine' wp_skip ?_ | refine' then_ret ?_ | refine' in_normal ?_ | refine' in_ret ?_)) | ((with_reducible refine' c_condT ?hx ?_); (case hx => rfl)) | ((with_reducible refine' c_condF ?hx ?_); (case hx => rfl)) | ((with_reducible refine' b_ret1 ?hr ?hv ?_); (case hr => rfl); (case hv => ((try simp only [ev, lget]); (try rfl)))) | ((with_reducible refine' l_step ?_); (first | ((first | (with_reducible refine' g_move ?_) | (with_reducible refine' g_assign ?_) | ((with_reducible refine' g_addN ?hx ?hy ?h0 ?h1 ?_); (case hx => rfl); (case hy => rfl); (case h0 => omega); (case h1 => omega)) | ((with_reducible refine' g_lenS ?hx ?_); (case hx => rfl))); (conv => arg 5; simp only [zA, zB, ev, lget, zC, zD, zE, zF, zG, zH, zI, zJ, zK, zL, zM, zN, zO])) | (((with_reducible refine' g_lss ?hx ?hy (fun _ => ?_) (fun _ => ?_)); (case hx => rfl)); (case hy => rfl); all_goals (first | (exfalso; omega) | (conv => arg 5; simp only [zA, zB, ev, lget, zC, zD, zE, zF, zG, zH, zI, zJ, zK, zL, zM, zN, zO]))))) | ((with_reducible refine' w_quiet (id := 6) ?hm ?hB ?_); (case hm => kernel_rfl); (case hB => kernel_rfl)) | ((with_reducible refine' q_nil ?_); intro _ _ _) | ((with_reducible refine' q_step ?_); (first | ((first | (with_reducible refine' g_move ?_) | ((with_reducible refine' g_loadC ?hx ?hc ?_); (case hx => rfl); (case hc => exact cqq)) | ((with_reducible refine' g_indexAddr ?hx ?hy ?h0 ?h1 ?_); (case hx => rfl); (case hy => rfl); (case h0 => omega); (case h1 => omega))); (conv => arg 6; simp only [zA, zB, ev, lget, zC, zD, zE, zF, zG, zH, zI, zJ, zK, zL, zM, zN, zO])) | (((with_reducible refine' g_neq ?hx ?hy (fun _ => ?_) (fun _ => ?_)); (case hx => rfl)); (case hy => rfl); all_goals (first | (exfalso; omega) | (conv => arg 6; simp only [zA, zB, ev, lget, zC, zD, zE, zF, zG, zH, zI, zJ, zK, zL, zM, zN, zO]))))))
      · have hne : xs[i] ≠ ys[i] := by assumption
        exact ⟨ret_bool (decide_eq_false (fun h => hne (by subst h; rfl))).symm, by exact eqq⟩
      · have he : xs[i] = ys[i] := by assumption
        exact ⟨_, _, rfl, (by omega : xs.length - (i + 1) < xs.length - i), by simp only [zA, zB], i + 1, rfl, by omega, rfl, by rw [List.take_succ_eq_append_getElem hlt, List.take_succ_eq_append_getElem hlt2, heq, he], by exact eqq⟩
    · have hi' : i = xs.length := by omega
      repeat' (first | (with_reducible (first | refine' wp_seq ?_ | refine' wp_region_lit ?_ | refine' wpList_nil ?_ | refine' then_normal ?_ | refine' wp_ret ?_ | refine' wp_exit ?_ | refine' then_exit ?_ | refine' in_exit ?_)) | ((with_reducible refine' c_condF ?hx ?_); (case hx => rfl)) | ((with_reducible refine' b_ret1 ?hr ?hv ?_); (case hr => rfl); (case hv => ((try simp only [ev, lget]); (try rfl)))) | ((with_reducible refine' l_step ?_); (first | ((first | (with_reducible refine' g_move ?_) | (with_reducible refine' g_assign ?_) | ((with_reducible refine' g_lenS ?hx ?_); (case hx => rfl))); (conv => arg 5; simp only [zA, zB, ev, lget, zC, zD, zE, zF, zG, zH, zI, zJ, zK, zL, zM, zN, zO])) | (((with_reducible refine' g_lss ?hx ?hy (fun _ => ?_) (fun _ => ?_)); (case hx => rfl)); (case hy => rfl); all_goals (first | (exfalso; omega) | (conv => arg 5; simp only [zA, zB, ev, lget, zC, zD, zE, zF, zG, zH, zI, zJ, zK, zL, zM, zN, zO]))))))
      refine ⟨ret_bool (decide_eq_true ?_).symm, by exact eqq⟩
      rw [hi', List.take_length, List.take_of_length_le (by omega)] at heq
      exact heq
set_option maxHeartbeats 2000000 in
theorem same_any (A B : Option Addr) (c d n m : Nat) (xs ys : List Int) (w : World) (hr : RC w A (u8s xs)) (hs : RC w B (u8s ys)) (hn : xs.length = n) (hm : ys.length = m) (hl : n ≤ 9223372036854775807) (hl2 : m ≤ 9223372036854775807) :
    Calls Try.prog 29 #[.slice A n c, .slice B m d] w fun e w' => e = .returned (.bool (decide (xs = ys))) ∧ Evt (fun _ => False) w w' := by
  subst hn
  subst hm
  go_enter Try.func29, Try.ntmps29
  repeat' (first | (with_reducible (first | refine' wp_seq ?_ | refine' wp_region_lit ?_ | refine' wpList_nil ?_ | refine' then_normal ?_ | refine' wp_block ?_ | refine' wp_ret ?_ | refine' wp_skip ?_ | refine' then_ret ?_)) | ((with_reducible refine' c_condT ?hx ?_); (case hx => rfl)) | ((with_reducible refine' c_condF ?hx ?_); (case hx => rfl)) | ((with_reducible refine' b_ret1 ?hr ?hv ?_); (case hr => rfl); (case hv => ((try simp only [ev, lget]); (try rfl)))) | ((with_reducible refine' l_step ?_); (first | ((first | (with_reducible refine' g_move ?_) | (with_reducible refine' g_assign ?_) | ((with_reducible refine' g_lenS ?hx ?_); (case hx => rfl))); (conv => arg 5; simp only [zA, zB, ev, lget, zC, zD, zE, zF, zG, zH, zI, zJ, zK, zL, zM, zN, zO])) | (((with_reducible refine' g_neq ?hx ?hy (fun _ => ?_) (fun _ => ?_)); (case hx => rfl)); (case hy => rfl); all_goals (first | (exfalso; omega) | (conv => arg 5; simp only [zA, zB, ev, lget, zC, zD, zE, zF, zG, zH, zI, zJ, zK, zL, zM, zN, zO]))))))
  · exact ⟨ret_bool (by symm; simp; intro h; subst h; omega), Evt.refl _ _⟩
  refine' s_loop [4, 5, 11, 12, 13, 14, 15, 16, 17, 18, 19, 20, 21, 22, 23, 24, 25] (fun n u w' => ∃ (i : Nat), n = xs.length - i ∧ i ≤ xs.length ∧ u 5 = .int .i64 i ∧ xs.take i = ys.take i ∧ Evt (fun _ => False) w w') xs.length ?h0 ?round
  case h0 => exact ⟨0, rfl, by omega, rfl, rfl, Evt.refl _ _⟩
  case round =>
    rintro n u w2 ⟨i, rfl, hi, h5, heq, hev⟩
    simp only [setW, List.foldl_cons, List.foldl_nil, List.set_cons_succ, List.set_cons_zero]
    simp only [h5]
    have hz := hev.size
    by_cases hlt : i < xs.length
    · have hlt2 : i < ys.length := by omega
      obtain ⟨b, o, rfl, hc⟩ := RC.at_ (hr.up hev) hlt
      obtain ⟨b', o', rfl, hc'⟩ := RC.at_ (hs.up hev) hlt2
      clear hr hs
      repeat' (first | (with_reducible (first | refine' wp_seq ?_ | refine' wp_region_lit ?_ | refine' wpList_nil ?_ | refine' then_normal ?_ | refine' wp_block ?_ | refine' wp_ret ?_ | refine' wp_skip ?_ | refine' then_ret ?_ | refine' in_normal ?_ | refine' in_ret ?_)) | ((with_reducible refine' c_condT ?hx ?_); (case hx => rfl)) | ((with_reducible refine' c_condF ?hx ?_); (case hx => rfl)) | ((with_reducible refine' b_ret1 ?hr ?hv ?_); (case hr => rfl); (case hv => ((try simp only [ev, lget]); (try rfl)))) | ((with_reducible refine' l_step ?_); (first | ((first | (with_reducible refine' g_move ?_) | (with_reducible refine' g_assign ?_) | ((with_reducible refine' g_addN ?hx ?hy ?h0 ?h1 ?_); (case hx => rfl); (case hy => rfl); (case h0 => omega); (case h1 => omega)) | ((with_reducible refine' g_lenS ?hx ?_); (case hx => rfl))); (conv => arg 5; simp only [zA, zB, ev, lget, zC, zD, zE, zF, zG, zH, zI, zJ, zK, zL, zM, zN, zO])) | (((with_reducible refine' g_lss ?hx ?hy (fun _ => ?_) (fun _ => ?_)); (case hx => rfl)); (case hy => rfl); all_goals (first | (exfalso; omega) | (conv => arg 5; simp only [zA, zB, ev, lget, zC, zD, zE, zF, zG, zH, zI, zJ, zK, zL, zM, zN, zO]))))) | ((with_reducible refine' w_quiet (id := 6) ?hm ?hB ?_); (case hm => kernel_rfl); (case hB => kernel_rfl)) | ((with_reducible refine' q_nil ?_); intro _ _ _) | ((with_reducible refine' q_step ?_); (first | ((first | (with_reducible refine' g_move ?_) | ((with_reducible refine' g_loadC ?hx ?hc ?_); (case hx => rfl); (case hc => exact cqq)) | ((with_reducible refine' g_indexAddr ?hx ?hy ?h0 ?h1 ?_); (case hx => rfl); (case hy => rfl); (case h0 => omega); (case h1 => omega))); (conv => arg 6; simp only [zA, zB, ev, lget, zC, zD, zE, zF, zG, zH, zI, zJ, zK, zL, zM, zN, zO])) | (((with_reducible refine' g_neq ?hx ?hy (fun _ => ?_) (fun _ => ?_)); (case hx => rfl)); (case hy => rfl); all_goals (first | (exfalso; omega) | (conv => arg 6; simp only [zA, zB, ev, lget, zC, zD, zE, zF, zG, zH, zI, zJ, zK, zL, zM, zN, zO]))))))
      · have hne : xs[i] ≠ ys[i] := by assumption
        exact ⟨ret_bool (decide_eq_false (fun h => hne (by subst h; rfl))).symm, by exact eqq⟩
      · have he : xs[i] = ys[i] := by assumption
        exact ⟨_, _, rfl, (by omega : xs.length - (i + 1) < xs.length - i), by simp only [zA, zB], i + 1, rfl, by omega, rfl, by rw [List.take_succ_eq_append_getElem hlt, List.take_succ_eq_append_getElem hlt2, heq, he], by exact eqq⟩
    · have hi' : i = xs.length := by omega
      repeat' (first | (with_reducible (first | refine' wp_seq ?_ | refine' wp_region_lit ?_ | refine' wpList_nil ?_ | refine' then_normal ?_ | refine' wp_ret ?_ | refine' wp_exit ?_ | refine' then_exit ?_ | refine' in_exit ?_)) | ((with_reducible refine' c_condF ?hx ?_); (case hx => rfl)) | ((with_reducible refine' b_ret1 ?hr ?hv ?_); (case hr => rfl); (case hv => ((try simp only [ev, lget]); (try rfl)))) | ((with_reducible refine' l_step ?_); (first | ((first | (with_reducible refine' g_move ?_) | (with_reducible refine' g_assign ?_) | ((with_reducible refine' g_lenS ?hx ?_); (case hx => rfl))); (conv => arg 5; simp only [zA, zB, ev, lget, zC, zD, zE, zF, zG, zH, zI, zJ, zK, zL, zM, zN, zO])) | (((with_reducible refine' g_lss ?hx ?hy (fun _ => ?_) (fun _ => ?_)); (case hx => rfl)); (case hy => rfl); all_goals (first | (exfalso; omega) | (conv => arg 5; simp only [zA, zB, ev, lget, zC, zD, zE, zF, zG, zH, zI, zJ, zK, zL, zM, zN, zO]))))))
      refine ⟨ret_bool (decide_eq_true ?_).symm, by exact eqq⟩
      rw [hi', List.take_length, List.take_of_length_le (by omega)] at heq
      exact heq
set_option maxHeartbeats 2000000 in
theorem has_any (A : Option Addr) (c n : Nat) (xs : List Int) (a : Int) (w : World) (hr : RC w A (ints xs)) (hn : xs.length = n) (hl : n ≤ 9223372036854775807) :
    Calls Try.prog 27 #[.slice A n c, .int .i64 a] w fun e w' => e = .returned (.bool (decide (a ∈ xs))) ∧ Evt (fun _ => False) w w' := by
  subst hn
  go_enter Try.func27, Try.ntmps27
  repeat' (first | (with_reducible (first | refine' wp_seq ?_ | refine' wp_region_lit ?_ | refine' wpList_nil ?_ | refine' then_normal ?_ | refine' wp_block ?_)) | ((with_reducible refine' l_step ?_); ((with_reducible refine' g_assign ?_); (conv => arg 5; simp only [zA, zB, ev, lget, zC, zD, zE, zF, zG, zH, zI, zJ, zK, zL, zM, zN, zO]))))
  refine' s_loop [4, 5, 6, 7, 8, 9, 10, 11, 12, 13, 14, 15, 16, 17] (fun n u w' => ∃ (i : Nat), n = xs.length - i ∧ i ≤ xs.length ∧ u 5 = .int .i64 i ∧ ¬ a ∈ xs.take i ∧ Evt (fun _ => False) w w') xs.length ?h0 ?round
  case h0 => exact ⟨0, rfl, by omega, rfl, by simp, Evt.refl _ _⟩
  case round =>
    rintro n u w2 ⟨i, rfl, hi, h5, heq, hev⟩
    simp only [setW, List.foldl_cons, List.foldl_nil, List.set_cons_succ, List.set_cons_zero]
    simp only [h5]
    have hz := hev.size
    by_cases hlt : i < xs.length
    · obtain ⟨b, o, rfl, hc⟩ := RC.at_ (hr.up hev) hlt
      clear hr
      repeat' (first | (with_reducible (first | refine' wp_seq ?_ | refine' wp_region_lit ?_ | refine' wpList_nil ?_ | refine' then_normal ?_ | refine' wp_block ?_ | refine' wp_ret ?_ | refine' wp_skip ?_ | refine' then_ret ?_ | refine' in_normal ?_ | refine' in_ret ?_)) | ((with_reducible refine' c_condT ?hx ?_); (case hx => rfl)) | ((with_reducible refine' c_condF ?hx ?_); (case hx => rfl)) | ((with_reducible refine' b_ret1 ?hr ?hv ?_); (case hr => rfl); (case hv => ((try simp only [ev, lget]); (try rfl)))) | ((with_reducible refine' l_step ?_); (first | ((first | (with_reducible refine' g_move ?_) | (with_reducible refine' g_assign ?_) | ((with_reducible refine' g_loadC ?hx ?hc ?_); (case hx => rfl); (case hc => exact cqq)) | ((with_reducible refine' g_addN ?hx ?hy ?h0 ?h1 ?_); (case hx => rfl); (case hy => rfl); (case h0 => omega); (case h1 => omega)) | ((with_reducible refine' g_lenS ?hx ?_); (case hx => rfl)) | ((with_reducible refine' g_indexAddr ?hx ?hy ?h0 ?h1 ?_); (case hx => rfl); (case hy => rfl); (case h0 => omega); (case h1 => omega))); (conv => arg 5; simp only [zA, zB, ev, lget, zC, zD, zE, zF, zG, zH, zI, zJ, zK, zL, zM, zN, zO])) | ((first | ((with_reducible refine' g_lss ?hx ?hy (fun _ => ?_) (fun _ => ?_)); (case hx => rfl)) | ((with_reducible refine' g_eql ?hx ?hy (fun _ => ?_) (fun _ => ?_)); (case hx => rfl))); (case hy => rfl); all_goals (first | (exfalso; omega) | (conv => arg 5; simp only [zA, zB, ev, lget, zC, zD, zE, zF, zG, zH, zI, zJ, zK, zL, zM, zN, zO]))))))
      · have he : xs[i] = a := by assumption
        exact ⟨ret_bool (decide_eq_true (by rw [← he]; exact List.getElem_mem hlt)).symm, by exact eqq⟩
      · have hne : xs[i] ≠ a := by assumption
        exact ⟨_, _, rfl, (by omega : xs.length - (i + 1) < xs.length - i), by simp only [zA, zB], i + 1, rfl, by omega, rfl, by
          rw [List.take_succ_eq_append_getElem hlt]
          intro hm
          rcases List.mem_append.1 hm with h | h
          · exact heq h
          · rw [List.mem_singleton] at h
            exact hne h.symm, by exact eqq⟩
    · have hi' : i = xs.length := by omega
      repeat' (first | (with_reducible (first | refine' wp_seq ?_ | refine' wp_region_lit ?_ | refine' wpList_nil ?_ | refine' then_normal ?_ | refine' wp_ret ?_ | refine' wp_exit ?_ | refine' then_exit ?_ | refine' in_exit ?_)) | ((with_reducible refine' c_condF ?hx ?_); (case hx => rfl)) | ((with_reducible refine' b_ret1 ?hr ?hv ?_); (case hr => rfl); (case hv => ((try simp only [ev, lget]); (try rfl)))) | ((with_reducible refine' l_step ?_); (first | ((first | (with_reducible refine' g_move ?_) | (with_reducible refine' g_assign ?_) | ((with_reducible refine' g_lenS ?hx ?_); (case hx => rfl))); (conv => arg 5; simp only [zA, zB, ev, lget, zC, zD, zE, zF, zG, zH, zI, zJ, zK, zL, zM, zN, zO])) | (((with_reducible refine' g_lss ?hx ?hy (fun _ => ?_) (fun _ => ?_)); (case hx => rfl)); (case hy => rfl); all_goals (first | (exfalso; omega) | (conv => arg 5; simp only [zA, zB, ev, lget, zC, zD, zE, zF, zG, zH, zI, zJ, zK, zL, zM, zN, zO]))))))
      rw [hi', List.take_length] at heq
      exact ⟨ret_bool (decide_eq_false heq).symm, by exact eqq⟩
/-- The tick at which a number was accepted. -/
def accT : List Ma → Int → Int
  | [], _ => 0
  | m :: l, id => if m.id = id then m.tick else accT l id
theorem accT_take {l : List Ma} {id : Int} : ∀ {i : Nat}, (∀ m ∈ l.take i, m.id ≠ id) → accT l id = accT (l.drop i) id := by
  induction l with
  | nil => intro i _; simp
  | cons x l ih =>
    intro i h
    cases i with
    | zero => rfl
    | succ i =>
      rw [List.drop_succ_cons, accT, if_neg (h x (by simp))]
      exact ih (fun m hm => h m (by simp [hm]))
theorem AccAt.at_ {w : World} {G : Nat → Prop} {A : Option Addr} {l : List Ma} (h : AccAt w G A l) {i : Nat} (hi : i < l.length) : ∃ b o, A = some ⟨b, o, none⟩ ∧ ∀ w', Evt (fun _ => False) w w' → ∀ j v, (acC l[i])[j]? = some v → w'.cell? ⟨b, o + i * 3 + j, none⟩ = some v := by
  obtain ⟨b, o, hA, _, hc⟩ := h.row (by rw [acCs_len]; omega)
  refine ⟨b, o, hA, fun w' he j v hj => ?_⟩
  have h1 := hc (i * 3 + j) v (flat_at acC_len l i j _ v (List.getElem?_eq_getElem hi) hj)
  rw [← Nat.add_assoc] at h1
  exact cell_evt he h1 (fun h => h)
set_option maxHeartbeats 2000000 in
theorem lawAccepted_any (A : Option Addr) (c n : Nat) (G : Nat → Prop) (l : List Ma) (a : Int) (w : World) (hr : AccAt w G A l) (hn : l.length = n) (hl : n ≤ 9223372036854775807) :
    Calls Try.prog 16 #[.slice A n c, .int .i64 a] w fun e w' => e = .returned (.int .i64 (accT l a)) ∧ Evt (fun _ => False) w w' := by
  subst hn
  go_enter Try.func16, Try.ntmps16
  repeat' (first | (with_reducible (first | refine' wp_seq ?_ | refine' wp_region_lit ?_ | refine' wpList_nil ?_ | refine' then_normal ?_ | refine' wp_block ?_)) | ((with_reducible refine' l_step ?_); ((with_reducible refine' g_assign ?_); (conv => arg 5; simp only [zA, zB, ev, lget, zC, zD, zE, zF, zG, zH, zI, zJ, zK, zL, zM, zN, zO]))))
  refine' s_loop [4, 5, 6, 7, 8, 9, 10, 11, 12, 13, 14, 15, 16, 17, 18, 19, 20, 21, 22, 23] (fun n u w' => ∃ (i : Nat), n = l.length - i ∧ i ≤ l.length ∧ u 5 = .int .i64 i ∧ (∀ m ∈ l.take i, m.id ≠ a) ∧ Evt (fun _ => False) w w') l.length ?h0 ?round
  case h0 => exact ⟨0, rfl, by omega, rfl, by simp, Evt.refl _ _⟩
  case round =>
    rintro n u w2 ⟨i, rfl, hi, h5, heq, hev⟩
    simp only [setW, List.foldl_cons, List.foldl_nil, List.set_cons_succ, List.set_cons_zero]
    simp only [h5]
    have hz := hev.size
    by_cases hlt : i < l.length
    · obtain ⟨b, o, rfl, hcellE⟩ := (hr.up hev).at_ hlt
      have hat := accT_take heq
      rw [List.drop_eq_getElem_cons hlt, accT] at hat
      have htk : ∀ (hne : l[i].id ≠ a), ∀ m ∈ l.take (i + 1), m.id ≠ a := by
        intro hne m hm
        rw [List.take_succ_eq_append_getElem hlt] at hm
        rcases List.mem_append.1 hm with h | h
        · exact heq m h
        · rw [List.mem_singleton] at h
          subst h
          exact hne
      clear hr heq
      generalize l[i] = mi at *
      repeat' (first | (with_reducible (first | refine' wp_seq ?_ | refine' wp_region_lit ?_ | refine' wpList_nil ?_ | refine' then_normal ?_ | refine' wp_block ?_ | refine' wp_ret ?_ | refine' wp_skip ?_ | refine' then_ret ?_ | refine' in_normal ?_ | refine' in_ret ?_)) | ((with_reducible refine' c_condT ?hx ?_); (case hx => rfl)) | ((with_reducible refine' c_condF ?hx ?_); (case hx => rfl)) | ((with_reducible refine' b_ret1 ?hr ?hv ?_); (case hr => rfl); (case hv => ((try simp only [ev, lget]); (try rfl)))) | ((with_reducible refine' l_step ?_); (first | ((first | (with_reducible refine' g_move ?_) | (with_reducible refine' g_assign ?_) | ((with_reducible refine' g_fieldAddr ?hx ?ho ?_); (case hx => rfl); (case ho => rfl)) | ((with_reducible refine' g_loadC ?hx ?hc ?_); (case hx => rfl); (case hc => first | exact hcellE _ (by exact eqq) 0 _ rfl | exact hcellE _ (by exact eqq) _ _ rfl | exact hcellF _ (by exact eqq) 0 _ rfl | exact hcellF _ (by exact eqq) _ _ rfl)) | ((with_reducible refine' g_addN ?hx ?hy ?h0 ?h1 ?_); (case hx => rfl); (case hy => rfl); (case h0 => omega); (case h1 => omega)) | ((with_reducible refine' g_lenS ?hx ?_); (case hx => rfl)) | ((with_reducible refine' g_indexAddr ?hx ?hy ?h0 ?h1 ?_); (case hx => rfl); (case hy => rfl); (case h0 => omega); (case h1 => omega))); (conv => arg 5; simp only [zA, zB, ev, lget, zC, zD, zE, zF, zG, zH, zI, zJ, zK, zL, zM, zN, zO])) | ((first | ((with_reducible refine' g_lss ?hx ?hy (fun _ => ?_) (fun _ => ?_)); (case hx => rfl)) | ((with_reducible refine' g_eql ?hx ?hy (fun _ => ?_) (fun _ => ?_)); (case hx => rfl))); (case hy => rfl); all_goals (first | (exfalso; omega) | (conv => arg 5; simp only [zA, zB, ev, lget, zC, zD, zE, zF, zG, zH, zI, zJ, zK, zL, zM, zN, zO]))))))
      · rw [if_pos (by assumption)] at hat
        rw [hat]
        exact ⟨rfl, by exact eqq⟩
      · exact ⟨_, _, rfl, (by omega : l.length - (i + 1) < l.length - i), by simp only [zA, zB], i + 1, rfl, by omega, rfl, htk (by assumption), by exact eqq⟩
    · have hi' : i = l.length := by omega
      subst hi'
      have hat := accT_take heq
      rw [List.drop_length] at hat
      rw [hat]
      repeat' (first | (with_reducible (first | refine' wp_seq ?_ | refine' wp_region_lit ?_ | refine' wpList_nil ?_ | refine' then_normal ?_ | refine' wp_ret ?_ | refine' wp_exit ?_ | refine' then_exit ?_ | refine' in_exit ?_)) | ((with_reducible refine' c_condF ?hx ?_); (case hx => rfl)) | ((with_reducible refine' b_ret1 ?hr ?hv ?_); (case hr => rfl); (case hv => ((try simp only [ev, lget]); (try rfl)))) | ((with_reducible refine' l_step ?_); (first | ((first | (with_reducible refine' g_move ?_) | (with_reducible refine' g_assign ?_) | ((with_reducible refine' g_lenS ?hx ?_); (case hx => rfl))); (conv => arg 5; simp only [zA, zB, ev, lget, zC, zD, zE, zF, zG, zH, zI, zJ, zK, zL, zM, zN, zO])) | (((with_reducible refine' g_lss ?hx ?hy (fun _ => ?_) (fun _ => ?_)); (case hx => rfl)); (case hy => rfl); all_goals (first | (exfalso; omega) | (conv => arg 5; simp only [zA, zB, ev, lget, zC, zD, zE, zF, zG, zH, zI, zJ, zK, zL, zM, zN, zO]))))))
      exact ⟨rfl, by exact eqq⟩
set_option maxHeartbeats 2000000 in
theorem sameAccepted_any (A B : Option Addr) (c d n m : Nat) (G H : Nat → Prop) (xs ys : List Ma) (w : World) (hr : AccAt w G A xs) (hs : AccAt w H B ys) (hn : xs.length = n) (hm : ys.length = m) (hl : n ≤ 9223372036854775807) (hl2 : m ≤ 9223372036854775807) (hb1 : ∀ x ∈ xs, x.body.length ≤ 9223372036854775807) (hb2 : ∀ x ∈ ys, x.body.length ≤ 9223372036854775807) :
    Calls Try.prog 19 #[.slice A n c, .slice B m d] w fun e w' => e = .returned (.bool (decide (xs.map seeA = ys.map seeA))) ∧ Evt (fun _ => False) w w' := by
  subst hn
  subst hm
  go_enter Try.func19, Try.ntmps19
  repeat' (first | (with_reducible (first | refine' wp_seq ?_ | refine' wp_region_lit ?_ | refine' wpList_nil ?_ | refine' then_normal ?_ | refine' wp_block ?_ | refine' wp_ret ?_ | refine' wp_skip ?_ | refine' then_ret ?_)) | ((with_reducible refine' c_condT ?hx ?_); (case hx => rfl)) | ((with_reducible refine' c_condF ?hx ?_); (case hx => rfl)) | ((with_reducible refine' b_ret1 ?hr ?hv ?_); (case hr => rfl); (case hv => ((try simp only [ev, lget]); (try rfl)))) | ((with_reducible refine' l_step ?_); (first | ((first | (with_reducible refine' g_move ?_) | (with_reducible refine' g_assign ?_) | ((with_reducible refine' g_lenS ?hx ?_); (case hx => rfl))); (conv => arg 5; simp only [zA, zB, ev, lget, zC, zD, zE, zF, zG, zH, zI, zJ, zK, zL, zM, zN, zO])) | (((with_reducible refine' g_neq ?hx ?hy (fun _ => ?_) (fun _ => ?_)); (case hx => rfl)); (case hy => rfl); all_goals (first | (exfalso; omega) | (conv => arg 5; simp only [zA, zB, ev, lget, zC, zD, zE, zF, zG, zH, zI, zJ, zK, zL, zM, zN, zO]))))))
  · refine ⟨ret_bool (decide_eq_false fun h => ?_).symm, Evt.refl _ _⟩
    have := congrArg List.length h
    simp at this
    omega
  refine' s_loop [4, 5, 11, 12, 13, 14, 15, 16, 17, 18, 19, 20, 21, 22, 23, 24, 25, 26, 27, 28, 29, 30, 31, 32, 33, 34, 35, 36, 37, 38, 39, 40, 41, 42, 43, 44, 45, 46, 47, 48, 49, 50, 51, 52, 53, 54] (fun n u w' => ∃ (i : Nat), n = xs.length - i ∧ i ≤ xs.length ∧ u 5 = .int .i64 i ∧ (xs.take i).map seeA = (ys.take i).map seeA ∧ Evt (fun _ => False) w w') xs.length ?h0 ?round
  case h0 => exact ⟨0, rfl, by omega, rfl, rfl, Evt.refl _ _⟩
  case round =>
    rintro n u w2 ⟨i, rfl, hi, h5, heq, hev⟩
    simp only [setW, List.foldl_cons, List.foldl_nil, List.set_cons_succ, List.set_cons_zero]
    simp only [h5]
    have hz := hev.size
    by_cases hlt : i < xs.length
    · have hlt2 : i < ys.length := by omega
      obtain ⟨b, o, rfl, hcellE⟩ := (hr.up hev).at_ hlt
      obtain ⟨b', o', rfl, hcellF⟩ := (hs.up hev).at_ hlt2
      have hbx := hb1 xs[i] (List.getElem_mem hlt)
      have hby := hb2 ys[i] (List.getElem_mem hlt2)
      have hrx := ((hr.up hev).bod xs[i] (List.getElem_mem hlt)).rc
      have hry := ((hs.up hev).bod ys[i] (List.getElem_mem hlt2)).rc
      have hno : xs.map seeA = ys.map seeA → seeA xs[i] = seeA ys[i] := fun h => by
        have h1 := congrArg (fun l => l[i]?) h
        simp [hlt, hlt2] at h1
        exact h1
      have htx := List.take_succ_eq_append_getElem hlt
      have hty := List.take_succ_eq_append_getElem hlt2
      clear hr hs
      generalize xs[i] = x at *
      generalize ys[i] = y at *
      by_cases hbd : x.body = y.body
      · repeat' (first | ((with_reducible refine' q_call (f := 29) TFn.ent ?ha ?hc ?_); (case ha => simp only [zC, zD, ev, lget]; (try rfl)); (case hc => intro wq hwq; have hzq := hwq.size; refine (same_any x.A y.A x.c y.c x.body.length y.body.length x.body y.body _ (hrx.up (by exact eqq)) (hry.up (by exact eqq)) rfl rfl hbx hby).mono ?_; rintro e w' ⟨rfl, hev⟩; exact ⟨rfl, hev⟩); (conv => arg 6; simp only [zA, zB, ev, lget, zC, zD, zE, zF, zG, zH, zI, zJ, zK, zL, zM, zN, zO])) | ((with_reducible refine' q_step ?_); (with_reducible refine' g_notT ?hx ?_); (case hx => exact congrArg Value.bool (decide_eq_true hbd)); (conv => arg 6; simp only [zA, zB, ev, lget, zC, zD, zE, zF, zG, zH, zI, zJ, zK, zL, zM, zN, zO])) | (with_reducible (first | refine' wp_seq ?_ | refine' wp_region_lit ?_ | refine' wpList_nil ?_ | refine' then_normal ?_ | refine' wp_block ?_ | refine' wp_ret ?_ | refine' wp_skip ?_ | refine' then_ret ?_ | refine' in_normal ?_ | refine' in_ret ?_)) | ((with_reducible refine' c_condT ?hx ?_); (case hx => rfl)) | ((with_reducible refine' c_condF ?hx ?_); (case hx => rfl)) | ((with_reducible refine' b_ret1 ?hr ?hv ?_); (case hr => rfl); (case hv => ((try simp only [ev, lget]); (try rfl)))) | ((with_reducible refine' l_step ?_); (first | ((first | (with_reducible refine' g_move ?_) | (with_reducible refine' g_assign ?_) | ((with_reducible refine' g_addN ?hx ?hy ?h0 ?h1 ?_); (case hx => rfl); (case hy => rfl); (case h0 => omega); (case h1 => omega)) | ((with_reducible refine' g_lenS ?hx ?_); (case hx => rfl))); (conv => arg 5; simp only [zA, zB, ev, lget, zC, zD, zE, zF, zG, zH, zI, zJ, zK, zL, zM, zN, zO])) | (((with_reducible refine' g_lss ?hx ?hy (fun _ => ?_) (fun _ => ?_)); (case hx => rfl)); (case hy => rfl); all_goals (first | (exfalso; omega) | (conv => arg 5; simp only [zA, zB, ev, lget, zC, zD, zE, zF, zG, zH, zI, zJ, zK, zL, zM, zN, zO]))))) | ((with_reducible refine' w_quiet (id := 6) ?hm ?hB ?_); (case hm => kernel_rfl); (case hB => kernel_rfl)) | ((with_reducible refine' q_nil ?_); intro _ _ _) | ((with_reducible refine' q_on ?hw ?_); (case hw => rfl)) | ((with_reducible refine' q_off ?hw ?_); (case hw => rfl); (conv => arg 6; simp only [zA, zB, ev, lget, zC, zD, zE, zF, zG, zH, zI, zJ, zK, zL, zM, zN, zO])) | ((with_reducible refine' q_step ?_); (first | ((first | (with_reducible refine' g_move ?_) | ((with_reducible refine' g_fieldAddr ?hx ?ho ?_); (case hx => rfl); (case ho => rfl)) | ((with_reducible refine' g_loadC ?hx ?hc ?_); (case hx => rfl); (case hc => first | exact hcellE _ (by exact eqq) 0 _ rfl | exact hcellE _ (by exact eqq) _ _ rfl | exact hcellF _ (by exact eqq) 0 _ rfl | exact hcellF _ (by exact eqq) _ _ rfl)) | ((with_reducible refine' g_pickT ?hx ?_); (case hx => rfl)) | ((with_reducible refine' g_pickF ?hx ?_); (case hx => rfl)) | ((with_reducible refine' g_indexAddr ?hx ?hy ?h0 ?h1 ?_); (case hx => rfl); (case hy => rfl); (case h0 => omega); (case h1 => omega))); (conv => arg 6; simp only [zA, zB, ev, lget, zC, zD, zE, zF, zG, zH, zI, zJ, zK, zL, zM, zN, zO])) | (((with_reducible refine' g_neq ?hx ?hy (fun _ => ?_) (fun _ => ?_)); (case hx => rfl)); (case hy => rfl); all_goals (first | (exfalso; omega) | (conv => arg 6; simp only [zA, zB, ev, lget, zC, zD, zE, zF, zG, zH, zI, zJ, zK, zL, zM, zN, zO]))))))
        all_goals first
          | exact ⟨ret_bool (decide_eq_false (fun h => by have h1 := hno h; simp only [seeA, Prod.mk.injEq] at h1; obtain ⟨e1, e2, e3⟩ := h1; contradiction)).symm, by exact eqq⟩
          | exact ⟨_, _, rfl, (by omega : xs.length - (i + 1) < xs.length - i), by simp only [zA, zB], i + 1, rfl, by omega, rfl, by rw [htx, hty, List.map_append, List.map_append, heq]; simp [seeA, *], by exact eqq⟩
      · repeat' (first | ((with_reducible refine' q_call (f := 29) TFn.ent ?ha ?hc ?_); (case ha => simp only [zC, zD, ev, lget]; (try rfl)); (case hc => intro wq hwq; have hzq := hwq.size; refine (same_any x.A y.A x.c y.c x.body.length y.body.length x.body y.body _ (hrx.up (by exact eqq)) (hry.up (by exact eqq)) rfl rfl hbx hby).mono ?_; rintro e w' ⟨rfl, hev⟩; exact ⟨rfl, hev⟩); (conv => arg 6; simp only [zA, zB, ev, lget, zC, zD, zE, zF, zG, zH, zI, zJ, zK, zL, zM, zN, zO])) | ((with_reducible refine' q_step ?_); (with_reducible refine' g_notF ?hx ?_); (case hx => exact congrArg Value.bool (decide_eq_false hbd)); (conv => arg 6; simp only [zA, zB, ev, lget, zC, zD, zE, zF, zG, zH, zI, zJ, zK, zL, zM, zN, zO])) | (with_reducible (first | refine' wp_seq ?_ | refine' wp_region_lit ?_ | refine' wpList_nil ?_ | refine' then_normal ?_ | refine' wp_block ?_ | refine' wp_ret ?_ | refine' wp_skip ?_ | refine' then_ret ?_ | refine' in_ret ?_)) | ((with_reducible refine' c_condT ?hx ?_); (case hx => rfl)) | ((with_reducible refine' b_ret1 ?hr ?hv ?_); (case hr => rfl); (case hv => ((try simp only [ev, lget]); (try rfl)))) | ((with_reducible refine' l_step ?_); (first | ((first | (with_reducible refine' g_move ?_) | (with_reducible refine' g_assign ?_) | ((with_reducible refine' g_lenS ?hx ?_); (case hx => rfl))); (conv => arg 5; simp only [zA, zB, ev, lget, zC, zD, zE, zF, zG, zH, zI, zJ, zK, zL, zM, zN, zO])) | (((with_reducible refine' g_lss ?hx ?hy (fun _ => ?_) (fun _ => ?_)); (case hx => rfl)); (case hy => rfl); all_goals (first | (exfalso; omega) | (conv => arg 5; simp only [zA, zB, ev, lget, zC, zD, zE, zF, zG, zH, zI, zJ, zK, zL, zM, zN, zO]))))) | ((with_reducible refine' w_quiet (id := 6) ?hm ?hB ?_); (case hm => kernel_rfl); (case hB => kernel_rfl)) | ((with_reducible refine' q_nil ?_); intro _ _ _) | ((with_reducible refine' q_on ?hw ?_); (case hw => rfl)) | ((with_reducible refine' q_off ?hw ?_); (case hw => rfl); (conv => arg 6; simp only [zA, zB, ev, lget, zC, zD, zE, zF, zG, zH, zI, zJ, zK, zL, zM, zN, zO])) | ((with_reducible refine' q_step ?_); (first | ((first | (with_reducible refine' g_move ?_) | ((with_reducible refine' g_fieldAddr ?hx ?ho ?_); (case hx => rfl); (case ho => rfl)) | ((with_reducible refine' g_loadC ?hx ?hc ?_); (case hx => rfl); (case hc => first | exact hcellE _ (by exact eqq) 0 _ rfl | exact hcellE _ (by exact eqq) _ _ rfl | exact hcellF _ (by exact eqq) 0 _ rfl | exact hcellF _ (by exact eqq) _ _ rfl)) | ((with_reducible refine' g_pickT ?hx ?_); (case hx => rfl)) | ((with_reducible refine' g_pickF ?hx ?_); (case hx => rfl)) | ((with_reducible refine' g_indexAddr ?hx ?hy ?h0 ?h1 ?_); (case hx => rfl); (case hy => rfl); (case h0 => omega); (case h1 => omega))); (conv => arg 6; simp only [zA, zB, ev, lget, zC, zD, zE, zF, zG, zH, zI, zJ, zK, zL, zM, zN, zO])) | (((with_reducible refine' g_neq ?hx ?hy (fun _ => ?_) (fun _ => ?_)); (case hx => rfl)); (case hy => rfl); all_goals (first | (exfalso; omega) | (conv => arg 6; simp only [zA, zB, ev, lget, zC, zD, zE, zF, zG, zH, zI, zJ, zK, zL, zM, zN, zO]))))))
        all_goals exact ⟨ret_bool (decide_eq_false (fun h => by have h1 := hno h; simp only [seeA, Prod.mk.injEq] at h1; obtain ⟨e1, e2, e3⟩ := h1; contradiction)).symm, by exact eqq⟩
    · have hi' : i = xs.length := by omega
      repeat' (first | (with_reducible (first | refine' wp_seq ?_ | refine' wp_region_lit ?_ | refine' wpList_nil ?_ | refine' then_normal ?_ | refine' wp_ret ?_ | refine' wp_exit ?_ | refine' then_exit ?_ | refine' in_exit ?_)) | ((with_reducible refine' c_condF ?hx ?_); (case hx => rfl)) | ((with_reducible refine' b_ret1 ?hr ?hv ?_); (case hr => rfl); (case hv => ((try simp only [ev, lget]); (try rfl)))) | ((with_reducible refine' l_step ?_); (first | ((first | (with_reducible refine' g_move ?_) | (with_reducible refine' g_assign ?_) | ((with_reducible refine' g_lenS ?hx ?_); (case hx => rfl))); (conv => arg 5; simp only [zA, zB, ev, lget, zC, zD, zE, zF, zG, zH, zI, zJ, zK, zL, zM, zN, zO])) | (((with_reducible refine' g_lss ?hx ?hy (fun _ => ?_) (fun _ => ?_)); (case hx => rfl)); (case hy => rfl); all_goals (first | (exfalso; omega) | (conv => arg 5; simp only [zA, zB, ev, lget, zC, zD, zE, zF, zG, zH, zI, zJ, zK, zL, zM, zN, zO]))))))
      refine ⟨ret_bool (decide_eq_true ?_).symm, by exact eqq⟩
      rw [hi', List.take_length, List.take_of_length_le (by omega)] at heq
      exact heq
end Go.Proofs.Ytmngcpackbekiaa
