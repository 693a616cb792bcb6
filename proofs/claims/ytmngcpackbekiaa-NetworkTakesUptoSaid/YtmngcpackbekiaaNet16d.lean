/- The network: fates are laid in. -/
import Derived.Test.YtmngcpackbekiaaNet16c
namespace Go.Proofs.Ytmngcpackbekiaa
open Go.RowKit Go.Proofs.YtmngcpackbekiaaE
set_option linter.unusedSimpArgs false
set_option linter.unusedVariables false

def fateN (N : Net) (l : List Int) : Net × Int :=
  if 64 < l.length then (N, 1) else if l = [] then (N, 160) else if ¬ (∀ c ∈ l, letterB c) then (N, 160) else if 4096 < N.fates.length + l.length then (N, 1) else ({ N with fates := N.fates ++ l }, 0)
theorem strI_nil {s : ByteArray} (h : strI s = []) : s.size = 0 := by rw [← strI_length, h]; rfl
theorem byteAt_mem {s : ByteArray} {c : Int} (h : c ∈ strI s) : ∃ j, j < s.size ∧ byteAt s j = c := by
  obtain ⟨j, hj, hc⟩ := List.mem_iff_getElem.1 h
  rw [strI_length] at hj
  exact ⟨j, hj, by rw [byteAt, List.getD_eq_getElem?_getD, List.getElem?_eq_getElem (by rw [strI_length]; exact hj)]; exact hc⟩
theorem byteAt_in {s : ByteArray} {j : Nat} (h : j < s.size) : byteAt s j ∈ strI s := by
  rw [byteAt, List.getD_eq_getElem?_getD, List.getElem?_eq_getElem (by rw [strI_length]; exact h)]
  exact List.getElem_mem _
theorem decode_lo {s : ByteArray} {p : Nat} (h : p < s.size) (hb : byteAt s p < 128) : Utf8.decode s p = ((byteAt s p).toNat, 1) := by
  rw [byteAt_get h] at hb ⊢
  rw [decode_ascii s p h (by omega)]
  rfl
theorem decode_hi {s : ByteArray} {p : Nat} (h : p < s.size) (hb : 128 ≤ byteAt s p) : 128 ≤ (Utf8.decode s p).1 := by
  rw [byteAt_get h] at hb
  exact (decode_high s p h (by omega)).1
theorem fate_bad {N : Net} {s : ByteArray} (h64 : ¬ 64 < s.size) (hz : ¬ s.size = 0) {j : Nat} (hj : j < s.size) (hb : ¬ letterB (byteAt s j)) : fateN N (strI s) = (N, 160) := by
  have hsl := strI_length s
  rw [fateN, if_neg (by omega), if_neg (fun hh => hz (strI_nil hh)), if_pos (fun hh => hb (hh _ (byteAt_in hj)))]
set_option maxHeartbeats 2000000 in
theorem fate_any (g : Nat) (F : Nat → Prop) (N : Net) (s : ByteArray) (w : World) (h0 : NetAt w F g N) (hfl : N.fates.length ≤ 4096) (hss : s.size ≤ 9223372036854775807) :
    Calls Try.prog 11 #[.pointer (some ⟨g, 0, none⟩), .string s] w fun e w' => e = .returned (.int .i64 (fateN N (strI s)).2) ∧ NetAt w' (fun k => F k ∨ (w.heap.size ≤ k ∧ k < w'.heap.size)) g (fateN N (strI s)).1 ∧ Evt F w w' := by
  have hsl := strI_length s
  have same : ∀ w', Evt (fun _ => False) w w' → NetAt w' (fun k => F k ∨ (w.heap.size ≤ k ∧ k < w'.heap.size)) g N ∧ Evt F w w' := fun w' he =>
    ⟨h0.evt he (fun _ _ h => h) (fun _ h => .inl h) (by
      rintro k (hk | hk)
      · exact Nat.lt_of_lt_of_le (h0.lt k hk) he.size
      · exact hk.2), he.mono fun _ _ h => h.elim⟩
  by_cases h64 : 64 < s.size
  · have hr : fateN N (strI s) = (N, 1) := by rw [fateN, if_pos (by omega)]
    rw [hr]
    go_enter Try.func11, Try.ntmps11
    repeat' (first | (with_reducible (first | refine' wp_seq ?_ | refine' wp_region_lit ?_ | refine' wpList_nil ?_ | refine' then_normal ?_ | refine' wp_block ?_ | refine' wp_ret ?_ | refine' then_ret ?_ | refine' in_ret ?_)) | ((with_reducible refine' c_condT ?hx ?_); (case hx => rfl)) | ((with_reducible refine' b_ret1 ?hr ?hv ?_); (case hr => rfl); (case hv => ((try simp only [ev, lget]); (try rfl)))) | ((with_reducible refine' l_step ?_); (first | ((first | (with_reducible refine' g_move ?_) | (with_reducible refine' g_assign ?_) | ((with_reducible refine' g_lenStr ?hx ?_); (case hx => rfl))); (conv => arg 5; simp only [zA, zB, ev, lget, zC, zD, zE, zF, zG, zH, zI, zJ, zK, zL, zM, zN, zO])) | (((with_reducible refine' g_gtr ?hx ?hy (fun _ => ?_) (fun _ => ?_)); (case hx => rfl)); (case hy => rfl); all_goals (first | (exfalso; omega) | (conv => arg 5; simp only [zA, zB, ev, lget, zC, zD, zE, zF, zG, zH, zI, zJ, zK, zL, zM, zN, zO]))))))
    exact ⟨rfl, same _ (by exact eqq)⟩
  · by_cases hz : s.size = 0
    · have hr : fateN N (strI s) = (N, 160) := by rw [fateN, if_neg (by omega), if_pos (List.eq_nil_of_length_eq_zero (by omega))]
      rw [hr]
      have hs0 : s = ⟨#[]⟩ := by
        apply ByteArray.ext
        apply Array.ext'
        apply List.eq_nil_of_length_eq_zero
        rw [Array.length_toList]
        exact hz
      go_enter Try.func11, Try.ntmps11
      repeat' (first | ((with_reducible refine' l_step ?_); (with_reducible refine' g_eqlStr ?hx ?hy (fun hq => ?q1) (fun hq => ?q2)); (case hx => rfl); (case hy => rfl); (case q2 => exact absurd hs0 hq); (conv => arg 5; simp only [zA, zB, ev, lget, zC, zD, zE, zF, zG, zH, zI, zJ, zK, zL, zM, zN, zO])) | (with_reducible (first | refine' wp_seq ?_ | refine' wp_region_lit ?_ | refine' wpList_nil ?_ | refine' then_normal ?_ | refine' wp_block ?_ | refine' wp_ret ?_ | refine' then_ret ?_ | refine' in_ret ?_)) | ((with_reducible refine' c_condT ?hx ?_); (case hx => rfl)) | ((with_reducible refine' c_condF ?hx ?_); (case hx => rfl)) | ((with_reducible refine' b_ret1 ?hr ?hv ?_); (case hr => rfl); (case hv => ((try simp only [ev, lget]); (try rfl)))) | ((with_reducible refine' l_step ?_); (first | ((first | (with_reducible refine' g_move ?_) | (with_reducible refine' g_assign ?_) | ((with_reducible refine' g_lenStr ?hx ?_); (case hx => rfl))); (conv => arg 5; simp only [zA, zB, ev, lget, zC, zD, zE, zF, zG, zH, zI, zJ, zK, zL, zM, zN, zO])) | (((with_reducible refine' g_gtr ?hx ?hy (fun _ => ?_) (fun _ => ?_)); (case hx => rfl)); (case hy => rfl); all_goals (first | (exfalso; omega) | (conv => arg 5; simp only [zA, zB, ev, lget, zC, zD, zE, zF, zG, zH, zI, zJ, zK, zL, zM, zN, zO]))))))
      exact ⟨rfl, same _ (by exact eqq)⟩
    · have hne : ¬ strI s = [] := fun hh => hz (strI_nil hh)
      go_enter Try.func11, Try.ntmps11
      repeat' (first | ((with_reducible refine' l_step ?_); (with_reducible refine' g_eqlStr ?hx ?hy (fun hq => ?q3) (fun hq => ?q4)); (case hx => rfl); (case hy => rfl); (case q3 => exact absurd (show s.size = 0 by rw [hq]; rfl) hz); (conv => arg 5; simp only [zA, zB, ev, lget, zC, zD, zE, zF, zG, zH, zI, zJ, zK, zL, zM, zN, zO])) | ((with_reducible refine' e_rangeStr ?hx ?_); (case hx => rfl); intro kI wI hI1 hI2 hI hevI hzI; (conv => arg 5; simp only [zA, zB, ev, lget, zC, zD, zE, zF, zG, zH, zI, zJ, zK, zL, zM, zN, zO])) | (with_reducible (first | refine' wp_seq ?_ | refine' wp_region_lit ?_ | refine' wpList_nil ?_ | refine' then_normal ?_ | refine' wp_block ?_ | refine' wp_skip ?_ | refine' in_normal ?_)) | ((with_reducible refine' c_condF ?hx ?_); (case hx => rfl)) | ((with_reducible refine' l_step ?_); (first | ((first | (with_reducible refine' g_move ?_) | (with_reducible refine' g_assign ?_) | ((with_reducible refine' g_lenStr ?hx ?_); (case hx => rfl))); (conv => arg 5; simp only [zA, zB, ev, lget, zC, zD, zE, zF, zG, zH, zI, zJ, zK, zL, zM, zN, zO])) | (((with_reducible refine' g_gtr ?hx ?hy (fun _ => ?_) (fun _ => ?_)); (case hx => rfl)); (case hy => rfl); all_goals (first | (exfalso; omega) | (conv => arg 5; simp only [zA, zB, ev, lget, zC, zD, zE, zF, zG, zH, zI, zJ, zK, zL, zM, zN, zO]))))))
      have hkF : ∀ j, F j → ¬ j = kI := fun j hj hh => by have := h0.lt j hj; omega
      have hlI := hI2
      refine' s_loop [4, 6, 16, 17, 18, 19, 20, 21, 22, 23, 24, 25, 26, 27, 28, 29, 30, 31, 32] (fun n u w' => ∃ (p : Nat), n = s.size - p ∧ p ≤ s.size ∧ w'.heap[kI]? = some (.stringIter s p) ∧ (∀ j, j < p → letterB (byteAt s j)) ∧ Evt (fun j => j = kI) wI w') s.size ?h0 ?round
      case h0 => exact ⟨0, rfl, by omega, hI, by intro j hj; omega, Evt.refl _ _⟩
      case round =>
        rintro n u w3 ⟨p, rfl, hp, hk3, hlet, hev3⟩
        have hz3 := hev3.size
        simp only [setW, List.foldl_cons, List.foldl_nil, List.set_cons_succ, List.set_cons_zero]
        have hevw3 : Evt (fun _ => False) w w3 := Evt.next hev3 (by exact eqq) (by intro i hi h; exfalso; have h' : i = _ := h; omega)
        clear hevI
        repeat' (first | (with_reducible (first | refine' wp_seq ?_ | refine' wp_region_lit ?_)))
        (with_reducible refine' e_next ?hx ?hk ?n1 ?n2); (case hx => rfl); (case hk => exact hk3)
        case n1 =>
          intro hlt w4 hk4 hev4 hz4
          have hevw4 : Evt (fun _ => False) w w4 := Evt.next hev4 hevw3 (by intro i hi h; exfalso; have h' : i = _ := h; omega)
          by_cases hb : byteAt s p < 128
          · have hr := byteAt_range s p
            rw [decode_lo hlt hb] at hk4 ⊢
            have hcast : (((byteAt s p).toNat : Nat) : Int) = byteAt s p := by omega
            simp only [hcast] at hk4 ⊢
            (conv => arg 5; simp only [zA, zB, ev, lget, zC, zD, zE, zF, zG, zH, zI, zJ, zK, zL, zM, zN, zO])
            generalize hbe : byteAt s p = bt at *
            repeat' (first | (with_reducible (first | refine' wp_seq ?_ | refine' wp_region_lit ?_ | refine' wpList_nil ?_ | refine' then_normal ?_ | refine' wp_block ?_ | refine' wp_ret ?_ | refine' wp_skip ?_ | refine' then_ret ?_ | refine' in_normal ?_ | refine' in_ret ?_)) | ((with_reducible refine' c_condT ?hx ?_); (case hx => rfl)) | ((with_reducible refine' c_condF ?hx ?_); (case hx => rfl)) | ((with_reducible refine' b_ret1 ?hr ?hv ?_); (case hr => rfl); (case hv => ((try simp only [ev, lget]); (try rfl)))) | ((with_reducible refine' l_step ?_); (first | ((first | (with_reducible refine' g_move ?_) | (with_reducible refine' g_assign ?_) | ((with_reducible refine' g_pickT ?hx ?_); (case hx => rfl)) | ((with_reducible refine' g_pickF ?hx ?_); (case hx => rfl)) | ((with_reducible refine' g_extract ?hx ?hv ?_); (case hx => rfl); (case hv => rfl))); (conv => arg 5; simp only [zA, zB, ev, lget, zC, zD, zE, zF, zG, zH, zI, zJ, zK, zL, zM, zN, zO])) | ((first | ((with_reducible refine' g_lss ?hx ?hy (fun _ => ?_) (fun _ => ?_)); (case hx => rfl)) | ((with_reducible refine' g_gtr ?hx ?hy (fun _ => ?_) (fun _ => ?_)); (case hx => rfl)) | ((with_reducible refine' g_neq ?hx ?hy (fun _ => ?_) (fun _ => ?_)); (case hx => rfl))); (case hy => rfl); all_goals (first | (exfalso; omega) | (conv => arg 5; simp only [zA, zB, ev, lget, zC, zD, zE, zF, zG, zH, zI, zJ, zK, zL, zM, zN, zO]))))) | ((with_reducible refine' l_on ?hw ?_); (case hw => rfl)) | ((with_reducible refine' l_off ?hw ?_); (case hw => rfl); (conv => arg 5; simp only [zA, zB, ev, lget, zC, zD, zE, zF, zG, zH, zI, zJ, zK, zL, zM, zN, zO])))
            all_goals first
              | exact ⟨_, _, rfl, (by omega : s.size - (p + 1) < s.size - p), by simp only [zA, zB], p + 1, rfl, by omega, hk4, (fun j hj => by
                  by_cases hjp : j = p
                  · subst hjp
                    rw [hbe]
                    unfold letterB
                    omega
                  · exact hlet j (by omega)), Evt.next hev4 hev3 (fun _ _ h => h)⟩
              | (rw [fate_bad h64 hz hlt (by rw [hbe]; unfold letterB; omega)]
                 exact ⟨rfl, same _ hevw4⟩)
          · have hd := decode_hi hlt (by omega)
            generalize (Utf8.decode s p) = dc at *
            obtain ⟨cc, wd⟩ := dc
            simp only [] at hd hk4 ⊢
            (conv => arg 5; simp only [zA, zB, ev, lget, zC, zD, zE, zF, zG, zH, zI, zJ, zK, zL, zM, zN, zO])
            repeat' (first | (with_reducible (first | refine' wp_seq ?_ | refine' wp_region_lit ?_ | refine' wpList_nil ?_ | refine' then_normal ?_ | refine' wp_block ?_ | refine' wp_ret ?_ | refine' wp_skip ?_ | refine' then_ret ?_ | refine' in_ret ?_)) | ((with_reducible refine' c_condT ?hx ?_); (case hx => rfl)) | ((with_reducible refine' b_ret1 ?hr ?hv ?_); (case hr => rfl); (case hv => ((try simp only [ev, lget]); (try rfl)))) | ((with_reducible refine' l_step ?_); (first | ((first | (with_reducible refine' g_move ?_) | (with_reducible refine' g_assign ?_) | ((with_reducible refine' g_pickT ?hx ?_); (case hx => rfl)) | ((with_reducible refine' g_pickF ?hx ?_); (case hx => rfl)) | ((with_reducible refine' g_extract ?hx ?hv ?_); (case hx => rfl); (case hv => rfl))); (conv => arg 5; simp only [zA, zB, ev, lget, zC, zD, zE, zF, zG, zH, zI, zJ, zK, zL, zM, zN, zO])) | ((first | ((with_reducible refine' g_lss ?hx ?hy (fun _ => ?_) (fun _ => ?_)); (case hx => rfl)) | ((with_reducible refine' g_gtr ?hx ?hy (fun _ => ?_) (fun _ => ?_)); (case hx => rfl)) | ((with_reducible refine' g_neq ?hx ?hy (fun _ => ?_) (fun _ => ?_)); (case hx => rfl))); (case hy => rfl); all_goals (first | (exfalso; omega) | (conv => arg 5; simp only [zA, zB, ev, lget, zC, zD, zE, zF, zG, zH, zI, zJ, zK, zL, zM, zN, zO]))))) | ((with_reducible refine' l_on ?hw ?_); (case hw => rfl)))
            rw [fate_bad h64 hz hlt (by unfold letterB; omega)]
            exact ⟨rfl, same _ hevw4⟩
        case n2 =>
          intro hge
          obtain rfl : p = s.size := by omega
          have hall : ∀ c ∈ strI s, letterB c := fun c hc => by
            obtain ⟨j, hj, rfl⟩ := byteAt_mem hc
            exact hlet j hj
          obtain ⟨vF, vL, vC, mp, hv⟩ := h0.up hevw3
          have hblk := hv.blk
          obtain ⟨A, c, hvF, hfr⟩ := hv.fates.ok
          rw [u8s_length] at hvF
          have hft := hv.fates
          clear hfr
          subst hvF
          (conv => arg 5; simp only [zA, zB, ev, lget, zC, zD, zE, zF, zG, zH, zI, zJ, zK, zL, zM, zN, zO])
          by_cases hlong : 4096 < N.fates.length + s.size
          · have hr : fateN N (strI s) = (N, 1) := by rw [fateN, if_neg (by omega), if_neg hne, if_neg (fun hh => hh hall), if_pos (by omega)]
            rw [hr]
            repeat' (first | (with_reducible (first | refine' wp_seq ?_ | refine' wp_region_lit ?_ | refine' wpList_nil ?_ | refine' then_normal ?_ | refine' wp_ret ?_ | refine' wp_exit ?_ | refine' then_ret ?_ | refine' then_exit ?_ | refine' in_exit ?_)) | ((with_reducible refine' c_condT ?hx ?_); (case hx => rfl)) | ((with_reducible refine' c_condF ?hx ?_); (case hx => rfl)) | ((with_reducible refine' b_ret1 ?hr ?hv ?_); (case hr => rfl); (case hv => ((try simp only [ev, lget]); (try rfl)))) | ((with_reducible refine' l_step ?_); (first | ((first | (with_reducible refine' g_move ?_) | (with_reducible refine' g_assign ?_) | ((with_reducible refine' g_fieldAddr ?hx ?ho ?_); (case hx => rfl); (case ho => rfl)) | ((with_reducible refine' g_loadB ?hx ?hb ?hc ?_); (case hx => rfl); (case hb => exact bqq); first | (case hc => rfl) | (case hn => simp only [List.length_cons, List.length_nil]; omega)) | ((with_reducible refine' g_addN ?hx ?hy ?h0 ?h1 ?_); (case hx => rfl); (case hy => rfl); (case h0 => omega); (case h1 => omega)) | ((with_reducible refine' g_nilCheckP ?hx ?_); (case hx => rfl)) | ((with_reducible refine' g_lenS ?hx ?_); (case hx => rfl)) | ((with_reducible refine' g_lenStr ?hx ?_); (case hx => rfl)) | ((with_reducible refine' g_extract ?hx ?hv ?_); (case hx => rfl); (case hv => rfl))); (conv => arg 5; simp only [zA, zB, ev, lget, zC, zD, zE, zF, zG, zH, zI, zJ, zK, zL, zM, zN, zO])) | (((with_reducible refine' g_gtr ?hx ?hy (fun _ => ?_) (fun _ => ?_)); (case hx => rfl)); (case hy => rfl); all_goals (first | (exfalso; omega) | (conv => arg 5; simp only [zA, zB, ev, lget, zC, zD, zE, zF, zG, zH, zI, zJ, zK, zL, zM, zN, zO]))))))
            exact ⟨rfl, same _ hevw3⟩
          · have hr : fateN N (strI s) = ({ N with fates := N.fates ++ strI s }, 0) := by rw [fateN, if_neg (by omega), if_neg hne, if_neg (fun hh => hh hall), if_neg (by omega)]
            rw [hr]
            repeat' (first | (with_reducible (first | refine' wp_seq ?_ | refine' wp_region_lit ?_ | refine' wpList_nil ?_ | refine' then_normal ?_ | refine' wp_skip ?_ | refine' wp_exit ?_ | refine' then_exit ?_ | refine' in_exit ?_)) | ((with_reducible refine' c_condF ?hx ?_); (case hx => rfl)) | ((with_reducible refine' l_step ?_); (first | ((first | (with_reducible refine' g_move ?_) | ((with_reducible refine' g_fieldAddr ?hx ?ho ?_); (case hx => rfl); (case ho => rfl)) | ((with_reducible refine' g_loadB ?hx ?hb ?hc ?_); (case hx => rfl); (case hb => exact bqq); first | (case hc => rfl) | (case hn => simp only [List.length_cons, List.length_nil]; omega)) | ((with_reducible refine' g_addN ?hx ?hy ?h0 ?h1 ?_); (case hx => rfl); (case hy => rfl); (case h0 => omega); (case h1 => omega)) | ((with_reducible refine' g_nilCheckP ?hx ?_); (case hx => rfl)) | ((with_reducible refine' g_lenS ?hx ?_); (case hx => rfl)) | ((with_reducible refine' g_lenStr ?hx ?_); (case hx => rfl)) | ((with_reducible refine' g_extract ?hx ?hv ?_); (case hx => rfl); (case hv => rfl))); (conv => arg 5; simp only [zA, zB, ev, lget, zC, zD, zE, zF, zG, zH, zI, zJ, zK, zL, zM, zN, zO])) | (((with_reducible refine' g_gtr ?hx ?hy (fun _ => ?_) (fun _ => ?_)); (case hx => rfl)); (case hy => rfl); all_goals (first | (exfalso; omega) | (conv => arg 5; simp only [zA, zB, ev, lget, zC, zD, zE, zF, zG, zH, zI, zJ, zK, zL, zM, zN, zO]))))))
            (with_reducible refine' e_tailStr (v := .slice A N.fates.length c) (xs := u8s N.fates) (s := s) ?hx5 ?hy5 ?h5 ?hb5 ?_); (case hx5 => rfl); (case hy5 => rfl); (case h5 => exact hft); (case hb5 => rw [u8s_length]; omega)
            intro v' w5 hT5 hev5 hin5 hz5
            rw [strCells_strI, show u8s N.fates ++ (strI s).map (Value.int .u8) = u8s (N.fates ++ strI s) by simp [u8s]] at hT5
            obtain ⟨A5, c5, hv5, _⟩ := hT5.ok
            subst hv5
            have hgT : ¬ tailBlk (.slice A N.fates.length c) = some g := fun hh => by
              obtain ⟨cur, hc⟩ := hft.typ g hh
              exact Blk.ne hblk hc (by decide) rfl
            have hglt := hblk.lt
            (conv => arg 5; simp only [zA, zB, ev, lget, zC, zD, zE, zF, zG, zH, zI, zJ, zK, zL, zM, zN, zO])
            repeat' (first | (with_reducible (first | refine' wp_seq ?_ | refine' wp_region_lit ?_ | refine' wpList_nil ?_ | refine' then_normal ?_ | refine' wp_ret ?_)) | ((with_reducible refine' b_ret1 ?hr ?hv ?_); (case hr => rfl); (case hv => ((try simp only [ev, lget]); (try rfl)))) | ((with_reducible refine' l_step ?_); ((first | (with_reducible refine' g_assign ?_) | ((with_reducible refine' g_fieldAddr ?hx ?ho ?_); (case hx => rfl); (case ho => rfl)) | ((with_reducible refine' g_nilCheckP ?hx ?_); (case hx => rfl))); (conv => arg 5; simp only [zA, zB, ev, lget, zC, zD, zE, zF, zG, zH, zI, zJ, zK, zL, zM, zN, zO]))) | ((first | ((with_reducible refine' e_storeB ?hx ?hy ?hv ?h1 ?hb ?ho ?_); (case hx => rfl); (case hy => ((try simp only [ev, lget]); (try rfl))); (case hv => rfl); (case h1 => rfl)) | ((with_reducible refine' e_storeR ?hx ?hy ?h1 ?hb ?hn ?ho ?_); (case hx => rfl); (case hy => rfl); (case h1 => simp [Value.oneCell']); (case hn => rfl))); (case hb => exact bqq); (case ho => first | (simp only [List.length_cons, List.length_nil]; omega) | omega | (simp; omega) | simp); (try simp only [splice, zA, zB]); intro _ _ _ _))
            rename_i w6 hb6 hev6 hz6
            have hS : Evt (fun k => k = g ∨ tailBlk (.slice A N.fates.length c) = some k) w3 w6 := Evt.next hev6 (hev5.mono fun _ _ h => .inr h) (fun _ _ h => .inl h)
            have hty : ∀ {t : TypeId} {k : Nat} {cur : List Value}, Blk w3 k t cur → t ≠ 5 → t ≠ 56 → ¬ (k = g ∨ tailBlk (.slice A N.fates.length c) = some k) := by
              rintro t k cur hk h1 h2 (rfl | hh)
              · exact Blk.ne hblk hk (fun e => h2 e.symm) rfl
              · obtain ⟨cur', hc⟩ := hft.typ k hh
                exact Blk.ne hc hk (fun e => h1 e.symm) rfl
            have hbe : ∀ {A' : Option Addr} {body : List Int}, BodyAt w3 F (tailBlk (.slice A N.fates.length c)) A' body → BodyAt w6 (fun k => F k ∨ (w.heap.size ≤ k ∧ k < w6.heap.size)) (tailBlk (.slice A5 (u8s (N.fates ++ strI s)).length c5)) A' body := fun hb =>
              hb.evt hS (fun b cur hk _ hn => by
                rintro (rfl | hh)
                · exact Blk.ne hblk hk (by decide) rfl
                · exact hn hh) (fun _ h => .inl h) (fun b hF hn hh => by
                rcases hin5 b hh with h1 | h1
                · exact hn h1
                · have := hv.lt b hF
                  omega)
            refine ⟨rfl, ⟨_, vL, vC, mp, ⟨hb6, ?_, ?_, ?_, ?_, .inl hv.fg, .inl hv.fm, ?_, fun k hk => .inl (hv.fl k hk), fun k hk => .inl (hv.fa k hk), fun x hx => hbe (hv.fb x hx), fun x hx => hbe (hv.fc x hx), ?_⟩⟩, ?_⟩
            · refine hT5.evt hev6 (fun k hk hg => ?_)
              obtain ⟨cur, hc⟩ := hT5.typ k hk
              exact Blk.ne (hblk.evt hev5 hgT) hc (by decide) hg.symm
            · refine own_evt hS hv.fly (fun k hk => ?_)
              obtain ⟨cur, hc⟩ := own_typ hv.fly k hk
              exact hty hc (by decide) (by decide)
            · refine own_evt hS hv.acc (fun k hk => ?_)
              obtain ⟨cur, hc⟩ := own_typ hv.acc k hk
              exact hty hc (by decide) (by decide)
            · refine hv.seen.evt hS ?_
              rintro (hh | hh)
              · exact hv.seen.ne hblk hh.symm
              · obtain ⟨cur, hc⟩ := hft.typ mp hh
                exact hv.seen.ne hc rfl
            · intro k hk
              rcases hin5 k hk with h1 | h1
              · exact .inl (hv.ff k h1)
              · have := hT5.lt k hk
                have := hevw3.size
                exact .inr (by omega)
            · rintro k (hk | hk)
              · have := hv.lt k hk
                omega
              · exact hk.2
            · refine Evt.next hS (hevw3.mono fun _ _ h => h.elim) ?_
              rintro i hi (rfl | hh)
              · exact hv.fg
              · exact hv.ff i hh
end Go.Proofs.Ytmngcpackbekiaa
