/- Scripts in memory; was it sent?; a calm network. -/
import Derived.Test.YtmngcpackbekiaaPly16
namespace Go.Proofs.Ytmngcpackbekiaa
open Go.RowKit Go.Proofs.YtmngcpackbekiaaE
set_option linter.unusedSimpArgs false
set_option linter.unusedVariables false

structure RO (w : World) (A : Option Addr) (os : List Opr) : Prop where
  len : os.length ≤ 9223372036854775807
  row : 0 < os.length → ∃ b o, A = some ⟨b, o, none⟩ ∧ ∀ j e, os[j]? = some e → ∀ i v, (opC e)[i]? = some v → w.cell? ⟨b, o + j * 6 + i, none⟩ = some v
  bod : ∀ o ∈ os, RC w o.A (u8s o.body)
theorem RO.up {w w' : World} {A : Option Addr} {os : List Opr} (h : RO w A os) (he : Evt (fun _ => False) w w') : RO w' A os where
  len := h.len
  row := fun hn => by
    obtain ⟨b, o, rfl, hc⟩ := h.row hn
    exact ⟨b, o, rfl, fun j e hj i v hi => cell_evt he (hc j e hj i v hi) id⟩
  bod := fun o ho => (h.bod o ho).up he
theorem RO.at_ {w : World} {A : Option Addr} {os : List Opr} (h : RO w A os) {i : Nat} (hi : i < os.length) : ∃ b o, A = some ⟨b, o, none⟩ ∧ ∀ w', Evt (fun _ => False) w w' → ∀ j v, (opC os[i])[j]? = some v → w'.cell? ⟨b, o + i * 6 + j, none⟩ = some v := by
  obtain ⟨b, o, rfl, hc⟩ := h.row (by omega)
  exact ⟨b, o, rfl, fun w' he j v hv => cell_evt he (hc i _ (List.getElem?_eq_getElem hi) j v hv) id⟩
theorem see_bod2 {l : List Ma} {N : Net} {b : Nat} (h : l.map seeA = N.acc.map seeA) (h2 : ∀ m ∈ N.acc, m.body.length ≤ b) : l.length = N.acc.length ∧ ∀ m ∈ l, m.body.length ≤ b := by
  have h1 := congrArg List.length h
  simp only [List.length_map] at h1
  refine ⟨h1, fun m hm => ?_⟩
  have h3 : seeA m ∈ N.acc.map seeA := h ▸ List.mem_map.2 ⟨m, hm, rfl⟩
  obtain ⟨m', h4, h5⟩ := List.mem_map.1 h3
  have h6 : m'.body = m.body := by
    simp only [seeA, Prod.mk.injEq] at h5
    exact h5.2.2
  rw [← h6]
  exact h2 m' h4
theorem same_t (A B : Option Addr) (c d n m : Nat) (xs ys : List Int) (w : World) (hr : RC w A (u8s xs)) (hs : RC w B (u8s ys)) (hn : xs.length = n) (hm : ys.length = m) (hl : n ≤ 9223372036854775807) (hl2 : m ≤ 9223372036854775807) (h : xs = ys) :
    Calls Try.prog 29 #[.slice A n c, .slice B m d] w fun e w' => e = .returned (.bool true) ∧ Evt (fun _ => False) w w' := by
  refine (same_any A B c d n m xs ys w hr hs hn hm hl hl2).mono ?_
  rintro e w' ⟨rfl, he⟩
  exact ⟨by rw [decide_eq_true h], he⟩
theorem same_f (A B : Option Addr) (c d n m : Nat) (xs ys : List Int) (w : World) (hr : RC w A (u8s xs)) (hs : RC w B (u8s ys)) (hn : xs.length = n) (hm : ys.length = m) (hl : n ≤ 9223372036854775807) (hl2 : m ≤ 9223372036854775807) (h : xs ≠ ys) :
    Calls Try.prog 29 #[.slice A n c, .slice B m d] w fun e w' => e = .returned (.bool false) ∧ Evt (fun _ => False) w w' := by
  refine (same_any A B c d n m xs ys w hr hs hn hm hl hl2).mono ?_
  rintro e w' ⟨rfl, he⟩
  exact ⟨by rw [decide_eq_false h], he⟩
theorem now_q (g : Nat) (F : Nat → Prop) (N : Net) (w : World) (h : NetAt w F g N) :
    Calls Try.prog 22 #[.pointer (some ⟨g, 0, none⟩)] w fun e w' => e = .returned (.int .i64 N.now) ∧ Evt (fun _ => False) w w' := by
  refine (now_any g F N w h).mono ?_
  rintro e w' ⟨rfl, rfl⟩
  exact ⟨rfl, Evt.refl _ _⟩
theorem acc_q (A : Option Addr) (c n : Nat) (G : Nat → Prop) (l : List Ma) (a t : Int) (w : World) (hr : AccAt w G A l) (hn : l.length = n) (hl : n ≤ 9223372036854775807) (ht : accT l a = t) :
    Calls Try.prog 16 #[.slice A n c, .int .i64 a] w fun e w' => e = .returned (.int .i64 t) ∧ Evt (fun _ => False) w w' := by
  subst ht
  exact lawAccepted_any A c n G l a w hr hn hl
theorem sameAcc_t (A B : Option Addr) (c d n m : Nat) (G H : Nat → Prop) (xs ys : List Ma) (w : World) (hr : AccAt w G A xs) (hs : AccAt w H B ys) (hn : xs.length = n) (hm : ys.length = m) (hl : n ≤ 9223372036854775807) (hl2 : m ≤ 9223372036854775807) (hb1 : ∀ x ∈ xs, x.body.length ≤ 9223372036854775807) (hb2 : ∀ x ∈ ys, x.body.length ≤ 9223372036854775807) (h : xs.map seeA = ys.map seeA) :
    Calls Try.prog 19 #[.slice A n c, .slice B m d] w fun e w' => e = .returned (.bool true) ∧ Evt (fun _ => False) w w' := by
  refine (sameAccepted_any A B c d n m G H xs ys w hr hs hn hm hl hl2 hb1 hb2).mono ?_
  rintro e w' ⟨rfl, he⟩
  exact ⟨by rw [decide_eq_true h], he⟩
/-- One of the first k steps sent this. -/
def Sent (os : List Opr) (k : Nat) (id : Int) (body : List Int) : Prop := ∃ j, ∃ h : j < os.length, j < k ∧ os[j].kind = 3 ∧ os[j].id = id ∧ os[j].body = body
theorem Sent.mono {os : List Opr} {k k' : Nat} {id : Int} {body : List Int} (h : Sent os k id body) (hk : k ≤ k') : Sent os k' id body := by
  obtain ⟨j, h1, h2, h3⟩ := h
  exact ⟨j, h1, by omega, h3⟩
set_option maxHeartbeats 4000000 in
theorem wasSent_any (A : Option Addr) (c n : Nat) (os : List Opr) (k : Nat) (m : Ma) (w : World) (ho : RO w A os) (hn : os.length = n) (hk : k ≤ n) (hb : RC w m.A (u8s m.body)) (hbl : m.body.length ≤ 9223372036854775807) (hbo : ∀ o ∈ os, o.body.length ≤ 9223372036854775807) (hs : Sent os k m.id m.body) :
    Calls Try.prog 23 #[.slice A n c, .int .i64 k, .agg (acC m).toArray] w fun e w' => e = .returned (.bool true) ∧ Evt (fun _ => False) w w' := by
  subst hn
  obtain ⟨j, hj, hjk, hj1, hj2, hj3⟩ := hs
  have hlen := ho.len
  go_enter Try.func23, Try.ntmps23
  repeat' (first | (with_reducible refine' stop_reg (id := 1) ?_) | (with_reducible (first | refine' wp_seq ?_ | refine' wp_region_lit ?_ | refine' wpList_nil ?_ | refine' then_normal ?_)) | ((with_reducible refine' l_step ?_); ((with_reducible refine' g_assign ?_); (conv => arg 5; simp only [zA, zB, ev, lget, zC, zD, zE, zF, zG, zH, zI, zJ, zK, zL, zM, zN, zO]))) | (((with_reducible refine' e_boxA ?hx ?_); (case hx => rfl)); intro _ _ _ _ _ _ _; (conv => arg 5; simp only [zA, zB, ev, lget, zC, zD, zE, zF, zG, zH, zI, zJ, zK, zL, zM, zN, zO])))
  refine stop_go ?_
  rename_i gp wp p1 p2 hgp hevp hzp
  repeat' (first | (with_reducible (first | refine' wp_region_lit ?_ | refine' wpList_nil ?_ | refine' then_normal ?_ | refine' wp_block ?_)) | ((with_reducible refine' l_step ?_); ((with_reducible refine' g_assign ?_); (conv => arg 5; simp only [zA, zB, ev, lget, zC, zD, zE, zF, zG, zH, zI, zJ, zK, zL, zM, zN, zO]))))
  refine' s_loop [6, 7, 8, 9, 10, 11, 12, 13, 14, 15, 16, 17, 18, 19, 20, 21, 22, 23, 24, 25, 26, 27, 28, 29, 30, 31, 32, 33, 34, 35, 36, 37, 38] (fun n u w' => ∃ (i : Nat), n = k - i ∧ i ≤ j ∧ u 7 = .int .i64 i ∧ Evt (fun _ => False) wp w') k ?h0 ?round
  case h0 => exact ⟨0, rfl, by omega, rfl, Evt.refl _ _⟩
  case round =>
    rintro n u w2 ⟨i, rfl, hi, h7, hev⟩
    simp only [setW, List.foldl_cons, List.foldl_nil, List.set_cons_succ, List.set_cons_zero]
    simp only [h7]
    have hz := hev.size
    have hlt : i < os.length := by omega
    have hev2 : Evt (fun _ => False) w w2 := Evt.next hev hevp (fun _ _ h => h)
    obtain ⟨b, o, rfl, hcellE⟩ := (ho.up hev2).at_ hlt
    have hbi := ((ho.bod _ (List.getElem_mem hlt)).up hev2)
    have hbli := hbo _ (List.getElem_mem hlt)
    have hgp2 := hgp.evt hev (fun h => h)
    have hb2 := hb.up hev2
    have hend : i = j → os[i].kind = 3 ∧ os[i].id = m.id ∧ os[i].body = m.body := by
      rintro rfl
      exact ⟨hj1, hj2, hj3⟩
    clear hgp
    generalize os[i] = oi at *
    by_cases e1 : oi.kind = 3
    · by_cases e2 : oi.id = m.id
      · by_cases e3 : oi.body = m.body
        · repeat' (first | ((with_reducible refine' q_call (f := 29) TFn.ent ?ha ?hc ?_); (case ha => simp only [zC, zD, ev, lget]; (try rfl)); (case hc => intro wq hwq; have hzq := hwq.size; refine ((same_t oi.A m.A oi.c m.c _ _ oi.body m.body _ (hbi.up (by exact eqq)) (hb2.up (by exact eqq)) rfl rfl hbli hbl e3)).mono ?_; rintro e w' ⟨rfl, hev⟩; exact ⟨rfl, hev⟩); (conv => arg 6; simp only [zA, zB, ev, lget, zC, zD, zE, zF, zG, zH, zI, zJ, zK, zL, zM, zN, zO])) | (with_reducible (first | refine' wp_seq ?_ | refine' wp_region_lit ?_ | refine' wpList_nil ?_ | refine' then_normal ?_ | refine' wp_block ?_ | refine' wp_ret ?_ | refine' wp_skip ?_ | refine' then_ret ?_ | refine' in_ret ?_)) | ((with_reducible refine' c_condT ?hx ?_); (case hx => rfl)) | ((with_reducible refine' b_ret1 ?hr ?hv ?_); (case hr => rfl); (case hv => ((try simp only [ev, lget]); (try rfl)))) | ((with_reducible refine' l_step ?_); (first | ((first | (with_reducible refine' g_move ?_) | (with_reducible refine' g_assign ?_)); (conv => arg 5; simp only [zA, zB, ev, lget, zC, zD, zE, zF, zG, zH, zI, zJ, zK, zL, zM, zN, zO])) | (((with_reducible refine' g_lss ?hx ?hy (fun _ => ?_) (fun _ => ?_)); (case hx => rfl)); (case hy => rfl); all_goals (first | (exfalso; omega) | (conv => arg 5; simp only [zA, zB, ev, lget, zC, zD, zE, zF, zG, zH, zI, zJ, zK, zL, zM, zN, zO]))))) | ((with_reducible refine' w_quiet (id := 4) ?hm ?hB ?_); (case hm => kernel_rfl); (case hB => kernel_rfl)) | ((with_reducible refine' q_nil ?_); intro _ _ _) | ((with_reducible refine' q_on ?hw ?_); (case hw => rfl)) | ((with_reducible refine' q_step ?_); (first | ((first | (with_reducible refine' g_move ?_) | ((with_reducible refine' g_fieldAddr ?hx ?ho ?_); (case hx => rfl); (case ho => rfl)) | ((with_reducible refine' g_loadB ?hx ?hb ?hc ?_); (case hx => rfl); (case hb => exact bqq); first | (case hc => rfl) | (case hn => simp only [List.length_cons, List.length_nil]; omega)) | ((with_reducible refine' g_loadC ?hx ?hc ?_); (case hx => rfl); (case hc => first | exact hcellE _ (by exact eqq) 0 _ rfl | exact hcellE _ (by exact eqq) _ _ rfl | exact hcellF _ (by exact eqq) 0 _ rfl | exact hcellF _ (by exact eqq) _ _ rfl)) | ((with_reducible refine' g_pickT ?hx ?_); (case hx => rfl)) | ((with_reducible refine' g_indexAddr ?hx ?hy ?h0 ?h1 ?_); (case hx => rfl); (case hy => rfl); (case h0 => omega); (case h1 => omega))); (conv => arg 6; simp only [zA, zB, ev, lget, zC, zD, zE, zF, zG, zH, zI, zJ, zK, zL, zM, zN, zO])) | (((with_reducible refine' g_eql ?hx ?hy (fun _ => ?_) (fun _ => ?_)); (case hx => rfl)); (case hy => rfl); all_goals (first | (exfalso; omega) | (conv => arg 6; simp only [zA, zB, ev, lget, zC, zD, zE, zF, zG, zH, zI, zJ, zK, zL, zM, zN, zO]))))))
          all_goals exact ⟨rfl, by exact eqq⟩
        · repeat' (first | ((with_reducible refine' q_call (f := 29) TFn.ent ?ha ?hc ?_); (case ha => simp only [zC, zD, ev, lget]; (try rfl)); (case hc => intro wq hwq; have hzq := hwq.size; refine ((same_f oi.A m.A oi.c m.c _ _ oi.body m.body _ (hbi.up (by exact eqq)) (hb2.up (by exact eqq)) rfl rfl hbli hbl e3)).mono ?_; rintro e w' ⟨rfl, hev⟩; exact ⟨rfl, hev⟩); (conv => arg 6; simp only [zA, zB, ev, lget, zC, zD, zE, zF, zG, zH, zI, zJ, zK, zL, zM, zN, zO])) | (with_reducible (first | refine' wp_seq ?_ | refine' wp_region_lit ?_ | refine' wpList_nil ?_ | refine' then_normal ?_ | refine' wp_block ?_ | refine' wp_skip ?_ | refine' in_normal ?_)) | ((with_reducible refine' c_condT ?hx ?_); (case hx => rfl)) | ((with_reducible refine' c_condF ?hx ?_); (case hx => rfl)) | ((with_reducible refine' l_step ?_); (first | ((first | (with_reducible refine' g_move ?_) | (with_reducible refine' g_assign ?_) | ((with_reducible refine' g_addN ?hx ?hy ?h0 ?h1 ?_); (case hx => rfl); (case hy => rfl); (case h0 => omega); (case h1 => omega))); (conv => arg 5; simp only [zA, zB, ev, lget, zC, zD, zE, zF, zG, zH, zI, zJ, zK, zL, zM, zN, zO])) | (((with_reducible refine' g_lss ?hx ?hy (fun _ => ?_) (fun _ => ?_)); (case hx => rfl)); (case hy => rfl); all_goals (first | (exfalso; omega) | (conv => arg 5; simp only [zA, zB, ev, lget, zC, zD, zE, zF, zG, zH, zI, zJ, zK, zL, zM, zN, zO]))))) | ((with_reducible refine' w_quiet (id := 4) ?hm ?hB ?_); (case hm => kernel_rfl); (case hB => kernel_rfl)) | ((with_reducible refine' q_nil ?_); intro _ _ _) | ((with_reducible refine' q_on ?hw ?_); (case hw => rfl)) | ((with_reducible refine' q_step ?_); (first | ((first | (with_reducible refine' g_move ?_) | ((with_reducible refine' g_fieldAddr ?hx ?ho ?_); (case hx => rfl); (case ho => rfl)) | ((with_reducible refine' g_loadB ?hx ?hb ?hc ?_); (case hx => rfl); (case hb => exact bqq); first | (case hc => rfl) | (case hn => simp only [List.length_cons, List.length_nil]; omega)) | ((with_reducible refine' g_loadC ?hx ?hc ?_); (case hx => rfl); (case hc => first | exact hcellE _ (by exact eqq) 0 _ rfl | exact hcellE _ (by exact eqq) _ _ rfl | exact hcellF _ (by exact eqq) 0 _ rfl | exact hcellF _ (by exact eqq) _ _ rfl)) | ((with_reducible refine' g_pickT ?hx ?_); (case hx => rfl)) | ((with_reducible refine' g_indexAddr ?hx ?hy ?h0 ?h1 ?_); (case hx => rfl); (case hy => rfl); (case h0 => omega); (case h1 => omega))); (conv => arg 6; simp only [zA, zB, ev, lget, zC, zD, zE, zF, zG, zH, zI, zJ, zK, zL, zM, zN, zO])) | (((with_reducible refine' g_eql ?hx ?hy (fun _ => ?_) (fun _ => ?_)); (case hx => rfl)); (case hy => rfl); all_goals (first | (exfalso; omega) | (conv => arg 6; simp only [zA, zB, ev, lget, zC, zD, zE, zF, zG, zH, zI, zJ, zK, zL, zM, zN, zO]))))))
          all_goals exact ⟨_, _, rfl, (by omega : k - (i + 1) < k - i), by simp only [zA, zB], i + 1, rfl, by
            by_cases hij : i = j
            · exact absurd (hend hij).2.2 e3
            · omega, rfl, by exact eqq⟩
      · repeat' (first | (with_reducible (first | refine' wp_seq ?_ | refine' wp_region_lit ?_ | refine' wpList_nil ?_ | refine' then_normal ?_ | refine' wp_block ?_ | refine' wp_skip ?_ | refine' in_normal ?_)) | ((with_reducible refine' c_condT ?hx ?_); (case hx => rfl)) | ((with_reducible refine' c_condF ?hx ?_); (case hx => rfl)) | ((with_reducible refine' l_step ?_); (first | ((first | (with_reducible refine' g_move ?_) | (with_reducible refine' g_assign ?_) | ((with_reducible refine' g_addN ?hx ?hy ?h0 ?h1 ?_); (case hx => rfl); (case hy => rfl); (case h0 => omega); (case h1 => omega))); (conv => arg 5; simp only [zA, zB, ev, lget, zC, zD, zE, zF, zG, zH, zI, zJ, zK, zL, zM, zN, zO])) | (((with_reducible refine' g_lss ?hx ?hy (fun _ => ?_) (fun _ => ?_)); (case hx => rfl)); (case hy => rfl); all_goals (first | (exfalso; omega) | (conv => arg 5; simp only [zA, zB, ev, lget, zC, zD, zE, zF, zG, zH, zI, zJ, zK, zL, zM, zN, zO]))))) | ((with_reducible refine' w_quiet (id := 4) ?hm ?hB ?_); (case hm => kernel_rfl); (case hB => kernel_rfl)) | ((with_reducible refine' q_nil ?_); intro _ _ _) | ((with_reducible refine' q_on ?hw ?_); (case hw => rfl)) | ((with_reducible refine' q_off ?hw ?_); (case hw => rfl); (conv => arg 6; simp only [zA, zB, ev, lget, zC, zD, zE, zF, zG, zH, zI, zJ, zK, zL, zM, zN, zO])) | ((with_reducible refine' q_step ?_); (first | ((first | (with_reducible refine' g_move ?_) | ((with_reducible refine' g_fieldAddr ?hx ?ho ?_); (case hx => rfl); (case ho => rfl)) | ((with_reducible refine' g_loadB ?hx ?hb ?hc ?_); (case hx => rfl); (case hb => exact bqq); first | (case hc => rfl) | (case hn => simp only [List.length_cons, List.length_nil]; omega)) | ((with_reducible refine' g_loadC ?hx ?hc ?_); (case hx => rfl); (case hc => first | exact hcellE _ (by exact eqq) 0 _ rfl | exact hcellE _ (by exact eqq) _ _ rfl | exact hcellF _ (by exact eqq) 0 _ rfl | exact hcellF _ (by exact eqq) _ _ rfl)) | ((with_reducible refine' g_pickT ?hx ?_); (case hx => rfl)) | ((with_reducible refine' g_pickF ?hx ?_); (case hx => rfl)) | ((with_reducible refine' g_indexAddr ?hx ?hy ?h0 ?h1 ?_); (case hx => rfl); (case hy => rfl); (case h0 => omega); (case h1 => omega))); (conv => arg 6; simp only [zA, zB, ev, lget, zC, zD, zE, zF, zG, zH, zI, zJ, zK, zL, zM, zN, zO])) | (((with_reducible refine' g_eql ?hx ?hy (fun _ => ?_) (fun _ => ?_)); (case hx => rfl)); (case hy => rfl); all_goals (first | (exfalso; omega) | (conv => arg 6; simp only [zA, zB, ev, lget, zC, zD, zE, zF, zG, zH, zI, zJ, zK, zL, zM, zN, zO]))))))
        all_goals exact ⟨_, _, rfl, (by omega : k - (i + 1) < k - i), by simp only [zA, zB], i + 1, rfl, by
            by_cases hij : i = j
            · exact absurd (hend hij).2.1 e2
            · omega, rfl, by exact eqq⟩
    · repeat' (first | (with_reducible (first | refine' wp_seq ?_ | refine' wp_region_lit ?_ | refine' wpList_nil ?_ | refine' then_normal ?_ | refine' wp_block ?_ | refine' wp_skip ?_ | refine' in_normal ?_)) | ((with_reducible refine' c_condT ?hx ?_); (case hx => rfl)) | ((with_reducible refine' c_condF ?hx ?_); (case hx => rfl)) | ((with_reducible refine' l_step ?_); (first | ((first | (with_reducible refine' g_move ?_) | (with_reducible refine' g_assign ?_) | ((with_reducible refine' g_addN ?hx ?hy ?h0 ?h1 ?_); (case hx => rfl); (case hy => rfl); (case h0 => omega); (case h1 => omega))); (conv => arg 5; simp only [zA, zB, ev, lget, zC, zD, zE, zF, zG, zH, zI, zJ, zK, zL, zM, zN, zO])) | (((with_reducible refine' g_lss ?hx ?hy (fun _ => ?_) (fun _ => ?_)); (case hx => rfl)); (case hy => rfl); all_goals (first | (exfalso; omega) | (conv => arg 5; simp only [zA, zB, ev, lget, zC, zD, zE, zF, zG, zH, zI, zJ, zK, zL, zM, zN, zO]))))) | ((with_reducible refine' w_quiet (id := 4) ?hm ?hB ?_); (case hm => kernel_rfl); (case hB => kernel_rfl)) | ((with_reducible refine' q_nil ?_); intro _ _ _) | ((with_reducible refine' q_off ?hw ?_); (case hw => rfl); (conv => arg 6; simp only [zA, zB, ev, lget, zC, zD, zE, zF, zG, zH, zI, zJ, zK, zL, zM, zN, zO])) | ((with_reducible refine' q_step ?_); (first | ((first | (with_reducible refine' g_move ?_) | ((with_reducible refine' g_fieldAddr ?hx ?ho ?_); (case hx => rfl); (case ho => rfl)) | ((with_reducible refine' g_loadC ?hx ?hc ?_); (case hx => rfl); (case hc => first | exact hcellE _ (by exact eqq) 0 _ rfl | exact hcellE _ (by exact eqq) _ _ rfl | exact hcellF _ (by exact eqq) 0 _ rfl | exact hcellF _ (by exact eqq) _ _ rfl)) | ((with_reducible refine' g_pickF ?hx ?_); (case hx => rfl)) | ((with_reducible refine' g_indexAddr ?hx ?hy ?h0 ?h1 ?_); (case hx => rfl); (case hy => rfl); (case h0 => omega); (case h1 => omega))); (conv => arg 6; simp only [zA, zB, ev, lget, zC, zD, zE, zF, zG, zH, zI, zJ, zK, zL, zM, zN, zO])) | (((with_reducible refine' g_eql ?hx ?hy (fun _ => ?_) (fun _ => ?_)); (case hx => rfl)); (case hy => rfl); all_goals (first | (exfalso; omega) | (conv => arg 6; simp only [zA, zB, ev, lget, zC, zD, zE, zF, zG, zH, zI, zJ, zK, zL, zM, zN, zO]))))))
      all_goals exact ⟨_, _, rfl, (by omega : k - (i + 1) < k - i), by simp only [zA, zB], i + 1, rfl, by
            by_cases hij : i = j
            · exact absurd (hend hij).1 e1
            · omega, rfl, by exact eqq⟩
end Go.Proofs.Ytmngcpackbekiaa
