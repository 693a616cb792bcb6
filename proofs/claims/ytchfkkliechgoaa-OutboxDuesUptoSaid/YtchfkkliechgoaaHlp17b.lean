/- The law's own helpers: small ones. SHORT NORMX -/
import Derived.Test.YtchfkkliechgoaaHlp17
namespace Go.Proofs.Ytchfkkliechgoaa
open Go.RowKit Go.Proofs.YtchfkkliechgoaaE
set_option linter.unusedSimpArgs false
set_option linter.unusedVariables false
set_option maxRecDepth 4000

def tickP (now wait : Int) : Int := if wait < 0 ∨ 1000 < wait then now else now + wait
theorem tick_any (now wait : Int) (w : World) (h1 : 0 ≤ now ∧ now ≤ 1000000000000000000) (h2 : -9223372036854775808 ≤ wait ∧ wait ≤ 9223372036854775807) :
    Calls Try.prog 25 #[.int .i64 now, .int .i64 wait] w fun e w' => e = .returned (.int .i64 (tickP now wait)) ∧ Evt (fun _ => False) w w' := by
  go_enter Try.func25, Try.ntmps25
  repeat' (first | (with_reducible (first | refine' wp_seq ?_ | refine' wp_region_lit ?_ | refine' wpList_nil ?_ | refine' then_normal ?_ | refine' wp_ret ?_ | refine' wp_skip ?_ | refine' then_ret ?_)) | ((with_reducible refine' c_condT ?hx ?_); (case hx => rfl)) | ((with_reducible refine' c_condF ?hx ?_); (case hx => rfl)) | ((with_reducible refine' b_ret1 ?hr ?hv ?_); (case hr => rfl); (case hv => ((try simp only [ev, lget]); (try rfl)))) | ((with_reducible refine' l_step ?_); (first | ((first | (with_reducible refine' g_move ?_) | (with_reducible refine' g_assign ?_) | ((with_reducible refine' g_addN ?hx ?hy ?h0 ?h1 ?_); (case hx => rfl); (case hy => rfl); (case h0 => omega); (case h1 => omega)) | ((with_reducible refine' g_pickT ?hx ?_); (case hx => rfl)) | ((with_reducible refine' g_pickF ?hx ?_); (case hx => rfl))); (conv => arg 5; simp only [zA, zB, ev, lget, zC, zD, zE, zF, zG, zH, zI, zJ, zK, zL, zM, zN, zO])) | ((first | ((with_reducible refine' g_lss ?hx ?hy (fun _ => ?_) (fun _ => ?_)); (case hx => rfl)) | ((with_reducible refine' g_gtr ?hx ?hy (fun _ => ?_) (fun _ => ?_)); (case hx => rfl))); (case hy => rfl); all_goals (first | (exfalso; omega) | (conv => arg 5; simp only [zA, zB, ev, lget, zC, zD, zE, zF, zG, zH, zI, zJ, zK, zL, zM, zN, zO]))))) | ((with_reducible refine' l_on ?hw ?_); (case hw => rfl)) | ((with_reducible refine' l_off ?hw ?_); (case hw => rfl); (conv => arg 5; simp only [zA, zB, ev, lget, zC, zD, zE, zF, zG, zH, zI, zJ, zK, zL, zM, zN, zO])))
  all_goals first
    | (rw [tickP, if_pos (by omega)]; exact ⟨rfl, by exact eqq⟩)
    | (rw [tickP, if_neg (by omega)]; exact ⟨rfl, by exact eqq⟩)
theorem lawGood_any (p : Pol) (A : Option Addr) (c : Nat) (w : World) (hr : RI w A p.hs) :
    Calls Try.prog 15 #[.agg (polC p A c).toArray] w fun e w' => e = .returned (.bool (goodP p)) ∧ Evt (fun _ => False) w w' := by
  go_enter Try.func15, Try.ntmps15
  repeat' (first | (go_at_call 34; refine (check_any p A c _ (hr.up (by exact eqq))).mono ?_; rintro e w' ⟨rfl, _⟩; refine ⟨_, rfl, ?_⟩; (conv => arg 5; simp only [zA, zB, ev, lget, zC, zD, zE, zF, zG, zH, zI, zJ, zK, zL, zM, zN, zO])) | (with_reducible (first | refine' wp_seq ?_ | refine' wp_region_lit ?_ | refine' wpList_nil ?_ | refine' then_normal ?_ | refine' wp_ret ?_)) | ((with_reducible refine' b_ret1 ?hr ?hv ?_); (case hr => rfl); (case hv => ((try simp only [ev, lget]); (try rfl)))) | ((with_reducible refine' l_step ?_); (first | ((first | (with_reducible refine' g_move ?_) | (with_reducible refine' g_assign ?_) | ((with_reducible refine' g_loadS ?hx ?hb ?hn ?_); (case hx => rfl); (case hb => exact bqq); first | (case hc => rfl) | (case hn => simp only [List.length_cons, List.length_nil]; omega)) | ((with_reducible refine' g_extract ?hx ?hv ?_); (case hx => rfl); (case hv => rfl))); (conv => arg 5; simp only [zA, zB, ev, lget, zC, zD, zE, zF, zG, zH, zI, zJ, zK, zL, zM, zN, zO])) | (((with_reducible refine' g_eql ?hx ?hy (fun _ => ?_) (fun _ => ?_)); (case hx => rfl)); (case hy => rfl); all_goals (first | (exfalso; omega) | (conv => arg 5; simp only [zA, zB, ev, lget, zC, zD, zE, zF, zG, zH, zI, zJ, zK, zL, zM, zN, zO]))))) | (((with_reducible refine' e_boxA ?hx ?_); (case hx => rfl)); intro _ _ _ _ _ _ _; (conv => arg 5; simp only [zA, zB, ev, lget, zC, zD, zE, zF, zG, zH, zI, zJ, zK, zL, zM, zN, zO])) | ((with_reducible refine' l_call TFn.ent ?ha ?_); (case ha => simp only [zC, zD, ev, lget]; (try rfl))))
  all_goals exact ⟨ret_bool (by simp [goodP, *]), by exact eqq⟩
theorem own_any (p : Pol) (A : Option Addr) (c : Nat) (w : World) (hr : RI w A p.hs) (hsz : p.hs.length * 8 ≤ 140737488351232) :
    Calls Try.prog 14 #[.agg (polC p A c).toArray] w fun e w' => ∃ V d, e = .returned (.agg (polC p V d).toArray) ∧ w'.ownsRow 0 3 1 (.slice V p.hs.length d) p.hs.length (ints p.hs) ∧ (∀ k, (Value.slice V p.hs.length d).ownBlock = some k → w.heap.size ≤ k) ∧ Evt (fun _ => False) w w' := by
  go_enter Try.func14, Try.ntmps14
  repeat' (first | ((with_reducible refine' e_appC (v := .slice none 0 0) (n := 0) (m := p.hs.length) (xs := []) (news := ints p.hs) ?hx ?hy ?hzs ?hsz ?hown ?hl ?hr ?h1 ?hb ?hm ?_); (case hx => rfl); (case hy => rfl); (case hzs => rfl); (case hsz => decide); (case hown => exact World.ownsRow_nil _ _ _ _); (case hl => simp [ints]); (case hr => exact hr.rc.up (by exact eqq)); (case h1 => exact ints_one _); (case hb => omega); (case hm => omega); intro vA wA hoA heA0 haA hzA; have heA : Evt (fun _ => False) _ wA := heA0.mono (fun k _ hk => by simp [Value.ownBlock] at hk); clear heA0; simp only [Nat.zero_add, List.nil_append] at hoA; obtain ⟨VB, dB, hVB⟩ := own_slice hoA; subst hVB; (conv => arg 5; simp only [zA, zB, ev, lget, zC, zD, zE, zF, zG, zH, zI, zJ, zK, zL, zM, zN, zO])) | (with_reducible (first | refine' wp_seq ?_ | refine' wp_region_lit ?_ | refine' wpList_nil ?_ | refine' then_normal ?_ | refine' wp_ret ?_)) | ((with_reducible refine' b_retC ?hr ?ht ?hp ?hb ?hn ?_); (case hr => rfl); (case ht => infer_instance); (case hp => rfl); (case hb => exact bqq); (case hn => rfl)) | ((with_reducible refine' l_step ?_); ((first | (with_reducible refine' g_move ?_) | (with_reducible refine' g_assign ?_) | ((with_reducible refine' g_fieldAddr ?hx ?ho ?_); (case hx => rfl); (case ho => rfl)) | ((first | (with_reducible refine' g_loadB ?hx ?hb ?hc ?_) | (with_reducible refine' g_loadS ?hx ?hb ?hn ?_)); (case hx => rfl); (case hb => exact bqq); first | (case hc => rfl) | (case hn => simp only [List.length_cons, List.length_nil]; omega))); (conv => arg 5; simp only [zA, zB, ev, lget, zC, zD, zE, zF, zG, zH, zI, zJ, zK, zL, zM, zN, zO]))) | ((first | ((with_reducible refine' e_boxA ?hx ?_); (case hx => rfl)) | ((with_reducible refine' e_alloc ?hx ?_); (case hx => rfl))); intro _ _ _ _ _ _ _; (conv => arg 5; simp only [zA, zB, ev, lget, zC, zD, zE, zF, zG, zH, zI, zJ, zK, zL, zM, zN, zO])) | ((first | ((with_reducible refine' e_storeB ?hx ?hy ?hv ?h1 ?hb ?ho ?_); (case hx => rfl); (case hy => ((try simp only [ev, lget]); (try rfl))); (case hv => rfl); (case h1 => rfl)) | ((with_reducible refine' e_storeR ?hx ?hy ?h1 ?hb ?hn ?ho ?_); (case hx => rfl); (case hy => rfl); (case h1 => simp [Value.oneCell']); (case hn => rfl))); (case hb => exact bqq); (case ho => first | (simp only [List.length_cons, List.length_nil]; omega) | omega | (simp; omega) | simp); (try simp only [splice, zA, zB]); intro _ _ _ _))
  rename_i g1 w1 a1 a2 a3 ev1 z1 g2 w2 b1 b2 b3 ev2 z2 w4 c3 ev4 z4 w5 d3 ev5 z5
  have hn : ∀ k, (Value.slice VB p.hs.length dB).ownBlock = some k → w2.heap.size ≤ k := fun k hk => by
    rcases haA with h1 | h1
    · rw [h1] at hk
      simp [Value.ownBlock] at hk
    · rw [h1] at hk
      have := Option.some.inj hk
      omega
  exact ⟨VB, dB, rfl, own_evt ev5 (own_evt ev4 hoA (fun k hk hh => by have h1 := hn k hk; have h' : k = g1 := hh; omega)) (fun k hk hh => by have h1 := hn k hk; have h' : k = g2 := hh; omega), fun k hk => by have := hn k hk; omega, by exact eqq⟩
set_option maxHeartbeats 2000000 in
theorem sends_any (V B : Option Addr) (d c n : Nat) (ks : List Pk) (id : Int) (body : List Int) (w : World) (hr : PkAt w V ks) (hn : ks.length = n) (hl : n ≤ 9223372036854775807) (hB : RC w B (u8s body)) (hb1 : ∀ x ∈ ks, x.b.body.length ≤ 9223372036854775807) (hb2 : body.length ≤ 9223372036854775807) :
    Calls Try.prog 17 #[.slice V n d, .int .i64 id, .slice B body.length c] w fun e w' => e = .returned (.bool (decide ((id, body) ∈ ks.map pkP))) ∧ Evt (fun _ => False) w w' := by
  subst hn
  go_enter Try.func17, Try.ntmps17
  repeat' (first | (with_reducible (first | refine' wp_seq ?_ | refine' wp_region_lit ?_ | refine' wpList_nil ?_ | refine' then_normal ?_ | refine' wp_block ?_)) | ((with_reducible refine' l_step ?_); ((with_reducible refine' g_assign ?_); (conv => arg 5; simp only [zA, zB, ev, lget, zC, zD, zE, zF, zG, zH, zI, zJ, zK, zL, zM, zN, zO]))))
  refine' s_loop [6, 7, 8, 9, 10, 11, 12, 13, 14, 15, 16, 17, 18, 19, 20, 21, 22, 23, 24, 25, 26, 27, 28, 29, 30, 31, 32, 33, 34, 35, 36, 37] (fun n u w' => ∃ (i : Nat), n = ks.length - i ∧ i ≤ ks.length ∧ u 7 = .int .i64 i ∧ ¬ (id, body) ∈ (ks.take i).map pkP ∧ Evt (fun _ => False) w w') ks.length ?h0 ?round
  case h0 => exact ⟨0, rfl, by omega, rfl, by simp, Evt.refl _ _⟩
  case round =>
    rintro n u w2 ⟨i, rfl, hi, h7, heq, hev⟩
    simp only [setW, List.foldl_cons, List.foldl_nil, List.set_cons_succ, List.set_cons_zero]
    simp only [h7]
    have hz := hev.size
    by_cases hlt : i < ks.length
    · obtain ⟨b, o, rfl, hcellE⟩ := (hr.up hev).at_ hlt
      have hrB := hB.up hev
      have hbx := hb1 ks[i] (List.getElem_mem hlt)
      have hrx := (hr.up hev).bod ks[i] (List.getElem_mem hlt)
      have htx := List.take_succ_eq_append_getElem hlt
      have hin : pkP ks[i] ∈ ks.map pkP := List.mem_map.2 ⟨_, List.getElem_mem hlt, rfl⟩
      have hne : ¬ (id, body) = pkP ks[i] → ¬ (id, body) ∈ (ks.take (i + 1)).map pkP := fun h hm => by
        rw [htx, List.map_append] at hm
        rcases List.mem_append.1 hm with h1 | h1
        · exact heq h1
        · exact h (List.mem_singleton.1 h1)
      clear hr
      generalize ks[i] = x at *
      by_cases hbd : x.b.body = body
      · repeat' (first | (go_at_call 23; refine (equal_any x.b.A B x.b.c c x.b.body.length body.length x.b.body body _ (hrx.up (by exact eqq)) (hrB.up (by exact eqq)) rfl rfl hbx hb2).mono ?_; rintro e w3 ⟨rfl, ev3⟩; rw [decide_eq_true hbd]; refine ⟨_, rfl, ?_⟩; (conv => arg 5; simp only [zA, zB, ev, lget, zC, zD, zE, zF, zG, zH, zI, zJ, zK, zL, zM, zN, zO])) | (with_reducible (first | refine' wp_seq ?_ | refine' wp_region_lit ?_ | refine' wpList_nil ?_ | refine' then_normal ?_ | refine' wp_block ?_ | refine' wp_ret ?_ | refine' wp_skip ?_ | refine' then_ret ?_ | refine' in_normal ?_ | refine' in_ret ?_)) | ((with_reducible refine' c_condT ?hx ?_); (case hx => rfl)) | ((with_reducible refine' c_condF ?hx ?_); (case hx => rfl)) | ((with_reducible refine' b_ret1 ?hr ?hv ?_); (case hr => rfl); (case hv => ((try simp only [ev, lget]); (try rfl)))) | ((with_reducible refine' l_step ?_); (first | ((first | (with_reducible refine' g_move ?_) | (with_reducible refine' g_assign ?_) | ((with_reducible refine' g_fieldAddr ?hx ?ho ?_); (case hx => rfl); (case ho => rfl)) | ((with_reducible refine' g_loadC ?hx ?hc ?_); (case hx => rfl); (case hc => first | exact hcellE _ (by exact eqq) 0 _ rfl | exact hcellE _ (by exact eqq) _ _ rfl | exact hcellF _ (by exact eqq) 0 _ rfl | exact hcellF _ (by exact eqq) _ _ rfl)) | ((with_reducible refine' g_addN ?hx ?hy ?h0 ?h1 ?_); (case hx => rfl); (case hy => rfl); (case h0 => omega); (case h1 => omega)) | ((with_reducible refine' g_pickT ?hx ?_); (case hx => rfl)) | ((with_reducible refine' g_pickF ?hx ?_); (case hx => rfl)) | ((with_reducible refine' g_notF ?hx ?_); (case hx => rfl)) | ((with_reducible refine' g_lenS ?hx ?_); (case hx => rfl)) | ((with_reducible refine' g_indexAddr ?hx ?hy ?h0 ?h1 ?_); (case hx => rfl); (case hy => rfl); (case h0 => omega); (case h1 => omega))); (conv => arg 5; simp only [zA, zB, ev, lget, zC, zD, zE, zF, zG, zH, zI, zJ, zK, zL, zM, zN, zO])) | ((first | ((with_reducible refine' g_lss ?hx ?hy (fun _ => ?_) (fun _ => ?_)); (case hx => rfl)) | ((with_reducible refine' g_eql ?hx ?hy (fun _ => ?_) (fun _ => ?_)); (case hx => rfl))); (case hy => rfl); all_goals (first | (exfalso; omega) | (conv => arg 5; simp only [zA, zB, ev, lget, zC, zD, zE, zF, zG, zH, zI, zJ, zK, zL, zM, zN, zO]))))) | ((with_reducible refine' l_on ?hw ?_); (case hw => rfl)) | ((with_reducible refine' l_off ?hw ?_); (case hw => rfl); (conv => arg 5; simp only [zA, zB, ev, lget, zC, zD, zE, zF, zG, zH, zI, zJ, zK, zL, zM, zN, zO])) | ((with_reducible refine' l_call TFn.ent ?ha ?_); (case ha => simp only [zC, zD, ev, lget]; (try rfl))))
        all_goals first
          | (have hxi : x.id = id := by assumption
             exact ⟨ret_bool (decide_eq_true (by rw [← hbd, ← hxi]; exact hin)).symm, by exact eqq⟩)
          | exact ⟨_, _, rfl, (by omega : ks.length - (i + 1) < ks.length - i), by simp only [zA, zB], i + 1, rfl, by omega, rfl, hne (fun h => by simp only [pkP, Prod.mk.injEq] at h; have := h.1.symm; contradiction), by exact eqq⟩
      · repeat' (first | (go_at_call 23; refine (equal_any x.b.A B x.b.c c x.b.body.length body.length x.b.body body _ (hrx.up (by exact eqq)) (hrB.up (by exact eqq)) rfl rfl hbx hb2).mono ?_; rintro e w3 ⟨rfl, ev3⟩; rw [decide_eq_false hbd]; refine ⟨_, rfl, ?_⟩; (conv => arg 5; simp only [zA, zB, ev, lget, zC, zD, zE, zF, zG, zH, zI, zJ, zK, zL, zM, zN, zO])) | (with_reducible (first | refine' wp_seq ?_ | refine' wp_region_lit ?_ | refine' wpList_nil ?_ | refine' then_normal ?_ | refine' wp_block ?_ | refine' wp_skip ?_ | refine' in_normal ?_)) | ((with_reducible refine' c_condT ?hx ?_); (case hx => rfl)) | ((with_reducible refine' c_condF ?hx ?_); (case hx => rfl)) | ((with_reducible refine' l_step ?_); (first | ((first | (with_reducible refine' g_move ?_) | (with_reducible refine' g_assign ?_) | ((with_reducible refine' g_fieldAddr ?hx ?ho ?_); (case hx => rfl); (case ho => rfl)) | ((with_reducible refine' g_loadC ?hx ?hc ?_); (case hx => rfl); (case hc => first | exact hcellE _ (by exact eqq) 0 _ rfl | exact hcellE _ (by exact eqq) _ _ rfl | exact hcellF _ (by exact eqq) 0 _ rfl | exact hcellF _ (by exact eqq) _ _ rfl)) | ((with_reducible refine' g_addN ?hx ?hy ?h0 ?h1 ?_); (case hx => rfl); (case hy => rfl); (case h0 => omega); (case h1 => omega)) | ((with_reducible refine' g_pickT ?hx ?_); (case hx => rfl)) | ((with_reducible refine' g_pickF ?hx ?_); (case hx => rfl)) | ((with_reducible refine' g_lenS ?hx ?_); (case hx => rfl)) | ((with_reducible refine' g_indexAddr ?hx ?hy ?h0 ?h1 ?_); (case hx => rfl); (case hy => rfl); (case h0 => omega); (case h1 => omega))); (conv => arg 5; simp only [zA, zB, ev, lget, zC, zD, zE, zF, zG, zH, zI, zJ, zK, zL, zM, zN, zO])) | ((first | ((with_reducible refine' g_lss ?hx ?hy (fun _ => ?_) (fun _ => ?_)); (case hx => rfl)) | ((with_reducible refine' g_eql ?hx ?hy (fun _ => ?_) (fun _ => ?_)); (case hx => rfl))); (case hy => rfl); all_goals (first | (exfalso; omega) | (conv => arg 5; simp only [zA, zB, ev, lget, zC, zD, zE, zF, zG, zH, zI, zJ, zK, zL, zM, zN, zO]))))) | ((with_reducible refine' l_on ?hw ?_); (case hw => rfl)) | ((with_reducible refine' l_off ?hw ?_); (case hw => rfl); (conv => arg 5; simp only [zA, zB, ev, lget, zC, zD, zE, zF, zG, zH, zI, zJ, zK, zL, zM, zN, zO])) | ((with_reducible refine' l_call TFn.ent ?ha ?_); (case ha => simp only [zC, zD, ev, lget]; (try rfl))))
        all_goals exact ⟨_, _, rfl, (by omega : ks.length - (i + 1) < ks.length - i), by simp only [zA, zB], i + 1, rfl, by omega, rfl, hne (fun h => by simp only [pkP, Prod.mk.injEq] at h; exact hbd h.2.symm), by exact eqq⟩
    · have hi' : i = ks.length := by omega
      subst hi'
      rw [List.take_length] at heq
      repeat' (first | (with_reducible (first | refine' wp_seq ?_ | refine' wp_region_lit ?_ | refine' wpList_nil ?_ | refine' then_normal ?_ | refine' wp_ret ?_ | refine' wp_exit ?_ | refine' then_exit ?_ | refine' in_exit ?_)) | ((with_reducible refine' c_condF ?hx ?_); (case hx => rfl)) | ((with_reducible refine' b_ret1 ?hr ?hv ?_); (case hr => rfl); (case hv => ((try simp only [ev, lget]); (try rfl)))) | ((with_reducible refine' l_step ?_); (first | ((first | (with_reducible refine' g_move ?_) | (with_reducible refine' g_assign ?_) | ((with_reducible refine' g_lenS ?hx ?_); (case hx => rfl))); (conv => arg 5; simp only [zA, zB, ev, lget, zC, zD, zE, zF, zG, zH, zI, zJ, zK, zL, zM, zN, zO])) | (((with_reducible refine' g_lss ?hx ?hy (fun _ => ?_) (fun _ => ?_)); (case hx => rfl)); (case hy => rfl); all_goals (first | (exfalso; omega) | (conv => arg 5; simp only [zA, zB, ev, lget, zC, zD, zE, zF, zG, zH, zI, zJ, zK, zL, zM, zN, zO]))))))
      exact ⟨ret_bool (decide_eq_false heq).symm, by exact eqq⟩
/-- What place finds. -/
def PlaceAt (ids : List Int) (id r : Int) : Prop := (r = -1 ∧ id ∉ ids) ∨ ∃ i : Nat, r = i ∧ ids[i]? = some id
set_option maxHeartbeats 2000000 in
theorem place_any (V : Option Addr) (d n : Nat) (ks : List Nt) (id : Int) (w : World) (hr : NtAt w V ks) (hn : ks.length = n) (hl : n ≤ 9223372036854775807) :
    Calls Try.prog 22 #[.slice V n d, .int .i64 id] w fun e w' => ∃ r, e = .returned (.int .i64 r) ∧ PlaceAt (ks.map (·.id)) id r ∧ Evt (fun _ => False) w w' := by
  subst hn
  go_enter Try.func22, Try.ntmps22
  repeat' (first | (with_reducible (first | refine' wp_seq ?_ | refine' wp_region_lit ?_ | refine' wpList_nil ?_ | refine' then_normal ?_ | refine' wp_block ?_)) | ((with_reducible refine' l_step ?_); ((with_reducible refine' g_assign ?_); (conv => arg 5; simp only [zA, zB, ev, lget, zC, zD, zE, zF, zG, zH, zI, zJ, zK, zL, zM, zN, zO]))))
  refine' s_loop [4, 5, 6, 7, 8, 9, 10, 11, 12, 13, 14, 15, 16, 17, 18, 19] (fun n u w' => ∃ (i : Nat), n = ks.length - i ∧ i ≤ ks.length ∧ u 5 = .int .i64 i ∧ ¬ id ∈ (ks.take i).map (·.id) ∧ Evt (fun _ => False) w w') ks.length ?h0 ?round
  case h0 => exact ⟨0, rfl, by omega, rfl, by simp, Evt.refl _ _⟩
  case round =>
    rintro n u w2 ⟨i, rfl, hi, h5, heq, hev⟩
    simp only [setW, List.foldl_cons, List.foldl_nil, List.set_cons_succ, List.set_cons_zero]
    simp only [h5]
    have hz := hev.size
    by_cases hlt : i < ks.length
    · obtain ⟨b, o, rfl, hcellE⟩ := (hr.up hev).at_ hlt
      have htx := List.take_succ_eq_append_getElem hlt
      have hin : (ks.map (·.id))[i]? = some ks[i].id := by simp [hlt]
      have hne : ¬ id = ks[i].id → ¬ id ∈ (ks.take (i + 1)).map (·.id) := fun h hm => by
        rw [htx, List.map_append] at hm
        rcases List.mem_append.1 hm with h1 | h1
        · exact heq h1
        · exact h (List.mem_singleton.1 h1)
      clear hr
      generalize ks[i] = x at *
      repeat' (first | (with_reducible (first | refine' wp_seq ?_ | refine' wp_region_lit ?_ | refine' wpList_nil ?_ | refine' then_normal ?_ | refine' wp_block ?_ | refine' wp_ret ?_ | refine' wp_skip ?_ | refine' then_ret ?_ | refine' in_normal ?_ | refine' in_ret ?_)) | ((with_reducible refine' c_condT ?hx ?_); (case hx => rfl)) | ((with_reducible refine' c_condF ?hx ?_); (case hx => rfl)) | ((with_reducible refine' b_ret1 ?hr ?hv ?_); (case hr => rfl); (case hv => ((try simp only [ev, lget]); (try rfl)))) | ((with_reducible refine' l_step ?_); (first | ((first | (with_reducible refine' g_move ?_) | (with_reducible refine' g_assign ?_) | ((with_reducible refine' g_fieldAddr ?hx ?ho ?_); (case hx => rfl); (case ho => rfl)) | ((with_reducible refine' g_loadC ?hx ?hc ?_); (case hx => rfl); (case hc => first | exact hcellE _ (by exact eqq) 0 _ rfl | exact hcellE _ (by exact eqq) _ _ rfl | exact hcellF _ (by exact eqq) 0 _ rfl | exact hcellF _ (by exact eqq) _ _ rfl)) | ((with_reducible refine' g_addN ?hx ?hy ?h0 ?h1 ?_); (case hx => rfl); (case hy => rfl); (case h0 => omega); (case h1 => omega)) | ((with_reducible refine' g_lenS ?hx ?_); (case hx => rfl)) | ((with_reducible refine' g_indexAddr ?hx ?hy ?h0 ?h1 ?_); (case hx => rfl); (case hy => rfl); (case h0 => omega); (case h1 => omega))); (conv => arg 5; simp only [zA, zB, ev, lget, zC, zD, zE, zF, zG, zH, zI, zJ, zK, zL, zM, zN, zO])) | ((first | ((with_reducible refine' g_lss ?hx ?hy (fun _ => ?_) (fun _ => ?_)); (case hx => rfl)) | ((with_reducible refine' g_eql ?hx ?hy (fun _ => ?_) (fun _ => ?_)); (case hx => rfl))); (case hy => rfl); all_goals (first | (exfalso; omega) | (conv => arg 5; simp only [zA, zB, ev, lget, zC, zD, zE, zF, zG, zH, zI, zJ, zK, zL, zM, zN, zO]))))))
      all_goals first
        | (have hxi : x.id = id := by assumption
           exact ⟨_, rfl, .inr ⟨i, rfl, by rw [hin, hxi]⟩, by exact eqq⟩)
        | exact ⟨_, _, rfl, (by omega : ks.length - (i + 1) < ks.length - i), by simp only [zA, zB], i + 1, rfl, by omega, rfl, hne (fun h => by have := h.symm; contradiction), by exact eqq⟩
    · have hi' : i = ks.length := by omega
      subst hi'
      rw [List.take_length] at heq
      repeat' (first | (with_reducible (first | refine' wp_seq ?_ | refine' wp_region_lit ?_ | refine' wpList_nil ?_ | refine' then_normal ?_ | refine' wp_ret ?_ | refine' wp_exit ?_ | refine' then_exit ?_ | refine' in_exit ?_)) | ((with_reducible refine' c_condF ?hx ?_); (case hx => rfl)) | ((with_reducible refine' b_ret1 ?hr ?hv ?_); (case hr => rfl); (case hv => ((try simp only [ev, lget]); (try rfl)))) | ((with_reducible refine' l_step ?_); (first | ((first | (with_reducible refine' g_move ?_) | (with_reducible refine' g_assign ?_) | ((with_reducible refine' g_lenS ?hx ?_); (case hx => rfl))); (conv => arg 5; simp only [zA, zB, ev, lget, zC, zD, zE, zF, zG, zH, zI, zJ, zK, zL, zM, zN, zO])) | (((with_reducible refine' g_lss ?hx ?hy (fun _ => ?_) (fun _ => ?_)); (case hx => rfl)); (case hy => rfl); all_goals (first | (exfalso; omega) | (conv => arg 5; simp only [zA, zB, ev, lget, zC, zD, zE, zF, zG, zH, zI, zJ, zK, zL, zM, zN, zO]))))))
      exact ⟨_, rfl, .inl ⟨rfl, heq⟩, by exact eqq⟩
end Go.Proofs.Ytchfkkliechgoaa
