/- The whole script is played on two networks. DEPTH=8 -/
import Derived.Test.YtmngcpackbekiaaUpt16
namespace Go.Proofs.Ytmngcpackbekiaa
open Go.RowKit Go.Proofs.YtmngcpackbekiaaE
set_option linter.unusedSimpArgs false
set_option linter.unusedVariables false

structure UI (w0 w : World) (os : List Opr) (gp1 gp2 gB i : Nat) (F1 F2 G FB : Nat → Prop) (g1 g2 : Nat) (N1 N2 : Net) (R1 R2 : Rn) (B : Bm) : Prop where
  b1 : Blk w gp1 67 (prC g1 R1)
  b2 : Blk w gp2 67 (prC g2 R2)
  s1 : St w F1 G FB g1 N1 R1 gB B
  s2 : St w F2 G FB g2 N2 R2 gB B
  dis : ∀ k, F1 k → ¬ F2 k
  p1 : PI os i N1 R1.p
  p2 : PI os i N2 R2.p
  bI : B.ids.length ≤ i
  bL : B.lists.length ≤ 2 * i
  bB : B.bods.length ≤ 4194304 * i
  low : ∀ k, F1 k ∨ F2 k ∨ G k ∨ FB k → w0.heap.size ≤ k ∧ k ≠ gp1 ∧ k ≠ gp2
  evt : Evt (fun _ => False) w0 w
set_option maxRecDepth 20000 in
set_option maxHeartbeats 16000000 in
theorem upTo_any (A : Option Addr) (os : List Opr) (c : Nat) (lo hi : Int) (w : World) (ho : RO w A os) (hb : os.length ≤ 1048576) (hwf : ∀ o ∈ os, (-9223372036854775808 ≤ o.id ∧ o.id ≤ 9223372036854775807) ∧ o.body.length ≤ 1048576 ∧ o.s.size ≤ 9223372036854775807) :
    Calls Try.prog 25 #[.slice A os.length c, .int .i64 lo, .int .i64 hi] w fun e w' => e = .returned (.bool true) ∧ Evt (fun _ => False) w w' := by
  go_enter Try.func25, Try.ntmps25
  repeat' (first | (with_reducible refine' stop_reg (id := 2) ?_) | (go_at_call 10; (with_reducible refine (new_n _).mono ?_); rintro e wn ⟨g1, F1, rfl, hN1, hF1, evn1⟩; have zn1 := evn1.size; refine ⟨_, rfl, ?_⟩; (conv => arg 5; simp only [zA, zB, ev, lget, zC, zD, zE, zF, zG, zH, zI, zJ, zK, zL, zM, zN, zO])) | (go_at_call 30; (with_reducible refine (begin_r _).mono ?_); rintro e wb ⟨rfl, evb⟩; have zb := evb.size; refine ⟨_, rfl, ?_⟩; simp only [rnC, List.length_nil]; (conv => arg 5; simp only [zA, zB, ev, lget, zC, zD, zE, zF, zG, zH, zI, zJ, zK, zL, zM, zN, zO])) | (with_reducible (first | refine' wp_seq ?_ | refine' wp_region_lit ?_ | refine' wpList_nil ?_ | refine' then_normal ?_)) | ((with_reducible refine' l_step ?_); (first | ((with_reducible refine' g_assign ?_); (conv => arg 5; simp only [zA, zB, ev, lget, zC, zD, zE, zF, zG, zH, zI, zJ, zK, zL, zM, zN, zO])) | ((with_reducible refine' g_build ?hl ?hp ?hs ?_); (case hl => rfl); (case hp => rfl); (case hs => rfl); (conv => arg 5; simp only [zA, zB, ev, lget, zC, zD, zE, zF, zG, zH, zI, zJ, zK, zL, zM, zN, zO, fillL, splice, List.getD_cons_zero, List.getD_cons_succ, Value.cells])))) | (((with_reducible refine' e_alloc ?hx ?_); (case hx => rfl)); intro _ _ _ _ _ _ _; (conv => arg 5; simp only [zA, zB, ev, lget, zC, zD, zE, zF, zG, zH, zI, zJ, zK, zL, zM, zN, zO])) | ((first | ((with_reducible refine' e_storeB ?hx ?hy ?hv ?h1 ?hb ?ho ?_); (case hx => rfl); (case hy => ((try simp only [ev, lget]); (try rfl))); (case hv => rfl); (case h1 => rfl)) | ((with_reducible refine' e_storeR ?hx ?hy ?h1 ?hb ?hn ?ho ?_); (case hx => rfl); (case hy => rfl); (case h1 => simp [Value.oneCell']); (case hn => rfl))); (case hb => exact bqq); (case ho => first | (simp only [List.length_cons, List.length_nil]; omega) | omega | (simp; omega) | simp); (try simp only [splice, zA, zB]); intro _ _ _ _) | ((with_reducible refine' l_call TFn.ent ?ha ?_); (case ha => simp only [zC, zD, ev, lget]; (try rfl))))
  refine stop_go ?_
  rename_i gp1 w1 y1 y2 hp0 ep zp w2 hp1 ep1 zp1
  have e2 : Evt (fun _ => False) w w2 := Evt.next ep1 (Evt.next ep (Evt.next evb evn1 (fun _ _ h => h)) (fun _ _ h => h)) (fun k hk0 hk => by have h' : k = gp1 := hk; omega)
  have en2 : Evt (fun k => k = gp1) wn w2 := Evt.next ep1 (Evt.next ep (evb.mono fun _ _ h => h.elim) (fun _ _ h => h.elim)) (fun _ _ h => h)
  have hL1 := hN1.lt
  have nF1 : ∀ k, F1 k → ¬ k = gp1 := fun k hk hh => by have := hL1 k hk; omega
  have hN1' : NetAt w2 F1 g1 newN := hN1.evt en2 nF1 (fun _ h => h) (fun k hk => by have := hL1 k hk; omega)
  have hP1 : Blk w2 gp1 67 (prC g1 rn0) := hp1
  clear hp0 hp1 hN1 ep ep1 evb evn1
  repeat' (first | (with_reducible refine' stop_reg (id := 3) ?_) | (go_at_call 10; (with_reducible refine (new_n _).mono ?_); rintro e wn2 ⟨g2, F2, rfl, hN2, hF2, evn2⟩; have zn2 := evn2.size; refine ⟨_, rfl, ?_⟩; (conv => arg 5; simp only [zA, zB, ev, lget, zC, zD, zE, zF, zG, zH, zI, zJ, zK, zL, zM, zN, zO])) | (go_at_call 30; (with_reducible refine (begin_r _).mono ?_); rintro e wb ⟨rfl, evb⟩; have zb := evb.size; refine ⟨_, rfl, ?_⟩; simp only [rnC, List.length_nil]; (conv => arg 5; simp only [zA, zB, ev, lget, zC, zD, zE, zF, zG, zH, zI, zJ, zK, zL, zM, zN, zO])) | (with_reducible (first | refine' wp_seq ?_ | refine' wp_region_lit ?_ | refine' wpList_nil ?_ | refine' then_normal ?_)) | ((with_reducible refine' l_step ?_); ((with_reducible refine' g_build ?hl ?hp ?hs ?_); (case hl => rfl); (case hp => rfl); (case hs => rfl); (conv => arg 5; simp only [zA, zB, ev, lget, zC, zD, zE, zF, zG, zH, zI, zJ, zK, zL, zM, zN, zO, fillL, splice, List.getD_cons_zero, List.getD_cons_succ, Value.cells]))) | (((with_reducible refine' e_alloc ?hx ?_); (case hx => rfl)); intro _ _ _ _ _ _ _; (conv => arg 5; simp only [zA, zB, ev, lget, zC, zD, zE, zF, zG, zH, zI, zJ, zK, zL, zM, zN, zO])) | ((first | ((with_reducible refine' e_storeB ?hx ?hy ?hv ?h1 ?hb ?ho ?_); (case hx => rfl); (case hy => ((try simp only [ev, lget]); (try rfl))); (case hv => rfl); (case h1 => rfl)) | ((with_reducible refine' e_storeR ?hx ?hy ?h1 ?hb ?hn ?ho ?_); (case hx => rfl); (case hy => rfl); (case h1 => simp [Value.oneCell']); (case hn => rfl))); (case hb => exact bqq); (case ho => first | (simp only [List.length_cons, List.length_nil]; omega) | omega | (simp; omega) | simp); (try simp only [splice, zA, zB]); intro _ _ _ _) | ((with_reducible refine' l_call TFn.ent ?ha ?_); (case ha => simp only [zC, zD, ev, lget]; (try rfl))))
  refine stop_go ?_
  rename_i gp2 w3 v1 v2 hq0 eq0 zq0 w4 hq1 eq1 zq1
  have e24 : Evt (fun _ => False) w2 w4 := Evt.next eq1 (Evt.next eq0 (Evt.next evb evn2 (fun _ _ h => h)) (fun _ _ h => h)) (fun k hk0 hk => by have h' : k = gp2 := hk; omega)
  have en4 : Evt (fun k => k = gp2) wn2 w4 := Evt.next eq1 (Evt.next eq0 (evb.mono fun _ _ h => h.elim) (fun _ _ h => h.elim)) (fun _ _ h => h)
  have hL2 := hN2.lt
  have nF2 : ∀ k, F2 k → ¬ k = gp2 := fun k hk hh => by have := hL2 k hk; omega
  have hN2' : NetAt w4 F2 g2 newN := hN2.evt en4 nF2 (fun _ h => h) (fun k hk => by have := hL2 k hk; omega)
  have hP2 : Blk w4 gp2 67 (prC g2 rn0) := hq1
  have hP14 := hP1.evt e24 (fun h => h)
  have hN14 := hN1'.up e24
  clear hq0 hq1 hN2 eq0 eq1 evb evn2 hP1 hN1'
  repeat' (first | (with_reducible refine' stop_reg (id := 6) ?_) | ((with_reducible refine' l_step ?_); (with_reducible refine' g_eqlPtrN ?hx ?hy ?_); (case hx => rfl); (case hy => rfl); (conv => arg 5; simp only [zA, zB, ev, lget, zC, zD, zE, zF, zG, zH, zI, zJ, zK, zL, zM, zN, zO])) | (with_reducible (first | refine' wp_seq ?_ | refine' wp_region_lit ?_ | refine' wpList_nil ?_ | refine' then_normal ?_ | refine' wp_skip ?_)) | ((with_reducible refine' c_condF ?hx ?_); (case hx => rfl)) | ((with_reducible refine' l_step ?_); (first | ((first | (with_reducible refine' g_move ?_) | (with_reducible refine' g_assign ?_) | ((with_reducible refine' g_fieldAddr ?hx ?ho ?_); (case hx => rfl); (case ho => rfl)) | ((with_reducible refine' g_loadB ?hx ?hb ?hc ?_); (case hx => rfl); (case hb => exact bqq); first | (case hc => rfl) | (case hn => simp only [List.length_cons, List.length_nil]; omega)) | ((with_reducible refine' g_pickF ?hx ?_); (case hx => rfl))); (conv => arg 5; simp only [zA, zB, ev, lget, zC, zD, zE, zF, zG, zH, zI, zJ, zK, zL, zM, zN, zO])) | ((with_reducible refine' g_build ?hl ?hp ?hs ?_); (case hl => rfl); (case hp => rfl); (case hs => rfl); (conv => arg 5; simp only [zA, zB, ev, lget, zC, zD, zE, zF, zG, zH, zI, zJ, zK, zL, zM, zN, zO, fillL, splice, List.getD_cons_zero, List.getD_cons_succ, Value.cells])))) | ((with_reducible refine' l_on ?hw ?_); (case hw => rfl)) | (((with_reducible refine' e_boxA ?hx ?_); (case hx => rfl)); intro _ _ _ _ _ _ _; (conv => arg 5; simp only [zA, zB, ev, lget, zC, zD, zE, zF, zG, zH, zI, zJ, zK, zL, zM, zN, zO])))
  refine stop_go ?_
  rename_i gB w5 t1 t2 hB0 eB zbk
  have hbk := book0 hB0
  have hP15 := hP14.evt eB (fun h => h)
  have hP25 := hP2.evt eB (fun h => h)
  have hN15 := hN14.up eB
  have hN25 := hN2'.up eB
  have e05 : Evt (fun _ => False) w w5 := Evt.next eB (Evt.next e24 e2 (fun _ _ h => h)) (fun _ _ h => h)
  clear hP14 hP2 hN14 hN2' hB0
  repeat' (first | (with_reducible (first | refine' wp_region_lit ?_ | refine' wpList_nil ?_ | refine' then_normal ?_ | refine' wp_block ?_)) | ((with_reducible refine' l_step ?_); ((with_reducible refine' g_assign ?_); (conv => arg 5; simp only [zA, zB, ev, lget, zC, zD, zE, zF, zG, zH, zI, zJ, zK, zL, zM, zN, zO]))))
  refine' s_loop [6, 10, 11, 12, 13, 30, 31, 32, 33, 34, 35, 36, 37, 38, 39, 40, 41, 42, 43, 44, 45, 46, 47, 48, 49, 50, 51, 52, 53, 54, 55, 56, 57, 58, 59, 60, 61, 62, 63, 64, 65, 66, 67, 68] (fun n u w' => ∃ (i : Nat) (F1 F2 G FB : Nat → Prop) (g1 g2 : Nat) (N1 N2 : Net) (R1 R2 : Rn) (B : Bm), n = os.length - i ∧ i ≤ os.length ∧ u 10 = .int .i64 i ∧ UI w w' os gp1 gp2 gB i F1 F2 G FB g1 g2 N1 N2 R1 R2 B) os.length ?h0 ?round
  case h0 =>
    refine ⟨0, F1, F2, (fun _ => False), (fun k => k = gB), g1, g2, newN, newN, rn0, rn0, _, rfl, by omega, rfl, {
      b1 := hP15
      b2 := hP25
      s1 := ⟨hN15, ref0 _ _, hbk, fun _ _ h => h, fun k hk hh => ?_, fun _ h => h.elim, fun _ h => h.elim⟩
      s2 := ⟨hN25, ref0 _ _, hbk, fun _ _ h => h, fun k hk hh => ?_, fun _ h => h.elim, fun _ h => h.elim⟩
      dis := fun k h1 h2 => ?_
      p1 := pi_begin os
      p2 := pi_begin os
      bI := by simp
      bL := by simp
      bB := by simp
      low := fun k hk => ?_
      evt := e05 }⟩
    · have := hL1 k hk; omega
    · have := hL2 k hk; omega
    · have := hL1 k h1; have := hF2 k h2; omega
    · rcases hk with h1 | h1 | h1 | h1
      · have := hL1 k h1; have := hF1 k h1; exact ⟨by omega, by omega, by omega⟩
      · have := hL2 k h1; have := hF2 k h1; exact ⟨by omega, by omega, by omega⟩
      · exact h1.elim
      · exact ⟨by omega, by omega, by omega⟩
  clear hP15 hP25 hN15 hN25 hbk e05 eB e24 e2 hF1 hF2 hL1 hL2 nF1 nF2 en2 en4
  have hgpp : gp1 < gp2 := by omega
  have hw1 : w.heap.size ≤ gp1 := by omega
  case round =>
    rintro n u w3 ⟨i, F1, F2, G, FB, g1, g2, N1, N2, R1, R2, B, rfl, hi, h10, hU⟩
    simp only [setW, List.foldl_cons, List.foldl_nil, List.set_cons_succ, List.set_cons_zero]
    simp only [h10]
    have z3 := hU.evt.size
    by_cases hlt : i < os.length
    · obtain ⟨hoid, hob, hos⟩ := hwf _ (List.getElem_mem hlt)
      have hrg := rg_of (ho.bod _ (List.getElem_mem hlt))
      have hr1 := rdy_of hU.p1 hi hb (fun o h => (hwf o h).2.1)
      have hr2 := rdy_of hU.p2 hi hb (fun o h => (hwf o h).2.1)
      have hbI0 := hU.bI
      have hbL0 := hU.bL
      have hbB0 := hU.bB
      have hb13 := hU.b1
      have hb23 := hU.b2
      have hp1l := hb13.lt
      have hp2l := hb23.lt
      obtain ⟨bo, oo, rfl, hcellE⟩ := (ho.up hU.evt).at_ hlt
      generalize hoi : os[i] = oi at *
      obtain ⟨ok, oth, os_, oid, oack, ob, oA, oc⟩ := oi
      cases oth
      · repeat' (first | (with_reducible refine' stop_reg (id := 13) ?_) | (with_reducible (first | refine' wp_seq ?_ | refine' wp_region_lit ?_ | refine' wpList_nil ?_ | refine' then_normal ?_ | refine' wp_block ?_ | refine' wp_skip ?_)) | ((with_reducible refine' c_condT ?hx ?_); (case hx => rfl)) | ((with_reducible refine' c_condF ?hx ?_); (case hx => rfl)) | ((with_reducible refine' l_step ?_); (first | ((first | (with_reducible refine' g_move ?_) | ((with_reducible refine' g_fieldAddr ?hx ?ho ?_); (case hx => rfl); (case ho => rfl)) | ((first | (with_reducible refine' g_loadB ?hx ?hb ?hc ?_) | (with_reducible refine' g_loadS ?hx ?hb ?hn ?_)); (case hx => rfl); (case hb => exact bqq); first | (case hc => rfl) | (case hn => simp only [List.length_cons, List.length_nil]; omega)) | ((with_reducible refine' g_loadR ?hx ?hn ?hc ?_); (case hx => rfl); (case hc => first | exact hcellE _ (by exact eqq) | exact hcellF _ (by exact eqq)); (case hn => rfl)) | ((with_reducible refine' g_lenS ?hx ?_); (case hx => rfl)) | ((with_reducible refine' g_indexAddr ?hx ?hy ?h0 ?h1 ?_); (case hx => rfl); (case hy => rfl); (case h0 => omega); (case h1 => omega))); (conv => arg 5; simp only [zA, zB, ev, lget, zC, zD, zE, zF, zG, zH, zI, zJ, zK, zL, zM, zN, zO])) | (((with_reducible refine' g_lss ?hx ?hy (fun _ => ?_) (fun _ => ?_)); (case hx => rfl)); (case hy => rfl); all_goals (first | (exfalso; omega) | (conv => arg 5; simp only [zA, zB, ev, lget, zC, zD, zE, zF, zG, zH, zI, zJ, zK, zL, zM, zN, zO]))))) | (((with_reducible refine' e_alloc ?hx ?_); (case hx => rfl)); intro _ _ _ _ _ _ _; (conv => arg 5; simp only [zA, zB, ev, lget, zC, zD, zE, zF, zG, zH, zI, zJ, zK, zL, zM, zN, zO])) | ((first | ((with_reducible refine' e_storeB ?hx ?hy ?hv ?h1 ?hb ?ho ?_); (case hx => rfl); (case hy => ((try simp only [ev, lget]); (try rfl))); (case hv => rfl); (case h1 => rfl)) | ((with_reducible refine' e_storeR ?hx ?hy ?h1 ?hb ?hn ?ho ?_); (case hx => rfl); (case hy => rfl); (case h1 => simp [Value.oneCell']); (case hn => rfl))); (case hb => exact bqq); (case ho => first | (simp only [List.length_cons, List.length_nil]; omega) | omega | (simp; omega) | simp); (try simp only [splice, zA, zB]); intro _ _ _ _))
        refine stop_go ?_
        rename_i gO wo o1 o2 hO0 eO0 zO0 w8 hO1 eO1 zO1 gx wx x1 x2 hx0 ex0 zx0 w9 hx1 ex1 zx1 
        have e39 : Evt (fun _ => False) w3 w9 := Evt.next ex1 (Evt.next ex0 (Evt.next eO1 (eO0) (fun k hk0 hk => by have h' : k = gO := hk; omega)) (fun _ _ h => h)) (fun k hk0 hk => by have h' : k = gx := hk; omega)
        have hx : Blk w9 gx 67 (prC g1 R1) := hx1
        have hO : Blk w9 gO 45 (opC ⟨ok, false, os_, oid, oack, ob, oA, oc⟩) := ((hO1.evt ex0 (fun h => h)).evt ex1 (by omega))
        have hb19 := hU.b1.evt e39 (fun h => h)
        have hb29 := hU.b2.evt e39 (fun h => h)
        have hs19 := hU.s1.up e39
        have hs29 := hU.s2.up e39
        have hnx : ¬ (F1 gx ∨ FB gx) := fun hh => by
          rcases hh with h2 | h2
          · have := hU.s1.net.lt gx h2; omega
          · have := hU.s1.book.lt gx h2; omega
        clear hO0 eO0 hO1 eO1 hx0 ex0 hx1 ex1 
        repeat' (first | (with_reducible refine' stop_reg (id := 14) ?_) | (go_at_call 31; (refine (step_any F1 G FB (fun k => k < w.heap.size) g1 N1 R1 gB B ⟨ok, false, os_, oid, oack, ob, oA, oc⟩ _ hs19 hr1.1 hos (hrg.evt (Evt.next e39 hU.evt (fun _ _ h => h)) (fun _ _ _ h => h) (fun _ h => h)) (fun k hk => ⟨fun hh => by have := (hU.low k (.inl (by assumption))).1; omega, by omega⟩) hob (by have := hr1.2; omega) (by omega) (by omega) (by have := hr1.2; omega)).mono ?_); rintro e wS ⟨F', G', FB', N', R', B', rfl, hT⟩; have evT := hT.evt; have zS := evT.size; refine ⟨_, rfl, ?_⟩; (conv => arg 5; simp only [zA, zB, ev, lget, zC, zD, zE, zF, zG, zH, zI, zJ, zK, zL, zM, zN, zO])) | (with_reducible (first | refine' wp_seq ?_ | refine' wp_region_lit ?_ | refine' wpList_nil ?_ | refine' then_normal ?_)) | ((with_reducible refine' l_step ?_); ((first | (with_reducible refine' g_move ?_) | (with_reducible refine' g_assign ?_) | ((with_reducible refine' g_loadS ?hx ?hb ?hn ?_); (case hx => rfl); (case hb => exact bqq); first | (case hc => rfl) | (case hn => simp only [List.length_cons, List.length_nil]; omega)) | ((with_reducible refine' g_extract ?hx ?hv ?_); (case hx => rfl); (case hv => rfl))); (conv => arg 5; simp only [zA, zB, ev, lget, zC, zD, zE, zF, zG, zH, zI, zJ, zK, zL, zM, zN, zO]))) | ((first | ((with_reducible refine' e_storeB ?hx ?hy ?hv ?h1 ?hb ?ho ?_); (case hx => rfl); (case hy => ((try simp only [ev, lget]); (try rfl))); (case hv => rfl); (case h1 => rfl)) | ((with_reducible refine' e_storeR ?hx ?hy ?h1 ?hb ?hn ?ho ?_); (case hx => rfl); (case hy => rfl); (case h1 => simp [Value.oneCell']); (case hn => rfl))); (case hb => exact bqq); (case ho => first | (simp only [List.length_cons, List.length_nil]; omega) | omega | (simp; omega) | simp); (try simp only [splice, zA, zB]); intro _ _ _ _) | ((with_reducible refine' l_call TFn.ent ?ha ?_); (case ha => simp only [zC, zD, ev, lget]; (try rfl))))
        refine stop_go ?_
        rename_i w10 hx10 ex10 zx10
        have hx11 : Blk w10 gx 67 (prC g1 R') := hx10
        have nlow : ∀ k, F1 k ∨ FB k → w.heap.size ≤ k ∧ k ≠ gp1 ∧ k ≠ gp2 ∧ k < w3.heap.size := fun k hk => by
          have h1 := hU.low k (hk.elim (fun h => (.inl (by assumption))) (fun h => .inr (.inr (.inr h))))
          rcases hk with h2 | h2
          · have := hU.s1.net.lt k h2; exact ⟨h1.1, h1.2.1, h1.2.2, this⟩
          · have := hU.s1.book.lt k h2; exact ⟨h1.1, h1.2.1, h1.2.2, this⟩
        have nS : ∀ k, k = gp1 ∨ k = gp2 ∨ w3.heap.size ≤ k → ¬ (F1 k ∨ FB k) := fun k hk hh => by have := nlow k hh; omega
        have e1x : Evt (fun k => k = gx) wS w10 := ex10
        have hb1S := (hb19.evt hT.evt (nS gp1 (.inl rfl))).evt e1x (by omega)
        have hb2S := (hb29.evt hT.evt (nS gp2 (.inr (.inl rfl)))).evt e1x (by omega)
        have hOS := (hO.evt hT.evt (nS gO (.inr (.inr (by omega))))).evt e1x (by omega)
        obtain ⟨hoth, hdis⟩ := other_st hs19 hs29 hU.dis hT
        have hpi := pi_step hlt (by rw [hoi]; exact hoid) hU.p1 (by rw [hoi]; exact hT.rel)
        have nF' : ∀ k, F' k → F1 k ∨ w9.heap.size ≤ k := hT.fF
        have nG' : ∀ k, G' k → G k ∨ w9.heap.size ≤ k := hT.gG
        have nB' : ∀ k, FB' k → FB k ∨ w9.heap.size ≤ k := hT.fB
        clear hb19 hb29 hO hx hx10
        repeat' (first | (with_reducible (first | refine' wp_seq ?_ | refine' wp_region_lit ?_ | refine' wpList_nil ?_ | refine' then_normal ?_ | refine' wp_skip ?_ | refine' in_normal ?_)) | ((with_reducible refine' c_condF ?hx ?_); (case hx => rfl)) | ((with_reducible refine' l_step ?_); ((first | (with_reducible refine' g_move ?_) | (with_reducible refine' g_assign ?_) | ((with_reducible refine' g_fieldAddr ?hx ?ho ?_); (case hx => rfl); (case ho => rfl)) | ((first | (with_reducible refine' g_loadB ?hx ?hb ?hc ?_) | (with_reducible refine' g_loadS ?hx ?hb ?hn ?_)); (case hx => rfl); (case hb => exact bqq); first | (case hc => rfl) | (case hn => simp only [List.length_cons, List.length_nil]; omega)) | ((with_reducible refine' g_addN ?hx ?hy ?h0 ?h1 ?_); (case hx => rfl); (case hy => rfl); (case h0 => omega); (case h1 => omega)) | ((with_reducible refine' g_pickF ?hx ?_); (case hx => rfl)) | ((with_reducible refine' g_notT ?hx ?_); (case hx => rfl))); (conv => arg 5; simp only [zA, zB, ev, lget, zC, zD, zE, zF, zG, zH, zI, zJ, zK, zL, zM, zN, zO]))) | ((with_reducible refine' l_off ?hw ?_); (case hw => rfl); (conv => arg 5; simp only [zA, zB, ev, lget, zC, zD, zE, zF, zG, zH, zI, zJ, zK, zL, zM, zN, zO])) | ((first | ((with_reducible refine' e_storeB ?hx ?hy ?hv ?h1 ?hb ?ho ?_); (case hx => rfl); (case hy => ((try simp only [ev, lget]); (try rfl))); (case hv => rfl); (case h1 => rfl)) | ((with_reducible refine' e_storeR ?hx ?hy ?h1 ?hb ?hn ?ho ?_); (case hx => rfl); (case hy => rfl); (case h1 => simp [Value.oneCell']); (case hn => rfl))); (case hb => exact bqq); (case ho => first | (simp only [List.length_cons, List.length_nil]; omega) | omega | (simp; omega) | simp); (try simp only [splice, zA, zB]); intro _ _ _ _))
        rename_i w11 hbF ebF zbF
        have e911 : Evt (fun k => k = gx ∨ k = gp1) wS w11 := Evt.next ebF (e1x.mono fun _ _ h => .inl h) (fun _ _ h => .inr h)
        have ngx : ∀ k, F' k ∨ G' k ∨ FB' k ∨ F2 k → w.heap.size ≤ k ∧ k ≠ gp1 ∧ k ≠ gp2 ∧ k ≠ gx := fun k hk => by
          rcases hk with h1 | h1 | h1 | h1
          · rcases nF' k h1 with h2 | h2
            · have h3 := hU.low k (.inl h2)
              have := hU.s1.net.lt k h2
              exact ⟨h3.1, h3.2.1, h3.2.2, by omega⟩
            · exact ⟨by omega, by omega, by omega, by omega⟩
          · rcases nG' k h1 with h2 | h2
            · have h3 := hU.low k (.inr (.inr (.inl h2)))
              have := hU.s1.gl k h2
              exact ⟨h3.1, h3.2.1, h3.2.2, by omega⟩
            · exact ⟨by omega, by omega, by omega, by omega⟩
          · rcases nB' k h1 with h2 | h2
            · have h3 := hU.low k (.inr (.inr (.inr h2)))
              have := hU.s1.book.lt k h2
              exact ⟨h3.1, h3.2.1, h3.2.2, by omega⟩
            · exact ⟨by omega, by omega, by omega, by omega⟩
          · have h3 := hU.low k (.inr (.inl h1))
            have := hU.s2.net.lt k h1
            exact ⟨h3.1, h3.2.1, h3.2.2, by omega⟩
        have hsA := hT.st.evt e911 (fun k hk hh => by have := ngx k (.inl hk); omega) (fun k hk hh => by have := ngx k (.inr (.inl hk)); omega) (fun k hk hh => by have := ngx k (.inr (.inr (.inl hk))); omega)
        have hsB := hoth.evt e911 (fun k hk hh => by have := ngx k (.inr (.inr (.inr hk))); omega) (fun k hk hh => by have := ngx k (.inr (.inl hk)); omega) (fun k hk hh => by have := ngx k (.inr (.inr (.inl hk))); omega)
        have hbI := hT.bI
        have hbL := hT.bL
        have hbB := hT.bB
        have hac := hr1.2
        exact ⟨_, _, rfl, (by omega : os.length - (i + 1) < os.length - i), by simp only [zA, zB], i + 1, F', F2, G', FB', g1, g2, N', N2, R', R2, B', rfl, by omega, rfl, {
          b1 := hbF
          b2 := hb2S.evt ebF (by omega)
          s1 := hsA
          s2 := hsB
          dis := hdis
          p1 := hpi
          p2 := hU.p2.mono (by omega)
          bI := by have := hU.bI; omega
          bL := by have := hU.bL; omega
          bB := by have := hU.bB; omega
          low := fun k hk => by
            have h1 := ngx k (by rcases hk with h | h | h | h <;> simp only [h, true_or, or_true])
            exact ⟨h1.1, h1.2.1, h1.2.2.1⟩
          evt := Evt.next e911 (Evt.next hT.evt (Evt.next e39 hU.evt (fun _ _ h => h)) (fun k hk0 hk => by have := (nlow k hk).1; omega)) (fun k hk0 hk => by omega) }⟩
      · repeat' (first | (with_reducible refine' stop_reg (id := 13) ?_) | (with_reducible (first | refine' wp_seq ?_ | refine' wp_region_lit ?_ | refine' wpList_nil ?_ | refine' then_normal ?_ | refine' wp_block ?_ | refine' wp_skip ?_)) | ((with_reducible refine' c_condT ?hx ?_); (case hx => rfl)) | ((with_reducible refine' l_step ?_); (first | ((first | (with_reducible refine' g_move ?_) | ((with_reducible refine' g_fieldAddr ?hx ?ho ?_); (case hx => rfl); (case ho => rfl)) | ((first | (with_reducible refine' g_loadB ?hx ?hb ?hc ?_) | (with_reducible refine' g_loadS ?hx ?hb ?hn ?_)); (case hx => rfl); (case hb => exact bqq); first | (case hc => rfl) | (case hn => simp only [List.length_cons, List.length_nil]; omega)) | ((with_reducible refine' g_loadR ?hx ?hn ?hc ?_); (case hx => rfl); (case hc => first | exact hcellE _ (by exact eqq) | exact hcellF _ (by exact eqq)); (case hn => rfl)) | ((with_reducible refine' g_lenS ?hx ?_); (case hx => rfl)) | ((with_reducible refine' g_indexAddr ?hx ?hy ?h0 ?h1 ?_); (case hx => rfl); (case hy => rfl); (case h0 => omega); (case h1 => omega))); (conv => arg 5; simp only [zA, zB, ev, lget, zC, zD, zE, zF, zG, zH, zI, zJ, zK, zL, zM, zN, zO])) | (((with_reducible refine' g_lss ?hx ?hy (fun _ => ?_) (fun _ => ?_)); (case hx => rfl)); (case hy => rfl); all_goals (first | (exfalso; omega) | (conv => arg 5; simp only [zA, zB, ev, lget, zC, zD, zE, zF, zG, zH, zI, zJ, zK, zL, zM, zN, zO]))))) | (((with_reducible refine' e_alloc ?hx ?_); (case hx => rfl)); intro _ _ _ _ _ _ _; (conv => arg 5; simp only [zA, zB, ev, lget, zC, zD, zE, zF, zG, zH, zI, zJ, zK, zL, zM, zN, zO])) | ((first | ((with_reducible refine' e_storeB ?hx ?hy ?hv ?h1 ?hb ?ho ?_); (case hx => rfl); (case hy => ((try simp only [ev, lget]); (try rfl))); (case hv => rfl); (case h1 => rfl)) | ((with_reducible refine' e_storeR ?hx ?hy ?h1 ?hb ?hn ?ho ?_); (case hx => rfl); (case hy => rfl); (case h1 => simp [Value.oneCell']); (case hn => rfl))); (case hb => exact bqq); (case ho => first | (simp only [List.length_cons, List.length_nil]; omega) | omega | (simp; omega) | simp); (try simp only [splice, zA, zB]); intro _ _ _ _))
        refine stop_go ?_
        rename_i gO wo o1 o2 hO0 eO0 zO0 w8 hO1 eO1 zO1 gx wx x1 x2 hx0 ex0 zx0 w9 hx1 ex1 zx1 wy hy ey zy
        have e39 : Evt (fun _ => False) w3 wy := Evt.next ey (Evt.next ex1 (Evt.next ex0 (Evt.next eO1 (eO0) (fun k hk0 hk => by have h' : k = gO := hk; omega)) (fun _ _ h => h)) (fun k hk0 hk => by have h' : k = gx := hk; omega)) (fun k hk0 hk => by have h' : k = gx := hk; omega)
        have hx : Blk wy gx 67 (prC g2 R2) := hy
        have hO : Blk wy gO 45 (opC ⟨ok, true, os_, oid, oack, ob, oA, oc⟩) := (((hO1.evt ex0 (fun h => h)).evt ex1 (by omega)).evt ey (by omega))
        have hb19 := hU.b1.evt e39 (fun h => h)
        have hb29 := hU.b2.evt e39 (fun h => h)
        have hs19 := hU.s1.up e39
        have hs29 := hU.s2.up e39
        have hnx : ¬ (F2 gx ∨ FB gx) := fun hh => by
          rcases hh with h2 | h2
          · have := hU.s2.net.lt gx h2; omega
          · have := hU.s1.book.lt gx h2; omega
        clear hO0 eO0 hO1 eO1 hx0 ex0 hx1 ex1 hy ey
        repeat' (first | (with_reducible refine' stop_reg (id := 14) ?_) | (go_at_call 31; (refine (step_any F2 G FB (fun k => k < w.heap.size) g2 N2 R2 gB B ⟨ok, true, os_, oid, oack, ob, oA, oc⟩ _ hs29 hr2.1 hos (hrg.evt (Evt.next e39 hU.evt (fun _ _ h => h)) (fun _ _ _ h => h) (fun _ h => h)) (fun k hk => ⟨fun hh => by have := (hU.low k (.inr (.inl (by assumption)))).1; omega, by omega⟩) hob (by have := hr2.2; omega) (by omega) (by omega) (by have := hr2.2; omega)).mono ?_); rintro e wS ⟨F', G', FB', N', R', B', rfl, hT⟩; have evT := hT.evt; have zS := evT.size; refine ⟨_, rfl, ?_⟩; (conv => arg 5; simp only [zA, zB, ev, lget, zC, zD, zE, zF, zG, zH, zI, zJ, zK, zL, zM, zN, zO])) | (with_reducible (first | refine' wp_seq ?_ | refine' wp_region_lit ?_ | refine' wpList_nil ?_ | refine' then_normal ?_)) | ((with_reducible refine' l_step ?_); ((first | (with_reducible refine' g_move ?_) | (with_reducible refine' g_assign ?_) | ((with_reducible refine' g_loadS ?hx ?hb ?hn ?_); (case hx => rfl); (case hb => exact bqq); first | (case hc => rfl) | (case hn => simp only [List.length_cons, List.length_nil]; omega)) | ((with_reducible refine' g_extract ?hx ?hv ?_); (case hx => rfl); (case hv => rfl))); (conv => arg 5; simp only [zA, zB, ev, lget, zC, zD, zE, zF, zG, zH, zI, zJ, zK, zL, zM, zN, zO]))) | ((first | ((with_reducible refine' e_storeB ?hx ?hy ?hv ?h1 ?hb ?ho ?_); (case hx => rfl); (case hy => ((try simp only [ev, lget]); (try rfl))); (case hv => rfl); (case h1 => rfl)) | ((with_reducible refine' e_storeR ?hx ?hy ?h1 ?hb ?hn ?ho ?_); (case hx => rfl); (case hy => rfl); (case h1 => simp [Value.oneCell']); (case hn => rfl))); (case hb => exact bqq); (case ho => first | (simp only [List.length_cons, List.length_nil]; omega) | omega | (simp; omega) | simp); (try simp only [splice, zA, zB]); intro _ _ _ _) | ((with_reducible refine' l_call TFn.ent ?ha ?_); (case ha => simp only [zC, zD, ev, lget]; (try rfl))))
        refine stop_go ?_
        rename_i w10 hx10 ex10 zx10
        have hx11 : Blk w10 gx 67 (prC g2 R') := hx10
        have nlow : ∀ k, F2 k ∨ FB k → w.heap.size ≤ k ∧ k ≠ gp1 ∧ k ≠ gp2 ∧ k < w3.heap.size := fun k hk => by
          have h1 := hU.low k (hk.elim (fun h => (.inr (.inl (by assumption)))) (fun h => .inr (.inr (.inr h))))
          rcases hk with h2 | h2
          · have := hU.s2.net.lt k h2; exact ⟨h1.1, h1.2.1, h1.2.2, this⟩
          · have := hU.s1.book.lt k h2; exact ⟨h1.1, h1.2.1, h1.2.2, this⟩
        have nS : ∀ k, k = gp1 ∨ k = gp2 ∨ w3.heap.size ≤ k → ¬ (F2 k ∨ FB k) := fun k hk hh => by have := nlow k hh; omega
        have e1x : Evt (fun k => k = gx) wS w10 := ex10
        have hb1S := (hb19.evt hT.evt (nS gp1 (.inl rfl))).evt e1x (by omega)
        have hb2S := (hb29.evt hT.evt (nS gp2 (.inr (.inl rfl)))).evt e1x (by omega)
        have hOS := (hO.evt hT.evt (nS gO (.inr (.inr (by omega))))).evt e1x (by omega)
        obtain ⟨hoth, hdis⟩ := other_st hs29 hs19 (fun k h1 h2 => hU.dis k h2 h1) hT
        have hpi := pi_step hlt (by rw [hoi]; exact hoid) hU.p2 (by rw [hoi]; exact hT.rel)
        have nF' : ∀ k, F' k → F2 k ∨ wy.heap.size ≤ k := hT.fF
        have nG' : ∀ k, G' k → G k ∨ wy.heap.size ≤ k := hT.gG
        have nB' : ∀ k, FB' k → FB k ∨ wy.heap.size ≤ k := hT.fB
        clear hb19 hb29 hO hx hx10
        repeat' (first | (with_reducible (first | refine' wp_seq ?_ | refine' wp_region_lit ?_ | refine' wpList_nil ?_ | refine' then_normal ?_ | refine' wp_skip ?_ | refine' in_normal ?_)) | ((with_reducible refine' c_condT ?hx ?_); (case hx => rfl)) | ((with_reducible refine' c_condF ?hx ?_); (case hx => rfl)) | ((with_reducible refine' l_step ?_); ((first | (with_reducible refine' g_move ?_) | (with_reducible refine' g_assign ?_) | ((with_reducible refine' g_fieldAddr ?hx ?ho ?_); (case hx => rfl); (case ho => rfl)) | ((first | (with_reducible refine' g_loadB ?hx ?hb ?hc ?_) | (with_reducible refine' g_loadS ?hx ?hb ?hn ?_)); (case hx => rfl); (case hb => exact bqq); first | (case hc => rfl) | (case hn => simp only [List.length_cons, List.length_nil]; omega)) | ((with_reducible refine' g_addN ?hx ?hy ?h0 ?h1 ?_); (case hx => rfl); (case hy => rfl); (case h0 => omega); (case h1 => omega)) | ((with_reducible refine' g_pickF ?hx ?_); (case hx => rfl)) | ((with_reducible refine' g_notT ?hx ?_); (case hx => rfl))); (conv => arg 5; simp only [zA, zB, ev, lget, zC, zD, zE, zF, zG, zH, zI, zJ, zK, zL, zM, zN, zO]))) | ((with_reducible refine' l_off ?hw ?_); (case hw => rfl); (conv => arg 5; simp only [zA, zB, ev, lget, zC, zD, zE, zF, zG, zH, zI, zJ, zK, zL, zM, zN, zO])) | ((first | ((with_reducible refine' e_storeB ?hx ?hy ?hv ?h1 ?hb ?ho ?_); (case hx => rfl); (case hy => ((try simp only [ev, lget]); (try rfl))); (case hv => rfl); (case h1 => rfl)) | ((with_reducible refine' e_storeR ?hx ?hy ?h1 ?hb ?hn ?ho ?_); (case hx => rfl); (case hy => rfl); (case h1 => simp [Value.oneCell']); (case hn => rfl))); (case hb => exact bqq); (case ho => first | (simp only [List.length_cons, List.length_nil]; omega) | omega | (simp; omega) | simp); (try simp only [splice, zA, zB]); intro _ _ _ _))
        rename_i w11 hbF ebF zbF
        have e911 : Evt (fun k => k = gx ∨ k = gp2) wS w11 := Evt.next ebF (e1x.mono fun _ _ h => .inl h) (fun _ _ h => .inr h)
        have ngx : ∀ k, F' k ∨ G' k ∨ FB' k ∨ F1 k → w.heap.size ≤ k ∧ k ≠ gp1 ∧ k ≠ gp2 ∧ k ≠ gx := fun k hk => by
          rcases hk with h1 | h1 | h1 | h1
          · rcases nF' k h1 with h2 | h2
            · have h3 := hU.low k (.inr (.inl h2))
              have := hU.s2.net.lt k h2
              exact ⟨h3.1, h3.2.1, h3.2.2, by omega⟩
            · exact ⟨by omega, by omega, by omega, by omega⟩
          · rcases nG' k h1 with h2 | h2
            · have h3 := hU.low k (.inr (.inr (.inl h2)))
              have := hU.s1.gl k h2
              exact ⟨h3.1, h3.2.1, h3.2.2, by omega⟩
            · exact ⟨by omega, by omega, by omega, by omega⟩
          · rcases nB' k h1 with h2 | h2
            · have h3 := hU.low k (.inr (.inr (.inr h2)))
              have := hU.s1.book.lt k h2
              exact ⟨h3.1, h3.2.1, h3.2.2, by omega⟩
            · exact ⟨by omega, by omega, by omega, by omega⟩
          · have h3 := hU.low k (.inl h1)
            have := hU.s1.net.lt k h1
            exact ⟨h3.1, h3.2.1, h3.2.2, by omega⟩
        have hsA := hT.st.evt e911 (fun k hk hh => by have := ngx k (.inl hk); omega) (fun k hk hh => by have := ngx k (.inr (.inl hk)); omega) (fun k hk hh => by have := ngx k (.inr (.inr (.inl hk))); omega)
        have hsB := hoth.evt e911 (fun k hk hh => by have := ngx k (.inr (.inr (.inr hk))); omega) (fun k hk hh => by have := ngx k (.inr (.inl hk)); omega) (fun k hk hh => by have := ngx k (.inr (.inr (.inl hk))); omega)
        have hbI := hT.bI
        have hbL := hT.bL
        have hbB := hT.bB
        have hac := hr2.2
        exact ⟨_, _, rfl, (by omega : os.length - (i + 1) < os.length - i), by simp only [zA, zB], i + 1, F1, F', G', FB', g1, g2, N1, N', R1, R', B', rfl, by omega, rfl, {
          b1 := hb1S.evt ebF (by omega)
          b2 := hbF
          s1 := hsB
          s2 := hsA
          dis := fun k h1 h2 => hdis k h2 h1
          p1 := hU.p1.mono (by omega)
          p2 := hpi
          bI := by have := hU.bI; omega
          bL := by have := hU.bL; omega
          bB := by have := hU.bB; omega
          low := fun k hk => by
            have h1 := ngx k (by rcases hk with h | h | h | h <;> simp only [h, true_or, or_true])
            exact ⟨h1.1, h1.2.1, h1.2.2.1⟩
          evt := Evt.next e911 (Evt.next hT.evt (Evt.next e39 hU.evt (fun _ _ h => h)) (fun k hk0 hk => by have := (nlow k hk).1; omega)) (fun k hk0 hk => by omega) }⟩
    · obtain rfl : i = os.length := by omega
      obtain ⟨D, vI, vL, vA, vB, vM, hv, _⟩ := hU.s1.book.ok
      repeat' (first | (go_at_call 32; (refine (kept_any D gB B vI vL vA vB vM _ hv).mono ?_); rintro e wK ⟨rfl, evK⟩; have zK' := evK.size; refine ⟨_, rfl, ?_⟩; (conv => arg 5; simp only [zA, zB, ev, lget, zC, zD, zE, zF, zG, zH, zI, zJ, zK, zL, zM, zN, zO])) | (with_reducible (first | refine' wp_seq ?_ | refine' wp_region_lit ?_ | refine' wpList_nil ?_ | refine' then_normal ?_ | refine' wp_ret ?_ | refine' wp_exit ?_ | refine' then_exit ?_ | refine' in_exit ?_)) | ((with_reducible refine' c_condF ?hx ?_); (case hx => rfl)) | ((with_reducible refine' b_ret1 ?hr ?hv ?_); (case hr => rfl); (case hv => ((try simp only [ev, lget]); (try rfl)))) | ((with_reducible refine' l_step ?_); (first | ((first | (with_reducible refine' g_move ?_) | (with_reducible refine' g_assign ?_) | ((with_reducible refine' g_lenS ?hx ?_); (case hx => rfl))); (conv => arg 5; simp only [zA, zB, ev, lget, zC, zD, zE, zF, zG, zH, zI, zJ, zK, zL, zM, zN, zO])) | (((with_reducible refine' g_lss ?hx ?hy (fun _ => ?_) (fun _ => ?_)); (case hx => rfl)); (case hy => rfl); all_goals (first | (exfalso; omega) | (conv => arg 5; simp only [zA, zB, ev, lget, zC, zD, zE, zF, zG, zH, zI, zJ, zK, zL, zM, zN, zO]))))) | ((with_reducible refine' l_call TFn.ent ?ha ?_); (case ha => simp only [zC, zD, ev, lget]; (try rfl))))
      exact ⟨rfl, Evt.next evK hU.evt (fun _ _ h => h)⟩
end Go.Proofs.Ytmngcpackbekiaa
