/- A step on both boxes: Add. SHORT NORMX -/
import Derived.Test.YtchfkkliechgoaaStp17
namespace Go.Proofs.Ytchfkkliechgoaa
open Go.RowKit Go.Proofs.YtchfkkliechgoaaE
set_option linter.unusedSimpArgs false
set_option linter.unusedVariables false
set_option maxRecDepth 4000

theorem RC.pre {w : World} {A : Option Addr} {xs ys : List Value} (h : RC w A (xs ++ ys)) : RC w A xs := fun hn => by
  obtain ⟨b, o, hA, hc⟩ := h (by rw [List.length_append]; omega)
  exact ⟨b, o, hA, fun j v hj => hc j v (by rw [List.getElem?_append_left (List.getElem?_eq_some_iff.1 hj).1]; exact hj)⟩
theorem RC.suf {w : World} {b o : Nat} {xs ys : List Value} (h : RC w (some ⟨b, o, none⟩) (xs ++ ys)) : RC w (some ⟨b, o + xs.length, none⟩) ys := fun hn => by
  obtain ⟨b', o', hA, hc⟩ := h (by rw [List.length_append]; omega)
  cases hA
  exact ⟨_, _, rfl, fun j v hj => by
    rw [Nat.add_assoc]
    exact hc _ v (by rw [List.getElem?_append_right (by omega), Nat.add_sub_cancel_left]; exact hj)⟩
theorem equal_t (A B : Option Addr) (c d n m : Nat) (xs ys : List Int) (w : World) (hr : RC w A (u8s xs)) (hs : RC w B (u8s ys)) (hn : xs.length = n) (hm : ys.length = m) (hl : n ≤ 9223372036854775807) (hl2 : m ≤ 9223372036854775807) (he : xs = ys) :
    Calls Try.prog 23 #[.slice A n c, .slice B m d] w fun e w' => e = .returned (.bool true) ∧ Evt (fun _ => False) w w' := by
  refine (equal_any A B c d n m xs ys w hr hs hn hm hl hl2).mono ?_
  rw [decide_eq_true he]
  exact fun _ _ h => h
theorem addP_bod {l : List Ep} {id now : Int} {body : List Int} : ∀ e ∈ (addP l id body now).1, e ∈ l ∨ e.body = body := by
  intro e he
  unfold addP at he
  split at he
  · exact .inl he
  · split at he
    · exact .inl he
    · rcases List.mem_append.1 he with h | h
      · exact .inl (List.mem_filter.1 h).1
      · rcases List.mem_cons.1 h with rfl | h
        · exact .inr rfl
        · exact .inl (List.mem_filter.1 h).1
set_option maxRecDepth 20000 in
set_option maxHeartbeats 8000000 in
theorem step1_any (F G : Nat → Prop) (gb n : Nat) (p : Pol) (Ap : Option Addr) (cp : Nat) (A : Option Addr) (c : Nat) (rs : List Nt) (o : Opr) (mark : Int) (w : World) (hS : St w F G gb n p A rs) (H : Nat → Prop) (hop : RG w H o.A (u8s o.body)) (hH : ∀ k, H k → ¬ F k ∧ k < w.heap.size) (hid : -9223372036854775808 ≤ o.id ∧ o.id ≤ 9223372036854775807) (hbl : o.body.length ≤ 1048576) (hn : n ≤ 1000000000) (hk : o.kind = 1) :
    Calls Try.prog 29 #[.agg (polC p Ap cp).toArray, .agg (prC gb A rs.length c).toArray, .agg (opC o).toArray, .int .u8 mark] w fun e w' => ∃ F' G' n' A' c' rs' B cB bs ls, e = .returned (.tuple #[.agg (prC gb A' rs'.length c').toArray, .bool true, .agg #[.slice B (bs : List Bd).length cB, lsV ls]]) ∧ StepAt w w' F G gb n p mark F' G' n' A' rs' B bs ls := by
  go_enter Try.func29, Try.ntmps29
  repeat' (first | (with_reducible refine' stop_reg (id := 1) ?_) | (with_reducible (first | refine' wp_seq ?_ | refine' wp_region_lit ?_ | refine' wpList_nil ?_ | refine' then_normal ?_)) | ((with_reducible refine' l_step ?_); ((with_reducible refine' g_assign ?_); (conv => arg 5; simp only [zA, zB, ev, lget, zC, zD, zE, zF, zG, zH, zI, zJ, zK, zL, zM, zN, zO]))) | ((first | ((with_reducible refine' e_boxA ?hx ?_); (case hx => rfl)) | ((with_reducible refine' e_alloc ?hx ?_); (case hx => rfl))); intro _ _ _ _ _ _ _; (conv => arg 5; simp only [zA, zB, ev, lget, zC, zD, zE, zF, zG, zH, zI, zJ, zK, zL, zM, zN, zO])))
  rename_i gP wa a1 a2 hP0 ea za_ gX wb b1 b2 hX0 eb zb_ gO wc c1 c2 hO0 ec zc_ gR wd d1 d2 hR0 ed zd_ gU wB u1 u2 hU eu zu_
  have evB : Evt (fun _ => False) w wB := Evt.next eu (Evt.next ed (Evt.next ec (Evt.next eb ea (fun _ _ h => h)) (fun _ _ h => h)) (fun _ _ h => h)) (fun _ _ h => h)
  have hR := hR0.evt eu (fun h => h)
  have hO := (hO0.evt ed (fun h => h)).evt eu (fun h => h)
  have hX := ((hX0.evt ec (fun h => h)).evt ed (fun h => h)).evt eu (fun h => h)
  have hP := (((hP0.evt eb (fun h => h)).evt ec (fun h => h)).evt ed (fun h => h)).evt eu (fun h => h)
  have hSB := hS.up evB
  have nF : ∀ k, w.heap.size ≤ k → ¬ F k := fun k hk hh => by have := hS.fl k hh; omega
  have nG : ∀ k, w.heap.size ≤ k → ¬ G k := fun k hk hh => by have := hS.gl k hh; omega
  have fP : ¬ F gP := nF gP (by omega)
  have fX : ¬ F gX := nF gX (by omega)
  have fO : ¬ F gO := nF gO (by omega)
  have fR : ¬ F gR := nF gR (by omega)
  have fU : ¬ F gU := nF gU (by omega)
  have kEv : ∀ {S : Nat → Prop} {w' : World}, Evt S wB w' → (∀ k, k < w.heap.size → S k → F k) → Evt F w w' := fun he hs => Evt.next he (evB.mono fun _ _ h => h.elim) hs
  clear hP0 hX0 hO0 hR0 ea eb ec ed eu
  have hopB : RG wB H o.A (u8s o.body) := hop.evt (evB) (fun _ _ _ h => h) (fun _ h => h)
  clear evB
  refine stop_go ?_
  repeat' (first | ((with_reducible refine' e_appC (v := .slice none 0 0) (n := 0) (m := o.body.length) (xs := []) (news := u8s o.body) ?hx ?hy ?hzs ?hsz ?hown ?hl ?hr ?h1 ?hb ?hm ?_); (case hx => rfl); (case hy => rfl); (case hzs => rfl); (case hsz => decide); (case hown => exact World.ownsRow_nil _ _ _ _); (case hl => simp [u8s]); (case hr => exact hopB.rc.up (by exact eqq)); (case h1 => exact u8s_one _); (case hb => omega); (case hm => omega); intro vA wL hoL heA0 haL hzL; have heL : Evt (fun _ => False) _ wL := heA0.mono (fun k _ hk => by simp [Value.ownBlock] at hk); clear heA0; simp only [Nat.zero_add, List.nil_append] at hoL; obtain ⟨VL, dL, hVL⟩ := own_slice hoL; subst hVL; (conv => arg 5; simp only [zA, zB, ev, lget, zC, zD, zE, zF, zG, zH, zI, zJ, zK, zL, zM, zN, zO])) | (((with_reducible refine' e_append ?hx ?hy ?hzs ?hsz ?hown ?hl ?hnews ?h1 ?hb ?hm ?_); (case hx => ((try simp only [ev, lget]); (try rfl))); (case hy => rfl); (case hzs => rfl); (case hsz => decide); (case hown => exact oqq); (case hnews => refine' blk_src ?hbb; (case hbb => exact bqq)); (case hl => rfl); (case h1 => simp [Value.oneCell']); (case hb => omega); (case hm => omega); intro vA wA hoA heA hnA haA hzA; (conv => arg 5; simp only [zA, zB, ev, lget, zC, zD, zE, zF, zG, zH, zI, zJ, zK, zL, zM, zN, zO])); have hlA := own_lt hoA; obtain ⟨VA, dA, hVA⟩ := own_slice hoA; subst hVA) | (with_reducible refine' stop_reg (id := 7) ?_) | (with_reducible (first | refine' wp_seq ?_ | refine' wp_region_lit ?_ | refine' wpList_nil ?_ | refine' then_normal ?_ | refine' wp_block ?_)) | ((with_reducible refine' c_condT ?hx ?_); (case hx => rfl)) | ((with_reducible refine' l_step ?_); (first | ((first | (with_reducible refine' g_move ?_) | (with_reducible refine' g_assign ?_) | ((with_reducible refine' g_fieldAddr ?hx ?ho ?_); (case hx => rfl); (case ho => rfl)) | ((with_reducible refine' g_loadB ?hx ?hb ?hc ?_); (case hx => rfl); (case hb => exact bqq); first | (case hc => rfl) | (case hn => simp only [List.length_cons, List.length_nil]; omega))); (conv => arg 5; simp only [zA, zB, ev, lget, zC, zD, zE, zF, zG, zH, zI, zJ, zK, zL, zM, zN, zO])) | (((with_reducible refine' g_eql ?hx ?hy (fun _ => ?_) (fun _ => ?_)); (case hx => rfl)); (case hy => rfl); all_goals (first | (exfalso; omega) | (conv => arg 5; simp only [zA, zB, ev, lget, zC, zD, zE, zF, zG, zH, zI, zJ, zK, zL, zM, zN, zO]))))) | (((with_reducible refine' e_sliceLit ?hx ?hi ?hv ?hn ?_); (case hx => simp only [zC, zD, ev, lget]; (try rfl)); (case hi => rfl); (case hv => simp [Value.cells]); (case hn => decide); simp only [List.flatMap_cons, List.flatMap_nil, Value.cells, List.cons_append, List.nil_append]); intro _ _ _ _ _ _ _; (conv => arg 5; simp only [zA, zB, ev, lget, zC, zD, zE, zF, zG, zH, zI, zJ, zK, zL, zM, zN, zO])))
  rename_i g4 w4 b4a b4b hb4 e4 z4
  have hnL : ∀ k, (Value.slice VL o.body.length dL).ownBlock = some k → wB.heap.size ≤ k := new_low (V := none) (n := 0) (d := 0) haL (by simp [Value.ownBlock]) (Nat.le_refl _)
  have eA : Evt (fun _ => False) wB wA := Evt.next heA (Evt.next e4 heL (fun _ _ h => h)) (fun k hk0 hk => by have := hnL k hk; omega)
  have oA := new_low (B := wB.heap.size) haA hnL (by omega)
  have hcap := own_lenc hoA (by decide)
  obtain ⟨bA, capA, hvA, hobA, hbAl, _⟩ := own_form2 hoA (show 0 < o.body.length + 3 by omega)
  simp only [Value.slice.injEq] at hvA
  obtain ⟨rfl, _, rfl⟩ := hvA
  have hbA := oA bA rfl
  have hSA := hSB.up eA
  have hXA := hX.evt eA (fun h => h)
  have hOA := hO.evt eA (fun h => h)
  have hRA := hR.evt eA (fun h => h)
  have hUA := hU.evt eA (fun h => h)
  have hopA := hopB.evt eA (fun _ _ _ h => h) (fun _ h => h)
  have hrcP : RC wA (some ⟨bA, 0, none⟩) (u8s o.body) := RC.pre (own_rc hoA)
  obtain ⟨cd, hcd⟩ : ∃ q, (addP (rs.map ntP) o.id o.body o.now).2 = q := ⟨_, rfl⟩
  obtain ⟨L, hB, hLp, hLn⟩ := hSA.box
  have hrl := hS.rl
  clear hP hX hO hR hU hSB hopB hb4 hoL heA e4 heL hlA
  refine stop_go ?_
  repeat' (first | (with_reducible refine' stop_reg (id := 9) ?_) | (go_at_call 16; (refine (add_any _ F gb n p L o.id o.now o.body (some ⟨bA, 0, none⟩) dA hB hrcP (by omega) hid (by omega)).mono ?_); rw [hLp, hcd]; rintro e wS ⟨F2, L2, rfl, hB2, hL2, hL2n, hF2, evS⟩; have zS_ := evS.size; refine ⟨_, rfl, ?_⟩; (conv => arg 5; simp only [zA, zB, ev, lget, zC, zD, zE, zF, zG, zH, zI, zJ, zK, zL, zM, zN, zO])) | (with_reducible (first | refine' wp_seq ?_ | refine' wp_region_lit ?_ | refine' wpList_nil ?_ | refine' then_normal ?_)) | ((with_reducible refine' l_step ?_); ((first | (with_reducible refine' g_move ?_) | (with_reducible refine' g_assign ?_) | ((with_reducible refine' g_fieldAddr ?hx ?ho ?_); (case hx => rfl); (case ho => rfl)) | ((with_reducible refine' g_loadB ?hx ?hb ?hc ?_); (case hx => rfl); (case hb => exact bqq); first | (case hc => rfl) | (case hn => simp only [List.length_cons, List.length_nil]; omega)) | ((with_reducible refine' g_lenS ?hx ?_); (case hx => rfl)) | ((with_reducible refine' g_sliceH ?hx ?hy ?h0 ?h1 ?_); (case hx => rfl); (case hy => rfl); (case h0 => omega); (case h1 => omega))); (conv => arg 5; simp only [zA, zB, ev, lget, zC, zD, zE, zF, zG, zH, zI, zJ, zK, zL, zM, zN, zO]))) | ((with_reducible refine' l_call TFn.ent ?ha ?_); (case ha => simp only [zC, zD, ev, lget]; (try rfl))))
  have nbF : ¬ F bA := nF bA (by omega)
  have hXS := hXA.evt evS fX
  have hOS := hOA.evt evS fO
  have hRS := hRA.evt evS fR
  have hUS := hUA.evt evS fU
  have hoS := own_evt evS hoA (fun k hk => nF k (by have := oA k hk; omega))
  have hopS := hopA.evt evS (fun k _ hk => (hH k hk).1) (fun _ h => h)
  have hrefS := hSA.ref.evt evS (fun k _ hg hf => hS.fg k hf hg) (fun _ h => h)
  have hpreS : RC wS (some ⟨bA, 0, none⟩) (u8s o.body) := RC.pre (own_rc hoS)
  have hsufS : RC wS (from_ (some ⟨bA, 0, none⟩) dA 1 o.body.length) (u8s [201, 202, 203]) := by
    have h1 := RC.suf (own_rc hoS)
    rw [u8s_length] at h1
    rw [from_, if_neg (by omega)]
    simp only [Option.map_some, add_off, Nat.mul_one]
    exact h1
  have kS : Evt F wB wS := Evt.next evS (eA.mono fun _ _ h => h.elim) (fun _ _ h => h)
  clear hXA hOA hRA hUA hoA hopA hSA hrcP evS eA hB
  refine stop_go ?_
  repeat' (first | (with_reducible refine' stop_reg (id := 10) ?_) | (go_at_call 23; (refine (equal_t (some ⟨bA, 0, none⟩) o.A dA o.c o.body.length o.body.length o.body o.body _ (hpreS.up (by exact eqq)) (hopS.rc.up (by exact eqq)) rfl rfl (by omega) (by omega) rfl).mono ?_); rintro e wq ⟨rfl, evq⟩; have zq_ := evq.size; refine ⟨_, rfl, ?_⟩; clear hpreS; (conv => arg 5; simp only [zA, zB, ev, lget, zC, zD, zE, zF, zG, zH, zI, zJ, zK, zL, zM, zN, zO])) | (go_at_call 23; (refine (equal_t (from_ (some ⟨bA, 0, none⟩) dA 1 o.body.length) _ (dA - o.body.length) 3 (o.body.length + 3 - o.body.length) 3 [201, 202, 203] [201, 202, 203] _ (hsufS.up (by exact eqq)) (RC.blk (by exact bqq) 3 rfl) (by simp) rfl (by omega) (by omega) rfl).mono ?_); rintro e ws ⟨rfl, evs⟩; have zs_ := evs.size; refine ⟨_, rfl, ?_⟩; (conv => arg 5; simp only [zA, zB, ev, lget, zC, zD, zE, zF, zG, zH, zI, zJ, zK, zL, zM, zN, zO])) | (with_reducible (first | refine' wp_seq ?_ | refine' wp_region_lit ?_ | refine' wpList_nil ?_ | refine' then_normal ?_)) | ((with_reducible refine' l_step ?_); ((first | (with_reducible refine' g_move ?_) | (with_reducible refine' g_assign ?_) | ((with_reducible refine' g_fieldAddr ?hx ?ho ?_); (case hx => rfl); (case ho => rfl)) | ((with_reducible refine' g_loadB ?hx ?hb ?hc ?_); (case hx => rfl); (case hb => exact bqq); first | (case hc => rfl) | (case hn => simp only [List.length_cons, List.length_nil]; omega)) | ((with_reducible refine' g_pickT ?hx ?_); (case hx => rfl)) | ((with_reducible refine' g_lenS ?hx ?_); (case hx => rfl)) | ((with_reducible refine' g_sliceLA ?hx ?hy ?h0 ?h1 ?_); (case hx => rfl); (case hy => rfl); (case h0 => omega); (case h1 => omega))); (conv => arg 5; simp only [zA, zB, ev, lget, zC, zD, zE, zF, zG, zH, zI, zJ, zK, zL, zM, zN, zO]))) | ((with_reducible refine' l_on ?hw ?_); (case hw => rfl)) | (((with_reducible refine' e_sliceLit ?hx ?hi ?hv ?hn ?_); (case hx => simp only [zC, zD, ev, lget]; (try rfl)); (case hi => rfl); (case hv => simp [Value.cells]); (case hn => decide); simp only [List.flatMap_cons, List.flatMap_nil, Value.cells, List.cons_append, List.nil_append]); intro _ _ _ _ _ _ _; (conv => arg 5; simp only [zA, zB, ev, lget, zC, zD, zE, zF, zG, zH, zI, zJ, zK, zL, zM, zN, zO])) | ((with_reducible refine' l_call TFn.ent ?ha ?_); (case ha => simp only [zC, zD, ev, lget]; (try rfl))))
  rename_i g5 w5 p5 p6 hb5 e5 z5
  have e5s : Evt (fun _ => False) wS ws := Evt.next evs (Evt.next e5 evq (fun _ _ h => h)) (fun _ _ h => h)
  have ks : Evt F wB ws := Evt.next e5s kS (fun _ _ h => h.elim)
  have hXs := hXS.evt e5s (fun h => h)
  have hOs := hOS.evt e5s (fun h => h)
  have hRs := hRS.evt e5s (fun h => h)
  have hUs := hUS.evt e5s (fun h => h)
  have hos := own_evt e5s hoS (fun _ _ h => h)
  have hops := hopS.evt e5s (fun _ _ _ h => h) (fun _ h => h)
  have hrefs := hrefS.up e5s
  have hB2s := hB2.up e5s
  have hF2l := hB2.lt
  have zSs := e5s.size
  have nF2 : ∀ k, w.heap.size ≤ k → k < wA.heap.size → ¬ F2 k := fun k hk hk2 hh => by
    rcases hF2 k hh with h1 | h1
    · exact nF k hk h1
    · omega
  obtain ⟨cur0, hcur0, hcl0⟩ : ∃ cur, Blk ws bA 5 cur ∧ cur.length = dA := by
    rcases own_blk_of hos with ⟨h1, _⟩ | ⟨g', cap, cur, h1, hb, _, hl, _⟩
    · simp at h1
    · simp only [Value.slice.injEq, Option.some.injEq, Addr.mk.injEq] at h1
      obtain ⟨⟨rfl, _⟩, _, rfl⟩ := h1
      exact ⟨cur, hb, by simpa using hl⟩
  clear hXS hOS hRS hUS hoS hos hopS hrefS hB2 hb5 e5 evs evq e5s kS hsufS
  refine stop_go ?_
  repeat' (first | (with_reducible (first | refine' wp_region_lit ?_ | refine' wpList_nil ?_ | refine' then_normal ?_ | refine' wp_block ?_)) | ((with_reducible refine' l_step ?_); ((with_reducible refine' g_assign ?_); (conv => arg 5; simp only [zA, zB, ev, lget, zC, zD, zE, zF, zG, zH, zI, zJ, zK, zL, zM, zN, zO]))))
  refine' s_loop [16, 65, 66, 67, 68, 69, 70, 71, 72, 73, 74] (fun n u w' => ∃ (i : Nat) (cur : List Value), n = o.body.length - i ∧ i ≤ o.body.length ∧ u 16 = .int .i64 i ∧ Blk w' bA 5 cur ∧ cur.length = dA ∧ Evt (fun k => k = bA) ws w') o.body.length ?h0 ?round
  case h0 => exact ⟨0, cur0, rfl, by omega, rfl, hcur0, hcl0, Evt.refl _ _⟩
  case round =>
    rintro n u w6 ⟨i, cur, rfl, hi, h16, hb6, hcl6, ev6⟩
    simp only [setW, List.foldl_cons, List.foldl_nil, List.set_cons_succ, List.set_cons_zero]
    simp only [h16]
    have z6 := ev6.size
    by_cases hlt : i < o.body.length
    · clear hXs hOs hRs hUs hcur0
      repeat' (first | (with_reducible (first | refine' wp_seq ?_ | refine' wp_region_lit ?_ | refine' wpList_nil ?_ | refine' then_normal ?_ | refine' wp_block ?_ | refine' wp_skip ?_ | refine' in_normal ?_)) | ((with_reducible refine' c_condT ?hx ?_); (case hx => rfl)) | ((with_reducible refine' l_step ?_); (first | ((first | (with_reducible refine' g_move ?_) | (with_reducible refine' g_assign ?_) | ((with_reducible refine' g_addN ?hx ?hy ?h0 ?h1 ?_); (case hx => rfl); (case hy => rfl); (case h0 => omega); (case h1 => omega)) | ((with_reducible refine' g_lenS ?hx ?_); (case hx => rfl)) | ((with_reducible refine' g_indexAddr ?hx ?hy ?h0 ?h1 ?_); (case hx => rfl); (case hy => rfl); (case h0 => omega); (case h1 => omega))); (conv => arg 5; simp only [zA, zB, ev, lget, zC, zD, zE, zF, zG, zH, zI, zJ, zK, zL, zM, zN, zO])) | (((with_reducible refine' g_lss ?hx ?hy (fun _ => ?_) (fun _ => ?_)); (case hx => rfl)); (case hy => rfl); all_goals (first | (exfalso; omega) | (conv => arg 5; simp only [zA, zB, ev, lget, zC, zD, zE, zF, zG, zH, zI, zJ, zK, zL, zM, zN, zO]))))) | ((first | ((with_reducible refine' e_storeB ?hx ?hy ?hv ?h1 ?hb ?ho ?_); (case hx => rfl); (case hy => ((try simp only [ev, lget]); (try rfl))); (case hv => rfl); (case h1 => rfl)) | ((with_reducible refine' e_storeR ?hx ?hy ?h1 ?hb ?hn ?ho ?_); (case hx => rfl); (case hy => rfl); (case h1 => simp [Value.oneCell']); (case hn => rfl))); (case hb => exact bqq); (case ho => first | (simp only [List.length_cons, List.length_nil]; omega) | omega | (simp; omega) | simp); (try simp only [splice, zA, zB]); intro _ _ _ _))
      rename_i w7 hb7 e7 z7
      exact ⟨_, _, rfl, (by omega : o.body.length - (i + 1) < o.body.length - i), by simp only [zA, zB], i + 1, _, rfl, by omega, rfl, hb7, by rw [List.length_set]; exact hcl6, Evt.next e7 ev6 (fun _ _ h => h)⟩
    · obtain rfl : i = o.body.length := by omega
      have hX6 := hXs.evt ev6 (by omega)
      have hO6 := hOs.evt ev6 (by omega)
      have hR6 := hRs.evt ev6 (by omega)
      have hU6 := hUs.evt ev6 (by omega)
      have hop6 : RC w6 o.A (u8s o.body) := (hops.evt ev6 (fun k _ hk hh => by have h' : k = bA := hh; have := (hH k hk).2; omega) (fun _ h => h)).rc
      have href6 := hrefs.evt ev6 (fun k _ hk hh => by have h' : k = bA := hh; exact nG k (by omega) hk) (fun _ h => h)
      have hB6 := hB2s.evt ev6 (fun k hk hh => by have h' : k = bA := hh; subst h'; exact nF2 k (by omega) (by omega) hk) (fun _ h => h) (fun k hk => by have := hF2l k hk; omega)
      have k6 : Evt (fun k => F k ∨ wB.heap.size ≤ k) wB w6 := Evt.next (ev6.mono fun k _ hk => .inr (by have h' : k = bA := hk; omega)) (ks.mono fun _ _ h => .inl h) (fun _ _ h => h)
      clear hXs hOs hRs hUs hops hrefs hB2s ks ev6 hcur0 hb6
      repeat' (first | (go_at_call 39; refine (refAdd_r G A c _ rs o.id o.now o.body o.A o.c _ href6 rfl (by omega) hop6 (by omega)).mono ?_; rw [hcd]; rintro e wV ⟨A', c', rs', rfl, hpV, hgV, evV⟩; have zV_ := evV.size; refine ⟨_, rfl, ?_⟩; (conv => arg 5; simp only [zA, zB, ev, lget, zC, zD, zE, zF, zG, zH, zI, zJ, zK, zL, zM, zN, zO])) | (with_reducible refine' stop_reg (id := 16) ?_) | (with_reducible (first | refine' wp_seq ?_ | refine' wp_region_lit ?_ | refine' wpList_nil ?_ | refine' then_normal ?_ | refine' wp_exit ?_ | refine' then_exit ?_ | refine' in_exit ?_)) | ((with_reducible refine' c_condF ?hx ?_); (case hx => rfl)) | ((with_reducible refine' l_step ?_); (first | ((first | (with_reducible refine' g_move ?_) | (with_reducible refine' g_assign ?_) | ((with_reducible refine' g_fieldAddr ?hx ?ho ?_); (case hx => rfl); (case ho => rfl)) | ((first | (with_reducible refine' g_loadB ?hx ?hb ?hc ?_) | (with_reducible refine' g_loadS ?hx ?hb ?hn ?_)); (case hx => rfl); (case hb => exact bqq); first | (case hc => rfl) | (case hn => simp only [List.length_cons, List.length_nil]; omega)) | ((with_reducible refine' g_lenS ?hx ?_); (case hx => rfl)) | ((with_reducible refine' g_extract ?hx ?hv ?_); (case hx => rfl); (case hv => rfl))); (conv => arg 5; simp only [zA, zB, ev, lget, zC, zD, zE, zF, zG, zH, zI, zJ, zK, zL, zM, zN, zO])) | (((with_reducible refine' g_lss ?hx ?hy (fun _ => ?_) (fun _ => ?_)); (case hx => rfl)); (case hy => rfl); all_goals (first | (exfalso; omega) | (conv => arg 5; simp only [zA, zB, ev, lget, zC, zD, zE, zF, zG, zH, zI, zJ, zK, zL, zM, zN, zO]))))) | ((first | ((with_reducible refine' e_storeB ?hx ?hy ?hv ?h1 ?hb ?ho ?_); (case hx => rfl); (case hy => ((try simp only [ev, lget]); (try rfl))); (case hv => rfl); (case h1 => rfl)) | ((with_reducible refine' e_storeR ?hx ?hy ?h1 ?hb ?hn ?ho ?_); (case hx => rfl); (case hy => rfl); (case h1 => simp [Value.oneCell']); (case hn => rfl))); (case hb => exact bqq); (case ho => first | (simp only [List.length_cons, List.length_nil]; omega) | omega | (simp; omega) | simp); (try simp only [splice, zA, zB]); intro _ _ _ _) | ((with_reducible refine' l_call TFn.ent ?ha ?_); (case ha => simp only [zC, zD, ev, lget]; (try rfl))))
      rename_i wM hXM evM zM_
      have hS' : St wV F2 (Gn G w6 wV) gb (n + 1) p A' rs' := {
        box := ⟨L2, hB6.up evV, by rw [hL2, hpV], by omega⟩
        ref := hgV
        bln := fun e he => by
          rw [hpV] at he
          rcases addP_bod e he with h1 | h1
          · exact hS.bln e h1
          · rw [h1]
            exact hbl
        fg := fun k hk hh => by
          have h2 := hF2l k hk
          rcases hh with h1 | h1
          · have h3 := hS.gl k h1
            rcases hF2 k hk with h4 | h4
            · exact hS.fg k h4 h1
            · omega
          · omega
        gl := fun k hk => by
          rcases hk with h1 | h1
          · have := hS.gl k h1
            omega
          · omega }
      have kV : Evt (fun k => F k ∨ wB.heap.size ≤ k) wB wV := Evt.next evV k6 (fun _ _ h => h.elim)
      have hRV := hR6.evt evV (fun h => h)
      have hUV := hU6.evt evV (fun h => h)
      clear hB6 hgV href6 hop6 k6 evV hR6 hU6 hO6 hX6
      refine stop_go ?_
      repeat' (first | (with_reducible (first | refine' wp_region_lit ?_ | refine' wpList_nil ?_ | refine' then_normal ?_ | refine' wp_ret ?_ | refine' then_ret ?_ | refine' in_ret ?_)) | ((with_reducible refine' b_retN ?hr ?h2 ?ha ?_); (case hr => rfl); (case h2 => decide); (case ha => first | exact ra_nil | ((first | ((with_reducible refine' ra_tmp ?rv3 ?rh3); (case rv3 => ((try simp only [ev, lget]); (try rfl)))) | ((with_reducible refine' ra_cell ?rp3 ?rt3 ?rq3 ?rn3 ?rh3); (case rp3 => rfl); (case rt3 => infer_instance); (case rq3 => exact bqq); (case rn3 => rfl))); (case rh3 => first | exact ra_nil | ((first | ((with_reducible refine' ra_tmp ?rv2 ?rh2); (case rv2 => ((try simp only [ev, lget]); (try rfl)))) | ((with_reducible refine' ra_cell ?rp2 ?rt2 ?rq2 ?rn2 ?rh2); (case rp2 => rfl); (case rt2 => infer_instance); (case rq2 => exact bqq); (case rn2 => rfl))); (case rh2 => first | exact ra_nil | ((first | ((with_reducible refine' ra_tmp ?rv1 ?rh1); (case rv1 => ((try simp only [ev, lget]); (try rfl)))) | ((with_reducible refine' ra_cell ?rp1 ?rt1 ?rq1 ?rn1 ?rh1); (case rp1 => rfl); (case rt1 => infer_instance); (case rq1 => exact bqq); (case rn1 => rfl))); (case rh1 => first | exact ra_nil)))))))) | ((with_reducible refine' l_step ?_); (first | ((first | (with_reducible refine' g_move ?_) | (with_reducible refine' g_assign ?_) | ((with_reducible refine' g_loadS ?hx ?hb ?hn ?_); (case hx => rfl); (case hb => exact bqq); first | (case hc => rfl) | (case hn => simp only [List.length_cons, List.length_nil]; omega)) | ((with_reducible refine' g_pickT ?hx ?_); (case hx => rfl))); (conv => arg 5; simp only [zA, zB, ev, lget, zC, zD, zE, zF, zG, zH, zI, zJ, zK, zL, zM, zN, zO])) | (((with_reducible refine' g_eql ?hx ?hy (fun _ => ?_) (fun _ => ?_)); (case hx => rfl)); (case hy => rfl); all_goals (first | (exfalso; omega) | (conv => arg 5; simp only [zA, zB, ev, lget, zC, zD, zE, zF, zG, zH, zI, zJ, zK, zL, zM, zN, zO]))) | ((with_reducible refine' g_build ?hl ?hp ?hs ?_); (case hl => rfl); (case hp => rfl); (case hs => rfl); (conv => arg 5; simp only [zA, zB, ev, lget, zC, zD, zE, zF, zG, zH, zI, zJ, zK, zL, zM, zN, zO, fillL, splice, List.getD_cons_zero, List.getD_cons_succ, Value.cells])))) | ((with_reducible refine' l_on ?hw ?_); (case hw => rfl)) | ((first | ((with_reducible refine' e_storeB ?hx ?hy ?hv ?h1 ?hb ?ho ?_); (case hx => rfl); (case hy => ((try simp only [ev, lget]); (try rfl))); (case hv => rfl); (case h1 => rfl)) | ((with_reducible refine' e_storeR ?hx ?hy ?h1 ?hb ?hn ?ho ?_); (case hx => rfl); (case hy => rfl); (case h1 => simp [Value.oneCell']); (case hn => rfl))); (case hb => exact bqq); (case ho => first | (simp only [List.length_cons, List.length_nil]; omega) | omega | (simp; omega) | simp); (try simp only [splice, zA, zB]); intro _ _ _ _))
      all_goals try (exact absurd rfl (by assumption : cd ≠ cd))
      rename_i w8 h8 e8 z8 w9 h9 e9 z9
      have ev9 : Evt (fun k => k = gX ∨ k = gR ∨ k = gU) wV w9 := Evt.next (e9.mono fun _ _ h => .inr (.inr h)) (Evt.next (e8.mono fun _ _ h => .inr (.inl h)) (evM.mono fun _ _ h => .inl h) (fun _ _ h => h)) (fun _ _ h => h)
      refine ⟨F2, _, n + 1, A', c', rs', none, 0, [], ⟨0, none, 0, []⟩, rfl, step_fin0 (hS'.evt ev9 (fun k hk hh => ?_) (fun k hk hh => ?_)) (by omega) (fun k hk => ?_) (fun k hk => ?_) (fun k hk => .inl hk) (kEv (S := fun k => F k ∨ wB.heap.size ≤ k ∨ k = gX ∨ k = gR ∨ k = gU) (Evt.next (ev9.mono fun _ _ h => .inr (.inr h)) (kV.mono fun k _ h => by rcases h with h | h; exact .inl h; exact .inr (.inl h)) (fun _ _ h => h)) (fun k hk hh => ?_))⟩
      · rcases hh with rfl | rfl | rfl
        · exact nF2 _ (by omega) (by omega) hk
        · exact nF2 _ (by omega) (by omega) hk
        · exact nF2 _ (by omega) (by omega) hk
      · rcases hk with h1 | h1
        · have := hS.gl k h1
          omega
        · omega
      · rcases hF2 k hk with h1 | h1
        · exact .inl h1
        · exact .inr (by omega)
      · rcases hk with h1 | h1
        · exact .inl h1
        · exact .inr (by omega)
      · rcases hh with h1 | h1
        · exact h1
        · omega
end Go.Proofs.Ytchfkkliechgoaa
