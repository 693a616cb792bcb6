/- A step on both boxes: Pending. SHORT NORMX -/
import Derived.Test.YtchfkkliechgoaaStp17c
namespace Go.Proofs.Ytchfkkliechgoaa
open Go.RowKit Go.Proofs.YtchfkkliechgoaaE
set_option linter.unusedSimpArgs false
set_option linter.unusedVariables false
set_option maxRecDepth 4000

theorem splice_get : ∀ (vs cs : List Value) (o m : Nat), o + vs.length ≤ m → (splice cs o vs)[m]? = cs[m]?
  | [], _, _, _, _ => rfl
  | v :: vs, cs, o, m, h => by
    rw [List.length_cons] at h
    rw [splice, splice_get vs _ _ _ (by omega), List.getElem?_set, if_neg (by omega)]
set_option maxRecDepth 20000 in
set_option maxHeartbeats 8000000 in
theorem step4_any (F G : Nat → Prop) (gb n : Nat) (p : Pol) (Ap : Option Addr) (cp : Nat) (A : Option Addr) (c : Nat) (rs : List Nt) (o : Opr) (mark : Int) (w : World) (hS : St w F G gb n p A rs) (hn : n ≤ 1048576) (hk : o.kind = 4) :
    Calls Try.prog 29 #[.agg (polC p Ap cp).toArray, .agg (prC gb A rs.length c).toArray, .agg (opC o).toArray, .int .u8 mark] w fun e w' => ∃ F' G' n' A' c' rs' B cB bs ls, e = .returned (.tuple #[.agg (prC gb A' rs'.length c').toArray, .bool true, .agg #[.slice B (bs : List Bd).length cB, lsV ls]]) ∧ StepAt w w' F G gb n p mark F' G' n' A' rs' B bs ls := by
  go_enter Try.func29, Try.ntmps29
  repeat' (first | (with_reducible refine' stop_reg (id := 1) ?_) | (with_reducible (first | refine' wp_seq ?_ | refine' wp_region_lit ?_ | refine' wpList_nil ?_ | refine' then_normal ?_)) | ((with_reducible refine' l_step ?_); ((with_reducible refine' g_assign ?_); (conv => arg 5; simp only [zA, zB, ev, lget, zC, zD, zE, zF, zG, zH, zI, zJ, zK, zL, zM, zN, zO]))) | ((first | ((with_reducible refine' e_boxA ?hx ?_); (case hx => rfl)) | ((with_reducible refine' e_alloc ?hx ?_); (case hx => rfl))); intro _ _ _ _ _ _ _; (conv => arg 5; simp only [zA, zB, ev, lget, zC, zD, zE, zF, zG, zH, zI, zJ, zK, zL, zM, zN, zO])))
  rename_i gP wa a1 a2 hP0 ea za_ gX wb b1 b2 hX0 eb zb_ gO wc c1 c2 hO0 ec zc_ gR wd d1 d2 hR0 ed zd_ gU wB u1 u2 hU eu zu_
  have evB : Evt (fun _ => False) w wB := Evt.next eu (Evt.next ed (Evt.next ec (Evt.next eb ea (fun _ _ h => h)) (fun _ _ h => h)) (fun _ _ h => h)) (fun _ _ h => h)
  have hR := hR0.evt eu (fun h => h)
  have hO := (hO0.evt ed (fun h => h)).evt eu (fun h => h)
  have hX := ((hX0.evt ec (fun h => h)).evt ed (fun h => h)).evt eu (fun h => h)
  have hP := (((hP0.evt eb (fun h => h)).evt ec (fun h => h)).evt ed (fun h => h)).evt eu (fun h => h)
  have hSB := hS.up evB
  have nF : ∀ k, w.heap.size ≤ k → ¬ F k := fun k hk hh => by have := hS.fl k hh; omega
  have nG : ∀ k, w.heap.size ≤ k → ¬ G k := fun k hk hh => by have := hS.gl k hh; omega
  have fP : ¬ F gP := nF gP (by omega)
  have fX : ¬ F gX := nF gX (by omega)
  have fO : ¬ F gO := nF gO (by omega)
  have fR : ¬ F gR := nF gR (by omega)
  have fU : ¬ F gU := nF gU (by omega)
  have kEv : ∀ {S : Nat → Prop} {w' : World}, Evt S wB w' → (∀ k, k < w.heap.size → S k → F k) → Evt F w w' := fun he hs => Evt.next he (evB.mono fun _ _ h => h.elim) hs
  clear hP0 hX0 hO0 hR0 ea eb ec ed eu
  clear evB
  refine stop_go ?_
  repeat' (first | (with_reducible refine' stop_reg (id := 34) ?_) | (with_reducible (first | refine' wp_seq ?_ | refine' wp_region_lit ?_ | refine' wpList_nil ?_ | refine' then_normal ?_ | refine' wp_block ?_)) | ((with_reducible refine' c_condT ?hx ?_); (case hx => rfl)) | ((with_reducible refine' c_condF ?hx ?_); (case hx => rfl)) | ((with_reducible refine' l_step ?_); (first | ((first | (with_reducible refine' g_assign ?_) | ((with_reducible refine' g_fieldAddr ?hx ?ho ?_); (case hx => rfl); (case ho => rfl)) | ((with_reducible refine' g_loadB ?hx ?hb ?hc ?_); (case hx => rfl); (case hb => exact bqq); first | (case hc => rfl) | (case hn => simp only [List.length_cons, List.length_nil]; omega))); (conv => arg 5; simp only [zA, zB, ev, lget, zC, zD, zE, zF, zG, zH, zI, zJ, zK, zL, zM, zN, zO])) | (((with_reducible refine' g_eql ?hx ?hy (fun _ => ?_) (fun _ => ?_)); (case hx => rfl)); (case hy => rfl); all_goals (first | (exfalso; omega) | (conv => arg 5; simp only [zA, zB, ev, lget, zC, zD, zE, zF, zG, zH, zI, zJ, zK, zL, zM, zN, zO]))))))
  obtain ⟨L, hB, hLp, hLn⟩ := hSB.box
  have hrl := hS.rl
  have hrefB := hSB.ref
  refine stop_go ?_
  repeat' (first | (with_reducible refine' stop_reg (id := 35) ?_) | (go_at_call 20; refine (pending_any _ F gb n p L (hB.up (by exact eqq)) (by omega)).mono ?_; rintro e wD ⟨VG, dG, k1, rfl, hkD, hoG, hnG, hOB, evD⟩; have zD_ := evD.size; refine ⟨_, rfl, ?_⟩; (conv => arg 5; simp only [zA, zB, ev, lget, zC, zD, zE, zF, zG, zH, zI, zJ, zK, zL, zM, zN, zO])) | (with_reducible (first | refine' wp_seq ?_ | refine' wp_region_lit ?_ | refine' wpList_nil ?_ | refine' then_normal ?_)) | ((with_reducible refine' l_step ?_); ((first | (with_reducible refine' g_assign ?_) | ((with_reducible refine' g_fieldAddr ?hx ?ho ?_); (case hx => rfl); (case ho => rfl)) | ((with_reducible refine' g_loadB ?hx ?hb ?hc ?_); (case hx => rfl); (case hb => exact bqq); first | (case hc => rfl) | (case hn => simp only [List.length_cons, List.length_nil]; omega))); (conv => arg 5; simp only [zA, zB, ev, lget, zC, zD, zE, zF, zG, zH, zI, zJ, zK, zL, zM, zN, zO]))) | ((with_reducible refine' l_call TFn.ent ?ha ?_); (case ha => simp only [zC, zD, ev, lget]; (try rfl))))
  refine stop_go ?_
  repeat' (first | (with_reducible refine' stop_reg (id := 36) ?_) | (go_at_call 20; refine (pending_any _ F gb n p L (hB.up (by exact eqq)) (by omega)).mono ?_; rintro e wT ⟨VT, dT, k2, rfl, hkT, hoT, hnT, hOT, evT⟩; have zT_ := evT.size; refine ⟨_, rfl, ?_⟩; (conv => arg 5; simp only [zA, zB, ev, lget, zC, zD, zE, zF, zG, zH, zI, zJ, zK, zL, zM, zN, zO])) | (with_reducible (first | refine' wp_seq ?_ | refine' wp_region_lit ?_ | refine' wpList_nil ?_ | refine' then_normal ?_)) | ((with_reducible refine' l_step ?_); ((first | (with_reducible refine' g_assign ?_) | ((with_reducible refine' g_fieldAddr ?hx ?ho ?_); (case hx => rfl); (case ho => rfl)) | ((with_reducible refine' g_loadB ?hx ?hb ?hc ?_); (case hx => rfl); (case hb => exact bqq); first | (case hc => rfl) | (case hn => simp only [List.length_cons, List.length_nil]; omega))); (conv => arg 5; simp only [zA, zB, ev, lget, zC, zD, zE, zF, zG, zH, zI, zJ, zK, zL, zM, zN, zO]))) | ((with_reducible refine' l_call TFn.ent ?ha ?_); (case ha => simp only [zC, zD, ev, lget]; (try rfl))))
  rw [hLp] at hkD hkT
  have hk1l : k1.length ≤ n := by
    have h1 := congrArg List.length hkD
    rw [List.length_map, List.length_map] at h1
    omega
  have hk2l : k2.length = k1.length := by
    have h1 := congrArg List.length (hkT.trans hkD.symm)
    simpa using h1
  have hbl : ∀ (ks : List Nt), ks.map ntP = rs.map ntP → ∀ x ∈ ks, x.b.body.length ≤ 1048576 := fun ks hks x hx => by
    have h1 : ntP x ∈ ks.map ntP := List.mem_map.2 ⟨x, hx, rfl⟩
    rw [hks] at h1
    exact hS.bln _ h1
  have hb1 := hbl k1 hkD
  have hb2 := hbl k2 hkT
  have hbr := hbl rs rfl
  have evBT : Evt (fun _ => False) wB wT := Evt.next evT evD (fun _ _ h => h)
  have hXT := hX.evt evBT (fun h => h)
  have hRT := hR.evt evBT (fun h => h)
  have hUT := hU.evt evBT (fun h => h)
  have hBT := hB.up evBT
  have hgT := hrefB.up evBT
  have hoGT := own_evt evT hoG (fun _ _ h => h)
  have hOBT : OB wT wB.heap.size (k1.map (·.b)) := hOB.evt evT (fun _ _ _ _ h => h) (Nat.le_refl _)
  have hltD := own_lt hoG
  have hOlt : ∀ m ∈ k1.map (·.b), ∀ k, (bdV m).ownBlock = some k → k < wD.heap.size := hOB.lt
  have hntG : NtAt wT VG k1 := ntAt_own (lo := wB.heap.size) hoGT hOBT
  clear hP hO hR hU hX hSB hB hrefB hoG hOB evT evD hbl
  refine stop_go ?_
  repeat' (first | (go_at_call 28; refine (pendings_any VG A dG c _ _ k1 rs _ (hntG.up (by exact eqq)) (hgT.nt.up (by exact eqq)) rfl rfl (by omega) (by omega) (fun x hx => by have := hb1 x hx; omega) (fun x hx => by have := hbr x hx; omega)).mono ?_; rw [decide_eq_true hkD]; rintro e wK ⟨rfl, evK⟩; have zK_ := evK.size; refine ⟨_, rfl, ?_⟩; (conv => arg 5; simp only [zA, zB, ev, lget, zC, zD, zE, zF, zG, zH, zI, zJ, zK, zL, zM, zN, zO])) | (with_reducible (first | refine' wp_seq ?_ | refine' wp_region_lit ?_ | refine' wpList_nil ?_ | refine' then_normal ?_ | refine' wp_block ?_)) | ((with_reducible refine' l_step ?_); ((first | (with_reducible refine' g_move ?_) | (with_reducible refine' g_assign ?_) | ((with_reducible refine' g_fieldAddr ?hx ?ho ?_); (case hx => rfl); (case ho => rfl)) | ((with_reducible refine' g_loadB ?hx ?hb ?hc ?_); (case hx => rfl); (case hb => exact bqq); first | (case hc => rfl) | (case hn => simp only [List.length_cons, List.length_nil]; omega))); (conv => arg 5; simp only [zA, zB, ev, lget, zC, zD, zE, zF, zG, zH, zI, zJ, zK, zL, zM, zN, zO]))) | ((with_reducible refine' l_call TFn.ent ?ha ?_); (case ha => simp only [zC, zD, ev, lget]; (try rfl))))
  have hXK := hXT.evt evK (fun h => h)
  have hRK := hRT.evt evK (fun h => h)
  have hUK := hUT.evt evK (fun h => h)
  have hgK := hgT.up evK
  have hBK := hBT.up evK
  have hoGK := own_evt evK hoGT (fun _ _ h => h)
  have hOBK : OB wK wB.heap.size (k1.map (·.b)) := hOBT.evt evK (fun _ _ _ _ h => h) (Nat.le_refl _)
  have hoTK := own_evt evK hoT (fun _ _ h => h)
  have hOTK : OB wK wD.heap.size (k2.map (·.b)) := hOT.evt evK (fun _ _ _ _ h => h) (Nat.le_refl _)
  have kK : Evt (fun _ => False) wB wK := Evt.next evK evBT (fun _ _ h => h)
  have hltK := own_lt hoGK
  clear hXT hRT hUT hgT hBT hoGT hOBT hoT hOT evBT hntG evK
  refine' s_loop [11, 27, 178, 179, 180, 181, 182, 183, 184, 185, 186, 187, 188, 189, 190, 191, 192, 193, 194, 195] (fun m u w' => ∃ (i : Nat) (V : Option Addr) (d : Nat), m = k1.length - i ∧ i ≤ k1.length ∧ u 27 = .int .i64 i ∧ u 11 = .slice V i d ∧ w'.ownsRow 0 28 1 (.slice V i d) i (bdCs ((k1.take i).map (·.b))) ∧ (∀ k, (Value.slice V i d).ownBlock = some k → wK.heap.size ≤ k) ∧ (∀ g, (Value.slice VG k1.length dG).ownBlock = some g → ∃ cur, VG = some ⟨g, 0, none⟩ ∧ Blk w' g 53 cur ∧ cur.length = dG * 4 ∧ ∀ j (hj : j < k1.length), i ≤ j → cur[j * 4 + 3]? = some (bdV k1[j].b)) ∧ Evt (fun k => (Value.slice VG k1.length dG).ownBlock = some k) wK w') k1.length ?h0 ?round
  case h0 =>
    refine ⟨0, none, 0, rfl, by omega, rfl, rfl, World.ownsRow_nil _ _ _ _, by simp [Value.ownBlock], fun g hg => ?_, Evt.refl _ _⟩
    rcases Nat.eq_zero_or_pos k1.length with h0 | h0
    · rcases own_blk_of hoGK with ⟨h1, _⟩ | ⟨g', cap, cur, h1, hb, ht, hl, _⟩
      · rw [h1] at hg
        simp [Value.ownBlock] at hg
      · simp only [Value.slice.injEq] at h1
        obtain ⟨rfl, _, rfl⟩ := h1
        simp only [Value.ownBlock, Option.some.injEq] at hg
        subst hg
        exact ⟨cur, rfl, hb, hl, fun j hj _ => by omega⟩
    · obtain ⟨g', cur, hA, hob, hb, ht, hl, _⟩ := own_some hoGK h0
      rw [hob] at hg
      obtain rfl := Option.some.inj hg
      refine ⟨cur, hA, hb, hl, fun j hj _ => ?_⟩
      have h1 : (ntCs k1)[j * 4 + 3]? = some (bdV k1[j].b) := flat_at (f := ntC) (sz := 4) (fun _ => rfl) k1 j 3 _ _ (List.getElem?_eq_getElem hj) rfl
      rw [← ht, List.getElem?_take] at h1
      split at h1
      · exact h1
      · cases h1
  case round =>
    rintro m u w6 ⟨i, V, d, rfl, hi, h27, h11, hoV, hnV, hG6, ev6⟩
    simp only [setW, List.foldl_cons, List.foldl_nil, List.set_cons_succ, List.set_cons_zero]
    simp only [h27, h11]
    have z6 := ev6.size
    by_cases hlt : i < k1.length
    · obtain ⟨gG, cur0, hA, hobG, _, _, _, hc1, _⟩ := own_some hoGK (by omega)
      obtain ⟨cur, _, hbG, hlG, hcj⟩ := hG6 gG hobG
      subst hA
      have hcb : w6.cell? ⟨gG, i * 4 + 3, none⟩ = some (bdV k1[i].b) := by
        rw [hbG.cell?]
        exact hcj i hlt (Nat.le_refl _)
      have htk : (k1.take (i + 1)).map (·.b) = (k1.take i).map (·.b) ++ [k1[i].b] := by rw [List.take_succ_eq_append_getElem hlt, List.map_append]; rfl
      have hcl : i * 4 + 4 ≤ cur.length := by omega
      have hltV := own_lt hoV
      have hbG2 := hbG.lt
      have hgK2 := hltK gG hobG
      have hnGV : ¬ (Value.slice V i d).ownBlock = some gG := fun hh => by
        have h1 := hnV gG hh
        omega
      have hlater : ∀ (vs : List Value), vs.length = 4 → ∀ j (hj : j < k1.length), i + 1 ≤ j → (splice cur (i * 4) vs)[j * 4 + 3]? = some (bdV k1[j].b) := fun vs hv j hj hij => by
        rw [splice_get _ _ _ _ (by omega)]
        exact hcj j hj (by omega)
      have hsl : ∀ vs, (splice cur (i * 4) vs).length = dG * 4 := fun vs => by rw [splice_length]; exact hlG
      clear hXK hRK hUK hgK hBK hoGK hOBK hoTK hOTK hG6
      generalize k1[i].b = xb at *
      repeat' (first | (((with_reducible refine' e_append ?hx ?hy ?hzs ?hsz ?hown ?hl ?hnews ?h1 ?hb ?hm ?_); (case hx => ((try simp only [ev, lget]); (try rfl))); (case hy => rfl); (case hzs => rfl); (case hsz => decide); (case hown => exact oqq); (case hnews => refine' blk_src ?hbb; (case hbb => exact bqq)); (case hl => rfl); (case h1 => simp [Value.oneCell']); (case hb => omega); (case hm => omega); intro vA wA hoA heA hnA haA hzA; (conv => arg 5; simp only [zA, zB, ev, lget, zC, zD, zE, zF, zG, zH, zI, zJ, zK, zL, zM, zN, zO])); have hlA := own_lt hoA; obtain ⟨VA, dA, hVA⟩ := own_slice hoA; subst hVA) | (with_reducible (first | refine' wp_seq ?_ | refine' wp_region_lit ?_ | refine' wpList_nil ?_ | refine' then_normal ?_ | refine' wp_block ?_ | refine' wp_skip ?_ | refine' in_normal ?_)) | ((with_reducible refine' c_condT ?hx ?_); (case hx => rfl)) | ((with_reducible refine' l_step ?_); (first | ((first | (with_reducible refine' g_move ?_) | (with_reducible refine' g_assign ?_) | ((with_reducible refine' g_fieldAddr ?hx ?ho ?_); (case hx => rfl); (case ho => rfl)) | ((with_reducible refine' g_loadC ?hx ?hc ?_); (case hx => rfl); (case hc => exact cqq)) | ((with_reducible refine' g_addN ?hx ?hy ?h0 ?h1 ?_); (case hx => rfl); (case hy => rfl); (case h0 => omega); (case h1 => omega)) | ((with_reducible refine' g_lenS ?hx ?_); (case hx => rfl)) | ((with_reducible refine' g_indexAddr ?hx ?hy ?h0 ?h1 ?_); (case hx => rfl); (case hy => rfl); (case h0 => omega); (case h1 => omega))); (conv => arg 5; simp only [zA, zB, ev, lget, zC, zD, zE, zF, zG, zH, zI, zJ, zK, zL, zM, zN, zO])) | (((with_reducible refine' g_lss ?hx ?hy (fun _ => ?_) (fun _ => ?_)); (case hx => rfl)); (case hy => rfl); all_goals (first | (exfalso; omega) | (conv => arg 5; simp only [zA, zB, ev, lget, zC, zD, zE, zF, zG, zH, zI, zJ, zK, zL, zM, zN, zO]))) | ((with_reducible refine' g_build ?hl ?hp ?hs ?_); (case hl => rfl); (case hp => rfl); (case hs => rfl); (conv => arg 5; simp only [zA, zB, ev, lget, zC, zD, zE, zF, zG, zH, zI, zJ, zK, zL, zM, zN, zO, fillL, splice, List.getD_cons_zero, List.getD_cons_succ, Value.cells])))) | (((with_reducible refine' e_sliceLit ?hx ?hi ?hv ?hn ?_); (case hx => simp only [zC, zD, ev, lget]; (try rfl)); (case hi => rfl); (case hv => simp [Value.cells]); (case hn => decide); simp only [List.flatMap_cons, List.flatMap_nil, Value.cells, List.cons_append, List.nil_append]); intro _ _ _ _ _ _ _; (conv => arg 5; simp only [zA, zB, ev, lget, zC, zD, zE, zF, zG, zH, zI, zJ, zK, zL, zM, zN, zO])) | ((first | ((with_reducible refine' e_storeB ?hx ?hy ?hv ?h1 ?hb ?ho ?_); (case hx => rfl); (case hy => ((try simp only [ev, lget]); (try rfl))); (case hv => rfl); (case h1 => rfl)) | ((with_reducible refine' e_storeR ?hx ?hy ?h1 ?hb ?hn ?ho ?_); (case hx => rfl); (case hy => rfl); (case h1 => simp [Value.oneCell']); (case hn => rfl))); (case hb => exact bqq); (case ho => first | (simp only [List.length_cons, List.length_nil]; omega) | omega | (simp; omega) | simp); (try simp only [splice, zA, zB]); intro _ _ _ _))
      rename_i g4 w4 q1 q2 hb4 e4 z4 w5 hb5 e5 z5
      have hlo := new_low (B := wK.heap.size) haA hnV (by omega)
      have ev6A : Evt (fun k => (Value.slice V i d).ownBlock = some k) w6 wA := Evt.next heA (e4.mono fun _ _ h => h.elim) (fun _ _ h => h)
      have hoV5 := own_evt e5 hoA (fun k hk hh => by have h1 := hlo k hk; have h' : k = gG := hh; omega)
      have hb5' : Blk w5 gG 53 (splice cur (i * 4) [.int .i64 (-6), .int .i64 0, .int .i64 0, .slice none 0 0]) := hb5
      exact ⟨_, _, rfl, (by omega : k1.length - (i + 1) < k1.length - i), by simp only [zA, zB], i + 1, VA, dA, rfl, by omega, rfl, rfl, by rw [htk, bdCs_snoc]; exact hoV5, hlo, fun g hg => by
        rw [hobG] at hg
        obtain rfl := Option.some.inj hg
        exact ⟨_, rfl, hb5', hsl _, hlater _ rfl⟩, Evt.next e5 (Evt.next ev6A ev6 (fun k hk hh => by have := hnV k hh; omega)) (fun k hk hh => by have h' : k = gG := hh; rw [h']; rfl)⟩
    · obtain rfl : i = k1.length := by omega
      rw [List.take_length] at hoV
      have hX6 := hXK.evt ev6 (fun hh => by have := hnG _ hh; omega)
      have hR6 := hRK.evt ev6 (fun hh => by have := hnG _ hh; omega)
      have hU6 := hUK.evt ev6 (fun hh => by have := hnG _ hh; omega)
      have hg6 := hgK.evt ev6 (fun k _ hk hh => by have h2 := hnG _ hh; have h1 := hS.gl k hk; omega) (fun _ h => h)
      have hB6 := hBK.evt ev6 (fun k hk hh => by have h1 := hS.fl k hk; have h2 := hnG _ hh; omega) (fun _ h => h) (fun k hk => by have := hS.fl k hk; omega)
      have hOB6 : OB w6 wB.heap.size (k1.map (·.b)) := hOBK.evt ev6 (fun k cur hk _ hh => by obtain ⟨cur', hc⟩ := own_typ hoGK k hh; exact Blk.ne hk hc (by decide) rfl) (Nat.le_refl _)
      have hoT6 := own_evt ev6 hoTK (fun k hk hh => by have h1 := hnT k hk; have h2 := hltD k hh; omega)
      have hOT6 : OB w6 wD.heap.size (k2.map (·.b)) := hOTK.evt ev6 (fun k cur hk _ hh => by obtain ⟨cur', hc⟩ := own_typ hoGK k hh; exact Blk.ne hk hc (by decide) rfl) (Nat.le_refl _)
      have k6 : Evt (fun k => wB.heap.size ≤ k) wB w6 := Evt.next (ev6.mono fun k _ hh => hnG _ hh) (kK.mono fun _ _ h => h.elim) (fun _ _ h => h)
      have hbl6 : (k1.map (·.b)).length = k1.length := List.length_map _
      have hbn6 : ∀ b ∈ k1.map (·.b), b.body.length ≤ 1048576 := fun b hb => by
        obtain ⟨x, hx, rfl⟩ := List.mem_map.1 hb
        exact hb1 x hx
      generalize hbs : k1.map (·.b) = bs at *
      have hLo : BdO w6 bs := ⟨hOB6.own, hOB6.dis, hbn6⟩
      have hrow6 : RC w6 V (bdCs bs) := own_rc hoV
      have hneV : ∀ b o, V = some ⟨b, o, none⟩ → ∀ m ∈ bs, ¬ (bdV m).ownBlock = some b := fun b o hV m hm hh => by
        subst hV
        obtain ⟨c1, hc1⟩ := own_typ hoV b rfl
        obtain ⟨c2, hc2⟩ := own_typ (hLo.own m hm) b hh
        exact Blk.ne hc1 hc2 (by decide) rfl
      have hlB : ∀ m ∈ bs, ∀ k, (bdV m).ownBlock = some k → wB.heap.size ≤ k := hOB6.low
      have hRb : ¬ ∃ m, m ∈ bs ∧ (bdV m).ownBlock = some gR := fun ⟨m, hm, h1⟩ => by
        have := hlB m hm _ h1
        omega
      have hUb : ¬ ∃ m, m ∈ bs ∧ (bdV m).ownBlock = some gU := fun ⟨m, hm, h1⟩ => by
        have := hlB m hm _ h1
        omega
      have hXb : ¬ ∃ m, m ∈ bs ∧ (bdV m).ownBlock = some gX := fun ⟨m, hm, h1⟩ => by
        have := hlB m hm _ h1
        omega
      have hSX : ¬ ((∃ m ∈ bs, (bdV m).ownBlock = some gX) ∨ gX = gR ∨ gX = gU) := fun hh => by
        rcases hh with h1 | h1
        · exact hXb h1
        · omega
      have hntT : ∀ w', Evt (fun k => ∃ m ∈ bs, (bdV m).ownBlock = some k) w6 w' → NtAt w' VT k2 := fun w' he => by
        have h1 := own_evt he hoT6 (fun k hk hh => by
          obtain ⟨m, hm, h2⟩ := hh
          have h3 := hnT k hk
          have h4 := hOlt m hm k h2
          omega)
        have h2 : OB w' wD.heap.size (k2.map (·.b)) := hOT6.evt he (fun k cur hk hlo hh => by
          obtain ⟨m, hm, h2⟩ := hh
          have h4 := hOlt m hm k h2
          omega) (Nat.le_refl _)
        exact ntAt_own (lo := wD.heap.size) h1 h2
      have hntR : ∀ w', Evt (fun k => ∃ m ∈ bs, (bdV m).ownBlock = some k) w6 w' → NtAt w' A rs := fun w' he => (hg6.evt he (fun k _ hk hh => by
        obtain ⟨m, hm, h2⟩ := hh
        have h3 := hlB m hm k h2
        have h4 := hS.gl k hk
        omega) (fun _ h => h)).nt
      clear hXK hRK hUK hgK hBK hoGK hOBK kK hOB6 ev6 hoTK hOTK hG6
      repeat' (first | ((with_reducible refine' w_tree (id := 42) (fun k => (∃ m ∈ bs, (bdV m).ownBlock = some k) ∨ k = gR ∨ k = gU) (.pure 0 (.pure 1 (.pure 2 (.pure 3 (.pure 4 (.pure 14 (.pure 15 (.one 5 (.pure 6 (.pure 7 (.pure 8 (.pure 9 (.pure 10 (.pure 11 (.one 12 (.pure 13 (.one 16 (.pure 17 (.one 18 .done))))))))))))))))))) [9, 196, 197, 198, 199, 200, 201, 202, 203, 204, 205, 206, 207, 208, 209, 210, 211] (fun u w' => u 9 = .bool true ∧ Blk w' gR 65 (prC gb A rs.length c) ∧ Blk w' gU 70 [.slice V bs.length d, .slice none 0 0] ∧ ∀ i (hi : i < bs.length), KB w' 5 bs[i].A bs[i].body.length bs[i].c (mkRow bs[i].body.length (mk8 mark i))) ?hm ?hn ?hl ?hB ?ta42 ?tb42); (case hm => kernel_rfl); (case hn => kernel_rfl); (case hl => kernel_rfl); (case hB => kernel_rfl); intro _ _ _) | ((with_reducible refine' tt_pure ?hi ?hv ?_); (case hi => rfl); (case hv => intro _ hqS; have hqz := hqS.size; (first | ((first | (with_reducible refine' g_move ?_) | (with_reducible refine' g_assign ?_) | ((with_reducible refine' g_loadS ?hx ?hb ?hn ?_); (case hx => rfl); (case hb => exact bqq); first | (case hc => rfl) | (case hn => simp only [List.length_cons, List.length_nil]; omega)) | ((with_reducible refine' g_pickT ?hx ?_); (case hx => rfl))); exact rfl) | ((with_reducible refine' g_build ?hl ?hp ?hs ?_); (case hl => rfl); (case hp => rfl); (case hs => rfl); exact rfl))); (conv => arg 6; simp only [zA, zB, ev, lget, zC, zD, zE, zF, zG, zH, zI, zJ, zK, zL, zM, zN, zO, fillL, splice, List.getD_cons_zero, List.getD_cons_succ, Value.cells])) | ((with_reducible refine' tt_on ?hi ?hw ?hv ?_); (case hi => rfl); (case hw => rfl); (case hv => intro _ hqS; have hqz := hqS.size; ((first | (with_reducible refine' g_move ?_) | ((with_reducible refine' g_fieldAddr ?hx ?ho ?_); (case hx => rfl); (case ho => rfl)) | ((with_reducible refine' g_loadB ?hx ?hb ?hc ?_); (case hx => rfl); (case hb => exact bqq); first | (case hc => rfl) | (case hn => simp only [List.length_cons, List.length_nil]; omega))); exact rfl)); (conv => arg 6; simp only [zA, zB, ev, lget, zC, zD, zE, zF, zG, zH, zI, zJ, zK, zL, zM, zN, zO, fillL, splice, List.getD_cons_zero, List.getD_cons_succ, Value.cells])) | ((with_reducible refine' tt_one ?hi ?_); (case hi => rfl)) | ((with_reducible refine' tt_done ?hS ?_); (case hS => exact eqq)) | (with_reducible refine' tt_nil ?_) | (go_at_call 42; refine (apart_r V d _ bs mark _ (hrow6.up (by exact eqq)) (hLo.up (by exact eqq)) hneV (by omega) (by omega)).mono ?_; rintro e wQ ⟨rfl, hKQ, evQ⟩; have zQ_ := evQ.size; refine ⟨_, rfl, ?_⟩; (conv => arg 5; simp only [zA, zB, ev, lget, zC, zD, zE, zF, zG, zH, zI, zJ, zK, zL, zM, zN, zO])) | (go_at_call 28; refine (pendings_any VT A dT c _ _ k2 rs _ (hntT _ (by exact eqq)) (hntR _ (by exact eqq)) rfl rfl (by omega) (by omega) (fun x hx => by have := hb2 x hx; omega) (fun x hx => by have := hbr x hx; omega)).mono ?_; rw [decide_eq_true hkT]; rintro e wY ⟨rfl, evY⟩; have zY_ := evY.size; refine ⟨_, rfl, ?_⟩; (conv => arg 5; simp only [zA, zB, ev, lget, zC, zD, zE, zF, zG, zH, zI, zJ, zK, zL, zM, zN, zO])) | (with_reducible (first | refine' wp_seq ?_ | refine' wp_region_lit ?_ | refine' wpList_nil ?_ | refine' then_normal ?_ | refine' wp_exit ?_ | refine' then_exit ?_ | refine' in_exit ?_)) | ((with_reducible refine' c_condF ?hx ?_); (case hx => rfl)) | ((with_reducible refine' l_step ?_); (first | ((first | (with_reducible refine' g_move ?_) | ((with_reducible refine' g_lenS ?hx ?_); (case hx => rfl))); (conv => arg 5; simp only [zA, zB, ev, lget, zC, zD, zE, zF, zG, zH, zI, zJ, zK, zL, zM, zN, zO])) | (((with_reducible refine' g_lss ?hx ?hy (fun _ => ?_) (fun _ => ?_)); (case hx => rfl)); (case hy => rfl); all_goals (first | (exfalso; omega) | (conv => arg 5; simp only [zA, zB, ev, lget, zC, zD, zE, zF, zG, zH, zI, zJ, zK, zL, zM, zN, zO]))))) | ((with_reducible refine' l_on ?hw ?_); (case hw => rfl)) | ((first | ((with_reducible refine' e_storeB ?hx ?hy ?hv ?h1 ?hb ?ho ?_); (case hx => rfl); (case hy => ((try simp only [ev, lget]); (try rfl))); (case hv => rfl); (case h1 => rfl)) | ((with_reducible refine' e_storeR ?hx ?hy ?h1 ?hb ?hn ?ho ?_); (case hx => rfl); (case hy => rfl); (case h1 => simp [Value.oneCell']); (case hn => rfl))); (case hb => exact bqq); (case ho => first | (simp only [List.length_cons, List.length_nil]; omega) | omega | (simp; omega) | simp); (try simp only [splice, zA, zB]); intro _ _ _ _) | ((with_reducible refine' l_call TFn.ent ?ha ?_); (case ha => simp only [zC, zD, ev, lget]; (try rfl))))
      all_goals try (rename_i wd evd zd_ w7 h7 e7 z7 w8 h8 e8 z8; exact ⟨_, rfl, by simp only [setW, List.foldl_cons, List.foldl_nil, List.set_cons_succ, List.set_cons_zero], rfl, h7.evt e8 (by omega), by rw [hbl6]; exact h8, fun i hi => (((hKQ i hi).evt evY (fun _ _ h => h)).evt e7 (fun k h1 h2 => by have h3 := hlB _ (List.getElem_mem hi) k h1; have h' : k = gR := h2; omega)).evt e8 (fun k h1 h2 => by have h3 := hlB _ (List.getElem_mem hi) k h1; have h' : k = gU := h2; omega)⟩)
      rintro u9 w9 ev9 z9 ⟨h9, hR9, hU9, hK9⟩
      simp only [setW, List.foldl_cons, List.foldl_nil, List.set_cons_succ, List.set_cons_zero]
      simp only [h9]
      repeat' (first | (with_reducible (first | refine' then_normal ?_ | refine' wp_ret ?_ | refine' then_ret ?_ | refine' in_ret ?_)) | ((with_reducible refine' b_retN ?hr ?h2 ?ha ?_); (case hr => rfl); (case h2 => decide); (case ha => first | exact ra_nil | ((first | ((with_reducible refine' ra_tmp ?rv3 ?rh3); (case rv3 => ((try simp only [ev, lget]); (try rfl)))) | ((with_reducible refine' ra_cell ?rp3 ?rt3 ?rq3 ?rn3 ?rh3); (case rp3 => rfl); (case rt3 => infer_instance); (case rq3 => exact bqq); (case rn3 => rfl))); (case rh3 => first | exact ra_nil | ((first | ((with_reducible refine' ra_tmp ?rv2 ?rh2); (case rv2 => ((try simp only [ev, lget]); (try rfl)))) | ((with_reducible refine' ra_cell ?rp2 ?rt2 ?rq2 ?rn2 ?rh2); (case rp2 => rfl); (case rt2 => infer_instance); (case rq2 => exact bqq); (case rn2 => rfl))); (case rh2 => first | exact ra_nil | ((first | ((with_reducible refine' ra_tmp ?rv1 ?rh1); (case rv1 => ((try simp only [ev, lget]); (try rfl)))) | ((with_reducible refine' ra_cell ?rp1 ?rt1 ?rq1 ?rn1 ?rh1); (case rp1 => rfl); (case rt1 => infer_instance); (case rq1 => exact bqq); (case rn1 => rfl))); (case rh1 => first | exact ra_nil)))))))))
      have hS9 : ∀ k, k < wB.heap.size → k ≠ gR → k ≠ gU → ¬ ((∃ m ∈ bs, (bdV m).ownBlock = some k) ∨ k = gR ∨ k = gU) := fun k h1 h2 h3 hh => by
        rcases hh with ⟨m, hm, h4⟩ | h4 | h4
        · have := hlB m hm k h4
          omega
        · exact h2 h4
        · exact h3 h4
      have hoV9 := own_evt ev9 hoV (fun k h1 hh => by
        have h5 := hnV k h1
        rcases hh with ⟨m, hm, h4⟩ | h4 | h4
        · obtain ⟨c1, hc1⟩ := own_typ hoV k h1
          obtain ⟨c2, hc2⟩ := own_typ (hLo.own m hm) k h4
          exact Blk.ne hc1 hc2 (by decide) rfl
        · omega
        · omega)
      have hg9 := hg6.evt ev9 (fun k _ hk => hS9 k (by have := hS.gl k hk; omega) (fun h => nG k (by omega) hk) (fun h => nG k (by omega) hk)) (G' := Gn G w w9) (fun k hk => .inl hk)
      have hB9 := hB6.evt ev9 (fun k hk => hS9 k (by have := hS.fl k hk; omega) (fun h => fR (h ▸ hk)) (fun h => fU (h ▸ hk))) (fun _ h => h) (fun k hk => by have := hS.fl k hk; omega)
      refine ⟨F, Gn G w w9, n, A, c, rs, V, d, bs, ⟨0, none, 0, []⟩, by rw [hbl6], {
        st := {
          box := ⟨_, hB9, hLp, hLn⟩
          ref := hg9
          bln := hS.bln
          fg := fun k hk hh => by
            rcases hh with h1 | h1
            · exact hS.fg k hk h1
            · have := hS.fl k hk
              omega
          gl := fun k hk => by
            rcases hk with h1 | h1
            · have := hS.gl k h1
              omega
            · omega }
        nn := by omega
        fF := fun k hk => .inl hk
        gG := fun k hk => by
          rcases hk with h1 | h1
          · exact .inl h1
          · exact .inr h1.1
        gU := fun k hk => .inl hk
        evt := kEv (S := fun k => wB.heap.size ≤ k ∨ k = gR ∨ k = gU) (Evt.next (ev9.mono fun k _ hh => by
          rcases hh with ⟨m, hm, h4⟩ | h4
          · exact .inl (hlB m hm k h4)
          · exact .inr h4) (k6.mono fun k _ hh => .inl hh) (fun _ _ h => h)) (fun k hk hh => by omega)
        row := RG.own hoV9 (fun k h1 => .inr ⟨by have := hnV k h1; omega, own_lt hoV9 k h1⟩)
        bod := fun i hi => (hK9 i hi).rg (fun hn => by
          obtain ⟨g, _, _, h1, _⟩ := own_some (hLo.own _ (List.getElem_mem hi)) (by simpa using hn)
          exact ⟨g, h1⟩) (fun g hg => .inr ⟨by have := hlB _ (List.getElem_mem hi) g hg; omega, by have := own_lt (hLo.own _ (List.getElem_mem hi)) g hg; omega⟩)
        bln := hbn6
        bsl := by omega
        lo := World.ownsRow_nil _ _ _ _
        lb := fun k h1 => by simp [lsV, Value.ownBlock] at h1
        li := fun i hi => by simp at hi
        ll := by simp }⟩
end Go.Proofs.Ytchfkkliechgoaa
