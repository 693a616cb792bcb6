/- A box that is new since w0. SHORT NORMX -/
import Derived.Test.YtchfkkliechgoaaHlp17c
namespace Go.Proofs.Ytchfkkliechgoaa
open Go.RowKit Go.Proofs.YtchfkkliechgoaaE
set_option linter.unusedSimpArgs false
set_option linter.unusedVariables false
set_option maxRecDepth 4000

theorem evt_own {w0 a b : World} {F : Nat → Prop} (h : Evt F a b) (h0 : Evt (fun _ => False) w0 a) (hF : ∀ k, F k → w0.heap.size ≤ k) : Evt (fun _ => False) w0 b := Evt.next h h0 (fun i hi hh => by have := hF i hh; omega)
theorem own_ri {w : World} {V : Option Addr} {d : Nat} {xs : List Int} (h : w.ownsRow 0 3 1 (.slice V xs.length d) xs.length (ints xs)) (hl : xs.length ≤ 9223372036854775807) : RI w V xs := (rowAt_own (F := fun _ => True) h (fun _ _ => trivial)).ri hl
theorem dueL_pur (now : Int) (L : List En) : dueL now L = ((L.map pur).filter fun e => decide (e.nxt ≤ now)).map fun e => (e.id, e.body) := by
  rw [dueL, List.filter_map, List.map_map]
  rfl
def sentP (p : Pol) (now : Int) (e : Ep) : Ep := { e with att := e.att + 1, nxt := laterP now (backP p (e.att + 1)) }
def duP (p : Pol) (now : Int) (e : Ep) : Ep := if e.nxt ≤ now then sentP p now e else e
def duePk (now : Int) (l : List Ep) : List (Int × List Int) := (l.filter fun e => decide (e.nxt ≤ now)).map fun e => (e.id, e.body)
theorem due_pur (p : Pol) (now : Int) (L : List En) : (L.map (dueE p now)).map pur = (L.map pur).map (duP p now) := by
  rw [List.map_map, List.map_map]
  refine List.map_congr_left fun e _ => ?_
  simp only [Function.comp, dueE, duP]
  by_cases h : e.nxt ≤ now
  · rw [if_pos h, if_pos (show (pur e).nxt ≤ now from h)]
    rfl
  · rw [if_neg h, if_neg (show ¬ (pur e).nxt ≤ now from h)]
theorem OB.len {w : World} {lo : Nat} {l : List Bd} (h : OB w lo l) : ∀ m ∈ l, m.body.length ≤ 9223372036854775807 := fun m hm => by
  rcases Nat.eq_zero_or_pos m.body.length with h0 | h0
  · omega
  · obtain ⟨g, cap, cur, _, _, _, _, h1, h2⟩ := own_form (h.own m hm) h0
    unfold maxLen at h2
    omega
/-- A box, in blocks that are new since w0; nothing that was there is touched. -/
def NB (w0 w : World) (gb n : Nat) (p : Pol) (l : List Ep) : Prop := ∃ F L, BoxAt w F gb p n L ∧ L.map pur = l ∧ L.length ≤ n ∧ (∀ k, F k → w0.heap.size ≤ k)
theorem NB.up {w0 w w' : World} {gb n : Nat} {p : Pol} {l : List Ep} (h : NB w0 w gb n p l) (he : Evt (fun _ => False) w w') : NB w0 w' gb n p l := by
  obtain ⟨F, L, h1, h2, h3, h4⟩ := h
  exact ⟨F, L, h1.up he, h2, h3, h4⟩
theorem new_nb (w0 : World) (p : Pol) (A : Option Addr) (c : Nat) (w : World) (hr : RI w A p.hs) (hsz : p.hs.length * 8 ≤ 140737488351232) (he0 : Evt (fun _ => False) w0 w) :
    Calls Try.prog 13 #[.agg (polC p A c).toArray] w fun e w' => ∃ gb, e = .returned (.pointer (some ⟨gb, 0, none⟩)) ∧ NB w0 w' gb 0 p [] ∧ Evt (fun _ => False) w w' := by
  refine (new_any p A c w hr hsz).mono ?_
  rintro e w' ⟨gb, F, rfl, h1, h2, h3⟩
  exact ⟨gb, rfl, ⟨F, [], h1, rfl, Nat.le_refl _, fun k hk => by have := h2 k hk; have := he0.size; omega⟩, h3⟩
theorem add_nb (w0 w : World) (gb n : Nat) (p : Pol) (l : List Ep) (nid now : Int) (body : List Int) (A0 : Option Addr) (c0 : Nat) (h0 : NB w0 w gb n p l) (he0 : Evt (fun _ => False) w0 w) (hrc : RC w A0 (u8s body)) (hbl : body.length ≤ 140737488351232) (hid : -9223372036854775808 ≤ nid ∧ nid ≤ 9223372036854775807) (hn : n < 1000000000000) :
    Calls Try.prog 16 #[.pointer (some ⟨gb, 0, none⟩), .int .i64 nid, .slice A0 body.length c0, .int .i64 now] w fun e w' => e = .returned (.int .i64 (addP l nid body now).2) ∧ NB w0 w' gb (n + 1) p (addP l nid body now).1 ∧ Evt (fun _ => False) w0 w' := by
  obtain ⟨F, L, h1, rfl, h3, h4⟩ := h0
  refine (add_any w F gb n p L nid now body A0 c0 h1 hrc hbl hid hn).mono ?_
  rintro e w' ⟨F', L', rfl, h5, h6, h7, h8, h9⟩
  exact ⟨rfl, ⟨F', L', h5, h6, by omega, fun k hk => by rcases h8 k hk with h | h; exact h4 k h; have := he0.size; omega⟩, evt_own h9 he0 h4⟩
theorem ack_nb (w0 w : World) (gb n : Nat) (p : Pol) (l : List Ep) (nid : Int) (h0 : NB w0 w gb n p l) (he0 : Evt (fun _ => False) w0 w) (hid : -9223372036854775808 ≤ nid ∧ nid ≤ 9223372036854775807) :
    Calls Try.prog 19 #[.pointer (some ⟨gb, 0, none⟩), .int .i64 nid] w fun e w' => e = .returned (.bool (decide (nid ∈ idsP l))) ∧ NB w0 w' gb n p (ackP l nid) ∧ Evt (fun _ => False) w0 w' := by
  obtain ⟨F, L, h1, rfl, h3, h4⟩ := h0
  refine (ack_any w F gb n p L nid h1 hid).mono ?_
  rintro e w' ⟨rfl, h5, h6⟩
  refine ⟨by rw [idsP_pur], ⟨F, _, h5, ?_, Nat.le_trans (List.length_filter_le _ _) h3, h4⟩, evt_own h6 he0 h4⟩
  rw [ackP, List.filter_map]
  rfl
theorem due_nb (w0 w : World) (gb n : Nat) (p : Pol) (l : List Ep) (now : Int) (h0 : NB w0 w gb n p l) (he0 : Evt (fun _ => False) w0 w) (hn : n < 1000000000000) (hnow : -9223372036854775808 ≤ now ∧ now ≤ 9223372036854775807) :
    Calls Try.prog 18 #[.pointer (some ⟨gb, 0, none⟩), .int .i64 now] w fun e w' => ∃ V d ks, e = .returned (.slice V (ks : List Pk).length d) ∧ NB w0 w' gb (n + 1) p (l.map (duP p now)) ∧ ks.map pkP = duePk now l ∧ PkAt w' V ks ∧ (∀ k ∈ ks, k.b.body.length ≤ 9223372036854775807) ∧ ks.length ≤ n ∧ Evt (fun _ => False) w0 w' := by
  obtain ⟨F, L, h1, rfl, h3, h4⟩ := h0
  refine (due_any w F gb n p L now h1 (by omega) hn hnow).mono ?_
  rintro e w' ⟨V, d, ks, rfl, h5, h6, h7, h8, h9, h10⟩
  have hlen : ks.length ≤ n := by
    have h11 := congrArg List.length h6
    rw [List.length_map] at h11
    have h12 := dueL_len now L
    omega
  exact ⟨V, d, ks, rfl, ⟨F, _, h5, due_pur p now L, by rw [List.length_map]; omega, h4⟩, by rw [h6, dueL_pur]; rfl, pkAt_own h7 h9, fun k hk => h9.len _ (List.mem_map.2 ⟨k, hk, rfl⟩), hlen, evt_own h10 he0 h4⟩
theorem pending_nb (w0 w : World) (gb n : Nat) (p : Pol) (l : List Ep) (h0 : NB w0 w gb n p l) (hn : n < 1000000000000) :
    Calls Try.prog 20 #[.pointer (some ⟨gb, 0, none⟩)] w fun e w' => ∃ V d ks, e = .returned (.slice V (ks : List Nt).length d) ∧ NB w0 w' gb n p l ∧ ks.map ntP = l ∧ NtAt w' V ks ∧ (∀ k ∈ ks, k.b.body.length ≤ 9223372036854775807) ∧ ks.length ≤ n ∧ Evt (fun _ => False) w w' := by
  obtain ⟨F, L, h1, rfl, h3, h4⟩ := h0
  refine (pending_any w F gb n p L h1 (by omega)).mono ?_
  rintro e w' ⟨V, d, ks, rfl, h5, h6, h7, h8, h9⟩
  have hlen : ks.length ≤ n := by
    have h11 := congrArg List.length h5
    rw [List.length_map, List.length_map] at h11
    omega
  exact ⟨V, d, ks, rfl, ⟨F, L, h1.up h9, rfl, h3, h4⟩, h5, ntAt_own h6 h8, fun k hk => h8.len _ (List.mem_map.2 ⟨k, hk, rfl⟩), hlen, h9⟩
set_option maxHeartbeats 4000000 in
theorem wakes_any (p : Pol) (A : Option Addr) (c : Nat) (w : World) (hr : RI w A p.hs) (hsz : p.hs.length * 8 ≤ 140737488351232) :
    Calls Try.prog 24 #[.agg (polC p A c).toArray] w fun e w' => e = .returned (.bool true) ∧ Evt (fun _ => False) w w' := by
  have hadd : addP [] 4 [9] 2 = ([⟨4, 0, 2, [9]⟩], 0) := by simp [addP, idsP]
  have hdue : duePk 2 [⟨4, 0, 2, [9]⟩] = [(4, [9])] := by simp [duePk]
  go_enter Try.func24, Try.ntmps24
  repeat' (first | (go_at_call 14; refine (own_any p A c _ (hr.up (by exact eqq)) hsz).mono ?_; rintro e wO ⟨VO, dO, rfl, hoO, hnO, evO⟩; have zO_ := evO.size; have hrO := own_ri hoO (by omega); refine ⟨_, rfl, ?_⟩; (conv => arg 5; simp only [zA, zB, ev, lget, zC, zD, zE, zF, zG, zH, zI, zJ, zK, zL, zM, zN, zO])) | ((with_reducible refine' l_step ?_); (with_reducible refine' g_eqlPS ?hx ?hy ?_); (case hx => rfl); (case hy => rfl); (conv => arg 5; simp only [zA, zB, ev, lget, zC, zD, zE, zF, zG, zH, zI, zJ, zK, zL, zM, zN, zO])) | (go_at_call 13; refine (new_nb w p VO dO _ hrO hsz (by exact eqq)).mono ?_; rintro e wN ⟨gb, rfl, hbox, evN⟩; have zN_ := evN.size; refine ⟨_, rfl, ?_⟩; (conv => arg 5; simp only [zA, zB, ev, lget, zC, zD, zE, zF, zG, zH, zI, zJ, zK, zL, zM, zN, zO])) | (go_at_call 16; refine (add_nb w _ gb 0 p [] 4 2 [9] _ _ (hbox.up (by exact eqq)) (by exact eqq) (RC.blk (by assumption) 1 rfl) (by decide) (by omega) (by omega)).mono ?_; rw [hadd]; rintro e wD ⟨rfl, hbox1, evD⟩; have zD_ := evD.size; refine ⟨_, rfl, ?_⟩; clear hbox; (conv => arg 5; simp only [zA, zB, ev, lget, zC, zD, zE, zF, zG, zH, zI, zJ, zK, zL, zM, zN, zO])) | (go_at_call 20; refine (pending_nb w _ gb 1 p _ (hbox1.up (by exact eqq)) (by omega)).mono ?_; rintro e wP ⟨VP, dP, kp, rfl, hbox2, hkp, -, -, -, evP⟩; have zP_ := evP.size; have hkl : kp.length = 1 := by { have h1 := congrArg List.length hkp; simpa using h1 }; rw [hkl]; refine ⟨_, rfl, ?_⟩; clear hbox1; (conv => arg 5; simp only [zA, zB, ev, lget, zC, zD, zE, zF, zG, zH, zI, zJ, zK, zL, zM, zN, zO])) | (go_at_call 18; refine (due_nb w _ gb 1 p _ 2 (hbox2.up (by exact eqq)) (by exact eqq) (by omega) (by omega)).mono ?_; rintro e wQ ⟨VQ, dQ, kq, rfl, hbox3, hkq, hpk, hbl, hql, evQ⟩; have zQ_ := evQ.size; rw [hdue] at hkq; refine ⟨_, rfl, ?_⟩; clear hbox2; (conv => arg 5; simp only [zA, zB, ev, lget, zC, zD, zE, zF, zG, zH, zI, zJ, zK, zL, zM, zN, zO])) | (go_at_call 17; refine (sends_any VQ _ dQ _ _ kq 4 [9] _ (hpk.up (by exact eqq)) rfl (by omega) (RC.blk (by assumption) 1 rfl) hbl (by decide)).mono ?_; rw [hkq]; rintro e wR ⟨rfl, evR⟩; have zR_ := evR.size; refine ⟨_, rfl, ?_⟩; (conv => arg 5; simp only [zA, zB, ev, lget, zC, zD, zE, zF, zG, zH, zI, zJ, zK, zL, zM, zN, zO])) | (with_reducible (first | refine' wp_seq ?_ | refine' wp_region_lit ?_ | refine' wpList_nil ?_ | refine' then_normal ?_ | refine' wp_block ?_ | refine' wp_ret ?_ | refine' wp_skip ?_ | refine' wp_exit ?_ | refine' then_ret ?_ | refine' then_exit ?_ | refine' in_normal ?_ | refine' in_ret ?_ | refine' in_exit ?_)) | ((with_reducible refine' c_condT ?hx ?_); (case hx => rfl)) | ((with_reducible refine' c_condF ?hx ?_); (case hx => rfl)) | ((with_reducible refine' in_exit' ?hx ?_); (case hx => decide)) | ((with_reducible refine' b_ret1 ?hr ?hv ?_); (case hr => rfl); (case hv => ((try simp only [ev, lget]); (try rfl)))) | ((with_reducible refine' l_step ?_); (first | ((first | (with_reducible refine' g_move ?_) | (with_reducible refine' g_assign ?_) | ((first | (with_reducible refine' g_loadB ?hx ?hb ?hc ?_) | (with_reducible refine' g_loadS ?hx ?hb ?hn ?_)); (case hx => rfl); (case hb => exact bqq); first | (case hc => rfl) | (case hn => simp only [List.length_cons, List.length_nil]; omega)) | ((with_reducible refine' g_loadC ?hx ?hc ?_); (case hx => rfl); (case hc => exact cqq)) | ((with_reducible refine' g_pickT ?hx ?_); (case hx => rfl)) | ((with_reducible refine' g_pickF ?hx ?_); (case hx => rfl)) | ((with_reducible refine' g_lenS ?hx ?_); (case hx => rfl)) | ((with_reducible refine' g_lenStr ?hx ?_); (case hx => rfl))); (conv => arg 5; simp only [zA, zB, ev, lget, zC, zD, zE, zF, zG, zH, zI, zJ, zK, zL, zM, zN, zO])) | ((first | ((with_reducible refine' g_eql ?hx ?hy (fun _ => ?_) (fun _ => ?_)); (case hx => rfl)) | ((with_reducible refine' g_eqlB ?hx ?hy (fun _ => ?_) (fun _ => ?_)); (case hx => rfl))); (case hy => rfl); all_goals (first | (exfalso; omega) | (conv => arg 5; simp only [zA, zB, ev, lget, zC, zD, zE, zF, zG, zH, zI, zJ, zK, zL, zM, zN, zO]))))) | ((with_reducible refine' l_on ?hw ?_); (case hw => rfl)) | ((with_reducible refine' l_offN ?hw ?_); (case hw => rfl)) | ((with_reducible refine' l_off ?hw ?_); (case hw => rfl); (conv => arg 5; simp only [zA, zB, ev, lget, zC, zD, zE, zF, zG, zH, zI, zJ, zK, zL, zM, zN, zO])) | ((first | ((with_reducible refine' e_boxA ?hx ?_); (case hx => rfl)) | ((with_reducible refine' e_boxS ?hx ?hv ?_); (case hx => ((try simp only [ev, lget]); (try rfl))); (case hv => rfl)) | ((with_reducible refine' e_sliceLit ?hx ?hi ?hv ?hn ?_); (case hx => simp only [zC, zD, ev, lget]; (try rfl)); (case hi => rfl); (case hv => simp [Value.cells]); (case hn => decide); simp only [List.flatMap_cons, List.flatMap_nil, Value.cells, List.cons_append, List.nil_append])); intro _ _ _ _ _ _ _; (conv => arg 5; simp only [zA, zB, ev, lget, zC, zD, zE, zF, zG, zH, zI, zJ, zK, zL, zM, zN, zO])) | ((first | (with_reducible refine' l_call TFn.ent ?ha ?_) | (with_reducible refine' l_callN TFn.ent ?ha ?_)); (case ha => simp only [zC, zD, ev, lget]; (try rfl))))
  exact ⟨ret_bool (by simp), by exact eqq⟩
end Go.Proofs.Ytchfkkliechgoaa
