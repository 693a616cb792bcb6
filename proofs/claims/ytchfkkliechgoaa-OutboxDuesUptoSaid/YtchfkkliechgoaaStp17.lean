/- A step on both boxes: Ack; nothing. SHORT NORMX -/
import Derived.Test.YtchfkkliechgoaaDoc17c
import Derived.Test.YtchfkkliechgoaaDoc17d
import Derived.Test.YtchfkkliechgoaaApt17
namespace Go.Proofs.Ytchfkkliechgoaa
open Go.RowKit Go.Proofs.YtchfkkliechgoaaE
set_option linter.unusedSimpArgs false
set_option linter.unusedVariables false
set_option maxRecDepth 4000

/-- A call of the script. -/
structure Opr where
  kind : Int
  other : Bool
  id : Int
  now : Int
  body : List Int
  A : Option Addr
  c : Nat
@[reducible] def opC (o : Opr) : List Value := [.int .i64 o.kind, .bool o.other, .int .i64 o.id, .int .i64 o.now, .slice o.A o.body.length o.c]
@[reducible] def prC (gb : Nat) (A : Option Addr) (n c : Nat) : List Value := [.pointer (some ⟨gb, 0, none⟩), .slice A n c]
structure St (w : World) (F G : Nat → Prop) (gb n : Nat) (p : Pol) (A : Option Addr) (rs : List Nt) : Prop where
  box : ∃ L, BoxAt w F gb p n L ∧ L.map pur = rs.map ntP ∧ L.length ≤ n
  ref : NtG w G A rs
  bln : ∀ e ∈ rs.map ntP, e.body.length ≤ 1048576
  fg : ∀ k, F k → ¬ G k
  gl : ∀ k, G k → k < w.heap.size
theorem St.fl {w : World} {F G : Nat → Prop} {gb n : Nat} {p : Pol} {A : Option Addr} {rs : List Nt} (h : St w F G gb n p A rs) : ∀ k, F k → k < w.heap.size := by
  obtain ⟨L, hB, _⟩ := h.box
  exact hB.lt
theorem St.rl {w : World} {F G : Nat → Prop} {gb n : Nat} {p : Pol} {A : Option Addr} {rs : List Nt} (h : St w F G gb n p A rs) : rs.length ≤ n := by
  obtain ⟨L, hB, h1, h2⟩ := h.box
  have := congrArg List.length h1
  rw [List.length_map, List.length_map] at this
  omega
structure StepAt (w w' : World) (F G : Nat → Prop) (gb n : Nat) (p : Pol) (mark : Int) (F' G' : Nat → Prop) (n' : Nat) (A' : Option Addr) (rs' : List Nt) (B : Option Addr) (bs : List Bd) (ls : Ls) : Prop where
  st : St w' F' G' gb n' p A' rs'
  nn : n' ≤ n + 1
  fF : ∀ k, F' k → F k ∨ w.heap.size ≤ k
  gG : ∀ k, G' k → G k ∨ w.heap.size ≤ k
  gU : ∀ k, G k → G' k
  evt : Evt F w w'
  row : RG w' G' B (bdCs bs)
  bod : ∀ i (hi : i < bs.length), RG w' G' bs[i].A (mkRow bs[i].body.length (mk8 mark i))
  bln : ∀ b ∈ bs, b.body.length ≤ 1048576
  bsl : bs.length ≤ n
  lo : w'.ownsRow 0 50 3 (lsV ls) ls.n ls.cs
  lb : ∀ k, (lsV ls).ownBlock = some k → G' k ∧ w.heap.size ≤ k
  li : ∀ i, i < ls.n → ls.cs[i * 3 + 1]? = some (.int .i64 (-5))
  ll : ls.n ≤ n
theorem step_fin0 {w w' : World} {F G F' G' : Nat → Prop} {gb n n' : Nat} {p : Pol} {mark : Int} {A' : Option Addr} {rs' : List Nt} (st : St w' F' G' gb n' p A' rs') (nn : n' ≤ n + 1) (fF : ∀ k, F' k → F k ∨ w.heap.size ≤ k) (gG : ∀ k, G' k → G k ∨ w.heap.size ≤ k) (gU : ∀ k, G k → G' k) (evt : Evt F w w') :
    StepAt w w' F G gb n p mark F' G' n' A' rs' none [] ⟨0, none, 0, []⟩ where
  st := st
  nn := nn
  fF := fF
  gG := gG
  gU := gU
  evt := evt
  row := fun hn => by simp [bdCs] at hn
  bod := fun i hi => by simp at hi
  bln := by simp
  bsl := by simp
  lo := World.ownsRow_nil _ _ _ _
  lb := fun k hk => by simp [lsV, Value.ownBlock] at hk
  li := fun i hi => by simp at hi
  ll := by simp
theorem St.up {w w' : World} {F G : Nat → Prop} {gb n : Nat} {p : Pol} {A : Option Addr} {rs : List Nt} (h : St w F G gb n p A rs) (he : Evt (fun _ => False) w w') : St w' F G gb n p A rs := by
  obtain ⟨L, h1, h2, h3⟩ := h.box
  exact ⟨⟨L, h1.up he, h2, h3⟩, h.ref.up he, h.bln, h.fg, fun k hk => Nat.lt_of_lt_of_le (h.gl k hk) he.size⟩
theorem St.evt {S : Nat → Prop} {w w' : World} {F G : Nat → Prop} {gb n : Nat} {p : Pol} {A : Option Addr} {rs : List Nt} (h : St w F G gb n p A rs) (he : Evt S w w') (hf : ∀ k, F k → ¬ S k) (hg : ∀ k, G k → ¬ S k) : St w' F G gb n p A rs := by
  obtain ⟨L, h1, h2, h3⟩ := h.box
  have hb := h1.lt
  exact ⟨⟨L, h1.evt he hf (fun _ h => h) (fun k hk => Nat.lt_of_lt_of_le (hb k hk) he.size), h2, h3⟩, h.ref.evt he (fun k _ hk => hg k hk) (fun _ h => h), h.bln, h.fg, fun k hk => Nat.lt_of_lt_of_le (h.gl k hk) he.size⟩
set_option maxRecDepth 20000 in
set_option maxHeartbeats 8000000 in
theorem step0_any (F G : Nat → Prop) (gb n : Nat) (p : Pol) (Ap : Option Addr) (cp : Nat) (A : Option Addr) (c : Nat) (rs : List Nt) (o : Opr) (mark : Int) (w : World) (hS : St w F G gb n p A rs) (hk1 : o.kind ≠ 1) (hk2 : o.kind ≠ 2) (hk3 : o.kind ≠ 3) (hk4 : o.kind ≠ 4) :
    Calls Try.prog 29 #[.agg (polC p Ap cp).toArray, .agg (prC gb A rs.length c).toArray, .agg (opC o).toArray, .int .u8 mark] w fun e w' => ∃ F' G' n' A' c' rs' B cB bs ls, e = .returned (.tuple #[.agg (prC gb A' rs'.length c').toArray, .bool true, .agg #[.slice B (bs : List Bd).length cB, lsV ls]]) ∧ StepAt w w' F G gb n p mark F' G' n' A' rs' B bs ls := by
  go_enter Try.func29, Try.ntmps29
  repeat' (first | (with_reducible refine' stop_reg (id := 1) ?_) | (with_reducible (first | refine' wp_seq ?_ | refine' wp_region_lit ?_ | refine' wpList_nil ?_ | refine' then_normal ?_)) | ((with_reducible refine' l_step ?_); ((with_reducible refine' g_assign ?_); (conv => arg 5; simp only [zA, zB, ev, lget, zC, zD, zE, zF, zG, zH, zI, zJ, zK, zL, zM, zN, zO]))) | ((first | ((with_reducible refine' e_boxA ?hx ?_); (case hx => rfl)) | ((with_reducible refine' e_alloc ?hx ?_); (case hx => rfl))); intro _ _ _ _ _ _ _; (conv => arg 5; simp only [zA, zB, ev, lget, zC, zD, zE, zF, zG, zH, zI, zJ, zK, zL, zM, zN, zO])))
  rename_i gP wa a1 a2 hP0 ea za_ gX wb b1 b2 hX0 eb zb_ gO wc c1 c2 hO0 ec zc_ gR wd d1 d2 hR0 ed zd_ gU wB u1 u2 hU eu zu_
  have evB : Evt (fun _ => False) w wB := Evt.next eu (Evt.next ed (Evt.next ec (Evt.next eb ea (fun _ _ h => h)) (fun _ _ h => h)) (fun _ _ h => h)) (fun _ _ h => h)
  have hR := hR0.evt eu (fun h => h)
  have hO := (hO0.evt ed (fun h => h)).evt eu (fun h => h)
  have hX := ((hX0.evt ec (fun h => h)).evt ed (fun h => h)).evt eu (fun h => h)
  have hP := (((hP0.evt eb (fun h => h)).evt ec (fun h => h)).evt ed (fun h => h)).evt eu (fun h => h)
  have hSB := hS.up evB
  have nF : ∀ k, w.heap.size ≤ k → ¬ F k := fun k hk hh => by have := hS.fl k hh; omega
  have nG : ∀ k, w.heap.size ≤ k → ¬ G k := fun k hk hh => by have := hS.gl k hh; omega
  have fP : ¬ F gP := nF gP (by omega)
  have fX : ¬ F gX := nF gX (by omega)
  have fO : ¬ F gO := nF gO (by omega)
  have fR : ¬ F gR := nF gR (by omega)
  have fU : ¬ F gU := nF gU (by omega)
  have kEv : ∀ {S : Nat → Prop} {w' : World}, Evt S wB w' → (∀ k, k < w.heap.size → S k → F k) → Evt F w w' := fun he hs => Evt.next he (evB.mono fun _ _ h => h.elim) hs
  clear hP0 hX0 hO0 hR0 ea eb ec ed eu
  clear evB
  refine stop_go ?_
  repeat' (first | (with_reducible (first | refine' wp_seq ?_ | refine' wp_region_lit ?_ | refine' wpList_nil ?_ | refine' then_normal ?_ | refine' wp_block ?_ | refine' wp_ret ?_ | refine' wp_skip ?_ | refine' in_normal ?_)) | ((with_reducible refine' c_condF ?hx ?_); (case hx => rfl)) | ((with_reducible refine' b_retN ?hr ?h2 ?ha ?_); (case hr => rfl); (case h2 => decide); (case ha => first | exact ra_nil | ((first | ((with_reducible refine' ra_tmp ?rv3 ?rh3); (case rv3 => ((try simp only [ev, lget]); (try rfl)))) | ((with_reducible refine' ra_cell ?rp3 ?rt3 ?rq3 ?rn3 ?rh3); (case rp3 => rfl); (case rt3 => infer_instance); (case rq3 => exact bqq); (case rn3 => rfl))); (case rh3 => first | exact ra_nil | ((first | ((with_reducible refine' ra_tmp ?rv2 ?rh2); (case rv2 => ((try simp only [ev, lget]); (try rfl)))) | ((with_reducible refine' ra_cell ?rp2 ?rt2 ?rq2 ?rn2 ?rh2); (case rp2 => rfl); (case rt2 => infer_instance); (case rq2 => exact bqq); (case rn2 => rfl))); (case rh2 => first | exact ra_nil | ((first | ((with_reducible refine' ra_tmp ?rv1 ?rh1); (case rv1 => ((try simp only [ev, lget]); (try rfl)))) | ((with_reducible refine' ra_cell ?rp1 ?rt1 ?rq1 ?rn1 ?rh1); (case rp1 => rfl); (case rt1 => infer_instance); (case rq1 => exact bqq); (case rn1 => rfl))); (case rh1 => first | exact ra_nil)))))))) | ((with_reducible refine' l_step ?_); (first | ((first | (with_reducible refine' g_assign ?_) | ((with_reducible refine' g_fieldAddr ?hx ?ho ?_); (case hx => rfl); (case ho => rfl)) | ((first | (with_reducible refine' g_loadB ?hx ?hb ?hc ?_) | (with_reducible refine' g_loadS ?hx ?hb ?hn ?_)); (case hx => rfl); (case hb => exact bqq); first | (case hc => rfl) | (case hn => simp only [List.length_cons, List.length_nil]; omega))); (conv => arg 5; simp only [zA, zB, ev, lget, zC, zD, zE, zF, zG, zH, zI, zJ, zK, zL, zM, zN, zO])) | (((with_reducible refine' g_eql ?hx ?hy (fun _ => ?_) (fun _ => ?_)); (case hx => rfl)); (case hy => rfl); all_goals (first | (exfalso; omega) | (conv => arg 5; simp only [zA, zB, ev, lget, zC, zD, zE, zF, zG, zH, zI, zJ, zK, zL, zM, zN, zO]))) | ((with_reducible refine' g_build ?hl ?hp ?hs ?_); (case hl => rfl); (case hp => rfl); (case hs => rfl); (conv => arg 5; simp only [zA, zB, ev, lget, zC, zD, zE, zF, zG, zH, zI, zJ, zK, zL, zM, zN, zO, fillL, splice, List.getD_cons_zero, List.getD_cons_succ, Value.cells])))) | ((first | ((with_reducible refine' e_storeB ?hx ?hy ?hv ?h1 ?hb ?ho ?_); (case hx => rfl); (case hy => ((try simp only [ev, lget]); (try rfl))); (case hv => rfl); (case h1 => rfl)) | ((with_reducible refine' e_storeR ?hx ?hy ?h1 ?hb ?hn ?ho ?_); (case hx => rfl); (case hy => rfl); (case h1 => simp [Value.oneCell']); (case hn => rfl))); (case hb => exact bqq); (case ho => first | (simp only [List.length_cons, List.length_nil]; omega) | omega | (simp; omega) | simp); (try simp only [splice, zA, zB]); intro _ _ _ _))
  rename_i w8 h8 e8 z8 w9 h9 e9 z9
  have ev9 : Evt (fun k => k = gR ∨ k = gU) wB w9 := Evt.next (e9.mono fun _ _ h => .inr h) (e8.mono fun _ _ h => .inl h) (fun _ _ h => h)
  exact ⟨F, G, n, A, c, rs, none, 0, [], ⟨0, none, 0, []⟩, rfl, step_fin0 (hSB.evt ev9 (fun k hk hh => by rcases hh with rfl | rfl; exact fR hk; exact fU hk) (fun k hk hh => by rcases hh with rfl | rfl; exact nG _ (by omega) hk; exact nG _ (by omega) hk)) (by omega) (fun k hk => .inl hk) (fun k hk => .inl hk) (fun k hk => hk) (kEv ev9 (fun k hk hh => by rcases hh with h | h <;> omega))⟩
set_option maxRecDepth 20000 in
set_option maxHeartbeats 8000000 in
theorem step2_any (F G : Nat → Prop) (gb n : Nat) (p : Pol) (Ap : Option Addr) (cp : Nat) (A : Option Addr) (c : Nat) (rs : List Nt) (o : Opr) (mark : Int) (w : World) (hS : St w F G gb n p A rs) (hid : -9223372036854775808 ≤ o.id ∧ o.id ≤ 9223372036854775807) (hn : n ≤ 1000000000) (hk : o.kind = 2) :
    Calls Try.prog 29 #[.agg (polC p Ap cp).toArray, .agg (prC gb A rs.length c).toArray, .agg (opC o).toArray, .int .u8 mark] w fun e w' => ∃ F' G' n' A' c' rs' B cB bs ls, e = .returned (.tuple #[.agg (prC gb A' rs'.length c').toArray, .bool true, .agg #[.slice B (bs : List Bd).length cB, lsV ls]]) ∧ StepAt w w' F G gb n p mark F' G' n' A' rs' B bs ls := by
  go_enter Try.func29, Try.ntmps29
  repeat' (first | (with_reducible refine' stop_reg (id := 1) ?_) | (with_reducible (first | refine' wp_seq ?_ | refine' wp_region_lit ?_ | refine' wpList_nil ?_ | refine' then_normal ?_)) | ((with_reducible refine' l_step ?_); ((with_reducible refine' g_assign ?_); (conv => arg 5; simp only [zA, zB, ev, lget, zC, zD, zE, zF, zG, zH, zI, zJ, zK, zL, zM, zN, zO]))) | ((first | ((with_reducible refine' e_boxA ?hx ?_); (case hx => rfl)) | ((with_reducible refine' e_alloc ?hx ?_); (case hx => rfl))); intro _ _ _ _ _ _ _; (conv => arg 5; simp only [zA, zB, ev, lget, zC, zD, zE, zF, zG, zH, zI, zJ, zK, zL, zM, zN, zO])))
  rename_i gP wa a1 a2 hP0 ea za_ gX wb b1 b2 hX0 eb zb_ gO wc c1 c2 hO0 ec zc_ gR wd d1 d2 hR0 ed zd_ gU wB u1 u2 hU eu zu_
  have evB : Evt (fun _ => False) w wB := Evt.next eu (Evt.next ed (Evt.next ec (Evt.next eb ea (fun _ _ h => h)) (fun _ _ h => h)) (fun _ _ h => h)) (fun _ _ h => h)
  have hR := hR0.evt eu (fun h => h)
  have hO := (hO0.evt ed (fun h => h)).evt eu (fun h => h)
  have hX := ((hX0.evt ec (fun h => h)).evt ed (fun h => h)).evt eu (fun h => h)
  have hP := (((hP0.evt eb (fun h => h)).evt ec (fun h => h)).evt ed (fun h => h)).evt eu (fun h => h)
  have hSB := hS.up evB
  have nF : ∀ k, w.heap.size ≤ k → ¬ F k := fun k hk hh => by have := hS.fl k hh; omega
  have nG : ∀ k, w.heap.size ≤ k → ¬ G k := fun k hk hh => by have := hS.gl k hh; omega
  have fP : ¬ F gP := nF gP (by omega)
  have fX : ¬ F gX := nF gX (by omega)
  have fO : ¬ F gO := nF gO (by omega)
  have fR : ¬ F gR := nF gR (by omega)
  have fU : ¬ F gU := nF gU (by omega)
  have kEv : ∀ {S : Nat → Prop} {w' : World}, Evt S wB w' → (∀ k, k < w.heap.size → S k → F k) → Evt F w w' := fun he hs => Evt.next he (evB.mono fun _ _ h => h.elim) hs
  clear hP0 hX0 hO0 hR0 ea eb ec ed eu
  clear evB
  refine stop_go ?_
  repeat' (first | (with_reducible refine' stop_reg (id := 18) ?_) | (with_reducible (first | refine' wp_seq ?_ | refine' wp_region_lit ?_ | refine' wpList_nil ?_ | refine' then_normal ?_ | refine' wp_block ?_)) | ((with_reducible refine' c_condT ?hx ?_); (case hx => rfl)) | ((with_reducible refine' c_condF ?hx ?_); (case hx => rfl)) | ((with_reducible refine' l_step ?_); (first | ((first | (with_reducible refine' g_assign ?_) | ((with_reducible refine' g_fieldAddr ?hx ?ho ?_); (case hx => rfl); (case ho => rfl)) | ((with_reducible refine' g_loadB ?hx ?hb ?hc ?_); (case hx => rfl); (case hb => exact bqq); first | (case hc => rfl) | (case hn => simp only [List.length_cons, List.length_nil]; omega))); (conv => arg 5; simp only [zA, zB, ev, lget, zC, zD, zE, zF, zG, zH, zI, zJ, zK, zL, zM, zN, zO])) | (((with_reducible refine' g_eql ?hx ?hy (fun _ => ?_) (fun _ => ?_)); (case hx => rfl)); (case hy => rfl); all_goals (first | (exfalso; omega) | (conv => arg 5; simp only [zA, zB, ev, lget, zC, zD, zE, zF, zG, zH, zI, zJ, zK, zL, zM, zN, zO]))))))
  refine stop_go ?_
  obtain ⟨L, hB, hLp, hLn⟩ := hSB.box
  have hrl := hS.rl
  obtain ⟨q, hq1⟩ : ∃ q, decide (o.id ∈ L.map (·.id)) = q := ⟨_, rfl⟩
  have hq2 : decide (o.id ∈ rs.map (·.id)) = q := by
    rw [← hq1]
    have h1 := congrArg (List.map (·.id)) hLp
    rw [List.map_map, List.map_map] at h1
    have h2 : L.map (·.id) = rs.map (·.id) := h1
    rw [h2]
  have hNt : ∀ w', Evt F wB w' → NtG w' G A rs := fun w' he => hSB.ref.evt he (fun k _ hg hf => hS.fg k hf hg) (fun _ h => h)
  repeat' (first | (go_at_call 19; refine (ack_any _ F gb n p L o.id hB hid).mono ?_; rw [hq1]; rintro e wK ⟨rfl, hBK, evK⟩; have zK_ := evK.size; refine ⟨_, rfl, ?_⟩; (conv => arg 5; simp only [zA, zB, ev, lget, zC, zD, zE, zF, zG, zH, zI, zJ, zK, zL, zM, zN, zO])) | (go_at_call 40; refine (ack_r G A c _ rs o.id _ (hNt _ evK) rfl (by omega)).mono ?_; rw [hq2]; rintro e wL ⟨A', c', rs', rfl, hpL, hgL, evL⟩; have zL_ := evL.size; refine ⟨_, rfl, ?_⟩; (conv => arg 5; simp only [zA, zB, ev, lget, zC, zD, zE, zF, zG, zH, zI, zJ, zK, zL, zM, zN, zO])) | (with_reducible refine' stop_reg (id := 21) ?_) | (with_reducible (first | refine' wp_seq ?_ | refine' wp_region_lit ?_ | refine' wpList_nil ?_ | refine' then_normal ?_)) | ((with_reducible refine' l_step ?_); ((first | (with_reducible refine' g_move ?_) | (with_reducible refine' g_assign ?_) | ((with_reducible refine' g_fieldAddr ?hx ?ho ?_); (case hx => rfl); (case ho => rfl)) | ((first | (with_reducible refine' g_loadB ?hx ?hb ?hc ?_) | (with_reducible refine' g_loadS ?hx ?hb ?hn ?_)); (case hx => rfl); (case hb => exact bqq); first | (case hc => rfl) | (case hn => simp only [List.length_cons, List.length_nil]; omega)) | ((with_reducible refine' g_extract ?hx ?hv ?_); (case hx => rfl); (case hv => rfl))); (conv => arg 5; simp only [zA, zB, ev, lget, zC, zD, zE, zF, zG, zH, zI, zJ, zK, zL, zM, zN, zO]))) | ((first | ((with_reducible refine' e_storeB ?hx ?hy ?hv ?h1 ?hb ?ho ?_); (case hx => rfl); (case hy => ((try simp only [ev, lget]); (try rfl))); (case hv => rfl); (case h1 => rfl)) | ((with_reducible refine' e_storeR ?hx ?hy ?h1 ?hb ?hn ?ho ?_); (case hx => rfl); (case hy => rfl); (case h1 => simp [Value.oneCell']); (case hn => rfl))); (case hb => exact bqq); (case ho => first | (simp only [List.length_cons, List.length_nil]; omega) | omega | (simp; omega) | simp); (try simp only [splice, zA, zB]); intro _ _ _ _) | ((with_reducible refine' l_call TFn.ent ?ha ?_); (case ha => simp only [zC, zD, ev, lget]; (try rfl))))
  rename_i wM hXM evM zM_
  have hS' : St wL F (Gn G wK wL) gb n p A' rs' := {
    box := ⟨_, hBK.up evL, by rw [hpL, ← hLp, ackP, List.filter_map]; rfl, Nat.le_trans (List.length_filter_le _ _) hLn⟩
    ref := hgL
    bln := fun e he => by
      rw [hpL] at he
      exact hS.bln e (List.mem_filter.1 he).1
    fg := fun k hk hh => by
      rcases hh with h1 | h1
      · exact hS.fg k hk h1
      · have := hS.fl k hk
        omega
    gl := fun k hk => by
      rcases hk with h1 | h1
      · have := hS.gl k h1
        omega
      · omega }
  have kL : Evt F wB wL := Evt.next evL evK (fun _ _ h => h.elim)
  clear hNt hBK hgL
  refine stop_go ?_
  cases q
  · repeat' (first | (with_reducible (first | refine' wp_region_lit ?_ | refine' wpList_nil ?_ | refine' then_normal ?_ | refine' wp_ret ?_ | refine' then_ret ?_ | refine' in_ret ?_)) | ((with_reducible refine' b_retN ?hr ?h2 ?ha ?_); (case hr => rfl); (case h2 => decide); (case ha => first | exact ra_nil | ((first | ((with_reducible refine' ra_tmp ?rv3 ?rh3); (case rv3 => ((try simp only [ev, lget]); (try rfl)))) | ((with_reducible refine' ra_cell ?rp3 ?rt3 ?rq3 ?rn3 ?rh3); (case rp3 => rfl); (case rt3 => infer_instance); (case rq3 => exact bqq); (case rn3 => rfl))); (case rh3 => first | exact ra_nil | ((first | ((with_reducible refine' ra_tmp ?rv2 ?rh2); (case rv2 => ((try simp only [ev, lget]); (try rfl)))) | ((with_reducible refine' ra_cell ?rp2 ?rt2 ?rq2 ?rn2 ?rh2); (case rp2 => rfl); (case rt2 => infer_instance); (case rq2 => exact bqq); (case rn2 => rfl))); (case rh2 => first | exact ra_nil | ((first | ((with_reducible refine' ra_tmp ?rv1 ?rh1); (case rv1 => ((try simp only [ev, lget]); (try rfl)))) | ((with_reducible refine' ra_cell ?rp1 ?rt1 ?rq1 ?rn1 ?rh1); (case rp1 => rfl); (case rt1 => infer_instance); (case rq1 => exact bqq); (case rn1 => rfl))); (case rh1 => first | exact ra_nil)))))))) | ((with_reducible refine' l_step ?_); (first | ((first | (with_reducible refine' g_move ?_) | (with_reducible refine' g_assign ?_) | ((with_reducible refine' g_loadS ?hx ?hb ?hn ?_); (case hx => rfl); (case hb => exact bqq); first | (case hc => rfl) | (case hn => simp only [List.length_cons, List.length_nil]; omega)) | ((with_reducible refine' g_eqlBFF ?hx ?hy ?_); (case hx => rfl); (case hy => rfl))); (conv => arg 5; simp only [zA, zB, ev, lget, zC, zD, zE, zF, zG, zH, zI, zJ, zK, zL, zM, zN, zO])) | ((with_reducible refine' g_build ?hl ?hp ?hs ?_); (case hl => rfl); (case hp => rfl); (case hs => rfl); (conv => arg 5; simp only [zA, zB, ev, lget, zC, zD, zE, zF, zG, zH, zI, zJ, zK, zL, zM, zN, zO, fillL, splice, List.getD_cons_zero, List.getD_cons_succ, Value.cells])))) | ((first | ((with_reducible refine' e_storeB ?hx ?hy ?hv ?h1 ?hb ?ho ?_); (case hx => rfl); (case hy => ((try simp only [ev, lget]); (try rfl))); (case hv => rfl); (case h1 => rfl)) | ((with_reducible refine' e_storeR ?hx ?hy ?h1 ?hb ?hn ?ho ?_); (case hx => rfl); (case hy => rfl); (case h1 => simp [Value.oneCell']); (case hn => rfl))); (case hb => exact bqq); (case ho => first | (simp only [List.length_cons, List.length_nil]; omega) | omega | (simp; omega) | simp); (try simp only [splice, zA, zB]); intro _ _ _ _))
    rename_i w8 h8 e8 z8 w9 h9 e9 z9
    have ev9 : Evt (fun k => k = gX ∨ k = gR ∨ k = gU) wL w9 := Evt.next (e9.mono fun _ _ h => .inr (.inr h)) (Evt.next (e8.mono fun _ _ h => .inr (.inl h)) (evM.mono fun _ _ h => .inl h) (fun _ _ h => h)) (fun _ _ h => h)
    exact ⟨F, _, n, A', c', rs', none, 0, [], ⟨0, none, 0, []⟩, rfl, step_fin0 (hS'.evt ev9 (fun k hk hh => by have := hS.fl k hk; omega) (fun k hk hh => by rcases hk with h1 | h1; have := hS.gl k h1; omega; omega)) (by omega) (fun k hk => .inl hk) (fun k hk => by rcases hk with h1 | h1; exact .inl h1; exact .inr (by omega)) (fun k hk => .inl hk) (kEv (S := fun k => F k ∨ k = gX ∨ k = gR ∨ k = gU) (Evt.next (ev9.mono fun _ _ h => .inr h) (kL.mono fun _ _ h => .inl h) (fun _ _ h => h)) (fun k hk hh => by rcases hh with h | h; exact h; omega))⟩
  · repeat' (first | (with_reducible (first | refine' wp_region_lit ?_ | refine' wpList_nil ?_ | refine' then_normal ?_ | refine' wp_ret ?_ | refine' then_ret ?_ | refine' in_ret ?_)) | ((with_reducible refine' b_retN ?hr ?h2 ?ha ?_); (case hr => rfl); (case h2 => decide); (case ha => first | exact ra_nil | ((first | ((with_reducible refine' ra_tmp ?rv3 ?rh3); (case rv3 => ((try simp only [ev, lget]); (try rfl)))) | ((with_reducible refine' ra_cell ?rp3 ?rt3 ?rq3 ?rn3 ?rh3); (case rp3 => rfl); (case rt3 => infer_instance); (case rq3 => exact bqq); (case rn3 => rfl))); (case rh3 => first | exact ra_nil | ((first | ((with_reducible refine' ra_tmp ?rv2 ?rh2); (case rv2 => ((try simp only [ev, lget]); (try rfl)))) | ((with_reducible refine' ra_cell ?rp2 ?rt2 ?rq2 ?rn2 ?rh2); (case rp2 => rfl); (case rt2 => infer_instance); (case rq2 => exact bqq); (case rn2 => rfl))); (case rh2 => first | exact ra_nil | ((first | ((with_reducible refine' ra_tmp ?rv1 ?rh1); (case rv1 => ((try simp only [ev, lget]); (try rfl)))) | ((with_reducible refine' ra_cell ?rp1 ?rt1 ?rq1 ?rn1 ?rh1); (case rp1 => rfl); (case rt1 => infer_instance); (case rq1 => exact bqq); (case rn1 => rfl))); (case rh1 => first | exact ra_nil)))))))) | ((with_reducible refine' l_step ?_); (first | ((first | (with_reducible refine' g_move ?_) | (with_reducible refine' g_assign ?_) | ((with_reducible refine' g_loadS ?hx ?hb ?hn ?_); (case hx => rfl); (case hb => exact bqq); first | (case hc => rfl) | (case hn => simp only [List.length_cons, List.length_nil]; omega)) | ((with_reducible refine' g_eqlBTT ?hx ?hy ?_); (case hx => rfl); (case hy => rfl))); (conv => arg 5; simp only [zA, zB, ev, lget, zC, zD, zE, zF, zG, zH, zI, zJ, zK, zL, zM, zN, zO])) | ((with_reducible refine' g_build ?hl ?hp ?hs ?_); (case hl => rfl); (case hp => rfl); (case hs => rfl); (conv => arg 5; simp only [zA, zB, ev, lget, zC, zD, zE, zF, zG, zH, zI, zJ, zK, zL, zM, zN, zO, fillL, splice, List.getD_cons_zero, List.getD_cons_succ, Value.cells])))) | ((first | ((with_reducible refine' e_storeB ?hx ?hy ?hv ?h1 ?hb ?ho ?_); (case hx => rfl); (case hy => ((try simp only [ev, lget]); (try rfl))); (case hv => rfl); (case h1 => rfl)) | ((with_reducible refine' e_storeR ?hx ?hy ?h1 ?hb ?hn ?ho ?_); (case hx => rfl); (case hy => rfl); (case h1 => simp [Value.oneCell']); (case hn => rfl))); (case hb => exact bqq); (case ho => first | (simp only [List.length_cons, List.length_nil]; omega) | omega | (simp; omega) | simp); (try simp only [splice, zA, zB]); intro _ _ _ _))
    rename_i w8 h8 e8 z8 w9 h9 e9 z9
    have ev9 : Evt (fun k => k = gX ∨ k = gR ∨ k = gU) wL w9 := Evt.next (e9.mono fun _ _ h => .inr (.inr h)) (Evt.next (e8.mono fun _ _ h => .inr (.inl h)) (evM.mono fun _ _ h => .inl h) (fun _ _ h => h)) (fun _ _ h => h)
    exact ⟨F, _, n, A', c', rs', none, 0, [], ⟨0, none, 0, []⟩, rfl, step_fin0 (hS'.evt ev9 (fun k hk hh => by have := hS.fl k hk; omega) (fun k hk hh => by rcases hk with h1 | h1; have := hS.gl k h1; omega; omega)) (by omega) (fun k hk => .inl hk) (fun k hk => by rcases hk with h1 | h1; exact .inl h1; exact .inr (by omega)) (fun k hk => .inl hk) (kEv (S := fun k => F k ∨ k = gX ∨ k = gR ∨ k = gU) (Evt.next (ev9.mono fun _ _ h => .inr h) (kL.mono fun _ _ h => .inl h) (fun _ _ h => h)) (fun k hk hh => by rcases hh with h | h; exact h; omega))⟩
end Go.Proofs.Ytchfkkliechgoaa
