/- The network: a notice is sent; fates are laid in. -/
import Derived.Test.YtmngcpackbekiaaNet16b
namespace Go.Proofs.Ytmngcpackbekiaa
open Go.RowKit Go.Proofs.YtmngcpackbekiaaE
set_option linter.unusedSimpArgs false
set_option linter.unusedVariables false

theorem own_fresh {s : Nat} {vA : Value} (ha : vA.ownBlock = (Value.slice none 0 0).ownBlock ∨ vA.ownBlock = some s) : ∀ k, vA.ownBlock = some k → k = s := by
  intro k hk
  rcases ha with h1 | h1
  · rw [hk] at h1; simp [Value.ownBlock] at h1
  · rw [hk] at h1; exact Option.some.inj h1
theorem body_own {w : World} {F : Nat → Prop} {fb : Option Nat} {V : Option Addr} {d : Nat} {body : List Int} (h : w.ownsRow 0 5 1 (.slice V body.length d) body.length (u8s body)) (hF : ∀ k, (Value.slice V body.length d).ownBlock = some k → F k) (hn : ∀ k, (Value.slice V body.length d).ownBlock = some k → fb ≠ some k) : BodyAt w F fb V body := by
  intro h0
  rcases own_blk_of h with ⟨h1, h2⟩ | ⟨g, cap, cur, h1, hb, ht, _⟩
  · omega
  · simp only [Value.slice.injEq] at h1
    obtain ⟨rfl, _, _⟩ := h1
    exact ⟨g, cur, rfl, hb, by simpa using ht, hF g rfl, hn g rfl⟩
/-- What the network is that holds as much more. -/
theorem NetV.wide {w : World} {F F' : Nat → Prop} {g : Nat} {N : Net} {vF vL vC : Value} {mp : Nat} (h : NetV w F g N vF vL vC mp) (hF : ∀ k, F k → F' k) (hlt : ∀ k, F' k → k < w.heap.size) : NetV w F' g N vF vL vC mp :=
  h.evt (Evt.refl (fun _ => False) w) (fun _ _ h => h) hF hlt
@[reducible] def pkC (ack : Bool) (id : Int) (A : Option Addr) (n c : Nat) : List Value := [.bool ack, .int .i64 id, .slice A n c]
set_option maxHeartbeats 2000000 in
theorem send_any (g : Nat) (F : Nat → Prop) (N : Net) (ack : Bool) (id : Int) (body : List Int) (A : Option Addr) (c : Nat) (w : World) (h0 : NetAt w F g N) (hrc0 : RC w A (u8s body)) (hbl : body.length ≤ 140737488351232) (hl : ∀ c ∈ N.fates, letterB c) (hn : N.fly.length ≤ 1000000000000) :
    Calls Try.prog 12 #[.pointer (some ⟨g, 0, none⟩), .agg (pkC ack id A body.length c).toArray] w fun e w' => e = .returned (.tuple #[]) ∧ (∃ V d, NetAt w' (fun k => F k ∨ (w.heap.size ≤ k ∧ k < w'.heap.size)) g (handN N { ack := false, id := id, body := body, left := 0, A := V, c := d })) ∧ Evt F w w' := by
  obtain ⟨vF, vL, vC, mp, h⟩ := h0
  go_enter Try.func12, Try.ntmps12
  repeat' (first | (with_reducible refine' stop_reg (id := 1) ?_) | (with_reducible (first | refine' wp_seq ?_ | refine' wp_region_lit ?_ | refine' wpList_nil ?_ | refine' then_normal ?_)) | (((with_reducible refine' e_boxA ?hx ?_); (case hx => rfl)); intro _ _ _ _ _ _ _; (conv => arg 5; simp only [zA, zB, ev, lget, zC, zD, zE, zF, zG, zH, zI, zJ, zK, zL, zM, zN, zO])))
  rename_i gp wp p1 p2 hgp hevp hzp
  refine stop_go ?_
  have hrc := hrc0.up hevp
  have hv := h.up hevp
  have hFgp : ¬ F gp := fun hh => by have := h.lt gp hh; omega
  repeat' (first | ((with_reducible refine' w_tree (id := 1) (F) (.pure 0 (.pure 1 (.pure 2 (.pure 3 (.pure 4 (.one 5 (.pure 6 (.one 7 .done)))))))) [4, 5, 6, 7, 8, 9, 10, 11] (fun u w' => ∃ V d, NetAt w' (fun k => F k ∨ (w.heap.size ≤ k ∧ k < w'.heap.size)) g (handN N { ack := false, id := id, body := body, left := 0, A := V, c := d })) ?hm ?hn ?hl ?hB ?ta1 ?tb1); (case hm => kernel_rfl); (case hn => kernel_rfl); (case hl => kernel_rfl); (case hB => kernel_rfl); intro _ _ _) | ((with_reducible refine' tt_pure ?hi ?hv ?_); (case hi => rfl); (case hv => intro _ hqS; have hqz := hqS.size; (first | ((first | (with_reducible refine' g_move ?_) | ((with_reducible refine' g_fieldAddr ?hx ?ho ?_); (case hx => rfl); (case ho => rfl)) | ((with_reducible refine' g_loadB ?hx ?hb ?hc ?_); (case hx => rfl); (case hb => exact bqq); first | (case hc => rfl) | (case hn => simp only [List.length_cons, List.length_nil]; omega))); exact rfl) | ((with_reducible refine' g_build ?hl ?hp ?hs ?_); (case hl => rfl); (case hp => rfl); (case hs => rfl); exact rfl))); (conv => arg 6; simp only [zA, zB, ev, lget, zC, zD, zE, zF, zG, zH, zI, zJ, zK, zL, zM, zN, zO, fillL, splice, List.getD_cons_zero, List.getD_cons_succ, Value.cells])) | ((with_reducible refine' tt_one ?hi ?_); (case hi => rfl)) | ((with_reducible refine' tt_done ?hS ?_); (case hS => exact eqq)) | (with_reducible refine' tt_nil ?_) | ((with_reducible refine' e_appC (v := .slice none 0 0) (n := 0) (m := body.length) (xs := []) (news := u8s body) ?hx ?hy ?hzs ?hsz ?hown ?hl ?hr ?h1 ?hb ?hm ?_); (case hx => rfl); (case hy => rfl); (case hzs => rfl); (case hsz => decide); (case hown => exact World.ownsRow_nil _ _ _ _); (case hl => simp [u8s]); (case hr => exact hrc.up (by exact eqq)); (case h1 => exact u8s_one _); (case hb => omega); (case hm => omega); intro vA wA hoA heA0 haA hzA; have heA : Evt (fun _ => False) _ wA := heA0.mono (fun k _ hk => by simp [Value.ownBlock] at hk); clear heA0; simp only [Nat.zero_add, List.nil_append] at hoA; obtain ⟨VB, dB, hVB⟩ := own_slice hoA; subst hVB; (conv => arg 5; simp only [zA, zB, ev, lget, zC, zD, zE, zF, zG, zH, zI, zJ, zK, zL, zM, zN, zO])) | (go_at_call 28; refine (hand_any g (fun k => F k ∨ (Value.slice VB body.length dB).ownBlock = some k) N { ack := false, id := id, body := body, left := 0, A := VB, c := dB } vF vL vC mp _ ?hv2 ?hb2 hl hn).mono ?_; (case hv2 => exact hv.evt (S := fun _ => False) (by exact eqq) (fun _ _ h => h) (fun _ h => .inl h) (by rintro k (hk | hk); (have := hv.lt k hk; omega); exact own_lt hoA k hk)); (case hb2 => exact body_own hoA (fun k hk => .inr hk) (fun k hk hh => by have h1 := own_fresh haA k hk; have h2 := hv.fates.lt k hh; omega)); rintro e wH ⟨rfl, ⟨vF', vL', hN, hTs⟩, hevH⟩; have hzH := hevH.size; have hevT : Evt F wp wH := Evt.next hevH (by exact eqq) (by rintro i hi (h1 | h1); (rw [h1]; exact hv.fg); exact hv.fl i h1); clear hevH; refine ⟨_, rfl, ?_⟩; (conv => arg 5; simp only [zA, zB, ev, lget, zC, zD, zE, zF, zG, zH, zI, zJ, zK, zL, zM, zN, zO])) | (with_reducible refine' wpList_nil ?_) | ((with_reducible refine' l_call TFn.ent ?ha ?_); (case ha => simp only [zC, zD, ev, lget]; (try rfl))))
  all_goals try exact ⟨_, rfl, by simp only [setW, List.foldl_cons, List.foldl_nil, List.set_cons_succ, List.set_cons_zero], VB, dB, vF', vL', vC, mp, hN.wide (by
    rintro k ((hk | hk) | hk)
    · exact .inl hk
    · have h1 := own_fresh haA k hk
      have h2 := own_lt hoA k hk
      exact .inr (by omega)
    · exact .inr (by omega)) (by
    rintro k (hk | hk)
    · have := hv.lt k hk
      omega
    · exact hk.2)⟩
  rintro u w' hev' hz' ⟨V, d, hN⟩
  simp only [setW, List.foldl_cons, List.foldl_nil, List.set_cons_succ, List.set_cons_zero]
  repeat' (first | ((with_reducible refine' b_end0 ?hr ?_); (case hr => rfl)))
  exact ⟨rfl, ⟨V, d, hN⟩, Evt.next hev' (hevp.mono fun _ _ h => h.elim) (fun _ _ h => h)⟩
end Go.Proofs.Ytmngcpackbekiaa
