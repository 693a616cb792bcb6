/- The outbox in memory; copies of slices. SHORT NORMX -/
import Derived.Test.YtchfkkliechgoaaBack
import Derived.Test.YtchfkkliechgoaaOps13
namespace Go.Proofs.Ytchfkkliechgoaa
open Go.RowKit Go.Proofs.YtchfkkliechgoaaE
set_option linter.unusedSimpArgs false
set_option linter.unusedVariables false
set_option maxRecDepth 4000

def u8s (xs : List Int) : List Value := xs.map (Value.int .u8)
theorem u8s_length (xs : List Int) : (u8s xs).length = xs.length := by simp [u8s]
theorem u8s_one (xs : List Int) : ∀ u ∈ u8s xs, u.oneCell' = true := by intro u hu; simp only [u8s, List.mem_map] at hu; obtain ⟨z, _, rfl⟩ := hu; rfl
theorem ints_one (xs : List Int) : ∀ u ∈ ints xs, u.oneCell' = true := by intro u hu; simp only [ints, List.mem_map] at hu; obtain ⟨z, _, rfl⟩ := hu; rfl
theorem own_typ {w : World} {e : TypeId} {sz n : Nat} {v : Value} {xs : List Value} (h : w.ownsRow 0 e sz v n xs) : ∀ k, v.ownBlock = some k → ∃ cur, Blk w k e cur := by
  intro k hk
  rcases own_blk_of h with ⟨rfl, _⟩ | ⟨g, cap, cur, rfl, hb, _⟩
  · simp [Value.ownBlock] at hk
  · simp only [Value.ownBlock, Option.some.injEq] at hk
    subst hk
    exact ⟨cur, hb⟩
theorem RI.rc {w : World} {A : Option Addr} {xs : List Int} (h : RI w A xs) : RC w A (ints xs) := fun hn => by
  rw [ints_length] at hn
  obtain ⟨b, o, rfl, hc⟩ := h.2 hn
  refine ⟨b, o, rfl, fun j v hj => ?_⟩
  simp only [ints, List.getElem?_map, Option.map_eq_some_iff] at hj
  obtain ⟨x, hx, rfl⟩ := hj
  exact hc j x hx
/-- Cells at the head of a block of that type, in F. -/
def RowAt (w : World) (F : Nat → Prop) (t : TypeId) (A : Option Addr) (cs : List Value) : Prop := 0 < cs.length → ∃ b cur, A = some ⟨b, 0, none⟩ ∧ Blk w b t cur ∧ cur.take cs.length = cs ∧ F b
theorem RowAt.evt {S F F' : Nat → Prop} {w w' : World} {t : TypeId} {A : Option Addr} {cs : List Value} (h : RowAt w F t A cs) (he : Evt S w w') (hs : ∀ b cur, Blk w b t cur → F b → ¬ S b) (hF : ∀ k, F k → F' k) : RowAt w' F' t A cs := fun hn => by
  obtain ⟨b, cur, hA, hb, ht, hFb⟩ := h hn
  exact ⟨b, cur, hA, hb.evt he (hs b cur hb hFb), ht, hF b hFb⟩
theorem RowAt.up {F : Nat → Prop} {w w' : World} {t : TypeId} {A : Option Addr} {cs : List Value} (h : RowAt w F t A cs) (he : Evt (fun _ => False) w w') : RowAt w' F t A cs := h.evt he (fun _ _ _ _ => id) (fun _ h => h)
theorem RowAt.rc {F : Nat → Prop} {w : World} {t : TypeId} {A : Option Addr} {cs : List Value} (h : RowAt w F t A cs) : RC w A cs := fun hn => by
  obtain ⟨b, cur, rfl, hb, ht, _⟩ := h hn
  exact RC.blk hb _ ht hn
theorem rowAt_own {F : Nat → Prop} {w : World} {t : TypeId} {V : Option Addr} {n d : Nat} {cs : List Value} (h : w.ownsRow 0 t 1 (.slice V n d) n cs) (hF : ∀ k, (Value.slice V n d).ownBlock = some k → F k) : RowAt w F t V cs := by
  intro h0
  have hl := h.1
  rcases own_blk_of h with ⟨h1, h2⟩ | ⟨g, cap, cur, h1, hb, ht, _⟩
  · omega
  · simp only [Value.slice.injEq] at h1
    obtain ⟨rfl, _, _⟩ := h1
    exact ⟨g, cur, rfl, hb, by rw [hl]; exact ht, hF g rfl⟩
theorem RowAt.ri {F : Nat → Prop} {w : World} {A : Option Addr} {xs : List Int} (h : RowAt w F 3 A (ints xs)) (hl : xs.length ≤ 9223372036854775807) : RI w A xs := by
  refine ⟨hl, fun h0 => ?_⟩
  obtain ⟨b, o, hA, hc⟩ := h.rc (by rw [ints_length]; exact h0)
  exact ⟨b, o, hA, fun j x hj => hc j _ (by simp [ints, hj])⟩
theorem own_newb {vA : Value} {g s : Nat} (ha : vA.ownBlock = some g ∨ vA.ownBlock = some s) {B : Nat} (hg : B ≤ g) (hs : B ≤ s) : ∀ k, vA.ownBlock = some k → B ≤ k := by
  intro k hk
  rcases ha with h1 | h1
  · rw [h1] at hk; have := Option.some.inj hk; omega
  · rw [h1] at hk; have := Option.some.inj hk; omega
theorem clone_any (A : Option Addr) (n c : Nat) (body : List Int) (w : World) (hrc : RC w A (u8s body)) (hn : body.length = n) (hbl : n ≤ 140737488351232) :
    Calls Try.prog 35 #[.slice A n c] w fun e w' => ∃ V d, e = .returned (.slice V n d) ∧ w'.ownsRow 0 5 1 (.slice V n d) n (u8s body) ∧ (∀ k, (Value.slice V n d).ownBlock = some k → w.heap.size ≤ k) ∧ Evt (fun _ => False) w w' := by
  subst hn
  cases A with
  | none =>
    have h0 : body = [] := by
      rcases Nat.eq_zero_or_pos body.length with h | h
      · exact List.eq_nil_of_length_eq_zero h
      · obtain ⟨b, o, h1, _⟩ := hrc (by rw [u8s_length]; exact h); cases h1
    subst h0
    go_enter Try.func35, Try.ntmps35
    repeat' (first | ((with_reducible refine' l_step ?_); (with_reducible refine' g_eqlSlN ?hx ?hy ?_); (case hx => rfl); (case hy => rfl); (conv => arg 5; simp only [zA, zB, ev, lget, zC, zD, zE, zF, zG, zH, zI, zJ, zK, zL, zM, zN, zO])) | (with_reducible (first | refine' wp_seq ?_ | refine' wp_region_lit ?_ | refine' wpList_nil ?_ | refine' then_normal ?_ | refine' wp_block ?_ | refine' wp_ret ?_ | refine' wp_skip ?_ | refine' wp_exit ?_ | refine' then_ret ?_ | refine' then_exit ?_ | refine' in_normal ?_ | refine' in_ret ?_ | refine' in_exit ?_)) | ((with_reducible refine' c_condT ?hx ?_); (case hx => rfl)) | ((with_reducible refine' c_condF ?hx ?_); (case hx => rfl)) | ((with_reducible refine' in_exit' ?hx ?_); (case hx => decide)) | ((with_reducible refine' b_ret1 ?hr ?hv ?_); (case hr => rfl); (case hv => ((try simp only [ev, lget]); (try rfl)))) | ((with_reducible refine' l_step ?_); (first | ((first | (with_reducible refine' g_move ?_) | (with_reducible refine' g_assign ?_)); (conv => arg 5; simp only [zA, zB, ev, lget, zC, zD, zE, zF, zG, zH, zI, zJ, zK, zL, zM, zN, zO])) | ((first | ((with_reducible refine' g_eql ?hx ?hy (fun _ => ?_) (fun _ => ?_)); (case hx => rfl)) | ((with_reducible refine' g_eqlB ?hx ?hy (fun _ => ?_) (fun _ => ?_)); (case hx => rfl))); (case hy => rfl); all_goals (first | (exfalso; omega) | (conv => arg 5; simp only [zA, zB, ev, lget, zC, zD, zE, zF, zG, zH, zI, zJ, zK, zL, zM, zN, zO]))))) | (((with_reducible refine' e_sliceLit ?hx ?hi ?hv ?hn ?_); (case hx => simp only [zC, zD, ev, lget]; (try rfl)); (case hi => rfl); (case hv => simp [Value.cells]); (case hn => decide); simp only [List.flatMap_cons, List.flatMap_nil, Value.cells, List.cons_append, List.nil_append]); intro _ _ _ _ _ _ _; (conv => arg 5; simp only [zA, zB, ev, lget, zC, zD, zE, zF, zG, zH, zI, zJ, zK, zL, zM, zN, zO])) | ((first | (with_reducible refine' l_call TFn.ent ?ha ?_) | (with_reducible refine' l_callN TFn.ent ?ha ?_)); (case ha => simp only [zC, zD, ev, lget]; (try rfl))))
    exact ⟨none, 0, rfl, World.ownsRow_nil _ _ _ _, by simp [Value.ownBlock], by exact eqq⟩
  | some a =>
    go_enter Try.func35, Try.ntmps35
    repeat' (first | ((with_reducible refine' l_step ?_); (with_reducible refine' g_eqlSlN ?hx ?hy ?_); (case hx => rfl); (case hy => rfl); (conv => arg 5; simp only [zA, zB, ev, lget, zC, zD, zE, zF, zG, zH, zI, zJ, zK, zL, zM, zN, zO])) | ((with_reducible refine' e_slice0 ?_); intro g0 w0 hg01 hg02 hgb0 hev0 hz0; have ho0 := own_empty (sz := 1) hgb0; (conv => arg 5; simp only [zA, zB, ev, lget, zC, zD, zE, zF, zG, zH, zI, zJ, zK, zL, zM, zN, zO])) | ((with_reducible refine' e_appC (v := .slice (some ⟨g0, 0, none⟩) 0 0) (n := 0) (m := body.length) (xs := []) (news := u8s body) ?hx ?hy ?hzs ?hsz ?hown ?hl ?hr ?h1 ?hb ?hm ?_); (case hx => rfl); (case hy => rfl); (case hzs => rfl); (case hsz => decide); (case hown => exact ho0); (case hl => simp [u8s]); (case hr => exact hrc.up (by exact eqq)); (case h1 => exact u8s_one _); (case hb => omega); (case hm => omega); intro vA wA hoA heA0 haA hzA; simp only [Nat.zero_add, List.nil_append] at hoA; obtain ⟨VB, dB, hVB⟩ := own_slice hoA; subst hVB; (conv => arg 5; simp only [zA, zB, ev, lget, zC, zD, zE, zF, zG, zH, zI, zJ, zK, zL, zM, zN, zO])) | (with_reducible (first | refine' wp_seq ?_ | refine' wp_region_lit ?_ | refine' wpList_nil ?_ | refine' then_normal ?_ | refine' wp_block ?_ | refine' wp_ret ?_ | refine' wp_skip ?_ | refine' wp_exit ?_ | refine' then_ret ?_ | refine' then_exit ?_ | refine' in_normal ?_ | refine' in_ret ?_ | refine' in_exit ?_)) | ((with_reducible refine' c_condT ?hx ?_); (case hx => rfl)) | ((with_reducible refine' c_condF ?hx ?_); (case hx => rfl)) | ((with_reducible refine' in_exit' ?hx ?_); (case hx => decide)) | ((with_reducible refine' b_ret1 ?hr ?hv ?_); (case hr => rfl); (case hv => ((try simp only [ev, lget]); (try rfl)))) | ((with_reducible refine' l_step ?_); (first | ((first | (with_reducible refine' g_move ?_) | (with_reducible refine' g_assign ?_)); (conv => arg 5; simp only [zA, zB, ev, lget, zC, zD, zE, zF, zG, zH, zI, zJ, zK, zL, zM, zN, zO])) | ((first | ((with_reducible refine' g_eql ?hx ?hy (fun _ => ?_) (fun _ => ?_)); (case hx => rfl)) | ((with_reducible refine' g_eqlB ?hx ?hy (fun _ => ?_) (fun _ => ?_)); (case hx => rfl))); (case hy => rfl); all_goals (first | (exfalso; omega) | (conv => arg 5; simp only [zA, zB, ev, lget, zC, zD, zE, zF, zG, zH, zI, zJ, zK, zL, zM, zN, zO]))))) | (((with_reducible refine' e_sliceLit ?hx ?hi ?hv ?hn ?_); (case hx => simp only [zC, zD, ev, lget]; (try rfl)); (case hi => rfl); (case hv => simp [Value.cells]); (case hn => decide); simp only [List.flatMap_cons, List.flatMap_nil, Value.cells, List.cons_append, List.nil_append]); intro _ _ _ _ _ _ _; (conv => arg 5; simp only [zA, zB, ev, lget, zC, zD, zE, zF, zG, zH, zI, zJ, zK, zL, zM, zN, zO])) | ((first | (with_reducible refine' l_call TFn.ent ?ha ?_) | (with_reducible refine' l_callN TFn.ent ?ha ?_)); (case ha => simp only [zC, zD, ev, lget]; (try rfl))))
    exact ⟨VB, dB, rfl, hoA, own_newb (B := w.heap.size) haA (by omega) (by omega), Evt.next heA0 hev0 (fun i hi hh => by have h1 := hh; simp only [Value.ownBlock, Option.some.injEq] at h1; omega)⟩
theorem cloneI_any (A : Option Addr) (n c : Nat) (xs : List Int) (w : World) (hri : RI w A xs) (hn : xs.length = n) (hbl : n * 8 ≤ 140737488351232) :
    Calls Try.prog 33 #[.slice A n c] w fun e w' => ∃ V d, e = .returned (.slice V n d) ∧ w'.ownsRow 0 3 1 (.slice V n d) n (ints xs) ∧ (∀ k, (Value.slice V n d).ownBlock = some k → w.heap.size ≤ k) ∧ Evt (fun _ => False) w w' := by
  subst hn
  have hrc := hri.rc
  cases A with
  | none =>
    have h0 : xs = [] := by
      rcases Nat.eq_zero_or_pos xs.length with h | h
      · exact List.eq_nil_of_length_eq_zero h
      · obtain ⟨b, o, h1, _⟩ := hrc (by rw [ints_length]; exact h); cases h1
    subst h0
    go_enter Try.func33, Try.ntmps33
    repeat' (first | ((with_reducible refine' l_step ?_); (with_reducible refine' g_eqlSlN ?hx ?hy ?_); (case hx => rfl); (case hy => rfl); (conv => arg 5; simp only [zA, zB, ev, lget, zC, zD, zE, zF, zG, zH, zI, zJ, zK, zL, zM, zN, zO])) | (with_reducible (first | refine' wp_seq ?_ | refine' wp_region_lit ?_ | refine' wpList_nil ?_ | refine' then_normal ?_ | refine' wp_block ?_ | refine' wp_ret ?_ | refine' wp_skip ?_ | refine' wp_exit ?_ | refine' then_ret ?_ | refine' then_exit ?_ | refine' in_normal ?_ | refine' in_ret ?_ | refine' in_exit ?_)) | ((with_reducible refine' c_condT ?hx ?_); (case hx => rfl)) | ((with_reducible refine' c_condF ?hx ?_); (case hx => rfl)) | ((with_reducible refine' in_exit' ?hx ?_); (case hx => decide)) | ((with_reducible refine' b_ret1 ?hr ?hv ?_); (case hr => rfl); (case hv => ((try simp only [ev, lget]); (try rfl)))) | ((with_reducible refine' l_step ?_); (first | ((first | (with_reducible refine' g_move ?_) | (with_reducible refine' g_assign ?_)); (conv => arg 5; simp only [zA, zB, ev, lget, zC, zD, zE, zF, zG, zH, zI, zJ, zK, zL, zM, zN, zO])) | ((first | ((with_reducible refine' g_eql ?hx ?hy (fun _ => ?_) (fun _ => ?_)); (case hx => rfl)) | ((with_reducible refine' g_eqlB ?hx ?hy (fun _ => ?_) (fun _ => ?_)); (case hx => rfl))); (case hy => rfl); all_goals (first | (exfalso; omega) | (conv => arg 5; simp only [zA, zB, ev, lget, zC, zD, zE, zF, zG, zH, zI, zJ, zK, zL, zM, zN, zO]))))) | (((with_reducible refine' e_sliceLit ?hx ?hi ?hv ?hn ?_); (case hx => simp only [zC, zD, ev, lget]; (try rfl)); (case hi => rfl); (case hv => simp [Value.cells]); (case hn => decide); simp only [List.flatMap_cons, List.flatMap_nil, Value.cells, List.cons_append, List.nil_append]); intro _ _ _ _ _ _ _; (conv => arg 5; simp only [zA, zB, ev, lget, zC, zD, zE, zF, zG, zH, zI, zJ, zK, zL, zM, zN, zO])) | ((first | (with_reducible refine' l_call TFn.ent ?ha ?_) | (with_reducible refine' l_callN TFn.ent ?ha ?_)); (case ha => simp only [zC, zD, ev, lget]; (try rfl))))
    exact ⟨none, 0, rfl, World.ownsRow_nil _ _ _ _, by simp [Value.ownBlock], by exact eqq⟩
  | some a =>
    go_enter Try.func33, Try.ntmps33
    repeat' (first | ((with_reducible refine' l_step ?_); (with_reducible refine' g_eqlSlN ?hx ?hy ?_); (case hx => rfl); (case hy => rfl); (conv => arg 5; simp only [zA, zB, ev, lget, zC, zD, zE, zF, zG, zH, zI, zJ, zK, zL, zM, zN, zO])) | ((with_reducible refine' e_slice0 ?_); intro g0 w0 hg01 hg02 hgb0 hev0 hz0; have ho0 := own_empty (sz := 1) hgb0; (conv => arg 5; simp only [zA, zB, ev, lget, zC, zD, zE, zF, zG, zH, zI, zJ, zK, zL, zM, zN, zO])) | ((with_reducible refine' e_appC (v := .slice (some ⟨g0, 0, none⟩) 0 0) (n := 0) (m := xs.length) (xs := []) (news := ints xs) ?hx ?hy ?hzs ?hsz ?hown ?hl ?hr ?h1 ?hb ?hm ?_); (case hx => rfl); (case hy => rfl); (case hzs => rfl); (case hsz => decide); (case hown => exact ho0); (case hl => simp [ints]); (case hr => exact hrc.up (by exact eqq)); (case h1 => exact ints_one _); (case hb => omega); (case hm => omega); intro vA wA hoA heA0 haA hzA; simp only [Nat.zero_add, List.nil_append] at hoA; obtain ⟨VB, dB, hVB⟩ := own_slice hoA; subst hVB; (conv => arg 5; simp only [zA, zB, ev, lget, zC, zD, zE, zF, zG, zH, zI, zJ, zK, zL, zM, zN, zO])) | (with_reducible (first | refine' wp_seq ?_ | refine' wp_region_lit ?_ | refine' wpList_nil ?_ | refine' then_normal ?_ | refine' wp_block ?_ | refine' wp_ret ?_ | refine' wp_skip ?_ | refine' wp_exit ?_ | refine' then_ret ?_ | refine' then_exit ?_ | refine' in_normal ?_ | refine' in_ret ?_ | refine' in_exit ?_)) | ((with_reducible refine' c_condT ?hx ?_); (case hx => rfl)) | ((with_reducible refine' c_condF ?hx ?_); (case hx => rfl)) | ((with_reducible refine' in_exit' ?hx ?_); (case hx => decide)) | ((with_reducible refine' b_ret1 ?hr ?hv ?_); (case hr => rfl); (case hv => ((try simp only [ev, lget]); (try rfl)))) | ((with_reducible refine' l_step ?_); (first | ((first | (with_reducible refine' g_move ?_) | (with_reducible refine' g_assign ?_)); (conv => arg 5; simp only [zA, zB, ev, lget, zC, zD, zE, zF, zG, zH, zI, zJ, zK, zL, zM, zN, zO])) | ((first | ((with_reducible refine' g_eql ?hx ?hy (fun _ => ?_) (fun _ => ?_)); (case hx => rfl)) | ((with_reducible refine' g_eqlB ?hx ?hy (fun _ => ?_) (fun _ => ?_)); (case hx => rfl))); (case hy => rfl); all_goals (first | (exfalso; omega) | (conv => arg 5; simp only [zA, zB, ev, lget, zC, zD, zE, zF, zG, zH, zI, zJ, zK, zL, zM, zN, zO]))))) | (((with_reducible refine' e_sliceLit ?hx ?hi ?hv ?hn ?_); (case hx => simp only [zC, zD, ev, lget]; (try rfl)); (case hi => rfl); (case hv => simp [Value.cells]); (case hn => decide); simp only [List.flatMap_cons, List.flatMap_nil, Value.cells, List.cons_append, List.nil_append]); intro _ _ _ _ _ _ _; (conv => arg 5; simp only [zA, zB, ev, lget, zC, zD, zE, zF, zG, zH, zI, zJ, zK, zL, zM, zN, zO])) | ((first | (with_reducible refine' l_call TFn.ent ?ha ?_) | (with_reducible refine' l_callN TFn.ent ?ha ?_)); (case ha => simp only [zC, zD, ev, lget]; (try rfl))))
    exact ⟨VB, dB, rfl, hoA, own_newb (B := w.heap.size) haA (by omega) (by omega), Evt.next heA0 hev0 (fun i hi hh => by have h1 := hh; simp only [Value.ownBlock, Option.some.injEq] at h1; omega)⟩
end Go.Proofs.Ytchfkkliechgoaa
