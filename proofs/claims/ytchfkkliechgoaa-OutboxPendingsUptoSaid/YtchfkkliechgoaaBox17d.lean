/- The outbox: a notice is taken out; a sending is counted. SHORT NORMX -/
import Derived.Test.YtchfkkliechgoaaBox17c
namespace Go.Proofs.Ytchfkkliechgoaa
open Go.RowKit Go.Proofs.YtchfkkliechgoaaE
set_option linter.unusedSimpArgs false
set_option linter.unusedVariables false
set_option maxRecDepth 4000

theorem ack_any (w : World) (F : Nat → Prop) (gb n : Nat) (p : Pol) (L : List En) (nid : Int) (h0 : BoxAt w F gb p n L) (hid : -9223372036854775808 ≤ nid ∧ nid ≤ 9223372036854775807) :
    Calls Try.prog 19 #[.pointer (some ⟨gb, 0, none⟩), .int .i64 nid] w fun e w' => e = .returned (.bool (decide (nid ∈ L.map (·.id)))) ∧ BoxAt w' F gb p n (L.filter fun e => decide (e.id ≠ nid)) ∧ Evt F w w' := by
  obtain ⟨A, c, mp, h⟩ := h0
  have hb := h.blk
  rw [← keysE_ids]
  obtain ⟨v, hat⟩ : ∃ v, AtKey (keysE L) nid v := by
    by_cases h2 : nid ∈ L.map (·.id)
    · obtain ⟨e, he, hei⟩ := List.mem_map.1 h2
      exact ⟨_, .inl ⟨e.g, List.mem_map.2 ⟨e, he, by rw [hei]⟩, rfl⟩⟩
    · exact ⟨_, .inr ⟨by rw [keysE_ids]; exact h2, rfl⟩⟩
  generalize hd : decide (nid ∈ (keysE L).map (·.1)) = d
  go_enter Try.func19, Try.ntmps19
  repeat' (first | ((with_reducible refine' l_step ?_); (with_reducible refine' g_lookPok (k := 3) (e := 82) (bl := mp) (n := n) (es := keysE L) ?hx ?hy ?hs ?h0 ?hv ?_); (case hx => rfl); (case hy => rfl); (case hs => exact h.map); (case h0 => exact hid); (case hv => exact hat); (conv => arg 5; simp only [zA, zB, ev, lget, zC, zD, zE, zF, zG, zH, zI, zJ, zK, zL, zM, zN, zO])) | ((with_reducible refine' e_delP (k := 3) (e := 82) (b := mp) (n := n) (es := keysE L) ?hx ?hy ?hs ?ha ?_); (case hx => rfl); (case hy => rfl); (case hs => exact h.map.evt (S := fun _ => False) (by exact eqq) (fun h => h)); (case ha => exact hid); intro wU hmapU evU zU; (conv => arg 5; simp only [zA, zB, ev, lget, zC, zD, zE, zF, zG, zH, zI, zJ, zK, zL, zM, zN, zO])) | (with_reducible (first | refine' wp_seq ?_ | refine' wp_region_lit ?_ | refine' wpList_nil ?_ | refine' then_normal ?_ | refine' wp_block ?_ | refine' wp_ret ?_ | refine' wp_skip ?_ | refine' wp_exit ?_ | refine' then_ret ?_ | refine' then_exit ?_ | refine' in_normal ?_ | refine' in_ret ?_ | refine' in_exit ?_)) | ((with_reducible refine' c_condT ?hx ?_); (case hx => rfl)) | ((with_reducible refine' c_condF ?hx ?_); (case hx => rfl)) | ((with_reducible refine' in_exit' ?hx ?_); (case hx => decide)) | ((with_reducible refine' b_ret1 ?hr ?hv ?_); (case hr => rfl); (case hv => ((try simp only [ev, lget]); (try rfl)))) | ((with_reducible refine' l_step ?_); ((first | (with_reducible refine' g_move ?_) | (with_reducible refine' g_assign ?_) | ((with_reducible refine' g_fieldAddr ?hx ?ho ?_); (case hx => rfl); (case ho => rfl)) | ((first | (with_reducible refine' g_loadB ?hx ?hb ?hc ?_) | (with_reducible refine' g_loadS ?hx ?hb ?hn ?_)); (case hx => rfl); (case hb => exact bqq); first | (case hc => rfl) | (case hn => simp only [List.length_cons, List.length_nil]; omega)) | ((with_reducible refine' g_loadC ?hx ?hc ?_); (case hx => rfl); (case hc => exact cqq)) | ((with_reducible refine' g_nilCheckP ?hx ?_); (case hx => rfl)) | ((with_reducible refine' g_extract ?hx ?hv ?_); (case hx => rfl); (case hv => rfl))); (conv => arg 5; simp only [zA, zB, ev, lget, zC, zD, zE, zF, zG, zH, zI, zJ, zK, zL, zM, zN, zO]))) | ((first | (with_reducible refine' l_call TFn.ent ?ha ?_) | (with_reducible refine' l_callN TFn.ent ?ha ?_)); (case ha => simp only [zC, zD, ev, lget]; (try rfl))))
  have hm : ∀ {P : En → Prop}, (∀ e ∈ L, P e) → ∀ e ∈ L.filter (fun e => decide (e.id ≠ nid)), P e := fun hL e he => hL e (List.mem_filter.1 he).1
  have hmpb : ∀ {k t cs}, Blk w k t cs → ¬ k = mp := fun hk hh => h.map.ne hk hh
  have evW : Evt (fun j => j = mp) w wU := by exact eqq
  refine ⟨by rw [hd], ⟨A, c, mp, ?_⟩, evW.mono (fun k _ hk => by have h' : k = mp := hk; rw [h']; exact h.fm)⟩
  exact {
    blk := hb.evt evW (hmpb hb)
    hol := h.hol.evt evW (fun b _ hk _ => hmpb hk) (fun _ h => h)
    hln := h.hln
    map := by
      have h1 : (keysE L).filter (fun x => decide (x.1 ≠ nid)) = keysE (L.filter fun e => decide (e.id ≠ nid)) := by
        simp only [keysE, List.filter_map]
        rfl
      rw [← h1]
      exact hmapU
    ent := fun e he => (hm h.ent e he).evt evW (hmpb (hm h.ent e he))
    bod := fun e he => (hm h.bod e he).evt evW (fun b _ hk _ => hmpb hk) (fun _ h => h)
    bln := hm h.bln
    srt := h.srt.filter _
    rng := hm h.rng
    gs := h.gs.filter _
    att := hm h.att
    fg := h.fg
    fm := h.fm
    fe := hm h.fe
    lt := fun k hk => Nat.lt_of_lt_of_le (h.lt k hk) evW.size }
def laterP (now wait : Int) : Int := if 9223372036854775807 - wait < now then 9223372036854775807 else now + wait
theorem sent_any (w : World) (e : En) (now wait : Int) (h : Blk w e.g 85 (enC e)) (hn : -9223372036854775808 ≤ now ∧ now ≤ 9223372036854775807) (hw : 0 ≤ wait ∧ wait ≤ 64) :
    Calls Try.prog 37 #[.pointer (some ⟨e.g, 0, none⟩), .int .i64 now, .int .i64 wait] w fun x w' => x = .returned (.tuple #[]) ∧ Blk w' e.g 85 (enC { e with nxt := laterP now wait }) ∧ Evt (fun j => j = e.g) w w' := by
  by_cases hc : 9223372036854775807 - wait < now
  · rw [laterP, if_pos hc]
    go_enter Try.func37, Try.ntmps37
    repeat' (first | (with_reducible (first | refine' wp_seq ?_ | refine' wp_region_lit ?_ | refine' wpList_nil ?_ | refine' then_normal ?_ | refine' wp_block ?_ | refine' wp_ret ?_ | refine' wp_skip ?_ | refine' wp_exit ?_ | refine' then_ret ?_ | refine' then_exit ?_ | refine' in_normal ?_ | refine' in_ret ?_ | refine' in_exit ?_)) | ((with_reducible refine' c_condT ?hx ?_); (case hx => rfl)) | ((with_reducible refine' c_condF ?hx ?_); (case hx => rfl)) | ((with_reducible refine' in_exit' ?hx ?_); (case hx => decide)) | ((first | (with_reducible refine' b_ret0 ?hr ?_) | (with_reducible refine' b_end0 ?hr ?_)); (case hr => rfl)) | ((with_reducible refine' l_step ?_); (first | ((first | (with_reducible refine' g_move ?_) | (with_reducible refine' g_assign ?_) | ((with_reducible refine' g_fieldAddr ?hx ?ho ?_); (case hx => rfl); (case ho => rfl)) | ((first | (with_reducible refine' g_addN ?hx ?hy ?h0 ?h1 ?_) | (with_reducible refine' g_subN ?hx ?hy ?h0 ?h1 ?_)); (case hx => rfl); (case hy => rfl); (case h0 => omega); (case h1 => omega)) | ((first | (with_reducible refine' g_add ?hx ?hy ?_) | (with_reducible refine' g_sub ?hx ?hy ?_)); (case hx => rfl); (case hy => rfl)) | ((with_reducible refine' g_nilCheckP ?hx ?_); (case hx => rfl))); (conv => arg 5; simp only [zA, zB, ev, lget, zC, zD, zE, zF, zG, zH, zI, zJ, zK, zL, zM, zN, zO])) | (((with_reducible refine' g_gtr ?hx ?hy (fun _ => ?_) (fun _ => ?_)); (case hx => rfl)); (case hy => rfl); all_goals (first | (exfalso; omega) | (conv => arg 5; simp only [zA, zB, ev, lget, zC, zD, zE, zF, zG, zH, zI, zJ, zK, zL, zM, zN, zO]))))) | ((first | ((with_reducible refine' e_storeB ?hx ?hy ?hv ?h1 ?hb ?ho ?_); (case hx => rfl); (case hy => ((try simp only [ev, lget]); (try rfl))); (case hv => rfl); (case h1 => rfl)) | ((with_reducible refine' e_storeR ?hx ?hy ?h1 ?hb ?hn ?ho ?_); (case hx => rfl); (case hy => rfl); (case h1 => simp [Value.oneCell']); (case hn => rfl))); (case hb => exact bqq); (case ho => first | (simp only [List.length_cons, List.length_nil]; omega) | omega | (simp; omega) | simp); (try simp only [splice, zA, zB]); intro _ _ _ _))
    rename_i w1 hb1 ev1 z1
    exact ⟨rfl, hb1, ev1⟩
  · rw [laterP, if_neg hc]
    go_enter Try.func37, Try.ntmps37
    repeat' (first | (with_reducible (first | refine' wp_seq ?_ | refine' wp_region_lit ?_ | refine' wpList_nil ?_ | refine' then_normal ?_ | refine' wp_block ?_ | refine' wp_ret ?_ | refine' wp_skip ?_ | refine' wp_exit ?_ | refine' then_ret ?_ | refine' then_exit ?_ | refine' in_normal ?_ | refine' in_ret ?_ | refine' in_exit ?_)) | ((with_reducible refine' c_condT ?hx ?_); (case hx => rfl)) | ((with_reducible refine' c_condF ?hx ?_); (case hx => rfl)) | ((with_reducible refine' in_exit' ?hx ?_); (case hx => decide)) | ((first | (with_reducible refine' b_ret0 ?hr ?_) | (with_reducible refine' b_end0 ?hr ?_)); (case hr => rfl)) | ((with_reducible refine' l_step ?_); (first | ((first | (with_reducible refine' g_move ?_) | (with_reducible refine' g_assign ?_) | ((with_reducible refine' g_fieldAddr ?hx ?ho ?_); (case hx => rfl); (case ho => rfl)) | ((first | (with_reducible refine' g_addN ?hx ?hy ?h0 ?h1 ?_) | (with_reducible refine' g_subN ?hx ?hy ?h0 ?h1 ?_)); (case hx => rfl); (case hy => rfl); (case h0 => omega); (case h1 => omega)) | ((first | (with_reducible refine' g_add ?hx ?hy ?_) | (with_reducible refine' g_sub ?hx ?hy ?_)); (case hx => rfl); (case hy => rfl)) | ((with_reducible refine' g_nilCheckP ?hx ?_); (case hx => rfl))); (conv => arg 5; simp only [zA, zB, ev, lget, zC, zD, zE, zF, zG, zH, zI, zJ, zK, zL, zM, zN, zO])) | (((with_reducible refine' g_gtr ?hx ?hy (fun _ => ?_) (fun _ => ?_)); (case hx => rfl)); (case hy => rfl); all_goals (first | (exfalso; omega) | (conv => arg 5; simp only [zA, zB, ev, lget, zC, zD, zE, zF, zG, zH, zI, zJ, zK, zL, zM, zN, zO]))))) | ((first | ((with_reducible refine' e_storeB ?hx ?hy ?hv ?h1 ?hb ?ho ?_); (case hx => rfl); (case hy => ((try simp only [ev, lget]); (try rfl))); (case hv => rfl); (case h1 => rfl)) | ((with_reducible refine' e_storeR ?hx ?hy ?h1 ?hb ?hn ?ho ?_); (case hx => rfl); (case hy => rfl); (case h1 => simp [Value.oneCell']); (case hn => rfl))); (case hb => exact bqq); (case ho => first | (simp only [List.length_cons, List.length_nil]; omega) | omega | (simp; omega) | simp); (try simp only [splice, zA, zB]); intro _ _ _ _))
    rename_i w1 hb1 ev1 z1
    exact ⟨rfl, hb1, ev1⟩
end Go.Proofs.Ytchfkkliechgoaa
