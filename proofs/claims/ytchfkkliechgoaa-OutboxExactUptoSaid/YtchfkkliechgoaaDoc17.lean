/- The document's box in memory; its answers: Holds, copied, later, Ack. SHORT NORMX -/
import Derived.Test.YtchfkkliechgoaaHlp17c
import Derived.Test.YtchfkkliechgoaaNb17
namespace Go.Proofs.Ytchfkkliechgoaa
open Go.RowKit Go.Proofs.YtchfkkliechgoaaE
set_option linter.unusedSimpArgs false
set_option linter.unusedVariables false
set_option maxRecDepth 4000

/-- Cells that can be read, in G. -/
def RG (w : World) (G : Nat → Prop) (A : Option Addr) (cs : List Value) : Prop := 0 < cs.length → ∃ b o, A = some ⟨b, o, none⟩ ∧ G b ∧ ∀ j v, cs[j]? = some v → w.cell? ⟨b, o + j, none⟩ = some v
theorem RG.rc {w : World} {G : Nat → Prop} {A : Option Addr} {cs : List Value} (h : RG w G A cs) : RC w A cs := fun hn => by
  obtain ⟨b, o, hA, _, hc⟩ := h hn
  exact ⟨b, o, hA, hc⟩
theorem cell_bl0 {w : World} {a : Addr} {v : Value} (h : w.cell? a = some v) : a.block < w.heap.size := by
  rcases Nat.lt_or_ge a.block w.heap.size with h1 | h1
  · exact h1
  · exfalso
    unfold World.cell? at h
    rw [Array.getElem?_eq_none h1] at h
    simp at h
theorem RG.evt {S : Nat → Prop} {w w' : World} {G G' : Nat → Prop} {A : Option Addr} {cs : List Value} (h : RG w G A cs) (he : Evt S w w') (hs : ∀ k, k < w.heap.size → G k → ¬ S k) (hG : ∀ k, G k → G' k) : RG w' G' A cs := fun hn => by
  obtain ⟨b, o, hA, hg, hc⟩ := h hn
  have hlt : b < w.heap.size := cell_bl0 (hc 0 _ (List.getElem?_eq_getElem hn))
  exact ⟨b, o, hA, hG b hg, fun j v hj => cell_evt he (hc j v hj) (hs b hlt hg)⟩
theorem RG.own {w : World} {G : Nat → Prop} {e : TypeId} {sz n c : Nat} {A : Option Addr} {xs : List Value} (h : w.ownsRow 0 e sz (.slice A n c) n xs) (hG : ∀ k, (Value.slice A n c).ownBlock = some k → G k) : RG w G A xs := by
  intro hn
  obtain ⟨b, o, hA, hc⟩ := own_rc h hn
  refine ⟨b, o, hA, ?_, hc⟩
  rcases own_blk_of h with ⟨h1, h2⟩ | ⟨g, cap, cur, h1, hb, ht, _⟩
  · have := h.1
    simp only [h2, Nat.zero_mul] at this
    omega
  · simp only [Value.slice.injEq] at h1
    obtain ⟨rfl, _, _⟩ := h1
    cases hA
    exact hG _ rfl
/-- What was there, and what is new. -/
@[reducible] def Gn (G : Nat → Prop) (w w' : World) : Nat → Prop := fun k => G k ∨ (w.heap.size ≤ k ∧ k < w'.heap.size)
theorem RG.gn {w w' : World} {G : Nat → Prop} {A : Option Addr} {cs : List Value} (h : RG w G A cs) (he : Evt (fun _ => False) w w') : RG w' (Gn G w w') A cs := h.evt he (fun _ _ _ h => h) (fun _ h => .inl h)
theorem RG.up {w w' : World} {G : Nat → Prop} {A : Option Addr} {cs : List Value} (h : RG w G A cs) (he : Evt (fun _ => False) w w') : RG w' G A cs := h.evt he (fun _ _ _ h => h) (fun _ h => h)
theorem RG.mono {w : World} {G G' : Nat → Prop} {A : Option Addr} {cs : List Value} (h : RG w G A cs) (hG : ∀ k, G k → G' k) : RG w G' A cs := fun hn => by
  obtain ⟨b, o, hA, hg, hc⟩ := h hn
  exact ⟨b, o, hA, hG b hg, hc⟩
/-- Notices that can be read, in G. -/
structure NtG (w : World) (G : Nat → Prop) (A : Option Addr) (l : List Nt) : Prop where
  row : RG w G A (ntCs l)
  bod : ∀ m ∈ l, RG w G m.b.A (u8s m.b.body)
theorem NtG.nt {w : World} {G : Nat → Prop} {A : Option Addr} {l : List Nt} (h : NtG w G A l) : NtAt w A l := ⟨h.row.rc, fun m hm => (h.bod m hm).rc⟩
theorem NtG.evt {S : Nat → Prop} {w w' : World} {G G' : Nat → Prop} {A : Option Addr} {l : List Nt} (h : NtG w G A l) (he : Evt S w w') (hs : ∀ k, k < w.heap.size → G k → ¬ S k) (hG : ∀ k, G k → G' k) : NtG w' G' A l := ⟨h.row.evt he hs hG, fun m hm => (h.bod m hm).evt he hs hG⟩
theorem NtG.up {w w' : World} {G : Nat → Prop} {A : Option Addr} {l : List Nt} (h : NtG w G A l) (he : Evt (fun _ => False) w w') : NtG w' G A l := h.evt he (fun _ _ _ h => h) (fun _ h => h)
theorem NtG.own {w w' : World} {G : Nat → Prop} {A : Option Addr} {n c : Nat} {l : List Nt} (h : w'.ownsRow 0 53 4 (.slice A n c) n (ntCs l)) (hlo : ∀ k, (Value.slice A n c).ownBlock = some k → w.heap.size ≤ k) (hb : ∀ m ∈ l, RG w' (Gn G w w') m.b.A (u8s m.b.body)) : NtG w' (Gn G w w') A l :=
  ⟨RG.own h (fun k hk => .inr ⟨hlo k hk, own_lt h k hk⟩), hb⟩
/-- Packets that can be read, in G. -/
structure PkG (w : World) (G : Nat → Prop) (A : Option Addr) (l : List Pk) : Prop where
  row : RG w G A (pkCs l)
  bod : ∀ m ∈ l, RG w G m.b.A (u8s m.b.body)
theorem PkG.pk {w : World} {G : Nat → Prop} {A : Option Addr} {l : List Pk} (h : PkG w G A l) : PkAt w A l := ⟨h.row.rc, fun m hm => (h.bod m hm).rc⟩
theorem PkG.evt {S : Nat → Prop} {w w' : World} {G G' : Nat → Prop} {A : Option Addr} {l : List Pk} (h : PkG w G A l) (he : Evt S w w') (hs : ∀ k, k < w.heap.size → G k → ¬ S k) (hG : ∀ k, G k → G' k) : PkG w' G' A l := ⟨h.row.evt he hs hG, fun m hm => (h.bod m hm).evt he hs hG⟩
set_option maxHeartbeats 1000000 in
theorem holds_r (A : Option Addr) (c n : Nat) (rs : List Nt) (nid : Int) (w : World) (h : NtAt w A rs) (hn : rs.length = n) (hl : n ≤ 9223372036854775807) :
    Calls Try.prog 47 #[.agg #[.slice A n c], .int .i64 nid] w fun e w' => e = .returned (.bool (decide (nid ∈ rs.map (·.id)))) ∧ Evt (fun _ => False) w w' := by
  subst hn
  go_enter Try.func47, Try.ntmps47
  repeat' (first | (with_reducible refine' stop_reg (id := 1) ?_) | (with_reducible (first | refine' wp_seq ?_ | refine' wp_region_lit ?_ | refine' wpList_nil ?_ | refine' then_normal ?_)) | ((with_reducible refine' l_step ?_); ((with_reducible refine' g_assign ?_); (conv => arg 5; simp only [zA, zB, ev, lget, zC, zD, zE, zF, zG, zH, zI, zJ, zK, zL, zM, zN, zO]))) | (((with_reducible refine' e_boxA ?hx ?_); (case hx => rfl)); intro _ _ _ _ _ _ _; (conv => arg 5; simp only [zA, zB, ev, lget, zC, zD, zE, zF, zG, zH, zI, zJ, zK, zL, zM, zN, zO])))
  rename_i gp wB c1 c2 hgp evB zB_
  have hB := h.up evB
  refine stop_go ?_
  repeat' (first | (with_reducible (first | refine' wp_region_lit ?_ | refine' wpList_nil ?_ | refine' then_normal ?_ | refine' wp_block ?_)) | ((with_reducible refine' l_step ?_); ((with_reducible refine' g_assign ?_); (conv => arg 5; simp only [zA, zB, ev, lget, zC, zD, zE, zF, zG, zH, zI, zJ, zK, zL, zM, zN, zO]))))
  refine' s_loop [4, 5, 6, 7, 8, 9, 10, 11, 12, 13, 14, 15, 16, 17, 18, 19, 20] (fun n u w' => ∃ (i : Nat), n = rs.length - i ∧ i ≤ rs.length ∧ u 5 = .int .i64 i ∧ ¬ nid ∈ (rs.take i).map (·.id) ∧ Evt (fun _ => False) wB w') rs.length ?h0 ?round
  case h0 => exact ⟨0, rfl, by omega, rfl, by simp, Evt.refl _ _⟩
  case round =>
    rintro n u w2 ⟨i, rfl, hi, h5, heq, hev⟩
    simp only [setW, List.foldl_cons, List.foldl_nil, List.set_cons_succ, List.set_cons_zero]
    simp only [h5]
    have hz := hev.size
    by_cases hlt : i < rs.length
    · obtain ⟨b, o, rfl, hcell⟩ := (hB.up hev).at_ hlt
      have hx0 := hcell w2 (Evt.refl _ _) 0 _ rfl
      clear hcell
      have htx := List.take_succ_eq_append_getElem hlt
      have hin : rs[i].id ∈ rs.map (·.id) := List.mem_map.2 ⟨_, List.getElem_mem hlt, rfl⟩
      have hne : ¬ nid = rs[i].id → ¬ nid ∈ (rs.take (i + 1)).map (·.id) := fun h hm => by
        rw [htx, List.map_append] at hm
        rcases List.mem_append.1 hm with h1 | h1
        · exact heq h1
        · exact h (List.mem_singleton.1 h1)
      generalize rs[i] = x at *
      repeat' (first | (with_reducible (first | refine' wp_seq ?_ | refine' wp_region_lit ?_ | refine' wpList_nil ?_ | refine' then_normal ?_ | refine' wp_block ?_ | refine' wp_ret ?_ | refine' wp_skip ?_ | refine' then_ret ?_ | refine' in_normal ?_ | refine' in_ret ?_)) | ((with_reducible refine' c_condT ?hx ?_); (case hx => rfl)) | ((with_reducible refine' c_condF ?hx ?_); (case hx => rfl)) | ((with_reducible refine' b_ret1 ?hr ?hv ?_); (case hr => rfl); (case hv => ((try simp only [ev, lget]); (try rfl)))) | ((with_reducible refine' l_step ?_); (first | ((first | (with_reducible refine' g_move ?_) | (with_reducible refine' g_assign ?_) | ((with_reducible refine' g_fieldAddr ?hx ?ho ?_); (case hx => rfl); (case ho => rfl)) | ((with_reducible refine' g_loadB ?hx ?hb ?hc ?_); (case hx => rfl); (case hb => exact bqq); first | (case hc => rfl) | (case hn => simp only [List.length_cons, List.length_nil]; omega)) | ((with_reducible refine' g_loadC ?hx ?hc ?_); (case hx => rfl); (case hc => exact cqq)) | ((with_reducible refine' g_addN ?hx ?hy ?h0 ?h1 ?_); (case hx => rfl); (case hy => rfl); (case h0 => omega); (case h1 => omega)) | ((with_reducible refine' g_lenS ?hx ?_); (case hx => rfl)) | ((with_reducible refine' g_indexAddr ?hx ?hy ?h0 ?h1 ?_); (case hx => rfl); (case hy => rfl); (case h0 => omega); (case h1 => omega))); (conv => arg 5; simp only [zA, zB, ev, lget, zC, zD, zE, zF, zG, zH, zI, zJ, zK, zL, zM, zN, zO])) | ((first | ((with_reducible refine' g_lss ?hx ?hy (fun _ => ?_) (fun _ => ?_)); (case hx => rfl)) | ((with_reducible refine' g_eql ?hx ?hy (fun _ => ?_) (fun _ => ?_)); (case hx => rfl))); (case hy => rfl); all_goals (first | (exfalso; omega) | (conv => arg 5; simp only [zA, zB, ev, lget, zC, zD, zE, zF, zG, zH, zI, zJ, zK, zL, zM, zN, zO]))))))
      all_goals first
        | (have hxi : x.id = nid := by assumption
           exact ⟨ret_bool (decide_eq_true (hxi ▸ hin)).symm, Evt.next hev evB (fun _ _ h => h)⟩)
        | exact ⟨_, _, rfl, (by omega : rs.length - (i + 1) < rs.length - i), by simp only [zA, zB], i + 1, rfl, by omega, rfl, hne (fun h => by have := h.symm; contradiction), hev⟩
    · have hi' : i = rs.length := by omega
      subst hi'
      rw [List.take_length] at heq
      repeat' (first | (with_reducible (first | refine' wp_seq ?_ | refine' wp_region_lit ?_ | refine' wpList_nil ?_ | refine' then_normal ?_ | refine' wp_ret ?_ | refine' wp_exit ?_ | refine' then_exit ?_ | refine' in_exit ?_)) | ((with_reducible refine' c_condF ?hx ?_); (case hx => rfl)) | ((with_reducible refine' b_ret1 ?hr ?hv ?_); (case hr => rfl); (case hv => ((try simp only [ev, lget]); (try rfl)))) | ((with_reducible refine' l_step ?_); (first | ((first | (with_reducible refine' g_move ?_) | (with_reducible refine' g_assign ?_) | ((with_reducible refine' g_fieldAddr ?hx ?ho ?_); (case hx => rfl); (case ho => rfl)) | ((with_reducible refine' g_loadB ?hx ?hb ?hc ?_); (case hx => rfl); (case hb => exact bqq); first | (case hc => rfl) | (case hn => simp only [List.length_cons, List.length_nil]; omega)) | ((with_reducible refine' g_lenS ?hx ?_); (case hx => rfl))); (conv => arg 5; simp only [zA, zB, ev, lget, zC, zD, zE, zF, zG, zH, zI, zJ, zK, zL, zM, zN, zO])) | (((with_reducible refine' g_lss ?hx ?hy (fun _ => ?_) (fun _ => ?_)); (case hx => rfl)); (case hy => rfl); all_goals (first | (exfalso; omega) | (conv => arg 5; simp only [zA, zB, ev, lget, zC, zD, zE, zF, zG, zH, zI, zJ, zK, zL, zM, zN, zO]))))))
      exact ⟨ret_bool (decide_eq_false heq).symm, Evt.next hev evB (fun _ _ h => h)⟩
theorem copied_r (A : Option Addr) (c n : Nat) (body : List Int) (w : World) (hrc : RC w A (u8s body)) (hn : body.length = n) (hl : n ≤ 140737488351232) :
    Calls Try.prog 48 #[.slice A n c] w fun e w' => ∃ V d, e = .returned (.slice V n d) ∧ w'.ownsRow 0 5 1 (.slice V n d) n (u8s body) ∧ (∀ k, (Value.slice V n d).ownBlock = some k → w.heap.size ≤ k) ∧ Evt (fun _ => False) w w' := by
  subst hn
  go_enter Try.func48, Try.ntmps48
  repeat' (first | ((with_reducible refine' e_appC (v := .slice none 0 0) (n := 0) (m := body.length) (xs := []) (news := u8s body) ?hx ?hy ?hzs ?hsz ?hown ?hl ?hr ?h1 ?hb ?hm ?_); (case hx => rfl); (case hy => rfl); (case hzs => rfl); (case hsz => decide); (case hown => exact World.ownsRow_nil _ _ _ _); (case hl => simp [u8s]); (case hr => exact hrc.up (by exact eqq)); (case h1 => exact u8s_one _); (case hb => omega); (case hm => omega); intro vA wA hoA heA0 haA hzA; have heA : Evt (fun _ => False) _ wA := heA0.mono (fun k _ hk => by simp [Value.ownBlock] at hk); clear heA0; simp only [Nat.zero_add, List.nil_append] at hoA; obtain ⟨VB, dB, hVB⟩ := own_slice hoA; subst hVB; (conv => arg 5; simp only [zA, zB, ev, lget, zC, zD, zE, zF, zG, zH, zI, zJ, zK, zL, zM, zN, zO])) | (with_reducible (first | refine' wp_seq ?_ | refine' wp_region_lit ?_ | refine' wpList_nil ?_ | refine' then_normal ?_ | refine' wp_ret ?_)) | ((with_reducible refine' b_ret1 ?hr ?hv ?_); (case hr => rfl); (case hv => ((try simp only [ev, lget]); (try rfl)))) | ((with_reducible refine' l_step ?_); ((first | (with_reducible refine' g_move ?_) | (with_reducible refine' g_assign ?_)); (conv => arg 5; simp only [zA, zB, ev, lget, zC, zD, zE, zF, zG, zH, zI, zJ, zK, zL, zM, zN, zO]))))
  refine ⟨VB, dB, rfl, hoA, fun k hk => ?_, heA⟩
  rcases haA with h1 | h1
  · rw [h1] at hk
    simp [Value.ownBlock] at hk
  · rw [h1] at hk
    have := Option.some.inj hk
    omega
theorem later_r (now ticks : Int) (w : World) (hn : -9223372036854775808 ≤ now ∧ now ≤ 9223372036854775807) (ht : 0 ≤ ticks ∧ ticks ≤ 64) :
    Calls Try.prog 49 #[.int .i64 now, .int .i64 ticks] w fun e w' => e = .returned (.int .i64 (laterP now ticks)) ∧ Evt (fun _ => False) w w' := by
  go_enter Try.func49, Try.ntmps49
  repeat' (first | (with_reducible (first | refine' wp_seq ?_ | refine' wp_region_lit ?_ | refine' wpList_nil ?_ | refine' then_normal ?_ | refine' wp_ret ?_ | refine' wp_skip ?_ | refine' then_ret ?_)) | ((with_reducible refine' c_condT ?hx ?_); (case hx => rfl)) | ((with_reducible refine' c_condF ?hx ?_); (case hx => rfl)) | ((with_reducible refine' b_ret1 ?hr ?hv ?_); (case hr => rfl); (case hv => ((try simp only [ev, lget]); (try rfl)))) | ((with_reducible refine' l_step ?_); (first | ((first | (with_reducible refine' g_move ?_) | (with_reducible refine' g_assign ?_) | ((first | (with_reducible refine' g_addN ?hx ?hy ?h0 ?h1 ?_) | (with_reducible refine' g_subN ?hx ?hy ?h0 ?h1 ?_)); (case hx => rfl); (case hy => rfl); (case h0 => omega); (case h1 => omega))); (conv => arg 5; simp only [zA, zB, ev, lget, zC, zD, zE, zF, zG, zH, zI, zJ, zK, zL, zM, zN, zO])) | (((with_reducible refine' g_gtr ?hx ?hy (fun _ => ?_) (fun _ => ?_)); (case hx => rfl)); (case hy => rfl); all_goals (first | (exfalso; omega) | (conv => arg 5; simp only [zA, zB, ev, lget, zC, zD, zE, zF, zG, zH, zI, zJ, zK, zL, zM, zN, zO]))))))
  all_goals first
    | (rw [laterP, if_pos (by omega)]; exact ⟨rfl, by exact eqq⟩)
    | (rw [laterP, if_neg (by omega)]; exact ⟨rfl, by exact eqq⟩)
end Go.Proofs.Ytchfkkliechgoaa
