/- The document's network in memory. -/
import Derived.Test.YtmngcpackbekiaaPly16b
namespace Go.Proofs.Ytmngcpackbekiaa
open Go.RowKit Go.Proofs.YtmngcpackbekiaaE
set_option linter.unusedSimpArgs false
set_option linter.unusedVariables false

structure Mm where
  ack : Bool
  id : Int
  body : List Int
  at_ : Int
  again : Int
  A : Option Addr
  c : Nat
@[reducible] def mmC (m : Mm) : List Value := [.bool m.ack, .int .i64 m.id, .slice m.A m.body.length m.c, .int .i64 m.at_, .int .i64 m.again]
def mmCs (l : List Mm) : List Value := l.flatMap fun m => mmC m
theorem mmC_len (m : Mm) : (mmC m).length = 5 := rfl
theorem mmCs_len (l : List Mm) : (mmCs l).length = l.length * 5 := flat_len mmC_len l
theorem mmCs_snoc (l : List Mm) (m : Mm) : mmCs (l ++ [m]) = mmCs l ++ mmC m := by simp [mmCs]
structure Rn where
  now : Int
  fates : List Int
  acc : List Ma
  msgs : List Mm
  AA : Option Addr
  cA : Nat
  AF : Option Addr
  cF : Nat
  AM : Option Addr
  cM : Nat
@[reducible] def rnC (R : Rn) : List Value := [.int .i64 R.now, .slice R.AA R.acc.length R.cA, .slice R.AF R.fates.length R.cF, .slice R.AM R.msgs.length R.cM]
structure RefAt (w : World) (G : Nat → Prop) (R : Rn) : Prop where
  acc : AccAt w G R.AA R.acc
  fates : RG w G R.AF (u8s R.fates)
  msgs : RG w G R.AM (mmCs R.msgs)
  bod : ∀ m ∈ R.msgs, RG w G m.A (u8s m.body)
  cap : R.fates.length ≤ R.cF
theorem RefAt.evt {S : Nat → Prop} {w w' : World} {G G' : Nat → Prop} {R : Rn} (h : RefAt w G R) (he : Evt S w w') (hs : ∀ k, k < w.heap.size → G k → ¬ S k) (hG : ∀ k, G k → G' k) : RefAt w' G' R :=
  ⟨h.acc.evt he hs hG, h.fates.evt he hs hG, h.msgs.evt he hs hG, fun m hm => (h.bod m hm).evt he hs hG, h.cap⟩
theorem RefAt.up {w w' : World} {G : Nat → Prop} {R : Rn} (h : RefAt w G R) (he : Evt (fun _ => False) w w') : RefAt w' G R := h.evt he (fun _ _ _ h => h) (fun _ h => h)
/-- What was there, and what is new. -/
@[reducible] def Gn (G : Nat → Prop) (w w' : World) : Nat → Prop := fun k => G k ∨ (w.heap.size ≤ k ∧ k < w'.heap.size)
theorem RefAt.gn {w w' : World} {G : Nat → Prop} {R : Rn} (h : RefAt w G R) (he : Evt (fun _ => False) w w') : RefAt w' (Gn G w w') R := h.evt he (fun _ _ _ h => h) (fun _ h => .inl h)
theorem RG.at_ {α : Type} {f : α → List Value} {sz : Nat} (hf : ∀ x, (f x).length = sz) {w : World} {G : Nat → Prop} {A : Option Addr} {l : List α} (h : RG w G A (l.flatMap f)) (hz : 0 < sz) {i : Nat} (hi : i < l.length) : ∃ b o, A = some ⟨b, o, none⟩ ∧ ∀ w', Evt (fun _ => False) w w' → ∀ j v, (f l[i])[j]? = some v → w'.cell? ⟨b, o + i * sz + j, none⟩ = some v := by
  obtain ⟨b, o, hA, _, hc⟩ := h (by rw [flat_len hf]; exact Nat.mul_pos (by omega) hz)
  refine ⟨b, o, hA, fun w' he j v hj => ?_⟩
  have h1 := hc (i * sz + j) v (flat_at hf l i j _ v (List.getElem?_eq_getElem hi) hj)
  rw [← Nat.add_assoc] at h1
  exact cell_evt he h1 (fun h => h)
theorem RG.tl {w : World} {G : Nat → Prop} {A : Option Addr} {c : Nat} {x : Int} {xs : List Int} (h : RG w G A (u8s (x :: xs))) (hc : xs.length + 1 ≤ c) : RG w G (from_ A c 1 1) (u8s xs) := fun hn => by
  rw [u8s_length] at hn
  obtain ⟨b, o, rfl, hg, hcell⟩ := h (by rw [u8s_length]; simp)
  refine ⟨b, o + 1, ?_, hg, fun j v hj => ?_⟩
  · rw [from_, if_neg (by omega)]
    simp [add_off]
  · have := hcell (j + 1) v (by simpa [u8s] using hj)
    rw [show o + 1 + j = o + (j + 1) by omega]
    exact this
theorem own_cap {w : World} {e : TypeId} {sz n c : Nat} {A : Option Addr} {xs : List Value} (h : w.ownsRow 0 e sz (.slice A n c) n xs) (hs : 0 < sz) : n ≤ c := by
  rcases own_blk_of h with ⟨h1, h2⟩ | ⟨g, cap, cur, h1, hb, ht, hl, hx⟩
  · omega
  · simp only [Value.slice.injEq] at h1
    omega
theorem begin_r (w : World) :
    Calls Try.prog 30 #[] w fun e w' => e = .returned (.agg (rnC ⟨0, [], [], [], none, 0, none, 0, none, 0⟩).toArray) ∧ Evt (fun _ => False) w w' := by
  go_enter Try.func30, Try.ntmps30
  repeat' (first | (with_reducible (first | refine' wp_seq ?_ | refine' wp_region_lit ?_ | refine' wpList_nil ?_ | refine' then_normal ?_ | refine' wp_ret ?_)) | ((with_reducible refine' b_retC ?hr ?ht ?hp ?hb ?hn ?_); (case hr => rfl); (case ht => infer_instance); (case hp => rfl); (case hb => exact bqq); (case hn => rfl)) | ((with_reducible refine' l_step ?_); ((with_reducible refine' g_build ?hl ?hp ?hs ?_); (case hl => rfl); (case hp => rfl); (case hs => rfl); (conv => arg 5; simp only [zA, zB, ev, lget, zC, zD, zE, zF, zG, zH, zI, zJ, zK, zL, zM, zN, zO, fillL, splice, List.getD_cons_zero, List.getD_cons_succ, Value.cells]))) | (((with_reducible refine' e_alloc ?hx ?_); (case hx => rfl)); intro _ _ _ _ _ _ _; (conv => arg 5; simp only [zA, zB, ev, lget, zC, zD, zE, zF, zG, zH, zI, zJ, zK, zL, zM, zN, zO])) | ((first | ((with_reducible refine' e_storeB ?hx ?hy ?hv ?h1 ?hb ?ho ?_); (case hx => rfl); (case hy => ((try simp only [ev, lget]); (try rfl))); (case hv => rfl); (case h1 => rfl)) | ((with_reducible refine' e_storeR ?hx ?hy ?h1 ?hb ?hn ?ho ?_); (case hx => rfl); (case hy => rfl); (case h1 => simp [Value.oneCell']); (case hn => rfl))); (case hb => exact bqq); (case ho => first | (simp only [List.length_cons, List.length_nil]; omega) | omega | (simp; omega) | simp); (try simp only [splice, zA, zB]); intro _ _ _ _))
  exact ⟨rfl, by exact eqq⟩
theorem letter_r (c : Int) (w : World) (hc : 0 ≤ c ∧ c < 256) [Decidable (letterB c)] :
    Calls Try.prog 40 #[.int .u8 c] w fun e w' => e = .returned (.bool (decide (letterB c))) ∧ Evt (fun _ => False) w w' := by
  by_cases hl : letterB c
  · rw [decide_eq_true hl]
    unfold letterB at hl
    rcases hl with hl | hl | hl
    all_goals
      go_enter Try.func40, Try.ntmps40
      repeat' (first | (with_reducible (first | refine' wp_seq ?_ | refine' wp_region_lit ?_ | refine' wpList_nil ?_ | refine' then_normal ?_ | refine' wp_ret ?_)) | ((with_reducible refine' b_ret1 ?hr ?hv ?_); (case hr => rfl); (case hv => ((try simp only [ev, lget]); (try rfl)))) | ((with_reducible refine' l_step ?_); (first | ((first | (with_reducible refine' g_move ?_) | (with_reducible refine' g_assign ?_) | ((with_reducible refine' g_pickT ?hx ?_); (case hx => rfl)) | ((with_reducible refine' g_pickF ?hx ?_); (case hx => rfl))); (conv => arg 5; simp only [zA, zB, ev, lget, zC, zD, zE, zF, zG, zH, zI, zJ, zK, zL, zM, zN, zO])) | ((first | ((with_reducible refine' g_leq ?hx ?hy (fun _ => ?_) (fun _ => ?_)); (case hx => rfl)) | ((with_reducible refine' g_geq ?hx ?hy (fun _ => ?_) (fun _ => ?_)); (case hx => rfl)) | ((with_reducible refine' g_eql ?hx ?hy (fun _ => ?_) (fun _ => ?_)); (case hx => rfl))); (case hy => rfl); all_goals (first | (exfalso; omega) | (conv => arg 5; simp only [zA, zB, ev, lget, zC, zD, zE, zF, zG, zH, zI, zJ, zK, zL, zM, zN, zO]))))) | ((with_reducible refine' l_on ?hw ?_); (case hw => rfl)) | ((with_reducible refine' l_off ?hw ?_); (case hw => rfl); (conv => arg 5; simp only [zA, zB, ev, lget, zC, zD, zE, zF, zG, zH, zI, zJ, zK, zL, zM, zN, zO])))
      all_goals exact ⟨rfl, by exact eqq⟩
  · rw [decide_eq_false hl]
    unfold letterB at hl
    go_enter Try.func40, Try.ntmps40
    repeat' (first | (with_reducible (first | refine' wp_seq ?_ | refine' wp_region_lit ?_ | refine' wpList_nil ?_ | refine' then_normal ?_ | refine' wp_ret ?_)) | ((with_reducible refine' b_ret1 ?hr ?hv ?_); (case hr => rfl); (case hv => ((try simp only [ev, lget]); (try rfl)))) | ((with_reducible refine' l_step ?_); (first | ((first | (with_reducible refine' g_move ?_) | (with_reducible refine' g_assign ?_) | ((with_reducible refine' g_pickT ?hx ?_); (case hx => rfl)) | ((with_reducible refine' g_pickF ?hx ?_); (case hx => rfl))); (conv => arg 5; simp only [zA, zB, ev, lget, zC, zD, zE, zF, zG, zH, zI, zJ, zK, zL, zM, zN, zO])) | ((first | ((with_reducible refine' g_leq ?hx ?hy (fun _ => ?_) (fun _ => ?_)); (case hx => rfl)) | ((with_reducible refine' g_geq ?hx ?hy (fun _ => ?_) (fun _ => ?_)); (case hx => rfl)) | ((with_reducible refine' g_eql ?hx ?hy (fun _ => ?_) (fun _ => ?_)); (case hx => rfl))); (case hy => rfl); all_goals (first | (exfalso; omega) | (conv => arg 5; simp only [zA, zB, ev, lget, zC, zD, zE, zF, zG, zH, zI, zJ, zK, zL, zM, zN, zO]))))) | ((with_reducible refine' l_on ?hw ?_); (case hw => rfl)) | ((with_reducible refine' l_off ?hw ?_); (case hw => rfl); (conv => arg 5; simp only [zA, zB, ev, lget, zC, zD, zE, zF, zG, zH, zI, zJ, zK, zL, zM, zN, zO])))
    all_goals exact ⟨rfl, by exact eqq⟩
set_option maxHeartbeats 2000000 in
theorem has_r (G : Nat → Prop) (R : Rn) (a : Int) (w : World) (h : RefAt w G R) (hl : R.acc.length ≤ 1000000000000) :
    Calls Try.prog 44 #[.agg (rnC R).toArray, .int .i64 a] w fun e w' => e = .returned (.bool (decide (a ∈ R.acc.map (·.id)))) ∧ Evt (fun _ => False) w w' := by
  go_enter Try.func44, Try.ntmps44
  repeat' (first | (with_reducible refine' stop_reg (id := 1) ?_) | (with_reducible (first | refine' wp_seq ?_ | refine' wp_region_lit ?_ | refine' wpList_nil ?_ | refine' then_normal ?_)) | ((with_reducible refine' l_step ?_); ((with_reducible refine' g_assign ?_); (conv => arg 5; simp only [zA, zB, ev, lget, zC, zD, zE, zF, zG, zH, zI, zJ, zK, zL, zM, zN, zO]))) | (((with_reducible refine' e_boxA ?hx ?_); (case hx => rfl)); intro _ _ _ _ _ _ _; (conv => arg 5; simp only [zA, zB, ev, lget, zC, zD, zE, zF, zG, zH, zI, zJ, zK, zL, zM, zN, zO])))
  refine stop_go ?_
  rename_i gp wp p1 p2 hgp hevp hzp
  repeat' (first | (with_reducible (first | refine' wp_region_lit ?_ | refine' wpList_nil ?_ | refine' then_normal ?_ | refine' wp_block ?_)) | ((with_reducible refine' l_step ?_); ((with_reducible refine' g_assign ?_); (conv => arg 5; simp only [zA, zB, ev, lget, zC, zD, zE, zF, zG, zH, zI, zJ, zK, zL, zM, zN, zO]))))
  refine' s_loop [4, 5, 6, 7, 8, 9, 10, 11, 12, 13, 14, 15, 16, 17, 18, 19, 20] (fun n u w' => ∃ (i : Nat), n = R.acc.length - i ∧ i ≤ R.acc.length ∧ u 5 = .int .i64 i ∧ (∀ m ∈ R.acc.take i, m.id ≠ a) ∧ Evt (fun _ => False) wp w') R.acc.length ?h0 ?round
  case h0 => exact ⟨0, rfl, by omega, rfl, by simp, Evt.refl _ _⟩
  case round =>
    rintro n u w2 ⟨i, rfl, hi, h5, heq, hev⟩
    simp only [setW, List.foldl_cons, List.foldl_nil, List.set_cons_succ, List.set_cons_zero]
    simp only [h5]
    have hz := hev.size
    have hgp2 := hgp.evt hev (fun h => h)
    have hacc := (h.acc.up hevp).up hev
    clear hgp
    by_cases hlt : i < R.acc.length
    · obtain ⟨b, o, hA, hcellE⟩ := hacc.at_ hlt
      have hmem := List.getElem_mem hlt
      have htk : R.acc[i].id ≠ a → ∀ m ∈ R.acc.take (i + 1), m.id ≠ a := by
        intro hne m hm
        rw [List.take_succ_eq_append_getElem hlt] at hm
        rcases List.mem_append.1 hm with h | h
        · exact heq m h
        · rw [List.mem_singleton] at h
          subst h
          exact hne
      have hin : R.acc[i].id = a → a ∈ R.acc.map (·.id) := fun h => List.mem_map.2 ⟨_, hmem, h⟩
      clear h heq hmem
      generalize R.acc[i] = mi at *
      simp only [rnC, hA] at hgp2
      repeat' (first | (with_reducible (first | refine' wp_seq ?_ | refine' wp_region_lit ?_ | refine' wpList_nil ?_ | refine' then_normal ?_ | refine' wp_block ?_ | refine' wp_ret ?_ | refine' wp_skip ?_ | refine' then_ret ?_ | refine' in_normal ?_ | refine' in_ret ?_)) | ((with_reducible refine' c_condT ?hx ?_); (case hx => rfl)) | ((with_reducible refine' c_condF ?hx ?_); (case hx => rfl)) | ((with_reducible refine' b_ret1 ?hr ?hv ?_); (case hr => rfl); (case hv => ((try simp only [ev, lget]); (try rfl)))) | ((with_reducible refine' l_step ?_); (first | ((first | (with_reducible refine' g_move ?_) | (with_reducible refine' g_assign ?_) | ((with_reducible refine' g_fieldAddr ?hx ?ho ?_); (case hx => rfl); (case ho => rfl)) | ((with_reducible refine' g_loadB ?hx ?hb ?hc ?_); (case hx => rfl); (case hb => exact bqq); first | (case hc => rfl) | (case hn => simp only [List.length_cons, List.length_nil]; omega)) | ((with_reducible refine' g_loadC ?hx ?hc ?_); (case hx => rfl); (case hc => first | exact hcellE _ (by exact eqq) 0 _ rfl | exact hcellE _ (by exact eqq) _ _ rfl | exact hcellF _ (by exact eqq) 0 _ rfl | exact hcellF _ (by exact eqq) _ _ rfl)) | ((with_reducible refine' g_addN ?hx ?hy ?h0 ?h1 ?_); (case hx => rfl); (case hy => rfl); (case h0 => omega); (case h1 => omega)) | ((with_reducible refine' g_lenS ?hx ?_); (case hx => rfl)) | ((with_reducible refine' g_indexAddr ?hx ?hy ?h0 ?h1 ?_); (case hx => rfl); (case hy => rfl); (case h0 => omega); (case h1 => omega))); (conv => arg 5; simp only [zA, zB, ev, lget, zC, zD, zE, zF, zG, zH, zI, zJ, zK, zL, zM, zN, zO])) | ((first | ((with_reducible refine' g_lss ?hx ?hy (fun _ => ?_) (fun _ => ?_)); (case hx => rfl)) | ((with_reducible refine' g_eql ?hx ?hy (fun _ => ?_) (fun _ => ?_)); (case hx => rfl))); (case hy => rfl); all_goals (first | (exfalso; omega) | (conv => arg 5; simp only [zA, zB, ev, lget, zC, zD, zE, zF, zG, zH, zI, zJ, zK, zL, zM, zN, zO]))))))
      · rw [decide_eq_true (hin (by assumption))]
        exact ⟨rfl, by exact eqq⟩
      · exact ⟨_, _, rfl, (by omega : R.acc.length - (i + 1) < R.acc.length - i), by simp only [zA, zB], i + 1, rfl, by omega, rfl, htk (by assumption), by exact eqq⟩
    · have hi' : i = R.acc.length := by omega
      rw [hi', List.take_length] at heq
      repeat' (first | (with_reducible (first | refine' wp_seq ?_ | refine' wp_region_lit ?_ | refine' wpList_nil ?_ | refine' then_normal ?_ | refine' wp_ret ?_ | refine' wp_exit ?_ | refine' then_exit ?_ | refine' in_exit ?_)) | ((with_reducible refine' c_condF ?hx ?_); (case hx => rfl)) | ((with_reducible refine' b_ret1 ?hr ?hv ?_); (case hr => rfl); (case hv => ((try simp only [ev, lget]); (try rfl)))) | ((with_reducible refine' l_step ?_); (first | ((first | (with_reducible refine' g_move ?_) | (with_reducible refine' g_assign ?_) | ((with_reducible refine' g_fieldAddr ?hx ?ho ?_); (case hx => rfl); (case ho => rfl)) | ((with_reducible refine' g_loadB ?hx ?hb ?hc ?_); (case hx => rfl); (case hb => exact bqq); first | (case hc => rfl) | (case hn => simp only [List.length_cons, List.length_nil]; omega)) | ((with_reducible refine' g_lenS ?hx ?_); (case hx => rfl))); (conv => arg 5; simp only [zA, zB, ev, lget, zC, zD, zE, zF, zG, zH, zI, zJ, zK, zL, zM, zN, zO])) | (((with_reducible refine' g_lss ?hx ?hy (fun _ => ?_) (fun _ => ?_)); (case hx => rfl)); (case hy => rfl); all_goals (first | (exfalso; omega) | (conv => arg 5; simp only [zA, zB, ev, lget, zC, zD, zE, zF, zG, zH, zI, zJ, zK, zL, zM, zN, zO]))))))
      rw [decide_eq_false (by simpa using heq)]
      exact ⟨rfl, by exact eqq⟩
end Go.Proofs.Ytmngcpackbekiaa
