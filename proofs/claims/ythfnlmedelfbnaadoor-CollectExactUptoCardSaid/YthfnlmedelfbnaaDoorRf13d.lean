/- The document's answer for collect: a day. SHORT -/
import Derived.Test.YthfnlmedelfbnaaDoorRf13c
import Derived.Test.YthfnlmedelfbnaaDoorOps5
namespace Go.Proofs.YthfnlmedelfbnaaDoor
open Go.RowKit Go.Proofs.YthfnlmedelfbnaaDoorE
set_option linter.unusedSimpArgs false
set_option linter.unusedVariables false

theorem quietP_acts (p : Pol) (k : Cas) (e : Evn) (acts : List Int) : quietP p k e acts = ((quietP p k e []).1, acts ++ (quietP p k e []).2) := by
  unfold quietP
  split
  · simp
  · split
    · simp
    · split <;> simp
/-- Suspended, if the cycle is open. -/
def sus2 (p : Pol) (k : Cas) (e : Evn) (acts : List Int) : Cas × List Int := if openB k = true then susP p k e acts else (k, acts)
theorem sus_open (p : Pol) (k : Cas) (e : Evn) (acts : List Int) (h : openB k = true) : openB (susP p k e acts).1 = true := by
  rw [openB_iff] at h ⊢
  unfold susP isOpen at *
  split
  · show (if k.status = 3 then (5 : Int) else k.status) = 3 ∨ _
    split <;> simp <;> omega
  · exact h
theorem sus2_len (p : Pol) (k : Cas) (e : Evn) (acts : List Int) : (sus2 p k e acts).2.length ≤ acts.length + 1 := by
  unfold sus2
  split
  · exact sus_len p k e acts
  · simp
theorem age_eq (p : Pol) (k : Cas) (e : Evn) (h : ¬ (openB (age1 k e).1 = true ∧ e.days = 0)) : ageP p k e = if openB (sus2 p (age2 p k e).1 e (age2 p k e).2).1 = true then dueP (sus2 p (age2 p k e).1 e (age2 p k e).2).1 e (sus2 p (age2 p k e).1 e (age2 p k e).2).2 else sus2 p (age2 p k e).1 e (age2 p k e).2 := by
  unfold ageP
  rw [if_neg h]
  cases ho : openB (age2 p k e).1
  · have h1 : sus2 p (age2 p k e).1 e (age2 p k e).2 = age2 p k e := by unfold sus2; rw [ho, if_neg (by simp)]
    rw [if_pos rfl, h1, ho, if_neg (by simp)]
  · have h1 : sus2 p (age2 p k e).1 e (age2 p k e).2 = susP p (age2 p k e).1 e (age2 p k e).2 := by unfold sus2; rw [ho, if_pos rfl]
    rw [if_neg (by simp), h1, if_pos (sus_open p _ e _ ho)]
set_option maxRecDepth 20000 in
set_option maxHeartbeats 8000000 in
theorem age_r (p : Pol) (A : Option Addr) (c : Nat) (k : Cas) (e : Evn) (w : World) (hp : p.fine) (hd : 0 ≤ e.days) (hdd : 1 ≤ e.today ∧ e.today ≤ 3652059) :
    Calls Tryd.prog 39 #[.agg (polC p A c).toArray, .agg (casC k).toArray, .agg (evnC e).toArray] w fun r w' => ∃ v, r = .returned (.tuple #[.agg (casC (ageP p k e).1).toArray, v]) ∧ OwnI w w' v (ageP p k e).2 ∧ Evt (fun _ => False) w w' := by
  go_enter Tryd.func39, Tryd.ntmps39
  repeat' (first | (with_reducible refine' stop_at (id := 2) ?_) | (with_reducible (first | refine' wp_seq ?_ | refine' wp_region_lit ?_ | refine' wpList_nil ?_ | refine' then_normal ?_)) | ((with_reducible refine' l_step ?_); ((with_reducible refine' g_assign ?_); (conv => arg 5; simp only [zA, zB, ev, lget, zC, zD, zE, zF, zG, zH, zI, zJ, zK, zL, zM, zN]))) | ((first | ((with_reducible refine' e_boxA ?hx ?_); (case hx => rfl)) | ((with_reducible refine' e_alloc ?hx ?_); (case hx => rfl))); intro _ _ _ _ _ _ _; (conv => arg 5; simp only [zA, zB, ev, lget, zC, zD, zE, zF, zG, zH, zI, zJ, zK, zL, zM, zN])))
  refine stop_go ?_
  rename_i gp wp d1 d2 hpb ep zp gk wk a1 a2 hk ek zk ge we b1 b2 he ee ze gr wr c1 c2 hr er zr
  have eW : Evt (fun _ => False) w wr := Evt.next er (Evt.next ee (Evt.next ek ep (fun _ _ h => h)) (fun _ _ h => h)) (fun _ _ h => h)
  have hp' : Blk wr gp 24 (polC p A c) := ((hpb.evt ek (fun h => h)).evt ee (fun h => h)).evt er (fun h => h)
  have hk' : Blk wr gk 27 (casC k) := (hk.evt ee (fun h => h)).evt er (fun h => h)
  have he' : Blk wr ge 37 (evnC e) := he.evt er (fun h => h)
  clear hk he hpb ep ek ee er
  refine' s_cut [8, 11, 12, 13, 14, 15, 16, 17, 18, 19, 20, 21, 22, 23, 24, 25, 26, 27, 28, 29] (fun u w' => ∃ v, u 8 = v ∧ Blk w' gk 27 (casC (age1 k e).1) ∧ OwnI w w' v (age1 k e).2 ∧ (∀ j, v.ownBlock = some j → wr.heap.size ≤ j) ∧ (age1 k e).2.length ≤ 1 ∧ Evt (fun j => j = gk) wr w') ?h1 ?h2
  case h1 =>
    by_cases hb : k.status = 4 ∧ k.pdue < e.today
    · have hq : age1 k e = (backP' { k with broken := incP k.broken }, [1]) := by unfold age1; rw [if_pos hb]
      obtain ⟨hb1, hb2⟩ := hb
      obtain ⟨Kb, hKb⟩ : ∃ Kb, backP' { k with broken := incP k.broken } = Kb := ⟨_, rfl⟩
      have hbk := fun w => back_r { k with broken := incP k.broken } w
      rw [hKb] at hq
      simp only [hKb] at hbk
      rw [hq]
      repeat' (first | (go_at_call 78; refine (hbk _).mono ?_; rintro r wc ⟨rfl, evc⟩; have zc := evc.size; refine ⟨_, rfl, ?_⟩; simp only [casC]; (conv => arg 5; simp only [zA, zB, ev, lget, zC, zD, zE, zF, zG, zH, zI, zJ, zK, zL, zM, zN])) | ((with_reducible refine' e_append (v := .slice none 0 0) (n := 0) (m := 1) (xs := []) (news := [.int .i64 1]) ?hx ?hy ?hzs ?hsz ?hown ?hl ?hnews ?h1 ?hb ?hm ?_); (case hx => rfl); (case hy => rfl); (case hzs => rfl); (case hsz => decide); (case hown => exact World.ownsRow_nil _ _ _ _); (case hnews => refine' blk_src ?hbb; (case hbb => exact bqq)); (case hl => rfl); (case h1 => simp [Value.oneCell']); (case hb => omega); (case hm => omega); intro vA wA hoA heA0 hnA haA hzA; have heA : Evt (fun _ => False) _ wA := heA0.mono (fun k _ hk => by simp [Value.ownBlock] at hk); clear heA0 hnA; (conv => arg 5; simp only [zA, zB, ev, lget, zC, zD, zE, zF, zG, zH, zI, zJ, zK, zL, zM, zN])) | (with_reducible (first | refine' wp_seq ?_ | refine' wp_region_lit ?_ | refine' wpList_nil ?_ | refine' then_normal ?_)) | ((with_reducible refine' c_condT ?hx ?_); (case hx => rfl)) | ((with_reducible refine' l_step ?_); (first | ((first | (with_reducible refine' g_move ?_) | (with_reducible refine' g_assign ?_) | ((with_reducible refine' g_fieldAddr ?hx ?ho ?_); (case hx => rfl); (case ho => rfl)) | ((first | (with_reducible refine' g_loadB ?hx ?hb ?hc ?_) | (with_reducible refine' g_loadS ?hx ?hb ?hn ?_)); (case hx => rfl); (case hb => exact bqq); first | (case hc => rfl) | (case hn => simp only [List.length_cons, List.length_nil]; omega)) | ((with_reducible refine' g_add ?hx ?hy ?_); (case hx => rfl); (case hy => rfl)) | ((with_reducible refine' g_pickT ?hx ?_); (case hx => rfl))); (conv => arg 5; simp only [zA, zB, ev, lget, zC, zD, zE, zF, zG, zH, zI, zJ, zK, zL, zM, zN])) | ((first | ((with_reducible refine' g_gtr ?hx ?hy (fun _ => ?_) (fun _ => ?_)); (case hx => rfl)) | ((with_reducible refine' g_eql ?hx ?hy (fun _ => ?_) (fun _ => ?_)); (case hx => rfl))); (case hy => rfl); all_goals (first | (exfalso; omega) | (conv => arg 5; simp only [zA, zB, ev, lget, zC, zD, zE, zF, zG, zH, zI, zJ, zK, zL, zM, zN]))))) | ((with_reducible refine' l_on ?hw ?_); (case hw => rfl)) | (((with_reducible refine' e_sliceLit ?hx ?hi ?hv ?hn ?_); (case hx => simp only [zC, zD, ev, lget]; (try rfl)); (case hi => rfl); (case hv => simp [Value.cells]); (case hn => decide); simp only [List.flatMap_cons, List.flatMap_nil, Value.cells, List.cons_append, List.nil_append]); intro _ _ _ _ _ _ _; (conv => arg 5; simp only [zA, zB, ev, lget, zC, zD, zE, zF, zG, zH, zI, zJ, zK, zL, zM, zN])) | ((first | ((with_reducible refine' e_storeB ?hx ?hy ?hv ?h1 ?hb ?ho ?_); (case hx => rfl); (case hy => ((try simp only [ev, lget]); (try rfl))); (case hv => rfl); (case h1 => rfl)) | ((with_reducible refine' e_storeR ?hx ?hy ?h1 ?hb ?hn ?ho ?_); (case hx => rfl); (case hy => rfl); (case h1 => simp [Value.oneCell']); (case hn => rfl))); (case hb => exact bqq); (case ho => first | (simp only [List.length_cons, List.length_nil]; omega) | omega | (simp; omega) | simp); (try simp only [splice, zA, zB]); intro _ _ _ _) | ((with_reducible refine' l_call TFn.ent ?ha ?_); (case ha => simp only [zC, zD, ev, lget]; (try rfl))))
      exact ⟨_, rfl, by simp only [setW, List.foldl_cons, List.foldl_nil, List.set_cons_succ, List.set_cons_zero], vA, rfl, by exact bqq, OwnI.app (OwnI.nil w wr) hoA haA (by omega) (Evt.refl (fun _ => False) wA) (fun _ _ h => h), fun j hj => by have := own_new haA j hj; omega, by simp, by exact eqq⟩
    · have hq : age1 k e = (k, []) := by unfold age1; rw [if_neg hb]
      rw [hq]
      repeat' (first | (with_reducible (first | refine' wp_seq ?_ | refine' wp_region_lit ?_ | refine' wpList_nil ?_ | refine' then_normal ?_ | refine' wp_skip ?_)) | ((with_reducible refine' c_condF ?hx ?_); (case hx => rfl)) | ((with_reducible refine' l_step ?_); (first | ((first | (with_reducible refine' g_move ?_) | ((with_reducible refine' g_fieldAddr ?hx ?ho ?_); (case hx => rfl); (case ho => rfl)) | ((with_reducible refine' g_loadB ?hx ?hb ?hc ?_); (case hx => rfl); (case hb => exact bqq); first | (case hc => rfl) | (case hn => simp only [List.length_cons, List.length_nil]; omega)) | ((with_reducible refine' g_pickT ?hx ?_); (case hx => rfl)) | ((with_reducible refine' g_pickF ?hx ?_); (case hx => rfl))); (conv => arg 5; simp only [zA, zB, ev, lget, zC, zD, zE, zF, zG, zH, zI, zJ, zK, zL, zM, zN])) | ((first | ((with_reducible refine' g_gtr ?hx ?hy (fun _ => ?_) (fun _ => ?_)); (case hx => rfl)) | ((with_reducible refine' g_eql ?hx ?hy (fun _ => ?_) (fun _ => ?_)); (case hx => rfl))); (case hy => rfl); all_goals (first | (exfalso; omega) | (conv => arg 5; simp only [zA, zB, ev, lget, zC, zD, zE, zF, zG, zH, zI, zJ, zK, zL, zM, zN]))))) | ((with_reducible refine' l_on ?hw ?_); (case hw => rfl)) | ((with_reducible refine' l_off ?hw ?_); (case hw => rfl); (conv => arg 5; simp only [zA, zB, ev, lget, zC, zD, zE, zF, zG, zH, zI, zJ, zK, zL, zM, zN])))
      all_goals exact ⟨_, rfl, by simp only [setW, List.foldl_cons, List.foldl_nil, List.set_cons_succ, List.set_cons_zero], .slice none 0 0, rfl, by exact bqq, OwnI.nil _ _, (fun j hj => by simp [Value.ownBlock] at hj), by simp, by exact eqq⟩
  case h2 =>
    rintro u w1 ⟨v, h8, hk1, ho1, hn1, hl1, e1⟩
    have ha2 : age2 p k e = if openB (age1 k e).1 = true then age1 k e else quietP p (age1 k e).1 e (age1 k e).2 := rfl
    have hcured : openB (age1 k e).1 = true ∧ e.days = 0 → ageP p k e = (cureP (age1 k e).1, (age1 k e).2 ++ [6]) := fun h => by unfold ageP; rw [if_pos h]
    have hage := age_eq p k e
    generalize age1 k e = K1 at *
    generalize age2 p k e = K2 at *
    obtain ⟨K1, acts⟩ := K1
    simp only [] at hk1 ho1 hl1 ha2 hcured hage ⊢
    have z1 := e1.size
    have he1 := he'.evt e1 (by omega)
    have hp1 := hp'.evt e1 (by omega)
    have hr1 := hr.evt e1 (by omega)
    have eW1 : Evt (fun _ => False) w w1 := Evt.next e1 eW (fun i hi hh => by have h' : i = gk := hh; omega)
    have hrow1 := ho1.row
    obtain ⟨V, d, hV⟩ := own_slice hrow1
    subst hV
    have hlt1 := ho1.lt
    have nk1 : ¬ (Value.slice V acts.length d).ownBlock = some gk := fun hh => by have := hn1 gk hh; omega
    have ne1 : ¬ (Value.slice V acts.length d).ownBlock = some ge := fun hh => by have := hn1 ge hh; omega
    have np1 : ¬ (Value.slice V acts.length d).ownBlock = some gp := fun hh => by have := hn1 gp hh; omega
    have nr1 : ¬ (Value.slice V acts.length d).ownBlock = some gr := fun hh => by have := hn1 gr hh; omega
    simp only [setW, List.foldl_cons, List.foldl_nil, List.set_cons_succ, List.set_cons_zero]
    simp only [h8]
    obtain ⟨bo, hbo⟩ : ∃ b, openB K1 = b := ⟨_, rfl⟩
    by_cases hcd : bo = true ∧ e.days = 0
    · obtain ⟨rfl, hd0⟩ := hcd
      rw [hcured ⟨hbo, hd0⟩]
      obtain ⟨Kc, hKc⟩ : ∃ Kc, cureP K1 = Kc := ⟨_, rfl⟩
      have hcu := fun w => cure_r K1 w
      simp only [hKc] at hcu
      rw [hKc]
      clear hage hcured ha2
      repeat' (first | (go_at_call 6; refine (open_r K1 _ hbo _).mono ?_; rintro r wo ⟨rfl, evo⟩; have zo := evo.size; refine ⟨_, rfl, ?_⟩; (conv => arg 5; simp only [zA, zB, ev, lget, zC, zD, zE, zF, zG, zH, zI, zJ, zK, zL, zM, zN])) | (((with_reducible refine' e_append ?hx ?hy ?hzs ?hsz ?hown ?hl ?hnews ?h1 ?hb ?hm ?_); (case hx => ((try simp only [ev, lget]); (try rfl))); (case hy => rfl); (case hzs => rfl); (case hsz => decide); (case hown => exact oqq); (case hnews => refine' blk_src ?hbb; (case hbb => exact bqq)); (case hl => rfl); (case h1 => simp [Value.oneCell']); (case hb => omega); (case hm => omega); intro vA wA hoA heA hnA haA hzA; (conv => arg 5; simp only [zA, zB, ev, lget, zC, zD, zE, zF, zG, zH, zI, zJ, zK, zL, zM, zN])); have hlA := own_lt hoA; obtain ⟨VA, dA, hVA⟩ := own_slice hoA; subst hVA) | (go_at_call 43; refine (hcu _).mono ?_; rintro r wc ⟨rfl, evc⟩; have zc := evc.size; refine ⟨_, rfl, ?_⟩; simp only [casC]; (conv => arg 5; simp only [zA, zB, ev, lget, zC, zD, zE, zF, zG, zH, zI, zJ, zK, zL, zM, zN])) | (with_reducible (first | refine' wp_seq ?_ | refine' wp_region_lit ?_ | refine' wpList_nil ?_ | refine' then_normal ?_ | refine' wp_ret ?_ | refine' then_ret ?_)) | ((with_reducible refine' c_condT ?hx ?_); (case hx => rfl)) | ((with_reducible refine' b_retN ?hr ?h2 ?ha ?_); (case hr => rfl); (case h2 => decide); (case ha => first | exact ra_nil | ((first | ((with_reducible refine' ra_tmp ?rv2 ?rh2); (case rv2 => ((try simp only [ev, lget]); (try rfl)))) | ((with_reducible refine' ra_cell ?rp2 ?rt2 ?rq2 ?rn2 ?rh2); (case rp2 => rfl); (case rt2 => infer_instance); (case rq2 => exact bqq); (case rn2 => rfl))); (case rh2 => first | exact ra_nil | ((first | ((with_reducible refine' ra_tmp ?rv1 ?rh1); (case rv1 => ((try simp only [ev, lget]); (try rfl)))) | ((with_reducible refine' ra_cell ?rp1 ?rt1 ?rq1 ?rn1 ?rh1); (case rp1 => rfl); (case rt1 => infer_instance); (case rq1 => exact bqq); (case rn1 => rfl))); (case rh1 => first | exact ra_nil)))))) | ((with_reducible refine' l_step ?_); (first | ((first | (with_reducible refine' g_move ?_) | (with_reducible refine' g_assign ?_) | ((with_reducible refine' g_fieldAddr ?hx ?ho ?_); (case hx => rfl); (case ho => rfl)) | ((first | (with_reducible refine' g_loadB ?hx ?hb ?hc ?_) | (with_reducible refine' g_loadS ?hx ?hb ?hn ?_)); (case hx => rfl); (case hb => exact bqq); first | (case hc => rfl) | (case hn => simp only [List.length_cons, List.length_nil]; omega)) | ((with_reducible refine' g_pickT ?hx ?_); (case hx => rfl))); (conv => arg 5; simp only [zA, zB, ev, lget, zC, zD, zE, zF, zG, zH, zI, zJ, zK, zL, zM, zN])) | (((with_reducible refine' g_eql ?hx ?hy (fun _ => ?_) (fun _ => ?_)); (case hx => rfl)); (case hy => rfl); all_goals (first | (exfalso; omega) | (conv => arg 5; simp only [zA, zB, ev, lget, zC, zD, zE, zF, zG, zH, zI, zJ, zK, zL, zM, zN]))))) | ((with_reducible refine' l_on ?hw ?_); (case hw => rfl)) | (((with_reducible refine' e_sliceLit ?hx ?hi ?hv ?hn ?_); (case hx => simp only [zC, zD, ev, lget]; (try rfl)); (case hi => rfl); (case hv => simp [Value.cells]); (case hn => decide); simp only [List.flatMap_cons, List.flatMap_nil, Value.cells, List.cons_append, List.nil_append]); intro _ _ _ _ _ _ _; (conv => arg 5; simp only [zA, zB, ev, lget, zC, zD, zE, zF, zG, zH, zI, zJ, zK, zL, zM, zN])) | ((first | ((with_reducible refine' e_storeB ?hx ?hy ?hv ?h1 ?hb ?ho ?_); (case hx => rfl); (case hy => ((try simp only [ev, lget]); (try rfl))); (case hv => rfl); (case h1 => rfl)) | ((with_reducible refine' e_storeR ?hx ?hy ?h1 ?hb ?hn ?ho ?_); (case hx => rfl); (case hy => rfl); (case h1 => simp [Value.oneCell']); (case hn => rfl))); (case hb => exact bqq); (case ho => first | (simp only [List.length_cons, List.length_nil]; omega) | omega | (simp; omega) | simp); (try simp only [splice, zA, zB]); intro _ _ _ _) | ((with_reducible refine' l_call TFn.ent ?ha ?_); (case ha => simp only [zC, zD, ev, lget]; (try rfl))))
      rename_i w9 h9 e9 z9
      have oA := own_or1 (B := w1.heap.size) haA (by omega)
      have eA9 : Evt (fun j => j = gk ∨ j = gr) wA w9 := by exact eqq
      have eA1 : Evt (fun j => (Value.slice V acts.length d).ownBlock = some j) w1 wA := by exact eqq
      refine ⟨_, rfl, OwnI.app ho1 hoA haA (by omega) eA9 (fun j hj hh => ?_), Evt.next eA9 (Evt.next eA1 eW1 (fun i hi hh => by have := hn1 i hh; omega)) (fun i hi hh => by omega)⟩
      rcases oA j hj with h | h
      · rcases hh with rfl | rfl
        · exact nk1 h
        · exact nr1 h
      · omega
    · have hage' := hage (fun h => hcd ⟨hbo ▸ h.1, h.2⟩)
      rw [hage']
      clear hage hcured hage'
      refine' s_cut [7, 8, 30, 31, 32, 33, 34, 35, 36, 37, 38, 39, 40, 41, 42] (fun u w' => u 8 = .slice V acts.length d ∧ Evt (fun _ => False) w1 w') ?h3 ?h4
      case h3 =>
        cases bo
        · repeat' (first | (go_at_call 6; refine (open_r K1 _ hbo _).mono ?_; rintro r wo ⟨rfl, evo⟩; have zo := evo.size; refine ⟨_, rfl, ?_⟩; (conv => arg 5; simp only [zA, zB, ev, lget, zC, zD, zE, zF, zG, zH, zI, zJ, zK, zL, zM, zN])) | (with_reducible (first | refine' wp_seq ?_ | refine' wp_region_lit ?_ | refine' wpList_nil ?_ | refine' then_normal ?_ | refine' wp_skip ?_)) | ((with_reducible refine' c_condF ?hx ?_); (case hx => rfl)) | ((with_reducible refine' l_step ?_); ((first | (with_reducible refine' g_move ?_) | ((with_reducible refine' g_loadS ?hx ?hb ?hn ?_); (case hx => rfl); (case hb => exact bqq); first | (case hc => rfl) | (case hn => simp only [List.length_cons, List.length_nil]; omega)) | ((with_reducible refine' g_pickF ?hx ?_); (case hx => rfl))); (conv => arg 5; simp only [zA, zB, ev, lget, zC, zD, zE, zF, zG, zH, zI, zJ, zK, zL, zM, zN]))) | ((with_reducible refine' l_off ?hw ?_); (case hw => rfl); (conv => arg 5; simp only [zA, zB, ev, lget, zC, zD, zE, zF, zG, zH, zI, zJ, zK, zL, zM, zN])) | ((with_reducible refine' l_call TFn.ent ?ha ?_); (case ha => simp only [zC, zD, ev, lget]; (try rfl))))
          exact ⟨_, rfl, by simp only [setW, List.foldl_cons, List.foldl_nil, List.set_cons_succ, List.set_cons_zero], rfl, by exact eqq⟩
        · have hdn : e.days ≠ 0 := fun h => hcd ⟨rfl, h⟩
          repeat' (first | (go_at_call 6; refine (open_r K1 _ hbo _).mono ?_; rintro r wo ⟨rfl, evo⟩; have zo := evo.size; refine ⟨_, rfl, ?_⟩; (conv => arg 5; simp only [zA, zB, ev, lget, zC, zD, zE, zF, zG, zH, zI, zJ, zK, zL, zM, zN])) | (with_reducible (first | refine' wp_seq ?_ | refine' wp_region_lit ?_ | refine' wpList_nil ?_ | refine' then_normal ?_ | refine' wp_skip ?_)) | ((with_reducible refine' c_condF ?hx ?_); (case hx => rfl)) | ((with_reducible refine' l_step ?_); (first | ((first | (with_reducible refine' g_move ?_) | ((with_reducible refine' g_fieldAddr ?hx ?ho ?_); (case hx => rfl); (case ho => rfl)) | ((first | (with_reducible refine' g_loadB ?hx ?hb ?hc ?_) | (with_reducible refine' g_loadS ?hx ?hb ?hn ?_)); (case hx => rfl); (case hb => exact bqq); first | (case hc => rfl) | (case hn => simp only [List.length_cons, List.length_nil]; omega)) | ((with_reducible refine' g_pickT ?hx ?_); (case hx => rfl))); (conv => arg 5; simp only [zA, zB, ev, lget, zC, zD, zE, zF, zG, zH, zI, zJ, zK, zL, zM, zN])) | (((with_reducible refine' g_eql ?hx ?hy (fun _ => ?_) (fun _ => ?_)); (case hx => rfl)); (case hy => rfl); all_goals (first | (exfalso; omega) | (conv => arg 5; simp only [zA, zB, ev, lget, zC, zD, zE, zF, zG, zH, zI, zJ, zK, zL, zM, zN]))))) | ((with_reducible refine' l_on ?hw ?_); (case hw => rfl)) | ((with_reducible refine' l_call TFn.ent ?ha ?_); (case ha => simp only [zC, zD, ev, lget]; (try rfl))))
          exact ⟨_, rfl, by simp only [setW, List.foldl_cons, List.foldl_nil, List.set_cons_succ, List.set_cons_zero], rfl, by exact eqq⟩
      case h4 =>
        rintro u2 w2 ⟨h8', e12⟩
        have hk2 := hk1.evt e12 (fun h => h)
        have ho2 : OwnI w w2 (.slice V acts.length d) acts := ho1.evt e12 (fun _ _ h => h)
        have e2 : Evt (fun j => j = gk) wr w2 := Evt.next e12 e1 (fun _ _ h => h.elim)
        clear hk1 ho1 he1 hp1 hr1 hrow1 hcd e12
        have z2 := e2.size
        have he2 := he'.evt e2 (by omega)
        have hp2 := hp'.evt e2 (by omega)
        have hr2 := hr.evt e2 (by omega)
        have eW2 : Evt (fun _ => False) w w2 := Evt.next e2 eW (fun i hi hh => by have h' : i = gk := hh; omega)
        have hrow2 := ho2.row
        have hlt2 := ho2.lt
        have nk2 : ¬ (Value.slice V acts.length d).ownBlock = some gk := fun hh => by have := hn1 gk hh; omega
        have nkf2 : ∀ j, (Value.slice V acts.length d).ownBlock = some j → ¬ j = gk := fun j hj hh => by subst hh; exact nk2 hj
        have ne2 : ¬ (Value.slice V acts.length d).ownBlock = some ge := fun hh => by have := hn1 ge hh; omega
        have np2 : ¬ (Value.slice V acts.length d).ownBlock = some gp := fun hh => by have := hn1 gp hh; omega
        have nr2 : ¬ (Value.slice V acts.length d).ownBlock = some gr := fun hh => by have := hn1 gr hh; omega
        simp only [setW, List.foldl_cons, List.foldl_nil, List.set_cons_succ, List.set_cons_zero]
        simp only [h8']
        refine' s_cut [8, 9, 10, 43, 44, 45, 46, 47, 48, 49, 50, 51, 52, 53, 54, 55, 56] (fun u w' => ∃ v, u 8 = v ∧ Blk w' gk 27 (casC K2.1) ∧ OwnI w w' v K2.2 ∧ (∀ j, v.ownBlock = some j → wr.heap.size ≤ j) ∧ K2.2.length ≤ 2 ∧ Evt (fun j => j = gk) wr w') ?h5 ?h6
        case h5 =>
          cases bo
          · rw [hbo, if_neg (by simp), quietP_acts] at ha2
            obtain ⟨Q, hQ⟩ : ∃ Q, quietP p K1 e [] = Q := ⟨_, rfl⟩
            have hql := quiet_len p K1 e []
            have hqr := fun w => quiet_r p A c K1 e w hp hd hdd
            simp only [hQ] at hqr
            rw [hQ] at ha2 hql
            simp only [List.length_nil, Nat.zero_add] at hql
            subst ha2
            repeat' (first | (go_at_call 6; refine (open_r K1 _ hbo _).mono ?_; rintro r wo ⟨rfl, evo⟩; have zo := evo.size; refine ⟨_, rfl, ?_⟩; (conv => arg 5; simp only [zA, zB, ev, lget, zC, zD, zE, zF, zG, zH, zI, zJ, zK, zL, zM, zN])) | (go_at_call 79; refine (hqr _).mono ?_; rintro r wq ⟨vq, rfl, hoq, evq⟩; have zq := evq.size; obtain ⟨VM, dM, hVM⟩ := own_slice hoq.row; subst hVM; refine ⟨_, rfl, ?_⟩; simp only [casC]; (conv => arg 5; simp only [zA, zB, ev, lget, zC, zD, zE, zF, zG, zH, zI, zJ, zK, zL, zM, zN])) | ((with_reducible refine' stop_reg (id := 12) ?_)) | (with_reducible (first | refine' wp_seq ?_ | refine' wp_region_lit ?_ | refine' wpList_nil ?_ | refine' then_normal ?_)) | ((with_reducible refine' c_condT ?hx ?_); (case hx => rfl)) | ((with_reducible refine' l_step ?_); ((first | (with_reducible refine' g_move ?_) | (with_reducible refine' g_assign ?_) | ((with_reducible refine' g_loadS ?hx ?hb ?hn ?_); (case hx => rfl); (case hb => exact bqq); first | (case hc => rfl) | (case hn => simp only [List.length_cons, List.length_nil]; omega)) | ((with_reducible refine' g_notF ?hx ?_); (case hx => rfl)) | ((with_reducible refine' g_extract ?hx ?hv ?_); (case hx => rfl); (case hv => rfl))); (conv => arg 5; simp only [zA, zB, ev, lget, zC, zD, zE, zF, zG, zH, zI, zJ, zK, zL, zM, zN]))) | (((with_reducible refine' e_alloc ?hx ?_); (case hx => rfl)); intro _ _ _ _ _ _ _; (conv => arg 5; simp only [zA, zB, ev, lget, zC, zD, zE, zF, zG, zH, zI, zJ, zK, zL, zM, zN])) | ((first | ((with_reducible refine' e_storeB ?hx ?hy ?hv ?h1 ?hb ?ho ?_); (case hx => rfl); (case hy => ((try simp only [ev, lget]); (try rfl))); (case hv => rfl); (case h1 => rfl)) | ((with_reducible refine' e_storeR ?hx ?hy ?h1 ?hb ?hn ?ho ?_); (case hx => rfl); (case hy => rfl); (case h1 => simp [Value.oneCell']); (case hn => rfl))); (case hb => exact bqq); (case ho => first | (simp only [List.length_cons, List.length_nil]; omega) | omega | (simp; omega) | simp); (try simp only [splice, zA, zB]); intro _ _ _ _) | ((with_reducible refine' l_call TFn.ent ?ha ?_); (case ha => simp only [zC, zD, ev, lget]; (try rfl))))
            refine stop_go ?_
            rename_i g9 w8 f1 f2 h9a e9a z9a w9 h9 e9 z9 w10 h10 e10 z10
            have hk10 : Blk w10 gk 27 (casC Q.1) := h10
            have eqT : Evt (fun j => j = gk) wq w10 := Evt.next e10 (Evt.next e9 (e9a.mono fun _ _ h => h.elim) (fun i hi hh => by exfalso; have h' : i = g9 := hh; omega)) (fun _ _ h => h)
            have hnq := hoq.new
            have hriq := (hoq.evt eqT (fun j hj hh => by have h' : j = gk := hh; have := hnq j hj; omega)).ri rfl
            have e210 : Evt (fun j => j = gk) w2 w10 := Evt.next eqT (Evt.next evq (evo.mono fun _ _ h => h.elim) (fun _ _ h => h.elim)) (fun _ _ h => h)
            have ho10 := ho2.evt e210 (fun j hj hh => by have h' : j = gk := hh; exact nk2 (h' ▸ hj))
            have hrow10 := ho10.row
            clear h9a h9 e9a e9 e10 h10 hrow2
            repeat' (first | ((with_reducible refine' e_appI (v := .slice V acts.length d) (xs := acts) (ys := Q.2) (A := VM) (c := dM) ?hx ?hy ?hown ?hr ?hb ?_); (case hx => rfl); (case hy => rfl); (case hown => exact hrow10); (case hr => exact hriq); (case hb => omega); intro vA wA hoA heA haA hzA; (conv => arg 5; simp only [zA, zB, ev, lget, zC, zD, zE, zF, zG, zH, zI, zJ, zK, zL, zM, zN])) | (with_reducible (first | refine' wp_region_lit ?_ | refine' wpList_nil ?_ | refine' then_normal ?_)) | ((with_reducible refine' l_step ?_); ((first | (with_reducible refine' g_move ?_) | (with_reducible refine' g_assign ?_)); (conv => arg 5; simp only [zA, zB, ev, lget, zC, zD, zE, zF, zG, zH, zI, zJ, zK, zL, zM, zN]))))
            have oA := own_or1 (B := w10.heap.size) haA (by omega)
            have eA2 : Evt (fun j => j = gk ∨ (Value.slice V acts.length d).ownBlock = some j) w2 wA := Evt.next heA (e210.mono fun _ _ h => .inl h) (fun _ _ h => .inr h)
            refine ⟨_, rfl, by simp only [setW, List.foldl_cons, List.foldl_nil, List.set_cons_succ, List.set_cons_zero], vA, rfl, hk10.evt heA nk2, ⟨hoA, lb_step ho10.new haA (by omega)⟩, fun j hj => ?_, by rw [List.length_append]; omega, Evt.next eA2 e2 (fun i hi hh => ?_)⟩
            · rcases oA j hj with h | h
              · exact hn1 j h
              · omega
            · rcases hh with h | h
              · exact h
              · have := hn1 i h; omega
          · rw [hbo, if_pos rfl] at ha2
            subst ha2
            repeat' (first | (go_at_call 6; refine (open_r K1 _ hbo _).mono ?_; rintro r wo ⟨rfl, evo⟩; have zo := evo.size; refine ⟨_, rfl, ?_⟩; (conv => arg 5; simp only [zA, zB, ev, lget, zC, zD, zE, zF, zG, zH, zI, zJ, zK, zL, zM, zN])) | (with_reducible (first | refine' wp_seq ?_ | refine' wp_region_lit ?_ | refine' wpList_nil ?_ | refine' then_normal ?_ | refine' wp_skip ?_)) | ((with_reducible refine' c_condF ?hx ?_); (case hx => rfl)) | ((with_reducible refine' l_step ?_); ((first | ((with_reducible refine' g_loadS ?hx ?hb ?hn ?_); (case hx => rfl); (case hb => exact bqq); first | (case hc => rfl) | (case hn => simp only [List.length_cons, List.length_nil]; omega)) | ((with_reducible refine' g_notT ?hx ?_); (case hx => rfl))); (conv => arg 5; simp only [zA, zB, ev, lget, zC, zD, zE, zF, zG, zH, zI, zJ, zK, zL, zM, zN]))) | ((with_reducible refine' l_call TFn.ent ?ha ?_); (case ha => simp only [zC, zD, ev, lget]; (try rfl))))
            exact ⟨_, rfl, by simp only [setW, List.foldl_cons, List.foldl_nil, List.set_cons_succ, List.set_cons_zero], .slice V acts.length d, rfl, by exact bqq, ho2.evt (S := fun _ => False) (by exact eqq) (fun _ _ h => h), hn1, Nat.le_trans hl1 (by omega), by exact eqq⟩
        case h6 =>
          rintro u3 w3 ⟨v3, h83, hk3, ho3, hn3, hl3, e3⟩
          obtain ⟨K2, acts2⟩ := K2
          simp only [] at hk3 ho3 hl3 ⊢
          clear ha2 hk2 ho2 e2 he2 hp2 hr2 eW2 hrow2 hlt2 h8' hbo
          have z3 := e3.size
          have he3 := he'.evt e3 (by omega)
          have hp3 := hp'.evt e3 (by omega)
          have hr3 := hr.evt e3 (by omega)
          have eW3 : Evt (fun _ => False) w w3 := Evt.next e3 eW (fun i hi hh => by have h' : i = gk := hh; omega)
          have hrow3 := ho3.row
          obtain ⟨V3, d3', hV⟩ := own_slice hrow3
          subst hV
          have hlt3 := ho3.lt
          have nk3 : ¬ (Value.slice V3 acts2.length d3').ownBlock = some gk := fun hh => by have := hn3 gk hh; omega
          have nkf3 : ∀ j, (Value.slice V3 acts2.length d3').ownBlock = some j → ¬ j = gk := fun j hj hh => by subst hh; exact nk3 hj
          have ne3 : ¬ (Value.slice V3 acts2.length d3').ownBlock = some ge := fun hh => by have := hn3 ge hh; omega
          have np3 : ¬ (Value.slice V3 acts2.length d3').ownBlock = some gp := fun hh => by have := hn3 gp hh; omega
          have nr3 : ¬ (Value.slice V3 acts2.length d3').ownBlock = some gr := fun hh => by have := hn3 gr hh; omega
          have hsl := sus2_len p K2 e acts2
          simp only [setW, List.foldl_cons, List.foldl_nil, List.set_cons_succ, List.set_cons_zero]
          simp only [h83]
          refine' s_cut [8, 57, 58, 59, 60, 61, 62, 63, 64, 65, 66, 67, 68, 69, 70, 71, 72, 73, 74, 75, 76, 77, 78] (fun u w' => ∃ v, u 8 = v ∧ Blk w' gk 27 (casC (sus2 p K2 e acts2).1) ∧ OwnI w w' v (sus2 p K2 e acts2).2 ∧ (∀ j, v.ownBlock = some j → wr.heap.size ≤ j) ∧ (sus2 p K2 e acts2).2.length ≤ 3 ∧ Evt (fun j => j = gk) wr w') ?h7 ?h8
          case h7 =>
            cases hb2 : openB K2
            · have hq : sus2 p K2 e acts2 = (K2, acts2) := by unfold sus2; rw [hb2, if_neg (by simp)]
              rw [hq]
              repeat' (first | (go_at_call 6; refine (open_r K2 _ hb2 _).mono ?_; rintro r wo ⟨rfl, evo⟩; have zo := evo.size; refine ⟨_, rfl, ?_⟩; (conv => arg 5; simp only [zA, zB, ev, lget, zC, zD, zE, zF, zG, zH, zI, zJ, zK, zL, zM, zN])) | (with_reducible (first | refine' wp_seq ?_ | refine' wp_region_lit ?_ | refine' wpList_nil ?_ | refine' then_normal ?_ | refine' wp_skip ?_)) | ((with_reducible refine' c_condF ?hx ?_); (case hx => rfl)) | ((with_reducible refine' l_step ?_); ((first | (with_reducible refine' g_move ?_) | ((with_reducible refine' g_loadS ?hx ?hb ?hn ?_); (case hx => rfl); (case hb => exact bqq); first | (case hc => rfl) | (case hn => simp only [List.length_cons, List.length_nil]; omega)) | ((with_reducible refine' g_pickF ?hx ?_); (case hx => rfl))); (conv => arg 5; simp only [zA, zB, ev, lget, zC, zD, zE, zF, zG, zH, zI, zJ, zK, zL, zM, zN]))) | ((with_reducible refine' l_off ?hw ?_); (case hw => rfl); (conv => arg 5; simp only [zA, zB, ev, lget, zC, zD, zE, zF, zG, zH, zI, zJ, zK, zL, zM, zN])) | ((with_reducible refine' l_call TFn.ent ?ha ?_); (case ha => simp only [zC, zD, ev, lget]; (try rfl))))
              exact ⟨_, rfl, by simp only [setW, List.foldl_cons, List.foldl_nil, List.set_cons_succ, List.set_cons_zero], .slice V3 acts2.length d3', rfl, by exact bqq, ho3.evt (S := fun _ => False) (by exact eqq) (fun _ _ h => h), hn3, by show acts2.length ≤ 3; omega, by exact eqq⟩
            · have hq0 : sus2 p K2 e acts2 = susP p K2 e acts2 := by unfold sus2; rw [hb2, if_pos rfl]
              rw [hq0]
              cases hsu : K2.susp
              · simp only [casC, hsu] at hk3
                have opn3 : ∀ w, Calls Tryd.prog 6 #[.agg [.int .i64 K2.status, .bool false, .int .i64 K2.cycles, .int .i64 K2.since, .int .i64 K2.deadline, .int .i64 K2.promises, .int .i64 K2.pdue, .int .i64 K2.pamt, .int .i64 K2.pgot, .int .i64 K2.kept, .int .i64 K2.broken, .int .i64 K2.cures, .int .i64 K2.restr, .int .i64 K2.cfees, .int .i64 K2.lfees].toArray] w fun e w' => e = .returned (.bool true) ∧ Evt (fun _ => False) w w' := fun w => by have := open_r K2 _ hb2 w; simp only [casC, hsu] at this; exact this
                by_cases hd3 : K2.status = 3
                · repeat' (first | (go_at_call 6; refine (opn3 _).mono ?_; rintro r wo ⟨rfl, evo⟩; have zo := evo.size; refine ⟨_, rfl, ?_⟩; (conv => arg 5; simp only [zA, zB, ev, lget, zC, zD, zE, zF, zG, zH, zI, zJ, zK, zL, zM, zN])) | (((with_reducible refine' e_append ?hx ?hy ?hzs ?hsz ?hown ?hl ?hnews ?h1 ?hb ?hm ?_); (case hx => ((try simp only [ev, lget]); (try rfl))); (case hy => rfl); (case hzs => rfl); (case hsz => decide); (case hown => exact oqq); (case hnews => refine' blk_src ?hbb; (case hbb => exact bqq)); (case hl => rfl); (case h1 => simp [Value.oneCell']); (case hb => omega); (case hm => omega); intro vA wA hoA heA hnA haA hzA; (conv => arg 5; simp only [zA, zB, ev, lget, zC, zD, zE, zF, zG, zH, zI, zJ, zK, zL, zM, zN])); have hlA := own_lt hoA; obtain ⟨VA, dA, hVA⟩ := own_slice hoA; subst hVA) | (with_reducible (first | refine' wp_seq ?_ | refine' wp_region_lit ?_ | refine' wpList_nil ?_ | refine' then_normal ?_ | refine' wp_skip ?_)) | ((with_reducible refine' c_condT ?hx ?_); (case hx => rfl)) | ((with_reducible refine' c_condF ?hx ?_); (case hx => rfl)) | ((with_reducible refine' l_step ?_); (first | ((first | (with_reducible refine' g_move ?_) | (with_reducible refine' g_assign ?_) | ((with_reducible refine' g_fieldAddr ?hx ?ho ?_); (case hx => rfl); (case ho => rfl)) | ((first | (with_reducible refine' g_loadB ?hx ?hb ?hc ?_) | (with_reducible refine' g_loadS ?hx ?hb ?hn ?_)); (case hx => rfl); (case hb => exact bqq); first | (case hc => rfl) | (case hn => simp only [List.length_cons, List.length_nil]; omega)) | ((with_reducible refine' g_pickT ?hx ?_); (case hx => rfl)) | ((with_reducible refine' g_notF ?hx ?_); (case hx => rfl))); (conv => arg 5; simp only [zA, zB, ev, lget, zC, zD, zE, zF, zG, zH, zI, zJ, zK, zL, zM, zN])) | ((first | ((with_reducible refine' g_geq ?hx ?hy (fun _ => ?_) (fun _ => ?_)); (case hx => rfl)) | ((with_reducible refine' g_eql ?hx ?hy (fun _ => ?_) (fun _ => ?_)); (case hx => rfl))); (case hy => rfl); all_goals (first | (exfalso; omega) | (conv => arg 5; simp only [zA, zB, ev, lget, zC, zD, zE, zF, zG, zH, zI, zJ, zK, zL, zM, zN]))))) | ((with_reducible refine' l_on ?hw ?_); (case hw => rfl)) | (((with_reducible refine' e_sliceLit ?hx ?hi ?hv ?hn ?_); (case hx => simp only [zC, zD, ev, lget]; (try rfl)); (case hi => rfl); (case hv => simp [Value.cells]); (case hn => decide); simp only [List.flatMap_cons, List.flatMap_nil, Value.cells, List.cons_append, List.nil_append]); intro _ _ _ _ _ _ _; (conv => arg 5; simp only [zA, zB, ev, lget, zC, zD, zE, zF, zG, zH, zI, zJ, zK, zL, zM, zN])) | ((first | ((with_reducible refine' e_storeB ?hx ?hy ?hv ?h1 ?hb ?ho ?_); (case hx => rfl); (case hy => ((try simp only [ev, lget]); (try rfl))); (case hv => rfl); (case h1 => rfl)) | ((with_reducible refine' e_storeR ?hx ?hy ?h1 ?hb ?hn ?ho ?_); (case hx => rfl); (case hy => rfl); (case h1 => simp [Value.oneCell']); (case hn => rfl))); (case hb => exact bqq); (case ho => first | (simp only [List.length_cons, List.length_nil]; omega) | omega | (simp; omega) | simp); (try simp only [splice, zA, zB]); intro _ _ _ _) | ((with_reducible refine' l_call TFn.ent ?ha ?_); (case ha => simp only [zC, zD, ev, lget]; (try rfl))))
                  · have hq : susP p K2 e acts2 = ({ K2 with susp := true, status := 5 }, acts2 ++ [3]) := by unfold susP; rw [if_pos ⟨hsu, by omega⟩, if_pos hd3]
                    rw [hq]
                    have oA := own_or1 (B := w3.heap.size) haA (by omega)
                    exact ⟨_, rfl, by simp only [setW, List.foldl_cons, List.foldl_nil, List.set_cons_succ, List.set_cons_zero], .slice VA (acts2.length + 1) dA, rfl, by exact bqq, OwnI.app ho3 hoA haA (by omega) (Evt.refl (fun _ => False) wA) (fun _ _ h => h), fun j hj => (oA j hj).elim (hn3 j) (fun h => by omega), by rw [List.length_append]; exact Nat.succ_le_succ hl3, Evt.next (by exact eqq : Evt (fun j => j = gk ∨ (Value.slice V3 acts2.length d3').ownBlock = some j) w3 wA) e3 (fun i hi hh => hh.elim id (fun h => by have := hn3 i h; omega))⟩
                  · have hq : susP p K2 e acts2 = (K2, acts2) := by unfold susP; rw [if_neg (by omega)]
                    rw [hq]
                    simp only [casC, hsu]
                    exact ⟨_, rfl, by simp only [setW, List.foldl_cons, List.foldl_nil, List.set_cons_succ, List.set_cons_zero], .slice V3 acts2.length d3', rfl, by exact bqq, ho3.evt (S := fun _ => False) (by exact eqq) (fun _ _ h => h), hn3, by show acts2.length ≤ 3; omega, by exact eqq⟩
                · repeat' (first | (go_at_call 6; refine (opn3 _).mono ?_; rintro r wo ⟨rfl, evo⟩; have zo := evo.size; refine ⟨_, rfl, ?_⟩; (conv => arg 5; simp only [zA, zB, ev, lget, zC, zD, zE, zF, zG, zH, zI, zJ, zK, zL, zM, zN])) | (((with_reducible refine' e_append ?hx ?hy ?hzs ?hsz ?hown ?hl ?hnews ?h1 ?hb ?hm ?_); (case hx => ((try simp only [ev, lget]); (try rfl))); (case hy => rfl); (case hzs => rfl); (case hsz => decide); (case hown => exact oqq); (case hnews => refine' blk_src ?hbb; (case hbb => exact bqq)); (case hl => rfl); (case h1 => simp [Value.oneCell']); (case hb => omega); (case hm => omega); intro vA wA hoA heA hnA haA hzA; (conv => arg 5; simp only [zA, zB, ev, lget, zC, zD, zE, zF, zG, zH, zI, zJ, zK, zL, zM, zN])); have hlA := own_lt hoA; obtain ⟨VA, dA, hVA⟩ := own_slice hoA; subst hVA) | (with_reducible (first | refine' wp_seq ?_ | refine' wp_region_lit ?_ | refine' wpList_nil ?_ | refine' then_normal ?_ | refine' wp_skip ?_)) | ((with_reducible refine' c_condT ?hx ?_); (case hx => rfl)) | ((with_reducible refine' c_condF ?hx ?_); (case hx => rfl)) | ((with_reducible refine' l_step ?_); (first | ((first | (with_reducible refine' g_move ?_) | (with_reducible refine' g_assign ?_) | ((with_reducible refine' g_fieldAddr ?hx ?ho ?_); (case hx => rfl); (case ho => rfl)) | ((first | (with_reducible refine' g_loadB ?hx ?hb ?hc ?_) | (with_reducible refine' g_loadS ?hx ?hb ?hn ?_)); (case hx => rfl); (case hb => exact bqq); first | (case hc => rfl) | (case hn => simp only [List.length_cons, List.length_nil]; omega)) | ((with_reducible refine' g_pickT ?hx ?_); (case hx => rfl)) | ((with_reducible refine' g_notF ?hx ?_); (case hx => rfl))); (conv => arg 5; simp only [zA, zB, ev, lget, zC, zD, zE, zF, zG, zH, zI, zJ, zK, zL, zM, zN])) | ((first | ((with_reducible refine' g_geq ?hx ?hy (fun _ => ?_) (fun _ => ?_)); (case hx => rfl)) | ((with_reducible refine' g_eql ?hx ?hy (fun _ => ?_) (fun _ => ?_)); (case hx => rfl))); (case hy => rfl); all_goals (first | (exfalso; omega) | (conv => arg 5; simp only [zA, zB, ev, lget, zC, zD, zE, zF, zG, zH, zI, zJ, zK, zL, zM, zN]))))) | ((with_reducible refine' l_on ?hw ?_); (case hw => rfl)) | (((with_reducible refine' e_sliceLit ?hx ?hi ?hv ?hn ?_); (case hx => simp only [zC, zD, ev, lget]; (try rfl)); (case hi => rfl); (case hv => simp [Value.cells]); (case hn => decide); simp only [List.flatMap_cons, List.flatMap_nil, Value.cells, List.cons_append, List.nil_append]); intro _ _ _ _ _ _ _; (conv => arg 5; simp only [zA, zB, ev, lget, zC, zD, zE, zF, zG, zH, zI, zJ, zK, zL, zM, zN])) | ((first | ((with_reducible refine' e_storeB ?hx ?hy ?hv ?h1 ?hb ?ho ?_); (case hx => rfl); (case hy => ((try simp only [ev, lget]); (try rfl))); (case hv => rfl); (case h1 => rfl)) | ((with_reducible refine' e_storeR ?hx ?hy ?h1 ?hb ?hn ?ho ?_); (case hx => rfl); (case hy => rfl); (case h1 => simp [Value.oneCell']); (case hn => rfl))); (case hb => exact bqq); (case ho => first | (simp only [List.length_cons, List.length_nil]; omega) | omega | (simp; omega) | simp); (try simp only [splice, zA, zB]); intro _ _ _ _) | ((with_reducible refine' l_call TFn.ent ?ha ?_); (case ha => simp only [zC, zD, ev, lget]; (try rfl))))
                  · have hq : susP p K2 e acts2 = ({ K2 with susp := true }, acts2 ++ [3]) := by unfold susP; rw [if_pos ⟨hsu, by omega⟩, if_neg hd3]
                    rw [hq]
                    have oA := own_or1 (B := w3.heap.size) haA (by omega)
                    exact ⟨_, rfl, by simp only [setW, List.foldl_cons, List.foldl_nil, List.set_cons_succ, List.set_cons_zero], .slice VA (acts2.length + 1) dA, rfl, by exact bqq, OwnI.app ho3 hoA haA (by omega) (Evt.refl (fun _ => False) wA) (fun _ _ h => h), fun j hj => (oA j hj).elim (hn3 j) (fun h => by omega), by rw [List.length_append]; exact Nat.succ_le_succ hl3, Evt.next (by exact eqq : Evt (fun j => j = gk ∨ (Value.slice V3 acts2.length d3').ownBlock = some j) w3 wA) e3 (fun i hi hh => hh.elim id (fun h => by have := hn3 i h; omega))⟩
                  · have hq : susP p K2 e acts2 = (K2, acts2) := by unfold susP; rw [if_neg (by omega)]
                    rw [hq]
                    simp only [casC, hsu]
                    exact ⟨_, rfl, by simp only [setW, List.foldl_cons, List.foldl_nil, List.set_cons_succ, List.set_cons_zero], .slice V3 acts2.length d3', rfl, by exact bqq, ho3.evt (S := fun _ => False) (by exact eqq) (fun _ _ h => h), hn3, by show acts2.length ≤ 3; omega, by exact eqq⟩
              · have hq : susP p K2 e acts2 = (K2, acts2) := by unfold susP; rw [if_neg (by simp [hsu])]
                rw [hq]
                simp only [casC, hsu] at hk3
                have opn3 : ∀ w, Calls Tryd.prog 6 #[.agg [.int .i64 K2.status, .bool true, .int .i64 K2.cycles, .int .i64 K2.since, .int .i64 K2.deadline, .int .i64 K2.promises, .int .i64 K2.pdue, .int .i64 K2.pamt, .int .i64 K2.pgot, .int .i64 K2.kept, .int .i64 K2.broken, .int .i64 K2.cures, .int .i64 K2.restr, .int .i64 K2.cfees, .int .i64 K2.lfees].toArray] w fun e w' => e = .returned (.bool true) ∧ Evt (fun _ => False) w w' := fun w => by have := open_r K2 _ hb2 w; simp only [casC, hsu] at this; exact this
                repeat' (first | (go_at_call 6; refine (opn3 _).mono ?_; rintro r wo ⟨rfl, evo⟩; have zo := evo.size; refine ⟨_, rfl, ?_⟩; (conv => arg 5; simp only [zA, zB, ev, lget, zC, zD, zE, zF, zG, zH, zI, zJ, zK, zL, zM, zN])) | (with_reducible (first | refine' wp_seq ?_ | refine' wp_region_lit ?_ | refine' wpList_nil ?_ | refine' then_normal ?_ | refine' wp_skip ?_)) | ((with_reducible refine' c_condF ?hx ?_); (case hx => rfl)) | ((with_reducible refine' l_step ?_); ((first | (with_reducible refine' g_move ?_) | ((with_reducible refine' g_fieldAddr ?hx ?ho ?_); (case hx => rfl); (case ho => rfl)) | ((first | (with_reducible refine' g_loadB ?hx ?hb ?hc ?_) | (with_reducible refine' g_loadS ?hx ?hb ?hn ?_)); (case hx => rfl); (case hb => exact bqq); first | (case hc => rfl) | (case hn => simp only [List.length_cons, List.length_nil]; omega)) | ((with_reducible refine' g_pickT ?hx ?_); (case hx => rfl)) | ((with_reducible refine' g_pickF ?hx ?_); (case hx => rfl)) | ((with_reducible refine' g_notT ?hx ?_); (case hx => rfl))); (conv => arg 5; simp only [zA, zB, ev, lget, zC, zD, zE, zF, zG, zH, zI, zJ, zK, zL, zM, zN]))) | ((with_reducible refine' l_on ?hw ?_); (case hw => rfl)) | ((with_reducible refine' l_off ?hw ?_); (case hw => rfl); (conv => arg 5; simp only [zA, zB, ev, lget, zC, zD, zE, zF, zG, zH, zI, zJ, zK, zL, zM, zN])) | ((with_reducible refine' l_call TFn.ent ?ha ?_); (case ha => simp only [zC, zD, ev, lget]; (try rfl))))
                simp only [casC, hsu]
                exact ⟨_, rfl, by simp only [setW, List.foldl_cons, List.foldl_nil, List.set_cons_succ, List.set_cons_zero], .slice V3 acts2.length d3', rfl, by exact bqq, ho3.evt (S := fun _ => False) (by exact eqq) (fun _ _ h => h), hn3, by show acts2.length ≤ 3; omega, by exact eqq⟩
          case h8 =>
            rintro u4 w4 ⟨v4, h84, hk4, ho4, hn4, hl4, e4⟩
            generalize sus2 p K2 e acts2 = K3 at *
            obtain ⟨K3, acts3⟩ := K3
            simp only [] at hk4 ho4 hl4 ⊢
            clear hk3 ho3 e3 he3 hp3 hr3 eW3 hrow3 hlt3 h83 hsl
            have z4 := e4.size
            have he4 := he'.evt e4 (by omega)
            have hp4 := hp'.evt e4 (by omega)
            have hr4 := hr.evt e4 (by omega)
            have eW4 : Evt (fun _ => False) w w4 := Evt.next e4 eW (fun i hi hh => by have h' : i = gk := hh; omega)
            have hrow4 := ho4.row
            obtain ⟨V4, d4', hV⟩ := own_slice hrow4
            subst hV
            have hlt4 := ho4.lt
            have nk4 : ¬ (Value.slice V4 acts3.length d4').ownBlock = some gk := fun hh => by have := hn4 gk hh; omega
            have nkf4 : ∀ j, (Value.slice V4 acts3.length d4').ownBlock = some j → ¬ j = gk := fun j hj hh => by subst hh; exact nk4 hj
            have ne4 : ¬ (Value.slice V4 acts3.length d4').ownBlock = some ge := fun hh => by have := hn4 ge hh; omega
            have np4 : ¬ (Value.slice V4 acts3.length d4').ownBlock = some gp := fun hh => by have := hn4 gp hh; omega
            have nr4 : ¬ (Value.slice V4 acts3.length d4').ownBlock = some gr := fun hh => by have := hn4 gr hh; omega
            have nS4 : ∀ j, (Value.slice V4 acts3.length d4').ownBlock = some j → ¬ (j = gk ∨ j = gr) := fun j hj hh => by
              rcases hh with rfl | rfl
              · exact nk4 hj
              · exact nr4 hj
            simp only [setW, List.foldl_cons, List.foldl_nil, List.set_cons_succ, List.set_cons_zero]
            simp only [h84]
            obtain ⟨Ke, hKe⟩ : ∃ Ke, endP K3 8 = Ke := ⟨_, rfl⟩
            have hen := fun w => ended_r K3 8 w
            simp only [hKe] at hen
            cases hb3 : openB K3
            · repeat' (first | (go_at_call 6; refine (open_r K3 _ hb3 _).mono ?_; rintro r wo ⟨rfl, evo⟩; have zo := evo.size; refine ⟨_, rfl, ?_⟩; (conv => arg 5; simp only [zA, zB, ev, lget, zC, zD, zE, zF, zG, zH, zI, zJ, zK, zL, zM, zN])) | (with_reducible (first | refine' wp_seq ?_ | refine' wp_region_lit ?_ | refine' wpList_nil ?_ | refine' then_normal ?_ | refine' wp_ret ?_ | refine' wp_skip ?_)) | ((with_reducible refine' c_condF ?hx ?_); (case hx => rfl)) | ((with_reducible refine' b_retN ?hr ?h2 ?ha ?_); (case hr => rfl); (case h2 => decide); (case ha => first | exact ra_nil | ((first | ((with_reducible refine' ra_tmp ?rv2 ?rh2); (case rv2 => ((try simp only [ev, lget]); (try rfl)))) | ((with_reducible refine' ra_cell ?rp2 ?rt2 ?rq2 ?rn2 ?rh2); (case rp2 => rfl); (case rt2 => infer_instance); (case rq2 => exact bqq); (case rn2 => rfl))); (case rh2 => first | exact ra_nil | ((first | ((with_reducible refine' ra_tmp ?rv1 ?rh1); (case rv1 => ((try simp only [ev, lget]); (try rfl)))) | ((with_reducible refine' ra_cell ?rp1 ?rt1 ?rq1 ?rn1 ?rh1); (case rp1 => rfl); (case rt1 => infer_instance); (case rq1 => exact bqq); (case rn1 => rfl))); (case rh1 => first | exact ra_nil)))))) | ((with_reducible refine' l_step ?_); ((first | (with_reducible refine' g_move ?_) | (with_reducible refine' g_assign ?_) | ((with_reducible refine' g_loadS ?hx ?hb ?hn ?_); (case hx => rfl); (case hb => exact bqq); first | (case hc => rfl) | (case hn => simp only [List.length_cons, List.length_nil]; omega)) | ((with_reducible refine' g_pickF ?hx ?_); (case hx => rfl))); (conv => arg 5; simp only [zA, zB, ev, lget, zC, zD, zE, zF, zG, zH, zI, zJ, zK, zL, zM, zN]))) | ((with_reducible refine' l_off ?hw ?_); (case hw => rfl); (conv => arg 5; simp only [zA, zB, ev, lget, zC, zD, zE, zF, zG, zH, zI, zJ, zK, zL, zM, zN])) | ((first | ((with_reducible refine' e_storeB ?hx ?hy ?hv ?h1 ?hb ?ho ?_); (case hx => rfl); (case hy => ((try simp only [ev, lget]); (try rfl))); (case hv => rfl); (case h1 => rfl)) | ((with_reducible refine' e_storeR ?hx ?hy ?h1 ?hb ?hn ?ho ?_); (case hx => rfl); (case hy => rfl); (case h1 => simp [Value.oneCell']); (case hn => rfl))); (case hb => exact bqq); (case ho => first | (simp only [List.length_cons, List.length_nil]; omega) | omega | (simp; omega) | simp); (try simp only [splice, zA, zB]); intro _ _ _ _) | ((with_reducible refine' l_call TFn.ent ?ha ?_); (case ha => simp only [zC, zD, ev, lget]; (try rfl))))
              rw [if_neg (by simp)]
              exact ⟨_, rfl, ho4.evt (S := fun j => j = gk ∨ j = gr) (by exact eqq) nS4, by exact eqq⟩
            · rw [if_pos rfl]
              repeat' (first | (go_at_call 6; refine (open_r K3 _ hb3 _).mono ?_; rintro r wo ⟨rfl, evo⟩; have zo := evo.size; refine ⟨_, rfl, ?_⟩; (conv => arg 5; simp only [zA, zB, ev, lget, zC, zD, zE, zF, zG, zH, zI, zJ, zK, zL, zM, zN])) | (((with_reducible refine' e_append ?hx ?hy ?hzs ?hsz ?hown ?hl ?hnews ?h1 ?hb ?hm ?_); (case hx => ((try simp only [ev, lget]); (try rfl))); (case hy => rfl); (case hzs => rfl); (case hsz => decide); (case hown => exact oqq); (case hnews => refine' blk_src ?hbb; (case hbb => exact bqq)); (case hl => rfl); (case h1 => simp [Value.oneCell']); (case hb => omega); (case hm => omega); intro vA wA hoA heA hnA haA hzA; (conv => arg 5; simp only [zA, zB, ev, lget, zC, zD, zE, zF, zG, zH, zI, zJ, zK, zL, zM, zN])); have hlA := own_lt hoA; obtain ⟨VA, dA, hVA⟩ := own_slice hoA; subst hVA) | (go_at_call 42; refine (hen _).mono ?_; rintro r wc ⟨rfl, evc⟩; have zc := evc.size; refine ⟨_, rfl, ?_⟩; simp only [casC]; (conv => arg 5; simp only [zA, zB, ev, lget, zC, zD, zE, zF, zG, zH, zI, zJ, zK, zL, zM, zN])) | (with_reducible (first | refine' wp_seq ?_ | refine' wp_region_lit ?_ | refine' wpList_nil ?_ | refine' then_normal ?_ | refine' wp_ret ?_ | refine' wp_skip ?_)) | ((with_reducible refine' c_condT ?hx ?_); (case hx => rfl)) | ((with_reducible refine' c_condF ?hx ?_); (case hx => rfl)) | ((with_reducible refine' b_retN ?hr ?h2 ?ha ?_); (case hr => rfl); (case h2 => decide); (case ha => first | exact ra_nil | ((first | ((with_reducible refine' ra_tmp ?rv2 ?rh2); (case rv2 => ((try simp only [ev, lget]); (try rfl)))) | ((with_reducible refine' ra_cell ?rp2 ?rt2 ?rq2 ?rn2 ?rh2); (case rp2 => rfl); (case rt2 => infer_instance); (case rq2 => exact bqq); (case rn2 => rfl))); (case rh2 => first | exact ra_nil | ((first | ((with_reducible refine' ra_tmp ?rv1 ?rh1); (case rv1 => ((try simp only [ev, lget]); (try rfl)))) | ((with_reducible refine' ra_cell ?rp1 ?rt1 ?rq1 ?rn1 ?rh1); (case rp1 => rfl); (case rt1 => infer_instance); (case rq1 => exact bqq); (case rn1 => rfl))); (case rh1 => first | exact ra_nil)))))) | ((with_reducible refine' l_step ?_); (first | ((first | (with_reducible refine' g_move ?_) | (with_reducible refine' g_assign ?_) | ((with_reducible refine' g_fieldAddr ?hx ?ho ?_); (case hx => rfl); (case ho => rfl)) | ((first | (with_reducible refine' g_loadB ?hx ?hb ?hc ?_) | (with_reducible refine' g_loadS ?hx ?hb ?hn ?_)); (case hx => rfl); (case hb => exact bqq); first | (case hc => rfl) | (case hn => simp only [List.length_cons, List.length_nil]; omega)) | ((with_reducible refine' g_pickT ?hx ?_); (case hx => rfl))); (conv => arg 5; simp only [zA, zB, ev, lget, zC, zD, zE, zF, zG, zH, zI, zJ, zK, zL, zM, zN])) | (((with_reducible refine' g_geq ?hx ?hy (fun _ => ?_) (fun _ => ?_)); (case hx => rfl)); (case hy => rfl); all_goals (first | (exfalso; omega) | (conv => arg 5; simp only [zA, zB, ev, lget, zC, zD, zE, zF, zG, zH, zI, zJ, zK, zL, zM, zN]))))) | ((with_reducible refine' l_on ?hw ?_); (case hw => rfl)) | (((with_reducible refine' e_sliceLit ?hx ?hi ?hv ?hn ?_); (case hx => simp only [zC, zD, ev, lget]; (try rfl)); (case hi => rfl); (case hv => simp [Value.cells]); (case hn => decide); simp only [List.flatMap_cons, List.flatMap_nil, Value.cells, List.cons_append, List.nil_append]); intro _ _ _ _ _ _ _; (conv => arg 5; simp only [zA, zB, ev, lget, zC, zD, zE, zF, zG, zH, zI, zJ, zK, zL, zM, zN])) | ((first | ((with_reducible refine' e_storeB ?hx ?hy ?hv ?h1 ?hb ?ho ?_); (case hx => rfl); (case hy => ((try simp only [ev, lget]); (try rfl))); (case hv => rfl); (case h1 => rfl)) | ((with_reducible refine' e_storeR ?hx ?hy ?h1 ?hb ?hn ?ho ?_); (case hx => rfl); (case hy => rfl); (case h1 => simp [Value.oneCell']); (case hn => rfl))); (case hb => exact bqq); (case ho => first | (simp only [List.length_cons, List.length_nil]; omega) | omega | (simp; omega) | simp); (try simp only [splice, zA, zB]); intro _ _ _ _) | ((with_reducible refine' l_call TFn.ent ?ha ?_); (case ha => simp only [zC, zD, ev, lget]; (try rfl))))
              · have hq : dueP K3 e acts3 = (Ke, acts3 ++ [4]) := by unfold dueP; rw [if_pos (by omega), hKe]
                rw [hq]
                rename_i w9 h9 e9 z9
                have oA := own_or1 (B := w4.heap.size) haA (by omega)
                have eA9 : Evt (fun j => j = gk ∨ j = gr) wA w9 := by exact eqq
                have eA4 : Evt (fun j => j = gk ∨ (Value.slice V4 acts3.length d4').ownBlock = some j) w4 wA := by exact eqq
                refine ⟨_, rfl, OwnI.app ho4 hoA haA (by omega) eA9 (fun j hj hh => ?_), Evt.next eA9 (Evt.next eA4 eW4 (fun i hi hh => ?_)) (fun i hi hh => by omega)⟩
                · rcases oA j hj with h | h
                  · exact nS4 j h hh
                  · omega
                · rcases hh with h | h
                  · omega
                  · have := hn4 i h; omega
              · have hq : dueP K3 e acts3 = (K3, acts3) := by unfold dueP; rw [if_neg (by omega)]
                rw [hq]
                exact ⟨_, rfl, ho4.evt (S := fun j => j = gk ∨ j = gr) (by exact eqq) nS4, by exact eqq⟩
end Go.Proofs.YthfnlmedelfbnaaDoor
