/- A step on both: own memory; the holidays written over. SHORT -/
import Derived.Test.YthfnlmedelfbnaaDoorShl13c
namespace Go.Proofs.YthfnlmedelfbnaaDoor
open Go.RowKit Go.Proofs.YthfnlmedelfbnaaDoorE
set_option linter.unusedSimpArgs false
set_option linter.unusedVariables false

@[reducible] def pairC (k m : Cas) : List Value := [.int .i64 k.status, .bool k.susp, .int .i64 k.cycles, .int .i64 k.since, .int .i64 k.deadline, .int .i64 k.promises, .int .i64 k.pdue, .int .i64 k.pamt, .int .i64 k.pgot, .int .i64 k.kept, .int .i64 k.broken, .int .i64 k.cures, .int .i64 k.restr, .int .i64 k.cfees, .int .i64 k.lfees, .int .i64 m.status, .bool m.susp, .int .i64 m.cycles, .int .i64 m.since, .int .i64 m.deadline, .int .i64 m.promises, .int .i64 m.pdue, .int .i64 m.pamt, .int .i64 m.pgot, .int .i64 m.kept, .int .i64 m.broken, .int .i64 m.cures, .int .i64 m.restr, .int .i64 m.cfees, .int .i64 m.lfees]
theorem lawOwn_own (p : Pol) (A : Option Addr) (c : Nat) (w : World) (hr : RI w A p.hs) (hsz : p.hs.length ≤ 1048576) :
    Calls Tryd.prog 16 #[.agg (polC p A c).toArray] w fun e w' => ∃ V d, e = .returned (.agg (polC p V d).toArray) ∧ w'.ownsRow 0 3 1 (.slice V p.hs.length d) p.hs.length (ints p.hs) ∧ (∀ k, (Value.slice V p.hs.length d).ownBlock = some k → w.heap.size ≤ k) ∧ Evt (fun _ => False) w w' := by
  go_enter Tryd.func16, Tryd.ntmps16
  repeat' (first | ((with_reducible refine' e_appI (v := .slice none 0 0) (xs := []) (ys := p.hs) ?hx ?hy ?hown ?hr ?hb ?_); (case hx => rfl); (case hy => rfl); (case hown => exact World.ownsRow_nil _ _ _ _); (case hr => exact hr.up (by exact eqq)); (case hb => simp; omega); intro v' wA hown hev1 hat hz1; rw [List.nil_append] at hown; obtain ⟨V, d, hV⟩ := own_slice hown; subst hV; (conv => arg 5; simp only [zA, zB, ev, lget, zC, zD, zE, zF, zG, zH, zI, zJ, zK, zL, zM, zN]); have heA : Evt (fun _ => False) _ wA := (hev1.mono fun k _ hk => by simp [Value.ownBlock] at hk); clear hev1) | (with_reducible (first | refine' wp_seq ?_ | refine' wp_region_lit ?_ | refine' wpList_nil ?_ | refine' then_normal ?_ | refine' wp_ret ?_)) | ((with_reducible refine' b_retC ?hr ?ht ?hp ?hb ?hn ?_); (case hr => rfl); (case ht => infer_instance); (case hp => rfl); (case hb => exact bqq); (case hn => rfl)) | ((with_reducible refine' l_step ?_); ((first | (with_reducible refine' g_move ?_) | (with_reducible refine' g_assign ?_) | ((with_reducible refine' g_fieldAddr ?hx ?ho ?_); (case hx => rfl); (case ho => rfl)) | ((first | (with_reducible refine' g_loadB ?hx ?hb ?hc ?_) | (with_reducible refine' g_loadS ?hx ?hb ?hn ?_)); (case hx => rfl); (case hb => exact bqq); first | (case hc => rfl) | (case hn => simp only [List.length_cons, List.length_nil]; omega))); (conv => arg 5; simp only [zA, zB, ev, lget, zC, zD, zE, zF, zG, zH, zI, zJ, zK, zL, zM, zN]))) | ((first | ((with_reducible refine' e_boxA ?hx ?_); (case hx => rfl)) | ((with_reducible refine' e_alloc ?hx ?_); (case hx => rfl))); intro _ _ _ _ _ _ _; (conv => arg 5; simp only [zA, zB, ev, lget, zC, zD, zE, zF, zG, zH, zI, zJ, zK, zL, zM, zN])) | ((first | ((with_reducible refine' e_storeB ?hx ?hy ?hv ?h1 ?hb ?ho ?_); (case hx => rfl); (case hy => ((try simp only [ev, lget]); (try rfl))); (case hv => rfl); (case h1 => rfl)) | ((with_reducible refine' e_storeR ?hx ?hy ?h1 ?hb ?hn ?ho ?_); (case hx => rfl); (case hy => rfl); (case h1 => simp [Value.oneCell']); (case hn => rfl))); (case hb => exact bqq); (case ho => first | (simp only [List.length_cons, List.length_nil]; omega) | omega | (simp; omega) | simp); (try simp only [splice, zA, zB]); intro _ _ _ _))
  rename_i gq wq q1 q2 hgq hq3 hq4 gr wr r1 r2 hgr hr3 hr4 w5 h5 e5 z5 w6 h6 e6 z6
  have hfr := own_new hat
  refine ⟨V, d, rfl, own_evt e6 (own_evt e5 hown (fun k hk hh => ?_)) (fun k hk hh => ?_), fun k hk => ?_, by exact eqq⟩
  · have := hfr k hk; have h' : k = gq := hh; omega
  · have := hfr k hk; have h' : k = gr := hh; omega
  · have := hfr k hk; omega
theorem take_set2 {cur : List Value} {i : Nat} {v : Value} {xs : List Value} (h : cur.take i = xs) (hi : i < cur.length) : (cur.set i v).take (i + 1) = xs ++ [v] := by
  have hl : i < (cur.set i v).length := by rw [List.length_set]; exact hi
  rw [List.take_succ_eq_append_getElem hl, List.getElem_set_self]
  congr 1
  rw [← h]
  apply List.ext_getElem?
  intro k
  rw [List.getElem?_take, List.getElem?_take]
  by_cases hk : k < i
  · rw [if_pos hk, if_pos hk, List.getElem?_set_ne (by omega)]
  · rw [if_neg hk, if_neg hk]
def rng (n : Nat) : List Int := (List.range n).map fun (j : Nat) => (j : Int)
theorem rng_len (n : Nat) : (rng n).length = n := by simp [rng]
theorem rng_succ (n : Nat) : ints (rng (n + 1)) = ints (rng n) ++ [.int .i64 (n : Int)] := by simp [rng, ints, List.range_succ]
/-- A row that is written over from its head on. -/
def Half (w : World) (V : Option Addr) (n d i : Nat) : Prop := ∀ g, (Value.slice V n d).ownBlock = some g → ∃ cur, V = some ⟨g, 0, none⟩ ∧ Blk w g 3 cur ∧ cur.length = d ∧ cur.take i = ints (rng i)
theorem half0 {w : World} {V : Option Addr} {n d : Nat} {xs : List Value} (h : w.ownsRow 0 3 1 (.slice V n d) n xs) : Half w V n d 0 := fun g hg => by
  rcases own_blk_of h with ⟨h1, h2⟩ | ⟨g', cap, cur, h1, hb, ht, hl, hc, _⟩
  · rw [h1] at hg
    simp [Value.ownBlock] at hg
  · simp only [Value.slice.injEq] at h1
    obtain ⟨rfl, _, rfl⟩ := h1
    simp only [Value.ownBlock, Option.some.injEq] at hg
    subst hg
    exact ⟨cur, rfl, hb, by simpa using hl, by simp [rng, ints]⟩
theorem half_ri {w : World} {V : Option Addr} {n d : Nat} (h : Half w V n d n) (hn : n ≤ 1048576) (hb : 0 < n → ∃ g, (Value.slice V n d).ownBlock = some g) : RI w V (rng n) := by
  refine ⟨by rw [rng_len]; omega, fun h0 => ?_⟩
  rw [rng_len] at h0
  obtain ⟨g, hg⟩ := hb h0
  obtain ⟨cur, rfl, hbl, _, ht⟩ := h g hg
  have h1 := RI_of_blk0 hbl ht (by rw [rng_len]; omega)
  exact h1.2 (by rw [rng_len]; exact h0)
theorem Half.evt {S : Nat → Prop} {w w' : World} {V : Option Addr} {n d i : Nat} (h : Half w V n d i) (he : Evt S w w') (hs : ∀ k, (Value.slice V n d).ownBlock = some k → ¬ S k) : Half w' V n d i := fun g hg => by
  obtain ⟨cur, h1, h2, h3, h4⟩ := h g hg
  exact ⟨cur, h1, h2.evt he (hs g hg), h3, h4⟩
theorem own_some {w : World} {V : Option Addr} {n d : Nat} {xs : List Value} (h : w.ownsRow 0 3 1 (.slice V n d) n xs) (hn : 0 < n) : ∃ g, (Value.slice V n d).ownBlock = some g := by
  rcases own_blk_of h with ⟨_, h2⟩ | ⟨g', cap, cur, h1, _⟩
  · omega
  · exact ⟨g', by rw [h1]; rfl⟩
set_option maxRecDepth 20000 in
set_option maxHeartbeats 8000000 in
theorem anew_any (p : Pol) (A V : Option Addr) (c d : Nat) (k : Cas) (e : Evn) (w : World) (hr : RI w A p.hs) (hsz : p.hs.length ≤ 1048576) (hrow : w.ownsRow 0 3 1 (.slice V p.hs.length d) p.hs.length (ints p.hs)) (hv : e.wf) (hk : CaseOk k) :
    Calls Tryd.prog 22 #[.agg (polC p A c).toArray, .agg (polC p V d).toArray, .agg (pairC k k).toArray, .agg (evnC e).toArray] w fun r w' => r = .returned (.bool true) ∧ Evt (fun j => (Value.slice V p.hs.length d).ownBlock = some j) w w' := by
  have hltV := own_lt hrow
  go_enter Tryd.func22, Tryd.ntmps22
  repeat' (first | (with_reducible refine' stop_reg (id := 2) ?_) | (go_at_call 16; refine (lawOwn_own p A c _ (hr.up (by exact eqq)) hsz).mono ?_; rintro r wo ⟨VQ, dQ, rfl, hoQ, hnQ, evo⟩; have zo := evo.size; refine ⟨_, rfl, ?_⟩; simp only [polC]; (conv => arg 5; simp only [zA, zB, ev, lget, zC, zD, zE, zF, zG, zH, zI, zJ, zK, zL, zM, zN])) | (with_reducible (first | refine' wp_seq ?_ | refine' wp_region_lit ?_ | refine' wpList_nil ?_ | refine' then_normal ?_)) | ((with_reducible refine' l_step ?_); ((first | (with_reducible refine' g_assign ?_) | ((with_reducible refine' g_loadS ?hx ?hb ?hn ?_); (case hx => rfl); (case hb => exact bqq); first | (case hc => rfl) | (case hn => simp only [List.length_cons, List.length_nil]; omega))); (conv => arg 5; simp only [zA, zB, ev, lget, zC, zD, zE, zF, zG, zH, zI, zJ, zK, zL, zM, zN]))) | ((first | ((with_reducible refine' e_boxA ?hx ?_); (case hx => rfl)) | ((with_reducible refine' e_alloc ?hx ?_); (case hx => rfl))); intro _ _ _ _ _ _ _; (conv => arg 5; simp only [zA, zB, ev, lget, zC, zD, zE, zF, zG, zH, zI, zJ, zK, zL, zM, zN])) | ((first | ((with_reducible refine' e_storeB ?hx ?hy ?hv ?h1 ?hb ?ho ?_); (case hx => rfl); (case hy => ((try simp only [ev, lget]); (try rfl))); (case hv => rfl); (case h1 => rfl)) | ((with_reducible refine' e_storeR ?hx ?hy ?h1 ?hb ?hn ?ho ?_); (case hx => rfl); (case hy => rfl); (case h1 => simp [Value.oneCell']); (case hn => rfl))); (case hb => exact bqq); (case ho => first | (simp only [List.length_cons, List.length_nil]; omega) | omega | (simp; omega) | simp); (try simp only [splice, zA, zB]); intro _ _ _ _) | ((with_reducible refine' l_call TFn.ent ?ha ?_); (case ha => simp only [zC, zD, ev, lget]; (try rfl))))
  refine stop_go ?_
  rename_i gp wp a1 a2 hp1 ep zp gt wt b1 b2 ht et zt gx wx c1 c2 hx ex zx ge we d1 d2 he ee ze gq wq f1 f2 hq0 eq0 zq w6 h6 e6 z6
  have e0o : Evt (fun _ => False) w wo := Evt.next evo (Evt.next ee (Evt.next ex (Evt.next et ep (fun _ _ h => h)) (fun _ _ h => h)) (fun _ _ h => h)) (fun _ _ h => h)
  have eo6 : Evt (fun _ => False) wo w6 := Evt.next e6 eq0 (fun i hi hh => by have h' : i = gq := hh; omega)
  have e06 : Evt (fun _ => False) w w6 := Evt.next eo6 e0o (fun _ _ h => h)
  have htw : Blk w6 gt 24 (polC p V d) := (((ht.evt ex (fun h => h)).evt ee (fun h => h)).evt evo (fun h => h)).evt eo6 (fun h => h)
  have hxw : Blk w6 gx 29 (pairC k k) := ((hx.evt ee (fun h => h)).evt evo (fun h => h)).evt eo6 (fun h => h)
  have hew : Blk w6 ge 37 (evnC e) := (he.evt evo (fun h => h)).evt eo6 (fun h => h)
  have hqw : Blk w6 gq 24 (polC p VQ dQ) := h6
  have hV6 := own_evt e06 hrow (fun _ _ h => h)
  have hQ6 := own_evt eo6 hoQ (fun _ _ h => h)
  have hltQ := own_lt hoQ
  have hcV := own_cap hrow (by decide)
  have hcQ := own_cap hoQ (by decide)
  clear hp1 ht hx he hq0 h6 ep et ex ee eq0 e6 evo
  repeat' (first | (with_reducible (first | refine' wp_region_lit ?_ | refine' wpList_nil ?_ | refine' then_normal ?_ | refine' wp_block ?_)) | ((with_reducible refine' l_step ?_); ((with_reducible refine' g_assign ?_); (conv => arg 5; simp only [zA, zB, ev, lget, zC, zD, zE, zF, zG, zH, zI, zJ, zK, zL, zM, zN]))))
  refine' s_loop [10, 19, 20, 21, 22, 23, 24, 25, 26, 27, 28, 29, 30, 31, 32, 33, 34, 35] (fun n u w' => ∃ i : Nat, n = p.hs.length - i ∧ i ≤ p.hs.length ∧ u 10 = .int .i64 i ∧ Half w' VQ p.hs.length dQ i ∧ Half w' V p.hs.length d i ∧ Evt (fun j => (Value.slice VQ p.hs.length dQ).ownBlock = some j ∨ (Value.slice V p.hs.length d).ownBlock = some j) w6 w') p.hs.length ?h0 ?round
  case h0 => exact ⟨0, rfl, by omega, rfl, half0 hQ6, half0 hV6, Evt.refl _ _⟩
  case round =>
    rintro n u w7 ⟨i, rfl, hi, h10, hhQ, hhV, ev7⟩
    simp only [setW, List.foldl_cons, List.foldl_nil, List.set_cons_succ, List.set_cons_zero]
    simp only [h10]
    have z7 := ev7.size
    have nS : ∀ j, (w.heap.size ≤ j ∧ j < we.heap.size) ∨ wo.heap.size ≤ j → ¬ ((Value.slice VQ p.hs.length dQ).ownBlock = some j ∨ (Value.slice V p.hs.length d).ownBlock = some j) := fun j hj hh => by
      rcases hh with h1 | h1
      · have h2 := hltQ j h1; have h3 := hnQ j h1; omega
      · have := hltV j h1; have := e0o.size; omega
    have ht7 := htw.evt ev7 (nS gt (.inl (by omega)))
    have hx7 := hxw.evt ev7 (nS gx (.inl (by omega)))
    have he7 := hew.evt ev7 (nS ge (.inl (by omega)))
    have hq7 := hqw.evt ev7 (nS gq (.inr (by omega)))
    have z0o := e0o.size
    clear htw hxw hew hqw
    by_cases hlt : i < p.hs.length
    · obtain ⟨gQ, hgQ⟩ := own_some hQ6 (by omega)
      obtain ⟨gV, hgV⟩ := own_some hV6 (by omega)
      have lQ := hltQ gQ hgQ
      have nQ := hnQ gQ hgQ
      have lV := hltV gV hgV
      obtain ⟨curQ, rfl, hbQ, hclQ, hctQ⟩ := hhQ gQ hgQ
      obtain ⟨curV, rfl, hbV, hclV, hctV⟩ := hhV gV hgV
      clear hhQ hhV hx7 he7
      repeat' (first | (with_reducible (first | refine' wp_seq ?_ | refine' wp_region_lit ?_ | refine' wpList_nil ?_ | refine' then_normal ?_ | refine' wp_block ?_ | refine' wp_skip ?_ | refine' in_normal ?_)) | ((with_reducible refine' c_condT ?hx ?_); (case hx => rfl)) | ((with_reducible refine' l_step ?_); (first | ((first | (with_reducible refine' g_move ?_) | (with_reducible refine' g_assign ?_) | ((with_reducible refine' g_fieldAddr ?hx ?ho ?_); (case hx => rfl); (case ho => rfl)) | ((with_reducible refine' g_loadB ?hx ?hb ?hc ?_); (case hx => rfl); (case hb => exact bqq); first | (case hc => rfl) | (case hn => simp only [List.length_cons, List.length_nil]; omega)) | ((with_reducible refine' g_addN ?hx ?hy ?h0 ?h1 ?_); (case hx => rfl); (case hy => rfl); (case h0 => omega); (case h1 => omega)) | ((with_reducible refine' g_lenS ?hx ?_); (case hx => rfl)) | ((with_reducible refine' g_indexAddr ?hx ?hy ?h0 ?h1 ?_); (case hx => rfl); (case hy => rfl); (case h0 => omega); (case h1 => omega))); (conv => arg 5; simp only [zA, zB, ev, lget, zC, zD, zE, zF, zG, zH, zI, zJ, zK, zL, zM, zN])) | (((with_reducible refine' g_lss ?hx ?hy (fun _ => ?_) (fun _ => ?_)); (case hx => rfl)); (case hy => rfl); all_goals (first | (exfalso; omega) | (conv => arg 5; simp only [zA, zB, ev, lget, zC, zD, zE, zF, zG, zH, zI, zJ, zK, zL, zM, zN]))))) | ((first | ((with_reducible refine' e_storeB ?hx ?hy ?hv ?h1 ?hb ?ho ?_); (case hx => rfl); (case hy => ((try simp only [ev, lget]); (try rfl))); (case hv => rfl); (case h1 => rfl)) | ((with_reducible refine' e_storeR ?hx ?hy ?h1 ?hb ?hn ?ho ?_); (case hx => rfl); (case hy => rfl); (case h1 => simp [Value.oneCell']); (case hn => rfl))); (case hb => exact bqq); (case ho => first | (simp only [List.length_cons, List.length_nil]; omega) | omega | (simp; omega) | simp); (try simp only [splice, zA, zB]); intro _ _ _ _))
      rename_i w8 h8 e8 z8 w9 h9 e9 z9
      have hQ9 := h8.evt e9 (by omega)
      refine ⟨_, _, rfl, (by omega : p.hs.length - (i + 1) < p.hs.length - i), by simp only [zA, zB], i + 1, rfl, by omega, rfl, fun g hg => ?_, fun g hg => ?_, Evt.next e9 (Evt.next e8 ev7 (fun j _ hj => ?_)) (fun j _ hj => ?_)⟩
      · have hgg : gQ = g := Option.some.inj (hgQ.symm.trans hg)
        subst hgg
        exact ⟨_, rfl, hQ9, by rw [List.length_set]; exact hclQ, by rw [rng_succ]; exact take_set2 hctQ (by omega)⟩
      · have hgg : gV = g := Option.some.inj (hgV.symm.trans hg)
        subst hgg
        exact ⟨_, rfl, h9, by rw [List.length_set]; exact hclV, by rw [rng_succ]; exact take_set2 hctV (by omega)⟩
      · have h' : j = gQ := hj
        rw [h']
        exact .inl hgQ
      · have h' : j = gV := hj
        rw [h']
        exact .inr hgV
    · obtain rfl : i = p.hs.length := by omega
      have hriQ := half_ri hhQ hsz (fun h0 => own_some hQ6 h0)
      have hriV := half_ri hhV hsz (fun h0 => own_some hV6 h0)
      have eV7 : Evt (fun j => (Value.slice V p.hs.length d).ownBlock = some j) w w7 := Evt.next ev7 (e06.mono fun _ _ h => h.elim) (fun j hj hh => hh.elim (fun h => by have h1 := hnQ j h; omega) id)
      have hst := fun w hr => step_any { p with hs := rng p.hs.length } V d k e w hr hv
      have hrf := fun w hr => refStep_r { p with hs := rng p.hs.length } VQ dQ k e w hr hv hk
      obtain ⟨K, hK⟩ : ∃ K, stepP { p with hs := rng p.hs.length } k e = K := ⟨_, rfl⟩
      simp only [polC, rng_len, hK] at hst hrf
      clear hhQ hhV ev7
      repeat' (first | ((with_reducible refine' l_step ?_); (with_reducible refine' g_eqlS ?hx ?hy ?hxs ?hys (fun _ => ?_) (fun c => absurd rfl c)); (case hx => rfl); (case hy => rfl); (case hxs => rfl); (case hys => rfl); (conv => arg 5; simp only [zA, zB, ev, lget, zC, zD, zE, zF, zG, zH, zI, zJ, zK, zL, zM, zN])) | (go_at_call 20; refine (hst _ (hriV.up (by exact eqq))).mono ?_; rintro r ws ⟨vs, rfl, hos, evs⟩; have zs := evs.size; obtain ⟨VS, dS, hVS⟩ := own_slice hos.row; subst hVS; have hrs := hos.ri rfl; refine ⟨_, rfl, ?_⟩; simp only [casC]; (conv => arg 5; simp only [zA, zB, ev, lget, zC, zD, zE, zF, zG, zH, zI, zJ, zK, zL, zM, zN])) | (go_at_call 21; refine (hrf _ (hriQ.up (by exact eqq))).mono ?_; rintro r wf ⟨vf, rfl, hof, evf⟩; have zf := evf.size; obtain ⟨VF, dF, hVF⟩ := own_slice hof.row; subst hVF; have hrf2 := hof.ri rfl; refine ⟨_, rfl, ?_⟩; simp only [casC]; (conv => arg 5; simp only [zA, zB, ev, lget, zC, zD, zE, zF, zG, zH, zI, zJ, zK, zL, zM, zN])) | (go_at_call 18; (refine (sameActs_any VS VF dS dF K.2.1.length K.2.1.length K.2.1 K.2.1 _ (hrs.up (by exact eqq)) (hrf2.up (by exact eqq)) rfl rfl).mono ?_); rintro r wm ⟨rfl, evm⟩; have zm := evm.size; rw [decide_eq_true rfl]; refine ⟨_, rfl, ?_⟩; (conv => arg 5; simp only [zA, zB, ev, lget, zC, zD, zE, zF, zG, zH, zI, zJ, zK, zL, zM, zN])) | (with_reducible (first | refine' wp_seq ?_ | refine' wp_region_lit ?_ | refine' wpList_nil ?_ | refine' then_normal ?_ | refine' wp_ret ?_ | refine' wp_exit ?_ | refine' then_exit ?_ | refine' in_exit ?_)) | ((with_reducible refine' c_condF ?hx ?_); (case hx => rfl)) | ((with_reducible refine' b_ret1 ?hr ?hv ?_); (case hr => rfl); (case hv => ((try simp only [ev, lget]); (try rfl)))) | ((with_reducible refine' l_step ?_); (first | ((first | (with_reducible refine' g_move ?_) | (with_reducible refine' g_assign ?_) | ((with_reducible refine' g_fieldAddr ?hx ?ho ?_); (case hx => rfl); (case ho => rfl)) | ((first | (with_reducible refine' g_loadB ?hx ?hb ?hc ?_) | (with_reducible refine' g_loadS ?hx ?hb ?hn ?_)); (case hx => rfl); (case hb => exact bqq); first | (case hc => rfl) | (case hn => simp only [List.length_cons, List.length_nil]; omega)) | ((with_reducible refine' g_pickT ?hx ?_); (case hx => rfl)) | ((with_reducible refine' g_lenS ?hx ?_); (case hx => rfl)) | ((with_reducible refine' g_extract ?hx ?hv ?_); (case hx => rfl); (case hv => rfl))); (conv => arg 5; simp only [zA, zB, ev, lget, zC, zD, zE, zF, zG, zH, zI, zJ, zK, zL, zM, zN])) | ((first | ((with_reducible refine' g_lss ?hx ?hy (fun _ => ?_) (fun _ => ?_)); (case hx => rfl)) | ((with_reducible refine' g_eql ?hx ?hy (fun _ => ?_) (fun _ => ?_)); (case hx => rfl))); (case hy => rfl); all_goals (first | (exfalso; omega) | (conv => arg 5; simp only [zA, zB, ev, lget, zC, zD, zE, zF, zG, zH, zI, zJ, zK, zL, zM, zN]))))) | ((with_reducible refine' l_on ?hw ?_); (case hw => rfl)) | (((with_reducible refine' e_alloc ?hx ?_); (case hx => rfl)); intro _ _ _ _ _ _ _; (conv => arg 5; simp only [zA, zB, ev, lget, zC, zD, zE, zF, zG, zH, zI, zJ, zK, zL, zM, zN])) | ((first | ((with_reducible refine' e_storeB ?hx ?hy ?hv ?h1 ?hb ?ho ?_); (case hx => rfl); (case hy => ((try simp only [ev, lget]); (try rfl))); (case hv => rfl); (case h1 => rfl)) | ((with_reducible refine' e_storeR ?hx ?hy ?h1 ?hb ?hn ?ho ?_); (case hx => rfl); (case hy => rfl); (case h1 => simp [Value.oneCell']); (case hn => rfl))); (case hb => exact bqq); (case ho => first | (simp only [List.length_cons, List.length_nil]; omega) | omega | (simp; omega) | simp); (try simp only [splice, zA, zB]); intro _ _ _ _) | ((with_reducible refine' l_call TFn.ent ?ha ?_); (case ha => simp only [zC, zD, ev, lget]; (try rfl))))
      exact ⟨rfl, Evt.next (by exact eqq : Evt (fun _ => False) w7 wm) eV7 (fun _ _ h => h.elim)⟩
end Go.Proofs.YthfnlmedelfbnaaDoor
