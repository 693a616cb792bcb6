/- The helpers of layer 13's laws. -/
import Derived.Test.YthfnlmedelfbnaaDoorCol6
import Derived.Test.YthfnlmedelfbnaaDoorOps5
namespace Go.Proofs.YthfnlmedelfbnaaDoor
open Go.RowKit Go.Proofs.YthfnlmedelfbnaaDoorE
set_option linter.unusedSimpArgs false
set_option linter.unusedVariables false

section
variable {P : Program} {ops : Array Oper} {rest : List Oper} {w : World} {Q : Exit → Act → World → Prop} {ty : TypeId} {pos : String} {aft : Array Edge} {l : List Value} {ds : List Deferred} {N : Tmp}
/-- Numbers, appended to a row of the call's own. -/
theorem e_appI {t : TypeId} {A : Option Addr} {c : Nat} {x y : Operand} {v : Value} {xs ys : List Int} (hx : ev l x = v) (hy : ev l y = .slice A ys.length c) [ht : TSlice P t 3 1 8] [hz : TZero P 3 (.int .i64 0)] (hown : w.ownsRow 0 3 1 v xs.length (ints xs)) (hr : RI w A ys) (hb : (xs.length + ys.length) * 8 ≤ 140737488355328)
    (h : ∀ v' w1, w1.ownsRow 0 3 1 v' (xs ++ ys).length (ints (xs ++ ys)) → Evt (fun k => v.ownBlock = some k) w w1 → (v'.ownBlock = v.ownBlock ∨ v'.ownBlock = some w.heap.size) → w.heap.size ≤ w1.heap.size → wpList P ops Q rest ⟨(l.set N v').toArray, ds⟩ w1) :
    wpList P ops Q (⟨some N, .call { callee := .builtin .append, args := #[x, y], argTypes := #[t, t] }, ty, pos, aft, none⟩ :: rest) ⟨l.toArray, ds⟩ w := by
  have hi := ht.info
  have hz' := hz.ok
  cases hq : P.info? 3 with
  | none => simp [hq] at hi
  | some inf =>
    simp only [hq, Option.map_some, Option.some.injEq, Prod.mk.injEq] at hi hz'
    have hrun : ∃ v' w1, (Builtin.append_ #[t, t] ty #[v, .slice A ys.length c]).run P w = .ok v' w1 ∧ w1.ownsRow 0 3 1 v' (xs.length + ys.length) (ints xs ++ ints ys) ∧ Evt (fun k => v.ownBlock = some k) w w1 ∧ (v'.ownBlock = v.ownBlock ∨ v'.ownBlock = some w.heap.size) := by
      cases A with
      | none =>
        have h0 : ys = [] := by
          rcases Nat.eq_zero_or_pos ys.length with h0 | h0
          · exact List.eq_nil_of_length_eq_zero h0
          · obtain ⟨b, o, h1, _⟩ := hr.2 h0; cases h1
        subst h0
        refine ⟨v, w, ?_, by simpa [ints] using hown, Evt.refl _ _, .inl rfl⟩
        obtain ⟨V, d, rfl⟩ := own_slice hown
        have hcap : xs.length ≤ d := by
          rcases hown.2 with ⟨h1, h2⟩ | ⟨g, cap, cur, h1, _, _, h2, _⟩
          · simp only [Value.slice.injEq] at h1; omega
          · simp only [Value.slice.injEq] at h1; omega
        cases V <;> simp [Builtin.append_, run_underlying ht.ok, sizeOf, typeInfo, hq, Builtin.lenOf, Builtin.firstCells, loadCells, loadCellsFrom, hcap, storeCells]
      | some a =>
        have hnews : ∀ j u, (ints ys)[j]? = some u → w.cell? (a.add j) = some u := by
          intro j u hu
          have hj : j < ys.length := by have := (List.getElem?_eq_some_iff.1 hu).1; simpa [ints] using this
          obtain ⟨b, o, h1, hc⟩ := hr.at_ hj
          cases h1
          rw [add_off, hc]
          simp [ints, hj] at hu
          rw [hu]
        obtain ⟨v', w1, h1, h2, h3, _, h5⟩ := run_append_own_at (P := P) w 0 t ty 3 inf (.int .i64 0) 1 8 ht.ok hq hz' hi.1 hi.2 (by simp [Value.cells]) (by decide) v xs.length (ints xs) hown a ys.length c (ints ys) (by simp [ints]) hnews (by intro u hu; simp only [ints, List.mem_map] at hu; obtain ⟨z, _, rfl⟩ := hu; rfl) (by simp only [maxLen]; omega) hb (Nat.zero_le _)
        exact ⟨v', w1, h1, h2, Evt.of_grown h3, h5⟩
    obtain ⟨v', w1, h1, h2, h3, h5⟩ := hrun
    refine l_event (v := v') (w' := w1) ?_ (h v' w1 (by rw [ints_append, List.length_append]; exact h2) h3 h5 h3.size)
    simp only [execOp, Sem.run_bind, resolve, List.map_toArray, List.map_cons, List.map_nil, hx, hy, invoke, builtin, Sem.run_pure, Result.andThen_ok]
    first | (rw [h1]; rfl) | (simp only [Sem.run_bind, h1, Result.andThen_ok]; rfl)
end
theorem own_len {w : World} {e : TypeId} {sz n : Nat} {v : Value} {xs : List Value} (h : w.ownsRow 0 e sz v n xs) : n ≤ 9223372036854775807 := by
  rcases h.2 with ⟨_, h2⟩ | ⟨g, cap, cur, _, _, _, h2, h3, _⟩
  · omega
  · unfold maxLen at h3; omega
theorem OwnI.ri {w0 w : World} {V : Option Addr} {n d : Nat} {xs : List Int} (h : OwnI w0 w (.slice V n d) xs) (hn : xs.length = n) : RI w V xs := by
  subst hn
  have := own_len h.row
  exact RI_of_own h.row (by omega)
theorem lawOwn_any (p : Pol) (A : Option Addr) (c : Nat) (w : World) (hr : RI w A p.hs) (hsz : p.hs.length * 8 ≤ 140737488351232) :
    Calls Tryd.prog 16 #[.agg (polC p A c).toArray] w fun e w' => ∃ V d, e = .returned (.agg (polC p V d).toArray) ∧ RI w' V p.hs ∧ (∀ b o, V = some ⟨b, o, none⟩ → w.heap.size ≤ b) ∧ Evt (fun _ => False) w w' := by
  go_enter Tryd.func16, Tryd.ntmps16
  repeat' (first | (with_reducible (first | refine' wp_seq ?_ | refine' wp_region_lit ?_ | refine' wpList_nil ?_ | refine' then_normal ?_)) | ((with_reducible refine' l_step ?_); ((first | (with_reducible refine' g_move ?_) | (with_reducible refine' g_assign ?_) | ((with_reducible refine' g_fieldAddr ?hx ?ho ?_); (case hx => rfl); (case ho => rfl)) | ((with_reducible refine' g_loadB ?hx ?hb ?hc ?_); (case hx => rfl); (case hb => (first | assumption | exact be (h := by first | assumption | exact be (h := by first | assumption | exact be (h := by first | assumption | exact be (h := by first | assumption | exact be (h := by first | assumption | exact be (h := by first | assumption | exact be (h := by first | assumption | exact be (h := by first | assumption | exact be (h := by first | assumption | exact be (h := by first | assumption)))))))))))); first | (case hc => rfl) | (case hn => simp only [List.length_cons, List.length_nil]; omega))); (conv => arg 5; simp only [zA, zB, ev, lget, zC, zD, zE, zF, zG, zH, zI, zJ, zK, zL, zM, zN]))) | ((first | ((with_reducible refine' e_boxA ?hx ?_); (case hx => rfl)) | ((with_reducible refine' e_alloc ?hx ?_); (case hx => rfl))); intro _ _ _ _ _ _ _; (conv => arg 5; simp only [zA, zB, ev, lget, zC, zD, zE, zF, zG, zH, zI, zJ, zK, zL, zM, zN])))
  rename_i gq wq q1 q2 hgq hq3 hq4 gr wr r1 r2 hgr hr3 hr4
  (with_reducible refine' e_appI (v := .slice none 0 0) (xs := []) (ys := p.hs) ?hx ?hy ?hown ?hr ?hb ?_); (case hx => rfl); (case hy => rfl); (case hown => exact World.ownsRow_nil _ _ _ _); (case hr => exact hr.up (by (repeat (first | assumption | exact Evt.refl _ _ | (refine Evt.next (by assumption) ?_ ?hs; (case hs => first | exact fun _ _ h => h | exact fun _ _ h => False.elim h | exact fun _ _ h => Or.inl h | exact fun _ _ h => Or.inr h | exact Wr.rel (by assumption) | (intro i hi h; exfalso; have h' : i = _ := h; omega) | (intro i hi h; exfalso; have h' := hlb i h; omega))))))); (case hb => simp; omega)
  intro v' w1 hown hev1 hat hz1
  rw [List.nil_append] at hown
  obtain ⟨V, d, rfl⟩ := own_slice hown
  (conv => arg 5; simp only [zA, zB, ev, lget, zC, zD, zE, zF, zG, zH, zI, zJ, zK, zL, zM, zN])
  have hev1' : Evt (fun _ => False) _ w1 := hev1.mono fun k _ hk => by simp [Value.ownBlock] at hk
  clear hev1
  have hfr : ∀ k, (Value.slice V p.hs.length d).ownBlock = some k → wr.heap.size ≤ k := by
    rcases hat with h | h
    · intro k hk; rw [hk] at h; simp [Value.ownBlock] at h
    · intro k hk; rw [hk] at h; have := Option.some.inj h; omega
  have hR : RI w1 V p.hs := RI_of_own hown hr.1
  repeat' (first | (with_reducible (first | refine' wp_seq ?_ | refine' wp_region_lit ?_ | refine' wpList_nil ?_ | refine' then_normal ?_ | refine' wp_ret ?_)) | ((with_reducible refine' b_retC ?hr ?ht ?hp ?hb ?hn ?_); (case hr => rfl); (case ht => infer_instance); (case hp => rfl); (case hb => (first | assumption | exact be (h := by first | assumption | exact be (h := by first | assumption | exact be (h := by first | assumption | exact be (h := by first | assumption | exact be (h := by first | assumption | exact be (h := by first | assumption | exact be (h := by first | assumption | exact be (h := by first | assumption | exact be (h := by first | assumption | exact be (h := by first | assumption)))))))))))); (case hn => rfl)) | ((with_reducible refine' l_step ?_); ((first | ((with_reducible refine' g_fieldAddr ?hx ?ho ?_); (case hx => rfl); (case ho => rfl)) | ((with_reducible refine' g_loadS ?hx ?hb ?hn ?_); (case hx => rfl); (case hb => (first | assumption | exact be (h := by first | assumption | exact be (h := by first | assumption | exact be (h := by first | assumption | exact be (h := by first | assumption | exact be (h := by first | assumption | exact be (h := by first | assumption | exact be (h := by first | assumption | exact be (h := by first | assumption | exact be (h := by first | assumption | exact be (h := by first | assumption)))))))))))); first | (case hc => rfl) | (case hn => simp only [List.length_cons, List.length_nil]; omega))); (conv => arg 5; simp only [zA, zB, ev, lget, zC, zD, zE, zF, zG, zH, zI, zJ, zK, zL, zM, zN]))) | ((first | ((with_reducible refine' e_storeB ?hx ?hy ?hv ?h1 ?hb ?ho ?_); (case hx => rfl); (case hy => ((try simp only [ev, lget]); (try rfl))); (case hv => rfl); (case h1 => rfl)) | ((with_reducible refine' e_storeR ?hx ?hy ?h1 ?hb ?hn ?ho ?_); (case hx => rfl); (case hy => rfl); (case h1 => simp [Value.oneCell']); (case hn => rfl))); (case hb => (first | assumption | exact be (h := by first | assumption | exact be (h := by first | assumption | exact be (h := by first | assumption | exact be (h := by first | assumption | exact be (h := by first | assumption | exact be (h := by first | assumption | exact be (h := by first | assumption | exact be (h := by first | assumption | exact be (h := by first | assumption | exact be (h := by first | assumption)))))))))))); (case ho => first | (simp only [List.length_cons, List.length_nil]; omega) | omega | (simp; omega) | simp); (try simp only [splice, zA, zB]); intro _ _ _ _))
  refine ⟨V, d, rfl, hR.evt (S := fun i => i = gq ∨ i = gr) ?_ (fun b o hV => ?_), fun b o hV => ?_, by (repeat (first | assumption | exact Evt.refl _ _ | (refine Evt.next (by assumption) ?_ ?hs; (case hs => first | exact fun _ _ h => h | exact fun _ _ h => False.elim h | exact fun _ _ h => Or.inl h | exact fun _ _ h => Or.inr h | exact Wr.rel (by assumption) | (intro i hi h; exfalso; have h' : i = _ := h; omega) | (intro i hi h; exfalso; have h' := hlb i h; omega)))))⟩
  · (repeat (first | assumption | exact Evt.refl _ _ | (refine Evt.next (by assumption) ?_ ?hs; (case hs => first | exact fun _ _ h => h | exact fun _ _ h => False.elim h | exact fun _ _ h => Or.inl h | exact fun _ _ h => Or.inr h | exact Wr.rel (by assumption) | (intro i hi h; exfalso; have h' : i = _ := h; omega) | (intro i hi h; exfalso; have h' := hlb i h; omega)))))
  · have := hfr b (by subst hV; rfl)
    omega
  · have := hfr b (by subst hV; rfl)
    omega
set_option maxHeartbeats 2000000 in
theorem sameActs_any (A B : Option Addr) (c d n m : Nat) (xs ys : List Int) (w : World) (hr : RI w A xs) (hs : RI w B ys) (hn : xs.length = n) (hm : ys.length = m) :
    Calls Tryd.prog 18 #[.slice A n c, .slice B m d] w fun e w' => e = .returned (.bool (decide (xs = ys))) ∧ Evt (fun _ => False) w w' := by
  subst hn
  subst hm
  go_enter Tryd.func18, Tryd.ntmps18
  repeat' (first | (with_reducible (first | refine' wp_seq ?_ | refine' wp_region_lit ?_ | refine' wpList_nil ?_ | refine' then_normal ?_ | refine' wp_block ?_ | refine' wp_ret ?_ | refine' wp_skip ?_ | refine' then_ret ?_)) | ((with_reducible refine' c_condT ?hx ?_); (case hx => rfl)) | ((with_reducible refine' c_condF ?hx ?_); (case hx => rfl)) | ((with_reducible refine' b_ret1 ?hr ?hv ?_); (case hr => rfl); (case hv => ((try simp only [ev, lget]); (try rfl)))) | ((with_reducible refine' l_step ?_); (first | ((first | (with_reducible refine' g_move ?_) | (with_reducible refine' g_assign ?_) | ((with_reducible refine' g_lenS ?hx ?_); (case hx => rfl))); (conv => arg 5; simp only [zA, zB, ev, lget, zC, zD, zE, zF, zG, zH, zI, zJ, zK, zL, zM, zN])) | (((with_reducible refine' g_neq ?hx ?hy (fun _ => ?_) (fun _ => ?_)); (case hx => rfl)); (case hy => rfl); all_goals (first | (exfalso; omega) | (conv => arg 5; simp only [zA, zB, ev, lget, zC, zD, zE, zF, zG, zH, zI, zJ, zK, zL, zM, zN]))))))
  · exact ⟨ret_bool (by symm; simp; intro h; subst h; omega), Evt.refl _ _⟩
  refine' s_loop [4, 5, 11, 12, 13, 14, 15, 16, 17, 18, 19, 20, 21, 22, 23, 24, 25] (fun n u w' => ∃ (i : Nat), n = xs.length - i ∧ i ≤ xs.length ∧ u 5 = .int .i64 i ∧ xs.take i = ys.take i ∧ Evt (fun _ => False) w w') xs.length ?h0 ?round
  case h0 => exact ⟨0, rfl, by omega, rfl, rfl, Evt.refl _ _⟩
  case round =>
    rintro n u w2 ⟨i, rfl, hi, h5, heq, hev⟩
    simp only [setW, List.foldl_cons, List.foldl_nil, List.set_cons_succ, List.set_cons_zero]
    simp only [h5]
    have hl1 := hr.1
    have hz := hev.size
    by_cases hlt : i < xs.length
    · have hlt2 : i < ys.length := by omega
      obtain ⟨b, o, rfl, hc⟩ := (hr.up hev).at_ hlt
      obtain ⟨b', o', rfl, hc'⟩ := (hs.up hev).at_ hlt2
      clear hr hs
      repeat' (first | (with_reducible (first | refine' wp_seq ?_ | refine' wp_region_lit ?_ | refine' wpList_nil ?_ | refine' then_normal ?_ | refine' wp_block ?_ | refine' wp_ret ?_ | refine' wp_skip ?_ | refine' then_ret ?_ | refine' in_normal ?_ | refine' in_ret ?_)) | ((with_reducible refine' c_condT ?hx ?_); (case hx => rfl)) | ((with_reducible refine' c_condF ?hx ?_); (case hx => rfl)) | ((with_reducible refine' b_ret1 ?hr ?hv ?_); (case hr => rfl); (case hv => ((try simp only [ev, lget]); (try rfl)))) | ((with_reducible refine' l_step ?_); (first | ((first | (with_reducible refine' g_move ?_) | (with_reducible refine' g_assign ?_) | ((with_reducible refine' g_addN ?hx ?hy ?h0 ?h1 ?_); (case hx => rfl); (case hy => rfl); (case h0 => omega); (case h1 => omega)) | ((with_reducible refine' g_lenS ?hx ?_); (case hx => rfl))); (conv => arg 5; simp only [zA, zB, ev, lget, zC, zD, zE, zF, zG, zH, zI, zJ, zK, zL, zM, zN])) | (((with_reducible refine' g_lss ?hx ?hy (fun _ => ?_) (fun _ => ?_)); (case hx => rfl)); (case hy => rfl); all_goals (first | (exfalso; omega) | (conv => arg 5; simp only [zA, zB, ev, lget, zC, zD, zE, zF, zG, zH, zI, zJ, zK, zL, zM, zN]))))) | ((with_reducible refine' w_quiet (id := 6) ?hm ?hB ?_); (case hm => kernel_rfl); (case hB => kernel_rfl)) | ((with_reducible refine' q_nil ?_); intro _ _ _) | ((with_reducible refine' q_step ?_); (first | ((first | (with_reducible refine' g_move ?_) | ((with_reducible refine' g_loadC ?hx ?hc ?_); (case hx => rfl); (case hc => (first | assumption | exact ce (h := by first | assumption | exact ce (h := by first | assumption | exact ce (h := by first | assumption | exact ce (h := by first | assumption | exact ce (h := by first | assumption | exact ce (h := by first | assumption | exact ce (h := by first | assumption | exact ce (h := by first | assumption | exact ce (h := by first | assumption | exact ce (h := by first | assumption))))))))))))) | ((with_reducible refine' g_indexAddr ?hx ?hy ?h0 ?h1 ?_); (case hx => rfl); (case hy => rfl); (case h0 => omega); (case h1 => omega))); (conv => arg 6; simp only [zA, zB, ev, lget, zC, zD, zE, zF, zG, zH, zI, zJ, zK, zL, zM, zN])) | (((with_reducible refine' g_neq ?hx ?hy (fun _ => ?_) (fun _ => ?_)); (case hx => rfl)); (case hy => rfl); all_goals (first | (exfalso; omega) | (conv => arg 6; simp only [zA, zB, ev, lget, zC, zD, zE, zF, zG, zH, zI, zJ, zK, zL, zM, zN]))))))
      · have hne : xs[i] ≠ ys[i] := by assumption
        exact ⟨ret_bool (decide_eq_false (fun h => hne (by subst h; rfl))).symm, by (repeat (first | assumption | exact Evt.refl _ _ | (refine Evt.next (by assumption) ?_ ?hs; (case hs => first | exact fun _ _ h => h | exact fun _ _ h => False.elim h | exact fun _ _ h => Or.inl h | exact fun _ _ h => Or.inr h | exact Wr.rel (by assumption) | (intro i hi h; exfalso; have h' : i = _ := h; omega) | (intro i hi h; exfalso; have h' := hlb i h; omega)))))⟩
      · have he : xs[i] = ys[i] := by assumption
        exact ⟨_, _, rfl, (by omega : xs.length - (i + 1) < xs.length - i), by simp only [zA, zB], i + 1, rfl, by omega, rfl, by rw [List.take_succ_eq_append_getElem hlt, List.take_succ_eq_append_getElem hlt2, heq, he], by (repeat (first | assumption | exact Evt.refl _ _ | (refine Evt.next (by assumption) ?_ ?hs; (case hs => first | exact fun _ _ h => h | exact fun _ _ h => False.elim h | exact fun _ _ h => Or.inl h | exact fun _ _ h => Or.inr h | exact Wr.rel (by assumption) | (intro i hi h; exfalso; have h' : i = _ := h; omega) | (intro i hi h; exfalso; have h' := hlb i h; omega)))))⟩
    · have hi' : i = xs.length := by omega
      repeat' (first | (with_reducible (first | refine' wp_seq ?_ | refine' wp_region_lit ?_ | refine' wpList_nil ?_ | refine' then_normal ?_ | refine' wp_ret ?_ | refine' wp_exit ?_ | refine' then_exit ?_ | refine' in_exit ?_)) | ((with_reducible refine' c_condF ?hx ?_); (case hx => rfl)) | ((with_reducible refine' b_ret1 ?hr ?hv ?_); (case hr => rfl); (case hv => ((try simp only [ev, lget]); (try rfl)))) | ((with_reducible refine' l_step ?_); (first | ((first | (with_reducible refine' g_move ?_) | (with_reducible refine' g_assign ?_) | ((with_reducible refine' g_lenS ?hx ?_); (case hx => rfl))); (conv => arg 5; simp only [zA, zB, ev, lget, zC, zD, zE, zF, zG, zH, zI, zJ, zK, zL, zM, zN])) | (((with_reducible refine' g_lss ?hx ?hy (fun _ => ?_) (fun _ => ?_)); (case hx => rfl)); (case hy => rfl); all_goals (first | (exfalso; omega) | (conv => arg 5; simp only [zA, zB, ev, lget, zC, zD, zE, zF, zG, zH, zI, zJ, zK, zL, zM, zN]))))))
      refine ⟨ret_bool (decide_eq_true ?_).symm, by (repeat (first | assumption | exact Evt.refl _ _ | (refine Evt.next (by assumption) ?_ ?hs; (case hs => first | exact fun _ _ h => h | exact fun _ _ h => False.elim h | exact fun _ _ h => Or.inl h | exact fun _ _ h => Or.inr h | exact Wr.rel (by assumption) | (intro i hi h; exfalso; have h' : i = _ := h; omega) | (intro i hi h; exfalso; have h' := hlb i h; omega)))))⟩
      rw [hi', List.take_length, List.take_of_length_le (by omega)] at heq
      exact heq
/-- How often a number is in a list. -/
def countI (xs : List Int) (a : Int) : Nat := xs.countP (· = a)
/-- One day behind the grace. -/
def lateE (p : Pol) : Evn := { kind := 1, today := 5, days := p.grace + 1, amount := 0 }
theorem opens_step {p : Pol} (hp : p.fine) : ∃ K acts, stepP p freshC (lateE p) = (K, 2 :: acts, 0) ∧ K.cycles = 1 ∧ K.since = 5 ∧ K.deadline = 5 + p.chargeOff ∧ openB K = true := by
  have hgr := hp.grace
  have hco := hp.chargeOff
  have h1 : age1 freshC (lateE p) = (freshC, []) := by simp [age1, freshC]
  have h2 : age2 p freshC (lateE p) = ({ freshC with cycles := 1, since := 5, deadline := 5 + p.chargeOff, status := 3 }, [2]) := by
    unfold age2
    rw [h1, if_neg (by show ¬ (openB freshC = true); decide)]
    show quietP p freshC (lateE p) [] = _
    unfold quietP
    rw [if_pos (show p.grace < (lateE p).days by show p.grace < p.grace + 1; omega)]
    rfl
  have he : errK p freshC (lateE p) = 0 := by simp [errK, ageE, overB, freshC, lateE]; omega
  have hr : resK p freshC (lateE p) = ageP p freshC (lateE p) := by simp [resK, lateE]
  have hs : stepP p freshC (lateE p) = ((ageP p freshC (lateE p)).1, (ageP p freshC (lateE p)).2, 0) := by
    unfold stepP
    rw [if_neg (by simp [fine_good hp]), if_neg (by simp [lateE]), if_neg (by rw [he]; decide), hr]
  rw [hs]
  have ha : ageP p freshC (lateE p) = dueP (susP p (age2 p freshC (lateE p)).1 (lateE p) (age2 p freshC (lateE p)).2).1 (lateE p) (susP p (age2 p freshC (lateE p)).1 (lateE p) (age2 p freshC (lateE p)).2).2 := by
    unfold ageP
    rw [if_neg (by rw [h1]; simp [openB, freshC]), if_neg (by rw [h2]; simp [openB])]
  rw [ha, h2]
  by_cases hn : p.nonAccrual ≤ p.grace + 1
  · have hsu : susP p { freshC with cycles := 1, since := 5, deadline := 5 + p.chargeOff, status := 3 } (lateE p) [2] = ({ freshC with cycles := 1, since := 5, deadline := 5 + p.chargeOff, status := 5, susp := true }, [2, 3]) := by
      unfold susP
      rw [if_pos ⟨rfl, hn⟩]
      rfl
    rw [hsu]
    refine ⟨{ freshC with cycles := 1, since := 5, deadline := 5 + p.chargeOff, status := 5, susp := true }, [3], ?_, rfl, rfl, rfl, rfl⟩
    have : ¬ (5 + p.chargeOff ≤ (lateE p).today) := by show ¬ (5 + p.chargeOff ≤ 5); omega
    simp only [dueP, this, if_false]
  · have hsu : susP p { freshC with cycles := 1, since := 5, deadline := 5 + p.chargeOff, status := 3 } (lateE p) [2] = ({ freshC with cycles := 1, since := 5, deadline := 5 + p.chargeOff, status := 3 }, [2]) := by
      unfold susP
      rw [if_neg (fun h => hn h.2)]
    rw [hsu]
    refine ⟨{ freshC with cycles := 1, since := 5, deadline := 5 + p.chargeOff, status := 3 }, [], ?_, rfl, rfl, rfl, rfl⟩
    have : ¬ (5 + p.chargeOff ≤ (lateE p).today) := by show ¬ (5 + p.chargeOff ≤ 5); omega
    simp only [dueP, this, if_false]
end Go.Proofs.YthfnlmedelfbnaaDoor
