/- The document's network: a tick. -/
import Derived.Test.YtmngcpackbekiaaRef16d
namespace Go.Proofs.Ytmngcpackbekiaa
open Go.RowKit Go.Proofs.YtmngcpackbekiaaE
set_option linter.unusedSimpArgs false
set_option linter.unusedVariables false

structure Rp where
  now : Int
  fates : List Int
  acc : List Ma
  msgs : List Mm
def Rn.p (R : Rn) : Rp := ⟨R.now, R.fates, R.acc, R.msgs⟩
def dueM (n : Int) (l : List Mm) : List Mm := l.filter fun m => m.at_ = n ∨ m.again = n
def leftM (n : Int) (l : List Mm) : List Mm := l.filter fun m => n < m.at_ ∨ n < m.again
def tkP (S : Rp) (m : Mm) : Rp := { now := S.now, fates := S.fates.tail, acc := takeA S.now S.acc m, msgs := S.msgs ++ copR S.now (S.fates.headD 49) (ackR m) }
def stR (s : Rp × List Int) (m : Mm) : Rp × List Int := if m.ack = true then (s.1, s.2 ++ [m.id]) else (tkP s.1 m, s.2)
def tickR (S : Rp) : Rp × List Int := (dueM (S.now + 1) S.msgs).foldl stR ({ S with now := S.now + 1, msgs := leftM (S.now + 1) S.msgs }, [])
theorem dueM_snoc (n : Int) (l : List Mm) (m : Mm) : dueM n (l ++ [m]) = dueM n l ++ (if m.at_ = n ∨ m.again = n then [m] else []) := by
  unfold dueM
  rw [List.filter_append]
  congr 1
  by_cases h : m.at_ = n ∨ m.again = n
  · rw [if_pos h, List.filter_cons, if_pos (by simpa using h)]; rfl
  · rw [if_neg h, List.filter_cons, if_neg (by simpa using h)]; rfl
theorem leftM_snoc (n : Int) (l : List Mm) (m : Mm) : leftM n (l ++ [m]) = leftM n l ++ (if n < m.at_ ∨ n < m.again then [m] else []) := by
  unfold leftM
  rw [List.filter_append]
  congr 1
  by_cases h : n < m.at_ ∨ n < m.again
  · rw [if_pos h, List.filter_cons, if_pos (by simpa using h)]; rfl
  · rw [if_neg h, List.filter_cons, if_neg (by simpa using h)]; rfl
theorem dueM_len (n : Int) (l : List Mm) : (dueM n l).length ≤ l.length := List.length_filter_le _ _
theorem leftM_len (n : Int) (l : List Mm) : (leftM n l).length ≤ l.length := List.length_filter_le _ _
theorem copR_len (n c : Int) (m : Mm) : (copR n c m).length ≤ 1 := by
  unfold copR
  split
  · simp
  · split <;> simp
theorem takeA_len (n : Int) (acc : List Ma) (m : Mm) : (takeA n acc m).length ≤ acc.length + 1 := by
  unfold takeA
  split
  · omega
  · simp
theorem own_or {v vA : Value} {B s : Nat} (ha : vA.ownBlock = v.ownBlock ∨ vA.ownBlock = some s) (hs : B ≤ s) : ∀ k, vA.ownBlock = some k → v.ownBlock = some k ∨ B ≤ k := by
  intro k hk
  rcases ha with h | h
  · exact .inl (h ▸ hk)
  · rw [h] at hk
    have := Option.some.inj hk
    exact .inr (by omega)
set_option maxHeartbeats 8000000 in
theorem tick_r (G : Nat → Prop) (R : Rn) (w : World) (h : RefAt w G R) (hl : ∀ c ∈ R.fates, letterB c) (hGlt : ∀ k, G k → k < w.heap.size) (hn : R.msgs.length ≤ 100000000000) (hna : R.acc.length ≤ 100000000000) (hnow : 0 ≤ R.now ∧ R.now ≤ 100000000000000000) :
    Calls Try.prog 36 #[.agg (rnC R).toArray] w fun e w' => ∃ R' V d, e = .returned (.tuple #[.agg (rnC R').toArray, .slice V (tickR R.p).2.length d]) ∧ R'.p = (tickR R.p).1 ∧ RefAt w' (Gn G w w') R' ∧ RG w' (Gn G w w') V (ints (tickR R.p).2) ∧ Evt (fun _ => False) w w' := by
  go_enter Try.func36, Try.ntmps36
  repeat' (first | (with_reducible refine' stop_reg (id := 2) ?_) | (with_reducible (first | refine' wp_seq ?_ | refine' wp_region_lit ?_ | refine' wpList_nil ?_ | refine' then_normal ?_)) | ((with_reducible refine' l_step ?_); ((first | (with_reducible refine' g_assign ?_) | ((with_reducible refine' g_fieldAddr ?hx ?ho ?_); (case hx => rfl); (case ho => rfl)) | ((with_reducible refine' g_loadB ?hx ?hb ?hc ?_); (case hx => rfl); (case hb => exact bqq); first | (case hc => rfl) | (case hn => simp only [List.length_cons, List.length_nil]; omega)) | ((with_reducible refine' g_addN ?hx ?hy ?h0 ?h1 ?_); (case hx => rfl); (case hy => rfl); (case h0 => omega); (case h1 => omega))); (conv => arg 5; simp only [zA, zB, ev, lget, zC, zD, zE, zF, zG, zH, zI, zJ, zK, zL, zM, zN, zO]))) | ((first | ((with_reducible refine' e_boxA ?hx ?_); (case hx => rfl)) | ((with_reducible refine' e_alloc ?hx ?_); (case hx => rfl))); intro _ _ _ _ _ _ _; (conv => arg 5; simp only [zA, zB, ev, lget, zC, zD, zE, zF, zG, zH, zI, zJ, zK, zL, zM, zN, zO])) | ((first | ((with_reducible refine' e_storeB ?hx ?hy ?hv ?h1 ?hb ?ho ?_); (case hx => rfl); (case hy => ((try simp only [ev, lget]); (try rfl))); (case hv => rfl); (case h1 => rfl)) | ((with_reducible refine' e_storeR ?hx ?hy ?h1 ?hb ?hn ?ho ?_); (case hx => rfl); (case hy => rfl); (case h1 => simp [Value.oneCell']); (case hn => rfl))); (case hb => exact bqq); (case ho => first | (simp only [List.length_cons, List.length_nil]; omega) | omega | (simp; omega) | simp); (try simp only [splice, zA, zB]); intro _ _ _ _))
  refine stop_go ?_
  rename_i gR wR a1 a2 hR0 eR zR gO wO c1 c2 hO0 eO zO' wS hR eS zS
  have hO : Blk wS gO 64 _ := hO0.evt eS (by omega)
  have eW : Evt (fun _ => False) w wS := by exact eqq
  have hms := h.msgs.up eW
  clear hR0 hO0
  repeat' (first | (with_reducible (first | refine' wp_seq ?_ | refine' wp_region_lit ?_ | refine' wpList_nil ?_ | refine' then_normal ?_ | refine' wp_block ?_)) | ((with_reducible refine' l_step ?_); ((with_reducible refine' g_assign ?_); (conv => arg 5; simp only [zA, zB, ev, lget, zC, zD, zE, zF, zG, zH, zI, zJ, zK, zL, zM, zN, zO]))))
  refine' s_loop [5, 6, 7, 8, 14, 15, 16, 17, 18, 19, 20, 21, 22, 23, 24, 25, 26, 27, 28, 29, 30, 31, 32, 33, 34, 35, 36, 37, 38, 39, 40, 41, 42, 43, 44, 45, 46, 47, 48, 49, 50, 51, 52, 53, 54, 55, 56, 57] (fun n u w' => ∃ (i : Nat) (V1 V2 : Option Addr) (d1 d2 : Nat), n = R.msgs.length - i ∧ i ≤ R.msgs.length ∧ u 7 = .int .i64 i ∧ u 5 = .slice V1 (dueM (R.now + 1) (R.msgs.take i)).length d1 ∧ u 6 = .slice V2 (leftM (R.now + 1) (R.msgs.take i)).length d2 ∧
      w'.ownsRow 0 88 5 (.slice V1 (dueM (R.now + 1) (R.msgs.take i)).length d1) (dueM (R.now + 1) (R.msgs.take i)).length (mmCs (dueM (R.now + 1) (R.msgs.take i))) ∧ w'.ownsRow 0 88 5 (.slice V2 (leftM (R.now + 1) (R.msgs.take i)).length d2) (leftM (R.now + 1) (R.msgs.take i)).length (mmCs (leftM (R.now + 1) (R.msgs.take i))) ∧
      (∀ k, (Value.slice V1 (dueM (R.now + 1) (R.msgs.take i)).length d1).ownBlock = some k → wS.heap.size ≤ k ∧ ¬ (Value.slice V2 (leftM (R.now + 1) (R.msgs.take i)).length d2).ownBlock = some k) ∧ (∀ k, (Value.slice V2 (leftM (R.now + 1) (R.msgs.take i)).length d2).ownBlock = some k → wS.heap.size ≤ k) ∧ Evt (fun _ => False) wS w') R.msgs.length ?h0 ?round
  case h0 => exact ⟨0, none, none, 0, 0, rfl, by omega, rfl, rfl, rfl, World.ownsRow_nil _ _ _ _, World.ownsRow_nil _ _ _ _, by simp [Value.ownBlock], by simp [Value.ownBlock], Evt.refl _ _⟩
  case round =>
    rintro n u w3 ⟨i, V1, V2, d1, d2, rfl, hi, h24, h3, h4, ho1, ho2, hn1, hn2, e3⟩
    simp only [setW, List.foldl_cons, List.foldl_nil, List.set_cons_succ, List.set_cons_zero]
    simp only [h24, h3, h4]
    have z3 := e3.size
    have hR3 := hR.evt e3 (fun h => h)
    have hO3 := hO.evt e3 (fun h => h)
    have hms3 := hms.up e3
    clear hR hO
    by_cases hlt : i < R.msgs.length
    · obtain ⟨b, o, hA, hcellE⟩ := RG.at_ mmC_len hms3 (by omega) hlt
      have hdu := dueM_snoc (R.now + 1) (R.msgs.take i) R.msgs[i]
      have hre := leftM_snoc (R.now + 1) (R.msgs.take i) R.msgs[i]
      rw [← List.take_succ_eq_append_getElem hlt] at hdu hre
      have hl1 := dueM_len (R.now + 1) (R.msgs.take i)
      have hl2 := leftM_len (R.now + 1) (R.msgs.take i)
      have hl3 : (R.msgs.take i).length ≤ i := by rw [List.length_take]; omega
      generalize hD' : dueM (R.now + 1) (R.msgs.take (i + 1)) = D' at *
      generalize hL' : leftM (R.now + 1) (R.msgs.take (i + 1)) = L' at *
      generalize dueM (R.now + 1) (R.msgs.take i) = D at *
      generalize leftM (R.now + 1) (R.msgs.take i) = L at *
      generalize R.msgs[i] = mi at *
      simp only [rnC, hA] at hR3
      repeat' (first | (with_reducible refine' stop_at (id := 8) ?_) | (with_reducible (first | refine' wp_seq ?_ | refine' wp_region_lit ?_ | refine' wpList_nil ?_ | refine' then_normal ?_ | refine' wp_block ?_ | refine' wp_skip ?_)) | ((with_reducible refine' c_condT ?hx ?_); (case hx => rfl)) | ((with_reducible refine' l_step ?_); (first | ((first | (with_reducible refine' g_move ?_) | ((with_reducible refine' g_fieldAddr ?hx ?ho ?_); (case hx => rfl); (case ho => rfl)) | ((first | (with_reducible refine' g_loadB ?hx ?hb ?hc ?_) | (with_reducible refine' g_loadS ?hx ?hb ?hn ?_)); (case hx => rfl); (case hb => exact bqq); first | (case hc => rfl) | (case hn => simp only [List.length_cons, List.length_nil]; omega)) | ((with_reducible refine' g_loadR ?hx ?hn ?hc ?_); (case hx => rfl); (case hc => first | exact hcellE _ (by exact eqq) | exact hcellF _ (by exact eqq)); (case hn => rfl)) | ((with_reducible refine' g_lenS ?hx ?_); (case hx => rfl)) | ((with_reducible refine' g_indexAddr ?hx ?hy ?h0 ?h1 ?_); (case hx => rfl); (case hy => rfl); (case h0 => omega); (case h1 => omega))); (conv => arg 5; simp only [zA, zB, ev, lget, zC, zD, zE, zF, zG, zH, zI, zJ, zK, zL, zM, zN, zO])) | (((with_reducible refine' g_lss ?hx ?hy (fun _ => ?_) (fun _ => ?_)); (case hx => rfl)); (case hy => rfl); all_goals (first | (exfalso; omega) | (conv => arg 5; simp only [zA, zB, ev, lget, zC, zD, zE, zF, zG, zH, zI, zJ, zK, zL, zM, zN, zO]))))) | (((with_reducible refine' e_alloc ?hx ?_); (case hx => rfl)); intro _ _ _ _ _ _ _; (conv => arg 5; simp only [zA, zB, ev, lget, zC, zD, zE, zF, zG, zH, zI, zJ, zK, zL, zM, zN, zO])) | ((first | ((with_reducible refine' e_storeB ?hx ?hy ?hv ?h1 ?hb ?ho ?_); (case hx => rfl); (case hy => ((try simp only [ev, lget]); (try rfl))); (case hv => rfl); (case h1 => rfl)) | ((with_reducible refine' e_storeR ?hx ?hy ?h1 ?hb ?hn ?ho ?_); (case hx => rfl); (case hy => rfl); (case h1 => simp [Value.oneCell']); (case hn => rfl))); (case hb => exact bqq); (case ho => first | (simp only [List.length_cons, List.length_nil]; omega) | omega | (simp; omega) | simp); (try simp only [splice, zA, zB]); intro _ _ _ _))
      refine stop_go ?_
      rename_i x1 gf wf0 f1 f2 hgf0 hevf0 hzf0 wf hgf hevf hzf
      have hevwf : Evt (fun _ => False) w3 wf := Evt.next hevf hevf0 (fun i hi hh => by have h' : i = gf := hh; omega)
      have hlt1 := own_lt ho1
      have hlt2 := own_lt ho2
      have hRf := hR3.evt hevwf (fun h => h)
      have hOf := hO3.evt hevwf (fun h => h)
      have ho1f := own_evt hevwf ho1 (fun _ _ h => h)
      have ho2f := own_evt hevwf ho2 (fun _ _ h => h)
      have hb1 : ¬ (Value.slice V1 D.length d1).ownBlock = some gf := fun hh => by have := hlt1 _ hh; omega
      have hb2 : ¬ (Value.slice V2 L.length d2).ownBlock = some gf := fun hh => by have := hlt2 _ hh; omega
      have hc1' : ¬ (Value.slice V1 D.length d1).ownBlock = some gR := fun hh => by have := (hn1 _ hh).1; omega
      have hc2' : ¬ (Value.slice V2 L.length d2).ownBlock = some gR := fun hh => by have := hn2 _ hh; omega
      clear hR3 hO3 ho1 ho2 hgf0 hevf0
      refine' s_cut [5, 26, 27, 28, 29, 30, 31, 32, 33, 34, 35, 36, 37, 38, 39, 40, 41] (fun u w' => ∃ V d, u 5 = .slice V D'.length d ∧ w'.ownsRow 0 88 5 (.slice V D'.length d) D'.length (mmCs D') ∧ (∀ k, (Value.slice V D'.length d).ownBlock = some k → (Value.slice V1 D.length d1).ownBlock = some k ∨ w3.heap.size ≤ k) ∧ Evt (fun k => (Value.slice V1 D.length d1).ownBlock = some k) wf w') ?k1 ?k2
      case k1 =>
        repeat' (first | (((with_reducible refine' e_append ?hx ?hy ?hzs ?hsz ?hown ?hl ?hnews ?h1 ?hb ?hm ?_); (case hx => ((try simp only [ev, lget]); (try rfl))); (case hy => rfl); (case hzs => rfl); (case hsz => decide); (case hown => exact oqq); (case hnews => refine' blk_src ?hbb; (case hbb => exact bqq)); (case hl => rfl); (case h1 => simp [Value.oneCell']); (case hb => omega); (case hm => omega); intro vA wA hoA heA hnA haA hzA; (conv => arg 5; simp only [zA, zB, ev, lget, zC, zD, zE, zF, zG, zH, zI, zJ, zK, zL, zM, zN, zO])); have hlA := own_lt hoA; obtain ⟨VA, dA, hVA⟩ := own_slice hoA; subst hVA) | (with_reducible (first | refine' wp_seq ?_ | refine' wp_region_lit ?_ | refine' wpList_nil ?_ | refine' then_normal ?_ | refine' wp_skip ?_)) | ((with_reducible refine' c_condT ?hx ?_); (case hx => rfl)) | ((with_reducible refine' c_condF ?hx ?_); (case hx => rfl)) | ((with_reducible refine' l_step ?_); (first | ((first | (with_reducible refine' g_move ?_) | (with_reducible refine' g_assign ?_) | ((with_reducible refine' g_fieldAddr ?hx ?ho ?_); (case hx => rfl); (case ho => rfl)) | ((first | (with_reducible refine' g_loadB ?hx ?hb ?hc ?_) | (with_reducible refine' g_loadS ?hx ?hb ?hn ?_)); (case hx => rfl); (case hb => exact bqq); first | (case hc => rfl) | (case hn => simp only [List.length_cons, List.length_nil]; omega)) | ((with_reducible refine' g_pickT ?hx ?_); (case hx => rfl)) | ((with_reducible refine' g_pickF ?hx ?_); (case hx => rfl))); (conv => arg 5; simp only [zA, zB, ev, lget, zC, zD, zE, zF, zG, zH, zI, zJ, zK, zL, zM, zN, zO])) | (((with_reducible refine' g_eql ?hx ?hy (fun _ => ?_) (fun _ => ?_)); (case hx => rfl)); (case hy => rfl); all_goals (first | (exfalso; omega) | (conv => arg 5; simp only [zA, zB, ev, lget, zC, zD, zE, zF, zG, zH, zI, zJ, zK, zL, zM, zN, zO]))))) | ((with_reducible refine' l_on ?hw ?_); (case hw => rfl)) | ((with_reducible refine' l_off ?hw ?_); (case hw => rfl); (conv => arg 5; simp only [zA, zB, ev, lget, zC, zD, zE, zF, zG, zH, zI, zJ, zK, zL, zM, zN, zO])) | (((with_reducible refine' e_sliceLit ?hx ?hi ?hv ?hn ?_); (case hx => simp only [zC, zD, ev, lget]; (try rfl)); (case hi => rfl); (case hv => simp [Value.cells]); (case hn => decide); simp only [List.flatMap_cons, List.flatMap_nil, Value.cells, List.cons_append, List.nil_append]); intro _ _ _ _ _ _ _; (conv => arg 5; simp only [zA, zB, ev, lget, zC, zD, zE, zF, zG, zH, zI, zJ, zK, zL, zM, zN, zO])))
        · rename_i xa xb xc xd xe xf xg xh
          rw [hdu, if_pos (by omega), List.length_append, mmCs_snoc]
          exact ⟨_, rfl, by simp only [setW, List.foldl_cons, List.foldl_nil, List.set_cons_succ, List.set_cons_zero], VA, dA, rfl, hoA, own_or haA (by omega), by exact eqq⟩
        · rename_i xa xa2 xb xc xd xe xf xg xh
          rw [hdu, if_pos (by omega), List.length_append, mmCs_snoc]
          exact ⟨_, rfl, by simp only [setW, List.foldl_cons, List.foldl_nil, List.set_cons_succ, List.set_cons_zero], VA, dA, rfl, hoA, own_or haA (by omega), by exact eqq⟩
        · rw [hdu, if_neg (by omega), List.append_nil]
          exact ⟨_, rfl, by simp only [setW, List.foldl_cons, List.foldl_nil, List.set_cons_succ, List.set_cons_zero], V1, d1, rfl, ho1f, fun k hk => .inl hk, Evt.refl _ _⟩
      case k2 =>
        rintro u9 w9 ⟨V3, d3, h5, ho3, hin3, e9⟩
        have z9 := e9.size
        have hR9 := hRf.evt e9 hc1'
        have hO9 := hOf.evt e9 (fun hh => by have := (hn1 _ hh).1; omega)
        have hg9 := hgf.evt e9 hb1
        have ho29 := own_evt e9 ho2f (fun k hk hh => (hn1 k hh).2 hk)
        have hlt3 := own_lt ho3
        clear hRf hOf hgf ho1f ho2f
        simp only [setW, List.foldl_cons, List.foldl_nil, List.set_cons_succ, List.set_cons_zero]
        simp only [h5]
        have hap : ∀ k, (Value.slice V3 D'.length d3).ownBlock = some k → wS.heap.size ≤ k ∧ ¬ (Value.slice V2 L.length d2).ownBlock = some k := fun k hk => by
          rcases hin3 k hk with h1 | h1
          · exact hn1 k h1
          · exact ⟨by omega, fun hh => by have := hlt2 k hh; omega⟩
        have e9S : Evt (fun _ => False) wS w9 := Evt.next e9 (Evt.next hevwf e3 (fun _ _ h => h)) (fun j hj hh => by have := (hn1 j hh).1; omega)
        have fin : ∀ (w10 : World) (V4 : Option Addr) (d4 : Nat), w10.ownsRow 0 88 5 (.slice V4 L'.length d4) L'.length (mmCs L') → (∀ k, (Value.slice V4 L'.length d4).ownBlock = some k → (Value.slice V2 L.length d2).ownBlock = some k ∨ w9.heap.size ≤ k) → Evt (fun k => (Value.slice V2 L.length d2).ownBlock = some k) w9 w10 →
            w10.ownsRow 0 88 5 (.slice V3 D'.length d3) D'.length (mmCs D') ∧ w10.ownsRow 0 88 5 (.slice V4 L'.length d4) L'.length (mmCs L') ∧ (∀ k, (Value.slice V3 D'.length d3).ownBlock = some k → wS.heap.size ≤ k ∧ ¬ (Value.slice V4 L'.length d4).ownBlock = some k) ∧ (∀ k, (Value.slice V4 L'.length d4).ownBlock = some k → wS.heap.size ≤ k) ∧ Evt (fun _ => False) wS w10 := by
          intro w10 V4 d4 ho4 hin4 e10
          refine ⟨own_evt e10 ho3 (fun k hk hh => (hap k hk).2 hh), ho4, fun k hk => ⟨(hap k hk).1, fun hh => ?_⟩, fun k hk => ?_, Evt.next e10 e9S (fun j hj hh => by have := hn2 j hh; omega)⟩
          · rcases hin4 k hh with h1 | h1
            · exact (hap k hk).2 h1
            · have := hlt3 k hk
              omega
          · rcases hin4 k hk with h1 | h1
            · exact hn2 k h1
            · omega
        clear hin3 hap e9S hevwf e9
        repeat' (first | (((with_reducible refine' e_append ?hx ?hy ?hzs ?hsz ?hown ?hl ?hnews ?h1 ?hb ?hm ?_); (case hx => ((try simp only [ev, lget]); (try rfl))); (case hy => rfl); (case hzs => rfl); (case hsz => decide); (case hown => exact oqq); (case hnews => refine' blk_src ?hbb; (case hbb => exact bqq)); (case hl => rfl); (case h1 => simp [Value.oneCell']); (case hb => omega); (case hm => omega); intro vA wA hoA heA hnA haA hzA; (conv => arg 5; simp only [zA, zB, ev, lget, zC, zD, zE, zF, zG, zH, zI, zJ, zK, zL, zM, zN, zO])); have hlA := own_lt hoA; obtain ⟨VA, dA, hVA⟩ := own_slice hoA; subst hVA) | (with_reducible (first | refine' wp_seq ?_ | refine' wp_region_lit ?_ | refine' wpList_nil ?_ | refine' then_normal ?_ | refine' wp_skip ?_ | refine' in_normal ?_)) | ((with_reducible refine' c_condT ?hx ?_); (case hx => rfl)) | ((with_reducible refine' c_condF ?hx ?_); (case hx => rfl)) | ((with_reducible refine' l_step ?_); (first | ((first | (with_reducible refine' g_move ?_) | (with_reducible refine' g_assign ?_) | ((with_reducible refine' g_fieldAddr ?hx ?ho ?_); (case hx => rfl); (case ho => rfl)) | ((first | (with_reducible refine' g_loadB ?hx ?hb ?hc ?_) | (with_reducible refine' g_loadS ?hx ?hb ?hn ?_)); (case hx => rfl); (case hb => exact bqq); first | (case hc => rfl) | (case hn => simp only [List.length_cons, List.length_nil]; omega)) | ((with_reducible refine' g_addN ?hx ?hy ?h0 ?h1 ?_); (case hx => rfl); (case hy => rfl); (case h0 => omega); (case h1 => omega)) | ((with_reducible refine' g_pickT ?hx ?_); (case hx => rfl)) | ((with_reducible refine' g_pickF ?hx ?_); (case hx => rfl))); (conv => arg 5; simp only [zA, zB, ev, lget, zC, zD, zE, zF, zG, zH, zI, zJ, zK, zL, zM, zN, zO])) | (((with_reducible refine' g_gtr ?hx ?hy (fun _ => ?_) (fun _ => ?_)); (case hx => rfl)); (case hy => rfl); all_goals (first | (exfalso; omega) | (conv => arg 5; simp only [zA, zB, ev, lget, zC, zD, zE, zF, zG, zH, zI, zJ, zK, zL, zM, zN, zO]))))) | ((with_reducible refine' l_on ?hw ?_); (case hw => rfl)) | ((with_reducible refine' l_off ?hw ?_); (case hw => rfl); (conv => arg 5; simp only [zA, zB, ev, lget, zC, zD, zE, zF, zG, zH, zI, zJ, zK, zL, zM, zN, zO])) | (((with_reducible refine' e_sliceLit ?hx ?hi ?hv ?hn ?_); (case hx => simp only [zC, zD, ev, lget]; (try rfl)); (case hi => rfl); (case hv => simp [Value.cells]); (case hn => decide); simp only [List.flatMap_cons, List.flatMap_nil, Value.cells, List.cons_append, List.nil_append]); intro _ _ _ _ _ _ _; (conv => arg 5; simp only [zA, zB, ev, lget, zC, zD, zE, zF, zG, zH, zI, zJ, zK, zL, zM, zN, zO])))
        · rename_i xa xb xc xd xe xf xg xh
          have hLe : L' = L ++ [mi] := by rw [hre, if_pos (by omega)]
          have q1 : wA.ownsRow 0 88 5 (.slice VA L'.length dA) L'.length (mmCs L') := by rw [hLe, List.length_append, mmCs_snoc]; exact hoA
          have q2 : ∀ k, (Value.slice VA L'.length dA).ownBlock = some k → (Value.slice V2 L.length d2).ownBlock = some k ∨ w9.heap.size ≤ k := by rw [hLe, List.length_append]; exact own_or haA (by omega)
          refine ⟨_, _, rfl, (by omega : R.msgs.length - (i + 1) < R.msgs.length - i), by simp only [zA, zB], i + 1, V3, VA, d3, dA, rfl, by omega, rfl, by rw [hD']; rfl, by rw [hL', hLe, List.length_append]; rfl, ?_⟩
          rw [hD', hL']
          exact fin wA VA dA q1 q2 (by exact eqq)
        · rename_i xa xa2 xb xc xd xe xf xg xh
          have hLe : L' = L ++ [mi] := by rw [hre, if_pos (by omega)]
          have q1 : wA.ownsRow 0 88 5 (.slice VA L'.length dA) L'.length (mmCs L') := by rw [hLe, List.length_append, mmCs_snoc]; exact hoA
          have q2 : ∀ k, (Value.slice VA L'.length dA).ownBlock = some k → (Value.slice V2 L.length d2).ownBlock = some k ∨ w9.heap.size ≤ k := by rw [hLe, List.length_append]; exact own_or haA (by omega)
          refine ⟨_, _, rfl, (by omega : R.msgs.length - (i + 1) < R.msgs.length - i), by simp only [zA, zB], i + 1, V3, VA, d3, dA, rfl, by omega, rfl, by rw [hD']; rfl, by rw [hL', hLe, List.length_append]; rfl, ?_⟩
          rw [hD', hL']
          exact fin wA VA dA q1 q2 (by exact eqq)
        · have hLe : L' = L := by rw [hre, if_neg (by omega), List.append_nil]
          refine ⟨_, _, rfl, (by omega : R.msgs.length - (i + 1) < R.msgs.length - i), by simp only [zA, zB], i + 1, V3, V2, d3, d2, rfl, by omega, rfl, by rw [hD']; rfl, by rw [hL', hLe]; rfl, ?_⟩
          rw [hD', hL']
          exact fin w9 V2 d2 (by rw [hLe]; exact ho29) (fun k hk => .inl (by rw [hLe] at hk; exact hk)) (Evt.refl _ _)
    · obtain rfl : i = R.msgs.length := by omega
      rw [List.take_length] at h3 h4 ho1 ho2 hn1 hn2
      have hDl := dueM_len (R.now + 1) R.msgs
      have hLl := leftM_len (R.now + 1) R.msgs
      have hDm : ∀ m ∈ dueM (R.now + 1) R.msgs, m ∈ R.msgs := fun m hm => (List.mem_filter.1 hm).1
      have hLm : ∀ m ∈ leftM (R.now + 1) R.msgs, m ∈ R.msgs := fun m hm => (List.mem_filter.1 hm).1
      have htp : tickR R.p = (dueM (R.now + 1) R.msgs).foldl stR (⟨R.now + 1, R.fates, R.acc, leftM (R.now + 1) R.msgs⟩, []) := rfl
      rw [htp]
      simp only [List.take_length]
      generalize dueM (R.now + 1) R.msgs = D at *
      generalize leftM (R.now + 1) R.msgs = L at *
      repeat' (first | (with_reducible refine' stop_reg (id := 13) ?_) | (with_reducible (first | refine' wp_seq ?_ | refine' wp_region_lit ?_ | refine' wpList_nil ?_ | refine' then_normal ?_ | refine' wp_exit ?_ | refine' then_exit ?_ | refine' in_exit ?_)) | ((with_reducible refine' c_condF ?hx ?_); (case hx => rfl)) | ((with_reducible refine' l_step ?_); (first | ((first | (with_reducible refine' g_move ?_) | ((with_reducible refine' g_fieldAddr ?hx ?ho ?_); (case hx => rfl); (case ho => rfl)) | ((with_reducible refine' g_loadB ?hx ?hb ?hc ?_); (case hx => rfl); (case hb => exact bqq); first | (case hc => rfl) | (case hn => simp only [List.length_cons, List.length_nil]; omega)) | ((with_reducible refine' g_lenS ?hx ?_); (case hx => rfl))); (conv => arg 5; simp only [zA, zB, ev, lget, zC, zD, zE, zF, zG, zH, zI, zJ, zK, zL, zM, zN, zO])) | (((with_reducible refine' g_lss ?hx ?hy (fun _ => ?_) (fun _ => ?_)); (case hx => rfl)); (case hy => rfl); all_goals (first | (exfalso; omega) | (conv => arg 5; simp only [zA, zB, ev, lget, zC, zD, zE, zF, zG, zH, zI, zJ, zK, zL, zM, zN, zO]))))) | ((first | ((with_reducible refine' e_storeB ?hx ?hy ?hv ?h1 ?hb ?ho ?_); (case hx => rfl); (case hy => ((try simp only [ev, lget]); (try rfl))); (case hv => rfl); (case h1 => rfl)) | ((with_reducible refine' e_storeR ?hx ?hy ?h1 ?hb ?hn ?ho ?_); (case hx => rfl); (case hy => rfl); (case h1 => simp [Value.oneCell']); (case hn => rfl))); (case hb => exact bqq); (case ho => first | (simp only [List.length_cons, List.length_nil]; omega) | omega | (simp; omega) | simp); (try simp only [splice, zA, zB]); intro _ _ _ _))
      refine stop_go ?_
      rename_i w4 hR4 e4 z4
      have hO4 := hO3.evt e4 (by omega)
      have eW3 : Evt (fun _ => False) w w3 := Evt.next e3 eW (fun _ _ h => h)
      have eW4 : Evt (fun _ => False) w w4 := Evt.next e4 eW3 (fun i hi hh => by have h' : i = gR := hh; omega)
      have hbs : RefAt w4 (fun k => G k ∨ (wS.heap.size ≤ k ∧ k < w4.heap.size)) R := h.evt eW4 (fun _ _ _ h => h) (fun _ h => .inl h)
      have ho14 := own_evt e4 ho1 (fun k hk hh => by have h1 := (hn1 k hk).1; have h2 : k = gR := hh; omega)
      have ho24 := own_evt e4 ho2 (fun k hk hh => by have h1 := hn2 k hk; have h2 : k = gR := hh; omega)
      have hD4 : RG w4 (fun k => G k ∨ (wS.heap.size ≤ k ∧ k < w4.heap.size)) V1 (mmCs D) := RG.own ho14 (fun k hk => .inr ⟨(hn1 k hk).1, own_lt ho14 k hk⟩)
      have hT0 : RefAt w4 (fun k => G k ∨ (wS.heap.size ≤ k ∧ k < w4.heap.size)) { R with now := R.now + 1, msgs := L, AM := V2, cM := d2 } := ⟨hbs.acc, hbs.fates, RG.own ho24 (fun k hk => .inr ⟨hn2 k hk, own_lt ho24 k hk⟩), fun m hm => hbs.bod m (hLm m hm), hbs.cap⟩
      have hDb : ∀ m ∈ D, RG w4 (fun k => G k ∨ (wS.heap.size ≤ k ∧ k < w4.heap.size)) m.A (u8s m.body) := fun m hm => hbs.bod m (hDm m hm)
      clear ho1 ho2 ho14 ho24 hn1 hn2 hms hms3 hR3 hO3 hbs h
      repeat' (first | (with_reducible (first | refine' wp_region_lit ?_ | refine' wpList_nil ?_ | refine' then_normal ?_ | refine' wp_block ?_)) | ((with_reducible refine' l_step ?_); ((with_reducible refine' g_assign ?_); (conv => arg 5; simp only [zA, zB, ev, lget, zC, zD, zE, zF, zG, zH, zI, zJ, zK, zL, zM, zN, zO]))))
      refine' s_loop [4, 9, 60, 61, 62, 63, 64, 65, 66, 67, 68, 69, 70, 71, 72, 73, 74, 75, 76, 77, 78, 79, 80, 81, 82, 83, 84] (fun n u w' => ∃ (i : Nat) (T : Rn) (V : Option Addr) (d : Nat) (s : Rp × List Int), s = (D.take i).foldl stR (⟨R.now + 1, R.fates, R.acc, L⟩, []) ∧ n = D.length - i ∧ i ≤ D.length ∧ u 9 = .int .i64 i ∧ u 4 = .slice V s.2.length d ∧ T.p = s.1 ∧ s.1.now = R.now + 1 ∧ (∀ c ∈ s.1.fates, letterB c) ∧ s.1.msgs.length ≤ L.length + i ∧ s.1.acc.length ≤ R.acc.length + i ∧ s.2.length ≤ i ∧
        Blk w' gR 64 (rnC T) ∧ RefAt w' (fun k => (G k ∨ (wS.heap.size ≤ k ∧ k < w'.heap.size)) ∧ ¬ (Value.slice V s.2.length d).ownBlock = some k) T ∧ w'.ownsRow 0 3 1 (.slice V s.2.length d) s.2.length (ints s.2) ∧ (∀ k, (Value.slice V s.2.length d).ownBlock = some k → w4.heap.size ≤ k) ∧ Evt (fun k => k = gR) w4 w') D.length ?h9 ?round9
      case h9 => exact ⟨0, { R with now := R.now + 1, msgs := L, AM := V2, cM := d2 }, none, 0, _, rfl, rfl, by omega, rfl, rfl, rfl, rfl, hl, by simp, by simp, by simp, hR4, hT0.evt (Evt.refl (fun _ => False) w4) (fun _ _ _ h => h) (fun k hk => ⟨hk, by simp [Value.ownBlock]⟩), World.ownsRow_nil _ _ _ _, by simp [Value.ownBlock], Evt.refl _ _⟩
      clear hT0 hR4
      case round9 =>
        rintro n u5 w5 ⟨i, T, V, d, s, hs, rfl, hi5, h9, h4', hTp, hsn, hsf, hsm, hsa, hsi, hR5, hT5, hoI, hlb, e5⟩
        simp only [setW, List.foldl_cons, List.foldl_nil, List.set_cons_succ, List.set_cons_zero]
        simp only [h9, h4']
        have z5 := e5.size
        have hO5 := hO4.evt e5 (by omega)
        have hltI := own_lt hoI
        have hgs : ∀ k, k < w4.heap.size → (G k ∨ (wS.heap.size ≤ k ∧ k < w4.heap.size)) → ¬ k = gR := fun k _ hk hh => by
          rcases hk with h1 | h1
          · have := hGlt k h1; omega
          · omega
        have hT1 : T.now = s.1.now := congrArg Rp.now hTp
        have hT2 : T.fates = s.1.fates := congrArg Rp.fates hTp
        have hT3 : T.acc = s.1.acc := congrArg Rp.acc hTp
        have hT4 : T.msgs = s.1.msgs := congrArg Rp.msgs hTp
        have hbR : ¬ (Value.slice V s.2.length d).ownBlock = some gR := fun hh => by have := hlb _ hh; omega
        by_cases hlt : i < D.length
        · obtain ⟨b, o, rfl, hcellE⟩ := RG.at_ mmC_len (hD4.evt e5 hgs (fun _ h => h)) (by omega) hlt
          have hmem : D[i] ∈ D := List.getElem_mem hlt
          have hmb := (hDb _ hmem).evt e5 hgs (fun _ h => h)
          have hsx : (D.take (i + 1)).foldl stR (⟨R.now + 1, R.fates, R.acc, L⟩, []) = stR s D[i] := by rw [List.take_succ_eq_append_getElem hlt, List.foldl_append, ← hs]; rfl
          have hcellF : ∀ w', Evt (fun k => k = gR) w5 w' → ∀ j v, (mmC D[i])[j]? = some v → w'.cell? ⟨b, o + i * 5 + j, none⟩ = some v := fun w' he j v hj => by
            obtain ⟨b', o', hb', hcc⟩ := RG.at_ mmC_len (hD4.evt (Evt.next he e5 (fun _ _ h => h)) hgs (fun _ h => h)) (by omega) hlt
            cases hb'
            exact hcc w' (Evt.refl _ _) j v hj
          generalize D[i] = mi at *
          cases hack : mi.ack with
          | true =>
            have hsx2 : stR s mi = (s.1, s.2 ++ [mi.id]) := by rw [stR, if_pos hack]
            simp only [mmC, hack] at hcellE
            repeat' (first | (((with_reducible refine' e_append ?hx ?hy ?hzs ?hsz ?hown ?hl ?hnews ?h1 ?hb ?hm ?_); (case hx => ((try simp only [ev, lget]); (try rfl))); (case hy => rfl); (case hzs => rfl); (case hsz => decide); (case hown => exact oqq); (case hnews => refine' blk_src ?hbb; (case hbb => exact bqq)); (case hl => rfl); (case h1 => simp [Value.oneCell']); (case hb => omega); (case hm => omega); intro vA wA hoA heA hnA haA hzA; (conv => arg 5; simp only [zA, zB, ev, lget, zC, zD, zE, zF, zG, zH, zI, zJ, zK, zL, zM, zN, zO])); have hlA := own_lt hoA; obtain ⟨VA, dA, hVA⟩ := own_slice hoA; subst hVA) | (with_reducible (first | refine' wp_seq ?_ | refine' wp_region_lit ?_ | refine' wpList_nil ?_ | refine' then_normal ?_ | refine' wp_block ?_ | refine' wp_skip ?_ | refine' in_normal ?_)) | ((with_reducible refine' c_condT ?hx ?_); (case hx => rfl)) | ((with_reducible refine' l_step ?_); (first | ((first | (with_reducible refine' g_move ?_) | (with_reducible refine' g_assign ?_) | ((with_reducible refine' g_fieldAddr ?hx ?ho ?_); (case hx => rfl); (case ho => rfl)) | ((with_reducible refine' g_loadC ?hx ?hc ?_); (case hx => rfl); (case hc => first | exact hcellE _ (by exact eqq) 0 _ rfl | exact hcellE _ (by exact eqq) _ _ rfl | exact hcellF _ (by exact eqq) 0 _ rfl | exact hcellF _ (by exact eqq) _ _ rfl)) | ((with_reducible refine' g_addN ?hx ?hy ?h0 ?h1 ?_); (case hx => rfl); (case hy => rfl); (case h0 => omega); (case h1 => omega)) | ((with_reducible refine' g_lenS ?hx ?_); (case hx => rfl)) | ((with_reducible refine' g_indexAddr ?hx ?hy ?h0 ?h1 ?_); (case hx => rfl); (case hy => rfl); (case h0 => omega); (case h1 => omega))); (conv => arg 5; simp only [zA, zB, ev, lget, zC, zD, zE, zF, zG, zH, zI, zJ, zK, zL, zM, zN, zO])) | (((with_reducible refine' g_lss ?hx ?hy (fun _ => ?_) (fun _ => ?_)); (case hx => rfl)); (case hy => rfl); all_goals (first | (exfalso; omega) | (conv => arg 5; simp only [zA, zB, ev, lget, zC, zD, zE, zF, zG, zH, zI, zJ, zK, zL, zM, zN, zO]))))) | (((with_reducible refine' e_sliceLit ?hx ?hi ?hv ?hn ?_); (case hx => simp only [zC, zD, ev, lget]; (try rfl)); (case hi => rfl); (case hv => simp [Value.cells]); (case hn => decide); simp only [List.flatMap_cons, List.flatMap_nil, Value.cells, List.cons_append, List.nil_append]); intro _ _ _ _ _ _ _; (conv => arg 5; simp only [zA, zB, ev, lget, zC, zD, zE, zF, zG, zH, zI, zJ, zK, zL, zM, zN, zO])))
            rename_i xa xb xc xd xe xf xg
            have eA : Evt (fun k => (Value.slice V s.2.length d).ownBlock = some k) w5 wA := by exact eqq
            have zA' := eA.size
            exact ⟨_, _, rfl, (by omega : D.length - (i + 1) < D.length - i), by simp only [zA, zB], i + 1, T, VA, dA, (s.1, s.2 ++ [mi.id]), by rw [hsx, hsx2], rfl, by omega, rfl, by rw [List.length_append]; rfl, hTp, hsn, hsf, Nat.le_trans hsm (by omega), Nat.le_trans hsa (by omega), by rw [List.length_append]; exact Nat.add_le_add_right hsi 1, hR5.evt eA hbR,
              hT5.evt eA (fun k _ hk => hk.2) (fun k hk => ⟨by
                rcases hk.1 with h1 | h1
                · exact .inl h1
                · exact .inr (by omega), fun hh => by
                rw [List.length_append] at hh
                have hkl : k < w5.heap.size := by
                  rcases hk.1 with h1 | h1
                  · have := hGlt k h1; omega
                  · omega
                rcases haA with h1 | h1
                · exact hk.2 (h1 ▸ hh)
                · have h2 : (Value.slice VA (s.2.length + 1) dA).ownBlock = some k := hh
                  rw [h1] at h2
                  have := Option.some.inj h2
                  omega⟩), by rw [List.length_append, show ints (s.2 ++ [mi.id]) = ints s.2 ++ [.int .i64 mi.id] by simp [ints]]; exact hoA, by rw [List.length_append]; exact lb_step hlb haA (by omega), Evt.next eA e5 (fun j hj hh => by have := hlb j hh; omega)⟩
          | false =>
            obtain ⟨mack, mid, mbody, mat, mag, mA, mc⟩ := mi
            simp only at hack
            subst hack
            have hack : ({ ack := false, id := mid, body := mbody, at_ := mat, again := mag, A := mA, c := mc } : Mm).ack = false := rfl
            generalize hmi : ({ ack := false, id := mid, body := mbody, at_ := mat, again := mag, A := mA, c := mc } : Mm) = mi at hsx hmb hmem hack
            have hsx2 : stR s mi = (tkP s.1 mi, s.2) := by rw [stR, if_neg (by rw [hack]; decide)]
            have hGv : ∀ k, (fun k => (G k ∨ (wS.heap.size ≤ k ∧ k < w5.heap.size)) ∧ ¬ (Value.slice V s.2.length d).ownBlock = some k) k → k < w5.heap.size := fun k hk => by
              rcases hk.1 with h1 | h1
              · have := hGlt k h1; omega
              · omega
            have hmb5 : RG w5 (fun k => (G k ∨ (wS.heap.size ≤ k ∧ k < w5.heap.size)) ∧ ¬ (Value.slice V s.2.length d).ownBlock = some k) mi.A (u8s mi.body) := hmb.evt (Evt.refl (fun _ => False) w5) (fun _ _ _ h => h) (fun k hk => ⟨by
              rcases hk with h1 | h1
              · exact .inl h1
              · exact .inr (by omega), fun hh => by
              have := hlb k hh
              rcases hk with h1 | h1
              · have := hGlt k h1; omega
              · omega⟩)
            have tkfin : ∀ (wq w6 w7 : World) (R' : Rn), w5.heap.size ≤ wq.heap.size → wq.heap.size ≤ w6.heap.size → R'.now = T.now → R'.fates = T.fates.tail → R'.acc = takeA T.now T.acc mi → R'.msgs = T.msgs ++ copR T.now (T.fates.headD 49) (ackR mi) → RefAt w6 (Gn (fun k => (G k ∨ (wS.heap.size ≤ k ∧ k < w5.heap.size)) ∧ ¬ (Value.slice V s.2.length d).ownBlock = some k) wq w6) R' → Evt (fun k => k = gR) w6 w7 →
                R'.p = tkP s.1 mi ∧ RefAt w7 (fun k => (G k ∨ (wS.heap.size ≤ k ∧ k < w7.heap.size)) ∧ ¬ (Value.slice V s.2.length d).ownBlock = some k) R' := by
              intro wq w6 w7 R' hz1 hz2 p1 p2 p3 p4 p5 e7
              have z7 := e7.size
              refine ⟨?_, p5.evt e7 (fun k _ hk hh => ?_) (fun k hk => ?_)⟩
              · rw [← hTp]
                simp only [Rn.p, tkP, p1, p2, p3, p4]
              · have hh' : k = gR := hh
                rcases hk with h1 | h1
                · rcases h1.1 with h2 | h2
                  · have := hGlt k h2; omega
                  · omega
                · omega
              · rcases hk with h1 | h1
                · exact ⟨by
                    rcases h1.1 with h2 | h2
                    · exact .inl h2
                    · exact .inr (by omega), h1.2⟩
                · exact ⟨.inr (by omega), fun hh => by have := hltI k hh; omega⟩
            subst hmi
            have hGv' := hGv
            clear hcellE htp hs hDm hLm hDb hD4 hGv hgs h3 h4 h24 hO4 e4 eW3 eR eO eS zR zO' zS a1 a2 c1 c2
            repeat' (first | ((with_reducible refine' w_tree (id := 18) (fun k => k = gR) (.pure 1 (.pure 2 (.pure 3 (.pure 4 (.one 0 (.one 5 (.one 6 .done))))))) [79, 80, 81, 82, 83, 84] (fun u w' => ∃ T' : Rn, T'.p = tkP s.1 { ack := false, id := mid, body := mbody, at_ := mat, again := mag, A := mA, c := mc } ∧ RefAt w' (fun k => (G k ∨ (wS.heap.size ≤ k ∧ k < w'.heap.size)) ∧ ¬ (Value.slice V s.2.length d).ownBlock = some k) T' ∧ Blk w' gR 64 (rnC T')) ?hm ?hn ?hl ?hB ?ta18 ?tb18); (case hm => kernel_rfl); (case hn => kernel_rfl); (case hl => kernel_rfl); (case hB => kernel_rfl); intro _ _ _) | ((with_reducible refine' tt_pure ?hi ?hv ?_); (case hi => rfl); (case hv => intro _ hqS; have hqz := hqS.size; ((first | (with_reducible refine' g_move ?_) | ((with_reducible refine' g_loadR ?hx ?hn ?hc ?_); (case hx => rfl); (case hc => first | exact hcellE _ (by exact eqq) | exact hcellF _ (by exact eqq)); (case hn => rfl)) | ((with_reducible refine' g_indexAddr ?hx ?hy ?h0 ?h1 ?_); (case hx => rfl); (case hy => rfl); (case h0 => omega); (case h1 => omega))); exact rfl)); (conv => arg 6; simp only [zA, zB, ev, lget, zC, zD, zE, zF, zG, zH, zI, zJ, zK, zL, zM, zN, zO])) | ((with_reducible refine' tt_one ?hi ?_); (case hi => rfl)) | ((with_reducible refine' tt_done ?hS ?_); (case hS => exact eqq)) | (with_reducible refine' tt_nil ?_) | (go_at_call 42; refine (taken_r (fun k => (G k ∨ (wS.heap.size ≤ k ∧ k < w5.heap.size)) ∧ ¬ (Value.slice V s.2.length d).ownBlock = some k) T { ack := false, id := mid, body := mbody, at_ := mat, again := mag, A := mA, c := mc } _ (hT5.up (by exact eqq)) (hmb5.up (by exact eqq)) (by rw [hT2]; exact hsf) (fun k hk => Nat.lt_of_lt_of_le (hGv' k hk) (by omega)) (by rw [hT4]; omega) (by rw [hT3]; omega) (by rw [hT1, hsn]; omega)).mono ?_; rintro e w6 ⟨R', rfl, p1, p2, p3, p4, p5, e6⟩; have z6 := e6.size; refine ⟨_, rfl, ?_⟩; simp only [rnC]; (conv => arg 5; simp only [zA, zB, ev, lget, zC, zD, zE, zF, zG, zH, zI, zJ, zK, zL, zM, zN, zO])) | (with_reducible (first | refine' wp_seq ?_ | refine' wp_region_lit ?_ | refine' wpList_nil ?_ | refine' then_normal ?_ | refine' wp_block ?_ | refine' wp_skip ?_)) | ((with_reducible refine' c_condT ?hx ?_); (case hx => rfl)) | ((with_reducible refine' c_condF ?hx ?_); (case hx => rfl)) | ((with_reducible refine' l_step ?_); (first | ((first | (with_reducible refine' g_move ?_) | ((with_reducible refine' g_fieldAddr ?hx ?ho ?_); (case hx => rfl); (case ho => rfl)) | ((first | (with_reducible refine' g_loadB ?hx ?hb ?hc ?_) | (with_reducible refine' g_loadS ?hx ?hb ?hn ?_)); (case hx => rfl); (case hb => exact bqq); first | (case hc => rfl) | (case hn => simp only [List.length_cons, List.length_nil]; omega)) | ((with_reducible refine' g_loadC ?hx ?hc ?_); (case hx => rfl); (case hc => first | exact hcellE _ (by exact eqq) 0 _ rfl | exact hcellE _ (by exact eqq) _ _ rfl | exact hcellF _ (by exact eqq) 0 _ rfl | exact hcellF _ (by exact eqq) _ _ rfl)) | ((with_reducible refine' g_lenS ?hx ?_); (case hx => rfl)) | ((with_reducible refine' g_indexAddr ?hx ?hy ?h0 ?h1 ?_); (case hx => rfl); (case hy => rfl); (case h0 => omega); (case h1 => omega))); (conv => arg 5; simp only [zA, zB, ev, lget, zC, zD, zE, zF, zG, zH, zI, zJ, zK, zL, zM, zN, zO])) | (((with_reducible refine' g_lss ?hx ?hy (fun _ => ?_) (fun _ => ?_)); (case hx => rfl)); (case hy => rfl); all_goals (first | (exfalso; omega) | (conv => arg 5; simp only [zA, zB, ev, lget, zC, zD, zE, zF, zG, zH, zI, zJ, zK, zL, zM, zN, zO]))))) | ((first | ((with_reducible refine' e_storeB ?hx ?hy ?hv ?h1 ?hb ?ho ?_); (case hx => rfl); (case hy => ((try simp only [ev, lget]); (try rfl))); (case hv => rfl); (case h1 => rfl)) | ((with_reducible refine' e_storeR ?hx ?hy ?h1 ?hb ?hn ?ho ?_); (case hx => rfl); (case hy => rfl); (case h1 => simp [Value.oneCell']); (case hn => rfl))); (case hb => exact bqq); (case ho => first | (simp only [List.length_cons, List.length_nil]; omega) | omega | (simp; omega) | simp); (try simp only [splice, zA, zB]); intro _ _ _ _) | ((with_reducible refine' l_call TFn.ent ?ha ?_); (case ha => simp only [zC, zD, ev, lget]; (try rfl))))
            · rename_i wd evd zd w7 h7 e7 z7
              obtain ⟨t1, t2⟩ := tkfin wd w6 w7 R' zd z6 p1 p2 p3 p4 p5 e7
              exact ⟨_, rfl, by simp only [setW, List.foldl_cons, List.foldl_nil, List.set_cons_succ, List.set_cons_zero], R', t1, t2, h7⟩
            · rintro u6 w7 hev7 hz7 ⟨T', t1, t2, hb7⟩
              have hcl := copR_len s.1.now (s.1.fates.headD 49) (ackR { ack := false, id := mid, body := mbody, at_ := mat, again := mag, A := mA, c := mc })
              have htl := takeA_len s.1.now s.1.acc { ack := false, id := mid, body := mbody, at_ := mat, again := mag, A := mA, c := mc }
              simp only [setW, List.foldl_cons, List.foldl_nil, List.set_cons_succ, List.set_cons_zero]
              repeat' (first | (with_reducible (first | refine' wp_region_lit ?_ | refine' wpList_nil ?_ | refine' then_normal ?_ | refine' in_normal ?_)) | ((with_reducible refine' l_step ?_); ((first | (with_reducible refine' g_move ?_) | (with_reducible refine' g_assign ?_) | ((with_reducible refine' g_addN ?hx ?hy ?h0 ?h1 ?_); (case hx => rfl); (case hy => rfl); (case h0 => omega); (case h1 => omega))); (conv => arg 5; simp only [zA, zB, ev, lget, zC, zD, zE, zF, zG, zH, zI, zJ, zK, zL, zM, zN, zO]))))
              exact ⟨_, _, rfl, (by omega : D.length - (i + 1) < D.length - i), by simp only [zA, zB], i + 1, T', V, d, (tkP s.1 { ack := false, id := mid, body := mbody, at_ := mat, again := mag, A := mA, c := mc }, s.2), by rw [hsx, hsx2], rfl, by omega, rfl, rfl, t1, hsn, fun c hc => hsf c (List.mem_of_mem_tail hc), by
                show (s.1.msgs ++ copR s.1.now (s.1.fates.headD 49) (ackR _)).length ≤ _
                rw [List.length_append]
                omega, by
                show (takeA s.1.now s.1.acc _).length ≤ _
                omega, Nat.le_trans hsi (by omega), hb7, t2, own_evt hev7 hoI (fun k hk hh => hbR (by have hh' : k = gR := hh; rw [← hh']; exact hk)), hlb, Evt.next hev7 e5 (fun _ _ h => h)⟩
        · obtain rfl : i = D.length := by omega
          rw [List.take_length] at hs
          repeat' (first | (with_reducible (first | refine' wp_seq ?_ | refine' wp_region_lit ?_ | refine' wpList_nil ?_ | refine' then_normal ?_ | refine' wp_ret ?_ | refine' wp_exit ?_ | refine' then_exit ?_ | refine' in_exit ?_)) | ((with_reducible refine' c_condF ?hx ?_); (case hx => rfl)) | ((with_reducible refine' b_retN ?hr ?h2 ?ha ?_); (case hr => rfl); (case h2 => decide); (case ha => first | exact ra_nil | ((first | ((with_reducible refine' ra_tmp ?rv2 ?rh2); (case rv2 => ((try simp only [ev, lget]); (try rfl)))) | ((with_reducible refine' ra_cell ?rp2 ?rt2 ?rq2 ?rn2 ?rh2); (case rp2 => rfl); (case rt2 => infer_instance); (case rq2 => exact bqq); (case rn2 => rfl))); (case rh2 => first | exact ra_nil | ((first | ((with_reducible refine' ra_tmp ?rv1 ?rh1); (case rv1 => ((try simp only [ev, lget]); (try rfl)))) | ((with_reducible refine' ra_cell ?rp1 ?rt1 ?rq1 ?rn1 ?rh1); (case rp1 => rfl); (case rt1 => infer_instance); (case rq1 => exact bqq); (case rn1 => rfl))); (case rh1 => first | exact ra_nil)))))) | ((with_reducible refine' l_step ?_); (first | ((first | (with_reducible refine' g_move ?_) | (with_reducible refine' g_assign ?_) | ((with_reducible refine' g_loadS ?hx ?hb ?hn ?_); (case hx => rfl); (case hb => exact bqq); first | (case hc => rfl) | (case hn => simp only [List.length_cons, List.length_nil]; omega)) | ((with_reducible refine' g_lenS ?hx ?_); (case hx => rfl))); (conv => arg 5; simp only [zA, zB, ev, lget, zC, zD, zE, zF, zG, zH, zI, zJ, zK, zL, zM, zN, zO])) | (((with_reducible refine' g_lss ?hx ?hy (fun _ => ?_) (fun _ => ?_)); (case hx => rfl)); (case hy => rfl); all_goals (first | (exfalso; omega) | (conv => arg 5; simp only [zA, zB, ev, lget, zC, zD, zE, zF, zG, zH, zI, zJ, zK, zL, zM, zN, zO]))))) | ((first | ((with_reducible refine' e_storeB ?hx ?hy ?hv ?h1 ?hb ?ho ?_); (case hx => rfl); (case hy => ((try simp only [ev, lget]); (try rfl))); (case hv => rfl); (case h1 => rfl)) | ((with_reducible refine' e_storeR ?hx ?hy ?h1 ?hb ?hn ?ho ?_); (case hx => rfl); (case hy => rfl); (case h1 => simp [Value.oneCell']); (case hn => rfl))); (case hb => exact bqq); (case ho => first | (simp only [List.length_cons, List.length_nil]; omega) | omega | (simp; omega) | simp); (try simp only [splice, zA, zB]); intro _ _ _ _))
          rename_i w6 h6 e6 z6
          rw [← hs]
          have eF : Evt (fun _ => False) w w6 := Evt.next e6 (Evt.next e5 eW4 (fun j hj hh => by have h' : j = gR := hh; omega)) (fun j hj hh => by have h' : j = gO := hh; omega)
          have hoF := own_evt e6 hoI (fun k hk hh => by have h1 := hlb k hk; have h' : k = gO := hh; omega)
          exact ⟨T, V, d, rfl, hTp, hT5.evt e6 (fun k _ hk hh => by
            have h' : k = gO := hh
            rcases hk.1 with h1 | h1
            · have := hGlt k h1; omega
            · omega) (fun k hk => by
            rcases hk.1 with h1 | h1
            · exact .inl h1
            · exact .inr (by omega)), RG.own hoF (fun k hk => .inr ⟨by have := hlb k hk; omega, own_lt hoF k hk⟩), eF⟩
end Go.Proofs.Ytmngcpackbekiaa
