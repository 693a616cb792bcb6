/- The lists that were handed out stay as their holder left them: kept. SHORT NORMX -/
import Derived.Test.YtchfkkliechgoaaHld17
namespace Go.Proofs.Ytchfkkliechgoaa
open Go.RowKit Go.Proofs.YtchfkkliechgoaaE
set_option linter.unusedSimpArgs false
set_option linter.unusedVariables false
set_option maxRecDepth 4000

/-- A list that was handed out: its cells. -/
structure Ls where
  n : Nat
  A : Option Addr
  c : Nat
  cs : List Value
@[reducible] def lsV (m : Ls) : Value := .slice m.A m.n m.c
def lsCs (l : List Ls) : List Value := l.map lsV
/-- Its block's head holds its cells. -/
def KB (w : World) (e : TypeId) (A : Option Addr) (n c : Nat) (xs : List Value) : Prop := ∀ g, (Value.slice A n c).ownBlock = some g → ∃ cur, A = some ⟨g, 0, none⟩ ∧ Blk w g e cur ∧ cur.take xs.length = xs
theorem KB.of {w : World} {e : TypeId} {sz n c : Nat} {A : Option Addr} {xs : List Value} (h : w.ownsRow 0 e sz (.slice A n c) n xs) : KB w e A n c xs := fun g hg => by
  have hl := h.1
  rcases own_blk_of h with ⟨h1, h2⟩ | ⟨g', cap, cur, h1, hb, ht, _⟩
  · rw [h1] at hg
    simp [Value.ownBlock] at hg
  · simp only [Value.slice.injEq] at h1
    obtain ⟨rfl, _, _⟩ := h1
    simp only [Value.ownBlock, Option.some.injEq] at hg
    subst hg
    exact ⟨cur, rfl, hb, by rw [hl]; exact ht⟩
theorem KB.evt {S : Nat → Prop} {w w' : World} {e : TypeId} {A : Option Addr} {n c : Nat} {xs : List Value} (h : KB w e A n c xs) (he : Evt S w w') (hs : ∀ k, (Value.slice A n c).ownBlock = some k → ¬ S k) : KB w' e A n c xs := fun g hg => by
  obtain ⟨cur, h1, h2, h3⟩ := h g hg
  exact ⟨cur, h1, h2.evt he (hs g hg), h3⟩
theorem KB.rc {w : World} {e : TypeId} {A : Option Addr} {n c : Nat} {xs : List Value} (h : KB w e A n c xs) (ho : 0 < xs.length → ∃ g, (Value.slice A n c).ownBlock = some g) : RC w A xs := fun hn => by
  obtain ⟨g, hg⟩ := ho hn
  obtain ⟨cur, h1, h2, h3⟩ := h g hg
  rw [h1]
  exact RC.blk h2 _ h3 hn
theorem take_pre {cur xs ys zs : List Value} {k : Nat} (h : cur.take k = xs ++ ys) (hx : xs.take zs.length = zs) (hz : zs.length ≤ xs.length) (hk : xs.length ≤ k) : cur.take zs.length = zs := by
  have h1 : cur.take zs.length = (cur.take k).take zs.length := by rw [List.take_take, Nat.min_eq_left (by omega)]
  rw [h1, h, List.take_append_of_le_length hz, hx]
/-- An append behind a row whose head is known leaves the head. -/
theorem KB.app {w1 wC : World} {e : TypeId} {sz : Nat} {A V VC : Option Addr} {n c i d dC m : Nat} {zs xs news : List Value} (hK : KB w1 e A n c zs) (hV : w1.ownsRow 0 e sz (.slice V i d) i xs) (hC : wC.ownsRow 0 e sz (.slice VC (i + m) dC) (i + m) (xs ++ news))
    (hp : xs.take zs.length = zs) (hpl : zs.length ≤ xs.length) (he : Evt (fun k => (Value.slice V i d).ownBlock = some k) w1 wC)
    (ha : (Value.slice VC (i + m) dC).ownBlock = (Value.slice V i d).ownBlock ∨ ((Value.slice VC (i + m) dC).ownBlock = some w1.heap.size ∧ Evt (fun _ => False) w1 wC)) : KB wC e A n c zs := fun g hg => by
  by_cases hVg : (Value.slice V i d).ownBlock = some g
  · rcases ha with ha | ⟨_, hf⟩
    · have hl := hV.1
      rw [hVg] at ha
      rcases own_blk_of hC with ⟨h1, h2⟩ | ⟨g', cap, cur, h1, hb, ht, _⟩
      · rw [h1] at ha
        simp [Value.ownBlock] at ha
      · have h2 : (Value.slice VC (i + m) dC).ownBlock = some g' := by rw [h1]; rfl
        rw [h2] at ha
        obtain rfl := Option.some.inj ha
        obtain ⟨_, h3, _, _⟩ := hK g' hg
        exact ⟨cur, h3, hb, take_pre ht hp hpl (by rw [hl]; exact Nat.mul_le_mul_right _ (by omega))⟩
    · exact hK.evt hf (fun _ _ h => h) g hg
  · exact hK.evt he (fun k hk hh => by
      rw [hg] at hk
      obtain rfl := Option.some.inj hk
      exact hVg hh) g hg
structure LsO (w : World) (l : List Ls) : Prop where
  own : ∀ m ∈ l, w.ownsRow 0 50 3 (lsV m) m.n m.cs
  ids : ∀ m ∈ l, ∀ i, i < m.n → m.cs[i * 3 + 1]? = some (.int .i64 (-5))
  dis : l.Pairwise fun a b => ∀ k, (lsV a).ownBlock = some k → ¬ (lsV b).ownBlock = some k
  len : ∀ m ∈ l, m.n ≤ 1000000000000
@[reducible] def p7 : List Value := [.bool false, .int .i64 (-7), .slice none 0 0]
@[reducible] def p7s (j : Nat) : List Value := (List.replicate j p7).flatten
theorem p7s_succ (j : Nat) : p7s (j + 1) = p7s j ++ p7 := by
  rw [p7s, List.replicate_succ', List.flatten_append]
  simp [p7s]
set_option maxHeartbeats 4000000 in
theorem kept_r (A : Option Addr) (c n : Nat) (ls : List Ls) (w : World) (hr : RC w A (lsCs ls)) (hL : LsO w ls) (hne : ∀ b o, A = some ⟨b, o, none⟩ → ∀ m ∈ ls, ¬ (lsV m).ownBlock = some b) (hn : ls.length = n) (hl : n ≤ 1048576) :
    Calls Try.prog 32 #[.slice A n c] w fun e w' => e = .returned (.bool true) ∧ Evt (fun k => ∃ m ∈ ls, (lsV m).ownBlock = some k) w w' := by
  subst hn
  go_enter Try.func32, Try.ntmps32
  repeat' (first | (with_reducible (first | refine' wp_seq ?_ | refine' wp_region_lit ?_ | refine' wpList_nil ?_ | refine' then_normal ?_ | refine' wp_block ?_)) | ((with_reducible refine' l_step ?_); ((with_reducible refine' g_assign ?_); (conv => arg 5; simp only [zA, zB, ev, lget, zC, zD, zE, zF, zG, zH, zI, zJ, zK, zL, zM, zN, zO]))))
  refine' s_loop [3, 4, 5, 6, 9, 10, 11, 12, 13, 14, 15, 16, 17, 18, 19, 20, 21, 22, 23, 24, 25, 26, 27, 28, 29, 30] (fun n u w' => ∃ (i : Nat) (T : Int), n = ls.length - i ∧ i ≤ ls.length ∧ u 4 = .int .i64 i ∧ u 3 = .int .i64 T ∧ (16 * (i : Int) ≤ T ∧ T ≤ 1000000000100 * (i : Int)) ∧ (∀ j (hj : j < ls.length), j < i → KB w' 50 ls[j].A ls[j].n ls[j].c ls[j].cs) ∧ (∀ j (hj : j < ls.length), i ≤ j → w'.ownsRow 0 50 3 (lsV ls[j]) ls[j].n ls[j].cs) ∧ Evt (fun k => ∃ m ∈ ls, (lsV m).ownBlock = some k) w w') ls.length ?h0 ?round
  case h0 => exact ⟨0, 0, rfl, by omega, rfl, rfl, by omega, fun j hj h => by omega, fun j hj _ => hL.own _ (List.getElem_mem hj), Evt.refl _ _⟩
  case round =>
    rintro n u w2 ⟨i, T, rfl, hi, h4, h3, hT, hdone, htodo, hev⟩
    simp only [setW, List.foldl_cons, List.foldl_nil, List.set_cons_succ, List.set_cons_zero]
    simp only [h4, h3]
    have hz := hev.size
    by_cases hlt : i < ls.length
    · obtain ⟨b, o, rfl, hc⟩ := hr (by simpa [lsCs] using (by omega : 0 < ls.length))
      have hx0 := cell_evt hev (hc i (lsV ls[i]) (by simp [lsCs, hlt])) (fun ⟨m, hm, hh⟩ => hne b o rfl m hm hh)
      have hxo := htodo i hlt (Nat.le_refl _)
      have hxl := hL.len _ (List.getElem_mem hlt)
      have hxm := List.getElem_mem hlt
      have hdis : ∀ j (hj : j < ls.length), j ≠ i → ∀ k, (lsV ls[j]).ownBlock = some k → ¬ (lsV ls[i]).ownBlock = some k := fun j hj hij k h1 h2 => by
        have hd := List.pairwise_iff_getElem.1 hL.dis
        rcases Nat.lt_or_gt_of_ne hij with h | h
        · exact hd _ _ hj hlt h k h1 h2
        · exact hd _ _ hlt hj h k h2 h1
      have hxlen : ls[i].cs.length = ls[i].n * 3 := hxo.1
      have hlt2 := own_lt hxo
      clear hc
      obtain ⟨x, hxi⟩ : ∃ x, ls[i] = x := ⟨_, rfl⟩
      simp only [hxi] at hx0 hxo hxl hxm hdis hxlen hlt2
      repeat' (first | (with_reducible (first | refine' wp_seq ?_ | refine' wp_region_lit ?_ | refine' wpList_nil ?_ | refine' then_normal ?_ | refine' wp_block ?_ | refine' wp_skip ?_)) | ((with_reducible refine' c_condT ?hx ?_); (case hx => rfl)) | ((with_reducible refine' l_step ?_); (first | ((first | (with_reducible refine' g_move ?_) | (with_reducible refine' g_assign ?_) | ((with_reducible refine' g_loadC ?hx ?hc ?_); (case hx => rfl); (case hc => exact cqq)) | ((with_reducible refine' g_lenS ?hx ?_); (case hx => rfl)) | ((with_reducible refine' g_indexAddr ?hx ?hy ?h0 ?h1 ?_); (case hx => rfl); (case hy => rfl); (case h0 => omega); (case h1 => omega))); (conv => arg 5; simp only [zA, zB, ev, lget, zC, zD, zE, zF, zG, zH, zI, zJ, zK, zL, zM, zN, zO])) | (((with_reducible refine' g_lss ?hx ?hy (fun _ => ?_) (fun _ => ?_)); (case hx => rfl)); (case hy => rfl); all_goals (first | (exfalso; omega) | (conv => arg 5; simp only [zA, zB, ev, lget, zC, zD, zE, zF, zG, zH, zI, zJ, zK, zL, zM, zN, zO]))))))
      refine' s_loop [5, 6, 19, 20, 21, 22, 23, 24, 25, 26] (fun n u w' => ∃ (j : Nat) (V' : Option Addr) (d' : Nat), n = 16 - j ∧ j ≤ 16 ∧ u 6 = .int .i64 j ∧ u 5 = .slice V' (x.n + j) d' ∧ w'.ownsRow 0 50 3 (.slice V' (x.n + j) d') (x.n + j) (x.cs ++ p7s j) ∧ KB w' 50 x.A x.n x.c x.cs ∧ (∀ k, (Value.slice V' (x.n + j) d').ownBlock = some k → (lsV x).ownBlock = some k ∨ w2.heap.size ≤ k) ∧ Evt (fun k => (lsV x).ownBlock = some k) w2 w') 16 ?h1 ?round1
      case h1 => exact ⟨0, x.A, x.c, rfl, by omega, rfl, rfl, by simpa [p7s] using hxo, KB.of hxo, fun k hk => .inl hk, Evt.refl _ _⟩
      case round1 =>
        rintro n2 u2 w3 ⟨j, V', d', rfl, hj, h6, h5, hoV, hK, hnw, hev3⟩
        simp only [setW, List.foldl_cons, List.foldl_nil, List.set_cons_succ, List.set_cons_zero]
        simp only [h6, h5]
        have hz3 := hev3.size
        by_cases hlt3 : j < 16
        · repeat' (first | ((with_reducible refine' e_appS (v := .slice V' (x.n + j) d') (n := x.n + j) (m := 1) (xs := x.cs ++ p7s j) (news := p7) ?hx ?hy ?hzs ?hsz ?hown ?hl ?hr ?h1 ?hb ?hm ?_); (case hx => rfl); (case hy => rfl); (case hzs => rfl); (case hsz => decide); (case hown => exact oqq); (case hl => rfl); (case hr => exact RC.blk (by exact bqq) 3 rfl); (case h1 => simp [Value.oneCell']); (case hb => omega); (case hm => omega); intro vA wA hoA heA haA hzA; obtain ⟨VA, dA, hVA⟩ := own_slice hoA; subst hVA; (conv => arg 5; simp only [zA, zB, ev, lget, zC, zD, zE, zF, zG, zH, zI, zJ, zK, zL, zM, zN, zO])) | (with_reducible (first | refine' wp_seq ?_ | refine' wp_region_lit ?_ | refine' wpList_nil ?_ | refine' then_normal ?_ | refine' wp_block ?_ | refine' wp_skip ?_ | refine' in_normal ?_)) | ((with_reducible refine' c_condT ?hx ?_); (case hx => rfl)) | ((with_reducible refine' l_step ?_); (first | ((first | (with_reducible refine' g_move ?_) | (with_reducible refine' g_assign ?_) | ((with_reducible refine' g_addN ?hx ?hy ?h0 ?h1 ?_); (case hx => rfl); (case hy => rfl); (case h0 => omega); (case h1 => omega))); (conv => arg 5; simp only [zA, zB, ev, lget, zC, zD, zE, zF, zG, zH, zI, zJ, zK, zL, zM, zN, zO])) | (((with_reducible refine' g_lss ?hx ?hy (fun _ => ?_) (fun _ => ?_)); (case hx => rfl)); (case hy => rfl); all_goals (first | (exfalso; omega) | (conv => arg 5; simp only [zA, zB, ev, lget, zC, zD, zE, zF, zG, zH, zI, zJ, zK, zL, zM, zN, zO]))) | ((with_reducible refine' g_build ?hl ?hp ?hs ?_); (case hl => rfl); (case hp => rfl); (case hs => rfl); (conv => arg 5; simp only [zA, zB, ev, lget, zC, zD, zE, zF, zG, zH, zI, zJ, zK, zL, zM, zN, zO, fillL, splice, List.getD_cons_zero, List.getD_cons_succ, Value.cells])))) | (((with_reducible refine' e_sliceLit ?hx ?hi ?hv ?hn ?_); (case hx => simp only [zC, zD, ev, lget]; (try rfl)); (case hi => rfl); (case hv => simp [Value.cells]); (case hn => decide); simp only [List.flatMap_cons, List.flatMap_nil, Value.cells, List.cons_append, List.nil_append]); intro _ _ _ _ _ _ _; (conv => arg 5; simp only [zA, zB, ev, lget, zC, zD, zE, zF, zG, zH, zI, zJ, zK, zL, zM, zN, zO])))
          rename_i gT wT q1 q2 hbT evT zT_
          have evTA : Evt (fun k => (Value.slice V' (x.n + j) d').ownBlock = some k) w3 wA := Evt.next heA (evT.mono fun _ _ h => h.elim) (fun _ _ h => h)
          have hoVT := own_evt evT hoV (fun _ _ h => h)
          have hK' := (hK.evt evT (fun _ _ h => h)).app hoVT hoA (by rw [List.take_left' rfl]) (by rw [List.length_append]; omega) heA haA
          refine ⟨_, _, rfl, (by omega : 16 - (j + 1) < 16 - j), by simp only [zA, zB], j + 1, VA, dA, rfl, by omega, rfl, rfl, ?_, hK', ?_, Evt.next evTA hev3 (fun k hk hh => by rcases hnw k hh with h1 | h1; exact h1; omega)⟩
          · rw [p7s_succ, ← List.append_assoc]
            exact hoA
          · intro k hk
            have hk' : (Value.slice VA (x.n + j + 1) dA).ownBlock = some k := hk
            rcases haA with h1 | ⟨h1, _⟩
            · rw [h1] at hk'
              exact hnw k hk'
            · rw [h1] at hk'
              have := Option.some.inj hk'
              exact .inr (by omega)
        · obtain rfl : j = 16 := by omega
          have hdone' : ∀ j (hj : j < ls.length), j < i → KB w3 50 ls[j].A ls[j].n ls[j].c ls[j].cs := fun j hj hji => (hdone j hj hji).evt hev3 (fun k h1 h2 => hdis j hj (by omega) k h1 h2)
          have htodo' : ∀ j (hj : j < ls.length), i + 1 ≤ j → w3.ownsRow 0 50 3 (lsV ls[j]) ls[j].n ls[j].cs := fun j hj hji => own_evt hev3 (htodo j hj (by omega)) (fun k h1 h2 => hdis j hj (by omega) k h1 h2)
          repeat' (first | (with_reducible (first | refine' wp_seq ?_ | refine' wp_region_lit ?_ | refine' wpList_nil ?_ | refine' then_normal ?_ | refine' wp_exit ?_ | refine' then_exit ?_ | refine' in_normal ?_ | refine' in_exit ?_)) | ((with_reducible refine' c_condF ?hx ?_); (case hx => rfl)) | ((with_reducible refine' l_step ?_); (first | ((first | (with_reducible refine' g_move ?_) | (with_reducible refine' g_assign ?_) | ((with_reducible refine' g_addN ?hx ?hy ?h0 ?h1 ?_); (case hx => rfl); (case hy => rfl); (case h0 => omega); (case h1 => omega)) | ((with_reducible refine' g_lenS ?hx ?_); (case hx => rfl))); (conv => arg 5; simp only [zA, zB, ev, lget, zC, zD, zE, zF, zG, zH, zI, zJ, zK, zL, zM, zN, zO])) | (((with_reducible refine' g_lss ?hx ?hy (fun _ => ?_) (fun _ => ?_)); (case hx => rfl)); (case hy => rfl); all_goals (first | (exfalso; omega) | (conv => arg 5; simp only [zA, zB, ev, lget, zC, zD, zE, zF, zG, zH, zI, zJ, zK, zL, zM, zN, zO]))))))
          refine ⟨_, _, rfl, (by omega : ls.length - (i + 1) < ls.length - i), by simp only [zA, zB], i + 1, T + ((x.n + 16 : Nat) : Int), rfl, by omega, rfl, rfl, by omega, fun j hj hji => ?_, htodo', Evt.next hev3 hev (fun k _ hh => ⟨x, hxm, hh⟩)⟩
          by_cases hji2 : j = i
          · subst hji2
            rw [hxi]
            exact hK
          · exact hdone' j hj (by omega)
    · have hi' : i = ls.length := by omega
      subst hi'
      have hall : ∀ m ∈ ls, KB w2 50 m.A m.n m.c m.cs := fun m hm => by
        obtain ⟨j, hj, rfl⟩ := List.mem_iff_getElem.1 hm
        exact hdone j hj hj
      clear hdone htodo
      repeat' (first | (with_reducible (first | refine' wp_seq ?_ | refine' wp_region_lit ?_ | refine' wpList_nil ?_ | refine' then_normal ?_ | refine' wp_block ?_ | refine' wp_exit ?_ | refine' then_exit ?_ | refine' in_exit ?_)) | ((with_reducible refine' c_condF ?hx ?_); (case hx => rfl)) | ((with_reducible refine' l_step ?_); (first | ((first | (with_reducible refine' g_move ?_) | (with_reducible refine' g_assign ?_) | ((with_reducible refine' g_lenS ?hx ?_); (case hx => rfl))); (conv => arg 5; simp only [zA, zB, ev, lget, zC, zD, zE, zF, zG, zH, zI, zJ, zK, zL, zM, zN, zO])) | (((with_reducible refine' g_lss ?hx ?hy (fun _ => ?_) (fun _ => ?_)); (case hx => rfl)); (case hy => rfl); all_goals (first | (exfalso; omega) | (conv => arg 5; simp only [zA, zB, ev, lget, zC, zD, zE, zF, zG, zH, zI, zJ, zK, zL, zM, zN, zO]))))))
      refine' s_loop [2, 7, 8, 31, 32, 33, 34, 35, 36, 37, 38, 39, 40, 41, 42, 43, 44, 45, 46, 47, 48, 49, 50, 51, 52, 53, 54] (fun n u w' => ∃ (i : Nat), n = ls.length - i ∧ i ≤ ls.length ∧ u 7 = .int .i64 i ∧ Evt (fun _ => False) w2 w') ls.length ?h2 ?round2
      case h2 => exact ⟨0, rfl, by omega, rfl, Evt.refl _ _⟩
      case round2 =>
        rintro n3 u3 w3 ⟨i, rfl, hi, h7, hev3⟩
        simp only [setW, List.foldl_cons, List.foldl_nil, List.set_cons_succ, List.set_cons_zero]
        simp only [h7]
        have hz3 := hev3.size
        by_cases hlt : i < ls.length
        · obtain ⟨b, o, rfl, hc⟩ := hr (by simpa [lsCs] using (by omega : 0 < ls.length))
          have hxm := List.getElem_mem hlt
          have hx0 := cell_evt hev3 (cell_evt hev (hc i (lsV ls[i]) (by simp [lsCs, hlt])) (fun ⟨m, hm, hh⟩ => hne b o rfl m hm hh)) (fun h => h)
          have hK := (hall _ hxm).evt hev3 (fun _ _ h => h)
          have hxo := hL.own _ hxm
          have hid := hL.ids _ hxm
          have hxl := hL.len _ hxm
          clear hc hall
          generalize ls[i] = x at *
          repeat' (first | (with_reducible (first | refine' wp_seq ?_ | refine' wp_region_lit ?_ | refine' wpList_nil ?_ | refine' then_normal ?_ | refine' wp_block ?_ | refine' wp_skip ?_)) | ((with_reducible refine' c_condT ?hx ?_); (case hx => rfl)) | ((with_reducible refine' l_step ?_); (first | ((first | (with_reducible refine' g_move ?_) | (with_reducible refine' g_assign ?_) | ((with_reducible refine' g_lenS ?hx ?_); (case hx => rfl))); (conv => arg 5; simp only [zA, zB, ev, lget, zC, zD, zE, zF, zG, zH, zI, zJ, zK, zL, zM, zN, zO])) | (((with_reducible refine' g_lss ?hx ?hy (fun _ => ?_) (fun _ => ?_)); (case hx => rfl)); (case hy => rfl); all_goals (first | (exfalso; omega) | (conv => arg 5; simp only [zA, zB, ev, lget, zC, zD, zE, zF, zG, zH, zI, zJ, zK, zL, zM, zN, zO]))))))
          refine' s_loop [2, 8, 37, 38, 39, 40, 41, 42, 43, 44, 45, 46, 47, 48, 49, 50, 51, 52, 53, 54] (fun n u w' => ∃ (j : Nat), n = x.n - j ∧ j ≤ x.n ∧ u 8 = .int .i64 j ∧ Evt (fun _ => False) w3 w') x.n ?h3 ?round3
          case h3 => exact ⟨0, rfl, by omega, rfl, Evt.refl _ _⟩
          case round3 =>
            rintro n4 u4 w4 ⟨j, rfl, hj, h8, hev4⟩
            simp only [setW, List.foldl_cons, List.foldl_nil, List.set_cons_succ, List.set_cons_zero]
            simp only [h8]
            have hz4 := hev4.size
            have hx1 := cell_evt hev4 hx0 (fun h => h)
            by_cases hlt2 : j < x.n
            · obtain ⟨g, hg⟩ : ∃ g, (Value.slice x.A x.n x.c).ownBlock = some g := by
                rcases own_blk_of hxo with ⟨_, h2⟩ | ⟨g', cap, cur, h1, _⟩
                · omega
                · exact ⟨g', by rw [show Value.slice x.A x.n x.c = lsV x from rfl, h1]; rfl⟩
              obtain ⟨cur, hA, hB, ht⟩ := (hK.evt hev4 (fun _ _ h => h)) g hg
              have hcj : w4.cell? ⟨g, j * 3 + 1, none⟩ = some (.int .i64 (-5)) := by
                rw [hB.cell?]
                have h1 := hid j hlt2
                rw [← ht, List.getElem?_take] at h1
                split at h1
                · exact h1
                · cases h1
              simp only [lsV, hA] at hx1
              clear hx0 hB
              repeat' (first | (with_reducible (first | refine' wp_seq ?_ | refine' wp_region_lit ?_ | refine' wpList_nil ?_ | refine' then_normal ?_ | refine' wp_block ?_ | refine' wp_skip ?_ | refine' in_normal ?_)) | ((with_reducible refine' c_condT ?hx ?_); (case hx => rfl)) | ((with_reducible refine' c_condF ?hx ?_); (case hx => rfl)) | ((with_reducible refine' l_step ?_); (first | ((first | (with_reducible refine' g_move ?_) | (with_reducible refine' g_assign ?_) | ((with_reducible refine' g_fieldAddr ?hx ?ho ?_); (case hx => rfl); (case ho => rfl)) | ((with_reducible refine' g_loadC ?hx ?hc ?_); (case hx => rfl); (case hc => exact cqq)) | ((with_reducible refine' g_addN ?hx ?hy ?h0 ?h1 ?_); (case hx => rfl); (case hy => rfl); (case h0 => omega); (case h1 => omega)) | ((with_reducible refine' g_lenS ?hx ?_); (case hx => rfl)) | ((with_reducible refine' g_indexAddr ?hx ?hy ?h0 ?h1 ?_); (case hx => rfl); (case hy => rfl); (case h0 => omega); (case h1 => omega))); (conv => arg 5; simp only [zA, zB, ev, lget, zC, zD, zE, zF, zG, zH, zI, zJ, zK, zL, zM, zN, zO])) | ((first | ((with_reducible refine' g_lss ?hx ?hy (fun _ => ?_) (fun _ => ?_)); (case hx => rfl)) | ((with_reducible refine' g_neq ?hx ?hy (fun _ => ?_) (fun _ => ?_)); (case hx => rfl))); (case hy => rfl); all_goals (first | (exfalso; omega) | (conv => arg 5; simp only [zA, zB, ev, lget, zC, zD, zE, zF, zG, zH, zI, zJ, zK, zL, zM, zN, zO]))))))
              exact ⟨_, _, rfl, (by omega : x.n - (j + 1) < x.n - j), by simp only [zA, zB], j + 1, rfl, by omega, rfl, hev4⟩
            · have hj' : j = x.n := by omega
              repeat' (first | (with_reducible (first | refine' wp_seq ?_ | refine' wp_region_lit ?_ | refine' wpList_nil ?_ | refine' then_normal ?_ | refine' wp_exit ?_ | refine' then_exit ?_ | refine' in_normal ?_ | refine' in_exit ?_)) | ((with_reducible refine' c_condF ?hx ?_); (case hx => rfl)) | ((with_reducible refine' l_step ?_); (first | ((first | (with_reducible refine' g_move ?_) | (with_reducible refine' g_assign ?_) | ((with_reducible refine' g_loadC ?hx ?hc ?_); (case hx => rfl); (case hc => exact cqq)) | ((with_reducible refine' g_addN ?hx ?hy ?h0 ?h1 ?_); (case hx => rfl); (case hy => rfl); (case h0 => omega); (case h1 => omega)) | ((with_reducible refine' g_lenS ?hx ?_); (case hx => rfl)) | ((with_reducible refine' g_indexAddr ?hx ?hy ?h0 ?h1 ?_); (case hx => rfl); (case hy => rfl); (case h0 => omega); (case h1 => omega))); (conv => arg 5; simp only [zA, zB, ev, lget, zC, zD, zE, zF, zG, zH, zI, zJ, zK, zL, zM, zN, zO])) | (((with_reducible refine' g_lss ?hx ?hy (fun _ => ?_) (fun _ => ?_)); (case hx => rfl)); (case hy => rfl); all_goals (first | (exfalso; omega) | (conv => arg 5; simp only [zA, zB, ev, lget, zC, zD, zE, zF, zG, zH, zI, zJ, zK, zL, zM, zN, zO]))))))
              exact ⟨_, _, rfl, (by omega : ls.length - (i + 1) < ls.length - i), by simp only [zA, zB], i + 1, rfl, by omega, rfl, Evt.next hev4 hev3 (fun _ _ h => h)⟩
        · have hi' : i = ls.length := by omega
          repeat' (first | (with_reducible (first | refine' wp_seq ?_ | refine' wp_region_lit ?_ | refine' wpList_nil ?_ | refine' then_normal ?_ | refine' wp_ret ?_ | refine' wp_exit ?_ | refine' then_exit ?_ | refine' in_exit ?_)) | ((with_reducible refine' c_condF ?hx ?_); (case hx => rfl)) | ((with_reducible refine' b_ret1 ?hr ?hv ?_); (case hr => rfl); (case hv => ((try simp only [ev, lget]); (try rfl)))) | ((with_reducible refine' l_step ?_); (first | ((first | (with_reducible refine' g_move ?_) | (with_reducible refine' g_assign ?_) | ((with_reducible refine' g_mulN ?hx ?hy ?h0 ?h1 ?_); (case hx => rfl); (case hy => rfl); (case h0 => omega); (case h1 => omega)) | ((with_reducible refine' g_lenS ?hx ?_); (case hx => rfl))); (conv => arg 5; simp only [zA, zB, ev, lget, zC, zD, zE, zF, zG, zH, zI, zJ, zK, zL, zM, zN, zO])) | ((first | ((with_reducible refine' g_lss ?hx ?hy (fun _ => ?_) (fun _ => ?_)); (case hx => rfl)) | ((with_reducible refine' g_geq ?hx ?hy (fun _ => ?_) (fun _ => ?_)); (case hx => rfl))); (case hy => rfl); all_goals (first | (exfalso; omega) | (conv => arg 5; simp only [zA, zB, ev, lget, zC, zD, zE, zF, zG, zH, zI, zJ, zK, zL, zM, zN, zO]))))))
          exact ⟨rfl, Evt.next (hev3.mono fun _ _ h => h.elim) hev (fun _ _ h => h)⟩
end Go.Proofs.Ytchfkkliechgoaa
