/- The book of answers in memory; is each as its holder left it? -/
import Derived.Test.YtmngcpackbekiaaNet16h
import Derived.Test.YtmngcpackbekiaaRef16e
namespace Go.Proofs.Ytmngcpackbekiaa
open Go.RowKit Go.Proofs.YtmngcpackbekiaaE
set_option linter.unusedSimpArgs false
set_option linter.unusedVariables false

structure Sl where
  A : Option Addr
  n : Nat
  c : Nat
@[reducible] def slV (s : Sl) : Value := .slice s.A s.n s.c
structure Bm where
  ids : List Sl
  longs : List Sl
  lists : List Sl
  bods : List Sl
  marks : List Int
@[reducible] def blankC (i : Int) : List Value := [.int .i64 i, .int .i64 0, .slice none 0 0]
structure BookV (w : World) (D : Nat → Prop) (gB : Nat) (B : Bm) (vI vL vA vB vM : Value) : Prop where
  blk : Blk w gB 73 [vI, vL, vA, vB, vM]
  rI : w.ownsRow 0 32 1 vI B.ids.length (B.ids.map slV)
  rL : w.ownsRow 0 32 1 vL B.longs.length (B.longs.map slV)
  rA : w.ownsRow 0 35 1 vA B.lists.length (B.lists.map slV)
  rB : w.ownsRow 0 22 1 vB B.bods.length (B.bods.map slV)
  rM : w.ownsRow 0 5 1 vM B.marks.length (u8s B.marks)
  lL : B.longs.length = B.ids.length
  lM : B.marks.length = B.bods.length
  dI : ∀ (i : Nat) (s : Sl), B.ids[i]? = some s → s.n ≤ 9223372036854775807 ∧ RG w D s.A (List.replicate s.n (.int .i64 (-7 - (i : Int))))
  dL : ∀ (i : Nat) (s : Sl), B.longs[i]? = some s → s.n ≤ 9223372036854775807 ∧ RG w D s.A (List.replicate s.n (.int .i64 (-7 - (i : Int))))
  dA : ∀ (i : Nat) (s : Sl), B.lists[i]? = some s → s.n ≤ 9223372036854775807 ∧ RG w D s.A ((List.replicate s.n (-7 - (i : Int))).flatMap blankC)
  dB : ∀ (i : Nat) (s : Sl) (m : Int), B.bods[i]? = some s → B.marks[i]? = some m → s.n ≤ 9223372036854775807 ∧ RG w D s.A (List.replicate s.n (.int .u8 m))
  apI : ∀ k, vI.ownBlock = some k → ¬ D k
  apL : ∀ k, vL.ownBlock = some k → ¬ D k
  apA : ∀ k, vA.ownBlock = some k → ¬ D k
  apB : ∀ k, vB.ownBlock = some k → ¬ D k
  apM : ∀ k, vM.ownBlock = some k → ¬ D k
  apg : ¬ D gB
  dis : ∀ k, vI.ownBlock = some k → ¬ vL.ownBlock = some k
  lt : ∀ k, D k → k < w.heap.size
  len : B.ids.length ≤ 100000000000 ∧ B.lists.length ≤ 100000000000 ∧ B.bods.length ≤ 5000000000000
theorem BookV.evt {S : Nat → Prop} {w w' : World} {D : Nat → Prop} {gB : Nat} {B : Bm} {vI vL vA vB vM : Value} (h : BookV w D gB B vI vL vA vB vM) (he : Evt S w w') (hg : ¬ S gB) (hD : ∀ k, D k → ¬ S k) (hI : ∀ k, vI.ownBlock = some k → ¬ S k) (hL : ∀ k, vL.ownBlock = some k → ¬ S k) (hA : ∀ k, vA.ownBlock = some k → ¬ S k) (hB : ∀ k, vB.ownBlock = some k → ¬ S k) (hM : ∀ k, vM.ownBlock = some k → ¬ S k) : BookV w' D gB B vI vL vA vB vM where
  blk := h.blk.evt he hg
  rI := own_evt he h.rI hI
  rL := own_evt he h.rL hL
  rA := own_evt he h.rA hA
  rB := own_evt he h.rB hB
  rM := own_evt he h.rM hM
  lL := h.lL
  lM := h.lM
  dI := fun i s hs => ⟨(h.dI i s hs).1, (h.dI i s hs).2.evt he (fun k _ hk => hD k hk) (fun _ h => h)⟩
  dL := fun i s hs => ⟨(h.dL i s hs).1, (h.dL i s hs).2.evt he (fun k _ hk => hD k hk) (fun _ h => h)⟩
  dA := fun i s hs => ⟨(h.dA i s hs).1, (h.dA i s hs).2.evt he (fun k _ hk => hD k hk) (fun _ h => h)⟩
  dB := fun i s m hs hm => ⟨(h.dB i s m hs hm).1, (h.dB i s m hs hm).2.evt he (fun k _ hk => hD k hk) (fun _ h => h)⟩
  apI := h.apI
  apL := h.apL
  apA := h.apA
  apB := h.apB
  apM := h.apM
  apg := h.apg
  dis := h.dis
  lt := fun k hk => Nat.lt_of_lt_of_le (h.lt k hk) he.size
  len := h.len
theorem BookV.up {w w' : World} {D : Nat → Prop} {gB : Nat} {B : Bm} {vI vL vA vB vM : Value} (h : BookV w D gB B vI vL vA vB vM) (he : Evt (fun _ => False) w w') : BookV w' D gB B vI vL vA vB vM :=
  h.evt he (fun h => h) (fun _ _ h => h) (fun _ _ h => h) (fun _ _ h => h) (fun _ _ h => h) (fun _ _ h => h) (fun _ _ h => h)
theorem RG.rep {w : World} {G : Nat → Prop} {A : Option Addr} {n : Nat} {v : Value} (h : RG w G A (List.replicate n v)) {i : Nat} (hi : i < n) : ∃ b o, A = some ⟨b, o, none⟩ ∧ w.cell? ⟨b, o + i, none⟩ = some v := by
  obtain ⟨b, o, hA, _, hc⟩ := h (by rw [List.length_replicate]; omega)
  exact ⟨b, o, hA, hc i v (by rw [List.getElem?_replicate, if_pos hi])⟩
theorem own_at {w : World} {e : TypeId} {n : Nat} {v : Value} {l : List Sl} (h : w.ownsRow 0 e 1 v n (l.map slV)) {i : Nat} (hn : l.length = n) (hi : i < n) : ∃ b cap, v = .slice (some ⟨b, 0, none⟩) n cap ∧ w.cell? ⟨b, i, none⟩ = some (slV (l[i]'(by omega))) := by
  obtain ⟨b, cap, hv, _, _, hc⟩ := own_form h hi
  have h1 := hc i _ (by rw [List.getElem?_map, List.getElem?_eq_getElem (by omega)]; rfl)
  rw [Nat.zero_add] at h1
  exact ⟨b, cap, hv, h1⟩
theorem nil_len {w : World} {e : TypeId} {n : Nat} {v : Value} {xs : List Value} (h : w.ownsRow 0 e 1 v n xs) : ∃ A c, v = .slice A n c := own_slice h
set_option maxRecDepth 20000 in
set_option maxHeartbeats 8000000 in
theorem kept_any (D : Nat → Prop) (gB : Nat) (B : Bm) (vI vL vA vB vM : Value) (w : World) (h : BookV w D gB B vI vL vA vB vM) :
    Calls Try.prog 32 #[.pointer (some ⟨gB, 0, none⟩)] w fun e w' => e = .returned (.bool true) ∧ Evt (fun _ => False) w w' := by
  have hblk := h.blk
  obtain ⟨AI, cI, rfl⟩ := own_slice h.rI
  obtain ⟨AL, cL, rfl⟩ := own_slice h.rL
  obtain ⟨AA, cA, rfl⟩ := own_slice h.rA
  obtain ⟨AB, cB, rfl⟩ := own_slice h.rB
  obtain ⟨AM, cM, rfl⟩ := own_slice h.rM
  obtain ⟨hl1, hl2, hl3⟩ := h.len
  have hlL := h.lL
  have hlM := h.lM
  go_enter Try.func32, Try.ntmps32
  repeat' (first | (with_reducible (first | refine' wp_seq ?_ | refine' wp_region_lit ?_ | refine' wpList_nil ?_ | refine' then_normal ?_ | refine' wp_block ?_)) | ((with_reducible refine' l_step ?_); ((with_reducible refine' g_assign ?_); (conv => arg 5; simp only [zA, zB, ev, lget, zC, zD, zE, zF, zG, zH, zI, zJ, zK, zL, zM, zN, zO]))))
  refine' s_loop [2, 3, 4, 9, 10, 11, 12, 13, 14, 15, 16, 17, 18, 19, 20, 21, 22, 23, 24, 25, 26, 27, 28, 29, 30, 31, 32, 33, 34, 35, 36, 37, 38, 39, 40, 41, 42, 43, 44, 45, 46, 47, 48, 49, 50, 51, 52, 53, 54, 55, 56, 57, 58, 59, 60, 61, 62, 63, 64, 65, 66, 67, 68, 69] (fun n u w' => ∃ i : Nat, n = B.ids.length - i ∧ i ≤ B.ids.length ∧ u 3 = .int .i64 i ∧ w' = w) B.ids.length ?h0 ?round
  case h0 => exact ⟨0, rfl, by omega, rfl, rfl⟩
  case round =>
    rintro n u w1 ⟨i, rfl, hi, h3, rfl⟩
    simp only [setW, List.foldl_cons, List.foldl_nil, List.set_cons_succ, List.set_cons_zero]
    simp only [h3]
    by_cases hlt : i < B.ids.length
    · obtain ⟨b1, k1, e1, hc1⟩ := own_at h.rI rfl hlt
      obtain ⟨b2, k2, e2, hc2⟩ := own_at h.rL rfl (by omega : i < B.longs.length)
      simp only [Value.slice.injEq] at e1 e2
      obtain ⟨rfl, _, rfl⟩ := e1
      obtain ⟨rfl, _, rfl⟩ := e2
      have hd1 := h.dI i _ (List.getElem?_eq_getElem hlt)
      have hd2 := h.dL i _ (List.getElem?_eq_getElem (by omega : i < B.longs.length))
      generalize B.ids[i] = s1 at *
      generalize B.longs[i]'(by omega) = s2 at *
      obtain ⟨A1, n1, c1⟩ := s1
      obtain ⟨A2, n2, c2⟩ := s2
      repeat' (first | (with_reducible (first | refine' wp_seq ?_ | refine' wp_region_lit ?_ | refine' wpList_nil ?_ | refine' then_normal ?_ | refine' wp_block ?_ | refine' wp_skip ?_)) | ((with_reducible refine' c_condT ?hx ?_); (case hx => rfl)) | ((with_reducible refine' l_step ?_); (first | ((first | (with_reducible refine' g_move ?_) | (with_reducible refine' g_assign ?_) | ((with_reducible refine' g_fieldAddr ?hx ?ho ?_); (case hx => rfl); (case ho => rfl)) | ((with_reducible refine' g_loadB ?hx ?hb ?hc ?_); (case hx => rfl); (case hb => exact bqq); first | (case hc => rfl) | (case hn => simp only [List.length_cons, List.length_nil]; omega)) | ((with_reducible refine' g_nilCheckP ?hx ?_); (case hx => rfl)) | ((with_reducible refine' g_lenS ?hx ?_); (case hx => rfl))); (conv => arg 5; simp only [zA, zB, ev, lget, zC, zD, zE, zF, zG, zH, zI, zJ, zK, zL, zM, zN, zO])) | (((with_reducible refine' g_lss ?hx ?hy (fun _ => ?_) (fun _ => ?_)); (case hx => rfl)); (case hy => rfl); all_goals (first | (exfalso; omega) | (conv => arg 5; simp only [zA, zB, ev, lget, zC, zD, zE, zF, zG, zH, zI, zJ, zK, zL, zM, zN, zO]))))))
      refine' s_loop [2, 4, 18, 19, 20, 21, 22, 23, 24, 25, 26, 27, 28, 29, 30, 31, 32, 33, 34, 35, 36, 37, 38, 39, 40, 41, 42, 43, 44, 45, 46, 47, 48, 49, 50, 51, 52, 53, 54, 55, 56, 57, 58, 59, 60, 61, 62, 63, 64, 65, 66, 67, 68, 69] (fun n u w' => ∃ k : Nat, n = n2 - k ∧ k ≤ n2 ∧ u 4 = .int .i64 k ∧ w' = w1) n2 ?h1 ?round1
      case h1 => exact ⟨0, rfl, by omega, rfl, rfl⟩
      case round1 =>
        rintro n u2 w2 ⟨k, rfl, hk, h4, rfl⟩
        simp only [setW, List.foldl_cons, List.foldl_nil, List.set_cons_succ, List.set_cons_zero]
        simp only [h4]
        have hn2 : n2 ≤ 9223372036854775807 := hd2.1
        have hn1 : n1 ≤ 9223372036854775807 := hd1.1
        by_cases hkl : k < n2
        · obtain ⟨b3, o3, hA3, hc3⟩ := RG.rep hd2.2 hkl
          have hA3' : A2 = some ⟨b3, o3, none⟩ := hA3
          subst hA3'
          by_cases hk1 : k < n1
          · obtain ⟨b4, o4, hA4, hc4⟩ := RG.rep hd1.2 hk1
            have hA4' : A1 = some ⟨b4, o4, none⟩ := hA4
            subst hA4'
            repeat' (first | (with_reducible (first | refine' wp_seq ?_ | refine' wp_region_lit ?_ | refine' wpList_nil ?_ | refine' then_normal ?_ | refine' wp_block ?_ | refine' wp_skip ?_ | refine' in_normal ?_)) | ((with_reducible refine' c_condT ?hx ?_); (case hx => rfl)) | ((with_reducible refine' c_condF ?hx ?_); (case hx => rfl)) | ((with_reducible refine' l_step ?_); (first | ((first | (with_reducible refine' g_move ?_) | (with_reducible refine' g_assign ?_) | ((with_reducible refine' g_fieldAddr ?hx ?ho ?_); (case hx => rfl); (case ho => rfl)) | ((with_reducible refine' g_loadB ?hx ?hb ?hc ?_); (case hx => rfl); (case hb => exact bqq); first | (case hc => rfl) | (case hn => simp only [List.length_cons, List.length_nil]; omega)) | ((with_reducible refine' g_loadC ?hx ?hc ?_); (case hx => rfl); (case hc => exact cqq)) | ((first | (with_reducible refine' g_addN ?hx ?hy ?h0 ?h1 ?_) | (with_reducible refine' g_subN ?hx ?hy ?h0 ?h1 ?_)); (case hx => rfl); (case hy => rfl); (case h0 => omega); (case h1 => omega)) | ((with_reducible refine' g_pickT ?hx ?_); (case hx => rfl)) | ((with_reducible refine' g_pickF ?hx ?_); (case hx => rfl)) | ((with_reducible refine' g_nilCheckP ?hx ?_); (case hx => rfl)) | ((with_reducible refine' g_lenS ?hx ?_); (case hx => rfl)) | ((with_reducible refine' g_indexAddr ?hx ?hy ?h0 ?h1 ?_); (case hx => rfl); (case hy => rfl); (case h0 => omega); (case h1 => omega))); (conv => arg 5; simp only [zA, zB, ev, lget, zC, zD, zE, zF, zG, zH, zI, zJ, zK, zL, zM, zN, zO])) | ((first | ((with_reducible refine' g_lss ?hx ?hy (fun _ => ?_) (fun _ => ?_)); (case hx => rfl)) | ((with_reducible refine' g_neq ?hx ?hy (fun _ => ?_) (fun _ => ?_)); (case hx => rfl))); (case hy => rfl); all_goals (first | (exfalso; omega) | (conv => arg 5; simp only [zA, zB, ev, lget, zC, zD, zE, zF, zG, zH, zI, zJ, zK, zL, zM, zN, zO]))))) | ((with_reducible refine' l_on ?hw ?_); (case hw => rfl)))
            all_goals exact ⟨_, _, rfl, (by omega : n2 - (k + 1) < n2 - k), by simp only [zA, zB], k + 1, rfl, by omega, rfl, rfl⟩
          · repeat' (first | (with_reducible (first | refine' wp_seq ?_ | refine' wp_region_lit ?_ | refine' wpList_nil ?_ | refine' then_normal ?_ | refine' wp_block ?_ | refine' wp_skip ?_ | refine' in_normal ?_)) | ((with_reducible refine' c_condT ?hx ?_); (case hx => rfl)) | ((with_reducible refine' c_condF ?hx ?_); (case hx => rfl)) | ((with_reducible refine' l_step ?_); (first | ((first | (with_reducible refine' g_move ?_) | (with_reducible refine' g_assign ?_) | ((with_reducible refine' g_fieldAddr ?hx ?ho ?_); (case hx => rfl); (case ho => rfl)) | ((with_reducible refine' g_loadB ?hx ?hb ?hc ?_); (case hx => rfl); (case hb => exact bqq); first | (case hc => rfl) | (case hn => simp only [List.length_cons, List.length_nil]; omega)) | ((with_reducible refine' g_loadC ?hx ?hc ?_); (case hx => rfl); (case hc => exact cqq)) | ((first | (with_reducible refine' g_addN ?hx ?hy ?h0 ?h1 ?_) | (with_reducible refine' g_subN ?hx ?hy ?h0 ?h1 ?_)); (case hx => rfl); (case hy => rfl); (case h0 => omega); (case h1 => omega)) | ((with_reducible refine' g_pickF ?hx ?_); (case hx => rfl)) | ((with_reducible refine' g_nilCheckP ?hx ?_); (case hx => rfl)) | ((with_reducible refine' g_lenS ?hx ?_); (case hx => rfl)) | ((with_reducible refine' g_indexAddr ?hx ?hy ?h0 ?h1 ?_); (case hx => rfl); (case hy => rfl); (case h0 => omega); (case h1 => omega))); (conv => arg 5; simp only [zA, zB, ev, lget, zC, zD, zE, zF, zG, zH, zI, zJ, zK, zL, zM, zN, zO])) | ((first | ((with_reducible refine' g_lss ?hx ?hy (fun _ => ?_) (fun _ => ?_)); (case hx => rfl)) | ((with_reducible refine' g_neq ?hx ?hy (fun _ => ?_) (fun _ => ?_)); (case hx => rfl))); (case hy => rfl); all_goals (first | (exfalso; omega) | (conv => arg 5; simp only [zA, zB, ev, lget, zC, zD, zE, zF, zG, zH, zI, zJ, zK, zL, zM, zN, zO]))))) | ((with_reducible refine' l_on ?hw ?_); (case hw => rfl)) | ((with_reducible refine' l_off ?hw ?_); (case hw => rfl); (conv => arg 5; simp only [zA, zB, ev, lget, zC, zD, zE, zF, zG, zH, zI, zJ, zK, zL, zM, zN, zO])))
            all_goals exact ⟨_, _, rfl, (by omega : n2 - (k + 1) < n2 - k), by simp only [zA, zB], k + 1, rfl, by omega, rfl, rfl⟩
        · obtain rfl : k = n2 := by omega
          repeat' (first | (with_reducible (first | refine' wp_seq ?_ | refine' wp_region_lit ?_ | refine' wpList_nil ?_ | refine' then_normal ?_ | refine' wp_exit ?_ | refine' then_exit ?_ | refine' in_normal ?_ | refine' in_exit ?_)) | ((with_reducible refine' c_condF ?hx ?_); (case hx => rfl)) | ((with_reducible refine' l_step ?_); (first | ((first | (with_reducible refine' g_move ?_) | (with_reducible refine' g_assign ?_) | ((with_reducible refine' g_fieldAddr ?hx ?ho ?_); (case hx => rfl); (case ho => rfl)) | ((with_reducible refine' g_loadB ?hx ?hb ?hc ?_); (case hx => rfl); (case hb => exact bqq); first | (case hc => rfl) | (case hn => simp only [List.length_cons, List.length_nil]; omega)) | ((with_reducible refine' g_loadC ?hx ?hc ?_); (case hx => rfl); (case hc => exact cqq)) | ((with_reducible refine' g_addN ?hx ?hy ?h0 ?h1 ?_); (case hx => rfl); (case hy => rfl); (case h0 => omega); (case h1 => omega)) | ((with_reducible refine' g_nilCheckP ?hx ?_); (case hx => rfl)) | ((with_reducible refine' g_lenS ?hx ?_); (case hx => rfl)) | ((with_reducible refine' g_indexAddr ?hx ?hy ?h0 ?h1 ?_); (case hx => rfl); (case hy => rfl); (case h0 => omega); (case h1 => omega))); (conv => arg 5; simp only [zA, zB, ev, lget, zC, zD, zE, zF, zG, zH, zI, zJ, zK, zL, zM, zN, zO])) | (((with_reducible refine' g_lss ?hx ?hy (fun _ => ?_) (fun _ => ?_)); (case hx => rfl)); (case hy => rfl); all_goals (first | (exfalso; omega) | (conv => arg 5; simp only [zA, zB, ev, lget, zC, zD, zE, zF, zG, zH, zI, zJ, zK, zL, zM, zN, zO]))))))
          all_goals exact ⟨_, _, rfl, (by omega : B.ids.length - (i + 1) < B.ids.length - i), by simp only [zA, zB], i + 1, rfl, by omega, rfl, rfl⟩
    · obtain rfl : i = B.ids.length := by omega
      repeat' (first | (with_reducible refine' stop_reg (id := 9) ?_) | (with_reducible (first | refine' wp_seq ?_ | refine' wp_region_lit ?_ | refine' wpList_nil ?_ | refine' then_normal ?_ | refine' wp_exit ?_ | refine' then_exit ?_ | refine' in_exit ?_)) | ((with_reducible refine' c_condF ?hx ?_); (case hx => rfl)) | ((with_reducible refine' l_step ?_); (first | ((first | (with_reducible refine' g_move ?_) | ((with_reducible refine' g_fieldAddr ?hx ?ho ?_); (case hx => rfl); (case ho => rfl)) | ((with_reducible refine' g_loadB ?hx ?hb ?hc ?_); (case hx => rfl); (case hb => exact bqq); first | (case hc => rfl) | (case hn => simp only [List.length_cons, List.length_nil]; omega)) | ((with_reducible refine' g_nilCheckP ?hx ?_); (case hx => rfl)) | ((with_reducible refine' g_lenS ?hx ?_); (case hx => rfl))); (conv => arg 5; simp only [zA, zB, ev, lget, zC, zD, zE, zF, zG, zH, zI, zJ, zK, zL, zM, zN, zO])) | (((with_reducible refine' g_lss ?hx ?hy (fun _ => ?_) (fun _ => ?_)); (case hx => rfl)); (case hy => rfl); all_goals (first | (exfalso; omega) | (conv => arg 5; simp only [zA, zB, ev, lget, zC, zD, zE, zF, zG, zH, zI, zJ, zK, zL, zM, zN, zO]))))))
      refine stop_go ?_
      clear hlL hl1
      repeat' (first | (with_reducible (first | refine' wp_region_lit ?_ | refine' wpList_nil ?_ | refine' then_normal ?_ | refine' wp_block ?_)) | ((with_reducible refine' l_step ?_); ((with_reducible refine' g_assign ?_); (conv => arg 5; simp only [zA, zB, ev, lget, zC, zD, zE, zF, zG, zH, zI, zJ, zK, zL, zM, zN, zO]))))
      refine' s_loop [2, 5, 6, 70, 71, 72, 73, 74, 75, 76, 77, 78, 79, 80, 81, 82, 83, 84, 85, 86, 87, 88, 89, 90, 91, 92, 93, 94, 95, 96, 97, 98, 99, 100, 101, 102, 103, 104, 105, 106, 107, 108, 109, 110, 111, 112, 113, 114, 115, 116, 117, 118, 119, 120, 121, 122, 123, 124, 125, 126, 127, 128, 129, 130, 131, 132, 133] (fun n u w' => ∃ i : Nat, n = B.lists.length - i ∧ i ≤ B.lists.length ∧ u 5 = .int .i64 i ∧ w' = w1) B.lists.length ?h2 ?round2
      case h2 => exact ⟨0, rfl, by omega, rfl, rfl⟩
      case round2 =>
        rintro n u3 w3 ⟨i, rfl, hi3, h5, rfl⟩
        simp only [setW, List.foldl_cons, List.foldl_nil, List.set_cons_succ, List.set_cons_zero]
        simp only [h5]
        by_cases hlt3 : i < B.lists.length
        · obtain ⟨b1, k1, e1, hc1⟩ := own_at h.rA rfl hlt3
          simp only [Value.slice.injEq] at e1
          obtain ⟨rfl, _, rfl⟩ := e1
          have hd1 := h.dA i _ (List.getElem?_eq_getElem hlt3)
          generalize B.lists[i] = s1 at *
          obtain ⟨A1, n1, c1⟩ := s1
          repeat' (first | (with_reducible (first | refine' wp_seq ?_ | refine' wp_region_lit ?_ | refine' wpList_nil ?_ | refine' then_normal ?_ | refine' wp_block ?_ | refine' wp_skip ?_)) | ((with_reducible refine' c_condT ?hx ?_); (case hx => rfl)) | ((with_reducible refine' l_step ?_); (first | ((first | (with_reducible refine' g_move ?_) | (with_reducible refine' g_assign ?_) | ((with_reducible refine' g_fieldAddr ?hx ?ho ?_); (case hx => rfl); (case ho => rfl)) | ((with_reducible refine' g_loadB ?hx ?hb ?hc ?_); (case hx => rfl); (case hb => exact bqq); first | (case hc => rfl) | (case hn => simp only [List.length_cons, List.length_nil]; omega)) | ((with_reducible refine' g_nilCheckP ?hx ?_); (case hx => rfl)) | ((with_reducible refine' g_lenS ?hx ?_); (case hx => rfl))); (conv => arg 5; simp only [zA, zB, ev, lget, zC, zD, zE, zF, zG, zH, zI, zJ, zK, zL, zM, zN, zO])) | (((with_reducible refine' g_lss ?hx ?hy (fun _ => ?_) (fun _ => ?_)); (case hx => rfl)); (case hy => rfl); all_goals (first | (exfalso; omega) | (conv => arg 5; simp only [zA, zB, ev, lget, zC, zD, zE, zF, zG, zH, zI, zJ, zK, zL, zM, zN, zO]))))))
          refine' s_loop [2, 6, 79, 80, 81, 82, 83, 84, 85, 86, 87, 88, 89, 90, 91, 92, 93, 94, 95, 96, 97, 98, 99, 100, 101, 102, 103, 104, 105, 106, 107, 108, 109, 110, 111, 112, 113, 114, 115, 116, 117, 118, 119, 120, 121, 122, 123, 124, 125, 126, 127, 128, 129, 130, 131, 132, 133] (fun n u w' => ∃ k : Nat, n = n1 - k ∧ k ≤ n1 ∧ u 6 = .int .i64 k ∧ w' = w3) n1 ?h3 ?round3
          case h3 => exact ⟨0, rfl, by omega, rfl, rfl⟩
          case round3 =>
            rintro n u4 w4 ⟨k, rfl, hk, h6, rfl⟩
            simp only [setW, List.foldl_cons, List.foldl_nil, List.set_cons_succ, List.set_cons_zero]
            simp only [h6]
            have hn1 : n1 ≤ 9223372036854775807 := hd1.1
            by_cases hkl : k < n1
            · obtain ⟨b3, o3, hA3, hcE⟩ := RG.at_ (f := blankC) (sz := 3) (fun _ => rfl) hd1.2 (by omega) (i := k) (by rw [List.length_replicate]; exact hkl)
              have hA3' : A1 = some ⟨b3, o3, none⟩ := hA3
              subst hA3'
              rw [List.getElem_replicate] at hcE
              have hcellE := hcE
              clear hcE
              repeat' (first | (with_reducible (first | refine' wp_seq ?_ | refine' wp_region_lit ?_ | refine' wpList_nil ?_ | refine' then_normal ?_ | refine' wp_block ?_ | refine' wp_skip ?_ | refine' in_normal ?_)) | ((with_reducible refine' c_condT ?hx ?_); (case hx => rfl)) | ((with_reducible refine' c_condF ?hx ?_); (case hx => rfl)) | ((with_reducible refine' l_step ?_); (first | ((first | (with_reducible refine' g_move ?_) | (with_reducible refine' g_assign ?_) | ((with_reducible refine' g_fieldAddr ?hx ?ho ?_); (case hx => rfl); (case ho => rfl)) | ((with_reducible refine' g_loadB ?hx ?hb ?hc ?_); (case hx => rfl); (case hb => exact bqq); first | (case hc => rfl) | (case hn => simp only [List.length_cons, List.length_nil]; omega)) | ((with_reducible refine' g_loadC ?hx ?hc ?_); (case hx => rfl); (case hc => exact cqq)) | ((with_reducible refine' g_loadC ?hx ?hc ?_); (case hx => rfl); (case hc => first | exact hcellE _ (by exact eqq) 0 _ rfl | exact hcellE _ (by exact eqq) _ _ rfl | exact hcellF _ (by exact eqq) 0 _ rfl | exact hcellF _ (by exact eqq) _ _ rfl)) | ((first | (with_reducible refine' g_addN ?hx ?hy ?h0 ?h1 ?_) | (with_reducible refine' g_subN ?hx ?hy ?h0 ?h1 ?_)); (case hx => rfl); (case hy => rfl); (case h0 => omega); (case h1 => omega)) | ((with_reducible refine' g_pickF ?hx ?_); (case hx => rfl)) | ((with_reducible refine' g_nilCheckP ?hx ?_); (case hx => rfl)) | ((with_reducible refine' g_lenS ?hx ?_); (case hx => rfl)) | ((with_reducible refine' g_indexAddr ?hx ?hy ?h0 ?h1 ?_); (case hx => rfl); (case hy => rfl); (case h0 => omega); (case h1 => omega))); (conv => arg 5; simp only [zA, zB, ev, lget, zC, zD, zE, zF, zG, zH, zI, zJ, zK, zL, zM, zN, zO])) | ((first | ((with_reducible refine' g_lss ?hx ?hy (fun _ => ?_) (fun _ => ?_)); (case hx => rfl)) | ((with_reducible refine' g_neq ?hx ?hy (fun _ => ?_) (fun _ => ?_)); (case hx => rfl))); (case hy => rfl); all_goals (first | (exfalso; omega) | (conv => arg 5; simp only [zA, zB, ev, lget, zC, zD, zE, zF, zG, zH, zI, zJ, zK, zL, zM, zN, zO]))))) | ((with_reducible refine' l_on ?hw ?_); (case hw => rfl)))
              all_goals exact ⟨_, _, rfl, (by omega : n1 - (k + 1) < n1 - k), by simp only [zA, zB], k + 1, rfl, by omega, rfl, rfl⟩
            · obtain rfl : k = n1 := by omega
              repeat' (first | (with_reducible (first | refine' wp_seq ?_ | refine' wp_region_lit ?_ | refine' wpList_nil ?_ | refine' then_normal ?_ | refine' wp_exit ?_ | refine' then_exit ?_ | refine' in_normal ?_ | refine' in_exit ?_)) | ((with_reducible refine' c_condF ?hx ?_); (case hx => rfl)) | ((with_reducible refine' l_step ?_); (first | ((first | (with_reducible refine' g_move ?_) | (with_reducible refine' g_assign ?_) | ((with_reducible refine' g_fieldAddr ?hx ?ho ?_); (case hx => rfl); (case ho => rfl)) | ((with_reducible refine' g_loadB ?hx ?hb ?hc ?_); (case hx => rfl); (case hb => exact bqq); first | (case hc => rfl) | (case hn => simp only [List.length_cons, List.length_nil]; omega)) | ((with_reducible refine' g_loadC ?hx ?hc ?_); (case hx => rfl); (case hc => exact cqq)) | ((with_reducible refine' g_addN ?hx ?hy ?h0 ?h1 ?_); (case hx => rfl); (case hy => rfl); (case h0 => omega); (case h1 => omega)) | ((with_reducible refine' g_nilCheckP ?hx ?_); (case hx => rfl)) | ((with_reducible refine' g_lenS ?hx ?_); (case hx => rfl)) | ((with_reducible refine' g_indexAddr ?hx ?hy ?h0 ?h1 ?_); (case hx => rfl); (case hy => rfl); (case h0 => omega); (case h1 => omega))); (conv => arg 5; simp only [zA, zB, ev, lget, zC, zD, zE, zF, zG, zH, zI, zJ, zK, zL, zM, zN, zO])) | (((with_reducible refine' g_lss ?hx ?hy (fun _ => ?_) (fun _ => ?_)); (case hx => rfl)); (case hy => rfl); all_goals (first | (exfalso; omega) | (conv => arg 5; simp only [zA, zB, ev, lget, zC, zD, zE, zF, zG, zH, zI, zJ, zK, zL, zM, zN, zO]))))))
              all_goals exact ⟨_, _, rfl, (by omega : B.lists.length - (i + 1) < B.lists.length - i), by simp only [zA, zB], i + 1, rfl, by omega, rfl, rfl⟩
        · obtain rfl : i = B.lists.length := by omega
          repeat' (first | (with_reducible refine' stop_reg (id := 17) ?_) | (with_reducible (first | refine' wp_seq ?_ | refine' wp_region_lit ?_ | refine' wpList_nil ?_ | refine' then_normal ?_ | refine' wp_exit ?_ | refine' then_exit ?_ | refine' in_exit ?_)) | ((with_reducible refine' c_condF ?hx ?_); (case hx => rfl)) | ((with_reducible refine' l_step ?_); (first | ((first | (with_reducible refine' g_move ?_) | ((with_reducible refine' g_fieldAddr ?hx ?ho ?_); (case hx => rfl); (case ho => rfl)) | ((with_reducible refine' g_loadB ?hx ?hb ?hc ?_); (case hx => rfl); (case hb => exact bqq); first | (case hc => rfl) | (case hn => simp only [List.length_cons, List.length_nil]; omega)) | ((with_reducible refine' g_nilCheckP ?hx ?_); (case hx => rfl)) | ((with_reducible refine' g_lenS ?hx ?_); (case hx => rfl))); (conv => arg 5; simp only [zA, zB, ev, lget, zC, zD, zE, zF, zG, zH, zI, zJ, zK, zL, zM, zN, zO])) | (((with_reducible refine' g_lss ?hx ?hy (fun _ => ?_) (fun _ => ?_)); (case hx => rfl)); (case hy => rfl); all_goals (first | (exfalso; omega) | (conv => arg 5; simp only [zA, zB, ev, lget, zC, zD, zE, zF, zG, zH, zI, zJ, zK, zL, zM, zN, zO]))))))
          refine stop_go ?_
          repeat' (first | (with_reducible (first | refine' wp_region_lit ?_ | refine' wpList_nil ?_ | refine' then_normal ?_ | refine' wp_block ?_)) | ((with_reducible refine' l_step ?_); ((with_reducible refine' g_assign ?_); (conv => arg 5; simp only [zA, zB, ev, lget, zC, zD, zE, zF, zG, zH, zI, zJ, zK, zL, zM, zN, zO]))))
          refine' s_loop [2, 7, 8, 134, 135, 136, 137, 138, 139, 140, 141, 142, 143, 144, 145, 146, 147, 148, 149, 150, 151, 152, 153, 154, 155, 156, 157, 158, 159, 160, 161, 162, 163, 164, 165, 166, 167, 168, 169, 170, 171, 172] (fun n u w' => ∃ i : Nat, n = B.bods.length - i ∧ i ≤ B.bods.length ∧ u 7 = .int .i64 i ∧ Evt (fun _ => False) w3 w') B.bods.length ?h4 ?round4
          case h4 => exact ⟨0, rfl, by omega, rfl, Evt.refl _ _⟩
          case round4 =>
            rintro n u5 w5 ⟨i, rfl, hi5, h7, ev5⟩
            simp only [setW, List.foldl_cons, List.foldl_nil, List.set_cons_succ, List.set_cons_zero]
            simp only [h7]
            have h5 := h.up ev5
            have hblk5 := h5.blk
            by_cases hlt5 : i < B.bods.length
            · obtain ⟨b1, k1, e1, hc1⟩ := own_at h5.rB rfl hlt5
              obtain ⟨b2, k2, e2, _, _, hc2⟩ := own_form h5.rM (by omega : i < B.marks.length)
              simp only [Value.slice.injEq] at e1 e2
              obtain ⟨rfl, _, rfl⟩ := e1
              obtain ⟨rfl, _, rfl⟩ := e2
              have hc2' := hc2 i (.int .u8 (B.marks[i]'(by omega))) (by rw [u8s, List.getElem?_map, List.getElem?_eq_getElem (by omega)]; rfl)
              rw [Nat.zero_add] at hc2'
              have hd1 := h5.dB i _ _ (List.getElem?_eq_getElem hlt5) (List.getElem?_eq_getElem (by omega : i < B.marks.length))
              clear hc2
              generalize B.bods[i] = s1 at *
              generalize B.marks[i]'(by omega) = mk at *
              obtain ⟨A1, n1, c1⟩ := s1
              repeat' (first | (with_reducible (first | refine' wp_seq ?_ | refine' wp_region_lit ?_ | refine' wpList_nil ?_ | refine' then_normal ?_ | refine' wp_block ?_ | refine' wp_skip ?_)) | ((with_reducible refine' c_condT ?hx ?_); (case hx => rfl)) | ((with_reducible refine' l_step ?_); (first | ((first | (with_reducible refine' g_move ?_) | (with_reducible refine' g_assign ?_) | ((with_reducible refine' g_fieldAddr ?hx ?ho ?_); (case hx => rfl); (case ho => rfl)) | ((with_reducible refine' g_loadB ?hx ?hb ?hc ?_); (case hx => rfl); (case hb => exact bqq); first | (case hc => rfl) | (case hn => simp only [List.length_cons, List.length_nil]; omega)) | ((with_reducible refine' g_nilCheckP ?hx ?_); (case hx => rfl)) | ((with_reducible refine' g_lenS ?hx ?_); (case hx => rfl))); (conv => arg 5; simp only [zA, zB, ev, lget, zC, zD, zE, zF, zG, zH, zI, zJ, zK, zL, zM, zN, zO])) | (((with_reducible refine' g_lss ?hx ?hy (fun _ => ?_) (fun _ => ?_)); (case hx => rfl)); (case hy => rfl); all_goals (first | (exfalso; omega) | (conv => arg 5; simp only [zA, zB, ev, lget, zC, zD, zE, zF, zG, zH, zI, zJ, zK, zL, zM, zN, zO]))))))
              refine' s_loop [2, 8, 143, 144, 145, 146, 147, 148, 149, 150, 151, 152, 153, 154, 155, 156, 157, 158, 159, 160, 161, 162, 163, 164, 165, 166, 167, 168, 169, 170, 171, 172] (fun n u w' => ∃ k : Nat, n = n1 - k ∧ k ≤ n1 ∧ u 8 = .int .i64 k ∧ Evt (fun _ => False) w5 w') n1 ?h6 ?round6
              case h6 => exact ⟨0, rfl, by omega, rfl, Evt.refl _ _⟩
              case round6 =>
                rintro n u6 w6 ⟨k, rfl, hk, h8, ev6⟩
                have hblk6 := hblk5.evt ev6 (fun h => h)
                have hc6 := cell_evt ev6 hc1 (fun h => h)
                have hc6' := cell_evt ev6 hc2' (fun h => h)
                simp only [setW, List.foldl_cons, List.foldl_nil, List.set_cons_succ, List.set_cons_zero]
                simp only [h8]
                have hn1 : n1 ≤ 9223372036854775807 := hd1.1
                by_cases hkl : k < n1
                · obtain ⟨b3, o3, hA3, hc3⟩ := RG.rep (hd1.2.up ev6) hkl
                  have hA3' : A1 = some ⟨b3, o3, none⟩ := hA3
                  subst hA3'
                  repeat' (first | (with_reducible (first | refine' wp_seq ?_ | refine' wp_region_lit ?_ | refine' wpList_nil ?_ | refine' then_normal ?_ | refine' wp_block ?_ | refine' wp_skip ?_ | refine' in_normal ?_)) | ((with_reducible refine' c_condT ?hx ?_); (case hx => rfl)) | ((with_reducible refine' c_condF ?hx ?_); (case hx => rfl)) | ((with_reducible refine' l_step ?_); (first | ((first | (with_reducible refine' g_move ?_) | (with_reducible refine' g_assign ?_) | ((with_reducible refine' g_fieldAddr ?hx ?ho ?_); (case hx => rfl); (case ho => rfl)) | ((with_reducible refine' g_loadB ?hx ?hb ?hc ?_); (case hx => rfl); (case hb => exact bqq); first | (case hc => rfl) | (case hn => simp only [List.length_cons, List.length_nil]; omega)) | ((with_reducible refine' g_loadC ?hx ?hc ?_); (case hx => rfl); (case hc => exact cqq)) | ((with_reducible refine' g_addN ?hx ?hy ?h0 ?h1 ?_); (case hx => rfl); (case hy => rfl); (case h0 => omega); (case h1 => omega)) | ((with_reducible refine' g_nilCheckP ?hx ?_); (case hx => rfl)) | ((with_reducible refine' g_lenS ?hx ?_); (case hx => rfl)) | ((with_reducible refine' g_indexAddr ?hx ?hy ?h0 ?h1 ?_); (case hx => rfl); (case hy => rfl); (case h0 => omega); (case h1 => omega))); (conv => arg 5; simp only [zA, zB, ev, lget, zC, zD, zE, zF, zG, zH, zI, zJ, zK, zL, zM, zN, zO])) | (((with_reducible refine' g_lss ?hx ?hy (fun _ => ?_) (fun _ => ?_)); (case hx => rfl)); (case hy => rfl); all_goals (first | (exfalso; omega) | (conv => arg 5; simp only [zA, zB, ev, lget, zC, zD, zE, zF, zG, zH, zI, zJ, zK, zL, zM, zN, zO]))))) | ((with_reducible refine' w_quiet (id := 23) ?hm ?hB ?_); (case hm => kernel_rfl); (case hB => kernel_rfl)) | ((with_reducible refine' q_nil ?_); intro _ _ _) | ((with_reducible refine' q_step ?_); (first | ((first | (with_reducible refine' g_move ?_) | ((with_reducible refine' g_fieldAddr ?hx ?ho ?_); (case hx => rfl); (case ho => rfl)) | ((with_reducible refine' g_loadB ?hx ?hb ?hc ?_); (case hx => rfl); (case hb => exact bqq); first | (case hc => rfl) | (case hn => simp only [List.length_cons, List.length_nil]; omega)) | ((with_reducible refine' g_loadC ?hx ?hc ?_); (case hx => rfl); (case hc => exact cqq)) | ((with_reducible refine' g_nilCheckP ?hx ?_); (case hx => rfl)) | ((with_reducible refine' g_indexAddr ?hx ?hy ?h0 ?h1 ?_); (case hx => rfl); (case hy => rfl); (case h0 => omega); (case h1 => omega))); (conv => arg 6; simp only [zA, zB, ev, lget, zC, zD, zE, zF, zG, zH, zI, zJ, zK, zL, zM, zN, zO])) | (((with_reducible refine' g_neq ?hx ?hy (fun _ => ?_) (fun _ => ?_)); (case hx => rfl)); (case hy => rfl); all_goals (first | (exfalso; omega) | (conv => arg 6; simp only [zA, zB, ev, lget, zC, zD, zE, zF, zG, zH, zI, zJ, zK, zL, zM, zN, zO]))))))
                  all_goals exact ⟨_, _, rfl, (by omega : n1 - (k + 1) < n1 - k), by simp only [zA, zB], k + 1, rfl, by omega, rfl, Evt.next (by exact eqq : Evt (fun _ => False) w6 _) ev6 (fun _ _ h => h)⟩
                · obtain rfl : k = n1 := by omega
                  repeat' (first | (with_reducible (first | refine' wp_seq ?_ | refine' wp_region_lit ?_ | refine' wpList_nil ?_ | refine' then_normal ?_ | refine' wp_exit ?_ | refine' then_exit ?_ | refine' in_normal ?_ | refine' in_exit ?_)) | ((with_reducible refine' c_condF ?hx ?_); (case hx => rfl)) | ((with_reducible refine' l_step ?_); (first | ((first | (with_reducible refine' g_move ?_) | (with_reducible refine' g_assign ?_) | ((with_reducible refine' g_fieldAddr ?hx ?ho ?_); (case hx => rfl); (case ho => rfl)) | ((with_reducible refine' g_loadB ?hx ?hb ?hc ?_); (case hx => rfl); (case hb => exact bqq); first | (case hc => rfl) | (case hn => simp only [List.length_cons, List.length_nil]; omega)) | ((with_reducible refine' g_loadC ?hx ?hc ?_); (case hx => rfl); (case hc => exact cqq)) | ((with_reducible refine' g_addN ?hx ?hy ?h0 ?h1 ?_); (case hx => rfl); (case hy => rfl); (case h0 => omega); (case h1 => omega)) | ((with_reducible refine' g_nilCheckP ?hx ?_); (case hx => rfl)) | ((with_reducible refine' g_lenS ?hx ?_); (case hx => rfl)) | ((with_reducible refine' g_indexAddr ?hx ?hy ?h0 ?h1 ?_); (case hx => rfl); (case hy => rfl); (case h0 => omega); (case h1 => omega))); (conv => arg 5; simp only [zA, zB, ev, lget, zC, zD, zE, zF, zG, zH, zI, zJ, zK, zL, zM, zN, zO])) | (((with_reducible refine' g_lss ?hx ?hy (fun _ => ?_) (fun _ => ?_)); (case hx => rfl)); (case hy => rfl); all_goals (first | (exfalso; omega) | (conv => arg 5; simp only [zA, zB, ev, lget, zC, zD, zE, zF, zG, zH, zI, zJ, zK, zL, zM, zN, zO]))))))
                  all_goals exact ⟨_, _, rfl, (by omega : B.bods.length - (i + 1) < B.bods.length - i), by simp only [zA, zB], i + 1, rfl, by omega, rfl, Evt.next ev6 ev5 (fun _ _ h => h)⟩
            · obtain rfl : i = B.bods.length := by omega
              repeat' (first | (with_reducible (first | refine' wp_seq ?_ | refine' wp_region_lit ?_ | refine' wpList_nil ?_ | refine' then_normal ?_ | refine' wp_ret ?_ | refine' wp_exit ?_ | refine' then_exit ?_ | refine' in_exit ?_)) | ((with_reducible refine' c_condF ?hx ?_); (case hx => rfl)) | ((with_reducible refine' b_ret1 ?hr ?hv ?_); (case hr => rfl); (case hv => ((try simp only [ev, lget]); (try rfl)))) | ((with_reducible refine' l_step ?_); (first | ((first | (with_reducible refine' g_move ?_) | (with_reducible refine' g_assign ?_) | ((with_reducible refine' g_fieldAddr ?hx ?ho ?_); (case hx => rfl); (case ho => rfl)) | ((with_reducible refine' g_loadB ?hx ?hb ?hc ?_); (case hx => rfl); (case hb => exact bqq); first | (case hc => rfl) | (case hn => simp only [List.length_cons, List.length_nil]; omega)) | ((with_reducible refine' g_nilCheckP ?hx ?_); (case hx => rfl)) | ((with_reducible refine' g_lenS ?hx ?_); (case hx => rfl))); (conv => arg 5; simp only [zA, zB, ev, lget, zC, zD, zE, zF, zG, zH, zI, zJ, zK, zL, zM, zN, zO])) | (((with_reducible refine' g_lss ?hx ?hy (fun _ => ?_) (fun _ => ?_)); (case hx => rfl)); (case hy => rfl); all_goals (first | (exfalso; omega) | (conv => arg 5; simp only [zA, zB, ev, lget, zC, zD, zE, zF, zG, zH, zI, zJ, zK, zL, zM, zN, zO]))))))
              exact ⟨rfl, ev5⟩
end Go.Proofs.Ytmngcpackbekiaa
