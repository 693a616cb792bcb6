/- CollectExact. SHORT NORMX -/
import Derived.Test.YthfnlmedelfbnaaDoorRan13
import Derived.Test.YthfnlmedelfbnaaDoorNam13
import Derived.Test.YthfnlmedelfbnaaDoorEv13
import Derived.Test.YthfnlmedelfbnaaDoorRows
namespace Go.Proofs.YthfnlmedelfbnaaDoor
open Go.ChangeShapes Go.WideShapes Go.ChangeAt Go.RowKit Go.Deep Go.Proofs.YthfnlmedelfbnaaDoorE
set_option linter.unusedSimpArgs false
set_option linter.unusedVariables false

theorem rg_all {w : World} {A : Option Addr} {xs : List Int} (h : RI w A xs) : RG w (fun j => j < w.heap.size) A (ints xs) := fun hn => by
  obtain ⟨b, o, hA, hc⟩ := h.2 (by rw [ints_length] at hn; exact hn)
  have hc' : ∀ j v, (ints xs)[j]? = some v → w.cell? ⟨b, o + j, none⟩ = some v := fun j v hj => by
    rw [ints, List.getElem?_map] at hj
    obtain ⟨x, hx, rfl⟩ := Option.map_eq_some_iff.1 hj
    exact hc j x hx
  refine ⟨b, o, hA, ?_, hc'⟩
  have h0 : 0 < xs.length := by rw [ints_length] at hn; exact hn
  have h1 := World.block_lt_of_cell? w _ (hc 0 _ (List.getElem?_eq_getElem h0))
  exact h1
theorem begun_any (w : World) : Calls Tryd.prog 4 #[] w fun e w' => e = .returned (.tuple #[.agg (pairC freshC freshC).toArray, .bool true]) ∧ Evt (fun _ => False) w w' := by
  go_enter Tryd.func4, Tryd.ntmps4
  repeat' (first | (with_reducible refine' stop_reg (id := 2) ?_) | (go_at_call 13; refine (fresh_any _).mono ?_; rintro e wf ⟨rfl, hevf⟩; have hzf := hevf.size; refine ⟨_, rfl, ?_⟩; (conv => arg 5; simp only [zA, zB, ev, lget, zC, zD, zE, zF, zG, zH, zI, zJ, zK, zL, zM, zN])) | (go_at_call 14; refine (fresh_r _).mono ?_; rintro e wg ⟨rfl, hevg⟩; have hzg := hevg.size; refine ⟨_, rfl, ?_⟩; (conv => arg 5; simp only [zA, zB, ev, lget, zC, zD, zE, zF, zG, zH, zI, zJ, zK, zL, zM, zN])) | (with_reducible (first | refine' wp_seq ?_ | refine' wp_region_lit ?_ | refine' wpList_nil ?_ | refine' then_normal ?_)) | ((with_reducible refine' l_step ?_); (first | ((with_reducible refine' g_assign ?_); (conv => arg 5; simp only [zA, zB, ev, lget, zC, zD, zE, zF, zG, zH, zI, zJ, zK, zL, zM, zN])) | ((with_reducible refine' g_build ?hl ?hp ?hs ?_); (case hl => rfl); (case hp => rfl); (case hs => rfl); (conv => arg 5; simp only [zA, zB, ev, lget, zC, zD, zE, zF, zG, zH, zI, zJ, zK, zL, zM, zN, fillL, splice, List.getD_cons_zero, List.getD_cons_succ, Value.cells])))) | (((with_reducible refine' e_alloc ?hx ?_); (case hx => rfl)); intro _ _ _ _ _ _ _; (conv => arg 5; simp only [zA, zB, ev, lget, zC, zD, zE, zF, zG, zH, zI, zJ, zK, zL, zM, zN])) | ((first | ((with_reducible refine' e_storeB ?hx ?hy ?hv ?h1 ?hb ?ho ?_); (case hx => rfl); (case hy => ((try simp only [ev, lget]); (try rfl))); (case hv => rfl); (case h1 => rfl)) | ((with_reducible refine' e_storeR ?hx ?hy ?h1 ?hb ?hn ?ho ?_); (case hx => rfl); (case hy => rfl); (case h1 => simp [Value.oneCell']); (case hn => rfl))); (case hb => exact bqq); (case ho => first | (simp only [List.length_cons, List.length_nil]; omega) | omega | (simp; omega) | simp); (try simp only [splice, zA, zB]); intro _ _ _ _) | ((with_reducible refine' l_call TFn.ent ?ha ?_); (case ha => simp only [zC, zD, ev, lget]; (try rfl))))
  refine stop_go ?_
  rename_i g0 w0 a1 a2 h0 e0 z0 g2 w2 b1 b2 h2 e2 z2 w3 h3 e3 z3
  have hlt0 := h0.lt
  repeat' (first | ((with_reducible refine' tt_pure ?hi ?hv ?_); (case hi => rfl); (case hv => intro _ hqS; (with_reducible refine' g_eqlS ?hx ?hy ?hxs ?hys (fun _ => ?hk) (fun c => absurd rfl c)); (case hx => rfl); (case hy => rfl); (case hxs => rfl); (case hys => rfl); (case hk => rfl)); (conv => arg 5; simp only [zA, zB, ev, lget, zC, zD, zE, zF, zG, zH, zI, zJ, zK, zL, zM, zN])) | ((with_reducible refine' w_tree (id := 2) (fun j => j = g0) (.pure 0 (.pure 1 (.pure 2 (.pure 3 (.pure 4 (.pure 5 (.one 6 (.pure 7 .done)))))))) [1, 6, 7, 8, 9, 10, 11] (fun u w' => u 1 = .bool true ∧ Blk w' g0 29 (pairC freshC freshC)) ?hm ?hn ?hl ?hB ?ta2 ?tb2); (case hm => kernel_rfl); (case hn => kernel_rfl); (case hl => kernel_rfl); (case hB => kernel_rfl); intro _ _ _) | ((with_reducible refine' tt_pure ?hi ?hv ?_); (case hi => rfl); (case hv => intro _ hqS; have hqz := hqS.size; ((first | (with_reducible refine' g_assign ?_) | ((with_reducible refine' g_fieldAddr ?hx ?ho ?_); (case hx => rfl); (case ho => rfl)) | ((with_reducible refine' g_loadS ?hx ?hb ?hn ?_); (case hx => rfl); (case hb => exact bqq); first | (case hc => rfl) | (case hn => simp only [List.length_cons, List.length_nil]; omega))); exact rfl)); (conv => arg 6; simp only [zA, zB, ev, lget, zC, zD, zE, zF, zG, zH, zI, zJ, zK, zL, zM, zN, fillL, splice, List.getD_cons_zero, List.getD_cons_succ, Value.cells])) | ((with_reducible refine' tt_one ?hi ?_); (case hi => rfl)) | ((with_reducible refine' tt_done ?hS ?_); (case hS => exact eqq)) | (with_reducible refine' tt_nil ?_) | (with_reducible refine' wpList_nil ?_) | ((first | ((with_reducible refine' e_storeB ?hx ?hy ?hv ?h1 ?hb ?ho ?_); (case hx => rfl); (case hy => ((try simp only [ev, lget]); (try rfl))); (case hv => rfl); (case h1 => rfl)) | ((with_reducible refine' e_storeR ?hx ?hy ?h1 ?hb ?hn ?ho ?_); (case hx => rfl); (case hy => rfl); (case h1 => simp [Value.oneCell']); (case hn => rfl))); (case hb => exact bqq); (case ho => first | (simp only [List.length_cons, List.length_nil]; omega) | omega | (simp; omega) | simp); (try simp only [splice, zA, zB]); intro _ _ _ _))
  all_goals try exact ⟨_, rfl, by simp only [setW, List.foldl_cons, List.foldl_nil, List.set_cons_succ, List.set_cons_zero], rfl, by exact bqq⟩
  rintro u wz evz zz ⟨hu1, hbz⟩
  simp only [setW, List.foldl_cons, List.foldl_nil, List.set_cons_succ, List.set_cons_zero]
  simp only [hu1]
  repeat' (first | (with_reducible (first | refine' then_normal ?_ | refine' wp_ret ?_)) | ((with_reducible refine' b_retN ?hr ?h2 ?ha ?_); (case hr => rfl); (case h2 => decide); (case ha => first | exact ra_nil | ((first | ((with_reducible refine' ra_tmp ?rv2 ?rh2); (case rv2 => ((try simp only [ev, lget]); (try rfl)))) | ((with_reducible refine' ra_cell ?rp2 ?rt2 ?rq2 ?rn2 ?rh2); (case rp2 => rfl); (case rt2 => infer_instance); (case rq2 => exact bqq); (case rn2 => rfl))); (case rh2 => first | exact ra_nil | ((first | ((with_reducible refine' ra_tmp ?rv1 ?rh1); (case rv1 => ((try simp only [ev, lget]); (try rfl)))) | ((with_reducible refine' ra_cell ?rp1 ?rt1 ?rq1 ?rn1 ?rh1); (case rp1 => rfl); (case rt1 => infer_instance); (case rq1 => exact bqq); (case rn1 => rfl))); (case rh1 => first | exact ra_nil)))))))
  exact ⟨rfl, by exact eqq⟩
theorem s_cutK {P : Program} {Q : Exit → Act → World → Prop} {l : List Value} {ds : List Deferred} {w : World} {c c2 : Code} (W : List Nat) (J : (Nat → Value) → World → Prop)
    (h1 : c.wp P (Exit.then (fun a w' => ∃ l', a = ⟨l'.toArray, ds⟩ ∧ setW l' W (fun _ => undef) = setW l W (fun _ => undef) ∧ J (lget l') w') Q) ⟨l.toArray, ds⟩ w)
    (h2 : ∀ u w', J u w' → c2.wp P Q ⟨(setW l W u).toArray, ds⟩ w') : (c.seq c2).wp P Q ⟨l.toArray, ds⟩ w := by
  refine wp_seq (wp_mono h1 ?_)
  intro e a w' hq
  cases e with
  | normal =>
    obtain ⟨l', rfl, hs, hJ⟩ := hq
    have hl' : setW l W (lget l') = l' := by rw [← setW_over W (lget l') (fun _ => undef) l, ← hs, setW_over, setW_self]
    have := h2 _ _ hJ
    rw [hl'] at this
    exact this
  | _ => exact hq
theorem stop_blk {P : Program} {Q : Exit → Act → World → Prop} {a : Act} {w : World} {n : Nat} {c c2 : Code} (h : Stop (((Code.block n c).seq c2).wp P Q a w)) : ((Code.block n c).seq c2).wp P Q a w := h
/-- A step of the script. -/
structure Opx where
  ev : Evn
  second : Bool
  other : Bool
  query : Bool
  whole : Bool
  nameOf : Int
  nxt : Evn
@[reducible] def opxC (o : Opx) : List Value := [.int .i64 o.ev.kind, .int .i64 o.ev.today, .int .i64 o.ev.days, .int .i64 o.ev.amount, .bool o.second, .bool o.other, .bool o.query, .bool o.whole, .int .i64 o.nameOf, .int .i64 o.nxt.kind, .int .i64 o.nxt.today, .int .i64 o.nxt.days, .int .i64 o.nxt.amount]
def RX (w : World) (A : Option Addr) (os : List Opx) : Prop := os.length ≤ 9223372036854775807 ∧ (0 < os.length → ∃ b o, A = some ⟨b, o, none⟩ ∧ ∀ j x, os[j]? = some x → ∀ i v, (opxC x)[i]? = some v → w.cell? ⟨b, o + j * 13 + i, none⟩ = some v)
set_option maxHeartbeats 8000000 in
set_option maxRecDepth 20000 in
theorem CollectExact_walk (p : Pol) (A : Option Addr) (c : Nat) (q : Pol) (A2 : Option Addr) (c2 : Nat) (B : Option Addr) (os : List Opx) (d0 : Nat) (w : World) (hN : Nms w) (hr : RI w A p.hs) (hsz : p.hs.length ≤ 1048576) (hr2 : RI w A2 q.hs) (hsz2 : q.hs.length ≤ 1048576) (hs : RX w B os) (hv : ∀ o ∈ os, o.ev.wf ∧ o.nxt.wf) (hes : os.length ≤ 1048576) :
    Calls Tryd.prog 3 #[.agg (polC p A c).toArray, .agg (polC q A2 c2).toArray, .slice B os.length d0] w fun e w' => e = .returned (.bool true) ∧ Evt (fun _ => False) w w' := by
  have hN0 := hN.lt
  go_enter Tryd.func3, Tryd.ntmps3
  repeat' (first | (with_reducible refine' stop_reg (id := 3) ?_) | (go_at_call 4; refine (begun_any _).mono ?_; rintro e wb ⟨rfl, evb⟩; have zb := evb.size; refine ⟨_, rfl, ?_⟩; (conv => arg 5; simp only [zA, zB, ev, lget, zC, zD, zE, zF, zG, zH, zI, zJ, zK, zL, zM, zN])) | (with_reducible (first | refine' wp_seq ?_ | refine' wp_region_lit ?_ | refine' wpList_nil ?_ | refine' then_normal ?_)) | ((with_reducible refine' l_step ?_); ((first | (with_reducible refine' g_move ?_) | (with_reducible refine' g_assign ?_) | ((with_reducible refine' g_loadS ?hx ?hb ?hn ?_); (case hx => rfl); (case hb => exact bqq); first | (case hc => rfl) | (case hn => simp only [List.length_cons, List.length_nil]; omega)) | ((with_reducible refine' g_extract ?hx ?hv ?_); (case hx => rfl); (case hv => rfl))); (conv => arg 5; simp only [zA, zB, ev, lget, zC, zD, zE, zF, zG, zH, zI, zJ, zK, zL, zM, zN]))) | ((first | ((with_reducible refine' e_boxA ?hx ?_); (case hx => rfl)) | ((with_reducible refine' e_alloc ?hx ?_); (case hx => rfl))); intro _ _ _ _ _ _ _; (conv => arg 5; simp only [zA, zB, ev, lget, zC, zD, zE, zF, zG, zH, zI, zJ, zK, zL, zM, zN])) | ((first | ((with_reducible refine' e_storeB ?hx ?hy ?hv ?h1 ?hb ?ho ?_); (case hx => rfl); (case hy => ((try simp only [ev, lget]); (try rfl))); (case hv => rfl); (case h1 => rfl)) | ((with_reducible refine' e_storeR ?hx ?hy ?h1 ?hb ?hn ?ho ?_); (case hx => rfl); (case hy => rfl); (case h1 => simp [Value.oneCell']); (case hn => rfl))); (case hb => exact bqq); (case ho => first | (simp only [List.length_cons, List.length_nil]; omega) | omega | (simp; omega) | simp); (try simp only [splice, zA, zB]); intro _ _ _ _) | ((with_reducible refine' l_call TFn.ent ?ha ?_); (case ha => simp only [zC, zD, ev, lget]; (try rfl))))
  refine stop_go ?_
  rename_i gp wp a1 a2 hp ep zp gq wq b1 b2 hq eq0 zq gx wx f1 f2 hx0 ex zx w2 hx e2 z2 gy wy i1 i2 hy0 ey zy w3 hy e3 z3
  have hp3 : Blk w3 gp 24 (polC p A c) := by exact bqq
  have hq3 : Blk w3 gq 24 (polC q A2 c2) := by exact bqq
  have hx3 : Blk w3 gx 29 (pairC freshC freshC) := by exact bqq
  have hy3 : Blk w3 gy 29 (pairC freshC freshC) := hy
  have e03 : Evt (fun _ => False) w w3 := by exact eqq
  have z03 := e03.size
  have hgs : w.heap.size ≤ gp ∧ gp < gq ∧ gq < gx ∧ gx < gy ∧ gy < w3.heap.size := by omega
  clear hp ep hq eq0 hx0 ex hx e2 hy0 ey hy e3 evb
  repeat' (first | (with_reducible (first | refine' wp_seq ?_ | refine' wp_region_lit ?_ | refine' wpList_nil ?_ | refine' then_normal ?_ | refine' wp_block ?_)) | ((with_reducible refine' l_step ?_); (first | ((with_reducible refine' g_assign ?_); (conv => arg 5; simp only [zA, zB, ev, lget, zC, zD, zE, zF, zG, zH, zI, zJ, zK, zL, zM, zN])) | ((with_reducible refine' g_build ?hl ?hp ?hs ?_); (case hl => rfl); (case hp => rfl); (case hs => rfl); (conv => arg 5; simp only [zA, zB, ev, lget, zC, zD, zE, zF, zG, zH, zI, zJ, zK, zL, zM, zN, fillL, splice, List.getD_cons_zero, List.getD_cons_succ, Value.cells])))) | (((with_reducible refine' e_boxA ?hx ?_); (case hx => rfl)); intro _ _ _ _ _ _ _; (conv => arg 5; simp only [zA, zB, ev, lget, zC, zD, zE, zF, zG, zH, zI, zJ, zK, zL, zM, zN])))
  rename_i gS wS k1 k2 hS0 eS zS
  have hlS := hS0.lt
  have hpS := hp3.evt eS (fun h => h)
  have hqS := hq3.evt eS (fun h => h)
  have hxS := hx3.evt eS (fun h => h)
  have hyS := hy3.evt eS (fun h => h)
  have e0S : Evt (fun _ => False) w wS := Evt.next eS e03 (fun _ _ h => h)
  have hSh : ShelfV wS (fun _ => False) gS [] [] (.slice none 0 0) (.slice none 0 0) := ⟨hS0, World.ownsRow_nil _ _ _ _, World.ownsRow_nil _ _ _ _, rfl, fun i s h => by simp at h, fun i s t h => by simp at h, fun _ _ h => h, fun _ _ h => h, fun h => h, fun k h => by simp [Value.ownBlock] at h, fun _ h => h.elim, by simp⟩
  clear hp3 hq3 hx3 hy3 eS e03
  refine' s_loop [8, 11, 12, 13, 14, 22, 23, 24, 25, 26, 27, 28, 29, 30, 31, 32, 33, 34, 35, 36, 37, 38, 39, 40, 41, 42, 43, 44, 45, 46, 47, 48, 49, 50, 51, 52, 53, 54, 55, 56, 57, 58, 59, 60, 61, 62, 63, 64, 65, 66, 67, 68, 69, 70, 71, 72, 73, 74, 75, 76, 77, 78, 79, 80, 81, 82, 83, 84, 85, 86, 87, 88, 89, 90, 91, 92, 93, 94, 95] (fun n u w' => ∃ (i : Nat) (kx ky : Cas) (D : Nat → Prop) (ls ms : List Sl) (vI vL : Value), n = os.length - i ∧ i ≤ os.length ∧ u 11 = .int .i64 i ∧ u 8 = .bool true ∧ CaseI kx ∧ CaseI ky ∧ ls.length ≤ 2 * i ∧ ShelfV w' D gS ls ms vI vL ∧ (∀ j, Shl D gS vI vL j → w3.heap.size ≤ j) ∧ Blk w' gx 29 (pairC kx kx) ∧ Blk w' gy 29 (pairC ky ky) ∧ Evt (fun j => w3.heap.size ≤ j ∨ j = gx ∨ j = gy) wS w') os.length ?h0 ?round
  case h0 =>
    refine ⟨0, freshC, freshC, fun _ => False, [], [], _, _, rfl, by omega, rfl, rfl, caseI_fresh, caseI_fresh, by simp, hSh, ?_, hxS, hyS, Evt.refl _ _⟩
    rintro j (h | h | h | h)
    · exact h.elim
    · omega
    · simp [Value.ownBlock] at h
    · simp [Value.ownBlock] at h
  case round =>
    rintro n u w4 ⟨i, kx, ky, D, ls, ms, vI, vL, rfl, hi, h11, h8, hkx, hky, hlen, hS4, hlow, hx4, hy4, ev4⟩
    simp only [setW, List.foldl_cons, List.foldl_nil, List.set_cons_succ, List.set_cons_zero]
    simp only [h11, h8]
    have z4 := ev4.size
    have hslt4 := hS4.slt
    have hp4 : Blk w4 gp 24 (polC p A c) := hpS.evt ev4 (by omega)
    have hq4 : Blk w4 gq 24 (polC q A2 c2) := hqS.evt ev4 (by omega)
    have e04 : Evt (fun _ => False) w w4 := Evt.next ev4 e0S (by intro j hj h; have h' : w3.heap.size ≤ j ∨ j = gx ∨ j = gy := h; omega)
    have hr4 := hr.up e04
    have hr24 := hr2.up e04
    have hN4 := hN.up e04
    clear hpS hqS hxS hyS hSh hS0
    by_cases hlt : i < os.length
    · obtain ⟨b, o, rfl, hcell⟩ := hs.2 (by omega)
      have hcellE : ∀ w', Evt (fun j => False) w4 w' → ∀ j v, (opxC os[i])[j]? = some v → w'.cell? ⟨b, o + i * 13 + j, none⟩ = some v := fun w' he j v hj => cell_evt he (cell_evt e04 (hcell i _ (List.getElem?_eq_getElem hlt) j v hj) (fun h => h)) (fun h => h)
      clear hcell
      obtain ⟨hve, hvn⟩ := hv os[i] (List.getElem_mem hlt)
      generalize os[i] = oi at *
      repeat' (first | (with_reducible refine' stop_at (id := 9) ?_) | (with_reducible (first | refine' wp_seq ?_ | refine' wp_region_lit ?_ | refine' wpList_nil ?_ | refine' then_normal ?_ | refine' wp_block ?_ | refine' wp_skip ?_)) | ((with_reducible refine' c_condT ?hx ?_); (case hx => rfl)) | ((with_reducible refine' l_step ?_); (first | ((first | (with_reducible refine' g_move ?_) | ((with_reducible refine' g_loadS ?hx ?hb ?hn ?_); (case hx => rfl); (case hb => exact bqq); first | (case hc => rfl) | (case hn => simp only [List.length_cons, List.length_nil]; omega)) | ((with_reducible refine' g_loadR ?hx ?hn ?hc ?_); (case hx => rfl); (case hc => exact hcellE _ (by exact eqq)); (case hn => rfl)) | ((with_reducible refine' g_pickT ?hx ?_); (case hx => rfl)) | ((with_reducible refine' g_lenS ?hx ?_); (case hx => rfl)) | ((with_reducible refine' g_indexAddr ?hx ?hy ?h0 ?h1 ?_); (case hx => rfl); (case hy => rfl); (case h0 => omega); (case h1 => omega))); (conv => arg 5; simp only [zA, zB, ev, lget, zC, zD, zE, zF, zG, zH, zI, zJ, zK, zL, zM, zN])) | (((with_reducible refine' g_lss ?hx ?hy (fun _ => ?_) (fun _ => ?_)); (case hx => rfl)); (case hy => rfl); all_goals (first | (exfalso; omega) | (conv => arg 5; simp only [zA, zB, ev, lget, zC, zD, zE, zF, zG, zH, zI, zJ, zK, zL, zM, zN]))))) | ((with_reducible refine' l_on ?hw ?_); (case hw => rfl)) | (((with_reducible refine' e_alloc ?hx ?_); (case hx => rfl)); intro _ _ _ _ _ _ _; (conv => arg 5; simp only [zA, zB, ev, lget, zC, zD, zE, zF, zG, zH, zI, zJ, zK, zL, zM, zN])) | ((first | ((with_reducible refine' e_storeB ?hx ?hy ?hv ?h1 ?hb ?ho ?_); (case hx => rfl); (case hy => ((try simp only [ev, lget]); (try rfl))); (case hv => rfl); (case h1 => rfl)) | ((with_reducible refine' e_storeR ?hx ?hy ?h1 ?hb ?hn ?ho ?_); (case hx => rfl); (case hy => rfl); (case h1 => simp [Value.oneCell']); (case hn => rfl))); (case hb => exact bqq); (case ho => first | (simp only [List.length_cons, List.length_nil]; omega) | omega | (simp; omega) | simp); (try simp only [splice, zA, zB]); intro _ _ _ _))
      refine stop_go ?_
      rename_i gO wO o1 o2 hO0 eO zO w5 hO eO2 zO2 gU wU u1 u2 hU0 eU zU w6 hU eU2 zU2
      have e46 : Evt (fun _ => False) w4 w6 := Evt.next eU2 (Evt.next eU (Evt.next eO2 eO (fun j _ hh => by have h' : j = gO := hh; omega)) (fun _ _ h => h)) (fun j _ hh => by have h' : j = gU := hh; omega)
      have hO6 : Blk w6 gO 39 (opxC oi) := (hO.evt eU (fun h => h)).evt eU2 (by omega)
      have hU6 : Blk w6 gU 24 (polC p A c) := hU
      have hq6 := hq4.evt e46 (fun h => h)
      have hx6 := hx4.evt e46 (fun h => h)
      have hy6 := hy4.evt e46 (fun h => h)
      have hS6 := hS4.up e46
      have e06 := Evt.next e46 e04 (fun _ _ h => h)
      have z6 := e46.size
      have hgO : w4.heap.size ≤ gO ∧ gO < gU ∧ gU < w6.heap.size := by omega
      clear hO0 eO hO eO2 hU0 eU hU eU2 hp4 hq4 hx4 hy4 hS4 hr4 hr24 hN4
      refine' s_cut [36, 37, 38] (fun u w' => ∃ P' A' c', Blk w' gU 24 (polC P' A' c') ∧ RI w A' P'.hs ∧ P'.hs.length ≤ 1048576 ∧ Evt (fun j => j = gU) w6 w') ?k1 ?k2
      case k1 =>
        cases hsec : oi.second
        all_goals
          simp only [opxC, hsec] at hO6
          repeat' (first | (with_reducible (first | refine' wp_seq ?_ | refine' wp_region_lit ?_ | refine' wpList_nil ?_ | refine' then_normal ?_ | refine' wp_skip ?_)) | ((with_reducible refine' c_condT ?hx ?_); (case hx => rfl)) | ((with_reducible refine' c_condF ?hx ?_); (case hx => rfl)) | ((with_reducible refine' l_step ?_); ((first | ((with_reducible refine' g_fieldAddr ?hx ?ho ?_); (case hx => rfl); (case ho => rfl)) | ((first | (with_reducible refine' g_loadB ?hx ?hb ?hc ?_) | (with_reducible refine' g_loadS ?hx ?hb ?hn ?_)); (case hx => rfl); (case hb => exact bqq); first | (case hc => rfl) | (case hn => simp only [List.length_cons, List.length_nil]; omega))); (conv => arg 5; simp only [zA, zB, ev, lget, zC, zD, zE, zF, zG, zH, zI, zJ, zK, zL, zM, zN]))) | ((first | ((with_reducible refine' e_storeB ?hx ?hy ?hv ?h1 ?hb ?ho ?_); (case hx => rfl); (case hy => ((try simp only [ev, lget]); (try rfl))); (case hv => rfl); (case h1 => rfl)) | ((with_reducible refine' e_storeR ?hx ?hy ?h1 ?hb ?hn ?ho ?_); (case hx => rfl); (case hy => rfl); (case h1 => simp [Value.oneCell']); (case hn => rfl))); (case hb => exact bqq); (case ho => first | (simp only [List.length_cons, List.length_nil]; omega) | omega | (simp; omega) | simp); (try simp only [splice, zA, zB]); intro _ _ _ _))
        · exact ⟨_, rfl, by simp only [setW, List.foldl_cons, List.foldl_nil, List.set_cons_succ, List.set_cons_zero], p, A, c, by exact bqq, hr, hsz, Evt.refl _ _⟩
        · exact ⟨_, rfl, by simp only [setW, List.foldl_cons, List.foldl_nil, List.set_cons_succ, List.set_cons_zero], q, A2, c2, by exact bqq, hr2, hsz2, by exact eqq⟩
      case k2 =>
        rintro u w7 ⟨P', A', c', hU7, hrP, hszP, e67⟩
        simp only [setW, List.foldl_cons, List.foldl_nil, List.set_cons_succ, List.set_cons_zero]
        have z7 := e67.size
        have hO7 := hO6.evt e67 (by omega)
        have hx7 := hx6.evt e67 (by omega)
        have hy7 := hy6.evt e67 (by omega)
        have hS7 := hS6.evt e67 (fun j hj hh => by have h1 := hS6.slt j hj; have h2 := hS6.slt j hj; have h' : j = gU := hh; have h3 := hslt4 j hj; omega)
        have e47 : Evt (fun _ => False) w4 w7 := Evt.next e67 e46 (fun j _ hh => by have h' : j = gU := hh; omega)
        clear hO6 hU6 hq6 hx6 hy6 hS6 e06 e67 e46
        repeat' (first | (with_reducible refine' stop_at (id := 12) ?_) | (with_reducible (first | refine' wp_seq ?_ | refine' wp_region_lit ?_ | refine' wpList_nil ?_ | refine' then_normal ?_)) | ((with_reducible refine' l_step ?_); (((with_reducible refine' g_loadS ?hx ?hb ?hn ?_); (case hx => rfl); (case hb => exact bqq); first | (case hc => rfl) | (case hn => simp only [List.length_cons, List.length_nil]; omega)); (conv => arg 5; simp only [zA, zB, ev, lget, zC, zD, zE, zF, zG, zH, zI, zJ, zK, zL, zM, zN]))) | (((with_reducible refine' e_alloc ?hx ?_); (case hx => rfl)); intro _ _ _ _ _ _ _; (conv => arg 5; simp only [zA, zB, ev, lget, zC, zD, zE, zF, zG, zH, zI, zJ, zK, zL, zM, zN])) | ((first | ((with_reducible refine' e_storeB ?hx ?hy ?hv ?h1 ?hb ?ho ?_); (case hx => rfl); (case hy => ((try simp only [ev, lget]); (try rfl))); (case hv => rfl); (case h1 => rfl)) | ((with_reducible refine' e_storeR ?hx ?hy ?h1 ?hb ?hn ?ho ?_); (case hx => rfl); (case hy => rfl); (case h1 => simp [Value.oneCell']); (case hn => rfl))); (case hb => exact bqq); (case ho => first | (simp only [List.length_cons, List.length_nil]; omega) | omega | (simp; omega) | simp); (try simp only [splice, zA, zB]); intro _ _ _ _))
        refine stop_go ?_
        rename_i gZ wZ z1 z2 hZ0 eZ zZ w8 hZ eZ2 zZ2
        have e78 : Evt (fun _ => False) w7 w8 := Evt.next eZ2 eZ (fun j _ hh => by have h' : j = gZ := hh; omega)
        have hZ8 : Blk w8 gZ 29 (pairC kx kx) := hZ
        have hO8 := hO7.evt e78 (fun h => h)
        have hU8 := hU7.evt e78 (fun h => h)
        have hx8 := hx7.evt e78 (fun h => h)
        have hy8 := hy7.evt e78 (fun h => h)
        have hS8 := hS7.up e78
        have e48 := Evt.next e78 e47 (fun _ _ h => h)
        have hgZ : w7.heap.size ≤ gZ ∧ gZ < w8.heap.size := by omega
        clear hZ0 eZ hZ eZ2 hO7 hU7 hx7 hy7 hS7 e78 e47
        refine' s_cut [40, 41, 42] (fun u w' => ∃ kz, CaseI kz ∧ Blk w' gZ 29 (pairC kz kz) ∧ Evt (fun j => j = gZ) w8 w') ?k3 ?k4
        case k3 =>
          cases hoth : oi.other
          all_goals
            simp only [opxC, hoth] at hO8
            repeat' (first | (with_reducible (first | refine' wp_seq ?_ | refine' wp_region_lit ?_ | refine' wpList_nil ?_ | refine' then_normal ?_ | refine' wp_skip ?_)) | ((with_reducible refine' c_condT ?hx ?_); (case hx => rfl)) | ((with_reducible refine' c_condF ?hx ?_); (case hx => rfl)) | ((with_reducible refine' l_step ?_); ((first | ((with_reducible refine' g_fieldAddr ?hx ?ho ?_); (case hx => rfl); (case ho => rfl)) | ((first | (with_reducible refine' g_loadB ?hx ?hb ?hc ?_) | (with_reducible refine' g_loadS ?hx ?hb ?hn ?_)); (case hx => rfl); (case hb => exact bqq); first | (case hc => rfl) | (case hn => simp only [List.length_cons, List.length_nil]; omega))); (conv => arg 5; simp only [zA, zB, ev, lget, zC, zD, zE, zF, zG, zH, zI, zJ, zK, zL, zM, zN]))) | ((first | ((with_reducible refine' e_storeB ?hx ?hy ?hv ?h1 ?hb ?ho ?_); (case hx => rfl); (case hy => ((try simp only [ev, lget]); (try rfl))); (case hv => rfl); (case h1 => rfl)) | ((with_reducible refine' e_storeR ?hx ?hy ?h1 ?hb ?hn ?ho ?_); (case hx => rfl); (case hy => rfl); (case h1 => simp [Value.oneCell']); (case hn => rfl))); (case hb => exact bqq); (case ho => first | (simp only [List.length_cons, List.length_nil]; omega) | omega | (simp; omega) | simp); (try simp only [splice, zA, zB]); intro _ _ _ _))
          · exact ⟨_, rfl, by simp only [setW, List.foldl_cons, List.foldl_nil, List.set_cons_succ, List.set_cons_zero], kx, hkx, by exact bqq, Evt.refl _ _⟩
          · exact ⟨_, rfl, by simp only [setW, List.foldl_cons, List.foldl_nil, List.set_cons_succ, List.set_cons_zero], ky, hky, by exact bqq, by exact eqq⟩
        case k4 =>
          rintro u w9 ⟨kz, hkz, hZ9, e89⟩
          simp only [setW, List.foldl_cons, List.foldl_nil, List.set_cons_succ, List.set_cons_zero]
          have z9 := e89.size
          have hO9 := hO8.evt e89 (by omega)
          have hU9 := hU8.evt e89 (by omega)
          have hx9 := hx8.evt e89 (by omega)
          have hy9 := hy8.evt e89 (by omega)
          have nlow : ∀ j, Shl D gS vI vL j → w3.heap.size ≤ j ∧ j < w4.heap.size := fun j hj => ⟨hlow j hj, hslt4 j hj⟩
          have hS9 := hS8.evt e89 (fun j hj hh => by have h1 := nlow j hj; have h' : j = gZ := hh; omega)
          have e49 : Evt (fun _ => False) w4 w9 := Evt.next e89 e48 (fun j _ hh => by have h' : j = gZ := hh; omega)
          have e09 : Evt (fun _ => False) w w9 := Evt.next e49 e04 (fun _ _ h => h)
          have hg9 := (rg_all hrP).up e09
          have hN9 := hN.up e09
          clear hO8 hU8 hx8 hy8 hS8 e89 e48 hZ8
          have hHall : ∀ j, j < w.heap.size → ¬ Shl D gS vI vL j ∧ j < w9.heap.size := fun j hj => ⟨fun h => by have h1 := nlow j h; omega, by omega⟩
          have ngZ : ¬ Shl D gS vI vL gZ := fun h => by have h1 := nlow gZ h; omega
          have ngO : ¬ (Shl D gS vI vL gO ∨ gO = gZ) := by
            rintro (h | h)
            · have h1 := nlow gO h; omega
            · omega
          repeat' (first | (with_reducible refine' stop_blk (n := 2) ?_))
          refine stop_go ?_
          refine' s_cutK [8, 43, 44, 45, 46, 47, 48, 49, 50, 51, 52, 53, 54, 55, 56, 57, 58, 59, 60, 61, 62, 63, 64, 65, 66, 67, 68, 69, 70, 71, 72, 73, 74, 75, 76, 77, 78, 79, 80, 81, 82, 83, 84, 85, 86, 87, 88, 89, 90, 91] (fun u w' => ∃ K D' ls' ms' vI' vL', u 8 = .bool true ∧ CaseI K ∧ Blk w' gZ 29 (pairC K K) ∧ ShelfV w' D' gS ls' ms' vI' vL' ∧ ls'.length ≤ ls.length + 2 ∧ (∀ j, Shl D' gS vI' vL' j → Shl D gS vI vL j ∨ w9.heap.size ≤ j) ∧ Evt (fun j => Shl D gS vI vL j ∨ j = gZ) w9 w') ?k5 ?k6
          case k5 =>
            cases hqu : oi.query
            · cases hwh : oi.whole
              · have hKI := caseI_step (p := P') hve hkz
                have hst := stepped_any P' A' c' kz oi.ev D (fun j => j < w.heap.size) gS ls ms vI vL w9 hg9 hszP hHall hS9 (by omega) hve hkz.ok (step_len P' kz oi.ev)
                generalize (stepP P' kz oi.ev).1 = K at *
                simp only [opxC, hqu, hwh] at hO9
                repeat' (first | (go_at_call 11; refine hst.mono ?_; rintro r wr ⟨rfl, D', ls', ms', vI', vL', hst'⟩; have evr := hst'.evt; have zr := evr.size; refine ⟨_, rfl, ?_⟩; (conv => arg 5; simp only [zA, zB, ev, lget, zC, zD, zE, zF, zG, zH, zI, zJ, zK, zL, zM, zN])) | (with_reducible (first | refine' wp_seq ?_ | refine' wp_region_lit ?_ | refine' wpList_nil ?_ | refine' then_normal ?_ | refine' wp_block ?_ | refine' in_normal ?_)) | ((with_reducible refine' c_condF ?hx ?_); (case hx => rfl)) | ((with_reducible refine' l_step ?_); ((first | (with_reducible refine' g_move ?_) | (with_reducible refine' g_assign ?_) | ((with_reducible refine' g_fieldAddr ?hx ?ho ?_); (case hx => rfl); (case ho => rfl)) | ((first | (with_reducible refine' g_loadB ?hx ?hb ?hc ?_) | (with_reducible refine' g_loadS ?hx ?hb ?hn ?_)); (case hx => rfl); (case hb => exact bqq); first | (case hc => rfl) | (case hn => simp only [List.length_cons, List.length_nil]; omega)) | ((with_reducible refine' g_extract ?hx ?hv ?_); (case hx => rfl); (case hv => rfl))); (conv => arg 5; simp only [zA, zB, ev, lget, zC, zD, zE, zF, zG, zH, zI, zJ, zK, zL, zM, zN]))) | ((first | ((with_reducible refine' e_storeB ?hx ?hy ?hv ?h1 ?hb ?ho ?_); (case hx => rfl); (case hy => ((try simp only [ev, lget]); (try rfl))); (case hv => rfl); (case h1 => rfl)) | ((with_reducible refine' e_storeR ?hx ?hy ?h1 ?hb ?hn ?ho ?_); (case hx => rfl); (case hy => rfl); (case h1 => simp [Value.oneCell']); (case hn => rfl))); (case hb => exact bqq); (case ho => first | (simp only [List.length_cons, List.length_nil]; omega) | omega | (simp; omega) | simp); (try simp only [splice, zA, zB]); intro _ _ _ _) | ((with_reducible refine' l_call TFn.ent ?ha ?_); (case ha => simp only [zC, zD, ev, lget]; (try rfl))))
                rename_i w10 h10 e10 z10
                exact ⟨_, rfl, by simp only [setW, List.foldl_cons, List.foldl_nil, List.set_cons_succ, List.set_cons_zero], K, D', ls', ms', vI', vL', rfl, hKI, h10, hst'.shelf.evt e10 (fun j h hh => by
                  have h' : j = gZ := hh
                  rcases hst'.low j h with h1 | h1
                  · have h2 := nlow j h1; omega
                  · omega), by have h2 := hst'.more; omega, hst'.low, Evt.next e10 (hst'.evt.mono fun _ _ h => .inl h) (fun _ _ h => .inr h)⟩
              · have hKI := run_caseI (p := P') (es := [oi.ev, oi.nxt]) hkz (by intro e he; simp only [List.mem_cons, List.not_mem_nil, or_false] at he; rcases he with rfl | rfl <;> assumption) 2 (by simp)
                have hst := ran_any P' A' c' kz oi.ev oi.nxt D (fun j => j < w.heap.size) gS ls ms vI vL w9 hg9 hszP hHall hS9 (by omega) hve hvn hkz
                rw [show [oi.ev, oi.nxt].take 2 = [oi.ev, oi.nxt] from rfl] at hKI
                generalize (runP P' kz [oi.ev, oi.nxt]).1 = K at *
                simp only [opxC, hqu, hwh] at hO9
                repeat' (first | (go_at_call 10; refine hst.mono ?_; rintro r wr ⟨rfl, D', ls', ms', vI', vL', hst'⟩; have evr := hst'.evt; have zr := evr.size; refine ⟨_, rfl, ?_⟩; (conv => arg 5; simp only [zA, zB, ev, lget, zC, zD, zE, zF, zG, zH, zI, zJ, zK, zL, zM, zN])) | (with_reducible (first | refine' wp_seq ?_ | refine' wp_region_lit ?_ | refine' wpList_nil ?_ | refine' then_normal ?_ | refine' wp_block ?_ | refine' in_normal ?_)) | ((with_reducible refine' c_condT ?hx ?_); (case hx => rfl)) | ((with_reducible refine' c_condF ?hx ?_); (case hx => rfl)) | ((with_reducible refine' l_step ?_); ((first | (with_reducible refine' g_move ?_) | (with_reducible refine' g_assign ?_) | ((with_reducible refine' g_fieldAddr ?hx ?ho ?_); (case hx => rfl); (case ho => rfl)) | ((first | (with_reducible refine' g_loadB ?hx ?hb ?hc ?_) | (with_reducible refine' g_loadS ?hx ?hb ?hn ?_)); (case hx => rfl); (case hb => exact bqq); first | (case hc => rfl) | (case hn => simp only [List.length_cons, List.length_nil]; omega)) | ((with_reducible refine' g_extract ?hx ?hv ?_); (case hx => rfl); (case hv => rfl))); (conv => arg 5; simp only [zA, zB, ev, lget, zC, zD, zE, zF, zG, zH, zI, zJ, zK, zL, zM, zN]))) | ((first | ((with_reducible refine' e_storeB ?hx ?hy ?hv ?h1 ?hb ?ho ?_); (case hx => rfl); (case hy => ((try simp only [ev, lget]); (try rfl))); (case hv => rfl); (case h1 => rfl)) | ((with_reducible refine' e_storeR ?hx ?hy ?h1 ?hb ?hn ?ho ?_); (case hx => rfl); (case hy => rfl); (case h1 => simp [Value.oneCell']); (case hn => rfl))); (case hb => exact bqq); (case ho => first | (simp only [List.length_cons, List.length_nil]; omega) | omega | (simp; omega) | simp); (try simp only [splice, zA, zB]); intro _ _ _ _) | ((with_reducible refine' l_call TFn.ent ?ha ?_); (case ha => simp only [zC, zD, ev, lget]; (try rfl))))
                rename_i w10 h10 e10 z10
                exact ⟨_, rfl, by simp only [setW, List.foldl_cons, List.foldl_nil, List.set_cons_succ, List.set_cons_zero], K, D', ls', ms', vI', vL', rfl, hKI, h10, hst'.shelf.evt e10 (fun j h hh => by
                  have h' : j = gZ := hh
                  rcases hst'.low j h with h1 | h1
                  · have h2 := nlow j h1; omega
                  · omega), by have h2 := hst'.more; omega, hst'.low, Evt.next e10 (hst'.evt.mono fun _ _ h => .inl h) (fun _ _ h => .inr h)⟩
            · simp only [opxC, hqu] at hO9
              repeat' (first | ((with_reducible refine' q_step ?_); (with_reducible refine' g_eqlStr ?hx ?hy (fun _ => ?_) (fun c => absurd rfl c)); (case hx => rfl); (case hy => rfl); (conv => arg 6; simp only [zA, zB, ev, lget, zC, zD, zE, zF, zG, zH, zI, zJ, zK, zL, zM, zN])) | ((with_reducible refine' q_step ?_); (with_reducible refine' g_eqlB ?hx ?hy (fun _ => ?_) (fun c => absurd rfl c)); (case hx => rfl); (case hy => rfl); (conv => arg 6; simp only [zA, zB, ev, lget, zC, zD, zE, zF, zG, zH, zI, zJ, zK, zL, zM, zN])) | ((with_reducible refine' q_call (f := 5) TFn.ent ?ha ?hc ?_); (case ha => simp only [zC, zD, ev, lget]; (try rfl)); (case hc => intro wq hwq; have hzq := hwq.size; refine (open_any kz _).mono ?_; rintro e w' ⟨rfl, hev⟩; exact ⟨rfl, hev⟩); (conv => arg 6; simp only [zA, zB, ev, lget, zC, zD, zE, zF, zG, zH, zI, zJ, zK, zL, zM, zN])) | ((with_reducible refine' q_call (f := 6) TFn.ent ?ha ?hc ?_); (case ha => simp only [zC, zD, ev, lget]; (try rfl)); (case hc => intro wq hwq; have hzq := hwq.size; refine (open_r kz _ rfl _).mono ?_; rintro e w' ⟨rfl, hev⟩; exact ⟨rfl, hev⟩); (conv => arg 6; simp only [zA, zB, ev, lget, zC, zD, zE, zF, zG, zH, zI, zJ, zK, zL, zM, zN])) | ((with_reducible refine' q_call (f := 7) TFn.ent ?ha ?hc ?_); (case ha => simp only [zC, zD, ev, lget]; (try rfl)); (case hc => intro wq hwq; have hzq := hwq.size; refine (namesRight_any oi.nameOf _ (hN9.up (by exact eqq))).mono ?_; rintro e w' ⟨rfl, hev⟩; exact ⟨rfl, hev⟩); (conv => arg 6; simp only [zA, zB, ev, lget, zC, zD, zE, zF, zG, zH, zI, zJ, zK, zL, zM, zN])) | ((with_reducible refine' q_call (f := 8) TFn.ent ?ha ?hc ?_); (case ha => simp only [zC, zD, ev, lget]; (try rfl)); (case hc => intro wq hwq; have hzq := hwq.size; refine (name_any kz.status _ (hN9.up (by exact eqq))).mono ?_; rintro e w' ⟨rfl, hev⟩; exact ⟨rfl, hev⟩); (conv => arg 6; simp only [zA, zB, ev, lget, zC, zD, zE, zF, zG, zH, zI, zJ, zK, zL, zM, zN])) | ((with_reducible refine' q_call (f := 9) TFn.ent ?ha ?hc ?_); (case ha => simp only [zC, zD, ev, lget]; (try rfl)); (case hc => intro wq hwq; have hzq := hwq.size; refine (name_r kz.status _).mono ?_; rintro e w' ⟨rfl, hev⟩; exact ⟨rfl, hev⟩); (conv => arg 6; simp only [zA, zB, ev, lget, zC, zD, zE, zF, zG, zH, zI, zJ, zK, zL, zM, zN])) | (with_reducible (first | refine' wp_seq ?_ | refine' wp_region_lit ?_ | refine' wpList_nil ?_ | refine' then_normal ?_ | refine' wp_block ?_ | refine' in_normal ?_)) | ((with_reducible refine' c_condT ?hx ?_); (case hx => rfl)) | ((with_reducible refine' l_step ?_); ((first | (with_reducible refine' g_assign ?_) | ((with_reducible refine' g_fieldAddr ?hx ?ho ?_); (case hx => rfl); (case ho => rfl)) | ((with_reducible refine' g_loadB ?hx ?hb ?hc ?_); (case hx => rfl); (case hb => exact bqq); first | (case hc => rfl) | (case hn => simp only [List.length_cons, List.length_nil]; omega))); (conv => arg 5; simp only [zA, zB, ev, lget, zC, zD, zE, zF, zG, zH, zI, zJ, zK, zL, zM, zN]))) | ((with_reducible refine' w_quiet (id := 16) ?hm ?hB ?_); (case hm => kernel_rfl); (case hB => kernel_rfl)) | ((with_reducible refine' q_nil ?_); intro _ _ _) | ((with_reducible refine' q_on ?hw ?_); (case hw => rfl)) | ((with_reducible refine' q_step ?_); ((first | (with_reducible refine' g_move ?_) | (with_reducible refine' g_assign ?_) | ((with_reducible refine' g_fieldAddr ?hx ?ho ?_); (case hx => rfl); (case ho => rfl)) | ((first | (with_reducible refine' g_loadB ?hx ?hb ?hc ?_) | (with_reducible refine' g_loadS ?hx ?hb ?hn ?_)); (case hx => rfl); (case hb => exact bqq); first | (case hc => rfl) | (case hn => simp only [List.length_cons, List.length_nil]; omega)) | ((with_reducible refine' g_pickT ?hx ?_); (case hx => rfl))); (conv => arg 6; simp only [zA, zB, ev, lget, zC, zD, zE, zF, zG, zH, zI, zJ, zK, zL, zM, zN]))))
              exact ⟨_, rfl, by simp only [setW, List.foldl_cons, List.foldl_nil, List.set_cons_succ, List.set_cons_zero], kz, D, ls, ms, vI, vL, rfl, hkz, by exact bqq, hS9.up (by exact eqq), by omega, fun j h => .inl h, by exact eqq⟩
          case k6 =>
            rintro u w10 ⟨K, D', ls', ms', vI', vL', hu8, hKI, hZ10, hS10, hl10, hlow10, e910⟩
            simp only [setW, List.foldl_cons, List.foldl_nil, List.set_cons_succ, List.set_cons_zero]
            simp only [hu8]
            have z10 := e910.size
            have ngx : ¬ (Shl D gS vI vL gx ∨ gx = gZ) := by
              rintro (h | h)
              · have h1 := nlow gx h; omega
              · omega
            have ngy : ¬ (Shl D gS vI vL gy ∨ gy = gZ) := by
              rintro (h | h)
              · have h1 := nlow gy h; omega
              · omega
            have hO10 := hO9.evt e910 ngO
            have hx10 := hx9.evt e910 ngx
            have hy10 := hy9.evt e910 ngy
            have e4_10 : Evt (fun j => w3.heap.size ≤ j ∨ j = gx ∨ j = gy) w4 w10 := Evt.next e910 (e49.mono fun _ _ h => h.elim) (fun j hj hh => by
              rcases hh with h | h
              · exact .inl (nlow j h).1
              · omega)
            have hlow' : ∀ j, Shl D' gS vI' vL' j → w3.heap.size ≤ j := fun j h => by
              rcases hlow10 j h with h1 | h1
              · exact hlow j h1
              · omega
            clear hO9 hx9 hy9 hU9 hZ9 hS9 hg9 hN9 e910 e49 e09
            cases hoth : oi.other
            all_goals
              simp only [opxC, hoth] at hO10
              repeat' (first | (with_reducible (first | refine' wp_seq ?_ | refine' wp_region_lit ?_ | refine' wpList_nil ?_ | refine' then_normal ?_ | refine' in_normal ?_)) | ((with_reducible refine' c_condT ?hx ?_); (case hx => rfl)) | ((with_reducible refine' c_condF ?hx ?_); (case hx => rfl)) | ((with_reducible refine' l_step ?_); ((first | (with_reducible refine' g_move ?_) | (with_reducible refine' g_assign ?_) | ((with_reducible refine' g_fieldAddr ?hx ?ho ?_); (case hx => rfl); (case ho => rfl)) | ((first | (with_reducible refine' g_loadB ?hx ?hb ?hc ?_) | (with_reducible refine' g_loadS ?hx ?hb ?hn ?_)); (case hx => rfl); (case hb => exact bqq); first | (case hc => rfl) | (case hn => simp only [List.length_cons, List.length_nil]; omega)) | ((with_reducible refine' g_addN ?hx ?hy ?h0 ?h1 ?_); (case hx => rfl); (case hy => rfl); (case h0 => omega); (case h1 => omega))); (conv => arg 5; simp only [zA, zB, ev, lget, zC, zD, zE, zF, zG, zH, zI, zJ, zK, zL, zM, zN]))) | ((first | ((with_reducible refine' e_storeB ?hx ?hy ?hv ?h1 ?hb ?ho ?_); (case hx => rfl); (case hy => ((try simp only [ev, lget]); (try rfl))); (case hv => rfl); (case h1 => rfl)) | ((with_reducible refine' e_storeR ?hx ?hy ?h1 ?hb ?hn ?ho ?_); (case hx => rfl); (case hy => rfl); (case h1 => simp [Value.oneCell']); (case hn => rfl))); (case hb => exact bqq); (case ho => first | (simp only [List.length_cons, List.length_nil]; omega) | omega | (simp; omega) | simp); (try simp only [splice, zA, zB]); intro _ _ _ _))
              rename_i w11 h11 e11 z11
            · exact ⟨_, _, rfl, (by omega : os.length - (i + 1) < os.length - i), by simp only [zA, zB], i + 1, K, ky, D', ls', ms', vI', vL', rfl, by omega, rfl, rfl, hKI, hky, by omega, hS10.evt e11 (fun j h hh => by have h1 := hlow' j h; have h' : j = gx := hh; omega), hlow', h11, hy10.evt e11 (by omega), Evt.next e11 (Evt.next e4_10 ev4 (fun _ _ h => h)) (fun _ _ h => .inr (.inl h))⟩
            · exact ⟨_, _, rfl, (by omega : os.length - (i + 1) < os.length - i), by simp only [zA, zB], i + 1, kx, K, D', ls', ms', vI', vL', rfl, by omega, rfl, rfl, hkx, hKI, by omega, hS10.evt e11 (fun j h hh => by have h1 := hlow' j h; have h' : j = gy := hh; omega), hlow', hx10.evt e11 (by omega), h11, Evt.next e11 (Evt.next e4_10 ev4 (fun _ _ h => h)) (fun _ _ h => .inr (.inr h))⟩
    · obtain rfl : i = os.length := by omega
      repeat' (first | (go_at_call 12; refine (still_any D gS ls ms vI vL _ (hS4.up (by exact eqq))).mono ?_; rintro r wt ⟨rfl, evt⟩; have zt := evt.size; refine ⟨_, rfl, ?_⟩; (conv => arg 5; simp only [zA, zB, ev, lget, zC, zD, zE, zF, zG, zH, zI, zJ, zK, zL, zM, zN])) | (with_reducible (first | refine' wp_seq ?_ | refine' wp_region_lit ?_ | refine' wpList_nil ?_ | refine' then_normal ?_ | refine' wp_ret ?_ | refine' wp_exit ?_ | refine' then_exit ?_ | refine' in_exit ?_)) | ((with_reducible refine' c_condF ?hx ?_); (case hx => rfl)) | ((with_reducible refine' b_ret1 ?hr ?hv ?_); (case hr => rfl); (case hv => ((try simp only [ev, lget]); (try rfl)))) | ((with_reducible refine' l_step ?_); (first | ((first | (with_reducible refine' g_move ?_) | (with_reducible refine' g_assign ?_) | ((with_reducible refine' g_pickT ?hx ?_); (case hx => rfl)) | ((with_reducible refine' g_pickF ?hx ?_); (case hx => rfl)) | ((with_reducible refine' g_lenS ?hx ?_); (case hx => rfl))); (conv => arg 5; simp only [zA, zB, ev, lget, zC, zD, zE, zF, zG, zH, zI, zJ, zK, zL, zM, zN])) | (((with_reducible refine' g_lss ?hx ?hy (fun _ => ?_) (fun _ => ?_)); (case hx => rfl)); (case hy => rfl); all_goals (first | (exfalso; omega) | (conv => arg 5; simp only [zA, zB, ev, lget, zC, zD, zE, zF, zG, zH, zI, zJ, zK, zL, zM, zN]))))) | ((with_reducible refine' l_on ?hw ?_); (case hw => rfl)) | ((with_reducible refine' l_off ?hw ?_); (case hw => rfl); (conv => arg 5; simp only [zA, zB, ev, lget, zC, zD, zE, zF, zG, zH, zI, zJ, zK, zL, zM, zN])) | ((with_reducible refine' l_call TFn.ent ?ha ?_); (case ha => simp only [zC, zD, ev, lget]; (try rfl))))
      exact ⟨rfl, by exact eqq⟩
end Go.Proofs.YthfnlmedelfbnaaDoor
