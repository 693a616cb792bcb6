/- A life: rows of small calls on a box. SHORT NORMX -/
import Derived.Test.YtchfkkliechgoaaNb17
namespace Go.Proofs.Ytchfkkliechgoaa
open Go.RowKit Go.Proofs.YtchfkkliechgoaaE
set_option linter.unusedSimpArgs false
set_option linter.unusedVariables false
set_option maxRecDepth 4000

structure Sm where
  kind : Int
  id : Int
  wait : Int
  body : List Int
  A : Option Addr
  c : Nat
@[reducible] def smC (o : Sm) : List Value := [.int .i64 o.kind, .int .i64 o.id, .int .i64 o.wait, .slice o.A o.body.length o.c]
def smCs (l : List Sm) : List Value := l.flatMap fun m => smC m
structure LifeAt (w : World) (A : Option Addr) (l : List Sm) : Prop where
  row : RC w A (smCs l)
  bod : ∀ o ∈ l, RC w o.A (u8s o.body)
  ok : ∀ o ∈ l, (-9223372036854775808 ≤ o.id ∧ o.id ≤ 9223372036854775807) ∧ (-9223372036854775808 ≤ o.wait ∧ o.wait ≤ 9223372036854775807) ∧ o.body.length ≤ 140737488351232
theorem LifeAt.up {w w' : World} {A : Option Addr} {l : List Sm} (h : LifeAt w A l) (he : Evt (fun _ => False) w w') : LifeAt w' A l := ⟨h.row.up he, fun m hm => (h.bod m hm).up he, h.ok⟩
theorem cell_blt {w : World} {a : Addr} {v : Value} (h : w.cell? a = some v) : a.block < w.heap.size := by
  rcases Nat.lt_or_ge a.block w.heap.size with h1 | h1
  · exact h1
  · exfalso
    unfold World.cell? at h
    rw [Array.getElem?_eq_none h1] at h
    simp at h
theorem RC.over {w0 w w' : World} {A : Option Addr} {cs : List Value} (h : RC w0 A cs) (h0 : Evt (fun _ => False) w0 w) (he : Evt (fun k => w0.heap.size ≤ k) w w') : RC w' A cs := h.up (Evt.next he h0 (fun i hi hh => by have h' : w0.heap.size ≤ i := hh; omega))
/-- A cell of a life, read where only new blocks have been written. -/
theorem LifeAt.at_ {wB w : World} {A : Option Addr} {l : List Sm} (h : LifeAt wB A l) (hev : Evt (fun _ => False) wB w) {i : Nat} (hi : i < l.length) : ∃ b o, A = some ⟨b, o, none⟩ ∧ ∀ w', Evt (fun k => wB.heap.size ≤ k) w w' → ∀ j v, (smC l[i])[j]? = some v → w'.cell? ⟨b, o + i * 4 + j, none⟩ = some v := by
  obtain ⟨b, o, hA, hc⟩ := RC.flat (f := smC) (sz := 4) (fun _ => rfl) h.row (by omega) hi
  exact ⟨b, o, hA, fun w' he j v hj => hc w' (Evt.next he hev (fun i hi hh => by have h' : wB.heap.size ≤ i := hh; omega)) j v hj⟩
theorem NB.base {w00 w0 w : World} {gb n : Nat} {p : Pol} {l : List Ep} (h : NB w0 w gb n p l) (hle : w00.heap.size ≤ w0.heap.size) : NB w00 w gb n p l := by
  obtain ⟨F, L, h1, h2, h3, h4⟩ := h
  exact ⟨F, L, h1, h2, h3, fun k hk => Nat.le_trans hle (h4 k hk)⟩
def liveP (p : Pol) (s : List Ep × Int) (o : Sm) : List Ep × Int :=
  (if o.kind = 1 then (addP s.1 o.id o.body (tickP s.2 o.wait)).1 else if o.kind = 2 then ackP s.1 o.id else if o.kind = 3 then s.1.map (duP p (tickP s.2 o.wait)) else s.1, tickP s.2 o.wait)
def livesP (p : Pol) (life : List Sm) : List Ep × Int := (life.take 2000).foldl (liveP p) ([], 0)
theorem tickP_in {now wait : Int} {i : Nat} (h : 0 ≤ now ∧ now ≤ 1000 * i) : 0 ≤ tickP now wait ∧ tickP now wait ≤ 1000 * ((i + 1 : Nat) : Int) ∧ now ≤ tickP now wait := by
  unfold tickP
  split <;> omega
theorem add_nbT (w0 w : World) (gb n : Nat) (p : Pol) (l : List Ep) (nid now : Int) (body : List Int) (A0 : Option Addr) (c0 : Nat) (h0 : NB w0 w gb n p l) (he0 : Evt (fun _ => False) w0 w) (hrc : RC w A0 (u8s body)) (hbl : body.length ≤ 140737488351232) (hid : -9223372036854775808 ≤ nid ∧ nid ≤ 9223372036854775807) (hn : n < 1000000000000) :
    Calls Try.prog 16 #[.pointer (some ⟨gb, 0, none⟩), .int .i64 nid, .slice A0 body.length c0, .int .i64 now] w fun e w' => e = .returned (.int .i64 (addP l nid body now).2) ∧ NB w0 w' gb (n + 1) p (addP l nid body now).1 ∧ Evt (fun k => w0.heap.size ≤ k) w w' := by
  obtain ⟨F, L, h1, rfl, h3, h4⟩ := h0
  refine (add_any w F gb n p L nid now body A0 c0 h1 hrc hbl hid hn).mono ?_
  rintro e w' ⟨F', L', rfl, h5, h6, h7, h8, h9⟩
  exact ⟨rfl, ⟨F', L', h5, h6, by omega, fun k hk => by rcases h8 k hk with h | h; exact h4 k h; have := he0.size; omega⟩, h9.mono (fun k _ hk => h4 k hk)⟩
set_option maxHeartbeats 4000000 in
theorem lives_any (p : Pol) (A B : Option Addr) (c cB n0 : Nat) (life : List Sm) (w : World) (hr : RI w A p.hs) (hsz : p.hs.length * 8 ≤ 140737488351232) (hlf : LifeAt w B life) (hn0 : life.length = n0) (hn1 : n0 ≤ 9223372036854775807) :
    Calls Try.prog 21 #[.agg (polC p A c).toArray, .slice B n0 cB] w fun e w' => ∃ gb n, e = .returned (.tuple #[.pointer (some ⟨gb, 0, none⟩), .int .i64 (livesP p life).2]) ∧ NB w w' gb n p (livesP p life).1 ∧ n ≤ 2000 ∧ (0 ≤ (livesP p life).2 ∧ (livesP p life).2 ≤ 2000000) ∧ Evt (fun _ => False) w w' := by
  subst hn0
  go_enter Try.func21, Try.ntmps21
  repeat' (first | (with_reducible refine' stop_reg (id := 1) ?_) | (with_reducible (first | refine' wp_seq ?_ | refine' wp_region_lit ?_ | refine' wpList_nil ?_ | refine' then_normal ?_)) | ((with_reducible refine' l_step ?_); ((with_reducible refine' g_assign ?_); (conv => arg 5; simp only [zA, zB, ev, lget, zC, zD, zE, zF, zG, zH, zI, zJ, zK, zL, zM, zN, zO]))) | (((with_reducible refine' e_boxA ?hx ?_); (case hx => rfl)); intro _ _ _ _ _ _ _; (conv => arg 5; simp only [zA, zB, ev, lget, zC, zD, zE, zF, zG, zH, zI, zJ, zK, zL, zM, zN, zO])))
  rename_i gp wB c1 c2 hgp0 evB zB_
  refine stop_go ?_
  repeat' (first | (go_at_call 14; refine (own_any p A c _ (hr.up (by exact eqq)) hsz).mono ?_; rintro e wO ⟨VO, dO, rfl, hoO, hnO, evO⟩; have zO_ := evO.size; have hrO := own_ri hoO (by omega); refine ⟨_, rfl, ?_⟩; (conv => arg 5; simp only [zA, zB, ev, lget, zC, zD, zE, zF, zG, zH, zI, zJ, zK, zL, zM, zN, zO])) | (go_at_call 13; refine (new_nb wB p VO dO _ hrO hsz (by exact eqq)).mono ?_; rintro e wN ⟨gb, rfl, hbox, evN⟩; have zN_ := evN.size; refine ⟨_, rfl, ?_⟩; (conv => arg 5; simp only [zA, zB, ev, lget, zC, zD, zE, zF, zG, zH, zI, zJ, zK, zL, zM, zN, zO])) | (with_reducible (first | refine' wp_seq ?_ | refine' wp_region_lit ?_ | refine' wpList_nil ?_ | refine' then_normal ?_ | refine' wp_block ?_)) | ((with_reducible refine' l_step ?_); ((first | (with_reducible refine' g_assign ?_) | ((with_reducible refine' g_loadS ?hx ?hb ?hn ?_); (case hx => rfl); (case hb => exact bqq); first | (case hc => rfl) | (case hn => simp only [List.length_cons, List.length_nil]; omega))); (conv => arg 5; simp only [zA, zB, ev, lget, zC, zD, zE, zF, zG, zH, zI, zJ, zK, zL, zM, zN, zO]))) | ((with_reducible refine' l_call TFn.ent ?ha ?_); (case ha => simp only [zC, zD, ev, lget]; (try rfl))))
  have hevN : Evt (fun _ => False) wB wN := by exact eqq
  have hlfB := hlf.up evB
  have c3 : w.heap.size ≤ wB.heap.size := evB.size
  refine' s_loop [7, 8, 12, 13, 14, 15, 16, 17, 18, 19, 20, 21, 22, 23, 24, 25, 26, 27, 28, 29, 30, 31, 32, 33, 34, 35, 36, 37, 38, 39, 40, 41, 42, 43, 44, 45, 46, 47, 48, 49, 50, 51, 52, 53, 54, 55, 56, 57, 58, 59, 60, 61, 62, 63, 64, 65, 66] (fun m u w' => ∃ (i n : Nat) (s : List Ep × Int), m = life.length - i ∧ i ≤ life.length ∧ i ≤ 2000 ∧ n ≤ i ∧ s = (life.take i).foldl (liveP p) ([], 0) ∧ u 8 = .int .i64 i ∧ u 7 = .int .i64 s.2 ∧ (0 ≤ s.2 ∧ s.2 ≤ 1000 * (i : Int)) ∧ NB wB w' gb n p s.1 ∧ Evt (fun _ => False) wB w') life.length ?h0 ?round
  case h0 => exact ⟨0, 0, ([], 0), rfl, by omega, by omega, by omega, rfl, rfl, rfl, by omega, hbox, hevN⟩
  case round =>
    rintro m u w3 ⟨i, n, s, rfl, hi, hi2, hni, hs, h8, h7, hnow, hbox, hev⟩
    simp only [setW, List.foldl_cons, List.foldl_nil, List.set_cons_succ, List.set_cons_zero]
    simp only [h8, h7]
    have hz := hev.size
    clear evO evN hevN
    by_cases hlt : i < life.length ∧ i < 2000
    · obtain ⟨hlt, hlt2⟩ := hlt
      obtain ⟨b, o, rfl, hcellE⟩ := hlfB.at_ hev hlt
      have hok := hlf.ok life[i] (List.getElem_mem hlt)
      have hrx := (hlfB.bod life[i] (List.getElem_mem hlt)).up hev
      have hs' : (life.take (i + 1)).foldl (liveP p) ([], 0) = liveP p s life[i] := by rw [List.take_succ_eq_append_getElem hlt, List.foldl_append, ← hs]; rfl
      have hti := tickP_in (wait := life[i].wait) hnow
      have hbB : b < wB.heap.size := by
        have h1 := RC.flat (f := smC) (sz := 4) (fun _ => rfl) hlfB.row (by omega) hlt
        obtain ⟨b', o', hA, hc⟩ := h1
        cases hA
        exact cell_blt (hc wB (Evt.refl _ _) 0 _ rfl)
      have hlb : ∀ k, wB.heap.size ≤ k → wB.heap.size ≤ k := fun _ h => h
      generalize life[i] = mi at *
      have hK1 : mi.kind = 1 → liveP p s mi = ((addP s.1 mi.id mi.body (tickP s.2 mi.wait)).1, tickP s.2 mi.wait) := fun h => by rw [liveP, if_pos h]
      have hK2 : mi.kind = 2 → liveP p s mi = (ackP s.1 mi.id, tickP s.2 mi.wait) := fun h => by rw [liveP, if_neg (by omega), if_pos h]
      have hK3 : mi.kind = 3 → liveP p s mi = (s.1.map (duP p (tickP s.2 mi.wait)), tickP s.2 mi.wait) := fun h => by rw [liveP, if_neg (by omega), if_neg (by omega), if_pos h]
      have hK0 : ¬ mi.kind = 1 → ¬ mi.kind = 2 → ¬ mi.kind = 3 → liveP p s mi = (s.1, tickP s.2 mi.wait) := fun h1 h2 h3 => by rw [liveP, if_neg h1, if_neg h2, if_neg h3]
      repeat' (first | ((with_reducible refine' l_step ?_); (with_reducible refine' g_neqPS ?hx ?hy ?_); (case hx => rfl); (case hy => rfl); (conv => arg 5; simp only [zA, zB, ev, lget, zC, zD, zE, zF, zG, zH, zI, zJ, zK, zL, zM, zN, zO])) | (go_at_call 25; refine (tick_any s.2 mi.wait _ (by omega) hok.2.1).mono ?_; rintro e wK ⟨rfl, evK⟩; have zK_ := evK.size; refine ⟨_, rfl, ?_⟩; (conv => arg 5; simp only [zA, zB, ev, lget, zC, zD, zE, zF, zG, zH, zI, zJ, zK, zL, zM, zN, zO])) | ((with_reducible refine' w_tree (id := 9) (fun k => wB.heap.size ≤ k) (.pure 0 (.pure 1 (.pure 2 (.pure 3 (.pure 4 (.pure 5 (.pure 6 (.pure 7 (.pure 8 (.pure 9 (.pure 10 (.pure 11 (.one 12 .done))))))))))))) [40, 41, 42, 43, 44, 45, 46, 47, 48, 49, 50, 51, 52] (fun u w' => NB wB w' gb (n + 1) p (addP s.1 mi.id mi.body (tickP s.2 mi.wait)).1) ?hm ?hn ?hl ?hB ?ta9 ?tb9); (case hm => kernel_rfl); (case hn => kernel_rfl); (case hl => kernel_rfl); (case hB => kernel_rfl); intro _ _ _) | ((with_reducible refine' tt_pure ?hi ?hv ?_); (case hi => rfl); (case hv => intro _ hqS; have hqz := hqS.size; ((first | (with_reducible refine' g_move ?_) | ((with_reducible refine' g_fieldAddr ?hx ?ho ?_); (case hx => rfl); (case ho => rfl)) | ((with_reducible refine' g_loadC ?hx ?hc ?_); (case hx => rfl); (case hc => first | exact hcellE _ (by exact eqq) 0 _ rfl | exact hcellE _ (by exact eqq) _ _ rfl | exact hcellF _ (by exact eqq) 0 _ rfl | exact hcellF _ (by exact eqq) _ _ rfl)) | ((with_reducible refine' g_indexAddr ?hx ?hy ?h0 ?h1 ?_); (case hx => rfl); (case hy => rfl); (case h0 => omega); (case h1 => omega))); exact rfl)); (conv => arg 6; simp only [zA, zB, ev, lget, zC, zD, zE, zF, zG, zH, zI, zJ, zK, zL, zM, zN, zO])) | ((with_reducible refine' tt_one ?hi ?_); (case hi => rfl)) | ((with_reducible refine' tt_done ?hS ?_); (case hS => exact eqq)) | (with_reducible refine' tt_nil ?_) | (go_at_call 16; refine (add_nbT wB _ gb n p s.1 mi.id (tickP s.2 mi.wait) mi.body mi.A mi.c (hbox.up (by exact eqq)) (by exact eqq) (hrx.up (by exact eqq)) hok.2.2 hok.1 (by omega)).mono ?_; rintro e wD ⟨rfl, hbox1, evD⟩; have zD_ := evD.size; refine ⟨_, rfl, ?_⟩; (conv => arg 5; simp only [zA, zB, ev, lget, zC, zD, zE, zF, zG, zH, zI, zJ, zK, zL, zM, zN, zO])) | (go_at_call 19; refine (ack_nb wB _ gb n p s.1 mi.id (hbox.up (by exact eqq)) (by exact eqq) hok.1).mono ?_; rintro e wD ⟨rfl, hbox1, evD⟩; have zD_ := evD.size; refine ⟨_, rfl, ?_⟩; (conv => arg 5; simp only [zA, zB, ev, lget, zC, zD, zE, zF, zG, zH, zI, zJ, zK, zL, zM, zN, zO])) | (go_at_call 18; refine (due_nb wB _ gb n p s.1 (tickP s.2 mi.wait) (hbox.up (by exact eqq)) (by exact eqq) (by omega) (by omega)).mono ?_; rintro e wD ⟨VQ, dQ, kq, rfl, hbox1, -, -, -, -, evD⟩; have zD_ := evD.size; refine ⟨_, rfl, ?_⟩; (conv => arg 5; simp only [zA, zB, ev, lget, zC, zD, zE, zF, zG, zH, zI, zJ, zK, zL, zM, zN, zO])) | (with_reducible (first | refine' wp_seq ?_ | refine' wp_region_lit ?_ | refine' wpList_nil ?_ | refine' then_normal ?_ | refine' wp_block ?_ | refine' wp_skip ?_ | refine' in_normal ?_)) | ((with_reducible refine' c_condT ?hx ?_); (case hx => rfl)) | ((with_reducible refine' c_condF ?hx ?_); (case hx => rfl)) | ((with_reducible refine' l_step ?_); (first | ((first | (with_reducible refine' g_move ?_) | (with_reducible refine' g_assign ?_) | ((with_reducible refine' g_fieldAddr ?hx ?ho ?_); (case hx => rfl); (case ho => rfl)) | ((with_reducible refine' g_loadC ?hx ?hc ?_); (case hx => rfl); (case hc => first | exact hcellE _ (by exact eqq) 0 _ rfl | exact hcellE _ (by exact eqq) _ _ rfl | exact hcellF _ (by exact eqq) 0 _ rfl | exact hcellF _ (by exact eqq) _ _ rfl)) | ((with_reducible refine' g_addN ?hx ?hy ?h0 ?h1 ?_); (case hx => rfl); (case hy => rfl); (case h0 => omega); (case h1 => omega)) | ((with_reducible refine' g_pickT ?hx ?_); (case hx => rfl)) | ((with_reducible refine' g_lenS ?hx ?_); (case hx => rfl)) | ((with_reducible refine' g_indexAddr ?hx ?hy ?h0 ?h1 ?_); (case hx => rfl); (case hy => rfl); (case h0 => omega); (case h1 => omega))); (conv => arg 5; simp only [zA, zB, ev, lget, zC, zD, zE, zF, zG, zH, zI, zJ, zK, zL, zM, zN, zO])) | ((first | ((with_reducible refine' g_lss ?hx ?hy (fun _ => ?_) (fun _ => ?_)); (case hx => rfl)) | ((with_reducible refine' g_eql ?hx ?hy (fun _ => ?_) (fun _ => ?_)); (case hx => rfl))); (case hy => rfl); all_goals (first | (exfalso; omega) | (conv => arg 5; simp only [zA, zB, ev, lget, zC, zD, zE, zF, zG, zH, zI, zJ, zK, zL, zM, zN, zO]))))) | ((with_reducible refine' l_on ?hw ?_); (case hw => rfl)) | ((with_reducible refine' l_call TFn.ent ?ha ?_); (case ha => simp only [zC, zD, ev, lget]; (try rfl))))
      all_goals try exact ⟨_, rfl, by simp only [setW, List.foldl_cons, List.foldl_nil, List.set_cons_succ, List.set_cons_zero], hbox1⟩
      · rintro u9 w9 ev9 z9 hbox9
        have hevB : Evt (fun _ => False) wB w9 := Evt.next ev9 (Evt.next evK hev (fun _ _ h => h)) (fun j hj hh => by have h' : wB.heap.size ≤ j := hh; omega)
        have hk1 : mi.kind = 1 := by assumption
        simp only [setW, List.foldl_cons, List.foldl_nil, List.set_cons_succ, List.set_cons_zero]
        repeat' (first | (with_reducible (first | refine' wp_region_lit ?_ | refine' wpList_nil ?_ | refine' then_normal ?_ | refine' in_normal ?_)) | ((with_reducible refine' l_step ?_); ((first | (with_reducible refine' g_move ?_) | (with_reducible refine' g_assign ?_) | ((with_reducible refine' g_addN ?hx ?hy ?h0 ?h1 ?_); (case hx => rfl); (case hy => rfl); (case h0 => omega); (case h1 => omega))); (conv => arg 5; simp only [zA, zB, ev, lget, zC, zD, zE, zF, zG, zH, zI, zJ, zK, zL, zM, zN, zO]))))
        exact ⟨_, _, rfl, (by omega : life.length - (i + 1) < life.length - i), by simp only [zA, zB], i + 1, n + 1, _, rfl, by omega, by omega, by omega, (hs'.trans (hK1 hk1)).symm, rfl, rfl, ⟨hti.1, hti.2.1⟩, hbox9, hevB⟩
      · have hk1 : mi.kind = 2 := by assumption
        exact ⟨_, _, rfl, (by omega : life.length - (i + 1) < life.length - i), by simp only [zA, zB], i + 1, n, _, rfl, by omega, by omega, by omega, (hs'.trans (hK2 hk1)).symm, rfl, rfl, ⟨hti.1, hti.2.1⟩, hbox1, evD⟩
      · have hk1 : mi.kind = 3 := by assumption
        exact ⟨_, _, rfl, (by omega : life.length - (i + 1) < life.length - i), by simp only [zA, zB], i + 1, n + 1, _, rfl, by omega, by omega, by omega, (hs'.trans (hK3 hk1)).symm, rfl, rfl, ⟨hti.1, hti.2.1⟩, hbox1, evD⟩
      · exact ⟨_, _, rfl, (by omega : life.length - (i + 1) < life.length - i), by simp only [zA, zB], i + 1, n, _, rfl, by omega, by omega, by omega, (hs'.trans (hK0 (by assumption) (by assumption) (by assumption))).symm, rfl, rfl, ⟨hti.1, hti.2.1⟩, hbox.up (by exact eqq), by exact eqq⟩
    · have hfin : life.take i = life.take 2000 := by
        rcases Nat.lt_or_ge i life.length with h1 | h1
        · obtain rfl : i = 2000 := by omega
          rfl
        · rw [List.take_of_length_le (by omega), List.take_of_length_le (by omega)]
      have hsl : s = livesP p life := by rw [hs, hfin]; rfl
      subst hsl
      repeat' (first | (with_reducible (first | refine' wp_seq ?_ | refine' wp_region_lit ?_ | refine' wpList_nil ?_ | refine' then_normal ?_ | refine' wp_ret ?_ | refine' wp_exit ?_ | refine' then_exit ?_ | refine' in_exit ?_)) | ((with_reducible refine' c_condF ?hx ?_); (case hx => rfl)) | ((with_reducible refine' b_ret2 ?hr ?hv ?hw ?_); (case hr => rfl); (case hv => ((try simp only [ev, lget]); (try rfl))); (case hw => ((try simp only [ev, lget]); (try rfl)))) | ((with_reducible refine' l_step ?_); (first | ((first | (with_reducible refine' g_move ?_) | (with_reducible refine' g_assign ?_) | ((with_reducible refine' g_pickT ?hx ?_); (case hx => rfl)) | ((with_reducible refine' g_pickF ?hx ?_); (case hx => rfl)) | ((with_reducible refine' g_lenS ?hx ?_); (case hx => rfl))); (conv => arg 5; simp only [zA, zB, ev, lget, zC, zD, zE, zF, zG, zH, zI, zJ, zK, zL, zM, zN, zO])) | (((with_reducible refine' g_lss ?hx ?hy (fun _ => ?_) (fun _ => ?_)); (case hx => rfl)); (case hy => rfl); all_goals (first | (exfalso; omega) | (conv => arg 5; simp only [zA, zB, ev, lget, zC, zD, zE, zF, zG, zH, zI, zJ, zK, zL, zM, zN, zO]))))) | ((with_reducible refine' l_on ?hw ?_); (case hw => rfl)) | ((with_reducible refine' l_off ?hw ?_); (case hw => rfl); (conv => arg 5; simp only [zA, zB, ev, lget, zC, zD, zE, zF, zG, zH, zI, zJ, zK, zL, zM, zN, zO])))
      all_goals exact ⟨gb, n, rfl, hbox.base c3, by omega, ⟨hnow.1, by omega⟩, by exact eqq⟩
end Go.Proofs.Ytchfkkliechgoaa
