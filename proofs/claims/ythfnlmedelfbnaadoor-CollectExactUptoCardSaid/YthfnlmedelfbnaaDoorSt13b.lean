/- A step on both. SHORT NORMX -/
import Derived.Test.YthfnlmedelfbnaaDoorSt13
namespace Go.Proofs.YthfnlmedelfbnaaDoor
open Go.RowKit Go.Proofs.YthfnlmedelfbnaaDoorE
set_option linter.unusedSimpArgs false
set_option linter.unusedVariables false

theorem ri_of_rg {w : World} {G : Nat → Prop} {A : Option Addr} {xs : List Int} (h : RG w G A (ints xs)) (hl : xs.length ≤ 1048576) : RI w A xs := by
  refine ⟨by omega, fun h0 => ?_⟩
  obtain ⟨b, o, hA, _, hc⟩ := h (by rw [ints_length]; exact h0)
  exact ⟨b, o, hA, fun j x hj => hc j _ (by rw [ints, List.getElem?_map, hj]; rfl)⟩
/-- Behind a step on both. -/
structure SteppedAt (w w' : World) (D : Nat → Prop) (gS : Nat) (ls ms : List Sl) (vI vL : Value) (D' : Nat → Prop) (ls' ms' : List Sl) (vI' vL' : Value) : Prop where
  shelf : ShelfV w' D' gS ls' ms' vI' vL'
  more : ls'.length = ls.length + 2
  low : ∀ k, Shl D' gS vI' vL' k → Shl D gS vI vL k ∨ w.heap.size ≤ k
  evt : Evt (Shl D gS vI vL) w w'
set_option maxRecDepth 20000 in
set_option maxHeartbeats 8000000 in
theorem stepped_any (p : Pol) (A : Option Addr) (c : Nat) (k : Cas) (e : Evn) (D H : Nat → Prop) (gS : Nat) (ls ms : List Sl) (vI vL : Value) (w : World) (hg : RG w H A (ints p.hs)) (hsz : p.hs.length ≤ 1048576) (hH : ∀ j, H j → ¬ Shl D gS vI vL j ∧ j < w.heap.size) (hS : ShelfV w D gS ls ms vI vL) (hb : ls.length + 2 ≤ 1000000000000) (hv : e.wf) (hk : CaseOk k) (hln : (stepP p k e).2.1.length ≤ 4) :
    Calls Tryd.prog 11 #[.agg (polC p A c).toArray, .agg (pairC k k).toArray, .agg (evnC e).toArray, .pointer (some ⟨gS, 0, none⟩)] w fun r w' => r = .returned (.tuple #[.agg (pairC (stepP p k e).1 (stepP p k e).1).toArray, .bool true]) ∧ ∃ D' ls' ms' vI' vL', SteppedAt w w' D gS ls ms vI vL D' ls' ms' vI' vL' := by
  have hlS := hS.slt
  have hr := ri_of_rg hg hsz
  have hst := fun w A c hr => step_any p A c k e w hr hv
  have hrf := fun w hr => refStep_r p A c k e w hr hv hk
  have hslen : (stepP p k e).2.1.length ≤ 1000000000 := by omega
  obtain ⟨K, hK⟩ : ∃ K, stepP p k e = K := ⟨_, rfl⟩
  rw [hK]
  rw [hK] at hslen
  simp only [hK] at hst hrf
  go_enter Tryd.func11, Tryd.ntmps11
  repeat' (first | (with_reducible refine' stop_reg (id := 3) ?_) | (go_at_call 16; refine (lawOwn_own p A c _ (hr.up (by exact eqq)) hsz).mono ?_; rintro r wo ⟨VT, dT, rfl, hoT, hnT, evo⟩; have zo := evo.size; have hrT := RI_of_own hoT hr.1; refine ⟨_, rfl, ?_⟩; simp only [polC]; (conv => arg 5; simp only [zA, zB, ev, lget, zC, zD, zE, zF, zG, zH, zI, zJ, zK, zL, zM, zN])) | (go_at_call 20; refine (hst _ VT dT (hrT.up (by exact eqq))).mono ?_; rintro r ws1 ⟨vs, rfl, hos1, evs1⟩; have zs1 := evs1.size; obtain ⟨VS1, dS1, hVS⟩ := own_slice hos1.row; subst hVS; refine ⟨_, rfl, ?_⟩; simp only [casC]; (conv => arg 5; simp only [zA, zB, ev, lget, zC, zD, zE, zF, zG, zH, zI, zJ, zK, zL, zM, zN])) | (with_reducible (first | refine' wp_seq ?_ | refine' wp_region_lit ?_ | refine' wpList_nil ?_ | refine' then_normal ?_)) | ((with_reducible refine' l_step ?_); ((first | (with_reducible refine' g_move ?_) | (with_reducible refine' g_assign ?_) | ((with_reducible refine' g_fieldAddr ?hx ?ho ?_); (case hx => rfl); (case ho => rfl)) | ((with_reducible refine' g_loadS ?hx ?hb ?hn ?_); (case hx => rfl); (case hb => exact bqq); first | (case hc => rfl) | (case hn => simp only [List.length_cons, List.length_nil]; omega)) | ((with_reducible refine' g_extract ?hx ?hv ?_); (case hx => rfl); (case hv => rfl))); (conv => arg 5; simp only [zA, zB, ev, lget, zC, zD, zE, zF, zG, zH, zI, zJ, zK, zL, zM, zN]))) | ((first | ((with_reducible refine' e_boxA ?hx ?_); (case hx => rfl)) | ((with_reducible refine' e_alloc ?hx ?_); (case hx => rfl))); intro _ _ _ _ _ _ _; (conv => arg 5; simp only [zA, zB, ev, lget, zC, zD, zE, zF, zG, zH, zI, zJ, zK, zL, zM, zN])) | ((first | ((with_reducible refine' e_storeB ?hx ?hy ?hv ?h1 ?hb ?ho ?_); (case hx => rfl); (case hy => ((try simp only [ev, lget]); (try rfl))); (case hv => rfl); (case h1 => rfl)) | ((with_reducible refine' e_storeR ?hx ?hy ?h1 ?hb ?hn ?ho ?_); (case hx => rfl); (case hy => rfl); (case h1 => simp [Value.oneCell']); (case hn => rfl))); (case hb => exact bqq); (case ho => first | (simp only [List.length_cons, List.length_nil]; omega) | omega | (simp; omega) | simp); (try simp only [splice, zA, zB]); intro _ _ _ _) | ((with_reducible refine' l_call TFn.ent ?ha ?_); (case ha => simp only [zC, zD, ev, lget]; (try rfl))))
  refine stop_go ?_
  rename_i gp wp a1 a2 hp ep zp gx wx b1 b2 hx ex zx ge we c1 c2 he ee ze gr wr d1 d2 hr0 er zr gt wt f1 f2 ht0 et0 zt w5 h5 e5 z5 gc wc g1 g2 hc0 ec0 zc w6 h6 e6 z6
  have e0r : Evt (fun _ => False) w wr := Evt.next er (Evt.next ee (Evt.next ex ep (fun _ _ h => h)) (fun _ _ h => h)) (fun _ _ h => h)
  have eo5 : Evt (fun _ => False) wo w5 := Evt.next e5 et0 (fun i hi hh => by have h' : i = gt := hh; omega)
  have e1s6 : Evt (fun _ => False) ws1 w6 := Evt.next e6 ec0 (fun i hi hh => by have h' : i = gc := hh; omega)
  have e56 : Evt (fun _ => False) w5 w6 := Evt.next e1s6 evs1 (fun _ _ h => h)
  have eo6 : Evt (fun _ => False) wo w6 := Evt.next e56 eo5 (fun _ _ h => h)
  have er6 : Evt (fun _ => False) wr w6 := Evt.next eo6 evo (fun _ _ h => h)
  have e06 : Evt (fun _ => False) w w6 := Evt.next er6 e0r (fun _ _ h => h)
  have hp6 : Blk w6 gp 24 (polC p A c) := (((hp.evt ex (fun h => h)).evt ee (fun h => h)).evt er (fun h => h)).evt er6 (fun h => h)
  have hx6 : Blk w6 gx 29 (pairC k k) := ((hx.evt ee (fun h => h)).evt er (fun h => h)).evt er6 (fun h => h)
  have he6 : Blk w6 ge 37 (evnC e) := (he.evt er (fun h => h)).evt er6 (fun h => h)
  have hr6 : Blk w6 gr 29 (pairC zeroC zeroC) := hr0.evt er6 (fun h => h)
  have h5b : Blk w5 gt 24 (polC p VT dT) := h5
  have ht6 := h5b.evt e56 (fun h => h)
  have hc6 : Blk w6 gc 27 (casC K.1) := h6
  have hoT6 := own_evt eo6 hoT (fun _ _ h => h)
  have hlT := own_lt hoT
  have hrT6 := hrT.up eo6
  have hrA6 := hr.up e06
  have hrow1 := own_evt e1s6 hos1.row (fun _ _ h => h)
  have hn1 := hos1.new
  have hl1 := own_lt hos1.row
  have hSw := hS.up e06
  have hg6 : RG w6 H A (ints p.hs) := hg.up e06
  clear hp hx he hr0 ht0 h5b h5 hc0 h6 ep ex ee er et0 e5 ec0 e6 evs1 evo hrT hoT eo5
  have hrT := hrT6
  have hrA := hrA6
  repeat' (first | (with_reducible refine' stop_reg (id := 5) ?_) | (go_at_call 20; refine (hst _ VT dT (hrT.up (by exact eqq))).mono ?_; rintro r ws2 ⟨vs, rfl, hos2, evs2⟩; have zs2 := evs2.size; obtain ⟨VS2, dS2, hVS⟩ := own_slice hos2.row; subst hVS; refine ⟨_, rfl, ?_⟩; simp only [casC]; (conv => arg 5; simp only [zA, zB, ev, lget, zC, zD, zE, zF, zG, zH, zI, zJ, zK, zL, zM, zN])) | (go_at_call 21; refine (hrf _ (hrA.up (by exact eqq))).mono ?_; rintro r wf ⟨vf, rfl, hof, evf⟩; have zf := evf.size; obtain ⟨VF, dF, hVF⟩ := own_slice hof.row; subst hVF; refine ⟨_, rfl, ?_⟩; simp only [casC]; (conv => arg 5; simp only [zA, zB, ev, lget, zC, zD, zE, zF, zG, zH, zI, zJ, zK, zL, zM, zN])) | (with_reducible (first | refine' wp_seq ?_ | refine' wp_region_lit ?_ | refine' wpList_nil ?_ | refine' then_normal ?_)) | ((with_reducible refine' l_step ?_); ((first | (with_reducible refine' g_move ?_) | (with_reducible refine' g_assign ?_) | ((with_reducible refine' g_fieldAddr ?hx ?ho ?_); (case hx => rfl); (case ho => rfl)) | ((with_reducible refine' g_loadS ?hx ?hb ?hn ?_); (case hx => rfl); (case hb => exact bqq); first | (case hc => rfl) | (case hn => simp only [List.length_cons, List.length_nil]; omega)) | ((with_reducible refine' g_extract ?hx ?hv ?_); (case hx => rfl); (case hv => rfl))); (conv => arg 5; simp only [zA, zB, ev, lget, zC, zD, zE, zF, zG, zH, zI, zJ, zK, zL, zM, zN]))) | (((with_reducible refine' e_alloc ?hx ?_); (case hx => rfl)); intro _ _ _ _ _ _ _; (conv => arg 5; simp only [zA, zB, ev, lget, zC, zD, zE, zF, zG, zH, zI, zJ, zK, zL, zM, zN])) | ((first | ((with_reducible refine' e_storeB ?hx ?hy ?hv ?h1 ?hb ?ho ?_); (case hx => rfl); (case hy => ((try simp only [ev, lget]); (try rfl))); (case hv => rfl); (case h1 => rfl)) | ((with_reducible refine' e_storeR ?hx ?hy ?h1 ?hb ?hn ?ho ?_); (case hx => rfl); (case hy => rfl); (case h1 => simp [Value.oneCell']); (case hn => rfl))); (case hb => exact bqq); (case ho => first | (simp only [List.length_cons, List.length_nil]; omega) | omega | (simp; omega) | simp); (try simp only [splice, zA, zB]); intro _ _ _ _) | ((with_reducible refine' l_call TFn.ent ?ha ?_); (case ha => simp only [zC, zD, ev, lget]; (try rfl))))
  refine stop_go ?_
  rename_i g14 w14 i1 i2 h14 e14 z14 w15 h15 e15 z15 gd wd j1 j2 hd0 ed0 zd w7 h7 e7 z7
  have e2s15 : Evt (fun _ => False) ws2 w15 := Evt.next e15 e14 (fun i hi hh => by have h' : i = g14 := hh; omega)
  have ef7 : Evt (fun _ => False) wf w7 := Evt.next e7 ed0 (fun i hi hh => by have h' : i = gd := hh; omega)
  have e2s7 : Evt (fun _ => False) ws2 w7 := Evt.next ef7 (Evt.next evf e2s15 (fun _ _ h => h)) (fun _ _ h => h)
  have e67 : Evt (fun _ => False) w6 w7 := Evt.next e2s7 evs2 (fun _ _ h => h)
  have hp7 := hp6.evt e67 (fun h => h)
  have hx7 := hx6.evt e67 (fun h => h)
  have he7 := he6.evt e67 (fun h => h)
  have hr7 := hr6.evt e67 (fun h => h)
  have ht7 := ht6.evt e67 (fun h => h)
  have hc7 := hc6.evt e67 (fun h => h)
  have hd7 : Blk w7 gd 27 (casC K.1) := h7
  have hoT7 := own_evt e67 hoT6 (fun _ _ h => h)
  have hrow17 := own_evt e67 hrow1 (fun _ _ h => h)
  have hrow27 := own_evt e2s7 hos2.row (fun _ _ h => h)
  have hrowF7 := own_evt ef7 hof.row (fun _ _ h => h)
  have hn2 := hos2.new
  have hnF := hof.new
  have hl2 := own_lt hos2.row
  have hlF := own_lt hof.row
  have hS7 := hSw.up e67
  have hg7 : RG w7 H A (ints p.hs) := hg6.up e67
  have e07 : Evt (fun _ => False) w w7 := Evt.next e67 e06 (fun _ _ h => h)
  clear hp6 hx6 he6 hr6 ht6 hc6 hoT6 hrow1 hSw hg6 hrT hrA hrT6 hrA6 h14 e14 h15 e15 hd0 ed0 h7 e7 evs2 evf e67 e2s7 ef7 e2s15
  have hri1 := RI_of_own hrow17 (by omega)
  have hri2 := RI_of_own hrow27 (by omega)
  have hriF := RI_of_own hrowF7 (by omega)
  have hriT := RI_of_own hoT7 hr.1
  have hriA := hr.up e07
  have hD1 : ∀ j, (Value.slice VS1 K.2.1.length dS1).ownBlock = some j → ¬ D j := fun j hj hd => by
    have h1 := hn1 j hj; have h2 := hlS j (.inl hd); omega
  repeat' (first | (with_reducible refine' stop_reg (id := 7) ?_) | ((with_reducible refine' l_step ?_); (with_reducible refine' g_eqlS ?hx ?hy ?hxs ?hys (fun _ => ?_) (fun c => absurd rfl c)); (case hx => rfl); (case hy => rfl); (case hxs => rfl); (case hys => rfl); (conv => arg 5; simp only [zA, zB, ev, lget, zC, zD, zE, zF, zG, zH, zI, zJ, zK, zL, zM, zN])) | (go_at_call 18; (with_reducible refine (sameActs_any VS1 VF dS1 dF K.2.1.length K.2.1.length K.2.1 K.2.1 _ (hri1.up (by exact eqq)) (hriF.up (by exact eqq)) rfl rfl).mono ?_); rintro r wm1 ⟨rfl, evm1⟩; have zm1 := evm1.size; rw [decide_eq_true rfl]; refine ⟨_, rfl, ?_⟩; (conv => arg 5; simp only [zA, zB, ev, lget, zC, zD, zE, zF, zG, zH, zI, zJ, zK, zL, zM, zN])) | (go_at_call 18; (with_reducible refine (sameActs_any VT A dT c p.hs.length p.hs.length p.hs p.hs _ (hriT.up (by exact eqq)) (hriA.up (by exact eqq)) rfl rfl).mono ?_); rintro r wm2 ⟨rfl, evm2⟩; have zm2 := evm2.size; rw [decide_eq_true rfl]; refine ⟨_, rfl, ?_⟩; (conv => arg 5; simp only [zA, zB, ev, lget, zC, zD, zE, zF, zG, zH, zI, zJ, zK, zL, zM, zN])) | (go_at_call 19; (refine (put_any D gS ls ms vI vL VS1 K.2.1.length dS1 (ints K.2.1) _ (hS7.up (by exact eqq)) (own_evt (S := fun _ => False) (by exact eqq) hrow17 (fun _ _ h => h)) hD1 hslen (by first | omega | (rw [List.length_append]; simp only [List.length_cons, List.length_nil]; omega))).mono ?_); rintro r wq1 ⟨rfl, s1, t1, vI1, vL1, D1, hS1, hDn1, hIn1, hLn1, evq1⟩; have zq1 := evq1.size; refine ⟨_, rfl, ?_⟩; (conv => arg 5; simp only [zA, zB, ev, lget, zC, zD, zE, zF, zG, zH, zI, zJ, zK, zL, zM, zN])) | (with_reducible (first | refine' wp_seq ?_ | refine' wp_region_lit ?_ | refine' wpList_nil ?_ | refine' then_normal ?_)) | ((with_reducible refine' l_step ?_); (first | ((first | (with_reducible refine' g_move ?_) | (with_reducible refine' g_assign ?_) | ((with_reducible refine' g_fieldAddr ?hx ?ho ?_); (case hx => rfl); (case ho => rfl)) | ((first | (with_reducible refine' g_loadB ?hx ?hb ?hc ?_) | (with_reducible refine' g_loadS ?hx ?hb ?hn ?_)); (case hx => rfl); (case hb => exact bqq); first | (case hc => rfl) | (case hn => simp only [List.length_cons, List.length_nil]; omega)) | ((with_reducible refine' g_pickT ?hx ?_); (case hx => rfl))); (conv => arg 5; simp only [zA, zB, ev, lget, zC, zD, zE, zF, zG, zH, zI, zJ, zK, zL, zM, zN])) | (((with_reducible refine' g_eql ?hx ?hy (fun _ => ?_) (fun _ => ?_)); (case hx => rfl)); (case hy => rfl); all_goals (first | (exfalso; omega) | (conv => arg 5; simp only [zA, zB, ev, lget, zC, zD, zE, zF, zG, zH, zI, zJ, zK, zL, zM, zN]))))) | ((with_reducible refine' l_on ?hw ?_); (case hw => rfl)) | ((with_reducible refine' l_call TFn.ent ?ha ?_); (case ha => simp only [zC, zD, ev, lget]; (try rfl))))
  refine stop_go ?_
  have e7m : Evt (fun _ => False) w7 wm2 := Evt.next evm2 evm1 (fun _ _ h => h)
  have z7m := e7m.size
  have q1 : ∀ j, w.heap.size ≤ j → (j < w5.heap.size ∨ ws1.heap.size ≤ j) → ¬ (j = gS ∨ vI.ownBlock = some j ∨ vL.ownBlock = some j ∨ (Value.slice VS1 K.2.1.length dS1).ownBlock = some j) := by
    rintro j h1 h2 (h | h | h | h)
    · have h3 := hlS gS (.inr (.inl rfl)); omega
    · have h3 := hlS j (.inr (.inr (.inl h))); omega
    · have h3 := hlS j (.inr (.inr (.inr h))); omega
    · have h3 := hn1 j h; have h4 := hl1 j h; omega
  have e7q := Evt.next evq1 (e7m.mono (fun _ _ h => h.elim)) (fun _ _ h => h)
  have hp8 := hp7.evt e7q (q1 gp (by omega) (.inl (by omega)))
  have hx8 := hx7.evt e7q (q1 gx (by omega) (.inl (by omega)))
  have he8 := he7.evt e7q (q1 ge (by omega) (.inl (by omega)))
  have hr8 := hr7.evt e7q (q1 gr (by omega) (.inl (by omega)))
  have ht8 := ht7.evt e7q (q1 gt (by omega) (.inl (by omega)))
  have hc8 := hc7.evt e7q (q1 gc (by omega) (.inr (by omega)))
  have hd8 := hd7.evt e7q (q1 gd (by omega) (.inr (by omega)))
  have hoT8 := own_evt e7q hoT7 (fun j hj => q1 j (by have := hnT j hj; omega) (.inl (by have := hlT j hj; omega)))
  have hrow28 := own_evt e7q hrow27 (fun j hj => q1 j (by have := hn2 j hj; omega) (.inr (by have := hn2 j hj; omega)))
  have hrowF8 := own_evt e7q hrowF7 (fun j hj => q1 j (by have := hnF j hj; omega) (.inr (by have := hnF j hj; omega)))
  have hg8 : RG wq1 H A (ints p.hs) := hg7.evt e7q (fun j _ hj hh => by
    obtain ⟨ha, hb2⟩ := hH j hj
    rcases hh with h | h | h | h
    · exact ha (.inr (.inl h))
    · exact ha (.inr (.inr (.inl h)))
    · exact ha (.inr (.inr (.inr h)))
    · have h3 := hn1 j h; omega) (fun _ h => h)
  have e08 : Evt (Shl D gS vI vL) w wq1 := Evt.next e7q (e07.mono (fun _ _ h => h.elim)) (fun j hj hh => by
    rcases hh with h | h | h | h
    · exact .inr (.inl h)
    · exact .inr (.inr (.inl h))
    · exact .inr (.inr (.inr h))
    · have h3 := hn1 j h; omega)
  have hri28 := RI_of_own hrow28 (by omega)
  have hriF8 := RI_of_own hrowF8 (by omega)
  have hD2 : ∀ j, (Value.slice VS2 K.2.1.length dS2).ownBlock = some j → ¬ D1 j := fun j hj hd => by
    have h1 := hn2 j hj
    have h4 := hl2 j hj
    rcases hDn1 j hd with h | h | h
    · have h2 := hlS j (.inl h); omega
    · have h2 := hl1 j h; omega
    · omega
  clear hp7 hx7 he7 hr7 ht7 hc7 hd7 hoT7 hrow17 hrow27 hrowF7 hS7 hg7 e07 hri1 hri2 hriF hriT hriA e7q e7m evm1 evm2 evq1
  repeat' (first | (with_reducible refine' stop_reg (id := 9) ?_) | (go_at_call 18; (with_reducible refine (sameActs_any VS2 VF dS2 dF K.2.1.length K.2.1.length K.2.1 K.2.1 _ (hri28.up (by exact eqq)) (hriF8.up (by exact eqq)) rfl rfl).mono ?_); rintro r wm3 ⟨rfl, evm3⟩; have zm3 := evm3.size; rw [decide_eq_true rfl]; refine ⟨_, rfl, ?_⟩; (conv => arg 5; simp only [zA, zB, ev, lget, zC, zD, zE, zF, zG, zH, zI, zJ, zK, zL, zM, zN])) | (go_at_call 19; (refine (put_any D1 gS (ls ++ [s1]) (ms ++ [t1]) vI1 vL1 VS2 K.2.1.length dS2 (ints K.2.1) _ (hS1.up (by exact eqq)) (own_evt (S := fun _ => False) (by exact eqq) hrow28 (fun _ _ h => h)) hD2 hslen (by first | omega | (rw [List.length_append]; simp only [List.length_cons, List.length_nil]; omega))).mono ?_); rintro r wq2 ⟨rfl, s2, t2, vI2, vL2, D2, hS2, hDn2, hIn2, hLn2, evq2⟩; have zq2 := evq2.size; refine ⟨_, rfl, ?_⟩; (conv => arg 5; simp only [zA, zB, ev, lget, zC, zD, zE, zF, zG, zH, zI, zJ, zK, zL, zM, zN])) | (with_reducible (first | refine' wp_seq ?_ | refine' wp_region_lit ?_ | refine' wpList_nil ?_ | refine' then_normal ?_)) | ((with_reducible refine' l_step ?_); ((first | (with_reducible refine' g_move ?_) | (with_reducible refine' g_assign ?_) | ((with_reducible refine' g_pickT ?hx ?_); (case hx => rfl))); (conv => arg 5; simp only [zA, zB, ev, lget, zC, zD, zE, zF, zG, zH, zI, zJ, zK, zL, zM, zN]))) | ((with_reducible refine' l_on ?hw ?_); (case hw => rfl)) | ((with_reducible refine' l_call TFn.ent ?ha ?_); (case ha => simp only [zC, zD, ev, lget]; (try rfl))))
  refine stop_go ?_
  have q2 : ∀ j, w.heap.size ≤ j → j < wm2.heap.size → (j < w6.heap.size ∨ ws2.heap.size ≤ j) → ¬ (j = gS ∨ vI1.ownBlock = some j ∨ vL1.ownBlock = some j ∨ (Value.slice VS2 K.2.1.length dS2).ownBlock = some j) := by
    rintro j h1 h0 h2 (h | h | h | h)
    · have h3 := hlS gS (.inr (.inl rfl)); omega
    · rcases hIn1 j h with h4 | h4
      · have h3 := hlS j (.inr (.inr (.inl h4))); omega
      · omega
    · rcases hLn1 j h with h4 | h4
      · have h3 := hlS j (.inr (.inr (.inr h4))); omega
      · omega
    · have h3 := hn2 j h; have h4 := hl2 j h; omega
  have e8q := Evt.next evq2 (evm3.mono (fun _ _ h => h.elim)) (fun _ _ h => h)
  have hp9 := hp8.evt e8q (q2 gp (by omega) (by omega) (.inl (by omega)))
  have hx9 := hx8.evt e8q (q2 gx (by omega) (by omega) (.inl (by omega)))
  have he9 := he8.evt e8q (q2 ge (by omega) (by omega) (.inl (by omega)))
  have hr9 := hr8.evt e8q (q2 gr (by omega) (by omega) (.inl (by omega)))
  have ht9 := ht8.evt e8q (q2 gt (by omega) (by omega) (.inl (by omega)))
  have hc9 := hc8.evt e8q (q2 gc (by omega) (by omega) (.inl (by omega)))
  have hd9 := hd8.evt e8q (q2 gd (by omega) (by omega) (.inr (by omega)))
  have hoT9 := own_evt e8q hoT8 (fun j hj => q2 j (by have := hnT j hj; omega) (by have := hlT j hj; omega) (.inl (by have := hlT j hj; omega)))
  have hg9 : RG wq2 H A (ints p.hs) := hg8.evt e8q (fun j _ hj hh => by
    obtain ⟨ha, hb2⟩ := hH j hj
    rcases hh with h | h | h | h
    · exact ha (.inr (.inl h))
    · rcases hIn1 j h with h4 | h4
      · exact ha (.inr (.inr (.inl h4)))
      · omega
    · rcases hLn1 j h with h4 | h4
      · exact ha (.inr (.inr (.inr h4)))
      · omega
    · have h3 := hn2 j h; omega) (fun _ h => h)
  have e09 : Evt (Shl D gS vI vL) w wq2 := Evt.next e8q e08 (fun j hj hh => by
    rcases hh with h | h | h | h
    · exact .inr (.inl h)
    · rcases hIn1 j h with h4 | h4
      · exact .inr (.inr (.inl h4))
      · omega
    · rcases hLn1 j h with h4 | h4
      · exact .inr (.inr (.inr h4))
      · omega
    · have h3 := hn2 j h; omega)
  have n9 : ∀ j, j < wr.heap.size ∨ wo.heap.size ≤ j → ¬ (Value.slice VT p.hs.length dT).ownBlock = some j := fun j hj hh => by
    have h1 := hnT j hh; have h2 := hlT j hh; omega
  have hlow2 : ∀ j, Shl D2 gS vI2 vL2 j → Shl D gS vI vL j ∨ w5.heap.size ≤ j := fun j hj => by
    rcases hj with h | h | h | h
    · rcases hDn2 j h with h | h | h
      · rcases hDn1 j h with h | h | h
        · exact .inl (.inl h)
        · have h1 := hn1 j h; exact .inr (by omega)
        · exact .inr (by omega)
      · have h1 := hn2 j h; exact .inr (by omega)
      · exact .inr (by omega)
    · exact .inl (.inr (.inl h))
    · rcases hIn2 j h with h | h
      · rcases hIn1 j h with h | h
        · exact .inl (.inr (.inr (.inl h)))
        · exact .inr (by omega)
      · exact .inr (by omega)
    · rcases hLn2 j h with h | h
      · rcases hLn1 j h with h | h
        · exact .inl (.inr (.inr (.inr h)))
        · exact .inr (by omega)
      · exact .inr (by omega)
  have hn2T : ∀ j, Shl D2 gS vI2 vL2 j → ¬ ((Value.slice VT p.hs.length dT).ownBlock = some j ∨ j = gr) := fun j hj hh => by
    rcases hlow2 j hj with h | h
    · have h1 := hlS j h
      rcases hh with h2 | h2
      · have h3 := hnT j h2; omega
      · omega
    · rcases hh with h2 | h2
      · have h3 := hlT j h2; omega
      · omega
  have nHr : ∀ j, H j → ¬ j = gr := fun j hj hh => by have := (hH j hj).2; omega
  have ngp : ¬ ((Value.slice VT p.hs.length dT).ownBlock = some gp ∨ gp = gr) := by
    rintro (h | h)
    · exact n9 gp (.inl (by omega)) h
    · omega
  have ngx : ¬ ((Value.slice VT p.hs.length dT).ownBlock = some gx ∨ gx = gr) := by
    rintro (h | h)
    · exact n9 gx (.inl (by omega)) h
    · omega
  have nge : ¬ ((Value.slice VT p.hs.length dT).ownBlock = some ge ∨ ge = gr) := by
    rintro (h | h)
    · exact n9 ge (.inl (by omega)) h
    · omega
  have ngt : ¬ ((Value.slice VT p.hs.length dT).ownBlock = some gt ∨ gt = gr) := by
    rintro (h | h)
    · exact n9 gt (.inr (by omega)) h
    · omega
  have ngc : ¬ ((Value.slice VT p.hs.length dT).ownBlock = some gc ∨ gc = gr) := by
    rintro (h | h)
    · exact n9 gc (.inr (by omega)) h
    · omega
  have ngd : ¬ ((Value.slice VT p.hs.length dT).ownBlock = some gd ∨ gd = gr) := by
    rintro (h | h)
    · exact n9 gd (.inr (by omega)) h
    · omega
  have ngr := n9 gr (.inl (by omega))
  have nTr : ∀ j, (Value.slice VT p.hs.length dT).ownBlock = some j → ¬ j = gr := fun j hj hh => ngr (hh ▸ hj)
  have z9 := e09.size
  clear hp8 hx8 he8 hr8 ht8 hc8 hd8 hoT8 hrow28 hrowF8 hg8 e08 hri28 hriF8 e8q evm3 evq2 hS1 hDn1 hIn1 hLn1 hDn2 hIn2 hLn2 hn1 hn2 hnF hl1 hl2 hlF hD1 hD2 q1 q2
  repeat' (first | ((with_reducible refine' w_tree (id := 9) (fun j => (Value.slice VT p.hs.length dT).ownBlock = some j ∨ j = gr) (.pure 0 (.pure 1 (.pure 2 (.pure 3 (.pure 4 (.pure 5 (.pure 6 (.pure 7 (.pure 8 (.one 9 (.pure 10 (.one 11 (.pure 12 .done))))))))))))) [9, 82, 83, 84, 85, 86, 87, 88, 89, 90, 91, 92] (fun u w' => u 9 = .bool true ∧ Blk w' gr 29 (pairC K.1 K.1)) ?hm ?hn ?hl ?hB ?ta9 ?tb9); (case hm => kernel_rfl); (case hn => kernel_rfl); (case hl => kernel_rfl); (case hB => kernel_rfl); intro _ _ _) | ((with_reducible refine' tt_pure ?hi ?hv ?_); (case hi => rfl); (case hv => intro _ hqS; have hqz := hqS.size; (first | ((first | (with_reducible refine' g_move ?_) | (with_reducible refine' g_assign ?_) | ((with_reducible refine' g_loadS ?hx ?hb ?hn ?_); (case hx => rfl); (case hb => exact bqq); first | (case hc => rfl) | (case hn => simp only [List.length_cons, List.length_nil]; omega)) | ((with_reducible refine' g_pickT ?hx ?_); (case hx => rfl))); exact rfl) | ((with_reducible refine' g_build ?hl ?hp ?hs ?_); (case hl => rfl); (case hp => rfl); (case hs => rfl); exact rfl))); (conv => arg 6; simp only [zA, zB, ev, lget, zC, zD, zE, zF, zG, zH, zI, zJ, zK, zL, zM, zN, fillL, splice, List.getD_cons_zero, List.getD_cons_succ, Value.cells])) | ((with_reducible refine' tt_on ?hi ?hw ?hv ?_); (case hi => rfl); (case hw => rfl); (case hv => intro _ hqS; have hqz := hqS.size; (((with_reducible refine' g_loadS ?hx ?hb ?hn ?_); (case hx => rfl); (case hb => exact bqq); first | (case hc => rfl) | (case hn => simp only [List.length_cons, List.length_nil]; omega)); exact rfl)); (conv => arg 6; simp only [zA, zB, ev, lget, zC, zD, zE, zF, zG, zH, zI, zJ, zK, zL, zM, zN, fillL, splice, List.getD_cons_zero, List.getD_cons_succ, Value.cells])) | ((with_reducible refine' tt_one ?hi ?_); (case hi => rfl)) | ((with_reducible refine' tt_done ?hS ?_); (case hS => exact eqq)) | (with_reducible refine' tt_nil ?_) | (go_at_call 22; refine (anew_any p A VT c dT k e _ (ri_of_rg (hg9.evt (S := fun j => j = gr) (by exact eqq) (fun j _ hj => nHr j hj) (fun _ h => h)) hsz) hsz (own_evt (S := fun j => j = gr) (by exact eqq) hoT9 nTr) hv hk).mono ?_; rintro r wa ⟨rfl, eva⟩; have za := eva.size; refine ⟨_, rfl, ?_⟩; (conv => arg 5; simp only [zA, zB, ev, lget, zC, zD, zE, zF, zG, zH, zI, zJ, zK, zL, zM, zN])) | (with_reducible refine' wpList_nil ?_) | ((with_reducible refine' l_on ?hw ?_); (case hw => rfl)) | ((first | ((with_reducible refine' e_storeB ?hx ?hy ?hv ?h1 ?hb ?ho ?_); (case hx => rfl); (case hy => ((try simp only [ev, lget]); (try rfl))); (case hv => rfl); (case h1 => rfl)) | ((with_reducible refine' e_storeR ?hx ?hy ?h1 ?hb ?hn ?ho ?_); (case hx => rfl); (case hy => rfl); (case h1 => simp [Value.oneCell']); (case hn => rfl))); (case hb => exact bqq); (case ho => first | (simp only [List.length_cons, List.length_nil]; omega) | omega | (simp; omega) | simp); (try simp only [splice, zA, zB]); intro _ _ _ _) | ((with_reducible refine' l_call TFn.ent ?ha ?_); (case ha => simp only [zC, zD, ev, lget]; (try rfl))))
  all_goals try exact ⟨_, rfl, by simp only [setW, List.foldl_cons, List.foldl_nil, List.set_cons_succ, List.set_cons_zero], rfl, by exact bqq⟩
  rintro u wz evz zz ⟨h9, hbz⟩
  simp only [setW, List.foldl_cons, List.foldl_nil, List.set_cons_succ, List.set_cons_zero]
  simp only [h9]
  clear hp9 hx9 he9 hr9 ht9 hc9 hd9
  repeat' (first | (with_reducible (first | refine' then_normal ?_ | refine' wp_ret ?_)) | ((with_reducible refine' b_retN ?hr ?h2 ?ha ?_); (case hr => rfl); (case h2 => decide); (case ha => first | exact ra_nil | ((first | ((with_reducible refine' ra_tmp ?rv2 ?rh2); (case rv2 => ((try simp only [ev, lget]); (try rfl)))) | ((with_reducible refine' ra_cell ?rp2 ?rt2 ?rq2 ?rn2 ?rh2); (case rp2 => rfl); (case rt2 => infer_instance); (case rq2 => exact bqq); (case rn2 => rfl))); (case rh2 => first | exact ra_nil | ((first | ((with_reducible refine' ra_tmp ?rv1 ?rh1); (case rv1 => ((try simp only [ev, lget]); (try rfl)))) | ((with_reducible refine' ra_cell ?rp1 ?rt1 ?rq1 ?rn1 ?rh1); (case rp1 => rfl); (case rt1 => infer_instance); (case rq1 => exact bqq); (case rn1 => rfl))); (case rh1 => first | exact ra_nil)))))))
  have hSz := hS2.evt evz hn2T
  have e0z : Evt (Shl D gS vI vL) w wz := Evt.next evz e09 (fun j hj hh => by
    rcases hh with h | h
    · have h1 := hnT j h; omega
    · omega)
  exact ⟨rfl, D2, _, _, vI2, vL2, hSz, by simp, fun j hj => (hlow2 j hj).imp id (fun h => by omega), e0z⟩
end Go.Proofs.YthfnlmedelfbnaaDoor
