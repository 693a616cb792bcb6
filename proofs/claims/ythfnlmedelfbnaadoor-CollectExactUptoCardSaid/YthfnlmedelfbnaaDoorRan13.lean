/- Two events on both by Run. SHORT NORMX -/
import Derived.Test.YthfnlmedelfbnaaDoorRrn13
import Derived.Test.YthfnlmedelfbnaaDoorSt13b
namespace Go.Proofs.YthfnlmedelfbnaaDoor
open Go.RowKit Go.Proofs.YthfnlmedelfbnaaDoorE
set_option linter.unusedSimpArgs false
set_option linter.unusedVariables false

section
variable {P : Program} {w : World} {ty : TypeId} {pos : String} {aft : Array Edge} {l : List Value} {d : Option Tmp} {g : Option (Nat × Bool)} {K : Value → Prop}
/-- A block is loaded whole. -/
theorem g_loadW {t t' : TypeId} {x : Operand} {b n : Nat} {os : List Nat} {vs : List Value} (hx : ev l x = .pointer (some ⟨b, 0, none⟩)) [ht : TStruct P t os n] (hb : Blk w b t' vs) (hn : vs.length = n) (h : K (.agg vs.toArray)) : Go1 P ⟨d, .load t x, ty, pos, aft, g⟩ l w K :=
  g_loadR hx hn (fun j u hu => by rw [Nat.zero_add, hb.cell?, hu]) h
end
theorem pair_b (k m : Cas) : Value.agg (fillL [0, 15] (pairC zeroC zeroC) [(0, .agg (casC k).toArray), (1, .agg (casC m).toArray)]).toArray = .agg (pairC k m).toArray := by
  simp only [fillL, splice, List.getD_cons_zero, List.getD_cons_succ, Value.cells, casC, pairC, zeroC, List.set_cons_zero, List.set_cons_succ]
/-- Two events in a row. -/
@[reducible] def evn2 (a b : Evn) : List Value := [.int .i64 a.kind, .int .i64 a.today, .int .i64 a.days, .int .i64 a.amount, .int .i64 b.kind, .int .i64 b.today, .int .i64 b.days, .int .i64 b.amount]
@[reducible] def evn3 (a b : Evn) : List Value := [.int .i64 a.kind, .int .i64 a.today, .int .i64 a.days, .int .i64 a.amount, .int .i64 b.kind, .int .i64 b.today, .int .i64 b.days, .int .i64 b.amount, .int .i64 (-7), .int .i64 0, .int .i64 0, .int .i64 0]
theorem re_two {w : World} {g : Nat} {cs : List Value} {a b : Evn} (h : Blk w g 37 cs) (hc : cs.take 8 = evn2 a b) : RE w (some ⟨g, 0, none⟩) [a, b] := by
  refine ⟨by simp, fun _ => ⟨g, 0, rfl, fun j e hj i v hi => ?_⟩⟩
  have hl := (List.getElem?_eq_some_iff.1 hi).1
  have hl4 : i < 4 := hl
  have hj2 : j < 2 := (List.getElem?_eq_some_iff.1 hj).1
  have h1 := evCells_at [a, b] j i e v hj hi
  have h2 : evCells [a, b] = evn2 a b := rfl
  rw [h2, ← hc, List.getElem?_take, if_pos (by omega)] at h1
  rw [h.cell?, Nat.zero_add]
  exact h1
theorem same_true (V1 V2 : Option Addr) (d1 d2 n : Nat) (xs : List Int) (w : World) (hr : RI w V1 xs) (hs : RI w V2 xs) (hn : xs.length = n) :
    Calls Tryd.prog 18 #[.slice V1 n d1, .slice V2 n d2] w fun e w' => e = .returned (.bool true) ∧ Evt (fun _ => False) w w' := by
  refine (sameActs_any V1 V2 d1 d2 n n xs xs w hr hs hn hn).mono ?_
  rintro e w' ⟨rfl, he⟩
  exact ⟨by rw [decide_eq_true rfl], he⟩
set_option maxRecDepth 20000 in
set_option maxHeartbeats 8000000 in
theorem ran_any (p : Pol) (A : Option Addr) (c : Nat) (k : Cas) (a b : Evn) (D H : Nat → Prop) (gS : Nat) (ls ms : List Sl) (vI vL : Value) (w : World) (hg : RG w H A (ints p.hs)) (hsz : p.hs.length ≤ 1048576) (hH : ∀ j, H j → ¬ Shl D gS vI vL j ∧ j < w.heap.size) (hS : ShelfV w D gS ls ms vI vL) (hb : ls.length + 2 ≤ 1000000000000) (hva : a.wf) (hvb : b.wf) (hk : CaseI k) :
    Calls Tryd.prog 10 #[.agg (polC p A c).toArray, .agg (pairC k k).toArray, .agg (evnC a).toArray, .agg (evnC b).toArray, .pointer (some ⟨gS, 0, none⟩)] w fun r w' => r = .returned (.tuple #[.agg (pairC (runP p k [a, b]).1 (runP p k [a, b]).1).toArray, .bool true]) ∧ ∃ D' ls' ms' vI' vL', SteppedAt w w' D gS ls ms vI vL D' ls' ms' vI' vL' := by
  have hlS := hS.slt
  have hr := ri_of_rg hg hsz
  have hv2 : ∀ e ∈ [a, b], e.wf := by intro e he; simp only [List.mem_cons, List.not_mem_nil, or_false] at he; rcases he with rfl | rfl <;> assumption
  have hv2' : ∀ e ∈ [b, a], e.wf := by intro e he; simp only [List.mem_cons, List.not_mem_nil, or_false] at he; rcases he with rfl | rfl <;> assumption
  have hrun := fun w A c B d0 hr hs => run_any p A c k B [a, b] d0 w hr hs hv2 (by simp)
  have hrun' := fun w A c B d0 hr hs => run_any p A c k B [b, a] d0 w hr hs hv2' (by simp)
  have href := fun w B d0 hr hs => refRun_r p A c k B [a, b] d0 w hr hs hv2 hk (by simp)
  have href' := fun w B d0 hr hs => refRun_r p A c k B [b, a] d0 w hr hs hv2' hk (by simp)
  have hslen := run_len p [a, b] k
  have hslen' := run_len p [b, a] k
  obtain ⟨K, hK⟩ : ∃ K, runP p k [a, b] = K := ⟨_, rfl⟩
  obtain ⟨L, hL⟩ : ∃ K, runP p k [b, a] = K := ⟨_, rfl⟩
  rw [hK]
  rw [hK] at hslen
  rw [hL] at hslen'
  simp only [List.length_cons, List.length_nil, Nat.zero_add, Nat.reduceAdd, Nat.reduceMul] at hslen hslen'
  simp only [hK, hL, List.length_cons, List.length_nil, Nat.zero_add, Nat.reduceAdd] at hrun hrun' href href'
  clear hK hL hv2 hv2'
  go_enter Tryd.func10, Tryd.ntmps10
  repeat' (first | (with_reducible refine' stop_reg (id := 3) ?_) | (with_reducible (first | refine' wp_seq ?_ | refine' wp_region_lit ?_ | refine' wpList_nil ?_ | refine' then_normal ?_)) | ((with_reducible refine' l_step ?_); (first | ((first | (with_reducible refine' g_move ?_) | (with_reducible refine' g_assign ?_) | ((with_reducible refine' g_loadS ?hx ?hb ?hn ?_); (case hx => rfl); (case hb => exact bqq); first | (case hc => rfl) | (case hn => simp only [List.length_cons, List.length_nil]; omega)) | ((with_reducible refine' g_sliceH ?hx ?hy ?h0 ?h1 ?_); (case hx => rfl); (case hy => rfl); (case h0 => omega); (case h1 => omega))); (conv => arg 5; simp only [zA, zB, ev, lget, zC, zD, zE, zF, zG, zH, zI, zJ, zK, zL, zM, zN])) | ((with_reducible refine' g_build ?hl ?hp ?hs ?_); (case hl => rfl); (case hp => rfl); (case hs => rfl); (conv => arg 5; simp only [zA, zB, ev, lget, zC, zD, zE, zF, zG, zH, zI, zJ, zK, zL, zM, zN, fillL, splice, List.getD_cons_zero, List.getD_cons_succ, Value.cells])))) | ((first | ((with_reducible refine' e_boxA ?hx ?_); (case hx => rfl)) | ((with_reducible refine' e_alloc ?hx ?_); (case hx => rfl)) | ((with_reducible refine' e_sliceLit ?hx ?hi ?hv ?hn ?_); (case hx => simp only [zC, zD, ev, lget]; (try rfl)); (case hi => rfl); (case hv => simp [Value.cells]); (case hn => decide); simp only [List.flatMap_cons, List.flatMap_nil, Value.cells, List.cons_append, List.nil_append])); intro _ _ _ _ _ _ _; (conv => arg 5; simp only [zA, zB, ev, lget, zC, zD, zE, zF, zG, zH, zI, zJ, zK, zL, zM, zN])))
  refine stop_go ?_
  rename_i gp wp a1 a2 hp ep zp gx wx b1 b2 hx ex zx ga wa c1 c2 ha ea za gb wb d1 d2 hb0 eb zb gr wr f1 f2 hr0 er zr gf wf i1 i2 hf0 ef zf
  have hpf : Blk wf gp 24 (polC p A c) := by exact bqq
  have hxf : Blk wf gx 29 (pairC k k) := by exact bqq
  have haf : Blk wf ga 37 (evnC a) := by exact bqq
  have hbf : Blk wf gb 37 (evnC b) := by exact bqq
  have hrf : Blk wf gr 29 (pairC zeroC zeroC) := by exact bqq
  have hff : Blk wf gf 37 (evn3 a b) := hf0
  have e0f : Evt (fun _ => False) w wf := by exact eqq
  have hSf := hS.up e0f
  have hgf : RG wf H A (ints p.hs) := hg.up e0f
  have hrif := hr.up e0f
  have hw0 : w.heap.size ≤ gp ∧ gp < gx ∧ gx < ga ∧ ga < gb ∧ gb < gr ∧ gr < gf ∧ gf < wf.heap.size := by omega
  clear hp hx ha hb0 hr0 hf0 ep ex ea eb er ef hS hg
  have hRf := re_two hff rfl
  clear hr
  have hr := hrif
  repeat' (first | ((with_reducible refine' w_tree (id := 3) (fun _ => False) (.pure 0 (.pure 2 (.pure 3 (.pure 4 (.two 1 (.two 5 (.pure 6 (.pure 7 (.pure 8 (.one 9 (.one 10 (.pure 11 .done)))))) 9 (.one 5 (.pure 6 (.pure 7 (.pure 8 (.one 10 (.pure 11 .done))))))) 9 (.one 1 (.one 5 (.pure 6 (.pure 7 (.pure 8 (.one 10 (.pure 11 .done)))))))))))) [14, 15, 31, 32, 33, 34, 35, 36, 37, 38, 39] (fun u w' => ∃ gc V d, u 14 = .pointer (some ⟨gc, 0, none⟩) ∧ Blk w' gc 27 (casC K.1) ∧ wf.heap.size ≤ gc ∧ u 15 = .slice V K.2.length d ∧ OwnI wf w' (.slice V K.2.length d) K.2) ?hm ?hn ?hl ?hB ?ta3 ?tb3); (case hm => kernel_rfl); (case hn => kernel_rfl); (case hl => kernel_rfl); (case hB => kernel_rfl); intro _ _ _) | ((with_reducible refine' tt_pure ?hi ?hv ?_); (case hi => rfl); (case hv => intro _ hqS; have hqz := hqS.size; ((first | (with_reducible refine' g_move ?_) | (with_reducible refine' g_assign ?_) | ((with_reducible refine' g_fieldAddr ?hx ?ho ?_); (case hx => rfl); (case ho => rfl)) | ((with_reducible refine' g_loadS ?hx ?hb ?hn ?_); (case hx => rfl); (case hb => exact bqq); first | (case hc => rfl) | (case hn => simp only [List.length_cons, List.length_nil]; omega)) | ((with_reducible refine' g_extract ?hx ?hv ?_); (case hx => rfl); (case hv => rfl))); exact rfl)); (conv => arg 6; simp only [zA, zB, ev, lget, zC, zD, zE, zF, zG, zH, zI, zJ, zK, zL, zM, zN, fillL, splice, List.getD_cons_zero, List.getD_cons_succ, Value.cells])) | ((with_reducible refine' tt_one ?hi ?_); (case hi => rfl)) | ((with_reducible refine' tt_two ?hi ?hj ?_ ?_); (case hi => rfl); (case hj => rfl)) | ((with_reducible refine' tt_done ?hS ?_); (case hS => exact eqq)) | (with_reducible refine' tt_nil ?_) | (go_at_call 16; refine (lawOwn_any p A c _ (hr.up (by exact eqq)) (by omega)).mono ?_; rintro r w1 ⟨Vp, dp, rfl, hR1, hf1, hev1⟩; have hz1 := hev1.size; refine ⟨_, rfl, ?_⟩; simp only [polC]; (conv => arg 5; simp only [zA, zB, ev, lget, zC, zD, zE, zF, zG, zH, zI, zJ, zK, zL, zM, zN])) | (go_at_call 15; refine (hrun _ Vp dp _ 3 (hR1.up (by exact eqq)) (hRf.up (by exact eqq))).mono ?_; rintro r w4 ⟨V4, d4, rfl, hown4, hev4⟩; have hz4 := hev4.size; have hrow4 := hown4.row; have hnewO := hown4.new; have hltO := own_lt hrow4; refine ⟨_, rfl, ?_⟩; simp only [casC]; (conv => arg 5; simp only [zA, zB, ev, lget, zC, zD, zE, zF, zG, zH, zI, zJ, zK, zL, zM, zN])) | (with_reducible refine' wpList_nil ?_) | (((with_reducible refine' e_alloc ?hx ?_); (case hx => rfl)); intro _ _ _ _ _ _ _; (conv => arg 5; simp only [zA, zB, ev, lget, zC, zD, zE, zF, zG, zH, zI, zJ, zK, zL, zM, zN])) | ((first | ((with_reducible refine' e_storeB ?hx ?hy ?hv ?h1 ?hb ?ho ?_); (case hx => rfl); (case hy => ((try simp only [ev, lget]); (try rfl))); (case hv => rfl); (case h1 => rfl)) | ((with_reducible refine' e_storeR ?hx ?hy ?h1 ?hb ?hn ?ho ?_); (case hx => rfl); (case hy => rfl); (case h1 => simp [Value.oneCell']); (case hn => rfl))); (case hb => exact bqq); (case ho => first | (simp only [List.length_cons, List.length_nil]; omega) | omega | (simp; omega) | simp); (try simp only [splice, zA, zB]); intro _ _ _ _) | ((with_reducible refine' l_call TFn.ent ?ha ?_); (case ha => simp only [zC, zD, ev, lget]; (try rfl))))
  all_goals try exact ⟨_, rfl, by simp only [setW, List.foldl_cons, List.foldl_nil, List.set_cons_succ, List.set_cons_zero], _, V4, d4, rfl, by exact bqq, by omega, rfl, ⟨by exact oqq, fun k hk => by have := hnewO k hk; omega⟩⟩
  rintro u3 w3 ev3 z3 ⟨gc, V1, d1, h14, hc3, hcl, h15, ho1⟩
  simp only [setW, List.foldl_cons, List.foldl_nil, List.set_cons_succ, List.set_cons_zero]
  simp only [h14, h15]
  clear h14 h15
  have hn1 := ho1.new
  have hl1 := own_lt ho1.row
  have hlc := hc3.lt
  repeat' (first | ((with_reducible refine' w_tree (id := 4) (fun _ => False) (.pure 0 (.pure 2 (.pure 3 (.pure 4 (.two 1 (.two 5 (.pure 6 (.pure 7 (.pure 8 (.one 9 (.one 10 (.pure 11 .done)))))) 9 (.one 5 (.pure 6 (.pure 7 (.pure 8 (.one 10 (.pure 11 .done))))))) 9 (.one 1 (.one 5 (.pure 6 (.pure 7 (.pure 8 (.one 10 (.pure 11 .done)))))))))))) [16, 17, 40, 41, 42, 43, 44, 45, 46, 47, 48] (fun u w' => ∃ gd V d, u 16 = .pointer (some ⟨gd, 0, none⟩) ∧ w3.heap.size ≤ gd ∧ u 17 = .slice V K.2.length d ∧ OwnI w3 w' (.slice V K.2.length d) K.2) ?hm ?hn ?hl ?hB ?ta4 ?tb4); (case hm => kernel_rfl); (case hn => kernel_rfl); (case hl => kernel_rfl); (case hB => kernel_rfl); intro _ _ _) | ((with_reducible refine' tt_pure ?hi ?hv ?_); (case hi => rfl); (case hv => intro _ hqS; have hqz := hqS.size; ((first | (with_reducible refine' g_move ?_) | (with_reducible refine' g_assign ?_) | ((with_reducible refine' g_fieldAddr ?hx ?ho ?_); (case hx => rfl); (case ho => rfl)) | ((with_reducible refine' g_loadS ?hx ?hb ?hn ?_); (case hx => rfl); (case hb => exact bqq); first | (case hc => rfl) | (case hn => simp only [List.length_cons, List.length_nil]; omega)) | ((with_reducible refine' g_extract ?hx ?hv ?_); (case hx => rfl); (case hv => rfl))); exact rfl)); (conv => arg 6; simp only [zA, zB, ev, lget, zC, zD, zE, zF, zG, zH, zI, zJ, zK, zL, zM, zN, fillL, splice, List.getD_cons_zero, List.getD_cons_succ, Value.cells])) | ((with_reducible refine' tt_one ?hi ?_); (case hi => rfl)) | ((with_reducible refine' tt_two ?hi ?hj ?_ ?_); (case hi => rfl); (case hj => rfl)) | ((with_reducible refine' tt_done ?hS ?_); (case hS => exact eqq)) | (with_reducible refine' tt_nil ?_) | (go_at_call 16; refine (lawOwn_any p A c _ (hr.up (by exact eqq)) (by omega)).mono ?_; rintro r w1 ⟨Vp, dp, rfl, hR1, hf1, hev1⟩; have hz1 := hev1.size; refine ⟨_, rfl, ?_⟩; simp only [polC]; (conv => arg 5; simp only [zA, zB, ev, lget, zC, zD, zE, zF, zG, zH, zI, zJ, zK, zL, zM, zN])) | (go_at_call 15; refine (hrun _ Vp dp _ 3 (hR1.up (by exact eqq)) (hRf.up (by exact eqq))).mono ?_; rintro r w4 ⟨V4, d4, rfl, hown4, hev4⟩; have hz4 := hev4.size; have hrow4 := hown4.row; have hnewO := hown4.new; have hltO := own_lt hrow4; refine ⟨_, rfl, ?_⟩; simp only [casC]; (conv => arg 5; simp only [zA, zB, ev, lget, zC, zD, zE, zF, zG, zH, zI, zJ, zK, zL, zM, zN])) | (with_reducible (first | refine' wp_seq ?_ | refine' wpList_nil ?_ | refine' then_normal ?_)) | (((with_reducible refine' e_alloc ?hx ?_); (case hx => rfl)); intro _ _ _ _ _ _ _; (conv => arg 5; simp only [zA, zB, ev, lget, zC, zD, zE, zF, zG, zH, zI, zJ, zK, zL, zM, zN])) | ((first | ((with_reducible refine' e_storeB ?hx ?hy ?hv ?h1 ?hb ?ho ?_); (case hx => rfl); (case hy => ((try simp only [ev, lget]); (try rfl))); (case hv => rfl); (case h1 => rfl)) | ((with_reducible refine' e_storeR ?hx ?hy ?h1 ?hb ?hn ?ho ?_); (case hx => rfl); (case hy => rfl); (case h1 => simp [Value.oneCell']); (case hn => rfl))); (case hb => exact bqq); (case ho => first | (simp only [List.length_cons, List.length_nil]; omega) | omega | (simp; omega) | simp); (try simp only [splice, zA, zB]); intro _ _ _ _) | ((with_reducible refine' l_call TFn.ent ?ha ?_); (case ha => simp only [zC, zD, ev, lget]; (try rfl))))
  all_goals try exact ⟨_, rfl, by simp only [setW, List.foldl_cons, List.foldl_nil, List.set_cons_succ, List.set_cons_zero], _, V4, d4, rfl, by omega, rfl, ⟨by exact oqq, fun k hk => by have := hnewO k hk; omega⟩⟩
  rintro u4 w4 ev4 z4 ⟨gd, V2, d2, h16, hdl, h17, ho2⟩
  simp only [setW, List.foldl_cons, List.foldl_nil, List.set_cons_succ, List.set_cons_zero]
  simp only [h16, h17]
  clear h16 h17
  have hn2 := ho2.new
  have hl2 := own_lt ho2.row
  repeat' (first | (with_reducible refine' stop_reg (id := 6) ?_) | (go_at_call 17; (refine (href _ _ 2 (hr.up (by exact eqq)) ?hre5).mono ?_); (case hre5 => exact re_two (by exact bqq) rfl); rintro r w5 ⟨V5, d5, rfl, ho5, ev5⟩; have z5 := ev5.size; refine ⟨_, rfl, ?_⟩; simp only [casC]; (conv => arg 5; simp only [zA, zB, ev, lget, zC, zD, zE, zF, zG, zH, zI, zJ, zK, zL, zM, zN])) | (with_reducible (first | refine' wp_seq ?_ | refine' wp_region_lit ?_ | refine' wpList_nil ?_ | refine' then_normal ?_)) | ((with_reducible refine' l_step ?_); ((first | (with_reducible refine' g_move ?_) | (with_reducible refine' g_assign ?_) | ((with_reducible refine' g_fieldAddr ?hx ?ho ?_); (case hx => rfl); (case ho => rfl)) | ((with_reducible refine' g_loadS ?hx ?hb ?hn ?_); (case hx => rfl); (case hb => exact bqq); first | (case hc => rfl) | (case hn => simp only [List.length_cons, List.length_nil]; omega)) | ((with_reducible refine' g_extract ?hx ?hv ?_); (case hx => rfl); (case hv => rfl))); (conv => arg 5; simp only [zA, zB, ev, lget, zC, zD, zE, zF, zG, zH, zI, zJ, zK, zL, zM, zN]))) | ((first | ((with_reducible refine' e_alloc ?hx ?_); (case hx => rfl)) | ((with_reducible refine' e_sliceLit ?hx ?hi ?hv ?hn ?_); (case hx => simp only [zC, zD, ev, lget]; (try rfl)); (case hi => rfl); (case hv => simp [Value.cells]); (case hn => decide); simp only [List.flatMap_cons, List.flatMap_nil, Value.cells, List.cons_append, List.nil_append])); intro _ _ _ _ _ _ _; (conv => arg 5; simp only [zA, zB, ev, lget, zC, zD, zE, zF, zG, zH, zI, zJ, zK, zL, zM, zN])) | ((first | ((with_reducible refine' e_storeB ?hx ?hy ?hv ?h1 ?hb ?ho ?_); (case hx => rfl); (case hy => ((try simp only [ev, lget]); (try rfl))); (case hv => rfl); (case h1 => rfl)) | ((with_reducible refine' e_storeR ?hx ?hy ?h1 ?hb ?hn ?ho ?_); (case hx => rfl); (case hy => rfl); (case h1 => simp [Value.oneCell']); (case hn => rfl))); (case hb => exact bqq); (case ho => first | (simp only [List.length_cons, List.length_nil]; omega) | omega | (simp; omega) | simp); (try simp only [splice, zA, zB]); intro _ _ _ _) | ((with_reducible refine' l_call TFn.ent ?ha ?_); (case ha => simp only [zC, zD, ev, lget]; (try rfl))))
  refine stop_go ?_
  rename_i gw ww j1 j2 hw_ ew zw gE wE k1 k2 hE0 eE zE w6 h6 e6 z6
  have e56 : Evt (fun _ => False) w5 w6 := Evt.next e6 eE (fun i hi hh => by have h' : i = gE := hh; omega)
  have ew6 : Evt (fun _ => False) ww w6 := Evt.next e56 ev5 (fun _ _ h => h)
  have e46 : Evt (fun _ => False) w4 w6 := Evt.next ew6 ew (fun _ _ h => h)
  have e36 : Evt (fun _ => False) w3 w6 := Evt.next e46 ev4 (fun _ _ h => h)
  have ef6 : Evt (fun _ => False) wf w6 := Evt.next e36 ev3 (fun _ _ h => h)
  have e06 : Evt (fun _ => False) w w6 := Evt.next ef6 e0f (fun _ _ h => h)
  have hp6 := hpf.evt ef6 (fun h => h)
  have hx6 := hxf.evt ef6 (fun h => h)
  have ha6 := haf.evt ef6 (fun h => h)
  have hb6 := hbf.evt ef6 (fun h => h)
  have hr6 := hrf.evt ef6 (fun h => h)
  have hf6 := hff.evt ef6 (fun h => h)
  have hc6 := hc3.evt e36 (fun h => h)
  have hE6 : Blk w6 gE 27 (casC K.1) := h6
  have row1 := own_evt e36 ho1.row (fun _ _ h => h)
  have row2 := own_evt e46 ho2.row (fun _ _ h => h)
  have row5 := own_evt e56 ho5.row (fun _ _ h => h)
  have hn5 := ho5.new
  have hl5 := own_lt ho5.row
  have hS6 := hSf.up ef6
  have hg6 : RG w6 H A (ints p.hs) := hgf.up ef6
  have z6' := e06.size
  have zf6 := ef6.size
  have z36 := e36.size
  clear hpf hxf haf hbf hrf hff hc3 hSf hgf hrif hRf hw_ hE0 h6 e6 eE ev5 ew ev4 ev3 e0f ho1 ho2 ho5 e56 ew6 e46 e36 ef6 href hrun
  have hri1 := RI_of_own row1 (by omega)
  have hri2 := RI_of_own row2 (by omega)
  have hri5 := RI_of_own row5 (by omega)
  have hrA := ri_of_rg hg6 hsz
  have hD1 : ∀ j, (Value.slice V1 K.2.length d1).ownBlock = some j → ¬ D j := fun j hj hd => by
    have h1 := hn1 j hj; have h2 := hlS j (.inl hd); omega
  clear hr
  repeat' (first | (with_reducible refine' stop_reg (id := 7) ?_) | ((with_reducible refine' q_step ?_); (with_reducible refine' g_eqlS ?hx ?hy ?hxs ?hys (fun _ => ?_) (fun c => absurd rfl c)); (case hx => rfl); (case hy => rfl); (case hxs => rfl); (case hys => rfl); (conv => arg 6; simp only [zA, zB, ev, lget, zC, zD, zE, zF, zG, zH, zI, zJ, zK, zL, zM, zN])) | ((with_reducible refine' q_call (f := 18) TFn.ent ?ha ?hc ?_); (case ha => simp only [zC, zD, ev, lget]; (try rfl)); (case hc => intro wq hwq; have hzq := hwq.size; refine (same_true V1 V5 d1 d5 K.2.length K.2 _ (hri1.up (by exact eqq)) (hri5.up (by exact eqq)) rfl).mono ?_; rintro e w' ⟨rfl, hev⟩; exact ⟨rfl, hev⟩); (conv => arg 6; simp only [zA, zB, ev, lget, zC, zD, zE, zF, zG, zH, zI, zJ, zK, zL, zM, zN])) | (with_reducible (first | refine' wp_seq ?_ | refine' then_normal ?_)) | ((with_reducible refine' w_quiet (id := 6) ?hm ?hB ?_); (case hm => kernel_rfl); (case hB => kernel_rfl)) | ((with_reducible refine' q_nil ?_); intro _ _ _) | ((with_reducible refine' q_on ?hw ?_); (case hw => rfl)) | ((with_reducible refine' q_step ?_); (first | ((first | (with_reducible refine' g_move ?_) | (with_reducible refine' g_assign ?_) | ((with_reducible refine' g_loadS ?hx ?hb ?hn ?_); (case hx => rfl); (case hb => exact bqq); first | (case hc => rfl) | (case hn => simp only [List.length_cons, List.length_nil]; omega)) | ((with_reducible refine' g_pickT ?hx ?_); (case hx => rfl)) | ((with_reducible refine' g_indexAddr ?hx ?hy ?h0 ?h1 ?_); (case hx => rfl); (case hy => rfl); (case h0 => omega); (case h1 => omega))); (conv => arg 6; simp only [zA, zB, ev, lget, zC, zD, zE, zF, zG, zH, zI, zJ, zK, zL, zM, zN])) | ((with_reducible refine' g_build ?hl ?hp ?hs ?_); (case hl => rfl); (case hp => rfl); (case hs => rfl); (conv => arg 6; simp only [zA, zB, ev, lget, zC, zD, zE, zF, zG, zH, zI, zJ, zK, zL, zM, zN, fillL, splice, List.getD_cons_zero, List.getD_cons_succ, Value.cells])))))
  refine stop_go ?_
  rename_i w7 e67 z67
  repeat' (first | (with_reducible refine' stop_reg (id := 8) ?_) | (go_at_call 19; (refine (put_any D gS ls ms vI vL V1 K.2.length d1 (ints K.2) _ (hS6.up (by exact eqq)) (own_evt (S := fun _ => False) (by exact eqq) row1 (fun _ _ h => h)) hD1 (by omega) (by first | omega | (rw [List.length_append]; simp only [List.length_cons, List.length_nil]; omega))).mono ?_); rintro r wq1 ⟨rfl, s1, t1, vI1, vL1, Da, hS1, hDn1, hIn1, hLn1, evq1⟩; have zq1 := evq1.size; refine ⟨_, rfl, ?_⟩; (conv => arg 5; simp only [zA, zB, ev, lget, zC, zD, zE, zF, zG, zH, zI, zJ, zK, zL, zM, zN])) | (with_reducible (first | refine' wp_seq ?_ | refine' wp_region_lit ?_ | refine' wpList_nil ?_ | refine' then_normal ?_)) | ((with_reducible refine' l_step ?_); ((with_reducible refine' g_move ?_); (conv => arg 5; simp only [zA, zB, ev, lget, zC, zD, zE, zF, zG, zH, zI, zJ, zK, zL, zM, zN]))) | ((with_reducible refine' l_call TFn.ent ?ha ?_); (case ha => simp only [zC, zD, ev, lget]; (try rfl))))
  refine stop_go ?_
  have hcV : ¬ (Value.slice V1 K.2.length d1).ownBlock = some gc := fun hh => by
    obtain ⟨cur, hcu⟩ := own_typ row1 gc hh
    exact Blk.ne hc6 hcu (by decide) rfl
  have q1 : ∀ j, w.heap.size ≤ j → (j < wf.heap.size ∨ w3.heap.size ≤ j ∨ j = gc) → ¬ (j = gS ∨ vI.ownBlock = some j ∨ vL.ownBlock = some j ∨ (Value.slice V1 K.2.length d1).ownBlock = some j) := by
    rintro j h1 h2 (h | h | h | h)
    · have h3 := hlS gS (.inr (.inl rfl)); omega
    · have h3 := hlS j (.inr (.inr (.inl h))); omega
    · have h3 := hlS j (.inr (.inr (.inr h))); omega
    · have h3 := hn1 j h; have h4 := hl1 j h
      rcases h2 with h5 | h5 | h5
      · omega
      · omega
      · rw [h5] at h; exact hcV h
  have e6q := Evt.next evq1 (e67.mono (fun _ _ h => h.elim)) (fun _ _ h => h)
  have hp8 := hp6.evt e6q (q1 gp (by omega) (.inl (by omega)))
  have hx8 := hx6.evt e6q (q1 gx (by omega) (.inl (by omega)))
  have ha8 := ha6.evt e6q (q1 ga (by omega) (.inl (by omega)))
  have hb8 := hb6.evt e6q (q1 gb (by omega) (.inl (by omega)))
  have hr8 := hr6.evt e6q (q1 gr (by omega) (.inl (by omega)))
  have hf8 := hf6.evt e6q (q1 gf (by omega) (.inl (by omega)))
  have hc8 := hc6.evt e6q (q1 gc (by omega) (.inr (.inr rfl)))
  have hE8 := hE6.evt e6q (q1 gE (by omega) (.inr (.inl (by omega))))
  have row28 := own_evt e6q row2 (fun j hj => q1 j (by have := hn2 j hj; omega) (.inr (.inl (by have := hn2 j hj; omega))))
  have row58 := own_evt e6q row5 (fun j hj => q1 j (by have := hn5 j hj; omega) (.inr (.inl (by have := hn5 j hj; omega))))
  have hg8 : RG wq1 H A (ints p.hs) := hg6.evt e6q (fun j _ hj hh => by
    obtain ⟨ha, hb2⟩ := hH j hj
    rcases hh with h | h | h | h
    · exact ha (.inr (.inl h))
    · exact ha (.inr (.inr (.inl h)))
    · exact ha (.inr (.inr (.inr h)))
    · have h3 := hn1 j h; omega) (fun _ h => h)
  have e08 : Evt (Shl D gS vI vL) w wq1 := Evt.next e6q (e06.mono (fun _ _ h => h.elim)) (fun j hj hh => by
    rcases hh with h | h | h | h
    · exact .inr (.inl h)
    · exact .inr (.inr (.inl h))
    · exact .inr (.inr (.inr h))
    · have h3 := hn1 j h; omega)
  have hri28 := RI_of_own row28 (by omega)
  have hri58 := RI_of_own row58 (by omega)
  have hD2 : ∀ j, (Value.slice V2 K.2.length d2).ownBlock = some j → ¬ Da j := fun j hj hd => by
    have h1 := hn2 j hj
    have h4 := hl2 j hj
    rcases hDn1 j hd with h | h | h
    · have h2 := hlS j (.inl h); omega
    · have h2 := hl1 j h; omega
    · omega
  clear hp6 hx6 ha6 hb6 hr6 hf6 hc6 hE6 row1 row2 row5 hS6 hg6 hri1 hri2 hri5 hrA e67 evq1 e6q hcV e06
  repeat' (first | (with_reducible refine' stop_reg (id := 10) ?_) | (go_at_call 18; (refine (same_true V2 V5 d2 d5 K.2.length K.2 _ (hri28.up (by exact eqq)) (hri58.up (by exact eqq)) rfl).mono ?_); rintro r wm3 ⟨rfl, evm3⟩; have zm3 := evm3.size; refine ⟨_, rfl, ?_⟩; (conv => arg 5; simp only [zA, zB, ev, lget, zC, zD, zE, zF, zG, zH, zI, zJ, zK, zL, zM, zN])) | (go_at_call 19; (refine (put_any Da gS (ls ++ [s1]) (ms ++ [t1]) vI1 vL1 V2 K.2.length d2 (ints K.2) _ (hS1.up (by exact eqq)) (own_evt (S := fun _ => False) (by exact eqq) row28 (fun _ _ h => h)) hD2 (by omega) (by first | omega | (rw [List.length_append]; simp only [List.length_cons, List.length_nil]; omega))).mono ?_); rintro r wq2 ⟨rfl, s2, t2, vI2, vL2, D2, hS2, hDn2, hIn2, hLn2, evq2⟩; have zq2 := evq2.size; refine ⟨_, rfl, ?_⟩; (conv => arg 5; simp only [zA, zB, ev, lget, zC, zD, zE, zF, zG, zH, zI, zJ, zK, zL, zM, zN])) | (with_reducible (first | refine' wp_seq ?_ | refine' wp_region_lit ?_ | refine' wpList_nil ?_ | refine' then_normal ?_)) | ((with_reducible refine' l_step ?_); ((first | (with_reducible refine' g_move ?_) | (with_reducible refine' g_assign ?_) | ((with_reducible refine' g_pickT ?hx ?_); (case hx => rfl))); (conv => arg 5; simp only [zA, zB, ev, lget, zC, zD, zE, zF, zG, zH, zI, zJ, zK, zL, zM, zN]))) | ((with_reducible refine' l_on ?hw ?_); (case hw => rfl)) | ((with_reducible refine' l_call TFn.ent ?ha ?_); (case ha => simp only [zC, zD, ev, lget]; (try rfl))))
  refine stop_go ?_
  have q2 : ∀ j, w.heap.size ≤ j → j < w3.heap.size ∨ j = gE → ¬ (j = gS ∨ vI1.ownBlock = some j ∨ vL1.ownBlock = some j ∨ (Value.slice V2 K.2.length d2).ownBlock = some j) := by
    rintro j h1 h0 (h | h | h | h)
    · have h3 := hlS gS (.inr (.inl rfl)); omega
    · rcases hIn1 j h with h4 | h4
      · have h3 := hlS j (.inr (.inr (.inl h4))); omega
      · omega
    · rcases hLn1 j h with h4 | h4
      · have h3 := hlS j (.inr (.inr (.inr h4))); omega
      · omega
    · have h3 := hn2 j h; have h4 := hl2 j h; omega
  have e8q := Evt.next evq2 (evm3.mono (fun _ _ h => h.elim)) (fun _ _ h => h)
  have hp9 := hp8.evt e8q (q2 gp (by omega) (.inl (by omega)))
  have hx9 := hx8.evt e8q (q2 gx (by omega) (.inl (by omega)))
  have ha9 := ha8.evt e8q (q2 ga (by omega) (.inl (by omega)))
  have hb9 := hb8.evt e8q (q2 gb (by omega) (.inl (by omega)))
  have hr9 := hr8.evt e8q (q2 gr (by omega) (.inl (by omega)))
  have hf9 := hf8.evt e8q (q2 gf (by omega) (.inl (by omega)))
  have hc9 := hc8.evt e8q (q2 gc (by omega) (.inl (by omega)))
  have hE9 := hE8.evt e8q (q2 gE (by omega) (.inr rfl))
  have hg9 : RG wq2 H A (ints p.hs) := hg8.evt e8q (fun j _ hj hh => by
    obtain ⟨ha, hb2⟩ := hH j hj
    rcases hh with h | h | h | h
    · exact ha (.inr (.inl h))
    · rcases hIn1 j h with h4 | h4
      · exact ha (.inr (.inr (.inl h4)))
      · omega
    · rcases hLn1 j h with h4 | h4
      · exact ha (.inr (.inr (.inr h4)))
      · omega
    · have h3 := hn2 j h; omega) (fun _ h => h)
  have e09 : Evt (Shl D gS vI vL) w wq2 := Evt.next e8q e08 (fun j hj hh => by
    rcases hh with h | h | h | h
    · exact .inr (.inl h)
    · rcases hIn1 j h with h4 | h4
      · exact .inr (.inr (.inl h4))
      · omega
    · rcases hLn1 j h with h4 | h4
      · exact .inr (.inr (.inr h4))
      · omega
    · have h3 := hn2 j h; omega)
  have hlow2 : ∀ j, Shl D2 gS vI2 vL2 j → Shl D gS vI vL j ∨ wf.heap.size ≤ j := fun j hj => by
    rcases hj with h | h | h | h
    · rcases hDn2 j h with h | h | h
      · rcases hDn1 j h with h | h | h
        · exact .inl (.inl h)
        · have h1 := hn1 j h; exact .inr (by omega)
        · exact .inr (by omega)
      · have h1 := hn2 j h; exact .inr (by omega)
      · exact .inr (by omega)
    · exact .inl (.inr (.inl h))
    · rcases hIn2 j h with h | h
      · rcases hIn1 j h with h | h
        · exact .inl (.inr (.inr (.inl h)))
        · exact .inr (by omega)
      · exact .inr (by omega)
    · rcases hLn2 j h with h | h
      · rcases hLn1 j h with h | h
        · exact .inl (.inr (.inr (.inr h)))
        · exact .inr (by omega)
      · exact .inr (by omega)
  have hn2T : ∀ j, Shl D2 gS vI2 vL2 j → ¬ (j = gf ∨ j = gr) := fun j hj hh => by
    rcases hlow2 j hj with h | h
    · have h1 := hlS j h; omega
    · omega
  have z9 := e09.size
  clear hp8 hx8 ha8 hb8 hr8 hf8 hc8 hE8 row28 row58 hg8 e08 hri28 hri58 e8q evm3 evq2 hS1 hDn1 hIn1 hLn1 hDn2 hIn2 hLn2 hn1 hn2 hn5 hl1 hl2 hl5 hD1 hD2 q1 q2
  repeat' (first | (with_reducible refine' stop_reg (id := 11) ?_) | (with_reducible (first | refine' wp_seq ?_ | refine' wp_region_lit ?_ | refine' wpList_nil ?_ | refine' then_normal ?_)) | ((with_reducible refine' l_step ?_); ((first | (with_reducible refine' g_move ?_) | ((with_reducible refine' g_loadS ?hx ?hb ?hn ?_); (case hx => rfl); (case hb => exact bqq); first | (case hc => rfl) | (case hn => simp only [List.length_cons, List.length_nil]; omega)) | ((with_reducible refine' g_indexAddr ?hx ?hy ?h0 ?h1 ?_); (case hx => rfl); (case hy => rfl); (case h0 => omega); (case h1 => omega))); (conv => arg 5; simp only [zA, zB, ev, lget, zC, zD, zE, zF, zG, zH, zI, zJ, zK, zL, zM, zN]))) | ((first | ((with_reducible refine' e_storeB ?hx ?hy ?hv ?h1 ?hb ?ho ?_); (case hx => rfl); (case hy => ((try simp only [ev, lget]); (try rfl))); (case hv => rfl); (case h1 => rfl)) | ((with_reducible refine' e_storeR ?hx ?hy ?h1 ?hb ?hn ?ho ?_); (case hx => rfl); (case hy => rfl); (case h1 => simp [Value.oneCell']); (case hn => rfl))); (case hb => exact bqq); (case ho => first | (simp only [List.length_cons, List.length_nil]; omega) | omega | (simp; omega) | simp); (try simp only [splice, zA, zB]); intro _ _ _ _))
  refine stop_go ?_
  rename_i w10 h10 e10 z10
  have hf10 : Blk w10 gf 37 [.int .i64 b.kind, .int .i64 b.today, .int .i64 b.days, .int .i64 b.amount, .int .i64 b.kind, .int .i64 b.today, .int .i64 b.days, .int .i64 b.amount, .int .i64 (-7), .int .i64 0, .int .i64 0, .int .i64 0] := h10
  have ha10 := ha9.evt e10 (by omega)
  clear h10 hf9
  repeat' (first | (with_reducible refine' stop_reg (id := 12) ?_) | ((with_reducible refine' e_storeR (o := 4) (vs := evnC a) ?hx ?hy ?h1 ?hb ?hn ?ho ?_); (case hx => rfl); (case hy => rfl); (case h1 => simp [Value.oneCell']); (case hb => exact hf10); (case hn => rfl); (case ho => simp); intro _ _ _ _) | (with_reducible (first | refine' wp_seq ?_ | refine' wp_region_lit ?_ | refine' wpList_nil ?_ | refine' then_normal ?_)) | ((with_reducible refine' l_step ?_); ((first | (with_reducible refine' g_move ?_) | ((with_reducible refine' g_loadS ?hx ?hb ?hn ?_); (case hx => rfl); (case hb => exact bqq); first | (case hc => rfl) | (case hn => simp only [List.length_cons, List.length_nil]; omega)) | ((with_reducible refine' g_indexAddr ?hx ?hy ?h0 ?h1 ?_); (case hx => rfl); (case hy => rfl); (case h0 => omega); (case h1 => omega))); (conv => arg 5; simp only [zA, zB, ev, lget, zC, zD, zE, zF, zG, zH, zI, zJ, zK, zL, zM, zN]))))
  refine stop_go ?_
  rename_i w11 h11 e11 z11
  have hf11 : Blk w11 gf 37 (evn3 b a) := h11
  have e9_11 : Evt (fun j => j = gf) wq2 w11 := Evt.next e11 e10 (fun _ _ h => h)
  have hp11 := hp9.evt e9_11 (by omega)
  have hx11 := hx9.evt e9_11 (by omega)
  have ha11 := ha10.evt e11 (by omega)
  have hb11 := hb9.evt e9_11 (by omega)
  have hr11 := hr9.evt e9_11 (by omega)
  have hc11 := hc9.evt e9_11 (by omega)
  have hE11 := hE9.evt e9_11 (by omega)
  have hg11 : RG w11 H A (ints p.hs) := hg9.evt e9_11 (fun j _ hj hh => by have h1 := (hH j hj).2; omega) (fun _ h => h)
  have hr := ri_of_rg hg11 hsz
  have hRf := re_two hf11 rfl
  clear hf10 ha10 h11 hp9 hx9 ha9 hb9 hr9 hc9 hE9 hg9 hg11 e10 e11
  repeat' (first | ((with_reducible refine' w_tree (id := 12) (fun _ => False) (.pure 0 (.pure 2 (.pure 3 (.pure 4 (.two 1 (.two 5 (.pure 6 (.pure 7 (.pure 8 (.one 9 (.one 10 (.pure 11 .done)))))) 9 (.one 5 (.pure 6 (.pure 7 (.pure 8 (.one 10 (.pure 11 .done))))))) 9 (.one 1 (.one 5 (.pure 6 (.pure 7 (.pure 8 (.one 10 (.pure 11 .done)))))))))))) [21, 22, 106, 107, 108, 109, 110, 111, 112, 113, 114] (fun u w' => ∃ gc V d, u 21 = .pointer (some ⟨gc, 0, none⟩) ∧ Blk w' gc 27 (casC L.1) ∧ w11.heap.size ≤ gc ∧ u 22 = .slice V L.2.length d ∧ OwnI w11 w' (.slice V L.2.length d) L.2) ?hm ?hn ?hl ?hB ?ta12 ?tb12); (case hm => kernel_rfl); (case hn => kernel_rfl); (case hl => kernel_rfl); (case hB => kernel_rfl); intro _ _ _) | ((with_reducible refine' tt_pure ?hi ?hv ?_); (case hi => rfl); (case hv => intro _ hqS; have hqz := hqS.size; ((first | (with_reducible refine' g_move ?_) | (with_reducible refine' g_assign ?_) | ((with_reducible refine' g_fieldAddr ?hx ?ho ?_); (case hx => rfl); (case ho => rfl)) | ((with_reducible refine' g_loadS ?hx ?hb ?hn ?_); (case hx => rfl); (case hb => exact bqq); first | (case hc => rfl) | (case hn => simp only [List.length_cons, List.length_nil]; omega)) | ((with_reducible refine' g_extract ?hx ?hv ?_); (case hx => rfl); (case hv => rfl))); exact rfl)); (conv => arg 6; simp only [zA, zB, ev, lget, zC, zD, zE, zF, zG, zH, zI, zJ, zK, zL, zM, zN, fillL, splice, List.getD_cons_zero, List.getD_cons_succ, Value.cells])) | ((with_reducible refine' tt_one ?hi ?_); (case hi => rfl)) | ((with_reducible refine' tt_two ?hi ?hj ?_ ?_); (case hi => rfl); (case hj => rfl)) | ((with_reducible refine' tt_done ?hS ?_); (case hS => exact eqq)) | (with_reducible refine' tt_nil ?_) | (go_at_call 16; refine (lawOwn_any p A c _ (hr.up (by exact eqq)) (by omega)).mono ?_; rintro r w1 ⟨Vp, dp, rfl, hR1, hf1, hev1⟩; have hz1 := hev1.size; refine ⟨_, rfl, ?_⟩; simp only [polC]; (conv => arg 5; simp only [zA, zB, ev, lget, zC, zD, zE, zF, zG, zH, zI, zJ, zK, zL, zM, zN])) | (go_at_call 15; refine (hrun' _ Vp dp _ 3 (hR1.up (by exact eqq)) (hRf.up (by exact eqq))).mono ?_; rintro r w4 ⟨V4, d4, rfl, hown4, hev4⟩; have hz4 := hev4.size; have hrow4 := hown4.row; have hnewO := hown4.new; have hltO := own_lt hrow4; refine ⟨_, rfl, ?_⟩; simp only [casC]; (conv => arg 5; simp only [zA, zB, ev, lget, zC, zD, zE, zF, zG, zH, zI, zJ, zK, zL, zM, zN])) | (with_reducible refine' wpList_nil ?_) | (((with_reducible refine' e_alloc ?hx ?_); (case hx => rfl)); intro _ _ _ _ _ _ _; (conv => arg 5; simp only [zA, zB, ev, lget, zC, zD, zE, zF, zG, zH, zI, zJ, zK, zL, zM, zN])) | ((first | ((with_reducible refine' e_storeB ?hx ?hy ?hv ?h1 ?hb ?ho ?_); (case hx => rfl); (case hy => ((try simp only [ev, lget]); (try rfl))); (case hv => rfl); (case h1 => rfl)) | ((with_reducible refine' e_storeR ?hx ?hy ?h1 ?hb ?hn ?ho ?_); (case hx => rfl); (case hy => rfl); (case h1 => simp [Value.oneCell']); (case hn => rfl))); (case hb => exact bqq); (case ho => first | (simp only [List.length_cons, List.length_nil]; omega) | omega | (simp; omega) | simp); (try simp only [splice, zA, zB]); intro _ _ _ _) | ((with_reducible refine' l_call TFn.ent ?ha ?_); (case ha => simp only [zC, zD, ev, lget]; (try rfl))))
  all_goals try exact ⟨_, rfl, by simp only [setW, List.foldl_cons, List.foldl_nil, List.set_cons_succ, List.set_cons_zero], _, V4, d4, rfl, by exact bqq, by omega, rfl, ⟨by exact oqq, fun k hk => by have := hnewO k hk; omega⟩⟩
  rintro u12 w12 ev12 z12 ⟨gl, V12, d12, h21, hl12, hll, h22, ho12⟩
  simp only [setW, List.foldl_cons, List.foldl_nil, List.set_cons_succ, List.set_cons_zero]
  simp only [h21, h22]
  clear h21 h22
  have hlgl := hl12.lt
  repeat' (first | (with_reducible refine' stop_reg (id := 14) ?_) | (go_at_call 17; (refine (href' _ _ 2 (hr.up (by exact eqq)) ?hre6).mono ?_); (case hre6 => exact re_two (by exact bqq) rfl); rintro r w5 ⟨V15, d15, rfl, ho15, ev15⟩; have z5 := ev15.size; refine ⟨_, rfl, ?_⟩; simp only [casC]; (conv => arg 5; simp only [zA, zB, ev, lget, zC, zD, zE, zF, zG, zH, zI, zJ, zK, zL, zM, zN])) | (with_reducible (first | refine' wp_seq ?_ | refine' wp_region_lit ?_ | refine' wpList_nil ?_ | refine' then_normal ?_)) | ((with_reducible refine' l_step ?_); ((first | (with_reducible refine' g_move ?_) | (with_reducible refine' g_assign ?_) | ((with_reducible refine' g_fieldAddr ?hx ?ho ?_); (case hx => rfl); (case ho => rfl)) | ((with_reducible refine' g_loadS ?hx ?hb ?hn ?_); (case hx => rfl); (case hb => exact bqq); first | (case hc => rfl) | (case hn => simp only [List.length_cons, List.length_nil]; omega)) | ((with_reducible refine' g_extract ?hx ?hv ?_); (case hx => rfl); (case hv => rfl))); (conv => arg 5; simp only [zA, zB, ev, lget, zC, zD, zE, zF, zG, zH, zI, zJ, zK, zL, zM, zN]))) | ((first | ((with_reducible refine' e_alloc ?hx ?_); (case hx => rfl)) | ((with_reducible refine' e_sliceLit ?hx ?hi ?hv ?hn ?_); (case hx => simp only [zC, zD, ev, lget]; (try rfl)); (case hi => rfl); (case hv => simp [Value.cells]); (case hn => decide); simp only [List.flatMap_cons, List.flatMap_nil, Value.cells, List.cons_append, List.nil_append])); intro _ _ _ _ _ _ _; (conv => arg 5; simp only [zA, zB, ev, lget, zC, zD, zE, zF, zG, zH, zI, zJ, zK, zL, zM, zN])) | ((first | ((with_reducible refine' e_storeB ?hx ?hy ?hv ?h1 ?hb ?ho ?_); (case hx => rfl); (case hy => ((try simp only [ev, lget]); (try rfl))); (case hv => rfl); (case h1 => rfl)) | ((with_reducible refine' e_storeR ?hx ?hy ?h1 ?hb ?hn ?ho ?_); (case hx => rfl); (case hy => rfl); (case h1 => simp [Value.oneCell']); (case hn => rfl))); (case hb => exact bqq); (case ho => first | (simp only [List.length_cons, List.length_nil]; omega) | omega | (simp; omega) | simp); (try simp only [splice, zA, zB]); intro _ _ _ _) | ((with_reducible refine' l_call TFn.ent ?ha ?_); (case ha => simp only [zC, zD, ev, lget]; (try rfl))))
  refine stop_go ?_
  rename_i gu wu m1 m2 hu_ eu zu gM wM n1 n2 hM0 eM zM w16 h16 e16 z16
  have e5_16 : Evt (fun _ => False) w5 w16 := Evt.next e16 eM (fun i hi hh => by have h' : i = gM := hh; omega)
  have e12_16 : Evt (fun _ => False) w12 w16 := Evt.next e5_16 (Evt.next ev15 eu (fun _ _ h => h)) (fun _ _ h => h)
  have e11_16 : Evt (fun _ => False) w11 w16 := Evt.next e12_16 ev12 (fun _ _ h => h)
  have hc16 := hc11.evt e11_16 (fun h => h)
  have hE16 := hE11.evt e11_16 (fun h => h)
  have hr16 := hr11.evt e11_16 (fun h => h)
  have hl16 := hl12.evt e12_16 (fun h => h)
  have hM16 : Blk w16 gM 27 (casC L.1) := h16
  have row12 := own_evt e12_16 ho12.row (fun _ _ h => h)
  have row15 := own_evt e5_16 ho15.row (fun _ _ h => h)
  have hn12 := ho12.new
  have hn15 := ho15.new
  have hri12 := RI_of_own row12 (by omega)
  have hri15 := RI_of_own row15 (by omega)
  have z16' := e11_16.size
  have e9_16 : Evt (fun j => j = gf) wq2 w16 := Evt.next e11_16 e9_11 (fun _ _ h => h.elim)
  have hgcr : ¬ gc = gr := by omega
  have hgEr : ¬ gE = gr := by omega
  have hglr : ¬ gl = gr := by omega
  have hgMr : ¬ gM = gr := by omega
  have nr12 : ∀ b o, V12 = some ⟨b, o, none⟩ → ¬ b = gr := fun b o hb hh => by have h1 := hn12 b (by rw [hb]; rfl); omega
  have nr15 : ∀ b o, V15 = some ⟨b, o, none⟩ → ¬ b = gr := fun b o hb hh => by have h1 := hn15 b (by rw [hb]; rfl); omega
  clear hM0 h16 hu_ hc11 hE11 hr11 hl12 hp11 hx11 ha11 hb11 hf11 hr hRf e16 eM e5_16 ev15 eu e12_16 ev12 e11_16 e9_11 ho12 ho15 row12 row15 hrun' href'
  repeat' (first | ((with_reducible refine' tt_pure ?hi ?hv ?_); (case hi => rfl); (case hv => intro _ hqS; have hqz := hqS.size; (with_reducible refine' g_loadW ?hx ?hb ?hn ?hk); (case hx => rfl); (case hb => exact bqq); (case hn => rfl); (case hk => exact rfl)); (conv => arg 5; simp only [zA, zB, ev, lget, zC, zD, zE, zF, zG, zH, zI, zJ, zK, zL, zM, zN])) | ((with_reducible refine' tt_on ?hi ?hw ?hv ?_); (case hi => rfl); (case hw => rfl); (case hv => intro _ hqS; have hqz := hqS.size; (with_reducible refine' g_loadW ?hx ?hb ?hn ?hk); (case hx => rfl); (case hb => exact bqq); (case hn => rfl); (case hk => exact rfl)); (conv => arg 5; simp only [zA, zB, ev, lget, zC, zD, zE, zF, zG, zH, zI, zJ, zK, zL, zM, zN])) | ((with_reducible refine' tt_pure ?hi ?hv ?_); (case hi => rfl); (case hv => intro _ hqS; (with_reducible refine' g_build ?hl ?hp ?hs ?hk); (case hl => rfl); (case hp => rfl); (case hs => rfl); (case hk => exact pair_b K.1 K.1)); (conv => arg 5; simp only [zA, zB, ev, lget, zC, zD, zE, zF, zG, zH, zI, zJ, zK, zL, zM, zN])) | ((with_reducible refine' tt_on ?hi ?hw ?hv ?_); (case hi => rfl); (case hw => rfl); (case hv => intro _ hqS; (with_reducible refine' g_eqlS ?hx ?hy ?hxs ?hys (fun _ => ?hk) (fun c => absurd rfl c)); (case hx => rfl); (case hy => rfl); (case hxs => rfl); (case hys => rfl); (case hk => rfl)); (conv => arg 5; simp only [zA, zB, ev, lget, zC, zD, zE, zF, zG, zH, zI, zJ, zK, zL, zM, zN])) | ((with_reducible refine' w_tree (id := 14) (fun j => j = gr) (.pure 0 (.pure 1 (.pure 2 (.pure 3 (.pure 4 (.pure 5 (.pure 6 (.pure 7 (.pure 8 (.pure 9 (.pure 10 (.pure 11 (.one 12 (.pure 13 (.one 14 (.pure 15 .done)))))))))))))))) [11, 125, 126, 127, 128, 129, 130, 131, 132, 133, 134, 135, 136, 137, 138] (fun u w' => u 11 = .bool true ∧ Blk w' gr 29 (pairC K.1 K.1)) ?hm ?hn ?hl ?hB ?ta14 ?tb14); (case hm => kernel_rfl); (case hn => kernel_rfl); (case hl => kernel_rfl); (case hB => kernel_rfl); intro _ _ _) | ((with_reducible refine' tt_pure ?hi ?hv ?_); (case hi => rfl); (case hv => intro _ hqS; have hqz := hqS.size; ((first | (with_reducible refine' g_move ?_) | (with_reducible refine' g_assign ?_) | ((with_reducible refine' g_pickT ?hx ?_); (case hx => rfl))); exact rfl)); (conv => arg 6; simp only [zA, zB, ev, lget, zC, zD, zE, zF, zG, zH, zI, zJ, zK, zL, zM, zN, fillL, splice, List.getD_cons_zero, List.getD_cons_succ, Value.cells])) | ((with_reducible refine' tt_on ?hi ?hw ?hv ?_); (case hi => rfl); (case hw => rfl); (case hv => intro _ hqS; have hqz := hqS.size; ((with_reducible refine' g_move ?_); exact rfl)); (conv => arg 6; simp only [zA, zB, ev, lget, zC, zD, zE, zF, zG, zH, zI, zJ, zK, zL, zM, zN, fillL, splice, List.getD_cons_zero, List.getD_cons_succ, Value.cells])) | ((with_reducible refine' tt_one ?hi ?_); (case hi => rfl)) | ((with_reducible refine' tt_done ?hS ?_); (case hS => exact eqq)) | (with_reducible refine' tt_nil ?_) | (go_at_call 18; (refine (same_true V12 V15 d12 d15 L.2.length L.2 _ (hri12.evt (S := fun j => j = gr) (by exact eqq) nr12) (hri15.evt (S := fun j => j = gr) (by exact eqq) nr15) rfl).mono ?_); rintro r wm4 ⟨rfl, evm4⟩; have zm4 := evm4.size; refine ⟨_, rfl, ?_⟩; (conv => arg 5; simp only [zA, zB, ev, lget, zC, zD, zE, zF, zG, zH, zI, zJ, zK, zL, zM, zN])) | (with_reducible refine' wpList_nil ?_) | ((with_reducible refine' l_on ?hw ?_); (case hw => rfl)) | ((first | ((with_reducible refine' e_storeB ?hx ?hy ?hv ?h1 ?hb ?ho ?_); (case hx => rfl); (case hy => ((try simp only [ev, lget]); (try rfl))); (case hv => rfl); (case h1 => rfl)) | ((with_reducible refine' e_storeR ?hx ?hy ?h1 ?hb ?hn ?ho ?_); (case hx => rfl); (case hy => rfl); (case h1 => simp [Value.oneCell']); (case hn => rfl))); (case hb => exact bqq); (case ho => first | (simp only [List.length_cons, List.length_nil]; omega) | omega | (simp; omega) | simp); (try simp only [splice, zA, zB]); intro _ _ _ _) | ((with_reducible refine' l_call TFn.ent ?ha ?_); (case ha => simp only [zC, zD, ev, lget]; (try rfl))))
  all_goals try exact ⟨_, rfl, by simp only [setW, List.foldl_cons, List.foldl_nil, List.set_cons_succ, List.set_cons_zero], rfl, by exact bqq⟩
  rintro u wz evz zz ⟨h11', hbz⟩
  simp only [setW, List.foldl_cons, List.foldl_nil, List.set_cons_succ, List.set_cons_zero]
  simp only [h11']
  repeat' (first | (with_reducible (first | refine' then_normal ?_ | refine' wp_ret ?_)) | ((with_reducible refine' b_retN ?hr ?h2 ?ha ?_); (case hr => rfl); (case h2 => decide); (case ha => first | exact ra_nil | ((first | ((with_reducible refine' ra_tmp ?rv2 ?rh2); (case rv2 => ((try simp only [ev, lget]); (try rfl)))) | ((with_reducible refine' ra_cell ?rp2 ?rt2 ?rq2 ?rn2 ?rh2); (case rp2 => rfl); (case rt2 => infer_instance); (case rq2 => exact bqq); (case rn2 => rfl))); (case rh2 => first | exact ra_nil | ((first | ((with_reducible refine' ra_tmp ?rv1 ?rh1); (case rv1 => ((try simp only [ev, lget]); (try rfl)))) | ((with_reducible refine' ra_cell ?rp1 ?rt1 ?rq1 ?rn1 ?rh1); (case rp1 => rfl); (case rt1 => infer_instance); (case rq1 => exact bqq); (case rn1 => rfl))); (case rh1 => first | exact ra_nil)))))))
  have e9z : Evt (fun j => j = gf ∨ j = gr) wq2 wz := Evt.next evz (e9_16.mono fun _ _ h => .inl h) (fun _ _ h => .inr h)
  exact ⟨rfl, D2, _, _, vI2, vL2, hS2.evt e9z hn2T, by simp, fun j hj => (hlow2 j hj).imp id (fun h => by omega), Evt.next e9z e09 (fun j hj hh => by omega)⟩
end Go.Proofs.YthfnlmedelfbnaaDoor
