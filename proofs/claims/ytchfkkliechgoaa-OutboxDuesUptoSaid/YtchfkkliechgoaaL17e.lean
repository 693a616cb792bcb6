/- OutboxAdds, OutboxAcks, OutboxDues, OutboxPendings, OutboxExact. SHORT NORMX -/
import Derived.Test.YtchfkkliechgoaaUpt17b
namespace Go.Proofs.Ytchfkkliechgoaa
open Go.RowKit Go.Proofs.YtchfkkliechgoaaE
set_option linter.unusedSimpArgs false
set_option linter.unusedVariables false
set_option maxRecDepth 4000

@[reducible] def fops (gb : Nat) : List Opr := [⟨1, false, 7, 3, [1, 2], some ⟨gb, 0, none⟩, 2⟩, ⟨3, false, 0, 3, [], none, 0⟩, ⟨4, false, 0, 0, [], none, 0⟩, ⟨2, false, 7, 0, [], none, 0⟩]
theorem first_any (w : World) :
    Calls Try.prog 12 #[] w fun e w' => ∃ gb gf, e = .returned (.slice (some ⟨gf, 0, none⟩) 4 4) ∧ Blk w' gb 5 (u8s [1, 2]) ∧ Blk w' gf 30 ((fops gb).flatMap opC) ∧ w.heap.size ≤ gb ∧ w.heap.size ≤ gf ∧ Evt (fun _ => False) w w' := by
  go_enter Try.func12, Try.ntmps12
  repeat' (first | (with_reducible (first | refine' wp_seq ?_ | refine' wp_region_lit ?_ | refine' wpList_nil ?_ | refine' then_normal ?_ | refine' wp_ret ?_)) | ((with_reducible refine' b_ret1 ?hr ?hv ?_); (case hr => rfl); (case hv => ((try simp only [ev, lget]); (try rfl)))) | ((with_reducible refine' l_step ?_); (first | ((with_reducible refine' g_assign ?_); (conv => arg 5; simp only [zA, zB, ev, lget, zC, zD, zE, zF, zG, zH, zI, zJ, zK, zL, zM, zN, zO])) | ((with_reducible refine' g_build ?hl ?hp ?hs ?_); (case hl => rfl); (case hp => rfl); (case hs => rfl); (conv => arg 5; simp only [zA, zB, ev, lget, zC, zD, zE, zF, zG, zH, zI, zJ, zK, zL, zM, zN, zO, fillL, splice, List.getD_cons_zero, List.getD_cons_succ, Value.cells])))) | (((with_reducible refine' e_sliceLit ?hx ?hi ?hv ?hn ?_); (case hx => simp only [zC, zD, ev, lget]; (try rfl)); (case hi => rfl); (case hv => simp [Value.cells]); (case hn => decide); simp only [List.flatMap_cons, List.flatMap_nil, Value.cells, List.cons_append, List.nil_append]); intro _ _ _ _ _ _ _; (conv => arg 5; simp only [zA, zB, ev, lget, zC, zD, zE, zF, zG, zH, zI, zJ, zK, zL, zM, zN, zO])))
  rename_i gb wb b1 b2 hb eb zb_ gf wf f1 f2 hf ef zf_
  exact ⟨gb, gf, rfl, hb.evt ef (fun h => h), hf, by omega, by omega, Evt.next ef eb (fun _ _ h => h)⟩
theorem first_ops {w : World} {gb gf : Nat} (hb : Blk w gb 5 (u8s [1, 2])) (hf : Blk w gf 30 ((fops gb).flatMap opC)) : OpsAt w (some ⟨gf, 0, none⟩) (fops gb) where
  row := RC.blk hf _ (List.take_of_length_le (Nat.le_refl _))
  bod := fun o ho => by
    simp only [List.mem_cons, List.not_mem_nil, or_false] at ho
    rcases ho with rfl | rfl | rfl | rfl
    · exact RC.blk hb 2 rfl
    · exact RC.nil _ _
    · exact RC.nil _ _
    · exact RC.nil _ _
  ok := fun o ho => by
    simp only [List.mem_cons, List.not_mem_nil, or_false] at ho
    rcases ho with rfl | rfl | rfl | rfl <;> exact ⟨by simp, by simp, by simp⟩
theorem upFirst_any (p : Pol) (A : Option Addr) (c gb gf : Nat) (lo hi : Int) (w : World) (hr : RI w A p.hs) (hsz : p.hs.length * 8 ≤ 140737488351232) (hop : OpsAt w (some ⟨gf, 0, none⟩) (fops gb)) :
    Calls Try.prog 11 #[.agg (polC p A c).toArray, .slice (some ⟨gf, 0, none⟩) 4 4, .int .i64 lo, .int .i64 hi] w fun e w' => e = .returned (.bool true) ∧ Evt (fun _ => False) w w' :=
  upTo_any p A c (some ⟨gf, 0, none⟩) (fops gb) 4 lo hi w hr hsz hop (by show 4 ≤ _; omega)
@[reducible] def x1 : List Opr := [⟨1, false, 0, 0, [], none, 0⟩]
@[reducible] def x2 : List Opr := [⟨4, false, 0, 0, [], none, 0⟩, ⟨4, true, 0, 0, [], none, 0⟩]
theorem ops_one (os : List Opr) : ∀ u ∈ os.flatMap opC, u.oneCell' = true := by
  intro u hu
  obtain ⟨o, _, h⟩ := List.mem_flatMap.1 hu
  simp only [opC, List.mem_cons, List.not_mem_nil, or_false] at h
  rcases h with rfl | rfl | rfl | rfl | rfl <;> rfl
theorem ops_len (os : List Opr) : (os.flatMap opC).length = os.length * 5 := flat_len (f := opC) (fun _ => rfl) os
theorem fops_bod {w : World} {gb : Nat} (hb : Blk w gb 5 (u8s [1, 2])) : ∀ o ∈ fops gb, RC w o.A (u8s o.body) := fun o ho => by
  simp only [List.mem_cons, List.not_mem_nil, or_false] at ho
  rcases ho with rfl | rfl | rfl | rfl
  · exact RC.blk hb 2 rfl
  · exact RC.nil _ _
  · exact RC.nil _ _
  · exact RC.nil _ _
theorem first1_ops {w : World} {gb : Nat} {V : Option Addr} {d : Nat} (hb : Blk w gb 5 (u8s [1, 2])) (ho : w.ownsRow 0 30 5 (.slice V 5 d) 5 ((fops gb).flatMap opC ++ x1.flatMap opC)) : OpsAt w V (fops gb ++ x1) where
  row := by
    rw [List.flatMap_append]
    exact own_rc ho
  bod := fun o ho' => by
    rcases List.mem_append.1 ho' with h1 | h1
    · exact fops_bod hb o h1
    · rw [List.mem_singleton] at h1
      subst h1
      exact RC.nil _ _
  ok := fun o ho' => by
    simp only [fops, x1, List.cons_append, List.nil_append, List.mem_cons, List.not_mem_nil, or_false] at ho'
    rcases ho' with rfl | rfl | rfl | rfl | rfl <;> exact ⟨by simp, by simp, by simp⟩
theorem upFirst1_any (p : Pol) (A : Option Addr) (c gb d : Nat) (V : Option Addr) (lo hi : Int) (w : World) (hr : RI w A p.hs) (hsz : p.hs.length * 8 ≤ 140737488351232) (hb : Blk w gb 5 (u8s [1, 2])) (ho : w.ownsRow 0 30 5 (.slice V 5 d) 5 ((fops gb).flatMap opC ++ x1.flatMap opC)) :
    Calls Try.prog 11 #[.agg (polC p A c).toArray, .slice V 5 d, .int .i64 lo, .int .i64 hi] w fun e w' => e = .returned (.bool true) ∧ Evt (fun _ => False) w w' :=
  upTo_any p A c V (fops gb ++ x1) d lo hi w hr hsz (first1_ops hb ho) (by show 5 ≤ _; omega)
set_option maxHeartbeats 1000000 in
theorem OutboxAcks_walk (p : Pol) (A : Option Addr) (c : Nat) (B : Option Addr) (os : List Opr) (cB : Nat) (w : World) (hr : RI w A p.hs) (hsz : p.hs.length * 8 ≤ 140737488351232) (hop : OpsAt w B os) (hb : os.length ≤ 1048570) :
    Calls Try.prog 4 #[.agg (polC p A c).toArray, .slice B os.length cB] w fun e w' => e = .returned (.bool true) ∧ Evt (fun _ => False) w w' := by
  go_enter Try.func4, Try.ntmps4
  repeat' (first | (with_reducible refine' stop_reg (id := 1) ?_) | (with_reducible (first | refine' wp_seq ?_ | refine' wp_region_lit ?_ | refine' wpList_nil ?_ | refine' then_normal ?_)) | ((with_reducible refine' l_step ?_); ((with_reducible refine' g_assign ?_); (conv => arg 5; simp only [zA, zB, ev, lget, zC, zD, zE, zF, zG, zH, zI, zJ, zK, zL, zM, zN, zO]))) | (((with_reducible refine' e_boxA ?hx ?_); (case hx => rfl)); intro _ _ _ _ _ _ _; (conv => arg 5; simp only [zA, zB, ev, lget, zC, zD, zE, zF, zG, zH, zI, zJ, zK, zL, zM, zN, zO])))
  rename_i gP wB c1 c2 hP evB zB_
  have hrB := hr.up evB
  have hopB := hop.up evB
  refine stop_go ?_
  repeat' (first | ((with_reducible refine' w_tree (id := 1) (fun _ => False) (.pure 0 (.one 1 (.one 2 (.pure 3 (.pure 4 (.pure 5 (.one 6 (.pure 7 (.pure 8 .done))))))))) [4, 5, 6, 7, 8, 9, 10, 11, 12] (fun u w' => u 4 = .bool true) ?hm ?hn ?hl ?hB ?ta1 ?tb1); (case hm => kernel_rfl); (case hn => kernel_rfl); (case hl => kernel_rfl); (case hB => kernel_rfl); intro _ _ _) | ((with_reducible refine' tt_pure ?hi ?hv ?_); (case hi => rfl); (case hv => intro _ hqS; have hqz := hqS.size; ((first | (with_reducible refine' g_move ?_) | (with_reducible refine' g_assign ?_) | ((with_reducible refine' g_loadS ?hx ?hb ?hn ?_); (case hx => rfl); (case hb => exact bqq); first | (case hc => rfl) | (case hn => simp only [List.length_cons, List.length_nil]; omega)) | ((with_reducible refine' g_pickT ?hx ?_); (case hx => rfl))); exact rfl)); (conv => arg 6; simp only [zA, zB, ev, lget, zC, zD, zE, zF, zG, zH, zI, zJ, zK, zL, zM, zN, zO])) | ((with_reducible refine' tt_on ?hi ?hw ?hv ?_); (case hi => rfl); (case hw => rfl); (case hv => intro _ hqS; have hqz := hqS.size; ((first | (with_reducible refine' g_move ?_) | ((with_reducible refine' g_loadS ?hx ?hb ?hn ?_); (case hx => rfl); (case hb => exact bqq); first | (case hc => rfl) | (case hn => simp only [List.length_cons, List.length_nil]; omega))); exact rfl)); (conv => arg 6; simp only [zA, zB, ev, lget, zC, zD, zE, zF, zG, zH, zI, zJ, zK, zL, zM, zN, zO])) | ((with_reducible refine' tt_one ?hi ?_); (case hi => rfl)) | ((with_reducible refine' tt_done ?hS ?_); (case hS => exact eqq)) | (with_reducible refine' tt_nil ?_) | (go_at_call 12; refine (first_any _).mono ?_; rintro e wF ⟨gb, gf, rfl, hbF, hfF, hgb, hgf, evF⟩; have zF_ := evF.size; refine ⟨_, rfl, ?_⟩; (conv => arg 5; simp only [zA, zB, ev, lget, zC, zD, zE, zF, zG, zH, zI, zJ, zK, zL, zM, zN, zO])) | (have hq0 := hbF; go_at_call 11; refine (upFirst_any p A c gb gf 2 2 _ (hrB.up (by exact eqq)) hsz ((first_ops hbF hfF).up (by exact eqq))).mono ?_; rintro e w1 ⟨rfl, ev1⟩; have z1_ := ev1.size; clear hq0 hbF hfF; refine ⟨_, rfl, ?_⟩; (conv => arg 5; simp only [zA, zB, ev, lget, zC, zD, zE, zF, zG, zH, zI, zJ, zK, zL, zM, zN, zO])) | (go_at_call 11; refine (upTo_any p A c B os cB 2 2 _ (hrB.up (by exact eqq)) hsz (hopB.up (by exact eqq)) (by omega)).mono ?_; rintro e w2 ⟨rfl, ev2⟩; have z2_ := ev2.size; refine ⟨_, rfl, ?_⟩; (conv => arg 5; simp only [zA, zB, ev, lget, zC, zD, zE, zF, zG, zH, zI, zJ, zK, zL, zM, zN, zO])) | (with_reducible refine' wpList_nil ?_) | ((with_reducible refine' l_on ?hw ?_); (case hw => rfl)) | ((with_reducible refine' l_call TFn.ent ?ha ?_); (case ha => simp only [zC, zD, ev, lget]; (try rfl))))
  all_goals try exact ⟨_, rfl, by simp only [setW, List.foldl_cons, List.foldl_nil, List.set_cons_succ, List.set_cons_zero], rfl⟩
  rintro u9 w9 ev9 z9 h9
  simp only [setW, List.foldl_cons, List.foldl_nil, List.set_cons_succ, List.set_cons_zero]
  simp only [h9]
  repeat' (first | (with_reducible (first | refine' then_normal ?_ | refine' wp_ret ?_)) | ((with_reducible refine' b_ret1 ?hr ?hv ?_); (case hr => rfl); (case hv => ((try simp only [ev, lget]); (try rfl)))))
  exact ⟨rfl, Evt.next ev9 evB (fun _ _ h => h)⟩
set_option maxHeartbeats 1000000 in
theorem OutboxDues_walk (p : Pol) (A : Option Addr) (c : Nat) (B : Option Addr) (os : List Opr) (cB : Nat) (w : World) (hr : RI w A p.hs) (hsz : p.hs.length * 8 ≤ 140737488351232) (hop : OpsAt w B os) (hb : os.length ≤ 1048570) :
    Calls Try.prog 5 #[.agg (polC p A c).toArray, .slice B os.length cB] w fun e w' => e = .returned (.bool true) ∧ Evt (fun _ => False) w w' := by
  go_enter Try.func5, Try.ntmps5
  repeat' (first | (with_reducible refine' stop_reg (id := 1) ?_) | (with_reducible (first | refine' wp_seq ?_ | refine' wp_region_lit ?_ | refine' wpList_nil ?_ | refine' then_normal ?_)) | ((with_reducible refine' l_step ?_); ((with_reducible refine' g_assign ?_); (conv => arg 5; simp only [zA, zB, ev, lget, zC, zD, zE, zF, zG, zH, zI, zJ, zK, zL, zM, zN, zO]))) | (((with_reducible refine' e_boxA ?hx ?_); (case hx => rfl)); intro _ _ _ _ _ _ _; (conv => arg 5; simp only [zA, zB, ev, lget, zC, zD, zE, zF, zG, zH, zI, zJ, zK, zL, zM, zN, zO])))
  rename_i gP wB c1 c2 hP evB zB_
  have hrB := hr.up evB
  have hopB := hop.up evB
  refine stop_go ?_
  repeat' (first | ((with_reducible refine' w_tree (id := 1) (fun _ => False) (.pure 0 (.one 1 (.one 2 (.pure 3 (.pure 4 (.pure 5 (.one 6 (.pure 7 (.pure 8 .done))))))))) [4, 5, 6, 7, 8, 9, 10, 11, 12] (fun u w' => u 4 = .bool true) ?hm ?hn ?hl ?hB ?ta1 ?tb1); (case hm => kernel_rfl); (case hn => kernel_rfl); (case hl => kernel_rfl); (case hB => kernel_rfl); intro _ _ _) | ((with_reducible refine' tt_pure ?hi ?hv ?_); (case hi => rfl); (case hv => intro _ hqS; have hqz := hqS.size; ((first | (with_reducible refine' g_move ?_) | (with_reducible refine' g_assign ?_) | ((with_reducible refine' g_loadS ?hx ?hb ?hn ?_); (case hx => rfl); (case hb => exact bqq); first | (case hc => rfl) | (case hn => simp only [List.length_cons, List.length_nil]; omega)) | ((with_reducible refine' g_pickT ?hx ?_); (case hx => rfl))); exact rfl)); (conv => arg 6; simp only [zA, zB, ev, lget, zC, zD, zE, zF, zG, zH, zI, zJ, zK, zL, zM, zN, zO])) | ((with_reducible refine' tt_on ?hi ?hw ?hv ?_); (case hi => rfl); (case hw => rfl); (case hv => intro _ hqS; have hqz := hqS.size; ((first | (with_reducible refine' g_move ?_) | ((with_reducible refine' g_loadS ?hx ?hb ?hn ?_); (case hx => rfl); (case hb => exact bqq); first | (case hc => rfl) | (case hn => simp only [List.length_cons, List.length_nil]; omega))); exact rfl)); (conv => arg 6; simp only [zA, zB, ev, lget, zC, zD, zE, zF, zG, zH, zI, zJ, zK, zL, zM, zN, zO])) | ((with_reducible refine' tt_one ?hi ?_); (case hi => rfl)) | ((with_reducible refine' tt_done ?hS ?_); (case hS => exact eqq)) | (with_reducible refine' tt_nil ?_) | (go_at_call 12; refine (first_any _).mono ?_; rintro e wF ⟨gb, gf, rfl, hbF, hfF, hgb, hgf, evF⟩; have zF_ := evF.size; refine ⟨_, rfl, ?_⟩; (conv => arg 5; simp only [zA, zB, ev, lget, zC, zD, zE, zF, zG, zH, zI, zJ, zK, zL, zM, zN, zO])) | (have hq0 := hbF; go_at_call 11; refine (upFirst_any p A c gb gf 3 3 _ (hrB.up (by exact eqq)) hsz ((first_ops hbF hfF).up (by exact eqq))).mono ?_; rintro e w1 ⟨rfl, ev1⟩; have z1_ := ev1.size; clear hq0 hbF hfF; refine ⟨_, rfl, ?_⟩; (conv => arg 5; simp only [zA, zB, ev, lget, zC, zD, zE, zF, zG, zH, zI, zJ, zK, zL, zM, zN, zO])) | (go_at_call 11; refine (upTo_any p A c B os cB 3 3 _ (hrB.up (by exact eqq)) hsz (hopB.up (by exact eqq)) (by omega)).mono ?_; rintro e w2 ⟨rfl, ev2⟩; have z2_ := ev2.size; refine ⟨_, rfl, ?_⟩; (conv => arg 5; simp only [zA, zB, ev, lget, zC, zD, zE, zF, zG, zH, zI, zJ, zK, zL, zM, zN, zO])) | (with_reducible refine' wpList_nil ?_) | ((with_reducible refine' l_on ?hw ?_); (case hw => rfl)) | ((with_reducible refine' l_call TFn.ent ?ha ?_); (case ha => simp only [zC, zD, ev, lget]; (try rfl))))
  all_goals try exact ⟨_, rfl, by simp only [setW, List.foldl_cons, List.foldl_nil, List.set_cons_succ, List.set_cons_zero], rfl⟩
  rintro u9 w9 ev9 z9 h9
  simp only [setW, List.foldl_cons, List.foldl_nil, List.set_cons_succ, List.set_cons_zero]
  simp only [h9]
  repeat' (first | (with_reducible (first | refine' then_normal ?_ | refine' wp_ret ?_)) | ((with_reducible refine' b_ret1 ?hr ?hv ?_); (case hr => rfl); (case hv => ((try simp only [ev, lget]); (try rfl)))))
  exact ⟨rfl, Evt.next ev9 evB (fun _ _ h => h)⟩
set_option maxHeartbeats 1000000 in
theorem OutboxPendings_walk (p : Pol) (A : Option Addr) (c : Nat) (B : Option Addr) (os : List Opr) (cB : Nat) (w : World) (hr : RI w A p.hs) (hsz : p.hs.length * 8 ≤ 140737488351232) (hop : OpsAt w B os) (hb : os.length ≤ 1048570) :
    Calls Try.prog 6 #[.agg (polC p A c).toArray, .slice B os.length cB] w fun e w' => e = .returned (.bool true) ∧ Evt (fun _ => False) w w' := by
  go_enter Try.func6, Try.ntmps6
  repeat' (first | (with_reducible refine' stop_reg (id := 1) ?_) | (with_reducible (first | refine' wp_seq ?_ | refine' wp_region_lit ?_ | refine' wpList_nil ?_ | refine' then_normal ?_)) | ((with_reducible refine' l_step ?_); ((with_reducible refine' g_assign ?_); (conv => arg 5; simp only [zA, zB, ev, lget, zC, zD, zE, zF, zG, zH, zI, zJ, zK, zL, zM, zN, zO]))) | (((with_reducible refine' e_boxA ?hx ?_); (case hx => rfl)); intro _ _ _ _ _ _ _; (conv => arg 5; simp only [zA, zB, ev, lget, zC, zD, zE, zF, zG, zH, zI, zJ, zK, zL, zM, zN, zO])))
  rename_i gP wB c1 c2 hP evB zB_
  have hrB := hr.up evB
  have hopB := hop.up evB
  refine stop_go ?_
  repeat' (first | ((with_reducible refine' w_tree (id := 1) (fun _ => False) (.pure 0 (.one 1 (.one 2 (.pure 3 (.pure 4 (.pure 5 (.one 6 (.pure 7 (.pure 8 .done))))))))) [4, 5, 6, 7, 8, 9, 10, 11, 12] (fun u w' => u 4 = .bool true) ?hm ?hn ?hl ?hB ?ta1 ?tb1); (case hm => kernel_rfl); (case hn => kernel_rfl); (case hl => kernel_rfl); (case hB => kernel_rfl); intro _ _ _) | ((with_reducible refine' tt_pure ?hi ?hv ?_); (case hi => rfl); (case hv => intro _ hqS; have hqz := hqS.size; ((first | (with_reducible refine' g_move ?_) | (with_reducible refine' g_assign ?_) | ((with_reducible refine' g_loadS ?hx ?hb ?hn ?_); (case hx => rfl); (case hb => exact bqq); first | (case hc => rfl) | (case hn => simp only [List.length_cons, List.length_nil]; omega)) | ((with_reducible refine' g_pickT ?hx ?_); (case hx => rfl))); exact rfl)); (conv => arg 6; simp only [zA, zB, ev, lget, zC, zD, zE, zF, zG, zH, zI, zJ, zK, zL, zM, zN, zO])) | ((with_reducible refine' tt_on ?hi ?hw ?hv ?_); (case hi => rfl); (case hw => rfl); (case hv => intro _ hqS; have hqz := hqS.size; ((first | (with_reducible refine' g_move ?_) | ((with_reducible refine' g_loadS ?hx ?hb ?hn ?_); (case hx => rfl); (case hb => exact bqq); first | (case hc => rfl) | (case hn => simp only [List.length_cons, List.length_nil]; omega))); exact rfl)); (conv => arg 6; simp only [zA, zB, ev, lget, zC, zD, zE, zF, zG, zH, zI, zJ, zK, zL, zM, zN, zO])) | ((with_reducible refine' tt_one ?hi ?_); (case hi => rfl)) | ((with_reducible refine' tt_done ?hS ?_); (case hS => exact eqq)) | (with_reducible refine' tt_nil ?_) | (go_at_call 12; refine (first_any _).mono ?_; rintro e wF ⟨gb, gf, rfl, hbF, hfF, hgb, hgf, evF⟩; have zF_ := evF.size; refine ⟨_, rfl, ?_⟩; (conv => arg 5; simp only [zA, zB, ev, lget, zC, zD, zE, zF, zG, zH, zI, zJ, zK, zL, zM, zN, zO])) | (have hq0 := hbF; go_at_call 11; refine (upFirst_any p A c gb gf 4 4 _ (hrB.up (by exact eqq)) hsz ((first_ops hbF hfF).up (by exact eqq))).mono ?_; rintro e w1 ⟨rfl, ev1⟩; have z1_ := ev1.size; clear hq0 hbF hfF; refine ⟨_, rfl, ?_⟩; (conv => arg 5; simp only [zA, zB, ev, lget, zC, zD, zE, zF, zG, zH, zI, zJ, zK, zL, zM, zN, zO])) | (go_at_call 11; refine (upTo_any p A c B os cB 4 4 _ (hrB.up (by exact eqq)) hsz (hopB.up (by exact eqq)) (by omega)).mono ?_; rintro e w2 ⟨rfl, ev2⟩; have z2_ := ev2.size; refine ⟨_, rfl, ?_⟩; (conv => arg 5; simp only [zA, zB, ev, lget, zC, zD, zE, zF, zG, zH, zI, zJ, zK, zL, zM, zN, zO])) | (with_reducible refine' wpList_nil ?_) | ((with_reducible refine' l_on ?hw ?_); (case hw => rfl)) | ((with_reducible refine' l_call TFn.ent ?ha ?_); (case ha => simp only [zC, zD, ev, lget]; (try rfl))))
  all_goals try exact ⟨_, rfl, by simp only [setW, List.foldl_cons, List.foldl_nil, List.set_cons_succ, List.set_cons_zero], rfl⟩
  rintro u9 w9 ev9 z9 h9
  simp only [setW, List.foldl_cons, List.foldl_nil, List.set_cons_succ, List.set_cons_zero]
  simp only [h9]
  repeat' (first | (with_reducible (first | refine' then_normal ?_ | refine' wp_ret ?_)) | ((with_reducible refine' b_ret1 ?hr ?hv ?_); (case hr => rfl); (case hv => ((try simp only [ev, lget]); (try rfl)))))
  exact ⟨rfl, Evt.next ev9 evB (fun _ _ h => h)⟩
set_option maxHeartbeats 1000000 in
theorem OutboxExact_walk (p : Pol) (A : Option Addr) (c : Nat) (B : Option Addr) (os : List Opr) (cB : Nat) (w : World) (hr : RI w A p.hs) (hsz : p.hs.length * 8 ≤ 140737488351232) (hop : OpsAt w B os) (hb : os.length ≤ 1048570) :
    Calls Try.prog 7 #[.agg (polC p A c).toArray, .slice B os.length cB] w fun e w' => e = .returned (.bool true) ∧ Evt (fun _ => False) w w' := by
  go_enter Try.func7, Try.ntmps7
  repeat' (first | (with_reducible refine' stop_reg (id := 1) ?_) | (with_reducible (first | refine' wp_seq ?_ | refine' wp_region_lit ?_ | refine' wpList_nil ?_ | refine' then_normal ?_)) | ((with_reducible refine' l_step ?_); ((with_reducible refine' g_assign ?_); (conv => arg 5; simp only [zA, zB, ev, lget, zC, zD, zE, zF, zG, zH, zI, zJ, zK, zL, zM, zN, zO]))) | (((with_reducible refine' e_boxA ?hx ?_); (case hx => rfl)); intro _ _ _ _ _ _ _; (conv => arg 5; simp only [zA, zB, ev, lget, zC, zD, zE, zF, zG, zH, zI, zJ, zK, zL, zM, zN, zO])))
  rename_i gP wB c1 c2 hP evB zB_
  have hrB0 := hr.up evB
  have hopB0 := hop.up evB
  refine stop_go ?_
  repeat' (first | ((with_reducible refine' e_appC (v := .slice none 0 0) (n := 0) (m := os.length) (xs := []) (news := os.flatMap opC) ?hx ?hy ?hzs ?hsz ?hown ?hl ?hr ?h1 ?hb ?hm ?_); (case hx => rfl); (case hy => rfl); (case hzs => rfl); (case hsz => decide); (case hown => exact World.ownsRow_nil _ _ _ _); (case hl => exact ops_len os); (case hr => exact hopB0.row.up (by exact eqq)); (case h1 => exact ops_one os); (case hb => omega); (case hm => omega); intro vA wL hoL heA0 haL hzL; have heL : Evt (fun _ => False) _ wL := heA0.mono (fun k _ hk => by simp [Value.ownBlock] at hk); clear heA0; simp only [Nat.zero_add, List.nil_append] at hoL; obtain ⟨VL, dL, hVL⟩ := own_slice hoL; subst hVL; (conv => arg 5; simp only [zA, zB, ev, lget, zC, zD, zE, zF, zG, zH, zI, zJ, zK, zL, zM, zN, zO])) | (((with_reducible refine' e_append ?hx ?hy ?hzs ?hsz ?hown ?hl ?hnews ?h1 ?hb ?hm ?_); (case hx => ((try simp only [ev, lget]); (try rfl))); (case hy => rfl); (case hzs => rfl); (case hsz => decide); (case hown => exact oqq); (case hnews => refine' blk_src ?hbb; (case hbb => exact bqq)); (case hl => rfl); (case h1 => simp [Value.oneCell']); (case hb => omega); (case hm => omega); intro vA wA hoA heA hnA haA hzA; (conv => arg 5; simp only [zA, zB, ev, lget, zC, zD, zE, zF, zG, zH, zI, zJ, zK, zL, zM, zN, zO])); have hlA := own_lt hoA; obtain ⟨VA, dA, hVA⟩ := own_slice hoA; subst hVA) | (with_reducible refine' stop_reg (id := 4) ?_) | (with_reducible (first | refine' wp_seq ?_ | refine' wp_region_lit ?_ | refine' wpList_nil ?_ | refine' then_normal ?_)) | ((with_reducible refine' l_step ?_); (first | ((first | (with_reducible refine' g_move ?_) | (with_reducible refine' g_assign ?_)); (conv => arg 5; simp only [zA, zB, ev, lget, zC, zD, zE, zF, zG, zH, zI, zJ, zK, zL, zM, zN, zO])) | ((with_reducible refine' g_build ?hl ?hp ?hs ?_); (case hl => rfl); (case hp => rfl); (case hs => rfl); (conv => arg 5; simp only [zA, zB, ev, lget, zC, zD, zE, zF, zG, zH, zI, zJ, zK, zL, zM, zN, zO, fillL, splice, List.getD_cons_zero, List.getD_cons_succ, Value.cells])))) | (((with_reducible refine' e_sliceLit ?hx ?hi ?hv ?hn ?_); (case hx => simp only [zC, zD, ev, lget]; (try rfl)); (case hi => rfl); (case hv => simp [Value.cells]); (case hn => decide); simp only [List.flatMap_cons, List.flatMap_nil, Value.cells, List.cons_append, List.nil_append]); intro _ _ _ _ _ _ _; (conv => arg 5; simp only [zA, zB, ev, lget, zC, zD, zE, zF, zG, zH, zI, zJ, zK, zL, zM, zN, zO])))
  rename_i g4 w4 q1 q2 hb4 e4 z4
  have hnL : ∀ k, (Value.slice VL os.length dL).ownBlock = some k → wB.heap.size ≤ k := new_low (V := none) (n := 0) (d := 0) haL (by simp [Value.ownBlock]) (Nat.le_refl _)
  have eA : Evt (fun _ => False) wB wA := Evt.next heA (Evt.next e4 heL (fun _ _ h => h)) (fun k hk0 hk => by have := hnL k hk; omega)
  have hPA := hP.evt eA (fun h => h)
  have hrB := hrB0.up eA
  have hopA : OpsAt wA VA (os ++ x2) := {
    row := by
      rw [List.flatMap_append]
      exact own_rc hoA
    bod := fun o ho => by
      rcases List.mem_append.1 ho with h1 | h1
      · exact (hopB0.bod o h1).up eA
      · simp only [List.mem_cons, List.not_mem_nil, or_false] at h1
        rcases h1 with rfl | rfl <;> exact RC.nil _ _
    ok := fun o ho => by
      rcases List.mem_append.1 ho with h1 | h1
      · exact hopB0.ok o h1
      · simp only [List.mem_cons, List.not_mem_nil, or_false] at h1
        rcases h1 with rfl | rfl <;> exact ⟨by simp, by simp, by simp⟩ }
  have evA : Evt (fun _ => False) w wA := Evt.next eA evB (fun _ _ h => h)
  have hup : ∀ w', Evt (fun _ => False) wA w' → Calls Try.prog 11 #[.agg (polC p A c).toArray, .slice VA (os.length + 2) dA, .int .i64 1, .int .i64 4] w' fun e w'' => e = .returned (.bool true) ∧ Evt (fun _ => False) w' w'' := fun w' he => by
    have h1 := upTo_any p A c VA (os ++ x2) dA 1 4 w' (hrB.up he) hsz (hopA.up he) (by rw [List.length_append]; show os.length + 2 ≤ _; omega)
    rw [List.length_append] at h1
    exact h1
  clear hP hb4 hoL heA e4 heL hlA hoA eA evB hopB0 hrB0
  refine stop_go ?_
  repeat' (first | ((with_reducible refine' w_tree (id := 4) (fun _ => False) (.pure 0 (.one 1 (.one 2 (.pure 3 (.pure 4 (.pure 5 (.one 6 (.pure 7 (.pure 8 .done))))))))) [4, 14, 15, 16, 17, 18, 19, 20, 21] (fun u w' => u 4 = .bool true) ?hm ?hn ?hl ?hB ?ta4 ?tb4); (case hm => kernel_rfl); (case hn => kernel_rfl); (case hl => kernel_rfl); (case hB => kernel_rfl); intro _ _ _) | ((with_reducible refine' tt_pure ?hi ?hv ?_); (case hi => rfl); (case hv => intro _ hqS; have hqz := hqS.size; ((first | (with_reducible refine' g_move ?_) | (with_reducible refine' g_assign ?_) | ((with_reducible refine' g_loadS ?hx ?hb ?hn ?_); (case hx => rfl); (case hb => exact bqq); first | (case hc => rfl) | (case hn => simp only [List.length_cons, List.length_nil]; omega)) | ((with_reducible refine' g_pickT ?hx ?_); (case hx => rfl))); exact rfl)); (conv => arg 6; simp only [zA, zB, ev, lget, zC, zD, zE, zF, zG, zH, zI, zJ, zK, zL, zM, zN, zO, fillL, splice, List.getD_cons_zero, List.getD_cons_succ, Value.cells])) | ((with_reducible refine' tt_on ?hi ?hw ?hv ?_); (case hi => rfl); (case hw => rfl); (case hv => intro _ hqS; have hqz := hqS.size; ((first | (with_reducible refine' g_move ?_) | ((with_reducible refine' g_loadS ?hx ?hb ?hn ?_); (case hx => rfl); (case hb => exact bqq); first | (case hc => rfl) | (case hn => simp only [List.length_cons, List.length_nil]; omega))); exact rfl)); (conv => arg 6; simp only [zA, zB, ev, lget, zC, zD, zE, zF, zG, zH, zI, zJ, zK, zL, zM, zN, zO, fillL, splice, List.getD_cons_zero, List.getD_cons_succ, Value.cells])) | ((with_reducible refine' tt_one ?hi ?_); (case hi => rfl)) | ((with_reducible refine' tt_done ?hS ?_); (case hS => exact eqq)) | (with_reducible refine' tt_nil ?_) | (go_at_call 12; refine (first_any _).mono ?_; rintro e wF ⟨gb, gf, rfl, hbF, hfF, hgb, hgf, evF⟩; have zF_ := evF.size; refine ⟨_, rfl, ?_⟩; (conv => arg 5; simp only [zA, zB, ev, lget, zC, zD, zE, zF, zG, zH, zI, zJ, zK, zL, zM, zN, zO])) | (have hq0 := hbF; go_at_call 11; refine (upFirst_any p A c gb gf 1 4 _ (hrB.up (by exact eqq)) hsz ((first_ops hbF hfF).up (by exact eqq))).mono ?_; rintro e w1 ⟨rfl, ev1⟩; have z1_ := ev1.size; clear hq0 hbF hfF; refine ⟨_, rfl, ?_⟩; (conv => arg 5; simp only [zA, zB, ev, lget, zC, zD, zE, zF, zG, zH, zI, zJ, zK, zL, zM, zN, zO])) | (go_at_call 11; refine (hup _ (by exact eqq)).mono ?_; rintro e w2 ⟨rfl, ev2⟩; have z2_ := ev2.size; refine ⟨_, rfl, ?_⟩; (conv => arg 5; simp only [zA, zB, ev, lget, zC, zD, zE, zF, zG, zH, zI, zJ, zK, zL, zM, zN, zO])) | (with_reducible refine' wpList_nil ?_) | ((with_reducible refine' l_on ?hw ?_); (case hw => rfl)) | ((with_reducible refine' l_call TFn.ent ?ha ?_); (case ha => simp only [zC, zD, ev, lget]; (try rfl))))
  all_goals try exact ⟨_, rfl, by simp only [setW, List.foldl_cons, List.foldl_nil, List.set_cons_succ, List.set_cons_zero], rfl⟩
  rintro u9 w9 ev9 z9 h9
  simp only [setW, List.foldl_cons, List.foldl_nil, List.set_cons_succ, List.set_cons_zero]
  simp only [h9]
  repeat' (first | (with_reducible (first | refine' then_normal ?_ | refine' wp_ret ?_)) | ((with_reducible refine' b_ret1 ?hr ?hv ?_); (case hr => rfl); (case hv => ((try simp only [ev, lget]); (try rfl)))))
  exact ⟨rfl, Evt.next ev9 evA (fun _ _ h => h)⟩
set_option maxHeartbeats 1000000 in
theorem OutboxAdds_walk (p : Pol) (A : Option Addr) (c : Nat) (B : Option Addr) (os : List Opr) (cB : Nat) (w : World) (hr : RI w A p.hs) (hsz : p.hs.length * 8 ≤ 140737488351232) (hop : OpsAt w B os) (hb : os.length ≤ 1048570) :
    Calls Try.prog 3 #[.agg (polC p A c).toArray, .slice B os.length cB] w fun e w' => e = .returned (.bool true) ∧ Evt (fun _ => False) w w' := by
  go_enter Try.func3, Try.ntmps3
  repeat' (first | (with_reducible refine' stop_reg (id := 1) ?_) | (with_reducible (first | refine' wp_seq ?_ | refine' wp_region_lit ?_ | refine' wpList_nil ?_ | refine' then_normal ?_)) | ((with_reducible refine' l_step ?_); ((with_reducible refine' g_assign ?_); (conv => arg 5; simp only [zA, zB, ev, lget, zC, zD, zE, zF, zG, zH, zI, zJ, zK, zL, zM, zN, zO]))) | (((with_reducible refine' e_boxA ?hx ?_); (case hx => rfl)); intro _ _ _ _ _ _ _; (conv => arg 5; simp only [zA, zB, ev, lget, zC, zD, zE, zF, zG, zH, zI, zJ, zK, zL, zM, zN, zO])))
  rename_i gP wB c1 c2 hP evB zB_
  have hrB := hr.up evB
  have hopB := hop.up evB
  have hgP : ¬ wB.heap.size ≤ gP := by omega
  refine stop_go ?_
  repeat' (first | ((with_reducible refine' w_tree (id := 1) (fun _ => False) (.pure 0 (.pure 2 (.two 1 (.one 3 (.one 4 (.one 5 (.pure 6 (.pure 7 (.pure 8 (.one 9 (.pure 10 (.pure 11 .done))))))))) 3 (.one 1 (.one 4 (.one 5 (.pure 6 (.pure 7 (.pure 8 (.one 9 (.pure 10 (.pure 11 .done)))))))))))) [4, 5, 6, 7, 8, 9, 10, 11, 12, 13, 14, 15] (fun u w' => u 4 = .bool true) ?hm ?hn ?hl ?hB ?ta1 ?tb1); (case hm => kernel_rfl); (case hn => kernel_rfl); (case hl => kernel_rfl); (case hB => kernel_rfl); intro _ _ _) | ((with_reducible refine' tt_pure ?hi ?hv ?_); (case hi => rfl); (case hv => intro _ hqS; have hqz := hqS.size; (first | ((first | (with_reducible refine' g_move ?_) | (with_reducible refine' g_assign ?_) | ((with_reducible refine' g_loadS ?hx ?hb ?hn ?_); (case hx => rfl); (case hb => exact bqq); first | (case hc => rfl) | (case hn => simp only [List.length_cons, List.length_nil]; omega)) | ((with_reducible refine' g_pickT ?hx ?_); (case hx => rfl))); exact rfl) | ((with_reducible refine' g_build ?hl ?hp ?hs ?_); (case hl => rfl); (case hp => rfl); (case hs => rfl); exact rfl))); (conv => arg 6; simp only [zA, zB, ev, lget, zC, zD, zE, zF, zG, zH, zI, zJ, zK, zL, zM, zN, zO, fillL, splice, List.getD_cons_zero, List.getD_cons_succ, Value.cells])) | ((with_reducible refine' tt_on ?hi ?hw ?hv ?_); (case hi => rfl); (case hw => rfl); (case hv => intro _ hqS; have hqz := hqS.size; ((first | (with_reducible refine' g_move ?_) | ((with_reducible refine' g_loadS ?hx ?hb ?hn ?_); (case hx => rfl); (case hb => exact bqq); first | (case hc => rfl) | (case hn => simp only [List.length_cons, List.length_nil]; omega))); exact rfl)); (conv => arg 6; simp only [zA, zB, ev, lget, zC, zD, zE, zF, zG, zH, zI, zJ, zK, zL, zM, zN, zO, fillL, splice, List.getD_cons_zero, List.getD_cons_succ, Value.cells])) | ((with_reducible refine' tt_one ?hi ?_); (case hi => rfl)) | ((with_reducible refine' tt_two ?hi ?hj ?_ ?_); (case hi => rfl); (case hj => rfl)) | ((with_reducible refine' tt_done ?hS ?_); (case hS => exact eqq)) | (with_reducible refine' tt_nil ?_) | (go_at_call 12; refine (first_any _).mono ?_; rintro e wF ⟨gb, gf, rfl, hbF, hfF, hgb, hgf, evF⟩; have hgg : ¬ gb = gf := fun h => Blk.ne hbF hfF (by decide) h; have zF_ := evF.size; refine ⟨_, rfl, ?_⟩; (conv => arg 5; simp only [zA, zB, ev, lget, zC, zD, zE, zF, zG, zH, zI, zJ, zK, zL, zM, zN, zO])) | ((with_reducible refine' e_appS (v := .slice (some ⟨gf, 0, none⟩) 4 4) (n := 4) (m := 1) (xs := (fops gb).flatMap opC) (news := x1.flatMap opC) ?hx ?hy ?hzs ?hsz ?hown ?hl ?hr ?h1 ?hb ?hm ?_); (case hx => rfl); (case hy => rfl); (case hzs => rfl); (case hsz => decide); (case hown => exact own_mk (cur := (fops gb).flatMap opC) (by exact bqq) rfl rfl (by omega) (by unfold maxLen; omega) rfl); (case hl => rfl); (case hr => exact RC.blk (by exact bqq) 5 rfl); (case h1 => exact ops_one x1); (case hb => omega); (case hm => omega); intro vA wA hoA heA haA hzA; obtain ⟨VA, dA, hVA⟩ := own_slice hoA; subst hVA; have heF : Evt (fun k => k = gf) _ wA := heA.mono (fun k _ hk => by have h' : some gf = some k := hk; exact (Option.some.inj h').symm); clear heA hfF; (conv => arg 5; simp only [zA, zB, ev, lget, zC, zD, zE, zF, zG, zH, zI, zJ, zK, zL, zM, zN, zO])) | (have hq0 := hoA; go_at_call 11; refine (upFirst1_any p A c gb dA VA 1 1 _ (hrB.up (by exact eqq)) hsz (by exact bqq) (by exact oqq)).mono ?_; rintro e w1 ⟨rfl, ev1⟩; have z1_ := ev1.size; clear hq0 hoA; refine ⟨_, rfl, ?_⟩; (conv => arg 5; simp only [zA, zB, ev, lget, zC, zD, zE, zF, zG, zH, zI, zJ, zK, zL, zM, zN, zO])) | (go_at_call 11; refine (upTo_any p A c B os cB 1 1 _ (hrB.up (by exact eqq)) hsz (hopB.up (by exact eqq)) (by omega)).mono ?_; rintro e w2 ⟨rfl, ev2⟩; have z2_ := ev2.size; refine ⟨_, rfl, ?_⟩; (conv => arg 5; simp only [zA, zB, ev, lget, zC, zD, zE, zF, zG, zH, zI, zJ, zK, zL, zM, zN, zO])) | (with_reducible refine' wpList_nil ?_) | ((with_reducible refine' l_on ?hw ?_); (case hw => rfl)) | (((with_reducible refine' e_sliceLit ?hx ?hi ?hv ?hn ?_); (case hx => simp only [zC, zD, ev, lget]; (try rfl)); (case hi => rfl); (case hv => simp [Value.cells]); (case hn => decide); simp only [List.flatMap_cons, List.flatMap_nil, Value.cells, List.cons_append, List.nil_append]); intro _ _ _ _ _ _ _; (conv => arg 5; simp only [zA, zB, ev, lget, zC, zD, zE, zF, zG, zH, zI, zJ, zK, zL, zM, zN, zO])) | ((with_reducible refine' l_call TFn.ent ?ha ?_); (case ha => simp only [zC, zD, ev, lget]; (try rfl))))
  all_goals try exact ⟨_, rfl, by simp only [setW, List.foldl_cons, List.foldl_nil, List.set_cons_succ, List.set_cons_zero], rfl⟩
  rintro u9 w9 ev9 z9 h9
  simp only [setW, List.foldl_cons, List.foldl_nil, List.set_cons_succ, List.set_cons_zero]
  simp only [h9]
  repeat' (first | (with_reducible (first | refine' then_normal ?_ | refine' wp_ret ?_)) | ((with_reducible refine' b_ret1 ?hr ?hv ?_); (case hr => rfl); (case hv => ((try simp only [ev, lget]); (try rfl)))))
  exact ⟨rfl, Evt.next ev9 evB (fun _ _ h => h)⟩
end Go.Proofs.Ytchfkkliechgoaa
