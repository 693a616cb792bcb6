/- The name of a status. SHORT -/
import Derived.Test.YthfnlmedelfbnaaDoorMix13
import Derived.Test.YthfnlmedelfbnaaDoorOps5
namespace Go.Proofs.YthfnlmedelfbnaaDoor
open Go.RowKit Go.Proofs.YthfnlmedelfbnaaDoorE
set_option linter.unusedSimpArgs false
set_option linter.unusedVariables false

section
variable {P : Program} {w : World} {ty : TypeId} {pos : String} {aft : Array Edge} {l : List Value} {d : Option Tmp} {g : Option (Nat × Bool)} {K : Value → Prop}
/-- a[i] of an array whose elements take a cell each. -/
theorem g_indexArr {t e : TypeId} {x y : Operand} {b o n : Nat} {i : Int} (hx : ev l x = .pointer (some ⟨b, o, none⟩)) (hy : ev l y = .int .i64 i) (hu : P.underlying t = some (.array n e)) (hs : (P.info? e).map (·.size) = some 1) (h0 : 0 ≤ i) (h1 : i < n)
    (h : K (.pointer (some ⟨b, o + i.toNat, none⟩))) : Go1 P ⟨d, .indexAddr t x y, ty, pos, aft, g⟩ l w K := by
  refine ⟨_, fun w' hw' => ?_, h⟩
  have hsz : ∀ w, (sizeOf e).run P w = .ok 1 w := fun w => Go.Proofs.YthfnlmedelfbnaaDoorE.run_sizeOf hs w
  simp [execOp, hx, hy, Instr.indexAt, Sem.run_bind, run_underlying hu, Instr.sureAddr, asIntOf, h0, h1, hsz, add_off]
end
/-- The word of a status. -/
def nameB (s : Int) : ByteArray :=
  if s = 1 then ⟨#[99, 117, 114, 114, 101, 110, 116]⟩ else if s = 2 then ⟨#[103, 114, 97, 99, 101]⟩ else if s = 3 then ⟨#[100, 101, 108, 105, 110, 113, 117, 101, 110, 116]⟩ else if s = 4 then ⟨#[112, 114, 111, 109, 105, 115, 101, 100]⟩ else if s = 5 then ⟨#[110, 111, 110, 45, 97, 99, 99, 114, 117, 97, 108]⟩
  else if s = 6 then ⟨#[99, 117, 114, 101, 100]⟩ else if s = 7 then ⟨#[114, 101, 115, 116, 114, 117, 99, 116, 117, 114, 101, 100]⟩ else if s = 8 then ⟨#[99, 104, 97, 114, 103, 101, 100, 45, 111, 102, 102]⟩ else if s = 9 then ⟨#[99, 108, 111, 115, 101, 100]⟩ else ⟨#[]⟩
/-- The table of words lies in its variable. -/
def Nms (w : World) : Prop := ∀ i : Nat, i < 10 → w.cell? ⟨0, i, none⟩ = some (.string (nameB i))
theorem Nms.lt {w : World} (h : Nms w) : 0 < w.heap.size := World.block_lt_of_cell? w _ (h 0 (by omega))
theorem Nms.evt {S : Nat → Prop} {w w' : World} (h : Nms w) (he : Evt S w w') (hs : ¬ S 0) : Nms w' := fun i hi => cell_evt he (h i hi) hs
theorem Nms.up {w w' : World} (h : Nms w) (he : Evt (fun _ => False) w w') : Nms w' := h.evt he id
theorem name_any (s : Int) (w : World) (hN : Nms w) :
    Calls Tryd.prog 8 #[.int .i64 s] w fun e w' => e = .returned (.string (nameB s)) ∧ Evt (fun _ => False) w w' := by
  have hout : ∀ x, nameB s = x → Ending.returned (.string x) = Ending.returned (.string (nameB s)) := fun x h => by rw [h]
  by_cases hs : 0 ≤ s ∧ s ≤ 9
  · have hcell : w.cell? ⟨0, s.toNat, none⟩ = some (.string (nameB s)) := by
      have h1 := hN s.toNat (by omega)
      rw [h1, show ((s.toNat : Nat) : Int) = s by omega]
    go_enter Tryd.func8, Tryd.ntmps8
    repeat' (first | ((with_reducible refine' l_step ?_); (with_reducible refine' g_indexArr (e := 9) (n := 10) ?hx ?hy ?hu ?hs ?h0 ?h1 ?_); (case hx => rfl); (case hy => rfl); (case hu => kernel_rfl); (case hs => kernel_rfl); (case h0 => omega); (case h1 => omega); (conv => arg 5; simp only [zA, zB, ev, lget, zC, zD, zE, zF, zG, zH, zI, zJ, zK, zL, zM, zN])) | (with_reducible (first | refine' wp_seq ?_ | refine' wp_region_lit ?_ | refine' wpList_nil ?_ | refine' then_normal ?_ | refine' wp_ret ?_ | refine' wp_skip ?_)) | ((with_reducible refine' c_condF ?hx ?_); (case hx => rfl)) | ((with_reducible refine' b_ret1 ?hr ?hv ?_); (case hr => rfl); (case hv => ((try simp only [ev, lget]); (try rfl)))) | ((with_reducible refine' l_step ?_); (first | ((first | (with_reducible refine' g_move ?_) | (with_reducible refine' g_assign ?_) | ((with_reducible refine' g_loadC ?hx ?hc ?_); (case hx => rfl); (case hc => exact cqq)) | ((with_reducible refine' g_pickF ?hx ?_); (case hx => rfl))); (conv => arg 5; simp only [zA, zB, ev, lget, zC, zD, zE, zF, zG, zH, zI, zJ, zK, zL, zM, zN])) | ((first | ((with_reducible refine' g_lss ?hx ?hy (fun _ => ?_) (fun _ => ?_)); (case hx => rfl)) | ((with_reducible refine' g_geq ?hx ?hy (fun _ => ?_) (fun _ => ?_)); (case hx => rfl))); (case hy => rfl); all_goals (first | (exfalso; omega) | (conv => arg 5; simp only [zA, zB, ev, lget, zC, zD, zE, zF, zG, zH, zI, zJ, zK, zL, zM, zN]))))) | ((with_reducible refine' l_on ?hw ?_); (case hw => rfl)))
    exact ⟨rfl, by exact eqq⟩
  · have hz : nameB s = ⟨#[]⟩ := by unfold nameB; repeat rw [if_neg (by omega)]
    go_enter Tryd.func8, Tryd.ntmps8
    repeat' (first | (with_reducible (first | refine' wp_seq ?_ | refine' wp_region_lit ?_ | refine' wpList_nil ?_ | refine' then_normal ?_ | refine' wp_ret ?_ | refine' then_ret ?_)) | ((with_reducible refine' c_condT ?hx ?_); (case hx => rfl)) | ((with_reducible refine' b_ret1 ?hr ?hv ?_); (case hr => rfl); (case hv => ((try simp only [ev, lget]); (try rfl)))) | ((with_reducible refine' l_step ?_); (first | ((first | (with_reducible refine' g_move ?_) | (with_reducible refine' g_assign ?_) | ((with_reducible refine' g_pickT ?hx ?_); (case hx => rfl)) | ((with_reducible refine' g_pickF ?hx ?_); (case hx => rfl))); (conv => arg 5; simp only [zA, zB, ev, lget, zC, zD, zE, zF, zG, zH, zI, zJ, zK, zL, zM, zN])) | ((first | ((with_reducible refine' g_lss ?hx ?hy (fun _ => ?_) (fun _ => ?_)); (case hx => rfl)) | ((with_reducible refine' g_geq ?hx ?hy (fun _ => ?_) (fun _ => ?_)); (case hx => rfl))); (case hy => rfl); all_goals (first | (exfalso; omega) | (conv => arg 5; simp only [zA, zB, ev, lget, zC, zD, zE, zF, zG, zH, zI, zJ, zK, zL, zM, zN]))))) | ((with_reducible refine' l_on ?hw ?_); (case hw => rfl)) | ((with_reducible refine' l_off ?hw ?_); (case hw => rfl); (conv => arg 5; simp only [zA, zB, ev, lget, zC, zD, zE, zF, zG, zH, zI, zJ, zK, zL, zM, zN])))
    all_goals exact ⟨hout _ hz, by exact eqq⟩
theorem name_r (s : Int) (w : World) :
    Calls Tryd.prog 9 #[.int .i64 s] w fun e w' => e = .returned (.string (nameB s)) ∧ Evt (fun _ => False) w w' := by
  have hout : ∀ x, nameB s = x → Ending.returned (.string x) = Ending.returned (.string (nameB s)) := fun x h => by rw [h]
  go_enter Tryd.func9, Tryd.ntmps9
  repeat' (first | (with_reducible (first | refine' wp_seq ?_ | refine' wp_region_lit ?_ | refine' wpList_nil ?_ | refine' then_normal ?_ | refine' wp_block ?_ | refine' wp_ret ?_ | refine' wp_skip ?_ | refine' then_ret ?_ | refine' in_normal ?_ | refine' in_ret ?_)) | ((with_reducible refine' c_condT ?hx ?_); (case hx => rfl)) | ((with_reducible refine' c_condF ?hx ?_); (case hx => rfl)) | ((with_reducible refine' b_ret1 ?hr ?hv ?_); (case hr => rfl); (case hv => ((try simp only [ev, lget]); (try rfl)))) | ((with_reducible refine' l_step ?_); (first | ((first | (with_reducible refine' g_move ?_) | (with_reducible refine' g_assign ?_)); (conv => arg 5; simp only [zA, zB, ev, lget, zC, zD, zE, zF, zG, zH, zI, zJ, zK, zL, zM, zN])) | (((with_reducible refine' g_eql ?hx ?hy (fun _ => ?_) (fun _ => ?_)); (case hx => rfl)); (case hy => rfl); all_goals (first | (exfalso; omega) | (conv => arg 5; simp only [zA, zB, ev, lget, zC, zD, zE, zF, zG, zH, zI, zJ, zK, zL, zM, zN]))))))
  all_goals exact ⟨hout _ (by unfold nameB; (repeat (first | rw [if_pos (by omega)] | rw [if_neg (by omega)]))), by exact eqq⟩
theorem name8 : nameB 8 = ⟨#[99, 104, 97, 114, 103, 101, 100, 45, 111, 102, 102]⟩ := by simp [nameB]
theorem namesRight_any (s : Int) (w : World) (hN : Nms w) :
    Calls Tryd.prog 7 #[.int .i64 s] w fun e w' => e = .returned (.bool true) ∧ Evt (fun _ => False) w w' := by
  go_enter Tryd.func7, Tryd.ntmps7
  repeat' (first | (go_at_call 8; refine (name_any _ _ (hN.up (by exact eqq))).mono ?_; rintro e w1 ⟨rfl, ev1⟩; have z1 := ev1.size; refine ⟨_, rfl, ?_⟩; (conv => arg 5; simp only [zA, zB, ev, lget, zC, zD, zE, zF, zG, zH, zI, zJ, zK, zL, zM, zN])) | (go_at_call 9; refine (name_r _ _).mono ?_; rintro e w1 ⟨rfl, ev1⟩; have z1 := ev1.size; refine ⟨_, rfl, ?_⟩; (conv => arg 5; simp only [zA, zB, ev, lget, zC, zD, zE, zF, zG, zH, zI, zJ, zK, zL, zM, zN])) | ((with_reducible refine' l_step ?_); (with_reducible refine' g_eqlStr ?hx ?hy (fun _ => ?_) (fun c => absurd (by first | rfl | exact name8) c)); (case hx => rfl); (case hy => rfl); (conv => arg 5; simp only [zA, zB, ev, lget, zC, zD, zE, zF, zG, zH, zI, zJ, zK, zL, zM, zN])) | (with_reducible (first | refine' wp_seq ?_ | refine' wp_region_lit ?_ | refine' wpList_nil ?_ | refine' then_normal ?_ | refine' wp_ret ?_)) | ((with_reducible refine' b_ret1 ?hr ?hv ?_); (case hr => rfl); (case hv => ((try simp only [ev, lget]); (try rfl)))) | ((with_reducible refine' l_step ?_); ((first | (with_reducible refine' g_move ?_) | (with_reducible refine' g_assign ?_) | ((with_reducible refine' g_pickT ?hx ?_); (case hx => rfl))); (conv => arg 5; simp only [zA, zB, ev, lget, zC, zD, zE, zF, zG, zH, zI, zJ, zK, zL, zM, zN]))) | ((with_reducible refine' l_on ?hw ?_); (case hw => rfl)) | ((with_reducible refine' l_call TFn.ent ?ha ?_); (case ha => simp only [zC, zD, ev, lget]; (try rfl))))
  exact ⟨rfl, by exact eqq⟩
end Go.Proofs.YthfnlmedelfbnaaDoor
