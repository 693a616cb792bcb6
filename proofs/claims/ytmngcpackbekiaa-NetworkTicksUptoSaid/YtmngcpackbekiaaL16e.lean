/- NetworkTicks, NetworkTakes, NetworkExact. DEPTH=8 -/
import Derived.Test.YtmngcpackbekiaaUpt16b
namespace Go.Proofs.Ytmngcpackbekiaa
open Go.RowKit Go.Proofs.YtmngcpackbekiaaE
set_option linter.unusedSimpArgs false
set_option linter.unusedVariables false

section
variable {P : Program} {w : World} {ty : TypeId} {pos : String} {aft : Array Edge} {l : List Value} {d : Option Tmp} {g : Option (Nat × Bool)} {K : Value → Prop} {t u : TypeId} {x y : Operand}
theorem g_neqPtrN {a : Addr} [hp : TPtr P t] (hx : ev l x = .pointer (some a)) (hy : ev l y = .pointer none) (h : K (.bool true)) : Go1 P ⟨d, .binOp .neq t x y u, ty, pos, aft, g⟩ l w K :=
  ⟨_, fun n _ => by
    have hg : (eqGuard .neq t x y (.pointer (some a)) (.pointer none)).run P n = .ok () n := rfl
    simp only [execOp, hx, hy, Sem.run_bind, hg, run_neq_pointer_nil n t (some a) hp.ok, Result.andThen_ok]
    rfl, h⟩
end
theorem f_y : fateN newN (strI ⟨#[121]⟩) = (newN, 160) := by
  have h1 : strI ⟨#[121]⟩ = [121] := rfl
  rw [h1]
  unfold fateN letterB
  rw [if_neg (by decide), if_neg (by decide), if_pos (by decide)]
theorem f_d : fateN newN (strI ⟨#[100]⟩) = ({ newN with fates := [100] }, 0) := by
  have h1 : strI ⟨#[100]⟩ = [100] := rfl
  rw [h1]
  unfold fateN letterB
  rw [if_neg (by decide), if_neg (by decide), if_neg (by decide), if_neg (by decide)]
  rfl
theorem s_y : (⟨#[121]⟩ : ByteArray).size ≤ 9223372036854775807 := by show 1 ≤ _; omega
theorem s_d : (⟨#[100]⟩ : ByteArray).size ≤ 9223372036854775807 := by show 1 ≤ _; omega
set_option maxHeartbeats 400000 in
theorem begins_any (w : World) :
    Calls Try.prog 24 #[] w fun e w' => e = .returned (.bool true) ∧ Evt (fun _ => False) w w' := by
  go_enter Try.func24, Try.ntmps24
  repeat' (first | (go_at_call 10; (with_reducible refine (new_n _).mono ?_); rintro e wn ⟨g, F0, rfl, hN0, hF0, hevn⟩; have hzn := hevn.size; refine ⟨_, rfl, ?_⟩; (conv => arg 5; simp only [zA, zB, ev, lget, zC, zD, zE, zF, zG, zH, zI, zJ, zK, zL, zM, zN, zO])) | ((with_reducible refine' l_step ?_); (with_reducible refine' g_neqPtrN ?hx ?hy ?_); (case hx => rfl); (case hy => rfl); (conv => arg 5; simp only [zA, zB, ev, lget, zC, zD, zE, zF, zG, zH, zI, zJ, zK, zL, zM, zN, zO])) | (go_at_call 11; (with_reducible refine (fate_n g F0 newN newN 160 ⟨#[121]⟩ _ (hN0.up (by exact eqq)) (by simp [newN]) s_y f_y).mono ?_); rintro e w1 ⟨F1, rfl, hN1, hF1, ev1⟩; have z1 := ev1.size; refine ⟨_, rfl, ?_⟩; (conv => arg 5; simp only [zA, zB, ev, lget, zC, zD, zE, zF, zG, zH, zI, zJ, zK, zL, zM, zN, zO])) | (go_at_call 11; (with_reducible refine (fate_n g F1 newN _ 0 ⟨#[100]⟩ _ (hN1.up (by exact eqq)) (by simp [newN]) s_d f_d).mono ?_); rintro e w2 ⟨F2, rfl, hN2, hF2, ev2⟩; have z2 := ev2.size; refine ⟨_, rfl, ?_⟩; (conv => arg 5; simp only [zA, zB, ev, lget, zC, zD, zE, zF, zG, zH, zI, zJ, zK, zL, zM, zN, zO])) | (with_reducible (first | refine' wp_seq ?_ | refine' wp_region_lit ?_ | refine' wpList_nil ?_ | refine' then_normal ?_ | refine' wp_ret ?_)) | ((with_reducible refine' b_ret1 ?hr ?hv ?_); (case hr => rfl); (case hv => ((try simp only [ev, lget]); (try rfl)))) | ((with_reducible refine' l_step ?_); (first | ((first | (with_reducible refine' g_move ?_) | (with_reducible refine' g_assign ?_) | ((with_reducible refine' g_pickT ?hx ?_); (case hx => rfl))); (conv => arg 5; simp only [zA, zB, ev, lget, zC, zD, zE, zF, zG, zH, zI, zJ, zK, zL, zM, zN, zO])) | (((with_reducible refine' g_eql ?hx ?hy (fun _ => ?_) (fun _ => ?_)); (case hx => rfl)); (case hy => rfl); all_goals (first | (exfalso; omega) | (conv => arg 5; simp only [zA, zB, ev, lget, zC, zD, zE, zF, zG, zH, zI, zJ, zK, zL, zM, zN, zO]))))) | ((with_reducible refine' l_on ?hw ?_); (case hw => rfl)) | ((with_reducible refine' l_call TFn.ent ?ha ?_); (case ha => simp only [zC, zD, ev, lget]; (try rfl))))
  have e1 : Evt (fun _ => False) w w1 := evt_new ev1 hevn hF0
  exact ⟨rfl, evt_new ev2 e1 (fun k hk => by
    rcases hF1 k hk with h1 | h1
    · exact hF0 k h1
    · omega)⟩
set_option maxHeartbeats 1000000 in
theorem NetworkTicks_walk (A : Option Addr) (os : List Opr) (c : Nat) (w : World) (ho : RO w A os) (hb : os.length ≤ 1048576) (hwf : ∀ o ∈ os, (-9223372036854775808 ≤ o.id ∧ o.id ≤ 9223372036854775807) ∧ o.body.length ≤ 1048576 ∧ o.s.size ≤ 9223372036854775807) :
    Calls Try.prog 6 #[.slice A os.length c] w fun e w' => e = .returned (.bool true) ∧ Evt (fun _ => False) w w' := by
  go_enter Try.func6, Try.ntmps6
  repeat' (first | (go_at_call 24; (with_reducible refine (begins_any _).mono ?_); rintro e w1 ⟨rfl, ev1⟩; have z1 := ev1.size; refine ⟨_, rfl, ?_⟩; (conv => arg 5; simp only [zA, zB, ev, lget, zC, zD, zE, zF, zG, zH, zI, zJ, zK, zL, zM, zN, zO])) | (go_at_call 25; (with_reducible refine (upTo_any A os c 4 4 _ (ho.up (by exact eqq)) hb hwf).mono ?_); rintro e w2 ⟨rfl, ev2⟩; have z2 := ev2.size; refine ⟨_, rfl, ?_⟩; (conv => arg 5; simp only [zA, zB, ev, lget, zC, zD, zE, zF, zG, zH, zI, zJ, zK, zL, zM, zN, zO])) | (with_reducible (first | refine' wp_seq ?_ | refine' wp_region_lit ?_ | refine' wpList_nil ?_ | refine' then_normal ?_ | refine' wp_ret ?_)) | ((with_reducible refine' b_ret1 ?hr ?hv ?_); (case hr => rfl); (case hv => ((try simp only [ev, lget]); (try rfl)))) | ((with_reducible refine' l_step ?_); ((first | (with_reducible refine' g_move ?_) | (with_reducible refine' g_assign ?_) | ((with_reducible refine' g_pickT ?hx ?_); (case hx => rfl))); (conv => arg 5; simp only [zA, zB, ev, lget, zC, zD, zE, zF, zG, zH, zI, zJ, zK, zL, zM, zN, zO]))) | ((with_reducible refine' l_on ?hw ?_); (case hw => rfl)) | ((with_reducible refine' l_call TFn.ent ?ha ?_); (case ha => simp only [zC, zD, ev, lget]; (try rfl))))
  exact ⟨rfl, Evt.next ev2 ev1 (fun _ _ h => h)⟩
set_option maxHeartbeats 1000000 in
theorem NetworkTakes_walk (A : Option Addr) (os : List Opr) (c : Nat) (w : World) (ho : RO w A os) (hb : os.length ≤ 1048576) (hwf : ∀ o ∈ os, (-9223372036854775808 ≤ o.id ∧ o.id ≤ 9223372036854775807) ∧ o.body.length ≤ 1048576 ∧ o.s.size ≤ 9223372036854775807) :
    Calls Try.prog 7 #[.slice A os.length c] w fun e w' => e = .returned (.bool true) ∧ Evt (fun _ => False) w w' := by
  go_enter Try.func7, Try.ntmps7
  repeat' (first | (go_at_call 24; (with_reducible refine (begins_any _).mono ?_); rintro e w1 ⟨rfl, ev1⟩; have z1 := ev1.size; refine ⟨_, rfl, ?_⟩; (conv => arg 5; simp only [zA, zB, ev, lget, zC, zD, zE, zF, zG, zH, zI, zJ, zK, zL, zM, zN, zO])) | (go_at_call 25; (with_reducible refine (upTo_any A os c 6 6 _ (ho.up (by exact eqq)) hb hwf).mono ?_); rintro e w2 ⟨rfl, ev2⟩; have z2 := ev2.size; refine ⟨_, rfl, ?_⟩; (conv => arg 5; simp only [zA, zB, ev, lget, zC, zD, zE, zF, zG, zH, zI, zJ, zK, zL, zM, zN, zO])) | (with_reducible (first | refine' wp_seq ?_ | refine' wp_region_lit ?_ | refine' wpList_nil ?_ | refine' then_normal ?_ | refine' wp_ret ?_)) | ((with_reducible refine' b_ret1 ?hr ?hv ?_); (case hr => rfl); (case hv => ((try simp only [ev, lget]); (try rfl)))) | ((with_reducible refine' l_step ?_); ((first | (with_reducible refine' g_move ?_) | (with_reducible refine' g_assign ?_) | ((with_reducible refine' g_pickT ?hx ?_); (case hx => rfl))); (conv => arg 5; simp only [zA, zB, ev, lget, zC, zD, zE, zF, zG, zH, zI, zJ, zK, zL, zM, zN, zO]))) | ((with_reducible refine' l_on ?hw ?_); (case hw => rfl)) | ((with_reducible refine' l_call TFn.ent ?ha ?_); (case ha => simp only [zC, zD, ev, lget]; (try rfl))))
  exact ⟨rfl, Evt.next ev2 ev1 (fun _ _ h => h)⟩
set_option maxHeartbeats 1000000 in
theorem NetworkExact_walk (A : Option Addr) (os : List Opr) (c : Nat) (w : World) (ho : RO w A os) (hb : os.length ≤ 1048576) (hwf : ∀ o ∈ os, (-9223372036854775808 ≤ o.id ∧ o.id ≤ 9223372036854775807) ∧ o.body.length ≤ 1048576 ∧ o.s.size ≤ 9223372036854775807) :
    Calls Try.prog 9 #[.slice A os.length c] w fun e w' => e = .returned (.bool true) ∧ Evt (fun _ => False) w w' := by
  go_enter Try.func9, Try.ntmps9
  repeat' (first | (go_at_call 24; (with_reducible refine (begins_any _).mono ?_); rintro e w1 ⟨rfl, ev1⟩; have z1 := ev1.size; refine ⟨_, rfl, ?_⟩; (conv => arg 5; simp only [zA, zB, ev, lget, zC, zD, zE, zF, zG, zH, zI, zJ, zK, zL, zM, zN, zO])) | (go_at_call 25; (with_reducible refine (upTo_any A os c 1 7 _ (ho.up (by exact eqq)) hb hwf).mono ?_); rintro e w2 ⟨rfl, ev2⟩; have z2 := ev2.size; refine ⟨_, rfl, ?_⟩; (conv => arg 5; simp only [zA, zB, ev, lget, zC, zD, zE, zF, zG, zH, zI, zJ, zK, zL, zM, zN, zO])) | (with_reducible (first | refine' wp_seq ?_ | refine' wp_region_lit ?_ | refine' wpList_nil ?_ | refine' then_normal ?_ | refine' wp_ret ?_)) | ((with_reducible refine' b_ret1 ?hr ?hv ?_); (case hr => rfl); (case hv => ((try simp only [ev, lget]); (try rfl)))) | ((with_reducible refine' l_step ?_); ((first | (with_reducible refine' g_move ?_) | (with_reducible refine' g_assign ?_) | ((with_reducible refine' g_pickT ?hx ?_); (case hx => rfl))); (conv => arg 5; simp only [zA, zB, ev, lget, zC, zD, zE, zF, zG, zH, zI, zJ, zK, zL, zM, zN, zO]))) | ((with_reducible refine' l_on ?hw ?_); (case hw => rfl)) | ((with_reducible refine' l_call TFn.ent ?ha ?_); (case ha => simp only [zC, zD, ev, lget]; (try rfl))))
  exact ⟨rfl, Evt.next ev2 ev1 (fun _ _ h => h)⟩
end Go.Proofs.Ytmngcpackbekiaa
