/- The law's own helpers. SHORT NORMX -/
import Derived.Test.YtchfkkliechgoaaBox17g
namespace Go.Proofs.Ytchfkkliechgoaa
open Go.RowKit Go.Proofs.YtchfkkliechgoaaE
set_option linter.unusedSimpArgs false
set_option linter.unusedVariables false
set_option maxRecDepth 4000

theorem RC.at_ {α : Type} {f : α → Value} {w : World} {A : Option Addr} {xs : List α} (h : RC w A (xs.map f)) {i : Nat} (hi : i < xs.length) : ∃ b o, A = some ⟨b, o, none⟩ ∧ w.cell? ⟨b, o + i, none⟩ = some (f xs[i]) := by
  obtain ⟨b, o, rfl, hc⟩ := h (by rw [List.length_map]; omega)
  exact ⟨b, o, rfl, hc i _ (by simp [hi])⟩
instance : DecidableEq Ep := fun a b => decidable_of_iff (a.id = b.id ∧ a.att = b.att ∧ a.nxt = b.nxt ∧ a.body = b.body) (by cases a; cases b; simp)
/-- Rows of so many cells an element. -/
theorem flat_at {α : Type} {f : α → List Value} {sz : Nat} (hf : ∀ x, (f x).length = sz) : ∀ (l : List α) (i j : Nat) (x : α) (v : Value), l[i]? = some x → (f x)[j]? = some v → (l.flatMap f)[i * sz + j]? = some v
  | [], i, j, x, v, hi, _ => by simp at hi
  | y :: l, 0, j, x, v, hi, hj => by
    simp only [List.getElem?_cons_zero, Option.some.injEq] at hi
    subst hi
    rw [List.flatMap_cons, List.getElem?_append_left (by have := (List.getElem?_eq_some_iff.1 hj).1; omega), Nat.zero_mul, Nat.zero_add, hj]
  | y :: l, i + 1, j, x, v, hi, hj => by
    simp only [List.getElem?_cons_succ] at hi
    have hy := hf y
    have h1 : (i + 1) * sz = i * sz + sz := by rw [Nat.add_mul, Nat.one_mul]
    rw [List.flatMap_cons, List.getElem?_append_right (by omega), show (i + 1) * sz + j - (f y).length = i * sz + j by omega]
    exact flat_at hf l i j x v hi hj
theorem flat_len {α : Type} {f : α → List Value} {sz : Nat} (hf : ∀ x, (f x).length = sz) : ∀ (l : List α), (l.flatMap f).length = l.length * sz
  | [] => by simp
  | y :: l => by rw [List.flatMap_cons, List.length_append, flat_len hf l, hf y, List.length_cons, Nat.add_mul, Nat.one_mul, Nat.add_comm]
theorem pkCs_len (l : List Pk) : (pkCs l).length = l.length * 3 := flat_len (f := pkC) (fun _ => rfl) l
theorem ntCs_len (l : List Nt) : (ntCs l).length = l.length * 4 := flat_len (f := ntC) (fun _ => rfl) l
theorem RC.flat {α : Type} {f : α → List Value} {sz : Nat} (hf : ∀ x, (f x).length = sz) {w : World} {A : Option Addr} {l : List α} (h : RC w A (l.flatMap f)) (hz : 0 < sz) {i : Nat} (hi : i < l.length) : ∃ b o, A = some ⟨b, o, none⟩ ∧ ∀ w', Evt (fun _ => False) w w' → ∀ j v, (f l[i])[j]? = some v → w'.cell? ⟨b, o + i * sz + j, none⟩ = some v := by
  obtain ⟨b, o, hA, hc⟩ := h (by rw [flat_len hf]; exact Nat.mul_pos (by omega) hz)
  refine ⟨b, o, hA, fun w' he j v hj => ?_⟩
  have h1 := hc (i * sz + j) v (flat_at hf l i j _ v (List.getElem?_eq_getElem hi) hj)
  rw [← Nat.add_assoc] at h1
  exact cell_evt he h1 (fun h => h)
/-- A list of packets in memory; of notices. -/
structure PkAt (w : World) (A : Option Addr) (l : List Pk) : Prop where
  row : RC w A (pkCs l)
  bod : ∀ m ∈ l, RC w m.b.A (u8s m.b.body)
structure NtAt (w : World) (A : Option Addr) (l : List Nt) : Prop where
  row : RC w A (ntCs l)
  bod : ∀ m ∈ l, RC w m.b.A (u8s m.b.body)
theorem PkAt.up {w w' : World} {A : Option Addr} {l : List Pk} (h : PkAt w A l) (he : Evt (fun _ => False) w w') : PkAt w' A l := ⟨h.row.up he, fun m hm => (h.bod m hm).up he⟩
theorem NtAt.up {w w' : World} {A : Option Addr} {l : List Nt} (h : NtAt w A l) (he : Evt (fun _ => False) w w') : NtAt w' A l := ⟨h.row.up he, fun m hm => (h.bod m hm).up he⟩
theorem PkAt.at_ {w : World} {A : Option Addr} {l : List Pk} (h : PkAt w A l) {i : Nat} (hi : i < l.length) : ∃ b o, A = some ⟨b, o, none⟩ ∧ ∀ w', Evt (fun _ => False) w w' → ∀ j v, (pkC l[i])[j]? = some v → w'.cell? ⟨b, o + i * 3 + j, none⟩ = some v := RC.flat (f := pkC) (fun _ => rfl) h.row (by omega) hi
theorem NtAt.at_ {w : World} {A : Option Addr} {l : List Nt} (h : NtAt w A l) {i : Nat} (hi : i < l.length) : ∃ b o, A = some ⟨b, o, none⟩ ∧ ∀ w', Evt (fun _ => False) w w' → ∀ j v, (ntC l[i])[j]? = some v → w'.cell? ⟨b, o + i * 4 + j, none⟩ = some v := RC.flat (f := ntC) (fun _ => rfl) h.row (by omega) hi
theorem own_rc {w : World} {e : TypeId} {sz n c : Nat} {A : Option Addr} {xs : List Value} (h : w.ownsRow 0 e sz (.slice A n c) n xs) : RC w A xs := by
  rcases own_blk_of h with ⟨h1, h2⟩ | ⟨g, cap, cur, h1, hb, ht, _⟩
  · have := h.1
    simp only [h2, Nat.zero_mul] at this
    rw [List.eq_nil_of_length_eq_zero this]
    intro h0
    simp at h0
  · simp only [Value.slice.injEq] at h1
    obtain ⟨rfl, _, _⟩ := h1
    exact RC.blk hb _ ht
theorem pkAt_own {w : World} {lo n c : Nat} {A : Option Addr} {ks : List Pk} (h : w.ownsRow 0 50 3 (.slice A n c) n (pkCs ks)) (hb : OB w lo (ks.map (·.b))) : PkAt w A ks := ⟨own_rc h, fun m hm => own_rc (hb.own _ (List.mem_map.2 ⟨m, hm, rfl⟩))⟩
theorem ntAt_own {w : World} {lo n c : Nat} {A : Option Addr} {ks : List Nt} (h : w.ownsRow 0 53 4 (.slice A n c) n (ntCs ks)) (hb : OB w lo (ks.map (·.b))) : NtAt w A ks := ⟨own_rc h, fun m hm => own_rc (hb.own _ (List.mem_map.2 ⟨m, hm, rfl⟩))⟩
set_option maxHeartbeats 2000000 in
theorem equal_any (A B : Option Addr) (c d n m : Nat) (xs ys : List Int) (w : World) (hr : RC w A (u8s xs)) (hs : RC w B (u8s ys)) (hn : xs.length = n) (hm : ys.length = m) (hl : n ≤ 9223372036854775807) (hl2 : m ≤ 9223372036854775807) :
    Calls Try.prog 23 #[.slice A n c, .slice B m d] w fun e w' => e = .returned (.bool (decide (xs = ys))) ∧ Evt (fun _ => False) w w' := by
  subst hn
  subst hm
  go_enter Try.func23, Try.ntmps23
  repeat' (first | (with_reducible (first | refine' wp_seq ?_ | refine' wp_region_lit ?_ | refine' wpList_nil ?_ | refine' then_normal ?_ | refine' wp_block ?_ | refine' wp_ret ?_ | refine' wp_skip ?_ | refine' then_ret ?_)) | ((with_reducible refine' c_condT ?hx ?_); (case hx => rfl)) | ((with_reducible refine' c_condF ?hx ?_); (case hx => rfl)) | ((with_reducible refine' b_ret1 ?hr ?hv ?_); (case hr => rfl); (case hv => ((try simp only [ev, lget]); (try rfl)))) | ((with_reducible refine' l_step ?_); (first | ((first | (with_reducible refine' g_move ?_) | (with_reducible refine' g_assign ?_) | ((with_reducible refine' g_lenS ?hx ?_); (case hx => rfl))); (conv => arg 5; simp only [zA, zB, ev, lget, zC, zD, zE, zF, zG, zH, zI, zJ, zK, zL, zM, zN, zO])) | (((with_reducible refine' g_neq ?hx ?hy (fun _ => ?_) (fun _ => ?_)); (case hx => rfl)); (case hy => rfl); all_goals (first | (exfalso; omega) | (conv => arg 5; simp only [zA, zB, ev, lget, zC, zD, zE, zF, zG, zH, zI, zJ, zK, zL, zM, zN, zO]))))))
  · exact ⟨ret_bool (by symm; simp; intro h; subst h; omega), Evt.refl _ _⟩
  refine' s_loop [4, 5, 11, 12, 13, 14, 15, 16, 17, 18, 19, 20, 21, 22, 23, 24, 25] (fun n u w' => ∃ (i : Nat), n = xs.length - i ∧ i ≤ xs.length ∧ u 5 = .int .i64 i ∧ xs.take i = ys.take i ∧ Evt (fun _ => False) w w') xs.length ?h0 ?round
  case h0 => exact ⟨0, rfl, by omega, rfl, rfl, Evt.refl _ _⟩
  case round =>
    rintro n u w2 ⟨i, rfl, hi, h5, heq, hev⟩
    simp only [setW, List.foldl_cons, List.foldl_nil, List.set_cons_succ, List.set_cons_zero]
    simp only [h5]
    have hz := hev.size
    by_cases hlt : i < xs.length
    · have hlt2 : i < ys.length := by omega
      obtain ⟨b, o, rfl, hc⟩ := RC.at_ (hr.up hev) hlt
      obtain ⟨b', o', rfl, hc'⟩ := RC.at_ (hs.up hev) hlt2
      clear hr hs
      repeat' (first | (with_reducible (first | refine' wp_seq ?_ | refine' wp_region_lit ?_ | refine' wpList_nil ?_ | refine' then_normal ?_ | refine' wp_block ?_ | refine' wp_ret ?_ | refine' wp_skip ?_ | refine' then_ret ?_ | refine' in_normal ?_ | refine' in_ret ?_)) | ((with_reducible refine' c_condT ?hx ?_); (case hx => rfl)) | ((with_reducible refine' c_condF ?hx ?_); (case hx => rfl)) | ((with_reducible refine' b_ret1 ?hr ?hv ?_); (case hr => rfl); (case hv => ((try simp only [ev, lget]); (try rfl)))) | ((with_reducible refine' l_step ?_); (first | ((first | (with_reducible refine' g_move ?_) | (with_reducible refine' g_assign ?_) | ((with_reducible refine' g_addN ?hx ?hy ?h0 ?h1 ?_); (case hx => rfl); (case hy => rfl); (case h0 => omega); (case h1 => omega)) | ((with_reducible refine' g_lenS ?hx ?_); (case hx => rfl))); (conv => arg 5; simp only [zA, zB, ev, lget, zC, zD, zE, zF, zG, zH, zI, zJ, zK, zL, zM, zN, zO])) | (((with_reducible refine' g_lss ?hx ?hy (fun _ => ?_) (fun _ => ?_)); (case hx => rfl)); (case hy => rfl); all_goals (first | (exfalso; omega) | (conv => arg 5; simp only [zA, zB, ev, lget, zC, zD, zE, zF, zG, zH, zI, zJ, zK, zL, zM, zN, zO]))))) | ((with_reducible refine' w_quiet (id := 6) ?hm ?hB ?_); (case hm => kernel_rfl); (case hB => kernel_rfl)) | ((with_reducible refine' q_nil ?_); intro _ _ _) | ((with_reducible refine' q_step ?_); (first | ((first | (with_reducible refine' g_move ?_) | ((with_reducible refine' g_loadC ?hx ?hc ?_); (case hx => rfl); (case hc => exact cqq)) | ((with_reducible refine' g_indexAddr ?hx ?hy ?h0 ?h1 ?_); (case hx => rfl); (case hy => rfl); (case h0 => omega); (case h1 => omega))); (conv => arg 6; simp only [zA, zB, ev, lget, zC, zD, zE, zF, zG, zH, zI, zJ, zK, zL, zM, zN, zO])) | (((with_reducible refine' g_neq ?hx ?hy (fun _ => ?_) (fun _ => ?_)); (case hx => rfl)); (case hy => rfl); all_goals (first | (exfalso; omega) | (conv => arg 6; simp only [zA, zB, ev, lget, zC, zD, zE, zF, zG, zH, zI, zJ, zK, zL, zM, zN, zO]))))))
      · have hne : xs[i] ≠ ys[i] := by assumption
        exact ⟨ret_bool (decide_eq_false (fun h => hne (by subst h; rfl))).symm, by exact eqq⟩
      · have he : xs[i] = ys[i] := by assumption
        exact ⟨_, _, rfl, (by omega : xs.length - (i + 1) < xs.length - i), by simp only [zA, zB], i + 1, rfl, by omega, rfl, by rw [List.take_succ_eq_append_getElem hlt, List.take_succ_eq_append_getElem hlt2, heq, he], by exact eqq⟩
    · have hi' : i = xs.length := by omega
      repeat' (first | (with_reducible (first | refine' wp_seq ?_ | refine' wp_region_lit ?_ | refine' wpList_nil ?_ | refine' then_normal ?_ | refine' wp_ret ?_ | refine' wp_exit ?_ | refine' then_exit ?_ | refine' in_exit ?_)) | ((with_reducible refine' c_condF ?hx ?_); (case hx => rfl)) | ((with_reducible refine' b_ret1 ?hr ?hv ?_); (case hr => rfl); (case hv => ((try simp only [ev, lget]); (try rfl)))) | ((with_reducible refine' l_step ?_); (first | ((first | (with_reducible refine' g_move ?_) | (with_reducible refine' g_assign ?_) | ((with_reducible refine' g_lenS ?hx ?_); (case hx => rfl))); (conv => arg 5; simp only [zA, zB, ev, lget, zC, zD, zE, zF, zG, zH, zI, zJ, zK, zL, zM, zN, zO])) | (((with_reducible refine' g_lss ?hx ?hy (fun _ => ?_) (fun _ => ?_)); (case hx => rfl)); (case hy => rfl); all_goals (first | (exfalso; omega) | (conv => arg 5; simp only [zA, zB, ev, lget, zC, zD, zE, zF, zG, zH, zI, zJ, zK, zL, zM, zN, zO]))))))
      refine ⟨ret_bool (decide_eq_true ?_).symm, by exact eqq⟩
      rw [hi', List.take_length, List.take_of_length_le (by omega)] at heq
      exact heq
set_option maxHeartbeats 2000000 in
theorem packets_any (A B : Option Addr) (c d n m : Nat) (xs ys : List Pk) (w : World) (hr : PkAt w A xs) (hs : PkAt w B ys) (hn : xs.length = n) (hm : ys.length = m) (hl : n ≤ 9223372036854775807) (hl2 : m ≤ 9223372036854775807) (hb1 : ∀ x ∈ xs, x.b.body.length ≤ 9223372036854775807) (hb2 : ∀ x ∈ ys, x.b.body.length ≤ 9223372036854775807) :
    Calls Try.prog 26 #[.slice A n c, .slice B m d] w fun e w' => e = .returned (.bool (decide (xs.map pkP = ys.map pkP))) ∧ Evt (fun _ => False) w w' := by
  subst hn
  subst hm
  go_enter Try.func26, Try.ntmps26
  repeat' (first | (with_reducible (first | refine' wp_seq ?_ | refine' wp_region_lit ?_ | refine' wpList_nil ?_ | refine' then_normal ?_ | refine' wp_block ?_ | refine' wp_ret ?_ | refine' wp_skip ?_ | refine' then_ret ?_)) | ((with_reducible refine' c_condT ?hx ?_); (case hx => rfl)) | ((with_reducible refine' c_condF ?hx ?_); (case hx => rfl)) | ((with_reducible refine' b_ret1 ?hr ?hv ?_); (case hr => rfl); (case hv => ((try simp only [ev, lget]); (try rfl)))) | ((with_reducible refine' l_step ?_); (first | ((first | (with_reducible refine' g_move ?_) | (with_reducible refine' g_assign ?_) | ((with_reducible refine' g_lenS ?hx ?_); (case hx => rfl))); (conv => arg 5; simp only [zA, zB, ev, lget, zC, zD, zE, zF, zG, zH, zI, zJ, zK, zL, zM, zN, zO])) | (((with_reducible refine' g_neq ?hx ?hy (fun _ => ?_) (fun _ => ?_)); (case hx => rfl)); (case hy => rfl); all_goals (first | (exfalso; omega) | (conv => arg 5; simp only [zA, zB, ev, lget, zC, zD, zE, zF, zG, zH, zI, zJ, zK, zL, zM, zN, zO]))))))
  · refine ⟨ret_bool (decide_eq_false fun h => ?_).symm, Evt.refl _ _⟩
    have := congrArg List.length h
    simp at this
    omega
  refine' s_loop [4, 5, 11, 12, 13, 14, 15, 16, 17, 18, 19, 20, 21, 22, 23, 24, 25, 26, 27, 28, 29, 30, 31, 32, 33, 34, 35, 36, 37, 38, 39, 40, 41, 42, 43, 44, 45, 46, 47, 48, 49, 50, 51, 52, 53, 54] (fun n u w' => ∃ (i : Nat), n = xs.length - i ∧ i ≤ xs.length ∧ u 5 = .int .i64 i ∧ (xs.take i).map pkP = (ys.take i).map pkP ∧ Evt (fun _ => False) w w') xs.length ?h0 ?round
  case h0 => exact ⟨0, rfl, by omega, rfl, rfl, Evt.refl _ _⟩
  case round =>
    rintro n u w2 ⟨i, rfl, hi, h5, heq, hev⟩
    simp only [setW, List.foldl_cons, List.foldl_nil, List.set_cons_succ, List.set_cons_zero]
    simp only [h5]
    have hz := hev.size
    by_cases hlt : i < xs.length
    · have hlt2 : i < ys.length := by omega
      obtain ⟨b, o, rfl, hcellE⟩ := (hr.up hev).at_ hlt
      obtain ⟨b', o', rfl, hcellF⟩ := (hs.up hev).at_ hlt2
      have hbx := hb1 xs[i] (List.getElem_mem hlt)
      have hby := hb2 ys[i] (List.getElem_mem hlt2)
      have hrx := ((hr.up hev).bod xs[i] (List.getElem_mem hlt))
      have hry := ((hs.up hev).bod ys[i] (List.getElem_mem hlt2))
      have hno : xs.map pkP = ys.map pkP → pkP xs[i] = pkP ys[i] := fun h => by
        have h1 := congrArg (fun l => l[i]?) h
        simp [hlt, hlt2] at h1
        exact h1
      have htx := List.take_succ_eq_append_getElem hlt
      have hty := List.take_succ_eq_append_getElem hlt2
      clear hr hs
      generalize xs[i] = x at *
      generalize ys[i] = y at *
      by_cases hbd : x.b.body = y.b.body
      · repeat' (first | ((with_reducible refine' q_call (f := 23) TFn.ent ?ha ?hc ?_); (case ha => simp only [zC, zD, ev, lget]; (try rfl)); (case hc => intro wq hwq; have hzq := hwq.size; refine (equal_any x.b.A y.b.A x.b.c y.b.c x.b.body.length y.b.body.length x.b.body y.b.body _ (hrx.up (by exact eqq)) (hry.up (by exact eqq)) rfl rfl hbx hby).mono ?_; rintro e w' ⟨rfl, hev⟩; exact ⟨rfl, hev⟩); (conv => arg 6; simp only [zA, zB, ev, lget, zC, zD, zE, zF, zG, zH, zI, zJ, zK, zL, zM, zN, zO])) | ((with_reducible refine' q_step ?_); (with_reducible refine' g_notT ?hx ?_); (case hx => exact congrArg Value.bool (decide_eq_true hbd)); (conv => arg 6; simp only [zA, zB, ev, lget, zC, zD, zE, zF, zG, zH, zI, zJ, zK, zL, zM, zN, zO])) | (with_reducible (first | refine' wp_seq ?_ | refine' wp_region_lit ?_ | refine' wpList_nil ?_ | refine' then_normal ?_ | refine' wp_block ?_ | refine' wp_ret ?_ | refine' wp_skip ?_ | refine' then_ret ?_ | refine' in_normal ?_ | refine' in_ret ?_)) | ((with_reducible refine' c_condT ?hx ?_); (case hx => rfl)) | ((with_reducible refine' c_condF ?hx ?_); (case hx => rfl)) | ((with_reducible refine' b_ret1 ?hr ?hv ?_); (case hr => rfl); (case hv => ((try simp only [ev, lget]); (try rfl)))) | ((with_reducible refine' l_step ?_); (first | ((first | (with_reducible refine' g_move ?_) | (with_reducible refine' g_assign ?_) | ((with_reducible refine' g_addN ?hx ?hy ?h0 ?h1 ?_); (case hx => rfl); (case hy => rfl); (case h0 => omega); (case h1 => omega)) | ((with_reducible refine' g_lenS ?hx ?_); (case hx => rfl))); (conv => arg 5; simp only [zA, zB, ev, lget, zC, zD, zE, zF, zG, zH, zI, zJ, zK, zL, zM, zN, zO])) | (((with_reducible refine' g_lss ?hx ?hy (fun _ => ?_) (fun _ => ?_)); (case hx => rfl)); (case hy => rfl); all_goals (first | (exfalso; omega) | (conv => arg 5; simp only [zA, zB, ev, lget, zC, zD, zE, zF, zG, zH, zI, zJ, zK, zL, zM, zN, zO]))))) | ((with_reducible refine' w_quiet (id := 6) ?hm ?hB ?_); (case hm => kernel_rfl); (case hB => kernel_rfl)) | ((with_reducible refine' q_nil ?_); intro _ _ _) | ((with_reducible refine' q_on ?hw ?_); (case hw => rfl)) | ((with_reducible refine' q_off ?hw ?_); (case hw => rfl); (conv => arg 6; simp only [zA, zB, ev, lget, zC, zD, zE, zF, zG, zH, zI, zJ, zK, zL, zM, zN, zO])) | ((with_reducible refine' q_step ?_); (first | ((first | (with_reducible refine' g_move ?_) | ((with_reducible refine' g_fieldAddr ?hx ?ho ?_); (case hx => rfl); (case ho => rfl)) | ((with_reducible refine' g_loadC ?hx ?hc ?_); (case hx => rfl); (case hc => first | exact hcellE _ (by exact eqq) 0 _ rfl | exact hcellE _ (by exact eqq) _ _ rfl | exact hcellF _ (by exact eqq) 0 _ rfl | exact hcellF _ (by exact eqq) _ _ rfl)) | ((with_reducible refine' g_pickT ?hx ?_); (case hx => rfl)) | ((with_reducible refine' g_pickF ?hx ?_); (case hx => rfl)) | ((with_reducible refine' g_indexAddr ?hx ?hy ?h0 ?h1 ?_); (case hx => rfl); (case hy => rfl); (case h0 => omega); (case h1 => omega)) | ((with_reducible refine' g_neqBFF ?hx ?hy ?_); (case hx => rfl); (case hy => rfl))); (conv => arg 6; simp only [zA, zB, ev, lget, zC, zD, zE, zF, zG, zH, zI, zJ, zK, zL, zM, zN, zO])) | (((with_reducible refine' g_neq ?hx ?hy (fun _ => ?_) (fun _ => ?_)); (case hx => rfl)); (case hy => rfl); all_goals (first | (exfalso; omega) | (conv => arg 6; simp only [zA, zB, ev, lget, zC, zD, zE, zF, zG, zH, zI, zJ, zK, zL, zM, zN, zO]))))))
        all_goals first
          | exact ⟨ret_bool (decide_eq_false (fun h => by have h1 := hno h; simp only [pkP, Prod.mk.injEq] at h1; obtain ⟨e1, e2⟩ := h1; contradiction)).symm, by exact eqq⟩
          | exact ⟨_, _, rfl, (by omega : xs.length - (i + 1) < xs.length - i), by simp only [zA, zB], i + 1, rfl, by omega, rfl, by rw [htx, hty, List.map_append, List.map_append, heq]; simp [pkP, *], by exact eqq⟩
      · repeat' (first | ((with_reducible refine' q_call (f := 23) TFn.ent ?ha ?hc ?_); (case ha => simp only [zC, zD, ev, lget]; (try rfl)); (case hc => intro wq hwq; have hzq := hwq.size; refine (equal_any x.b.A y.b.A x.b.c y.b.c x.b.body.length y.b.body.length x.b.body y.b.body _ (hrx.up (by exact eqq)) (hry.up (by exact eqq)) rfl rfl hbx hby).mono ?_; rintro e w' ⟨rfl, hev⟩; exact ⟨rfl, hev⟩); (conv => arg 6; simp only [zA, zB, ev, lget, zC, zD, zE, zF, zG, zH, zI, zJ, zK, zL, zM, zN, zO])) | ((with_reducible refine' q_step ?_); (with_reducible refine' g_notF ?hx ?_); (case hx => exact congrArg Value.bool (decide_eq_false hbd)); (conv => arg 6; simp only [zA, zB, ev, lget, zC, zD, zE, zF, zG, zH, zI, zJ, zK, zL, zM, zN, zO])) | (with_reducible (first | refine' wp_seq ?_ | refine' wp_region_lit ?_ | refine' wpList_nil ?_ | refine' then_normal ?_ | refine' wp_block ?_ | refine' wp_ret ?_ | refine' wp_skip ?_ | refine' then_ret ?_ | refine' in_ret ?_)) | ((with_reducible refine' c_condT ?hx ?_); (case hx => rfl)) | ((with_reducible refine' b_ret1 ?hr ?hv ?_); (case hr => rfl); (case hv => ((try simp only [ev, lget]); (try rfl)))) | ((with_reducible refine' l_step ?_); (first | ((first | (with_reducible refine' g_move ?_) | (with_reducible refine' g_assign ?_) | ((with_reducible refine' g_lenS ?hx ?_); (case hx => rfl))); (conv => arg 5; simp only [zA, zB, ev, lget, zC, zD, zE, zF, zG, zH, zI, zJ, zK, zL, zM, zN, zO])) | (((with_reducible refine' g_lss ?hx ?hy (fun _ => ?_) (fun _ => ?_)); (case hx => rfl)); (case hy => rfl); all_goals (first | (exfalso; omega) | (conv => arg 5; simp only [zA, zB, ev, lget, zC, zD, zE, zF, zG, zH, zI, zJ, zK, zL, zM, zN, zO]))))) | ((with_reducible refine' w_quiet (id := 6) ?hm ?hB ?_); (case hm => kernel_rfl); (case hB => kernel_rfl)) | ((with_reducible refine' q_nil ?_); intro _ _ _) | ((with_reducible refine' q_on ?hw ?_); (case hw => rfl)) | ((with_reducible refine' q_off ?hw ?_); (case hw => rfl); (conv => arg 6; simp only [zA, zB, ev, lget, zC, zD, zE, zF, zG, zH, zI, zJ, zK, zL, zM, zN, zO])) | ((with_reducible refine' q_step ?_); (first | ((first | (with_reducible refine' g_move ?_) | ((with_reducible refine' g_fieldAddr ?hx ?ho ?_); (case hx => rfl); (case ho => rfl)) | ((with_reducible refine' g_loadC ?hx ?hc ?_); (case hx => rfl); (case hc => first | exact hcellE _ (by exact eqq) 0 _ rfl | exact hcellE _ (by exact eqq) _ _ rfl | exact hcellF _ (by exact eqq) 0 _ rfl | exact hcellF _ (by exact eqq) _ _ rfl)) | ((with_reducible refine' g_pickT ?hx ?_); (case hx => rfl)) | ((with_reducible refine' g_pickF ?hx ?_); (case hx => rfl)) | ((with_reducible refine' g_indexAddr ?hx ?hy ?h0 ?h1 ?_); (case hx => rfl); (case hy => rfl); (case h0 => omega); (case h1 => omega)) | ((with_reducible refine' g_neqBFF ?hx ?hy ?_); (case hx => rfl); (case hy => rfl))); (conv => arg 6; simp only [zA, zB, ev, lget, zC, zD, zE, zF, zG, zH, zI, zJ, zK, zL, zM, zN, zO])) | (((with_reducible refine' g_neq ?hx ?hy (fun _ => ?_) (fun _ => ?_)); (case hx => rfl)); (case hy => rfl); all_goals (first | (exfalso; omega) | (conv => arg 6; simp only [zA, zB, ev, lget, zC, zD, zE, zF, zG, zH, zI, zJ, zK, zL, zM, zN, zO]))))))
        all_goals exact ⟨ret_bool (decide_eq_false (fun h => by have h1 := hno h; simp only [pkP, Prod.mk.injEq] at h1; obtain ⟨e1, e2⟩ := h1; contradiction)).symm, by exact eqq⟩
    · have hi' : i = xs.length := by omega
      repeat' (first | (with_reducible (first | refine' wp_seq ?_ | refine' wp_region_lit ?_ | refine' wpList_nil ?_ | refine' then_normal ?_ | refine' wp_ret ?_ | refine' wp_exit ?_ | refine' then_exit ?_ | refine' in_exit ?_)) | ((with_reducible refine' c_condF ?hx ?_); (case hx => rfl)) | ((with_reducible refine' b_ret1 ?hr ?hv ?_); (case hr => rfl); (case hv => ((try simp only [ev, lget]); (try rfl)))) | ((with_reducible refine' l_step ?_); (first | ((first | (with_reducible refine' g_move ?_) | (with_reducible refine' g_assign ?_) | ((with_reducible refine' g_lenS ?hx ?_); (case hx => rfl))); (conv => arg 5; simp only [zA, zB, ev, lget, zC, zD, zE, zF, zG, zH, zI, zJ, zK, zL, zM, zN, zO])) | (((with_reducible refine' g_lss ?hx ?hy (fun _ => ?_) (fun _ => ?_)); (case hx => rfl)); (case hy => rfl); all_goals (first | (exfalso; omega) | (conv => arg 5; simp only [zA, zB, ev, lget, zC, zD, zE, zF, zG, zH, zI, zJ, zK, zL, zM, zN, zO]))))))
      refine ⟨ret_bool (decide_eq_true ?_).symm, by exact eqq⟩
      rw [hi', List.take_length, List.take_of_length_le (by omega)] at heq
      exact heq
set_option maxHeartbeats 2000000 in
theorem pendings_any (A B : Option Addr) (c d n m : Nat) (xs ys : List Nt) (w : World) (hr : NtAt w A xs) (hs : NtAt w B ys) (hn : xs.length = n) (hm : ys.length = m) (hl : n ≤ 9223372036854775807) (hl2 : m ≤ 9223372036854775807) (hb1 : ∀ x ∈ xs, x.b.body.length ≤ 9223372036854775807) (hb2 : ∀ x ∈ ys, x.b.body.length ≤ 9223372036854775807) :
    Calls Try.prog 28 #[.slice A n c, .slice B m d] w fun e w' => e = .returned (.bool (decide (xs.map ntP = ys.map ntP))) ∧ Evt (fun _ => False) w w' := by
  subst hn
  subst hm
  go_enter Try.func28, Try.ntmps28
  repeat' (first | (with_reducible (first | refine' wp_seq ?_ | refine' wp_region_lit ?_ | refine' wpList_nil ?_ | refine' then_normal ?_ | refine' wp_block ?_ | refine' wp_ret ?_ | refine' wp_skip ?_ | refine' then_ret ?_)) | ((with_reducible refine' c_condT ?hx ?_); (case hx => rfl)) | ((with_reducible refine' c_condF ?hx ?_); (case hx => rfl)) | ((with_reducible refine' b_ret1 ?hr ?hv ?_); (case hr => rfl); (case hv => ((try simp only [ev, lget]); (try rfl)))) | ((with_reducible refine' l_step ?_); (first | ((first | (with_reducible refine' g_move ?_) | (with_reducible refine' g_assign ?_) | ((with_reducible refine' g_lenS ?hx ?_); (case hx => rfl))); (conv => arg 5; simp only [zA, zB, ev, lget, zC, zD, zE, zF, zG, zH, zI, zJ, zK, zL, zM, zN, zO])) | (((with_reducible refine' g_neq ?hx ?hy (fun _ => ?_) (fun _ => ?_)); (case hx => rfl)); (case hy => rfl); all_goals (first | (exfalso; omega) | (conv => arg 5; simp only [zA, zB, ev, lget, zC, zD, zE, zF, zG, zH, zI, zJ, zK, zL, zM, zN, zO]))))))
  · refine ⟨ret_bool (decide_eq_false fun h => ?_).symm, Evt.refl _ _⟩
    have := congrArg List.length h
    simp at this
    omega
  refine' s_loop [4, 5, 11, 12, 13, 14, 15, 16, 17, 18, 19, 20, 21, 22, 23, 24, 25, 26, 27, 28, 29, 30, 31, 32, 33, 34, 35, 36, 37, 38, 39, 40, 41, 42, 43, 44, 45, 46, 47, 48, 49, 50, 51, 52, 53, 54, 55, 56, 57, 58, 59, 60, 61, 62, 63, 64, 65, 66, 67] (fun n u w' => ∃ (i : Nat), n = xs.length - i ∧ i ≤ xs.length ∧ u 5 = .int .i64 i ∧ (xs.take i).map ntP = (ys.take i).map ntP ∧ Evt (fun _ => False) w w') xs.length ?h0 ?round
  case h0 => exact ⟨0, rfl, by omega, rfl, rfl, Evt.refl _ _⟩
  case round =>
    rintro n u w2 ⟨i, rfl, hi, h5, heq, hev⟩
    simp only [setW, List.foldl_cons, List.foldl_nil, List.set_cons_succ, List.set_cons_zero]
    simp only [h5]
    have hz := hev.size
    by_cases hlt : i < xs.length
    · have hlt2 : i < ys.length := by omega
      obtain ⟨b, o, rfl, hcellE⟩ := (hr.up hev).at_ hlt
      obtain ⟨b', o', rfl, hcellF⟩ := (hs.up hev).at_ hlt2
      have hbx := hb1 xs[i] (List.getElem_mem hlt)
      have hby := hb2 ys[i] (List.getElem_mem hlt2)
      have hrx := ((hr.up hev).bod xs[i] (List.getElem_mem hlt))
      have hry := ((hs.up hev).bod ys[i] (List.getElem_mem hlt2))
      have hno : xs.map ntP = ys.map ntP → ntP xs[i] = ntP ys[i] := fun h => by
        have h1 := congrArg (fun l => l[i]?) h
        simp [hlt, hlt2] at h1
        exact h1
      have htx := List.take_succ_eq_append_getElem hlt
      have hty := List.take_succ_eq_append_getElem hlt2
      clear hr hs
      generalize xs[i] = x at *
      generalize ys[i] = y at *
      by_cases hbd : x.b.body = y.b.body
      · repeat' (first | ((with_reducible refine' q_call (f := 23) TFn.ent ?ha ?hc ?_); (case ha => simp only [zC, zD, ev, lget]; (try rfl)); (case hc => intro wq hwq; have hzq := hwq.size; refine (equal_any x.b.A y.b.A x.b.c y.b.c x.b.body.length y.b.body.length x.b.body y.b.body _ (hrx.up (by exact eqq)) (hry.up (by exact eqq)) rfl rfl hbx hby).mono ?_; rintro e w' ⟨rfl, hev⟩; exact ⟨rfl, hev⟩); (conv => arg 6; simp only [zA, zB, ev, lget, zC, zD, zE, zF, zG, zH, zI, zJ, zK, zL, zM, zN, zO])) | ((with_reducible refine' q_step ?_); (with_reducible refine' g_notT ?hx ?_); (case hx => exact congrArg Value.bool (decide_eq_true hbd)); (conv => arg 6; simp only [zA, zB, ev, lget, zC, zD, zE, zF, zG, zH, zI, zJ, zK, zL, zM, zN, zO])) | (with_reducible (first | refine' wp_seq ?_ | refine' wp_region_lit ?_ | refine' wpList_nil ?_ | refine' then_normal ?_ | refine' wp_block ?_ | refine' wp_ret ?_ | refine' wp_skip ?_ | refine' then_ret ?_ | refine' in_normal ?_ | refine' in_ret ?_)) | ((with_reducible refine' c_condT ?hx ?_); (case hx => rfl)) | ((with_reducible refine' c_condF ?hx ?_); (case hx => rfl)) | ((with_reducible refine' b_ret1 ?hr ?hv ?_); (case hr => rfl); (case hv => ((try simp only [ev, lget]); (try rfl)))) | ((with_reducible refine' l_step ?_); (first | ((first | (with_reducible refine' g_move ?_) | (with_reducible refine' g_assign ?_) | ((with_reducible refine' g_addN ?hx ?hy ?h0 ?h1 ?_); (case hx => rfl); (case hy => rfl); (case h0 => omega); (case h1 => omega)) | ((with_reducible refine' g_lenS ?hx ?_); (case hx => rfl))); (conv => arg 5; simp only [zA, zB, ev, lget, zC, zD, zE, zF, zG, zH, zI, zJ, zK, zL, zM, zN, zO])) | (((with_reducible refine' g_lss ?hx ?hy (fun _ => ?_) (fun _ => ?_)); (case hx => rfl)); (case hy => rfl); all_goals (first | (exfalso; omega) | (conv => arg 5; simp only [zA, zB, ev, lget, zC, zD, zE, zF, zG, zH, zI, zJ, zK, zL, zM, zN, zO]))))) | ((with_reducible refine' w_quiet (id := 6) ?hm ?hB ?_); (case hm => kernel_rfl); (case hB => kernel_rfl)) | ((with_reducible refine' q_nil ?_); intro _ _ _) | ((with_reducible refine' q_on ?hw ?_); (case hw => rfl)) | ((with_reducible refine' q_off ?hw ?_); (case hw => rfl); (conv => arg 6; simp only [zA, zB, ev, lget, zC, zD, zE, zF, zG, zH, zI, zJ, zK, zL, zM, zN, zO])) | ((with_reducible refine' q_step ?_); (first | ((first | (with_reducible refine' g_move ?_) | ((with_reducible refine' g_fieldAddr ?hx ?ho ?_); (case hx => rfl); (case ho => rfl)) | ((with_reducible refine' g_loadC ?hx ?hc ?_); (case hx => rfl); (case hc => first | exact hcellE _ (by exact eqq) 0 _ rfl | exact hcellE _ (by exact eqq) _ _ rfl | exact hcellF _ (by exact eqq) 0 _ rfl | exact hcellF _ (by exact eqq) _ _ rfl)) | ((with_reducible refine' g_pickT ?hx ?_); (case hx => rfl)) | ((with_reducible refine' g_pickF ?hx ?_); (case hx => rfl)) | ((with_reducible refine' g_indexAddr ?hx ?hy ?h0 ?h1 ?_); (case hx => rfl); (case hy => rfl); (case h0 => omega); (case h1 => omega))); (conv => arg 6; simp only [zA, zB, ev, lget, zC, zD, zE, zF, zG, zH, zI, zJ, zK, zL, zM, zN, zO])) | (((with_reducible refine' g_neq ?hx ?hy (fun _ => ?_) (fun _ => ?_)); (case hx => rfl)); (case hy => rfl); all_goals (first | (exfalso; omega) | (conv => arg 6; simp only [zA, zB, ev, lget, zC, zD, zE, zF, zG, zH, zI, zJ, zK, zL, zM, zN, zO]))))))
        all_goals first
          | exact ⟨ret_bool (decide_eq_false (fun h => by have h1 := hno h; simp only [ntP, Ep.mk.injEq] at h1; obtain ⟨e1, e2, e3, e4⟩ := h1; contradiction)).symm, by exact eqq⟩
          | exact ⟨_, _, rfl, (by omega : xs.length - (i + 1) < xs.length - i), by simp only [zA, zB], i + 1, rfl, by omega, rfl, by rw [htx, hty, List.map_append, List.map_append, heq]; simp [ntP, *], by exact eqq⟩
      · repeat' (first | ((with_reducible refine' q_call (f := 23) TFn.ent ?ha ?hc ?_); (case ha => simp only [zC, zD, ev, lget]; (try rfl)); (case hc => intro wq hwq; have hzq := hwq.size; refine (equal_any x.b.A y.b.A x.b.c y.b.c x.b.body.length y.b.body.length x.b.body y.b.body _ (hrx.up (by exact eqq)) (hry.up (by exact eqq)) rfl rfl hbx hby).mono ?_; rintro e w' ⟨rfl, hev⟩; exact ⟨rfl, hev⟩); (conv => arg 6; simp only [zA, zB, ev, lget, zC, zD, zE, zF, zG, zH, zI, zJ, zK, zL, zM, zN, zO])) | ((with_reducible refine' q_step ?_); (with_reducible refine' g_notF ?hx ?_); (case hx => exact congrArg Value.bool (decide_eq_false hbd)); (conv => arg 6; simp only [zA, zB, ev, lget, zC, zD, zE, zF, zG, zH, zI, zJ, zK, zL, zM, zN, zO])) | (with_reducible (first | refine' wp_seq ?_ | refine' wp_region_lit ?_ | refine' wpList_nil ?_ | refine' then_normal ?_ | refine' wp_block ?_ | refine' wp_ret ?_ | refine' wp_skip ?_ | refine' then_ret ?_ | refine' in_ret ?_)) | ((with_reducible refine' c_condT ?hx ?_); (case hx => rfl)) | ((with_reducible refine' b_ret1 ?hr ?hv ?_); (case hr => rfl); (case hv => ((try simp only [ev, lget]); (try rfl)))) | ((with_reducible refine' l_step ?_); (first | ((first | (with_reducible refine' g_move ?_) | (with_reducible refine' g_assign ?_) | ((with_reducible refine' g_lenS ?hx ?_); (case hx => rfl))); (conv => arg 5; simp only [zA, zB, ev, lget, zC, zD, zE, zF, zG, zH, zI, zJ, zK, zL, zM, zN, zO])) | (((with_reducible refine' g_lss ?hx ?hy (fun _ => ?_) (fun _ => ?_)); (case hx => rfl)); (case hy => rfl); all_goals (first | (exfalso; omega) | (conv => arg 5; simp only [zA, zB, ev, lget, zC, zD, zE, zF, zG, zH, zI, zJ, zK, zL, zM, zN, zO]))))) | ((with_reducible refine' w_quiet (id := 6) ?hm ?hB ?_); (case hm => kernel_rfl); (case hB => kernel_rfl)) | ((with_reducible refine' q_nil ?_); intro _ _ _) | ((with_reducible refine' q_on ?hw ?_); (case hw => rfl)) | ((with_reducible refine' q_off ?hw ?_); (case hw => rfl); (conv => arg 6; simp only [zA, zB, ev, lget, zC, zD, zE, zF, zG, zH, zI, zJ, zK, zL, zM, zN, zO])) | ((with_reducible refine' q_step ?_); (first | ((first | (with_reducible refine' g_move ?_) | ((with_reducible refine' g_fieldAddr ?hx ?ho ?_); (case hx => rfl); (case ho => rfl)) | ((with_reducible refine' g_loadC ?hx ?hc ?_); (case hx => rfl); (case hc => first | exact hcellE _ (by exact eqq) 0 _ rfl | exact hcellE _ (by exact eqq) _ _ rfl | exact hcellF _ (by exact eqq) 0 _ rfl | exact hcellF _ (by exact eqq) _ _ rfl)) | ((with_reducible refine' g_pickT ?hx ?_); (case hx => rfl)) | ((with_reducible refine' g_pickF ?hx ?_); (case hx => rfl)) | ((with_reducible refine' g_indexAddr ?hx ?hy ?h0 ?h1 ?_); (case hx => rfl); (case hy => rfl); (case h0 => omega); (case h1 => omega))); (conv => arg 6; simp only [zA, zB, ev, lget, zC, zD, zE, zF, zG, zH, zI, zJ, zK, zL, zM, zN, zO])) | (((with_reducible refine' g_neq ?hx ?hy (fun _ => ?_) (fun _ => ?_)); (case hx => rfl)); (case hy => rfl); all_goals (first | (exfalso; omega) | (conv => arg 6; simp only [zA, zB, ev, lget, zC, zD, zE, zF, zG, zH, zI, zJ, zK, zL, zM, zN, zO]))))))
        all_goals exact ⟨ret_bool (decide_eq_false (fun h => by have h1 := hno h; simp only [ntP, Ep.mk.injEq] at h1; obtain ⟨e1, e2, e3, e4⟩ := h1; contradiction)).symm, by exact eqq⟩
    · have hi' : i = xs.length := by omega
      repeat' (first | (with_reducible (first | refine' wp_seq ?_ | refine' wp_region_lit ?_ | refine' wpList_nil ?_ | refine' then_normal ?_ | refine' wp_ret ?_ | refine' wp_exit ?_ | refine' then_exit ?_ | refine' in_exit ?_)) | ((with_reducible refine' c_condF ?hx ?_); (case hx => rfl)) | ((with_reducible refine' b_ret1 ?hr ?hv ?_); (case hr => rfl); (case hv => ((try simp only [ev, lget]); (try rfl)))) | ((with_reducible refine' l_step ?_); (first | ((first | (with_reducible refine' g_move ?_) | (with_reducible refine' g_assign ?_) | ((with_reducible refine' g_lenS ?hx ?_); (case hx => rfl))); (conv => arg 5; simp only [zA, zB, ev, lget, zC, zD, zE, zF, zG, zH, zI, zJ, zK, zL, zM, zN, zO])) | (((with_reducible refine' g_lss ?hx ?hy (fun _ => ?_) (fun _ => ?_)); (case hx => rfl)); (case hy => rfl); all_goals (first | (exfalso; omega) | (conv => arg 5; simp only [zA, zB, ev, lget, zC, zD, zE, zF, zG, zH, zI, zJ, zK, zL, zM, zN, zO]))))))
      refine ⟨ret_bool (decide_eq_true ?_).symm, by exact eqq⟩
      rw [hi', List.take_length, List.take_of_length_le (by omega)] at heq
      exact heq
end Go.Proofs.Ytchfkkliechgoaa
