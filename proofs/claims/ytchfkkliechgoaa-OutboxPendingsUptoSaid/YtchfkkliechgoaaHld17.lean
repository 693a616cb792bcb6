/- What was handed out is kept with its marks: hold, held. SHORT NORMX -/
import Derived.Test.YtchfkkliechgoaaDoc17b
namespace Go.Proofs.Ytchfkkliechgoaa
open Go.RowKit Go.Proofs.YtchfkkliechgoaaE
set_option linter.unusedSimpArgs false
set_option linter.unusedVariables false
set_option maxRecDepth 4000

section
variable {P : Program} {w : World} {ty : TypeId} {pos : String} {aft : Array Edge} {l : List Value} {d : Option Tmp} {g : Option (Nat × Bool)} {K : Value → Prop} {t u : TypeId} {x y : Operand} {a b : Int}
theorem g_addU8 (hx : ev l x = .int .u8 a) (hy : ev l y = .int .u8 b) (h : K (.int .u8 (IntKind.u8.wrap (a + b)))) : Go1 P ⟨d, .binOp .add t x y u, ty, pos, aft, g⟩ l w K := g_add hx hy h
end
@[reducible] def mk8 (mark : Int) (i : Nat) : Int := IntKind.u8.wrap (mark + IntKind.u8.wrap i)
theorem own_lenc {w : World} {e : TypeId} {sz n c : Nat} {A : Option Addr} {xs : List Value} (h : w.ownsRow 0 e sz (.slice A n c) n xs) (hs : 0 < sz) : n ≤ c := by
  rcases own_blk_of h with ⟨h1, h2⟩ | ⟨g, cap, cur, h1, hb, ht, hl, hx⟩
  · omega
  · simp only [Value.slice.injEq] at h1
    omega
/-- Bytes that were handed out, with their holder's mark. -/
structure Hd where
  n : Nat
  A : Option Addr
  c : Nat
  mark : Int
@[reducible] def hdC (m : Hd) : List Value := [.slice m.A m.n m.c, .int .u8 m.mark]
def hdCs (l : List Hd) : List Value := l.flatMap fun m => hdC m
theorem hdCs_snoc (l : List Hd) (m : Hd) : hdCs (l ++ [m]) = hdCs l ++ hdC m := by simp [hdCs]
@[reducible] def mkRow (n : Nat) (m : Int) : List Value := List.replicate n (.int .u8 m)
structure HdG (w : World) (G : Nat → Prop) (l : List Hd) : Prop where
  bod : ∀ m ∈ l, RG w G m.A (mkRow m.n m.mark)
  len : ∀ m ∈ l, m.n ≤ 9223372036854775807
theorem HdG.evt {S : Nat → Prop} {w w' : World} {G G' : Nat → Prop} {l : List Hd} (h : HdG w G l) (he : Evt S w w') (hs : ∀ k, k < w.heap.size → G k → ¬ S k) (hG : ∀ k, G k → G' k) : HdG w' G' l := ⟨fun m hm => (h.bod m hm).evt he hs hG, h.len⟩
def bdCs (l : List Bd) : List Value := l.map bdV
/-- What hold lays behind. -/
def hdOf (mark : Int) (bs : List Bd) : List Hd := bs.mapIdx fun i b => ⟨b.body.length, b.A, b.c, mk8 mark i⟩
theorem hdOf_take (mark : Int) (bs : List Bd) {i : Nat} (hi : i < bs.length) : (hdOf mark bs).take (i + 1) = (hdOf mark bs).take i ++ [⟨bs[i].body.length, bs[i].A, bs[i].c, mk8 mark i⟩] := by
  have hl : i < (hdOf mark bs).length := by simp [hdOf, hi]
  rw [List.take_succ_eq_append_getElem hl]
  simp [hdOf]
theorem hdOf_len (mark : Int) (bs : List Bd) : (hdOf mark bs).length = bs.length := by simp [hdOf]
set_option maxHeartbeats 2000000 in
theorem hold_r (V : Option Addr) (d : Nat) (hs : List Hd) (B : Option Addr) (c n : Nat) (bs : List Bd) (mark : Int) (w : World) (ho : w.ownsRow 0 98 2 (.slice V hs.length d) hs.length (hdCs hs)) (hb : RC w B (bdCs bs)) (hne : ∀ b o, B = some ⟨b, o, none⟩ → 0 < bs.length → ¬ (Value.slice V hs.length d).ownBlock = some b) (hn : bs.length = n) (hl : hs.length + n ≤ 4000000000000) :
    Calls Try.prog 30 #[.slice V hs.length d, .slice B n c, .int .u8 mark] w fun e w' => ∃ V' d', e = .returned (.slice V' (hs ++ hdOf mark bs).length d') ∧ w'.ownsRow 0 98 2 (.slice V' (hs ++ hdOf mark bs).length d') (hs ++ hdOf mark bs).length (hdCs (hs ++ hdOf mark bs)) ∧ (∀ k, (Value.slice V' (hs ++ hdOf mark bs).length d').ownBlock = some k → (Value.slice V hs.length d).ownBlock = some k ∨ w.heap.size ≤ k) ∧ Evt (fun k => (Value.slice V hs.length d).ownBlock = some k) w w' := by
  subst hn
  have hltB : ∀ b o, 0 < bs.length → B = some ⟨b, o, none⟩ → b < w.heap.size := fun b o h0 hB => by
    obtain ⟨b', o', hA, hc⟩ := hb (by simpa [bdCs] using h0)
    have h1 := cell_bl0 (hc 0 _ (List.getElem?_eq_getElem (by simpa [bdCs] using h0)))
    rw [hB] at hA
    cases hA
    exact h1
  go_enter Try.func30, Try.ntmps30
  repeat' (first | (with_reducible (first | refine' wp_seq ?_ | refine' wp_region_lit ?_ | refine' wpList_nil ?_ | refine' then_normal ?_ | refine' wp_block ?_)) | ((with_reducible refine' l_step ?_); ((with_reducible refine' g_assign ?_); (conv => arg 5; simp only [zA, zB, ev, lget, zC, zD, zE, zF, zG, zH, zI, zJ, zK, zL, zM, zN, zO]))))
  refine' s_loop [0, 7, 8, 9, 10, 11, 12, 13, 14, 15, 16, 17, 18, 19, 20, 21, 22, 23, 24, 25] (fun n u w' => ∃ (i : Nat) (V' : Option Addr) (d' : Nat) (fs : List Hd), n = bs.length - i ∧ i ≤ bs.length ∧ fs = hs ++ (hdOf mark bs).take i ∧ u 7 = .int .i64 i ∧ u 0 = .slice V' fs.length d' ∧ w'.ownsRow 0 98 2 (.slice V' fs.length d') fs.length (hdCs fs) ∧ (∀ k, (Value.slice V' fs.length d').ownBlock = some k → (Value.slice V hs.length d).ownBlock = some k ∨ w.heap.size ≤ k) ∧ Evt (fun k => (Value.slice V hs.length d).ownBlock = some k) w w') bs.length ?h0 ?round
  case h0 => exact ⟨0, V, d, hs, rfl, by omega, by simp, rfl, rfl, ho, fun k hk => .inl hk, Evt.refl _ _⟩
  case round =>
    rintro n u w2 ⟨i, V', d', fs, rfl, hi, hfs, h7, h0, hoF, hnw, hev⟩
    simp only [setW, List.foldl_cons, List.foldl_nil, List.set_cons_succ, List.set_cons_zero]
    simp only [h7, h0]
    have hz := hev.size
    have hfl : fs.length = hs.length + i := by
      rw [hfs, List.length_append, List.length_take, hdOf_len]
      omega
    by_cases hlt : i < bs.length
    · obtain ⟨b, o, rfl, hc⟩ := hb (by simpa [bdCs] using (by omega : 0 < bs.length))
      have hbS := hne b o rfl (by omega)
      have hbl := hltB b o (by omega) rfl
      have hx0 := cell_evt hev (hc i (bdV bs[i]) (by simp [bdCs, hlt])) hbS
      have htx : hs ++ (hdOf mark bs).take (i + 1) = fs ++ [⟨bs[i].body.length, bs[i].A, bs[i].c, mk8 mark i⟩] := by rw [hdOf_take mark bs hlt, ← List.append_assoc, ← hfs]
      have hltF := own_lt hoF
      clear hc hfs hb
      generalize bs[i] = x at *
      repeat' (first | ((with_reducible refine' l_step ?_); (with_reducible refine' g_addU8 ?hx ?hy ?_); (case hx => rfl); (case hy => rfl); (conv => arg 5; simp only [zA, zB, ev, lget, zC, zD, zE, zF, zG, zH, zI, zJ, zK, zL, zM, zN, zO])) | (((with_reducible refine' e_append ?hx ?hy ?hzs ?hsz ?hown ?hl ?hnews ?h1 ?hb ?hm ?_); (case hx => ((try simp only [ev, lget]); (try rfl))); (case hy => rfl); (case hzs => rfl); (case hsz => decide); (case hown => exact oqq); (case hnews => refine' blk_src ?hbb; (case hbb => exact bqq)); (case hl => rfl); (case h1 => simp [Value.oneCell']); (case hb => omega); (case hm => omega); intro vA wA hoA heA hnA haA hzA; (conv => arg 5; simp only [zA, zB, ev, lget, zC, zD, zE, zF, zG, zH, zI, zJ, zK, zL, zM, zN, zO])); have hlA := own_lt hoA; obtain ⟨VA, dA, hVA⟩ := own_slice hoA; subst hVA) | (with_reducible (first | refine' wp_seq ?_ | refine' wp_region_lit ?_ | refine' wpList_nil ?_ | refine' then_normal ?_ | refine' wp_block ?_ | refine' wp_skip ?_ | refine' in_normal ?_)) | ((with_reducible refine' c_condT ?hx ?_); (case hx => rfl)) | ((with_reducible refine' l_step ?_); (first | ((first | (with_reducible refine' g_move ?_) | (with_reducible refine' g_assign ?_) | ((with_reducible refine' g_loadC ?hx ?hc ?_); (case hx => rfl); (case hc => exact cqq)) | ((with_reducible refine' g_addN ?hx ?hy ?h0 ?h1 ?_); (case hx => rfl); (case hy => rfl); (case h0 => omega); (case h1 => omega)) | ((with_reducible refine' g_lenS ?hx ?_); (case hx => rfl)) | ((with_reducible refine' g_convInt ?hx ?_); (case hx => rfl)) | ((with_reducible refine' g_indexAddr ?hx ?hy ?h0 ?h1 ?_); (case hx => rfl); (case hy => rfl); (case h0 => omega); (case h1 => omega))); (conv => arg 5; simp only [zA, zB, ev, lget, zC, zD, zE, zF, zG, zH, zI, zJ, zK, zL, zM, zN, zO])) | (((with_reducible refine' g_lss ?hx ?hy (fun _ => ?_) (fun _ => ?_)); (case hx => rfl)); (case hy => rfl); all_goals (first | (exfalso; omega) | (conv => arg 5; simp only [zA, zB, ev, lget, zC, zD, zE, zF, zG, zH, zI, zJ, zK, zL, zM, zN, zO]))) | ((with_reducible refine' g_build ?hl ?hp ?hs ?_); (case hl => rfl); (case hp => rfl); (case hs => rfl); (conv => arg 5; simp only [zA, zB, ev, lget, zC, zD, zE, zF, zG, zH, zI, zJ, zK, zL, zM, zN, zO, fillL, splice, List.getD_cons_zero, List.getD_cons_succ, Value.cells])))) | (((with_reducible refine' e_sliceLit ?hx ?hi ?hv ?hn ?_); (case hx => simp only [zC, zD, ev, lget]; (try rfl)); (case hi => rfl); (case hv => simp [Value.cells]); (case hn => decide); simp only [List.flatMap_cons, List.flatMap_nil, Value.cells, List.cons_append, List.nil_append]); intro _ _ _ _ _ _ _; (conv => arg 5; simp only [zA, zB, ev, lget, zC, zD, zE, zF, zG, zH, zI, zJ, zK, zL, zM, zN, zO])))
      rename_i gT wT p9 pA hbT evT zT_
      have evTA : Evt (fun k => (Value.slice V' fs.length d').ownBlock = some k) w2 wA := Evt.next heA (evT.mono fun _ _ h => h.elim) (fun _ _ h => h)
      refine ⟨_, _, rfl, (by omega : bs.length - (i + 1) < bs.length - i), by simp only [zA, zB], i + 1, VA, dA, fs ++ [⟨x.body.length, x.A, x.c, mk8 mark i⟩], rfl, by omega, htx.symm, rfl, by rw [List.length_append]; rfl, ?_, ?_, Evt.next evTA hev (fun j hj hh => by rcases hnw j hh with h1 | h1; exact h1; omega)⟩
      · rw [List.length_append, hdCs_snoc]
        exact hoA
      · rw [List.length_append]
        intro k hk
        rcases haA with h1 | h1
        · exact hnw k (h1 ▸ hk)
        · have hk' : (Value.slice VA (fs.length + 1) dA).ownBlock = some k := hk
          rw [h1] at hk'
          have := Option.some.inj hk'
          exact .inr (by omega)
    · have hi' : i = bs.length := by omega
      rw [List.take_of_length_le (by rw [hdOf_len]; omega)] at hfs
      subst hfs
      repeat' (first | (with_reducible (first | refine' wp_seq ?_ | refine' wp_region_lit ?_ | refine' wpList_nil ?_ | refine' then_normal ?_ | refine' wp_ret ?_ | refine' wp_exit ?_ | refine' then_exit ?_ | refine' in_exit ?_)) | ((with_reducible refine' c_condF ?hx ?_); (case hx => rfl)) | ((with_reducible refine' b_ret1 ?hr ?hv ?_); (case hr => rfl); (case hv => ((try simp only [ev, lget]); (try rfl)))) | ((with_reducible refine' l_step ?_); (first | ((first | (with_reducible refine' g_move ?_) | (with_reducible refine' g_assign ?_) | ((with_reducible refine' g_lenS ?hx ?_); (case hx => rfl))); (conv => arg 5; simp only [zA, zB, ev, lget, zC, zD, zE, zF, zG, zH, zI, zJ, zK, zL, zM, zN, zO])) | (((with_reducible refine' g_lss ?hx ?hy (fun _ => ?_) (fun _ => ?_)); (case hx => rfl)); (case hy => rfl); all_goals (first | (exfalso; omega) | (conv => arg 5; simp only [zA, zB, ev, lget, zC, zD, zE, zF, zG, zH, zI, zJ, zK, zL, zM, zN, zO]))))))
      exact ⟨V', d', rfl, hoF, hnw, hev⟩
set_option maxHeartbeats 2000000 in
theorem held_r (A : Option Addr) (c n : Nat) (hs : List Hd) (w : World) (hr : RC w A (hdCs hs)) (G : Nat → Prop) (hb : HdG w G hs) (hn : hs.length = n) (hl : n ≤ 9223372036854775807) :
    Calls Try.prog 31 #[.slice A n c] w fun e w' => e = .returned (.bool true) ∧ Evt (fun _ => False) w w' := by
  subst hn
  go_enter Try.func31, Try.ntmps31
  repeat' (first | (with_reducible (first | refine' wp_seq ?_ | refine' wp_region_lit ?_ | refine' wpList_nil ?_ | refine' then_normal ?_ | refine' wp_block ?_)) | ((with_reducible refine' l_step ?_); ((with_reducible refine' g_assign ?_); (conv => arg 5; simp only [zA, zB, ev, lget, zC, zD, zE, zF, zG, zH, zI, zJ, zK, zL, zM, zN, zO]))))
  refine' s_loop [2, 3, 4, 5, 6, 7, 8, 9, 10, 11, 12, 13, 14, 15, 16, 17, 18, 19, 20, 21, 22, 23, 24, 25, 26, 27, 28, 29, 30, 31, 32, 33, 34] (fun n u w' => ∃ (i : Nat), n = hs.length - i ∧ i ≤ hs.length ∧ u 3 = .int .i64 i ∧ Evt (fun _ => False) w w') hs.length ?h0 ?round
  case h0 => exact ⟨0, rfl, by omega, rfl, Evt.refl _ _⟩
  case round =>
    rintro n u w2 ⟨i, rfl, hi, h3, hev⟩
    simp only [setW, List.foldl_cons, List.foldl_nil, List.set_cons_succ, List.set_cons_zero]
    simp only [h3]
    have hz := hev.size
    by_cases hlt : i < hs.length
    · obtain ⟨b, o, rfl, hcell⟩ := RC.flat (f := hdC) (sz := 2) (fun _ => rfl) (hr.up hev) (by omega) hlt
      have hbod := (hb.bod _ (List.getElem_mem hlt)).rc.up hev
      have hbn := hb.len _ (List.getElem_mem hlt)
      clear hr hb
      generalize hs[i] = x at *
      repeat' (first | (with_reducible (first | refine' wp_seq ?_ | refine' wp_region_lit ?_ | refine' wpList_nil ?_ | refine' then_normal ?_ | refine' wp_block ?_ | refine' wp_skip ?_)) | ((with_reducible refine' c_condT ?hx ?_); (case hx => rfl)) | ((with_reducible refine' l_step ?_); (first | ((first | (with_reducible refine' g_move ?_) | (with_reducible refine' g_assign ?_) | ((with_reducible refine' g_lenS ?hx ?_); (case hx => rfl))); (conv => arg 5; simp only [zA, zB, ev, lget, zC, zD, zE, zF, zG, zH, zI, zJ, zK, zL, zM, zN, zO])) | (((with_reducible refine' g_lss ?hx ?hy (fun _ => ?_) (fun _ => ?_)); (case hx => rfl)); (case hy => rfl); all_goals (first | (exfalso; omega) | (conv => arg 5; simp only [zA, zB, ev, lget, zC, zD, zE, zF, zG, zH, zI, zJ, zK, zL, zM, zN, zO]))))))
      refine' s_loop [2, 4, 11, 12, 13, 14, 15, 16, 17, 18, 19, 20, 21, 22, 23, 24, 25, 26, 27, 28, 29, 30, 31, 32, 33, 34] (fun n u w' => ∃ (j : Nat), n = x.n - j ∧ j ≤ x.n ∧ u 4 = .int .i64 j ∧ Evt (fun _ => False) w2 w') x.n ?h1 ?round1
      case h1 => exact ⟨0, rfl, by omega, rfl, Evt.refl _ _⟩
      case round1 =>
        rintro n2 u2 w3 ⟨j, rfl, hj, h4, hev3⟩
        simp only [setW, List.foldl_cons, List.foldl_nil, List.set_cons_succ, List.set_cons_zero]
        simp only [h4]
        have hz3 := hev3.size
        have hx0 := hcell w3 hev3 0 _ rfl
        have hx1 := hcell w3 hev3 1 _ rfl
        by_cases hlt2 : j < x.n
        · obtain ⟨bB, oB, hA, hcB⟩ := hbod.up hev3 (by simp [mkRow]; omega)
          have hx2 : w3.cell? ⟨bB, oB + j, none⟩ = some (.int .u8 x.mark) := hcB j _ (by simp [mkRow, hlt2])
          simp only [hA] at hx0
          clear hcB hcell
          repeat' (first | (with_reducible (first | refine' wp_seq ?_ | refine' wp_region_lit ?_ | refine' wpList_nil ?_ | refine' then_normal ?_ | refine' wp_block ?_ | refine' wp_skip ?_ | refine' in_normal ?_)) | ((with_reducible refine' c_condT ?hx ?_); (case hx => rfl)) | ((with_reducible refine' c_condF ?hx ?_); (case hx => rfl)) | ((with_reducible refine' l_step ?_); (first | ((first | (with_reducible refine' g_move ?_) | (with_reducible refine' g_assign ?_) | ((with_reducible refine' g_fieldAddr ?hx ?ho ?_); (case hx => rfl); (case ho => rfl)) | ((with_reducible refine' g_loadC ?hx ?hc ?_); (case hx => rfl); (case hc => exact cqq)) | ((with_reducible refine' g_addN ?hx ?hy ?h0 ?h1 ?_); (case hx => rfl); (case hy => rfl); (case h0 => omega); (case h1 => omega)) | ((with_reducible refine' g_lenS ?hx ?_); (case hx => rfl)) | ((with_reducible refine' g_indexAddr ?hx ?hy ?h0 ?h1 ?_); (case hx => rfl); (case hy => rfl); (case h0 => omega); (case h1 => omega))); (conv => arg 5; simp only [zA, zB, ev, lget, zC, zD, zE, zF, zG, zH, zI, zJ, zK, zL, zM, zN, zO])) | (((with_reducible refine' g_lss ?hx ?hy (fun _ => ?_) (fun _ => ?_)); (case hx => rfl)); (case hy => rfl); all_goals (first | (exfalso; omega) | (conv => arg 5; simp only [zA, zB, ev, lget, zC, zD, zE, zF, zG, zH, zI, zJ, zK, zL, zM, zN, zO]))))) | ((with_reducible refine' w_quiet (id := 7) ?hm ?hB ?_); (case hm => kernel_rfl); (case hB => kernel_rfl)) | ((with_reducible refine' q_nil ?_); intro _ _ _) | ((with_reducible refine' q_step ?_); (first | ((first | (with_reducible refine' g_move ?_) | ((with_reducible refine' g_fieldAddr ?hx ?ho ?_); (case hx => rfl); (case ho => rfl)) | ((with_reducible refine' g_loadC ?hx ?hc ?_); (case hx => rfl); (case hc => exact cqq)) | ((with_reducible refine' g_indexAddr ?hx ?hy ?h0 ?h1 ?_); (case hx => rfl); (case hy => rfl); (case h0 => omega); (case h1 => omega))); (conv => arg 6; simp only [zA, zB, ev, lget, zC, zD, zE, zF, zG, zH, zI, zJ, zK, zL, zM, zN, zO])) | (((with_reducible refine' g_neq ?hx ?hy (fun _ => ?_) (fun _ => ?_)); (case hx => rfl)); (case hy => rfl); all_goals (first | (exfalso; omega) | (conv => arg 6; simp only [zA, zB, ev, lget, zC, zD, zE, zF, zG, zH, zI, zJ, zK, zL, zM, zN, zO]))))))
          exact ⟨_, _, rfl, (by omega : x.n - (j + 1) < x.n - j), by simp only [zA, zB], j + 1, rfl, by omega, rfl, by exact eqq⟩
        · have hj' : j = x.n := by omega
          repeat' (first | (with_reducible (first | refine' wp_seq ?_ | refine' wp_region_lit ?_ | refine' wpList_nil ?_ | refine' then_normal ?_ | refine' wp_exit ?_ | refine' then_exit ?_ | refine' in_normal ?_ | refine' in_exit ?_)) | ((with_reducible refine' c_condF ?hx ?_); (case hx => rfl)) | ((with_reducible refine' l_step ?_); (first | ((first | (with_reducible refine' g_move ?_) | (with_reducible refine' g_assign ?_) | ((with_reducible refine' g_fieldAddr ?hx ?ho ?_); (case hx => rfl); (case ho => rfl)) | ((with_reducible refine' g_loadC ?hx ?hc ?_); (case hx => rfl); (case hc => exact cqq)) | ((with_reducible refine' g_addN ?hx ?hy ?h0 ?h1 ?_); (case hx => rfl); (case hy => rfl); (case h0 => omega); (case h1 => omega)) | ((with_reducible refine' g_lenS ?hx ?_); (case hx => rfl)) | ((with_reducible refine' g_indexAddr ?hx ?hy ?h0 ?h1 ?_); (case hx => rfl); (case hy => rfl); (case h0 => omega); (case h1 => omega))); (conv => arg 5; simp only [zA, zB, ev, lget, zC, zD, zE, zF, zG, zH, zI, zJ, zK, zL, zM, zN, zO])) | (((with_reducible refine' g_lss ?hx ?hy (fun _ => ?_) (fun _ => ?_)); (case hx => rfl)); (case hy => rfl); all_goals (first | (exfalso; omega) | (conv => arg 5; simp only [zA, zB, ev, lget, zC, zD, zE, zF, zG, zH, zI, zJ, zK, zL, zM, zN, zO]))))))
          exact ⟨_, _, rfl, (by omega : hs.length - (i + 1) < hs.length - i), by simp only [zA, zB], i + 1, rfl, by omega, rfl, Evt.next hev3 hev (fun _ _ h => h)⟩
    · repeat' (first | (with_reducible (first | refine' wp_seq ?_ | refine' wp_region_lit ?_ | refine' wpList_nil ?_ | refine' then_normal ?_ | refine' wp_ret ?_ | refine' wp_exit ?_ | refine' then_exit ?_ | refine' in_exit ?_)) | ((with_reducible refine' c_condF ?hx ?_); (case hx => rfl)) | ((with_reducible refine' b_ret1 ?hr ?hv ?_); (case hr => rfl); (case hv => ((try simp only [ev, lget]); (try rfl)))) | ((with_reducible refine' l_step ?_); (first | ((first | (with_reducible refine' g_move ?_) | (with_reducible refine' g_assign ?_) | ((with_reducible refine' g_lenS ?hx ?_); (case hx => rfl))); (conv => arg 5; simp only [zA, zB, ev, lget, zC, zD, zE, zF, zG, zH, zI, zJ, zK, zL, zM, zN, zO])) | (((with_reducible refine' g_lss ?hx ?hy (fun _ => ?_) (fun _ => ?_)); (case hx => rfl)); (case hy => rfl); all_goals (first | (exfalso; omega) | (conv => arg 5; simp only [zA, zB, ev, lget, zC, zD, zE, zF, zG, zH, zI, zJ, zK, zL, zM, zN, zO]))))))
      exact ⟨rfl, hev⟩
end Go.Proofs.Ytchfkkliechgoaa
