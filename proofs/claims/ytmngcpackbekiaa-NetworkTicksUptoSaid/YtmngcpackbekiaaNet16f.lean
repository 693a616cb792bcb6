/- The network: a tick. -/
import Derived.Test.YtmngcpackbekiaaNet16e
namespace Go.Proofs.Ytmngcpackbekiaa
open Go.RowKit Go.Proofs.YtmngcpackbekiaaE
set_option linter.unusedSimpArgs false
set_option linter.unusedVariables false

def ints (xs : List Int) : List Value := xs.map (Value.int .i64)
theorem ints_length (xs : List Int) : (ints xs).length = xs.length := by simp [ints]
def decM (m : Mf) : Mf := { m with left := m.left - 1 }
def dueL (fs : List Mf) : List Mf := (fs.map decM).filter fun m => m.left = 0
def restL (fs : List Mf) : List Mf := (fs.map decM).filter fun m => m.left ≠ 0
/-- A notice is taken. -/
def takeN (N : Net) (m : Mf) : Net := if m.id ∈ N.acc.map (·.id) then N else { N with acc := N.acc ++ [{ id := m.id, tick := N.now, body := m.body, A := m.A, c := m.c }] }
def ackM (m : Mf) : Mf := { ack := true, id := m.id, body := [], left := 0, A := none, c := 0 }
def stepD (s : Net × List Int) (m : Mf) : Net × List Int := if m.ack = true then (s.1, s.2 ++ [m.id]) else (handN (takeN s.1 m) (ackM m), s.2)
def tickN (N : Net) : Net × List Int := (dueL N.fly).foldl stepD ({ N with now := N.now + 1, fly := restL N.fly }, [])
theorem dueL_snoc (fs : List Mf) (m : Mf) : dueL (fs ++ [m]) = dueL fs ++ (if m.left - 1 = 0 then [decM m] else []) := by
  unfold dueL
  rw [List.map_append, List.filter_append]
  congr 1
  by_cases h : m.left - 1 = 0 <;> simp [decM, h]
theorem restL_snoc (fs : List Mf) (m : Mf) : restL (fs ++ [m]) = restL fs ++ (if m.left - 1 = 0 then [] else [decM m]) := by
  unfold restL
  rw [List.map_append, List.filter_append]
  congr 1
  by_cases h : m.left - 1 = 0 <;> simp [decM, h]
theorem dueL_len (fs : List Mf) : (dueL fs).length ≤ fs.length := by
  have := List.length_filter_le (fun m : Mf => decide (m.left = 0)) (fs.map decM)
  rw [List.length_map] at this
  exact this
theorem restL_len (fs : List Mf) : (restL fs).length ≤ fs.length := by
  have := List.length_filter_le (fun m : Mf => decide (m.left ≠ 0)) (fs.map decM)
  rw [List.length_map] at this
  exact this
theorem mem_dueL {fs : List Mf} {m : Mf} (h : m ∈ dueL fs) : ∃ m0 ∈ fs, m = decM m0 ∧ m.left = 0 := by
  unfold dueL at h
  rw [List.mem_filter, List.mem_map] at h
  obtain ⟨⟨m0, h0, rfl⟩, h1⟩ := h
  exact ⟨m0, h0, rfl, by simpa using h1⟩
theorem mem_restL {fs : List Mf} {m : Mf} (h : m ∈ restL fs) : ∃ m0 ∈ fs, m = decM m0 ∧ m.left ≠ 0 := by
  unfold restL at h
  rw [List.mem_filter, List.mem_map] at h
  obtain ⟨⟨m0, h0, rfl⟩, h1⟩ := h
  exact ⟨m0, h0, rfl, by simpa using h1⟩
theorem g_lookT {P : Program} {w : World} {ty : TypeId} {pos : String} {aft : Array Edge} {l : List Value} {d : Option Tmp} {g : Option (Nat × Bool)} {K : Value → Prop} {t k : TypeId} {x y : Operand} {a : Int} {bl n : Nat} {ids : List Int} {bv : Bool} (hid : decide (a ∈ ids) = bv) (hx : ev l x = .map (some bl)) (hy : ev l y = .int .i64 a) [ht : TMap P t k k] [hk : TInt P k .i64] [hz : TZero P k (.int .i64 0)] (hs : ∀ w', Evt (fun _ => False) w w' → SeenAt P k w' bl n ids) (h0 : -9223372036854775808 ≤ a) (h1 : a ≤ 9223372036854775807)
    (h : ∀ c, K (.tuple [.int .i64 c, .bool bv].toArray)) : Go1 P ⟨d, .lookup t x y true, ty, pos, aft, g⟩ l w K := by
  subst hid
  exact g_lookI hx hy hs h0 h1 h
theorem takeN_same (N : Net) (m : Mf) : (takeN N m).fates = N.fates ∧ (takeN N m).fly = N.fly ∧ (takeN N m).now = N.now ∧ (takeN N m).acc.length ≤ N.acc.length + 1 := by
  unfold takeN
  split
  · exact ⟨rfl, rfl, rfl, by omega⟩
  · exact ⟨rfl, rfl, rfl, by simp⟩
theorem copies_len (f : Int) (m : Mf) : (copies f m).length ≤ 2 := by
  unfold copies
  split
  · simp
  · split <;> simp
theorem mem_tail {α : Type} {l : List α} {x : α} (h : x ∈ l.tail) : x ∈ l := List.mem_of_mem_tail h
/-- What a tick asks of a network. -/
structure NetOk (N : Net) : Prop where
  now : 0 ≤ N.now ∧ N.now ≤ 1000000000000000000
  let_ : ∀ c ∈ N.fates, letterB c
  left : ∀ m ∈ N.fly, 1 ≤ m.left ∧ m.left ≤ 9
  ids : ∀ m ∈ N.fly, -9223372036854775808 ≤ m.id ∧ m.id ≤ 9223372036854775807
  fly : N.fly.length ≤ 100000000000
  acc : N.acc.length ≤ 100000000000
set_option maxHeartbeats 4000000 in
theorem tick_any (g : Nat) (F : Nat → Prop) (N : Net) (w : World) (h0 : NetAt w F g N) (hk : NetOk N) :
    Calls Try.prog 15 #[.pointer (some ⟨g, 0, none⟩)] w fun e w' => ∃ F' V d, e = .returned (.slice V (tickN N).2.length d) ∧ NetAt w' F' g (tickN N).1 ∧ w'.ownsRow 0 3 1 (.slice V (tickN N).2.length d) (tickN N).2.length (ints (tickN N).2) ∧
      (∀ k, (Value.slice V (tickN N).2.length d).ownBlock = some k → w.heap.size ≤ k ∧ ¬ F' k) ∧ (∀ k, F' k → F k ∨ w.heap.size ≤ k) ∧ Evt F w w' := by
  obtain ⟨vF, vL, vC, mp, h⟩ := h0
  have hblk := h.blk
  have hglt := hblk.lt
  have hnow := hk.now
  have hfn := hk.fly
  obtain ⟨VL, dL, hVL⟩ := own_slice h.fly
  subst hVL
  go_enter Try.func15, Try.ntmps15
  repeat' (first | (with_reducible (first | refine' wp_seq ?_ | refine' wp_region_lit ?_ | refine' wpList_nil ?_ | refine' then_normal ?_ | refine' wp_block ?_)) | ((with_reducible refine' l_step ?_); ((first | (with_reducible refine' g_move ?_) | (with_reducible refine' g_assign ?_) | ((with_reducible refine' g_fieldAddr ?hx ?ho ?_); (case hx => rfl); (case ho => rfl)) | ((with_reducible refine' g_loadB ?hx ?hb ?hc ?_); (case hx => rfl); (case hb => exact bqq); first | (case hc => rfl) | (case hn => simp only [List.length_cons, List.length_nil]; omega)) | ((with_reducible refine' g_addN ?hx ?hy ?h0 ?h1 ?_); (case hx => rfl); (case hy => rfl); (case h0 => omega); (case h1 => omega)) | ((with_reducible refine' g_nilCheckP ?hx ?_); (case hx => rfl)) | ((with_reducible refine' g_lenS ?hx ?_); (case hx => rfl))); (conv => arg 5; simp only [zA, zB, ev, lget, zC, zD, zE, zF, zG, zH, zI, zJ, zK, zL, zM, zN, zO]))) | ((first | ((with_reducible refine' e_storeB ?hx ?hy ?hv ?h1 ?hb ?ho ?_); (case hx => rfl); (case hy => ((try simp only [ev, lget]); (try rfl))); (case hv => rfl); (case h1 => rfl)) | ((with_reducible refine' e_storeR ?hx ?hy ?h1 ?hb ?hn ?ho ?_); (case hx => rfl); (case hy => rfl); (case h1 => simp [Value.oneCell']); (case hn => rfl))); (case hb => exact bqq); (case ho => first | (simp only [List.length_cons, List.length_nil]; omega) | omega | (simp; omega) | simp); (try simp only [splice, zA, zB]); intro _ _ _ _))
  rename_i wS hbS hevS hzS
  have hgS : ∀ {t : TypeId} {k : Nat} {cur : List Value}, Blk w k t cur → t ≠ 56 → ¬ k = g := fun hk ht hh => by subst hh; exact Blk.ne hblk hk (fun e => ht e.symm) rfl
  have hflS : wS.ownsRow 0 59 4 (.slice VL N.fly.length dL) N.fly.length (flCs N.fly) := own_evt hevS h.fly (fun k hk => by obtain ⟨cur, hc⟩ := own_typ h.fly k hk; exact hgS hc (by decide))
  refine' s_loop [3, 4, 6, 24, 25, 26, 27, 28, 29, 30, 31, 32, 33, 34, 35, 36, 37, 38, 39, 40, 41, 42, 43] (fun n u w' => ∃ (i : Nat) (V1 V2 : Option Addr) (d1 d2 : Nat), n = N.fly.length - i ∧ i ≤ N.fly.length ∧ u 24 = .int .i64 i ∧ u 3 = .slice V1 (dueL (N.fly.take i)).length d1 ∧ u 4 = .slice V2 (restL (N.fly.take i)).length d2 ∧
      w'.ownsRow 0 59 4 (.slice V1 (dueL (N.fly.take i)).length d1) (dueL (N.fly.take i)).length (flCs (dueL (N.fly.take i))) ∧ w'.ownsRow 0 59 4 (.slice V2 (restL (N.fly.take i)).length d2) (restL (N.fly.take i)).length (flCs (restL (N.fly.take i))) ∧
      (∀ k, (Value.slice V1 (dueL (N.fly.take i)).length d1).ownBlock = some k → wS.heap.size ≤ k ∧ ¬ (Value.slice V2 (restL (N.fly.take i)).length d2).ownBlock = some k) ∧ (∀ k, (Value.slice V2 (restL (N.fly.take i)).length d2).ownBlock = some k → wS.heap.size ≤ k) ∧ Evt (fun _ => False) wS w') N.fly.length ?h0 ?round
  case h0 => exact ⟨0, none, none, 0, 0, rfl, by omega, rfl, rfl, rfl, World.ownsRow_nil _ _ _ _, World.ownsRow_nil _ _ _ _, by simp [Value.ownBlock], by simp [Value.ownBlock], Evt.refl _ _⟩
  case round =>
    rintro n u w3 ⟨i, V1, V2, d1, d2, rfl, hi, h24, h3, h4, ho1, ho2, hn1, hn2, hev3⟩
    simp only [setW, List.foldl_cons, List.foldl_nil, List.set_cons_succ, List.set_cons_zero]
    simp only [h24, h3, h4]
    have hz3 := hev3.size
    by_cases hlt : i < N.fly.length
    · obtain ⟨b, cap, hv, hob, hblt, hcell⟩ := own_form hflS hlt
      simp only [Value.slice.injEq] at hv
      obtain ⟨rfl, _, rfl⟩ := hv
      have hmem : N.fly[i] ∈ N.fly := List.getElem_mem hlt
      have hcellE : ∀ w', Evt (fun _ => False) w3 w' → ∀ j v, (flC N.fly[i])[j]? = some v → w'.cell? ⟨b, i * 4 + j, none⟩ = some v := by
        intro w' he j v hj
        have h1 := hcell (i * 4 + j) v (flat_at flC_len N.fly i j _ v (List.getElem?_eq_getElem hlt) hj)
        rw [Nat.zero_add] at h1
        exact cell_evt he (cell_evt hev3 h1 (fun h => h)) (fun h => h)
      have hdu := dueL_snoc (N.fly.take i) N.fly[i]
      have hre := restL_snoc (N.fly.take i) N.fly[i]
      rw [← List.take_succ_eq_append_getElem hlt] at hdu hre
      have hlm := hk.left _ hmem
      have hl1 := dueL_len (N.fly.take i)
      have hl2 := restL_len (N.fly.take i)
      have hl3 : (N.fly.take i).length ≤ i := by rw [List.length_take]; omega
      generalize dueL (N.fly.take i) = D at *
      generalize restL (N.fly.take i) = L at *
      generalize N.fly[i] = mi at *
      repeat' (first | (with_reducible refine' stop_reg (id := 6) ?_) | (with_reducible (first | refine' wp_seq ?_ | refine' wp_region_lit ?_ | refine' wpList_nil ?_ | refine' then_normal ?_ | refine' wp_block ?_ | refine' wp_skip ?_)) | ((with_reducible refine' c_condT ?hx ?_); (case hx => rfl)) | ((with_reducible refine' l_step ?_); (first | ((first | ((with_reducible refine' g_loadR ?hx ?hn ?hc ?_); (case hx => rfl); (case hc => first | exact hcellE _ (by exact eqq) | exact hcellF _ (by exact eqq)); (case hn => rfl)) | ((with_reducible refine' g_indexAddr ?hx ?hy ?h0 ?h1 ?_); (case hx => rfl); (case hy => rfl); (case h0 => omega); (case h1 => omega))); (conv => arg 5; simp only [zA, zB, ev, lget, zC, zD, zE, zF, zG, zH, zI, zJ, zK, zL, zM, zN, zO])) | (((with_reducible refine' g_lss ?hx ?hy (fun _ => ?_) (fun _ => ?_)); (case hx => rfl)); (case hy => rfl); all_goals (first | (exfalso; omega) | (conv => arg 5; simp only [zA, zB, ev, lget, zC, zD, zE, zF, zG, zH, zI, zJ, zK, zL, zM, zN, zO]))))) | (((with_reducible refine' e_alloc ?hx ?_); (case hx => rfl)); intro _ _ _ _ _ _ _; (conv => arg 5; simp only [zA, zB, ev, lget, zC, zD, zE, zF, zG, zH, zI, zJ, zK, zL, zM, zN, zO])) | ((first | ((with_reducible refine' e_storeB ?hx ?hy ?hv ?h1 ?hb ?ho ?_); (case hx => rfl); (case hy => ((try simp only [ev, lget]); (try rfl))); (case hv => rfl); (case h1 => rfl)) | ((with_reducible refine' e_storeR ?hx ?hy ?h1 ?hb ?hn ?ho ?_); (case hx => rfl); (case hy => rfl); (case h1 => simp [Value.oneCell']); (case hn => rfl))); (case hb => exact bqq); (case ho => first | (simp only [List.length_cons, List.length_nil]; omega) | omega | (simp; omega) | simp); (try simp only [splice, zA, zB]); intro _ _ _ _))
      rename_i x1 gf wf0 f1 f2 hgf0 hevf0 hzf0 wf hgf hevf hzf
      refine stop_go ?_
      have hlt1 := own_lt ho1
      have hlt2 := own_lt ho2
      have hg1 : ∀ k, (Value.slice V1 D.length d1).ownBlock = some k → ¬ k = gf := fun k hk hh => by have := hlt1 k hk; omega
      have hg2 : ∀ k, (Value.slice V2 L.length d2).ownBlock = some k → ¬ k = gf := fun k hk hh => by have := hlt2 k hk; omega
      have hb1 : ¬ (Value.slice V1 D.length d1).ownBlock = some gf := fun hh => hg1 gf hh rfl
      have hb2 : ¬ (Value.slice V2 L.length d2).ownBlock = some gf := fun hh => hg2 gf hh rfl
      repeat' (first | (((with_reducible refine' e_append ?hx ?hy ?hzs ?hsz ?hown ?hl ?hnews ?h1 ?hb ?hm ?_); (case hx => ((try simp only [ev, lget]); (try rfl))); (case hy => rfl); (case hzs => rfl); (case hsz => decide); (case hown => exact oqq); (case hnews => refine' blk_src ?hbb; (case hbb => exact bqq)); (case hl => rfl); (case h1 => simp [Value.oneCell']); (case hb => omega); (case hm => omega); intro vA wA hoA heA hnA haA hzA; (conv => arg 5; simp only [zA, zB, ev, lget, zC, zD, zE, zF, zG, zH, zI, zJ, zK, zL, zM, zN, zO])); have hlA := own_lt hoA; obtain ⟨VA, dA, hVA⟩ := own_slice hoA; subst hVA) | (with_reducible (first | refine' wp_seq ?_ | refine' wp_region_lit ?_ | refine' wpList_nil ?_ | refine' then_normal ?_ | refine' in_normal ?_)) | ((with_reducible refine' c_condT ?hx ?_); (case hx => rfl)) | ((with_reducible refine' c_condF ?hx ?_); (case hx => rfl)) | ((with_reducible refine' l_step ?_); (first | ((first | (with_reducible refine' g_move ?_) | (with_reducible refine' g_assign ?_) | ((with_reducible refine' g_fieldAddr ?hx ?ho ?_); (case hx => rfl); (case ho => rfl)) | ((first | (with_reducible refine' g_loadB ?hx ?hb ?hc ?_) | (with_reducible refine' g_loadS ?hx ?hb ?hn ?_)); (case hx => rfl); (case hb => exact bqq); first | (case hc => rfl) | (case hn => simp only [List.length_cons, List.length_nil]; omega)) | ((first | (with_reducible refine' g_addN ?hx ?hy ?h0 ?h1 ?_) | (with_reducible refine' g_subN ?hx ?hy ?h0 ?h1 ?_)); (case hx => rfl); (case hy => rfl); (case h0 => omega); (case h1 => omega))); (conv => arg 5; simp only [zA, zB, ev, lget, zC, zD, zE, zF, zG, zH, zI, zJ, zK, zL, zM, zN, zO])) | (((with_reducible refine' g_eql ?hx ?hy (fun _ => ?_) (fun _ => ?_)); (case hx => rfl)); (case hy => rfl); all_goals (first | (exfalso; omega) | (conv => arg 5; simp only [zA, zB, ev, lget, zC, zD, zE, zF, zG, zH, zI, zJ, zK, zL, zM, zN, zO]))))) | (((with_reducible refine' e_sliceLit ?hx ?hi ?hv ?hn ?_); (case hx => simp only [zC, zD, ev, lget]; (try rfl)); (case hi => rfl); (case hv => simp [Value.cells]); (case hn => decide); simp only [List.flatMap_cons, List.flatMap_nil, Value.cells, List.cons_append, List.nil_append]); intro _ _ _ _ _ _ _; (conv => arg 5; simp only [zA, zB, ev, lget, zC, zD, zE, zF, zG, zH, zI, zJ, zK, zL, zM, zN, zO])) | ((first | ((with_reducible refine' e_storeB ?hx ?hy ?hv ?h1 ?hb ?ho ?_); (case hx => rfl); (case hy => ((try simp only [ev, lget]); (try rfl))); (case hv => rfl); (case h1 => rfl)) | ((with_reducible refine' e_storeR ?hx ?hy ?h1 ?hb ?hn ?ho ?_); (case hx => rfl); (case hy => rfl); (case h1 => simp [Value.oneCell']); (case hn => rfl))); (case hb => exact bqq); (case ho => first | (simp only [List.length_cons, List.length_nil]; omega) | omega | (simp; omega) | simp); (try simp only [splice, zA, zB]); intro _ _ _ _))
      · rename_i w1 hw1 he1 hz1 x2 gb w2 gb1 gb2 hgb he2 hz2
        have hev3A : Evt (fun k => (Value.slice V1 D.length d1).ownBlock = some k) w3 wA := by exact eqq
        refine ⟨_, _, rfl, (by omega : N.fly.length - (i + 1) < N.fly.length - i), by simp only [zA, zB], i + 1, VA, V2, dA, d2, rfl, by omega, rfl, ?_⟩
        rw [hdu, hre, if_pos (by assumption), if_pos (by assumption), List.append_nil, List.length_append, flCs_snoc]
        refine ⟨rfl, rfl, hoA, own_evt hev3A ho2 (fun k hk hh => (hn1 k hh).2 hk), fun k hk => ?_, hn2, Evt.next hev3A hev3 (fun j hj hh => by have := (hn1 j hh).1; omega)⟩
        rcases haA with h1 | h1
        · exact hn1 k (h1 ▸ hk)
        · have h2 : w2.heap.size = k := by
            have hk' : (Value.slice VA (D.length + 1) dA).ownBlock = some k := hk
            rw [h1] at hk'
            exact Option.some.inj hk'
          exact ⟨by omega, fun hh => by have := hlt2 k hh; omega⟩
      · rename_i w1 hw1 he1 hz1 x2 gb w2 gb1 gb2 hgb he2 hz2
        have hev3A : Evt (fun k => (Value.slice V2 L.length d2).ownBlock = some k) w3 wA := by exact eqq
        refine ⟨_, _, rfl, (by omega : N.fly.length - (i + 1) < N.fly.length - i), by simp only [zA, zB], i + 1, V1, VA, d1, dA, rfl, by omega, rfl, ?_⟩
        rw [hdu, hre, if_neg (by assumption), if_neg (by assumption), List.append_nil, List.length_append, flCs_snoc]
        refine ⟨rfl, rfl, own_evt hev3A ho1 (fun k hk hh => (hn1 k hk).2 hh), hoA, fun k hk => ⟨(hn1 k hk).1, fun hh => ?_⟩, fun k hk => ?_, Evt.next hev3A hev3 (fun j hj hh => by have := hn2 j hh; omega)⟩
        · rcases haA with h1 | h1
          · exact (hn1 k hk).2 (h1 ▸ hh)
          · have h2 : w2.heap.size = k := by
              have hk' : (Value.slice VA (L.length + 1) dA).ownBlock = some k := hh
              rw [h1] at hk'
              exact Option.some.inj hk'
            have := hlt1 k hk
            omega
        · rcases haA with h1 | h1
          · exact hn2 k (h1 ▸ hk)
          · have h2 : w2.heap.size = k := by
              have hk' : (Value.slice VA (L.length + 1) dA).ownBlock = some k := hk
              rw [h1] at hk'
              exact Option.some.inj hk'
            omega
    · obtain rfl : i = N.fly.length := by omega
      rw [List.take_length] at *
      have hev03 : Evt (fun k => k = g) w w3 := Evt.next (hev3.mono fun _ _ h => h.elim) hevS (fun _ _ h => h)
      have hbody : ∀ m0 ∈ N.fly, BodyAt w3 F (tailBlk vF) m0.A m0.body := fun m0 hm0 => (h.fb m0 hm0).evt hev03 (fun b cur hk _ _ => hgS hk (by decide)) (fun _ h => h) (fun _ _ h => h)
      have hDb : ∀ m ∈ dueL N.fly, BodyAt w3 F (tailBlk vF) m.A m.body ∧ -9223372036854775808 ≤ m.id ∧ m.id ≤ 9223372036854775807 := fun m hm => by
        obtain ⟨m0, h1, rfl, _⟩ := mem_dueL hm
        exact ⟨hbody m0 h1, hk.ids m0 h1⟩
      have hLb : ∀ m ∈ restL N.fly, BodyAt w3 F (tailBlk vF) m.A m.body := fun m hm => by
        obtain ⟨m0, h1, rfl, _⟩ := mem_restL hm
        exact hbody m0 h1
      have hl1 := dueL_len N.fly
      have hl2 := restL_len N.fly
      have htick : tickN N = (dueL N.fly).foldl stepD ({ N with now := N.now + 1, fly := restL N.fly }, []) := rfl
      rw [htick]
      generalize dueL N.fly = D at *
      generalize restL N.fly = L at *
      have hbS3 := hbS.evt hev3 (fun h => h)
      repeat' (first | (with_reducible (first | refine' wp_seq ?_ | refine' wp_region_lit ?_ | refine' wpList_nil ?_ | refine' then_normal ?_ | refine' wp_block ?_ | refine' wp_exit ?_ | refine' then_exit ?_ | refine' in_exit ?_)) | ((with_reducible refine' c_condF ?hx ?_); (case hx => rfl)) | ((with_reducible refine' l_step ?_); (first | ((first | (with_reducible refine' g_move ?_) | (with_reducible refine' g_assign ?_) | ((with_reducible refine' g_fieldAddr ?hx ?ho ?_); (case hx => rfl); (case ho => rfl)) | ((with_reducible refine' g_nilCheckP ?hx ?_); (case hx => rfl)) | ((with_reducible refine' g_lenS ?hx ?_); (case hx => rfl))); (conv => arg 5; simp only [zA, zB, ev, lget, zC, zD, zE, zF, zG, zH, zI, zJ, zK, zL, zM, zN, zO])) | (((with_reducible refine' g_lss ?hx ?hy (fun _ => ?_) (fun _ => ?_)); (case hx => rfl)); (case hy => rfl); all_goals (first | (exfalso; omega) | (conv => arg 5; simp only [zA, zB, ev, lget, zC, zD, zE, zF, zG, zH, zI, zJ, zK, zL, zM, zN, zO]))))) | ((first | ((with_reducible refine' e_storeB ?hx ?hy ?hv ?h1 ?hb ?ho ?_); (case hx => rfl); (case hy => ((try simp only [ev, lget]); (try rfl))); (case hv => rfl); (case h1 => rfl)) | ((with_reducible refine' e_storeR ?hx ?hy ?h1 ?hb ?hn ?ho ?_); (case hx => rfl); (case hy => rfl); (case h1 => simp [Value.oneCell']); (case hn => rfl))); (case hb => exact bqq); (case ho => first | (simp only [List.length_cons, List.length_nil]; omega) | omega | (simp; omega) | simp); (try simp only [splice, zA, zB]); intro _ _ _ _))
      rename_i x1 w4 hb4 hev4 hz4
      have hlt1 := own_lt ho1
      have hlt2 := own_lt ho2
      have hev04 : Evt (fun k => k = g) w w4 := Evt.next hev4 hev03 (fun _ _ h => h)
      have hv4 : NetV w4 (fun k => F k ∨ (Value.slice V2 L.length d2).ownBlock = some k) g { N with now := N.now + 1, fly := L } vF (.slice V2 L.length d2) vC mp := {
        blk := hb4
        fates := h.fates.evt hev04 (fun k hk => by obtain ⟨cur, hc⟩ := h.fates.typ k hk; exact hgS hc (by decide))
        fly := own_evt hev4 ho2 (fun k hk hh => by have := hn2 k hk; have h' : k = g := hh; omega)
        acc := own_evt hev04 h.acc (fun k hk => by obtain ⟨cur, hc⟩ := own_typ h.acc k hk; exact hgS hc (by decide))
        seen := h.seen.evt hev04 (fun hh => h.seen.ne hblk hh.symm)
        fg := .inl h.fg
        fm := .inl h.fm
        ff := fun k hk => .inl (h.ff k hk)
        fl := fun k hk => .inr hk
        fa := fun k hk => .inl (h.fa k hk)
        fb := fun m hm => (hLb m hm).evt hev4 (fun b cur hk _ _ hh => by
          have h' : b = g := hh
          subst h'
          exact Blk.ne hbS3 hk (by decide) rfl) (fun _ h => .inl h) (fun _ _ h => h)
        fc := fun m hm => (h.fc m hm).evt hev04 (fun b cur hk _ _ => hgS hk (by decide)) (fun _ h => .inl h) (fun _ _ h => h)
        lt := by
          rintro k (hk | hk)
          · have := h.lt k hk
            have := hev04.size
            omega
          · have := hlt2 k hk
            omega }
      have hD4 : w4.ownsRow 0 59 4 (.slice V1 D.length d1) D.length (flCs D) := own_evt hev4 ho1 (fun k hk hh => by have := (hn1 k hk).1; have h' : k = g := hh; omega)
      have hDb4 : ∀ m ∈ D, BodyAt w4 (fun k => F k ∨ (Value.slice V2 L.length d2).ownBlock = some k) (tailBlk vF) m.A m.body := fun m hm => (hDb m hm).1.evt hev4 (fun b cur hk _ _ hh => by
          have h' : b = g := hh
          subst h'
          exact Blk.ne hbS3 hk (by decide) rfl) (fun _ h => .inl h) (fun _ _ h => h)
      have hDi := fun m hm => (hDb m hm).2
      have hDF : ∀ k, (Value.slice V1 D.length d1).ownBlock = some k → ¬ (F k ∨ (Value.slice V2 L.length d2).ownBlock = some k) := fun k hk => by
        rintro (h1 | h1)
        · have := (hn1 k hk).1
          have := h.lt k h1
          omega
        · exact (hn1 k hk).2 h1
      have hevF4 : Evt F w w4 := hev04.mono fun k _ hk => hk ▸ h.fg
      clear hDb hLb hbody ho1 ho2 hb4 hbS hbS3 hevS hev3 hev03 hev4 hev04 hflS
      refine' s_loop [7, 9, 10, 11, 50, 51, 52, 53, 54, 55, 56, 57, 58, 59, 60, 61, 62, 63, 64, 65, 66, 67, 68, 69, 70, 71, 72, 73, 74, 75, 76, 77, 78, 79, 80, 81, 82, 83, 84, 85, 86, 87, 88, 89, 90, 91, 92, 93, 94, 95, 96, 97, 98, 99, 100, 101, 102, 103, 104, 105, 106] (fun n u w' => ∃ (i : Nat) (F' : Nat → Prop) (vF' vL' vC' : Value) (V : Option Addr) (d : Nat) (s : Net × List Int), s = (D.take i).foldl stepD ({ N with now := N.now + 1, fly := L }, []) ∧ n = D.length - i ∧ i ≤ D.length ∧ u 50 = .int .i64 i ∧ u 7 = .slice V s.2.length d ∧ w'.ownsRow 0 3 1 (.slice V s.2.length d) s.2.length (ints s.2) ∧ NetV w' F' g s.1 vF' vL' vC' mp ∧
          (∀ k, (Value.slice V s.2.length d).ownBlock = some k → w.heap.size ≤ k ∧ ¬ F' k ∧ ¬ (Value.slice V1 D.length d1).ownBlock = some k) ∧ (∀ k, F' k → F k ∨ w.heap.size ≤ k) ∧ (∀ k, (Value.slice V1 D.length d1).ownBlock = some k → ¬ F' k) ∧ w'.ownsRow 0 59 4 (.slice V1 D.length d1) D.length (flCs D) ∧ (∀ m ∈ D, BodyAt w' F' (tailBlk vF') m.A m.body) ∧
          (∀ c ∈ s.1.fates, letterB c) ∧ s.1.fly.length ≤ N.fly.length + 2 * i ∧ s.1.acc.length ≤ N.acc.length + i ∧ s.2.length ≤ i ∧ s.1.now = N.now + 1 ∧ Evt F w w') D.length ?h1 ?round2
      case h1 => exact ⟨0, _, vF, _, vC, none, 0, _, rfl, rfl, by omega, rfl, rfl, World.ownsRow_nil _ _ _ _, hv4, by simp [Value.ownBlock], by
        rintro k (hk | hk)
        · exact .inl hk
        · have := hn2 k hk
          exact .inr (by omega), hDF, hD4, hDb4, hk.let_, by show L.length ≤ _; omega, by show N.acc.length ≤ _; omega, by simp, rfl, hevF4⟩
      case round2 =>
        clear hv4 hD4 hDb4 hDF hevF4 h
        rintro n u w5 ⟨i, F', vF', vL', vC', V, d, s, hs, rfl, hi, h50, h7, hoI, hv, hIn, hF', hDF, hoD, hDb, hlt_, hfl, hac, hsl, hsn, hev5⟩
        simp only [setW, List.foldl_cons, List.foldl_nil, List.set_cons_succ, List.set_cons_zero]
        simp only [h50, h7]
        have hz5 := hev5.size
        by_cases hlt : i < D.length
        · obtain ⟨b, cap, hvb, hob, hblt, hcell⟩ := own_form hoD hlt
          simp only [Value.slice.injEq] at hvb
          obtain ⟨rfl, _, rfl⟩ := hvb
          have hcellE : ∀ w', Evt (fun _ => False) w5 w' → ∀ j v, (flC D[i])[j]? = some v → w'.cell? ⟨b, i * 4 + j, none⟩ = some v := by
            intro w' he j v hj
            have h1 := hcell (i * 4 + j) v (flat_at flC_len D i j _ v (List.getElem?_eq_getElem hlt) hj)
            rw [Nat.zero_add] at h1
            exact cell_evt he h1 (fun h => h)
          have hmem : D[i] ∈ D := List.getElem_mem hlt
          have hidr := hDi _ hmem
          have hmb := hDb _ hmem
          have hsx : (D.take (i + 1)).foldl stepD ({ N with now := N.now + 1, fly := L }, []) = stepD s D[i] := by rw [List.take_succ_eq_append_getElem hlt, List.foldl_append, ← hs]; rfl
          generalize D[i] = mi at *
          have hblk5 := hv.blk
          repeat' (first | (with_reducible refine' stop_reg (id := 16) ?_) | (with_reducible (first | refine' wp_seq ?_ | refine' wp_region_lit ?_ | refine' wpList_nil ?_ | refine' then_normal ?_ | refine' wp_block ?_ | refine' wp_skip ?_)) | ((with_reducible refine' c_condT ?hx ?_); (case hx => rfl)) | ((with_reducible refine' l_step ?_); (first | ((first | ((with_reducible refine' g_loadR ?hx ?hn ?hc ?_); (case hx => rfl); (case hc => first | exact hcellE _ (by exact eqq) | exact hcellF _ (by exact eqq)); (case hn => rfl)) | ((with_reducible refine' g_indexAddr ?hx ?hy ?h0 ?h1 ?_); (case hx => rfl); (case hy => rfl); (case h0 => omega); (case h1 => omega))); (conv => arg 5; simp only [zA, zB, ev, lget, zC, zD, zE, zF, zG, zH, zI, zJ, zK, zL, zM, zN, zO])) | (((with_reducible refine' g_lss ?hx ?hy (fun _ => ?_) (fun _ => ?_)); (case hx => rfl)); (case hy => rfl); all_goals (first | (exfalso; omega) | (conv => arg 5; simp only [zA, zB, ev, lget, zC, zD, zE, zF, zG, zH, zI, zJ, zK, zL, zM, zN, zO]))))) | (((with_reducible refine' e_alloc ?hx ?_); (case hx => rfl)); intro _ _ _ _ _ _ _; (conv => arg 5; simp only [zA, zB, ev, lget, zC, zD, zE, zF, zG, zH, zI, zJ, zK, zL, zM, zN, zO])) | ((first | ((with_reducible refine' e_storeB ?hx ?hy ?hv ?h1 ?hb ?ho ?_); (case hx => rfl); (case hy => ((try simp only [ev, lget]); (try rfl))); (case hv => rfl); (case h1 => rfl)) | ((with_reducible refine' e_storeR ?hx ?hy ?h1 ?hb ?hn ?ho ?_); (case hx => rfl); (case hy => rfl); (case h1 => simp [Value.oneCell']); (case hn => rfl))); (case hb => exact bqq); (case ho => first | (simp only [List.length_cons, List.length_nil]; omega) | omega | (simp; omega) | simp); (try simp only [splice, zA, zB]); intro _ _ _ _))
          rename_i y1 gf wf0 f1 f2 hgf0 hevf0 hzf0 wf hgf hevf hzf
          refine stop_go ?_
          have hltI := own_lt hoI
          have hgI : ∀ k, (Value.slice V s.2.length d).ownBlock = some k → ¬ k = gf := fun k hk hh => by have := hltI k hk; omega
          have hevwf : Evt (fun _ => False) w5 wf := by exact eqq
          cases hack : mi.ack with
          | true =>
            rw [hack] at hgf
            repeat' (first | (((with_reducible refine' e_append ?hx ?hy ?hzs ?hsz ?hown ?hl ?hnews ?h1 ?hb ?hm ?_); (case hx => ((try simp only [ev, lget]); (try rfl))); (case hy => rfl); (case hzs => rfl); (case hsz => decide); (case hown => exact oqq); (case hnews => refine' blk_src ?hbb; (case hbb => exact bqq)); (case hl => rfl); (case h1 => simp [Value.oneCell']); (case hb => omega); (case hm => omega); intro vA wA hoA heA hnA haA hzA; (conv => arg 5; simp only [zA, zB, ev, lget, zC, zD, zE, zF, zG, zH, zI, zJ, zK, zL, zM, zN, zO])); have hlA := own_lt hoA; obtain ⟨VA, dA, hVA⟩ := own_slice hoA; subst hVA) | (with_reducible (first | refine' wp_seq ?_ | refine' wp_region_lit ?_ | refine' wpList_nil ?_ | refine' then_normal ?_ | refine' wp_exit ?_ | refine' then_exit ?_ | refine' in_exit ?_)) | ((with_reducible refine' c_condT ?hx ?_); (case hx => rfl)) | ((with_reducible refine' l_step ?_); ((first | (with_reducible refine' g_move ?_) | (with_reducible refine' g_assign ?_) | ((with_reducible refine' g_fieldAddr ?hx ?ho ?_); (case hx => rfl); (case ho => rfl)) | ((with_reducible refine' g_loadB ?hx ?hb ?hc ?_); (case hx => rfl); (case hb => exact bqq); first | (case hc => rfl) | (case hn => simp only [List.length_cons, List.length_nil]; omega)) | ((with_reducible refine' g_addN ?hx ?hy ?h0 ?h1 ?_); (case hx => rfl); (case hy => rfl); (case h0 => omega); (case h1 => omega))); (conv => arg 5; simp only [zA, zB, ev, lget, zC, zD, zE, zF, zG, zH, zI, zJ, zK, zL, zM, zN, zO]))) | (((with_reducible refine' e_sliceLit ?hx ?hi ?hv ?hn ?_); (case hx => simp only [zC, zD, ev, lget]; (try rfl)); (case hi => rfl); (case hv => simp [Value.cells]); (case hn => decide); simp only [List.flatMap_cons, List.flatMap_nil, Value.cells, List.cons_append, List.nil_append]); intro _ _ _ _ _ _ _; (conv => arg 5; simp only [zA, zB, ev, lget, zC, zD, zE, zF, zG, zH, zI, zJ, zK, zL, zM, zN, zO])))
            rename_i gb w2 gb1 gb2 hgb he2 hz2
            have hevA : Evt (fun k => (Value.slice V s.2.length d).ownBlock = some k) w5 wA := by exact eqq
            have hA3 : ∀ k, (Value.slice VA (s.2.length + 1) dA).ownBlock = some k → (Value.slice V s.2.length d).ownBlock = some k ∨ k = w2.heap.size := fun k hk => by
              rcases haA with h1 | h1
              · exact .inl (h1 ▸ hk)
              · rw [h1] at hk
                exact .inr (Option.some.inj hk).symm
            refine ⟨_, _, rfl, (by omega : D.length - (i + 1) < D.length - i), by simp only [zA, zB], i + 1, F', vF', vL', vC', VA, dA, (s.1, s.2 ++ [mi.id]), by rw [hsx, stepD, if_pos hack], rfl, by omega, rfl, by rw [List.length_append]; rfl, ?_, hv.evt hevA (fun k hk hh => (hIn k hh).2.1 hk) (fun _ h => h) (fun k hk => Nat.lt_of_lt_of_le (hv.lt k hk) hevA.size), ?_, hF', hDF, own_evt hevA hoD (fun k hk hh => (hIn k hh).2.2 hk), fun m hm => (hDb m hm).evt hevA (fun b' _ _ hb' _ hh => (hIn b' hh).2.1 hb') (fun _ h => h) (fun _ _ h => h), hlt_, by show s.1.fly.length ≤ _; omega, by show s.1.acc.length ≤ _; omega, by show (s.2 ++ [mi.id]).length ≤ _; rw [List.length_append, List.length_singleton]; omega, hsn, Evt.next hevA hev5 (fun j hj hh => by have := (hIn j hh).1; omega)⟩
            · show wA.ownsRow 0 _ 1 (.slice VA (s.2 ++ [mi.id]).length dA) (s.2 ++ [mi.id]).length (ints (s.2 ++ [mi.id]))
              rw [List.length_append, show ints (s.2 ++ [mi.id]) = ints s.2 ++ [.int .i64 mi.id] by simp [ints]]
              exact hoA
            · show ∀ k, (Value.slice VA (s.2 ++ [mi.id]).length dA).ownBlock = some k → _
              rw [List.length_append]
              intro k hk
              rcases hA3 k hk with h1 | h1
              · exact hIn k h1
              · refine ⟨by omega, fun hh => by have := hv.lt k hh; omega, fun hh => ?_⟩
                rw [hob] at hh
                have := Option.some.inj hh
                omega
          | false =>
            rw [hack] at hgf
            repeat' (first | (with_reducible refine' stop_at (id := 18) ?_) | (with_reducible (first | refine' wp_region_lit ?_ | refine' wpList_nil ?_ | refine' then_normal ?_ | refine' wp_skip ?_)) | ((with_reducible refine' c_condF ?hx ?_); (case hx => rfl)) | ((with_reducible refine' l_step ?_); ((first | ((with_reducible refine' g_fieldAddr ?hx ?ho ?_); (case hx => rfl); (case ho => rfl)) | ((with_reducible refine' g_loadB ?hx ?hb ?hc ?_); (case hx => rfl); (case hb => exact bqq); first | (case hc => rfl) | (case hn => simp only [List.length_cons, List.length_nil]; omega))); (conv => arg 5; simp only [zA, zB, ev, lget, zC, zD, zE, zF, zG, zH, zI, zJ, zK, zL, zM, zN, zO]))))
            refine stop_go ?_
            have hvf := hv.up hevwf
            have hmb' := hmb.evt hevwf (F' := F') (fb' := tailBlk vF') (fun _ _ _ _ _ h => h) (fun _ h => h) (fun _ _ h => h)
            have hblkf := hvf.blk
            have hgfF : ¬ F' gf := fun hh => by have := hv.lt gf hh; omega
            refine' s_cut [10, 11, 61, 62, 63, 64, 65, 66, 67, 68, 69, 70, 71, 72, 73, 74, 75, 76, 77, 78, 79, 80, 81, 82, 83, 84, 85, 86, 87, 88, 89, 90, 91, 92, 93, 94, 95, 96, 97, 98, 99, 100] (fun u w' => ∃ vC2, NetV w' (fun k => F' k ∨ (w5.heap.size ≤ k ∧ k < w'.heap.size)) g (takeN s.1 mi) vF' vL' vC2 mp ∧ Evt (fun k => k = g ∨ vC'.ownBlock = some k ∨ k = mp) wf w') ?k1 ?k2
            case k1 =>
              have hseen := hvf.seen
              have hacn := hk.acc
              have hwid : ∀ {w' : World}, wf.heap.size ≤ w'.heap.size → ∀ k, F' k → k < w'.heap.size := fun h k hk => by have := hvf.lt k hk; omega
              by_cases hid : mi.id ∈ s.1.acc.map (·.id)
              · have hta : takeN s.1 mi = s.1 := by rw [takeN, if_pos hid]
                rw [hta]
                repeat' (first | ((with_reducible refine' q_step ?_); (with_reducible refine' g_lookT (k := 3) (bv := true) (n := s.1.acc.length) (ids := s.1.acc.map (·.id)) (decide_eq_true hid) ?hx ?hy ?hs ?h0 ?h1 ?_); (case hx => rfl); (case hy => rfl); (case hs => intro w' he; exact ((hseen.evt (S := fun _ => False) (by exact eqq) (fun h => h)).evt he (fun h => h))); (case h0 => omega); (case h1 => omega); intro cv; (conv => arg 6; simp only [zA, zB, ev, lget, zC, zD, zE, zF, zG, zH, zI, zJ, zK, zL, zM, zN, zO])) | (with_reducible (first | refine' wp_seq ?_ | refine' wp_region_lit ?_ | refine' wpList_nil ?_ | refine' then_normal ?_ | refine' wp_skip ?_)) | ((with_reducible refine' c_condF ?hx ?_); (case hx => rfl)) | ((with_reducible refine' l_step ?_); ((first | (with_reducible refine' g_move ?_) | ((with_reducible refine' g_notT ?hx ?_); (case hx => rfl))); (conv => arg 5; simp only [zA, zB, ev, lget, zC, zD, zE, zF, zG, zH, zI, zJ, zK, zL, zM, zN, zO]))) | ((with_reducible refine' w_quiet (id := 18) ?hm ?hB ?_); (case hm => kernel_rfl); (case hB => kernel_rfl)) | ((with_reducible refine' q_nil ?_); intro _ _ _) | ((with_reducible refine' q_step ?_); ((first | (with_reducible refine' g_move ?_) | (with_reducible refine' g_assign ?_) | ((with_reducible refine' g_fieldAddr ?hx ?ho ?_); (case hx => rfl); (case ho => rfl)) | ((with_reducible refine' g_loadB ?hx ?hb ?hc ?_); (case hx => rfl); (case hb => exact bqq); first | (case hc => rfl) | (case hn => simp only [List.length_cons, List.length_nil]; omega)) | ((with_reducible refine' g_nilCheckP ?hx ?_); (case hx => rfl)) | ((with_reducible refine' g_extract ?hx ?hv ?_); (case hx => rfl); (case hv => rfl))); (conv => arg 6; simp only [zA, zB, ev, lget, zC, zD, zE, zF, zG, zH, zI, zJ, zK, zL, zM, zN, zO]))))
                rename_i w9 he9 hz9
                exact ⟨_, rfl, by simp only [setW, List.foldl_cons, List.foldl_nil, List.set_cons_succ, List.set_cons_zero], vC', hvf.evt he9 (fun _ _ h => h) (fun _ h => .inl h) (by
                  rintro k (h1 | h1)
                  · exact hwid hz9 k h1
                  · exact h1.2), he9.mono fun _ _ h => h.elim⟩
              · have hta : takeN s.1 mi = { s.1 with acc := s.1.acc ++ [{ id := mi.id, tick := s.1.now, body := mi.body, A := mi.A, c := mi.c }] } := by rw [takeN, if_neg hid]
                rw [hta]
                have hgm : ¬ g = mp := fun hh => hvf.seen.ne hblkf hh
                have hgfm : ¬ gf = mp := fun hh => hgfF (hh ▸ hv.fm)
                have hnewO : ∀ k, vC'.ownBlock = some k → k ≠ g ∧ k ≠ gf ∧ k ≠ mp := fun k hk => by
                  obtain ⟨cur, hc⟩ := own_typ hvf.acc k hk
                  refine ⟨fun hh => Blk.ne hblkf hc (by decide) hh.symm, fun hh => hgfF (hh ▸ hv.fa k hk), fun hh => hvf.seen.ne hc hh⟩
                have hltO := own_lt hvf.acc
                have hacc := hvf.acc
                have hgL : ¬ vC'.ownBlock = some g := fun hh => (hnewO g hh).1 rfl
                have hgfT : ¬ (gf = g ∨ vC'.ownBlock = some gf) := by
                  rintro (h1 | h1)
                  · exact hgfF (h1 ▸ hv.fg)
                  · exact (hnewO gf h1).2.1 rfl
                repeat' (first | ((with_reducible refine' w_tree (id := 21) (fun k => k = g ∨ vC'.ownBlock = some k) (.pure 0 (.pure 1 (.pure 2 (.pure 3 (.pure 5 (.pure 6 (.pure 7 (.pure 8 (.pure 9 (.pure 11 (.pure 12 (.two 4 (.one 10 (.pure 13 (.one 14 (.one 15 (.pure 16 (.pure 17 (.one 18 .done))))))) 10 (.pure 13 (.two 4 (.one 14 (.one 15 (.pure 16 (.pure 17 (.one 18 .done))))) 14 (.one 4 (.one 15 (.pure 16 (.pure 17 (.one 18 .done))))))))))))))))))) [83, 84, 85, 86, 87, 88, 89, 90, 91, 92, 93, 94, 95, 96, 97, 98, 99, 100] (fun u w' => ∃ V3 d3, Blk w' g 56 [.int .i64 s.1.now, vF', vL', .slice V3 (s.1.acc.length + 1) d3, .map (some mp)] ∧ w'.ownsRow 0 47 3 (.slice V3 (s.1.acc.length + 1) d3) (s.1.acc.length + 1) (acCs s.1.acc ++ acC { id := mi.id, tick := s.1.now, body := mi.body, A := mi.A, c := mi.c }) ∧ (∀ k, (Value.slice V3 (s.1.acc.length + 1) d3).ownBlock = some k → vC'.ownBlock = some k ∨ (w5.heap.size ≤ k ∧ k < w'.heap.size))) ?hm ?hn ?hl ?hB ?ta21 ?tb21); (case hm => kernel_rfl); (case hn => kernel_rfl); (case hl => kernel_rfl); (case hB => kernel_rfl); intro _ _ _) | ((with_reducible refine' tt_pure ?hi ?hv ?_); (case hi => rfl); (case hv => intro _ hqS; have hqz := hqS.size; (first | ((first | (with_reducible refine' g_move ?_) | ((with_reducible refine' g_fieldAddr ?hx ?ho ?_); (case hx => rfl); (case ho => rfl)) | ((with_reducible refine' g_loadB ?hx ?hb ?hc ?_); (case hx => rfl); (case hb => exact bqq); first | (case hc => rfl) | (case hn => simp only [List.length_cons, List.length_nil]; omega)) | ((with_reducible refine' g_nilCheckP ?hx ?_); (case hx => rfl))); exact rfl) | ((with_reducible refine' g_build ?hl ?hp ?hs ?_); (case hl => rfl); (case hp => rfl); (case hs => rfl); exact rfl))); (conv => arg 6; simp only [zA, zB, ev, lget, zC, zD, zE, zF, zG, zH, zI, zJ, zK, zL, zM, zN, zO, fillL, splice, List.getD_cons_zero, List.getD_cons_succ, Value.cells])) | ((with_reducible refine' tt_one ?hi ?_); (case hi => rfl)) | ((with_reducible refine' tt_two ?hi ?hj ?_ ?_); (case hi => rfl); (case hj => rfl)) | ((with_reducible refine' tt_done ?hS ?_); (case hS => exact eqq)) | (with_reducible refine' tt_nil ?_) | (((with_reducible refine' e_append ?hx ?hy ?hzs ?hsz ?hown ?hl ?hnews ?h1 ?hb ?hm ?_); (case hx => ((try simp only [ev, lget]); (try rfl))); (case hy => rfl); (case hzs => rfl); (case hsz => decide); (case hown => exact oqq); (case hnews => refine' blk_src ?hbb; (case hbb => exact bqq)); (case hl => rfl); (case h1 => simp [Value.oneCell']); (case hb => omega); (case hm => omega); intro vA wA hoA heA hnA haA hzA; (conv => arg 5; simp only [zA, zB, ev, lget, zC, zD, zE, zF, zG, zH, zI, zJ, zK, zL, zM, zN, zO])); have hlA := own_lt hoA; obtain ⟨VA, dA, hVA⟩ := own_slice hoA; subst hVA) | ((with_reducible refine' q_step ?_); (with_reducible refine' g_lookT (k := 3) (bv := false) (n := s.1.acc.length) (ids := s.1.acc.map (·.id)) (decide_eq_false hid) ?hx ?hy ?hs ?h0 ?h1 ?_); (case hx => rfl); (case hy => rfl); (case hs => intro w' he; exact ((hseen.evt (S := fun _ => False) (by exact eqq) (fun h => h)).evt he (fun h => h))); (case h0 => omega); (case h1 => omega); intro cv; (conv => arg 6; simp only [zA, zB, ev, lget, zC, zD, zE, zF, zG, zH, zI, zJ, zK, zL, zM, zN, zO])) | ((with_reducible refine' e_mapUpd (k := 3) (n := s.1.acc.length) (ids := s.1.acc.map (·.id)) ?hx ?hy ?hz ?hs ?hn ?ha ?hc ?_); (case hx => rfl); (case hy => rfl); (case hz => rfl); (case hs => exact hseen.evt (S := fun _ => False) (by exact eqq) (fun h => h)); (case hn => omega); (case ha => exact hidr); (case hc => exact ⟨by omega, by omega⟩); intro wM hseenM hevM hzM) | (with_reducible (first | refine' wp_seq ?_ | refine' wp_region_lit ?_ | refine' wpList_nil ?_ | refine' then_normal ?_)) | ((with_reducible refine' c_condT ?hx ?_); (case hx => rfl)) | ((with_reducible refine' l_step ?_); ((first | (with_reducible refine' g_move ?_) | ((with_reducible refine' g_loadB ?hx ?hb ?hc ?_); (case hx => rfl); (case hb => exact bqq); first | (case hc => rfl) | (case hn => simp only [List.length_cons, List.length_nil]; omega)) | ((with_reducible refine' g_notF ?hx ?_); (case hx => rfl))); (conv => arg 5; simp only [zA, zB, ev, lget, zC, zD, zE, zF, zG, zH, zI, zJ, zK, zL, zM, zN, zO]))) | (((with_reducible refine' e_sliceLit ?hx ?hi ?hv ?hn ?_); (case hx => simp only [zC, zD, ev, lget]; (try rfl)); (case hi => rfl); (case hv => simp [Value.cells]); (case hn => decide); simp only [List.flatMap_cons, List.flatMap_nil, Value.cells, List.cons_append, List.nil_append]); intro _ _ _ _ _ _ _; (conv => arg 5; simp only [zA, zB, ev, lget, zC, zD, zE, zF, zG, zH, zI, zJ, zK, zL, zM, zN, zO])) | ((first | ((with_reducible refine' e_storeB ?hx ?hy ?hv ?h1 ?hb ?ho ?_); (case hx => rfl); (case hy => ((try simp only [ev, lget]); (try rfl))); (case hv => rfl); (case h1 => rfl)) | ((with_reducible refine' e_storeR ?hx ?hy ?h1 ?hb ?hn ?ho ?_); (case hx => rfl); (case hy => rfl); (case h1 => simp [Value.oneCell']); (case hn => rfl))); (case hb => exact bqq); (case ho => first | (simp only [List.length_cons, List.length_nil]; omega) | omega | (simp; omega) | simp); (try simp only [splice, zA, zB]); intro _ _ _ _) | ((with_reducible refine' w_quiet (id := 18) ?hm ?hB ?_); (case hm => kernel_rfl); (case hB => kernel_rfl)) | ((with_reducible refine' q_nil ?_); intro _ _ _) | ((with_reducible refine' q_step ?_); ((first | (with_reducible refine' g_move ?_) | (with_reducible refine' g_assign ?_) | ((with_reducible refine' g_fieldAddr ?hx ?ho ?_); (case hx => rfl); (case ho => rfl)) | ((with_reducible refine' g_loadB ?hx ?hb ?hc ?_); (case hx => rfl); (case hb => exact bqq); first | (case hc => rfl) | (case hn => simp only [List.length_cons, List.length_nil]; omega)) | ((with_reducible refine' g_nilCheckP ?hx ?_); (case hx => rfl)) | ((with_reducible refine' g_extract ?hx ?hv ?_); (case hx => rfl); (case hv => rfl))); (conv => arg 6; simp only [zA, zB, ev, lget, zC, zD, zE, zF, zG, zH, zI, zJ, zK, zL, zM, zN, zO]))) | ((with_reducible refine' w_tail (id := 20) 10 ?hm ?hB ?_); (case hm => kernel_rfl); (case hB => kernel_rfl); intro _ _ _) | ((with_reducible refine' t_step ?_); ((first | (with_reducible refine' g_move ?_) | ((with_reducible refine' g_fieldAddr ?hx ?ho ?_); (case hx => rfl); (case ho => rfl)) | ((with_reducible refine' g_loadB ?hx ?hb ?hc ?_); (case hx => rfl); (case hb => exact bqq); first | (case hc => rfl) | (case hn => simp only [List.length_cons, List.length_nil]; omega)) | ((with_reducible refine' g_nilCheckP ?hx ?_); (case hx => rfl))); (conv => arg 7; simp only [zA, zB, ev, lget, zC, zD, zE, zF, zG, zH, zI, zJ, zK, zL, zM, zN, zO]))) | (with_reducible refine' t_done ?_))
                all_goals try exact ⟨_, rfl, by simp only [setW, List.foldl_cons, List.foldl_nil, List.set_cons_succ, List.set_cons_zero], VA, dA, by assumption, own_evt (S := fun k => k = g) (by assumption) hoA (own_ne (fun k hk => (hnewO k hk).1) haA (by omega)), own_in (B := w5.heap.size) haA hlA (by omega) (by omega)⟩
                rename_i w9 he9 hz9 wd hed hzd
                rintro u4 w4' hev4 hz4 ⟨V3, d3, hb4, ho4, hin4⟩
                have hevfM : Evt (fun k => k = mp) wf wM := by exact eqq
                have hevf4 : Evt (fun k => k = g ∨ vC'.ownBlock = some k ∨ k = mp) wf w4' := Evt.next hev4 (hevfM.mono fun _ _ h => .inr (.inr h)) (by
                  rintro j _ (h1 | h1)
                  · exact .inl h1
                  · exact .inr (.inl h1))
                have hty : ∀ {t : TypeId} {k : Nat} {cur : List Value}, Blk wf k t cur → t ≠ 56 → t ≠ 47 → ¬ (k = g ∨ vC'.ownBlock = some k ∨ k = mp) := by
                  rintro t k cur hk h1 h2 (h3 | h3 | h3)
                  · subst h3
                    exact Blk.ne hblkf hk (fun e => h1 e.symm) rfl
                  · obtain ⟨cur', hc⟩ := own_typ hvf.acc k h3
                    exact Blk.ne hc hk (fun e => h2 e.symm) rfl
                  · exact hvf.seen.ne hk h3
                have hbe : ∀ {A' : Option Addr} {body : List Int}, BodyAt wf F' (tailBlk vF') A' body → BodyAt w4' (fun k => F' k ∨ (w5.heap.size ≤ k ∧ k < w4'.heap.size)) (tailBlk vF') A' body := fun hb =>
                  hb.evt hevf4 (fun b' cur hk _ _ => hty hk (by decide) (by decide)) (fun _ h => .inl h) (fun _ _ h => h)
                simp only [setW, List.foldl_cons, List.foldl_nil, List.set_cons_succ, List.set_cons_zero]
                repeat' (first | (with_reducible refine' then_normal ?_))
                refine ⟨_, rfl, by simp only [setW, List.foldl_cons, List.foldl_nil, List.set_cons_succ, List.set_cons_zero], .slice V3 (s.1.acc.length + 1) d3, ⟨hb4, ?_, ?_, ?_, ?_, .inl hvf.fg, .inl hvf.fm, fun k hk => .inl (hvf.ff k hk), fun k hk => .inl (hvf.fl k hk), ?_, fun x hx => hbe (hvf.fb x hx), ?_, ?_⟩, hevf4⟩
                · exact hvf.fates.evt hevf4 (fun k hk => by obtain ⟨cur, hc⟩ := hvf.fates.typ k hk; exact hty hc (by decide) (by decide))
                · exact own_evt hevf4 hvf.fly (fun k hk => by obtain ⟨cur, hc⟩ := own_typ hvf.fly k hk; exact hty hc (by decide) (by decide))
                · show w4'.ownsRow 0 _ 3 _ (s.1.acc ++ [_]).length (acCs (s.1.acc ++ [_]))
                  rw [List.length_append, acCs_snoc]
                  exact ho4
                · show SeenAt _ _ _ _ (s.1.acc ++ [_]).length ((s.1.acc ++ [_]).map _)
                  rw [List.length_append, List.map_append]
                  refine hseenM.evt hev4 ?_
                  rintro (h1 | h1)
                  · exact hgm h1.symm
                  · exact (hnewO mp h1).2.2 rfl
                · intro k h1
                  rcases hin4 k h1 with h2 | h2
                  · exact .inl (hvf.fa k h2)
                  · exact .inr h2
                · intro x hx
                  rcases List.mem_append.1 hx with h1 | h1
                  · exact hbe (hvf.fc x h1)
                  · rw [List.mem_singleton] at h1
                    subst h1
                    exact hbe hmb'
                · rintro k (h1 | h1)
                  · exact hwid (by omega) k h1
                  · exact h1.2
            case k2 =>
              rintro u6 w6 ⟨vC2, hv6, hev6⟩
              have hz6 := hev6.size
              have hgf6 : Blk w6 gf 59 [.bool false, .int .i64 mi.id, .slice mi.A mi.body.length mi.c, .int .i64 mi.left] := hgf.evt hev6 (by
                rintro (h1 | h1 | h1)
                · exact hgfF (h1 ▸ hv.fg)
                · exact hgfF (hv.fa _ h1)
                · exact hgfF (h1 ▸ hv.fm))
              obtain ⟨hts1, hts2, hts3, hts4⟩ := takeN_same s.1 mi
              have hcl := copies_len ((takeN s.1 mi).fates.headD 49) (ackM mi)
              have hF2 : ∀ k, k < w5.heap.size → (F' k ∨ (w5.heap.size ≤ k ∧ k < w6.heap.size)) → F' k := by
                rintro k hk (h1 | h1)
                · exact h1
                · omega
              have hevw6 : Evt F' w5 w6 := Evt.next hev6 (hevwf.mono fun _ _ h => h.elim) (by
                rintro j hj (h1 | h1 | h1)
                · exact h1 ▸ hv.fg
                · exact hv.fa _ h1
                · exact h1 ▸ hv.fm)
              have hDb6 : ∀ m ∈ D, BodyAt w6 (fun k => F' k ∨ (w5.heap.size ≤ k ∧ k < w6.heap.size)) (tailBlk vF') m.A m.body := fun m hm =>
                ((hDb m hm).evt hevwf (F' := F') (fb' := tailBlk vF') (fun _ _ _ _ _ h => h) (fun _ h => h) (fun _ _ h => h)).evt hev6 (by
                  rintro b' cur hb' _ _ (h1 | h1 | h1)
                  · subst h1
                    exact Blk.ne hblkf hb' (by decide) rfl
                  · obtain ⟨cur', hc⟩ := own_typ hvf.acc b' h1
                    exact Blk.ne hc hb' (by decide) rfl
                  · exact hvf.seen.ne hb' h1) (fun _ h => .inl h) (fun _ _ h => h)
              simp only [setW, List.foldl_cons, List.foldl_nil, List.set_cons_succ, List.set_cons_zero]
              repeat' (first | (go_at_call 28; refine (hand_any g _ (takeN s.1 mi) (ackM mi) vF' vL' vC2 mp _ hv6 (fun h0 => absurd h0 (by simp [ackM])) (by rw [hts1]; exact hlt_) (by rw [hts2]; omega)).mono ?_; rintro e wH ⟨rfl, ⟨vF2, vL2, hvH, hTs⟩, hevH⟩; have hzH := hevH.size; refine ⟨_, rfl, ?_⟩; (conv => arg 5; simp only [zA, zB, ev, lget, zC, zD, zE, zF, zG, zH, zI, zJ, zK, zL, zM, zN, zO])) | (with_reducible (first | refine' wp_region_lit ?_ | refine' wpList_nil ?_ | refine' then_normal ?_ | refine' in_normal ?_)) | ((with_reducible refine' l_step ?_); (first | ((first | (with_reducible refine' g_move ?_) | ((with_reducible refine' g_fieldAddr ?hx ?ho ?_); (case hx => rfl); (case ho => rfl)) | ((with_reducible refine' g_loadB ?hx ?hb ?hc ?_); (case hx => rfl); (case hb => exact bqq); first | (case hc => rfl) | (case hn => simp only [List.length_cons, List.length_nil]; omega)) | ((with_reducible refine' g_addN ?hx ?hy ?h0 ?h1 ?_); (case hx => rfl); (case hy => rfl); (case h0 => omega); (case h1 => omega))); (conv => arg 5; simp only [zA, zB, ev, lget, zC, zD, zE, zF, zG, zH, zI, zJ, zK, zL, zM, zN, zO])) | ((with_reducible refine' g_build ?hl ?hp ?hs ?_); (case hl => rfl); (case hp => rfl); (case hs => rfl); (conv => arg 5; simp only [zA, zB, ev, lget, zC, zD, zE, zF, zG, zH, zI, zJ, zK, zL, zM, zN, zO, fillL, splice, List.getD_cons_zero, List.getD_cons_succ, Value.cells])))) | ((with_reducible refine' l_call TFn.ent ?ha ?_); (case ha => simp only [zC, zD, ev, lget]; (try rfl))))
              have hevHF : Evt F' w5 wH := Evt.next hevH hevw6 (by
                rintro j hj (h1 | h1)
                · exact h1 ▸ hv.fg
                · exact hF2 j hj (hv6.fl j h1))
              refine ⟨_, _, rfl, (by omega : D.length - (i + 1) < D.length - i), by simp only [zA, zB], i + 1, _, vF2, vL2, vC2, V, d, (handN (takeN s.1 mi) (ackM mi), s.2), by rw [hsx, stepD, if_neg (by rw [hack]; decide)], rfl, by omega, rfl, rfl, own_evt hevHF hoI (fun k hk hh => (hIn k hk).2.1 hh), hvH, ?_, ?_, ?_, own_evt hevHF hoD (fun k hk hh => hDF k hk hh), ?_, ?_, ?_, ?_, Nat.le_trans hsl (by omega), ?_, Evt.next hevHF hev5 ?_⟩
              · intro k hk
                have h1 := hIn k hk
                have h2 := hltI k hk
                refine ⟨h1.1, ?_, h1.2.2⟩
                rintro ((h3 | h3) | h3)
                · exact h1.2.1 h3
                · omega
                · omega
              · rintro k ((h3 | h3) | h3)
                · exact hF' k h3
                · exact .inr (by omega)
                · exact .inr (by omega)
              · intro k hk
                have h2 := own_lt hoD k hk
                rintro ((h3 | h3) | h3)
                · exact hDF k hk h3
                · omega
                · omega
              · intro m hm
                refine (hDb6 m hm).evt hevH ?_ (fun _ h => .inl h) (fun b' _ hn hh => hn (hTs b' hh))
                rintro b' cur hb' _ _ (h1 | h1)
                · subst h1
                  exact Blk.ne hv6.blk hb' (by decide) rfl
                · obtain ⟨cur', hc⟩ := own_typ hv6.fly b' h1
                  exact Blk.ne hc hb' (by decide) rfl
              · intro c hc
                have h1 : c ∈ (takeN s.1 mi).fates := mem_tail hc
                rw [hts1] at h1
                exact hlt_ c h1
              · show ((takeN s.1 mi).fly ++ copies ((takeN s.1 mi).fates.headD 49) (ackM mi)).length ≤ _
                rw [List.length_append, hts2]
                omega
              · show (takeN s.1 mi).acc.length ≤ _
                omega
              · show (takeN s.1 mi).now = _
                rw [hts3, hsn]
              · intro j hj h1
                rcases hF' j h1 with h2 | h2
                · exact h2
                · omega
        · obtain rfl : i = D.length := by omega
          rw [List.take_length] at hs
          repeat' (first | (with_reducible (first | refine' wp_seq ?_ | refine' wp_region_lit ?_ | refine' wpList_nil ?_ | refine' then_normal ?_ | refine' wp_ret ?_ | refine' wp_exit ?_ | refine' then_exit ?_ | refine' in_exit ?_)) | ((with_reducible refine' c_condF ?hx ?_); (case hx => rfl)) | ((with_reducible refine' b_ret1 ?hr ?hv ?_); (case hr => rfl); (case hv => ((try simp only [ev, lget]); (try rfl)))) | ((with_reducible refine' l_step ?_); (first | ((first | (with_reducible refine' g_move ?_) | (with_reducible refine' g_assign ?_)); (conv => arg 5; simp only [zA, zB, ev, lget, zC, zD, zE, zF, zG, zH, zI, zJ, zK, zL, zM, zN, zO])) | (((with_reducible refine' g_lss ?hx ?hy (fun _ => ?_) (fun _ => ?_)); (case hx => rfl)); (case hy => rfl); all_goals (first | (exfalso; omega) | (conv => arg 5; simp only [zA, zB, ev, lget, zC, zD, zE, zF, zG, zH, zI, zJ, zK, zL, zM, zN, zO]))))))
          rw [← hs]
          exact ⟨F', V, d, rfl, ⟨vF', vL', vC', mp, hv⟩, hoI, fun k hk => ⟨(hIn k hk).1, (hIn k hk).2.1⟩, hF', hev5⟩
end Go.Proofs.Ytmngcpackbekiaa
