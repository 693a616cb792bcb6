/- The network: what was accepted, copied. -/
import Derived.Test.YtmngcpackbekiaaNet16d
namespace Go.Proofs.Ytmngcpackbekiaa
open Go.RowKit Go.Proofs.YtmngcpackbekiaaE
set_option linter.unusedSimpArgs false
set_option linter.unusedVariables false

/-- Rows of so many cells an element. -/
theorem flat_at {α : Type} {f : α → List Value} {sz : Nat} (hf : ∀ x, (f x).length = sz) : ∀ (l : List α) (i j : Nat) (x : α) (v : Value), l[i]? = some x → (f x)[j]? = some v → (l.flatMap f)[i * sz + j]? = some v
  | [], i, j, x, v, hi, _ => by simp at hi
  | y :: l, 0, j, x, v, hi, hj => by
    simp only [List.getElem?_cons_zero, Option.some.injEq] at hi
    subst hi
    rw [List.flatMap_cons, List.getElem?_append_left (by have := (List.getElem?_eq_some_iff.1 hj).1; omega), Nat.zero_mul, Nat.zero_add, hj]
  | y :: l, i + 1, j, x, v, hi, hj => by
    simp only [List.getElem?_cons_succ] at hi
    have hy := hf y
    have h1 : (i + 1) * sz = i * sz + sz := by rw [Nat.add_mul, Nat.one_mul]
    rw [List.flatMap_cons, List.getElem?_append_right (by omega), show (i + 1) * sz + j - (f y).length = i * sz + j by omega]
    exact flat_at hf l i j x v hi hj
theorem flat_len {α : Type} {f : α → List Value} {sz : Nat} (hf : ∀ x, (f x).length = sz) : ∀ (l : List α), (l.flatMap f).length = l.length * sz
  | [] => by simp
  | y :: l => by rw [List.flatMap_cons, List.length_append, flat_len hf l, hf y, List.length_cons, Nat.add_mul, Nat.one_mul, Nat.add_comm]
theorem acC_len (m : Ma) : (acC m).length = 3 := rfl
theorem flC_len (m : Mf) : (flC m).length = 4 := rfl
theorem acCs_len (l : List Ma) : (acCs l).length = l.length * 3 := flat_len acC_len l
theorem flCs_len (l : List Mf) : (flCs l).length = l.length * 4 := flat_len flC_len l
/-- Cells that can be read from A on, in a block of G. -/
def RG (w : World) (G : Nat → Prop) (A : Option Addr) (cs : List Value) : Prop := 0 < cs.length → ∃ b o, A = some ⟨b, o, none⟩ ∧ G b ∧ ∀ j v, cs[j]? = some v → w.cell? ⟨b, o + j, none⟩ = some v
theorem RG.rc {w : World} {G : Nat → Prop} {A : Option Addr} {cs : List Value} (h : RG w G A cs) : RC w A cs := fun hn => by
  obtain ⟨b, o, hA, _, hc⟩ := h hn
  exact ⟨b, o, hA, hc⟩
theorem RG.evt {S : Nat → Prop} {w w' : World} {G G' : Nat → Prop} {A : Option Addr} {cs : List Value} (h : RG w G A cs) (he : Evt S w w') (hs : ∀ k, k < w.heap.size → G k → ¬ S k) (hG : ∀ k, G k → G' k) : RG w' G' A cs := fun hn => by
  obtain ⟨b, o, rfl, hg, hc⟩ := h hn
  have hlt : b < w.heap.size := by
    have h0 : 0 < cs.length := hn
    have := World.block_lt_of_cell? w _ (hc 0 _ (List.getElem?_eq_getElem h0))
    exact this
  exact ⟨b, o, rfl, hG b hg, fun j v hj => cell_evt he (hc j v hj) (hs b hlt hg)⟩
theorem RG.blk {w : World} {G : Nat → Prop} {g : Nat} {t : TypeId} {cs xs : List Value} (h : Blk w g t cs) (k : Nat) (hx : cs.take k = xs) (hg : G g) : RG w G (some ⟨g, 0, none⟩) xs := fun hn => by
  obtain ⟨b, o, hA, hc⟩ := RC.blk h k hx hn
  cases hA
  exact ⟨g, 0, rfl, hg, hc⟩
theorem RG.own {w : World} {G : Nat → Prop} {e : TypeId} {sz n c : Nat} {A : Option Addr} {xs : List Value} (h : w.ownsRow 0 e sz (.slice A n c) n xs) (hG : ∀ k, (Value.slice A n c).ownBlock = some k → G k) : RG w G A xs := by
  rcases own_blk_of h with ⟨h1, h2⟩ | ⟨g, cap, cur, h1, hb, ht, _⟩
  · have := h.1
    simp only [h2, Nat.zero_mul] at this
    rw [List.eq_nil_of_length_eq_zero this]
    intro h0
    simp at h0
  · simp only [Value.slice.injEq] at h1
    obtain ⟨rfl, _, _⟩ := h1
    exact RG.blk hb _ ht (hG g rfl)
/-- A list of what was accepted, in memory: its row, and each one's bytes. -/
structure AccAt (w : World) (G : Nat → Prop) (A : Option Addr) (l : List Ma) : Prop where
  row : RG w G A (acCs l)
  bod : ∀ m ∈ l, RG w G m.A (u8s m.body)
theorem AccAt.evt {S : Nat → Prop} {w w' : World} {G G' : Nat → Prop} {A : Option Addr} {l : List Ma} (h : AccAt w G A l) (he : Evt S w w') (hs : ∀ k, k < w.heap.size → G k → ¬ S k) (hG : ∀ k, G k → G' k) : AccAt w' G' A l :=
  ⟨h.row.evt he hs hG, fun m hm => (h.bod m hm).evt he hs hG⟩
theorem AccAt.up {w w' : World} {G : Nat → Prop} {A : Option Addr} {l : List Ma} (h : AccAt w G A l) (he : Evt (fun _ => False) w w') : AccAt w' G A l := h.evt he (fun _ _ _ h => h) (fun _ h => h)
/-- What one sees of it. -/
def seeA (m : Ma) : Int × Int × List Int := (m.id, m.tick, m.body)
theorem own_form {w : World} {e : TypeId} {sz n : Nat} {v : Value} {xs : List Value} (h : w.ownsRow 0 e sz v n xs) {i : Nat} (hi : i < n) : ∃ b cap, v = .slice (some ⟨b, 0, none⟩) n cap ∧ v.ownBlock = some b ∧ b < w.heap.size ∧ ∀ j u, xs[j]? = some u → w.cell? ⟨b, 0 + j, none⟩ = some u := by
  rcases own_blk_of h with ⟨_, h2⟩ | ⟨g, cap, cur, rfl, hb, ht, _⟩
  · omega
  · refine ⟨g, cap, rfl, rfl, hb.lt, fun j u hj => ?_⟩
    rw [hb.cell?, Nat.zero_add]
    rw [← ht, List.getElem?_take] at hj
    split at hj
    · exact hj
    · cases hj
/-- A row laid into a block whose head is known. -/
theorem splice_take {cs pre vs : List Value} {k : Nat} (h : cs.take k = pre) (hk : pre.length = k) (hl : k + vs.length ≤ cs.length) : (splice cs k vs).take (k + vs.length) = pre ++ vs := by
  have hcur : cs = pre ++ (cs.drop k).take vs.length ++ cs.drop (k + vs.length) := by
    conv => lhs; rw [← List.take_append_drop k cs, ← List.take_append_drop vs.length (cs.drop k), List.drop_drop, h]
    rw [List.append_assoc]
  have h4 : ((cs.drop k).take vs.length).length = vs.length := by rw [List.length_take, List.length_drop]; omega
  have h6 := splice_mid vs pre ((cs.drop k).take vs.length) (cs.drop (k + vs.length)) h4
  rw [← hcur, hk] at h6
  rw [h6]
  exact List.take_left' (by rw [List.length_append, hk])
section
variable {P : Program} {ops : Array Oper} {rest : List Oper} {w : World} {Q : Exit → Act → World → Prop} {ty : TypeId} {pos : String} {aft : Array Edge} {l : List Value} {ds : List Deferred} {N : Tmp}
/-- make([]T, n) -/
theorem e_make {t e : TypeId} {x y : Operand} {sz bytes n : Nat} {z : Value} (hx : ev l x = .int .i64 n) (hy : ev l y = .int .i64 n) [ht : TSlice P t e sz bytes] [hz : TZero P e z] (hb : n * bytes ≤ 281474976710656) (hn : n ≤ 9223372036854775807)
    (h : ∀ g w1 cs, w.heap.size ≤ g → g < w1.heap.size → Blk w1 g e cs → cs.length = n * sz → Evt (fun _ => False) w w1 → w.heap.size ≤ w1.heap.size → wpList P ops Q rest ⟨(l.set N (.slice (some ⟨g, 0, none⟩) n n)).toArray, ds⟩ w1) :
    wpList P ops Q (⟨some N, .makeSlice t x y, ty, pos, aft, none⟩ :: rest) ⟨l.toArray, ds⟩ w := by
  have hi := ht.info
  have hz' := hz.ok
  cases hq : P.info? e with
  | none => simp [hq] at hi
  | some inf =>
    simp only [hq, Option.map_some, Option.some.injEq, Prod.mk.injEq] at hi hz'
    have hrun := run_make (P := P) w t e inf z ht.ok hq hz' .i64 .i64 n n (by omega) (by omega) (by rw [hi.2]; have h' : ((n * bytes : Nat) : Int) ≤ 281474976710656 := by omega
                                                                                                    rw [Int.natCast_mul] at h'; rw [Int.mul_comm]; exact h') (by omega)
    simp only [Int.toNat_natCast] at hrun
    refine l_event (v := .slice (some ⟨w.heap.size, 0, none⟩) n n) (w' := w.alloc (.cells (madeCells z.cells (n * inf.size)) e)) ?_ (h _ _ (madeCells z.cells (n * inf.size)).toList (Nat.le_refl _) (by simp) ?_ (by rw [Array.length_toList, size_madeCells, hi.1]) (Evt.alloc _ _) (by simp))
    · simp only [execOp, hx, hy, Sem.run_bind, hrun, Result.andThen_ok]
      first | rfl | simp
    · exact heap_alloc_new w _
end
theorem acC_one (m : Ma) : ∀ v ∈ acC m, v.oneCell' = true := by intro v hv; simp only [acC, List.mem_cons, List.not_mem_nil, or_false] at hv; rcases hv with rfl | rfl | rfl <;> rfl
set_option maxHeartbeats 2000000 in
theorem accepted_any (g : Nat) (F : Nat → Prop) (N : Net) (w : World) (h0 : NetAt w F g N) (hn : N.acc.length ≤ 1000000000000) (hbl : ∀ m ∈ N.acc, m.body.length ≤ 140737488351232) :
    Calls Try.prog 17 #[.pointer (some ⟨g, 0, none⟩)] w fun e w' => ∃ A l, e = .returned (.slice A (l : List Ma).length l.length) ∧ AccAt w' (fun k => w.heap.size ≤ k ∧ k < w'.heap.size) A l ∧ l.map seeA = N.acc.map seeA ∧ NetAt w' F g N ∧ Evt (fun _ => False) w w' := by
  obtain ⟨vF, vL, vC, mp, h⟩ := h0
  have hblk := h.blk
  obtain ⟨VC, dC, hVC⟩ := own_slice h.acc
  subst hVC
  go_enter Try.func17, Try.ntmps17
  repeat' (first | ((with_reducible refine' e_make (n := N.acc.length) ?hx ?hy ?hb ?hn ?_); (case hx => rfl); (case hy => rfl); (case hb => omega); (case hn => omega); intro go wo csO hO1 hO2 hgo hlo hevo hzo; (conv => arg 5; simp only [zA, zB, ev, lget, zC, zD, zE, zF, zG, zH, zI, zJ, zK, zL, zM, zN, zO])) | (with_reducible (first | refine' wp_seq ?_ | refine' wp_region_lit ?_ | refine' wpList_nil ?_ | refine' then_normal ?_ | refine' wp_block ?_)) | ((with_reducible refine' l_step ?_); ((first | (with_reducible refine' g_move ?_) | (with_reducible refine' g_assign ?_) | ((with_reducible refine' g_fieldAddr ?hx ?ho ?_); (case hx => rfl); (case ho => rfl)) | ((with_reducible refine' g_loadB ?hx ?hb ?hc ?_); (case hx => rfl); (case hb => exact bqq); first | (case hc => rfl) | (case hn => simp only [List.length_cons, List.length_nil]; omega)) | ((with_reducible refine' g_nilCheckP ?hx ?_); (case hx => rfl)) | ((with_reducible refine' g_lenS ?hx ?_); (case hx => rfl))); (conv => arg 5; simp only [zA, zB, ev, lget, zC, zD, zE, zF, zG, zH, zI, zJ, zK, zL, zM, zN, zO]))))
  refine' s_loop [4, 5, 17, 18, 19, 20, 21, 22, 23, 24, 25, 26, 27, 28, 29, 30] (fun n u w' => ∃ (i : Nat) (l : List Ma) (cs : List Value), n = N.acc.length - i ∧ i ≤ N.acc.length ∧ u 17 = .int .i64 i ∧ l.length = i ∧ l.map seeA = (N.acc.take i).map seeA ∧ Blk w' go 47 cs ∧ cs.length = N.acc.length * 3 ∧ cs.take (i * 3) = acCs l ∧ (∀ m ∈ l, RG w' (fun k => w.heap.size ≤ k ∧ k < w'.heap.size ∧ k ≠ go) m.A (u8s m.body)) ∧ Evt (fun j => j = go) wo w') N.acc.length ?h0 ?round
  case h0 => exact ⟨0, [], csO, rfl, by omega, rfl, rfl, rfl, hgo, hlo, rfl, by simp, Evt.refl _ _⟩
  case round =>
    rintro n u w3 ⟨i, l, cs, rfl, hi, h17, hll, hls, hgo3, hlen, htk, hbod, hev3⟩
    simp only [setW, List.foldl_cons, List.foldl_nil, List.set_cons_succ, List.set_cons_zero]
    simp only [h17]
    have hz3 := hev3.size
    have hev03 : Evt (fun _ => False) w w3 := Evt.next hev3 hevo (by intro i hi h; exfalso; have h' : i = _ := h; omega)
    clear hgo hevo
    by_cases hlt : i < N.acc.length
    · obtain ⟨b, cap, hv, hob, hblt, hcell⟩ := own_form h.acc hlt
      simp only [Value.slice.injEq] at hv
      obtain ⟨rfl, _, rfl⟩ := hv
      have hmem : N.acc[i] ∈ N.acc := List.getElem_mem hlt
      have hcellE : ∀ w', Evt (fun j => j = go) w3 w' → ∀ j v, (acC N.acc[i])[j]? = some v → w'.cell? ⟨b, i * 3 + j, none⟩ = some v := by
        intro w' he j v hj
        have h1 := hcell (i * 3 + j) v (flat_at acC_len N.acc i j _ v (List.getElem?_eq_getElem hlt) hj)
        rw [Nat.zero_add] at h1
        exact cell_evt he (cell_evt hev03 h1 (fun h => h)) (by simp only []; omega)
      have hrc : ∀ w', Evt (fun j => j = go) w3 w' → RC w' N.acc[i].A (u8s N.acc[i].body) := fun w' he hn => by
        have hb := h.fc _ hmem
        have h0 : 0 < N.acc[i].body.length := by rw [u8s_length] at hn; exact hn
        refine RC.evt ((hb.rc).up hev03) he (fun b' o hb' => ?_) hn
        intro hgg
        obtain ⟨b2, cur, hA, hB, _⟩ := hb h0
        rw [hb'] at hA
        cases hA
        have := hB.lt
        omega
      have hbm := hbl _ hmem
      have hsee : (N.acc.take (i + 1)).map seeA = (N.acc.take i).map seeA ++ [seeA N.acc[i]] := by rw [List.take_succ_eq_append_getElem hlt, List.map_append]; rfl
      generalize N.acc[i] = mi at *
      repeat' (first | ((with_reducible refine' e_appC (v := .slice none 0 0) (n := 0) (m := mi.body.length) (xs := []) (news := u8s mi.body) ?hx ?hy ?hzs ?hsz ?hown ?hl ?hr ?h1 ?hb ?hm ?_); (case hx => rfl); (case hy => rfl); (case hzs => rfl); (case hsz => decide); (case hown => exact World.ownsRow_nil _ _ _ _); (case hl => simp [u8s]); (case hr => exact hrc _ (by exact eqq)); (case h1 => exact u8s_one _); (case hb => omega); (case hm => omega); intro vA wA hoA heA0 haA hzA; have heA : Evt (fun _ => False) _ wA := heA0.mono (fun k _ hk => by simp [Value.ownBlock] at hk); clear heA0; simp only [Nat.zero_add, List.nil_append] at hoA; obtain ⟨VB, dB, hVB⟩ := own_slice hoA; subst hVB; (conv => arg 5; simp only [zA, zB, ev, lget, zC, zD, zE, zF, zG, zH, zI, zJ, zK, zL, zM, zN, zO])) | (with_reducible (first | refine' wp_seq ?_ | refine' wp_region_lit ?_ | refine' wpList_nil ?_ | refine' then_normal ?_ | refine' wp_block ?_ | refine' wp_skip ?_ | refine' in_normal ?_)) | ((with_reducible refine' c_condT ?hx ?_); (case hx => rfl)) | ((with_reducible refine' l_step ?_); (first | ((first | (with_reducible refine' g_move ?_) | (with_reducible refine' g_assign ?_) | ((with_reducible refine' g_fieldAddr ?hx ?ho ?_); (case hx => rfl); (case ho => rfl)) | ((first | (with_reducible refine' g_loadB ?hx ?hb ?hc ?_) | (with_reducible refine' g_loadS ?hx ?hb ?hn ?_)); (case hx => rfl); (case hb => exact bqq); first | (case hc => rfl) | (case hn => simp only [List.length_cons, List.length_nil]; omega)) | ((with_reducible refine' g_loadR ?hx ?hn ?hc ?_); (case hx => rfl); (case hc => first | exact hcellE _ (by exact eqq) | exact hcellF _ (by exact eqq)); (case hn => rfl)) | ((with_reducible refine' g_addN ?hx ?hy ?h0 ?h1 ?_); (case hx => rfl); (case hy => rfl); (case h0 => omega); (case h1 => omega)) | ((with_reducible refine' g_indexAddr ?hx ?hy ?h0 ?h1 ?_); (case hx => rfl); (case hy => rfl); (case h0 => omega); (case h1 => omega))); (conv => arg 5; simp only [zA, zB, ev, lget, zC, zD, zE, zF, zG, zH, zI, zJ, zK, zL, zM, zN, zO])) | (((with_reducible refine' g_lss ?hx ?hy (fun _ => ?_) (fun _ => ?_)); (case hx => rfl)); (case hy => rfl); all_goals (first | (exfalso; omega) | (conv => arg 5; simp only [zA, zB, ev, lget, zC, zD, zE, zF, zG, zH, zI, zJ, zK, zL, zM, zN, zO]))))) | (((with_reducible refine' e_alloc ?hx ?_); (case hx => rfl)); intro _ _ _ _ _ _ _; (conv => arg 5; simp only [zA, zB, ev, lget, zC, zD, zE, zF, zG, zH, zI, zJ, zK, zL, zM, zN, zO])) | ((first | ((with_reducible refine' e_storeB ?hx ?hy ?hv ?h1 ?hb ?ho ?_); (case hx => rfl); (case hy => ((try simp only [ev, lget]); (try rfl))); (case hv => rfl); (case h1 => rfl)) | ((with_reducible refine' e_storeR ?hx ?hy ?h1 ?hb ?hn ?ho ?_); (case hx => rfl); (case hy => rfl); (case h1 => simp [Value.oneCell']); (case hn => rfl))); (case hb => exact bqq); (case ho => first | (simp only [List.length_cons, List.length_nil]; omega) | omega | (simp; omega) | simp); (try simp only [splice, zA, zB]); intro _ _ _ _))
      rename_i x1 ga wa a1 a2 hga0 hea0 hza0 wb hgb heb hzb wc hgc hec hzc w9 hg9 he9 hz9
      have hev9 : Evt (fun j => j = go) w3 w9 := by exact eqq
      have hnew : RG w9 (fun k => w.heap.size ≤ k ∧ k < w9.heap.size ∧ k ≠ go) VB (u8s mi.body) := by
        have h1 := RG.own (G := fun k => k = wb.heap.size ∧ k < wA.heap.size) hoA (fun k hk => ⟨own_fresh haA k hk, own_lt hoA k hk⟩)
        have h2 := h1.evt hec (fun k _ hk hh => by have := hk.1; have h' : k = ga := hh; omega) (fun _ h => h)
        exact h2.evt he9 (fun k _ hk hh => by have := hk.1; have h' : k = go := hh; omega) (fun k hk => ⟨by omega, by omega, by omega⟩)
      refine ⟨_, _, rfl, (by omega : N.acc.length - (i + 1) < N.acc.length - i), by simp only [zA, zB], i + 1, l ++ [{ id := mi.id, tick := mi.tick, body := mi.body, A := VB, c := dB }], _, rfl, by omega, rfl, by simp [hll], by rw [List.map_append, hls, hsee]; rfl, hg9, by simp [hlen], ?_, ?_, Evt.next hev9 hev3 (fun _ _ h => h)⟩
      · have h1 := splice_take (vs := acC { id := mi.id, tick := mi.tick, body := mi.body, A := VB, c := dB }) htk (by rw [acCs_len, hll]) (by show i * 3 + 3 ≤ _; omega)
        rw [acCs_snoc, show (i + 1) * 3 = i * 3 + 3 by omega]
        exact h1
      · intro m hm
        rcases List.mem_append.1 hm with h1 | h1
        · exact (hbod m h1).evt hev9 (fun k _ hk hh => hk.2.2 hh) (fun k hk => ⟨hk.1, by have := hev9.size; omega, hk.2.2⟩)
        · rw [List.mem_singleton] at h1
          subst h1
          exact hnew
    · obtain rfl : i = N.acc.length := by omega
      rw [List.take_length] at hls
      repeat' (first | (with_reducible (first | refine' wp_seq ?_ | refine' wp_region_lit ?_ | refine' wpList_nil ?_ | refine' then_normal ?_ | refine' wp_ret ?_ | refine' wp_exit ?_ | refine' then_exit ?_ | refine' in_exit ?_)) | ((with_reducible refine' c_condF ?hx ?_); (case hx => rfl)) | ((with_reducible refine' b_ret1 ?hr ?hv ?_); (case hr => rfl); (case hv => ((try simp only [ev, lget]); (try rfl)))) | ((with_reducible refine' l_step ?_); (first | ((first | (with_reducible refine' g_move ?_) | (with_reducible refine' g_assign ?_)); (conv => arg 5; simp only [zA, zB, ev, lget, zC, zD, zE, zF, zG, zH, zI, zJ, zK, zL, zM, zN, zO])) | (((with_reducible refine' g_lss ?hx ?hy (fun _ => ?_) (fun _ => ?_)); (case hx => rfl)); (case hy => rfl); all_goals (first | (exfalso; omega) | (conv => arg 5; simp only [zA, zB, ev, lget, zC, zD, zE, zF, zG, zH, zI, zJ, zK, zL, zM, zN, zO]))))))
      exact ⟨some ⟨go, 0, none⟩, l, by rw [hll], ⟨RG.blk hgo3 _ htk ⟨hO1, by omega⟩, fun m hm => (hbod m hm).evt (Evt.refl (fun _ => False) _) (fun _ _ _ h => h) (fun k hk => ⟨hk.1, hk.2.1⟩)⟩, hls, ⟨vF, vL, _, mp, h.up hev03⟩, hev03⟩
end Go.Proofs.Ytmngcpackbekiaa
