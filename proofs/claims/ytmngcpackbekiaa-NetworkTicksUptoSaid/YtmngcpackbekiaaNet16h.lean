/- What was accepted, copied: each one's bytes in a row of their own. -/
import Derived.Test.YtmngcpackbekiaaPly16b
import Derived.Test.YtmngcpackbekiaaOps12
namespace Go.Proofs.Ytmngcpackbekiaa
open Go.RowKit Go.Proofs.YtmngcpackbekiaaE
set_option linter.unusedSimpArgs false
set_option linter.unusedVariables false

@[reducible] def bodV (m : Ma) : Value := .slice m.A m.body.length m.c
/-- Bytes in rows of their own, in blocks from lo on, not in go. -/
structure OwnBods (w : World) (lo go : Nat) (l : List Ma) : Prop where
  own : ∀ m ∈ l, w.ownsRow 0 5 1 (bodV m) m.body.length (u8s m.body)
  low : ∀ m ∈ l, ∀ k, (bodV m).ownBlock = some k → lo ≤ k ∧ k ≠ go
  dis : l.Pairwise fun a b => ∀ k, (bodV a).ownBlock = some k → ¬ (bodV b).ownBlock = some k
theorem ownBods_nil (w : World) (lo go : Nat) : OwnBods w lo go [] := ⟨by simp, by simp, List.Pairwise.nil⟩
theorem OwnBods.lt3 {w : World} {lo go : Nat} {l : List Ma} (h : OwnBods w lo go l) : ∀ m ∈ l, ∀ k, (bodV m).ownBlock = some k → k < w.heap.size := fun m hm => own_lt (h.own m hm)
theorem OwnBods.evt {S : Nat → Prop} {w w' : World} {lo go : Nat} {l : List Ma} (h : OwnBods w lo go l) (he : Evt S w w') (hs : ∀ k, k ≠ go → ¬ S k) : OwnBods w' lo go l :=
  ⟨fun m hm => own_evt he (h.own m hm) (fun k hk => hs k (h.low m hm k hk).2), h.low, h.dis⟩
theorem OwnBods.snoc {w : World} {lo go B : Nat} {l : List Ma} {m : Ma} (h : OwnBods w lo go l) (hlt : ∀ x ∈ l, ∀ k, (bodV x).ownBlock = some k → k < B) (ho : w.ownsRow 0 5 1 (bodV m) m.body.length (u8s m.body)) (hb : ∀ k, (bodV m).ownBlock = some k → lo ≤ k ∧ k ≠ go ∧ B ≤ k ∧ k < w.heap.size) : OwnBods w lo go (l ++ [m]) := by
  refine ⟨fun x hx => ?_, fun x hx => ?_, ?_⟩
  · rcases List.mem_append.1 hx with h1 | h1
    · exact h.own x h1
    · rw [List.mem_singleton] at h1
      subst h1
      exact ho
  · rcases List.mem_append.1 hx with h1 | h1
    · exact h.low x h1
    · rw [List.mem_singleton] at h1
      subst h1
      exact fun k hk => ⟨(hb k hk).1, (hb k hk).2.1⟩
  · rw [List.pairwise_append]
    refine ⟨h.dis, List.pairwise_singleton _ _, fun a ha b hb' k hk hk2 => ?_⟩
    rw [List.mem_singleton] at hb'
    subst hb'
    have h1 := hlt a ha k hk
    have h2 := (hb k hk2).2.2.1
    omega
structure AccOwn (w : World) (lo go : Nat) (l : List Ma) : Prop where
  row : Blk w go 47 (acCs l)
  glo : lo ≤ go
  bods : OwnBods w lo go l
set_option maxHeartbeats 2000000 in
theorem accepted_own (g : Nat) (F : Nat → Prop) (N : Net) (w : World) (h0 : NetAt w F g N) (hn : N.acc.length ≤ 1000000000000) (hbl : ∀ m ∈ N.acc, m.body.length ≤ 140737488351232) :
    Calls Try.prog 17 #[.pointer (some ⟨g, 0, none⟩)] w fun e w' => ∃ go l, e = .returned (.slice (some ⟨go, 0, none⟩) (l : List Ma).length l.length) ∧ AccOwn w' w.heap.size go l ∧ l.map seeA = N.acc.map seeA ∧ NetAt w' F g N ∧ Evt (fun _ => False) w w' := by
  obtain ⟨vF, vL, vC, mp, h⟩ := h0
  have hblk := h.blk
  obtain ⟨VC, dC, hVC⟩ := own_slice h.acc
  subst hVC
  go_enter Try.func17, Try.ntmps17
  repeat' (first | ((with_reducible refine' e_make (n := N.acc.length) ?hx ?hy ?hb ?hn ?_); (case hx => rfl); (case hy => rfl); (case hb => omega); (case hn => omega); intro go wo csO hO1 hO2 hgo hlo hevo hzo; (conv => arg 5; simp only [zA, zB, ev, lget, zC, zD, zE, zF, zG, zH, zI, zJ, zK, zL, zM, zN, zO])) | (with_reducible (first | refine' wp_seq ?_ | refine' wp_region_lit ?_ | refine' wpList_nil ?_ | refine' then_normal ?_ | refine' wp_block ?_)) | ((with_reducible refine' l_step ?_); ((first | (with_reducible refine' g_move ?_) | (with_reducible refine' g_assign ?_) | ((with_reducible refine' g_fieldAddr ?hx ?ho ?_); (case hx => rfl); (case ho => rfl)) | ((with_reducible refine' g_loadB ?hx ?hb ?hc ?_); (case hx => rfl); (case hb => exact bqq); first | (case hc => rfl) | (case hn => simp only [List.length_cons, List.length_nil]; omega)) | ((with_reducible refine' g_nilCheckP ?hx ?_); (case hx => rfl)) | ((with_reducible refine' g_lenS ?hx ?_); (case hx => rfl))); (conv => arg 5; simp only [zA, zB, ev, lget, zC, zD, zE, zF, zG, zH, zI, zJ, zK, zL, zM, zN, zO]))))
  refine' s_loop [4, 5, 17, 18, 19, 20, 21, 22, 23, 24, 25, 26, 27, 28, 29, 30] (fun n u w' => ∃ (i : Nat) (l : List Ma) (cs : List Value), n = N.acc.length - i ∧ i ≤ N.acc.length ∧ u 17 = .int .i64 i ∧ l.length = i ∧ l.map seeA = (N.acc.take i).map seeA ∧ Blk w' go 47 cs ∧ cs.length = N.acc.length * 3 ∧ cs.take (i * 3) = acCs l ∧ OwnBods w' w.heap.size go l ∧ Evt (fun j => j = go) wo w') N.acc.length ?h0 ?round
  case h0 => exact ⟨0, [], csO, rfl, by omega, rfl, rfl, rfl, hgo, hlo, rfl, ownBods_nil _ _ _, Evt.refl _ _⟩
  case round =>
    rintro n u w3 ⟨i, l, cs, rfl, hi, h17, hll, hls, hgo3, hlen, htk, hbod, hev3⟩
    simp only [setW, List.foldl_cons, List.foldl_nil, List.set_cons_succ, List.set_cons_zero]
    simp only [h17]
    have hz3 := hev3.size
    have hev03 : Evt (fun _ => False) w w3 := Evt.next hev3 hevo (by intro i hi h; exfalso; have h' : i = _ := h; omega)
    clear hgo hevo
    by_cases hlt : i < N.acc.length
    · obtain ⟨b, cap, hv, hob, hblt, hcell⟩ := own_form h.acc hlt
      simp only [Value.slice.injEq] at hv
      obtain ⟨rfl, _, rfl⟩ := hv
      have hmem : N.acc[i] ∈ N.acc := List.getElem_mem hlt
      have hcellE : ∀ w', Evt (fun j => j = go) w3 w' → ∀ j v, (acC N.acc[i])[j]? = some v → w'.cell? ⟨b, i * 3 + j, none⟩ = some v := by
        intro w' he j v hj
        have h1 := hcell (i * 3 + j) v (flat_at acC_len N.acc i j _ v (List.getElem?_eq_getElem hlt) hj)
        rw [Nat.zero_add] at h1
        exact cell_evt he (cell_evt hev03 h1 (fun h => h)) (by simp only []; omega)
      have hrc : ∀ w', Evt (fun j => j = go) w3 w' → RC w' N.acc[i].A (u8s N.acc[i].body) := fun w' he hn => by
        have hb := h.fc _ hmem
        have h0 : 0 < N.acc[i].body.length := by rw [u8s_length] at hn; exact hn
        refine RC.evt ((hb.rc).up hev03) he (fun b' o hb' => ?_) hn
        intro hgg
        obtain ⟨b2, cur, hA, hB, _⟩ := hb h0
        rw [hb'] at hA
        cases hA
        have := hB.lt
        omega
      have hbm := hbl _ hmem
      have hsee : (N.acc.take (i + 1)).map seeA = (N.acc.take i).map seeA ++ [seeA N.acc[i]] := by rw [List.take_succ_eq_append_getElem hlt, List.map_append]; rfl
      generalize N.acc[i] = mi at *
      repeat' (first | ((with_reducible refine' e_appC (v := .slice none 0 0) (n := 0) (m := mi.body.length) (xs := []) (news := u8s mi.body) ?hx ?hy ?hzs ?hsz ?hown ?hl ?hr ?h1 ?hb ?hm ?_); (case hx => rfl); (case hy => rfl); (case hzs => rfl); (case hsz => decide); (case hown => exact World.ownsRow_nil _ _ _ _); (case hl => simp [u8s]); (case hr => exact hrc _ (by exact eqq)); (case h1 => exact u8s_one _); (case hb => omega); (case hm => omega); intro vA wA hoA heA0 haA hzA; have heA : Evt (fun _ => False) _ wA := heA0.mono (fun k _ hk => by simp [Value.ownBlock] at hk); clear heA0; simp only [Nat.zero_add, List.nil_append] at hoA; obtain ⟨VB, dB, hVB⟩ := own_slice hoA; subst hVB; (conv => arg 5; simp only [zA, zB, ev, lget, zC, zD, zE, zF, zG, zH, zI, zJ, zK, zL, zM, zN, zO])) | (with_reducible (first | refine' wp_seq ?_ | refine' wp_region_lit ?_ | refine' wpList_nil ?_ | refine' then_normal ?_ | refine' wp_block ?_ | refine' wp_skip ?_ | refine' in_normal ?_)) | ((with_reducible refine' c_condT ?hx ?_); (case hx => rfl)) | ((with_reducible refine' l_step ?_); (first | ((first | (with_reducible refine' g_move ?_) | (with_reducible refine' g_assign ?_) | ((with_reducible refine' g_fieldAddr ?hx ?ho ?_); (case hx => rfl); (case ho => rfl)) | ((first | (with_reducible refine' g_loadB ?hx ?hb ?hc ?_) | (with_reducible refine' g_loadS ?hx ?hb ?hn ?_)); (case hx => rfl); (case hb => exact bqq); first | (case hc => rfl) | (case hn => simp only [List.length_cons, List.length_nil]; omega)) | ((with_reducible refine' g_loadR ?hx ?hn ?hc ?_); (case hx => rfl); (case hc => first | exact hcellE _ (by exact eqq) | exact hcellF _ (by exact eqq)); (case hn => rfl)) | ((with_reducible refine' g_addN ?hx ?hy ?h0 ?h1 ?_); (case hx => rfl); (case hy => rfl); (case h0 => omega); (case h1 => omega)) | ((with_reducible refine' g_indexAddr ?hx ?hy ?h0 ?h1 ?_); (case hx => rfl); (case hy => rfl); (case h0 => omega); (case h1 => omega))); (conv => arg 5; simp only [zA, zB, ev, lget, zC, zD, zE, zF, zG, zH, zI, zJ, zK, zL, zM, zN, zO])) | (((with_reducible refine' g_lss ?hx ?hy (fun _ => ?_) (fun _ => ?_)); (case hx => rfl)); (case hy => rfl); all_goals (first | (exfalso; omega) | (conv => arg 5; simp only [zA, zB, ev, lget, zC, zD, zE, zF, zG, zH, zI, zJ, zK, zL, zM, zN, zO]))))) | (((with_reducible refine' e_alloc ?hx ?_); (case hx => rfl)); intro _ _ _ _ _ _ _; (conv => arg 5; simp only [zA, zB, ev, lget, zC, zD, zE, zF, zG, zH, zI, zJ, zK, zL, zM, zN, zO])) | ((first | ((with_reducible refine' e_storeB ?hx ?hy ?hv ?h1 ?hb ?ho ?_); (case hx => rfl); (case hy => ((try simp only [ev, lget]); (try rfl))); (case hv => rfl); (case h1 => rfl)) | ((with_reducible refine' e_storeR ?hx ?hy ?h1 ?hb ?hn ?ho ?_); (case hx => rfl); (case hy => rfl); (case h1 => simp [Value.oneCell']); (case hn => rfl))); (case hb => exact bqq); (case ho => first | (simp only [List.length_cons, List.length_nil]; omega) | omega | (simp; omega) | simp); (try simp only [splice, zA, zB]); intro _ _ _ _))
      rename_i x1 ga wa a1 a2 hga0 hea0 hza0 wb hgb heb hzb wc hgc hec hzc w9 hg9 he9 hz9
      have hev9 : Evt (fun j => j = go) w3 w9 := by exact eqq
      have hoB : w9.ownsRow 0 5 1 (.slice VB mi.body.length dB) mi.body.length (u8s mi.body) := own_evt he9 (own_evt hec hoA (fun k hk hh => by have h1 := own_fresh haA k hk; have h' : k = ga := hh; omega)) (fun k hk hh => by have h1 := own_fresh haA k hk; have h' : k = go := hh; omega)
      have hbod9 : OwnBods w9 w.heap.size go l := hbod.evt hev9 (fun k hk hh => hk hh)
      have hlB := own_lt hoA
      refine ⟨_, _, rfl, (by omega : N.acc.length - (i + 1) < N.acc.length - i), by simp only [zA, zB], i + 1, l ++ [{ id := mi.id, tick := mi.tick, body := mi.body, A := VB, c := dB }], _, rfl, by omega, rfl, by simp [hll], by rw [List.map_append, hls, hsee]; rfl, hg9, by simp [hlen], ?_, ?_, Evt.next hev9 hev3 (fun _ _ h => h)⟩
      · have h1 := splice_take (vs := acC { id := mi.id, tick := mi.tick, body := mi.body, A := VB, c := dB }) htk (by rw [acCs_len, hll]) (by show i * 3 + 3 ≤ _; omega)
        rw [acCs_snoc, show (i + 1) * 3 = i * 3 + 3 by omega]
        exact h1
      · exact hbod9.snoc (B := w3.heap.size) (fun k hk => hbod.lt3 k hk) hoB (fun k hk => by have h1 := own_fresh haA k hk; have h2 := hlB k hk; exact ⟨by omega, by omega, by omega, by omega⟩)
    · obtain rfl : i = N.acc.length := by omega
      rw [List.take_length] at hls
      repeat' (first | (with_reducible (first | refine' wp_seq ?_ | refine' wp_region_lit ?_ | refine' wpList_nil ?_ | refine' then_normal ?_ | refine' wp_ret ?_ | refine' wp_exit ?_ | refine' then_exit ?_ | refine' in_exit ?_)) | ((with_reducible refine' c_condF ?hx ?_); (case hx => rfl)) | ((with_reducible refine' b_ret1 ?hr ?hv ?_); (case hr => rfl); (case hv => ((try simp only [ev, lget]); (try rfl)))) | ((with_reducible refine' l_step ?_); (first | ((first | (with_reducible refine' g_move ?_) | (with_reducible refine' g_assign ?_)); (conv => arg 5; simp only [zA, zB, ev, lget, zC, zD, zE, zF, zG, zH, zI, zJ, zK, zL, zM, zN, zO])) | (((with_reducible refine' g_lss ?hx ?hy (fun _ => ?_) (fun _ => ?_)); (case hx => rfl)); (case hy => rfl); all_goals (first | (exfalso; omega) | (conv => arg 5; simp only [zA, zB, ev, lget, zC, zD, zE, zF, zG, zH, zI, zJ, zK, zL, zM, zN, zO]))))))
      exact ⟨go, l, by rw [hll], ⟨by rw [← htk, List.take_of_length_le (by omega)]; exact hgo3, hO1, hbod⟩, hls, ⟨vF, vL, _, mp, h.up hev03⟩, hev03⟩
end Go.Proofs.Ytmngcpackbekiaa
