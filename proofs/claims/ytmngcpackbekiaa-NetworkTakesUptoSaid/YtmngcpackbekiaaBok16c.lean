/- The book: an answer of Accepted is kept. EVT3 -/
import Derived.Test.YtmngcpackbekiaaBok16b
namespace Go.Proofs.Ytmngcpackbekiaa
open Go.RowKit Go.Proofs.YtmngcpackbekiaaE
set_option linter.unusedSimpArgs false
set_option linter.unusedVariables false

@[reducible] def mkB (n : Nat) : Int := IntKind.u8.wrap ((n : Int) * 2 + 1)
@[reducible] def slB (m : Ma) : Sl := ⟨m.A, m.body.length, m.c⟩
def mks (n k : Nat) : List Int := (List.range k).map fun j => mkB (n + j)
theorem mks_succ (n k : Nat) : mks n (k + 1) = mks n k ++ [mkB (n + k)] := by simp [mks, List.range_succ]
theorem mks_len (n k : Nat) : (mks n k).length = k := by simp [mks]
theorem mk_get {ms : List Int} {n L k i : Nat} (hm : ms.length = n) (hi : i < L) : (u8s (ms ++ mks n L ++ mks n k))[n + i]? = some (.int .u8 (mkB (n + i))) := by
  unfold u8s
  rw [List.getElem?_map, List.append_assoc, List.getElem?_append_right (by omega), hm, Nat.add_sub_cancel_left, List.getElem?_append_left (by rw [mks_len]; exact hi)]
  simp [mks, hi]
theorem RG.pre {w : World} {G : Nat → Prop} {A : Option Addr} {xs ys : List Value} (h : RG w G A (xs ++ ys)) : RG w G A xs := fun hn => by
  obtain ⟨b, o, hA, hg, hc⟩ := h (by rw [List.length_append]; omega)
  exact ⟨b, o, hA, hg, fun j v hj => hc j v (by rw [List.getElem?_append_left (List.getElem?_eq_some_iff.1 hj).1]; exact hj)⟩
theorem blanks_len (i : Nat) (z : Int) : ((List.replicate i z).flatMap blankC).length = i * 3 := by
  rw [flat_len (sz := 3) (fun _ => rfl), List.length_replicate]
theorem row_get {l : List Ma} {i : Nat} (z : Int) (hi : i < l.length) : ((List.replicate i z).flatMap blankC ++ acCs (l.drop i))[i * 3 + 2]? = some (bodV l[i]) := by
  rw [List.getElem?_append_right (by rw [blanks_len]; omega), blanks_len, Nat.add_sub_cancel_left, List.drop_eq_getElem_cons hi]
  rfl
theorem row_set {l : List Ma} {i : Nat} (z : Int) (hi : i < l.length) : splice ((List.replicate i z).flatMap blankC ++ acCs (l.drop i)) (i * 3) (blankC z) = (List.replicate (i + 1) z).flatMap blankC ++ acCs (l.drop (i + 1)) := by
  have h1 : acCs (l.drop i) = acC l[i] ++ acCs (l.drop (i + 1)) := by rw [List.drop_eq_getElem_cons hi]; rfl
  have h2 := splice_mid (blankC z) ((List.replicate i z).flatMap blankC) (acC l[i]) (acCs (l.drop (i + 1))) rfl
  rw [blanks_len] at h2
  rw [h1, ← List.append_assoc, h2, List.replicate_succ', List.flatMap_append]
  simp
theorem row_len {l : List Ma} {i : Nat} (z : Int) (hi : i ≤ l.length) : ((List.replicate i z).flatMap blankC ++ acCs (l.drop i)).length = l.length * 3 := by
  rw [List.length_append, blanks_len, acCs_len, List.length_drop]
  omega
def bodOwn (l : List Ma) (k : Nat) : Prop := ∃ m ∈ l, (bodV m).ownBlock = some k
theorem bodOwn_of {l : List Ma} {i : Nat} (h : i < l.length) {k : Nat} (hk : (bodV l[i]).ownBlock = some k) : bodOwn l k := ⟨_, List.getElem_mem h, hk⟩
theorem pair_ne {l : List Ma} (h : l.Pairwise fun a b => ∀ k, (bodV a).ownBlock = some k → ¬ (bodV b).ownBlock = some k) {i j : Nat} (hi : i < l.length) (hj : j < l.length) (hij : i ≠ j) : ∀ k, (bodV l[i]).ownBlock = some k → ¬ (bodV l[j]).ownBlock = some k := by
  intro k hk hk2
  rw [List.pairwise_iff_getElem] at h
  rcases Nat.lt_or_gt_of_ne hij with h1 | h1
  · exact h i j hi hj h1 k hk hk2
  · exact h j i hj hi h1 k hk2 hk
/-- Behind i rounds of the first loop. -/
structure BL1 (w w' : World) (gB : Nat) (B : Bm) (vI vL vA vB vM : Value) (l : List Ma) (i : Nat) (VB : Option Addr) (dB : Nat) (VM : Option Addr) (dM : Nat) : Prop where
  blk : Blk w' gB 73 [vI, vL, vA, .slice VB (B.bods.length + i) dB, .slice VM (B.bods.length + i) dM]
  rB : w'.ownsRow 0 22 1 (.slice VB (B.bods.length + i) dB) (B.bods.length + i) ((B.bods ++ (l.take i).map slB).map slV)
  rM : w'.ownsRow 0 5 1 (.slice VM (B.bods.length + i) dM) (B.bods.length + i) (u8s (B.marks ++ mks B.bods.length i))
  oB : ∀ k, (Value.slice VB (B.bods.length + i) dB).ownBlock = some k → vB.ownBlock = some k ∨ w.heap.size ≤ k
  oM : ∀ k, (Value.slice VM (B.bods.length + i) dM).ownBlock = some k → vM.ownBlock = some k ∨ w.heap.size ≤ k
  done : ∀ j, (hj : j < l.length) → j < i → w'.ownsRow 0 5 1 (bodV l[j]) l[j].body.length (List.replicate l[j].body.length (.int .u8 (mkB (B.bods.length + j))))
  todo : ∀ j, (hj : j < l.length) → i ≤ j → w'.ownsRow 0 5 1 (bodV l[j]) l[j].body.length (u8s l[j].body)
  evt : Evt (fun k => k = gB ∨ vB.ownBlock = some k ∨ vM.ownBlock = some k ∨ bodOwn l k) w w'
/-- Behind i rounds of the second loop. -/
structure BL2 (w w' : World) (gB : Nat) (B : Bm) (vI vL vA vB vM : Value) (l : List Ma) (go i : Nat) (ln : List Sl) (E : Nat → Prop) (VB : Option Addr) (dB : Nat) (VM : Option Addr) (dM : Nat) : Prop where
  blk : Blk w' gB 73 [vI, vL, vA, .slice VB (B.bods.length + l.length + i) dB, .slice VM (B.bods.length + l.length + i) dM]
  rB : w'.ownsRow 0 22 1 (.slice VB (B.bods.length + l.length + i) dB) (B.bods.length + l.length + i) ((B.bods ++ l.map slB ++ ln).map slV)
  rM : w'.ownsRow 0 5 1 (.slice VM (B.bods.length + l.length + i) dM) (B.bods.length + l.length + i) (u8s (B.marks ++ mks B.bods.length l.length ++ mks B.bods.length i))
  oB : ∀ k, (Value.slice VB (B.bods.length + l.length + i) dB).ownBlock = some k → vB.ownBlock = some k ∨ w.heap.size ≤ k
  oM : ∀ k, (Value.slice VM (B.bods.length + l.length + i) dM).ownBlock = some k → vM.ownBlock = some k ∨ w.heap.size ≤ k
  lnl : ln.length = i
  cur : ∀ j, (hj : j < l.length) → i ≤ j → w'.ownsRow 0 5 1 (bodV l[j]) l[j].body.length (List.replicate l[j].body.length (.int .u8 (mkB (B.bods.length + j))))
  rg : ∀ j, (hj : j < l.length) → RG w' (fun k => (bodV l[j]).ownBlock = some k) l[j].A (List.replicate l[j].body.length (.int .u8 (mkB (B.bods.length + j))))
  lng : ∀ j s, (hj : j < l.length) → ln[j]? = some s → s.n = l[j].body.length ∧ RG w' (fun k => (bodV l[j]).ownBlock = some k ∨ E k) s.A (List.replicate s.n (.int .u8 (mkB (B.bods.length + j))))
  E1 : ∀ k, E k → w.heap.size ≤ k ∧ k < w'.heap.size
  E2 : ∀ k, (Value.slice VM (B.bods.length + l.length + i) dM).ownBlock = some k → ¬ E k
  E3 : ∀ k, (Value.slice VB (B.bods.length + l.length + i) dB).ownBlock = some k → ¬ E k
  row : Blk w' go 47 ((List.replicate i (-7 - (B.lists.length : Int))).flatMap blankC ++ acCs (l.drop i))
  evt : Evt (fun k => k = gB ∨ k = go ∨ vB.ownBlock = some k ∨ vM.ownBlock = some k ∨ bodOwn l k) w w'
set_option maxRecDepth 20000 in
set_option maxHeartbeats 16000000 in
theorem bacc_any (D : Nat → Prop) (gB : Nat) (B : Bm) (vI vL vA vB vM : Value) (lo go : Nat) (l : List Ma) (w : World) (h : BookV w D gB B vI vL vA vB vM) (ha : AccOwn w lo go l) (hgo : ¬ D go) (hbd : ∀ k, bodOwn l k → ¬ D k ∧ ¬ vM.ownBlock = some k) (hbl : ∀ m ∈ l, m.body.length ≤ 1000000000) (hl : l.length ≤ 1000000000) (hB : B.bods.length + 2 * l.length ≤ 5000000000000) (hA : B.lists.length < 100000000000) :
    Calls Try.prog 38 #[.pointer (some ⟨gB, 0, none⟩), .slice (some ⟨go, 0, none⟩) l.length l.length] w fun e w' => e = .returned (.tuple #[]) ∧ ∃ B' D' vA' vB' vM', BookV w' D' gB B' vI vL vA' vB' vM' ∧ B'.ids.length = B.ids.length ∧ B'.lists.length = B.lists.length + 1 ∧ B'.bods.length = B.bods.length + 2 * l.length ∧ (∀ k, D' k → D k ∨ k = go ∨ bodOwn l k ∨ w.heap.size ≤ k) ∧
      (∀ k, vA'.ownBlock = some k → vA.ownBlock = some k ∨ w.heap.size ≤ k) ∧ (∀ k, vB'.ownBlock = some k → vB.ownBlock = some k ∨ w.heap.size ≤ k) ∧ (∀ k, vM'.ownBlock = some k → vM.ownBlock = some k ∨ w.heap.size ≤ k) ∧ Evt (fun k => k = gB ∨ k = go ∨ vA.ownBlock = some k ∨ vB.ownBlock = some k ∨ vM.ownBlock = some k ∨ bodOwn l k) w w' := by
  have hblk := h.blk
  obtain ⟨AA, cA, rfl⟩ := own_slice h.rA
  obtain ⟨AB, cB, rfl⟩ := own_slice h.rB
  obtain ⟨AM, cM, rfl⟩ := own_slice h.rM
  have hlM := h.lM
  have hrow := ha.row
  have hgg : ¬ go = gB := fun hh => by subst hh; exact Blk.ne hblk hrow (by decide) rfl
  have hgl := hblk.lt
  have hol := hrow.lt
  have hbl2 : ∀ k, bodOwn l k → k < w.heap.size ∧ ∃ c, Blk w k 5 c := fun k hk => by
    obtain ⟨m, hm, hk⟩ := hk
    exact ⟨own_lt (ha.bods.own m hm) k hk, own_typ (ha.bods.own m hm) k hk⟩
  have hlb := own_lt h.rB
  have hlm := own_lt h.rM
  have tB := own_typ h.rB
  have tM := own_typ h.rM
  go_enter Try.func38, Try.ntmps38
  repeat' (first | (with_reducible (first | refine' wp_seq ?_ | refine' wp_region_lit ?_ | refine' wpList_nil ?_ | refine' then_normal ?_ | refine' wp_block ?_)) | ((with_reducible refine' l_step ?_); ((first | (with_reducible refine' g_move ?_) | (with_reducible refine' g_assign ?_) | ((with_reducible refine' g_fieldAddr ?hx ?ho ?_); (case hx => rfl); (case ho => rfl)) | ((with_reducible refine' g_loadB ?hx ?hb ?hc ?_); (case hx => rfl); (case hb => exact bqq); first | (case hc => rfl) | (case hn => simp only [List.length_cons, List.length_nil]; omega)) | ((with_reducible refine' g_nilCheckP ?hx ?_); (case hx => rfl)) | ((with_reducible refine' g_lenS ?hx ?_); (case hx => rfl))); (conv => arg 5; simp only [zA, zB, ev, lget, zC, zD, zE, zF, zG, zH, zI, zJ, zK, zL, zM, zN, zO]))))
  refine' s_loop [5, 6, 7, 15, 16, 17, 18, 19, 20, 21, 22, 23, 24, 25, 26, 27, 28, 29, 30, 31, 32, 33, 34, 35, 36, 37, 38, 39, 40, 41, 42, 43, 44, 45, 46, 47, 48, 49, 50, 51, 52, 53, 54, 55, 56, 57, 58, 59, 60, 61, 62, 63, 64, 65, 66, 67, 68, 69, 70] (fun n u w' => ∃ (i : Nat) (VB VM : Option Addr) (dB dM : Nat), n = l.length - i ∧ i ≤ l.length ∧ u 5 = .int .i64 i ∧ BL1 w w' gB B vI vL (.slice AA B.lists.length cA) (.slice AB B.bods.length cB) (.slice AM B.marks.length cM) l i VB dB VM dM) l.length ?h0 ?round
  case h0 =>
    refine ⟨0, AB, AM, cB, cM, rfl, by omega, rfl, ?_⟩
    rw [hlM] at hblk
    exact {
      blk := hblk
      rB := by have := h.rB; simpa using this
      rM := by have := h.rM; rw [hlM] at this; simpa [mks] using this
      oB := fun k hk => .inl hk
      oM := fun k hk => .inl (by rw [hlM]; exact hk)
      done := fun j _ hj => by omega
      todo := fun j hj _ => ha.bods.own _ (List.getElem_mem hj)
      evt := Evt.refl _ _ }
  case round =>
    rintro n u w1 ⟨i, VB, VM, dB, dM, rfl, hi, h5, hL⟩
    simp only [setW, List.foldl_cons, List.foldl_nil, List.set_cons_succ, List.set_cons_zero]
    simp only [h5]
    have z1 := hL.evt.size
    have hblk1 := hL.blk
    have hrow1 : Blk w1 go 47 (acCs l) := hrow.evt hL.evt (fun hh => by
      rcases hh with h1 | h1 | h1 | h1
      · exact hgg h1
      · obtain ⟨c, hc⟩ := tB go h1
        exact Blk.ne hrow hc (by decide) rfl
      · obtain ⟨c, hc⟩ := tM go h1
        exact Blk.ne hrow hc (by decide) rfl
      · obtain ⟨_, c, hc⟩ := hbl2 go h1
        exact Blk.ne hrow hc (by decide) rfl)
    have nBg : ¬ (Value.slice VB (B.bods.length + i) dB).ownBlock = some gB := fun hh => by
      obtain ⟨c, hc⟩ := own_typ hL.rB gB hh
      exact Blk.ne hblk1 hc (by decide) rfl
    have nMg : ¬ (Value.slice VM (B.bods.length + i) dM).ownBlock = some gB := fun hh => by
      obtain ⟨c, hc⟩ := own_typ hL.rM gB hh
      exact Blk.ne hblk1 hc (by decide) rfl
    have nBo : ¬ (Value.slice VB (B.bods.length + i) dB).ownBlock = some go := fun hh => by
      obtain ⟨c, hc⟩ := own_typ hL.rB go hh
      exact Blk.ne hrow1 hc (by decide) rfl
    have nMo : ¬ (Value.slice VM (B.bods.length + i) dM).ownBlock = some go := fun hh => by
      obtain ⟨c, hc⟩ := own_typ hL.rM go hh
      exact Blk.ne hrow1 hc (by decide) rfl
    have nBM : ∀ k, (Value.slice VB (B.bods.length + i) dB).ownBlock = some k → ¬ (Value.slice VM (B.bods.length + i) dM).ownBlock = some k := fun k hk hh => by
      obtain ⟨c, hc⟩ := own_typ hL.rB k hk
      obtain ⟨c2, hc2⟩ := own_typ hL.rM k hh
      exact Blk.ne hc hc2 (by decide) rfl
    have nbB : ∀ k, bodOwn l k → ¬ (Value.slice VB (B.bods.length + i) dB).ownBlock = some k := fun k hk hh => by
      obtain ⟨h1, c, hc⟩ := hbl2 k hk
      rcases hL.oB k hh with h2 | h2
      · obtain ⟨c2, hc2⟩ := tB k h2
        exact Blk.ne hc hc2 (by decide) rfl
      · omega
    have nbM : ∀ k, bodOwn l k → ¬ (Value.slice VM (B.bods.length + i) dM).ownBlock = some k := fun k hk hh => by
      obtain ⟨h1, c, hc⟩ := hbl2 k hk
      rcases hL.oM k hh with h2 | h2
      · exact (hbd k hk).2 h2
      · omega
    have nbg : ∀ k, bodOwn l k → ¬ k = gB := fun k hk hh => by
      obtain ⟨h1, c, hc⟩ := hbl2 k hk
      subst hh
      exact Blk.ne hblk hc (by decide) rfl
    have nbo : ∀ k, bodOwn l k → ¬ go = k := fun k hk hh => by
      obtain ⟨h1, c, hc⟩ := hbl2 k hk
      subst hh
      exact Blk.ne hrow hc (by decide) rfl
    have hMl := own_lt hL.rM
    have hBl := own_lt hL.rB
    clear hblk hrow
    by_cases hlt : i < l.length
    · have hV1 := hL.todo i hlt (Nat.le_refl _)
      have hcB : w1.cell? ⟨go, i * 3 + 2, none⟩ = some (bodV l[i]) := by
        rw [hrow1.cell?]
        exact flat_at acC_len l i 2 _ _ (List.getElem?_eq_getElem hlt) rfl
      have hml := hbl _ (List.getElem_mem hlt)
      have hbo : ∀ k, (bodV l[i]).ownBlock = some k → bodOwn l k := fun k hk => bodOwn_of hlt hk
      have hoth : ∀ j, (hj : j < l.length) → j ≠ i → ∀ k, (bodV l[j]).ownBlock = some k → ¬ (bodV l[i]).ownBlock = some k := fun j hj hij => pair_ne ha.bods.dis hj hlt hij
      have htk : (l.take (i + 1)).map slB = (l.take i).map slB ++ [slB l[i]] := by rw [List.take_succ_eq_append_getElem hlt, List.map_append]; rfl
      have hdone := hL.done
      have htodo := hL.todo
      generalize hmi : l[i] = mi at *
      obtain ⟨mid, mtk, mb, mA, mc⟩ := mi
      simp only [bodV, slB] at hcB hV1 hml hbo hoth htk
      repeat' (first | (with_reducible (first | refine' wp_seq ?_ | refine' wp_region_lit ?_ | refine' wpList_nil ?_ | refine' then_normal ?_ | refine' wp_block ?_ | refine' wp_skip ?_)) | ((with_reducible refine' c_condT ?hx ?_); (case hx => rfl)) | ((with_reducible refine' l_step ?_); (first | ((first | (with_reducible refine' g_move ?_) | (with_reducible refine' g_assign ?_) | ((with_reducible refine' g_fieldAddr ?hx ?ho ?_); (case hx => rfl); (case ho => rfl)) | ((with_reducible refine' g_loadB ?hx ?hb ?hc ?_); (case hx => rfl); (case hb => exact bqq); first | (case hc => rfl) | (case hn => simp only [List.length_cons, List.length_nil]; omega)) | ((first | (with_reducible refine' g_addN ?hx ?hy ?h0 ?h1 ?_) | (with_reducible refine' g_mulN ?hx ?hy ?h0 ?h1 ?_)); (case hx => rfl); (case hy => rfl); (case h0 => omega); (case h1 => omega)) | ((with_reducible refine' g_nilCheckP ?hx ?_); (case hx => rfl)) | ((with_reducible refine' g_lenS ?hx ?_); (case hx => rfl)) | ((with_reducible refine' g_convInt ?hx ?_); (case hx => rfl))); (conv => arg 5; simp only [zA, zB, ev, lget, zC, zD, zE, zF, zG, zH, zI, zJ, zK, zL, zM, zN, zO])) | (((with_reducible refine' g_lss ?hx ?hy (fun _ => ?_) (fun _ => ?_)); (case hx => rfl)); (case hy => rfl); all_goals (first | (exfalso; omega) | (conv => arg 5; simp only [zA, zB, ev, lget, zC, zD, zE, zF, zG, zH, zI, zJ, zK, zL, zM, zN, zO]))))))
      refine' s_loop [7, 29, 30, 31, 32, 33, 34, 35, 36, 37, 38, 39, 40, 41, 42, 43, 44, 45, 46] (fun n u w' => ∃ k : Nat, n = mb.length - k ∧ k ≤ mb.length ∧ u 7 = .int .i64 k ∧ (∀ g, (Value.slice mA mb.length mc).ownBlock = some g → ∃ cur, mA = some ⟨g, 0, none⟩ ∧ Blk w' g 5 cur ∧ cur.length = mc ∧ cur.take k = List.replicate k (.int .u8 (mkB (B.bods.length + i)))) ∧ Evt (fun k => (Value.slice mA mb.length mc).ownBlock = some k) w1 w') mb.length ?h1 ?round1
      case h1 =>
        refine ⟨0, rfl, by omega, rfl, fun g hg => ?_, Evt.refl _ _⟩
        rcases own_blk_of hV1 with ⟨h1, h2⟩ | ⟨g', cap, cur, h1, hb, ht, hl, hc, _⟩
        · rw [h1] at hg
          simp [Value.ownBlock] at hg
        · simp only [Value.slice.injEq] at h1
          obtain ⟨rfl, _, rfl⟩ := h1
          simp only [Value.ownBlock, Option.some.injEq] at hg
          subst hg
          exact ⟨cur, rfl, hb, by simpa using hl, by simp⟩
      case round1 =>
        rintro n u2 w2 ⟨k, rfl, hk, h7, hrow2, ev2⟩
        simp only [setW, List.foldl_cons, List.foldl_nil, List.set_cons_succ, List.set_cons_zero]
        simp only [h7]
        have z2 := ev2.size
        have hcB2 := cell_evt ev2 hcB (fun hh => nbo _ (hbo _ hh) rfl)
        by_cases hkl : k < mb.length
        · obtain ⟨gV, hgV⟩ : ∃ g, (Value.slice mA mb.length mc).ownBlock = some g := by
            rcases own_blk_of hV1 with ⟨h1, h2⟩ | ⟨g', cap, cur, h1, _⟩
            · omega
            · exact ⟨g', by rw [h1]; rfl⟩
          obtain ⟨cur, rfl, hb1, hcl, hct⟩ := hrow2 gV hgV
          have hnd := own_cap hV1 (by omega)
          clear hrow2
          repeat' (first | (with_reducible (first | refine' wp_seq ?_ | refine' wp_region_lit ?_ | refine' wpList_nil ?_ | refine' then_normal ?_ | refine' wp_block ?_ | refine' wp_skip ?_ | refine' in_normal ?_)) | ((with_reducible refine' c_condT ?hx ?_); (case hx => rfl)) | ((with_reducible refine' l_step ?_); (first | ((first | (with_reducible refine' g_move ?_) | (with_reducible refine' g_assign ?_) | ((with_reducible refine' g_fieldAddr ?hx ?ho ?_); (case hx => rfl); (case ho => rfl)) | ((with_reducible refine' g_loadC ?hx ?hc ?_); (case hx => rfl); (case hc => exact cqq)) | ((with_reducible refine' g_addN ?hx ?hy ?h0 ?h1 ?_); (case hx => rfl); (case hy => rfl); (case h0 => omega); (case h1 => omega)) | ((with_reducible refine' g_lenS ?hx ?_); (case hx => rfl)) | ((with_reducible refine' g_indexAddr ?hx ?hy ?h0 ?h1 ?_); (case hx => rfl); (case hy => rfl); (case h0 => omega); (case h1 => omega))); (conv => arg 5; simp only [zA, zB, ev, lget, zC, zD, zE, zF, zG, zH, zI, zJ, zK, zL, zM, zN, zO])) | (((with_reducible refine' g_lss ?hx ?hy (fun _ => ?_) (fun _ => ?_)); (case hx => rfl)); (case hy => rfl); all_goals (first | (exfalso; omega) | (conv => arg 5; simp only [zA, zB, ev, lget, zC, zD, zE, zF, zG, zH, zI, zJ, zK, zL, zM, zN, zO]))))) | ((first | ((with_reducible refine' e_storeB ?hx ?hy ?hv ?h1 ?hb ?ho ?_); (case hx => rfl); (case hy => ((try simp only [ev, lget]); (try rfl))); (case hv => rfl); (case h1 => rfl)) | ((with_reducible refine' e_storeR ?hx ?hy ?h1 ?hb ?hn ?ho ?_); (case hx => rfl); (case hy => rfl); (case h1 => simp [Value.oneCell']); (case hn => rfl))); (case hb => exact bqq); (case ho => first | (simp only [List.length_cons, List.length_nil]; omega) | omega | (simp; omega) | simp); (try simp only [splice, zA, zB]); intro _ _ _ _))
          rename_i w3 hb3 e3 z3
          exact ⟨_, _, rfl, (by omega : mb.length - (k + 1) < mb.length - k), by simp only [zA, zB], k + 1, rfl, by omega, rfl, fun g hg => by
            have hgg : gV = g := Option.some.inj (hgV.symm.trans hg)
            subst hgg
            exact ⟨_, rfl, hb3, by rw [List.length_set]; exact hcl, take_set1 hct (by omega)⟩, Evt.next e3 ev2 (fun k _ hk => by have h' : k = gV := hk; rw [h']; exact hgV)⟩
        · obtain rfl : k = mb.length := by omega
          have hV2 : w2.ownsRow 0 5 1 (.slice mA mb.length mc) mb.length (List.replicate mb.length (.int .u8 (mkB (B.bods.length + i)))) := by
            rcases own_blk_of hV1 with ⟨h1, h2⟩ | ⟨g', cap, cur0, h1, _, _, _, hc1, hc2⟩
            · rw [h1, h2]
              exact World.ownsRow_nil _ _ _ _
            · simp only [Value.slice.injEq] at h1
              obtain ⟨rfl, _, rfl⟩ := h1
              obtain ⟨cur, _, hb1, hcl, hct⟩ := hrow2 g' rfl
              exact ⟨by rw [List.length_replicate, Nat.mul_one], .inr ⟨g', mc, cur.toArray, rfl, Nat.zero_le _, hb1, hc1, hc2, by simpa using hcl, by simpa using hct⟩⟩
          have hb2 := hblk1.evt ev2 (fun hh => nbg _ (hbo _ hh) rfl)
          have hB2 := own_evt ev2 hL.rB (fun k hk hh => nbB k (hbo k hh) hk)
          have hM2 := own_evt ev2 hL.rM (fun k hk hh => nbM k (hbo k hh) hk)
          have hTgo : ¬ ((Value.slice VB (B.bods.length + i) dB).ownBlock = some go ∨ go = gB) := fun hh => hh.elim nBo hgg
          clear hblk1 hrow2 hcB
          repeat' (first | ((with_reducible refine' w_tree (id := 9) (fun k => (Value.slice VB (B.bods.length + i) dB).ownBlock = some k ∨ k = gB) (.pure 0 (.pure 1 (.pure 2 (.pure 3 (.pure 5 (.pure 6 (.pure 7 (.pure 8 (.pure 9 (.two 4 (.one 10 (.one 11 (.pure 12 (.pure 13 (.one 14 .done))))) 10 (.one 4 (.one 11 (.pure 12 (.pure 13 (.one 14 .done))))))))))))))) [47, 48, 49, 50, 51, 52, 53, 54, 55, 56, 57, 58, 59, 60] (fun u w' => ∃ VE dE, Blk w' gB 73 [vI, vL, .slice AA B.lists.length cA, .slice VE (B.bods.length + i + 1) dE, .slice VM (B.bods.length + i) dM] ∧ w'.ownsRow 0 22 1 (.slice VE (B.bods.length + i + 1) dE) (B.bods.length + i + 1) ((B.bods ++ (l.take i).map slB).map slV ++ [.slice mA mb.length mc]) ∧ (∀ k, (Value.slice VE (B.bods.length + i + 1) dE).ownBlock = some k → (Value.slice VB (B.bods.length + i) dB).ownBlock = some k ∨ w2.heap.size ≤ k)) ?hm ?hn ?hl ?hB ?ta9 ?tb9); (case hm => kernel_rfl); (case hn => kernel_rfl); (case hl => kernel_rfl); (case hB => kernel_rfl); intro _ _ _) | ((with_reducible refine' tt_pure ?hi ?hv ?_); (case hi => rfl); (case hv => intro _ hqS; have hqz := hqS.size; ((first | (with_reducible refine' g_move ?_) | ((with_reducible refine' g_fieldAddr ?hx ?ho ?_); (case hx => rfl); (case ho => rfl)) | ((with_reducible refine' g_loadC ?hx ?hc ?_); (case hx => rfl); (case hc => exact cqq)) | ((with_reducible refine' g_nilCheckP ?hx ?_); (case hx => rfl)) | ((with_reducible refine' g_indexAddr ?hx ?hy ?h0 ?h1 ?_); (case hx => rfl); (case hy => rfl); (case h0 => omega); (case h1 => omega))); exact rfl)); (conv => arg 6; simp only [zA, zB, ev, lget, zC, zD, zE, zF, zG, zH, zI, zJ, zK, zL, zM, zN, zO, fillL, splice, List.getD_cons_zero, List.getD_cons_succ, Value.cells])) | ((with_reducible refine' tt_one ?hi ?_); (case hi => rfl)) | ((with_reducible refine' tt_two ?hi ?hj ?_ ?_); (case hi => rfl); (case hj => rfl)) | ((with_reducible refine' tt_done ?hS ?_); (case hS => exact eqq)) | (with_reducible refine' tt_nil ?_) | (((with_reducible refine' e_append ?hx ?hy ?hzs ?hsz ?hown ?hl ?hnews ?h1 ?hb ?hm ?_); (case hx => ((try simp only [ev, lget]); (try rfl))); (case hy => rfl); (case hzs => rfl); (case hsz => decide); (case hown => exact oqq); (case hnews => refine' blk_src ?hbb; (case hbb => exact bqq)); (case hl => rfl); (case h1 => simp [Value.oneCell']); (case hb => omega); (case hm => omega); intro vA wA hoA heA hnA haA hzA; (conv => arg 5; simp only [zA, zB, ev, lget, zC, zD, zE, zF, zG, zH, zI, zJ, zK, zL, zM, zN, zO])); have hlA := own_lt hoA; obtain ⟨VA, dA, hVA⟩ := own_slice hoA; subst hVA) | (with_reducible (first | refine' wp_seq ?_ | refine' wp_region_lit ?_ | refine' wpList_nil ?_ | refine' then_normal ?_ | refine' wp_exit ?_ | refine' then_exit ?_ | refine' in_exit ?_)) | ((with_reducible refine' c_condF ?hx ?_); (case hx => rfl)) | ((with_reducible refine' l_step ?_); (first | ((first | (with_reducible refine' g_move ?_) | ((with_reducible refine' g_fieldAddr ?hx ?ho ?_); (case hx => rfl); (case ho => rfl)) | ((with_reducible refine' g_loadB ?hx ?hb ?hc ?_); (case hx => rfl); (case hb => exact bqq); first | (case hc => rfl) | (case hn => simp only [List.length_cons, List.length_nil]; omega)) | ((with_reducible refine' g_loadC ?hx ?hc ?_); (case hx => rfl); (case hc => exact cqq)) | ((with_reducible refine' g_lenS ?hx ?_); (case hx => rfl)) | ((with_reducible refine' g_indexAddr ?hx ?hy ?h0 ?h1 ?_); (case hx => rfl); (case hy => rfl); (case h0 => omega); (case h1 => omega))); (conv => arg 5; simp only [zA, zB, ev, lget, zC, zD, zE, zF, zG, zH, zI, zJ, zK, zL, zM, zN, zO])) | (((with_reducible refine' g_lss ?hx ?hy (fun _ => ?_) (fun _ => ?_)); (case hx => rfl)); (case hy => rfl); all_goals (first | (exfalso; omega) | (conv => arg 5; simp only [zA, zB, ev, lget, zC, zD, zE, zF, zG, zH, zI, zJ, zK, zL, zM, zN, zO]))))) | (((with_reducible refine' e_sliceLit ?hx ?hi ?hv ?hn ?_); (case hx => simp only [zC, zD, ev, lget]; (try rfl)); (case hi => rfl); (case hv => simp [Value.cells]); (case hn => decide); simp only [List.flatMap_cons, List.flatMap_nil, Value.cells, List.cons_append, List.nil_append]); intro _ _ _ _ _ _ _; (conv => arg 5; simp only [zA, zB, ev, lget, zC, zD, zE, zF, zG, zH, zI, zJ, zK, zL, zM, zN, zO])) | ((first | ((with_reducible refine' e_storeB ?hx ?hy ?hv ?h1 ?hb ?ho ?_); (case hx => rfl); (case hy => ((try simp only [ev, lget]); (try rfl))); (case hv => rfl); (case h1 => rfl)) | ((with_reducible refine' e_storeR ?hx ?hy ?h1 ?hb ?hn ?ho ?_); (case hx => rfl); (case hy => rfl); (case h1 => simp [Value.oneCell']); (case hn => rfl))); (case hb => exact bqq); (case ho => first | (simp only [List.length_cons, List.length_nil]; omega) | omega | (simp; omega) | simp); (try simp only [splice, zA, zB]); intro _ _ _ _))
          all_goals try (
            rename_i wd k1 k2 g1 w3 k3 k4 k5 ev3 k6 w9 hb9 e9 z9
            have oE := own_or (B := w2.heap.size) haA (by omega)
            have hgl2 := hb2.lt
            have nE : ∀ k, (Value.slice VA (B.bods.length + i + 1) dA).ownBlock = some k → ¬ k = gB := fun k hk hh => by
              rcases oE k hk with h1 | h1
              · exact nBg (by rw [← hh]; exact h1)
              · omega
            exact ⟨_, rfl, by simp only [setW, List.foldl_cons, List.foldl_nil, List.set_cons_succ, List.set_cons_zero], VA, dA, hb9, own_evt e9 hoA nE, oE⟩)
          rintro u9 w9 ev9 z9 ⟨VE, dE, hb9, hoE, oE⟩
          have hM9 := own_evt ev9 hM2 (fun k hk hh => by
            rcases hh with h1 | h1
            · exact nBM k h1 hk
            · exact nMg (by rw [← h1]; exact hk))
          clear hb2 hcB2 hM2
          simp only [setW, List.foldl_cons, List.foldl_nil, List.set_cons_succ, List.set_cons_zero]
          repeat' (first | (((with_reducible refine' e_append ?hx ?hy ?hzs ?hsz ?hown ?hl ?hnews ?h1 ?hb ?hm ?_); (case hx => ((try simp only [ev, lget]); (try rfl))); (case hy => rfl); (case hzs => rfl); (case hsz => decide); (case hown => exact oqq); (case hnews => refine' blk_src ?hbb; (case hbb => exact bqq)); (case hl => rfl); (case h1 => simp [Value.oneCell']); (case hb => omega); (case hm => omega); intro vA wA hoA heA hnA haA hzA; (conv => arg 5; simp only [zA, zB, ev, lget, zC, zD, zE, zF, zG, zH, zI, zJ, zK, zL, zM, zN, zO])); have hlA := own_lt hoA; obtain ⟨VA, dA, hVA⟩ := own_slice hoA; subst hVA) | (with_reducible (first | refine' wp_region_lit ?_ | refine' wpList_nil ?_ | refine' then_normal ?_ | refine' in_normal ?_)) | ((with_reducible refine' l_step ?_); ((first | (with_reducible refine' g_move ?_) | (with_reducible refine' g_assign ?_) | ((with_reducible refine' g_fieldAddr ?hx ?ho ?_); (case hx => rfl); (case ho => rfl)) | ((with_reducible refine' g_loadB ?hx ?hb ?hc ?_); (case hx => rfl); (case hb => exact bqq); first | (case hc => rfl) | (case hn => simp only [List.length_cons, List.length_nil]; omega)) | ((with_reducible refine' g_addN ?hx ?hy ?h0 ?h1 ?_); (case hx => rfl); (case hy => rfl); (case h0 => omega); (case h1 => omega)) | ((with_reducible refine' g_nilCheckP ?hx ?_); (case hx => rfl))); (conv => arg 5; simp only [zA, zB, ev, lget, zC, zD, zE, zF, zG, zH, zI, zJ, zK, zL, zM, zN, zO]))) | (((with_reducible refine' e_sliceLit ?hx ?hi ?hv ?hn ?_); (case hx => simp only [zC, zD, ev, lget]; (try rfl)); (case hi => rfl); (case hv => simp [Value.cells]); (case hn => decide); simp only [List.flatMap_cons, List.flatMap_nil, Value.cells, List.cons_append, List.nil_append]); intro _ _ _ _ _ _ _; (conv => arg 5; simp only [zA, zB, ev, lget, zC, zD, zE, zF, zG, zH, zI, zJ, zK, zL, zM, zN, zO])) | ((first | ((with_reducible refine' e_storeB ?hx ?hy ?hv ?h1 ?hb ?ho ?_); (case hx => rfl); (case hy => ((try simp only [ev, lget]); (try rfl))); (case hv => rfl); (case h1 => rfl)) | ((with_reducible refine' e_storeR ?hx ?hy ?h1 ?hb ?hn ?ho ?_); (case hx => rfl); (case hy => rfl); (case h1 => simp [Value.oneCell']); (case hn => rfl))); (case hb => exact bqq); (case ho => first | (simp only [List.length_cons, List.length_nil]; omega) | omega | (simp; omega) | simp); (try simp only [splice, zA, zB]); intro _ _ _ _))
          rename_i wd g1 w3 k3 k4 k5 ev3 k6 w10 hb10 e10 z10
          have hgl9 := hb9.lt
          have nE : ∀ k, (Value.slice VE (B.bods.length + i + 1) dE).ownBlock = some k → ¬ k = gB := fun k hk hh => by
            obtain ⟨c, hc⟩ := own_typ hoE k hk
            subst hh
            exact Blk.ne hb9 hc (by decide) rfl
          have oA := own_or (B := w2.heap.size) haA (by omega)
          have nA : ∀ k, (Value.slice VA (B.bods.length + i + 1) dA).ownBlock = some k → ¬ k = gB := fun k hk hh => by
            rcases own_or (B := w9.heap.size) haA (by omega) k hk with h1 | h1
            · exact nMg (by rw [← hh]; exact h1)
            · omega
          have eT : Evt (fun k => k = gB ∨ (Value.slice VB (B.bods.length + i) dB).ownBlock = some k ∨ (Value.slice VM (B.bods.length + i) dM).ownBlock = some k) w2 w10 := Evt.next e10 (Evt.next heA (Evt.next ev3 (ev9.mono fun k _ hk => by
            rcases hk with h1 | h1
            · exact .inr (.inl h1)
            · exact .inl h1) (fun _ _ h => h.elim)) (fun _ _ h => .inr (.inr h))) (fun _ _ h => .inl h)
          have nT : ∀ k, bodOwn l k → ¬ (k = gB ∨ (Value.slice VB (B.bods.length + i) dB).ownBlock = some k ∨ (Value.slice VM (B.bods.length + i) dM).ownBlock = some k) := fun k hk hh => by
            rcases hh with h1 | h1 | h1
            · exact nbg k hk h1
            · exact nbB k hk h1
            · exact nbM k hk h1
          refine ⟨_, _, rfl, (by omega : l.length - (i + 1) < l.length - i), by simp only [zA, zB], i + 1, VE, VA, dE, dA, rfl, by omega, rfl, {
            blk := hb10
            rB := ?q1
            rM := ?q2
            oB := fun k hk => ?q3
            oM := fun k hk => ?q4
            done := fun j hj hji => ?q5
            todo := fun j hj hji => own_evt eT (own_evt ev2 (htodo j hj (by omega)) (fun k hk => hoth j hj (by omega) k hk)) (fun k hk => nT k (bodOwn_of hj hk))
            evt := ?q6 }⟩
          case q1 =>
            rw [htk, ← List.append_assoc, List.map_append]
            exact own_evt e10 (own_evt heA (own_evt ev3 hoE (fun _ _ h => h)) (fun k hk hh => by
              obtain ⟨c, hc⟩ := own_typ hoE k hk
              obtain ⟨c2, hc2⟩ := own_typ hM9 k hh
              exact Blk.ne hc hc2 (by decide) rfl)) nE
          case q2 =>
            rw [mks_succ, ← List.append_assoc, u8s_snoc]
            exact own_evt e10 hoA nA
          case q3 =>
            rcases oE k hk with h1 | h1
            · exact hL.oB k h1
            · exact .inr (by omega)
          case q4 =>
            rcases oA k hk with h1 | h1
            · exact hL.oM k h1
            · exact .inr (by omega)
          case q5 =>
            by_cases hj1 : j = i
            · subst hj1
              rw [hmi]
              exact own_evt eT hV2 (fun k hk => nT k (hbo k hk))
            · exact own_evt eT (own_evt ev2 (hdone j hj (by omega)) (fun k hk => hoth j hj hj1 k hk)) (fun k hk => nT k (bodOwn_of hj hk))
          case q6 =>
            refine Evt.next eT (Evt.next ev2 hL.evt (fun k _ hk => .inr (.inr (.inr (hbo k hk))))) (fun k hk0 hk => ?_)
            rcases hk with h1 | h1 | h1
            · exact .inl h1
            · rcases hL.oB k h1 with h2 | h2
              · exact .inr (.inl h2)
              · omega
            · rcases hL.oM k h1 with h2 | h2
              · exact .inr (.inr (.inl h2))
              · omega
    · obtain rfl : i = l.length := by omega
      have hB1 := hL.rB
      have hM1 := hL.rM
      rw [List.take_length] at hB1
      clear hblk1
      repeat' (first | (with_reducible (first | refine' wp_seq ?_ | refine' wp_region_lit ?_ | refine' wpList_nil ?_ | refine' then_normal ?_ | refine' wp_block ?_ | refine' wp_exit ?_ | refine' then_exit ?_ | refine' in_exit ?_)) | ((with_reducible refine' c_condF ?hx ?_); (case hx => rfl)) | ((with_reducible refine' l_step ?_); (first | ((first | (with_reducible refine' g_move ?_) | (with_reducible refine' g_assign ?_) | ((with_reducible refine' g_lenS ?hx ?_); (case hx => rfl))); (conv => arg 5; simp only [zA, zB, ev, lget, zC, zD, zE, zF, zG, zH, zI, zJ, zK, zL, zM, zN, zO])) | (((with_reducible refine' g_lss ?hx ?hy (fun _ => ?_) (fun _ => ?_)); (case hx => rfl)); (case hy => rfl); all_goals (first | (exfalso; omega) | (conv => arg 5; simp only [zA, zB, ev, lget, zC, zD, zE, zF, zG, zH, zI, zJ, zK, zL, zM, zN, zO]))))))
      refine' s_loop [8, 9, 71, 72, 73, 74, 75, 76, 77, 78, 79, 80, 81, 82, 83, 84, 85, 86, 87, 88, 89, 90, 91, 92, 93, 94, 95, 96, 97, 98, 99, 100, 101, 102, 103, 104, 105, 106, 107, 108, 109, 110, 111, 112, 113, 114, 115, 116, 117, 118, 119, 120, 121, 122, 123, 124, 125, 126, 127] (fun n u w' => ∃ (i : Nat) (ln : List Sl) (E : Nat → Prop) (VB VM : Option Addr) (dB dM : Nat), n = l.length - i ∧ i ≤ l.length ∧ u 8 = .int .i64 i ∧ BL2 w w' gB B vI vL (.slice AA B.lists.length cA) (.slice AB B.bods.length cB) (.slice AM B.marks.length cM) l go i ln E VB dB VM dM) l.length ?h2 ?round2
      case h2 =>
        refine ⟨0, [], fun _ => False, VB, VM, dB, dM, rfl, by omega, rfl, {
          blk := hL.blk
          rB := by rw [List.append_nil]; exact hB1
          rM := by rw [show mks B.bods.length 0 = [] from rfl, List.append_nil]; exact hM1
          oB := hL.oB
          oM := hL.oM
          lnl := rfl
          cur := fun j hj _ => hL.done j hj hj
          rg := fun j hj => RG.own (hL.done j hj hj) (fun k hk => hk)
          lng := fun j s hj hs => by simp at hs
          E1 := fun k hk => hk.elim
          E2 := fun k _ hk => hk
          E3 := fun k _ hk => hk
          row := hrow1
          evt := hL.evt.mono fun k _ hk => by
            rcases hk with h1 | h1
            · exact .inl h1
            · exact .inr (.inr h1) }⟩
      case round2 =>
        rintro n u2 w2 ⟨i, ln, E, VB2, VM2, dB2, dM2, rfl, hi2, h8, hK⟩
        simp only [setW, List.foldl_cons, List.foldl_nil, List.set_cons_succ, List.set_cons_zero]
        simp only [h8]
        have z2 := hK.evt.size
        have hblk2 := hK.blk
        have hrow2 := hK.row
        have nBg : ¬ (Value.slice VB2 (B.bods.length + l.length + i) dB2).ownBlock = some gB := fun hh => by
          obtain ⟨c, hc⟩ := own_typ hK.rB gB hh
          exact Blk.ne hblk2 hc (by decide) rfl
        have nMg : ¬ (Value.slice VM2 (B.bods.length + l.length + i) dM2).ownBlock = some gB := fun hh => by
          obtain ⟨c, hc⟩ := own_typ hK.rM gB hh
          exact Blk.ne hblk2 hc (by decide) rfl
        have nBo : ¬ (Value.slice VB2 (B.bods.length + l.length + i) dB2).ownBlock = some go := fun hh => by
          obtain ⟨c, hc⟩ := own_typ hK.rB go hh
          exact Blk.ne hrow2 hc (by decide) rfl
        have nMo : ¬ (Value.slice VM2 (B.bods.length + l.length + i) dM2).ownBlock = some go := fun hh => by
          obtain ⟨c, hc⟩ := own_typ hK.rM go hh
          exact Blk.ne hrow2 hc (by decide) rfl
        have nBM : ∀ k, (Value.slice VB2 (B.bods.length + l.length + i) dB2).ownBlock = some k → ¬ (Value.slice VM2 (B.bods.length + l.length + i) dM2).ownBlock = some k := fun k hk hh => by
          obtain ⟨c, hc⟩ := own_typ hK.rB k hk
          obtain ⟨c2, hc2⟩ := own_typ hK.rM k hh
          exact Blk.ne hc hc2 (by decide) rfl
        have nbB : ∀ k, bodOwn l k → ¬ (Value.slice VB2 (B.bods.length + l.length + i) dB2).ownBlock = some k := fun k hk hh => by
          obtain ⟨h1, c, hc⟩ := hbl2 k hk
          rcases hK.oB k hh with h2 | h2
          · obtain ⟨c2, hc2⟩ := tB k h2
            exact Blk.ne hc hc2 (by decide) rfl
          · omega
        have nbM : ∀ k, bodOwn l k → ¬ (Value.slice VM2 (B.bods.length + l.length + i) dM2).ownBlock = some k := fun k hk hh => by
          obtain ⟨h1, c, hc⟩ := hbl2 k hk
          rcases hK.oM k hh with h2 | h2
          · exact (hbd k hk).2 h2
          · omega
        have hMl := own_lt hK.rM
        have hBl := own_lt hK.rB
        by_cases hlt : i < l.length
        · have hV2 := hK.cur i hlt (Nat.le_refl _)
          have hcB : w2.cell? ⟨go, i * 3 + 2, none⟩ = some (bodV l[i]) := by rw [hrow2.cell?]; exact row_get _ hlt
          have hcl := row_len (l := l) (-7 - (B.lists.length : Int)) hi2
          have hcs := row_set (l := l) (-7 - (B.lists.length : Int)) hlt
          have hml := hbl _ (List.getElem_mem hlt)
          have hbo : ∀ k, (bodV l[i]).ownBlock = some k → bodOwn l k := fun k hk => bodOwn_of hlt hk
          have hoth : ∀ j, (hj : j < l.length) → j ≠ i → ∀ k, (bodV l[j]).ownBlock = some k → ¬ (bodV l[i]).ownBlock = some k := fun j hj hij => pair_ne ha.bods.dis hj hlt hij
          generalize (List.replicate i (-7 - (B.lists.length : Int))).flatMap blankC ++ acCs (l.drop i) = cs at *
          have hB2 := hK.rB
          have hM2 := hK.rM
          generalize hmi : l[i] = mi at *
          obtain ⟨mid, mtk, mb, mA, mc⟩ := mi
          simp only [bodV] at hcB hV2 hml hbo hoth
          repeat' (first | (with_reducible refine' stop_reg (id := 15) ?_) | ((with_reducible refine' e_appZ (v := .slice mA mb.length mc) (n := mb.length) (m := 64) (xs := List.replicate mb.length (.int .u8 (mkB (B.bods.length + i)))) ?hx ?hy ?hzs ?hz1 ?hown ?hm0 ?hb ?hm ?_); (case hx => rfl); (case hy => rfl); (case hzs => rfl); (case hz1 => rfl); (case hown => exact oqq); (case hm0 => decide); (case hb => omega); (case hm => omega); intro vC wC hoC heC haC hzC; obtain ⟨VC, dC, hVC⟩ := own_slice hoC; subst hVC; (conv => arg 5; simp only [zA, zB, ev, lget, zC, zD, zE, zF, zG, zH, zI, zJ, zK, zL, zM, zN, zO])) | (with_reducible (first | refine' wp_seq ?_ | refine' wp_region_lit ?_ | refine' wpList_nil ?_ | refine' then_normal ?_ | refine' wp_block ?_ | refine' wp_skip ?_)) | ((with_reducible refine' c_condT ?hx ?_); (case hx => rfl)) | ((with_reducible refine' l_step ?_); (first | ((first | (with_reducible refine' g_move ?_) | (with_reducible refine' g_assign ?_) | ((with_reducible refine' g_fieldAddr ?hx ?ho ?_); (case hx => rfl); (case ho => rfl)) | ((with_reducible refine' g_loadC ?hx ?hc ?_); (case hx => rfl); (case hc => exact cqq)) | ((with_reducible refine' g_lenS ?hx ?_); (case hx => rfl)) | ((with_reducible refine' g_indexAddr ?hx ?hy ?h0 ?h1 ?_); (case hx => rfl); (case hy => rfl); (case h0 => omega); (case h1 => omega))); (conv => arg 5; simp only [zA, zB, ev, lget, zC, zD, zE, zF, zG, zH, zI, zJ, zK, zL, zM, zN, zO])) | (((with_reducible refine' g_lss ?hx ?hy (fun _ => ?_) (fun _ => ?_)); (case hx => rfl)); (case hy => rfl); all_goals (first | (exfalso; omega) | (conv => arg 5; simp only [zA, zB, ev, lget, zC, zD, zE, zF, zG, zH, zI, zJ, zK, zL, zM, zN, zO]))))))
          refine stop_go ?_
          have nVg : ¬ (Value.slice mA mb.length mc).ownBlock = some gB := fun hh => nbg _ (hbo _ hh) rfl
          have nVo : ¬ (Value.slice mA mb.length mc).ownBlock = some go := fun hh => nbo _ (hbo _ hh) rfl
          have hbC := hblk2.evt heC nVg
          have hBC := own_evt heC hB2 (fun k hk hh => nbB k (hbo k hh) hk)
          have hMC := own_evt heC hM2 (fun k hk hh => nbM k (hbo k hh) hk)
          have hrC := hrow2.evt heC nVo
          have hcC := cell_evt heC hcB (fun hh => nVo hh)
          have hcap := own_cap hoC (by decide)
          have hlC := own_lt hoC
          have hlV := own_lt hV2
          have hTgo : ¬ ((Value.slice VB2 (B.bods.length + l.length + i) dB2).ownBlock = some go ∨ go = gB) := fun hh => hh.elim nBo hgg
          clear hblk2 hrow2 hcB hB2 hM2
          repeat' (first | ((with_reducible refine' w_tree (id := 15) (fun k => (Value.slice VB2 (B.bods.length + l.length + i) dB2).ownBlock = some k ∨ k = gB) (.pure 0 (.pure 1 (.pure 2 (.pure 3 (.pure 5 (.pure 6 (.pure 7 (.pure 8 (.pure 9 (.pure 10 (.pure 11 (.pure 12 (.two 4 (.one 13 (.one 14 (.pure 15 (.pure 16 (.one 17 .done))))) 13 (.one 4 (.one 14 (.pure 15 (.pure 16 (.one 17 .done)))))))))))))))))) [83, 84, 85, 86, 87, 88, 89, 90, 91, 92, 93, 94, 95, 96, 97, 98, 99] (fun u w' => ∃ VE dE, Blk w' gB 73 [vI, vL, .slice AA B.lists.length cA, .slice VE (B.bods.length + l.length + i + 1) dE, .slice VM2 (B.bods.length + l.length + i) dM2] ∧ w'.ownsRow 0 22 1 (.slice VE (B.bods.length + l.length + i + 1) dE) (B.bods.length + l.length + i + 1) ((B.bods ++ l.map slB ++ ln).map slV ++ [.slice VC mb.length dC]) ∧ (∀ k, (Value.slice VE (B.bods.length + l.length + i + 1) dE).ownBlock = some k → (Value.slice VB2 (B.bods.length + l.length + i) dB2).ownBlock = some k ∨ wC.heap.size ≤ k)) ?hm ?hn ?hl ?hB ?ta15 ?tb15); (case hm => kernel_rfl); (case hn => kernel_rfl); (case hl => kernel_rfl); (case hB => kernel_rfl); intro _ _ _) | ((with_reducible refine' tt_pure ?hi ?hv ?_); (case hi => rfl); (case hv => intro _ hqS; have hqz := hqS.size; ((first | (with_reducible refine' g_move ?_) | ((with_reducible refine' g_fieldAddr ?hx ?ho ?_); (case hx => rfl); (case ho => rfl)) | ((with_reducible refine' g_loadC ?hx ?hc ?_); (case hx => rfl); (case hc => exact cqq)) | ((with_reducible refine' g_nilCheckP ?hx ?_); (case hx => rfl)) | ((with_reducible refine' g_lenS ?hx ?_); (case hx => rfl)) | ((first | (with_reducible refine' g_indexAddr ?hx ?hy ?h0 ?h1 ?_) | (with_reducible refine' g_sliceH ?hx ?hy ?h0 ?h1 ?_)); (case hx => rfl); (case hy => rfl); (case h0 => omega); (case h1 => omega))); exact rfl)); (conv => arg 6; simp only [zA, zB, ev, lget, zC, zD, zE, zF, zG, zH, zI, zJ, zK, zL, zM, zN, zO, fillL, splice, List.getD_cons_zero, List.getD_cons_succ, Value.cells])) | ((with_reducible refine' tt_one ?hi ?_); (case hi => rfl)) | ((with_reducible refine' tt_two ?hi ?hj ?_ ?_); (case hi => rfl); (case hj => rfl)) | ((with_reducible refine' tt_done ?hS ?_); (case hS => exact eqq)) | (with_reducible refine' tt_nil ?_) | (((with_reducible refine' e_append ?hx ?hy ?hzs ?hsz ?hown ?hl ?hnews ?h1 ?hb ?hm ?_); (case hx => ((try simp only [ev, lget]); (try rfl))); (case hy => rfl); (case hzs => rfl); (case hsz => decide); (case hown => exact oqq); (case hnews => refine' blk_src ?hbb; (case hbb => exact bqq)); (case hl => rfl); (case h1 => simp [Value.oneCell']); (case hb => omega); (case hm => omega); intro vA wA hoA heA hnA haA hzA; (conv => arg 5; simp only [zA, zB, ev, lget, zC, zD, zE, zF, zG, zH, zI, zJ, zK, zL, zM, zN, zO])); have hlA := own_lt hoA; obtain ⟨VA, dA, hVA⟩ := own_slice hoA; subst hVA) | (with_reducible refine' wpList_nil ?_) | ((with_reducible refine' l_step ?_); (((with_reducible refine' g_loadB ?hx ?hb ?hc ?_); (case hx => rfl); (case hb => exact bqq); first | (case hc => rfl) | (case hn => simp only [List.length_cons, List.length_nil]; omega)); (conv => arg 5; simp only [zA, zB, ev, lget, zC, zD, zE, zF, zG, zH, zI, zJ, zK, zL, zM, zN, zO]))) | (((with_reducible refine' e_sliceLit ?hx ?hi ?hv ?hn ?_); (case hx => simp only [zC, zD, ev, lget]; (try rfl)); (case hi => rfl); (case hv => simp [Value.cells]); (case hn => decide); simp only [List.flatMap_cons, List.flatMap_nil, Value.cells, List.cons_append, List.nil_append]); intro _ _ _ _ _ _ _; (conv => arg 5; simp only [zA, zB, ev, lget, zC, zD, zE, zF, zG, zH, zI, zJ, zK, zL, zM, zN, zO])) | ((first | ((with_reducible refine' e_storeB ?hx ?hy ?hv ?h1 ?hb ?ho ?_); (case hx => rfl); (case hy => ((try simp only [ev, lget]); (try rfl))); (case hv => rfl); (case h1 => rfl)) | ((with_reducible refine' e_storeR ?hx ?hy ?h1 ?hb ?hn ?ho ?_); (case hx => rfl); (case hy => rfl); (case h1 => simp [Value.oneCell']); (case hn => rfl))); (case hb => exact bqq); (case ho => first | (simp only [List.length_cons, List.length_nil]; omega) | omega | (simp; omega) | simp); (try simp only [splice, zA, zB]); intro _ _ _ _))
          all_goals try (
            rename_i wd k1 k2 g1 w3 k3 k4 k5 ev3 k6 w9 hb9 e9 z9
            have oE := own_or (B := wC.heap.size) haA (by omega)
            have hglC := hbC.lt
            have nE : ∀ k, (Value.slice VA (B.bods.length + l.length + i + 1) dA).ownBlock = some k → ¬ k = gB := fun k hk hh => by
              rcases oE k hk with h1 | h1
              · exact nBg (by rw [← hh]; exact h1)
              · omega
            exact ⟨_, rfl, by simp only [setW, List.foldl_cons, List.foldl_nil, List.set_cons_succ, List.set_cons_zero], VA, dA, hb9, own_evt e9 hoA nE, oE⟩)
          rintro u9 w9 ev9 z9 ⟨VE, dE, hb9, hoE, oE⟩
          have hM9 := own_evt ev9 hMC (fun k hk hh => by
            rcases hh with h1 | h1
            · exact nBM k h1 hk
            · exact nMg (by rw [← h1]; exact hk))
          have hr9 := hrC.evt ev9 hTgo
          have nE : ∀ k, (Value.slice VE (B.bods.length + l.length + i + 1) dE).ownBlock = some k → ¬ k = gB := fun k hk hh => by
            obtain ⟨c, hc⟩ := own_typ hoE k hk
            subst hh
            exact Blk.ne hb9 hc (by decide) rfl
          clear hbC hcC hMC hrC
          obtain ⟨bM, capM, hvM, hobM, hbMl, hcellM⟩ := own_form hM9 (show B.bods.length + i < B.bods.length + l.length + i by omega)
          have hcM := hcellM (B.bods.length + i) _ (mk_get hlM hlt)
          rw [Nat.zero_add] at hcM
          have hcM9 : w9.cell? ⟨bM, ((B.bods.length : Int) + (i : Int)).toNat, none⟩ = some (.int .u8 (mkB (B.bods.length + i))) := by
            rw [show ((B.bods.length : Int) + (i : Int)).toNat = B.bods.length + i by omega]
            exact hcM
          simp only [Value.slice.injEq] at hvM
          obtain ⟨rfl, _, rfl⟩ := hvM
          clear hcellM hcM
          simp only [setW, List.foldl_cons, List.foldl_nil, List.set_cons_succ, List.set_cons_zero]
          repeat' (first | ((with_reducible refine' w_tree (id := 16) (fun k => (Value.slice (some ⟨bM, 0, none⟩) (B.bods.length + l.length + i) dM2).ownBlock = some k ∨ k = gB) (.pure 0 (.pure 1 (.pure 2 (.pure 3 (.pure 5 (.pure 6 (.pure 7 (.pure 9 (.pure 10 (.pure 11 (.two 4 (.one 8 (.pure 12 (.one 13 (.one 14 (.one 15 (.pure 16 (.pure 17 (.one 18 .done)))))))) 8 (.pure 12 (.two 4 (.one 13 (.one 14 (.one 15 (.pure 16 (.pure 17 (.one 18 .done)))))) 13 (.two 4 (.one 14 (.one 15 (.pure 16 (.pure 17 (.one 18 .done))))) 14 (.one 4 (.one 15 (.pure 16 (.pure 17 (.one 18 .done))))))))))))))))))) [100, 101, 102, 103, 104, 105, 106, 107, 108, 109, 110, 111, 112, 113, 114, 115, 116, 117] (fun u w' => ∃ VF dF, Blk w' gB 73 [vI, vL, .slice AA B.lists.length cA, .slice VE (B.bods.length + l.length + i + 1) dE, .slice VF (B.bods.length + l.length + i + 1) dF] ∧ w'.ownsRow 0 5 1 (.slice VF (B.bods.length + l.length + i + 1) dF) (B.bods.length + l.length + i + 1) (u8s (B.marks ++ mks B.bods.length l.length ++ mks B.bods.length i) ++ [.int .u8 (mkB (B.bods.length + i))]) ∧ (∀ k, (Value.slice VF (B.bods.length + l.length + i + 1) dF).ownBlock = some k → (Value.slice (some ⟨bM, 0, none⟩) (B.bods.length + l.length + i) dM2).ownBlock = some k ∨ w9.heap.size ≤ k)) ?hm ?hn ?hl ?hB ?ta16 ?tb16); (case hm => kernel_rfl); (case hn => kernel_rfl); (case hl => kernel_rfl); (case hB => kernel_rfl); intro _ _ _) | ((with_reducible refine' tt_pure ?hi ?hv ?_); (case hi => rfl); (case hv => intro _ hqS; have hqz := hqS.size; ((first | (with_reducible refine' g_move ?_) | ((with_reducible refine' g_fieldAddr ?hx ?ho ?_); (case hx => rfl); (case ho => rfl)) | ((with_reducible refine' g_addN ?hx ?hy ?h0 ?h1 ?_); (case hx => rfl); (case hy => rfl); (case h0 => omega); (case h1 => omega)) | ((with_reducible refine' g_nilCheckP ?hx ?_); (case hx => rfl)) | ((with_reducible refine' g_indexAddr ?hx ?hy ?h0 ?h1 ?_); (case hx => rfl); (case hy => rfl); (case h0 => omega); (case h1 => omega))); exact rfl)); (conv => arg 6; simp only [zA, zB, ev, lget, zC, zD, zE, zF, zG, zH, zI, zJ, zK, zL, zM, zN, zO, fillL, splice, List.getD_cons_zero, List.getD_cons_succ, Value.cells])) | ((with_reducible refine' tt_one ?hi ?_); (case hi => rfl)) | ((with_reducible refine' tt_two ?hi ?hj ?_ ?_); (case hi => rfl); (case hj => rfl)) | ((with_reducible refine' tt_done ?hS ?_); (case hS => exact eqq)) | (with_reducible refine' tt_nil ?_) | (((with_reducible refine' e_append ?hx ?hy ?hzs ?hsz ?hown ?hl ?hnews ?h1 ?hb ?hm ?_); (case hx => ((try simp only [ev, lget]); (try rfl))); (case hy => rfl); (case hzs => rfl); (case hsz => decide); (case hown => exact oqq); (case hnews => refine' blk_src ?hbb; (case hbb => exact bqq)); (case hl => rfl); (case h1 => simp [Value.oneCell']); (case hb => omega); (case hm => omega); intro vA wA hoA heA hnA haA hzA; (conv => arg 5; simp only [zA, zB, ev, lget, zC, zD, zE, zF, zG, zH, zI, zJ, zK, zL, zM, zN, zO])); have hlA := own_lt hoA; obtain ⟨VA, dA, hVA⟩ := own_slice hoA; subst hVA) | (with_reducible (first | refine' wp_seq ?_ | refine' wpList_nil ?_ | refine' then_normal ?_)) | ((with_reducible refine' l_step ?_); ((first | ((with_reducible refine' g_loadB ?hx ?hb ?hc ?_); (case hx => rfl); (case hb => exact bqq); first | (case hc => rfl) | (case hn => simp only [List.length_cons, List.length_nil]; omega)) | ((with_reducible refine' g_loadC ?hx ?hc ?_); (case hx => rfl); (case hc => exact cqq))); (conv => arg 5; simp only [zA, zB, ev, lget, zC, zD, zE, zF, zG, zH, zI, zJ, zK, zL, zM, zN, zO]))) | (((with_reducible refine' e_sliceLit ?hx ?hi ?hv ?hn ?_); (case hx => simp only [zC, zD, ev, lget]; (try rfl)); (case hi => rfl); (case hv => simp [Value.cells]); (case hn => decide); simp only [List.flatMap_cons, List.flatMap_nil, Value.cells, List.cons_append, List.nil_append]); intro _ _ _ _ _ _ _; (conv => arg 5; simp only [zA, zB, ev, lget, zC, zD, zE, zF, zG, zH, zI, zJ, zK, zL, zM, zN, zO])) | ((first | ((with_reducible refine' e_storeB ?hx ?hy ?hv ?h1 ?hb ?ho ?_); (case hx => rfl); (case hy => ((try simp only [ev, lget]); (try rfl))); (case hv => rfl); (case h1 => rfl)) | ((with_reducible refine' e_storeR ?hx ?hy ?h1 ?hb ?hn ?ho ?_); (case hx => rfl); (case hy => rfl); (case h1 => simp [Value.oneCell']); (case hn => rfl))); (case hb => exact bqq); (case ho => first | (simp only [List.length_cons, List.length_nil]; omega) | omega | (simp; omega) | simp); (try simp only [splice, zA, zB]); intro _ _ _ _))
          all_goals try (
            rename_i wd k1 k2 g1 w3 k3 k4 k5 ev3 k6 w10 hb10 e10 z10
            have oF := own_or (B := w9.heap.size) haA (by omega)
            have hgl9 := hb9.lt
            have nF : ∀ k, (Value.slice VA (B.bods.length + l.length + i + 1) dA).ownBlock = some k → ¬ k = gB := fun k hk hh => by
              rcases oF k hk with h1 | h1
              · exact nMg (by rw [← hh]; exact h1)
              · omega
            exact ⟨_, rfl, by simp only [setW, List.foldl_cons, List.foldl_nil, List.set_cons_succ, List.set_cons_zero], VA, dA, hb10, own_evt e10 hoA nF, oF⟩)
          rintro u10 w10 ev10 z10 ⟨VF, dF, hb10, hoF, oF⟩
          have hr10 := hr9.evt ev10 (fun hh => hh.elim nMo hgg)
          have hoE10 := own_evt ev10 hoE (fun k hk hh => by
            rcases hh with h1 | h1
            · obtain ⟨c, hc⟩ := own_typ hoE k hk
              obtain ⟨c2, hc2⟩ := own_typ hM9 k h1
              exact Blk.ne hc hc2 (by decide) rfl
            · exact nE k hk h1)
          clear hb9 hr9 hcM9
          simp only [setW, List.foldl_cons, List.foldl_nil, List.set_cons_succ, List.set_cons_zero]
          repeat' (first | (with_reducible (first | refine' wp_region_lit ?_ | refine' wpList_nil ?_ | refine' then_normal ?_ | refine' in_normal ?_)) | ((with_reducible refine' l_step ?_); (first | ((first | (with_reducible refine' g_move ?_) | (with_reducible refine' g_assign ?_) | ((with_reducible refine' g_fieldAddr ?hx ?ho ?_); (case hx => rfl); (case ho => rfl)) | ((with_reducible refine' g_loadB ?hx ?hb ?hc ?_); (case hx => rfl); (case hb => exact bqq); first | (case hc => rfl) | (case hn => simp only [List.length_cons, List.length_nil]; omega)) | ((first | (with_reducible refine' g_addN ?hx ?hy ?h0 ?h1 ?_) | (with_reducible refine' g_subN ?hx ?hy ?h0 ?h1 ?_)); (case hx => rfl); (case hy => rfl); (case h0 => omega); (case h1 => omega)) | ((with_reducible refine' g_nilCheckP ?hx ?_); (case hx => rfl)) | ((with_reducible refine' g_lenS ?hx ?_); (case hx => rfl)) | ((with_reducible refine' g_indexAddr ?hx ?hy ?h0 ?h1 ?_); (case hx => rfl); (case hy => rfl); (case h0 => omega); (case h1 => omega))); (conv => arg 5; simp only [zA, zB, ev, lget, zC, zD, zE, zF, zG, zH, zI, zJ, zK, zL, zM, zN, zO])) | ((with_reducible refine' g_build ?hl ?hp ?hs ?_); (case hl => rfl); (case hp => rfl); (case hs => rfl); (conv => arg 5; simp only [zA, zB, ev, lget, zC, zD, zE, zF, zG, zH, zI, zJ, zK, zL, zM, zN, zO, fillL, splice, List.getD_cons_zero, List.getD_cons_succ, Value.cells])))) | ((first | ((with_reducible refine' e_storeB ?hx ?hy ?hv ?h1 ?hb ?ho ?_); (case hx => rfl); (case hy => ((try simp only [ev, lget]); (try rfl))); (case hv => rfl); (case h1 => rfl)) | ((with_reducible refine' e_storeR ?hx ?hy ?h1 ?hb ?hn ?ho ?_); (case hx => rfl); (case hy => rfl); (case h1 => simp [Value.oneCell']); (case hn => rfl))); (case hb => exact bqq); (case ho => first | (simp only [List.length_cons, List.length_nil]; omega) | omega | (simp; omega) | simp); (try simp only [splice, zA, zB]); intro _ _ _ _))
          rename_i w11 hb11 e11 z11
          have hr11 : Blk w11 go 47 (splice cs (i * 3) (blankC (-7 - (B.lists.length : Int)))) := hb11
          rw [hcs] at hr11
          have eT : Evt (fun k => k = gB ∨ k = go ∨ (Value.slice VB2 (B.bods.length + l.length + i) dB2).ownBlock = some k ∨ (Value.slice (some ⟨bM, 0, none⟩) (B.bods.length + l.length + i) dM2).ownBlock = some k) wC w11 := Evt.next e11 (Evt.next ev10 (ev9.mono fun k _ hk => by
            rcases hk with h1 | h1
            · exact .inr (.inr (.inl h1))
            · exact .inl h1) (fun k _ hk => by
            rcases hk with h1 | h1
            · exact .inr (.inr (.inr h1))
            · exact .inl h1)) (fun k _ hk => .inr (.inl hk))
          have nT : ∀ k, bodOwn l k → ¬ (k = gB ∨ k = go ∨ (Value.slice VB2 (B.bods.length + l.length + i) dB2).ownBlock = some k ∨ (Value.slice (some ⟨bM, 0, none⟩) (B.bods.length + l.length + i) dM2).ownBlock = some k) := fun k hk hh => by
            rcases hh with h1 | h1 | h1 | h1
            · exact nbg k hk h1
            · exact nbo k hk h1.symm
            · exact nbB k hk h1
            · exact nbM k hk h1
          have nE2 : ∀ k, E k → ¬ (k = gB ∨ k = go ∨ (Value.slice VB2 (B.bods.length + l.length + i) dB2).ownBlock = some k ∨ (Value.slice (some ⟨bM, 0, none⟩) (B.bods.length + l.length + i) dM2).ownBlock = some k) := fun k hk hh => by
            have := hK.E1 k hk
            rcases hh with h1 | h1 | h1 | h1
            · omega
            · omega
            · exact hK.E3 k h1 hk
            · exact hK.E2 k h1 hk
          have nN : ∀ k, w2.heap.size ≤ k → ¬ (k = gB ∨ k = go ∨ (Value.slice VB2 (B.bods.length + l.length + i) dB2).ownBlock = some k ∨ (Value.slice (some ⟨bM, 0, none⟩) (B.bods.length + l.length + i) dM2).ownBlock = some k) := fun k hk hh => by
            rcases hh with h1 | h1 | h1 | h1
            · omega
            · omega
            · have := hBl k h1
              omega
            · have := hMl k h1
              omega
          have nEV : ∀ k, E k → ¬ (Value.slice mA mb.length mc).ownBlock = some k := fun k hk hh => by
            have h1 := (hbl2 k (hbo k hh)).1
            have h2 := hK.E1 k hk
            omega
          have hkeep := keep_head hV2 hoC haC
          have hlong : RG wC (fun k => (Value.slice VC (mb.length + 64) dC).ownBlock = some k) VC (List.replicate mb.length (.int .u8 (mkB (B.bods.length + i)))) := (RG.own hoC (fun k hk => hk)).pre
          have oC : ∀ k, (Value.slice VC (mb.length + 64) dC).ownBlock = some k → (Value.slice mA mb.length mc).ownBlock = some k ∨ w2.heap.size ≤ k := own_or (haC.imp id (fun h => h.1)) (by omega)
          refine ⟨_, _, rfl, (by omega : l.length - (i + 1) < l.length - i), by simp only [zA, zB], i + 1, ln ++ [⟨VC, mb.length, dC⟩], (fun k => E k ∨ ((Value.slice VC (mb.length + 64) dC).ownBlock = some k ∧ w2.heap.size ≤ k)), VE, VF, dE, dF, rfl, by omega, rfl, {
            blk := hb10.evt e11 (fun hh => hgg hh.symm)
            rB := ?q1
            rM := ?q2
            oB := fun k hk => ?q3
            oM := fun k hk => ?q4
            lnl := by rw [List.length_append, hK.lnl]; rfl
            cur := fun j hj hji => own_evt eT (own_evt heC (hK.cur j hj (by omega)) (fun k hk => hoth j hj (by omega) k hk)) (fun k hk => nT k (bodOwn_of hj hk))
            rg := fun j hj => ?q5
            lng := fun j s hj hs => ?q6
            E1 := fun k hk => ?q7
            E2 := fun k hk hh => ?q8
            E3 := fun k hk hh => ?q9
            row := hr11
            evt := ?q10 }⟩
          case q1 =>
            rw [← List.append_assoc, List.map_append]
            exact own_evt e11 hoE10 (fun k hk hh => by
              have h' : k = go := hh
              subst h'
              obtain ⟨c, hc⟩ := own_typ hoE10 k hk
              exact Blk.ne hc hr10 (by decide) rfl)
          case q2 =>
            rw [mks_succ, ← List.append_assoc, u8s_snoc]
            exact own_evt e11 hoF (fun k hk hh => by
              have h' : k = go := hh
              subst h'
              obtain ⟨c, hc⟩ := own_typ hoF k hk
              exact Blk.ne hc hr10 (by decide) rfl)
          case q3 =>
            rcases oE k hk with h1 | h1
            · exact hK.oB k h1
            · exact .inr (by omega)
          case q4 =>
            rcases oF k hk with h1 | h1
            · exact hK.oM k h1
            · exact .inr (by omega)
          case q5 =>
            by_cases hj1 : j = i
            · subst hj1
              rw [hmi]
              exact hkeep.evt eT (fun k _ hk => nT k (hbo k hk)) (fun _ h => h)
            · exact ((hK.rg j hj).evt heC (fun k _ hk => hoth j hj hj1 k hk) (fun _ h => h)).evt eT (fun k _ hk => nT k (bodOwn_of hj hk)) (fun _ h => h)
          case q6 =>
            rcases snoc_get hs with hs1 | ⟨hj1, rfl⟩
            · have hji : j < i := by have := (List.getElem?_eq_some_iff.1 hs1).1; have := hK.lnl; omega
              obtain ⟨g1, g2⟩ := hK.lng j s hj hs1
              refine ⟨g1, (g2.evt heC (fun k _ hk => ?_) (fun _ h => h)).evt eT (fun k _ hk => ?_) (fun k hk => ?_)⟩
              · rcases hk with h1 | h1
                · exact hoth j hj (by omega) k h1
                · exact nEV k h1
              · rcases hk with h1 | h1
                · exact nT k (bodOwn_of hj h1)
                · exact nE2 k h1
              · rcases hk with h1 | h1
                · exact .inl h1
                · exact .inr (.inl h1)
            · rw [hK.lnl] at hj1
              subst hj1
              refine ⟨by rw [hmi], hlong.evt eT (fun k _ hk => ?_) (fun k hk => ?_)⟩
              · rcases oC k hk with h1 | h1
                · exact nT k (hbo k h1)
                · exact nN k h1
              · rcases oC k hk with h1 | h1
                · left
                  rw [hmi]
                  exact h1
                · exact .inr (.inr ⟨hk, h1⟩)
          case q7 =>
            rcases hk with h1 | ⟨h1, h2⟩
            · have := hK.E1 k h1
              omega
            · have := hlC k h1
              omega
          case q8 =>
            rcases oF k hk with h1 | h1
            · rcases hh with h2 | ⟨h2, h3⟩
              · exact hK.E2 k h1 h2
              · have := hMl k h1
                omega
            · rcases hh with h2 | ⟨h2, h3⟩
              · have := hK.E1 k h2
                omega
              · have := hlC k h2
                omega
          case q9 =>
            rcases oE k hk with h1 | h1
            · rcases hh with h2 | ⟨h2, h3⟩
              · exact hK.E3 k h1 h2
              · have := hBl k h1
                omega
            · rcases hh with h2 | ⟨h2, h3⟩
              · have := hK.E1 k h2
                omega
              · have := hlC k h2
                omega
          case q10 =>
            refine Evt.next eT (Evt.next heC hK.evt (fun k _ hk => .inr (.inr (.inr (.inr (hbo k hk)))))) (fun k hk0 hk => ?_)
            rcases hk with h1 | h1 | h1 | h1
            · exact .inl h1
            · exact .inr (.inl h1)
            · rcases hK.oB k h1 with h2 | h2
              · exact .inr (.inr (.inl h2))
              · omega
            · rcases hK.oM k h1 with h2 | h2
              · exact .inr (.inr (.inr (.inl h2)))
              · omega
        · obtain rfl : i = l.length := by omega
          have tA := own_typ h.rA
          have hlA0 := own_lt h.rA
          have hA2 := own_evt hK.evt h.rA (fun k hk hh => by
            obtain ⟨c, hc⟩ := tA k hk
            rcases hh with h1 | h1 | h1 | h1 | h1
            · subst h1
              exact Blk.ne h.blk hc (by decide) rfl
            · subst h1
              exact Blk.ne ha.row hc (by decide) rfl
            · obtain ⟨c2, hc2⟩ := tB k h1
              exact Blk.ne hc hc2 (by decide) rfl
            · obtain ⟨c2, hc2⟩ := tM k h1
              exact Blk.ne hc hc2 (by decide) rfl
            · obtain ⟨_, c2, hc2⟩ := hbl2 k h1
              exact Blk.ne hc hc2 (by decide) rfl)
          have nAg : ¬ (Value.slice AA B.lists.length cA).ownBlock = some gB := fun hh => by
            obtain ⟨c, hc⟩ := tA gB hh
            exact Blk.ne h.blk hc (by decide) rfl
          rw [List.drop_length, show acCs ([] : List Ma) = [] from rfl, List.append_nil] at hrow2
          repeat' (first | (((with_reducible refine' e_append ?hx ?hy ?hzs ?hsz ?hown ?hl ?hnews ?h1 ?hb ?hm ?_); (case hx => ((try simp only [ev, lget]); (try rfl))); (case hy => rfl); (case hzs => rfl); (case hsz => decide); (case hown => exact oqq); (case hnews => refine' blk_src ?hbb; (case hbb => exact bqq)); (case hl => rfl); (case h1 => simp [Value.oneCell']); (case hb => omega); (case hm => omega); intro vA wA hoA heA hnA haA hzA; (conv => arg 5; simp only [zA, zB, ev, lget, zC, zD, zE, zF, zG, zH, zI, zJ, zK, zL, zM, zN, zO])); have hlA := own_lt hoA; obtain ⟨VA, dA, hVA⟩ := own_slice hoA; subst hVA) | (with_reducible (first | refine' wp_seq ?_ | refine' wp_region_lit ?_ | refine' wpList_nil ?_ | refine' then_normal ?_ | refine' wp_exit ?_ | refine' then_exit ?_ | refine' in_exit ?_)) | ((with_reducible refine' c_condF ?hx ?_); (case hx => rfl)) | ((with_reducible refine' b_end0 ?hr ?_); (case hr => rfl)) | ((with_reducible refine' l_step ?_); (first | ((first | (with_reducible refine' g_move ?_) | ((with_reducible refine' g_fieldAddr ?hx ?ho ?_); (case hx => rfl); (case ho => rfl)) | ((with_reducible refine' g_loadB ?hx ?hb ?hc ?_); (case hx => rfl); (case hb => exact bqq); first | (case hc => rfl) | (case hn => simp only [List.length_cons, List.length_nil]; omega)) | ((with_reducible refine' g_nilCheckP ?hx ?_); (case hx => rfl)) | ((with_reducible refine' g_lenS ?hx ?_); (case hx => rfl))); (conv => arg 5; simp only [zA, zB, ev, lget, zC, zD, zE, zF, zG, zH, zI, zJ, zK, zL, zM, zN, zO])) | (((with_reducible refine' g_lss ?hx ?hy (fun _ => ?_) (fun _ => ?_)); (case hx => rfl)); (case hy => rfl); all_goals (first | (exfalso; omega) | (conv => arg 5; simp only [zA, zB, ev, lget, zC, zD, zE, zF, zG, zH, zI, zJ, zK, zL, zM, zN, zO]))))) | (((with_reducible refine' e_sliceLit ?hx ?hi ?hv ?hn ?_); (case hx => simp only [zC, zD, ev, lget]; (try rfl)); (case hi => rfl); (case hv => simp [Value.cells]); (case hn => decide); simp only [List.flatMap_cons, List.flatMap_nil, Value.cells, List.cons_append, List.nil_append]); intro _ _ _ _ _ _ _; (conv => arg 5; simp only [zA, zB, ev, lget, zC, zD, zE, zF, zG, zH, zI, zJ, zK, zL, zM, zN, zO])) | ((first | ((with_reducible refine' e_storeB ?hx ?hy ?hv ?h1 ?hb ?ho ?_); (case hx => rfl); (case hy => ((try simp only [ev, lget]); (try rfl))); (case hv => rfl); (case h1 => rfl)) | ((with_reducible refine' e_storeR ?hx ?hy ?h1 ?hb ?hn ?ho ?_); (case hx => rfl); (case hy => rfl); (case h1 => simp [Value.oneCell']); (case hn => rfl))); (case hb => exact bqq); (case ho => first | (simp only [List.length_cons, List.length_nil]; omega) | omega | (simp; omega) | simp); (try simp only [splice, zA, zB]); intro _ _ _ _))
          rename_i g1 w3 k3 k4 k5 ev3 k6 w9 hb9 e9 z9
          have eAll : Evt (fun k => k = gB ∨ k = go ∨ (Value.slice AA B.lists.length cA).ownBlock = some k ∨ (Value.slice AB B.bods.length cB).ownBlock = some k ∨ (Value.slice AM B.marks.length cM).ownBlock = some k ∨ bodOwn l k) w w9 := Evt.next e9 (Evt.next heA (Evt.next ev3 (hK.evt.mono fun k _ hk => by
            rcases hk with h1 | h1 | h1
            · exact .inl h1
            · exact .inr (.inl h1)
            · exact .inr (.inr (.inr h1))) (fun _ _ h => h.elim)) (fun _ _ h => .inr (.inr (.inl h)))) (fun _ _ h => .inl h)
          have eT : Evt (fun k => k = gB ∨ (Value.slice AA B.lists.length cA).ownBlock = some k) w2 w9 := Evt.next e9 (Evt.next heA (ev3.mono (fun _ _ h => h.elim)) (fun _ _ h => .inr h)) (fun _ _ h => .inl h)
          have oA : ∀ k, (Value.slice VA (B.lists.length + 1) dA).ownBlock = some k → (Value.slice AA B.lists.length cA).ownBlock = some k ∨ w2.heap.size ≤ k := own_or haA (by omega)
          have nA : ∀ k, (Value.slice VA (B.lists.length + 1) dA).ownBlock = some k → ¬ k = gB := fun k hk hh => by
            rcases oA k hk with h1 | h1
            · exact nAg (by rw [← hh]; exact h1)
            · omega
          have hA9 := own_evt e9 hoA nA
          have nT : ∀ {t : TypeId} {cs : List Value} (k : Nat), Blk w2 k t cs → t ≠ 73 → t ≠ 35 → ¬ (k = gB ∨ (Value.slice AA B.lists.length cA).ownBlock = some k) := fun k hk h1 h2 hh => by
            rcases hh with h3 | h3
            · subst h3
              exact Blk.ne hblk2 hk (fun e => h1 e.symm) rfl
            · obtain ⟨c, hc⟩ := own_typ hA2 k h3
              exact Blk.ne hk hc h2 rfl
          have nTb : ∀ k, bodOwn l k → ¬ (k = gB ∨ (Value.slice AA B.lists.length cA).ownBlock = some k) := fun k hk hh => by
            rcases hh with h3 | h3
            · exact nbg k hk h3
            · obtain ⟨_, c, hc⟩ := hbl2 k hk
              obtain ⟨c2, hc2⟩ := tA k h3
              exact Blk.ne hc hc2 (by decide) rfl
          have nTE : ∀ k, E k → ¬ (k = gB ∨ (Value.slice AA B.lists.length cA).ownBlock = some k) := fun k hk hh => by
            have := hK.E1 k hk
            rcases hh with h3 | h3
            · omega
            · have := hlA0 k h3
              omega
          have hB9 := own_evt eT hK.rB (fun k hk => by
            obtain ⟨c, hc⟩ := own_typ hK.rB k hk
            exact nT k hc (by decide) (by decide))
          have hM9 := own_evt eT hK.rM (fun k hk => by
            obtain ⟨c, hc⟩ := own_typ hK.rM k hk
            exact nT k hc (by decide) (by decide))
          have hr9 := hrow2.evt eT (nT go hrow2 (by decide) (by decide))
          have nS : ∀ {t : TypeId} {cs : List Value} (k : Nat), Blk w k t cs → t ≠ 73 → t ≠ 47 → t ≠ 35 → t ≠ 22 → t ≠ 5 → ¬ (k = gB ∨ k = go ∨ (Value.slice AA B.lists.length cA).ownBlock = some k ∨ (Value.slice AB B.bods.length cB).ownBlock = some k ∨ (Value.slice AM B.marks.length cM).ownBlock = some k ∨ bodOwn l k) := fun k hk h1 h2 h3 h4 h5 hh => by
            rcases hh with hx | hx | hx | hx | hx | hx
            · subst hx
              exact Blk.ne h.blk hk (fun e => h1 e.symm) rfl
            · subst hx
              exact Blk.ne ha.row hk (fun e => h2 e.symm) rfl
            · obtain ⟨c, hc⟩ := tA k hx
              exact Blk.ne hk hc h3 rfl
            · obtain ⟨c, hc⟩ := tB k hx
              exact Blk.ne hk hc h4 rfl
            · obtain ⟨c, hc⟩ := tM k hx
              exact Blk.ne hk hc h5 rfl
            · obtain ⟨_, c, hc⟩ := hbl2 k hx
              exact Blk.ne hk hc h5 rfl
          have nD : ∀ k, D k → ¬ (k = gB ∨ k = go ∨ (Value.slice AA B.lists.length cA).ownBlock = some k ∨ (Value.slice AB B.bods.length cB).ownBlock = some k ∨ (Value.slice AM B.marks.length cM).ownBlock = some k ∨ bodOwn l k) := fun k hk hh => by
            rcases hh with hx | hx | hx | hx | hx | hx
            · exact h.apg (hx ▸ hk)
            · exact hgo (hx ▸ hk)
            · exact h.apA k hx hk
            · exact h.apB k hx hk
            · exact h.apM k hx hk
            · exact (hbd k hx).1 hk
          have hDl := h.lt
          have hlI := own_lt h.rI
          have hlL := own_lt h.rL
          have tI := own_typ h.rI
          have tL := own_typ h.rL
          have hlen : (B.bods ++ l.map slB ++ ln).length = B.bods.length + l.length + l.length := by
            rw [List.length_append, List.length_append, List.length_map, hK.lnl]
          have hlenM : (B.marks ++ mks B.bods.length l.length ++ mks B.bods.length l.length).length = B.bods.length + l.length + l.length := by
            rw [List.length_append, List.length_append, mks_len, hlM]
          have apO : ∀ {t : TypeId} {cs : List Value} (k : Nat), Blk w k t cs → t ≠ 47 → t ≠ 5 → ¬ D k → ¬ (D k ∨ k = go ∨ bodOwn l k ∨ E k) := fun k hk h1 h2 h3 hh => by
            rcases hh with hx | hx | hx | hx
            · exact h3 hx
            · subst hx
              exact Blk.ne ha.row hk (fun e => h1 e.symm) rfl
            · obtain ⟨_, c, hc⟩ := hbl2 k hx
              exact Blk.ne hk hc h2 rfl
            · have := hK.E1 k hx
              have := hk.lt
              omega
          have apN : ∀ k, w.heap.size ≤ k → ¬ E k → ¬ (D k ∨ k = go ∨ bodOwn l k ∨ E k) := fun k h1 h2 hh => by
            rcases hh with hx | hx | hx | hx
            · have := hDl k hx
              omega
            · omega
            · have := (hbl2 k hx).1
              omega
            · exact h2 hx
          refine ⟨rfl, { ids := B.ids, longs := B.longs, lists := B.lists ++ [⟨some ⟨go, 0, none⟩, l.length, l.length⟩], bods := B.bods ++ l.map slB ++ ln, marks := B.marks ++ mks B.bods.length l.length ++ mks B.bods.length l.length }, (fun k => D k ∨ k = go ∨ bodOwn l k ∨ E k), _, _, _, {
            blk := hb9
            rI := own_evt eAll h.rI (fun k hk => by
              obtain ⟨c, hc⟩ := tI k hk
              exact nS k hc (by decide) (by decide) (by decide) (by decide) (by decide))
            rL := own_evt eAll h.rL (fun k hk => by
              obtain ⟨c, hc⟩ := tL k hk
              exact nS k hc (by decide) (by decide) (by decide) (by decide) (by decide))
            rA := by rw [List.length_append, List.map_append]; exact hA9
            rB := by
              show w9.ownsRow _ _ _ _ (B.bods ++ l.map slB ++ ln).length _
              rw [hlen]
              exact hB9
            rM := by
              show w9.ownsRow _ _ _ _ (B.marks ++ mks B.bods.length l.length ++ mks B.bods.length l.length).length _
              rw [hlenM]
              exact hM9
            lL := h.lL
            lM := hlenM.trans hlen.symm
            dI := fun j s hs => ⟨(h.dI j s hs).1, (h.dI j s hs).2.evt eAll (fun k _ hk => nD k hk) (fun _ h => .inl h)⟩
            dL := fun j s hs => ⟨(h.dL j s hs).1, (h.dL j s hs).2.evt eAll (fun k _ hk => nD k hk) (fun _ h => .inl h)⟩
            dA := fun j s hs => ?b1
            dB := fun j s m hs hm => ?b2
            apI := fun k hk => by
              obtain ⟨c, hc⟩ := tI k hk
              exact apO k hc (by decide) (by decide) (h.apI k hk)
            apL := fun k hk => by
              obtain ⟨c, hc⟩ := tL k hk
              exact apO k hc (by decide) (by decide) (h.apL k hk)
            apA := fun k hk => ?c3
            apB := fun k hk => ?c4
            apM := fun k hk => ?c5
            apg := fun hh => ?c6
            dis := h.dis
            lt := fun k hk => ?c7
            len := ⟨h.len.1, by rw [List.length_append, List.length_singleton]; omega, by show (B.bods ++ l.map slB ++ ln).length ≤ _; rw [hlen]; omega⟩ }, rfl, by rw [List.length_append]; rfl, by show (B.bods ++ l.map slB ++ ln).length = _; rw [hlen]; omega, ?d1, ?d2, hK.oB, hK.oM, eAll⟩
          case b1 =>
            rcases snoc_get hs with hs1 | ⟨rfl, rfl⟩
            · exact ⟨(h.dA j s hs1).1, (h.dA j s hs1).2.evt eAll (fun k _ hk => nD k hk) (fun _ h => .inl h)⟩
            · exact ⟨by show l.length ≤ _; omega, RG.blk hr9 _ (List.take_length) (.inr (.inl rfl))⟩
          case b2 =>
            have hs : (B.bods ++ l.map slB ++ ln)[j]? = some s := hs
            have hm : (B.marks ++ mks B.bods.length l.length ++ mks B.bods.length l.length)[j]? = some m := hm
            rw [List.append_assoc] at hs
            rw [List.append_assoc] at hm
            rcases Nat.lt_or_ge j B.bods.length with hj | hj
            · rw [List.getElem?_append_left hj] at hs
              rw [List.getElem?_append_left (by omega)] at hm
              exact ⟨(h.dB j s m hs hm).1, (h.dB j s m hs hm).2.evt eAll (fun k _ hk => nD k hk) (fun _ h => .inl h)⟩
            · rw [List.getElem?_append_right hj] at hs
              rw [List.getElem?_append_right (by omega), hlM] at hm
              rcases Nat.lt_or_ge (j - B.bods.length) l.length with hj2 | hj2
              · rw [List.getElem?_append_left (by rw [List.length_map]; exact hj2), List.getElem?_map, List.getElem?_eq_getElem hj2] at hs
                rw [List.getElem?_append_left (by rw [mks_len]; exact hj2)] at hm
                obtain rfl := (Option.some.inj hs).symm
                have hm2 : m = mkB (B.bods.length + (j - B.bods.length)) := by
                  unfold mks at hm
                  rw [List.getElem?_map, List.getElem?_range hj2] at hm
                  exact (Option.some.inj hm).symm
                subst hm2
                refine ⟨by have := hbl _ (List.getElem_mem hj2); show l[j - B.bods.length].body.length ≤ _; omega, (hK.rg _ hj2).evt eT (fun k _ hk => nTb k (bodOwn_of hj2 hk)) (fun k hk => .inr (.inr (.inl (bodOwn_of hj2 hk))))⟩
              · rw [List.getElem?_append_right (by rw [List.length_map]; exact hj2), List.length_map] at hs
                rw [List.getElem?_append_right (by rw [mks_len]; exact hj2), mks_len] at hm
                have hj3 : j - B.bods.length - l.length < l.length := by have := (List.getElem?_eq_some_iff.1 hs).1; have := hK.lnl; omega
                have hm2 : m = mkB (B.bods.length + (j - B.bods.length - l.length)) := by
                  unfold mks at hm
                  rw [List.getElem?_map, List.getElem?_range hj3] at hm
                  exact (Option.some.inj hm).symm
                subst hm2
                obtain ⟨g1, g2⟩ := hK.lng _ s hj3 hs
                refine ⟨by have := hbl _ (List.getElem_mem hj3); omega, g2.evt eT (fun k _ hk => ?_) (fun k hk => ?_)⟩
                · rcases hk with h1 | h1
                  · exact nTb k (bodOwn_of hj3 h1)
                  · exact nTE k h1
                · rcases hk with h1 | h1
                  · exact .inr (.inr (.inl (bodOwn_of hj3 h1)))
                  · exact .inr (.inr (.inr h1))
          case c3 =>
            rcases oA k hk with h1 | h1
            · obtain ⟨c, hc⟩ := tA k h1
              exact apO k hc (by decide) (by decide) (h.apA k h1)
            · exact apN k (by omega) (fun hh => by have := hK.E1 k hh; omega)
          case c4 =>
            rcases hK.oB k hk with h1 | h1
            · obtain ⟨c, hc⟩ := tB k h1
              exact apO k hc (by decide) (by decide) (h.apB k h1)
            · exact apN k h1 (hK.E3 k hk)
          case c5 =>
            intro hh
            rcases hK.oM k hk with h1 | h1
            · rcases hh with hx | hx | hx | hx
              · exact h.apM k h1 hx
              · subst hx
                obtain ⟨c, hc⟩ := tM k h1
                exact Blk.ne ha.row hc (by decide) rfl
              · exact (hbd k hx).2 h1
              · exact hK.E2 k hk hx
            · exact apN k h1 (hK.E2 k hk) hh
          case c6 => exact apO gB h.blk (by decide) (by decide) h.apg hh
          case c7 =>
            rcases hk with hx | hx | hx | hx
            · have := hDl k hx; omega
            · omega
            · have := (hbl2 k hx).1; omega
            · have := (hK.E1 k hx).2; omega
          case d1 =>
            intro k hk
            rcases hk with hx | hx | hx | hx
            · exact .inl hx
            · exact .inr (.inl hx)
            · exact .inr (.inr (.inl hx))
            · exact .inr (.inr (.inr (hK.E1 k hx).1))
          case d2 =>
            intro k hk
            rcases oA k hk with h1 | h1
            · exact .inl h1
            · exact .inr (by omega)
end Go.Proofs.Ytmngcpackbekiaa
