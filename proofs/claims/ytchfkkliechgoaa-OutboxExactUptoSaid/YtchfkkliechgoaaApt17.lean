/- Bytes that were handed out are written full, and laid behind: apart. SHORT NORMX -/
import Derived.Test.YtchfkkliechgoaaKpt17
namespace Go.Proofs.Ytchfkkliechgoaa
open Go.RowKit Go.Proofs.YtchfkkliechgoaaE
set_option linter.unusedSimpArgs false
set_option linter.unusedVariables false
set_option maxRecDepth 4000

section
variable {P : Program} {ops : Array Oper} {rest : List Oper} {w : World} {Q : Exit → Act → World → Prop} {ty : TypeId} {pos : String} {aft : Array Edge} {l : List Value} {ds : List Deferred} {N : Tmp}
/-- make([]byte, n) -/
theorem e_make8 {t e : TypeId} {x y : Operand} {bytes n : Nat} (hx : ev l x = .int .i64 n) (hy : ev l y = .int .i64 n) [ht : TSlice P t e 1 bytes] [hz : TZero P e (.int .u8 0)] (hb : n * bytes ≤ 281474976710656) (hn : n ≤ 9223372036854775807)
    (h : ∀ g w1, w.heap.size ≤ g → g < w1.heap.size → Blk w1 g e (u8s (List.replicate n 0)) → Evt (fun _ => False) w w1 → w.heap.size ≤ w1.heap.size → wpList P ops Q rest ⟨(l.set N (.slice (some ⟨g, 0, none⟩) n n)).toArray, ds⟩ w1) :
    wpList P ops Q (⟨some N, .makeSlice t x y, ty, pos, aft, none⟩ :: rest) ⟨l.toArray, ds⟩ w := by
  have hi := ht.info
  have hz' := hz.ok
  cases hq : P.info? e with
  | none => simp [hq] at hi
  | some inf =>
    simp only [hq, Option.map_some, Option.some.injEq, Prod.mk.injEq] at hi hz'
    have hby : (inf.bytes : Int) * (n : Int) ≤ 281474976710656 := by
      rw [hi.2]
      have h' : ((n * bytes : Nat) : Int) ≤ 281474976710656 := by omega
      rw [Int.natCast_mul] at h'
      rw [Int.mul_comm]
      exact h'
    have hrun := run_make (P := P) w t e inf (.int .u8 0) ht.ok hq hz' .i64 .i64 n n (by omega) (by omega) hby (by omega)
    simp only [Int.toNat_natCast] at hrun
    have hcs : (madeCells (Value.int .u8 0).cells (n * inf.size)).toList = u8s (List.replicate n 0) := by
      rw [hi.1, Nat.mul_one]
      simp [madeCells, u8s, Value.cells, Nat.mod_one, List.map_const']
    refine l_event (v := .slice (some ⟨w.heap.size, 0, none⟩) n n) (w' := w.alloc (.cells (madeCells (Value.int .u8 0).cells (n * inf.size)) e)) ?_ (h _ _ (Nat.le_refl _) (by simp) ?_ (Evt.alloc _ _) (by simp))
    · simp only [execOp, hx, hy, Sem.run_bind, hrun, Result.andThen_ok]
      first | rfl | simp
    · rw [← hcs]
      exact heap_alloc_new w _
end
theorem take_set1 {cur : List Value} {k : Nat} {v : Value} (h : cur.take k = List.replicate k v) (hk : k < cur.length) : (cur.set k v).take (k + 1) = List.replicate (k + 1) v := by
  have hl : k < (cur.set k v).length := by rw [List.length_set]; exact hk
  rw [List.take_succ_eq_append_getElem hl, List.replicate_succ', List.take_set_of_le (Nat.le_refl k), h]
  simp
structure BdO (w : World) (l : List Bd) : Prop where
  own : ∀ m ∈ l, w.ownsRow 0 5 1 (bdV m) m.body.length (u8s m.body)
  dis : l.Pairwise fun a b => ∀ k, (bdV a).ownBlock = some k → ¬ (bdV b).ownBlock = some k
  len : ∀ m ∈ l, m.body.length ≤ 1048576
set_option maxHeartbeats 8000000 in
theorem apart_r (A : Option Addr) (c n : Nat) (bs : List Bd) (mark : Int) (w : World) (hr : RC w A (bdCs bs)) (hL : BdO w bs) (hne : ∀ b o, A = some ⟨b, o, none⟩ → ∀ m ∈ bs, ¬ (bdV m).ownBlock = some b) (hn : bs.length = n) (hl : n ≤ 1048576) :
    Calls Try.prog 42 #[.slice A n c, .int .u8 mark] w fun e w' => e = .returned (.bool true) ∧ (∀ i (hi : i < bs.length), KB w' 5 bs[i].A bs[i].body.length bs[i].c (mkRow bs[i].body.length (mk8 mark i))) ∧ Evt (fun k => ∃ m ∈ bs, (bdV m).ownBlock = some k) w w' := by
  subst hn
  have hcell : ∀ {w' : World}, Evt (fun k => ∃ m ∈ bs, (bdV m).ownBlock = some k) w w' → ∀ i (hi : i < bs.length), ∃ b o, A = some ⟨b, o, none⟩ ∧ w'.cell? ⟨b, o + i, none⟩ = some (bdV bs[i]) ∧ ∀ m ∈ bs, ¬ (bdV m).ownBlock = some b := fun he i hi => by
    obtain ⟨b, o, rfl, hc⟩ := hr (by simpa [bdCs] using (by omega : 0 < bs.length))
    exact ⟨b, o, rfl, cell_evt he (hc i (bdV bs[i]) (by simp [bdCs, hi])) (fun ⟨m, hm, hh⟩ => hne b o rfl m hm hh), hne b o rfl⟩
  have hdis : ∀ i j (hi : i < bs.length) (hj : j < bs.length), j ≠ i → ∀ k, (bdV bs[j]).ownBlock = some k → ¬ (bdV bs[i]).ownBlock = some k := fun i j hi hj hij k h1 h2 => by
    have hd := List.pairwise_iff_getElem.1 hL.dis
    rcases Nat.lt_or_gt_of_ne hij with h | h
    · exact hd _ _ hj hi h k h1 h2
    · exact hd _ _ hi hj h k h2 h1
  go_enter Try.func42, Try.ntmps42
  repeat' (first | (with_reducible (first | refine' wp_seq ?_ | refine' wp_region_lit ?_ | refine' wpList_nil ?_ | refine' then_normal ?_ | refine' wp_block ?_)) | ((with_reducible refine' l_step ?_); ((with_reducible refine' g_assign ?_); (conv => arg 5; simp only [zA, zB, ev, lget, zC, zD, zE, zF, zG, zH, zI, zJ, zK, zL, zM, zN, zO]))))
  refine' s_loop [6, 7, 14, 15, 16, 17, 18, 19, 20, 21, 22, 23, 24, 25, 26, 27, 28, 29, 30, 31, 32, 33, 34, 35, 36, 37, 38] (fun n u w' => ∃ (i : Nat), n = bs.length - i ∧ i ≤ bs.length ∧ u 6 = .int .i64 i ∧ (∀ j (hj : j < bs.length), j < i → w'.ownsRow 0 5 1 (bdV bs[j]) bs[j].body.length (mkRow bs[j].body.length (mk8 mark j))) ∧ (∀ j (hj : j < bs.length), i ≤ j → w'.ownsRow 0 5 1 (bdV bs[j]) bs[j].body.length (u8s bs[j].body)) ∧ Evt (fun k => ∃ m ∈ bs, (bdV m).ownBlock = some k) w w') bs.length ?h0 ?round
  case h0 => exact ⟨0, rfl, by omega, rfl, fun j hj h => by omega, fun j hj _ => hL.own _ (List.getElem_mem hj), Evt.refl _ _⟩
  case round =>
    rintro n u w2 ⟨i, rfl, hi, h6, hdone, htodo, hev⟩
    simp only [setW, List.foldl_cons, List.foldl_nil, List.set_cons_succ, List.set_cons_zero]
    simp only [h6]
    have hz := hev.size
    by_cases hlt : i < bs.length
    · obtain ⟨b, o, rfl, hx0, hnb⟩ := hcell hev i hlt
      have hxo := htodo i hlt (Nat.le_refl _)
      have hxm := List.getElem_mem hlt
      have hxl := hL.len _ hxm
      have hdi := hdis i
      have hxb := hnb _ hxm
      obtain ⟨x, hxi⟩ : ∃ x, bs[i] = x := ⟨_, rfl⟩
      have hdx : ∀ j (hj : j < bs.length), j ≠ i → ∀ k, (bdV bs[j]).ownBlock = some k → ¬ (bdV x).ownBlock = some k := fun j hj hij k h1 h2 => hdis i j hlt hj hij k h1 (by rw [hxi]; exact h2)
      simp only [hxi] at hx0 hxo hxm hxl hxb
      clear hdi
      repeat' (first | (with_reducible (first | refine' wp_seq ?_ | refine' wp_region_lit ?_ | refine' wpList_nil ?_ | refine' then_normal ?_ | refine' wp_block ?_ | refine' wp_skip ?_)) | ((with_reducible refine' c_condT ?hx ?_); (case hx => rfl)) | ((with_reducible refine' l_step ?_); (first | ((first | (with_reducible refine' g_move ?_) | (with_reducible refine' g_assign ?_) | ((with_reducible refine' g_lenS ?hx ?_); (case hx => rfl))); (conv => arg 5; simp only [zA, zB, ev, lget, zC, zD, zE, zF, zG, zH, zI, zJ, zK, zL, zM, zN, zO])) | (((with_reducible refine' g_lss ?hx ?hy (fun _ => ?_) (fun _ => ?_)); (case hx => rfl)); (case hy => rfl); all_goals (first | (exfalso; omega) | (conv => arg 5; simp only [zA, zB, ev, lget, zC, zD, zE, zF, zG, zH, zI, zJ, zK, zL, zM, zN, zO]))))))
      refine' s_loop [7, 20, 21, 22, 23, 24, 25, 26, 27, 28, 29, 30, 31, 32, 33, 34, 35, 36, 37, 38] (fun n u w' => ∃ (k : Nat), n = x.body.length - k ∧ k ≤ x.body.length ∧ u 7 = .int .i64 k ∧ (∀ g, (bdV x).ownBlock = some g → ∃ cur, x.A = some ⟨g, 0, none⟩ ∧ Blk w' g 5 cur ∧ cur.length = x.c ∧ cur.take k = mkRow k (mk8 mark i)) ∧ Evt (fun k => (bdV x).ownBlock = some k) w2 w') x.body.length ?h1 ?round1
      case h1 =>
        refine ⟨0, rfl, by omega, rfl, fun g hg => ?_, Evt.refl _ _⟩
        rcases own_blk_of hxo with ⟨h1, h2⟩ | ⟨g', cap, cur, h1, hb, ht, hl, hc, _⟩
        · rw [h1] at hg
          simp [Value.ownBlock] at hg
        · simp only [bdV, Value.slice.injEq] at h1
          obtain ⟨h3, _, h4⟩ := h1
          simp only [bdV, h3, Value.ownBlock, Option.some.injEq] at hg
          subst hg
          exact ⟨cur, h3, hb, by rw [hl, h4, Nat.mul_one], by simp⟩
      case round1 =>
        rintro n2 u2 w3 ⟨k, rfl, hk, h7, hrow, hev3⟩
        simp only [setW, List.foldl_cons, List.foldl_nil, List.set_cons_succ, List.set_cons_zero]
        simp only [h7]
        have hz3 := hev3.size
        have hx1 := cell_evt hev3 hx0 hxb
        by_cases hkl : k < x.body.length
        · obtain ⟨gV, hgV⟩ : ∃ g, (bdV x).ownBlock = some g := by
            rcases own_blk_of hxo with ⟨h1, h2⟩ | ⟨g', cap, cur, h1, _⟩
            · omega
            · exact ⟨g', by rw [h1]; rfl⟩
          obtain ⟨cur, hA, hb1, hcl, hct⟩ := hrow gV hgV
          have hnd := own_lenc hxo (by omega)
          simp only [bdV, hA] at hx1
          clear hrow hx0
          repeat' (first | ((with_reducible refine' l_step ?_); (with_reducible refine' g_addU8 ?hx ?hy ?_); (case hx => rfl); (case hy => rfl); (conv => arg 5; simp only [zA, zB, ev, lget, zC, zD, zE, zF, zG, zH, zI, zJ, zK, zL, zM, zN, zO])) | (with_reducible (first | refine' wp_seq ?_ | refine' wp_region_lit ?_ | refine' wpList_nil ?_ | refine' then_normal ?_ | refine' wp_block ?_ | refine' wp_skip ?_ | refine' in_normal ?_)) | ((with_reducible refine' c_condT ?hx ?_); (case hx => rfl)) | ((with_reducible refine' l_step ?_); (first | ((first | (with_reducible refine' g_move ?_) | (with_reducible refine' g_assign ?_) | ((with_reducible refine' g_loadC ?hx ?hc ?_); (case hx => rfl); (case hc => exact cqq)) | ((with_reducible refine' g_addN ?hx ?hy ?h0 ?h1 ?_); (case hx => rfl); (case hy => rfl); (case h0 => omega); (case h1 => omega)) | ((with_reducible refine' g_lenS ?hx ?_); (case hx => rfl)) | ((with_reducible refine' g_convInt ?hx ?_); (case hx => rfl)) | ((with_reducible refine' g_indexAddr ?hx ?hy ?h0 ?h1 ?_); (case hx => rfl); (case hy => rfl); (case h0 => omega); (case h1 => omega))); (conv => arg 5; simp only [zA, zB, ev, lget, zC, zD, zE, zF, zG, zH, zI, zJ, zK, zL, zM, zN, zO])) | (((with_reducible refine' g_lss ?hx ?hy (fun _ => ?_) (fun _ => ?_)); (case hx => rfl)); (case hy => rfl); all_goals (first | (exfalso; omega) | (conv => arg 5; simp only [zA, zB, ev, lget, zC, zD, zE, zF, zG, zH, zI, zJ, zK, zL, zM, zN, zO]))))) | ((first | ((with_reducible refine' e_storeB ?hx ?hy ?hv ?h1 ?hb ?ho ?_); (case hx => rfl); (case hy => ((try simp only [ev, lget]); (try rfl))); (case hv => rfl); (case h1 => rfl)) | ((with_reducible refine' e_storeR ?hx ?hy ?h1 ?hb ?hn ?ho ?_); (case hx => rfl); (case hy => rfl); (case h1 => simp [Value.oneCell']); (case hn => rfl))); (case hb => exact bqq); (case ho => first | (simp only [List.length_cons, List.length_nil]; omega) | omega | (simp; omega) | simp); (try simp only [splice, zA, zB]); intro _ _ _ _))
          rename_i w4 hb4 ev4 z4
          exact ⟨_, _, rfl, (by omega : x.body.length - (k + 1) < x.body.length - k), by simp only [zA, zB], k + 1, rfl, by omega, rfl, fun g hg => by
            have hgg : gV = g := Option.some.inj (hgV.symm.trans hg)
            subst hgg
            exact ⟨_, hA, hb4, by rw [List.length_set]; exact hcl, take_set1 hct (by omega)⟩, Evt.next ev4 hev3 (fun k _ hk => by have h' : k = gV := hk; rw [h']; exact hgV)⟩
        · obtain rfl : k = x.body.length := by omega
          have hV2 : w3.ownsRow 0 5 1 (bdV x) x.body.length (mkRow x.body.length (mk8 mark i)) := by
            rcases own_blk_of hxo with ⟨h1, h2⟩ | ⟨g', cap, cur0, h1, _, _, _, hc1, hc2⟩
            · rw [h1, h2]
              exact World.ownsRow_nil _ _ _ _
            · have h1' := h1
              simp only [bdV, Value.slice.injEq] at h1
              obtain ⟨h3, _, h4⟩ := h1
              obtain ⟨cur, _, hb1, hcl, hct⟩ := hrow g' (by rw [h1']; rfl)
              rw [h1']
              exact ⟨by simp, .inr ⟨g', cap, cur.toArray, rfl, Nat.zero_le _, hb1, hc1, hc2, by simpa [h4] using hcl, by simpa using hct⟩⟩
          have hdone' : ∀ j (hj : j < bs.length), j < i → w3.ownsRow 0 5 1 (bdV bs[j]) bs[j].body.length (mkRow bs[j].body.length (mk8 mark j)) := fun j hj hji => own_evt hev3 (hdone j hj hji) (fun k h1 h2 => hdx j hj (by omega) k h1 h2)
          have htodo' : ∀ j (hj : j < bs.length), i + 1 ≤ j → w3.ownsRow 0 5 1 (bdV bs[j]) bs[j].body.length (u8s bs[j].body) := fun j hj hji => own_evt hev3 (htodo j hj (by omega)) (fun k h1 h2 => hdx j hj (by omega) k h1 h2)
          clear hdone htodo hrow hx0
          repeat' (first | (with_reducible (first | refine' wp_seq ?_ | refine' wp_region_lit ?_ | refine' wpList_nil ?_ | refine' then_normal ?_ | refine' wp_exit ?_ | refine' then_exit ?_ | refine' in_normal ?_ | refine' in_exit ?_)) | ((with_reducible refine' c_condF ?hx ?_); (case hx => rfl)) | ((with_reducible refine' l_step ?_); (first | ((first | (with_reducible refine' g_move ?_) | (with_reducible refine' g_assign ?_) | ((with_reducible refine' g_loadC ?hx ?hc ?_); (case hx => rfl); (case hc => exact cqq)) | ((with_reducible refine' g_addN ?hx ?hy ?h0 ?h1 ?_); (case hx => rfl); (case hy => rfl); (case h0 => omega); (case h1 => omega)) | ((with_reducible refine' g_lenS ?hx ?_); (case hx => rfl)) | ((with_reducible refine' g_indexAddr ?hx ?hy ?h0 ?h1 ?_); (case hx => rfl); (case hy => rfl); (case h0 => omega); (case h1 => omega))); (conv => arg 5; simp only [zA, zB, ev, lget, zC, zD, zE, zF, zG, zH, zI, zJ, zK, zL, zM, zN, zO])) | (((with_reducible refine' g_lss ?hx ?hy (fun _ => ?_) (fun _ => ?_)); (case hx => rfl)); (case hy => rfl); all_goals (first | (exfalso; omega) | (conv => arg 5; simp only [zA, zB, ev, lget, zC, zD, zE, zF, zG, zH, zI, zJ, zK, zL, zM, zN, zO]))))))
          refine ⟨_, _, rfl, (by omega : bs.length - (i + 1) < bs.length - i), by simp only [zA, zB], i + 1, rfl, by omega, rfl, fun j hj hji => ?_, htodo', Evt.next hev3 hev (fun k _ hh => ⟨x, hxm, hh⟩)⟩
          by_cases hji2 : j = i
          · subst hji2
            rw [hxi]
            exact hV2
          · exact hdone' j hj (by omega)
    · have hi' : i = bs.length := by omega
      subst hi'
      have hown : ∀ j (hj : j < bs.length), w2.ownsRow 0 5 1 (bdV bs[j]) bs[j].body.length (mkRow bs[j].body.length (mk8 mark j)) := fun j hj => hdone j hj hj
      clear hdone htodo
      repeat' (first | (with_reducible (first | refine' wp_seq ?_ | refine' wp_region_lit ?_ | refine' wpList_nil ?_ | refine' then_normal ?_ | refine' wp_block ?_ | refine' wp_exit ?_ | refine' then_exit ?_ | refine' in_exit ?_)) | ((with_reducible refine' c_condF ?hx ?_); (case hx => rfl)) | ((with_reducible refine' l_step ?_); (first | ((first | (with_reducible refine' g_move ?_) | (with_reducible refine' g_assign ?_) | ((with_reducible refine' g_lenS ?hx ?_); (case hx => rfl))); (conv => arg 5; simp only [zA, zB, ev, lget, zC, zD, zE, zF, zG, zH, zI, zJ, zK, zL, zM, zN, zO])) | (((with_reducible refine' g_lss ?hx ?hy (fun _ => ?_) (fun _ => ?_)); (case hx => rfl)); (case hy => rfl); all_goals (first | (exfalso; omega) | (conv => arg 5; simp only [zA, zB, ev, lget, zC, zD, zE, zF, zG, zH, zI, zJ, zK, zL, zM, zN, zO]))))))
      refine' s_loop [5, 8, 9, 10, 11, 39, 40, 41, 42, 43, 44, 45, 46, 47, 48, 49, 50, 51, 52, 53, 54, 55, 56, 57, 58, 59, 60, 61, 62, 63, 64, 65, 66, 67, 68, 69] (fun n u w' => ∃ (i : Nat) (T : Int), n = bs.length - i ∧ i ≤ bs.length ∧ u 8 = .int .i64 i ∧ u 5 = .int .i64 T ∧ ((i : Int) ≤ T ∧ T ≤ 2000000 * (i : Int)) ∧ (∀ j (hj : j < bs.length), j < i → KB w' 5 bs[j].A bs[j].body.length bs[j].c (mkRow bs[j].body.length (mk8 mark j))) ∧ (∀ j (hj : j < bs.length), i ≤ j → w'.ownsRow 0 5 1 (bdV bs[j]) bs[j].body.length (mkRow bs[j].body.length (mk8 mark j))) ∧ Evt (fun k => ∃ m ∈ bs, (bdV m).ownBlock = some k) w w') bs.length ?h2 ?round2
      case h2 => exact ⟨0, 0, rfl, by omega, rfl, rfl, by omega, fun j hj h => by omega, fun j hj _ => hown j hj, hev⟩
      case round2 =>
        rintro n u3 w3 ⟨i, T, rfl, hi, h8, h5, hT, hdone, htodo, hev3⟩
        simp only [setW, List.foldl_cons, List.foldl_nil, List.set_cons_succ, List.set_cons_zero]
        simp only [h8, h5]
        have hz3 := hev3.size
        clear hown
        by_cases hlt : i < bs.length
        · obtain ⟨b, o, rfl, hx0, hnb⟩ := hcell hev3 i hlt
          have hxo := htodo i hlt (Nat.le_refl _)
          have hxm := List.getElem_mem hlt
          have hxl := hL.len _ hxm
          have hxb := hnb _ hxm
          obtain ⟨x, hxi⟩ : ∃ x, bs[i] = x := ⟨_, rfl⟩
          have hdx : ∀ j (hj : j < bs.length), j ≠ i → ∀ k, (bdV bs[j]).ownBlock = some k → ¬ (bdV x).ownBlock = some k := fun j hj hij k h1 h2 => hdis i j hlt hj hij k h1 (by rw [hxi]; exact h2)
          simp only [hxi] at hx0 hxo hxm hxl hxb
          have hlx := own_lt hxo
          repeat' (first | ((with_reducible refine' e_make8 (n := 64) ?hx ?hy ?hb ?hn ?_); (case hx => rfl); (case hy => rfl); (case hb => omega); (case hn => omega); intro gt wt hO1 hO2 hgt evt_ zt_; (conv => arg 5; simp only [zA, zB, ev, lget, zC, zD, zE, zF, zG, zH, zI, zJ, zK, zL, zM, zN, zO])) | (with_reducible (first | refine' wp_seq ?_ | refine' wp_region_lit ?_ | refine' wpList_nil ?_ | refine' then_normal ?_ | refine' wp_block ?_ | refine' wp_skip ?_)) | ((with_reducible refine' c_condT ?hx ?_); (case hx => rfl)) | ((with_reducible refine' l_step ?_); (first | ((first | (with_reducible refine' g_move ?_) | (with_reducible refine' g_assign ?_) | ((with_reducible refine' g_lenS ?hx ?_); (case hx => rfl))); (conv => arg 5; simp only [zA, zB, ev, lget, zC, zD, zE, zF, zG, zH, zI, zJ, zK, zL, zM, zN, zO])) | (((with_reducible refine' g_lss ?hx ?hy (fun _ => ?_) (fun _ => ?_)); (case hx => rfl)); (case hy => rfl); all_goals (first | (exfalso; omega) | (conv => arg 5; simp only [zA, zB, ev, lget, zC, zD, zE, zF, zG, zH, zI, zJ, zK, zL, zM, zN, zO]))))))
          refine' s_loop [10, 46, 47, 48, 49, 50, 51, 52, 53, 54, 55, 56, 57, 58, 59] (fun n u w' => ∃ (j : Nat) (ts : List Int), n = 64 - j ∧ j ≤ 64 ∧ u 10 = .int .i64 j ∧ ts.length = 64 ∧ Blk w' gt 5 (u8s ts) ∧ Evt (fun k => k = gt) wt w') 64 ?h3 ?round3
          case h3 => exact ⟨0, List.replicate 64 0, rfl, by omega, rfl, by simp, hgt, Evt.refl _ _⟩
          case round3 =>
            rintro n4 u4 w4 ⟨j, ts, rfl, hj, h10, hts, hgt4, hev4⟩
            simp only [setW, List.foldl_cons, List.foldl_nil, List.set_cons_succ, List.set_cons_zero]
            simp only [h10]
            have hz4 := hev4.size
            have ev34 : Evt (fun _ => False) w3 w4 := Evt.next hev4 evt_ (fun k hk hh => by have h' : k = gt := hh; omega)
            have hx1 := cell_evt ev34 hx0 (fun h => h)
            have hxo4 := own_evt ev34 hxo (fun _ _ h => h)
            have hlu : (u8s ts).length = 64 := by rw [u8s_length, hts]
            clear hgt hx0
            by_cases hlt2 : j < 64
            · clear hxo4 hx1 evt_ hev3
              repeat' (first | ((with_reducible refine' l_step ?_); (with_reducible refine' g_addU8 ?hx ?hy ?_); (case hx => rfl); (case hy => rfl); (conv => arg 5; simp only [zA, zB, ev, lget, zC, zD, zE, zF, zG, zH, zI, zJ, zK, zL, zM, zN, zO])) | (with_reducible (first | refine' wp_seq ?_ | refine' wp_region_lit ?_ | refine' wpList_nil ?_ | refine' then_normal ?_ | refine' wp_block ?_ | refine' wp_skip ?_ | refine' in_normal ?_)) | ((with_reducible refine' c_condT ?hx ?_); (case hx => rfl)) | ((with_reducible refine' l_step ?_); (first | ((first | (with_reducible refine' g_move ?_) | (with_reducible refine' g_assign ?_) | ((with_reducible refine' g_addN ?hx ?hy ?h0 ?h1 ?_); (case hx => rfl); (case hy => rfl); (case h0 => omega); (case h1 => omega)) | ((with_reducible refine' g_lenS ?hx ?_); (case hx => rfl)) | ((with_reducible refine' g_convInt ?hx ?_); (case hx => rfl)) | ((with_reducible refine' g_indexAddr ?hx ?hy ?h0 ?h1 ?_); (case hx => rfl); (case hy => rfl); (case h0 => omega); (case h1 => omega))); (conv => arg 5; simp only [zA, zB, ev, lget, zC, zD, zE, zF, zG, zH, zI, zJ, zK, zL, zM, zN, zO])) | (((with_reducible refine' g_lss ?hx ?hy (fun _ => ?_) (fun _ => ?_)); (case hx => rfl)); (case hy => rfl); all_goals (first | (exfalso; omega) | (conv => arg 5; simp only [zA, zB, ev, lget, zC, zD, zE, zF, zG, zH, zI, zJ, zK, zL, zM, zN, zO]))))) | ((first | ((with_reducible refine' e_storeB ?hx ?hy ?hv ?h1 ?hb ?ho ?_); (case hx => rfl); (case hy => ((try simp only [ev, lget]); (try rfl))); (case hv => rfl); (case h1 => rfl)) | ((with_reducible refine' e_storeR ?hx ?hy ?h1 ?hb ?hn ?ho ?_); (case hx => rfl); (case hy => rfl); (case h1 => simp [Value.oneCell']); (case hn => rfl))); (case hb => exact bqq); (case ho => first | (simp only [List.length_cons, List.length_nil]; omega) | omega | (simp; omega) | simp); (try simp only [splice, zA, zB]); intro _ _ _ _))
              rename_i w5 hb5 ev5 z5
              exact ⟨_, _, rfl, (by omega : 64 - (j + 1) < 64 - j), by simp only [zA, zB], j + 1, ts.set j (IntKind.u8.wrap (mk8 mark i + 128)), rfl, by omega, rfl, by rw [List.length_set]; exact hts, by rw [u8s, List.map_set]; exact hb5, Evt.next ev5 hev4 (fun _ _ h => h)⟩
            · obtain rfl : j = 64 := by omega
              have hdone4 : ∀ j (hj : j < bs.length), j < i → KB w4 5 bs[j].A bs[j].body.length bs[j].c (mkRow bs[j].body.length (mk8 mark j)) := fun j hj hji => (hdone j hj hji).evt ev34 (fun _ _ h => h)
              have htodo4 : ∀ j (hj : j < bs.length), i ≤ j → w4.ownsRow 0 5 1 (bdV bs[j]) bs[j].body.length (mkRow bs[j].body.length (mk8 mark j)) := fun j hj hji => own_evt ev34 (htodo j hj hji) (fun _ _ h => h)
              have hevW4 : Evt (fun k => ∃ m ∈ bs, (bdV m).ownBlock = some k) w w4 := Evt.next ev34 hev3 (fun _ _ h => h.elim)
              clear hdone htodo evt_ hev3 ev34 hev4
              repeat' (first | ((with_reducible refine' e_appS (v := .slice x.A x.body.length x.c) (n := x.body.length) (m := 64) (xs := mkRow x.body.length (mk8 mark i)) (news := u8s ts) ?hx ?hy ?hzs ?hsz ?hown ?hl ?hr ?h1 ?hb ?hm ?_); (case hx => rfl); (case hy => rfl); (case hzs => rfl); (case hsz => decide); (case hown => exact oqq); (case hl => (rw [u8s_length, hts])); (case hr => exact RC.blk (by exact bqq) 64 (by rw [List.take_of_length_le (by rw [u8s_length]; omega)])); (case h1 => exact u8s_one _); (case hb => omega); (case hm => omega); intro vA wA hoA heA haA hzA; obtain ⟨VA, dA, hVA⟩ := own_slice hoA; subst hVA; (conv => arg 5; simp only [zA, zB, ev, lget, zC, zD, zE, zF, zG, zH, zI, zJ, zK, zL, zM, zN, zO])) | (with_reducible (first | refine' wp_seq ?_ | refine' wp_region_lit ?_ | refine' wpList_nil ?_ | refine' then_normal ?_ | refine' wp_exit ?_ | refine' then_exit ?_ | refine' in_normal ?_ | refine' in_exit ?_)) | ((with_reducible refine' c_condF ?hx ?_); (case hx => rfl)) | ((with_reducible refine' l_step ?_); (first | ((first | (with_reducible refine' g_move ?_) | (with_reducible refine' g_assign ?_) | ((with_reducible refine' g_loadC ?hx ?hc ?_); (case hx => rfl); (case hc => exact cqq)) | ((with_reducible refine' g_addN ?hx ?hy ?h0 ?h1 ?_); (case hx => rfl); (case hy => rfl); (case h0 => omega); (case h1 => omega)) | ((with_reducible refine' g_lenS ?hx ?_); (case hx => rfl)) | ((with_reducible refine' g_indexAddr ?hx ?hy ?h0 ?h1 ?_); (case hx => rfl); (case hy => rfl); (case h0 => omega); (case h1 => omega))); (conv => arg 5; simp only [zA, zB, ev, lget, zC, zD, zE, zF, zG, zH, zI, zJ, zK, zL, zM, zN, zO])) | (((with_reducible refine' g_lss ?hx ?hy (fun _ => ?_) (fun _ => ?_)); (case hx => rfl)); (case hy => rfl); all_goals (first | (exfalso; omega) | (conv => arg 5; simp only [zA, zB, ev, lget, zC, zD, zE, zF, zG, zH, zI, zJ, zK, zL, zM, zN, zO]))))))
              have hKx := (KB.of hxo4).app hxo4 hoA (by rw [List.take_of_length_le (Nat.le_refl _)]) (Nat.le_refl _) heA haA
              refine ⟨_, _, rfl, (by omega : bs.length - (i + 1) < bs.length - i), by simp only [zA, zB], i + 1, T + ((x.body.length + 64 : Nat) : Int), rfl, by omega, rfl, rfl, by omega, fun j hj hji => ?_, fun j hj hji => own_evt heA (htodo4 j hj (by omega)) (fun k h1 h2 => hdx j hj (by omega) k h1 h2), Evt.next heA hevW4 (fun k _ hh => ⟨x, hxm, hh⟩)⟩
              by_cases hji2 : j = i
              · subst hji2
                rw [hxi]
                exact hKx
              · exact (hdone4 j hj (by omega)).evt heA (fun k h1 h2 => hdx j hj hji2 k h1 h2)
        · have hi' : i = bs.length := by omega
          subst hi'
          have hall : ∀ j (hj : j < bs.length), KB w3 5 bs[j].A bs[j].body.length bs[j].c (mkRow bs[j].body.length (mk8 mark j)) := fun j hj => hdone j hj hj
          clear hdone htodo
          repeat' (first | (with_reducible (first | refine' wp_seq ?_ | refine' wp_region_lit ?_ | refine' wpList_nil ?_ | refine' then_normal ?_ | refine' wp_block ?_ | refine' wp_exit ?_ | refine' then_exit ?_ | refine' in_exit ?_)) | ((with_reducible refine' c_condF ?hx ?_); (case hx => rfl)) | ((with_reducible refine' l_step ?_); (first | ((first | (with_reducible refine' g_move ?_) | (with_reducible refine' g_assign ?_) | ((with_reducible refine' g_lenS ?hx ?_); (case hx => rfl))); (conv => arg 5; simp only [zA, zB, ev, lget, zC, zD, zE, zF, zG, zH, zI, zJ, zK, zL, zM, zN, zO])) | (((with_reducible refine' g_lss ?hx ?hy (fun _ => ?_) (fun _ => ?_)); (case hx => rfl)); (case hy => rfl); all_goals (first | (exfalso; omega) | (conv => arg 5; simp only [zA, zB, ev, lget, zC, zD, zE, zF, zG, zH, zI, zJ, zK, zL, zM, zN, zO]))))))
          refine' s_loop [4, 12, 13, 70, 71, 72, 73, 74, 75, 76, 77, 78, 79, 80, 81, 82, 83, 84, 85, 86, 87, 88, 89, 90, 91, 92, 93, 94, 95, 96] (fun n u w' => ∃ (i : Nat), n = bs.length - i ∧ i ≤ bs.length ∧ u 12 = .int .i64 i ∧ Evt (fun _ => False) w3 w') bs.length ?h4 ?round4
          case h4 => exact ⟨0, rfl, by omega, rfl, Evt.refl _ _⟩
          case round4 =>
            rintro n5 u5 w5 ⟨i, rfl, hi, h12, hev5⟩
            simp only [setW, List.foldl_cons, List.foldl_nil, List.set_cons_succ, List.set_cons_zero]
            simp only [h12]
            have hz5 := hev5.size
            by_cases hlt : i < bs.length
            · obtain ⟨b, o, rfl, hx00, _⟩ := hcell hev3 i hlt
              have hx0 := cell_evt hev5 hx00 (fun h => h)
              have hK := (hall i hlt).evt hev5 (fun _ _ h => h)
              have hxo := hL.own _ (List.getElem_mem hlt)
              have hxl := hL.len _ (List.getElem_mem hlt)
              clear hx00
              obtain ⟨x, hxi⟩ : ∃ x, bs[i] = x := ⟨_, rfl⟩
              simp only [hxi] at hx0 hxo hK hxl
              repeat' (first | (with_reducible (first | refine' wp_seq ?_ | refine' wp_region_lit ?_ | refine' wpList_nil ?_ | refine' then_normal ?_ | refine' wp_block ?_ | refine' wp_skip ?_)) | ((with_reducible refine' c_condT ?hx ?_); (case hx => rfl)) | ((with_reducible refine' l_step ?_); (first | ((first | (with_reducible refine' g_move ?_) | (with_reducible refine' g_assign ?_) | ((with_reducible refine' g_lenS ?hx ?_); (case hx => rfl))); (conv => arg 5; simp only [zA, zB, ev, lget, zC, zD, zE, zF, zG, zH, zI, zJ, zK, zL, zM, zN, zO])) | (((with_reducible refine' g_lss ?hx ?hy (fun _ => ?_) (fun _ => ?_)); (case hx => rfl)); (case hy => rfl); all_goals (first | (exfalso; omega) | (conv => arg 5; simp only [zA, zB, ev, lget, zC, zD, zE, zF, zG, zH, zI, zJ, zK, zL, zM, zN, zO]))))))
              refine' s_loop [4, 13, 76, 77, 78, 79, 80, 81, 82, 83, 84, 85, 86, 87, 88, 89, 90, 91, 92, 93, 94, 95, 96] (fun n u w' => ∃ (j : Nat), n = x.body.length - j ∧ j ≤ x.body.length ∧ u 13 = .int .i64 j ∧ Evt (fun _ => False) w5 w') x.body.length ?h5 ?round5
              case h5 => exact ⟨0, rfl, by omega, rfl, Evt.refl _ _⟩
              case round5 =>
                rintro n6 u6 w6 ⟨j, rfl, hj, h13, hev6⟩
                simp only [setW, List.foldl_cons, List.foldl_nil, List.set_cons_succ, List.set_cons_zero]
                simp only [h13]
                have hz6 := hev6.size
                have hx1 := cell_evt hev6 hx0 (fun h => h)
                by_cases hlt2 : j < x.body.length
                · obtain ⟨g, hg⟩ : ∃ g, (Value.slice x.A x.body.length x.c).ownBlock = some g := by
                    rcases own_blk_of hxo with ⟨_, h2⟩ | ⟨g', cap, cur, h1, _⟩
                    · omega
                    · exact ⟨g', by rw [show Value.slice x.A x.body.length x.c = bdV x from rfl, h1]; rfl⟩
                  obtain ⟨cur, hA, hB, ht⟩ := (hK.evt hev6 (fun _ _ h => h)) g hg
                  have hcj : w6.cell? ⟨g, j, none⟩ = some (.int .u8 (mk8 mark i)) := by
                    rw [hB.cell?]
                    have h1 : (mkRow x.body.length (mk8 mark i))[j]? = some (.int .u8 (mk8 mark i)) := by simp [hlt2]
                    rw [← ht, List.getElem?_take] at h1
                    split at h1
                    · exact h1
                    · cases h1
                  simp only [bdV, hA] at hx1
                  clear hx0 hB
                  repeat' (first | ((with_reducible refine' l_step ?_); (with_reducible refine' g_addU8 ?hx ?hy ?_); (case hx => rfl); (case hy => rfl); (conv => arg 5; simp only [zA, zB, ev, lget, zC, zD, zE, zF, zG, zH, zI, zJ, zK, zL, zM, zN, zO])) | (with_reducible (first | refine' wp_seq ?_ | refine' wp_region_lit ?_ | refine' wpList_nil ?_ | refine' then_normal ?_ | refine' wp_block ?_ | refine' wp_ret ?_ | refine' wp_skip ?_ | refine' then_ret ?_ | refine' in_normal ?_ | refine' in_ret ?_)) | ((with_reducible refine' c_condT ?hx ?_); (case hx => rfl)) | ((with_reducible refine' c_condF ?hx ?_); (case hx => rfl)) | ((with_reducible refine' b_ret1 ?hr ?hv ?_); (case hr => rfl); (case hv => ((try simp only [ev, lget]); (try rfl)))) | ((with_reducible refine' l_step ?_); (first | ((first | (with_reducible refine' g_move ?_) | (with_reducible refine' g_assign ?_) | ((with_reducible refine' g_loadC ?hx ?hc ?_); (case hx => rfl); (case hc => exact cqq)) | ((with_reducible refine' g_addN ?hx ?hy ?h0 ?h1 ?_); (case hx => rfl); (case hy => rfl); (case h0 => omega); (case h1 => omega)) | ((with_reducible refine' g_lenS ?hx ?_); (case hx => rfl)) | ((with_reducible refine' g_convInt ?hx ?_); (case hx => rfl)) | ((with_reducible refine' g_indexAddr ?hx ?hy ?h0 ?h1 ?_); (case hx => rfl); (case hy => rfl); (case h0 => omega); (case h1 => omega))); (conv => arg 5; simp only [zA, zB, ev, lget, zC, zD, zE, zF, zG, zH, zI, zJ, zK, zL, zM, zN, zO])) | ((first | ((with_reducible refine' g_lss ?hx ?hy (fun _ => ?_) (fun _ => ?_)); (case hx => rfl)) | ((with_reducible refine' g_neq ?hx ?hy (fun _ => ?_) (fun _ => ?_)); (case hx => rfl))); (case hy => rfl); all_goals (first | (exfalso; omega) | (conv => arg 5; simp only [zA, zB, ev, lget, zC, zD, zE, zF, zG, zH, zI, zJ, zK, zL, zM, zN, zO]))))))
                  all_goals first
                    | exact ⟨_, _, rfl, (by omega : x.body.length - (j + 1) < x.body.length - j), by simp only [zA, zB], j + 1, rfl, by omega, rfl, hev6⟩
                    | exact absurd rfl (by assumption : mk8 mark i ≠ mk8 mark i)
                · have hj' : j = x.body.length := by omega
                  repeat' (first | (with_reducible (first | refine' wp_seq ?_ | refine' wp_region_lit ?_ | refine' wpList_nil ?_ | refine' then_normal ?_ | refine' wp_exit ?_ | refine' then_exit ?_ | refine' in_normal ?_ | refine' in_exit ?_)) | ((with_reducible refine' c_condF ?hx ?_); (case hx => rfl)) | ((with_reducible refine' l_step ?_); (first | ((first | (with_reducible refine' g_move ?_) | (with_reducible refine' g_assign ?_) | ((with_reducible refine' g_loadC ?hx ?hc ?_); (case hx => rfl); (case hc => exact cqq)) | ((with_reducible refine' g_addN ?hx ?hy ?h0 ?h1 ?_); (case hx => rfl); (case hy => rfl); (case h0 => omega); (case h1 => omega)) | ((with_reducible refine' g_lenS ?hx ?_); (case hx => rfl)) | ((with_reducible refine' g_indexAddr ?hx ?hy ?h0 ?h1 ?_); (case hx => rfl); (case hy => rfl); (case h0 => omega); (case h1 => omega))); (conv => arg 5; simp only [zA, zB, ev, lget, zC, zD, zE, zF, zG, zH, zI, zJ, zK, zL, zM, zN, zO])) | (((with_reducible refine' g_lss ?hx ?hy (fun _ => ?_) (fun _ => ?_)); (case hx => rfl)); (case hy => rfl); all_goals (first | (exfalso; omega) | (conv => arg 5; simp only [zA, zB, ev, lget, zC, zD, zE, zF, zG, zH, zI, zJ, zK, zL, zM, zN, zO]))))))
                  exact ⟨_, _, rfl, (by omega : bs.length - (i + 1) < bs.length - i), by simp only [zA, zB], i + 1, rfl, by omega, rfl, Evt.next hev6 hev5 (fun _ _ h => h)⟩
            · have hi' : i = bs.length := by omega
              repeat' (first | (with_reducible (first | refine' wp_seq ?_ | refine' wp_region_lit ?_ | refine' wpList_nil ?_ | refine' then_normal ?_ | refine' wp_ret ?_ | refine' wp_exit ?_ | refine' then_exit ?_ | refine' in_exit ?_)) | ((with_reducible refine' c_condF ?hx ?_); (case hx => rfl)) | ((with_reducible refine' b_ret1 ?hr ?hv ?_); (case hr => rfl); (case hv => ((try simp only [ev, lget]); (try rfl)))) | ((with_reducible refine' l_step ?_); (first | ((first | (with_reducible refine' g_move ?_) | (with_reducible refine' g_assign ?_) | ((with_reducible refine' g_lenS ?hx ?_); (case hx => rfl))); (conv => arg 5; simp only [zA, zB, ev, lget, zC, zD, zE, zF, zG, zH, zI, zJ, zK, zL, zM, zN, zO])) | ((first | ((with_reducible refine' g_lss ?hx ?hy (fun _ => ?_) (fun _ => ?_)); (case hx => rfl)) | ((with_reducible refine' g_geq ?hx ?hy (fun _ => ?_) (fun _ => ?_)); (case hx => rfl))); (case hy => rfl); all_goals (first | (exfalso; omega) | (conv => arg 5; simp only [zA, zB, ev, lget, zC, zD, zE, zF, zG, zH, zI, zJ, zK, zL, zM, zN, zO]))))))
              exact ⟨rfl, fun j hj => (hall j hj).evt hev5 (fun _ _ h => h), Evt.next (hev5.mono fun _ _ h => h.elim) hev3 (fun _ _ h => h)⟩
end Go.Proofs.Ytchfkkliechgoaa
