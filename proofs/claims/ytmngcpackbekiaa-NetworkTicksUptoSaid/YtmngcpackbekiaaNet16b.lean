/- The network: a message is handed over. -/
import Derived.Test.YtmngcpackbekiaaNet16
namespace Go.Proofs.Ytmngcpackbekiaa
open Go.RowKit Go.Proofs.YtmngcpackbekiaaE
set_option linter.unusedSimpArgs false
set_option linter.unusedVariables false

theorem own_ne {vL vA : Value} {g s : Nat} (hn : ∀ k, vL.ownBlock = some k → k ≠ g) (ha : vA.ownBlock = vL.ownBlock ∨ vA.ownBlock = some s) (hs : g < s) : ∀ k, vA.ownBlock = some k → ¬ k = g := by
  intro k hk hg
  rcases ha with h1 | h1
  · rw [h1] at hk; exact hn k hk hg
  · rw [h1] at hk; have := Option.some.inj hk; omega
theorem own_in {vL vA : Value} {B s szA sz : Nat} (ha : vA.ownBlock = vL.ownBlock ∨ vA.ownBlock = some s) (hl : ∀ k, vA.ownBlock = some k → k < szA) (hB : B ≤ s) (hz : szA ≤ sz) : ∀ k, vA.ownBlock = some k → vL.ownBlock = some k ∨ (B ≤ k ∧ k < sz) := by
  intro k hk
  have h2 := hl k hk
  rcases ha with h1 | h1
  · rw [h1] at hk; exact .inl hk
  · rw [h1] at hk; have := Option.some.inj hk; exact .inr ⟨by omega, by omega⟩
/-- Is it a letter? -/
def letterB (c : Int) : Prop := c = 120 ∨ c = 100 ∨ (49 ≤ c ∧ c ≤ 57)
instance (c : Int) : Decidable (letterB c) := inferInstanceAs (Decidable (_ ∨ _))
/-- The copies that come of a message under a fate. -/
def copies (f : Int) (m : Mf) : List Mf := if f = 120 then [] else if f = 100 then [{ m with left := 1 }, { m with left := 2 }] else [{ m with left := f - 48 }]
def handN (N : Net) (m : Mf) : Net := { N with fates := N.fates.tail, fly := N.fly ++ copies (N.fates.headD 49) m }
theorem flC_one (m : Mf) : ∀ v ∈ flC m, v.oneCell' = true := by intro v hv; simp only [flC, List.mem_cons, List.not_mem_nil, or_false] at hv; rcases hv with rfl | rfl | rfl | rfl <;> rfl
set_option maxHeartbeats 2000000 in
theorem hand_any (g : Nat) (F : Nat → Prop) (N : Net) (m : Mf) (vF vL vC : Value) (mp : Nat) (w : World) (h : NetV w F g N vF vL vC mp) (hb : BodyAt w F (tailBlk vF) m.A m.body) (hl : ∀ c ∈ N.fates, letterB c) (hn : N.fly.length ≤ 1000000000000) :
    Calls Try.prog 28 #[.pointer (some ⟨g, 0, none⟩), .agg (flC m).toArray] w fun e w' => e = .returned (.tuple #[]) ∧ (∃ vF' vL', NetV w' (fun k => F k ∨ (w.heap.size ≤ k ∧ k < w'.heap.size)) g (handN N m) vF' vL' vC mp ∧ ∀ k, tailBlk vF' = some k → tailBlk vF = some k) ∧ Evt (fun k => k = g ∨ vL.ownBlock = some k) w w' := by
  have hblk := h.blk
  have hnewO : ∀ k, vL.ownBlock = some k → k ≠ g := fun k hk hg => by obtain ⟨cur, hc⟩ := own_typ h.fly k hk; exact Blk.ne hblk hc (by decide) hg.symm
  have hltO := own_lt h.fly
  have hfly := h.fly
  have hglt := hblk.lt
  have hgL : ¬ vL.ownBlock = some g := fun hh => hnewO g hh rfl
  have hu8 : ∀ b cur, Blk w b 5 cur → ¬ (b = g ∨ vL.ownBlock = some b) := by
    rintro b cur hk (rfl | hg)
    · exact Blk.ne hblk hk (by decide) rfl
    · obtain ⟨cur', hc⟩ := own_typ h.fly b hg
      exact Blk.ne hc hk (by decide) rfl
  have hwc : ∀ (w' : World) (vF' vL' : Value), Evt (fun k => k = g ∨ vL.ownBlock = some k) w w' → Tail w' 5 vF' (u8s N.fates.tail) → (∀ k, tailBlk vF' = some k → tailBlk vF = some k) → Blk w' g 56 [.int .i64 N.now, vF', vL', vC, .map (some mp)] → w'.ownsRow 0 59 4 vL' (handN N m).fly.length (flCs (handN N m).fly) → (∀ k, vL'.ownBlock = some k → vL.ownBlock = some k ∨ (w.heap.size ≤ k ∧ k < w'.heap.size)) →
      (∃ vF' vL', NetV w' (fun k => F k ∨ (w.heap.size ≤ k ∧ k < w'.heap.size)) g (handN N m) vF' vL' vC mp ∧ ∀ k, tailBlk vF' = some k → tailBlk vF = some k) ∧ Evt (fun k => k = g ∨ vL.ownBlock = some k) w w' := by
    intro w' vF' vL' he hT hTs hB hL hLs
    have hmb : ∀ x ∈ copies (N.fates.headD 49) m, x.A = m.A ∧ x.body = m.body := by
      intro x hx
      unfold copies at hx
      split at hx
      · simp at hx
      · split at hx
        · simp only [List.mem_cons, List.not_mem_nil, or_false] at hx
          rcases hx with rfl | rfl <;> exact ⟨rfl, rfl⟩
        · simp only [List.mem_cons, List.not_mem_nil, or_false] at hx
          subst hx
          exact ⟨rfl, rfl⟩
    have hbe : ∀ {A : Option Addr} {body : List Int}, BodyAt w F (tailBlk vF) A body → BodyAt w' (fun k => F k ∨ (w.heap.size ≤ k ∧ k < w'.heap.size)) (tailBlk vF') A body := fun hb =>
      hb.evt he (fun b cur hk _ _ => hu8 b cur hk) (fun _ h => .inl h) (fun b _ hn hh => hn (hTs b hh))
    refine ⟨⟨vF', vL', ⟨hB, hT, hL, ?_, ?_, .inl h.fg, .inl h.fm, fun k hk => .inl (h.ff k (hTs k hk)), ?_, fun k hk => .inl (h.fa k hk), ?_, fun x hx => hbe (h.fc x hx), ?_⟩, hTs⟩, he⟩
    · refine own_evt he h.acc (fun k hk => ?_)
      obtain ⟨cur, hc⟩ := own_typ h.acc k hk
      rintro (rfl | hg)
      · exact Blk.ne hblk hc (by decide) rfl
      · obtain ⟨cur', hc'⟩ := own_typ h.fly k hg
        exact Blk.ne hc' hc (by decide) rfl
    · refine h.seen.evt he ?_
      rintro (hg | hg)
      · exact h.seen.ne hblk hg.symm
      · obtain ⟨cur', hc'⟩ := own_typ h.fly mp hg
        exact h.seen.ne hc' rfl
    · intro k hk
      rcases hLs k hk with h1 | h1
      · exact .inl (h.fl k h1)
      · exact .inr h1
    · intro x hx
      rcases List.mem_append.1 hx with h1 | h1
      · exact hbe (h.fb x h1)
      · obtain ⟨e1, e2⟩ := hmb x h1
        rw [e1, e2]
        exact hbe hb
    · rintro k (hk | hk)
      · exact Nat.lt_of_lt_of_le (h.lt k hk) he.size
      · exact hk.2
  go_enter Try.func28, Try.ntmps28
  repeat' (first | (with_reducible refine' stop_at (id := 2) ?_) | (with_reducible (first | refine' wp_seq ?_ | refine' wp_region_lit ?_ | refine' wpList_nil ?_ | refine' then_normal ?_)) | ((with_reducible refine' l_step ?_); ((with_reducible refine' g_assign ?_); (conv => arg 5; simp only [zA, zB, ev, lget, zC, zD, zE, zF, zG, zH, zI, zJ, zK, zL, zM, zN, zO]))) | (((with_reducible refine' e_boxA ?hx ?_); (case hx => rfl)); intro _ _ _ _ _ _ _; (conv => arg 5; simp only [zA, zB, ev, lget, zC, zD, zE, zF, zG, zH, zI, zJ, zK, zL, zM, zN, zO])))
  rename_i gf wf f1 f2 hgf hevf hzf
  refine stop_go ?_
  have hblkf : Blk wf g 56 [.int .i64 N.now, vF, vL, vC, .map (some mp)] := by exact bqq
  refine' s_cut [4, 5, 6, 7, 8, 9, 10, 11, 12, 13, 14, 15, 16, 17, 18, 19, 20, 21, 22, 23, 24] (fun u w' => ∃ vF', u 4 = .int .u8 (N.fates.headD 49) ∧ Blk w' g 56 [.int .i64 N.now, vF', vL, vC, .map (some mp)] ∧ Tail w' 5 vF' (u8s N.fates.tail) ∧ (∀ k, tailBlk vF' = some k → tailBlk vF = some k) ∧ Evt (fun k => k = g) wf w') ?k1 ?k2
  case k1 =>
    obtain ⟨A, c, hvF, hfr⟩ := h.fates.ok
    rw [u8s_length] at hvF
    have hfok := (h.fates).up hevf
    have hfc := hfr.1
    rw [u8s_length] at hfc
    clear hfr hwc h hfly
    cases hf : N.fates with
    | nil =>
      rw [hf] at hvF hfok
      simp only [List.length_nil] at hvF
      subst hvF
      repeat' (first | (with_reducible (first | refine' wp_seq ?_ | refine' wp_region_lit ?_ | refine' wpList_nil ?_ | refine' then_normal ?_ | refine' wp_skip ?_)) | ((with_reducible refine' c_condF ?hx ?_); (case hx => rfl)) | ((with_reducible refine' l_step ?_); (first | ((first | (with_reducible refine' g_move ?_) | ((with_reducible refine' g_fieldAddr ?hx ?ho ?_); (case hx => rfl); (case ho => rfl)) | ((with_reducible refine' g_loadB ?hx ?hb ?hc ?_); (case hx => rfl); (case hb => exact bqq); first | (case hc => rfl) | (case hn => simp only [List.length_cons, List.length_nil]; omega)) | ((with_reducible refine' g_nilCheckP ?hx ?_); (case hx => rfl)) | ((with_reducible refine' g_lenS ?hx ?_); (case hx => rfl))); (conv => arg 5; simp only [zA, zB, ev, lget, zC, zD, zE, zF, zG, zH, zI, zJ, zK, zL, zM, zN, zO])) | (((with_reducible refine' g_gtr ?hx ?hy (fun _ => ?_) (fun _ => ?_)); (case hx => rfl)); (case hy => rfl); all_goals (first | (exfalso; omega) | (conv => arg 5; simp only [zA, zB, ev, lget, zC, zD, zE, zF, zG, zH, zI, zJ, zK, zL, zM, zN, zO]))))))
      exact ⟨_, rfl, by simp only [setW, List.foldl_cons, List.foldl_nil, List.set_cons_succ, List.set_cons_zero], _, rfl, by exact bqq, hfok, fun _ h => h, Evt.refl _ _⟩
    | cons f fs =>
      rw [hf] at hvF hfok
      simp only [List.length_cons] at hvF
      subst hvF
      have htl := Tail.tl (x := .int .u8 f) (xs := u8s fs) hfok
      obtain ⟨b, o, rfl, hcell⟩ := (Tail.rc hfok) (by simp [u8s])
      have hcell0 := hcell 0 (.int .u8 f) rfl
      rw [Nat.add_zero] at hcell0
      have hbg : ¬ b = g := by
        obtain ⟨cur, hc⟩ := hfok.typ b (tailBlk_some (by rw [hf] at hfc; simp only [List.length_cons] at hfc; omega))
        exact fun hh => Blk.ne hblkf hc (by decide) hh.symm
      repeat' (first | ((with_reducible refine' w_tree (id := 3) (fun k => k = g) (.pure 0 (.pure 1 (.pure 2 (.pure 3 (.pure 7 (.pure 8 (.pure 9 (.two 4 (.pure 5 (.pure 6 (.pure 12 (.one 10 (.pure 11 (.pure 13 (.pure 14 (.one 15 .done)))))))) 10 (.pure 11 (.one 4 (.pure 5 (.pure 6 (.pure 12 (.pure 13 (.pure 14 (.one 15 .done)))))))))))))))) [4, 11, 12, 13, 14, 15, 16, 17, 18, 19, 20, 21, 22, 23, 24] (fun u w' => u 4 = .int .u8 f ∧ Blk w' g 56 [.int .i64 N.now, .slice (from_ (some ⟨b, o, none⟩) c 1 1) (fs.length + 1 - 1) (c - 1), vL, vC, .map (some mp)]) ?hm ?hn ?hl ?hB ?ta3 ?tb3); (case hm => kernel_rfl); (case hn => kernel_rfl); (case hl => kernel_rfl); (case hB => kernel_rfl); intro _ _ _) | ((with_reducible refine' tt_pure ?hi ?hv ?_); (case hi => rfl); (case hv => intro _ hqS; have hqz := hqS.size; ((first | (with_reducible refine' g_move ?_) | (with_reducible refine' g_assign ?_) | ((with_reducible refine' g_fieldAddr ?hx ?ho ?_); (case hx => rfl); (case ho => rfl)) | ((with_reducible refine' g_loadC ?hx ?hc ?_); (case hx => rfl); (case hc => exact cqq)) | ((with_reducible refine' g_nilCheckP ?hx ?_); (case hx => rfl)) | ((first | (with_reducible refine' g_indexAddr ?hx ?hy ?h0 ?h1 ?_) | (with_reducible refine' g_sliceLA ?hx ?hy ?h0 ?h1 ?_)); (case hx => rfl); (case hy => rfl); (case h0 => omega); (case h1 => omega))); exact rfl)); (conv => arg 6; simp only [zA, zB, ev, lget, zC, zD, zE, zF, zG, zH, zI, zJ, zK, zL, zM, zN, zO])) | ((with_reducible refine' tt_one ?hi ?_); (case hi => rfl)) | ((with_reducible refine' tt_two ?hi ?hj ?_ ?_); (case hi => rfl); (case hj => rfl)) | ((with_reducible refine' tt_done ?hS ?_); (case hS => exact eqq)) | (with_reducible refine' tt_nil ?_) | (with_reducible (first | refine' wp_seq ?_ | refine' wp_region_lit ?_ | refine' wpList_nil ?_ | refine' then_normal ?_)) | ((with_reducible refine' c_condT ?hx ?_); (case hx => rfl)) | ((with_reducible refine' l_step ?_); (first | ((first | (with_reducible refine' g_move ?_) | ((with_reducible refine' g_fieldAddr ?hx ?ho ?_); (case hx => rfl); (case ho => rfl)) | ((with_reducible refine' g_loadB ?hx ?hb ?hc ?_); (case hx => rfl); (case hb => exact bqq); first | (case hc => rfl) | (case hn => simp only [List.length_cons, List.length_nil]; omega)) | ((with_reducible refine' g_nilCheckP ?hx ?_); (case hx => rfl)) | ((with_reducible refine' g_lenS ?hx ?_); (case hx => rfl))); (conv => arg 5; simp only [zA, zB, ev, lget, zC, zD, zE, zF, zG, zH, zI, zJ, zK, zL, zM, zN, zO])) | (((with_reducible refine' g_gtr ?hx ?hy (fun _ => ?_) (fun _ => ?_)); (case hx => rfl)); (case hy => rfl); all_goals (first | (exfalso; omega) | (conv => arg 5; simp only [zA, zB, ev, lget, zC, zD, zE, zF, zG, zH, zI, zJ, zK, zL, zM, zN, zO]))))) | ((first | ((with_reducible refine' e_storeB ?hx ?hy ?hv ?h1 ?hb ?ho ?_); (case hx => rfl); (case hy => ((try simp only [ev, lget]); (try rfl))); (case hv => rfl); (case h1 => rfl)) | ((with_reducible refine' e_storeR ?hx ?hy ?h1 ?hb ?hn ?ho ?_); (case hx => rfl); (case hy => rfl); (case h1 => simp [Value.oneCell']); (case hn => rfl))); (case hb => exact bqq); (case ho => first | (simp only [List.length_cons, List.length_nil]; omega) | omega | (simp; omega) | simp); (try simp only [splice, zA, zB]); intro _ _ _ _))
      all_goals try exact ⟨_, rfl, by simp only [setW, List.foldl_cons, List.foldl_nil, List.set_cons_succ, List.set_cons_zero], rfl, by exact bqq⟩
      rintro u w3 hev3 hz3 ⟨h4, hb3⟩
      simp only [setW, List.foldl_cons, List.foldl_nil, List.set_cons_succ, List.set_cons_zero]
      simp only [h4]
      repeat' (first | (with_reducible refine' then_normal ?_))
      refine ⟨_, rfl, by simp only [setW, List.foldl_cons, List.foldl_nil, List.set_cons_succ, List.set_cons_zero], _, rfl, hb3, ?_, htl.2, by exact eqq⟩
      refine htl.1.evt (S := fun k => k = g) (by exact eqq) (fun k hk hg => ?_)
      obtain ⟨cur, hc⟩ := htl.1.typ k hk
      exact Blk.ne hblkf hc (by decide) hg.symm
  case k2 =>
    rintro u w3 ⟨vF', h4, hblk3, hT3, hTs, hev3⟩
    have hz3 := hev3.size
    have hgf3 : Blk w3 gf 59 (flC m) := hgf.evt hev3 (by omega)
    simp only [setW, List.foldl_cons, List.foldl_nil, List.set_cons_succ, List.set_cons_zero]
    simp only [h4]
    have hlf : N.fates.headD 49 = 120 ∨ N.fates.headD 49 = 100 ∨ (49 ≤ N.fates.headD 49 ∧ N.fates.headD 49 ≤ 57) := by
      cases hf : N.fates with
      | nil => right; right; simp
      | cons f fs => exact hl f (by rw [hf]; simp)
    have hgfT : ¬ (gf = g ∨ vL.ownBlock = some gf) := by
      rintro (h1 | h1)
      · omega
      · have := hltO gf h1; omega
    have hfl : (handN N m).fly = N.fly ++ copies (N.fates.headD 49) m := rfl
    generalize N.fates.headD 49 = f at *
    have hev3' : Evt (fun k => k = g) w w3 := by exact eqq
    clear hgf hevf hev3
    have hev03 : Evt (fun k => k = g ∨ vL.ownBlock = some k) w w3 := hev3'.mono fun _ _ h => .inl h
    have hTu : ∀ k, tailBlk vF' = some k → ¬ (k = g ∨ vL.ownBlock = some k) := fun k hk => by
      obtain ⟨cur, hc⟩ := h.fates.typ k (hTs k hk)
      exact hu8 k cur hc
    have hfl3 : w3.ownsRow 0 59 4 vL N.fly.length (flCs N.fly) := own_evt hev3' h.fly (fun k hk hg => hnewO k hk hg)
    clear hfly
    have hnewO : ∀ k, vL.ownBlock = some k → k ≠ g ∧ k ≠ gf := fun k hk => ⟨hnewO k hk, by have := hltO k hk; omega⟩
    have hltO := own_lt hfl3
    repeat' (first | ((with_reducible refine' w_tree (id := 6) (fun k => k = g ∨ vL.ownBlock = some k) (.pure 0 (.pure 1 (.pure 2 (.pure 3 (.pure 5 (.two 4 (.one 6 (.one 7 (.pure 8 (.pure 9 (.one 10 .done))))) 6 (.one 4 (.one 7 (.pure 8 (.pure 9 (.one 10 .done))))))))))) [30, 31, 32, 33, 34, 35, 36, 37, 38, 39] (fun u w' => ∃ V2 d2, Blk w' g 56 [.int .i64 N.now, vF', .slice V2 (N.fly.length + 1) d2, vC, .map (some mp)] ∧ w'.ownsRow 0 59 4 (.slice V2 (N.fly.length + 1) d2) (N.fly.length + 1) (flCs N.fly ++ flC { m with left := f - 48 }) ∧ (∀ k, (Value.slice V2 (N.fly.length + 1) d2).ownBlock = some k → vL.ownBlock = some k ∨ (w3.heap.size ≤ k ∧ k < w'.heap.size))) ?hm ?hn ?hl ?hB ?ta6 ?tb6); (case hm => kernel_rfl); (case hn => kernel_rfl); (case hl => kernel_rfl); (case hB => kernel_rfl); intro _ _ _) | ((with_reducible refine' tt_pure ?hi ?hv ?_); (case hi => rfl); (case hv => intro _ hqS; have hqz := hqS.size; ((first | (with_reducible refine' g_move ?_) | ((with_reducible refine' g_fieldAddr ?hx ?ho ?_); (case hx => rfl); (case ho => rfl)) | ((with_reducible refine' g_loadS ?hx ?hb ?hn ?_); (case hx => rfl); (case hb => exact bqq); first | (case hc => rfl) | (case hn => simp only [List.length_cons, List.length_nil]; omega)) | ((with_reducible refine' g_nilCheckP ?hx ?_); (case hx => rfl))); exact rfl)); (conv => arg 6; simp only [zA, zB, ev, lget, zC, zD, zE, zF, zG, zH, zI, zJ, zK, zL, zM, zN, zO])) | ((with_reducible refine' tt_one ?hi ?_); (case hi => rfl)) | ((with_reducible refine' tt_two ?hi ?hj ?_ ?_); (case hi => rfl); (case hj => rfl)) | ((with_reducible refine' tt_done ?hS ?_); (case hS => exact eqq)) | (with_reducible refine' tt_nil ?_) | ((with_reducible refine' w_tree (id := 10) (fun k => k = g ∨ vL.ownBlock = some k) (.pure 0 (.pure 1 (.pure 2 (.pure 3 (.pure 5 (.two 4 (.one 6 (.one 7 (.pure 8 (.pure 9 (.one 10 .done))))) 6 (.one 4 (.one 7 (.pure 8 (.pure 9 (.one 10 .done))))))))))) [45, 46, 47, 48, 49, 50, 51, 52, 53, 54] (fun u w' => ∃ V2 d2, Blk w' g 56 [.int .i64 N.now, vF', .slice V2 (N.fly.length + 1) d2, vC, .map (some mp)] ∧ w'.ownsRow 0 59 4 (.slice V2 (N.fly.length + 1) d2) (N.fly.length + 1) (flCs N.fly ++ flC { m with left := 1 }) ∧ (∀ k, (Value.slice V2 (N.fly.length + 1) d2).ownBlock = some k → vL.ownBlock = some k ∨ (w3.heap.size ≤ k ∧ k < w'.heap.size))) ?hm ?hn ?hl ?hB ?ta10 ?tb10); (case hm => kernel_rfl); (case hn => kernel_rfl); (case hl => kernel_rfl); (case hB => kernel_rfl); intro _ _ _) | (((with_reducible refine' e_append ?hx ?hy ?hzs ?hsz ?hown ?hl ?hnews ?h1 ?hb ?hm ?_); (case hx => ((try simp only [ev, lget]); (try rfl))); (case hy => rfl); (case hzs => rfl); (case hsz => decide); (case hown => exact oqq); (case hnews => refine' blk_src ?hbb; (case hbb => exact bqq)); (case hl => rfl); (case h1 => simp [Value.oneCell']); (case hb => omega); (case hm => omega); intro vA wA hoA heA hnA haA hzA; (conv => arg 5; simp only [zA, zB, ev, lget, zC, zD, zE, zF, zG, zH, zI, zJ, zK, zL, zM, zN, zO])); have hlA := own_lt hoA; obtain ⟨VA, dA, hVA⟩ := own_slice hoA; subst hVA) | (with_reducible (first | refine' wp_seq ?_ | refine' wp_region_lit ?_ | refine' wpList_nil ?_ | refine' then_normal ?_ | refine' wp_block ?_ | refine' wp_skip ?_ | refine' in_normal ?_)) | ((with_reducible refine' c_condT ?hx ?_); (case hx => rfl)) | ((with_reducible refine' c_condF ?hx ?_); (case hx => rfl)) | ((with_reducible refine' b_end0 ?hr ?_); (case hr => rfl)) | ((with_reducible refine' l_step ?_); (first | ((first | ((with_reducible refine' g_convI ?hx ?h0 ?h1 ?_); (case hx => rfl); (case h0 => omega); (case h1 => omega)) | ((with_reducible refine' g_subU8 ?hx ?hy ?h0 ?h1 ?_); (case hx => rfl); (case hy => rfl); (case h0 => omega); (case h1 => omega)) | (with_reducible refine' g_move ?_) | (with_reducible refine' g_assign ?_) | ((with_reducible refine' g_fieldAddr ?hx ?ho ?_); (case hx => rfl); (case ho => rfl)) | ((with_reducible refine' g_loadB ?hx ?hb ?hc ?_); (case hx => rfl); (case hb => exact bqq); first | (case hc => rfl) | (case hn => simp only [List.length_cons, List.length_nil]; omega))); (conv => arg 5; simp only [zA, zB, ev, lget, zC, zD, zE, zF, zG, zH, zI, zJ, zK, zL, zM, zN, zO])) | (((with_reducible refine' g_eql ?hx ?hy (fun _ => ?_) (fun _ => ?_)); (case hx => rfl)); (case hy => rfl); all_goals (first | (exfalso; omega) | (conv => arg 5; simp only [zA, zB, ev, lget, zC, zD, zE, zF, zG, zH, zI, zJ, zK, zL, zM, zN, zO]))))) | (((with_reducible refine' e_sliceLit ?hx ?hi ?hv ?hn ?_); (case hx => simp only [zC, zD, ev, lget]; (try rfl)); (case hi => rfl); (case hv => simp [Value.cells]); (case hn => decide); simp only [List.flatMap_cons, List.flatMap_nil, Value.cells, List.cons_append, List.nil_append]); intro _ _ _ _ _ _ _; (conv => arg 5; simp only [zA, zB, ev, lget, zC, zD, zE, zF, zG, zH, zI, zJ, zK, zL, zM, zN, zO])) | ((first | ((with_reducible refine' e_storeB ?hx ?hy ?hv ?h1 ?hb ?ho ?_); (case hx => rfl); (case hy => ((try simp only [ev, lget]); (try rfl))); (case hv => rfl); (case h1 => rfl)) | ((with_reducible refine' e_storeR ?hx ?hy ?h1 ?hb ?hn ?ho ?_); (case hx => rfl); (case hy => rfl); (case h1 => simp [Value.oneCell']); (case hn => rfl))); (case hb => exact bqq); (case ho => first | (simp only [List.length_cons, List.length_nil]; omega) | omega | (simp; omega) | simp); (try simp only [splice, zA, zB]); intro _ _ _ _))
    all_goals try exact ⟨_, rfl, by simp only [setW, List.foldl_cons, List.foldl_nil, List.set_cons_succ, List.set_cons_zero], VA, dA, by assumption, own_evt (S := fun k => k = g) (by assumption) hoA (own_ne (fun k hk => (hnewO k hk).1) haA (by omega)), own_in (B := w3.heap.size) haA hlA (by omega) (by omega)⟩
    · -- x
      have hc : copies f m = [] := by rw [copies, if_pos (by assumption)]
      rw [hc, List.append_nil] at hfl
      refine ⟨rfl, hwc w3 vF' vL hev03 hT3 hTs hblk3 ?_ (fun k hk => .inl hk)⟩
      rw [hfl]
      exact hfl3
    · -- d
      rename_i x1 x2 wL hbL hevL hzL
      rintro u4 w4 hev4 hz4 ⟨V2, d2, hb4, ho4, hin4⟩
      have hnewO' : ∀ k, (Value.slice V2 (N.fly.length + 1) d2).ownBlock = some k → k ≠ g ∧ k ≠ gf := fun k hk => by
        rcases hin4 k hk with h1 | h1
        · exact hnewO k h1
        · omega
      have hgf4 : Blk w4 gf 59 (flC { m with left := 1 }) := hbL.evt hev4 hgfT
      have hT4 : Tail w4 5 vF' (u8s N.fates.tail) := (hT3.evt hevL (fun k hk hg => by have := h.fates.lt k (hTs k hk); have h' : k = gf := hg; omega)).evt hev4 hTu
      have hev04 : Evt (fun k => k = g ∨ vL.ownBlock = some k) w w4 := Evt.next hev4 (Evt.next hevL hev03 (fun i hi h => by exfalso; have h' : i = gf := h; omega)) (fun _ _ h => h)
      clear hev4 hevL hev03 hev3' hbL hgf3 hblk3 hT3 hfl3
      have hnewO := hnewO'
      have hltO := own_lt ho4
      have hgL : ¬ (Value.slice V2 (N.fly.length + 1) d2).ownBlock = some g := fun hh => (hnewO g hh).1 rfl
      have hgfT : ¬ (gf = g ∨ (Value.slice V2 (N.fly.length + 1) d2).ownBlock = some gf) := by
        rintro (h1 | h1)
        · omega
        · exact (hnewO gf h1).2 rfl
      simp only [setW, List.foldl_cons, List.foldl_nil, List.set_cons_succ, List.set_cons_zero]
      repeat' (first | ((with_reducible refine' w_tree (id := 12) (fun k => k = g ∨ (Value.slice V2 (N.fly.length + 1) d2).ownBlock = some k) (.pure 0 (.pure 1 (.pure 2 (.pure 3 (.pure 5 (.two 4 (.one 6 (.one 7 (.pure 8 (.pure 9 (.one 10 .done))))) 6 (.one 4 (.one 7 (.pure 8 (.pure 9 (.one 10 .done))))))))))) [56, 57, 58, 59, 60, 61, 62, 63, 64, 65] (fun u w' => ∃ V3 d3, Blk w' g 56 [.int .i64 N.now, vF', .slice V3 (N.fly.length + 1 + 1) d3, vC, .map (some mp)] ∧ w'.ownsRow 0 59 4 (.slice V3 (N.fly.length + 1 + 1) d3) (N.fly.length + 1 + 1) (flCs N.fly ++ flC { m with left := 1 } ++ flC { m with left := 2 }) ∧ (∀ k, (Value.slice V3 (N.fly.length + 1 + 1) d3).ownBlock = some k → (Value.slice V2 (N.fly.length + 1) d2).ownBlock = some k ∨ (w3.heap.size ≤ k ∧ k < w'.heap.size))) ?hm ?hn ?hl ?hB ?ta12 ?tb12); (case hm => kernel_rfl); (case hn => kernel_rfl); (case hl => kernel_rfl); (case hB => kernel_rfl); intro _ _ _) | ((with_reducible refine' tt_pure ?hi ?hv ?_); (case hi => rfl); (case hv => intro _ hqS; have hqz := hqS.size; ((first | (with_reducible refine' g_move ?_) | ((with_reducible refine' g_fieldAddr ?hx ?ho ?_); (case hx => rfl); (case ho => rfl)) | ((with_reducible refine' g_loadS ?hx ?hb ?hn ?_); (case hx => rfl); (case hb => exact bqq); first | (case hc => rfl) | (case hn => simp only [List.length_cons, List.length_nil]; omega)) | ((with_reducible refine' g_nilCheckP ?hx ?_); (case hx => rfl))); exact rfl)); (conv => arg 6; simp only [zA, zB, ev, lget, zC, zD, zE, zF, zG, zH, zI, zJ, zK, zL, zM, zN, zO])) | ((with_reducible refine' tt_one ?hi ?_); (case hi => rfl)) | ((with_reducible refine' tt_two ?hi ?hj ?_ ?_); (case hi => rfl); (case hj => rfl)) | ((with_reducible refine' tt_done ?hS ?_); (case hS => exact eqq)) | (with_reducible refine' tt_nil ?_) | (((with_reducible refine' e_append ?hx ?hy ?hzs ?hsz ?hown ?hl ?hnews ?h1 ?hb ?hm ?_); (case hx => ((try simp only [ev, lget]); (try rfl))); (case hy => rfl); (case hzs => rfl); (case hsz => decide); (case hown => exact oqq); (case hnews => refine' blk_src ?hbb; (case hbb => exact bqq)); (case hl => rfl); (case h1 => simp [Value.oneCell']); (case hb => omega); (case hm => omega); intro vA wA hoA heA hnA haA hzA; (conv => arg 5; simp only [zA, zB, ev, lget, zC, zD, zE, zF, zG, zH, zI, zJ, zK, zL, zM, zN, zO])); have hlA := own_lt hoA; obtain ⟨VA, dA, hVA⟩ := own_slice hoA; subst hVA) | (with_reducible (first | refine' wp_seq ?_ | refine' wp_region_lit ?_ | refine' wpList_nil ?_ | refine' then_normal ?_)) | ((with_reducible refine' l_step ?_); ((first | ((with_reducible refine' g_fieldAddr ?hx ?ho ?_); (case hx => rfl); (case ho => rfl)) | ((with_reducible refine' g_loadB ?hx ?hb ?hc ?_); (case hx => rfl); (case hb => exact bqq); first | (case hc => rfl) | (case hn => simp only [List.length_cons, List.length_nil]; omega))); (conv => arg 5; simp only [zA, zB, ev, lget, zC, zD, zE, zF, zG, zH, zI, zJ, zK, zL, zM, zN, zO]))) | (((with_reducible refine' e_sliceLit ?hx ?hi ?hv ?hn ?_); (case hx => simp only [zC, zD, ev, lget]; (try rfl)); (case hi => rfl); (case hv => simp [Value.cells]); (case hn => decide); simp only [List.flatMap_cons, List.flatMap_nil, Value.cells, List.cons_append, List.nil_append]); intro _ _ _ _ _ _ _; (conv => arg 5; simp only [zA, zB, ev, lget, zC, zD, zE, zF, zG, zH, zI, zJ, zK, zL, zM, zN, zO])) | ((first | ((with_reducible refine' e_storeB ?hx ?hy ?hv ?h1 ?hb ?ho ?_); (case hx => rfl); (case hy => ((try simp only [ev, lget]); (try rfl))); (case hv => rfl); (case h1 => rfl)) | ((with_reducible refine' e_storeR ?hx ?hy ?h1 ?hb ?hn ?ho ?_); (case hx => rfl); (case hy => rfl); (case h1 => simp [Value.oneCell']); (case hn => rfl))); (case hb => exact bqq); (case ho => first | (simp only [List.length_cons, List.length_nil]; omega) | omega | (simp; omega) | simp); (try simp only [splice, zA, zB]); intro _ _ _ _))
      all_goals try exact ⟨_, rfl, by simp only [setW, List.foldl_cons, List.foldl_nil, List.set_cons_succ, List.set_cons_zero], VA, dA, by assumption, own_evt (S := fun k => k = g) (by assumption) hoA (own_ne (fun k hk => (hnewO k hk).1) haA (by omega)), own_in (B := w3.heap.size) haA hlA (by omega) (by omega)⟩
      rename_i wM hbM hevM hzM
      rintro u5 w5 hev5 hz5 ⟨V3, d3, hb5, ho5, hin5⟩
      have hTu2 : ∀ k, tailBlk vF' = some k → ¬ (k = g ∨ (Value.slice V2 (N.fly.length + 1) d2).ownBlock = some k) := fun k hk => by
        have h1 := hTu k hk
        have h2 := h.fates.lt k (hTs k hk)
        rintro (h3 | h3)
        · exact h1 (.inl h3)
        · rcases hin4 k h3 with h4 | h4
          · exact h1 (.inr h4)
          · omega
      have hT5 := (hT4.evt hevM (fun k hk hg => by have := h.fates.lt k (hTs k hk); have h' : k = gf := hg; omega)).evt hev5 hTu2
      have hev05 : Evt (fun k => k = g ∨ vL.ownBlock = some k) w w5 := Evt.next hev5 (Evt.next hevM hev04 (fun i hi h => by exfalso; have h' : i = gf := h; omega)) (by
        rintro i hi (h3 | h3)
        · exact .inl h3
        · rcases hin4 i h3 with h4 | h4
          · exact .inr h4
          · omega)
      simp only [setW, List.foldl_cons, List.foldl_nil, List.set_cons_succ, List.set_cons_zero]
      repeat' (first | (with_reducible refine' in_normal ?_) | ((with_reducible refine' b_end0 ?hr ?_); (case hr => rfl)))
      have hc : copies f m = [{ m with left := 1 }, { m with left := 2 }] := by rw [copies, if_neg (by assumption), if_pos (by assumption)]
      refine ⟨rfl, hwc w5 vF' (.slice V3 (N.fly.length + 1 + 1) d3) hev05 hT5 hTs hb5 ?_ (fun k hk => ?_)⟩
      · rw [hfl, hc, List.length_append]
        simpa [flCs] using ho5
      · rcases hin5 k hk with h3 | h3
        · rcases hin4 k h3 with h4 | h4
          · exact .inl h4
          · exact .inr (by omega)
        · exact .inr (by omega)
    · -- one
      rename_i x1 x2 wL hbL hevL hzL
      rintro u4 w4 hev4 hz4 ⟨V2, d2, hb4, ho4, hin4⟩
      have hT4 : Tail w4 5 vF' (u8s N.fates.tail) := (hT3.evt hevL (fun k hk hg => by have := h.fates.lt k (hTs k hk); have h' : k = gf := hg; omega)).evt hev4 hTu
      have hev04 : Evt (fun k => k = g ∨ vL.ownBlock = some k) w w4 := Evt.next hev4 (Evt.next hevL hev03 (fun i hi h => by exfalso; have h' : i = gf := h; omega)) (fun _ _ h => h)
      simp only [setW, List.foldl_cons, List.foldl_nil, List.set_cons_succ, List.set_cons_zero]
      repeat' (first | (with_reducible refine' in_normal ?_) | ((with_reducible refine' b_end0 ?hr ?_); (case hr => rfl)))
      have hc : copies f m = [{ m with left := f - 48 }] := by rw [copies, if_neg (by assumption), if_neg (by assumption)]
      refine ⟨rfl, hwc w4 vF' (.slice V2 (N.fly.length + 1) d2) hev04 hT4 hTs hb4 ?_ (fun k hk => ?_)⟩
      · rw [hfl, hc, List.length_append]
        simpa [flCs] using ho4
      · rcases hin4 k hk with h4 | h4
        · exact .inl h4
        · exact .inr (by omega)
end Go.Proofs.Ytmngcpackbekiaa
