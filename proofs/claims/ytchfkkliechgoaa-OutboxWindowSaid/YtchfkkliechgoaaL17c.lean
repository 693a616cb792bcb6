/- OutboxWindow, walked. SHORT NORMX -/
import Derived.Test.YtchfkkliechgoaaWin17
namespace Go.Proofs.Ytchfkkliechgoaa
open Go.RowKit Go.Proofs.YtchfkkliechgoaaE
set_option linter.unusedSimpArgs false
set_option linter.unusedVariables false
set_option maxRecDepth 4000

section
variable {P : Program} {ops : Array Oper} {rest : List Oper} {w : World} {Q : Exit → Act → World → Prop} {ty : TypeId} {pos : String} {aft : Array Edge} {l : List Value} {ds : List Deferred} {N : Tmp}
/-- make([]int, n) -/
theorem e_makeI {t e : TypeId} {x y : Operand} {bytes n : Nat} (hx : ev l x = .int .i64 n) (hy : ev l y = .int .i64 n) [ht : TSlice P t e 1 bytes] [hz : TZero P e (.int .i64 0)] (hb : n * bytes ≤ 281474976710656) (hn : n ≤ 9223372036854775807)
    (h : ∀ g w1, w.heap.size ≤ g → g < w1.heap.size → Blk w1 g e (ints (List.replicate n 0)) → Evt (fun _ => False) w w1 → w.heap.size ≤ w1.heap.size → wpList P ops Q rest ⟨(l.set N (.slice (some ⟨g, 0, none⟩) n n)).toArray, ds⟩ w1) :
    wpList P ops Q (⟨some N, .makeSlice t x y, ty, pos, aft, none⟩ :: rest) ⟨l.toArray, ds⟩ w := by
  have hi := ht.info
  have hz' := hz.ok
  cases hq : P.info? e with
  | none => simp [hq] at hi
  | some inf =>
    simp only [hq, Option.map_some, Option.some.injEq, Prod.mk.injEq] at hi hz'
    have hby : (inf.bytes : Int) * (n : Int) ≤ 281474976710656 := by
      rw [hi.2]
      have h' : ((n * bytes : Nat) : Int) ≤ 281474976710656 := by omega
      rw [Int.natCast_mul] at h'
      rw [Int.mul_comm]
      exact h'
    have hrun := run_make (P := P) w t e inf (.int .i64 0) ht.ok hq hz' .i64 .i64 n n (by omega) (by omega) hby (by omega)
    simp only [Int.toNat_natCast] at hrun
    have hcs : (madeCells (Value.int .i64 0).cells (n * inf.size)).toList = ints (List.replicate n 0) := by
      rw [hi.1, Nat.mul_one]
      simp [madeCells, ints, Value.cells, Nat.mod_one, List.map_const']
    refine l_event (v := .slice (some ⟨w.heap.size, 0, none⟩) n n) (w' := w.alloc (.cells (madeCells (Value.int .i64 0).cells (n * inf.size)) e)) ?_ (h _ _ (Nat.le_refl _) (by simp) ?_ (Evt.alloc _ _) (by simp))
    · simp only [execOp, hx, hy, Sem.run_bind, hrun, Result.andThen_ok]
      first | rfl | simp
    · rw [← hcs]
      exact heap_alloc_new w _
end
set_option maxHeartbeats 4000000 in
theorem OutboxWindow_walk (p : Pol) (A : Option Addr) (c : Nat) (B : Option Addr) (life : List Sm) (cB : Nat) (w : World) (hr : RI w A p.hs) (hsz : p.hs.length * 8 ≤ 140737488351232) (hlf : LifeAt w B life) (hn1 : life.length ≤ 9223372036854775807) :
    Calls Try.prog 9 #[.agg (polC p A c).toArray, .slice B life.length cB] w fun e w' => e = .returned (.bool true) ∧ Evt (fun _ => False) w w' := by
  obtain ⟨l, now, hS⟩ : ∃ l now, livesP p life = (l, now) := ⟨_, _, rfl⟩
  have hnx : goodP p = true → ∀ e ∈ l, e.nxt ≤ now + p.retryCap := fun h => by
    have h1 := lives_nxt h life
    rw [hS] at h1
    exact h1
  have hlv : ∀ w0, RI w0 A p.hs → LifeAt w0 B life → Calls Try.prog 21 #[.agg (polC p A c).toArray, .slice B life.length cB] w0 fun e w' => ∃ gb n, e = .returned (.tuple #[.pointer (some ⟨gb, 0, none⟩), .int .i64 now]) ∧ NB w0 w' gb n p l ∧ (n ≤ 2000 ∧ 0 ≤ now ∧ now ≤ 2000000) ∧ Evt (fun _ => False) w0 w' := fun w0 h1 h2 => by
    refine (lives_any p A B c cB _ life w0 h1 hsz h2 rfl hn1).mono ?_
    rw [hS]
    rintro e w' ⟨gb, n, h3, h4, h5, h6, h7⟩
    exact ⟨gb, n, h3, h4, ⟨h5, h6⟩, h7⟩
  go_enter Try.func9, Try.ntmps9
  repeat' (first | (with_reducible refine' stop_reg (id := 1) ?_) | (with_reducible (first | refine' wp_seq ?_ | refine' wp_region_lit ?_ | refine' wpList_nil ?_ | refine' then_normal ?_)) | ((with_reducible refine' l_step ?_); ((with_reducible refine' g_assign ?_); (conv => arg 5; simp only [zA, zB, ev, lget, zC, zD, zE, zF, zG, zH, zI, zJ, zK, zL, zM, zN, zO]))) | (((with_reducible refine' e_boxA ?hx ?_); (case hx => rfl)); intro _ _ _ _ _ _ _; (conv => arg 5; simp only [zA, zB, ev, lget, zC, zD, zE, zF, zG, zH, zI, zJ, zK, zL, zM, zN, zO])))
  rename_i gp wB c1 c2 hgp0 evB zB_
  refine stop_go ?_
  repeat' (first | (go_at_call 21; refine (hlv _ (hr.up (by exact eqq)) (hlf.up (by exact eqq))).mono ?_; rintro e wL ⟨gb, n, rfl, hboxL, hn2, evL⟩; have zL_ := evL.size; refine ⟨_, rfl, ?_⟩; (conv => arg 5; simp only [zA, zB, ev, lget, zC, zD, zE, zF, zG, zH, zI, zJ, zK, zL, zM, zN, zO])) | ((with_reducible refine' l_step ?_); (with_reducible refine' g_eqlPS ?hx ?hy ?_); (case hx => rfl); (case hy => rfl); (conv => arg 5; simp only [zA, zB, ev, lget, zC, zD, zE, zF, zG, zH, zI, zJ, zK, zL, zM, zN, zO])) | (go_at_call 20; refine (pend_F wB _ gb n p l ((hboxL.base (by omega)).up (by exact eqq)) (by omega)).mono ?_; rintro e wP ⟨V, dV, hs, F, rfl, hbox, hF, hhs, hHeld, hbl, hhl, evP⟩; have zP_ := evP.size; refine ⟨_, rfl, ?_⟩; (conv => arg 5; simp only [zA, zB, ev, lget, zC, zD, zE, zF, zG, zH, zI, zJ, zK, zL, zM, zN, zO])) | (with_reducible refine' stop_reg (id := 5) ?_) | (with_reducible (first | refine' wp_seq ?_ | refine' wp_region_lit ?_ | refine' wpList_nil ?_ | refine' then_normal ?_ | refine' wp_skip ?_)) | ((with_reducible refine' c_condF ?hx ?_); (case hx => rfl)) | ((with_reducible refine' l_step ?_); ((first | (with_reducible refine' g_move ?_) | (with_reducible refine' g_assign ?_) | ((with_reducible refine' g_loadS ?hx ?hb ?hn ?_); (case hx => rfl); (case hb => exact bqq); first | (case hc => rfl) | (case hn => simp only [List.length_cons, List.length_nil]; omega)) | ((with_reducible refine' g_extract ?hx ?hv ?_); (case hx => rfl); (case hv => rfl))); (conv => arg 5; simp only [zA, zB, ev, lget, zC, zD, zE, zF, zG, zH, zI, zJ, zK, zL, zM, zN, zO]))) | ((with_reducible refine' l_call TFn.ent ?ha ?_); (case ha => simp only [zC, zD, ev, lget]; (try rfl))))
  have hFge : ∀ k, F k → wB.heap.size ≤ k := fun k hk => (hF k hk).1
  have hsrt := (hbox.nb hFge).srt.1
  have hhl2 : hs.length = l.length := by rw [← hhs, List.length_map]
  cases hg : goodP p
  · obtain ⟨r0, hr0, hr1⟩ : ∃ r0, (addP l 4611686018427387904 [] now).2 = r0 ∧ (r0 = 0 ∨ r0 = 110) := by
      refine ⟨_, rfl, ?_⟩
      unfold addP
      rw [if_neg (by decide)]
      split
      · exact .inr rfl
      · exact .inl rfl
    refine stop_go ?_
    repeat' (first | (go_at_call 15; refine (lawGood_any p A c _ (hr.up (by exact eqq))).mono ?_; rintro e wG ⟨rfl, evG⟩; rw [hg]; have zG_ := evG.size; refine ⟨_, rfl, ?_⟩; (conv => arg 5; simp only [zA, zB, ev, lget, zC, zD, zE, zF, zG, zH, zI, zJ, zK, zL, zM, zN, zO])) | (go_at_call 16; refine (add_nbT wB _ gb n p l 4611686018427387904 now [] none 0 ((hbox.up (by exact eqq)).nb hFge) (by exact eqq) (RC.nil _ _) (by simp) (by omega) (by omega)).mono ?_; rw [hr0]; rintro e wA ⟨rfl, hboxA, evA⟩; have zA_ := evA.size; refine ⟨_, rfl, ?_⟩; (conv => arg 5; simp only [zA, zB, ev, lget, zC, zD, zE, zF, zG, zH, zI, zJ, zK, zL, zM, zN, zO])) | (with_reducible refine' stop_reg (id := 7) ?_) | (with_reducible (first | refine' wp_seq ?_ | refine' wp_region_lit ?_ | refine' wpList_nil ?_ | refine' then_normal ?_)) | ((with_reducible refine' c_condT ?hx ?_); (case hx => rfl)) | ((with_reducible refine' l_step ?_); ((first | (with_reducible refine' g_move ?_) | (with_reducible refine' g_assign ?_) | ((with_reducible refine' g_loadS ?hx ?hb ?hn ?_); (case hx => rfl); (case hb => exact bqq); first | (case hc => rfl) | (case hn => simp only [List.length_cons, List.length_nil]; omega)) | ((with_reducible refine' g_notF ?hx ?_); (case hx => rfl))); (conv => arg 5; simp only [zA, zB, ev, lget, zC, zD, zE, zF, zG, zH, zI, zJ, zK, zL, zM, zN, zO]))) | ((with_reducible refine' l_call TFn.ent ?ha ?_); (case ha => simp only [zC, zD, ev, lget]; (try rfl))))
    rcases hr1 with rfl | rfl
    · refine stop_go ?_
      repeat' (first | (with_reducible (first | refine' wp_region_lit ?_ | refine' wpList_nil ?_ | refine' then_normal ?_ | refine' wp_ret ?_ | refine' then_ret ?_)) | ((with_reducible refine' b_ret1 ?hr ?hv ?_); (case hr => rfl); (case hv => ((try simp only [ev, lget]); (try rfl)))) | ((with_reducible refine' l_step ?_); (first | ((first | (with_reducible refine' g_move ?_) | (with_reducible refine' g_assign ?_) | ((with_reducible refine' g_pickT ?hx ?_); (case hx => rfl))); (conv => arg 5; simp only [zA, zB, ev, lget, zC, zD, zE, zF, zG, zH, zI, zJ, zK, zL, zM, zN, zO])) | (((with_reducible refine' g_eql ?hx ?hy (fun _ => ?_) (fun _ => ?_)); (case hx => rfl)); (case hy => rfl); all_goals (first | (exfalso; omega) | (conv => arg 5; simp only [zA, zB, ev, lget, zC, zD, zE, zF, zG, zH, zI, zJ, zK, zL, zM, zN, zO]))))) | ((with_reducible refine' l_off ?hw ?_); (case hw => rfl); (conv => arg 5; simp only [zA, zB, ev, lget, zC, zD, zE, zF, zG, zH, zI, zJ, zK, zL, zM, zN, zO])))
      exact ⟨ret_bool (by simp), Evt.next evA (by exact eqq) (fun i hi hh => by omega)⟩
    · refine stop_go ?_
      repeat' (first | (with_reducible (first | refine' wp_region_lit ?_ | refine' wpList_nil ?_ | refine' then_normal ?_ | refine' wp_ret ?_ | refine' then_ret ?_)) | ((with_reducible refine' b_ret1 ?hr ?hv ?_); (case hr => rfl); (case hv => ((try simp only [ev, lget]); (try rfl)))) | ((with_reducible refine' l_step ?_); (first | ((first | (with_reducible refine' g_move ?_) | (with_reducible refine' g_assign ?_) | ((with_reducible refine' g_pickF ?hx ?_); (case hx => rfl))); (conv => arg 5; simp only [zA, zB, ev, lget, zC, zD, zE, zF, zG, zH, zI, zJ, zK, zL, zM, zN, zO])) | (((with_reducible refine' g_eql ?hx ?hy (fun _ => ?_) (fun _ => ?_)); (case hx => rfl)); (case hy => rfl); all_goals (first | (exfalso; omega) | (conv => arg 5; simp only [zA, zB, ev, lget, zC, zD, zE, zF, zG, zH, zI, zJ, zK, zL, zM, zN, zO]))))) | ((with_reducible refine' l_on ?hw ?_); (case hw => rfl)))
      exact ⟨ret_bool (by simp), Evt.next evA (by exact eqq) (fun i hi hh => by omega)⟩
  · refine stop_go ?_
    repeat' (first | (go_at_call 15; refine (lawGood_any p A c _ (hr.up (by exact eqq))).mono ?_; rintro e wG ⟨rfl, evG⟩; rw [hg]; have zG_ := evG.size; refine ⟨_, rfl, ?_⟩; (conv => arg 5; simp only [zA, zB, ev, lget, zC, zD, zE, zF, zG, zH, zI, zJ, zK, zL, zM, zN, zO])) | ((with_reducible refine' e_makeI (n := hs.length) ?hx ?hy ?hb ?hn ?_); (case hx => rfl); (case hy => rfl); (case hb => omega); (case hn => omega); intro go wM hO1 hO2 hgo evM zM_; (conv => arg 5; simp only [zA, zB, ev, lget, zC, zD, zE, zF, zG, zH, zI, zJ, zK, zL, zM, zN, zO])) | (with_reducible (first | refine' wp_seq ?_ | refine' wp_region_lit ?_ | refine' wpList_nil ?_ | refine' then_normal ?_ | refine' wp_block ?_ | refine' wp_skip ?_)) | ((with_reducible refine' c_condF ?hx ?_); (case hx => rfl)) | ((with_reducible refine' l_step ?_); ((first | (with_reducible refine' g_move ?_) | (with_reducible refine' g_assign ?_) | ((with_reducible refine' g_loadS ?hx ?hb ?hn ?_); (case hx => rfl); (case hb => exact bqq); first | (case hc => rfl) | (case hn => simp only [List.length_cons, List.length_nil]; omega)) | ((with_reducible refine' g_notT ?hx ?_); (case hx => rfl)) | ((with_reducible refine' g_lenS ?hx ?_); (case hx => rfl))); (conv => arg 5; simp only [zA, zB, ev, lget, zC, zD, zE, zF, zG, zH, zI, zJ, zK, zL, zM, zN, zO]))) | ((with_reducible refine' l_call TFn.ent ?ha ?_); (case ha => simp only [zC, zD, ev, lget]; (try rfl))))
    have hcap := cap_rng hg
    have hPM : Evt (fun _ => False) wP wM := by exact eqq
    have hboxM : NBF F wM gb n p l := hbox.up hPM
    have hevM : Evt (fun _ => False) wB wM := by exact eqq
    have hgoF : ¬ F go := fun h => by
      have := (hF go h).2
      omega
    have hgoB : wB.heap.size ≤ go := by omega
    have hHeldM : ∀ w'', Evt (fun k => F k ∨ k = go) wM w'' → NtAt w'' V hs := fun w'' he => by
      refine hHeld w'' (Evt.next he (hPM.mono fun _ _ h => h.elim) (fun i hi hh => ?_))
      rcases hh with h | h
      · exact .inl (hF i h).2
      · exact .inr (by omega)
    have hwin0 := win_zero (p := p) (now := now) (n := hs.length) hhl2 (hnx hg)
    clear hHeld hbox hboxL hPM evL evP evG evM hnx hlv
    refine' s_loop [4, 10, 11, 12, 13, 40, 41, 42, 43, 44, 45, 46, 47, 48, 49, 50, 51, 52, 53, 54, 55, 56, 57, 58, 59, 60, 61, 62, 63, 64, 65, 66, 67, 68, 69, 70, 71, 72, 73, 74, 75, 76, 77, 78, 79, 80, 81, 82, 83, 84, 85, 86, 87, 88, 89, 90, 91, 92, 93, 94, 95, 96, 97, 98, 99, 100, 101, 102, 103, 104, 105, 106, 107, 108, 109, 110] (fun m u w' => ∃ (k n' : Nat) (lk : List Ep) (s : List Int), m = p.retryCap.toNat - k ∧ k ≤ p.retryCap.toNat ∧ n' ≤ 2000 + k ∧ u 10 = .int .i64 ((k : Int) + 1) ∧ NBF F w' gb n' p lk ∧ Blk w' go 3 (ints s) ∧ WinP p now k lk s ∧ pairP lk = pairP l ∧ Evt (fun k => F k ∨ k = go) wM w') p.retryCap.toNat ?h0 ?round
    case h0 => exact ⟨0, n, l, _, rfl, by omega, by omega, rfl, hboxM, hgo, hwin0, rfl, Evt.refl _ _⟩
    case round =>
      rintro m u w3 ⟨k, n', lk, s, rfl, hk, hn', h10, hbox3, hgo3, hwin, hpair, hev⟩
      simp only [setW, List.foldl_cons, List.foldl_nil, List.set_cons_succ, List.set_cons_zero]
      simp only [h10]
      have hz := hev.size
      have hevB : Evt (fun _ => False) wB w3 := Evt.next hev hevM (fun i hi hh => by
        rcases hh with h | h
        · have := hFge i h
          omega
        · omega)
      have hHeld3 : ∀ w'', Evt (fun k => F k ∨ k = go) w3 w'' → NtAt w'' V hs := fun w'' he => hHeldM w'' (Evt.next he hev (fun _ _ h => h))
      have hsrt3 : lk.Pairwise (fun a b => a.id < b.id) := (hbox3.nb hFge).srt.1
      have hids : idsP lk = hs.map (·.id) := by
        rw [pair_ids, hpair, ← pair_ids, ← hhs]
        simp [idsP, ntP]
      have hlk : lk.length = hs.length := by
        have h1 := congrArg List.length hids
        simpa [idsP] using h1
      have hsl : s.length = (idsP lk).length := by
        rw [hwin.1]
        simp [idsP]
      have hclo : ∀ w'', Evt (fun k => F k ∨ k = go) w3 w'' → Evt (fun k => F k ∨ k = go) wM w'' := fun w'' he => Evt.next he hev (fun _ _ h => h)
      clear hev hgo hevM hHeldM
      by_cases hlt : k < p.retryCap.toNat
      · repeat' (first | (go_at_call 18; refine (due_F F _ gb n' p lk (now + ((k : Int) + 1)) (hbox3.up (by exact eqq)) (by omega) (by omega)).mono ?_; rintro e wD ⟨VD, dD, ks, rfl, hboxD, hkD, hPD, hbD, hlD, evD⟩; have zD_ := evD.size; refine ⟨_, rfl, ?_⟩; (conv => arg 5; simp only [zA, zB, ev, lget, zC, zD, zE, zF, zG, zH, zI, zJ, zK, zL, zM, zN, zO])) | (with_reducible (first | refine' wp_seq ?_ | refine' wp_region_lit ?_ | refine' wpList_nil ?_ | refine' then_normal ?_ | refine' wp_block ?_ | refine' wp_skip ?_)) | ((with_reducible refine' c_condT ?hx ?_); (case hx => rfl)) | ((with_reducible refine' l_step ?_); (first | ((first | (with_reducible refine' g_move ?_) | (with_reducible refine' g_assign ?_) | ((with_reducible refine' g_fieldAddr ?hx ?ho ?_); (case hx => rfl); (case ho => rfl)) | ((with_reducible refine' g_loadB ?hx ?hb ?hc ?_); (case hx => rfl); (case hb => exact bqq); first | (case hc => rfl) | (case hn => simp only [List.length_cons, List.length_nil]; omega)) | ((with_reducible refine' g_addN ?hx ?hy ?h0 ?h1 ?_); (case hx => rfl); (case hy => rfl); (case h0 => omega); (case h1 => omega))); (conv => arg 5; simp only [zA, zB, ev, lget, zC, zD, zE, zF, zG, zH, zI, zJ, zK, zL, zM, zN, zO])) | (((with_reducible refine' g_leq ?hx ?hy (fun _ => ?_) (fun _ => ?_)); (case hx => rfl)); (case hy => rfl); all_goals (first | (exfalso; omega) | (conv => arg 5; simp only [zA, zB, ev, lget, zC, zD, zE, zF, zG, zH, zI, zJ, zK, zL, zM, zN, zO]))))) | ((with_reducible refine' l_call TFn.ent ?ha ?_); (case ha => simp only [zC, zD, ev, lget]; (try rfl))))
        have hgoD : Blk wD go 3 (ints s) := hgo3.evt evD hgoF
        have hHeldD : ∀ w'', Evt (fun k => k = go) wD w'' → NtAt w'' V hs := fun w'' he => hHeld3 w'' (Evt.next (he.mono fun _ _ h => .inr h) (evD.mono fun _ _ h => .inl h) (fun _ _ h => h))
        refine' s_loop [4, 12, 13, 51, 52, 53, 54, 55, 56, 57, 58, 59, 60, 61, 62, 63, 64, 65, 66, 67, 68, 69, 70, 71, 72, 73, 74, 75, 76, 77, 78, 79, 80, 81, 82, 83, 84, 85, 86, 87, 88, 89, 90, 91, 92, 93, 94, 95, 96, 97, 98, 99, 100, 101, 102, 103, 104, 105, 106, 107, 108, 109, 110] (fun m u w' => ∃ (i : Nat), m = ks.length - i ∧ i ≤ ks.length ∧ u 12 = .int .i64 i ∧ Blk w' go 3 (ints (bumpP (idsP lk) s ((ks.take i).map (·.id)))) ∧ Evt (fun k => k = go) wD w') ks.length ?h1 ?round2
        case h1 => exact ⟨0, rfl, by omega, rfl, by rw [List.take_zero, List.map_nil, bump_nil hsl]; exact hgoD, Evt.refl _ _⟩
        case round2 =>
          rintro m2 u2 w4 ⟨i, rfl, hi, h12, hgo4, hev4⟩
          simp only [setW, List.foldl_cons, List.foldl_nil, List.set_cons_succ, List.set_cons_zero]
          simp only [h12]
          have hz4 := hev4.size
          by_cases hlt2 : i < ks.length
          · obtain ⟨hin, hbody, hnin, hasc⟩ := pk_held hkD (hpair.trans (by rw [hhs])) hsrt3 hlt2
            have hN4 : ∀ w'', Evt (fun _ => False) w4 w'' → NtAt w'' V hs := fun w'' he => hHeldD w'' (Evt.next he hev4 (fun _ _ h => h.elim))
            have hP4 : PkAt w4 VD ks := hPD w4 (hev4.mono fun j _ h => by have h' : j = go := h; omega)
            obtain ⟨bP, oP, rfl, hcellP⟩ := hP4.at_ hlt2
            have hrx := hP4.bod ks[i] (List.getElem_mem hlt2)
            have hbx := hbD ks[i] (List.getElem_mem hlt2)
            have hcellQ : 0 < i → ∃ q : Pk, q.id < ks[i].id ∧ w4.cell? ⟨bP, oP + ((i : Int) - 1).toNat * 3 + 1, none⟩ = some (.int .i64 q.id) := fun h0 => by
              obtain ⟨b', o', hA, hc⟩ := hP4.at_ (i := i - 1) (by omega)
              cases hA
              refine ⟨ks[i - 1], hasc _ _ (by omega), ?_⟩
              have h1 := hc w4 (Evt.refl _ _) 1 _ rfl
              rw [show ((i : Int) - 1).toNat = i - 1 by omega]
              exact h1
            have hx0 := hcellP w4 (Evt.refl _ _) 0 _ rfl
            have hx1 := hcellP w4 (Evt.refl _ _) 1 _ rfl
            have hx2 := hcellP w4 (Evt.refl _ _) 2 _ rfl
            clear hcellP
            have htk : (ks.take (i + 1)).map (·.id) = (ks.take i).map (·.id) ++ [ks[i].id] := by rw [List.take_succ_eq_append_getElem hlt2, List.map_append]; rfl
            clear hP4
            generalize ks[i] = x at *
            repeat' (first | (go_at_call 22; refine (place_any V dV _ hs x.id _ (hN4 _ (by exact eqq)) rfl (by omega)).mono ?_; rintro e wE ⟨r, rfl, hpl, evE⟩; have zE_ := evE.size; refine ⟨_, rfl, ?_⟩; (conv => arg 5; simp only [zA, zB, ev, lget, zC, zD, zE, zF, zG, zH, zI, zJ, zK, zL, zM, zN, zO])) | (with_reducible refine' stop_reg (id := 17) ?_) | (with_reducible (first | refine' wp_seq ?_ | refine' wp_region_lit ?_ | refine' wpList_nil ?_ | refine' then_normal ?_ | refine' wp_block ?_ | refine' wp_skip ?_)) | ((with_reducible refine' c_condT ?hx ?_); (case hx => rfl)) | ((with_reducible refine' l_step ?_); (first | ((first | (with_reducible refine' g_move ?_) | (with_reducible refine' g_assign ?_) | ((with_reducible refine' g_fieldAddr ?hx ?ho ?_); (case hx => rfl); (case ho => rfl)) | ((with_reducible refine' g_loadC ?hx ?hc ?_); (case hx => rfl); (case hc => exact cqq)) | ((with_reducible refine' g_lenS ?hx ?_); (case hx => rfl)) | ((with_reducible refine' g_indexAddr ?hx ?hy ?h0 ?h1 ?_); (case hx => rfl); (case hy => rfl); (case h0 => omega); (case h1 => omega))); (conv => arg 5; simp only [zA, zB, ev, lget, zC, zD, zE, zF, zG, zH, zI, zJ, zK, zL, zM, zN, zO])) | (((with_reducible refine' g_lss ?hx ?hy (fun _ => ?_) (fun _ => ?_)); (case hx => rfl)); (case hy => rfl); all_goals (first | (exfalso; omega) | (conv => arg 5; simp only [zA, zB, ev, lget, zC, zD, zE, zF, zG, zH, zI, zJ, zK, zL, zM, zN, zO]))))) | ((with_reducible refine' l_call TFn.ent ?ha ?_); (case ha => simp only [zC, zD, ev, lget]; (try rfl))))
            rcases hpl with ⟨_, hni⟩ | ⟨i0, rfl, hi0⟩
            · exact absurd hin hni
            obtain ⟨xv, hxs, hxb, hset⟩ := bump_snoc (ids := idsP lk) (List.pairwise_map.2 hsrt3) hsl (by rw [hids]; exact hi0) hnin
            obtain ⟨hi0l, hi0e⟩ := List.getElem?_eq_some_iff.1 hi0
            rw [List.length_map] at hi0l
            rw [List.getElem_map] at hi0e
            have hbd := hbody i0 hi0l hi0e
            have hxr := hwin.2 i0 (lk[i0]'(by omega)) xv (List.getElem?_eq_getElem _) hxs
            obtain ⟨bN, oN, rfl, hcellN⟩ := (hN4 w4 (Evt.refl _ _)).at_ hi0l
            have hry := (hN4 w4 (Evt.refl _ _)).bod hs[i0] (List.getElem_mem hi0l)
            have hby := hbl hs[i0] (List.getElem_mem hi0l)
            have hcG : w4.cell? ⟨go, i0, none⟩ = some (.int .i64 xv) := by
              rw [hgo4.cell?, ints, List.getElem?_map, hxb]
              rfl
            have hlen5 : i0 < (ints (bumpP (idsP lk) s ((ks.take i).map (·.id)))).length := by
              rw [ints, List.length_map, bump_len hsl, hids, List.length_map]
              exact hi0l
            have hset5 : (ints (bumpP (idsP lk) s ((ks.take i).map (·.id)))).set i0 (.int .i64 (xv + 1)) = ints (bumpP (idsP lk) s ((ks.take (i + 1)).map (·.id))) := by
              rw [htk, ← hset, ints, ints, List.map_set]
            generalize ints (bumpP (idsP lk) s ((ks.take i).map (·.id))) = sb at hgo4 hlen5 hset5
            have hy3 := hcellN w4 (Evt.refl _ _) 3 _ rfl
            clear hcellN
            generalize hs[i0] = y at *
            refine stop_go ?_
            rcases Nat.eq_zero_or_pos i with h0 | h0
            · repeat' (first | ((with_reducible refine' q_call (f := 23) TFn.ent ?ha ?hc ?_); (case ha => simp only [zC, zD, ev, lget]; (try rfl)); (case hc => intro wq hwq; have hzq := hwq.size; refine (equal_any x.b.A y.b.A x.b.c y.b.c x.b.body.length y.b.body.length x.b.body y.b.body _ (hrx.up (by exact eqq)) (hry.up (by exact eqq)) rfl rfl hbx hby).mono ?_; rintro e w' ⟨rfl, hev⟩; exact ⟨rfl, hev⟩); (conv => arg 6; simp only [zA, zB, ev, lget, zC, zD, zE, zF, zG, zH, zI, zJ, zK, zL, zM, zN, zO])) | ((with_reducible refine' q_step ?_); (with_reducible refine' g_notT ?hx ?_); (case hx => exact congrArg Value.bool (decide_eq_true hbd)); (conv => arg 6; simp only [zA, zB, ev, lget, zC, zD, zE, zF, zG, zH, zI, zJ, zK, zL, zM, zN, zO])) | (with_reducible refine' stop_reg (id := 19) ?_) | (with_reducible (first | refine' then_normal ?_ | refine' wp_skip ?_)) | ((with_reducible refine' c_condF ?hx ?_); (case hx => rfl)) | ((with_reducible refine' w_quiet (id := 17) ?hm ?hB ?_); (case hm => kernel_rfl); (case hB => kernel_rfl)) | ((with_reducible refine' q_nil ?_); intro _ _ _) | ((with_reducible refine' q_on ?hw ?_); (case hw => rfl)) | ((with_reducible refine' q_off ?hw ?_); (case hw => rfl); (conv => arg 6; simp only [zA, zB, ev, lget, zC, zD, zE, zF, zG, zH, zI, zJ, zK, zL, zM, zN, zO])) | ((with_reducible refine' q_step ?_); (first | ((first | (with_reducible refine' g_move ?_) | ((with_reducible refine' g_fieldAddr ?hx ?ho ?_); (case hx => rfl); (case ho => rfl)) | ((with_reducible refine' g_loadC ?hx ?hc ?_); (case hx => rfl); (case hc => exact cqq)) | ((with_reducible refine' g_pickF ?hx ?_); (case hx => rfl)) | ((with_reducible refine' g_indexAddr ?hx ?hy ?h0 ?h1 ?_); (case hx => rfl); (case hy => rfl); (case h0 => omega); (case h1 => omega))); (conv => arg 6; simp only [zA, zB, ev, lget, zC, zD, zE, zF, zG, zH, zI, zJ, zK, zL, zM, zN, zO])) | ((first | ((with_reducible refine' g_lss ?hx ?hy (fun _ => ?_) (fun _ => ?_)); (case hx => rfl)) | ((with_reducible refine' g_gtr ?hx ?hy (fun _ => ?_) (fun _ => ?_)); (case hx => rfl))); (case hy => rfl); all_goals (first | (exfalso; omega) | (conv => arg 6; simp only [zA, zB, ev, lget, zC, zD, zE, zF, zG, zH, zI, zJ, zK, zL, zM, zN, zO]))))))
              refine stop_go ?_
              repeat' (first | (with_reducible (first | refine' wp_region_lit ?_ | refine' wpList_nil ?_ | refine' then_normal ?_ | refine' in_normal ?_)) | ((with_reducible refine' l_step ?_); ((first | (with_reducible refine' g_move ?_) | (with_reducible refine' g_assign ?_) | ((with_reducible refine' g_loadC ?hx ?hc ?_); (case hx => rfl); (case hc => exact cqq)) | ((with_reducible refine' g_addN ?hx ?hy ?h0 ?h1 ?_); (case hx => rfl); (case hy => rfl); (case h0 => omega); (case h1 => omega)) | ((with_reducible refine' g_indexAddr ?hx ?hy ?h0 ?h1 ?_); (case hx => rfl); (case hy => rfl); (case h0 => omega); (case h1 => omega))); (conv => arg 5; simp only [zA, zB, ev, lget, zC, zD, zE, zF, zG, zH, zI, zJ, zK, zL, zM, zN, zO]))) | ((first | ((with_reducible refine' e_storeB ?hx ?hy ?hv ?h1 ?hb ?ho ?_); (case hx => rfl); (case hy => ((try simp only [ev, lget]); (try rfl))); (case hv => rfl); (case h1 => rfl)) | ((with_reducible refine' e_storeR ?hx ?hy ?h1 ?hb ?hn ?ho ?_); (case hx => rfl); (case hy => rfl); (case h1 => simp [Value.oneCell']); (case hn => rfl))); (case hb => exact bqq); (case ho => first | (simp only [List.length_cons, List.length_nil]; omega) | omega | (simp; omega) | simp); (try simp only [splice, zA, zB]); intro _ _ _ _))
              rename_i w5 hb5 ev5 z5
              exact ⟨_, _, rfl, (by omega : ks.length - (i + 1) < ks.length - i), by simp only [zA, zB], i + 1, rfl, by omega, rfl, by rw [← hset5]; exact hb5, by exact eqq⟩
            · obtain ⟨q, hql, hq1⟩ := hcellQ h0
              repeat' (first | ((with_reducible refine' q_call (f := 23) TFn.ent ?ha ?hc ?_); (case ha => simp only [zC, zD, ev, lget]; (try rfl)); (case hc => intro wq hwq; have hzq := hwq.size; refine (equal_any x.b.A y.b.A x.b.c y.b.c x.b.body.length y.b.body.length x.b.body y.b.body _ (hrx.up (by exact eqq)) (hry.up (by exact eqq)) rfl rfl hbx hby).mono ?_; rintro e w' ⟨rfl, hev⟩; exact ⟨rfl, hev⟩); (conv => arg 6; simp only [zA, zB, ev, lget, zC, zD, zE, zF, zG, zH, zI, zJ, zK, zL, zM, zN, zO])) | ((with_reducible refine' q_step ?_); (with_reducible refine' g_notT ?hx ?_); (case hx => exact congrArg Value.bool (decide_eq_true hbd)); (conv => arg 6; simp only [zA, zB, ev, lget, zC, zD, zE, zF, zG, zH, zI, zJ, zK, zL, zM, zN, zO])) | (with_reducible refine' stop_reg (id := 19) ?_) | (with_reducible (first | refine' then_normal ?_ | refine' wp_skip ?_)) | ((with_reducible refine' c_condF ?hx ?_); (case hx => rfl)) | ((with_reducible refine' w_quiet (id := 17) ?hm ?hB ?_); (case hm => kernel_rfl); (case hB => kernel_rfl)) | ((with_reducible refine' q_nil ?_); intro _ _ _) | ((with_reducible refine' q_on ?hw ?_); (case hw => rfl)) | ((with_reducible refine' q_step ?_); (first | ((first | (with_reducible refine' g_move ?_) | ((with_reducible refine' g_fieldAddr ?hx ?ho ?_); (case hx => rfl); (case ho => rfl)) | ((with_reducible refine' g_loadC ?hx ?hc ?_); (case hx => rfl); (case hc => exact cqq)) | ((with_reducible refine' g_subN ?hx ?hy ?h0 ?h1 ?_); (case hx => rfl); (case hy => rfl); (case h0 => omega); (case h1 => omega)) | ((with_reducible refine' g_pickT ?hx ?_); (case hx => rfl)) | ((with_reducible refine' g_pickF ?hx ?_); (case hx => rfl)) | ((with_reducible refine' g_indexAddr ?hx ?hy ?h0 ?h1 ?_); (case hx => rfl); (case hy => rfl); (case h0 => omega); (case h1 => omega))); (conv => arg 6; simp only [zA, zB, ev, lget, zC, zD, zE, zF, zG, zH, zI, zJ, zK, zL, zM, zN, zO])) | ((first | ((with_reducible refine' g_lss ?hx ?hy (fun _ => ?_) (fun _ => ?_)); (case hx => rfl)) | ((with_reducible refine' g_gtr ?hx ?hy (fun _ => ?_) (fun _ => ?_)); (case hx => rfl)) | ((with_reducible refine' g_geq ?hx ?hy (fun _ => ?_) (fun _ => ?_)); (case hx => rfl))); (case hy => rfl); all_goals (first | (exfalso; omega) | (conv => arg 6; simp only [zA, zB, ev, lget, zC, zD, zE, zF, zG, zH, zI, zJ, zK, zL, zM, zN, zO]))))))
              refine stop_go ?_
              repeat' (first | (with_reducible (first | refine' wp_region_lit ?_ | refine' wpList_nil ?_ | refine' then_normal ?_ | refine' in_normal ?_)) | ((with_reducible refine' l_step ?_); ((first | (with_reducible refine' g_move ?_) | (with_reducible refine' g_assign ?_) | ((with_reducible refine' g_loadC ?hx ?hc ?_); (case hx => rfl); (case hc => exact cqq)) | ((with_reducible refine' g_addN ?hx ?hy ?h0 ?h1 ?_); (case hx => rfl); (case hy => rfl); (case h0 => omega); (case h1 => omega)) | ((with_reducible refine' g_indexAddr ?hx ?hy ?h0 ?h1 ?_); (case hx => rfl); (case hy => rfl); (case h0 => omega); (case h1 => omega))); (conv => arg 5; simp only [zA, zB, ev, lget, zC, zD, zE, zF, zG, zH, zI, zJ, zK, zL, zM, zN, zO]))) | ((first | ((with_reducible refine' e_storeB ?hx ?hy ?hv ?h1 ?hb ?ho ?_); (case hx => rfl); (case hy => ((try simp only [ev, lget]); (try rfl))); (case hv => rfl); (case h1 => rfl)) | ((with_reducible refine' e_storeR ?hx ?hy ?h1 ?hb ?hn ?ho ?_); (case hx => rfl); (case hy => rfl); (case h1 => simp [Value.oneCell']); (case hn => rfl))); (case hb => exact bqq); (case ho => first | (simp only [List.length_cons, List.length_nil]; omega) | omega | (simp; omega) | simp); (try simp only [splice, zA, zB]); intro _ _ _ _))
              rename_i w5 hb5 ev5 z5
              exact ⟨_, _, rfl, (by omega : ks.length - (i + 1) < ks.length - i), by simp only [zA, zB], i + 1, rfl, by omega, rfl, by rw [← hset5]; exact hb5, by exact eqq⟩
          · have hi' : i = ks.length := by omega
            subst hi'
            have hmap : (ks.take ks.length).map (·.id) = (duePk (now + ((k : Int) + 1)) lk).map (·.1) := by
              rw [List.take_length, ← hkD, List.map_map]
              rfl
            rw [hmap] at hgo4
            repeat' (first | (with_reducible (first | refine' wp_seq ?_ | refine' wp_region_lit ?_ | refine' wpList_nil ?_ | refine' then_normal ?_ | refine' wp_exit ?_ | refine' then_exit ?_ | refine' in_normal ?_ | refine' in_exit ?_)) | ((with_reducible refine' c_condF ?hx ?_); (case hx => rfl)) | ((with_reducible refine' l_step ?_); (first | ((first | (with_reducible refine' g_move ?_) | (with_reducible refine' g_assign ?_) | ((with_reducible refine' g_addN ?hx ?hy ?h0 ?h1 ?_); (case hx => rfl); (case hy => rfl); (case h0 => omega); (case h1 => omega)) | ((with_reducible refine' g_lenS ?hx ?_); (case hx => rfl))); (conv => arg 5; simp only [zA, zB, ev, lget, zC, zD, zE, zF, zG, zH, zI, zJ, zK, zL, zM, zN, zO])) | (((with_reducible refine' g_lss ?hx ?hy (fun _ => ?_) (fun _ => ?_)); (case hx => rfl)); (case hy => rfl); all_goals (first | (exfalso; omega) | (conv => arg 5; simp only [zA, zB, ev, lget, zC, zD, zE, zF, zG, zH, zI, zJ, zK, zL, zM, zN, zO]))))))
            exact ⟨_, _, rfl, (by omega : p.retryCap.toNat - (k + 1) < p.retryCap.toNat - k), by simp only [zA, zB], k + 1, n' + 1, _, _, rfl, by omega, by omega, rfl, hboxD.evt hev4 (fun j hj h => hgoF ((show j = go from h) ▸ hj)), hgo4, win_step hsrt3 hwin, pair_du.trans hpair, hclo _ (Evt.next (hev4.mono fun _ _ h => .inr h) (evD.mono fun _ _ h => .inl h) (fun _ _ h => h))⟩
      · have hk' : ((k : Nat) : Int) = p.retryCap := by omega
        have hone := win_end hg hwin hk'
        have hN3 : ∀ w'', Evt (fun _ => False) w3 w'' → NtAt w'' V hs := fun w'' he => hHeld3 w'' (he.mono fun _ _ h => h.elim)
        have hasc : ∀ (i j : Nat) (h1 : i < hs.length) (h2 : j < hs.length), i < j → hs[i].id < hs[j].id := fun i j h1 h2 h => by
          have h3 : (idsP lk).Pairwise (· < ·) := List.pairwise_map.2 hsrt3
          rw [hids, List.pairwise_map, List.pairwise_iff_getElem] at h3
          exact h3 _ _ h1 h2 h
        clear hHeld3 hclo
        repeat' (first | (with_reducible (first | refine' wp_seq ?_ | refine' wp_region_lit ?_ | refine' wpList_nil ?_ | refine' then_normal ?_ | refine' wp_block ?_ | refine' wp_exit ?_ | refine' then_exit ?_ | refine' in_exit ?_)) | ((with_reducible refine' c_condF ?hx ?_); (case hx => rfl)) | ((with_reducible refine' l_step ?_); (first | ((first | (with_reducible refine' g_move ?_) | (with_reducible refine' g_assign ?_) | ((with_reducible refine' g_fieldAddr ?hx ?ho ?_); (case hx => rfl); (case ho => rfl)) | ((with_reducible refine' g_loadB ?hx ?hb ?hc ?_); (case hx => rfl); (case hb => exact bqq); first | (case hc => rfl) | (case hn => simp only [List.length_cons, List.length_nil]; omega))); (conv => arg 5; simp only [zA, zB, ev, lget, zC, zD, zE, zF, zG, zH, zI, zJ, zK, zL, zM, zN, zO])) | (((with_reducible refine' g_leq ?hx ?hy (fun _ => ?_) (fun _ => ?_)); (case hx => rfl)); (case hy => rfl); all_goals (first | (exfalso; omega) | (conv => arg 5; simp only [zA, zB, ev, lget, zC, zD, zE, zF, zG, zH, zI, zJ, zK, zL, zM, zN, zO]))))))
        refine' s_loop [4, 14, 111, 112, 113, 114, 115, 116, 117, 118, 119, 120, 121, 122, 123, 124, 125, 126, 127, 128, 129, 130, 131, 132, 133, 134, 135, 136, 137, 138, 139] (fun m u w' => ∃ (i : Nat), m = hs.length - i ∧ i ≤ hs.length ∧ u 14 = .int .i64 i ∧ Evt (fun _ => False) w3 w') hs.length ?h3 ?round3
        case h3 => exact ⟨0, rfl, by omega, rfl, Evt.refl _ _⟩
        case round3 =>
          rintro m3 u3 w6 ⟨i, rfl, hi, h14, hev6⟩
          simp only [setW, List.foldl_cons, List.foldl_nil, List.set_cons_succ, List.set_cons_zero]
          simp only [h14]
          have hz6 := hev6.size
          by_cases hlt3 : i < hs.length
          · have hN6 := hN3 w6 hev6
            have his : i < s.length := by
              rw [hsl, idsP, List.length_map, hlk]
              exact hlt3
            obtain ⟨xv, hxv, hs1⟩ : ∃ xv, s[i]? = some xv ∧ 1 ≤ xv := ⟨_, List.getElem?_eq_getElem his, hone _ (List.getElem_mem his)⟩
            have hsx : w6.cell? ⟨go, i, none⟩ = some (.int .i64 xv) := by
              rw [(hgo3.evt hev6 (fun h => h)).cell?, ints, List.getElem?_map, hxv]
              rfl
            obtain ⟨bN, oN, rfl, hcellN⟩ := hN6.at_ hlt3
            have hy0 := hcellN w6 (Evt.refl _ _) 0 _ rfl
            have hprev : 0 < i → ∃ q : Nt, q.id < hs[i].id ∧ w6.cell? ⟨bN, oN + ((i : Int) - 1).toNat * 4 + 0, none⟩ = some (.int .i64 q.id) := fun h0 => by
              obtain ⟨b', o', hA, hc⟩ := hN6.at_ (i := i - 1) (by omega)
              cases hA
              refine ⟨hs[i - 1], hasc _ _ _ _ (by omega), ?_⟩
              have h1 := hc w6 (Evt.refl _ _) 0 _ rfl
              rw [show ((i : Int) - 1).toNat = i - 1 by omega]
              exact h1
            clear hcellN hN6
            generalize hs[i] = y at *
            rcases Nat.eq_zero_or_pos i with h0 | h0
            · repeat' (first | (with_reducible (first | refine' wp_seq ?_ | refine' wp_region_lit ?_ | refine' wpList_nil ?_ | refine' then_normal ?_ | refine' wp_block ?_ | refine' wp_skip ?_ | refine' in_normal ?_)) | ((with_reducible refine' c_condT ?hx ?_); (case hx => rfl)) | ((with_reducible refine' c_condF ?hx ?_); (case hx => rfl)) | ((with_reducible refine' l_step ?_); (first | ((first | (with_reducible refine' g_move ?_) | (with_reducible refine' g_assign ?_) | ((with_reducible refine' g_addN ?hx ?hy ?h0 ?h1 ?_); (case hx => rfl); (case hy => rfl); (case h0 => omega); (case h1 => omega)) | ((with_reducible refine' g_lenS ?hx ?_); (case hx => rfl))); (conv => arg 5; simp only [zA, zB, ev, lget, zC, zD, zE, zF, zG, zH, zI, zJ, zK, zL, zM, zN, zO])) | (((with_reducible refine' g_lss ?hx ?hy (fun _ => ?_) (fun _ => ?_)); (case hx => rfl)); (case hy => rfl); all_goals (first | (exfalso; omega) | (conv => arg 5; simp only [zA, zB, ev, lget, zC, zD, zE, zF, zG, zH, zI, zJ, zK, zL, zM, zN, zO]))))) | ((with_reducible refine' w_quiet (id := 23) ?hm ?hB ?_); (case hm => kernel_rfl); (case hB => kernel_rfl)) | ((with_reducible refine' q_nil ?_); intro _ _ _) | ((with_reducible refine' q_on ?hw ?_); (case hw => rfl)) | ((with_reducible refine' q_off ?hw ?_); (case hw => rfl); (conv => arg 6; simp only [zA, zB, ev, lget, zC, zD, zE, zF, zG, zH, zI, zJ, zK, zL, zM, zN, zO])) | ((with_reducible refine' q_step ?_); (first | ((first | (with_reducible refine' g_move ?_) | ((with_reducible refine' g_loadC ?hx ?hc ?_); (case hx => rfl); (case hc => exact cqq)) | ((with_reducible refine' g_pickF ?hx ?_); (case hx => rfl)) | ((with_reducible refine' g_indexAddr ?hx ?hy ?h0 ?h1 ?_); (case hx => rfl); (case hy => rfl); (case h0 => omega); (case h1 => omega))); (conv => arg 6; simp only [zA, zB, ev, lget, zC, zD, zE, zF, zG, zH, zI, zJ, zK, zL, zM, zN, zO])) | ((first | ((with_reducible refine' g_gtr ?hx ?hy (fun _ => ?_) (fun _ => ?_)); (case hx => rfl)) | ((with_reducible refine' g_eql ?hx ?hy (fun _ => ?_) (fun _ => ?_)); (case hx => rfl))); (case hy => rfl); all_goals (first | (exfalso; omega) | (conv => arg 6; simp only [zA, zB, ev, lget, zC, zD, zE, zF, zG, zH, zI, zJ, zK, zL, zM, zN, zO]))))))
              exact ⟨_, _, rfl, (by omega : hs.length - (i + 1) < hs.length - i), by simp only [zA, zB], i + 1, rfl, by omega, rfl, by exact eqq⟩
            · obtain ⟨q, hql, hq1⟩ := hprev h0
              repeat' (first | (with_reducible (first | refine' wp_seq ?_ | refine' wp_region_lit ?_ | refine' wpList_nil ?_ | refine' then_normal ?_ | refine' wp_block ?_ | refine' wp_skip ?_ | refine' in_normal ?_)) | ((with_reducible refine' c_condT ?hx ?_); (case hx => rfl)) | ((with_reducible refine' c_condF ?hx ?_); (case hx => rfl)) | ((with_reducible refine' l_step ?_); (first | ((first | (with_reducible refine' g_move ?_) | (with_reducible refine' g_assign ?_) | ((with_reducible refine' g_addN ?hx ?hy ?h0 ?h1 ?_); (case hx => rfl); (case hy => rfl); (case h0 => omega); (case h1 => omega)) | ((with_reducible refine' g_lenS ?hx ?_); (case hx => rfl))); (conv => arg 5; simp only [zA, zB, ev, lget, zC, zD, zE, zF, zG, zH, zI, zJ, zK, zL, zM, zN, zO])) | (((with_reducible refine' g_lss ?hx ?hy (fun _ => ?_) (fun _ => ?_)); (case hx => rfl)); (case hy => rfl); all_goals (first | (exfalso; omega) | (conv => arg 5; simp only [zA, zB, ev, lget, zC, zD, zE, zF, zG, zH, zI, zJ, zK, zL, zM, zN, zO]))))) | ((with_reducible refine' w_quiet (id := 23) ?hm ?hB ?_); (case hm => kernel_rfl); (case hB => kernel_rfl)) | ((with_reducible refine' q_nil ?_); intro _ _ _) | ((with_reducible refine' q_on ?hw ?_); (case hw => rfl)) | ((with_reducible refine' q_step ?_); (first | ((first | (with_reducible refine' g_move ?_) | ((with_reducible refine' g_fieldAddr ?hx ?ho ?_); (case hx => rfl); (case ho => rfl)) | ((with_reducible refine' g_loadC ?hx ?hc ?_); (case hx => rfl); (case hc => exact cqq)) | ((with_reducible refine' g_subN ?hx ?hy ?h0 ?h1 ?_); (case hx => rfl); (case hy => rfl); (case h0 => omega); (case h1 => omega)) | ((with_reducible refine' g_pickT ?hx ?_); (case hx => rfl)) | ((with_reducible refine' g_pickF ?hx ?_); (case hx => rfl)) | ((with_reducible refine' g_indexAddr ?hx ?hy ?h0 ?h1 ?_); (case hx => rfl); (case hy => rfl); (case h0 => omega); (case h1 => omega))); (conv => arg 6; simp only [zA, zB, ev, lget, zC, zD, zE, zF, zG, zH, zI, zJ, zK, zL, zM, zN, zO])) | ((first | ((with_reducible refine' g_gtr ?hx ?hy (fun _ => ?_) (fun _ => ?_)); (case hx => rfl)) | ((with_reducible refine' g_geq ?hx ?hy (fun _ => ?_) (fun _ => ?_)); (case hx => rfl)) | ((with_reducible refine' g_eql ?hx ?hy (fun _ => ?_) (fun _ => ?_)); (case hx => rfl))); (case hy => rfl); all_goals (first | (exfalso; omega) | (conv => arg 6; simp only [zA, zB, ev, lget, zC, zD, zE, zF, zG, zH, zI, zJ, zK, zL, zM, zN, zO]))))))
              exact ⟨_, _, rfl, (by omega : hs.length - (i + 1) < hs.length - i), by simp only [zA, zB], i + 1, rfl, by omega, rfl, by exact eqq⟩
          · repeat' (first | (go_at_call 20; refine (pend_F wB _ gb n' p lk ((hbox3.up (by exact eqq)).nb hFge) (by omega)).mono ?_; rintro e wR ⟨V9, d9, ks9, F9, rfl, -, -, hks9, -, -, -, evR⟩; have hk9 : ks9.length = hs.length := by { have h1 := congrArg List.length hks9; rw [List.length_map] at h1; omega }; rw [hk9]; have zR_ := evR.size; refine ⟨_, rfl, ?_⟩; (conv => arg 5; simp only [zA, zB, ev, lget, zC, zD, zE, zF, zG, zH, zI, zJ, zK, zL, zM, zN, zO])) | (go_at_call 24; refine (wakes_any p A c _ (hr.up (by exact eqq)) hsz).mono ?_; rintro e wW ⟨rfl, evW⟩; have zW_ := evW.size; refine ⟨_, rfl, ?_⟩; (conv => arg 5; simp only [zA, zB, ev, lget, zC, zD, zE, zF, zG, zH, zI, zJ, zK, zL, zM, zN, zO])) | (with_reducible (first | refine' wp_seq ?_ | refine' wp_region_lit ?_ | refine' wpList_nil ?_ | refine' then_normal ?_ | refine' wp_ret ?_ | refine' wp_exit ?_ | refine' then_exit ?_ | refine' in_exit ?_)) | ((with_reducible refine' c_condF ?hx ?_); (case hx => rfl)) | ((with_reducible refine' b_ret1 ?hr ?hv ?_); (case hr => rfl); (case hv => ((try simp only [ev, lget]); (try rfl)))) | ((with_reducible refine' l_step ?_); (first | ((first | (with_reducible refine' g_move ?_) | (with_reducible refine' g_assign ?_) | ((with_reducible refine' g_loadS ?hx ?hb ?hn ?_); (case hx => rfl); (case hb => exact bqq); first | (case hc => rfl) | (case hn => simp only [List.length_cons, List.length_nil]; omega)) | ((with_reducible refine' g_pickT ?hx ?_); (case hx => rfl)) | ((with_reducible refine' g_lenS ?hx ?_); (case hx => rfl))); (conv => arg 5; simp only [zA, zB, ev, lget, zC, zD, zE, zF, zG, zH, zI, zJ, zK, zL, zM, zN, zO])) | ((first | ((with_reducible refine' g_lss ?hx ?hy (fun _ => ?_) (fun _ => ?_)); (case hx => rfl)) | ((with_reducible refine' g_eql ?hx ?hy (fun _ => ?_) (fun _ => ?_)); (case hx => rfl))); (case hy => rfl); all_goals (first | (exfalso; omega) | (conv => arg 5; simp only [zA, zB, ev, lget, zC, zD, zE, zF, zG, zH, zI, zJ, zK, zL, zM, zN, zO]))))) | ((with_reducible refine' l_on ?hw ?_); (case hw => rfl)) | ((with_reducible refine' l_call TFn.ent ?ha ?_); (case ha => simp only [zC, zD, ev, lget]; (try rfl))))
            exact ⟨ret_bool (by simp), by exact eqq⟩
end Go.Proofs.Ytchfkkliechgoaa
