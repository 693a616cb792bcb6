/- A network, the document's and the book side by side; a notice is sent on both. -/
import Derived.Test.YtmngcpackbekiaaBok16c
import Derived.Test.YtmngcpackbekiaaRel16b
namespace Go.Proofs.Ytmngcpackbekiaa
open Go.RowKit Go.Proofs.YtmngcpackbekiaaE
set_option linter.unusedSimpArgs false
set_option linter.unusedVariables false

instance : TZero Try.prog 67 (.agg [.pointer none, .int .i64 0, .slice none 0 0, .slice none 0 0, .slice none 0 0].toArray) := ⟨by kernel_rfl⟩
/-- The book, and the blocks that it holds. -/
structure BookAt (w : World) (FB : Nat → Prop) (gB : Nat) (B : Bm) : Prop where
  ok : ∃ D vI vL vA vB vM, BookV w D gB B vI vL vA vB vM ∧ FB gB ∧ (∀ k, D k → FB k) ∧ (∀ k, vI.ownBlock = some k → FB k) ∧ (∀ k, vL.ownBlock = some k → FB k) ∧ (∀ k, vA.ownBlock = some k → FB k) ∧ (∀ k, vB.ownBlock = some k → FB k) ∧ (∀ k, vM.ownBlock = some k → FB k)
  lt : ∀ k, FB k → k < w.heap.size
theorem BookAt.evt {S : Nat → Prop} {w w' : World} {FB : Nat → Prop} {gB : Nat} {B : Bm} (h : BookAt w FB gB B) (he : Evt S w w') (hs : ∀ k, FB k → ¬ S k) : BookAt w' FB gB B := by
  obtain ⟨D, vI, vL, vA, vB, vM, hv, h1, h2, h3, h4, h5, h6, h7⟩ := h.ok
  exact ⟨⟨D, vI, vL, vA, vB, vM, hv.evt he (hs _ h1) (fun k hk => hs k (h2 k hk)) (fun k hk => hs k (h3 k hk)) (fun k hk => hs k (h4 k hk)) (fun k hk => hs k (h5 k hk)) (fun k hk => hs k (h6 k hk)) (fun k hk => hs k (h7 k hk)), h1, h2, h3, h4, h5, h6, h7⟩, fun k hk => Nat.lt_of_lt_of_le (h.lt k hk) he.size⟩
theorem BookAt.up {w w' : World} {FB : Nat → Prop} {gB : Nat} {B : Bm} (h : BookAt w FB gB B) (he : Evt (fun _ => False) w w') : BookAt w' FB gB B := h.evt he (fun _ _ => id)
theorem ids_n (FB : Nat → Prop) (gB : Nat) (B : Bm) (V : Option Addr) (n d : Nat) (xs : List Value) (w : World) (h : BookAt w FB gB B) (hV : w.ownsRow 0 3 1 (.slice V n d) n xs) (hVD : ∀ k, (Value.slice V n d).ownBlock = some k → ¬ FB k) (hn : n ≤ 100000000000) (hbn : B.ids.length < 100000000000) :
    Calls Try.prog 37 #[.pointer (some ⟨gB, 0, none⟩), .slice V n d] w fun e w' => e = .returned (.tuple #[]) ∧ ∃ B' FB', BookAt w' FB' gB B' ∧ B'.ids.length = B.ids.length + 1 ∧ B'.lists.length = B.lists.length ∧ B'.bods.length = B.bods.length ∧ (∀ k, FB' k → FB k ∨ (Value.slice V n d).ownBlock = some k ∨ w.heap.size ≤ k) ∧ Evt (fun k => FB k ∨ (Value.slice V n d).ownBlock = some k) w w' := by
  obtain ⟨D, vI, vL, vA, vB, vM, hv, h1, h2, h3, h4, h5, h6, h7⟩ := h.ok
  refine (ids_any D gB B vI vL vA vB vM V n d xs w hv hV (fun k hk hd => hVD k hk (h2 k hd)) hn hbn).mono ?_
  rintro e w' ⟨rfl, s1, s2, vI', vL', D', hb, hD, hI, hL, he⟩
  have hz := he.size
  have lI := own_lt hb.rI
  have lL := own_lt hb.rL
  have lV := own_lt hV
  refine ⟨rfl, _, (fun k => FB k ∨ D' k ∨ vI'.ownBlock = some k ∨ vL'.ownBlock = some k), ⟨⟨D', vI', vL', vA, vB, vM, hb, .inl h1, fun k hk => .inr (.inl hk), fun k hk => .inr (.inr (.inl hk)), fun k hk => .inr (.inr (.inr hk)), fun k hk => .inl (h5 k hk), fun k hk => .inl (h6 k hk), fun k hk => .inl (h7 k hk)⟩, fun k hk => ?_⟩, by rw [List.length_append]; rfl, rfl, rfl, fun k hk => ?_, he.mono fun k _ hk => ?_⟩
  · rcases hk with hx | hx | hx | hx
    · exact Nat.lt_of_lt_of_le (h.lt k hx) hz
    · exact hb.lt k hx
    · exact lI k hx
    · exact lL k hx
  · rcases hk with hx | hx | hx | hx
    · exact .inl hx
    · rcases hD k hx with hy | hy | hy
      · exact .inl (h2 k hy)
      · exact .inr (.inl hy)
      · exact .inr (.inr hy.1)
    · rcases hI k hx with hy | hy
      · exact .inl (h3 k hy)
      · exact .inr (.inr hy)
    · rcases hL k hx with hy | hy
      · exact .inl (h4 k hy)
      · exact .inr (.inr hy)
  · rcases hk with hx | hx | hx | hx
    · subst hx
      exact .inl h1
    · exact .inl (h3 k hx)
    · exact .inl (h4 k hx)
    · exact .inr hx
theorem bacc_n (FB : Nat → Prop) (gB : Nat) (B : Bm) (lo go : Nat) (l : List Ma) (w : World) (h : BookAt w FB gB B) (ha : AccOwn w lo go l) (hgo : ¬ FB go) (hbd : ∀ k, bodOwn l k → ¬ FB k) (hbl : ∀ m ∈ l, m.body.length ≤ 1000000000) (hl : l.length ≤ 1000000000) (hB : B.bods.length + 2 * l.length ≤ 5000000000000) (hA : B.lists.length < 100000000000) :
    Calls Try.prog 38 #[.pointer (some ⟨gB, 0, none⟩), .slice (some ⟨go, 0, none⟩) l.length l.length] w fun e w' => e = .returned (.tuple #[]) ∧ ∃ B' FB', BookAt w' FB' gB B' ∧ B'.ids.length = B.ids.length ∧ B'.lists.length = B.lists.length + 1 ∧ B'.bods.length = B.bods.length + 2 * l.length ∧ (∀ k, FB' k → FB k ∨ k = go ∨ bodOwn l k ∨ w.heap.size ≤ k) ∧ Evt (fun k => FB k ∨ k = go ∨ bodOwn l k) w w' := by
  obtain ⟨D, vI, vL, vA, vB, vM, hv, h1, h2, h3, h4, h5, h6, h7⟩ := h.ok
  refine (bacc_any D gB B vI vL vA vB vM lo go l w hv ha (fun hd => hgo (h2 go hd)) (fun k hk => ⟨fun hd => hbd k hk (h2 k hd), fun hd => hbd k hk (h7 k hd)⟩) hbl hl hB hA).mono ?_
  rintro e w' ⟨rfl, B', D', vA', vB', vM', hb, q1, q2, q3, hD, hA', hB', hM', he⟩
  have hz := he.size
  have lA := own_lt hb.rA
  have lB := own_lt hb.rB
  have lM := own_lt hb.rM
  refine ⟨rfl, B', (fun k => FB k ∨ D' k ∨ vA'.ownBlock = some k ∨ vB'.ownBlock = some k ∨ vM'.ownBlock = some k), ⟨⟨D', vI, vL, vA', vB', vM', hb, .inl h1, fun k hk => .inr (.inl hk), fun k hk => .inl (h3 k hk), fun k hk => .inl (h4 k hk), fun k hk => .inr (.inr (.inl hk)), fun k hk => .inr (.inr (.inr (.inl hk))), fun k hk => .inr (.inr (.inr (.inr hk)))⟩, fun k hk => ?_⟩, q1, q2, q3, fun k hk => ?_, he.mono fun k _ hk => ?_⟩
  · rcases hk with hx | hx | hx | hx | hx
    · exact Nat.lt_of_lt_of_le (h.lt k hx) hz
    · exact hb.lt k hx
    · exact lA k hx
    · exact lB k hx
    · exact lM k hx
  · rcases hk with hx | hx | hx | hx | hx
    · exact .inl hx
    · rcases hD k hx with hy | hy | hy | hy
      · exact .inl (h2 k hy)
      · exact .inr (.inl hy)
      · exact .inr (.inr (.inl hy))
      · exact .inr (.inr (.inr hy))
    · rcases hA' k hx with hy | hy
      · exact .inl (h5 k hy)
      · exact .inr (.inr (.inr hy))
    · rcases hB' k hx with hy | hy
      · exact .inl (h6 k hy)
      · exact .inr (.inr (.inr hy))
    · rcases hM' k hx with hy | hy
      · exact .inl (h7 k hy)
      · exact .inr (.inr (.inr hy))
  · rcases hk with hx | hx | hx | hx | hx | hx
    · subst hx
      exact .inl h1
    · exact .inr (.inl hx)
    · exact .inl (h5 k hx)
    · exact .inl (h6 k hx)
    · exact .inl (h7 k hx)
    · exact .inr (.inr hx)
set_option maxHeartbeats 2000000 in
theorem copied_own (A : Option Addr) (body : List Int) (c : Nat) (w : World) (hrc : RC w A (u8s body)) (hbl : body.length ≤ 140737488351232) :
    Calls Try.prog 13 #[.slice A body.length c] w fun e w' => ∃ V d, e = .returned (.slice V body.length d) ∧ w'.ownsRow 0 5 1 (.slice V body.length d) body.length (u8s body) ∧ (∀ k, (Value.slice V body.length d).ownBlock = some k → w.heap.size ≤ k) ∧ Evt (fun _ => False) w w' := by
  go_enter Try.func13, Try.ntmps13
  repeat' (first | ((with_reducible refine' e_appC (v := .slice none 0 0) (n := 0) (m := body.length) (xs := []) (news := u8s body) ?hx ?hy ?hzs ?hsz ?hown ?hl ?hr ?h1 ?hb ?hm ?_); (case hx => rfl); (case hy => rfl); (case hzs => rfl); (case hsz => decide); (case hown => exact World.ownsRow_nil _ _ _ _); (case hl => simp [u8s]); (case hr => exact hrc.up (by exact eqq)); (case h1 => exact u8s_one _); (case hb => omega); (case hm => omega); intro vA wA hoA heA0 haA hzA; have heA : Evt (fun _ => False) _ wA := heA0.mono (fun k _ hk => by simp [Value.ownBlock] at hk); clear heA0; simp only [Nat.zero_add, List.nil_append] at hoA; obtain ⟨VB, dB, hVB⟩ := own_slice hoA; subst hVB; (conv => arg 5; simp only [zA, zB, ev, lget, zC, zD, zE, zF, zG, zH, zI, zJ, zK, zL, zM, zN, zO])) | (with_reducible (first | refine' wp_seq ?_ | refine' wp_region_lit ?_ | refine' wpList_nil ?_ | refine' then_normal ?_ | refine' wp_ret ?_)) | ((with_reducible refine' b_ret1 ?hr ?hv ?_); (case hr => rfl); (case hv => ((try simp only [ev, lget]); (try rfl)))) | ((with_reducible refine' l_step ?_); ((first | (with_reducible refine' g_move ?_) | (with_reducible refine' g_assign ?_)); (conv => arg 5; simp only [zA, zB, ev, lget, zC, zD, zE, zF, zG, zH, zI, zJ, zK, zL, zM, zN, zO]))))
  exact ⟨_, _, rfl, hoA, fun k hk => by have h1 := own_fresh haA k hk; omega, by exact eqq⟩
@[reducible] def prC (g : Nat) (R : Rn) : List Value := [.pointer (some ⟨g, 0, none⟩), .int .i64 R.now, .slice R.AA R.acc.length R.cA, .slice R.AF R.fates.length R.cF, .slice R.AM R.msgs.length R.cM]
theorem RC.pre {w : World} {A : Option Addr} {xs ys : List Value} (h : RC w A (xs ++ ys)) : RC w A xs := fun hn => by
  obtain ⟨b, o, hA, hc⟩ := h (by rw [List.length_append]; omega)
  exact ⟨b, o, hA, fun j v hj => hc j v (by rw [List.getElem?_append_left (List.getElem?_eq_some_iff.1 hj).1]; exact hj)⟩
theorem RC.suf {w : World} {b o : Nat} {xs ys : List Value} (h : RC w (some ⟨b, o, none⟩) (xs ++ ys)) : RC w (some ⟨b, o + xs.length, none⟩) ys := fun hn => by
  obtain ⟨b', o', hA, hc⟩ := h (by rw [List.length_append]; omega)
  cases hA
  exact ⟨_, _, rfl, fun j v hj => by
    rw [Nat.add_assoc]
    exact hc _ v (by rw [List.getElem?_append_right (by omega), Nat.add_sub_cancel_left]; exact hj)⟩
/-- What a network and the document's need for a step. -/
structure Rdy (N : Net) (R : Rn) : Prop where
  ok : NetOk N
  fl : N.fates.length ≤ 4096
  fe : N.fates = R.fates
  nr : RelNR N R.p
  msgs : R.msgs.length ≤ 100000000000
  acc : R.acc.length ≤ 100000000000
  now : 0 ≤ R.now ∧ R.now ≤ 100000000000000000
  bod : ∀ m ∈ N.acc, m.body.length ≤ 1000000000
  bodR : ∀ m ∈ R.acc, m.body.length ≤ 1000000000
structure SentAt (w w' : World) (F G : Nat → Prop) (g : Nat) (N : Net) (R : Rn) (o : Opr) (F' G' : Nat → Prop) (N' : Net) (R' : Rn) : Prop where
  net : NetAt w' F' g N'
  ref : RefAt w' G' R'
  hN : ∃ A c, N' = handN N { ack := false, id := o.id, body := o.body, left := 0, A := A, c := c }
  hR : ∃ A c, R'.p = { R.p with fates := R.fates.tail, msgs := R.msgs ++ copR R.now (R.fates.headD 49) { ack := false, id := o.id, body := o.body, at_ := 0, again := 0, A := A, c := c } }
  fF : ∀ k, F' k → F k ∨ w.heap.size ≤ k
  gG : ∀ k, G' k → G k ∨ w.heap.size ≤ k
  gU : ∀ k, G k → G' k
  gl : ∀ k, G' k → k < w'.heap.size
  fg : ∀ k, F' k → ¬ G' k
  evt : Evt F w w'
set_option maxRecDepth 20000 in
set_option maxHeartbeats 8000000 in
theorem sent_any (F G H : Nat → Prop) (g : Nat) (N : Net) (R : Rn) (o : Opr) (w : World) (hN : NetAt w F g N) (hR : RefAt w G R) (hGl : ∀ k, G k → k < w.heap.size) (hfg : ∀ k, F k → ¬ G k) (hr : Rdy N R) (hrg : RG w H o.A (u8s o.body)) (hH : ∀ k, H k → ¬ F k ∧ k < w.heap.size) (hbl : o.body.length ≤ 1048576) :
    Calls Try.prog 35 #[.agg (prC g R).toArray, .agg (opC o).toArray] w fun e w' => ∃ F' G' N' R', e = .returned (.tuple #[.agg (prC g R').toArray, .bool true]) ∧ SentAt w w' F G g N R o F' G' N' R' := by
  have hlR : ∀ c ∈ R.fates, letterB c := fun c hc => hr.ok.let_ c (by rw [hr.fe]; exact hc)
  go_enter Try.func35, Try.ntmps35
  repeat' (first | (with_reducible refine' stop_reg (id := 2) ?_) | (go_at_call 13; (with_reducible refine (copied_own o.A o.body o.c _ (hrg.rc.up (by exact eqq)) (by omega)).mono ?_); rintro e wc ⟨VC, dC, rfl, hoC, hnC, hevC⟩; have hzC := hevC.size; refine ⟨_, rfl, ?_⟩; (conv => arg 5; simp only [zA, zB, ev, lget, zC, zD, zE, zF, zG, zH, zI, zJ, zK, zL, zM, zN, zO])) | (((with_reducible refine' e_append ?hx ?hy ?hzs ?hsz ?hown ?hl ?hnews ?h1 ?hb ?hm ?_); (case hx => ((try simp only [ev, lget]); (try rfl))); (case hy => rfl); (case hzs => rfl); (case hsz => decide); (case hown => exact oqq); (case hnews => refine' blk_src ?hbb; (case hbb => exact bqq)); (case hl => rfl); (case h1 => simp [Value.oneCell']); (case hb => omega); (case hm => omega); intro vA wA hoA heA hnA haA hzA; (conv => arg 5; simp only [zA, zB, ev, lget, zC, zD, zE, zF, zG, zH, zI, zJ, zK, zL, zM, zN, zO])); have hlA := own_lt hoA; obtain ⟨VA, dA, hVA⟩ := own_slice hoA; subst hVA) | (with_reducible (first | refine' wp_seq ?_ | refine' wp_region_lit ?_ | refine' wpList_nil ?_ | refine' then_normal ?_)) | ((with_reducible refine' l_step ?_); ((first | (with_reducible refine' g_assign ?_) | ((with_reducible refine' g_fieldAddr ?hx ?ho ?_); (case hx => rfl); (case ho => rfl)) | ((with_reducible refine' g_loadB ?hx ?hb ?hc ?_); (case hx => rfl); (case hb => exact bqq); first | (case hc => rfl) | (case hn => simp only [List.length_cons, List.length_nil]; omega))); (conv => arg 5; simp only [zA, zB, ev, lget, zC, zD, zE, zF, zG, zH, zI, zJ, zK, zL, zM, zN, zO]))) | ((first | ((with_reducible refine' e_boxA ?hx ?_); (case hx => rfl)) | ((with_reducible refine' e_alloc ?hx ?_); (case hx => rfl)) | ((with_reducible refine' e_sliceLit ?hx ?hi ?hv ?hn ?_); (case hx => simp only [zC, zD, ev, lget]; (try rfl)); (case hi => rfl); (case hv => simp [Value.cells]); (case hn => decide); simp only [List.flatMap_cons, List.flatMap_nil, Value.cells, List.cons_append, List.nil_append])); intro _ _ _ _ _ _ _; (conv => arg 5; simp only [zA, zB, ev, lget, zC, zD, zE, zF, zG, zH, zI, zJ, zK, zL, zM, zN, zO])) | ((with_reducible refine' l_call TFn.ent ?ha ?_); (case ha => simp only [zC, zD, ev, lget]; (try rfl))))
  refine stop_go ?_
  rename_i gx wx x1 x2 hx ex zx gO wo o1 o2 hO eO zO' gr wr r1 r2 hrr er zr g4 w4 b1 b2 hb4 e4 z4
  have eA0 : Evt (fun _ => False) wr wA := Evt.next heA (Evt.next e4 hevC (fun _ _ h => h)) (fun k hk0 hk => by have := hnC k hk; omega)
  have hxA := (((hx.evt eO (fun h => h)).evt er (fun h => h)).evt eA0 (fun h => h))
  have hOA := ((hO.evt er (fun h => h)).evt eA0 (fun h => h))
  have hrA := hrr.evt eA0 (fun h => h)
  have eA : Evt (fun _ => False) w wA := Evt.next eA0 (Evt.next er (Evt.next eO ex (fun _ _ h => h)) (fun _ _ h => h)) (fun _ _ h => h)
  have hcap := own_cap hoA (by decide)
  have oA : ∀ k, (Value.slice VA (o.body.length + 3) dA).ownBlock = some k → wr.heap.size ≤ k := fun k hk => by
    rcases own_or (B := wr.heap.size) haA (by omega) k hk with h1 | h1
    · exact hnC k h1
    · exact h1
  obtain ⟨bA, capA, hvA, hobA, hbAl, hcellA⟩ := own_form hoA (show 0 < o.body.length + 3 by omega)
  simp only [Value.slice.injEq] at hvA
  obtain ⟨rfl, _, rfl⟩ := hvA
  have hbA := oA bA rfl
  have hNA := hN.up eA
  have hRA := hR.up eA
  have hrcA := RC.own hoA
  have hrcP : RC wA (some ⟨bA, 0, none⟩) (u8s o.body) := RC.pre hrcA
  have hgx : Blk wA gx 67 (prC g R) := hxA
  clear hx hO hrr hb4 hoC heA hevC er eO ex e4 hxA
  repeat' (first | (with_reducible refine' stop_reg (id := 4) ?_) | (go_at_call 12; (refine (send_n g F N o.ack o.id o.body (some ⟨bA, 0, none⟩) dA _ hNA hrcP (by omega) hr.ok.let_ (Nat.le_trans hr.ok.fly (by omega))).mono ?_); rintro e wS ⟨F2, VS, dS, rfl, hN2, hF2, hevS⟩; have hzS := hevS.size; refine ⟨_, rfl, ?_⟩; (conv => arg 5; simp only [zA, zB, ev, lget, zC, zD, zE, zF, zG, zH, zI, zJ, zK, zL, zM, zN, zO])) | (with_reducible (first | refine' wp_seq ?_ | refine' wp_region_lit ?_ | refine' wpList_nil ?_ | refine' then_normal ?_)) | ((with_reducible refine' l_step ?_); (first | ((first | (with_reducible refine' g_move ?_) | (with_reducible refine' g_assign ?_) | ((with_reducible refine' g_fieldAddr ?hx ?ho ?_); (case hx => rfl); (case ho => rfl)) | ((with_reducible refine' g_loadB ?hx ?hb ?hc ?_); (case hx => rfl); (case hb => exact bqq); first | (case hc => rfl) | (case hn => simp only [List.length_cons, List.length_nil]; omega)) | ((with_reducible refine' g_lenS ?hx ?_); (case hx => rfl)) | ((with_reducible refine' g_sliceH ?hx ?hy ?h0 ?h1 ?_); (case hx => rfl); (case hy => rfl); (case h0 => omega); (case h1 => omega))); (conv => arg 5; simp only [zA, zB, ev, lget, zC, zD, zE, zF, zG, zH, zI, zJ, zK, zL, zM, zN, zO])) | ((with_reducible refine' g_build ?hl ?hp ?hs ?_); (case hl => rfl); (case hp => rfl); (case hs => rfl); (conv => arg 5; simp only [zA, zB, ev, lget, zC, zD, zE, zF, zG, zH, zI, zJ, zK, zL, zM, zN, zO, fillL, splice, List.getD_cons_zero, List.getD_cons_succ, Value.cells])))) | ((with_reducible refine' l_call TFn.ent ?ha ?_); (case ha => simp only [zC, zD, ev, lget]; (try rfl))))
  refine stop_go ?_
  have nF : ∀ k, wx.heap.size ≤ k ∨ k = gx ∨ k = gO ∨ k = gr → ¬ F k := fun k hk hh => by
    have := hN.lt k hh
    omega
  have hx2 := hgx.evt hevS (nF gx (by omega))
  have hO2 := hOA.evt hevS (nF gO (by omega))
  have hr2 := hrA.evt hevS (nF gr (by omega))
  have hoA2 := own_evt hevS hoA (fun k hk => nF k (by have := oA k hk; omega))
  have hR2 : RefAt wS G R := hRA.evt hevS (fun k _ hk hh => hfg k hh hk) (fun _ h => h)
  have hrgS : RG wS H o.A (u8s o.body) := (hrg.evt eA (fun _ _ _ h => h) (fun _ h => h)).evt hevS (fun k _ hk => (hH k hk).1) (fun _ h => h)
  clear hgx hOA hrA hrcA hrcP
  repeat' (first | (with_reducible refine' stop_reg (id := 5) ?_) | (go_at_call 41; (refine (send_r G R o.ack o.id o.body o.A o.c _ hR2 hrgS.rc (by omega) hlR (fun k hk => by have := hGl k hk; omega) (Nat.le_trans hr.msgs (by omega)) ⟨hr.now.1, by have := hr.now.2; omega⟩).mono ?_); rintro e wR ⟨R', VR, dR, rfl, q1, q2, q3, q4, hR3, hevR⟩; have hzR := hevR.size; refine ⟨_, rfl, ?_⟩; simp only [rnC]; (conv => arg 5; simp only [zA, zB, ev, lget, zC, zD, zE, zF, zG, zH, zI, zJ, zK, zL, zM, zN, zO])) | (with_reducible (first | refine' wp_seq ?_ | refine' wp_region_lit ?_ | refine' wpList_nil ?_ | refine' then_normal ?_)) | ((with_reducible refine' l_step ?_); (first | ((first | ((with_reducible refine' g_fieldAddr ?hx ?ho ?_); (case hx => rfl); (case ho => rfl)) | ((first | (with_reducible refine' g_loadB ?hx ?hb ?hc ?_) | (with_reducible refine' g_loadS ?hx ?hb ?hn ?_)); (case hx => rfl); (case hb => exact bqq); first | (case hc => rfl) | (case hn => simp only [List.length_cons, List.length_nil]; omega))); (conv => arg 5; simp only [zA, zB, ev, lget, zC, zD, zE, zF, zG, zH, zI, zJ, zK, zL, zM, zN, zO])) | ((with_reducible refine' g_build ?hl ?hp ?hs ?_); (case hl => rfl); (case hp => rfl); (case hs => rfl); (conv => arg 5; simp only [zA, zB, ev, lget, zC, zD, zE, zF, zG, zH, zI, zJ, zK, zL, zM, zN, zO, fillL, splice, List.getD_cons_zero, List.getD_cons_succ, Value.cells])))) | ((first | ((with_reducible refine' e_storeB ?hx ?hy ?hv ?h1 ?hb ?ho ?_); (case hx => rfl); (case hy => ((try simp only [ev, lget]); (try rfl))); (case hv => rfl); (case h1 => rfl)) | ((with_reducible refine' e_storeR ?hx ?hy ?h1 ?hb ?hn ?ho ?_); (case hx => rfl); (case hy => rfl); (case h1 => simp [Value.oneCell']); (case hn => rfl))); (case hb => exact bqq); (case ho => first | (simp only [List.length_cons, List.length_nil]; omega) | omega | (simp; omega) | simp); (try simp only [splice, zA, zB]); intro _ _ _ _) | ((with_reducible refine' l_call TFn.ent ?ha ?_); (case ha => simp only [zC, zD, ev, lget]; (try rfl))))
  refine stop_go ?_
  rename_i w5 h5 e5 z5
  have hFb : ∀ k, F2 k → k < wS.heap.size := hN2.lt
  have nF2 : ∀ k, F2 k → F k ∨ wA.heap.size ≤ k := hF2
  have hO5 := (hO2.evt hevR (fun h => h)).evt e5 (fun hh => by have h' : gO = gx := hh; omega)
  have hr5 := (hr2.evt hevR (fun h => h)).evt e5 (fun hh => by have h' : gr = gx := hh; omega)
  have hx5 : Blk w5 gx 67 (prC g R') := h5
  have hoA5 := own_evt e5 (own_evt hevR hoA2 (fun _ _ h => h)) (fun k hk hh => by have h' : k = gx := hh; have := oA k hk; omega)
  have hrg5 : RC w5 o.A (u8s o.body) := ((hrgS.evt hevR (fun _ _ _ h => h) (fun _ h => h)).evt e5 (fun k _ hk hh => by have h' : k = gx := hh; have := (hH k hk).2; omega) (fun _ h => h)).rc
  have hN5 : NetAt w5 F2 g _ := (hN2.up hevR).evt e5 (fun k hk hh => by
    have h' : k = gx := hh
    rcases nF2 k hk with h1 | h1
    · exact nF gx (by omega) (h' ▸ h1)
    · omega) (fun _ h => h) (fun k hk => by have := hFb k hk; omega)
  have hR5 : RefAt w5 (Gn G wS wR) R' := hR3.evt e5 (fun k _ hk hh => by
    have h' : k = gx := hh
    rcases hk with h1 | h1
    · have := hGl k h1; omega
    · omega) (fun _ h => h)
  have e05 : Evt F w w5 := Evt.next e5 (Evt.next hevR (Evt.next hevS (eA.mono fun _ _ h => h.elim) (fun _ _ h => h)) (fun _ _ h => h.elim)) (fun k hk0 hk => by have h' : k = gx := hk; omega)
  have hpre5 : RC w5 (some ⟨bA, 0, none⟩) (u8s o.body) := RC.pre (RC.own hoA5)
  have hsuf5 : RC w5 (from_ (some ⟨bA, 0, none⟩) dA 1 o.body.length) (u8s [90, 91, 92]) := by
    have h1 := RC.suf (RC.own hoA5)
    rw [u8s_length] at h1
    rw [from_, if_neg (by omega)]
    simp only [Option.map_some, add_off, Nat.mul_one]
    exact h1
  clear hx2 hO2 hr2 hoA2 hN2 hR2 hR3 hrgS h5
  repeat' (first | (with_reducible refine' stop_reg (id := 6) ?_) | (go_at_call 29; (with_reducible refine (same_t (some ⟨bA, 0, none⟩) o.A dA o.c o.body.length o.body.length o.body o.body _ (hpre5.up (by exact eqq)) (hrg5.up (by exact eqq)) rfl rfl (by omega) (by omega) rfl).mono ?_); rintro e wq ⟨rfl, evq⟩; have zq := evq.size; refine ⟨_, rfl, ?_⟩; (conv => arg 5; simp only [zA, zB, ev, lget, zC, zD, zE, zF, zG, zH, zI, zJ, zK, zL, zM, zN, zO])) | (go_at_call 29; (refine (same_t (from_ (some ⟨bA, 0, none⟩) dA 1 o.body.length) _ (dA - o.body.length) 3 (o.body.length + 3 - o.body.length) 3 [90, 91, 92] [90, 91, 92] _ (hsuf5.up (by exact eqq)) (RC.blk (by exact bqq) 3 rfl) (by simp) rfl (by omega) (by omega) rfl).mono ?_); rintro e ws ⟨rfl, evs⟩; have zs := evs.size; refine ⟨_, rfl, ?_⟩; (conv => arg 5; simp only [zA, zB, ev, lget, zC, zD, zE, zF, zG, zH, zI, zJ, zK, zL, zM, zN, zO])) | (with_reducible (first | refine' wp_seq ?_ | refine' wp_region_lit ?_ | refine' wpList_nil ?_ | refine' then_normal ?_)) | ((with_reducible refine' l_step ?_); ((first | (with_reducible refine' g_move ?_) | (with_reducible refine' g_assign ?_) | ((with_reducible refine' g_fieldAddr ?hx ?ho ?_); (case hx => rfl); (case ho => rfl)) | ((with_reducible refine' g_loadB ?hx ?hb ?hc ?_); (case hx => rfl); (case hb => exact bqq); first | (case hc => rfl) | (case hn => simp only [List.length_cons, List.length_nil]; omega)) | ((with_reducible refine' g_pickT ?hx ?_); (case hx => rfl)) | ((with_reducible refine' g_lenS ?hx ?_); (case hx => rfl)) | ((with_reducible refine' g_sliceLA ?hx ?hy ?h0 ?h1 ?_); (case hx => rfl); (case hy => rfl); (case h0 => omega); (case h1 => omega))); (conv => arg 5; simp only [zA, zB, ev, lget, zC, zD, zE, zF, zG, zH, zI, zJ, zK, zL, zM, zN, zO]))) | ((with_reducible refine' l_on ?hw ?_); (case hw => rfl)) | (((with_reducible refine' e_sliceLit ?hx ?hi ?hv ?hn ?_); (case hx => simp only [zC, zD, ev, lget]; (try rfl)); (case hi => rfl); (case hv => simp [Value.cells]); (case hn => decide); simp only [List.flatMap_cons, List.flatMap_nil, Value.cells, List.cons_append, List.nil_append]); intro _ _ _ _ _ _ _; (conv => arg 5; simp only [zA, zB, ev, lget, zC, zD, zE, zF, zG, zH, zI, zJ, zK, zL, zM, zN, zO])) | ((with_reducible refine' l_call TFn.ent ?ha ?_); (case ha => simp only [zC, zD, ev, lget]; (try rfl))))
  refine stop_go ?_
  have e5s : Evt (fun _ => False) w5 ws := by exact eqq
  have hx6 := hx5.evt e5s (fun h => h)
  have hr6 := hr5.evt e5s (fun h => h)
  have hoA6 := own_evt e5s hoA5 (fun _ _ h => h)
  have hN6 := hN5.up e5s
  have hR6 := hR5.up e5s
  have z6 := e5s.size
  obtain ⟨cur0, hcur0, hcl0⟩ : ∃ cur, Blk ws bA 5 cur ∧ cur.length = dA := by
    rcases own_blk_of hoA6 with ⟨h1, _⟩ | ⟨g', cap, cur, h1, hb, _, hl, _⟩
    · simp at h1
    · simp only [Value.slice.injEq, Option.some.injEq, Addr.mk.injEq] at h1
      obtain ⟨⟨rfl, _⟩, _, rfl⟩ := h1
      exact ⟨cur, hb, by simpa using hl⟩
  have nbx : ¬ gx = bA := by omega
  have nbr : ¬ gr = bA := by omega
  have nbF : ∀ k, F2 k → ¬ k = bA := fun k hk hh => by
    subst hh
    rcases nF2 k hk with h1 | h1
    · exact nF k (by omega) h1
    · omega
  clear hx5 hr5 hO5 hoA5 hN5 hR5 hpre5 hsuf5 hrg5 hoA6
  repeat' (first | (with_reducible (first | refine' wp_region_lit ?_ | refine' wpList_nil ?_ | refine' then_normal ?_ | refine' wp_block ?_)) | ((with_reducible refine' l_step ?_); ((with_reducible refine' g_assign ?_); (conv => arg 5; simp only [zA, zB, ev, lget, zC, zD, zE, zF, zG, zH, zI, zJ, zK, zL, zM, zN, zO]))))
  refine' s_loop [9, 53, 54, 55, 56, 57, 58, 59, 60, 61] (fun n u w' => ∃ (i : Nat) (cur : List Value), n = (o.body.length + 3) - i ∧ i ≤ o.body.length + 3 ∧ u 9 = .int .i64 i ∧ Blk w' bA 5 cur ∧ cur.length = dA ∧ Evt (fun k => k = bA) ws w') (o.body.length + 3) ?h0 ?round
  case h0 => exact ⟨0, cur0, rfl, by omega, rfl, hcur0, hcl0, Evt.refl _ _⟩
  case round =>
    rintro n u w6 ⟨i, cur, rfl, hi, h9, hb6, hcl6, ev6⟩
    simp only [setW, List.foldl_cons, List.foldl_nil, List.set_cons_succ, List.set_cons_zero]
    simp only [h9]
    have z7 := ev6.size
    by_cases hlt : i < o.body.length + 3
    · clear hx6 hr6 hcur0
      repeat' (first | (with_reducible (first | refine' wp_seq ?_ | refine' wp_region_lit ?_ | refine' wpList_nil ?_ | refine' then_normal ?_ | refine' wp_block ?_ | refine' wp_skip ?_ | refine' in_normal ?_)) | ((with_reducible refine' c_condT ?hx ?_); (case hx => rfl)) | ((with_reducible refine' l_step ?_); (first | ((first | (with_reducible refine' g_move ?_) | (with_reducible refine' g_assign ?_) | ((with_reducible refine' g_addN ?hx ?hy ?h0 ?h1 ?_); (case hx => rfl); (case hy => rfl); (case h0 => omega); (case h1 => omega)) | ((with_reducible refine' g_lenS ?hx ?_); (case hx => rfl)) | ((with_reducible refine' g_indexAddr ?hx ?hy ?h0 ?h1 ?_); (case hx => rfl); (case hy => rfl); (case h0 => omega); (case h1 => omega))); (conv => arg 5; simp only [zA, zB, ev, lget, zC, zD, zE, zF, zG, zH, zI, zJ, zK, zL, zM, zN, zO])) | (((with_reducible refine' g_lss ?hx ?hy (fun _ => ?_) (fun _ => ?_)); (case hx => rfl)); (case hy => rfl); all_goals (first | (exfalso; omega) | (conv => arg 5; simp only [zA, zB, ev, lget, zC, zD, zE, zF, zG, zH, zI, zJ, zK, zL, zM, zN, zO]))))) | ((first | ((with_reducible refine' e_storeB ?hx ?hy ?hv ?h1 ?hb ?ho ?_); (case hx => rfl); (case hy => ((try simp only [ev, lget]); (try rfl))); (case hv => rfl); (case h1 => rfl)) | ((with_reducible refine' e_storeR ?hx ?hy ?h1 ?hb ?hn ?ho ?_); (case hx => rfl); (case hy => rfl); (case h1 => simp [Value.oneCell']); (case hn => rfl))); (case hb => exact bqq); (case ho => first | (simp only [List.length_cons, List.length_nil]; omega) | omega | (simp; omega) | simp); (try simp only [splice, zA, zB]); intro _ _ _ _))
      rename_i w7 hb7 e7 z8
      exact ⟨_, _, rfl, (by omega : o.body.length + 3 - (i + 1) < o.body.length + 3 - i), by simp only [zA, zB], i + 1, _, rfl, by omega, rfl, hb7, by rw [List.length_set]; exact hcl6, Evt.next e7 ev6 (fun _ _ h => h)⟩
    · obtain rfl : i = o.body.length + 3 := by omega
      have hx7 := hx6.evt ev6 nbx
      have hr7 := hr6.evt ev6 nbr
      clear hx6 hr6
      repeat' (first | (with_reducible (first | refine' wp_seq ?_ | refine' wp_region_lit ?_ | refine' wpList_nil ?_ | refine' then_normal ?_ | refine' wp_ret ?_ | refine' wp_exit ?_ | refine' then_exit ?_ | refine' in_exit ?_)) | ((with_reducible refine' c_condF ?hx ?_); (case hx => rfl)) | ((with_reducible refine' b_retN ?hr ?h2 ?ha ?_); (case hr => rfl); (case h2 => decide); (case ha => first | exact ra_nil | ((first | ((with_reducible refine' ra_tmp ?rv2 ?rh2); (case rv2 => ((try simp only [ev, lget]); (try rfl)))) | ((with_reducible refine' ra_cell ?rp2 ?rt2 ?rq2 ?rn2 ?rh2); (case rp2 => rfl); (case rt2 => infer_instance); (case rq2 => exact bqq); (case rn2 => rfl))); (case rh2 => first | exact ra_nil | ((first | ((with_reducible refine' ra_tmp ?rv1 ?rh1); (case rv1 => ((try simp only [ev, lget]); (try rfl)))) | ((with_reducible refine' ra_cell ?rp1 ?rt1 ?rq1 ?rn1 ?rh1); (case rp1 => rfl); (case rt1 => infer_instance); (case rq1 => exact bqq); (case rn1 => rfl))); (case rh1 => first | exact ra_nil)))))) | ((with_reducible refine' l_step ?_); (first | ((first | (with_reducible refine' g_move ?_) | (with_reducible refine' g_assign ?_) | ((with_reducible refine' g_loadS ?hx ?hb ?hn ?_); (case hx => rfl); (case hb => exact bqq); first | (case hc => rfl) | (case hn => simp only [List.length_cons, List.length_nil]; omega)) | ((with_reducible refine' g_lenS ?hx ?_); (case hx => rfl))); (conv => arg 5; simp only [zA, zB, ev, lget, zC, zD, zE, zF, zG, zH, zI, zJ, zK, zL, zM, zN, zO])) | (((with_reducible refine' g_lss ?hx ?hy (fun _ => ?_) (fun _ => ?_)); (case hx => rfl)); (case hy => rfl); all_goals (first | (exfalso; omega) | (conv => arg 5; simp only [zA, zB, ev, lget, zC, zD, zE, zF, zG, zH, zI, zJ, zK, zL, zM, zN, zO]))))) | ((first | ((with_reducible refine' e_storeB ?hx ?hy ?hv ?h1 ?hb ?ho ?_); (case hx => rfl); (case hy => ((try simp only [ev, lget]); (try rfl))); (case hv => rfl); (case h1 => rfl)) | ((with_reducible refine' e_storeR ?hx ?hy ?h1 ?hb ?hn ?ho ?_); (case hx => rfl); (case hy => rfl); (case h1 => simp [Value.oneCell']); (case hn => rfl))); (case hb => exact bqq); (case ho => first | (simp only [List.length_cons, List.length_nil]; omega) | omega | (simp; omega) | simp); (try simp only [splice, zA, zB]); intro _ _ _ _))
      rename_i w9 h9b e9 z9
      have nrF : ∀ k, F2 k → ¬ k = gr := fun k hk hh => by
        subst hh
        rcases nF2 k hk with h1 | h1
        · exact nF k (by omega) h1
        · omega
      refine ⟨F2, Gn G wS wR, _, R', rfl, {
        net := (hN6.evt ev6 nbF (fun _ h => h) (fun k hk => by have := hFb k hk; omega)).evt e9 nrF (fun _ h => h) (fun k hk => by have := hFb k hk; omega)
        ref := (hR6.evt ev6 (fun k _ hk hh => ?_) (fun _ h => h)).evt e9 (fun k _ hk hh => ?_) (fun _ h => h)
        hN := ⟨VS, dS, rfl⟩
        hR := ⟨VR, dR, ?_⟩
        fF := fun k hk => ?_
        gG := fun k hk => ?_
        gU := fun k hk => .inl hk
        gl := fun k hk => ?_
        fg := fun k hk hh => ?_
        evt := Evt.next e9 (Evt.next ev6 (Evt.next e5s e05 (fun _ _ h => h.elim)) (fun k hk0 hk => by have h' : k = bA := hk; omega)) (fun k hk0 hk => by have h' : k = gr := hk; omega) }⟩
      · have h' : k = bA := hh
        rcases hk with h1 | h1
        · have := hGl k h1; omega
        · omega
      · have h' : k = gr := hh
        rcases hk with h1 | h1
        · have := hGl k h1; omega
        · omega
      · show (⟨R'.now, R'.fates, R'.acc, R'.msgs⟩ : Rp) = _
        rw [q1, q2, q3, q4]
        rfl
      · rcases nF2 k hk with h1 | h1
        · exact .inl h1
        · exact .inr (by omega)
      · rcases hk with h1 | h1
        · exact .inl h1
        · exact .inr (by omega)
      · rcases hk with h1 | h1
        · have := hGl k h1; omega
        · omega
      · have h2 := hFb k hk
        rcases hh with h1 | h1
        · rcases nF2 k hk with h3 | h3
          · exact hfg k h3 h1
          · have := hGl k h1; omega
        · omega
end Go.Proofs.Ytmngcpackbekiaa
