/- A step on both boxes: Due. SHORT NORMX -/
import Derived.Test.YtchfkkliechgoaaStp17
namespace Go.Proofs.Ytchfkkliechgoaa
open Go.RowKit Go.Proofs.YtchfkkliechgoaaE
set_option linter.unusedSimpArgs false
set_option linter.unusedVariables false
set_option maxRecDepth 4000

theorem KB.rg {w : World} {G : Nat → Prop} {e : TypeId} {A : Option Addr} {n c : Nat} {xs : List Value} (h : KB w e A n c xs) (ho : 0 < xs.length → ∃ g, (Value.slice A n c).ownBlock = some g) (hG : ∀ g, (Value.slice A n c).ownBlock = some g → G g) : RG w G A xs := fun hn => by
  obtain ⟨g, hg⟩ := ho hn
  obtain ⟨b, o, hA, hc⟩ := h.rc ho hn
  obtain ⟨_, h1, _, _⟩ := h g hg
  rw [h1] at hA
  cases hA
  exact ⟨_, _, h1, hG _ hg, hc⟩
theorem own_some {w : World} {e : TypeId} {sz n c : Nat} {A : Option Addr} {xs : List Value} (h : w.ownsRow 0 e sz (.slice A n c) n xs) (hn : 0 < n) : ∃ g cur, A = some ⟨g, 0, none⟩ ∧ (Value.slice A n c).ownBlock = some g ∧ Blk w g e cur ∧ cur.take (n * sz) = xs ∧ cur.length = c * sz ∧ n ≤ c ∧ c ≤ maxLen := by
  rcases own_blk_of h with ⟨_, h2⟩ | ⟨g, cap, cur, h1, hb, ht, hl, hc1, hc2⟩
  · omega
  · simp only [Value.slice.injEq] at h1
    obtain ⟨rfl, _, rfl⟩ := h1
    exact ⟨g, cur, rfl, rfl, hb, ht, hl, hc1, hc2⟩
theorem own_mk {w : World} {e : TypeId} {sz n c g : Nat} {cur xs : List Value} (hb : Blk w g e cur) (ht : cur.take (n * sz) = xs) (hl : cur.length = c * sz) (hc1 : n ≤ c) (hc2 : c ≤ maxLen) (hx : xs.length = n * sz) : w.ownsRow 0 e sz (.slice (some ⟨g, 0, none⟩) n c) n xs :=
  ⟨hx, .inr ⟨g, c, cur.toArray, rfl, Nat.zero_le _, hb, hc1, hc2, by simpa using hl, by simpa using ht⟩⟩
def z5 (k : Pk) : Pk := ⟨-5, k.b⟩
theorem pkCs_set : ∀ (l : List Pk) (i : Nat) (x : Pk), l[i]? = some x → (pkCs l).set (i * 3 + 1) (.int .i64 (-5)) = pkCs (l.set i (z5 x))
  | [], i, x, h => by simp at h
  | y :: l, 0, x, h => by
    simp only [List.getElem?_cons_zero, Option.some.injEq] at h
    subst h
    simp [pkCs, pkC, z5]
  | y :: l, i + 1, x, h => by
    have ih := pkCs_set l i x (by simpa using h)
    have e1 : (i + 1) * 3 + 1 = (i * 3 + 1) + 3 := by omega
    rw [e1]
    simp only [pkCs, List.flatMap_cons, pkC, List.cons_append, List.nil_append, List.set_cons_succ]
    rw [show (l.flatMap fun m => [Value.bool false, .int .i64 m.id, bdV m.b]) = pkCs l from rfl, ih]
    rfl
/-- What was looked at holds -5 for its number. -/
def z5s (ks : List Pk) (i : Nat) : List Pk := (ks.take i).map z5 ++ ks.drop i
theorem z5s_get {ks : List Pk} {i : Nat} (hi : i < ks.length) : (z5s ks i)[i]? = some ks[i] := by
  rw [z5s, List.getElem?_append_right (by simp; omega)]
  simp only [List.length_map, List.length_take]
  rw [show i - min i ks.length = 0 by omega, List.getElem?_drop]
  simp [hi]
theorem z5s_succ {ks : List Pk} {i : Nat} (hi : i < ks.length) : (z5s ks i).set i (z5 ks[i]) = z5s ks (i + 1) := by
  rw [z5s, z5s, List.take_succ_eq_append_getElem hi, List.map_append, List.append_assoc, List.drop_eq_getElem_cons hi]
  have h1 : ((ks.take i).map z5).length = i := by simp; omega
  conv => lhs; rw [List.set_append_right _ _ (by omega), h1, Nat.sub_self]
  rfl
theorem z5s_len {ks : List Pk} {i : Nat} : (z5s ks i).length = ks.length := by
  rw [z5s, List.length_append, List.length_map, List.length_take, List.length_drop]
  omega
theorem pkCs_len' (l : List Pk) : (pkCs l).length = l.length * 3 := pkCs_len l
theorem bdCs_snoc (l : List Bd) (m : Bd) : bdCs (l ++ [m]) = bdCs l ++ [bdV m] := by simp [bdCs]
theorem BdO.up {w w' : World} {l : List Bd} (h : BdO w l) (he : Evt (fun _ => False) w w') : BdO w' l := ⟨fun m hm => own_evt he (h.own m hm) (fun _ _ h => h), h.dis, h.len⟩
set_option maxRecDepth 20000 in
set_option maxHeartbeats 8000000 in
theorem step3_any (F G : Nat → Prop) (gb n : Nat) (p : Pol) (Ap : Option Addr) (cp : Nat) (A : Option Addr) (c : Nat) (rs : List Nt) (o : Opr) (mark : Int) (w : World) (hS : St w F G gb n p A rs) (hri : RI w Ap p.hs) (hnow : -9223372036854775808 ≤ o.now ∧ o.now ≤ 9223372036854775807) (hn : n ≤ 1048576) (hk : o.kind = 3) :
    Calls Try.prog 29 #[.agg (polC p Ap cp).toArray, .agg (prC gb A rs.length c).toArray, .agg (opC o).toArray, .int .u8 mark] w fun e w' => ∃ F' G' n' A' c' rs' B cB bs ls, e = .returned (.tuple #[.agg (prC gb A' rs'.length c').toArray, .bool true, .agg #[.slice B (bs : List Bd).length cB, lsV ls]]) ∧ StepAt w w' F G gb n p mark F' G' n' A' rs' B bs ls := by
  go_enter Try.func29, Try.ntmps29
  repeat' (first | (with_reducible refine' stop_reg (id := 1) ?_) | (with_reducible (first | refine' wp_seq ?_ | refine' wp_region_lit ?_ | refine' wpList_nil ?_ | refine' then_normal ?_)) | ((with_reducible refine' l_step ?_); ((with_reducible refine' g_assign ?_); (conv => arg 5; simp only [zA, zB, ev, lget, zC, zD, zE, zF, zG, zH, zI, zJ, zK, zL, zM, zN, zO]))) | ((first | ((with_reducible refine' e_boxA ?hx ?_); (case hx => rfl)) | ((with_reducible refine' e_alloc ?hx ?_); (case hx => rfl))); intro _ _ _ _ _ _ _; (conv => arg 5; simp only [zA, zB, ev, lget, zC, zD, zE, zF, zG, zH, zI, zJ, zK, zL, zM, zN, zO])))
  rename_i gP wa a1 a2 hP0 ea za_ gX wb b1 b2 hX0 eb zb_ gO wc c1 c2 hO0 ec zc_ gR wd d1 d2 hR0 ed zd_ gU wB u1 u2 hU eu zu_
  have evB : Evt (fun _ => False) w wB := Evt.next eu (Evt.next ed (Evt.next ec (Evt.next eb ea (fun _ _ h => h)) (fun _ _ h => h)) (fun _ _ h => h)) (fun _ _ h => h)
  have hR := hR0.evt eu (fun h => h)
  have hO := (hO0.evt ed (fun h => h)).evt eu (fun h => h)
  have hX := ((hX0.evt ec (fun h => h)).evt ed (fun h => h)).evt eu (fun h => h)
  have hP := (((hP0.evt eb (fun h => h)).evt ec (fun h => h)).evt ed (fun h => h)).evt eu (fun h => h)
  have hSB := hS.up evB
  have nF : ∀ k, w.heap.size ≤ k → ¬ F k := fun k hk hh => by have := hS.fl k hh; omega
  have nG : ∀ k, w.heap.size ≤ k → ¬ G k := fun k hk hh => by have := hS.gl k hh; omega
  have fP : ¬ F gP := nF gP (by omega)
  have fX : ¬ F gX := nF gX (by omega)
  have fO : ¬ F gO := nF gO (by omega)
  have fR : ¬ F gR := nF gR (by omega)
  have fU : ¬ F gU := nF gU (by omega)
  have kEv : ∀ {S : Nat → Prop} {w' : World}, Evt S wB w' → (∀ k, k < w.heap.size → S k → F k) → Evt F w w' := fun he hs => Evt.next he (evB.mono fun _ _ h => h.elim) hs
  clear hP0 hX0 hO0 hR0 ea eb ec ed eu
  have hriB := hri.up evB
  clear evB
  refine stop_go ?_
  repeat' (first | (with_reducible refine' stop_reg (id := 24) ?_) | (with_reducible (first | refine' wp_seq ?_ | refine' wp_region_lit ?_ | refine' wpList_nil ?_ | refine' then_normal ?_ | refine' wp_block ?_)) | ((with_reducible refine' c_condT ?hx ?_); (case hx => rfl)) | ((with_reducible refine' c_condF ?hx ?_); (case hx => rfl)) | ((with_reducible refine' l_step ?_); (first | ((first | (with_reducible refine' g_assign ?_) | ((with_reducible refine' g_fieldAddr ?hx ?ho ?_); (case hx => rfl); (case ho => rfl)) | ((with_reducible refine' g_loadB ?hx ?hb ?hc ?_); (case hx => rfl); (case hb => exact bqq); first | (case hc => rfl) | (case hn => simp only [List.length_cons, List.length_nil]; omega))); (conv => arg 5; simp only [zA, zB, ev, lget, zC, zD, zE, zF, zG, zH, zI, zJ, zK, zL, zM, zN, zO])) | (((with_reducible refine' g_eql ?hx ?hy (fun _ => ?_) (fun _ => ?_)); (case hx => rfl)); (case hy => rfl); all_goals (first | (exfalso; omega) | (conv => arg 5; simp only [zA, zB, ev, lget, zC, zD, zE, zF, zG, zH, zI, zJ, zK, zL, zM, zN, zO]))))))
  obtain ⟨L, hB, hLp, hLn⟩ := hSB.box
  have hrl := hS.rl
  have hatL : ∀ e ∈ rs.map ntP, 0 ≤ e.att ∧ e.att ≤ n := fun e he => by
    rw [← hLp] at he
    obtain ⟨x, hx, rfl⟩ := List.mem_map.1 he
    obtain ⟨_, _, _, hv⟩ := hB
    exact hv.att x hx
  have hatr : ∀ m ∈ rs, 0 ≤ m.att ∧ m.att ≤ 1000000000000 := fun m hm => by
    have h1 := hatL (ntP m) (List.mem_map.2 ⟨m, hm, rfl⟩)
    have h2 : (ntP m).att = m.att := rfl
    omega
  have hblr : ∀ m ∈ rs, m.b.body.length ≤ 140737488351232 := fun m hm => by
    have h1 := hS.bln (ntP m) (List.mem_map.2 ⟨m, hm, rfl⟩)
    have h2 : (ntP m).body = m.b.body := rfl
    rw [h2] at h1
    omega
  have hrefB := hSB.ref
  refine stop_go ?_
  repeat' (first | (with_reducible refine' stop_reg (id := 25) ?_) | (go_at_call 41; refine (refDue_r G p Ap cp A c _ rs o.now _ (hriB.up (by exact eqq)) (hrefB.up (by exact eqq)) rfl (by omega) hnow hatr hblr).mono ?_; rintro e wV ⟨A', c', rs', VW, dW, k2, rfl, hpV, hkV, hgV, hwV, evV⟩; have zV_ := evV.size; refine ⟨_, rfl, ?_⟩; (conv => arg 5; simp only [zA, zB, ev, lget, zC, zD, zE, zF, zG, zH, zI, zJ, zK, zL, zM, zN, zO])) | (with_reducible (first | refine' wp_seq ?_ | refine' wp_region_lit ?_ | refine' wpList_nil ?_ | refine' then_normal ?_)) | ((with_reducible refine' l_step ?_); ((first | (with_reducible refine' g_move ?_) | (with_reducible refine' g_assign ?_) | ((with_reducible refine' g_fieldAddr ?hx ?ho ?_); (case hx => rfl); (case ho => rfl)) | ((first | (with_reducible refine' g_loadB ?hx ?hb ?hc ?_) | (with_reducible refine' g_loadS ?hx ?hb ?hn ?_)); (case hx => rfl); (case hb => exact bqq); first | (case hc => rfl) | (case hn => simp only [List.length_cons, List.length_nil]; omega)) | ((with_reducible refine' g_extract ?hx ?hv ?_); (case hx => rfl); (case hv => rfl))); (conv => arg 5; simp only [zA, zB, ev, lget, zC, zD, zE, zF, zG, zH, zI, zJ, zK, zL, zM, zN, zO]))) | ((first | ((with_reducible refine' e_storeB ?hx ?hy ?hv ?h1 ?hb ?ho ?_); (case hx => rfl); (case hy => ((try simp only [ev, lget]); (try rfl))); (case hv => rfl); (case h1 => rfl)) | ((with_reducible refine' e_storeR ?hx ?hy ?h1 ?hb ?hn ?ho ?_); (case hx => rfl); (case hy => rfl); (case h1 => simp [Value.oneCell']); (case hn => rfl))); (case hb => exact bqq); (case ho => first | (simp only [List.length_cons, List.length_nil]; omega) | omega | (simp; omega) | simp); (try simp only [splice, zA, zB]); intro _ _ _ _) | ((with_reducible refine' l_call TFn.ent ?ha ?_); (case ha => simp only [zC, zD, ev, lget]; (try rfl))))
  rename_i wM hXM evM zM_
  have evBM : Evt (fun k => k = gX) wB wM := Evt.next evM (evV.mono fun _ _ h => h.elim) (fun _ _ h => h)
  have hOM := hO.evt evBM (by omega)
  have hRM := hR.evt evBM (by omega)
  have hUM := hU.evt evBM (by omega)
  have hBM := hB.evt evBM (fun k hk hh => fX ((show k = gX from hh) ▸ hk)) (fun _ h => h) (fun k hk => by have := hS.fl k hk; omega)
  have nGn : ∀ k, Gn G wB wV k → k = gX ∨ k = gR ∨ k = gU → False := fun k hk hh => by
    rcases hk with h1 | h1
    · have := hS.gl k h1
      omega
    · omega
  have nGF : ∀ k, Gn G wB wV k → ¬ F k := fun k hk hh => by
    rcases hk with h1 | h1
    · exact hS.fg k hh h1
    · have := hS.fl k hh
      omega
  have hgM := hgV.evt evM (fun k _ hk hh => nGn k hk (.inl hh)) (fun _ h => h)
  have hwM := hwV.evt evM (fun k _ hk hh => nGn k hk (.inl hh)) (fun _ h => h)
  have hsame : duePk o.now (rs.map ntP) = dueL o.now L := by
    rw [dueL_pur, hLp]
    rfl
  clear hP hO hR hU hX hSB hB hgV hwV evV evM hrefB
  refine stop_go ?_
  repeat' (first | (with_reducible refine' stop_reg (id := 26) ?_) | (go_at_call 18; refine (due_any _ F gb n p L o.now hBM (by omega) (by omega) hnow).mono ?_; rintro e wD ⟨VG, dG, k1, rfl, hBD, hkD, hoG, hnG, hOB, evD⟩; have zD_ := evD.size; refine ⟨_, rfl, ?_⟩; (conv => arg 5; simp only [zA, zB, ev, lget, zC, zD, zE, zF, zG, zH, zI, zJ, zK, zL, zM, zN, zO])) | (with_reducible (first | refine' wp_seq ?_ | refine' wp_region_lit ?_ | refine' wpList_nil ?_ | refine' then_normal ?_)) | ((with_reducible refine' l_step ?_); ((first | (with_reducible refine' g_assign ?_) | ((with_reducible refine' g_fieldAddr ?hx ?ho ?_); (case hx => rfl); (case ho => rfl)) | ((with_reducible refine' g_loadB ?hx ?hb ?hc ?_); (case hx => rfl); (case hb => exact bqq); first | (case hc => rfl) | (case hn => simp only [List.length_cons, List.length_nil]; omega))); (conv => arg 5; simp only [zA, zB, ev, lget, zC, zD, zE, zF, zG, zH, zI, zJ, zK, zL, zM, zN, zO]))) | ((with_reducible refine' l_call TFn.ent ?ha ?_); (case ha => simp only [zC, zD, ev, lget]; (try rfl))))
  have hXD := hXM.evt evD fX
  have hOD := hOM.evt evD fO
  have hRD := hRM.evt evD fR
  have hUD := hUM.evt evD fU
  have hgD := hgM.evt evD (fun k _ hk hh => nGF k hk hh) (fun _ h => h)
  have hwD := hwM.evt evD (fun k _ hk hh => nGF k hk hh) (fun _ h => h)
  have kD : Evt (fun k => F k ∨ k = gX) wB wD := Evt.next (evD.mono fun _ _ h => .inl h) (evBM.mono fun _ _ h => .inr h) (fun _ _ h => h)
  have hpk : k1.map pkP = k2.map pkP := by rw [hkD, hkV, hsame]
  have hk1l : k1.length ≤ n := by
    have h1 := congrArg List.length hkD
    have h2 := dueL_len o.now L
    rw [List.length_map] at h1
    omega
  have hk2l : k2.length = k1.length := by
    have h1 := congrArg List.length hpk
    simpa using h1.symm
  have hb1 : ∀ x ∈ k1, x.b.body.length ≤ 1048576 := fun x hx => by
    have h1 : pkP x ∈ k1.map pkP := List.mem_map.2 ⟨x, hx, rfl⟩
    rw [hkD, ← hsame] at h1
    obtain ⟨e, he, hee⟩ := List.mem_map.1 h1
    have h2 := hS.bln e (List.mem_filter.1 he).1
    have h3 : e.body = x.b.body := congrArg Prod.snd hee
    rw [← h3]
    exact h2
  have hb2 : ∀ x ∈ k2, x.b.body.length ≤ 1048576 := fun x hx => by
    have h1 : pkP x ∈ k2.map pkP := List.mem_map.2 ⟨x, hx, rfl⟩
    rw [← hpk] at h1
    obtain ⟨y, hy, hyy⟩ := List.mem_map.1 h1
    have h2 := hb1 y hy
    have h3 : y.b.body = x.b.body := congrArg Prod.snd hyy
    rw [← h3]
    exact h2
  have hpkG : PkAt wD VG k1 := pkAt_own (lo := wM.heap.size) hoG hOB
  clear hXM hOM hRM hUM hBM hgM hwM evD evBM
  refine stop_go ?_
  repeat' (first | (go_at_call 26; refine (packets_any VG VW dG dW _ _ k1 k2 _ (hpkG.up (by exact eqq)) (hwD.pk.up (by exact eqq)) rfl rfl (by omega) (by omega) (fun x hx => by have := hb1 x hx; omega) (fun x hx => by have := hb2 x hx; omega)).mono ?_; rw [decide_eq_true hpk]; rintro e wK ⟨rfl, evK⟩; have zK_ := evK.size; refine ⟨_, rfl, ?_⟩; (conv => arg 5; simp only [zA, zB, ev, lget, zC, zD, zE, zF, zG, zH, zI, zJ, zK, zL, zM, zN, zO])) | (with_reducible (first | refine' wp_seq ?_ | refine' wp_region_lit ?_ | refine' wpList_nil ?_ | refine' then_normal ?_ | refine' wp_block ?_)) | ((with_reducible refine' l_step ?_); ((first | (with_reducible refine' g_move ?_) | (with_reducible refine' g_assign ?_)); (conv => arg 5; simp only [zA, zB, ev, lget, zC, zD, zE, zF, zG, zH, zI, zJ, zK, zL, zM, zN, zO]))) | ((with_reducible refine' l_call TFn.ent ?ha ?_); (case ha => simp only [zC, zD, ev, lget]; (try rfl))))
  have hXK := hXD.evt evK (fun h => h)
  have hRK := hRD.evt evK (fun h => h)
  have hUK := hUD.evt evK (fun h => h)
  have hgK := hgD.up evK
  have hBK := hBD.up evK
  have hoGK := own_evt evK hoG (fun _ _ h => h)
  have hOBK : OB wK wM.heap.size (k1.map (·.b)) := hOB.evt evK (fun _ _ _ _ h => h) (Nat.le_refl _)
  have kK : Evt (fun k => F k ∨ k = gX) wB wK := Evt.next evK kD (fun _ _ h => h.elim)
  clear hXD hOD hRD hUD hgD hBD hoG hOB kD hwD hpkG evK
  refine' s_loop [11, 23, 137, 138, 139, 140, 141, 142, 143, 144, 145, 146, 147, 148, 149, 150, 151, 152, 153, 154] (fun m u w' => ∃ (i : Nat) (V : Option Addr) (d : Nat), m = k1.length - i ∧ i ≤ k1.length ∧ u 23 = .int .i64 i ∧ u 11 = .slice V i d ∧ w'.ownsRow 0 28 1 (.slice V i d) i (bdCs ((k1.take i).map (·.b))) ∧ (∀ k, (Value.slice V i d).ownBlock = some k → wK.heap.size ≤ k) ∧ w'.ownsRow 0 50 3 (.slice VG k1.length dG) k1.length (pkCs (z5s k1 i)) ∧ Evt (fun k => (Value.slice VG k1.length dG).ownBlock = some k) wK w') k1.length ?h0 ?round
  case h0 => exact ⟨0, none, 0, rfl, by omega, rfl, rfl, World.ownsRow_nil _ _ _ _, by simp [Value.ownBlock], by simpa [z5s] using hoGK, Evt.refl _ _⟩
  case round =>
    rintro m u w6 ⟨i, V, d, rfl, hi, h23, h11, hoV, hnV, hoG6, ev6⟩
    simp only [setW, List.foldl_cons, List.foldl_nil, List.set_cons_succ, List.set_cons_zero]
    simp only [h23, h11]
    have z6 := ev6.size
    have hltG := own_lt hoGK
    by_cases hlt : i < k1.length
    · obtain ⟨gG, cur, rfl, hobG, hbG, htG, hlG, hc1, hc2⟩ := own_some hoG6 (by omega)
      have hgi := z5s_get hlt
      have hlen6 : (pkCs (z5s k1 i)).length = k1.length * 3 := by rw [pkCs_len, z5s_len]
      have hcb : w6.cell? ⟨gG, i * 3 + 2, none⟩ = some (bdV k1[i].b) := by
        rw [hbG.cell?]
        have h1 := flat_at (f := pkC) (sz := 3) (fun _ => rfl) (z5s k1 i) i 2 _ _ hgi rfl
        have h2 : (pkCs (z5s k1 i))[i * 3 + 2]? = some (bdV k1[i].b) := h1
        rw [← htG, List.getElem?_take] at h2
        split at h2
        · exact h2
        · cases h2
      have hst := pkCs_set (z5s k1 i) i _ hgi
      rw [z5s_succ hlt] at hst
      have htk : (k1.take (i + 1)).map (·.b) = (k1.take i).map (·.b) ++ [k1[i].b] := by rw [List.take_succ_eq_append_getElem hlt, List.map_append]; rfl
      have hcl : i * 3 + 1 < cur.length := by omega
      have hltV := own_lt hoV
      have hbG2 := hbG.lt
      have hnGV : ¬ (Value.slice V i d).ownBlock = some gG := fun hh => by
        have h1 := hnV gG hh
        have h2 := hltG gG rfl
        omega
      clear hXK hRK hUK hgK hBK hoGK hOBK
      generalize k1[i].b = xb at *
      repeat' (first | (((with_reducible refine' e_append ?hx ?hy ?hzs ?hsz ?hown ?hl ?hnews ?h1 ?hb ?hm ?_); (case hx => ((try simp only [ev, lget]); (try rfl))); (case hy => rfl); (case hzs => rfl); (case hsz => decide); (case hown => exact oqq); (case hnews => refine' blk_src ?hbb; (case hbb => exact bqq)); (case hl => rfl); (case h1 => simp [Value.oneCell']); (case hb => omega); (case hm => omega); intro vA wA hoA heA hnA haA hzA; (conv => arg 5; simp only [zA, zB, ev, lget, zC, zD, zE, zF, zG, zH, zI, zJ, zK, zL, zM, zN, zO])); have hlA := own_lt hoA; obtain ⟨VA, dA, hVA⟩ := own_slice hoA; subst hVA) | (with_reducible (first | refine' wp_seq ?_ | refine' wp_region_lit ?_ | refine' wpList_nil ?_ | refine' then_normal ?_ | refine' wp_block ?_ | refine' wp_skip ?_ | refine' in_normal ?_)) | ((with_reducible refine' c_condT ?hx ?_); (case hx => rfl)) | ((with_reducible refine' l_step ?_); (first | ((first | (with_reducible refine' g_move ?_) | (with_reducible refine' g_assign ?_) | ((with_reducible refine' g_fieldAddr ?hx ?ho ?_); (case hx => rfl); (case ho => rfl)) | ((with_reducible refine' g_loadC ?hx ?hc ?_); (case hx => rfl); (case hc => exact cqq)) | ((with_reducible refine' g_addN ?hx ?hy ?h0 ?h1 ?_); (case hx => rfl); (case hy => rfl); (case h0 => omega); (case h1 => omega)) | ((with_reducible refine' g_lenS ?hx ?_); (case hx => rfl)) | ((with_reducible refine' g_indexAddr ?hx ?hy ?h0 ?h1 ?_); (case hx => rfl); (case hy => rfl); (case h0 => omega); (case h1 => omega))); (conv => arg 5; simp only [zA, zB, ev, lget, zC, zD, zE, zF, zG, zH, zI, zJ, zK, zL, zM, zN, zO])) | (((with_reducible refine' g_lss ?hx ?hy (fun _ => ?_) (fun _ => ?_)); (case hx => rfl)); (case hy => rfl); all_goals (first | (exfalso; omega) | (conv => arg 5; simp only [zA, zB, ev, lget, zC, zD, zE, zF, zG, zH, zI, zJ, zK, zL, zM, zN, zO]))))) | (((with_reducible refine' e_sliceLit ?hx ?hi ?hv ?hn ?_); (case hx => simp only [zC, zD, ev, lget]; (try rfl)); (case hi => rfl); (case hv => simp [Value.cells]); (case hn => decide); simp only [List.flatMap_cons, List.flatMap_nil, Value.cells, List.cons_append, List.nil_append]); intro _ _ _ _ _ _ _; (conv => arg 5; simp only [zA, zB, ev, lget, zC, zD, zE, zF, zG, zH, zI, zJ, zK, zL, zM, zN, zO])) | ((first | ((with_reducible refine' e_storeB ?hx ?hy ?hv ?h1 ?hb ?ho ?_); (case hx => rfl); (case hy => ((try simp only [ev, lget]); (try rfl))); (case hv => rfl); (case h1 => rfl)) | ((with_reducible refine' e_storeR ?hx ?hy ?h1 ?hb ?hn ?ho ?_); (case hx => rfl); (case hy => rfl); (case h1 => simp [Value.oneCell']); (case hn => rfl))); (case hb => exact bqq); (case ho => first | (simp only [List.length_cons, List.length_nil]; omega) | omega | (simp; omega) | simp); (try simp only [splice, zA, zB]); intro _ _ _ _))
      rename_i g4 w4 q1 q2 hb4 e4 z4 w5 hb5 e5 z5
      have hlo := new_low (B := wK.heap.size) haA hnV (by omega)
      have hgK2 := hltG gG rfl
      have ev6A : Evt (fun k => (Value.slice V i d).ownBlock = some k) w6 wA := Evt.next heA (e4.mono fun _ _ h => h.elim) (fun _ _ h => h)
      have hoV5 := own_evt e5 hoA (fun k hk hh => by have h1 := hlo k hk; have h' : k = gG := hh; omega)
      have hoG5 : w5.ownsRow 0 50 3 (.slice (some ⟨gG, 0, none⟩) k1.length dG) k1.length (pkCs (z5s k1 (i + 1))) := own_mk hb5 (by rw [List.take_set, htG, hst]) (by rw [List.length_set]; exact hlG) hc1 hc2 (by rw [pkCs_len, z5s_len])
      exact ⟨_, _, rfl, (by omega : k1.length - (i + 1) < k1.length - i), by simp only [zA, zB], i + 1, VA, dA, rfl, by omega, rfl, rfl, by rw [htk, bdCs_snoc]; exact hoV5, hlo, hoG5, Evt.next e5 (Evt.next ev6A ev6 (fun k hk hh => by have := hnV k hh; omega)) (fun k hk hh => by have h' : k = gG := hh; rw [h']; rfl)⟩
    · obtain rfl : i = k1.length := by omega
      have hz5 : z5s k1 k1.length = k1.map z5 := by rw [z5s, List.take_length, List.drop_length, List.append_nil]
      rw [hz5] at hoG6
      rw [List.take_length] at hoV
      have hX6 := hXK.evt ev6 (fun hh => by have := hnG _ hh; omega)
      have hR6 := hRK.evt ev6 (fun hh => by have := hnG _ hh; omega)
      have hU6 := hUK.evt ev6 (fun hh => by have := hnG _ hh; omega)
      have hg6 := hgK.evt ev6 (fun k _ hk hh => by
        have h2 := hnG _ hh
        rcases hk with h1 | h1
        · have := hS.gl k h1
          omega
        · omega) (fun _ h => h)
      have hB6 := hBK.evt ev6 (fun k hk hh => by have h1 := hS.fl k hk; have h2 := hnG _ hh; omega) (fun _ h => h) (fun k hk => by have := hS.fl k hk; omega)
      have hOB6 : OB w6 wM.heap.size (k1.map (·.b)) := hOBK.evt ev6 (fun k cur hk _ hh => by obtain ⟨cur', hc⟩ := own_typ hoGK k hh; exact Blk.ne hk hc (by decide) rfl) (Nat.le_refl _)
      have k6 : Evt (fun k => F k ∨ wB.heap.size ≤ k ∨ k = gX) wB w6 := Evt.next (ev6.mono fun k _ hh => .inr (.inl (by have := hnG _ hh; omega))) (kK.mono fun k _ h => by rcases h with h | h; exact .inl h; exact .inr (.inr h)) (fun _ _ h => h)
      have hbl6 : (k1.map (·.b)).length = k1.length := List.length_map _
      have hbn6 : ∀ b ∈ k1.map (·.b), b.body.length ≤ 1048576 := fun b hb => by
        obtain ⟨x, hx, rfl⟩ := List.mem_map.1 hb
        exact hb1 x hx
      generalize hbs : k1.map (·.b) = bs at *
      have hLo : BdO w6 bs := ⟨hOB6.own, hOB6.dis, hbn6⟩
      have hrow6 : RC w6 V (bdCs bs) := own_rc hoV
      have hneV : ∀ b o, V = some ⟨b, o, none⟩ → ∀ m ∈ bs, ¬ (bdV m).ownBlock = some b := fun b o hV m hm hh => by
        subst hV
        obtain ⟨c1, hc1⟩ := own_typ hoV b rfl
        obtain ⟨c2, hc2⟩ := own_typ (hLo.own m hm) b hh
        exact Blk.ne hc1 hc2 (by decide) rfl
      have hlB : ∀ m ∈ bs, ∀ k, (bdV m).ownBlock = some k → wM.heap.size ≤ k := hOB6.low
      have hRb : ¬ ∃ m, m ∈ bs ∧ (bdV m).ownBlock = some gR := fun ⟨m, hm, h1⟩ => by
        have := hlB m hm _ h1
        omega
      have hUb : ¬ ∃ m, m ∈ bs ∧ (bdV m).ownBlock = some gU := fun ⟨m, hm, h1⟩ => by
        have := hlB m hm _ h1
        omega
      have hSX : ¬ ((∃ m ∈ bs, (bdV m).ownBlock = some gX) ∨ gX = gR ∨ gX = gU) := fun hh => by
        rcases hh with ⟨m, hm, h1⟩ | h1
        · have := hlB m hm _ h1
          omega
        · omega
      clear hXK hRK hUK hgK hBK hoGK hOBK kK hOB6 ev6
      repeat' (first | ((with_reducible refine' w_tree (id := 32) (fun k => (∃ m ∈ bs, (bdV m).ownBlock = some k) ∨ k = gR ∨ k = gU) (.pure 0 (.pure 1 (.pure 2 (.pure 3 (.pure 4 (.pure 7 (.pure 8 (.pure 9 (.one 5 (.pure 6 (.one 10 (.pure 11 (.one 12 .done))))))))))))) [9, 155, 156, 157, 158, 159, 160, 161, 162, 163, 164] (fun u w' => u 9 = .bool true ∧ Blk w' gR 65 (prC gb A' rs'.length c') ∧ Blk w' gU 70 [.slice V bs.length d, .slice VG k1.length dG] ∧ ∀ i (hi : i < bs.length), KB w' 5 bs[i].A bs[i].body.length bs[i].c (mkRow bs[i].body.length (mk8 mark i))) ?hm ?hn ?hl ?hB ?ta32 ?tb32); (case hm => kernel_rfl); (case hn => kernel_rfl); (case hl => kernel_rfl); (case hB => kernel_rfl); intro _ _ _) | ((with_reducible refine' tt_pure ?hi ?hv ?_); (case hi => rfl); (case hv => intro _ hqS; have hqz := hqS.size; (first | ((first | (with_reducible refine' g_move ?_) | (with_reducible refine' g_assign ?_) | ((with_reducible refine' g_loadS ?hx ?hb ?hn ?_); (case hx => rfl); (case hb => exact bqq); first | (case hc => rfl) | (case hn => simp only [List.length_cons, List.length_nil]; omega)) | ((with_reducible refine' g_pickT ?hx ?_); (case hx => rfl))); exact rfl) | ((with_reducible refine' g_build ?hl ?hp ?hs ?_); (case hl => rfl); (case hp => rfl); (case hs => rfl); exact rfl))); (conv => arg 6; simp only [zA, zB, ev, lget, zC, zD, zE, zF, zG, zH, zI, zJ, zK, zL, zM, zN, zO, fillL, splice, List.getD_cons_zero, List.getD_cons_succ, Value.cells])) | ((with_reducible refine' tt_on ?hi ?hw ?hv ?_); (case hi => rfl); (case hw => rfl); (case hv => intro _ hqS; have hqz := hqS.size; ((with_reducible refine' g_move ?_); exact rfl)); (conv => arg 6; simp only [zA, zB, ev, lget, zC, zD, zE, zF, zG, zH, zI, zJ, zK, zL, zM, zN, zO, fillL, splice, List.getD_cons_zero, List.getD_cons_succ, Value.cells])) | ((with_reducible refine' tt_one ?hi ?_); (case hi => rfl)) | ((with_reducible refine' tt_done ?hS ?_); (case hS => exact eqq)) | (with_reducible refine' tt_nil ?_) | (go_at_call 42; refine (apart_r V d _ bs mark _ (hrow6.up (by exact eqq)) (hLo.up (by exact eqq)) hneV (by omega) (by omega)).mono ?_; rintro e wQ ⟨rfl, hKQ, evQ⟩; have zQ_ := evQ.size; refine ⟨_, rfl, ?_⟩; (conv => arg 5; simp only [zA, zB, ev, lget, zC, zD, zE, zF, zG, zH, zI, zJ, zK, zL, zM, zN, zO])) | (with_reducible (first | refine' wp_seq ?_ | refine' wp_region_lit ?_ | refine' wpList_nil ?_ | refine' then_normal ?_ | refine' wp_exit ?_ | refine' then_exit ?_ | refine' in_exit ?_)) | ((with_reducible refine' c_condF ?hx ?_); (case hx => rfl)) | ((with_reducible refine' l_step ?_); (first | ((first | (with_reducible refine' g_move ?_) | ((with_reducible refine' g_lenS ?hx ?_); (case hx => rfl))); (conv => arg 5; simp only [zA, zB, ev, lget, zC, zD, zE, zF, zG, zH, zI, zJ, zK, zL, zM, zN, zO])) | (((with_reducible refine' g_lss ?hx ?hy (fun _ => ?_) (fun _ => ?_)); (case hx => rfl)); (case hy => rfl); all_goals (first | (exfalso; omega) | (conv => arg 5; simp only [zA, zB, ev, lget, zC, zD, zE, zF, zG, zH, zI, zJ, zK, zL, zM, zN, zO]))))) | ((with_reducible refine' l_on ?hw ?_); (case hw => rfl)) | ((first | ((with_reducible refine' e_storeB ?hx ?hy ?hv ?h1 ?hb ?ho ?_); (case hx => rfl); (case hy => ((try simp only [ev, lget]); (try rfl))); (case hv => rfl); (case h1 => rfl)) | ((with_reducible refine' e_storeR ?hx ?hy ?h1 ?hb ?hn ?ho ?_); (case hx => rfl); (case hy => rfl); (case h1 => simp [Value.oneCell']); (case hn => rfl))); (case hb => exact bqq); (case ho => first | (simp only [List.length_cons, List.length_nil]; omega) | omega | (simp; omega) | simp); (try simp only [splice, zA, zB]); intro _ _ _ _) | ((with_reducible refine' l_call TFn.ent ?ha ?_); (case ha => simp only [zC, zD, ev, lget]; (try rfl))))
      all_goals try (rename_i wd evd zd_ w7 h7 e7 z7 w8 h8 e8 z8; exact ⟨_, rfl, by simp only [setW, List.foldl_cons, List.foldl_nil, List.set_cons_succ, List.set_cons_zero], rfl, h7.evt e8 (by omega), by rw [hbl6]; exact h8, fun i hi => ((hKQ i hi).evt e7 (fun k h1 h2 => by have h3 := hlB _ (List.getElem_mem hi) k h1; have h' : k = gR := h2; omega)).evt e8 (fun k h1 h2 => by have h3 := hlB _ (List.getElem_mem hi) k h1; have h' : k = gU := h2; omega)⟩)
      rintro u9 w9 ev9 z9 ⟨h9, hR9, hU9, hK9⟩
      simp only [setW, List.foldl_cons, List.foldl_nil, List.set_cons_succ, List.set_cons_zero]
      simp only [h9]
      repeat' (first | (with_reducible (first | refine' then_normal ?_ | refine' wp_ret ?_ | refine' then_ret ?_ | refine' in_ret ?_)) | ((with_reducible refine' b_retN ?hr ?h2 ?ha ?_); (case hr => rfl); (case h2 => decide); (case ha => first | exact ra_nil | ((first | ((with_reducible refine' ra_tmp ?rv3 ?rh3); (case rv3 => ((try simp only [ev, lget]); (try rfl)))) | ((with_reducible refine' ra_cell ?rp3 ?rt3 ?rq3 ?rn3 ?rh3); (case rp3 => rfl); (case rt3 => infer_instance); (case rq3 => exact bqq); (case rn3 => rfl))); (case rh3 => first | exact ra_nil | ((first | ((with_reducible refine' ra_tmp ?rv2 ?rh2); (case rv2 => ((try simp only [ev, lget]); (try rfl)))) | ((with_reducible refine' ra_cell ?rp2 ?rt2 ?rq2 ?rn2 ?rh2); (case rp2 => rfl); (case rt2 => infer_instance); (case rq2 => exact bqq); (case rn2 => rfl))); (case rh2 => first | exact ra_nil | ((first | ((with_reducible refine' ra_tmp ?rv1 ?rh1); (case rv1 => ((try simp only [ev, lget]); (try rfl)))) | ((with_reducible refine' ra_cell ?rp1 ?rt1 ?rq1 ?rn1 ?rh1); (case rp1 => rfl); (case rt1 => infer_instance); (case rq1 => exact bqq); (case rn1 => rfl))); (case rh1 => first | exact ra_nil)))))))))
      have hS9 : ∀ k, k < wM.heap.size → k ≠ gR → k ≠ gU → ¬ ((∃ m ∈ bs, (bdV m).ownBlock = some k) ∨ k = gR ∨ k = gU) := fun k h1 h2 h3 hh => by
        rcases hh with ⟨m, hm, h4⟩ | h4 | h4
        · have := hlB m hm k h4
          omega
        · exact h2 h4
        · exact h3 h4
      have hoV9 := own_evt ev9 hoV (fun k h1 hh => by
        have h5 := hnV k h1
        rcases hh with ⟨m, hm, h4⟩ | h4 | h4
        · obtain ⟨c1, hc1⟩ := own_typ hoV k h1
          obtain ⟨c2, hc2⟩ := own_typ (hLo.own m hm) k h4
          exact Blk.ne hc1 hc2 (by decide) rfl
        · omega
        · omega)
      have hoG9 := own_evt ev9 hoG6 (fun k h1 hh => by
        have h5 := hnG k h1
        rcases hh with ⟨m, hm, h4⟩ | h4 | h4
        · obtain ⟨c1, hc1⟩ := own_typ hoG6 k h1
          obtain ⟨c2, hc2⟩ := own_typ (hLo.own m hm) k h4
          exact Blk.ne hc1 hc2 (by decide) rfl
        · omega
        · omega)
      have hg9 := hg6.evt ev9 (fun k _ hk => hS9 k (by rcases hk with h1 | h1; have := hS.gl k h1; omega; omega) (fun h => nGn k hk (.inr (.inl h))) (fun h => nGn k hk (.inr (.inr h)))) (G' := Gn G w w9) (fun k hk => by
        rcases hk with h1 | h1
        · exact .inl h1
        · exact .inr ⟨by omega, by omega⟩)
      have hB9 := hB6.evt ev9 (fun k hk => hS9 k (by have := hS.fl k hk; omega) (fun h => fR (h ▸ hk)) (fun h => fU (h ▸ hk))) (fun _ h => h) (fun k hk => by have := hS.fl k hk; omega)
      refine ⟨F, Gn G w w9, n + 1, A', c', rs', V, d, bs, ⟨k1.length, VG, dG, pkCs (k1.map z5)⟩, by rw [hbl6], {
        st := {
          box := ⟨_, hB9, by rw [due_pur, hLp, hpV], by rw [List.length_map]; omega⟩
          ref := hg9
          bln := fun e he => by
            rw [hpV] at he
            obtain ⟨x, hx, rfl⟩ := List.mem_map.1 he
            have h1 : (duP p o.now x).body = x.body := by unfold duP; split <;> rfl
            rw [h1]
            exact hS.bln x hx
          fg := fun k hk hh => by
            rcases hh with h1 | h1
            · exact hS.fg k hk h1
            · have := hS.fl k hk
              omega
          gl := fun k hk => by
            rcases hk with h1 | h1
            · have := hS.gl k h1
              omega
            · omega }
        nn := by omega
        fF := fun k hk => .inl hk
        gG := fun k hk => by
          rcases hk with h1 | h1
          · exact .inl h1
          · exact .inr h1.1
        gU := fun k hk => .inl hk
        evt := kEv (S := fun k => F k ∨ wB.heap.size ≤ k ∨ k = gX ∨ k = gR ∨ k = gU) (Evt.next (ev9.mono fun k _ hh => by
          rcases hh with ⟨m, hm, h4⟩ | h4
          · exact .inr (.inl (by have := hlB m hm k h4; omega))
          · exact .inr (.inr (.inr h4))) (k6.mono fun k _ hh => by
          rcases hh with h1 | h1 | h1
          · exact .inl h1
          · exact .inr (.inl h1)
          · exact .inr (.inr (.inl h1))) (fun _ _ h => h)) (fun k hk hh => by
          rcases hh with h1 | h1
          · exact h1
          · omega)
        row := RG.own hoV9 (fun k h1 => .inr ⟨by have := hnV k h1; omega, own_lt hoV9 k h1⟩)
        bod := fun i hi => (hK9 i hi).rg (fun hn => by
          obtain ⟨g, _, _, h1, _⟩ := own_some (hLo.own _ (List.getElem_mem hi)) (by simpa using hn)
          exact ⟨g, h1⟩) (fun g hg => .inr ⟨by have := hlB _ (List.getElem_mem hi) g hg; omega, by have := own_lt (hLo.own _ (List.getElem_mem hi)) g hg; omega⟩)
        bln := hbn6
        bsl := by omega
        lo := hoG9
        lb := fun k h1 => ⟨.inr ⟨by have := hnG k h1; omega, own_lt hoG9 k h1⟩, by have := hnG k h1; omega⟩
        li := fun i hi => by
          have h1 : (k1.map z5)[i]? = some (z5 (k1[i]'hi)) := by rw [List.getElem?_map, List.getElem?_eq_getElem hi]; rfl
          exact flat_at (f := pkC) (sz := 3) (fun _ => rfl) (k1.map z5) i 1 _ _ h1 rfl
        ll := hk1l }⟩
end Go.Proofs.Ytchfkkliechgoaa
