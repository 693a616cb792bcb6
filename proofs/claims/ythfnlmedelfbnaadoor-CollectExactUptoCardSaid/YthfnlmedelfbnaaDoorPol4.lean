/- Contract of policy.Check. -/
import Derived.Test.YthfnlmedelfbnaaDoorPol3
namespace Go.Proofs.YthfnlmedelfbnaaDoor
open Go.RowKit Go.Proofs.YthfnlmedelfbnaaDoorE
set_option linter.unusedSimpArgs false
set_option linter.unusedVariables false

theorem All2.get {α β : Type} {R : α → β → Prop} {xs : List α} {ys : List β} (h : All2 R xs ys) : xs.length = ys.length ∧ ∀ (i : Nat) (x : α) (y : β), xs[i]? = some x → ys[i]? = some y → R x y := by
  induction h with
  | nil => exact ⟨rfl, fun i x y hx => by simp at hx⟩
  | cons r _ ih =>
    refine ⟨by simp [ih.1], fun i x y hx hy => ?_⟩
    cases i with
    | zero => simp at hx hy; subst hx; subst hy; exact r
    | succ i => exact ih.2 i x y (by simpa using hx) (by simpa using hy)
/-- The first rule that is broken. -/
def checkF (p : Pol) : List (Pol → Bool) → Nat → Int × Int
  | [], _ => (0, 0)
  | r :: rs, i => if r p then checkF p rs (i + 1) else (120, i + 1)
def checkP (p : Pol) : Int × Int := checkF p ruleL 0

set_option maxHeartbeats 4000000 in
theorem check_any (p : Pol) (A : Option Addr) (c : Nat) (w : World) (hr : RI w A p.hs) :
    Calls Tryd.prog 23 #[.agg (polC p A c).toArray] w fun e w' => e = .returned (.tuple #[.int .i64 (checkP p).1, .int .i64 (checkP p).2]) ∧ Evt (fun _ => False) w w' := by
  go_enter Tryd.func23, Tryd.ntmps23
  repeat' (first | (go_at_call 29; refine (rules_any _).mono ?_; rintro e wr ⟨gf, fs, rfl, hfs, hall, hevr⟩; refine ⟨_, rfl, ?_⟩; (conv => arg 5; simp only [zA, zB, ev, lget, zC, zD, zE, zF, zG, zH, zI, zJ, zK, zL, zM, zN])) | (with_reducible (first | refine' wp_seq ?_ | refine' wp_region_lit ?_ | refine' wpList_nil ?_ | refine' then_normal ?_ | refine' wp_block ?_)) | ((with_reducible refine' l_step ?_); ((first | (with_reducible refine' g_move ?_) | (with_reducible refine' g_assign ?_) | ((with_reducible refine' g_lenS ?hx ?_); (case hx => rfl))); (conv => arg 5; simp only [zA, zB, ev, lget, zC, zD, zE, zF, zG, zH, zI, zJ, zK, zL, zM, zN]))) | (((with_reducible refine' e_boxA ?hx ?_); (case hx => rfl)); intro _ _ _ _ _ _ _; (conv => arg 5; simp only [zA, zB, ev, lget, zC, zD, zE, zF, zG, zH, zI, zJ, zK, zL, zM, zN])) | ((with_reducible refine' l_call TFn.ent ?ha ?_); (case ha => simp only [zC, zD, ev, lget]; (try rfl))))
  obtain ⟨hlen, hget⟩ := hall.get
  have hlen' : fs.length = 18 := hlen
  rename_i gp wp _ _ hgp hwp _
  have hgp' : Blk wr gp 24 (polC p A c) := hgp.evt hevr id
  have hrr : RI wr A p.hs := (hr.up hwp).up hevr
  have hwr : Evt (fun _ => False) w wr := by (repeat (first | assumption | exact Evt.refl _ _ | (refine Evt.next (by assumption) ?_ ?hs; (case hs => first | exact fun _ _ h => h | exact fun _ _ h => False.elim h | exact fun _ _ h => Or.inl h | exact fun _ _ h => Or.inr h | exact Wr.rel (by assumption) | (intro i hi h; exfalso; have h' : i = _ := h; omega) | (intro i hi h; exfalso; have h' := hlb i h; omega)))))
  clear hgp hr hall
  refine' s_loop [2, 3, 4, 5, 8, 9, 10, 11, 12, 13, 14, 15, 16, 17, 18, 19, 20] (fun n u w' => ∃ (i : Nat), n = 18 - i ∧ i ≤ 18 ∧ u 8 = .int .i64 i ∧ checkP p = checkF p (ruleL.drop i) i ∧ Evt (fun _ => False) wr w') 18 ?h0 ?round
  case h0 => exact ⟨0, rfl, by omega, rfl, rfl, Evt.refl _ _⟩
  case round =>
    rintro n u w2 ⟨i, rfl, hi, h8, hck, hev⟩
    simp only [setW, List.foldl_cons, List.foldl_nil, List.set_cons_succ, List.set_cons_zero]
    simp only [h8]
    by_cases hlt : i < 18
    · obtain ⟨⟨f, cap⟩, hx⟩ : ∃ x, fs[i]? = some x := ⟨_, List.getElem?_eq_getElem (by omega)⟩
      have hl18 : ruleL.length = 18 := rfl
      obtain ⟨r, hrr'⟩ : ∃ r, ruleL[i]? = some r := ⟨_, List.getElem?_eq_getElem (by omega)⟩
      have ht := hget i _ r hx hrr'
      have hdrop : ruleL.drop i = r :: ruleL.drop (i + 1) := by
        rw [List.drop_eq_getElem_cons (by omega)]
        congr 1
        rw [List.getElem?_eq_getElem (by omega)] at hrr'
        exact Option.some.inj hrr'
      rw [hdrop] at hck
      simp only [checkF] at hck
      have hcell : ∀ (j : Nat) (v : Value), [Value.func (.func f) #[] cap.toArray][j]? = some v → w2.cell? ⟨gf, i + j, none⟩ = some v := by
        intro j v hv
        have hj : j = 0 := by cases j with
          | zero => rfl
          | succ j => simp at hv
        subst hj
        have := (hfs.evt hev id).cell? (i + 0)
        rw [this]
        simp [hx, fval] at hv ⊢
        exact hv
      have hgp2 := hgp'.evt hev id
      have hgplt := hgp2.lt
      have hz := hev.size
      have hzr := hwr.size
      clear hget hfs hdrop hlen
      repeat' (first | ((with_reducible refine' l_step ?_); (with_reducible refine' g_loadR (vs := [Value.func (.func f) #[] cap.toArray]) ?hx ?hn ?hc ?_); (case hx => rfl); (case hn => rfl); (case hc => exact hcell); (conv => arg 5; simp only [zA, zB, ev, lget, zC, zD, zE, zF, zG, zH, zI, zJ, zK, zL, zM, zN])) | ((with_reducible refine' l_callv ?hx ?he ?ha ?_); (case hx => rfl); (case he => exact ht.ent); (case ha => simp only [List.map_cons, List.map_nil, ev, lget]; (try rfl)); refine (ht.call p A c _ ((hrr.up hev).up (by (repeat (first | assumption | exact Evt.refl _ _ | (refine Evt.next (by assumption) ?_ ?hs; (case hs => first | exact fun _ _ h => h | exact fun _ _ h => False.elim h | exact fun _ _ h => Or.inl h | exact fun _ _ h => Or.inr h | exact Wr.rel (by assumption) | (intro i hi h; exfalso; have h' : i = _ := h; omega) | (intro i hi h; exfalso; have h' := hlb i h; omega))))))) (by (repeat (first | assumption | exact Evt.refl _ _ | (refine Evt.next (by assumption) ?_ ?hs; (case hs => first | exact fun _ _ h => h | exact fun _ _ h => False.elim h | exact fun _ _ h => Or.inl h | exact fun _ _ h => Or.inr h | exact Wr.rel (by assumption) | (intro i hi h; exfalso; have h' : i = _ := h; omega) | (intro i hi h; exfalso; have h' := hlb i h; omega))))))).mono ?_; rintro e w' ⟨rfl, _⟩; refine ⟨_, rfl, ?_⟩; (conv => arg 5; simp only [zA, zB, ev, lget, zC, zD, zE, zF, zG, zH, zI, zJ, zK, zL, zM, zN]); cases hrp : r p) | (with_reducible (first | refine' wp_seq ?_ | refine' wp_region_lit ?_ | refine' wpList_nil ?_ | refine' then_normal ?_ | refine' wp_block ?_ | refine' wp_ret ?_ | refine' wp_skip ?_ | refine' then_ret ?_ | refine' in_normal ?_ | refine' in_ret ?_)) | ((with_reducible refine' c_condT ?hx ?_); (case hx => rfl)) | ((with_reducible refine' c_condF ?hx ?_); (case hx => rfl)) | ((with_reducible refine' b_ret2 ?hr ?hv ?hw ?_); (case hr => rfl); (case hv => ((try simp only [ev, lget]); (try rfl))); (case hw => ((try simp only [ev, lget]); (try rfl)))) | ((with_reducible refine' l_step ?_); (first | ((first | (with_reducible refine' g_move ?_) | (with_reducible refine' g_assign ?_) | ((with_reducible refine' g_fieldAddr ?hx ?ho ?_); (case hx => rfl); (case ho => rfl)) | ((first | (with_reducible refine' g_loadB ?hx ?hb ?hc ?_) | (with_reducible refine' g_loadS ?hx ?hb ?hn ?_)); (case hx => rfl); (case hb => (first | assumption | exact be (h := by first | assumption | exact be (h := by first | assumption | exact be (h := by first | assumption | exact be (h := by first | assumption | exact be (h := by first | assumption | exact be (h := by first | assumption | exact be (h := by first | assumption | exact be (h := by first | assumption | exact be (h := by first | assumption | exact be (h := by first | assumption)))))))))))); first | (case hc => rfl) | (case hn => simp only [List.length_cons, List.length_nil]; omega)) | ((with_reducible refine' g_addN ?hx ?hy ?h0 ?h1 ?_); (case hx => rfl); (case hy => rfl); (case h0 => omega); (case h1 => omega)) | ((with_reducible refine' g_notT ?hx ?_); (case hx => rfl)) | ((with_reducible refine' g_notF ?hx ?_); (case hx => rfl)) | ((with_reducible refine' g_indexAddr ?hx ?hy ?h0 ?h1 ?_); (case hx => rfl); (case hy => rfl); (case h0 => omega); (case h1 => omega))); (conv => arg 5; simp only [zA, zB, ev, lget, zC, zD, zE, zF, zG, zH, zI, zJ, zK, zL, zM, zN])) | (((with_reducible refine' g_lss ?hx ?hy (fun _ => ?_) (fun _ => ?_)); (case hx => rfl)); (case hy => rfl); all_goals (first | (exfalso; omega) | (conv => arg 5; simp only [zA, zB, ev, lget, zC, zD, zE, zF, zG, zH, zI, zJ, zK, zL, zM, zN]))))) | (((with_reducible refine' e_alloc ?hx ?_); (case hx => rfl)); intro _ _ _ _ _ _ _; (conv => arg 5; simp only [zA, zB, ev, lget, zC, zD, zE, zF, zG, zH, zI, zJ, zK, zL, zM, zN])) | ((first | ((with_reducible refine' e_storeB ?hx ?hy ?hv ?h1 ?hb ?ho ?_); (case hx => rfl); (case hy => ((try simp only [ev, lget]); (try rfl))); (case hv => rfl); (case h1 => rfl)) | ((with_reducible refine' e_storeR ?hx ?hy ?h1 ?hb ?hn ?ho ?_); (case hx => rfl); (case hy => rfl); (case h1 => simp [Value.oneCell']); (case hn => rfl))); (case hb => (first | assumption | exact be (h := by first | assumption | exact be (h := by first | assumption | exact be (h := by first | assumption | exact be (h := by first | assumption | exact be (h := by first | assumption | exact be (h := by first | assumption | exact be (h := by first | assumption | exact be (h := by first | assumption | exact be (h := by first | assumption | exact be (h := by first | assumption)))))))))))); (case ho => first | (simp only [List.length_cons, List.length_nil]; omega) | omega | (simp; omega) | simp); (try simp only [splice, zA, zB]); intro _ _ _ _))
      · exact ⟨by rw [hck, hrp]; rfl, by (repeat (first | assumption | exact Evt.refl _ _ | (refine Evt.next (by assumption) ?_ ?hs; (case hs => first | exact fun _ _ h => h | exact fun _ _ h => False.elim h | exact fun _ _ h => Or.inl h | exact fun _ _ h => Or.inr h | exact Wr.rel (by assumption) | (intro i hi h; exfalso; have h' : i = _ := h; omega) | (intro i hi h; exfalso; have h' := hlb i h; omega)))))⟩
      · rw [hrp, if_pos rfl] at hck
        exact ⟨_, _, rfl, (by omega : 18 - (i + 1) < 18 - i), (by simp only [zA, zB]), i + 1, rfl, by omega, rfl, hck, by (repeat (first | assumption | exact Evt.refl _ _ | (refine Evt.next (by assumption) ?_ ?hs; (case hs => first | exact fun _ _ h => h | exact fun _ _ h => False.elim h | exact fun _ _ h => Or.inl h | exact fun _ _ h => Or.inr h | exact Wr.rel (by assumption) | (intro i hi h; exfalso; have h' : i = _ := h; omega) | (intro i hi h; exfalso; have h' := hlb i h; omega)))))⟩
    · have hi18 : i = 18 := by omega
      subst hi18
      repeat' (first | (with_reducible (first | refine' wp_seq ?_ | refine' wp_region_lit ?_ | refine' wpList_nil ?_ | refine' then_normal ?_ | refine' wp_ret ?_ | refine' wp_exit ?_ | refine' then_exit ?_ | refine' in_exit ?_)) | ((with_reducible refine' c_condF ?hx ?_); (case hx => rfl)) | ((with_reducible refine' b_ret2 ?hr ?hv ?hw ?_); (case hr => rfl); (case hv => ((try simp only [ev, lget]); (try rfl))); (case hw => ((try simp only [ev, lget]); (try rfl)))) | ((with_reducible refine' l_step ?_); (first | ((with_reducible refine' g_assign ?_); (conv => arg 5; simp only [zA, zB, ev, lget, zC, zD, zE, zF, zG, zH, zI, zJ, zK, zL, zM, zN])) | (((with_reducible refine' g_lss ?hx ?hy (fun _ => ?_) (fun _ => ?_)); (case hx => rfl)); (case hy => rfl); all_goals (first | (exfalso; omega) | (conv => arg 5; simp only [zA, zB, ev, lget, zC, zD, zE, zF, zG, zH, zI, zJ, zK, zL, zM, zN]))))))
      exact ⟨by rw [hck]; rfl, by (repeat (first | assumption | exact Evt.refl _ _ | (refine Evt.next (by assumption) ?_ ?hs; (case hs => first | exact fun _ _ h => h | exact fun _ _ h => False.elim h | exact fun _ _ h => Or.inl h | exact fun _ _ h => Or.inr h | exact Wr.rel (by assumption) | (intro i hi h; exfalso; have h' : i = _ := h; omega) | (intro i hi h; exfalso; have h' := hlb i h; omega)))))⟩
end Go.Proofs.YthfnlmedelfbnaaDoor
