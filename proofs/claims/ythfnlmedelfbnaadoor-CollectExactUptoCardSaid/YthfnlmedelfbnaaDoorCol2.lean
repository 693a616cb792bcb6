/- Package collect: the machine's events. -/
import Derived.Test.YthfnlmedelfbnaaDoorCol
namespace Go.Proofs.YthfnlmedelfbnaaDoor
open Go.RowKit Go.Proofs.YthfnlmedelfbnaaDoorE
set_option linter.unusedSimpArgs false
set_option linter.unusedVariables false

/-- What a method has done: the actions' row, and what it may have written. -/
structure Came (w w' : World) (g : Nat) (v v' : Value) : Prop where
  rel : Rel w v v'
  evt : Evt (Wr g v) w w'
theorem came0 {w w' : World} {g : Nat} {v : Value} (he : Evt (fun _ => False) w w') : Came w w' g v v := ⟨.inl rfl, he.mono fun _ _ h => h.elim⟩
theorem cameS {w w' : World} {g : Nat} {v : Value} (he : Evt (fun i => i = g) w w') : Came w w' g v v := ⟨.inl rfl, he.mono fun _ _ h => .inl h⟩
theorem Came.trans {a b c : World} {g : Nat} {v v1 v2 : Value} (h : Came a b g v v1) (k : Came b c g v1 v2) : Came a c g v v2 := ⟨h.rel.trans k.rel h.evt.size, wr_trans h.evt h.rel k.evt⟩
theorem Came.step {a b c d : World} {g : Nat} {v v1 v2 : Value} (h : Came a b g v v1) (he : Evt (fun _ => False) b c) (hr : Rel c v1 v2) (hev : Evt (Wr g v1) c d) : Came a d g v v2 := (h.trans (came0 he)).trans ⟨hr, hev⟩
theorem came1 {a c d : World} {g : Nat} {v v2 : Value} (he : Evt (fun _ => False) a c) (hr : Rel c v v2) (hev : Evt (Wr g v) c d) : Came a d g v v2 := (came0 he).trans ⟨hr, hev⟩
theorem Came.set {a b c : World} {g : Nat} {v v1 : Value} (h : Came a b g v v1) (he : Evt (fun i => i = g) b c) : Came a c g v v1 := h.trans (cameS he)
theorem Came.up {a b c : World} {g : Nat} {v v1 : Value} (h : Came a b g v v1) (he : Evt (fun _ => False) b c) : Came a c g v v1 := h.trans (came0 he)

/-- A case and the actions so far. -/
def quietP (p : Pol) (k : Cas) (e : Evn) (acts : List Int) : Cas × List Int :=
  if p.grace < e.days then ({ k with cycles := incP k.cycles, since := e.today, deadline := e.today + p.chargeOff, promises := 0, cfees := 0, status := 3 }, acts ++ [2])
  else if 0 < e.days then ({ k with status := 2 }, acts) else if k.status = 2 then ({ k with status := 1 }, acts) else (k, acts)
theorem quiet_len (p : Pol) (k : Cas) (e : Evn) (acts : List Int) : (quietP p k e acts).2.length ≤ acts.length + 1 := by
  unfold quietP
  split
  · simp
  · split
    · simp
    · split <;> simp
set_option maxHeartbeats 1000000 in
theorem quiet_any (g : Nat) (p : Pol) (A : Option Addr) (c : Nat) (k : Cas) (v : Value) (acts : List Int) (e : Evn) (w : World) (h : Mach w g p A c k v acts) (hl : acts.length ≤ 900) (hp : p.fine) (hd : 1 ≤ e.today ∧ e.today ≤ 3652059) :
    Calls Tryd.prog 73 #[.pointer (some ⟨g, 0, none⟩), .agg (evnC e).toArray] w fun r w' => ∃ v', r = .returned (.tuple #[]) ∧ Mach w' g p A c (quietP p k e acts).1 v' (quietP p k e acts).2 ∧ Came w w' g v v' := by
  have hb := h.blk
  have hg := hb.lt
  have hco := hp.chargeOff
  go_enter Tryd.func73, Tryd.ntmps73
  repeat' (first | (with_reducible (first | refine' wp_seq ?_ | refine' wp_region_lit ?_ | refine' wpList_nil ?_ | refine' then_normal ?_ | refine' wp_block ?_ | refine' wp_skip ?_ | refine' in_normal ?_)) | ((with_reducible refine' c_condT ?hx ?_); (case hx => rfl)) | ((with_reducible refine' c_condF ?hx ?_); (case hx => rfl)) | ((with_reducible refine' b_end0 ?hr ?_); (case hr => rfl)) | ((with_reducible refine' l_step ?_); (first | ((first | (with_reducible refine' g_move ?_) | (with_reducible refine' g_assign ?_) | ((with_reducible refine' g_fieldAddr ?hx ?ho ?_); (case hx => rfl); (case ho => rfl)) | ((with_reducible refine' g_loadB ?hx ?hb ?hc ?_); (case hx => rfl); (case hb => (first | assumption | exact be (h := by first | assumption | exact be (h := by first | assumption | exact be (h := by first | assumption | exact be (h := by first | assumption | exact be (h := by first | assumption | exact be (h := by first | assumption | exact be (h := by first | assumption | exact be (h := by first | assumption | exact be (h := by first | assumption | exact be (h := by first | assumption)))))))))))); first | (case hc => rfl) | (case hn => simp only [List.length_cons, List.length_nil]; omega)) | ((with_reducible refine' g_add ?hx ?hy ?_); (case hx => rfl); (case hy => rfl)) | ((with_reducible refine' g_nilCheckP ?hx ?_); (case hx => rfl))); (conv => arg 5; simp only [zA, zB, ev, lget, zC, zD, zE, zF, zG, zH, zI, zJ, zK, zL, zM, zN])) | ((first | ((with_reducible refine' g_gtr ?hx ?hy (fun _ => ?_) (fun _ => ?_)); (case hx => rfl)) | ((with_reducible refine' g_eql ?hx ?hy (fun _ => ?_) (fun _ => ?_)); (case hx => rfl))); (case hy => rfl); all_goals (first | (exfalso; omega) | (conv => arg 5; simp only [zA, zB, ev, lget, zC, zD, zE, zF, zG, zH, zI, zJ, zK, zL, zM, zN]))))) | (((with_reducible refine' e_boxA ?hx ?_); (case hx => rfl)); intro _ _ _ _ _ _ _; (conv => arg 5; simp only [zA, zB, ev, lget, zC, zD, zE, zF, zG, zH, zI, zJ, zK, zL, zM, zN])) | ((first | ((with_reducible refine' e_storeB ?hx ?hy ?hv ?h1 ?hb ?ho ?_); (case hx => rfl); (case hy => ((try simp only [ev, lget]); (try rfl))); (case hv => rfl); (case h1 => rfl)) | ((with_reducible refine' e_storeR ?hx ?hy ?h1 ?hb ?hn ?ho ?_); (case hx => rfl); (case hy => rfl); (case h1 => simp [Value.oneCell']); (case hn => rfl))); (case hb => (first | assumption | exact be (h := by first | assumption | exact be (h := by first | assumption | exact be (h := by first | assumption | exact be (h := by first | assumption | exact be (h := by first | assumption | exact be (h := by first | assumption | exact be (h := by first | assumption | exact be (h := by first | assumption | exact be (h := by first | assumption | exact be (h := by first | assumption)))))))))))); (case ho => first | (simp only [List.length_cons, List.length_nil]; omega) | omega | (simp; omega) | simp); (try simp only [splice, zA, zB]); intro _ _ _ _) | ((with_reducible refine' l_call TFn.ent ?ha ?_); (case ha => simp only [zC, zD, ev, lget]; (try rfl))) | ((with_reducible refine' w_quiet (id := 1) ?hm ?hB ?_); (case hm => kernel_rfl); (case hB => kernel_rfl)) | ((with_reducible refine' q_nil ?_); intro _ _ _) | ((with_reducible refine' q_step ?_); (first | ((first | (with_reducible refine' g_move ?_) | (with_reducible refine' g_assign ?_) | ((with_reducible refine' g_fieldAddr ?hx ?ho ?_); (case hx => rfl); (case ho => rfl)) | ((with_reducible refine' g_loadB ?hx ?hb ?hc ?_); (case hx => rfl); (case hb => (first | assumption | exact be (h := by first | assumption | exact be (h := by first | assumption | exact be (h := by first | assumption | exact be (h := by first | assumption | exact be (h := by first | assumption | exact be (h := by first | assumption | exact be (h := by first | assumption | exact be (h := by first | assumption | exact be (h := by first | assumption | exact be (h := by first | assumption)))))))))))); first | (case hc => rfl) | (case hn => simp only [List.length_cons, List.length_nil]; omega)) | ((with_reducible refine' g_nilCheckP ?hx ?_); (case hx => rfl))); (conv => arg 6; simp only [zA, zB, ev, lget, zC, zD, zE, zF, zG, zH, zI, zJ, zK, zL, zM, zN])) | (((with_reducible refine' g_gtr ?hx ?hy (fun _ => ?_) (fun _ => ?_)); (case hx => rfl)); (case hy => rfl); all_goals (first | (exfalso; omega) | (conv => arg 6; simp only [zA, zB, ev, lget, zC, zD, zE, zF, zG, zH, zI, zJ, zK, zL, zM, zN]))))) | ((with_reducible refine' w_tail (id := 4) 12 ?hm ?hB ?_); (case hm => kernel_rfl); (case hB => kernel_rfl); intro _ _ _) | ((with_reducible refine' t_step ?_); ((first | (with_reducible refine' g_move ?_) | ((with_reducible refine' g_fieldAddr ?hx ?ho ?_); (case hx => rfl); (case ho => rfl)) | ((with_reducible refine' g_loadB ?hx ?hb ?hc ?_); (case hx => rfl); (case hb => (first | assumption | exact be (h := by first | assumption | exact be (h := by first | assumption | exact be (h := by first | assumption | exact be (h := by first | assumption | exact be (h := by first | assumption | exact be (h := by first | assumption | exact be (h := by first | assumption | exact be (h := by first | assumption | exact be (h := by first | assumption | exact be (h := by first | assumption)))))))))))); first | (case hc => rfl) | (case hn => simp only [List.length_cons, List.length_nil]; omega)) | ((with_reducible refine' g_addN ?hx ?hy ?h0 ?h1 ?_); (case hx => rfl); (case hy => rfl); (case h0 => omega); (case h1 => omega)) | ((with_reducible refine' g_nilCheckP ?hx ?_); (case hx => rfl))); (conv => arg 7; simp only [zA, zB, ev, lget, zC, zD, zE, zF, zG, zH, zI, zJ, zK, zL, zM, zN]))) | (with_reducible refine' t_done ?_))
  · rename_i wS hbS hevS hzS
    have hev : Evt (fun i => i = g) w wS := by (repeat (first | assumption | exact Evt.refl _ _ | (refine Evt.next (by assumption) ?_ ?hs; (case hs => first | exact fun _ _ h => h | exact fun _ _ h => False.elim h | exact fun _ _ h => Or.inl h | exact fun _ _ h => Or.inr h | exact Wr.rel (by assumption) | (intro i hi h; exfalso; have h' : i = _ := h; omega) | (intro i hi h; exfalso; have h' := hlb i h; omega)))))
    have hz := hev.size
    have h2 : Mach wS g p A c { k with cycles := incP k.cycles, since := e.today, deadline := e.today + p.chargeOff, promises := 0, cfees := 0, status := 3 } v acts := h.set hbS hev
    refine (act_any g p A c _ v acts 2 _ h2 hl).mono ?_
    rintro r w3 ⟨v', rfl, h3, hr3, hev3⟩
    refine ⟨_, rfl, ?_⟩
    (conv => arg 5; simp only [zA, zB, ev, lget, zC, zD, zE, zF, zG, zH, zI, zJ, zK, zL, zM, zN])
    repeat' (first | (with_reducible (first | refine' wpList_nil ?_ | refine' in_normal ?_)) | ((with_reducible refine' b_end0 ?hr ?_); (case hr => rfl)))
    have hq : quietP p k e acts = ({ k with cycles := incP k.cycles, since := e.today, deadline := e.today + p.chargeOff, promises := 0, cfees := 0, status := 3 }, acts ++ [2]) := by unfold quietP; rw [if_pos (by omega)]
    rw [hq]
    exact ⟨v', rfl, h3, (cameS hev).trans ⟨hr3, hev3⟩⟩
  · rename_i wS hbS hevS hzS
    have hev : Evt (fun i => i = g) w wS := by (repeat (first | assumption | exact Evt.refl _ _ | (refine Evt.next (by assumption) ?_ ?hs; (case hs => first | exact fun _ _ h => h | exact fun _ _ h => False.elim h | exact fun _ _ h => Or.inl h | exact fun _ _ h => Or.inr h | exact Wr.rel (by assumption) | (intro i hi h; exfalso; have h' : i = _ := h; omega) | (intro i hi h; exfalso; have h' := hlb i h; omega)))))
    have hq : quietP p k e acts = ({ k with status := 2 }, acts) := by unfold quietP; rw [if_neg (by omega), if_pos (by omega)]
    rw [hq]
    exact ⟨v, rfl, h.set hbS hev, cameS hev⟩
  · rename_i wS hbS hevS hzS
    have hev : Evt (fun i => i = g) w wS := by (repeat (first | assumption | exact Evt.refl _ _ | (refine Evt.next (by assumption) ?_ ?hs; (case hs => first | exact fun _ _ h => h | exact fun _ _ h => False.elim h | exact fun _ _ h => Or.inl h | exact fun _ _ h => Or.inr h | exact Wr.rel (by assumption) | (intro i hi h; exfalso; have h' : i = _ := h; omega) | (intro i hi h; exfalso; have h' := hlb i h; omega)))))
    have hq : quietP p k e acts = ({ k with status := 1 }, acts) := by unfold quietP; rw [if_neg (by omega), if_neg (by omega), if_pos (by omega)]
    rw [hq]
    exact ⟨v, rfl, h.set hbS hev, cameS hev⟩
  · have hq : quietP p k e acts = (k, acts) := by unfold quietP; rw [if_neg (by omega), if_neg (by omega), if_neg (by omega)]
    rw [hq]
    exact ⟨v, rfl, h.up (by (repeat (first | assumption | exact Evt.refl _ _ | (refine Evt.next (by assumption) ?_ ?hs; (case hs => first | exact fun _ _ h => h | exact fun _ _ h => False.elim h | exact fun _ _ h => Or.inl h | exact fun _ _ h => Or.inr h | exact Wr.rel (by assumption) | (intro i hi h; exfalso; have h' : i = _ := h; omega) | (intro i hi h; exfalso; have h' := hlb i h; omega)))))), came0 (by (repeat (first | assumption | exact Evt.refl _ _ | (refine Evt.next (by assumption) ?_ ?hs; (case hs => first | exact fun _ _ h => h | exact fun _ _ h => False.elim h | exact fun _ _ h => Or.inl h | exact fun _ _ h => Or.inr h | exact Wr.rel (by assumption) | (intro i hi h; exfalso; have h' : i = _ := h; omega) | (intro i hi h; exfalso; have h' := hlb i h; omega))))))⟩

/-- The numbers of an event are numbers of their kind. -/
def Evn.wf (e : Evn) : Prop := (-9223372036854775808 ≤ e.kind ∧ e.kind ≤ 9223372036854775807) ∧ (-9223372036854775808 ≤ e.today ∧ e.today ≤ 9223372036854775807) ∧ (-9223372036854775808 ≤ e.days ∧ e.days ≤ 9223372036854775807) ∧ (-9223372036854775808 ≤ e.amount ∧ e.amount ≤ 9223372036854775807)
theorem dayB_cases (d : Int) : (dayB d = true ∧ 1 ≤ d ∧ d ≤ 3652059) ∨ (dayB d = false ∧ (d < 1 ∨ 3652059 < d)) := by
  unfold dayB
  by_cases h1 : 1 ≤ d
  · by_cases h2 : d ≤ 3652059
    · simp [h1, h2]
    · simp [h1, h2]; omega
  · simp [h1]; omega

def closeE (_p : Pol) (k : Cas) (_e : Evn) : Int := if overB k = true then 130 else 0
def closeP (_p : Pol) (k : Cas) (_e : Evn) : Cas × List Int := if openB k = true then ({ cureP k with status := 9 }, [6, 8]) else ({ k with status := 9 }, [8])
def restE (p : Pol) (k : Cas) (_e : Evn) : Int := if overB k = true then 130 else if openB k = false then 131 else if p.restructures ≤ k.restr then 133 else 0
def restP (_p : Pol) (k : Cas) (_e : Evn) : Cas × List Int := (endP { k with restr := incP k.restr } 7, [7])
def feeE (p : Pol) (k : Cas) (e : Evn) : Int := if e.amount < 1 then 4 else if overB k = true then 130 else if openB k = false then 131 else if k.status = 4 then 132 else if p.cycleCap - e.amount < k.cfees ∨ p.lifeCap - e.amount < k.lfees then 133 else 0
def feeP (_p : Pol) (k : Cas) (e : Evn) : Cas × List Int := ({ k with cfees := IntKind.i64.wrap (k.cfees + e.amount), lfees := IntKind.i64.wrap (k.lfees + e.amount) }, [])
def promE (p : Pol) (k : Cas) (e : Evn) : Int := if e.today < 1 ∨ 3652059 < e.today ∨ e.days < 1 ∨ p.promiseDays < e.days then 2 else if e.amount < 1 then 4 else if overB k = true then 130 else if openB k = false then 131 else if k.status = 4 then 132 else if p.promises ≤ k.promises then 133 else 0
def promP (_p : Pol) (k : Cas) (e : Evn) : Cas × List Int := ({ k with promises := incP k.promises, pdue := e.today + e.days, pamt := e.amount, pgot := 0, deadline := IntKind.i64.wrap (k.deadline + e.days), status := 4 }, [])
def retE (_p : Pol) (k : Cas) (e : Evn) : Int := if e.amount < 1 then 4 else if overB k = true then 130 else 0
def retP (_p : Pol) (k : Cas) (e : Evn) : Cas × List Int := (if k.status = 4 then { k with pgot := max 0 (IntKind.i64.wrap (k.pgot - e.amount)) } else k, [])
def paidE (_p : Pol) (k : Cas) (e : Evn) : Int := if e.amount < 1 then 4 else if e.days < 0 then 2 else if overB k = true then 130 else 0
/-- What a payment does to a promise. -/
def paid1 (k : Cas) (e : Evn) : Cas × List Int := if k.status = 4 then (if IntKind.i64.wrap (k.pamt - k.pgot) ≤ e.amount then (backP' { k with kept := incP k.kept }, [5]) else ({ k with pgot := IntKind.i64.wrap (k.pgot + e.amount) }, [])) else (k, [])
def paidP (_p : Pol) (k : Cas) (e : Evn) : Cas × List Int :=
  if 0 < e.days then paid1 k e
  else if openB (paid1 k e).1 = true then (cureP (paid1 k e).1, (paid1 k e).2 ++ [6])
  else if (paid1 k e).1.status = 2 then ({ (paid1 k e).1 with status := 1 }, (paid1 k e).2) else paid1 k e
def ageE (_p : Pol) (k : Cas) (e : Evn) : Int := if e.today < 1 ∨ 3652059 < e.today ∨ e.days < 0 then 2 else if overB k = true then 130 else 0
/-- A broken promise. -/
def age1 (k : Cas) (e : Evn) : Cas × List Int := if k.status = 4 ∧ k.pdue < e.today then (backP' { k with broken := incP k.broken }, [1]) else (k, [])
/-- A case whose cycle is not open. -/
def age2 (p : Pol) (k : Cas) (e : Evn) : Cas × List Int := if openB (age1 k e).1 = true then age1 k e else quietP p (age1 k e).1 e (age1 k e).2
/-- Suspended. -/
def susP (p : Pol) (k : Cas) (e : Evn) (acts : List Int) : Cas × List Int := if k.susp = false ∧ p.nonAccrual ≤ e.days then ({ k with susp := true, status := if k.status = 3 then 5 else k.status }, acts ++ [3]) else (k, acts)
def dueP (k : Cas) (e : Evn) (acts : List Int) : Cas × List Int := if k.deadline ≤ e.today then (endP k 8, acts ++ [4]) else (k, acts)
def ageP (p : Pol) (k : Cas) (e : Evn) : Cas × List Int :=
  if openB (age1 k e).1 = true ∧ e.days = 0 then (cureP (age1 k e).1, (age1 k e).2 ++ [6])
  else if openB (age2 p k e).1 = false then age2 p k e
  else dueP (susP p (age2 p k e).1 e (age2 p k e).2).1 e (susP p (age2 p k e).1 e (age2 p k e).2).2

theorem close_any (g : Nat) (p : Pol) (A : Option Addr) (c : Nat) (k : Cas) (v : Value) (e : Evn) (w : World) (h : Mach w g p A c k v []) (hp : p.fine) (hv : e.wf) :
    Calls Tryd.prog 36 #[.pointer (some ⟨g, 0, none⟩), .agg (evnC e).toArray] w fun r w' => ∃ v', r = .returned (.int .i64 (closeE p k e)) ∧ (closeE p k e = 0 → Mach w' g p A c (closeP p k e).1 v' (closeP p k e).2) ∧ Came w w' g v v' := by
  cases ho : overB k with
  | true =>
    have he : closeE p k e = 130 := by simp [closeE, ho]
    rw [he]
    go_enter Tryd.func36, Tryd.ntmps36
    repeat' (first | (go_at_call 70; refine (over_any g p A c k v [] _ (h.up (by (repeat (first | assumption | exact Evt.refl _ _ | (refine Evt.next (by assumption) ?_ ?hs; (case hs => first | exact fun _ _ h => h | exact fun _ _ h => False.elim h | exact fun _ _ h => Or.inl h | exact fun _ _ h => Or.inr h | exact Wr.rel (by assumption) | (intro i hi h; exfalso; have h' : i = _ := h; omega) | (intro i hi h; exfalso; have h' := hlb i h; omega)))))))).mono ?_; rintro r w' ⟨rfl, rfl⟩; rw [ho]; refine ⟨_, rfl, ?_⟩; (conv => arg 5; simp only [zA, zB, ev, lget, zC, zD, zE, zF, zG, zH, zI, zJ, zK, zL, zM, zN])) | (with_reducible (first | refine' wp_seq ?_ | refine' wp_region_lit ?_ | refine' wpList_nil ?_ | refine' then_normal ?_ | refine' wp_ret ?_ | refine' then_ret ?_)) | ((with_reducible refine' c_condT ?hx ?_); (case hx => rfl)) | ((with_reducible refine' b_ret1 ?hr ?hv ?_); (case hr => rfl); (case hv => ((try simp only [ev, lget]); (try rfl)))) | ((with_reducible refine' l_step ?_); ((first | (with_reducible refine' g_move ?_) | (with_reducible refine' g_assign ?_)); (conv => arg 5; simp only [zA, zB, ev, lget, zC, zD, zE, zF, zG, zH, zI, zJ, zK, zL, zM, zN]))) | (((with_reducible refine' e_boxA ?hx ?_); (case hx => rfl)); intro _ _ _ _ _ _ _; (conv => arg 5; simp only [zA, zB, ev, lget, zC, zD, zE, zF, zG, zH, zI, zJ, zK, zL, zM, zN])) | ((with_reducible refine' l_call TFn.ent ?ha ?_); (case ha => simp only [zC, zD, ev, lget]; (try rfl))))
    exact ⟨v, rfl, by simp, came0 (by (repeat (first | assumption | exact Evt.refl _ _ | (refine Evt.next (by assumption) ?_ ?hs; (case hs => first | exact fun _ _ h => h | exact fun _ _ h => False.elim h | exact fun _ _ h => Or.inl h | exact fun _ _ h => Or.inr h | exact Wr.rel (by assumption) | (intro i hi h; exfalso; have h' : i = _ := h; omega) | (intro i hi h; exfalso; have h' := hlb i h; omega))))))⟩
  | false =>
    have he : closeE p k e = 0 := by simp [closeE, ho]
    rw [he]
    cases hop : openB k with
    | true =>
      have hr : closeP p k e = ({ cureP k with status := 9 }, [6, 8]) := by simp [closeP, hop]
      rw [hr]
      have hb := h.blk
      go_enter Tryd.func36, Tryd.ntmps36
      repeat' (first | (go_at_call 70; refine (over_any g p A c k v [] _ (h.up (by (repeat (first | assumption | exact Evt.refl _ _ | (refine Evt.next (by assumption) ?_ ?hs; (case hs => first | exact fun _ _ h => h | exact fun _ _ h => False.elim h | exact fun _ _ h => Or.inl h | exact fun _ _ h => Or.inr h | exact Wr.rel (by assumption) | (intro i hi h; exfalso; have h' : i = _ := h; omega) | (intro i hi h; exfalso; have h' := hlb i h; omega)))))))).mono ?_; rintro r w' ⟨rfl, rfl⟩; rw [ho]; refine ⟨_, rfl, ?_⟩; (conv => arg 5; simp only [zA, zB, ev, lget, zC, zD, zE, zF, zG, zH, zI, zJ, zK, zL, zM, zN])) | (go_at_call 5; refine (open_any k _).mono ?_; rintro r w' ⟨rfl, _⟩; rw [hop]; refine ⟨_, rfl, ?_⟩; (conv => arg 5; simp only [zA, zB, ev, lget, zC, zD, zE, zF, zG, zH, zI, zJ, zK, zL, zM, zN])) | (with_reducible (first | refine' wp_seq ?_ | refine' wp_region_lit ?_ | refine' wpList_nil ?_ | refine' then_normal ?_ | refine' wp_skip ?_)) | ((with_reducible refine' c_condT ?hx ?_); (case hx => rfl)) | ((with_reducible refine' c_condF ?hx ?_); (case hx => rfl)) | ((with_reducible refine' l_step ?_); ((first | (with_reducible refine' g_move ?_) | (with_reducible refine' g_assign ?_) | ((with_reducible refine' g_fieldAddr ?hx ?ho ?_); (case hx => rfl); (case ho => rfl)) | ((with_reducible refine' g_loadS ?hx ?hb ?hn ?_); (case hx => rfl); (case hb => (first | assumption | exact be (h := by first | assumption | exact be (h := by first | assumption | exact be (h := by first | assumption | exact be (h := by first | assumption | exact be (h := by first | assumption | exact be (h := by first | assumption | exact be (h := by first | assumption | exact be (h := by first | assumption | exact be (h := by first | assumption | exact be (h := by first | assumption)))))))))))); first | (case hc => rfl) | (case hn => simp only [List.length_cons, List.length_nil]; omega)) | ((with_reducible refine' g_nilCheckP ?hx ?_); (case hx => rfl))); (conv => arg 5; simp only [zA, zB, ev, lget, zC, zD, zE, zF, zG, zH, zI, zJ, zK, zL, zM, zN]))) | (((with_reducible refine' e_boxA ?hx ?_); (case hx => rfl)); intro _ _ _ _ _ _ _; (conv => arg 5; simp only [zA, zB, ev, lget, zC, zD, zE, zF, zG, zH, zI, zJ, zK, zL, zM, zN])) | ((with_reducible refine' l_call TFn.ent ?ha ?_); (case ha => simp only [zC, zD, ev, lget]; (try rfl))))
      refine (cure_any g p A c k v [] _ (h.up (by (repeat (first | assumption | exact Evt.refl _ _ | (refine Evt.next (by assumption) ?_ ?hs; (case hs => first | exact fun _ _ h => h | exact fun _ _ h => False.elim h | exact fun _ _ h => Or.inl h | exact fun _ _ h => Or.inr h | exact Wr.rel (by assumption) | (intro i hi h; exfalso; have h' : i = _ := h; omega) | (intro i hi h; exfalso; have h' := hlb i h; omega))))))) (by simp)).mono ?_
      rintro r w1 ⟨v1, rfl, h1, hr1, hev1⟩
      have hc1 := came1 (a := w) (by (repeat (first | assumption | exact Evt.refl _ _ | (refine Evt.next (by assumption) ?_ ?hs; (case hs => first | exact fun _ _ h => h | exact fun _ _ h => False.elim h | exact fun _ _ h => Or.inl h | exact fun _ _ h => Or.inr h | exact Wr.rel (by assumption) | (intro i hi h; exfalso; have h' : i = _ := h; omega) | (intro i hi h; exfalso; have h' := hlb i h; omega)))))) hr1 hev1
      refine ⟨_, rfl, ?_⟩
      have hb1 := h1.blk
      (conv => arg 5; simp only [zA, zB, ev, lget, zC, zD, zE, zF, zG, zH, zI, zJ, zK, zL, zM, zN])
      repeat' (first | (with_reducible (first | refine' wp_seq ?_ | refine' wp_region_lit ?_ | refine' wpList_nil ?_ | refine' then_normal ?_)) | ((with_reducible refine' l_step ?_); ((first | (with_reducible refine' g_move ?_) | ((with_reducible refine' g_fieldAddr ?hx ?ho ?_); (case hx => rfl); (case ho => rfl)) | ((with_reducible refine' g_nilCheckP ?hx ?_); (case hx => rfl))); (conv => arg 5; simp only [zA, zB, ev, lget, zC, zD, zE, zF, zG, zH, zI, zJ, zK, zL, zM, zN]))) | ((first | ((with_reducible refine' e_storeB ?hx ?hy ?hv ?h1 ?hb ?ho ?_); (case hx => rfl); (case hy => ((try simp only [ev, lget]); (try rfl))); (case hv => rfl); (case h1 => rfl)) | ((with_reducible refine' e_storeR ?hx ?hy ?h1 ?hb ?hn ?ho ?_); (case hx => rfl); (case hy => rfl); (case h1 => simp [Value.oneCell']); (case hn => rfl))); (case hb => (first | assumption | exact be (h := by first | assumption | exact be (h := by first | assumption | exact be (h := by first | assumption | exact be (h := by first | assumption | exact be (h := by first | assumption | exact be (h := by first | assumption | exact be (h := by first | assumption | exact be (h := by first | assumption | exact be (h := by first | assumption | exact be (h := by first | assumption)))))))))))); (case ho => first | (simp only [List.length_cons, List.length_nil]; omega) | omega | (simp; omega) | simp); (try simp only [splice, zA, zB]); intro _ _ _ _) | ((with_reducible refine' l_call TFn.ent ?ha ?_); (case ha => simp only [zC, zD, ev, lget]; (try rfl))))
      rename_i wS hbS hevS hzS
      have h2 : Mach wS g p A c { cureP k with status := 9 } v1 [6] := h1.set hbS hevS
      refine (act_any g p A c _ v1 [6] 8 _ h2 (by simp)).mono ?_
      rintro r w3 ⟨v3, rfl, h3, hr3, hev3⟩
      refine ⟨_, rfl, ?_⟩
      (conv => arg 5; simp only [zA, zB, ev, lget, zC, zD, zE, zF, zG, zH, zI, zJ, zK, zL, zM, zN])
      repeat' (first | (with_reducible (first | refine' wp_seq ?_ | refine' wp_region_lit ?_ | refine' wpList_nil ?_ | refine' then_normal ?_ | refine' wp_ret ?_)) | ((with_reducible refine' b_ret1 ?hr ?hv ?_); (case hr => rfl); (case hv => ((try simp only [ev, lget]); (try rfl)))) | ((with_reducible refine' l_step ?_); ((with_reducible refine' g_assign ?_); (conv => arg 5; simp only [zA, zB, ev, lget, zC, zD, zE, zF, zG, zH, zI, zJ, zK, zL, zM, zN]))))
      exact ⟨v3, rfl, fun _ => h3, (hc1.set hevS).trans ⟨hr3, hev3⟩⟩
    | false =>
      have hr : closeP p k e = ({ k with status := 9 }, [8]) := by simp [closeP, hop]
      rw [hr]
      have hb := h.blk
      go_enter Tryd.func36, Tryd.ntmps36
      repeat' (first | (go_at_call 70; refine (over_any g p A c k v [] _ (h.up (by (repeat (first | assumption | exact Evt.refl _ _ | (refine Evt.next (by assumption) ?_ ?hs; (case hs => first | exact fun _ _ h => h | exact fun _ _ h => False.elim h | exact fun _ _ h => Or.inl h | exact fun _ _ h => Or.inr h | exact Wr.rel (by assumption) | (intro i hi h; exfalso; have h' : i = _ := h; omega) | (intro i hi h; exfalso; have h' := hlb i h; omega)))))))).mono ?_; rintro r w' ⟨rfl, rfl⟩; rw [ho]; refine ⟨_, rfl, ?_⟩; (conv => arg 5; simp only [zA, zB, ev, lget, zC, zD, zE, zF, zG, zH, zI, zJ, zK, zL, zM, zN])) | (go_at_call 5; refine (open_any k _).mono ?_; rintro r w' ⟨rfl, _⟩; rw [hop]; refine ⟨_, rfl, ?_⟩; (conv => arg 5; simp only [zA, zB, ev, lget, zC, zD, zE, zF, zG, zH, zI, zJ, zK, zL, zM, zN])) | (with_reducible (first | refine' wp_seq ?_ | refine' wp_region_lit ?_ | refine' wpList_nil ?_ | refine' then_normal ?_ | refine' wp_skip ?_)) | ((with_reducible refine' c_condF ?hx ?_); (case hx => rfl)) | ((with_reducible refine' l_step ?_); ((first | (with_reducible refine' g_move ?_) | (with_reducible refine' g_assign ?_) | ((with_reducible refine' g_fieldAddr ?hx ?ho ?_); (case hx => rfl); (case ho => rfl)) | ((with_reducible refine' g_loadS ?hx ?hb ?hn ?_); (case hx => rfl); (case hb => (first | assumption | exact be (h := by first | assumption | exact be (h := by first | assumption | exact be (h := by first | assumption | exact be (h := by first | assumption | exact be (h := by first | assumption | exact be (h := by first | assumption | exact be (h := by first | assumption | exact be (h := by first | assumption | exact be (h := by first | assumption | exact be (h := by first | assumption)))))))))))); first | (case hc => rfl) | (case hn => simp only [List.length_cons, List.length_nil]; omega)) | ((with_reducible refine' g_nilCheckP ?hx ?_); (case hx => rfl))); (conv => arg 5; simp only [zA, zB, ev, lget, zC, zD, zE, zF, zG, zH, zI, zJ, zK, zL, zM, zN]))) | (((with_reducible refine' e_boxA ?hx ?_); (case hx => rfl)); intro _ _ _ _ _ _ _; (conv => arg 5; simp only [zA, zB, ev, lget, zC, zD, zE, zF, zG, zH, zI, zJ, zK, zL, zM, zN])) | ((first | ((with_reducible refine' e_storeB ?hx ?hy ?hv ?h1 ?hb ?ho ?_); (case hx => rfl); (case hy => ((try simp only [ev, lget]); (try rfl))); (case hv => rfl); (case h1 => rfl)) | ((with_reducible refine' e_storeR ?hx ?hy ?h1 ?hb ?hn ?ho ?_); (case hx => rfl); (case hy => rfl); (case h1 => simp [Value.oneCell']); (case hn => rfl))); (case hb => (first | assumption | exact be (h := by first | assumption | exact be (h := by first | assumption | exact be (h := by first | assumption | exact be (h := by first | assumption | exact be (h := by first | assumption | exact be (h := by first | assumption | exact be (h := by first | assumption | exact be (h := by first | assumption | exact be (h := by first | assumption | exact be (h := by first | assumption)))))))))))); (case ho => first | (simp only [List.length_cons, List.length_nil]; omega) | omega | (simp; omega) | simp); (try simp only [splice, zA, zB]); intro _ _ _ _) | ((with_reducible refine' l_call TFn.ent ?ha ?_); (case ha => simp only [zC, zD, ev, lget]; (try rfl))))
      rename_i wS hbS hevS hzS
      have hwS : Evt (fun i => i = g) w wS := by (repeat (first | assumption | exact Evt.refl _ _ | (refine Evt.next (by assumption) ?_ ?hs; (case hs => first | exact fun _ _ h => h | exact fun _ _ h => False.elim h | exact fun _ _ h => Or.inl h | exact fun _ _ h => Or.inr h | exact Wr.rel (by assumption) | (intro i hi h; exfalso; have h' : i = _ := h; omega) | (intro i hi h; exfalso; have h' := hlb i h; omega)))))
      have h2 : Mach wS g p A c { k with status := 9 } v [] := h.set hbS hwS
      refine (act_any g p A c _ v [] 8 _ h2 (by simp)).mono ?_
      rintro r w3 ⟨v3, rfl, h3, hr3, hev3⟩
      refine ⟨_, rfl, ?_⟩
      (conv => arg 5; simp only [zA, zB, ev, lget, zC, zD, zE, zF, zG, zH, zI, zJ, zK, zL, zM, zN])
      repeat' (first | (with_reducible (first | refine' wp_seq ?_ | refine' wp_region_lit ?_ | refine' wpList_nil ?_ | refine' then_normal ?_ | refine' wp_ret ?_)) | ((with_reducible refine' b_ret1 ?hr ?hv ?_); (case hr => rfl); (case hv => ((try simp only [ev, lget]); (try rfl)))) | ((with_reducible refine' l_step ?_); ((with_reducible refine' g_assign ?_); (conv => arg 5; simp only [zA, zB, ev, lget, zC, zD, zE, zF, zG, zH, zI, zJ, zK, zL, zM, zN]))))
      exact ⟨v3, rfl, fun _ => h3, (cameS hwS).trans ⟨hr3, hev3⟩⟩
end Go.Proofs.YthfnlmedelfbnaaDoor
