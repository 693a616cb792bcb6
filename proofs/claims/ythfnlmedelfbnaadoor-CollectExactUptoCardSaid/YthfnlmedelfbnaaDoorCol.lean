/- Package collect: a case, the machine in memory, its small methods. -/
import Derived.Test.YthfnlmedelfbnaaDoorGoodP
namespace Go.Proofs.YthfnlmedelfbnaaDoor
open Go.RowKit Go.Proofs.YthfnlmedelfbnaaDoorE
set_option linter.unusedSimpArgs false
set_option linter.unusedVariables false

structure Cas where
  status : Int
  susp : Bool
  cycles : Int
  since : Int
  deadline : Int
  promises : Int
  pdue : Int
  pamt : Int
  pgot : Int
  kept : Int
  broken : Int
  cures : Int
  restr : Int
  cfees : Int
  lfees : Int
structure Evn where
  kind : Int
  today : Int
  days : Int
  amount : Int
/-- The cells of a case, of an event, of a machine. -/
@[reducible] def casC (k : Cas) : List Value := [.int .i64 k.status, .bool k.susp, .int .i64 k.cycles, .int .i64 k.since, .int .i64 k.deadline, .int .i64 k.promises, .int .i64 k.pdue, .int .i64 k.pamt, .int .i64 k.pgot, .int .i64 k.kept, .int .i64 k.broken, .int .i64 k.cures, .int .i64 k.restr, .int .i64 k.cfees, .int .i64 k.lfees]
@[reducible] def evnC (e : Evn) : List Value := [.int .i64 e.kind, .int .i64 e.today, .int .i64 e.days, .int .i64 e.amount]
@[reducible] def machC (p : Pol) (A : Option Addr) (c : Nat) (k : Cas) (v : Value) : List Value :=
  [.int .i64 p.firstDay, .int .i64 p.grace, .int .i64 p.nonAccrual, .int .i64 p.chargeOff, .int .i64 p.lateRate, .int .i64 p.lateMin, .int .i64 p.lateMax, .int .i64 p.cycleCap, .int .i64 p.lifeCap, .int .i64 p.promises, .int .i64 p.promiseDays, .int .i64 p.restructures, .int .i64 p.order, .int .i64 p.rule, .int .i64 p.retryBase, .int .i64 p.retryCap, .int .i64 p.snapEvery, .slice A p.hs.length c,
   .int .i64 k.status, .bool k.susp, .int .i64 k.cycles, .int .i64 k.since, .int .i64 k.deadline, .int .i64 k.promises, .int .i64 k.pdue, .int .i64 k.pamt, .int .i64 k.pgot, .int .i64 k.kept, .int .i64 k.broken, .int .i64 k.cures, .int .i64 k.restr, .int .i64 k.cfees, .int .i64 k.lfees, v]

/-- A machine under way: its block, and the row of its actions. -/
structure Mach (w : World) (g : Nat) (p : Pol) (A : Option Addr) (c : Nat) (k : Cas) (v : Value) (acts : List Int) : Prop where
  blk : Blk w g 65 (machC p A c k v)
  own : w.ownsRow 0 3 1 v acts.length (ints acts)
  far : v.ownBlock ≠ some g
  len : acts.length ≤ 1000
/-- Where the actions' row goes: it stays, or is new. -/
def Rel (w : World) (v v' : Value) : Prop := v'.ownBlock = v.ownBlock ∨ ∃ j, w.heap.size ≤ j ∧ v'.ownBlock = some j
/-- What a method of the machine may write. -/
def Wr (g : Nat) (v : Value) : Nat → Prop := fun i => i = g ∨ v.ownBlock = some i
theorem Rel.refl (w : World) (v : Value) : Rel w v v := .inl rfl
theorem Rel.trans {w w1 : World} {v v1 v2 : Value} (h : Rel w v v1) (h1 : Rel w1 v1 v2) (hs : w.heap.size ≤ w1.heap.size) : Rel w v v2 := by
  rcases h1 with h1 | ⟨j, hj, h1⟩
  · rcases h with h | ⟨i, hi, h⟩
    · exact .inl (h1.trans h)
    · exact .inr ⟨i, hi, h1.trans h⟩
  · exact .inr ⟨j, by omega, h1⟩
theorem Wr.rel {w : World} {g : Nat} {v v1 : Value} (h : Rel w v v1) : ∀ i, i < w.heap.size → Wr g v1 i → Wr g v i := by
  intro i hi hw
  rcases hw with rfl | hw
  · exact .inl rfl
  · rcases h with h | ⟨j, hj, h⟩
    · exact .inr (h ▸ hw)
    · rw [h] at hw; have : j = i := Option.some.inj hw; omega
theorem wr_trans {w w1 w2 : World} {g : Nat} {v v1 : Value} (h : Evt (Wr g v) w w1) (hr : Rel w v v1) (h1 : Evt (Wr g v1) w1 w2) : Evt (Wr g v) w w2 := Evt.next h1 h (Wr.rel hr)
/-- A block that is neither the machine's nor the actions'. -/
def Out (g : Nat) (v : Value) (b : Nat) : Prop := ¬ Wr g v b
theorem Out.rel {w : World} {g b : Nat} {v v1 : Value} (h : Out g v b) (hr : Rel w v v1) (hb : b < w.heap.size) : Out g v1 b := fun hw => h (Wr.rel hr b hb hw)
theorem own_out {w : World} {e : TypeId} {sz n g b : Nat} {v : Value} {xs : List Value} (h : w.ownsRow 0 e sz v n xs) (hb : w.heap.size ≤ b) (hg : g < w.heap.size) : Out g v b := by
  rintro (rfl | hw)
  · omega
  · have := own_lt h b hw; omega

theorem act_any (g : Nat) (p : Pol) (A : Option Addr) (c : Nat) (k : Cas) (v : Value) (acts : List Int) (a : Int) (w : World) (h : Mach w g p A c k v acts) (hl : acts.length ≤ 900) :
    Calls Tryd.prog 72 #[.pointer (some ⟨g, 0, none⟩), .int .i64 a] w fun e w' => ∃ v', e = .returned (.tuple #[]) ∧ Mach w' g p A c k v' (acts ++ [a]) ∧ Rel w v v' ∧ Evt (Wr g v) w w' := by
  obtain ⟨hb, hown, hfar, hlen⟩ := h
  have hg := hb.lt
  have hlt := own_lt hown
  go_enter Tryd.func72, Tryd.ntmps72
  repeat' (first | ((with_reducible refine' e_append ?hx ?hy ?hzs ?hsz ?hown ?hl ?hnews ?h1 ?hb ?hm ?_); (case hx => ((try simp only [ev, lget]); (try rfl))); (case hy => rfl); (case hzs => rfl); (case hsz => decide); (case hown => (first | assumption | exact oe (h := by first | assumption | exact oe (h := by first | assumption | exact oe (h := by first | assumption | exact oe (h := by first | assumption | exact oe (h := by first | assumption | exact oe (h := by first | assumption) (hs := by first | exact fun _ _ h => h | assumption | (intro k hk hg; have h1 := hnewO k hk; have h2 := hltO k hk; have h3 : k = _ := hg; omega))) (hs := by first | exact fun _ _ h => h | assumption | (intro k hk hg; have h1 := hnewO k hk; have h2 := hltO k hk; have h3 : k = _ := hg; omega))) (hs := by first | exact fun _ _ h => h | assumption | (intro k hk hg; have h1 := hnewO k hk; have h2 := hltO k hk; have h3 : k = _ := hg; omega))) (hs := by first | exact fun _ _ h => h | assumption | (intro k hk hg; have h1 := hnewO k hk; have h2 := hltO k hk; have h3 : k = _ := hg; omega))) (hs := by first | exact fun _ _ h => h | assumption | (intro k hk hg; have h1 := hnewO k hk; have h2 := hltO k hk; have h3 : k = _ := hg; omega))) (hs := by first | exact fun _ _ h => h | assumption | (intro k hk hg; have h1 := hnewO k hk; have h2 := hltO k hk; have h3 : k = _ := hg; omega)))); (case hnews => refine' blk_src ?hbb; (case hbb => (first | assumption | exact be (h := by first | assumption | exact be (h := by first | assumption | exact be (h := by first | assumption | exact be (h := by first | assumption | exact be (h := by first | assumption | exact be (h := by first | assumption | exact be (h := by first | assumption | exact be (h := by first | assumption | exact be (h := by first | assumption | exact be (h := by first | assumption))))))))))))); (case hl => rfl); (case h1 => simp [Value.oneCell']); (case hb => omega); (case hm => omega); intro vA wA hoA heA hnA haA hzA; (conv => arg 5; simp only [zA, zB, ev, lget, zC, zD, zE, zF, zG, zH, zI, zJ, zK, zL, zM, zN])) | (with_reducible refine' wp_region_lit ?_) | ((with_reducible refine' l_step ?_); ((first | (with_reducible refine' g_move ?_) | ((with_reducible refine' g_fieldAddr ?hx ?ho ?_); (case hx => rfl); (case ho => rfl)) | ((with_reducible refine' g_loadB ?hx ?hb ?hc ?_); (case hx => rfl); (case hb => (first | assumption | exact be (h := by first | assumption | exact be (h := by first | assumption | exact be (h := by first | assumption | exact be (h := by first | assumption | exact be (h := by first | assumption | exact be (h := by first | assumption | exact be (h := by first | assumption | exact be (h := by first | assumption | exact be (h := by first | assumption | exact be (h := by first | assumption)))))))))))); first | (case hc => rfl) | (case hn => simp only [List.length_cons, List.length_nil]; omega)) | ((with_reducible refine' g_nilCheckP ?hx ?_); (case hx => rfl))); (conv => arg 5; simp only [zA, zB, ev, lget, zC, zD, zE, zF, zG, zH, zI, zJ, zK, zL, zM, zN]))) | (((with_reducible refine' e_sliceLit ?hx ?hi ?hv ?hn ?_); (case hx => simp only [zC, zD, ev, lget]; (try rfl)); (case hi => rfl); (case hv => simp [Value.cells]); (case hn => decide); simp only [List.flatMap_cons, List.flatMap_nil, Value.cells, List.cons_append, List.nil_append]); intro _ _ _ _ _ _ _; (conv => arg 5; simp only [zA, zB, ev, lget, zC, zD, zE, zF, zG, zH, zI, zJ, zK, zL, zM, zN])))
  obtain ⟨V2, d2, rfl⟩ := own_slice hoA
  have hfar2 : (Value.slice V2 (acts.length + 1) d2).ownBlock ≠ some g := by
    rcases haA with h | h
    · rw [h]; exact hfar
    · rw [h]; intro hk; have := Option.some.inj hk; omega
  repeat' (first | (with_reducible refine' wpList_nil ?_) | ((with_reducible refine' b_end0 ?hr ?_); (case hr => rfl)) | ((first | ((with_reducible refine' e_storeB ?hx ?hy ?hv ?h1 ?hb ?ho ?_); (case hx => rfl); (case hy => ((try simp only [ev, lget]); (try rfl))); (case hv => rfl); (case h1 => rfl)) | ((with_reducible refine' e_storeR ?hx ?hy ?h1 ?hb ?hn ?ho ?_); (case hx => rfl); (case hy => rfl); (case h1 => simp [Value.oneCell']); (case hn => rfl))); (case hb => (first | assumption | exact be (h := by first | assumption | exact be (h := by first | assumption | exact be (h := by first | assumption | exact be (h := by first | assumption | exact be (h := by first | assumption | exact be (h := by first | assumption | exact be (h := by first | assumption | exact be (h := by first | assumption | exact be (h := by first | assumption | exact be (h := by first | assumption)))))))))))); (case ho => first | (simp only [List.length_cons, List.length_nil]; omega) | omega | (simp; omega) | simp); (try simp only [splice, zA, zB]); intro _ _ _ _))
  rename_i wS hbS hevS hzS
  have hoB : wS.ownsRow 0 3 1 (.slice V2 (acts.length + 1) d2) (acts.length + 1) (ints acts ++ [.int .i64 a]) := own_evt hevS hoA (fun k hk hg => hfar2 (by rw [hk, hg]))
  refine ⟨_, rfl, ⟨hbS, by rw [ints_append, show (acts ++ [a]).length = acts.length + 1 by simp]; exact hoB, hfar2, by simp; omega⟩, ?_, ?_⟩
  · rcases haA with h | h
    · exact .inl h
    · exact .inr ⟨_, by assumption, h⟩
  · (repeat (first | assumption | exact Evt.refl _ _ | (refine Evt.next (by assumption) ?_ ?hs; (case hs => first | exact fun _ _ h => h | exact fun _ _ h => False.elim h | exact fun _ _ h => Or.inl h | exact fun _ _ h => Or.inr h | exact Wr.rel (by assumption) | (intro i hi h; exfalso; have h' : i = _ := h; omega) | (intro i hi h; exfalso; have h' := hlb i h; omega)))))

theorem Mach.set {w w' : World} {g : Nat} {p : Pol} {A : Option Addr} {c : Nat} {k k' : Cas} {v : Value} {acts : List Int} (h : Mach w g p A c k v acts) (hb : Blk w' g 65 (machC p A c k' v)) (he : Evt (fun i => i = g) w w') : Mach w' g p A c k' v acts :=
  ⟨hb, own_evt he h.own (fun j hj hg => h.far (by rw [hj, hg])), h.far, h.len⟩
theorem Mach.up {w w' : World} {g : Nat} {p : Pol} {A : Option Addr} {c : Nat} {k : Cas} {v : Value} {acts : List Int} (h : Mach w g p A c k v acts) (he : Evt (fun _ => False) w w') : Mach w' g p A c k v acts :=
  ⟨h.blk.evt he id, own_evt he h.own (fun _ _ h => h), h.far, h.len⟩
theorem wr_g {w w' : World} {g : Nat} {v : Value} (h : Evt (fun i => i = g) w w') : Evt (Wr g v) w w' := h.mono fun _ _ h => .inl h

def clrP (k : Cas) : Cas := { k with pdue := 0, pamt := 0, pgot := 0 }
def backP' (k : Cas) : Cas := { k with pdue := 0, pamt := 0, pgot := 0, status := if k.susp = true then 5 else 3 }
def endP (k : Cas) (st : Int) : Cas := { k with pdue := 0, pamt := 0, pgot := 0, susp := false, since := 0, deadline := 0, promises := 0, cfees := 0, status := st }
def incP (x : Int) : Int := IntKind.i64.wrap (x + 1)
def cureP (k : Cas) : Cas := endP { k with cures := incP k.cures } 6
theorem clear_any (g : Nat) (p : Pol) (A : Option Addr) (c : Nat) (k : Cas) (v : Value) (acts : List Int) (w : World) (h : Mach w g p A c k v acts) :
    Calls Tryd.prog 85 #[.pointer (some ⟨g, 0, none⟩)] w fun e w' => e = .returned (.tuple #[]) ∧ Mach w' g p A c (clrP k) v acts ∧ Evt (fun i => i = g) w w' := by
  have hb := h.blk
  go_enter Tryd.func85, Tryd.ntmps85
  repeat' (first | (with_reducible (first | refine' wp_region_lit ?_ | refine' wpList_nil ?_)) | ((with_reducible refine' b_end0 ?hr ?_); (case hr => rfl)) | ((with_reducible refine' l_step ?_); ((first | (with_reducible refine' g_move ?_) | ((with_reducible refine' g_fieldAddr ?hx ?ho ?_); (case hx => rfl); (case ho => rfl)) | ((with_reducible refine' g_nilCheckP ?hx ?_); (case hx => rfl))); (conv => arg 5; simp only [zA, zB, ev, lget, zC, zD, zE, zF, zG, zH, zI, zJ, zK, zL, zM, zN]))) | ((first | ((with_reducible refine' e_storeB ?hx ?hy ?hv ?h1 ?hb ?ho ?_); (case hx => rfl); (case hy => ((try simp only [ev, lget]); (try rfl))); (case hv => rfl); (case h1 => rfl)) | ((with_reducible refine' e_storeR ?hx ?hy ?h1 ?hb ?hn ?ho ?_); (case hx => rfl); (case hy => rfl); (case h1 => simp [Value.oneCell']); (case hn => rfl))); (case hb => (first | assumption | exact be (h := by first | assumption | exact be (h := by first | assumption | exact be (h := by first | assumption | exact be (h := by first | assumption | exact be (h := by first | assumption | exact be (h := by first | assumption | exact be (h := by first | assumption | exact be (h := by first | assumption | exact be (h := by first | assumption | exact be (h := by first | assumption)))))))))))); (case ho => first | (simp only [List.length_cons, List.length_nil]; omega) | omega | (simp; omega) | simp); (try simp only [splice, zA, zB]); intro _ _ _ _))
  rename_i wS hbS hevS hzS
  refine ⟨rfl, h.set (k' := clrP k) hbS ?_, ?_⟩ <;> (repeat (first | assumption | exact Evt.refl _ _ | (refine Evt.next (by assumption) ?_ ?hs; (case hs => first | exact fun _ _ h => h | exact fun _ _ h => False.elim h | exact fun _ _ h => Or.inl h | exact fun _ _ h => Or.inr h | exact Wr.rel (by assumption) | (intro i hi h; exfalso; have h' : i = _ := h; omega) | (intro i hi h; exfalso; have h' := hlb i h; omega)))))
theorem back_any (g : Nat) (p : Pol) (A : Option Addr) (c : Nat) (k : Cas) (v : Value) (acts : List Int) (w : World) (h : Mach w g p A c k v acts) :
    Calls Tryd.prog 71 #[.pointer (some ⟨g, 0, none⟩)] w fun e w' => e = .returned (.tuple #[]) ∧ Mach w' g p A c (backP' k) v acts ∧ Evt (fun i => i = g) w w' := by
  cases hs : k.susp with
  | false =>
    go_enter Tryd.func71, Tryd.ntmps71
    repeat' (first | (with_reducible (first | refine' wp_seq ?_ | refine' wp_region_lit ?_)) | ((with_reducible refine' l_step ?_); ((with_reducible refine' g_move ?_); (conv => arg 5; simp only [zA, zB, ev, lget, zC, zD, zE, zF, zG, zH, zI, zJ, zK, zL, zM, zN]))) | ((with_reducible refine' l_call TFn.ent ?ha ?_); (case ha => simp only [zC, zD, ev, lget]; (try rfl))))
    refine (clear_any g p A c k v acts _ h).mono ?_
    rintro e w1 ⟨rfl, h1, hev1⟩
    refine ⟨_, rfl, ?_⟩
    (conv => arg 5; simp only [zA, zB, ev, lget, zC, zD, zE, zF, zG, zH, zI, zJ, zK, zL, zM, zN])
    have hb1 := h1.blk
    simp only [clrP, hs] at hb1
    repeat' (first | (with_reducible (first | refine' wp_seq ?_ | refine' wp_region_lit ?_ | refine' wpList_nil ?_ | refine' then_normal ?_ | refine' wp_skip ?_)) | ((with_reducible refine' c_condF ?hx ?_); (case hx => rfl)) | ((with_reducible refine' b_end0 ?hr ?_); (case hr => rfl)) | ((with_reducible refine' l_step ?_); ((first | (with_reducible refine' g_move ?_) | ((with_reducible refine' g_fieldAddr ?hx ?ho ?_); (case hx => rfl); (case ho => rfl)) | ((with_reducible refine' g_loadB ?hx ?hb ?hc ?_); (case hx => rfl); (case hb => (first | assumption | exact be (h := by first | assumption | exact be (h := by first | assumption | exact be (h := by first | assumption | exact be (h := by first | assumption | exact be (h := by first | assumption | exact be (h := by first | assumption | exact be (h := by first | assumption | exact be (h := by first | assumption | exact be (h := by first | assumption | exact be (h := by first | assumption)))))))))))); first | (case hc => rfl) | (case hn => simp only [List.length_cons, List.length_nil]; omega)) | ((with_reducible refine' g_nilCheckP ?hx ?_); (case hx => rfl))); (conv => arg 5; simp only [zA, zB, ev, lget, zC, zD, zE, zF, zG, zH, zI, zJ, zK, zL, zM, zN]))) | ((first | ((with_reducible refine' e_storeB ?hx ?hy ?hv ?h1 ?hb ?ho ?_); (case hx => rfl); (case hy => ((try simp only [ev, lget]); (try rfl))); (case hv => rfl); (case h1 => rfl)) | ((with_reducible refine' e_storeR ?hx ?hy ?h1 ?hb ?hn ?ho ?_); (case hx => rfl); (case hy => rfl); (case h1 => simp [Value.oneCell']); (case hn => rfl))); (case hb => (first | assumption | exact be (h := by first | assumption | exact be (h := by first | assumption | exact be (h := by first | assumption | exact be (h := by first | assumption | exact be (h := by first | assumption | exact be (h := by first | assumption | exact be (h := by first | assumption | exact be (h := by first | assumption | exact be (h := by first | assumption | exact be (h := by first | assumption)))))))))))); (case ho => first | (simp only [List.length_cons, List.length_nil]; omega) | omega | (simp; omega) | simp); (try simp only [splice, zA, zB]); intro _ _ _ _))
    rename_i wS hbS hevS hzS
    refine ⟨rfl, h.set (k' := backP' k) ?_ ?_, ?_⟩
    · simp only [backP', hs]; exact hbS
    all_goals (repeat (first | assumption | exact Evt.refl _ _ | (refine Evt.next (by assumption) ?_ ?hs; (case hs => first | exact fun _ _ h => h | exact fun _ _ h => False.elim h | exact fun _ _ h => Or.inl h | exact fun _ _ h => Or.inr h | exact Wr.rel (by assumption) | (intro i hi h; exfalso; have h' : i = _ := h; omega) | (intro i hi h; exfalso; have h' := hlb i h; omega)))))
  | true =>
    go_enter Tryd.func71, Tryd.ntmps71
    repeat' (first | (with_reducible (first | refine' wp_seq ?_ | refine' wp_region_lit ?_)) | ((with_reducible refine' l_step ?_); ((with_reducible refine' g_move ?_); (conv => arg 5; simp only [zA, zB, ev, lget, zC, zD, zE, zF, zG, zH, zI, zJ, zK, zL, zM, zN]))) | ((with_reducible refine' l_call TFn.ent ?ha ?_); (case ha => simp only [zC, zD, ev, lget]; (try rfl))))
    refine (clear_any g p A c k v acts _ h).mono ?_
    rintro e w1 ⟨rfl, h1, hev1⟩
    refine ⟨_, rfl, ?_⟩
    (conv => arg 5; simp only [zA, zB, ev, lget, zC, zD, zE, zF, zG, zH, zI, zJ, zK, zL, zM, zN])
    have hb1 := h1.blk
    simp only [clrP, hs] at hb1
    repeat' (first | (with_reducible (first | refine' wp_seq ?_ | refine' wp_region_lit ?_ | refine' wpList_nil ?_ | refine' then_normal ?_)) | ((with_reducible refine' c_condT ?hx ?_); (case hx => rfl)) | ((with_reducible refine' b_end0 ?hr ?_); (case hr => rfl)) | ((with_reducible refine' l_step ?_); ((first | (with_reducible refine' g_move ?_) | ((with_reducible refine' g_fieldAddr ?hx ?ho ?_); (case hx => rfl); (case ho => rfl)) | ((with_reducible refine' g_loadB ?hx ?hb ?hc ?_); (case hx => rfl); (case hb => (first | assumption | exact be (h := by first | assumption | exact be (h := by first | assumption | exact be (h := by first | assumption | exact be (h := by first | assumption | exact be (h := by first | assumption | exact be (h := by first | assumption | exact be (h := by first | assumption | exact be (h := by first | assumption | exact be (h := by first | assumption | exact be (h := by first | assumption)))))))))))); first | (case hc => rfl) | (case hn => simp only [List.length_cons, List.length_nil]; omega)) | ((with_reducible refine' g_nilCheckP ?hx ?_); (case hx => rfl))); (conv => arg 5; simp only [zA, zB, ev, lget, zC, zD, zE, zF, zG, zH, zI, zJ, zK, zL, zM, zN]))) | ((first | ((with_reducible refine' e_storeB ?hx ?hy ?hv ?h1 ?hb ?ho ?_); (case hx => rfl); (case hy => ((try simp only [ev, lget]); (try rfl))); (case hv => rfl); (case h1 => rfl)) | ((with_reducible refine' e_storeR ?hx ?hy ?h1 ?hb ?hn ?ho ?_); (case hx => rfl); (case hy => rfl); (case h1 => simp [Value.oneCell']); (case hn => rfl))); (case hb => (first | assumption | exact be (h := by first | assumption | exact be (h := by first | assumption | exact be (h := by first | assumption | exact be (h := by first | assumption | exact be (h := by first | assumption | exact be (h := by first | assumption | exact be (h := by first | assumption | exact be (h := by first | assumption | exact be (h := by first | assumption | exact be (h := by first | assumption)))))))))))); (case ho => first | (simp only [List.length_cons, List.length_nil]; omega) | omega | (simp; omega) | simp); (try simp only [splice, zA, zB]); intro _ _ _ _))
    rename_i wS hbS hevS hzS
    refine ⟨rfl, h.set (k' := backP' k) ?_ ?_, ?_⟩
    · simp only [backP', hs]; exact hbS
    all_goals (repeat (first | assumption | exact Evt.refl _ _ | (refine Evt.next (by assumption) ?_ ?hs; (case hs => first | exact fun _ _ h => h | exact fun _ _ h => False.elim h | exact fun _ _ h => Or.inl h | exact fun _ _ h => Or.inr h | exact Wr.rel (by assumption) | (intro i hi h; exfalso; have h' : i = _ := h; omega) | (intro i hi h; exfalso; have h' := hlb i h; omega)))))
theorem end_any (g : Nat) (p : Pol) (A : Option Addr) (c : Nat) (k : Cas) (v : Value) (acts : List Int) (st a : Int) (w : World) (h : Mach w g p A c k v acts) (hl : acts.length ≤ 900) :
    Calls Tryd.prog 75 #[.pointer (some ⟨g, 0, none⟩), .int .i64 st, .int .i64 a] w fun e w' => ∃ v', e = .returned (.tuple #[]) ∧ Mach w' g p A c (endP k st) v' (acts ++ [a]) ∧ Rel w v v' ∧ Evt (Wr g v) w w' := by
  go_enter Tryd.func75, Tryd.ntmps75
  repeat' (first | (with_reducible (first | refine' wp_seq ?_ | refine' wp_region_lit ?_)) | ((with_reducible refine' l_step ?_); ((with_reducible refine' g_move ?_); (conv => arg 5; simp only [zA, zB, ev, lget, zC, zD, zE, zF, zG, zH, zI, zJ, zK, zL, zM, zN]))) | ((with_reducible refine' l_call TFn.ent ?ha ?_); (case ha => simp only [zC, zD, ev, lget]; (try rfl))))
  refine (clear_any g p A c k v acts _ h).mono ?_
  rintro e w1 ⟨rfl, h1, hev1⟩
  refine ⟨_, rfl, ?_⟩
  (conv => arg 5; simp only [zA, zB, ev, lget, zC, zD, zE, zF, zG, zH, zI, zJ, zK, zL, zM, zN])
  have hb1 := h1.blk
  simp only [clrP] at hb1
  repeat' (first | (with_reducible (first | refine' wp_seq ?_ | refine' wp_region_lit ?_ | refine' wpList_nil ?_ | refine' then_normal ?_)) | ((with_reducible refine' l_step ?_); ((first | (with_reducible refine' g_move ?_) | ((with_reducible refine' g_fieldAddr ?hx ?ho ?_); (case hx => rfl); (case ho => rfl)) | ((with_reducible refine' g_nilCheckP ?hx ?_); (case hx => rfl))); (conv => arg 5; simp only [zA, zB, ev, lget, zC, zD, zE, zF, zG, zH, zI, zJ, zK, zL, zM, zN]))) | ((first | ((with_reducible refine' e_storeB ?hx ?hy ?hv ?h1 ?hb ?ho ?_); (case hx => rfl); (case hy => ((try simp only [ev, lget]); (try rfl))); (case hv => rfl); (case h1 => rfl)) | ((with_reducible refine' e_storeR ?hx ?hy ?h1 ?hb ?hn ?ho ?_); (case hx => rfl); (case hy => rfl); (case h1 => simp [Value.oneCell']); (case hn => rfl))); (case hb => (first | assumption | exact be (h := by first | assumption | exact be (h := by first | assumption | exact be (h := by first | assumption | exact be (h := by first | assumption | exact be (h := by first | assumption | exact be (h := by first | assumption | exact be (h := by first | assumption | exact be (h := by first | assumption | exact be (h := by first | assumption | exact be (h := by first | assumption)))))))))))); (case ho => first | (simp only [List.length_cons, List.length_nil]; omega) | omega | (simp; omega) | simp); (try simp only [splice, zA, zB]); intro _ _ _ _) | ((with_reducible refine' l_call TFn.ent ?ha ?_); (case ha => simp only [zC, zD, ev, lget]; (try rfl))))
  rename_i wS hbS hevS hzS
  have hww : Evt (fun i => i = g) w wS := by (repeat (first | assumption | exact Evt.refl _ _ | (refine Evt.next (by assumption) ?_ ?hs; (case hs => first | exact fun _ _ h => h | exact fun _ _ h => False.elim h | exact fun _ _ h => Or.inl h | exact fun _ _ h => Or.inr h | exact Wr.rel (by assumption) | (intro i hi h; exfalso; have h' : i = _ := h; omega) | (intro i hi h; exfalso; have h' := hlb i h; omega)))))
  have h2 : Mach wS g p A c (endP k st) v acts := h.set hbS hww
  have hz := hww.size
  refine (act_any g p A c _ v acts a _ h2 hl).mono ?_
  rintro e w3 ⟨v', rfl, h3, hr3, hev3⟩
  refine ⟨_, rfl, ?_⟩
  (conv => arg 5; simp only [zA, zB, ev, lget, zC, zD, zE, zF, zG, zH, zI, zJ, zK, zL, zM, zN])
  repeat' (first | (with_reducible refine' wpList_nil ?_) | ((with_reducible refine' b_end0 ?hr ?_); (case hr => rfl)))
  refine ⟨v', rfl, h3, Rel.trans (.inl rfl) hr3 hz, ?_⟩
  exact wr_trans (wr_g hww) (.inl rfl) hev3
theorem cure_any (g : Nat) (p : Pol) (A : Option Addr) (c : Nat) (k : Cas) (v : Value) (acts : List Int) (w : World) (h : Mach w g p A c k v acts) (hl : acts.length ≤ 900) :
    Calls Tryd.prog 74 #[.pointer (some ⟨g, 0, none⟩)] w fun e w' => ∃ v', e = .returned (.tuple #[]) ∧ Mach w' g p A c (cureP k) v' (acts ++ [6]) ∧ Rel w v v' ∧ Evt (Wr g v) w w' := by
  have hb := h.blk
  go_enter Tryd.func74, Tryd.ntmps74
  repeat' (first | (with_reducible (first | refine' wp_seq ?_ | refine' wp_region_lit ?_ | refine' wpList_nil ?_ | refine' then_normal ?_)) | ((with_reducible refine' l_step ?_); ((first | (with_reducible refine' g_move ?_) | ((with_reducible refine' g_fieldAddr ?hx ?ho ?_); (case hx => rfl); (case ho => rfl)) | ((with_reducible refine' g_loadB ?hx ?hb ?hc ?_); (case hx => rfl); (case hb => (first | assumption | exact be (h := by first | assumption | exact be (h := by first | assumption | exact be (h := by first | assumption | exact be (h := by first | assumption | exact be (h := by first | assumption | exact be (h := by first | assumption | exact be (h := by first | assumption | exact be (h := by first | assumption | exact be (h := by first | assumption | exact be (h := by first | assumption)))))))))))); first | (case hc => rfl) | (case hn => simp only [List.length_cons, List.length_nil]; omega)) | ((with_reducible refine' g_add ?hx ?hy ?_); (case hx => rfl); (case hy => rfl)) | ((with_reducible refine' g_nilCheckP ?hx ?_); (case hx => rfl))); (conv => arg 5; simp only [zA, zB, ev, lget, zC, zD, zE, zF, zG, zH, zI, zJ, zK, zL, zM, zN]))) | ((first | ((with_reducible refine' e_storeB ?hx ?hy ?hv ?h1 ?hb ?ho ?_); (case hx => rfl); (case hy => ((try simp only [ev, lget]); (try rfl))); (case hv => rfl); (case h1 => rfl)) | ((with_reducible refine' e_storeR ?hx ?hy ?h1 ?hb ?hn ?ho ?_); (case hx => rfl); (case hy => rfl); (case h1 => simp [Value.oneCell']); (case hn => rfl))); (case hb => (first | assumption | exact be (h := by first | assumption | exact be (h := by first | assumption | exact be (h := by first | assumption | exact be (h := by first | assumption | exact be (h := by first | assumption | exact be (h := by first | assumption | exact be (h := by first | assumption | exact be (h := by first | assumption | exact be (h := by first | assumption | exact be (h := by first | assumption)))))))))))); (case ho => first | (simp only [List.length_cons, List.length_nil]; omega) | omega | (simp; omega) | simp); (try simp only [splice, zA, zB]); intro _ _ _ _) | ((with_reducible refine' l_call TFn.ent ?ha ?_); (case ha => simp only [zC, zD, ev, lget]; (try rfl))))
  rename_i wS hbS hevS hzS
  have h2 : Mach wS g p A c { k with cures := incP k.cures } v acts := h.set hbS hevS
  refine (end_any g p A c _ v acts 6 6 _ h2 hl).mono ?_
  rintro e w3 ⟨v', rfl, h3, hr3, hev3⟩
  refine ⟨_, rfl, ?_⟩
  (conv => arg 5; simp only [zA, zB, ev, lget, zC, zD, zE, zF, zG, zH, zI, zJ, zK, zL, zM, zN])
  repeat' (first | (with_reducible refine' wpList_nil ?_) | ((with_reducible refine' b_end0 ?hr ?_); (case hr => rfl)))
  exact ⟨v', rfl, h3, Rel.trans (.inl rfl) hr3 hzS, wr_trans (wr_g hevS) (.inl rfl) hev3⟩
def overB (k : Cas) : Bool := decide (k.status = 8) || decide (k.status = 9)
theorem over_any (g : Nat) (p : Pol) (A : Option Addr) (c : Nat) (k : Cas) (v : Value) (acts : List Int) (w : World) (h : Mach w g p A c k v acts) :
    Calls Tryd.prog 70 #[.pointer (some ⟨g, 0, none⟩)] w fun e w' => e = .returned (.bool (overB k)) ∧ w = w' := by
  have hb := h.blk
  go_enter Tryd.func70, Tryd.ntmps70
  repeat' (first | (with_reducible (first | refine' wp_seq ?_ | refine' wp_region_lit ?_ | refine' wpList_nil ?_ | refine' then_normal ?_ | refine' wp_ret ?_)) | ((with_reducible refine' b_ret1 ?hr ?hv ?_); (case hr => rfl); (case hv => ((try simp only [ev, lget]); (try rfl)))) | ((with_reducible refine' l_step ?_); (first | ((first | (with_reducible refine' g_move ?_) | (with_reducible refine' g_assign ?_) | ((with_reducible refine' g_fieldAddr ?hx ?ho ?_); (case hx => rfl); (case ho => rfl)) | ((with_reducible refine' g_loadB ?hx ?hb ?hc ?_); (case hx => rfl); (case hb => (first | assumption | exact be (h := by first | assumption | exact be (h := by first | assumption | exact be (h := by first | assumption | exact be (h := by first | assumption | exact be (h := by first | assumption | exact be (h := by first | assumption | exact be (h := by first | assumption | exact be (h := by first | assumption | exact be (h := by first | assumption | exact be (h := by first | assumption)))))))))))); first | (case hc => rfl) | (case hn => simp only [List.length_cons, List.length_nil]; omega)) | ((with_reducible refine' g_pickT ?hx ?_); (case hx => rfl)) | ((with_reducible refine' g_pickF ?hx ?_); (case hx => rfl)) | ((with_reducible refine' g_nilCheckP ?hx ?_); (case hx => rfl))); (conv => arg 5; simp only [zA, zB, ev, lget, zC, zD, zE, zF, zG, zH, zI, zJ, zK, zL, zM, zN])) | (((with_reducible refine' g_eql ?hx ?hy (fun _ => ?_) (fun _ => ?_)); (case hx => rfl)); (case hy => rfl); all_goals (first | (exfalso; omega) | (conv => arg 5; simp only [zA, zB, ev, lget, zC, zD, zE, zF, zG, zH, zI, zJ, zK, zL, zM, zN]))))) | ((with_reducible refine' l_on ?hw ?_); (case hw => rfl)) | ((with_reducible refine' l_off ?hw ?_); (case hw => rfl); (conv => arg 5; simp only [zA, zB, ev, lget, zC, zD, zE, zF, zG, zH, zI, zJ, zK, zL, zM, zN])))
  all_goals exact ⟨ret_bool (by simp [overB, *]), rfl⟩
def dayB (d : Int) : Bool := decide (1 ≤ d) && decide (d ≤ 3652059)
theorem isDay_any (d : Int) (w : World) :
    Calls Tryd.prog 69 #[.int .i64 d] w fun e w' => e = .returned (.bool (dayB d)) ∧ w = w' := by
  go_enter Tryd.func69, Tryd.ntmps69
  repeat' (first | (with_reducible (first | refine' wp_seq ?_ | refine' wp_region_lit ?_ | refine' wpList_nil ?_ | refine' then_normal ?_ | refine' wp_ret ?_)) | ((with_reducible refine' b_ret1 ?hr ?hv ?_); (case hr => rfl); (case hv => ((try simp only [ev, lget]); (try rfl)))) | ((with_reducible refine' l_step ?_); (first | ((first | (with_reducible refine' g_move ?_) | (with_reducible refine' g_assign ?_) | ((with_reducible refine' g_pickT ?hx ?_); (case hx => rfl)) | ((with_reducible refine' g_pickF ?hx ?_); (case hx => rfl))); (conv => arg 5; simp only [zA, zB, ev, lget, zC, zD, zE, zF, zG, zH, zI, zJ, zK, zL, zM, zN])) | ((first | ((with_reducible refine' g_leq ?hx ?hy (fun _ => ?_) (fun _ => ?_)); (case hx => rfl)) | ((with_reducible refine' g_geq ?hx ?hy (fun _ => ?_) (fun _ => ?_)); (case hx => rfl))); (case hy => rfl); all_goals (first | (exfalso; omega) | (conv => arg 5; simp only [zA, zB, ev, lget, zC, zD, zE, zF, zG, zH, zI, zJ, zK, zL, zM, zN]))))) | ((with_reducible refine' l_on ?hw ?_); (case hw => rfl)) | ((with_reducible refine' l_off ?hw ?_); (case hw => rfl); (conv => arg 5; simp only [zA, zB, ev, lget, zC, zD, zE, zF, zG, zH, zI, zJ, zK, zL, zM, zN])))
  all_goals exact ⟨ret_bool (by first | (simp [dayB]; done) | (simp [dayB]; omega)), rfl⟩
def openB (k : Cas) : Bool := decide (k.status = 3) || decide (k.status = 4) || decide (k.status = 5)
theorem open_any (k : Cas) (w : World) :
    Calls Tryd.prog 5 #[.agg (casC k).toArray] w fun e w' => e = .returned (.bool (openB k)) ∧ Evt (fun _ => False) w w' := by
  go_enter Tryd.func5, Tryd.ntmps5
  repeat' (first | (with_reducible (first | refine' wp_seq ?_ | refine' wp_region_lit ?_ | refine' wpList_nil ?_ | refine' then_normal ?_ | refine' wp_block ?_ | refine' wp_ret ?_ | refine' wp_skip ?_ | refine' then_ret ?_ | refine' in_normal ?_ | refine' in_ret ?_)) | ((with_reducible refine' c_condT ?hx ?_); (case hx => rfl)) | ((with_reducible refine' c_condF ?hx ?_); (case hx => rfl)) | ((with_reducible refine' b_ret1 ?hr ?hv ?_); (case hr => rfl); (case hv => ((try simp only [ev, lget]); (try rfl)))) | ((with_reducible refine' l_step ?_); (first | ((first | (with_reducible refine' g_assign ?_) | ((with_reducible refine' g_fieldAddr ?hx ?ho ?_); (case hx => rfl); (case ho => rfl)) | ((with_reducible refine' g_loadB ?hx ?hb ?hc ?_); (case hx => rfl); (case hb => (first | assumption | exact be (h := by first | assumption | exact be (h := by first | assumption | exact be (h := by first | assumption | exact be (h := by first | assumption | exact be (h := by first | assumption | exact be (h := by first | assumption | exact be (h := by first | assumption | exact be (h := by first | assumption | exact be (h := by first | assumption | exact be (h := by first | assumption)))))))))))); first | (case hc => rfl) | (case hn => simp only [List.length_cons, List.length_nil]; omega))); (conv => arg 5; simp only [zA, zB, ev, lget, zC, zD, zE, zF, zG, zH, zI, zJ, zK, zL, zM, zN])) | (((with_reducible refine' g_eql ?hx ?hy (fun _ => ?_) (fun _ => ?_)); (case hx => rfl)); (case hy => rfl); all_goals (first | (exfalso; omega) | (conv => arg 5; simp only [zA, zB, ev, lget, zC, zD, zE, zF, zG, zH, zI, zJ, zK, zL, zM, zN]))))) | (((with_reducible refine' e_boxA ?hx ?_); (case hx => rfl)); intro _ _ _ _ _ _ _; (conv => arg 5; simp only [zA, zB, ev, lget, zC, zD, zE, zF, zG, zH, zI, zJ, zK, zL, zM, zN])))
  all_goals exact ⟨ret_bool (by simp [openB, *]), by (repeat (first | assumption | exact Evt.refl _ _ | (refine Evt.next (by assumption) ?_ ?hs; (case hs => first | exact fun _ _ h => h | exact fun _ _ h => False.elim h | exact fun _ _ h => Or.inl h | exact fun _ _ h => Or.inr h | exact Wr.rel (by assumption) | (intro i hi h; exfalso; have h' : i = _ := h; omega) | (intro i hi h; exfalso; have h' := hlb i h; omega)))))⟩
def freshC : Cas := { status := 1, susp := false, cycles := 0, since := 0, deadline := 0, promises := 0, pdue := 0, pamt := 0, pgot := 0, kept := 0, broken := 0, cures := 0, restr := 0, cfees := 0, lfees := 0 }
theorem fresh_any (w : World) :
    Calls Tryd.prog 13 #[] w fun e w' => e = .returned (.agg (casC freshC).toArray) ∧ Evt (fun _ => False) w w' := by
  go_enter Tryd.func13, Tryd.ntmps13
  repeat' (first | (with_reducible (first | refine' wp_seq ?_ | refine' wp_region_lit ?_ | refine' wpList_nil ?_ | refine' then_normal ?_ | refine' wp_ret ?_)) | ((with_reducible refine' b_retC ?hr ?ht ?hp ?hb ?hn ?_); (case hr => rfl); (case ht => infer_instance); (case hp => rfl); (case hb => (first | assumption | exact be (h := by first | assumption | exact be (h := by first | assumption | exact be (h := by first | assumption | exact be (h := by first | assumption | exact be (h := by first | assumption | exact be (h := by first | assumption | exact be (h := by first | assumption | exact be (h := by first | assumption | exact be (h := by first | assumption | exact be (h := by first | assumption)))))))))))); (case hn => rfl)) | ((with_reducible refine' l_step ?_); ((with_reducible refine' g_build ?hl ?hp ?hs ?_); (case hl => rfl); (case hp => rfl); (case hs => rfl); (conv => arg 5; simp only [zA, zB, ev, lget, zC, zD, zE, zF, zG, zH, zI, zJ, zK, zL, zM, zN, fillL, splice, List.getD_cons_zero, List.getD_cons_succ, Value.cells]))) | (((with_reducible refine' e_alloc ?hx ?_); (case hx => rfl)); intro _ _ _ _ _ _ _; (conv => arg 5; simp only [zA, zB, ev, lget, zC, zD, zE, zF, zG, zH, zI, zJ, zK, zL, zM, zN])) | ((first | ((with_reducible refine' e_storeB ?hx ?hy ?hv ?h1 ?hb ?ho ?_); (case hx => rfl); (case hy => ((try simp only [ev, lget]); (try rfl))); (case hv => rfl); (case h1 => rfl)) | ((with_reducible refine' e_storeR ?hx ?hy ?h1 ?hb ?hn ?ho ?_); (case hx => rfl); (case hy => rfl); (case h1 => simp [Value.oneCell']); (case hn => rfl))); (case hb => (first | assumption | exact be (h := by first | assumption | exact be (h := by first | assumption | exact be (h := by first | assumption | exact be (h := by first | assumption | exact be (h := by first | assumption | exact be (h := by first | assumption | exact be (h := by first | assumption | exact be (h := by first | assumption | exact be (h := by first | assumption | exact be (h := by first | assumption)))))))))))); (case ho => first | (simp only [List.length_cons, List.length_nil]; omega) | omega | (simp; omega) | simp); (try simp only [splice, zA, zB]); intro _ _ _ _))
  exact ⟨rfl, by (repeat (first | assumption | exact Evt.refl _ _ | (refine Evt.next (by assumption) ?_ ?hs; (case hs => first | exact fun _ _ h => h | exact fun _ _ h => False.elim h | exact fun _ _ h => Or.inl h | exact fun _ _ h => Or.inr h | exact Wr.rel (by assumption) | (intro i hi h; exfalso; have h' : i = _ := h; omega) | (intro i hi h; exfalso; have h' := hlb i h; omega)))))⟩
end Go.Proofs.YthfnlmedelfbnaaDoor
