/- Regions that draw their order, whose head only reads and whose tail writes; more of words. -/
import Derived.Test.YtchfkkliechgoaaOps3
import Derived.StillTail
namespace Go.Proofs.YtchfkkliechgoaaE
open Go Go.RowKit
set_option linter.unusedSimpArgs false
set_option linter.unusedVariables false

/-- The head's operations one by one (so many), behind them the tail. -/
def wpTail (P : Program) (ops : Array Oper) (w : World) (Q : Exit → Act → World → Prop) : Nat → List Oper → Act → Prop
  | 0, rest, a => wpList P ops Q rest a w
  | _ + 1, [], _ => False
  | n + 1, o :: rest, a => if Region.wanted o (yielded ops a.tmps) then o.still P a w (wpTail P ops w Q n rest) else wpTail P ops w Q n rest (a.put o.dst undef)
section
variable {P : Program} {ops : Array Oper} {rest : List Oper} {w : World} {Q : Exit → Act → World → Prop} {ty : TypeId} {pos : String} {aft : Array Edge} {l : List Value} {ds : List Deferred} {N : Tmp} {op : Op} {n : Nat}
theorem wpTail_still : ∀ (n : Nat) (l : List Oper) (a : Act), wpTail P ops w Q n l a → wpStill P ops w (fun a' => wpList P ops Q (l.drop n) a' w) (l.take n) a := by
  intro n
  induction n with
  | zero => intro l a h; exact h
  | succ n ih =>
    intro l a h
    cases l with
    | nil => exact h.elim
    | cons o l =>
      unfold wpTail at h
      simp only [List.take_succ_cons, List.drop_succ_cons]
      unfold wpStill
      by_cases hw : Region.wanted o (yielded ops a.tmps) = true
      · rw [if_pos hw] at h ⊢
        exact Oper.still_mono (fun a' ha => ih l a' ha) h
      · rw [if_neg hw] at h ⊢
        exact ih l _ h
theorem w_tail {id : Nat} {a : Act} {lops : List Oper} (n : Nat) (hm : P.follows .mixedOrders = true) (hB : Region.lexTailB .any lops.toArray n = true)
    (h : ∀ wd, Evt (fun _ => False) w wd → w.heap.size ≤ wd.heap.size → wpTail P lops.toArray wd Q n lops a) : (Code.region id lops.toArray true).wp P Q a w :=
  wp_region_still_tail n hm hB (wpTail_still n lops a (h _ ⟨rfl, rfl, rfl, Nat.le_refl _, fun _ _ _ => rfl⟩ (Nat.le_refl _)))
theorem t_done {a : Act} (h : wpList P ops Q rest a w) : wpTail P ops w Q 0 rest a := h
theorem t_step (h : Go1 P ⟨some N, op, ty, pos, aft, none⟩ l w (fun v => wpTail P ops w Q n rest ⟨(l.set N v).toArray, ds⟩)) : wpTail P ops w Q (n + 1) (⟨some N, op, ty, pos, aft, none⟩ :: rest) ⟨l.toArray, ds⟩ := by
  obtain ⟨v, hr, h⟩ := h
  unfold wpTail
  rw [if_pos (by simp [Region.wanted])]
  unfold Oper.still
  rw [ev_eq, hr w (Evt.refl _ _), Oper.stillUpon_value]
  simpa [Act.put] using h
theorem t_on {d : Option Tmp} {gi : Nat} {gb : Bool} {a : Act} (hw : Region.wanted ⟨d, op, ty, pos, aft, some (gi, gb)⟩ (yielded ops a.tmps) = true) (h : wpTail P ops w Q (n + 1) (⟨d, op, ty, pos, aft, none⟩ :: rest) a) : wpTail P ops w Q (n + 1) (⟨d, op, ty, pos, aft, some (gi, gb)⟩ :: rest) a := by
  unfold wpTail at h ⊢
  rw [if_pos hw]
  rw [if_pos (by simp [Region.wanted])] at h
  exact h
theorem t_off {gg : Nat × Bool} (hw : Region.wanted ⟨some N, op, ty, pos, aft, some gg⟩ (yielded ops l.toArray) = false) (h : wpTail P ops w Q n rest ⟨(l.set N undef).toArray, ds⟩) : wpTail P ops w Q (n + 1) (⟨some N, op, ty, pos, aft, some gg⟩ :: rest) ⟨l.toArray, ds⟩ := by
  unfold wpTail
  rw [if_neg (by simp [hw])]
  simpa [Act.put] using h
/-- A call in the head that leaves the world as it is. -/
theorem t_call {f : FuncId} {as : Array Operand} {ts : Array TypeId} {args : List Value} (hent : ∀ args w, (callFunc f args).run P w = .ok (.enter f args) w) (hargs : as.toList.map (ev l) = args) {v : Value}
    (hc : Calls P f args.toArray w fun e w' => e = .returned v ∧ w' = w)
    (h : wpTail P ops w Q n rest ⟨(l.set N v).toArray, ds⟩) :
    wpTail P ops w Q (n + 1) (⟨some N, .call { callee := .value (.func f), args := as, argTypes := ts }, ty, pos, aft, none⟩ :: rest) ⟨l.toArray, ds⟩ := by
  unfold wpTail
  rw [if_pos (by simp [Region.wanted])]
  have hrun : (execOp (ev l) ⟨some N, .call { callee := .value (.func f), args := as, argTypes := ts }, ty, pos, aft, none⟩).run P w = .ok (.enter f args.toArray) w := by
    have ha : as.map (ev l) = args.toArray := by rw [← hargs]; apply Array.ext'; simp
    unfold execOp
    simp [resolve, Deferred.ofValue, invoke, ha, hent, ev]
  unfold Oper.still
  rw [ev_eq, hrun]
  exact ⟨rfl, v, hc, by simpa [Act.put] using h⟩
end
section
variable {P : Program} {w : World} {ty : TypeId} {pos : String} {aft : Array Edge} {l : List Value} {d : Option Tmp} {g : Option (Nat × Bool)} {K : Value → Prop}
variable {t u : TypeId} {x y : Operand} {k k2 : IntKind} {a b c : Int}
theorem g_shr32 (hx : ev l x = .int .u64 a) (hy : ev l y = .int k2 32) (h : K (.int .u64 (a / 4294967296))) : Go1 P ⟨d, .binOp .shr t x y u, ty, pos, aft, g⟩ l w K := g_shr 32 4294967296 (by decide) hx hy h
theorem g_shr8 (hx : ev l x = .int .u64 a) (hy : ev l y = .int k2 8) (h : K (.int .u64 (a / 256))) : Go1 P ⟨d, .binOp .shr t x y u, ty, pos, aft, g⟩ l w K := g_shr 8 256 (by decide) hx hy h
theorem g_shr50 (hx : ev l x = .int .u64 a) (hy : ev l y = .int k2 50) (h : K (.int .u64 (a / 1125899906842624))) : Go1 P ⟨d, .binOp .shr t x y u, ty, pos, aft, g⟩ l w K := g_shr 50 1125899906842624 (by decide) hx hy h
theorem g_shr14 (hx : ev l x = .int .u64 a) (hy : ev l y = .int k2 14) (h : K (.int .u64 (a / 16384))) : Go1 P ⟨d, .binOp .shr t x y u, ty, pos, aft, g⟩ l w K := g_shr 14 16384 (by decide) hx hy h
theorem g_shl50 (hx : ev l x = .int .u64 a) (hy : ev l y = .int k2 50) (h : K (.int .u64 (a * 1125899906842624 % 18446744073709551616))) : Go1 P ⟨d, .binOp .shl t x y u, ty, pos, aft, g⟩ l w K := g_shl 50 1125899906842624 (by decide) hx hy (by rw [IntKind.wrap_u64]; exact h)
theorem run_or {a b : Int} (w : World) : (Op.intBits .or .u64 a b).run P w = .ok (.int .u64 (bits .or .u64 a b)) w := by
  simp [Op.intBits, bits, go_sem]
/-- a of 2^50 parts, b below 2^50: laid side by side. -/
theorem g_or50 {h0 : Int} (hx : ev l x = .int .u64 a) (hy : ev l y = .int .u64 b) (ha : a = h0 * 1125899906842624) (h1 : 0 ≤ h0) (h2 : a < 18446744073709551616) (h3 : 0 ≤ b) (h4 : b < 1125899906842624) (h : K (.int .u64 (a + b))) : Go1 P ⟨d, .binOp .or t x y u, ty, pos, aft, g⟩ l w K := by
  refine ⟨_, fun w' _ => ?_, h⟩
  obtain ⟨m, rfl⟩ := Int.eq_ofNat_of_zero_le h1
  obtain ⟨n, rfl⟩ := Int.eq_ofNat_of_zero_le h3
  have hn : n < 2 ^ 50 := by have : (2 : Nat) ^ 50 = 1125899906842624 := by decide
                             omega
  have e := bits_or_u64_nat (2 ^ 50 * m) n (by have : (2 : Nat) ^ 50 = 1125899906842624 := by decide
                                               rw [this]; omega) (by omega)
  have e2 : 2 ^ 50 * m ||| n = 2 ^ 50 * m + n := (Nat.two_pow_add_eq_or_of_lt hn m).symm
  rw [e2] at e
  have e4 : ((2 ^ 50 * m : Nat) : Int) = a := by have : (2 : Nat) ^ 50 = 1125899906842624 := by decide
                                                 rw [this]; omega
  have e3 : bits .or .u64 a (n : Int) = a + n := by
    rw [← e4, e]; rfl
  simp [execOp, hx, hy, go_sem, run_or, e3]
/-- A value that is reckoned of literals alone. -/
theorem g_lit {op : Op} {v : Value} (hr : ∀ w', (execOp (ev l) ⟨d, op, ty, pos, aft, g⟩).run P w' = .ok (.value v) w') (h : K v) : Go1 P ⟨d, op, ty, pos, aft, g⟩ l w K := ⟨v, fun w' _ => hr w', h⟩
/-- The same value by another name. -/
theorem g_as {o : Oper} {a' : Int} (h : Go1 P o l w fun v => ∃ b, v = .int k b ∧ b = a' ∧ K (.int k a')) : Go1 P o l w K := by
  obtain ⟨v, hr, b, rfl, rfl, hk⟩ := h
  exact ⟨_, hr, hk⟩
theorem g_convU {s t : TypeId} {k : IntKind} (hx : ev l x = .int k2 a) [hs : TInt P s k] [ht : TInt P t .u64] (h0 : 0 ≤ a) (h1 : a < 18446744073709551616) (h : K (.int .u64 a)) : Go1 P ⟨d, .convert s t x, ty, pos, aft, g⟩ l w K :=
  g_convInt hx (by rw [wrapU_in h0 h1]; exact h)
theorem g_convI {s t : TypeId} {k : IntKind} (hx : ev l x = .int k2 a) [hs : TInt P s k] [ht : TInt P t .i64] (h0 : -9223372036854775808 ≤ a) (h1 : a ≤ 9223372036854775807) (h : K (.int .i64 a)) : Go1 P ⟨d, .convert s t x, ty, pos, aft, g⟩ l w K :=
  g_convInt hx (by rw [IntWalk.i64_in _ (by omega)]; exact h)
theorem g_quoI (hx : ev l x = .int .i64 a) (hy : ev l y = .int .i64 b) (h0 : 0 ≤ a) (h1 : a ≤ 9223372036854775807) (hb : 0 < b) (h : K (.int .i64 (a / b))) : Go1 P ⟨d, .binOp .quo t x y u, ty, pos, aft, g⟩ l w K := by
  have e1 : a.tdiv b = a / b := Int.tdiv_eq_ediv_of_nonneg h0
  have e2 : 0 ≤ a / b := Int.ediv_nonneg h0 (by omega)
  have e3 : a / b ≤ a := Int.ediv_le_self b h0
  exact g_quo hx hy (by omega) (by rw [e1, IntWalk.i64_in _ (by omega)]; exact h)
theorem g_quoU (hx : ev l x = .int .u64 a) (hy : ev l y = .int .u64 b) (h0 : 0 ≤ a) (h1 : a < 18446744073709551616) (hb : 0 < b) (h : K (.int .u64 (a / b))) : Go1 P ⟨d, .binOp .quo t x y u, ty, pos, aft, g⟩ l w K := by
  have e1 : a.tdiv b = a / b := Int.tdiv_eq_ediv_of_nonneg h0
  have e2 : 0 ≤ a / b := Int.ediv_nonneg h0 (by omega)
  have e3 : a / b ≤ a := Int.ediv_le_self b h0
  exact g_quo hx hy (by omega) (by rw [e1, wrapU_in e2 (by omega)]; exact h)
theorem g_remN (hx : ev l x = .int k a) (hy : ev l y = .int k b) (h0 : 0 ≤ a) (hb : 0 < b) (h : K (.int k (a % b))) : Go1 P ⟨d, .binOp .rem t x y u, ty, pos, aft, g⟩ l w K := by
  have e1 : a.tmod b = a % b := Int.tmod_eq_emod_of_nonneg h0
  exact g_rem hx hy (by omega) (by rw [e1]; exact h)
theorem g_eqlBTT (hx : ev l x = .bool true) (hy : ev l y = .bool true) [ht : TBool P t] (h : K (.bool true)) : Go1 P ⟨d, .binOp .eql t x y u, ty, pos, aft, g⟩ l w K := g_eqlB hx hy (fun _ => h) (fun c => absurd rfl c)
theorem g_eqlBTF (hx : ev l x = .bool true) (hy : ev l y = .bool false) [ht : TBool P t] (h : K (.bool false)) : Go1 P ⟨d, .binOp .eql t x y u, ty, pos, aft, g⟩ l w K := g_eqlB hx hy (fun c => by cases c) (fun _ => h)
theorem g_eqlBFT (hx : ev l x = .bool false) (hy : ev l y = .bool true) [ht : TBool P t] (h : K (.bool false)) : Go1 P ⟨d, .binOp .eql t x y u, ty, pos, aft, g⟩ l w K := g_eqlB hx hy (fun c => by cases c) (fun _ => h)
theorem g_eqlBFF (hx : ev l x = .bool false) (hy : ev l y = .bool false) [ht : TBool P t] (h : K (.bool true)) : Go1 P ⟨d, .binOp .eql t x y u, ty, pos, aft, g⟩ l w K := g_eqlB hx hy (fun _ => h) (fun c => absurd rfl c)
theorem g_neqBTT (hx : ev l x = .bool true) (hy : ev l y = .bool true) [ht : TBool P t] (h : K (.bool false)) : Go1 P ⟨d, .binOp .neq t x y u, ty, pos, aft, g⟩ l w K := g_neqB hx hy (fun c => absurd rfl c) (fun _ => h)
theorem g_neqBTF (hx : ev l x = .bool true) (hy : ev l y = .bool false) [ht : TBool P t] (h : K (.bool true)) : Go1 P ⟨d, .binOp .neq t x y u, ty, pos, aft, g⟩ l w K := g_neqB hx hy (fun _ => h) (fun c => by cases c)
theorem g_neqBFT (hx : ev l x = .bool false) (hy : ev l y = .bool true) [ht : TBool P t] (h : K (.bool true)) : Go1 P ⟨d, .binOp .neq t x y u, ty, pos, aft, g⟩ l w K := g_neqB hx hy (fun _ => h) (fun c => by cases c)
theorem g_neqBFF (hx : ev l x = .bool false) (hy : ev l y = .bool false) [ht : TBool P t] (h : K (.bool false)) : Go1 P ⟨d, .binOp .neq t x y u, ty, pos, aft, g⟩ l w K := g_neqB hx hy (fun c => absurd rfl c) (fun _ => h)
end
/-! what is known of an elder world, of a later one: the steps between are found by themselves -/
theorem be {S : Nat → Prop} {w w' : World} {g : Nat} {t : TypeId} {cs : List Value} (he : Evt S w w' := by assumption) (h : Blk w g t cs) (hs : ¬ S g := by first | exact id | omega | assumption) : Blk w' g t cs := h.evt he hs
theorem ce {S : Nat → Prop} {w w' : World} {a : Addr} {v : Value} (he : Evt S w w' := by assumption) (h : w.cell? a = some v) (hs : ¬ S a.block := by first | exact id | (simp only []; omega) | omega | assumption) : w'.cell? a = some v := cell_evt he h hs
theorem oe {S : Nat → Prop} {w w' : World} {e : TypeId} {sz n : Nat} {v : Value} {xs : List Value} (he : Evt S w w' := by assumption) (h : w.ownsRow 0 e sz v n xs) (hs : ∀ k, v.ownBlock = some k → ¬ S k := by first | exact fun _ _ h => h | assumption) : w'.ownsRow 0 e sz v n xs := own_evt he h hs
/-! short names of what the walk's frames are brought to form by -/
/-! the same, as deep as it takes: short to write -/
theorem en {S T : Nat → Prop} {a b c : World} (he : Evt S b c := by assumption) (h : Evt T a b) (hs : ∀ i, i < a.heap.size → S i → T i := by first | exact fun _ _ h => h | exact fun _ _ h => False.elim h | exact fun _ _ h => Or.inl h | exact fun _ _ h => Or.inr h | exact fun _ _ h => Or.inr (Or.inl h) | exact fun _ _ h => Or.inr (Or.inr h) | (intro i hi h; exfalso; have h' : i = _ := h; omega) | (intro i hi h; exfalso; have h' := hlb i h; omega)) : Evt T a c := Evt.next he h hs
theorem bqq {w : World} {g : Nat} {t : TypeId} {cs : List Value} (h : Blk w g t cs := by first | assumption | exact be (h := by first | assumption | exact be (h := by first | assumption | exact be (h := by first | assumption | exact be (h := by first | assumption | exact be (h := by first | assumption | exact be (h := by first | assumption | exact be (h := by first | assumption | exact be (h := by first | assumption | exact be (h := by first | assumption | exact be (h := by first | assumption | exact be (h := by first | assumption | exact be (h := by first | assumption | exact be (h := by first | assumption | exact be (h := by first | assumption))))))))))))))) : Blk w g t cs := h
theorem cqq {w : World} {a : Addr} {v : Value} (h : w.cell? a = some v := by first | assumption | exact ce (h := by first | assumption | exact ce (h := by first | assumption | exact ce (h := by first | assumption | exact ce (h := by first | assumption | exact ce (h := by first | assumption | exact ce (h := by first | assumption | exact ce (h := by first | assumption | exact ce (h := by first | assumption | exact ce (h := by first | assumption | exact ce (h := by first | assumption | exact ce (h := by first | assumption | exact ce (h := by first | assumption | exact ce (h := by first | assumption | exact ce (h := by first | assumption))))))))))))))) : w.cell? a = some v := h
theorem oqq {w : World} {e : TypeId} {sz n : Nat} {v : Value} {xs : List Value} (h : w.ownsRow 0 e sz v n xs := by first | assumption | exact oe (h := by first | assumption | exact oe (h := by first | assumption | exact oe (h := by first | assumption | exact oe (h := by first | assumption | exact oe (h := by first | assumption | exact oe (h := by first | assumption | exact oe (h := by first | assumption) (hs := by first | exact fun _ _ h => h | assumption | (intro k hk hg; have h1 := hnewO k hk; have h2 := hltO k hk; have h3 : k = _ := hg; omega))) (hs := by first | exact fun _ _ h => h | assumption | (intro k hk hg; have h1 := hnewO k hk; have h2 := hltO k hk; have h3 : k = _ := hg; omega))) (hs := by first | exact fun _ _ h => h | assumption | (intro k hk hg; have h1 := hnewO k hk; have h2 := hltO k hk; have h3 : k = _ := hg; omega))) (hs := by first | exact fun _ _ h => h | assumption | (intro k hk hg; have h1 := hnewO k hk; have h2 := hltO k hk; have h3 : k = _ := hg; omega))) (hs := by first | exact fun _ _ h => h | assumption | (intro k hk hg; have h1 := hnewO k hk; have h2 := hltO k hk; have h3 : k = _ := hg; omega))) (hs := by first | exact fun _ _ h => h | assumption | (intro k hk hg; have h1 := hnewO k hk; have h2 := hltO k hk; have h3 : k = _ := hg; omega))) (hs := by first | exact fun _ _ h => h | assumption | (intro k hk hg; have h1 := hnewO k hk; have h2 := hltO k hk; have h3 : k = _ := hg; omega))) : w.ownsRow 0 e sz v n xs := h
theorem eqq {S : Nat → Prop} {w w' : World} (h : Evt S w w' := by first | assumption | exact Evt.refl _ _ | exact en (h := by first | assumption | exact Evt.refl _ _ | exact en (h := by first | assumption | exact Evt.refl _ _ | exact en (h := by first | assumption | exact Evt.refl _ _ | exact en (h := by first | assumption | exact Evt.refl _ _ | exact en (h := by first | assumption | exact Evt.refl _ _ | exact en (h := by first | assumption | exact Evt.refl _ _ | exact en (h := by first | assumption | exact Evt.refl _ _ | exact en (h := by first | assumption | exact Evt.refl _ _ | exact en (h := by first | assumption | exact Evt.refl _ _ | exact en (h := by first | assumption | exact Evt.refl _ _ | exact en (h := by first | assumption | exact Evt.refl _ _ | exact en (h := by first | assumption | exact Evt.refl _ _ | exact en (h := by first | assumption | exact Evt.refl _ _ | exact en (h := by first | assumption | exact Evt.refl _ _ | exact en (h := by first | assumption | exact Evt.refl _ _ | exact en (h := by first | assumption | exact Evt.refl _ _ | exact en (h := by first | assumption | exact Evt.refl _ _ | exact en (h := by first | assumption | exact Evt.refl _ _ | exact en (h := by first | assumption | exact Evt.refl _ _ | exact en (h := by first | assumption | exact Evt.refl _ _ | exact en (h := by first | assumption | exact Evt.refl _ _ | exact en (h := by first | assumption | exact Evt.refl _ _ | exact en (h := by first | assumption | exact Evt.refl _ _ | exact en (h := by first | assumption | exact Evt.refl _ _))))))))))))))))))))))))) : Evt S w w' := h
theorem zA {α : Type} (a : α) (l : List α) (i : Nat) (x : α) : (a :: l).set (i + 1) x = a :: l.set i x := rfl
theorem zB {α : Type} (a : α) (l : List α) (x : α) : (a :: l).set 0 x = x :: l := rfl
theorem zC {α β : Type} (f : α → β) (a : α) (l : List α) : (a :: l).map f = f a :: l.map f := rfl
theorem zD {α β : Type} (f : α → β) : ([] : List α).map f = [] := rfl
theorem zE {α : Type} (l : List α) : l.drop 0 = l := rfl
theorem zF {α : Type} (a : α) (l : List α) (i : Nat) : (a :: l).drop (i + 1) = l.drop i := rfl
theorem zG {α : Type} (l : List α) : l.take 0 = [] := rfl
theorem zH {α : Type} (a : α) (l : List α) (i : Nat) : (a :: l).take (i + 1) = a :: l.take i := rfl
theorem zI (n : Nat) : (n : Int).toNat = n := rfl
theorem zJ : Int.toNat 0 = 0 := rfl
theorem zK (n : Nat) : n * 1 = n := Nat.mul_one n
theorem zL (n : Nat) : 0 * n = 0 := Nat.zero_mul n
theorem zM (n : Nat) : 0 + n = n := Nat.zero_add n
theorem zN (n : Nat) : n + 0 = n := rfl
theorem zO : Int.toNat 1 = 1 := rfl
/-- A cut behind a statement: the listed slots are those that it writes. -/
theorem s_cut {P : Program} {Q : Exit → Act → World → Prop} {l : List Value} {ds : List Deferred} {w : World} {id : Nat} {ops : Array Oper} {dr : Bool} {c c2 : Code} (W : List Nat) (J : (Nat → Value) → World → Prop)
    (h1 : ((Code.region id ops dr).seq c).wp P (Exit.then (fun a w' => ∃ l', a = ⟨l'.toArray, ds⟩ ∧ setW l' W (fun _ => undef) = setW l W (fun _ => undef) ∧ J (lget l') w') Q) ⟨l.toArray, ds⟩ w)
    (h2 : ∀ u w', J u w' → c2.wp P Q ⟨(setW l W u).toArray, ds⟩ w') : (((Code.region id ops dr).seq c).seq c2).wp P Q ⟨l.toArray, ds⟩ w := by
  refine wp_seq (wp_mono h1 ?_)
  intro e a w' hq
  cases e with
  | normal =>
    obtain ⟨l', rfl, hs, hJ⟩ := hq
    have hl' : setW l W (lget l') = l' := by rw [← setW_over W (lget l') (fun _ => undef) l, ← hs, setW_over, setW_self]
    have := h2 _ _ hJ
    rw [hl'] at this
    exact this
  | _ => exact hq
end Go.Proofs.YtchfkkliechgoaaE
