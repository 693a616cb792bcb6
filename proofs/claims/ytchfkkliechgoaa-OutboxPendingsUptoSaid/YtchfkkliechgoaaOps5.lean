/- Regions that draw their order and hold several stores, in a chain: one walk in the text's order serves every order. -/
import Derived.Test.YtchfkkliechgoaaOps4
namespace Go.Proofs.YtchfkkliechgoaaE
open Go Go.RowKit
set_option linter.unusedSimpArgs false
set_option linter.unusedVariables false

def isSt (o : Oper) : Bool := match o.op with | .store _ _ _ => true | _ => false
/-- Each store waits for each store ahead of it. -/
def chainStB (md : Region.Mode) (ops : Array Oper) : Bool := (List.range ops.size).all fun j => (List.range j).all fun i => match ops[i]?, ops[j]? with
  | some oi, some oj => !(isSt oi && isSt oj) || oj.after.any fun e => Region.binds md e && e.on == i
  | _, _ => true
theorem chainSt_spec {md : Region.Mode} {ops : Array Oper} (h : chainStB md ops = true) {i j : Nat} {oi oj : Oper} (hi : ops[i]? = some oi) (hj : ops[j]? = some oj) (hij : i < j) (si : isSt oi = true) (sj : isSt oj = true) :
    ∃ e ∈ oj.after, Region.binds md e = true ∧ e.on = i := by
  have hjs : j < ops.size := (Array.getElem?_eq_some_iff.1 hj).1
  unfold chainStB at h
  have h1 := List.all_eq_true.1 h j (List.mem_range.2 hjs)
  have h2 := List.all_eq_true.1 h1 i (List.mem_range.2 hij)
  rw [hi, hj] at h2
  simp only [si, sj, Bool.and_self, Bool.not_true, Bool.false_or, Array.any_eq_true'] at h2
  obtain ⟨e, he, hb⟩ := h2
  simp only [Bool.and_eq_true, beq_iff_eq] at hb
  exact ⟨e, he, hb.1, hb.2⟩

section
variable {P : Program} {ops : Array Oper} {md : Region.Mode} {C : Nat → World → Prop}
/-- A store, carried out where so many are done. -/
def StAt (P : Program) (C : Nat → World → Prop) (o : Oper) (m : Nat) (a : Act) : Prop := ∀ w, C m w → ∃ w', (execOp a.eval o).run P w = .ok .skip w' ∧ C (m + 1) w'
/-- What an operation that only reads yields, wherever one is. -/
def PuAt (P : Program) (C : Nat → World → Prop) (o : Oper) (v : Value) (a : Act) : Prop := ∀ n w, C n w → o.quietAt P a (C n) w v
def wpEff (P : Program) (ops : Array Oper) (C : Nat → World → Prop) (Q : Nat → Act → Prop) : List Oper → Nat → Act → Prop
  | [], m, a => Q m a
  | o :: rest, m, a => if Region.wanted o (yielded ops a.tmps) = true then
      (if isSt o = true then StAt P C o m a ∧ wpEff P ops C Q rest (m + 1) (a.put o.dst undef) else ∃ v, PuAt P C o v a ∧ wpEff P ops C Q rest m (a.put o.dst v))
    else wpEff P ops C Q rest m (a.put o.dst undef)
def eOp (P : Program) (ops : Array Oper) (C : Nat → World → Prop) (i : Nat) (K : Nat → Act → Prop) (m : Nat) (a : Act) : Prop :=
  match ops[i]? with
  | none => K m a
  | some o => if Region.wanted o (yielded ops a.tmps) = true then
      (if isSt o = true then StAt P C o m a ∧ K (m + 1) (a.put o.dst undef) else ∃ v, PuAt P C o v a ∧ K m (a.put o.dst v))
    else K m (a.put o.dst undef)
theorem eOp_mono {i : Nat} {m : Nat} {a : Act} {K K' : Nat → Act → Prop} (h : ∀ m a, K m a → K' m a) (hh : eOp P ops C i K m a) : eOp P ops C i K' m a := by
  unfold eOp at *
  split
  · rename_i ho; simp only [ho] at hh; exact h _ _ hh
  · rename_i o ho
    simp only [ho] at hh
    split
    · rename_i hw
      rw [if_pos hw] at hh
      split
      · rename_i hs; rw [if_pos hs] at hh; exact ⟨hh.1, h _ _ hh.2⟩
      · rename_i hs; rw [if_neg hs] at hh; obtain ⟨v, h1, h2⟩ := hh; exact ⟨v, h1, h _ _ h2⟩
    · rename_i hw; rw [if_neg hw] at hh; exact h _ _ hh
def wpAnyE (P : Program) (md : Region.Mode) (ops : Array Oper) (C : Nat → World → Prop) (Q : Nat → Act → Prop) : Nat → Array Bool → Nat → Act → Prop
  | 0, listed, m, a => Region.ready md ops listed = [] ∧ Q m a
  | fuel + 1, listed, m, a => (Region.ready md ops listed = [] → Q m a) ∧ ∀ i ∈ Region.ready md ops listed, eOp P ops C i (fun m' a' => wpAnyE P md ops C Q fuel (listed.setIfInBounds i true) m' a') m a
theorem wp_of_pure {o : Oper} {a : Act} {n : Nat} {v : Value} {K' : Act → World → Prop} {Q' : Exit → Act → World → Prop} {w : World} (hw : C n w) (hp : PuAt P C o v a) (h : ∀ w', C n w' → K' (a.put o.dst v) w') : o.wp P a w K' Q' := by
  have h3 := hp n w hw
  unfold Oper.quietAt at h3
  unfold Oper.wp
  generalize (execOp a.eval o).run P w = r at *
  cases r with
  | ok x w' =>
    cases x <;> simp only [Oper.quietUpon] at h3 <;> simp only [Oper.upon]
    case value u => obtain ⟨e1, e2⟩ := h3; rw [e1, e2]; exact h _ hw
    case skip => obtain ⟨e1, e2⟩ := h3; rw [e1, ← e2]; exact h _ hw
    case enter f args => obtain ⟨e1, hc⟩ := h3; rw [e1]; exact hc.mono fun e w'' ⟨he, hw''⟩ => by subst he; exact h _ hw''
  | halt x w' => simp only [Oper.quietUpon] at h3
theorem wp_of_st {o : Oper} {a : Act} {n : Nat} {K' : Act → World → Prop} {Q' : Exit → Act → World → Prop} {w : World} (hw : C n w) (hp : StAt P C o n a) (h : ∀ w', C (n + 1) w' → K' (a.put o.dst undef) w') : o.wp P a w K' Q' := by
  obtain ⟨w', hr, hc⟩ := hp w hw
  unfold Oper.wp
  rw [hr]
  simp only [Oper.upon]
  exact h _ hc
theorem wpOp_of_eOp {i n : Nat} {a : Act} {K : Nat → Act → Prop} {K' : Act → World → Prop} {Q' : Exit → Act → World → Prop} {w : World} (hC : C n w) (h : ∀ m a w', C m w' → K m a → K' a w') (hh : eOp P ops C i K n a) : wpOp P ops Q' i K' a w := by
  unfold eOp at hh
  unfold wpOp
  split
  · rename_i ho; simp only [ho] at hh; exact h _ _ _ hC hh
  · rename_i o ho
    simp only [ho] at hh
    split
    · rename_i hw
      rw [if_pos hw] at hh
      by_cases hs : isSt o = true
      · rw [if_pos hs] at hh; exact .inl (wp_of_st hC hh.1 fun w' hw' => h _ _ _ hw' hh.2)
      · rw [if_neg hs] at hh; obtain ⟨v, h1, h2⟩ := hh; exact .inl (wp_of_pure hC h1 fun w' hw' => h _ _ _ hw' h2)
    · rename_i hw; rw [if_neg hw] at hh; exact h _ _ _ hC hh
theorem wpAny_of_eff {Q : Nat → Act → Prop} {Q' : Exit → Act → World → Prop} (hQ : ∀ m a w, C m w → Q m a → Q' .normal a w) : ∀ (fuel : Nat) (listed : Array Bool) (m : Nat) (a : Act) (w : World), C m w →
    wpAnyE P md ops C Q fuel listed m a → wpAny P md ops Q' fuel listed a w
  | 0, _, _, _, _, hw, h => ⟨h.1, hQ _ _ _ hw h.2⟩
  | fuel + 1, _, _, _, _, hw, h => ⟨fun h0 => hQ _ _ _ hw (h.1 h0), fun i hi => wpOp_of_eOp hw (fun m' a' w' hw' => wpAny_of_eff hQ fuel _ m' a' w' hw') (h.2 i hi)⟩

/-- How an operation stands in a state: what it leaves, and how many stores are done behind it. -/
def StandsE (P : Program) (ops : Array Oper) (C : Nat → World → Prop) (o : Oper) (v : Value) (d : Nat) (m : Nat) (a : Act) : Prop :=
  (Region.wanted o (yielded ops a.tmps) = true ∧ isSt o = true ∧ v = undef ∧ d = 1 ∧ StAt P C o m a) ∨
  (Region.wanted o (yielded ops a.tmps) = true ∧ isSt o = false ∧ d = 0 ∧ PuAt P C o v a) ∨
  (Region.wanted o (yielded ops a.tmps) = false ∧ v = undef ∧ d = 0)
theorem StandsE.eOp {i : Nat} {o : Oper} {v : Value} {d m : Nat} {a : Act} (hi : ops[i]? = some o) (hy : StandsE P ops C o v d m a) {K : Nat → Act → Prop} (h : K (m + d) (a.put o.dst v)) : eOp P ops C i K m a := by
  unfold Go.Proofs.YtchfkkliechgoaaE.eOp
  simp only [hi]
  rcases hy with ⟨hw, hs, rfl, rfl, hv⟩ | ⟨hw, hs, rfl, hv⟩ | ⟨hw, rfl, rfl⟩
  · rw [if_pos hw, if_pos hs]; exact ⟨hv, h⟩
  · rw [if_pos hw, if_neg (by simp [hs])]; exact ⟨v, hv, h⟩
  · rw [if_neg (by simp [hw])]; exact h
theorem stands_of_eOp {i : Nat} {o : Oper} {m : Nat} {a : Act} {K : Nat → Act → Prop} (hi : ops[i]? = some o) (h : eOp P ops C i K m a) : ∃ v d, StandsE P ops C o v d m a ∧ K (m + d) (a.put o.dst v) := by
  unfold eOp at h
  simp only [hi] at h
  by_cases hw : Region.wanted o (yielded ops a.tmps) = true
  · rw [if_pos hw] at h
    by_cases hs : isSt o = true
    · rw [if_pos hs] at h; exact ⟨undef, 1, .inl ⟨hw, hs, rfl, rfl, h.1⟩, h.2⟩
    · rw [if_neg hs] at h; obtain ⟨v, h1, h2⟩ := h; exact ⟨v, 0, .inr (.inl ⟨hw, by simpa using hs, rfl, h1⟩), h2⟩
  · rw [if_neg hw] at h; exact ⟨undef, 0, .inr (.inr ⟨by simpa using hw, rfl, rfl⟩), h⟩
theorem StandsE.same {o : Oper} {v : Value} {d m : Nat} {a a' : Act} (hy : StandsE P ops C o v d m a) (he : execOp a'.eval o = execOp a.eval o) (hw : Region.wanted o (yielded ops a'.tmps) = Region.wanted o (yielded ops a.tmps)) : StandsE P ops C o v d m a' := by
  unfold StandsE StAt PuAt Oper.quietAt at *
  rw [he, hw]
  exact hy
/-- What is no store stands as it did, however many stores are done. -/
theorem StandsE.any {o : Oper} {v : Value} {d m m' : Nat} {a : Act} (hy : StandsE P ops C o v d m a) (hd : d = 0) : StandsE P ops C o v d m' a := by
  rcases hy with ⟨_, _, _, h, _⟩ | h | h
  · omega
  · exact .inr (.inl h)
  · exact .inr (.inr h)
theorem eOp_put {j : Nat} {oi oj : Oper} {v : Value} {d : Nat} (hj : ops[j]? = some oj) (hap : oi.apart ops oj = true) (hst : ¬ (isSt oi = true ∧ isSt oj = true))
    (hsi : ∀ cs b, oi.op ≠ .select cs b) (hsj : ∀ cs b, oj.op ≠ .select cs b) {K : Nat → Act → Prop} {m : Nat} {a : Act}
    (hy : StandsE P ops C oi v d m a) (h : eOp P ops C j K (m + d) (a.put oi.dst v)) :
    eOp P ops C j (fun m' a' => StandsE P ops C oi v d m' a' ∧ K (m' + d) (a'.put oi.dst v)) m a := by
  obtain ⟨h1, h2, h3⟩ := Oper.apart_spec hap
  have keep : ∀ u, StandsE P ops C oi v d m (a.put oj.dst u) := fun u => hy.same (execOp_put oi hsi a oj.dst u h3) (wanted_put oi a oj.dst u h3)
  obtain ⟨u, d', hu, hn⟩ := stands_of_eOp hj h
  have hu' : StandsE P ops C oj u d' (m + d) a := hu.same (execOp_put oj hsj a oi.dst v h1).symm (wanted_put oj a oi.dst v h1).symm
  rw [Act.put_comm a v u h2] at hn
  rcases hu' with ⟨hw, hs, rfl, rfl, hv⟩ | hp | hp
  · -- the other is a store: this one is none
    have hns : isSt oi = false := by
      cases hs' : isSt oi with
      | false => rfl
      | true => exact absurd ⟨hs', hs⟩ hst
    have hd : d = 0 := by
      rcases hy with ⟨_, h', _⟩ | ⟨_, _, h', _⟩ | ⟨_, _, h'⟩
      · rw [hns] at h'; cases h'
      · exact h'
      · exact h'
    subst hd
    exact StandsE.eOp hj (.inl ⟨hw, hs, rfl, rfl, hv⟩) ⟨(keep _).any rfl, hn⟩
  · obtain ⟨hw, hs, rfl, hv⟩ := hp
    exact StandsE.eOp hj (.inr (.inl ⟨hw, hs, rfl, hv⟩)) ⟨keep _, hn⟩
  · obtain ⟨hw, rfl, rfl⟩ := hp
    exact StandsE.eOp hj (.inr (.inr ⟨hw, rfl, rfl⟩)) ⟨keep _, hn⟩
theorem wpAnyE_first {Q : Nat → Act → Prop} {i : Nat} {oi : Oper} {v : Value} {d : Nat} (hi : ops[i]? = some oi) (hsel : ∀ (j : Nat) (o : Oper) cs b, ops[j]? = some o → o.op ≠ .select cs b) :
    ∀ (fuel : Nat) (listed : Array Bool) (m : Nat) (a : Act),
      (∀ j oj, ops[j]? = some oj → j ≠ i → listed.getD j true = false → (∀ e ∈ oj.after, Region.binds md e = true → e.on ≠ i) → oi.apart ops oj = true ∧ ¬ (isSt oi = true ∧ isSt oj = true)) →
      i ∈ Region.ready md ops listed → StandsE P ops C oi v d m a →
      wpAnyE P md ops C Q fuel (listed.setIfInBounds i true) (m + d) (a.put oi.dst v) → wpAnyE P md ops C Q (fuel + 1) listed m a := by
  intro fuel
  induction fuel with
  | zero =>
    intro listed m a _ hr hy H
    refine ⟨fun h => (by rw [h] at hr; cases hr), fun j hj => ?_⟩
    by_cases hji : j = i
    · subst hji; exact hy.eOp hi H
    · have := ready_mono hj hji
      rw [H.1] at this
      cases this
  | succ fuel ih =>
    intro listed m a hfree hr hy H
    refine ⟨fun h => (by rw [h] at hr; cases hr), fun j hj => ?_⟩
    by_cases hji : j = i
    · subst hji; exact hy.eOp hi H
    · have h1 := H.2 j (ready_mono hj hji)
      obtain ⟨hjun, oj, hoj, hall⟩ := mem_ready.1 hj
      have hnot : ∀ e ∈ oj.after, Region.binds md e = true → e.on ≠ i := fun e he hb heq => by
        have h1 := hall e he hb
        have h0 := (mem_ready.1 hr).1
        rw [heq] at h1
        rcases Nat.lt_or_ge i listed.size with h' | h'
        · simp [h'] at h0 h1; rw [h0] at h1; cases h1
        · simp [Array.getElem?_eq_none h'] at h1
      obtain ⟨hap, hst⟩ := hfree j oj hoj hji hjun hnot
      have h2 := eOp_put hoj hap hst (fun cs b => hsel i oi cs b hi) (fun cs b => hsel j oj cs b hoj) hy h1
      have hfree' : ∀ k ok, ops[k]? = some ok → k ≠ i → (listed.setIfInBounds j true).getD k true = false →
          (∀ e ∈ ok.after, Region.binds md e = true → e.on ≠ i) → oi.apart ops ok = true ∧ ¬ (isSt oi = true ∧ isSt ok = true) := fun k ok hk hki hun hno => by
        refine hfree k ok hk hki ?_ hno
        by_cases hjk : j = k
        · subst hjk; exact hjun
        · rw [getD_set_ne true hjk] at hun; exact hun
      refine eOp_mono (fun m' a' h3 => ih (listed.setIfInBounds j true) m' a' hfree' (ready_mono hr (Ne.symm hji)) h3.1 ?_) h2
      rw [Array.setIfInBounds_comm _ _ hji]
      exact h3.2
theorem wpAnyE_lex {Q : Nat → Act → Prop} (hs : Region.noSelect ops = true) (hch : chainStB md ops = true) : ∀ (l : List Oper) (k : Nat) (listed : Array Bool) (m : Nat) (a : Act), (∀ j, l[j]? = ops[k + j]?) → (∀ j, j < k → listed.getD j true = true) →
    Region.lexFrom md ops l.length k listed = true → wpEff P ops C Q l m a → wpAnyE P md ops C Q l.length listed m a
  | [], _, _, _, _, _, _, hB, h => ⟨by simpa [Region.lexFrom] using hB, h⟩
  | o :: l, k, listed, m, a, hl, hlow, hB, h => by
    have h0 : ops[k]? = some o := by simpa using (hl 0).symm
    simp only [List.length_cons, Region.lexFrom, Bool.and_eq_true] at hB
    obtain ⟨⟨hr, hf⟩, hB'⟩ := hB
    have hst : eOp P ops C k (fun m' a' => wpEff P ops C Q l m' a') m a := by unfold eOp; simp only [h0]; exact h
    obtain ⟨v, d, hy, hK⟩ := stands_of_eOp h0 hst
    have hr' : k ∈ Region.ready md ops listed := by simpa using hr
    refine wpAnyE_first h0 (Region.noSelect_spec hs) l.length listed m a ?_ hr' hy
      (wpAnyE_lex hs hch l (k + 1) _ _ _ (fun j => by have := hl (j + 1); simpa [Nat.add_assoc, Nat.add_comm 1 j] using this) ?_ hB' hK)
    · intro j oj hj hjk hun hno
      refine ⟨Region.free_spec h0 hf j oj hj hjk hun hno, fun ⟨s1, s2⟩ => ?_⟩
      rcases Nat.lt_or_gt_of_ne hjk with hlt | hgt
      · rw [hlow j hlt] at hun; cases hun
      · obtain ⟨e, he, hb, hon⟩ := chainSt_spec hch h0 hj hgt s1 s2
        exact hno e he hb hon
    · intro j hj
      by_cases hjk : j = k
      · subst hjk
        rcases Nat.lt_or_ge j listed.size with h' | h'
        · simp [h']
        · simp [Array.getElem?_eq_none, h']
      · rw [getD_set_ne true (Ne.symm hjk)]
        exact hlow j (by omega)
/-- One walk in the text's order. C: what the worlds are behind so many of the stores. -/
theorem w_eff {id : Nat} {Q : Exit → Act → World → Prop} {a : Act} {w : World} {lops : List Oper} (C : Nat → World → Prop) (hm : P.follows .mixedOrders = true) (hB : Region.lexB .any lops.toArray = true) (hch : chainStB .any lops.toArray = true) (hC : ∀ w', Evt (fun _ => False) w w' → C 0 w')
    (h : wpEff P lops.toArray C (fun m a' => ∀ w', C m w' → Q .normal a' w') lops 0 a) : (Code.region id lops.toArray true).wp P Q a w := by
  simp only [Region.lexB, Bool.and_eq_true] at hB
  refine wp_region_any hm (wpAny_of_eff (C := C) (Q := fun m a' => ∀ w', C m w' → Q .normal a' w') (fun _ _ w' hw' h => h w' hw') _ _ _ _ _ (hC _ ⟨rfl, rfl, rfl, Nat.le_refl _, fun _ _ _ => rfl⟩) ?_)
  have := wpAnyE_lex (C := C) (md := .any) hB.1 hch lops 0 (Array.replicate lops.toArray.size false) 0 a (by simp) (by intro j hj; omega) (by simpa using hB.2) h
  simpa using this
end
/-! stores into one block -/
def EffC (w : World) (g : Nat) (t : TypeId) (L : List (List Value)) : Nat → World → Prop := fun n w' => Evt (fun i => i = g) w w' ∧ ∃ cs, L[n]? = some cs ∧ Blk w' g t cs
section
variable {P : Program} {ops : Array Oper} {rest : List Oper} {w : World} {C : Nat → World → Prop} {R : Nat → Act → Prop} {ty : TypeId} {pos : String} {aft : Array Edge} {l : List Value} {ds : List Deferred} {N : Tmp} {op : Op} {m : Nat}
theorem w_effS {id : Nat} {Q : Exit → Act → World → Prop} {a : Act} {lops : List Oper} (g : Nat) (t : TypeId) (L : List (List Value)) {cs : List Value} (hm : P.follows .mixedOrders = true) (hB : Region.lexB .any lops.toArray = true) (hch : chainStB .any lops.toArray = true) (hb : Blk w g t cs) (hL : L[0]? = some cs)
    (h : wpEff P lops.toArray (EffC w g t L) (fun m a' => ∀ w', EffC w g t L m w' → Q .normal a' w') lops 0 a) : (Code.region id lops.toArray true).wp P Q a w :=
  w_eff (EffC w g t L) hm hB hch (fun w' he => ⟨he.mono fun _ _ h => h.elim, cs, hL, hb.evt he (fun h => h)⟩) h
theorem x_pure {v : Value} (hs : isSt ⟨some N, op, ty, pos, aft, none⟩ = false) (hv : ∀ n w', C n w' → Go1 P ⟨some N, op, ty, pos, aft, none⟩ l w' (fun u => u = v)) (h : wpEff P ops C R rest m ⟨(l.set N v).toArray, ds⟩) : wpEff P ops C R (⟨some N, op, ty, pos, aft, none⟩ :: rest) m ⟨l.toArray, ds⟩ := by
  unfold wpEff
  rw [if_pos (by simp [Region.wanted]), if_neg (by simp [hs])]
  refine ⟨v, fun n w' hC => ?_, by simpa [Act.put] using h⟩
  obtain ⟨u, hr, rfl⟩ := hv n w' hC
  unfold Oper.quietAt
  rw [ev_eq, hr w' (Evt.refl _ _)]
  exact ⟨rfl, rfl⟩
theorem x_store {g : Nat} {t t' : TypeId} {L : List (List Value)} {x y : Operand} {o : Nat} {cs cs' : List Value} {v : Value} (hx : ev l x = .pointer (some ⟨g, o, none⟩)) (hy : ev l y = v) (hv : v.cells = #[v]) (hv' : v.oneCell' = true) [ht : TScal P t] (hL : L[m]? = some cs) (hL' : L[m + 1]? = some cs') (ho : o < cs.length) (hc : cs.set o v = cs')
    (h : wpEff P ops (EffC w g t' L) R rest (m + 1) ⟨l.toArray, ds⟩) : wpEff P ops (EffC w g t' L) R (⟨none, .store t x y, ty, pos, aft, none⟩ :: rest) m ⟨l.toArray, ds⟩ := by
  unfold wpEff
  rw [if_pos (by simp [Region.wanted]), if_pos (show isSt ⟨none, .store t x y, ty, pos, aft, none⟩ = true from rfl)]
  refine ⟨fun w1 hC => ?_, h⟩
  obtain ⟨he, cs1, hl, hb⟩ := hC
  rw [hL] at hl
  obtain rfl := Option.some.inj hl
  refine ⟨w1.setCell ⟨g, o, none⟩ v, ?_, he.trans (Evt.setCell w1 ⟨g, o, none⟩ v), cs', hL', hc ▸ hb.set_ o v⟩
  have hcell : w1.cell? ⟨g, o, none⟩ = some (lget cs o) := by rw [hb.cell?]; exact lget_some ho
  have hfr := hb.frozen o
  have hsz := run_sizeOf_scal ht w1
  have hstore : (store ⟨g, o, none⟩ v).run P w1 = .ok () (w1.setCell ⟨g, o, none⟩ v) := by
    cases v <;> simp_all [store, Sem.run, Value.oneCell']
  rw [ev_eq]
  simp [execOp, hx, hy, Instr.storeAt, Instr.sureAddr, storeVar, hv, Sem.run_bind, hsz, storeCells, add_off, hstore]
theorem x_nil {g : Nat} {t : TypeId} {L : List (List Value)} {cs : List Value} {Q : Exit → Act → World → Prop} {a : Act} (hL : L[m]? = some cs) (h : ∀ w1, Blk w1 g t cs → Evt (fun i => i = g) w w1 → w.heap.size ≤ w1.heap.size → Q .normal a w1) :
    wpEff P ops (EffC w g t L) (fun m a' => ∀ w', EffC w g t L m w' → Q .normal a' w') [] m a := by
  intro w' hC
  obtain ⟨he, cs1, hl, hb⟩ := hC
  rw [hL] at hl
  obtain rfl := Option.some.inj hl
  exact h _ hb he he.size
end
/-- A walk stands still ahead of a statement. -/
def Stop (p : Prop) : Prop := p
theorem stop_at {P : Program} {Q : Exit → Act → World → Prop} {a : Act} {w : World} {id : Nat} {ops : Array Oper} {dr : Bool} {c c2 : Code} (h : Stop ((((Code.region id ops dr).seq c).seq c2).wp P Q a w)) : (((Code.region id ops dr).seq c).seq c2).wp P Q a w := h
theorem stop_go {p : Prop} (h : p) : Stop p := h
section
variable {P : Program} {ops : Array Oper} {rest : List Oper} {w : World} {R : Nat → Act → Prop} {ty : TypeId} {pos : String} {aft : Array Edge} {l : List Value} {ds : List Deferred} {m : Nat}
/-- A struct is stored whole. -/
theorem x_storeR {g : Nat} {t t' : TypeId} {L : List (List Value)} {x y : Operand} {o n : Nat} {os : List Nat} {cs cs' vs : List Value} (hx : ev l x = .pointer (some ⟨g, o, none⟩)) (hy : ev l y = .agg vs.toArray) [ht : TStruct P t os n] (hv' : ∀ v ∈ vs, v.oneCell' = true) (hn : vs.length = n) (hL : L[m]? = some cs) (hL' : L[m + 1]? = some cs') (ho : o + vs.length ≤ cs.length) (hc : splice cs o vs = cs')
    (h : wpEff P ops (EffC w g t' L) R rest (m + 1) ⟨l.toArray, ds⟩) : wpEff P ops (EffC w g t' L) R (⟨none, .store t x y, ty, pos, aft, none⟩ :: rest) m ⟨l.toArray, ds⟩ := by
  unfold wpEff
  rw [if_pos (by simp [Region.wanted]), if_pos (show isSt ⟨none, .store t x y, ty, pos, aft, none⟩ = true from rfl)]
  refine ⟨fun w1 hC => ?_, h⟩
  obtain ⟨he, cs1, hl, hb⟩ := hC
  rw [hL] at hl
  obtain rfl := Option.some.inj hl
  obtain ⟨w', hr, hb', he'⟩ := run_storeCells (P := P) o vs w1 0 cs hb hv' (by omega)
  obtain ⟨fs, hu, hi, _⟩ := ht.und
  refine ⟨w', ?_, he.trans he', cs', hL', hc ▸ hb'⟩
  rw [ev_eq]
  simp [execOp, hx, hy, Instr.storeAt, Instr.sureAddr, storeVar, Value.cells, Sem.run_bind, run_sizeOf hi, hn, hr]
end
end Go.Proofs.YtchfkkliechgoaaE
