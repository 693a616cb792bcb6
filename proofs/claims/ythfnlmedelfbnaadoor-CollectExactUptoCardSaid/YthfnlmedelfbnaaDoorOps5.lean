/- Regions that draw their order and hold several stores, in a chain: one walk in the text's order serves every order. -/
import Derived.Test.YthfnlmedelfbnaaDoorEng
import Derived.OrdersHeld
import Derived.Laws.StructEq
import Derived.Lib.AppendStr
import Derived.Maps.OwnSet
import Derived.Laws.RangeAny
import Derived.Laws.MakeOwn
import Derived.Laws.BytesArg
import Derived.Lib.OthersKept
import Derived.Lib.AppendZeros
import Derived.Laws.AppendOwn
import Derived.Laws.Append
import Derived.Maps.AppendAt
namespace Go.Proofs.YthfnlmedelfbnaaDoorE
open Go Go.RowKit
set_option linter.unusedSimpArgs false
set_option linter.unusedVariables false

def isSt (o : Oper) : Bool := match o.op with | .store _ _ _ => true | _ => false
/-- Each store waits for each store ahead of it. -/
def chainStB (md : Region.Mode) (ops : Array Oper) : Bool := (List.range ops.size).all fun j => (List.range j).all fun i => match ops[i]?, ops[j]? with
  | some oi, some oj => !(isSt oi && isSt oj) || oj.after.any fun e => Region.binds md e && e.on == i
  | _, _ => true
theorem chainSt_spec {md : Region.Mode} {ops : Array Oper} (h : chainStB md ops = true) {i j : Nat} {oi oj : Oper} (hi : ops[i]? = some oi) (hj : ops[j]? = some oj) (hij : i < j) (si : isSt oi = true) (sj : isSt oj = true) :
    ∃ e ∈ oj.after, Region.binds md e = true ∧ e.on = i := by
  have hjs : j < ops.size := (Array.getElem?_eq_some_iff.1 hj).1
  unfold chainStB at h
  have h1 := List.all_eq_true.1 h j (List.mem_range.2 hjs)
  have h2 := List.all_eq_true.1 h1 i (List.mem_range.2 hij)
  rw [hi, hj] at h2
  simp only [si, sj, Bool.and_self, Bool.not_true, Bool.false_or, Array.any_eq_true'] at h2
  obtain ⟨e, he, hb⟩ := h2
  simp only [Bool.and_eq_true, beq_iff_eq] at hb
  exact ⟨e, he, hb.1, hb.2⟩

section
variable {P : Program} {ops : Array Oper} {md : Region.Mode} {C : Nat → World → Prop}
/-- A store, carried out where so many are done. -/
def StAt (P : Program) (C : Nat → World → Prop) (o : Oper) (m : Nat) (a : Act) : Prop := ∀ w, C m w → ∃ w', (execOp a.eval o).run P w = .ok .skip w' ∧ C (m + 1) w'
/-- What an operation that only reads yields, wherever one is. -/
def PuAt (P : Program) (C : Nat → World → Prop) (o : Oper) (v : Value) (a : Act) : Prop := ∀ n w, C n w → o.quietAt P a (C n) w v
def wpEff (P : Program) (ops : Array Oper) (C : Nat → World → Prop) (Q : Nat → Act → Prop) : List Oper → Nat → Act → Prop
  | [], m, a => Q m a
  | o :: rest, m, a => if Region.wanted o (yielded ops a.tmps) = true then
      (if isSt o = true then StAt P C o m a ∧ wpEff P ops C Q rest (m + 1) (a.put o.dst undef) else ∃ v, PuAt P C o v a ∧ wpEff P ops C Q rest m (a.put o.dst v))
    else wpEff P ops C Q rest m (a.put o.dst undef)
def eOp (P : Program) (ops : Array Oper) (C : Nat → World → Prop) (i : Nat) (K : Nat → Act → Prop) (m : Nat) (a : Act) : Prop :=
  match ops[i]? with
  | none => K m a
  | some o => if Region.wanted o (yielded ops a.tmps) = true then
      (if isSt o = true then StAt P C o m a ∧ K (m + 1) (a.put o.dst undef) else ∃ v, PuAt P C o v a ∧ K m (a.put o.dst v))
    else K m (a.put o.dst undef)
theorem eOp_mono {i : Nat} {m : Nat} {a : Act} {K K' : Nat → Act → Prop} (h : ∀ m a, K m a → K' m a) (hh : eOp P ops C i K m a) : eOp P ops C i K' m a := by
  unfold eOp at *
  split
  · rename_i ho; simp only [ho] at hh; exact h _ _ hh
  · rename_i o ho
    simp only [ho] at hh
    split
    · rename_i hw
      rw [if_pos hw] at hh
      split
      · rename_i hs; rw [if_pos hs] at hh; exact ⟨hh.1, h _ _ hh.2⟩
      · rename_i hs; rw [if_neg hs] at hh; obtain ⟨v, h1, h2⟩ := hh; exact ⟨v, h1, h _ _ h2⟩
    · rename_i hw; rw [if_neg hw] at hh; exact h _ _ hh
def wpAnyE (P : Program) (md : Region.Mode) (ops : Array Oper) (C : Nat → World → Prop) (Q : Nat → Act → Prop) : Nat → Array Bool → Nat → Act → Prop
  | 0, listed, m, a => Region.ready md ops listed = [] ∧ Q m a
  | fuel + 1, listed, m, a => (Region.ready md ops listed = [] → Q m a) ∧ ∀ i ∈ Region.ready md ops listed, eOp P ops C i (fun m' a' => wpAnyE P md ops C Q fuel (listed.setIfInBounds i true) m' a') m a
theorem wp_of_pure {o : Oper} {a : Act} {n : Nat} {v : Value} {K' : Act → World → Prop} {Q' : Exit → Act → World → Prop} {w : World} (hw : C n w) (hp : PuAt P C o v a) (h : ∀ w', C n w' → K' (a.put o.dst v) w') : o.wp P a w K' Q' := by
  have h3 := hp n w hw
  unfold Oper.quietAt at h3
  unfold Oper.wp
  generalize (execOp a.eval o).run P w = r at *
  cases r with
  | ok x w' =>
    cases x <;> simp only [Oper.quietUpon] at h3 <;> simp only [Oper.upon]
    case value u => obtain ⟨e1, e2⟩ := h3; rw [e1, e2]; exact h _ hw
    case skip => obtain ⟨e1, e2⟩ := h3; rw [e1, ← e2]; exact h _ hw
    case enter f args => obtain ⟨e1, hc⟩ := h3; rw [e1]; exact hc.mono fun e w'' ⟨he, hw''⟩ => by subst he; exact h _ hw''
  | halt x w' => simp only [Oper.quietUpon] at h3
theorem wp_of_st {o : Oper} {a : Act} {n : Nat} {K' : Act → World → Prop} {Q' : Exit → Act → World → Prop} {w : World} (hw : C n w) (hp : StAt P C o n a) (h : ∀ w', C (n + 1) w' → K' (a.put o.dst undef) w') : o.wp P a w K' Q' := by
  obtain ⟨w', hr, hc⟩ := hp w hw
  unfold Oper.wp
  rw [hr]
  simp only [Oper.upon]
  exact h _ hc
theorem wpOp_of_eOp {i n : Nat} {a : Act} {K : Nat → Act → Prop} {K' : Act → World → Prop} {Q' : Exit → Act → World → Prop} {w : World} (hC : C n w) (h : ∀ m a w', C m w' → K m a → K' a w') (hh : eOp P ops C i K n a) : wpOp P ops Q' i K' a w := by
  unfold eOp at hh
  unfold wpOp
  split
  · rename_i ho; simp only [ho] at hh; exact h _ _ _ hC hh
  · rename_i o ho
    simp only [ho] at hh
    split
    · rename_i hw
      rw [if_pos hw] at hh
      by_cases hs : isSt o = true
      · rw [if_pos hs] at hh; exact .inl (wp_of_st hC hh.1 fun w' hw' => h _ _ _ hw' hh.2)
      · rw [if_neg hs] at hh; obtain ⟨v, h1, h2⟩ := hh; exact .inl (wp_of_pure hC h1 fun w' hw' => h _ _ _ hw' h2)
    · rename_i hw; rw [if_neg hw] at hh; exact h _ _ _ hC hh
theorem wpAny_of_eff {Q : Nat → Act → Prop} {Q' : Exit → Act → World → Prop} (hQ : ∀ m a w, C m w → Q m a → Q' .normal a w) : ∀ (fuel : Nat) (listed : Array Bool) (m : Nat) (a : Act) (w : World), C m w →
    wpAnyE P md ops C Q fuel listed m a → wpAny P md ops Q' fuel listed a w
  | 0, _, _, _, _, hw, h => ⟨h.1, hQ _ _ _ hw h.2⟩
  | fuel + 1, _, _, _, _, hw, h => ⟨fun h0 => hQ _ _ _ hw (h.1 h0), fun i hi => wpOp_of_eOp hw (fun m' a' w' hw' => wpAny_of_eff hQ fuel _ m' a' w' hw') (h.2 i hi)⟩

/-- How an operation stands in a state: what it leaves, and how many stores are done behind it. -/
def StandsE (P : Program) (ops : Array Oper) (C : Nat → World → Prop) (o : Oper) (v : Value) (d : Nat) (m : Nat) (a : Act) : Prop :=
  (Region.wanted o (yielded ops a.tmps) = true ∧ isSt o = true ∧ v = undef ∧ d = 1 ∧ StAt P C o m a) ∨
  (Region.wanted o (yielded ops a.tmps) = true ∧ isSt o = false ∧ d = 0 ∧ PuAt P C o v a) ∨
  (Region.wanted o (yielded ops a.tmps) = false ∧ v = undef ∧ d = 0)
theorem StandsE.eOp {i : Nat} {o : Oper} {v : Value} {d m : Nat} {a : Act} (hi : ops[i]? = some o) (hy : StandsE P ops C o v d m a) {K : Nat → Act → Prop} (h : K (m + d) (a.put o.dst v)) : eOp P ops C i K m a := by
  unfold Go.Proofs.YthfnlmedelfbnaaDoorE.eOp
  simp only [hi]
  rcases hy with ⟨hw, hs, rfl, rfl, hv⟩ | ⟨hw, hs, rfl, hv⟩ | ⟨hw, rfl, rfl⟩
  · rw [if_pos hw, if_pos hs]; exact ⟨hv, h⟩
  · rw [if_pos hw, if_neg (by simp [hs])]; exact ⟨v, hv, h⟩
  · rw [if_neg (by simp [hw])]; exact h
theorem stands_of_eOp {i : Nat} {o : Oper} {m : Nat} {a : Act} {K : Nat → Act → Prop} (hi : ops[i]? = some o) (h : eOp P ops C i K m a) : ∃ v d, StandsE P ops C o v d m a ∧ K (m + d) (a.put o.dst v) := by
  unfold eOp at h
  simp only [hi] at h
  by_cases hw : Region.wanted o (yielded ops a.tmps) = true
  · rw [if_pos hw] at h
    by_cases hs : isSt o = true
    · rw [if_pos hs] at h; exact ⟨undef, 1, .inl ⟨hw, hs, rfl, rfl, h.1⟩, h.2⟩
    · rw [if_neg hs] at h; obtain ⟨v, h1, h2⟩ := h; exact ⟨v, 0, .inr (.inl ⟨hw, by simpa using hs, rfl, h1⟩), h2⟩
  · rw [if_neg hw] at h; exact ⟨undef, 0, .inr (.inr ⟨by simpa using hw, rfl, rfl⟩), h⟩
theorem StandsE.same {o : Oper} {v : Value} {d m : Nat} {a a' : Act} (hy : StandsE P ops C o v d m a) (he : execOp a'.eval o = execOp a.eval o) (hw : Region.wanted o (yielded ops a'.tmps) = Region.wanted o (yielded ops a.tmps)) : StandsE P ops C o v d m a' := by
  unfold StandsE StAt PuAt Oper.quietAt at *
  rw [he, hw]
  exact hy
/-- What is no store stands as it did, however many stores are done. -/
theorem StandsE.any {o : Oper} {v : Value} {d m m' : Nat} {a : Act} (hy : StandsE P ops C o v d m a) (hd : d = 0) : StandsE P ops C o v d m' a := by
  rcases hy with ⟨_, _, _, h, _⟩ | h | h
  · omega
  · exact .inr (.inl h)
  · exact .inr (.inr h)
theorem eOp_put {j : Nat} {oi oj : Oper} {v : Value} {d : Nat} (hj : ops[j]? = some oj) (hap : oi.apart ops oj = true) (hst : ¬ (isSt oi = true ∧ isSt oj = true))
    (hsi : ∀ cs b, oi.op ≠ .select cs b) (hsj : ∀ cs b, oj.op ≠ .select cs b) {K : Nat → Act → Prop} {m : Nat} {a : Act}
    (hy : StandsE P ops C oi v d m a) (h : eOp P ops C j K (m + d) (a.put oi.dst v)) :
    eOp P ops C j (fun m' a' => StandsE P ops C oi v d m' a' ∧ K (m' + d) (a'.put oi.dst v)) m a := by
  obtain ⟨h1, h2, h3⟩ := Oper.apart_spec hap
  have keep : ∀ u, StandsE P ops C oi v d m (a.put oj.dst u) := fun u => hy.same (execOp_put oi hsi a oj.dst u h3) (wanted_put oi a oj.dst u h3)
  obtain ⟨u, d', hu, hn⟩ := stands_of_eOp hj h
  have hu' : StandsE P ops C oj u d' (m + d) a := hu.same (execOp_put oj hsj a oi.dst v h1).symm (wanted_put oj a oi.dst v h1).symm
  rw [Act.put_comm a v u h2] at hn
  rcases hu' with ⟨hw, hs, rfl, rfl, hv⟩ | hp | hp
  · -- the other is a store: this one is none
    have hns : isSt oi = false := by
      cases hs' : isSt oi with
      | false => rfl
      | true => exact absurd ⟨hs', hs⟩ hst
    have hd : d = 0 := by
      rcases hy with ⟨_, h', _⟩ | ⟨_, _, h', _⟩ | ⟨_, _, h'⟩
      · rw [hns] at h'; cases h'
      · exact h'
      · exact h'
    subst hd
    exact StandsE.eOp hj (.inl ⟨hw, hs, rfl, rfl, hv⟩) ⟨(keep _).any rfl, hn⟩
  · obtain ⟨hw, hs, rfl, hv⟩ := hp
    exact StandsE.eOp hj (.inr (.inl ⟨hw, hs, rfl, hv⟩)) ⟨keep _, hn⟩
  · obtain ⟨hw, rfl, rfl⟩ := hp
    exact StandsE.eOp hj (.inr (.inr ⟨hw, rfl, rfl⟩)) ⟨keep _, hn⟩
theorem wpAnyE_first {Q : Nat → Act → Prop} {i : Nat} {oi : Oper} {v : Value} {d : Nat} (hi : ops[i]? = some oi) (hsel : ∀ (j : Nat) (o : Oper) cs b, ops[j]? = some o → o.op ≠ .select cs b) :
    ∀ (fuel : Nat) (listed : Array Bool) (m : Nat) (a : Act),
      (∀ j oj, ops[j]? = some oj → j ≠ i → listed.getD j true = false → (∀ e ∈ oj.after, Region.binds md e = true → e.on ≠ i) → oi.apart ops oj = true ∧ ¬ (isSt oi = true ∧ isSt oj = true)) →
      i ∈ Region.ready md ops listed → StandsE P ops C oi v d m a →
      wpAnyE P md ops C Q fuel (listed.setIfInBounds i true) (m + d) (a.put oi.dst v) → wpAnyE P md ops C Q (fuel + 1) listed m a := by
  intro fuel
  induction fuel with
  | zero =>
    intro listed m a _ hr hy H
    refine ⟨fun h => (by rw [h] at hr; cases hr), fun j hj => ?_⟩
    by_cases hji : j = i
    · subst hji; exact hy.eOp hi H
    · have := ready_mono hj hji
      rw [H.1] at this
      cases this
  | succ fuel ih =>
    intro listed m a hfree hr hy H
    refine ⟨fun h => (by rw [h] at hr; cases hr), fun j hj => ?_⟩
    by_cases hji : j = i
    · subst hji; exact hy.eOp hi H
    · have h1 := H.2 j (ready_mono hj hji)
      obtain ⟨hjun, oj, hoj, hall⟩ := mem_ready.1 hj
      have hnot : ∀ e ∈ oj.after, Region.binds md e = true → e.on ≠ i := fun e he hb heq => by
        have h1 := hall e he hb
        have h0 := (mem_ready.1 hr).1
        rw [heq] at h1
        rcases Nat.lt_or_ge i listed.size with h' | h'
        · simp [h'] at h0 h1; rw [h0] at h1; cases h1
        · simp [Array.getElem?_eq_none h'] at h1
      obtain ⟨hap, hst⟩ := hfree j oj hoj hji hjun hnot
      have h2 := eOp_put hoj hap hst (fun cs b => hsel i oi cs b hi) (fun cs b => hsel j oj cs b hoj) hy h1
      have hfree' : ∀ k ok, ops[k]? = some ok → k ≠ i → (listed.setIfInBounds j true).getD k true = false →
          (∀ e ∈ ok.after, Region.binds md e = true → e.on ≠ i) → oi.apart ops ok = true ∧ ¬ (isSt oi = true ∧ isSt ok = true) := fun k ok hk hki hun hno => by
        refine hfree k ok hk hki ?_ hno
        by_cases hjk : j = k
        · subst hjk; exact hjun
        · rw [getD_set_ne true hjk] at hun; exact hun
      refine eOp_mono (fun m' a' h3 => ih (listed.setIfInBounds j true) m' a' hfree' (ready_mono hr (Ne.symm hji)) h3.1 ?_) h2
      rw [Array.setIfInBounds_comm _ _ hji]
      exact h3.2
theorem wpAnyE_lex {Q : Nat → Act → Prop} (hs : Region.noSelect ops = true) (hch : chainStB md ops = true) : ∀ (l : List Oper) (k : Nat) (listed : Array Bool) (m : Nat) (a : Act), (∀ j, l[j]? = ops[k + j]?) → (∀ j, j < k → listed.getD j true = true) →
    Region.lexFrom md ops l.length k listed = true → wpEff P ops C Q l m a → wpAnyE P md ops C Q l.length listed m a
  | [], _, _, _, _, _, _, hB, h => ⟨by simpa [Region.lexFrom] using hB, h⟩
  | o :: l, k, listed, m, a, hl, hlow, hB, h => by
    have h0 : ops[k]? = some o := by simpa using (hl 0).symm
    simp only [List.length_cons, Region.lexFrom, Bool.and_eq_true] at hB
    obtain ⟨⟨hr, hf⟩, hB'⟩ := hB
    have hst : eOp P ops C k (fun m' a' => wpEff P ops C Q l m' a') m a := by unfold eOp; simp only [h0]; exact h
    obtain ⟨v, d, hy, hK⟩ := stands_of_eOp h0 hst
    have hr' : k ∈ Region.ready md ops listed := by simpa using hr
    refine wpAnyE_first h0 (Region.noSelect_spec hs) l.length listed m a ?_ hr' hy
      (wpAnyE_lex hs hch l (k + 1) _ _ _ (fun j => by have := hl (j + 1); simpa [Nat.add_assoc, Nat.add_comm 1 j] using this) ?_ hB' hK)
    · intro j oj hj hjk hun hno
      refine ⟨Region.free_spec h0 hf j oj hj hjk hun hno, fun ⟨s1, s2⟩ => ?_⟩
      rcases Nat.lt_or_gt_of_ne hjk with hlt | hgt
      · rw [hlow j hlt] at hun; cases hun
      · obtain ⟨e, he, hb, hon⟩ := chainSt_spec hch h0 hj hgt s1 s2
        exact hno e he hb hon
    · intro j hj
      by_cases hjk : j = k
      · subst hjk
        rcases Nat.lt_or_ge j listed.size with h' | h'
        · simp [h']
        · simp [Array.getElem?_eq_none, h']
      · rw [getD_set_ne true (Ne.symm hjk)]
        exact hlow j (by omega)
/-- One walk in the text's order. C: what the worlds are behind so many of the stores. -/
theorem w_eff {id : Nat} {Q : Exit → Act → World → Prop} {a : Act} {w : World} {lops : List Oper} (C : Nat → World → Prop) (hm : P.follows .mixedOrders = true) (hB : Region.lexB .any lops.toArray = true) (hch : chainStB .any lops.toArray = true) (hC : ∀ w', Evt (fun _ => False) w w' → C 0 w')
    (h : wpEff P lops.toArray C (fun m a' => ∀ w', C m w' → Q .normal a' w') lops 0 a) : (Code.region id lops.toArray true).wp P Q a w := by
  simp only [Region.lexB, Bool.and_eq_true] at hB
  refine wp_region_any hm (wpAny_of_eff (C := C) (Q := fun m a' => ∀ w', C m w' → Q .normal a' w') (fun _ _ w' hw' h => h w' hw') _ _ _ _ _ (hC _ ⟨rfl, rfl, rfl, Nat.le_refl _, fun _ _ _ => rfl⟩) ?_)
  have := wpAnyE_lex (C := C) (md := .any) hB.1 hch lops 0 (Array.replicate lops.toArray.size false) 0 a (by simp) (by intro j hj; omega) (by simpa using hB.2) h
  simpa using this
end
/-! stores into one block -/
def EffC (w : World) (g : Nat) (t : TypeId) (L : List (List Value)) : Nat → World → Prop := fun n w' => Evt (fun i => i = g) w w' ∧ ∃ cs, L[n]? = some cs ∧ Blk w' g t cs
section
variable {P : Program} {ops : Array Oper} {rest : List Oper} {w : World} {C : Nat → World → Prop} {R : Nat → Act → Prop} {ty : TypeId} {pos : String} {aft : Array Edge} {l : List Value} {ds : List Deferred} {N : Tmp} {op : Op} {m : Nat}
theorem w_effS {id : Nat} {Q : Exit → Act → World → Prop} {a : Act} {lops : List Oper} (g : Nat) (t : TypeId) (L : List (List Value)) {cs : List Value} (hm : P.follows .mixedOrders = true) (hB : Region.lexB .any lops.toArray = true) (hch : chainStB .any lops.toArray = true) (hb : Blk w g t cs) (hL : L[0]? = some cs)
    (h : wpEff P lops.toArray (EffC w g t L) (fun m a' => ∀ w', EffC w g t L m w' → Q .normal a' w') lops 0 a) : (Code.region id lops.toArray true).wp P Q a w :=
  w_eff (EffC w g t L) hm hB hch (fun w' he => ⟨he.mono fun _ _ h => h.elim, cs, hL, hb.evt he (fun h => h)⟩) h
theorem x_pure {v : Value} (hs : isSt ⟨some N, op, ty, pos, aft, none⟩ = false) (hv : ∀ n w', C n w' → Go1 P ⟨some N, op, ty, pos, aft, none⟩ l w' (fun u => u = v)) (h : wpEff P ops C R rest m ⟨(l.set N v).toArray, ds⟩) : wpEff P ops C R (⟨some N, op, ty, pos, aft, none⟩ :: rest) m ⟨l.toArray, ds⟩ := by
  unfold wpEff
  rw [if_pos (by simp [Region.wanted]), if_neg (by simp [hs])]
  refine ⟨v, fun n w' hC => ?_, by simpa [Act.put] using h⟩
  obtain ⟨u, hr, rfl⟩ := hv n w' hC
  unfold Oper.quietAt
  rw [ev_eq, hr w' (Evt.refl _ _)]
  exact ⟨rfl, rfl⟩
theorem x_store {g : Nat} {t t' : TypeId} {L : List (List Value)} {x y : Operand} {o : Nat} {cs cs' : List Value} {v : Value} (hx : ev l x = .pointer (some ⟨g, o, none⟩)) (hy : ev l y = v) (hv : v.cells = #[v]) (hv' : v.oneCell' = true) [ht : TScal P t] (hL : L[m]? = some cs) (hL' : L[m + 1]? = some cs') (ho : o < cs.length) (hc : cs.set o v = cs')
    (h : wpEff P ops (EffC w g t' L) R rest (m + 1) ⟨l.toArray, ds⟩) : wpEff P ops (EffC w g t' L) R (⟨none, .store t x y, ty, pos, aft, none⟩ :: rest) m ⟨l.toArray, ds⟩ := by
  unfold wpEff
  rw [if_pos (by simp [Region.wanted]), if_pos (show isSt ⟨none, .store t x y, ty, pos, aft, none⟩ = true from rfl)]
  refine ⟨fun w1 hC => ?_, h⟩
  obtain ⟨he, cs1, hl, hb⟩ := hC
  rw [hL] at hl
  obtain rfl := Option.some.inj hl
  refine ⟨w1.setCell ⟨g, o, none⟩ v, ?_, he.trans (Evt.setCell w1 ⟨g, o, none⟩ v), cs', hL', hc ▸ hb.set_ o v⟩
  have hcell : w1.cell? ⟨g, o, none⟩ = some (lget cs o) := by rw [hb.cell?]; exact lget_some ho
  have hfr := hb.frozen o
  have hsz := run_sizeOf_scal ht w1
  have hstore : (store ⟨g, o, none⟩ v).run P w1 = .ok () (w1.setCell ⟨g, o, none⟩ v) := by
    cases v <;> simp_all [store, Sem.run, Value.oneCell']
  rw [ev_eq]
  simp [execOp, hx, hy, Instr.storeAt, Instr.sureAddr, storeVar, hv, Sem.run_bind, hsz, storeCells, add_off, hstore]
theorem x_nil {g : Nat} {t : TypeId} {L : List (List Value)} {cs : List Value} {Q : Exit → Act → World → Prop} {a : Act} (hL : L[m]? = some cs) (h : ∀ w1, Blk w1 g t cs → Evt (fun i => i = g) w w1 → w.heap.size ≤ w1.heap.size → Q .normal a w1) :
    wpEff P ops (EffC w g t L) (fun m a' => ∀ w', EffC w g t L m w' → Q .normal a' w') [] m a := by
  intro w' hC
  obtain ⟨he, cs1, hl, hb⟩ := hC
  rw [hL] at hl
  obtain rfl := Option.some.inj hl
  exact h _ hb he he.size
end
/-- A walk stands still ahead of a statement. -/
def Stop (p : Prop) : Prop := p
theorem stop_at {P : Program} {Q : Exit → Act → World → Prop} {a : Act} {w : World} {id : Nat} {ops : Array Oper} {dr : Bool} {c c2 : Code} (h : Stop ((((Code.region id ops dr).seq c).seq c2).wp P Q a w)) : (((Code.region id ops dr).seq c).seq c2).wp P Q a w := h
theorem stop_go {p : Prop} (h : p) : Stop p := h
section
variable {P : Program} {ops : Array Oper} {rest : List Oper} {w : World} {R : Nat → Act → Prop} {ty : TypeId} {pos : String} {aft : Array Edge} {l : List Value} {ds : List Deferred} {m : Nat}
/-- A struct is stored whole. -/
theorem x_storeR {g : Nat} {t t' : TypeId} {L : List (List Value)} {x y : Operand} {o n : Nat} {os : List Nat} {cs cs' vs : List Value} (hx : ev l x = .pointer (some ⟨g, o, none⟩)) (hy : ev l y = .agg vs.toArray) [ht : TStruct P t os n] (hv' : ∀ v ∈ vs, v.oneCell' = true) (hn : vs.length = n) (hL : L[m]? = some cs) (hL' : L[m + 1]? = some cs') (ho : o + vs.length ≤ cs.length) (hc : splice cs o vs = cs')
    (h : wpEff P ops (EffC w g t' L) R rest (m + 1) ⟨l.toArray, ds⟩) : wpEff P ops (EffC w g t' L) R (⟨none, .store t x y, ty, pos, aft, none⟩ :: rest) m ⟨l.toArray, ds⟩ := by
  unfold wpEff
  rw [if_pos (by simp [Region.wanted]), if_pos (show isSt ⟨none, .store t x y, ty, pos, aft, none⟩ = true from rfl)]
  refine ⟨fun w1 hC => ?_, h⟩
  obtain ⟨he, cs1, hl, hb⟩ := hC
  rw [hL] at hl
  obtain rfl := Option.some.inj hl
  obtain ⟨w', hr, hb', he'⟩ := run_storeCells (P := P) o vs w1 0 cs hb hv' (by omega)
  obtain ⟨fs, hu, hi, _⟩ := ht.und
  refine ⟨w', ?_, he.trans he', cs', hL', hc ▸ hb'⟩
  rw [ev_eq]
  simp [execOp, hx, hy, Instr.storeAt, Instr.sureAddr, storeVar, Value.cells, Sem.run_bind, run_sizeOf hi, hn, hr]
end
end Go.Proofs.YthfnlmedelfbnaaDoorE
namespace Go.Proofs.YthfnlmedelfbnaaDoorE
open Go Go.RowKit
set_option linter.unusedSimpArgs false
set_option linter.unusedVariables false

/-- May one go by this schedule? (true: an effect: it is the only one that may come up.) -/
def schedB (md : Region.Mode) (ops : Array Oper) : List (Bool × Nat) → Array Bool → Bool
  | [], listed => (Region.ready md ops listed).isEmpty
  | (false, i) :: r, listed => (Region.ready md ops listed).contains i && Region.free md ops listed i && schedB md ops r (listed.setIfInBounds i true)
  | (true, i) :: r, listed => (Region.ready md ops listed == [i]) && schedB md ops r (listed.setIfInBounds i true)
def MixPost (K : Act → World → Prop) : Exit → Act → World → Prop
  | .normal, a, w => K a w
  | _, _, _ => False
def wpMix (P : Program) (ops : Array Oper) (S : World → Prop) (Q : Act → World → Prop) : List (Bool × Nat) → Act → World → Prop
  | [], a, w => Q a w
  | (false, i) :: r, a, w => ∃ o v, ops[i]? = some o ∧ YieldsIf P ops S o v a ∧ wpMix P ops S Q r (a.put o.dst v) w
  | (true, i) :: r, a, w => ∃ o, ops[i]? = some o ∧ wpList P ops (MixPost fun a' w' => S w' ∧ wpMix P ops S Q r a' w') [o] a w
section
variable {P : Program} {ops : Array Oper} {S : World → Prop} {Q : Act → World → Prop}
theorem noLets (K : Act → World → Prop) : ¬ LetsOut (MixPost K) := fun ⟨_, _, h⟩ => h
theorem wp_mix {o : Oper} {a : Act} {w : World} {K K' Q Q' : Act → World → Prop} (h : ∀ a w, K a w → K' a w) (hh : o.wp P a w K (MixPost Q)) : o.wp P a w K' (MixPost Q') := by
  unfold Oper.wp at *
  generalize (execOp a.eval o).run P w = r at *
  cases r with
  | ok n w' =>
    cases n <;> simp only [Oper.upon] at hh ⊢ <;>
      first
        | exact h _ _ hh
        | exact Calls.mono hh (fun e w'' he => by
            cases e with
            | returned v => exact h _ _ he
            | panicked c => exact he
            | outgrown => exact absurd he (noLets _))
        | exact Rows.mono hh (fun _ _ he => h _ _ he)
  | halt x w' => cases x <;> simp only [Oper.upon] at hh ⊢ <;> exact hh
theorem wpOp_of_list {i : Nat} {o : Oper} {a : Act} {w : World} {K Q : Act → World → Prop} (hi : ops[i]? = some o) (h : wpList P ops (MixPost K) [o] a w) : wpOp P ops (MixPost Q) i K a w := by
  unfold wpList at h
  unfold wpOp
  simp only [hi]
  by_cases hw : Region.wanted o (yielded ops a.tmps) = true
  · rw [if_pos hw] at h ⊢
    rcases h with h | ⟨_, h⟩
    · exact .inl (wp_mix (fun a w h => h) h)
    · exact absurd h (noLets _)
  · rw [if_neg hw] at h ⊢
    exact h
theorem held_of_mix (hs : Region.noSelect ops = true) (md : Region.Mode) : ∀ (r : List (Bool × Nat)) (listed : Array Bool) (a : Act) (w : World), S w → schedB md ops r listed = true → wpMix P ops S Q r a w → wpAnyH P md ops (MixPost Q) S r.length listed a w
  | [], listed, a, w, hS, hB, h => ⟨by simpa [schedB] using hB, h⟩
  | (false, i) :: r, listed, a, w, hS, hB, h => by
    obtain ⟨o, v, hi, hy, h⟩ := h
    simp only [schedB, Bool.and_eq_true] at hB
    obtain ⟨⟨hr, hf⟩, hB⟩ := hB
    exact wpAnyH_take hi hs hf hr (fun c a w h => h) hy hS (held_of_mix hs md r _ _ _ hS hB h)
  | (true, i) :: r, listed, a, w, hS, hB, h => by
    obtain ⟨o, hi, h⟩ := h
    simp only [schedB, Bool.and_eq_true, beq_iff_eq] at hB
    obtain ⟨hr, hB⟩ := hB
    refine wpAnyH_all (rs := [i]) hr (by simp) ?_
    intro j hj
    obtain rfl : j = i := by simpa using hj
    exact wpOp_mono (fun a' w' h' => ⟨h'.1, held_of_mix hs md r _ _ _ h'.1 hB h'.2⟩) (wpOp_of_list hi h)
theorem w_mix {id : Nat} {Q : Exit → Act → World → Prop} {a : Act} {w : World} (S : World → Prop) (sched : List (Bool × Nat)) (hm : P.follows .mixedOrders = true) (hn : Region.noSelect ops = true) (hl : sched.length = ops.size) (hB : schedB .any ops sched (Array.replicate ops.size false) = true)
    (h : ∀ wd, Evt (fun _ => False) w wd → w.heap.size ≤ wd.heap.size → S wd ∧ wpMix P ops S (fun a' w' => Q .normal a' w') sched a wd) : (Code.region id ops true).wp P Q a w := by
  obtain ⟨hS, h⟩ := h { w with drawn := w.drawn + 1 } ⟨rfl, rfl, rfl, Nat.le_refl _, fun _ _ _ => rfl⟩ (Nat.le_refl _)
  have h1 : (Code.region id ops true).wp P (MixPost fun a' w' => Q .normal a' w') a w := by
    refine wp_region_held (S := S) hm ?_
    have := held_of_mix hn .any sched (Array.replicate ops.size false) a _ hS hB h
    rwa [hl] at this
  exact wp_mono h1 fun e a w hh => by
    cases e with
    | normal => exact hh
    | _ => exact hh.elim
end
section
variable {P : Program} {ops : Array Oper} {r : List (Bool × Nat)} {w : World} {S : World → Prop} {Q : Act → World → Prop} {ty : TypeId} {pos : String} {aft : Array Edge} {l : List Value} {ds : List Deferred} {N : Tmp} {op : Op} {i : Nat}
theorem mi_nil {a : Act} (h : Q a w) : wpMix P ops S Q [] a w := h
/-- What only reads: the same in every world between. -/
theorem mi_pure {v : Value} (hi : ops[i]? = some ⟨some N, op, ty, pos, aft, none⟩) (hv : ∀ w', S w' → Go1 P ⟨some N, op, ty, pos, aft, none⟩ l w' (fun u => u = v)) (h : wpMix P ops S Q r ⟨(l.set N v).toArray, ds⟩ w) : wpMix P ops S Q ((false, i) :: r) ⟨l.toArray, ds⟩ w := by
  refine ⟨_, v, hi, .inl ⟨by simp [Region.wanted], fun w' hS => ?_⟩, by simpa [Act.put] using h⟩
  obtain ⟨u, hr, rfl⟩ := hv w' hS
  rw [ev_eq]
  exact hr w' (Evt.refl _ _)
/-- Guarded, and not wanted. -/
theorem mi_off {g : Nat × Bool} (hi : ops[i]? = some ⟨some N, op, ty, pos, aft, some g⟩) (hw : Region.wanted ⟨some N, op, ty, pos, aft, some g⟩ (yielded ops l.toArray) = false) (h : wpMix P ops S Q r ⟨(l.set N undef).toArray, ds⟩ w) : wpMix P ops S Q ((false, i) :: r) ⟨l.toArray, ds⟩ w :=
  ⟨_, undef, hi, .inr ⟨hw, rfl⟩, by simpa [Act.put] using h⟩
/-- Guarded, and wanted. -/
theorem mi_on {v : Value} {g : Nat × Bool} (hi : ops[i]? = some ⟨some N, op, ty, pos, aft, some g⟩) (hw : Region.wanted ⟨some N, op, ty, pos, aft, some g⟩ (yielded ops l.toArray) = true) (hv : ∀ w', S w' → Go1 P ⟨some N, op, ty, pos, aft, some g⟩ l w' (fun u => u = v)) (h : wpMix P ops S Q r ⟨(l.set N v).toArray, ds⟩ w) : wpMix P ops S Q ((false, i) :: r) ⟨l.toArray, ds⟩ w := by
  refine ⟨_, v, hi, .inl ⟨hw, fun w' hS => ?_⟩, by simpa [Act.put] using h⟩
  obtain ⟨u, hr, rfl⟩ := hv w' hS
  rw [ev_eq]
  exact hr w' (Evt.refl _ _)
theorem mi_eff {d : Option Tmp} {gd : Option (Nat × Bool)} {a : Act} (hi : ops[i]? = some ⟨d, op, ty, pos, aft, gd⟩) (h : wpList P ops (MixPost fun a' w' => S w' ∧ wpMix P ops S Q r a' w') [⟨d, op, ty, pos, aft, gd⟩] a w) : wpMix P ops S Q ((true, i) :: r) a w := ⟨_, hi, h⟩
theorem mi_done {a : Act} (hS : S w) (h : wpMix P ops S Q r a w) : MixPost (fun a' w' => S w' ∧ wpMix P ops S Q r a' w') .normal a w := ⟨hS, h⟩
end
theorem mi_nil' {P : Program} {ops : Array Oper} {w : World} {S : World → Prop} {a : Act} {Q : Exit → Act → World → Prop} (h : Q .normal a w) : wpMix P ops S (fun a' w' => Q .normal a' w') [] a w := h
/-- The effects write T and what is new. -/
theorem w_mixE {P : Program} {ops : Array Oper} {id : Nat} {Q : Exit → Act → World → Prop} {a : Act} {w : World} (T : Nat → Prop) (sched : List (Bool × Nat)) (hm : P.follows .mixedOrders = true) (hn : Region.noSelect ops = true) (hl : sched.length = ops.size) (hB : schedB .any ops sched (Array.replicate ops.size false) = true)
    (h : ∀ wd, Evt (fun _ => False) w wd → w.heap.size ≤ wd.heap.size → wpMix P ops (Evt T w) (fun a' w' => Q .normal a' w') sched a wd) : (Code.region id ops true).wp P Q a w :=
  w_mix (Evt T w) sched hm hn hl hB (fun wd he hz => ⟨he.mono fun _ _ h => h.elim, h wd he hz⟩)
section
variable {P : Program} {ops : Array Oper} {rest : List Oper} {w : World} {Q : Exit → Act → World → Prop} {ty : TypeId} {pos : String} {aft : Array Edge} {l : List Value} {ds : List Deferred} {N : Tmp}
/-- append of nothing to nil. -/
theorem e_appendN0 {t e : TypeId} {sz bytes c : Nat} {A : Option Addr} {x y : Operand} (hx : ev l x = .slice none 0 0) (hy : ev l y = .slice A 0 c) [ht : TSlice P t e sz bytes]
    (h : wpList P ops Q rest ⟨(l.set N (.slice none 0 0)).toArray, ds⟩ w) :
    wpList P ops Q (⟨some N, .call { callee := .builtin .append, args := #[x, y], argTypes := #[t, t] }, ty, pos, aft, none⟩ :: rest) ⟨l.toArray, ds⟩ w := by
  have hi := ht.info
  cases hq : P.info? e with
  | none => simp [hq] at hi
  | some inf =>
    have hr : (Builtin.append_ #[t, t] ty #[.slice none 0 0, .slice A 0 c]).run P w = .ok (.slice none 0 0) w := by
      cases A <;> simp [Builtin.append_, run_underlying ht.ok, sizeOf, typeInfo, hq, Builtin.lenOf, Builtin.firstCells, loadCells, loadCellsFrom]
    refine l_event (v := .slice none 0 0) (w' := w) ?_ h
    simp only [execOp, Sem.run_bind, resolve, List.map_toArray, List.map_cons, List.map_nil, hx, hy, invoke, builtin, Sem.run_pure, Result.andThen_ok]
    first | (rw [hr]; rfl) | (simp only [Sem.run_bind, hr, Result.andThen_ok]; rfl)
end
end Go.Proofs.YthfnlmedelfbnaaDoorE
namespace Go.Proofs.YthfnlmedelfbnaaDoorE
open Go Go.RowKit
set_option linter.unusedSimpArgs false
set_option linter.unusedVariables false

inductive Sch where
  | done : Sch
  | pure : Nat → Sch → Sch
  | one : Nat → Sch → Sch
  | two : Nat → Sch → Nat → Sch → Sch
def Sch.ok (md : Region.Mode) (ops : Array Oper) : Sch → Array Bool → Bool
  | .done, listed => (Region.ready md ops listed).isEmpty
  | .pure i s, listed => (Region.ready md ops listed).contains i && Region.free md ops listed i && s.ok md ops (listed.setIfInBounds i true)
  | .one i s, listed => (Region.ready md ops listed == [i]) && s.ok md ops (listed.setIfInBounds i true)
  | .two i s j t, listed => (Region.ready md ops listed == [i, j]) && (s.ok md ops (listed.setIfInBounds i true) && t.ok md ops (listed.setIfInBounds j true))
/-- All its ways are so long. -/
def Sch.long : Nat → Sch → Bool
  | 0, .done => true
  | n + 1, .pure _ s => s.long n
  | n + 1, .one _ s => s.long n
  | n + 1, .two _ s _ t => s.long n && t.long n
  | _, _ => false
def wpT (P : Program) (ops : Array Oper) (S : World → Prop) (Q : Act → World → Prop) : Sch → Act → World → Prop
  | .done, a, w => Q a w
  | .pure i s, a, w => ∃ o v, ops[i]? = some o ∧ YieldsIf P ops S o v a ∧ wpT P ops S Q s (a.put o.dst v) w
  | .one i s, a, w => ∃ o, ops[i]? = some o ∧ wpList P ops (MixPost fun a' w' => S w' ∧ wpT P ops S Q s a' w') [o] a w
  | .two i s j t, a, w => (∃ o, ops[i]? = some o ∧ wpList P ops (MixPost fun a' w' => S w' ∧ wpT P ops S Q s a' w') [o] a w) ∧ (∃ o, ops[j]? = some o ∧ wpList P ops (MixPost fun a' w' => S w' ∧ wpT P ops S Q t a' w') [o] a w)
section
variable {P : Program} {ops : Array Oper} {S : World → Prop} {Q : Act → World → Prop}
theorem held_of_T (hs : Region.noSelect ops = true) (md : Region.Mode) : ∀ (n : Nat) (r : Sch) (listed : Array Bool) (a : Act) (w : World), r.long n = true → S w → r.ok md ops listed = true → wpT P ops S Q r a w → wpAnyH P md ops (MixPost fun a w => S w ∧ Q a w) S n listed a w
  | 0, .done, listed, a, w, _, hS, hB, h => ⟨by simpa [Sch.ok] using hB, hS, h⟩
  | n + 1, .pure i s, listed, a, w, hl, hS, hB, h => by
    obtain ⟨o, v, hi, hy, h⟩ := h
    simp only [Sch.ok, Bool.and_eq_true] at hB
    obtain ⟨⟨hr, hf⟩, hB⟩ := hB
    exact wpAnyH_take hi hs hf hr (fun c a w h => h) hy hS (held_of_T hs md n s _ _ _ (by simpa [Sch.long] using hl) hS hB h)
  | n + 1, .one i s, listed, a, w, hl, hS, hB, h => by
    obtain ⟨o, hi, h⟩ := h
    simp only [Sch.ok, Bool.and_eq_true, beq_iff_eq] at hB
    obtain ⟨hr, hB⟩ := hB
    refine wpAnyH_all (rs := [i]) hr (by simp) ?_
    intro j hj
    obtain rfl : j = i := by simpa using hj
    exact wpOp_mono (fun a' w' h' => ⟨h'.1, held_of_T hs md n s _ _ _ (by simpa [Sch.long] using hl) h'.1 hB h'.2⟩) (wpOp_of_list hi h)
  | n + 1, .two i s j t, listed, a, w, hl, hS, hB, h => by
    obtain ⟨⟨o, hi, h⟩, ⟨o', hj, h'⟩⟩ := h
    simp only [Sch.ok, Bool.and_eq_true, beq_iff_eq] at hB
    obtain ⟨hr, hB, hB'⟩ := hB
    simp only [Sch.long, Bool.and_eq_true] at hl
    refine wpAnyH_all (rs := [i, j]) hr (by simp) ?_
    intro k hk
    by_cases hki : k = i
    · subst hki
      exact wpOp_mono (fun a' w' h' => ⟨h'.1, held_of_T hs md n s _ _ _ hl.1 h'.1 hB h'.2⟩) (wpOp_of_list hi h)
    · obtain rfl : k = j := by simpa [hki] using hk
      exact wpOp_mono (fun a' w' h' => ⟨h'.1, held_of_T hs md n t _ _ _ hl.2 h'.1 hB' h'.2⟩) (wpOp_of_list hj h')
  | 0, .pure _ _, _, _, _, hl, _, _, _ => by simp [Sch.long] at hl
  | 0, .one _ _, _, _, _, hl, _, _, _ => by simp [Sch.long] at hl
  | 0, .two _ _ _ _, _, _, _, hl, _, _, _ => by simp [Sch.long] at hl
  | _ + 1, .done, _, _, _, hl, _, _, _ => by simp [Sch.long] at hl
/-- What the region comes to (J: of the slots in W and of the world), shown on each way of the schedule; the effects write T and what is new. -/
theorem w_tree {id : Nat} {Q : Exit → Act → World → Prop} {l : List Value} {ds : List Deferred} {w : World} (T : Nat → Prop) (sch : Sch) (W : List Nat) (J : (Nat → Value) → World → Prop) (hm : P.follows .mixedOrders = true) (hn : Region.noSelect ops = true) (hl : sch.long ops.size = true) (hB : sch.ok .any ops (Array.replicate ops.size false) = true)
    (h1 : ∀ wd, Evt (fun _ => False) w wd → w.heap.size ≤ wd.heap.size → wpT P ops (Evt T w) (fun a' w' => ∃ l', a' = ⟨l'.toArray, ds⟩ ∧ setW l' W (fun _ => undef) = setW l W (fun _ => undef) ∧ J (lget l') w') sch ⟨l.toArray, ds⟩ wd)
    (h2 : ∀ u w', Evt T w w' → w.heap.size ≤ w'.heap.size → J u w' → Q .normal ⟨(setW l W u).toArray, ds⟩ w') : (Code.region id ops true).wp P Q ⟨l.toArray, ds⟩ w := by
  have h := h1 { w with drawn := w.drawn + 1 } ⟨rfl, rfl, rfl, Nat.le_refl _, fun _ _ _ => rfl⟩ (Nat.le_refl _)
  have hS : Evt T w { w with drawn := w.drawn + 1 } := ⟨rfl, rfl, rfl, Nat.le_refl _, fun _ _ _ => rfl⟩
  have h3 := wp_region_held (id := id) (S := Evt T w) hm (held_of_T hn .any ops.size sch (Array.replicate ops.size false) ⟨l.toArray, ds⟩ _ hl hS hB h)
  exact wp_mono h3 fun e a w hh => by
    cases e with
    | normal =>
      obtain ⟨hT, l', rfl, hs, hJ⟩ := hh
      have hl' : setW l W (lget l') = l' := by rw [← setW_over W (lget l') (fun _ => undef) l, ← hs, setW_over, setW_self]
      have := h2 _ _ hT hT.size hJ
      rw [hl'] at this
      exact this
    | _ => exact hh.elim
end
section
variable {P : Program} {ops : Array Oper} {s t : Sch} {w : World} {S : World → Prop} {Q : Act → World → Prop} {ty : TypeId} {pos : String} {aft : Array Edge} {l : List Value} {ds : List Deferred} {N : Tmp} {op : Op} {i j : Nat}
theorem tt_nil {a : Act} (h : Q a w) : wpT P ops S Q .done a w := h
theorem tt_pure {v : Value} (hi : ops[i]? = some ⟨some N, op, ty, pos, aft, none⟩) (hv : ∀ w', S w' → Go1 P ⟨some N, op, ty, pos, aft, none⟩ l w' (fun u => u = v)) (h : wpT P ops S Q s ⟨(l.set N v).toArray, ds⟩ w) : wpT P ops S Q (.pure i s) ⟨l.toArray, ds⟩ w := by
  refine ⟨_, v, hi, .inl ⟨by simp [Region.wanted], fun w' hS => ?_⟩, by simpa [Act.put] using h⟩
  obtain ⟨u, hr, rfl⟩ := hv w' hS
  rw [ev_eq]
  exact hr w' (Evt.refl _ _)
theorem tt_off {g : Nat × Bool} (hi : ops[i]? = some ⟨some N, op, ty, pos, aft, some g⟩) (hw : Region.wanted ⟨some N, op, ty, pos, aft, some g⟩ (yielded ops l.toArray) = false) (h : wpT P ops S Q s ⟨(l.set N undef).toArray, ds⟩ w) : wpT P ops S Q (.pure i s) ⟨l.toArray, ds⟩ w :=
  ⟨_, undef, hi, .inr ⟨hw, rfl⟩, by simpa [Act.put] using h⟩
theorem tt_on {v : Value} {g : Nat × Bool} (hi : ops[i]? = some ⟨some N, op, ty, pos, aft, some g⟩) (hw : Region.wanted ⟨some N, op, ty, pos, aft, some g⟩ (yielded ops l.toArray) = true) (hv : ∀ w', S w' → Go1 P ⟨some N, op, ty, pos, aft, some g⟩ l w' (fun u => u = v)) (h : wpT P ops S Q s ⟨(l.set N v).toArray, ds⟩ w) : wpT P ops S Q (.pure i s) ⟨l.toArray, ds⟩ w := by
  refine ⟨_, v, hi, .inl ⟨hw, fun w' hS => ?_⟩, by simpa [Act.put] using h⟩
  obtain ⟨u, hr, rfl⟩ := hv w' hS
  rw [ev_eq]
  exact hr w' (Evt.refl _ _)
theorem tt_one {d : Option Tmp} {gd : Option (Nat × Bool)} {a : Act} (hi : ops[i]? = some ⟨d, op, ty, pos, aft, gd⟩) (h : wpList P ops (MixPost fun a' w' => S w' ∧ wpT P ops S Q s a' w') [⟨d, op, ty, pos, aft, gd⟩] a w) : wpT P ops S Q (.one i s) a w := ⟨_, hi, h⟩
theorem tt_two {d d2 : Option Tmp} {gd gd2 : Option (Nat × Bool)} {op2 : Op} {ty2 : TypeId} {pos2 : String} {aft2 : Array Edge} {a : Act} (hi : ops[i]? = some ⟨d, op, ty, pos, aft, gd⟩) (hj : ops[j]? = some ⟨d2, op2, ty2, pos2, aft2, gd2⟩)
    (h : wpList P ops (MixPost fun a' w' => S w' ∧ wpT P ops S Q s a' w') [⟨d, op, ty, pos, aft, gd⟩] a w) (h' : wpList P ops (MixPost fun a' w' => S w' ∧ wpT P ops S Q t a' w') [⟨d2, op2, ty2, pos2, aft2, gd2⟩] a w) : wpT P ops S Q (.two i s j t) a w := ⟨⟨_, hi, h⟩, ⟨_, hj, h'⟩⟩
theorem tt_done {a : Act} (hS : S w) (h : wpT P ops S Q s a w) : MixPost (fun a' w' => S w' ∧ wpT P ops S Q s a' w') .normal a w := ⟨hS, h⟩
end
end Go.Proofs.YthfnlmedelfbnaaDoorE
namespace Go.Proofs.YthfnlmedelfbnaaDoorE
open Go Go.RowKit
set_option linter.unusedSimpArgs false
set_option linter.unusedVariables false

def kindB (P : Program) (f : Field) (i : Nat) (k : Option IntKind) : Bool := f.offset == i && (f.name != "_") && (match P.underlying f.type, k with
  | some (.int k'), some k => decide (k' = k)
  | some .bool, none => true
  | _, _ => false)
def kindsB (P : Program) : List Field → Nat → List (Option IntKind) → Bool
  | [], _, [] => true
  | f :: fs, i, k :: ks => kindB P f i k && kindsB P fs (i + 1) ks
  | _, _, _ => false
def flatB (P : Program) (t : TypeId) (ks : List (Option IntKind)) : Bool :=
  (match P.underlying t with | some (.struct fs) => kindsB P fs.toList 0 ks | _ => false) && (!P.stoodInHeld t && !P.eqGuardType P.depth t)
class TFlat (P : Program) (t : TypeId) (ks : outParam (List (Option IntKind))) : Prop where
  ok : flatB P t ks = true
def fitB : Value → Option IntKind → Bool
  | .int k _, some k' => decide (k = k')
  | .bool _, none => true
  | _, _ => false
def fitsB : List Value → List (Option IntKind) → Bool
  | [], [] => true
  | v :: vs, k :: ks => fitB v k && fitsB vs ks
  | _, _ => false
theorem run_part_scal {P : Program} {t : TypeId} {cs : Array Value} {o : Nat} {v : Value} {w : World} (ht : (∃ k, P.underlying t = some (.int k)) ∨ P.underlying t = some .bool) (hv : cs[o]? = some v) : (part t cs o).run P w = .ok v w := by
  rcases ht with ⟨k, ht⟩ | ht <;> simp [part, isAgg, Sem.run_bind, run_underlying ht, hv]
theorem run_eqFields {P : Program} {w : World} {d : Nat} {XS YS : List Value} : ∀ (fs : List Field) (ks : List (Option IntKind)) (i : Nat) (xs ys : List Value), kindsB P fs i ks = true → fitsB xs ks = true → fitsB ys ks = true → XS.drop i = xs → YS.drop i = ys →
    ∃ b : Bool, (Op.eqFields (d + 1) XS.toArray YS.toArray fs).run P w = .ok b w ∧ (b = true ↔ xs = ys)
  | [], ks, i, xs, ys, hk, hx, hy, h1, h2 => by
    cases ks with
    | cons => simp [kindsB] at hk
    | nil =>
      cases xs with
      | cons => simp [fitsB] at hx
      | nil => cases ys with
        | cons => simp [fitsB] at hy
        | nil => exact ⟨true, by simp [Op.eqFields], by simp⟩
  | f :: fs, ks, i, xs, ys, hk, hx, hy, h1, h2 => by
    cases ks with
    | nil => simp [kindsB] at hk
    | cons k ks =>
      cases xs with
      | nil => simp [fitsB] at hx
      | cons x xs =>
        cases ys with
        | nil => simp [fitsB] at hy
        | cons y ys =>
          simp only [kindsB, fitsB, Bool.and_eq_true] at hk hx hy
          obtain ⟨hk0, hk⟩ := hk
          obtain ⟨hx0, hx⟩ := hx
          obtain ⟨hy0, hy⟩ := hy
          simp only [kindB, Bool.and_eq_true, beq_iff_eq, bne_iff_ne, ne_eq] at hk0
          obtain ⟨⟨ho, hn⟩, hty⟩ := hk0
          have hxi : XS.toArray[f.offset]? = some x := by
            have : (XS.drop i)[0]? = some x := by rw [h1]; rfl
            rw [List.getElem?_drop] at this
            simpa [ho] using this
          have hyi : YS.toArray[f.offset]? = some y := by
            have : (YS.drop i)[0]? = some y := by rw [h2]; rfl
            rw [List.getElem?_drop] at this
            simpa [ho] using this
          have hsc : (∃ k, P.underlying f.type = some (.int k)) ∨ P.underlying f.type = some .bool := by
            split at hty <;> first | (left; exact ⟨_, by assumption⟩) | (right; assumption) | cases hty
          have hpx := run_part_scal (P := P) (w := w) hsc hxi
          have hpy := run_part_scal (P := P) (w := w) hsc hyi
          have heq : ∃ c : Bool, (Op.equalIn (d + 1) f.type x y).run P w = .ok c w ∧ (c = true ↔ x = y) := by
            cases k with
            | some k =>
              cases x <;> simp [fitB] at hx0
              cases y <;> simp [fitB] at hy0
              rename_i kx a ky b
              subst hx0; subst hy0
              rcases hsc with ⟨k', hk'⟩ | hb
              · exact ⟨a == b, by simp [Op.equalIn, run_underlying hk'], by simp⟩
              · rw [hb] at hty; simp at hty
            | none =>
              cases x <;> simp [fitB] at hx0
              cases y <;> simp [fitB] at hy0
              rename_i a b
              rcases hsc with ⟨k', hk'⟩ | hb
              · rw [hk'] at hty; simp at hty
              · exact ⟨a == b, by simp [Op.equalIn, run_underlying hb], by simp⟩
          obtain ⟨c, hc, hce⟩ := heq
          obtain ⟨b, hb, hbe⟩ := run_eqFields (w := w) (d := d) fs ks (i + 1) xs ys hk hx hy (by rw [← List.drop_drop, h1]; rfl) (by rw [← List.drop_drop, h2]; rfl)
          cases hcc : c with
          | false =>
            refine ⟨false, ?_, ?_⟩
            · simp only [Op.eqFields, hn, ne_eq, not_false_eq_true, if_true, Sem.run_bind, hpx, hpy, hc, hcc, Result.andThen_ok, Bool.not_false, Sem.run_ite, Sem.run_pure]
            · constructor
              · intro h; cases h
              · intro h; have : x = y := by cases h; rfl
                have := hce.2 this; rw [hcc] at this; cases this
          | true =>
            refine ⟨b, ?_, ?_⟩
            · simp only [Op.eqFields, hn, ne_eq, not_false_eq_true, if_true, Sem.run_bind, hpx, hpy, hc, hcc, Result.andThen_ok, Bool.not_true, Sem.run_ite, Bool.false_eq_true, if_false, hb]
            · have hxy := hce.1 hcc
              rw [hbe, hxy]
              simp
section
variable {P : Program} {w : World} {ty : TypeId} {pos : String} {aft : Array Edge} {l : List Value} {d : Option Tmp} {g : Option (Nat × Bool)} {K : Value → Prop} {t u : TypeId} {x y : Operand} {xs ys : List Value} {ks : List (Option IntKind)}
theorem run_structEq (ht : TFlat P t ks) (hxs : fitsB xs ks = true) (hys : fitsB ys ks = true) (w : World) : ∃ b : Bool, (Op.equalIn 10000 t (.agg xs.toArray) (.agg ys.toArray)).run P w = .ok b w ∧ (b = true ↔ xs = ys) := by
  have hk := ht.ok
  unfold flatB at hk
  simp only [Bool.and_eq_true, Bool.not_eq_true'] at hk
  obtain ⟨h1, h2, _⟩ := hk
  cases hu : P.underlying t with
  | none => simp [hu] at h1
  | some dd =>
    cases dd <;> simp [hu] at h1
    rename_i fs
    have hf : P.fieldsOf t = fs := by simp [Program.fieldsOf, hu]
    rw [run_equalIn_struct w 9999 t xs.toArray ys.toArray (by rw [hf]; exact hu) h2, hf]
    exact run_eqFields (d := 9998) fs.toList ks 0 xs ys h1 hxs hys rfl rfl
theorem g_eqlS (hx : ev l x = .agg xs.toArray) (hy : ev l y = .agg ys.toArray) [ht : TFlat P t ks] (hxs : fitsB xs ks = true) (hys : fitsB ys ks = true) (h1 : xs = ys → K (.bool true)) (h2 : xs ≠ ys → K (.bool false)) : Go1 P ⟨d, .binOp .eql t x y u, ty, pos, aft, g⟩ l w K := by
  have hg : P.eqGuardType P.depth t = false := by have := ht.ok; unfold flatB at this; simp only [Bool.and_eq_true, Bool.not_eq_true'] at this; exact this.2.2
  by_cases c : xs = ys
  · refine ⟨.bool true, fun w' _ => ?_, h1 c⟩
    obtain ⟨b, hb, hbe⟩ := run_structEq (P := P) ht hxs hys w'
    rw [hbe.2 c] at hb
    simp [execOp, hx, hy, Sem.run_bind, run_eqGuard_agg _ _ _ _ _ _ _ hg, run_eql_struct, hb]
  · refine ⟨.bool false, fun w' _ => ?_, h2 c⟩
    obtain ⟨b, hb, hbe⟩ := run_structEq (P := P) ht hxs hys w'
    have hbf : b = false := by cases hh : b with
      | false => rfl
      | true => exact absurd (hbe.1 hh) c
    rw [hbf] at hb
    simp [execOp, hx, hy, Sem.run_bind, run_eqGuard_agg _ _ _ _ _ _ _ hg, run_eql_struct, hb]
theorem g_neqS (hx : ev l x = .agg xs.toArray) (hy : ev l y = .agg ys.toArray) [ht : TFlat P t ks] (hxs : fitsB xs ks = true) (hys : fitsB ys ks = true) (h1 : xs ≠ ys → K (.bool true)) (h2 : xs = ys → K (.bool false)) : Go1 P ⟨d, .binOp .neq t x y u, ty, pos, aft, g⟩ l w K := by
  have hg : P.eqGuardType P.depth t = false := by have := ht.ok; unfold flatB at this; simp only [Bool.and_eq_true, Bool.not_eq_true'] at this; exact this.2.2
  by_cases c : xs = ys
  · refine ⟨.bool false, fun w' _ => ?_, h2 c⟩
    obtain ⟨b, hb, hbe⟩ := run_structEq (P := P) ht hxs hys w'
    rw [hbe.2 c] at hb
    simp [execOp, hx, hy, Sem.run_bind, run_eqGuard_agg _ _ _ _ _ _ _ hg, run_neq_struct, hb]
  · refine ⟨.bool true, fun w' _ => ?_, h1 c⟩
    obtain ⟨b, hb, hbe⟩ := run_structEq (P := P) ht hxs hys w'
    have hbf : b = false := by cases hh : b with
      | false => rfl
      | true => exact absurd (hbe.1 hh) c
    rw [hbf] at hb
    simp [execOp, hx, hy, Sem.run_bind, run_eqGuard_agg _ _ _ _ _ _ _ hg, run_neq_struct, hb]
end
end Go.Proofs.YthfnlmedelfbnaaDoorE
namespace Go.Proofs.YthfnlmedelfbnaaDoorE
open Go Go.RowKit
set_option linter.unusedSimpArgs false
set_option linter.unusedVariables false

section
variable {P : Program} {w : World} {ty : TypeId} {pos : String} {aft : Array Edge} {l : List Value} {d : Option Tmp} {g : Option (Nat × Bool)} {K : Value → Prop}
/-- Where x[lo:] begins. -/
def from_ (A : Option Addr) (cap sz i : Nat) : Option Addr := if cap = i then A else A.map (·.add (i * sz))
theorem g_sliceLA {t e : TypeId} {x y : Operand} {A : Option Addr} {len cap sz bytes : Nat} {i : Int} (hx : ev l x = .slice A len cap) (hy : ev l y = .int .i64 i) [ht : TSlice P t e sz bytes] (h0 : 0 ≤ i) (h1 : i ≤ len)
    (h : K (.slice (from_ A cap sz i.toNat) (len - i.toNat) (cap - i.toNat))) : Go1 P ⟨d, .slice t x (some y) none none, ty, pos, aft, g⟩ l w K := by
  refine ⟨_, fun w' hw' => ?_, h⟩
  have hs : ∀ w, (sizeOf e).run P w = .ok sz w := fun w => run_sizeOf (by have := ht.info; cases hq : P.info? e <;> simp_all) w
  have hc : 0 ≤ i ∧ i ≤ (len : Int) := ⟨h0, h1⟩
  simp only [execOp, hx, hy, Option.map_some, Option.map_none, Instr.sliceAt, Sem.run_bind, run_underlying ht.ok, Result.andThen_ok, Instr.slice, Instr.sliceBounds, Sem.run_pure, Instr.sliceBound, asIntOf]
  rw [if_pos hc]
  simp only [Sem.run_pure, Result.andThen_ok, hs, from_]
end
theorem stop_reg {P : Program} {Q : Exit → Act → World → Prop} {a : Act} {w : World} {id : Nat} {ops : Array Oper} {dr : Bool} (h : Stop ((Code.region id ops dr).wp P Q a w)) : (Code.region id ops dr).wp P Q a w := h
end Go.Proofs.YthfnlmedelfbnaaDoorE
namespace Go.Proofs.YthfnlmedelfbnaaDoorE
open Go Go.RowKit
set_option linter.unusedSimpArgs false
set_option linter.unusedVariables false

/-- Cells that can be read from A on. -/
def RC (w : World) (A : Option Addr) (cs : List Value) : Prop := 0 < cs.length → ∃ b o, A = some ⟨b, o, none⟩ ∧ ∀ j v, cs[j]? = some v → w.cell? ⟨b, o + j, none⟩ = some v
theorem RC.evt {S : Nat → Prop} {w w' : World} {A : Option Addr} {cs : List Value} (h : RC w A cs) (he : Evt S w w') (hs : ∀ b o, A = some ⟨b, o, none⟩ → ¬ S b) : RC w' A cs := fun hn => by
  obtain ⟨b, o, rfl, hc⟩ := h hn
  exact ⟨b, o, rfl, fun j v hj => cell_evt he (hc j v hj) (hs b o rfl)⟩
theorem RC.up {w w' : World} {A : Option Addr} {cs : List Value} (h : RC w A cs) (he : Evt (fun _ => False) w w') : RC w' A cs := h.evt he (fun _ _ _ => id)
theorem RC.nil (w : World) (A : Option Addr) : RC w A [] := fun h => by simp at h
theorem RC.blk {w : World} {g : Nat} {t : TypeId} {cs xs : List Value} (h : Blk w g t cs) (k : Nat) (hx : cs.take k = xs) : RC w (some ⟨g, 0, none⟩) xs := fun _ => ⟨g, 0, rfl, fun j v hj => by
  rw [Nat.zero_add, h.cell?]
  rw [← hx, List.getElem?_take] at hj
  split at hj
  · exact hj
  · cases hj⟩
theorem own_blk_of {w : World} {e : TypeId} {sz n : Nat} {v : Value} {xs : List Value} (h : w.ownsRow 0 e sz v n xs) : (v = .slice none 0 0 ∧ n = 0) ∨ ∃ g cap cur, v = .slice (some ⟨g, 0, none⟩) n cap ∧ Blk w g e cur ∧ cur.take (n * sz) = xs ∧ cur.length = cap * sz ∧ n ≤ cap ∧ cap ≤ maxLen := by
  rcases h.2 with h' | ⟨g', cap', cur, h', _, hg, hn, hm, hs, ht⟩
  · exact .inl h'
  · exact .inr ⟨g', cap', cur.toList, h', by simpa [Blk] using hg, ht, by simpa using hs, hn, hm⟩
theorem RC.own {w : World} {e : TypeId} {sz n c : Nat} {A : Option Addr} {xs : List Value} (h : w.ownsRow 0 e sz (.slice A n c) n xs) : RC w A xs := by
  rcases own_blk_of h with ⟨h1, h2⟩ | ⟨g, cap, cur, h1, hb, ht, _⟩
  · have := h.1
    simp only [h2, Nat.zero_mul] at this
    rw [List.eq_nil_of_length_eq_zero this]
    exact RC.nil _ _
  · simp only [Value.slice.injEq] at h1
    rw [h1.1]
    exact RC.blk hb _ ht
theorem Blk.ne {w : World} {a b : Nat} {t u : TypeId} {cs ds : List Value} (h : Blk w a t cs) (k : Blk w b u ds) (hn : t ≠ u) : a ≠ b := by
  rintro rfl
  unfold Blk at h k
  rw [h] at k
  simp at k
  exact hn k.2

section
variable {P : Program} {ops : Array Oper} {rest : List Oper} {w : World} {Q : Exit → Act → World → Prop} {ty : TypeId} {pos : String} {aft : Array Edge} {l : List Value} {ds : List Deferred} {N : Tmp}
/-- append of cells that are read, onto a row of the call's own. -/
theorem run_appC {t e : TypeId} {sz bytes n m c : Nat} {z v : Value} {A : Option Addr} {xs news : List Value} [ht : TSlice P t e sz bytes] [hz : TZero P e z] (hzs : z.cells.size = sz) (hsz : 0 < sz)
    (hown : w.ownsRow 0 e sz v n xs) (hl : news.length = m * sz) (hr : RC w A news) (h1 : ∀ u ∈ news, u.oneCell' = true) (hb : (n + m) * bytes ≤ 140737488355328) (hm : n + m ≤ 4611686018427387904) :
    ∃ v' w1, (Builtin.append_ #[t, t] ty #[v, .slice A m c]).run P w = .ok v' w1 ∧ w1.ownsRow 0 e sz v' (n + m) (xs ++ news) ∧ Evt (fun k => v.ownBlock = some k) w w1 ∧ (v'.ownBlock = v.ownBlock ∨ v'.ownBlock = some w.heap.size) := by
  have hi := ht.info
  have hz' := hz.ok
  cases hq : P.info? e with
  | none => simp [hq] at hi
  | some inf =>
    simp only [hq, Option.map_some, Option.some.injEq, Prod.mk.injEq] at hi hz'
    cases A with
    | none =>
      have h0 : news = [] := by
        rcases Nat.eq_zero_or_pos news.length with h0 | h0
        · exact List.eq_nil_of_length_eq_zero h0
        · obtain ⟨b, o, h1, _⟩ := hr h0; cases h1
      subst h0
      have hm0 : m = 0 := by
        rcases Nat.eq_zero_or_pos m with h | h
        · exact h
        · have := Nat.mul_pos h hsz; simp at hl; omega
      subst hm0
      refine ⟨v, w, ?_, by simpa using hown, Evt.refl _ _, .inl rfl⟩
      rcases own_blk_of hown with ⟨rfl, h2⟩ | ⟨g, cap, cur, rfl, _, _, _, hcap, _⟩
      · simp [Builtin.append_, run_underlying ht.ok, sizeOf, typeInfo, hq, Builtin.lenOf, Builtin.firstCells, loadCells, loadCellsFrom]
      · simp [Builtin.append_, run_underlying ht.ok, sizeOf, typeInfo, hq, Builtin.lenOf, Builtin.firstCells, loadCells, loadCellsFrom, hcap, storeCells]
    | some a =>
      have hnews : ∀ j u, news[j]? = some u → w.cell? (a.add j) = some u := by
        intro j u hu
        have hj : j < news.length := (List.getElem?_eq_some_iff.1 hu).1
        obtain ⟨b, o, h1, hc⟩ := hr (by omega)
        cases h1
        rw [add_off]
        exact hc j u hu
      obtain ⟨v', w1, h1, h2, h3, _, h5⟩ := run_append_own_at (P := P) w 0 t ty e inf z sz bytes ht.ok hq hz' hi.1 hi.2 hzs hsz v n xs hown a m c news hl hnews h1 (by simp only [maxLen]; omega) hb (Nat.zero_le _)
      exact ⟨v', w1, h1, h2, Evt.of_grown h3, h5⟩
theorem e_appC {t e : TypeId} {sz bytes n m c : Nat} {z v : Value} {A : Option Addr} {x y : Operand} {xs news : List Value} (hx : ev l x = v) (hy : ev l y = .slice A m c) [ht : TSlice P t e sz bytes] [hz : TZero P e z] (hzs : z.cells.size = sz) (hsz : 0 < sz)
    (hown : w.ownsRow 0 e sz v n xs) (hl : news.length = m * sz) (hr : RC w A news) (h1 : ∀ u ∈ news, u.oneCell' = true) (hb : (n + m) * bytes ≤ 140737488355328) (hm : n + m ≤ 4611686018427387904)
    (h : ∀ v' w1, w1.ownsRow 0 e sz v' (n + m) (xs ++ news) → Evt (fun k => v.ownBlock = some k) w w1 → (v'.ownBlock = v.ownBlock ∨ v'.ownBlock = some w.heap.size) → w.heap.size ≤ w1.heap.size → wpList P ops Q rest ⟨(l.set N v').toArray, ds⟩ w1) :
    wpList P ops Q (⟨some N, .call { callee := .builtin .append, args := #[x, y], argTypes := #[t, t] }, ty, pos, aft, none⟩ :: rest) ⟨l.toArray, ds⟩ w := by
  obtain ⟨v', w1, hrun, h2, h3, h5⟩ := run_appC (P := P) (ty := ty) (t := t) (c := c) hzs hsz hown hl hr h1 hb hm
  refine l_event (v := v') (w' := w1) ?_ (h v' w1 h2 h3 h5 h3.size)
  simp only [execOp, Sem.run_bind, resolve, List.map_toArray, List.map_cons, List.map_nil, hx, hy, invoke, builtin, Sem.run_pure, Result.andThen_ok]
  first | (rw [hrun]; rfl) | (simp only [Sem.run_bind, hrun, Result.andThen_ok]; rfl)

/-! ### rows of one cell an element that may begin inside a block -/
def tailBlk : Value → Option Nat
  | .slice (some a) _ (_ + 1) => some a.block
  | _ => none
structure Tail (w : World) (e : TypeId) (v : Value) (xs : List Value) : Prop where
  ok : ∃ A c, v = .slice A xs.length c ∧ xs.length ≤ c ∧ c ≤ maxLen ∧ (c = 0 ∨ ∃ b o cur, A = some ⟨b, o, none⟩ ∧ Blk w b e cur ∧ cur.length = o + c ∧ (cur.drop o).take xs.length = xs)
theorem tailBlk_some {b o n c : Nat} (h : 0 < c) : tailBlk (.slice (some ⟨b, o, none⟩) n c) = some b := by
  cases c with
  | zero => omega
  | succ c => rfl
theorem tailBlk_zero {A : Option Addr} {n : Nat} : tailBlk (.slice A n 0) = none := by cases A <;> rfl
theorem Tail.nil (w : World) (e : TypeId) : Tail w e (.slice none 0 0) [] := ⟨none, 0, rfl, Nat.le_refl _, by simp [maxLen], .inl rfl⟩
theorem Tail.evt {S : Nat → Prop} {w w' : World} {e : TypeId} {v : Value} {xs : List Value} (h : Tail w e v xs) (he : Evt S w w') (hs : ∀ k, tailBlk v = some k → ¬ S k) : Tail w' e v xs := by
  obtain ⟨A, c, rfl, h1, h2, h3⟩ := h.ok
  refine ⟨A, c, rfl, h1, h2, ?_⟩
  rcases h3 with h3 | ⟨b, o, cur, rfl, hb, hl, ht⟩
  · exact .inl h3
  · rcases Nat.eq_zero_or_pos c with h0 | h0
    · exact .inl h0
    · exact .inr ⟨b, o, cur, rfl, hb.evt he (hs b (tailBlk_some h0)), hl, ht⟩
theorem Tail.up {w w' : World} {e : TypeId} {v : Value} {xs : List Value} (h : Tail w e v xs) (he : Evt (fun _ => False) w w') : Tail w' e v xs := h.evt he (fun _ _ => id)
theorem Tail.lt {w : World} {e : TypeId} {v : Value} {xs : List Value} (h : Tail w e v xs) : ∀ k, tailBlk v = some k → k < w.heap.size := by
  intro k hk
  obtain ⟨A, c, rfl, h1, h2, h3⟩ := h.ok
  rcases h3 with rfl | ⟨b, o, cur, rfl, hb, hl, ht⟩
  · rw [tailBlk_zero] at hk; cases hk
  · rcases Nat.eq_zero_or_pos c with rfl | h0
    · rw [tailBlk_zero] at hk; cases hk
    · rw [tailBlk_some h0] at hk
      cases hk
      exact hb.lt
theorem Tail.typ {w : World} {e : TypeId} {v : Value} {xs : List Value} (h : Tail w e v xs) : ∀ k, tailBlk v = some k → ∃ cur, Blk w k e cur := by
  intro k hk
  obtain ⟨A, c, rfl, h1, h2, h3⟩ := h.ok
  rcases h3 with rfl | ⟨b, o, cur, rfl, hb, hl, ht⟩
  · rw [tailBlk_zero] at hk; cases hk
  · rcases Nat.eq_zero_or_pos c with rfl | h0
    · rw [tailBlk_zero] at hk; cases hk
    · rw [tailBlk_some h0] at hk
      cases hk
      exact ⟨cur, hb⟩
theorem Tail.rc {w : World} {e : TypeId} {A : Option Addr} {n c : Nat} {xs : List Value} (h : Tail w e (.slice A n c) xs) : RC w A xs := by
  obtain ⟨A', c', he, h1, h2, h3⟩ := h.ok
  simp only [Value.slice.injEq] at he
  obtain ⟨rfl, _, rfl⟩ := he
  intro hn
  rcases h3 with rfl | ⟨b, o, cur, rfl, hb, hl, ht⟩
  · omega
  · refine ⟨b, o, rfl, fun j v hj => ?_⟩
    rw [hb.cell?]
    rw [← ht, List.getElem?_take] at hj
    split at hj
    · rw [List.getElem?_drop] at hj; exact hj
    · cases hj
/-- x[1:]. -/
theorem Tail.tl {w : World} {e : TypeId} {A : Option Addr} {n c : Nat} {x : Value} {xs : List Value} (h : Tail w e (.slice A n c) (x :: xs)) : Tail w e (.slice (from_ A c 1 1) (n - 1) (c - 1)) xs ∧ (∀ k, tailBlk (.slice (from_ A c 1 1) (n - 1) (c - 1)) = some k → tailBlk (.slice A n c) = some k) := by
  obtain ⟨A', c', he, h1, h2, h3⟩ := h.ok
  simp only [Value.slice.injEq] at he
  obtain ⟨rfl, hn, rfl⟩ := he
  simp only [List.length_cons] at hn h1
  subst hn
  rcases h3 with rfl | ⟨b, o, cur, rfl, hb, hl, ht⟩
  · omega
  · by_cases hc1 : c = 1
    · subst hc1
      exact ⟨⟨⟨_, 0, by rw [Nat.add_sub_cancel], by omega, by simp [maxLen], .inl rfl⟩⟩, fun k hk => by rw [tailBlk_zero] at hk; cases hk⟩
    · have hf : from_ (some ⟨b, o, none⟩) c 1 1 = some ⟨b, o + 1, none⟩ := by simp [from_, hc1, add_off]
      rw [hf]
      refine ⟨⟨⟨_, c - 1, by rw [Nat.add_sub_cancel], by omega, by omega, .inr ⟨b, o + 1, cur, rfl, hb, by omega, ?_⟩⟩⟩, fun k hk => ?_⟩
      · have h4 := congrArg (List.drop 1) ht
        simp only [List.length_cons, List.drop_succ_cons, List.drop_zero] at h4
        rw [List.drop_take, List.drop_drop, Nat.add_sub_cancel] at h4
        exact h4
      · rw [tailBlk_some (by omega)] at hk
        rw [tailBlk_some (by omega)]
        exact hk
/-- append of a string's bytes. -/
theorem run_tailStr {t u e : TypeId} {v : Value} {xs : List Value} {s : ByteArray} [ht : TSlice P t e 1 1] [hu : TStr P u] [hz : TZero P e (.int .u8 0)] (h : Tail w e v xs) (hb : xs.length + s.size ≤ 1000000000) :
    ∃ v' w1, (Builtin.append_ #[t, u] ty #[v, .string s]).run P w = .ok v' w1 ∧ Tail w1 e v' (xs ++ Lib.strCells s) ∧ Evt (fun k => tailBlk v = some k) w w1 ∧ (∀ k, tailBlk v' = some k → tailBlk v = some k ∨ k = w.heap.size) := by
  have hi := ht.info
  have hz' := hz.ok
  have hls := Lib.strCells_length s
  have hl : (xs ++ Lib.strCells s).length = xs.length + s.size := by rw [List.length_append, hls]
  cases hq : P.info? e with
  | none => simp [hq] at hi
  | some inf =>
    simp only [hq, Option.map_some, Option.some.injEq, Prod.mk.injEq] at hi hz'
    have hf := fun w => Lib.run_firstCells_string (P := P) w 1 s
    obtain ⟨A, c, rfl, h1, h2, h3⟩ := h.ok
    by_cases hroom : xs.length + s.size ≤ c
    · rcases h3 with rfl | ⟨b, o, cur, rfl, hblk, hcl, htk⟩
      · have hs0 : Lib.strCells s = [] := List.eq_nil_of_length_eq_zero (by omega)
        have hs1 : s.size = 0 := by omega
        refine ⟨.slice A xs.length 0, w, ?_, by rw [hs0, List.append_nil]; exact h, Evt.refl _ _, fun k hk => .inl hk⟩
        have hx0 : xs.length = 0 := by omega
        have hf0 := hf w
        rw [hs0, hs1] at hf0
        cases A <;> simp [Builtin.append_, run_underlying ht.ok, run_underlying hu.ok, sizeOf, typeInfo, hq, hi, Builtin.lenOf, hs1, hx0, hf0, storeCells]
      · obtain ⟨w1, hst, hb1, he1⟩ := run_storeCells (P := P) (g := b) (t' := e) (o + xs.length) (Lib.strCells s) w 0 cur hblk (Lib.strCells_oneCell s) (by omega)
        have hcpos : 0 < c ∨ c = 0 := by omega
        rcases hcpos with hcpos | rfl
        · refine ⟨.slice (some ⟨b, o, none⟩) (xs.length + s.size) c, w1, ?_, ⟨_, c, by rw [hl], by omega, h2, .inr ⟨b, o, _, rfl, hb1, by rw [splice_length]; exact hcl, ?_⟩⟩, he1.mono (fun k _ hk => by rw [tailBlk_some hcpos, hk]), fun k hk => .inl (by rw [tailBlk_some hcpos] at hk ⊢; exact hk)⟩
          · simp [Builtin.append_, run_underlying ht.ok, run_underlying hu.ok, sizeOf, typeInfo, hq, hi, Builtin.lenOf, hroom, hf, add_off, hst]
          · have hcur : cur = (cur.take (o + xs.length)) ++ (cur.drop (o + xs.length)).take s.size ++ cur.drop (o + xs.length + s.size) := by
              conv => lhs; rw [← List.take_append_drop (o + xs.length) cur, ← List.take_append_drop s.size (cur.drop (o + xs.length)), List.drop_drop]
              rw [List.append_assoc]
            have h4 : ((cur.drop (o + xs.length)).take s.size).length = (Lib.strCells s).length := by rw [List.length_take, List.length_drop]; omega
            have h5 : (cur.take (o + xs.length)).length = o + xs.length := by rw [List.length_take]; omega
            have h6 := splice_mid (Lib.strCells s) (cur.take (o + xs.length)) ((cur.drop (o + xs.length)).take s.size) (cur.drop (o + xs.length + s.size)) h4
            rw [← hcur, h5] at h6
            rw [Nat.add_zero, h6, hl]
            have h7 : (cur.take (o + xs.length)).drop o = xs := by rw [List.drop_take, show o + xs.length - o = xs.length by omega]; exact htk
            rw [List.append_assoc, List.drop_append, h7]
            have h8 : o - (cur.take (o + xs.length)).length = 0 := by omega
            rw [h8, List.drop_zero, ← List.append_assoc]
            rw [List.take_append_of_le_length (by rw [hl]; exact Nat.le_refl _), List.take_of_length_le (by rw [hl]; exact Nat.le_refl _)]
        · have hs0 : Lib.strCells s = [] := List.eq_nil_of_length_eq_zero (by omega)
          have hs1 : s.size = 0 := by omega
          have hx0 : xs.length = 0 := by omega
          have hf0 := hf w
          rw [hs0, hs1] at hf0
          refine ⟨.slice (some ⟨b, o, none⟩) xs.length 0, w, ?_, by rw [hs0, List.append_nil]; exact h, Evt.refl _ _, fun k hk => .inl hk⟩
          simp [Builtin.append_, run_underlying ht.ok, run_underlying hu.ok, sizeOf, typeInfo, hq, hi, Builtin.lenOf, hs1, hx0, hf0, storeCells]
    · have hfo : ∀ w', w'.heap = w.heap → (Builtin.firstCells 1 xs.length (.slice A xs.length c)).run P w' = .ok xs.toArray w' := by
        intro w' hw'
        rcases Nat.eq_zero_or_pos xs.length with h0 | h0
        · have hx := List.eq_nil_of_length_eq_zero h0
          subst hx
          cases A <;> simp [Builtin.firstCells, loadCells, loadCellsFrom]
        · obtain ⟨b, o, hA, hc⟩ := h.rc h0
          subst hA
          refine run_firstCells_some w' 1 xs.length ⟨b, o, none⟩ xs.length c xs (by omega) (fun j u hu => ?_)
          have h9 := hc j u hu
          simpa [World.cell?, hw', add_off] using h9
      have hn : ¬ (xs.length + s.size ≤ c) := hroom
      have hge := grownCap_ge w (xs.length + s.size) c e
      have hcm : grownCap w (xs.length + s.size) c e ≤ maxLen := grownCap_le_maxLen w (xs.length + s.size) c e (by simp only [maxLen]; omega)
      have h63' : ¬ (9223372036854775807 < ((xs.length : Int) + (s.size : Int))) := by omega
      have hfit : Builtin.nextslicecap (xs.length + s.size) c * inf.bytes ≤ 281474976710656 := growslice_fits (by omega) (by rw [hi.2]; omega)
      have h48' : ¬ (281474976710656 < Builtin.nextslicecap (xs.length + s.size) c) := by rw [hi.2] at hfit; omega
      have hfo' := hfo w.drew rfl
      have hf' := hf w.drew
      refine ⟨.slice (some ⟨w.heap.size, 0, none⟩) (xs.length + s.size) (grownCap w (xs.length + s.size) c e), w.drew.alloc (.cells (xs.toArray ++ (Lib.strCells s).toArray ++ Builtin.zeroCells (Value.int .u8 0).cells (grownCap w (xs.length + s.size) c e - (xs.length + s.size))) e), ?_, ?_, ?_, ?_⟩
      · simp [Builtin.append_, run_underlying ht.ok, run_underlying hu.ok, sizeOf, typeInfo, zeroValue, hq, hi, hz', Builtin.lenOf, hn, h63', h48', Question.forced, hfo', hf', newRow, grownCap]
        congr 2
        apply Array.ext'
        simp [List.append_assoc]
      · refine ⟨_, _, by rw [hl], by rw [hl]; exact hge, hcm, .inr ⟨w.heap.size, 0, (xs ++ Lib.strCells s ++ (Builtin.zeroCells (Value.int .u8 0).cells (grownCap w (xs.length + s.size) c e - (xs.length + s.size))).toList), rfl, ?_, ?_, ?_⟩⟩
        · show (w.drew.alloc _).heap[w.drew.heap.size]? = _
          rw [heap_alloc_new]
          congr 2
          apply Array.ext'
          simp [List.append_assoc]
        · have hz4 : (Builtin.zeroCells (Value.int .u8 0).cells (grownCap w (xs.length + s.size) c e - (xs.length + s.size))).toList.length = (grownCap w (xs.length + s.size) c e - (xs.length + s.size)) * 1 := size_zeroCells _ _
          rw [List.length_append, hl, hz4]
          omega
        · rw [List.drop_zero]
          exact List.take_left' rfl
      · exact ⟨rfl, rfl, rfl, by simp, fun k hk _ => Below.heap_alloc w.drew _ k hk⟩
      · intro k hk
        rw [tailBlk_some (by omega)] at hk
        exact .inr (Option.some.inj hk).symm
theorem e_tailStr {t u e : TypeId} {x y : Operand} {v : Value} {xs : List Value} {s : ByteArray} (hx : ev l x = v) (hy : ev l y = .string s) [ht : TSlice P t e 1 1] [hu : TStr P u] [hz : TZero P e (.int .u8 0)] (h : Tail w e v xs) (hb : xs.length + s.size ≤ 1000000000)
    (hk : ∀ v' w1, Tail w1 e v' (xs ++ Lib.strCells s) → Evt (fun k => tailBlk v = some k) w w1 → (∀ k, tailBlk v' = some k → tailBlk v = some k ∨ k = w.heap.size) → w.heap.size ≤ w1.heap.size → wpList P ops Q rest ⟨(l.set N v').toArray, ds⟩ w1) :
    wpList P ops Q (⟨some N, .call { callee := .builtin .append, args := #[x, y], argTypes := #[t, u] }, ty, pos, aft, none⟩ :: rest) ⟨l.toArray, ds⟩ w := by
  obtain ⟨v', w1, hrun, h2, h3, h5⟩ := run_tailStr (P := P) (ty := ty) (t := t) (u := u) h hb
  refine l_event (v := v') (w' := w1) ?_ (hk v' w1 h2 h3 h5 h3.size)
  simp only [execOp, Sem.run_bind, resolve, List.map_toArray, List.map_cons, List.map_nil, hx, hy, invoke, builtin, Sem.run_pure, Result.andThen_ok]
  first | (rw [hrun]; rfl) | (simp only [Sem.run_bind, hrun, Result.andThen_ok]; rfl)
end
end Go.Proofs.YthfnlmedelfbnaaDoorE
namespace Go.Proofs.YthfnlmedelfbnaaDoorE
open Go Go.RowKit
set_option linter.unusedSimpArgs false
set_option linter.unusedVariables false

theorem zO : Int.toNat 1 = 1 := rfl
/-- A string's bytes. -/
def strI (s : ByteArray) : List Int := s.data.toList.map fun b => (b.toNat : Int)
theorem strI_length (s : ByteArray) : (strI s).length = s.size := by rw [strI, List.length_map, Array.length_toList]; rfl
theorem strCells_strI (s : ByteArray) : Lib.strCells s = (strI s).map (Value.int .u8) := by simp [Lib.strCells, strI]
theorem strI_get {s : ByteArray} {i : Nat} (h : i < s.size) : (strI s)[i]? = some ((s[i]'h).toNat : Int) := by
  have h1 : i < s.data.toList.length := by rw [Array.length_toList]; exact h
  rw [strI, List.getElem?_map, List.getElem?_eq_getElem h1]
  rfl
theorem strI_range (s : ByteArray) : ∀ c ∈ strI s, 0 ≤ c ∧ c < 256 := by
  intro c hc
  simp only [strI, List.mem_map] at hc
  obtain ⟨b, _, rfl⟩ := hc
  have := b.toNat_lt
  omega
theorem str_ext {s s' : ByteArray} (h : s.toList = s'.toList) : s = s' := by
  rw [Go.ByteArray.toList_eq, Go.ByteArray.toList_eq] at h
  apply ByteArray.ext
  exact Array.ext' h
def byteAt (s : ByteArray) (i : Nat) : Int := (strI s).getD i 0
theorem byteAt_get {s : ByteArray} {i : Nat} (h : i < s.size) : byteAt s i = ((s[i]'h).toNat : Int) := by
  rw [byteAt, List.getD_eq_getElem?_getD, strI_get h]; rfl
theorem byteAt_range (s : ByteArray) (i : Nat) : 0 ≤ byteAt s i ∧ byteAt s i < 256 := by
  by_cases h : i < s.size
  · rw [byteAt_get h]; have := (s[i]'h).toNat_lt; omega
  · rw [byteAt, List.getD_eq_getElem?_getD, List.getElem?_eq_none (by rw [strI_length]; omega)]; simp
class TMap (P : Program) (t k e : TypeId) : Prop where
  ok : P.underlying t = some (.map k e)
/-- Block b is a map whose keys are these numbers. -/
def SeenAt (P : Program) (k : TypeId) (w : World) (b n : Nat) (ids : List Int) : Prop := ∃ D : DataW Unit, w.ownsMap P k (plainElem P k) b n D ∧ ∀ a, (Lit.int .i64 a).wf = true → Maps.has D (.int .i64 a) = decide (a ∈ ids)
theorem SeenAt.lt {P : Program} {k : TypeId} {w : World} {b n : Nat} {ids : List Int} (h : SeenAt P k w b n ids) : b < w.heap.size := by
  obtain ⟨D, h1, _⟩ := h
  exact h1.lt
theorem SeenAt.evt {P : Program} {k : TypeId} {S : Nat → Prop} {w w' : World} {b n : Nat} {ids : List Int} (h : SeenAt P k w b n ids) (he : Evt S w w') (hs : ¬ S b) : SeenAt P k w' b n ids := by
  obtain ⟨D, ⟨es, clock, hb, F, hn, hD⟩, h2⟩ := h
  have hlt := (Array.getElem?_eq_some_iff.1 hb).1
  exact ⟨D, ⟨es, clock, (he.block b hlt hs).trans hb, F, hn, hD⟩, h2⟩
theorem SeenAt.ne {P : Program} {k : TypeId} {w : World} {b n g : Nat} {ids : List Int} {t : TypeId} {cs : List Value} (h : SeenAt P k w b n ids) (hg : Blk w g t cs) : g ≠ b := by
  rintro rfl
  obtain ⟨D, ⟨es, clock, hb, _⟩, _⟩ := h
  unfold Blk at hg
  rw [hg] at hb
  cases hb
section
variable {P : Program} {w : World} {ty : TypeId} {pos : String} {aft : Array Edge} {l : List Value} {d : Option Tmp} {g : Option (Nat × Bool)} {K : Value → Prop}
variable {t u : TypeId} {x y : Operand} {a b i : Int}
theorem g_eqlStr {s s' : ByteArray} (hx : ev l x = .string s) (hy : ev l y = .string s') (h1 : s = s' → K (.bool true)) (h2 : s ≠ s' → K (.bool false)) : Go1 P ⟨d, .binOp .eql t x y u, ty, pos, aft, g⟩ l w K := by
  by_cases c : s = s'
  · exact ⟨_, fun n _ => by simp [execOp, hx, hy, go_sem, c], h1 c⟩
  · exact ⟨_, fun n _ => by simp [execOp, hx, hy, go_sem]; exact fun h => c (str_ext h), h2 c⟩
theorem g_indexStr {s : ByteArray} (hx : ev l x = .string s) (hy : ev l y = .int .i64 i) [ht : TStr P t] (h0 : 0 ≤ i) (h1 : i < s.size) (h : K (.int .u8 (byteAt s i.toNat))) : Go1 P ⟨d, .index t x y, ty, pos, aft, g⟩ l w K := by
  refine ⟨_, fun n _ => ?_, h⟩
  have hlt : i.toNat < s.size := by omega
  have e : s[i.toNat]? = some (s[i.toNat]'hlt) := by simp [hlt]
  rw [byteAt_get hlt]
  simp [execOp, hx, hy, Instr.index, Sem.run_bind, asIntOf, run_underlying ht.ok, h0, e]
theorem g_sliceStrH {s : ByteArray} (hx : ev l x = .string s) (hy : ev l y = .int .i64 i) [ht : TStr P t] (h0 : 0 ≤ i) (h1 : i ≤ s.size) (h : K (.string (s.extract 0 i.toNat))) : Go1 P ⟨d, .slice t x none (some y) none, ty, pos, aft, g⟩ l w K := by
  refine ⟨_, fun n _ => ?_, h⟩
  have hc : 0 ≤ i ∧ i ≤ (s.size : Int) := ⟨h0, h1⟩
  simp only [execOp, hx, hy, Option.map_some, Option.map_none, Instr.sliceAt, Sem.run_bind, run_underlying ht.ok, Result.andThen_ok, Instr.slice, Instr.sliceBounds, Sem.run_pure, Instr.sliceBound, asIntOf]
  simp [hc]
theorem g_sliceStrL {s : ByteArray} (hx : ev l x = .string s) (hy : ev l y = .int .i64 i) [ht : TStr P t] (h0 : 0 ≤ i) (h1 : i ≤ s.size) (h : K (.string (s.extract i.toNat s.size))) : Go1 P ⟨d, .slice t x (some y) none none, ty, pos, aft, g⟩ l w K := by
  refine ⟨_, fun n _ => ?_, h⟩
  have hc : 0 ≤ i ∧ i ≤ (s.size : Int) := ⟨h0, h1⟩
  simp only [execOp, hx, hy, Option.map_some, Option.map_none, Instr.sliceAt, Sem.run_bind, run_underlying ht.ok, Result.andThen_ok, Instr.slice, Instr.sliceBounds, Sem.run_pure, Instr.sliceBound, asIntOf]
  simp [hc]
theorem g_subU8 (hx : ev l x = .int .u8 a) (hy : ev l y = .int .u8 b) (h0 : 0 ≤ a - b) (h1 : a - b < 256) (h : K (.int .u8 (a - b))) : Go1 P ⟨d, .binOp .sub t x y u, ty, pos, aft, g⟩ l w K :=
  g_sub hx hy (by rw [show IntKind.u8.wrap (a - b) = a - b from IntWalk.u8_in _ ⟨h0, by omega⟩]; exact h)
/-- v, ok := m[k] -/
theorem g_lookI {k : TypeId} {bl n : Nat} {ids : List Int} (hx : ev l x = .map (some bl)) (hy : ev l y = .int .i64 a) [ht : TMap P t k k] [hk : TInt P k .i64] [hz : TZero P k (.int .i64 0)] (hs : ∀ w', Evt (fun _ => False) w w' → SeenAt P k w' bl n ids) (h0 : -9223372036854775808 ≤ a) (h1 : a ≤ 9223372036854775807)
    (h : ∀ c, K (.tuple [.int .i64 c, .bool (decide (a ∈ ids))].toArray)) : Go1 P ⟨d, .lookup t x y true, ty, pos, aft, g⟩ l w K := by
  have hw : (Lit.int .i64 a).wf = true := WalkArith.wf_i64 (by omega)
  have key := Maps.keyOf_int_mk hk.ok hw
  have lookup : ∀ (D : DataW Unit) w', w'.ownsMap P k (plainElem P k) bl n D → ∃ c, (Instr.lookup t (.map (some bl)) (.int .i64 a) true).run P w' = .ok (.tuple #[.int .i64 c, .bool (Maps.has D (.int .i64 a))]) w' ∧ D.atKey (.int .i64 a) (.lit (.int .i64 0)) = .lit (.int .i64 c) := by
    intro D w' ho
    obtain ⟨v, ps, hrun, hv⟩ := ho.look_ok (Maps.int_keyed hk.ok) ht.ok (run_zeroValue hz w') (plainElem_int hk.ok (by decide)) key
    obtain ⟨c, rfl, hc, _⟩ := plainElem_int_inv hk.ok hv
    exact ⟨c, hrun, congrArg Prod.fst hc⟩
  obtain ⟨D, ho, hh⟩ := hs w (Evt.refl _ _)
  obtain ⟨c, _, hc⟩ := lookup D w ho
  refine ⟨_, fun w' he => ?_, h c⟩
  obtain ⟨es, clock, hb, F, hn, hD⟩ := ho
  have ho' : w'.ownsMap P k (plainElem P k) bl n D := ⟨es, clock, (he.block bl (Array.getElem?_eq_some_iff.1 hb).1 id).trans hb, F, hn, hD⟩
  obtain ⟨c', hrun, hc'⟩ := lookup D w' ho'
  rw [hc] at hc'
  cases hc'
  rw [hh a hw] at hrun
  simp [execOp, hx, hy, hrun]
end
section
variable {P : Program} {ops : Array Oper} {rest : List Oper} {w : World} {Q : Exit → Act → World → Prop} {ty : TypeId} {pos : String} {aft : Array Edge} {l : List Value} {ds : List Deferred} {N : Tmp}
theorem e_rangeStr {t : TypeId} {x : Operand} {s : ByteArray} (hx : ev l x = .string s) [ht : TStr P t]
    (h : ∀ k w1, w.heap.size ≤ k → k < w1.heap.size → w1.heap[k]? = some (.stringIter s 0) → Evt (fun _ => False) w w1 → w.heap.size ≤ w1.heap.size → wpList P ops Q rest ⟨(l.set N (.pointer (some ⟨k, 0, none⟩))).toArray, ds⟩ w1) :
    wpList P ops Q (⟨some N, .range t x, ty, pos, aft, none⟩ :: rest) ⟨l.toArray, ds⟩ w := by
  refine l_event (v := .pointer (some ⟨w.heap.size, 0, none⟩)) (w' := w.iter s 0) ?_ (h _ _ (Nat.le_refl _) (by simp [World.iter]) (World.iter_heap w s 0) (Evt.alloc _ _) (by simp [World.iter]))
  simp [execOp, hx, run_range_string w t s ht.ok]
theorem e_next {x : Operand} {k p : Nat} {s : ByteArray} (hx : ev l x = .pointer (some ⟨k, 0, none⟩)) (hk : w.heap[k]? = some (.stringIter s p))
    (h1 : p < s.size → ∀ w1, w1.heap[k]? = some (.stringIter s (p + (Utf8.decode s p).2)) → Evt (fun j => j = k) w w1 → w.heap.size ≤ w1.heap.size → wpList P ops Q rest ⟨(l.set N (.tuple [.bool true, .int .i64 p, .int .i32 (Utf8.decode s p).1].toArray)).toArray, ds⟩ w1)
    (h2 : s.size ≤ p → wpList P ops Q rest ⟨(l.set N (.tuple [.bool false].toArray)).toArray, ds⟩ w) :
    wpList P ops Q (⟨some N, .next x true, ty, pos, aft, none⟩ :: rest) ⟨l.toArray, ds⟩ w := by
  by_cases hp : p < s.size
  · refine l_event (w' := w.iterAt k s (p + (Utf8.decode s p).2)) ?_ (h1 hp _ (Lib.iterAt_heap w k s p _ hk) ⟨rfl, rfl, rfl, by rw [Lib.iterAt_size]; exact Nat.le_refl _, fun i _ hi => Lib.iterAt_other w k i s _ hi⟩ (by rw [Lib.iterAt_size]; exact Nat.le_refl _))
    simp [execOp, hx, Lib.run_next_any_at w k s p ty hk hp]
  · refine l_event (w' := w) ?_ (h2 (by omega))
    simp [execOp, hx, Lib.run_next_end_at w k s p ty hk hp]
theorem e_makeMap {t k : TypeId} [ht : TMap P t k k]
    (h : ∀ b w1, w.heap.size ≤ b → b < w1.heap.size → SeenAt P k w1 b 0 [] → Evt (fun _ => False) w w1 → w.heap.size ≤ w1.heap.size → wpList P ops Q rest ⟨(l.set N (.map (some b))).toArray, ds⟩ w1) :
    wpList P ops Q (⟨some N, .makeMap t none, ty, pos, aft, none⟩ :: rest) ⟨l.toArray, ds⟩ w := by
  refine l_event (v := .map (some w.heap.size)) (w' := w.alloc (.map #[] 0)) ?_ (h _ _ (Nat.le_refl _) (by simp) ⟨_, World.ownsMap_made w P k _, fun a _ => by simp [Maps.has]⟩ (Evt.alloc _ _) (by simp))
  simp [execOp, run_makeMap]
theorem e_mapUpd {t k : TypeId} {x y z : Operand} {b n : Nat} {ids : List Int} {a c : Int} (hx : ev l x = .map (some b)) (hy : ev l y = .int .i64 a) (hz : ev l z = .int .i64 c) [ht : TMap P t k k] [hk : TInt P k .i64] (hs : SeenAt P k w b n ids) (hn : n < 1000000000000) (ha : -9223372036854775808 ≤ a ∧ a ≤ 9223372036854775807) (hc : -9223372036854775808 ≤ c ∧ c ≤ 9223372036854775807)
    (h : ∀ w1, SeenAt P k w1 b (n + 1) (ids ++ [a]) → Evt (fun j => j = b) w w1 → w.heap.size ≤ w1.heap.size → wpList P ops Q rest ⟨l.toArray, ds⟩ w1) :
    wpList P ops Q (⟨none, .mapUpdate t x y z, ty, pos, aft, none⟩ :: rest) ⟨l.toArray, ds⟩ w := by
  have hwa : (Lit.int .i64 a).wf = true := WalkArith.wf_i64 (by omega)
  have hwc : (Lit.int .i64 c).wf = true := WalkArith.wf_i64 (by omega)
  obtain ⟨D, ho, hh⟩ := hs
  obtain ⟨w1, hrun, ho1, htu⟩ := ho.store (Maps.int_keyed hk.ok) ht.ok (by simp only [maxLen]; omega) (Maps.keyOf_int_mk hk.ok hwa) (plainElem_int hk.ok hwc)
  have he := Evt.of_grown htu.grown
  refine l_store (w' := w1) ?_ (h w1 ⟨_, ho1, fun q hq => ?_⟩ (he.mono fun j _ hj => (Option.some.inj hj).symm) he.size)
  · simp only [execOp, hx, hy, hz, Sem.run_bind, hrun, Result.andThen_ok]
    rfl
  · by_cases hqa : q = a
    · subst hqa
      rw [Maps.has_put_same ho.isMap (by simp [WideAt.IsKeyLit])]
      simp
    · rw [Maps.has_put_other (by simp [hqa])]
      rw [hh q hq]
      simp [hqa]
end
end Go.Proofs.YthfnlmedelfbnaaDoorE
namespace Go.Proofs.YthfnlmedelfbnaaDoorE
open Go Go.RowKit
set_option linter.unusedSimpArgs false
set_option linter.unusedVariables false

section
variable {P : Program} {w : World} {ty : TypeId}
theorem run_append_room_z (t tn e : TypeId) (i : TypeInfo) (z : Value) (kn : IntKind) (ht : P.underlying t = some (.slice e)) (htn : P.underlying tn = some (.int kn)) (hi : P.info? e = some i) (hz : i.zero = some z)
    (g sLen sCap : Nat) (cur : Array Value) (hg : w.heap[g]? = some (.cells cur e (0, 0))) (m : Nat) (hm : 0 < m) (hs : 0 < i.size) (h63 : (m : Int) ≤ 9223372036854775807) (h48 : m * i.bytes ≤ 281474976710656)
    (h1 : ∀ u ∈ (Builtin.zeroCells z.cells m).toList, u.oneCell' = true) (hroom : sLen + m ≤ sCap) (hfit : sLen * i.size + (Builtin.zeroCells z.cells m).toList.length ≤ cur.size) :
    (Builtin.append_ #[t, tn] ty #[.slice (some ⟨g, 0, none⟩) sLen sCap, .int .i64 m]).run P w =
      .ok (.slice (some ⟨g, 0, none⟩) (sLen + m) sCap) (w.setRow g (cur.toList.take (sLen * i.size) ++ (Builtin.zeroCells z.cells m).toList ++ cur.toList.drop (sLen * i.size + (Builtin.zeroCells z.cells m).toList.length)).toArray) := by
  have hn : m ≠ 0 := by omega
  have hw : IntKind.i64.wrap (m : Int) = m := by rw [IntKind.wrap_i64]; omega
  have h48i : ¬ (281474976710656 < (m : Int) * (i.bytes : Int)) := by
    rw [← Int.natCast_mul]
    omega
  have hneg : ¬ ((m : Int) < 0) := by omega
  have hns : ¬ (m * i.size = 0) := Nat.mul_ne_zero hn (by omega)
  have hst := run_storeCells_at P g (sLen * i.size) e (Builtin.zeroCells z.cells m).toList 0 cur w hg (by simpa using hfit) h1
  simp only [Nat.add_zero] at hst
  simp [Builtin.append_, run_underlying ht, run_underlying htn, sizeOf, typeInfo, zeroValue, hi, hz, asInt, asIntOf, hw, hn, hneg, hns, h48i, hroom, Addr.add_lit, hst]
theorem run_append_grow_z (t tn e : TypeId) (i : TypeInfo) (z : Value) (kn : IntKind) (ht : P.underlying t = some (.slice e)) (htn : P.underlying tn = some (.int kn)) (hi : P.info? e = some i) (hz : i.zero = some z)
    (b : Addr) (sLen sCap : Nat) (olds : List Value) (hlo : olds.length = sLen * i.size) (holds : ∀ j v, olds[j]? = some v → w.cell? (b.add j) = some v) (m : Nat) (hm : 0 < m) (hs : 0 < i.size) (h63m : (m : Int) ≤ 9223372036854775807) (h48 : m * i.bytes ≤ 281474976710656)
    (hg : sCap < sLen + m) (h63 : ((sLen + m : Nat) : Int) ≤ 9223372036854775807) (hfit : Builtin.nextslicecap (sLen + m) sCap * i.bytes ≤ 281474976710656) :
    (Builtin.append_ #[t, tn] ty #[.slice (some b) sLen sCap, .int .i64 m]).run P w =
      .ok (.slice (some ⟨w.heap.size, 0, none⟩) (sLen + m) (grownCap w (sLen + m) sCap e))
        (w.drew.alloc (.cells (olds.toArray ++ (Builtin.zeroCells z.cells m) ++ Builtin.zeroCells z.cells (grownCap w (sLen + m) sCap e - (sLen + m))) e)) := by
  have hn : m ≠ 0 := by omega
  have hw : IntKind.i64.wrap (m : Int) = m := by rw [IntKind.wrap_i64]; omega
  have h48i : ¬ (281474976710656 < (m : Int) * (i.bytes : Int)) := by
    rw [← Int.natCast_mul]
    omega
  have hneg : ¬ ((m : Int) < 0) := by omega
  have hns : ¬ (m * i.size = 0) := Nat.mul_ne_zero hn (by omega)
  have hn' : ¬ (sLen + m ≤ sCap) := by omega
  have h63' : ¬ (9223372036854775807 < ((sLen : Int) + (m : Int))) := by omega
  have h48' : ¬ (281474976710656 < Builtin.nextslicecap (sLen + m) sCap * i.bytes) := by omega
  have hfo := run_firstCells_some (P := P) w.drew i.size sLen b sLen sCap olds hlo (by simpa using holds)
  simp [Builtin.append_, run_underlying ht, run_underlying htn, sizeOf, typeInfo, zeroValue, hi, hz, asInt, asIntOf, hw, hn, hneg, hns, h48i, hn', h63', h48', Question.forced, hfo, newRow, grownCap]
theorem zeroCells_one (z : Value) (m : Nat) : (Builtin.zeroCells #[z] m).toList = List.replicate m z := by
  have h : (Builtin.zeroCells #[z] m).toList = (List.range m).map fun _ => z := by
    simp [Builtin.zeroCells, Nat.mod_one]
  rw [h]
  exact List.ext_getElem (by simp) (fun i h1 h2 => by simp)
theorem run_appZ {t tn e : TypeId} {bytes n m : Nat} {z v : Value} {kn : IntKind} {xs : List Value} [ht : TSlice P t e 1 bytes] [hz : TZero P e z] [htn : TInt P tn kn] (hzs : z.cells = #[z]) (hz1 : z.oneCell' = true)
    (hown : w.ownsRow 0 e 1 v n xs) (hm0 : 0 < m) (hb : (n + m) * bytes ≤ 140737488355328) (hm : n + m ≤ 4611686018427387904) :
    ∃ v' w1, (Builtin.append_ #[t, tn] ty #[v, .int .i64 m]).run P w = .ok v' w1 ∧ w1.ownsRow 0 e 1 v' (n + m) (xs ++ List.replicate m z) ∧ Evt (fun k => v.ownBlock = some k) w w1 ∧ (v'.ownBlock = v.ownBlock ∨ (v'.ownBlock = some w.heap.size ∧ Evt (fun _ => False) w w1)) := by
  have hi := ht.info
  have hz' := hz.ok
  cases hq : P.info? e with
  | none => simp [hq] at hi
  | some inf =>
    simp only [hq, Option.map_some, Option.some.injEq, Prod.mk.injEq] at hi hz'
    have hzc := zeroCells_one z m
    rw [← hzs] at hzc
    have hmb : m * inf.bytes ≤ 281474976710656 := by
      rw [hi.2]
      have := Nat.mul_le_mul_right bytes (show m ≤ n + m by omega)
      omega
    have hlen : (xs ++ List.replicate m z).length = (n + m) * 1 := by rw [List.length_append, hown.1, List.length_replicate]; omega
    have grown : ∀ (old : Nat), old < n + m →
        (w.drew.alloc (.cells (xs.toArray ++ Builtin.zeroCells z.cells m ++ Builtin.zeroCells z.cells (grownCap w (n + m) old e - (n + m))) e)).ownsRow 0 e 1 (.slice (some ⟨w.heap.size, 0, none⟩) (n + m) (grownCap w (n + m) old e)) (n + m) (xs ++ List.replicate m z) ∧
        Evt (fun _ => False) w (w.drew.alloc (.cells (xs.toArray ++ Builtin.zeroCells z.cells m ++ Builtin.zeroCells z.cells (grownCap w (n + m) old e - (n + m))) e)) := by
      intro old ho
      have hge := grownCap_ge w (n + m) old e
      have hcm : grownCap w (n + m) old e ≤ maxLen := grownCap_le_maxLen w (n + m) old e (by simp only [maxLen]; omega)
      refine ⟨⟨hlen, .inr ⟨w.heap.size, _, _, rfl, Nat.zero_le _, heap_alloc_new w.drew _, hge, hcm, ?_, ?_⟩⟩, Evt.next (Evt.alloc _ _) ⟨rfl, rfl, rfl, Nat.le_refl _, fun _ _ _ => rfl⟩ (fun _ _ h => h)⟩
      · have h1 := hown.1
        simp only [Array.size_append, List.size_toArray, size_zeroCells, hzs, List.size_toArray, List.length_singleton, h1]
        simp
        omega
      · simp only [Array.toList_append, hzc]
        rw [← hlen]
        exact List.take_left
    rcases hown.2 with ⟨rfl, rfl⟩ | ⟨g, cap, cur, rfl, hbg, hg, hnc, hcm, hcs, htake⟩
    · have hx : xs = [] := List.eq_nil_of_length_eq_zero (by simpa using hown.1)
      subst hx
      have hr := Lib.run_append_nil_zeros (P := P) w t tn ty e inf z .i64 kn ht.ok htn.ok hq hz' m hm0 (by omega) (by omega) hmb
      have hgr := grown 0 (by omega)
      simp only [Nat.zero_add, List.nil_append, Array.empty_append] at hgr ⊢
      exact ⟨_, _, hr, hgr.1, hgr.2.mono fun _ _ h => h.elim, .inr ⟨rfl, hgr.2⟩⟩
    · by_cases hroom : n + m ≤ cap
      · have hr := run_append_room_z (P := P) (w := w) (ty := ty) t tn e inf z kn ht.ok htn.ok hq hz' g n cap cur hg m hm0 (by omega) (by omega) hmb (by rw [hzc]; intro u hu; rw [(List.mem_replicate.1 hu).2]; exact hz1) hroom (by rw [hzc, List.length_replicate, hi.1, hcs]; omega)
        rw [hzc, hi.1, List.length_replicate] at hr
        refine ⟨_, _, hr, ⟨hlen, .inr ⟨g, cap, _, rfl, hbg, setRow_heap w g cur _ e _ hg, hroom, hcm, ?_, ?_⟩⟩, ?_, .inl rfl⟩
        · simp only [List.size_toArray, List.length_append, List.length_take, List.length_drop, Array.length_toList, List.length_replicate]
          omega
        · rw [htake, ← hlen]
          exact List.take_left
        · exact ⟨rfl, rfl, rfl, by simp, fun k _ hk => setRow_other w g k _ (fun e => hk (by simp [Value.ownBlock, e]))⟩
      · have holds : ∀ j u, xs[j]? = some u → w.cell? ((⟨g, 0, none⟩ : Addr).add j) = some u := hown.cells (g := g) rfl
        have hr := run_append_grow_z (P := P) (w := w) (ty := ty) t tn e inf z kn ht.ok htn.ok hq hz' ⟨g, 0, none⟩ n cap xs (by rw [hi.1]; exact hown.1) holds m hm0 (by omega) (by omega) hmb (by omega) (by omega) (by rw [hi.2]; exact growslice_fits (by omega) hb)
        have hgr := grown cap (by omega)
        exact ⟨_, _, hr, hgr.1, hgr.2.mono fun _ _ h => h.elim, .inr ⟨rfl, hgr.2⟩⟩
/-- append of readable cells: in place, or all that was there stays as it was. -/
theorem run_appS {t e : TypeId} {sz bytes n m c : Nat} {z v : Value} {A : Option Addr} {xs news : List Value} [ht : TSlice P t e sz bytes] [hz : TZero P e z] (hzs : z.cells.size = sz) (hsz : 0 < sz)
    (hown : w.ownsRow 0 e sz v n xs) (hl : news.length = m * sz) (hr : RC w A news) (h1 : ∀ u ∈ news, u.oneCell' = true) (hb : (n + m) * bytes ≤ 140737488355328) (hm : n + m ≤ 4611686018427387904) :
    ∃ v' w1, (Builtin.append_ #[t, t] ty #[v, .slice A m c]).run P w = .ok v' w1 ∧ w1.ownsRow 0 e sz v' (n + m) (xs ++ news) ∧ Evt (fun k => v.ownBlock = some k) w w1 ∧ (v'.ownBlock = v.ownBlock ∨ (v'.ownBlock = some w.heap.size ∧ Evt (fun _ => False) w w1)) := by
  obtain ⟨v', w1, hrun, ho, he, _⟩ := run_appC (P := P) (w := w) (ty := ty) (t := t) (c := c) hzs hsz hown hl hr h1 hb hm
  refine ⟨v', w1, hrun, ho, he, ?_⟩
  have hi := ht.info
  have hz' := hz.ok
  cases hq : P.info? e with
  | none => simp [hq] at hi
  | some inf =>
    simp only [hq, Option.map_some, Option.some.injEq, Prod.mk.injEq] at hi hz'
    have alloc_ : ∀ b, Evt (fun _ => False) w (w.drew.alloc b) := fun b => Evt.next (Evt.alloc _ _) ⟨rfl, rfl, rfl, Nat.le_refl _, fun _ _ _ => rfl⟩ (fun _ _ h => h)
    cases A with
    | none =>
      have h0 : news = [] := by
        rcases Nat.eq_zero_or_pos news.length with h0 | h0
        · exact List.eq_nil_of_length_eq_zero h0
        · obtain ⟨b, o, h1, _⟩ := hr h0; cases h1
      subst h0
      have hm0 : m = 0 := by
        rcases Nat.eq_zero_or_pos m with h | h
        · exact h
        · have := Nat.mul_pos h hsz; simp at hl; omega
      subst hm0
      have hrun2 : (Builtin.append_ #[t, t] ty #[v, .slice none 0 c]).run P w = .ok v w := by
        rcases own_blk_of hown with ⟨rfl, h2⟩ | ⟨g, cap, cur, rfl, _, _, _, hcap, _⟩
        · simp [Builtin.append_, run_underlying ht.ok, sizeOf, typeInfo, hq, Builtin.lenOf, Builtin.firstCells, loadCells, loadCellsFrom]
        · simp [Builtin.append_, run_underlying ht.ok, sizeOf, typeInfo, hq, Builtin.lenOf, Builtin.firstCells, loadCells, loadCellsFrom, hcap, storeCells]
      rw [hrun2] at hrun
      cases hrun
      exact .inl rfl
    | some a =>
      have hnews : ∀ j u, news[j]? = some u → w.cell? (a.add j) = some u := by
        intro j u hu
        have hj : j < news.length := (List.getElem?_eq_some_iff.1 hu).1
        obtain ⟨b, o, h1, hc⟩ := hr (by omega)
        cases h1
        rw [add_off]
        exact hc j u hu
      rcases hown.2 with ⟨rfl, rfl⟩ | ⟨g, cap, cur, rfl, hbg, hg, hnc, hcm, hcs, htake⟩
      · have hx : xs = [] := List.eq_nil_of_length_eq_zero (by simpa using hown.1)
        subst hx
        by_cases hm0 : m = 0
        · subst hm0
          have hn : news = [] := List.eq_nil_of_length_eq_zero (by simpa using hl)
          subst hn
          have hrun2 : (Builtin.append_ #[t, t] ty #[.slice none 0 0, .slice (some a) 0 c]).run P w = .ok (.slice none 0 0) w := by
            simp [Builtin.append_, run_underlying ht.ok, sizeOf, typeInfo, hq, Builtin.lenOf, Builtin.firstCells, loadCells, loadCellsFrom]
          rw [hrun2] at hrun
          cases hrun
          exact .inl rfl
        · have hr2 := run_append_nil (P := P) w t ty e inf z ht.ok hq hz' a m c news (by rw [hi.1]; exact hl) hnews (by omega) (by omega) (by rw [hi.2]; simp only [Nat.zero_add] at hb; omega)
          rw [hr2] at hrun
          cases hrun
          exact .inr ⟨rfl, alloc_ _⟩
      · by_cases hroom : n + m ≤ cap
        · have hfit : n * inf.size + news.length ≤ cur.size := by rw [hi.1, hl, hcs, ← Nat.add_mul]; exact Nat.mul_le_mul_right _ hroom
          have hr2 := run_append_room (P := P) w t ty e inf ht.ok hq g n cap cur hg a m c news (by rw [hi.1]; exact hl) hnews h1 hroom hfit
          rw [hr2] at hrun
          cases hrun
          exact .inl rfl
        · have holds : ∀ j u, xs[j]? = some u → w.cell? ((⟨g, 0, none⟩ : Addr).add j) = some u := hown.cells (g := g) rfl
          have hr2 := run_append_grow (P := P) w t ty e inf z ht.ok hq hz' ⟨g, 0, none⟩ n cap xs (by rw [hi.1]; exact hown.1) holds a m c news (by rw [hi.1]; exact hl) hnews (by omega) (by omega) (by rw [hi.2]; exact growslice_fits (by omega) hb)
          rw [hr2] at hrun
          cases hrun
          exact .inr ⟨rfl, alloc_ _⟩
end
section
variable {P : Program} {ops : Array Oper} {rest : List Oper} {w : World} {Q : Exit → Act → World → Prop} {ty : TypeId} {pos : String} {aft : Array Edge} {l : List Value} {ds : List Deferred} {N : Tmp}
theorem e_appS {t e : TypeId} {sz bytes n m c : Nat} {z v : Value} {A : Option Addr} {x y : Operand} {xs news : List Value} (hx : ev l x = v) (hy : ev l y = .slice A m c) [ht : TSlice P t e sz bytes] [hz : TZero P e z] (hzs : z.cells.size = sz) (hsz : 0 < sz)
    (hown : w.ownsRow 0 e sz v n xs) (hl : news.length = m * sz) (hr : RC w A news) (h1 : ∀ u ∈ news, u.oneCell' = true) (hb : (n + m) * bytes ≤ 140737488355328) (hm : n + m ≤ 4611686018427387904)
    (h : ∀ v' w1, w1.ownsRow 0 e sz v' (n + m) (xs ++ news) → Evt (fun k => v.ownBlock = some k) w w1 → (v'.ownBlock = v.ownBlock ∨ (v'.ownBlock = some w.heap.size ∧ Evt (fun _ => False) w w1)) → w.heap.size ≤ w1.heap.size → wpList P ops Q rest ⟨(l.set N v').toArray, ds⟩ w1) :
    wpList P ops Q (⟨some N, .call { callee := .builtin .append, args := #[x, y], argTypes := #[t, t] }, ty, pos, aft, none⟩ :: rest) ⟨l.toArray, ds⟩ w := by
  obtain ⟨v', w1, hrun, h2, h3, h5⟩ := run_appS (P := P) (ty := ty) (t := t) (c := c) hzs hsz hown hl hr h1 hb hm
  refine l_event (v := v') (w' := w1) ?_ (h v' w1 h2 h3 h5 h3.size)
  simp only [execOp, Sem.run_bind, resolve, List.map_toArray, List.map_cons, List.map_nil, hx, hy, invoke, builtin, Sem.run_pure, Result.andThen_ok]
  first | (rw [hrun]; rfl) | (simp only [Sem.run_bind, hrun, Result.andThen_ok]; rfl)
theorem e_appZ {t tn e : TypeId} {bytes n m : Nat} {z v : Value} {kn : IntKind} {x y : Operand} {xs : List Value} (hx : ev l x = v) (hy : ev l y = .int .i64 m) [ht : TSlice P t e 1 bytes] [hz : TZero P e z] [htn : TInt P tn kn] (hzs : z.cells = #[z]) (hz1 : z.oneCell' = true)
    (hown : w.ownsRow 0 e 1 v n xs) (hm0 : 0 < m) (hb : (n + m) * bytes ≤ 140737488355328) (hm : n + m ≤ 4611686018427387904)
    (h : ∀ v' w1, w1.ownsRow 0 e 1 v' (n + m) (xs ++ List.replicate m z) → Evt (fun k => v.ownBlock = some k) w w1 → (v'.ownBlock = v.ownBlock ∨ (v'.ownBlock = some w.heap.size ∧ Evt (fun _ => False) w w1)) → w.heap.size ≤ w1.heap.size → wpList P ops Q rest ⟨(l.set N v').toArray, ds⟩ w1) :
    wpList P ops Q (⟨some N, .call { callee := .builtin .append, args := #[x, y], argTypes := #[t, tn] }, ty, pos, aft, none⟩ :: rest) ⟨l.toArray, ds⟩ w := by
  obtain ⟨v', w1, hrun, h2, h3, h5⟩ := run_appZ (P := P) (w := w) (ty := ty) (t := t) (tn := tn) hzs hz1 hown hm0 hb hm
  refine l_event (v := v') (w' := w1) ?_ (h v' w1 h2 h3 h5 h3.size)
  simp only [execOp, Sem.run_bind, resolve, List.map_toArray, List.map_cons, List.map_nil, hx, hy, invoke, builtin, Sem.run_pure, Result.andThen_ok]
  first | (rw [hrun]; rfl) | (simp only [Sem.run_bind, hrun, Result.andThen_ok]; rfl)
end
end Go.Proofs.YthfnlmedelfbnaaDoorE
