/- Structs of numbers and bools, compared. -/
import Derived.Test.YtchfkkliechgoaaOps7
import Derived.Laws.StructEq
namespace Go.Proofs.YtchfkkliechgoaaE
open Go Go.RowKit
set_option linter.unusedSimpArgs false
set_option linter.unusedVariables false

def kindB (P : Program) (f : Field) (i : Nat) (k : Option IntKind) : Bool := f.offset == i && (f.name != "_") && (match P.underlying f.type, k with
  | some (.int k'), some k => decide (k' = k)
  | some .bool, none => true
  | _, _ => false)
def kindsB (P : Program) : List Field → Nat → List (Option IntKind) → Bool
  | [], _, [] => true
  | f :: fs, i, k :: ks => kindB P f i k && kindsB P fs (i + 1) ks
  | _, _, _ => false
def flatB (P : Program) (t : TypeId) (ks : List (Option IntKind)) : Bool :=
  (match P.underlying t with | some (.struct fs) => kindsB P fs.toList 0 ks | _ => false) && (!P.stoodInHeld t && !P.eqGuardType P.depth t)
class TFlat (P : Program) (t : TypeId) (ks : outParam (List (Option IntKind))) : Prop where
  ok : flatB P t ks = true
def fitB : Value → Option IntKind → Bool
  | .int k _, some k' => decide (k = k')
  | .bool _, none => true
  | _, _ => false
def fitsB : List Value → List (Option IntKind) → Bool
  | [], [] => true
  | v :: vs, k :: ks => fitB v k && fitsB vs ks
  | _, _ => false
theorem run_part_scal {P : Program} {t : TypeId} {cs : Array Value} {o : Nat} {v : Value} {w : World} (ht : (∃ k, P.underlying t = some (.int k)) ∨ P.underlying t = some .bool) (hv : cs[o]? = some v) : (part t cs o).run P w = .ok v w := by
  rcases ht with ⟨k, ht⟩ | ht <;> simp [part, isAgg, Sem.run_bind, run_underlying ht, hv]
theorem run_eqFields {P : Program} {w : World} {d : Nat} {XS YS : List Value} : ∀ (fs : List Field) (ks : List (Option IntKind)) (i : Nat) (xs ys : List Value), kindsB P fs i ks = true → fitsB xs ks = true → fitsB ys ks = true → XS.drop i = xs → YS.drop i = ys →
    ∃ b : Bool, (Op.eqFields (d + 1) XS.toArray YS.toArray fs).run P w = .ok b w ∧ (b = true ↔ xs = ys)
  | [], ks, i, xs, ys, hk, hx, hy, h1, h2 => by
    cases ks with
    | cons => simp [kindsB] at hk
    | nil =>
      cases xs with
      | cons => simp [fitsB] at hx
      | nil => cases ys with
        | cons => simp [fitsB] at hy
        | nil => exact ⟨true, by simp [Op.eqFields], by simp⟩
  | f :: fs, ks, i, xs, ys, hk, hx, hy, h1, h2 => by
    cases ks with
    | nil => simp [kindsB] at hk
    | cons k ks =>
      cases xs with
      | nil => simp [fitsB] at hx
      | cons x xs =>
        cases ys with
        | nil => simp [fitsB] at hy
        | cons y ys =>
          simp only [kindsB, fitsB, Bool.and_eq_true] at hk hx hy
          obtain ⟨hk0, hk⟩ := hk
          obtain ⟨hx0, hx⟩ := hx
          obtain ⟨hy0, hy⟩ := hy
          simp only [kindB, Bool.and_eq_true, beq_iff_eq, bne_iff_ne, ne_eq] at hk0
          obtain ⟨⟨ho, hn⟩, hty⟩ := hk0
          have hxi : XS.toArray[f.offset]? = some x := by
            have : (XS.drop i)[0]? = some x := by rw [h1]; rfl
            rw [List.getElem?_drop] at this
            simpa [ho] using this
          have hyi : YS.toArray[f.offset]? = some y := by
            have : (YS.drop i)[0]? = some y := by rw [h2]; rfl
            rw [List.getElem?_drop] at this
            simpa [ho] using this
          have hsc : (∃ k, P.underlying f.type = some (.int k)) ∨ P.underlying f.type = some .bool := by
            split at hty <;> first | (left; exact ⟨_, by assumption⟩) | (right; assumption) | cases hty
          have hpx := run_part_scal (P := P) (w := w) hsc hxi
          have hpy := run_part_scal (P := P) (w := w) hsc hyi
          have heq : ∃ c : Bool, (Op.equalIn (d + 1) f.type x y).run P w = .ok c w ∧ (c = true ↔ x = y) := by
            cases k with
            | some k =>
              cases x <;> simp [fitB] at hx0
              cases y <;> simp [fitB] at hy0
              rename_i kx a ky b
              subst hx0; subst hy0
              rcases hsc with ⟨k', hk'⟩ | hb
              · exact ⟨a == b, by simp [Op.equalIn, run_underlying hk'], by simp⟩
              · rw [hb] at hty; simp at hty
            | none =>
              cases x <;> simp [fitB] at hx0
              cases y <;> simp [fitB] at hy0
              rename_i a b
              rcases hsc with ⟨k', hk'⟩ | hb
              · rw [hk'] at hty; simp at hty
              · exact ⟨a == b, by simp [Op.equalIn, run_underlying hb], by simp⟩
          obtain ⟨c, hc, hce⟩ := heq
          obtain ⟨b, hb, hbe⟩ := run_eqFields (w := w) (d := d) fs ks (i + 1) xs ys hk hx hy (by rw [← List.drop_drop, h1]; rfl) (by rw [← List.drop_drop, h2]; rfl)
          cases hcc : c with
          | false =>
            refine ⟨false, ?_, ?_⟩
            · simp only [Op.eqFields, hn, ne_eq, not_false_eq_true, if_true, Sem.run_bind, hpx, hpy, hc, hcc, Result.andThen_ok, Bool.not_false, Sem.run_ite, Sem.run_pure]
            · constructor
              · intro h; cases h
              · intro h; have : x = y := by cases h; rfl
                have := hce.2 this; rw [hcc] at this; cases this
          | true =>
            refine ⟨b, ?_, ?_⟩
            · simp only [Op.eqFields, hn, ne_eq, not_false_eq_true, if_true, Sem.run_bind, hpx, hpy, hc, hcc, Result.andThen_ok, Bool.not_true, Sem.run_ite, Bool.false_eq_true, if_false, hb]
            · have hxy := hce.1 hcc
              rw [hbe, hxy]
              simp
section
variable {P : Program} {w : World} {ty : TypeId} {pos : String} {aft : Array Edge} {l : List Value} {d : Option Tmp} {g : Option (Nat × Bool)} {K : Value → Prop} {t u : TypeId} {x y : Operand} {xs ys : List Value} {ks : List (Option IntKind)}
theorem run_structEq (ht : TFlat P t ks) (hxs : fitsB xs ks = true) (hys : fitsB ys ks = true) (w : World) : ∃ b : Bool, (Op.equalIn 10000 t (.agg xs.toArray) (.agg ys.toArray)).run P w = .ok b w ∧ (b = true ↔ xs = ys) := by
  have hk := ht.ok
  unfold flatB at hk
  simp only [Bool.and_eq_true, Bool.not_eq_true'] at hk
  obtain ⟨h1, h2, _⟩ := hk
  cases hu : P.underlying t with
  | none => simp [hu] at h1
  | some dd =>
    cases dd <;> simp [hu] at h1
    rename_i fs
    have hf : P.fieldsOf t = fs := by simp [Program.fieldsOf, hu]
    rw [run_equalIn_struct w 9999 t xs.toArray ys.toArray (by rw [hf]; exact hu) h2, hf]
    exact run_eqFields (d := 9998) fs.toList ks 0 xs ys h1 hxs hys rfl rfl
theorem g_eqlS (hx : ev l x = .agg xs.toArray) (hy : ev l y = .agg ys.toArray) [ht : TFlat P t ks] (hxs : fitsB xs ks = true) (hys : fitsB ys ks = true) (h1 : xs = ys → K (.bool true)) (h2 : xs ≠ ys → K (.bool false)) : Go1 P ⟨d, .binOp .eql t x y u, ty, pos, aft, g⟩ l w K := by
  have hg : P.eqGuardType P.depth t = false := by have := ht.ok; unfold flatB at this; simp only [Bool.and_eq_true, Bool.not_eq_true'] at this; exact this.2.2
  by_cases c : xs = ys
  · refine ⟨.bool true, fun w' _ => ?_, h1 c⟩
    obtain ⟨b, hb, hbe⟩ := run_structEq (P := P) ht hxs hys w'
    rw [hbe.2 c] at hb
    simp [execOp, hx, hy, Sem.run_bind, run_eqGuard_agg _ _ _ _ _ _ _ hg, run_eql_struct, hb]
  · refine ⟨.bool false, fun w' _ => ?_, h2 c⟩
    obtain ⟨b, hb, hbe⟩ := run_structEq (P := P) ht hxs hys w'
    have hbf : b = false := by cases hh : b with
      | false => rfl
      | true => exact absurd (hbe.1 hh) c
    rw [hbf] at hb
    simp [execOp, hx, hy, Sem.run_bind, run_eqGuard_agg _ _ _ _ _ _ _ hg, run_eql_struct, hb]
theorem g_neqS (hx : ev l x = .agg xs.toArray) (hy : ev l y = .agg ys.toArray) [ht : TFlat P t ks] (hxs : fitsB xs ks = true) (hys : fitsB ys ks = true) (h1 : xs ≠ ys → K (.bool true)) (h2 : xs = ys → K (.bool false)) : Go1 P ⟨d, .binOp .neq t x y u, ty, pos, aft, g⟩ l w K := by
  have hg : P.eqGuardType P.depth t = false := by have := ht.ok; unfold flatB at this; simp only [Bool.and_eq_true, Bool.not_eq_true'] at this; exact this.2.2
  by_cases c : xs = ys
  · refine ⟨.bool false, fun w' _ => ?_, h2 c⟩
    obtain ⟨b, hb, hbe⟩ := run_structEq (P := P) ht hxs hys w'
    rw [hbe.2 c] at hb
    simp [execOp, hx, hy, Sem.run_bind, run_eqGuard_agg _ _ _ _ _ _ _ hg, run_neq_struct, hb]
  · refine ⟨.bool true, fun w' _ => ?_, h1 c⟩
    obtain ⟨b, hb, hbe⟩ := run_structEq (P := P) ht hxs hys w'
    have hbf : b = false := by cases hh : b with
      | false => rfl
      | true => exact absurd (hbe.1 hh) c
    rw [hbf] at hb
    simp [execOp, hx, hy, Sem.run_bind, run_eqGuard_agg _ _ _ _ _ _ _ hg, run_neq_struct, hb]
end
end Go.Proofs.YtchfkkliechgoaaE
