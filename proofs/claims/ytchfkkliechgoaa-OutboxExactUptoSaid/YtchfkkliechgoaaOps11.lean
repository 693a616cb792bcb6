/- Strings by the byte and by the letter; maps of numbers; bytes; slices that are made. -/
import Derived.Test.YtchfkkliechgoaaOps10
import Derived.Laws.RangeAny
import Derived.Laws.MakeOwn
import Derived.Laws.BytesArg
import Derived.Lib.OthersKept
namespace Go.Proofs.YtchfkkliechgoaaE
open Go Go.RowKit
set_option linter.unusedSimpArgs false
set_option linter.unusedVariables false

/-- A string's bytes. -/
def strI (s : ByteArray) : List Int := s.data.toList.map fun b => (b.toNat : Int)
theorem strI_length (s : ByteArray) : (strI s).length = s.size := by rw [strI, List.length_map, Array.length_toList]; rfl
theorem strCells_strI (s : ByteArray) : Lib.strCells s = (strI s).map (Value.int .u8) := by simp [Lib.strCells, strI]
theorem strI_get {s : ByteArray} {i : Nat} (h : i < s.size) : (strI s)[i]? = some ((s[i]'h).toNat : Int) := by
  have h1 : i < s.data.toList.length := by rw [Array.length_toList]; exact h
  rw [strI, List.getElem?_map, List.getElem?_eq_getElem h1]
  rfl
theorem strI_range (s : ByteArray) : ∀ c ∈ strI s, 0 ≤ c ∧ c < 256 := by
  intro c hc
  simp only [strI, List.mem_map] at hc
  obtain ⟨b, _, rfl⟩ := hc
  have := b.toNat_lt
  omega
theorem str_ext {s s' : ByteArray} (h : s.toList = s'.toList) : s = s' := by
  rw [Go.ByteArray.toList_eq, Go.ByteArray.toList_eq] at h
  apply ByteArray.ext
  exact Array.ext' h
def byteAt (s : ByteArray) (i : Nat) : Int := (strI s).getD i 0
theorem byteAt_get {s : ByteArray} {i : Nat} (h : i < s.size) : byteAt s i = ((s[i]'h).toNat : Int) := by
  rw [byteAt, List.getD_eq_getElem?_getD, strI_get h]; rfl
theorem byteAt_range (s : ByteArray) (i : Nat) : 0 ≤ byteAt s i ∧ byteAt s i < 256 := by
  by_cases h : i < s.size
  · rw [byteAt_get h]; have := (s[i]'h).toNat_lt; omega
  · rw [byteAt, List.getD_eq_getElem?_getD, List.getElem?_eq_none (by rw [strI_length]; omega)]; simp
class TMap (P : Program) (t k e : TypeId) : Prop where
  ok : P.underlying t = some (.map k e)
/-- Block b is a map whose keys are these numbers. -/
def SeenAt (P : Program) (k : TypeId) (w : World) (b n : Nat) (ids : List Int) : Prop := ∃ D : DataW Unit, w.ownsMap P k (plainElem P k) b n D ∧ ∀ a, (Lit.int .i64 a).wf = true → Maps.has D (.int .i64 a) = decide (a ∈ ids)
theorem SeenAt.lt {P : Program} {k : TypeId} {w : World} {b n : Nat} {ids : List Int} (h : SeenAt P k w b n ids) : b < w.heap.size := by
  obtain ⟨D, h1, _⟩ := h
  exact h1.lt
theorem SeenAt.evt {P : Program} {k : TypeId} {S : Nat → Prop} {w w' : World} {b n : Nat} {ids : List Int} (h : SeenAt P k w b n ids) (he : Evt S w w') (hs : ¬ S b) : SeenAt P k w' b n ids := by
  obtain ⟨D, ⟨es, clock, hb, F, hn, hD⟩, h2⟩ := h
  have hlt := (Array.getElem?_eq_some_iff.1 hb).1
  exact ⟨D, ⟨es, clock, (he.block b hlt hs).trans hb, F, hn, hD⟩, h2⟩
theorem SeenAt.ne {P : Program} {k : TypeId} {w : World} {b n g : Nat} {ids : List Int} {t : TypeId} {cs : List Value} (h : SeenAt P k w b n ids) (hg : Blk w g t cs) : g ≠ b := by
  rintro rfl
  obtain ⟨D, ⟨es, clock, hb, _⟩, _⟩ := h
  unfold Blk at hg
  rw [hg] at hb
  cases hb
section
variable {P : Program} {w : World} {ty : TypeId} {pos : String} {aft : Array Edge} {l : List Value} {d : Option Tmp} {g : Option (Nat × Bool)} {K : Value → Prop}
variable {t u : TypeId} {x y : Operand} {a b i : Int}
theorem g_eqlStr {s s' : ByteArray} (hx : ev l x = .string s) (hy : ev l y = .string s') (h1 : s = s' → K (.bool true)) (h2 : s ≠ s' → K (.bool false)) : Go1 P ⟨d, .binOp .eql t x y u, ty, pos, aft, g⟩ l w K := by
  by_cases c : s = s'
  · exact ⟨_, fun n _ => by simp [execOp, hx, hy, go_sem, c], h1 c⟩
  · exact ⟨_, fun n _ => by simp [execOp, hx, hy, go_sem]; exact fun h => c (str_ext h), h2 c⟩
theorem g_indexStr {s : ByteArray} (hx : ev l x = .string s) (hy : ev l y = .int .i64 i) [ht : TStr P t] (h0 : 0 ≤ i) (h1 : i < s.size) (h : K (.int .u8 (byteAt s i.toNat))) : Go1 P ⟨d, .index t x y, ty, pos, aft, g⟩ l w K := by
  refine ⟨_, fun n _ => ?_, h⟩
  have hlt : i.toNat < s.size := by omega
  have e : s[i.toNat]? = some (s[i.toNat]'hlt) := by simp [hlt]
  rw [byteAt_get hlt]
  simp [execOp, hx, hy, Instr.index, Sem.run_bind, asIntOf, run_underlying ht.ok, h0, e]
theorem g_sliceStrH {s : ByteArray} (hx : ev l x = .string s) (hy : ev l y = .int .i64 i) [ht : TStr P t] (h0 : 0 ≤ i) (h1 : i ≤ s.size) (h : K (.string (s.extract 0 i.toNat))) : Go1 P ⟨d, .slice t x none (some y) none, ty, pos, aft, g⟩ l w K := by
  refine ⟨_, fun n _ => ?_, h⟩
  have hc : 0 ≤ i ∧ i ≤ (s.size : Int) := ⟨h0, h1⟩
  simp only [execOp, hx, hy, Option.map_some, Option.map_none, Instr.sliceAt, Sem.run_bind, run_underlying ht.ok, Result.andThen_ok, Instr.slice, Instr.sliceBounds, Sem.run_pure, Instr.sliceBound, asIntOf]
  simp [hc]
theorem g_sliceStrL {s : ByteArray} (hx : ev l x = .string s) (hy : ev l y = .int .i64 i) [ht : TStr P t] (h0 : 0 ≤ i) (h1 : i ≤ s.size) (h : K (.string (s.extract i.toNat s.size))) : Go1 P ⟨d, .slice t x (some y) none none, ty, pos, aft, g⟩ l w K := by
  refine ⟨_, fun n _ => ?_, h⟩
  have hc : 0 ≤ i ∧ i ≤ (s.size : Int) := ⟨h0, h1⟩
  simp only [execOp, hx, hy, Option.map_some, Option.map_none, Instr.sliceAt, Sem.run_bind, run_underlying ht.ok, Result.andThen_ok, Instr.slice, Instr.sliceBounds, Sem.run_pure, Instr.sliceBound, asIntOf]
  simp [hc]
theorem g_subU8 (hx : ev l x = .int .u8 a) (hy : ev l y = .int .u8 b) (h0 : 0 ≤ a - b) (h1 : a - b < 256) (h : K (.int .u8 (a - b))) : Go1 P ⟨d, .binOp .sub t x y u, ty, pos, aft, g⟩ l w K :=
  g_sub hx hy (by rw [show IntKind.u8.wrap (a - b) = a - b from IntWalk.u8_in _ ⟨h0, by omega⟩]; exact h)
/-- v, ok := m[k] -/
theorem g_lookI {k : TypeId} {bl n : Nat} {ids : List Int} (hx : ev l x = .map (some bl)) (hy : ev l y = .int .i64 a) [ht : TMap P t k k] [hk : TInt P k .i64] [hz : TZero P k (.int .i64 0)] (hs : ∀ w', Evt (fun _ => False) w w' → SeenAt P k w' bl n ids) (h0 : -9223372036854775808 ≤ a) (h1 : a ≤ 9223372036854775807)
    (h : ∀ c, K (.tuple [.int .i64 c, .bool (decide (a ∈ ids))].toArray)) : Go1 P ⟨d, .lookup t x y true, ty, pos, aft, g⟩ l w K := by
  have hw : (Lit.int .i64 a).wf = true := WalkArith.wf_i64 (by omega)
  have key := Maps.keyOf_int_mk hk.ok hw
  have lookup : ∀ (D : DataW Unit) w', w'.ownsMap P k (plainElem P k) bl n D → ∃ c, (Instr.lookup t (.map (some bl)) (.int .i64 a) true).run P w' = .ok (.tuple #[.int .i64 c, .bool (Maps.has D (.int .i64 a))]) w' ∧ D.atKey (.int .i64 a) (.lit (.int .i64 0)) = .lit (.int .i64 c) := by
    intro D w' ho
    obtain ⟨v, ps, hrun, hv⟩ := ho.look_ok (Maps.int_keyed hk.ok) ht.ok (run_zeroValue hz w') (plainElem_int hk.ok (by decide)) key
    obtain ⟨c, rfl, hc, _⟩ := plainElem_int_inv hk.ok hv
    exact ⟨c, hrun, congrArg Prod.fst hc⟩
  obtain ⟨D, ho, hh⟩ := hs w (Evt.refl _ _)
  obtain ⟨c, _, hc⟩ := lookup D w ho
  refine ⟨_, fun w' he => ?_, h c⟩
  obtain ⟨es, clock, hb, F, hn, hD⟩ := ho
  have ho' : w'.ownsMap P k (plainElem P k) bl n D := ⟨es, clock, (he.block bl (Array.getElem?_eq_some_iff.1 hb).1 id).trans hb, F, hn, hD⟩
  obtain ⟨c', hrun, hc'⟩ := lookup D w' ho'
  rw [hc] at hc'
  cases hc'
  rw [hh a hw] at hrun
  simp [execOp, hx, hy, hrun]
end
section
variable {P : Program} {ops : Array Oper} {rest : List Oper} {w : World} {Q : Exit → Act → World → Prop} {ty : TypeId} {pos : String} {aft : Array Edge} {l : List Value} {ds : List Deferred} {N : Tmp}
theorem e_rangeStr {t : TypeId} {x : Operand} {s : ByteArray} (hx : ev l x = .string s) [ht : TStr P t]
    (h : ∀ k w1, w.heap.size ≤ k → k < w1.heap.size → w1.heap[k]? = some (.stringIter s 0) → Evt (fun _ => False) w w1 → w.heap.size ≤ w1.heap.size → wpList P ops Q rest ⟨(l.set N (.pointer (some ⟨k, 0, none⟩))).toArray, ds⟩ w1) :
    wpList P ops Q (⟨some N, .range t x, ty, pos, aft, none⟩ :: rest) ⟨l.toArray, ds⟩ w := by
  refine l_event (v := .pointer (some ⟨w.heap.size, 0, none⟩)) (w' := w.iter s 0) ?_ (h _ _ (Nat.le_refl _) (by simp [World.iter]) (World.iter_heap w s 0) (Evt.alloc _ _) (by simp [World.iter]))
  simp [execOp, hx, run_range_string w t s ht.ok]
theorem e_next {x : Operand} {k p : Nat} {s : ByteArray} (hx : ev l x = .pointer (some ⟨k, 0, none⟩)) (hk : w.heap[k]? = some (.stringIter s p))
    (h1 : p < s.size → ∀ w1, w1.heap[k]? = some (.stringIter s (p + (Utf8.decode s p).2)) → Evt (fun j => j = k) w w1 → w.heap.size ≤ w1.heap.size → wpList P ops Q rest ⟨(l.set N (.tuple [.bool true, .int .i64 p, .int .i32 (Utf8.decode s p).1].toArray)).toArray, ds⟩ w1)
    (h2 : s.size ≤ p → wpList P ops Q rest ⟨(l.set N (.tuple [.bool false].toArray)).toArray, ds⟩ w) :
    wpList P ops Q (⟨some N, .next x true, ty, pos, aft, none⟩ :: rest) ⟨l.toArray, ds⟩ w := by
  by_cases hp : p < s.size
  · refine l_event (w' := w.iterAt k s (p + (Utf8.decode s p).2)) ?_ (h1 hp _ (Lib.iterAt_heap w k s p _ hk) ⟨rfl, rfl, rfl, by rw [Lib.iterAt_size]; exact Nat.le_refl _, fun i _ hi => Lib.iterAt_other w k i s _ hi⟩ (by rw [Lib.iterAt_size]; exact Nat.le_refl _))
    simp [execOp, hx, Lib.run_next_any_at w k s p ty hk hp]
  · refine l_event (w' := w) ?_ (h2 (by omega))
    simp [execOp, hx, Lib.run_next_end_at w k s p ty hk hp]
theorem e_makeMap {t k : TypeId} [ht : TMap P t k k]
    (h : ∀ b w1, w.heap.size ≤ b → b < w1.heap.size → SeenAt P k w1 b 0 [] → Evt (fun _ => False) w w1 → w.heap.size ≤ w1.heap.size → wpList P ops Q rest ⟨(l.set N (.map (some b))).toArray, ds⟩ w1) :
    wpList P ops Q (⟨some N, .makeMap t none, ty, pos, aft, none⟩ :: rest) ⟨l.toArray, ds⟩ w := by
  refine l_event (v := .map (some w.heap.size)) (w' := w.alloc (.map #[] 0)) ?_ (h _ _ (Nat.le_refl _) (by simp) ⟨_, World.ownsMap_made w P k _, fun a _ => by simp [Maps.has]⟩ (Evt.alloc _ _) (by simp))
  simp [execOp, run_makeMap]
theorem e_mapUpd {t k : TypeId} {x y z : Operand} {b n : Nat} {ids : List Int} {a c : Int} (hx : ev l x = .map (some b)) (hy : ev l y = .int .i64 a) (hz : ev l z = .int .i64 c) [ht : TMap P t k k] [hk : TInt P k .i64] (hs : SeenAt P k w b n ids) (hn : n < 1000000000000) (ha : -9223372036854775808 ≤ a ∧ a ≤ 9223372036854775807) (hc : -9223372036854775808 ≤ c ∧ c ≤ 9223372036854775807)
    (h : ∀ w1, SeenAt P k w1 b (n + 1) (ids ++ [a]) → Evt (fun j => j = b) w w1 → w.heap.size ≤ w1.heap.size → wpList P ops Q rest ⟨l.toArray, ds⟩ w1) :
    wpList P ops Q (⟨none, .mapUpdate t x y z, ty, pos, aft, none⟩ :: rest) ⟨l.toArray, ds⟩ w := by
  have hwa : (Lit.int .i64 a).wf = true := WalkArith.wf_i64 (by omega)
  have hwc : (Lit.int .i64 c).wf = true := WalkArith.wf_i64 (by omega)
  obtain ⟨D, ho, hh⟩ := hs
  obtain ⟨w1, hrun, ho1, htu⟩ := ho.store (Maps.int_keyed hk.ok) ht.ok (by simp only [maxLen]; omega) (Maps.keyOf_int_mk hk.ok hwa) (plainElem_int hk.ok hwc)
  have he := Evt.of_grown htu.grown
  refine l_store (w' := w1) ?_ (h w1 ⟨_, ho1, fun q hq => ?_⟩ (he.mono fun j _ hj => (Option.some.inj hj).symm) he.size)
  · simp only [execOp, hx, hy, hz, Sem.run_bind, hrun, Result.andThen_ok]
    rfl
  · by_cases hqa : q = a
    · subst hqa
      rw [Maps.has_put_same ho.isMap (by simp [WideAt.IsKeyLit])]
      simp
    · rw [Maps.has_put_other (by simp [hqa])]
      rw [hh q hq]
      simp [hqa]
end
end Go.Proofs.YtchfkkliechgoaaE
