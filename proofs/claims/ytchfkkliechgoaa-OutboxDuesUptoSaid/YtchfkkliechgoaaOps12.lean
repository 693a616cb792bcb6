/- append(x, make([]T, m)...): so many zeros behind the own row. -/
import Derived.Test.YtchfkkliechgoaaOps11
import Derived.Lib.AppendZeros
import Derived.Laws.AppendOwn
import Derived.Laws.Append
import Derived.Maps.AppendAt
namespace Go.Proofs.YtchfkkliechgoaaE
open Go Go.RowKit
set_option linter.unusedSimpArgs false
set_option linter.unusedVariables false

section
variable {P : Program} {w : World} {ty : TypeId}
theorem run_append_room_z (t tn e : TypeId) (i : TypeInfo) (z : Value) (kn : IntKind) (ht : P.underlying t = some (.slice e)) (htn : P.underlying tn = some (.int kn)) (hi : P.info? e = some i) (hz : i.zero = some z)
    (g sLen sCap : Nat) (cur : Array Value) (hg : w.heap[g]? = some (.cells cur e (0, 0))) (m : Nat) (hm : 0 < m) (hs : 0 < i.size) (h63 : (m : Int) ≤ 9223372036854775807) (h48 : m * i.bytes ≤ 281474976710656)
    (h1 : ∀ u ∈ (Builtin.zeroCells z.cells m).toList, u.oneCell' = true) (hroom : sLen + m ≤ sCap) (hfit : sLen * i.size + (Builtin.zeroCells z.cells m).toList.length ≤ cur.size) :
    (Builtin.append_ #[t, tn] ty #[.slice (some ⟨g, 0, none⟩) sLen sCap, .int .i64 m]).run P w =
      .ok (.slice (some ⟨g, 0, none⟩) (sLen + m) sCap) (w.setRow g (cur.toList.take (sLen * i.size) ++ (Builtin.zeroCells z.cells m).toList ++ cur.toList.drop (sLen * i.size + (Builtin.zeroCells z.cells m).toList.length)).toArray) := by
  have hn : m ≠ 0 := by omega
  have hw : IntKind.i64.wrap (m : Int) = m := by rw [IntKind.wrap_i64]; omega
  have h48i : ¬ (281474976710656 < (m : Int) * (i.bytes : Int)) := by
    rw [← Int.natCast_mul]
    omega
  have hneg : ¬ ((m : Int) < 0) := by omega
  have hns : ¬ (m * i.size = 0) := Nat.mul_ne_zero hn (by omega)
  have hst := run_storeCells_at P g (sLen * i.size) e (Builtin.zeroCells z.cells m).toList 0 cur w hg (by simpa using hfit) h1
  simp only [Nat.add_zero] at hst
  simp [Builtin.append_, run_underlying ht, run_underlying htn, sizeOf, typeInfo, zeroValue, hi, hz, asInt, asIntOf, hw, hn, hneg, hns, h48i, hroom, Addr.add_lit, hst]
theorem run_append_grow_z (t tn e : TypeId) (i : TypeInfo) (z : Value) (kn : IntKind) (ht : P.underlying t = some (.slice e)) (htn : P.underlying tn = some (.int kn)) (hi : P.info? e = some i) (hz : i.zero = some z)
    (b : Addr) (sLen sCap : Nat) (olds : List Value) (hlo : olds.length = sLen * i.size) (holds : ∀ j v, olds[j]? = some v → w.cell? (b.add j) = some v) (m : Nat) (hm : 0 < m) (hs : 0 < i.size) (h63m : (m : Int) ≤ 9223372036854775807) (h48 : m * i.bytes ≤ 281474976710656)
    (hg : sCap < sLen + m) (h63 : ((sLen + m : Nat) : Int) ≤ 9223372036854775807) (hfit : Builtin.nextslicecap (sLen + m) sCap * i.bytes ≤ 281474976710656) :
    (Builtin.append_ #[t, tn] ty #[.slice (some b) sLen sCap, .int .i64 m]).run P w =
      .ok (.slice (some ⟨w.heap.size, 0, none⟩) (sLen + m) (grownCap w (sLen + m) sCap e))
        (w.drew.alloc (.cells (olds.toArray ++ (Builtin.zeroCells z.cells m) ++ Builtin.zeroCells z.cells (grownCap w (sLen + m) sCap e - (sLen + m))) e)) := by
  have hn : m ≠ 0 := by omega
  have hw : IntKind.i64.wrap (m : Int) = m := by rw [IntKind.wrap_i64]; omega
  have h48i : ¬ (281474976710656 < (m : Int) * (i.bytes : Int)) := by
    rw [← Int.natCast_mul]
    omega
  have hneg : ¬ ((m : Int) < 0) := by omega
  have hns : ¬ (m * i.size = 0) := Nat.mul_ne_zero hn (by omega)
  have hn' : ¬ (sLen + m ≤ sCap) := by omega
  have h63' : ¬ (9223372036854775807 < ((sLen : Int) + (m : Int))) := by omega
  have h48' : ¬ (281474976710656 < Builtin.nextslicecap (sLen + m) sCap * i.bytes) := by omega
  have hfo := run_firstCells_some (P := P) w.drew i.size sLen b sLen sCap olds hlo (by simpa using holds)
  simp [Builtin.append_, run_underlying ht, run_underlying htn, sizeOf, typeInfo, zeroValue, hi, hz, asInt, asIntOf, hw, hn, hneg, hns, h48i, hn', h63', h48', Question.forced, hfo, newRow, grownCap]
theorem zeroCells_one (z : Value) (m : Nat) : (Builtin.zeroCells #[z] m).toList = List.replicate m z := by
  have h : (Builtin.zeroCells #[z] m).toList = (List.range m).map fun _ => z := by
    simp [Builtin.zeroCells, Nat.mod_one]
  rw [h]
  exact List.ext_getElem (by simp) (fun i h1 h2 => by simp)
theorem run_appZ {t tn e : TypeId} {bytes n m : Nat} {z v : Value} {kn : IntKind} {xs : List Value} [ht : TSlice P t e 1 bytes] [hz : TZero P e z] [htn : TInt P tn kn] (hzs : z.cells = #[z]) (hz1 : z.oneCell' = true)
    (hown : w.ownsRow 0 e 1 v n xs) (hm0 : 0 < m) (hb : (n + m) * bytes ≤ 140737488355328) (hm : n + m ≤ 4611686018427387904) :
    ∃ v' w1, (Builtin.append_ #[t, tn] ty #[v, .int .i64 m]).run P w = .ok v' w1 ∧ w1.ownsRow 0 e 1 v' (n + m) (xs ++ List.replicate m z) ∧ Evt (fun k => v.ownBlock = some k) w w1 ∧ (v'.ownBlock = v.ownBlock ∨ (v'.ownBlock = some w.heap.size ∧ Evt (fun _ => False) w w1)) := by
  have hi := ht.info
  have hz' := hz.ok
  cases hq : P.info? e with
  | none => simp [hq] at hi
  | some inf =>
    simp only [hq, Option.map_some, Option.some.injEq, Prod.mk.injEq] at hi hz'
    have hzc := zeroCells_one z m
    rw [← hzs] at hzc
    have hmb : m * inf.bytes ≤ 281474976710656 := by
      rw [hi.2]
      have := Nat.mul_le_mul_right bytes (show m ≤ n + m by omega)
      omega
    have hlen : (xs ++ List.replicate m z).length = (n + m) * 1 := by rw [List.length_append, hown.1, List.length_replicate]; omega
    have grown : ∀ (old : Nat), old < n + m →
        (w.drew.alloc (.cells (xs.toArray ++ Builtin.zeroCells z.cells m ++ Builtin.zeroCells z.cells (grownCap w (n + m) old e - (n + m))) e)).ownsRow 0 e 1 (.slice (some ⟨w.heap.size, 0, none⟩) (n + m) (grownCap w (n + m) old e)) (n + m) (xs ++ List.replicate m z) ∧
        Evt (fun _ => False) w (w.drew.alloc (.cells (xs.toArray ++ Builtin.zeroCells z.cells m ++ Builtin.zeroCells z.cells (grownCap w (n + m) old e - (n + m))) e)) := by
      intro old ho
      have hge := grownCap_ge w (n + m) old e
      have hcm : grownCap w (n + m) old e ≤ maxLen := grownCap_le_maxLen w (n + m) old e (by simp only [maxLen]; omega)
      refine ⟨⟨hlen, .inr ⟨w.heap.size, _, _, rfl, Nat.zero_le _, heap_alloc_new w.drew _, hge, hcm, ?_, ?_⟩⟩, Evt.next (Evt.alloc _ _) ⟨rfl, rfl, rfl, Nat.le_refl _, fun _ _ _ => rfl⟩ (fun _ _ h => h)⟩
      · have h1 := hown.1
        simp only [Array.size_append, List.size_toArray, size_zeroCells, hzs, List.size_toArray, List.length_singleton, h1]
        simp
        omega
      · simp only [Array.toList_append, hzc]
        rw [← hlen]
        exact List.take_left
    rcases hown.2 with ⟨rfl, rfl⟩ | ⟨g, cap, cur, rfl, hbg, hg, hnc, hcm, hcs, htake⟩
    · have hx : xs = [] := List.eq_nil_of_length_eq_zero (by simpa using hown.1)
      subst hx
      have hr := Lib.run_append_nil_zeros (P := P) w t tn ty e inf z .i64 kn ht.ok htn.ok hq hz' m hm0 (by omega) (by omega) hmb
      have hgr := grown 0 (by omega)
      simp only [Nat.zero_add, List.nil_append, Array.empty_append] at hgr ⊢
      exact ⟨_, _, hr, hgr.1, hgr.2.mono fun _ _ h => h.elim, .inr ⟨rfl, hgr.2⟩⟩
    · by_cases hroom : n + m ≤ cap
      · have hr := run_append_room_z (P := P) (w := w) (ty := ty) t tn e inf z kn ht.ok htn.ok hq hz' g n cap cur hg m hm0 (by omega) (by omega) hmb (by rw [hzc]; intro u hu; rw [(List.mem_replicate.1 hu).2]; exact hz1) hroom (by rw [hzc, List.length_replicate, hi.1, hcs]; omega)
        rw [hzc, hi.1, List.length_replicate] at hr
        refine ⟨_, _, hr, ⟨hlen, .inr ⟨g, cap, _, rfl, hbg, setRow_heap w g cur _ e _ hg, hroom, hcm, ?_, ?_⟩⟩, ?_, .inl rfl⟩
        · simp only [List.size_toArray, List.length_append, List.length_take, List.length_drop, Array.length_toList, List.length_replicate]
          omega
        · rw [htake, ← hlen]
          exact List.take_left
        · exact ⟨rfl, rfl, rfl, by simp, fun k _ hk => setRow_other w g k _ (fun e => hk (by simp [Value.ownBlock, e]))⟩
      · have holds : ∀ j u, xs[j]? = some u → w.cell? ((⟨g, 0, none⟩ : Addr).add j) = some u := hown.cells (g := g) rfl
        have hr := run_append_grow_z (P := P) (w := w) (ty := ty) t tn e inf z kn ht.ok htn.ok hq hz' ⟨g, 0, none⟩ n cap xs (by rw [hi.1]; exact hown.1) holds m hm0 (by omega) (by omega) hmb (by omega) (by omega) (by rw [hi.2]; exact growslice_fits (by omega) hb)
        have hgr := grown cap (by omega)
        exact ⟨_, _, hr, hgr.1, hgr.2.mono fun _ _ h => h.elim, .inr ⟨rfl, hgr.2⟩⟩
/-- append of readable cells: in place, or all that was there stays as it was. -/
theorem run_appS {t e : TypeId} {sz bytes n m c : Nat} {z v : Value} {A : Option Addr} {xs news : List Value} [ht : TSlice P t e sz bytes] [hz : TZero P e z] (hzs : z.cells.size = sz) (hsz : 0 < sz)
    (hown : w.ownsRow 0 e sz v n xs) (hl : news.length = m * sz) (hr : RC w A news) (h1 : ∀ u ∈ news, u.oneCell' = true) (hb : (n + m) * bytes ≤ 140737488355328) (hm : n + m ≤ 4611686018427387904) :
    ∃ v' w1, (Builtin.append_ #[t, t] ty #[v, .slice A m c]).run P w = .ok v' w1 ∧ w1.ownsRow 0 e sz v' (n + m) (xs ++ news) ∧ Evt (fun k => v.ownBlock = some k) w w1 ∧ (v'.ownBlock = v.ownBlock ∨ (v'.ownBlock = some w.heap.size ∧ Evt (fun _ => False) w w1)) := by
  obtain ⟨v', w1, hrun, ho, he, _⟩ := run_appC (P := P) (w := w) (ty := ty) (t := t) (c := c) hzs hsz hown hl hr h1 hb hm
  refine ⟨v', w1, hrun, ho, he, ?_⟩
  have hi := ht.info
  have hz' := hz.ok
  cases hq : P.info? e with
  | none => simp [hq] at hi
  | some inf =>
    simp only [hq, Option.map_some, Option.some.injEq, Prod.mk.injEq] at hi hz'
    have alloc_ : ∀ b, Evt (fun _ => False) w (w.drew.alloc b) := fun b => Evt.next (Evt.alloc _ _) ⟨rfl, rfl, rfl, Nat.le_refl _, fun _ _ _ => rfl⟩ (fun _ _ h => h)
    cases A with
    | none =>
      have h0 : news = [] := by
        rcases Nat.eq_zero_or_pos news.length with h0 | h0
        · exact List.eq_nil_of_length_eq_zero h0
        · obtain ⟨b, o, h1, _⟩ := hr h0; cases h1
      subst h0
      have hm0 : m = 0 := by
        rcases Nat.eq_zero_or_pos m with h | h
        · exact h
        · have := Nat.mul_pos h hsz; simp at hl; omega
      subst hm0
      have hrun2 : (Builtin.append_ #[t, t] ty #[v, .slice none 0 c]).run P w = .ok v w := by
        rcases own_blk_of hown with ⟨rfl, h2⟩ | ⟨g, cap, cur, rfl, _, _, _, hcap, _⟩
        · simp [Builtin.append_, run_underlying ht.ok, sizeOf, typeInfo, hq, Builtin.lenOf, Builtin.firstCells, loadCells, loadCellsFrom]
        · simp [Builtin.append_, run_underlying ht.ok, sizeOf, typeInfo, hq, Builtin.lenOf, Builtin.firstCells, loadCells, loadCellsFrom, hcap, storeCells]
      rw [hrun2] at hrun
      cases hrun
      exact .inl rfl
    | some a =>
      have hnews : ∀ j u, news[j]? = some u → w.cell? (a.add j) = some u := by
        intro j u hu
        have hj : j < news.length := (List.getElem?_eq_some_iff.1 hu).1
        obtain ⟨b, o, h1, hc⟩ := hr (by omega)
        cases h1
        rw [add_off]
        exact hc j u hu
      rcases hown.2 with ⟨rfl, rfl⟩ | ⟨g, cap, cur, rfl, hbg, hg, hnc, hcm, hcs, htake⟩
      · have hx : xs = [] := List.eq_nil_of_length_eq_zero (by simpa using hown.1)
        subst hx
        by_cases hm0 : m = 0
        · subst hm0
          have hn : news = [] := List.eq_nil_of_length_eq_zero (by simpa using hl)
          subst hn
          have hrun2 : (Builtin.append_ #[t, t] ty #[.slice none 0 0, .slice (some a) 0 c]).run P w = .ok (.slice none 0 0) w := by
            simp [Builtin.append_, run_underlying ht.ok, sizeOf, typeInfo, hq, Builtin.lenOf, Builtin.firstCells, loadCells, loadCellsFrom]
          rw [hrun2] at hrun
          cases hrun
          exact .inl rfl
        · have hr2 := run_append_nil (P := P) w t ty e inf z ht.ok hq hz' a m c news (by rw [hi.1]; exact hl) hnews (by omega) (by omega) (by rw [hi.2]; simp only [Nat.zero_add] at hb; omega)
          rw [hr2] at hrun
          cases hrun
          exact .inr ⟨rfl, alloc_ _⟩
      · by_cases hroom : n + m ≤ cap
        · have hfit : n * inf.size + news.length ≤ cur.size := by rw [hi.1, hl, hcs, ← Nat.add_mul]; exact Nat.mul_le_mul_right _ hroom
          have hr2 := run_append_room (P := P) w t ty e inf ht.ok hq g n cap cur hg a m c news (by rw [hi.1]; exact hl) hnews h1 hroom hfit
          rw [hr2] at hrun
          cases hrun
          exact .inl rfl
        · have holds : ∀ j u, xs[j]? = some u → w.cell? ((⟨g, 0, none⟩ : Addr).add j) = some u := hown.cells (g := g) rfl
          have hr2 := run_append_grow (P := P) w t ty e inf z ht.ok hq hz' ⟨g, 0, none⟩ n cap xs (by rw [hi.1]; exact hown.1) holds a m c news (by rw [hi.1]; exact hl) hnews (by omega) (by omega) (by rw [hi.2]; exact growslice_fits (by omega) hb)
          rw [hr2] at hrun
          cases hrun
          exact .inr ⟨rfl, alloc_ _⟩
end
section
variable {P : Program} {ops : Array Oper} {rest : List Oper} {w : World} {Q : Exit → Act → World → Prop} {ty : TypeId} {pos : String} {aft : Array Edge} {l : List Value} {ds : List Deferred} {N : Tmp}
theorem e_appS {t e : TypeId} {sz bytes n m c : Nat} {z v : Value} {A : Option Addr} {x y : Operand} {xs news : List Value} (hx : ev l x = v) (hy : ev l y = .slice A m c) [ht : TSlice P t e sz bytes] [hz : TZero P e z] (hzs : z.cells.size = sz) (hsz : 0 < sz)
    (hown : w.ownsRow 0 e sz v n xs) (hl : news.length = m * sz) (hr : RC w A news) (h1 : ∀ u ∈ news, u.oneCell' = true) (hb : (n + m) * bytes ≤ 140737488355328) (hm : n + m ≤ 4611686018427387904)
    (h : ∀ v' w1, w1.ownsRow 0 e sz v' (n + m) (xs ++ news) → Evt (fun k => v.ownBlock = some k) w w1 → (v'.ownBlock = v.ownBlock ∨ (v'.ownBlock = some w.heap.size ∧ Evt (fun _ => False) w w1)) → w.heap.size ≤ w1.heap.size → wpList P ops Q rest ⟨(l.set N v').toArray, ds⟩ w1) :
    wpList P ops Q (⟨some N, .call { callee := .builtin .append, args := #[x, y], argTypes := #[t, t] }, ty, pos, aft, none⟩ :: rest) ⟨l.toArray, ds⟩ w := by
  obtain ⟨v', w1, hrun, h2, h3, h5⟩ := run_appS (P := P) (ty := ty) (t := t) (c := c) hzs hsz hown hl hr h1 hb hm
  refine l_event (v := v') (w' := w1) ?_ (h v' w1 h2 h3 h5 h3.size)
  simp only [execOp, Sem.run_bind, resolve, List.map_toArray, List.map_cons, List.map_nil, hx, hy, invoke, builtin, Sem.run_pure, Result.andThen_ok]
  first | (rw [hrun]; rfl) | (simp only [Sem.run_bind, hrun, Result.andThen_ok]; rfl)
theorem e_appZ {t tn e : TypeId} {bytes n m : Nat} {z v : Value} {kn : IntKind} {x y : Operand} {xs : List Value} (hx : ev l x = v) (hy : ev l y = .int .i64 m) [ht : TSlice P t e 1 bytes] [hz : TZero P e z] [htn : TInt P tn kn] (hzs : z.cells = #[z]) (hz1 : z.oneCell' = true)
    (hown : w.ownsRow 0 e 1 v n xs) (hm0 : 0 < m) (hb : (n + m) * bytes ≤ 140737488355328) (hm : n + m ≤ 4611686018427387904)
    (h : ∀ v' w1, w1.ownsRow 0 e 1 v' (n + m) (xs ++ List.replicate m z) → Evt (fun k => v.ownBlock = some k) w w1 → (v'.ownBlock = v.ownBlock ∨ (v'.ownBlock = some w.heap.size ∧ Evt (fun _ => False) w w1)) → w.heap.size ≤ w1.heap.size → wpList P ops Q rest ⟨(l.set N v').toArray, ds⟩ w1) :
    wpList P ops Q (⟨some N, .call { callee := .builtin .append, args := #[x, y], argTypes := #[t, tn] }, ty, pos, aft, none⟩ :: rest) ⟨l.toArray, ds⟩ w := by
  obtain ⟨v', w1, hrun, h2, h3, h5⟩ := run_appZ (P := P) (w := w) (ty := ty) (t := t) (tn := tn) hzs hz1 hown hm0 hb hm
  refine l_event (v := v') (w' := w1) ?_ (h v' w1 h2 h3 h5 h3.size)
  simp only [execOp, Sem.run_bind, resolve, List.map_toArray, List.map_cons, List.map_nil, hx, hy, invoke, builtin, Sem.run_pure, Result.andThen_ok]
  first | (rw [hrun]; rfl) | (simp only [Sem.run_bind, hrun, Result.andThen_ok]; rfl)
end
end Go.Proofs.YtchfkkliechgoaaE
