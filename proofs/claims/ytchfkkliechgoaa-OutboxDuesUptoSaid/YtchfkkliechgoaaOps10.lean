/- Rows of cells that are read; rows that begin inside a block; a string's bytes appended; maps of numbers. -/
import Derived.Test.YtchfkkliechgoaaOps9
import Derived.Lib.AppendStr
import Derived.Maps.OwnSet
namespace Go.Proofs.YtchfkkliechgoaaE
open Go Go.RowKit
set_option linter.unusedSimpArgs false
set_option linter.unusedVariables false

/-- Cells that can be read from A on. -/
def RC (w : World) (A : Option Addr) (cs : List Value) : Prop := 0 < cs.length → ∃ b o, A = some ⟨b, o, none⟩ ∧ ∀ j v, cs[j]? = some v → w.cell? ⟨b, o + j, none⟩ = some v
theorem RC.evt {S : Nat → Prop} {w w' : World} {A : Option Addr} {cs : List Value} (h : RC w A cs) (he : Evt S w w') (hs : ∀ b o, A = some ⟨b, o, none⟩ → ¬ S b) : RC w' A cs := fun hn => by
  obtain ⟨b, o, rfl, hc⟩ := h hn
  exact ⟨b, o, rfl, fun j v hj => cell_evt he (hc j v hj) (hs b o rfl)⟩
theorem RC.up {w w' : World} {A : Option Addr} {cs : List Value} (h : RC w A cs) (he : Evt (fun _ => False) w w') : RC w' A cs := h.evt he (fun _ _ _ => id)
theorem RC.nil (w : World) (A : Option Addr) : RC w A [] := fun h => by simp at h
theorem RC.blk {w : World} {g : Nat} {t : TypeId} {cs xs : List Value} (h : Blk w g t cs) (k : Nat) (hx : cs.take k = xs) : RC w (some ⟨g, 0, none⟩) xs := fun _ => ⟨g, 0, rfl, fun j v hj => by
  rw [Nat.zero_add, h.cell?]
  rw [← hx, List.getElem?_take] at hj
  split at hj
  · exact hj
  · cases hj⟩
theorem own_blk_of {w : World} {e : TypeId} {sz n : Nat} {v : Value} {xs : List Value} (h : w.ownsRow 0 e sz v n xs) : (v = .slice none 0 0 ∧ n = 0) ∨ ∃ g cap cur, v = .slice (some ⟨g, 0, none⟩) n cap ∧ Blk w g e cur ∧ cur.take (n * sz) = xs ∧ cur.length = cap * sz ∧ n ≤ cap ∧ cap ≤ maxLen := by
  rcases h.2 with h' | ⟨g', cap', cur, h', _, hg, hn, hm, hs, ht⟩
  · exact .inl h'
  · exact .inr ⟨g', cap', cur.toList, h', by simpa [Blk] using hg, ht, by simpa using hs, hn, hm⟩
theorem RC.own {w : World} {e : TypeId} {sz n c : Nat} {A : Option Addr} {xs : List Value} (h : w.ownsRow 0 e sz (.slice A n c) n xs) : RC w A xs := by
  rcases own_blk_of h with ⟨h1, h2⟩ | ⟨g, cap, cur, h1, hb, ht, _⟩
  · have := h.1
    simp only [h2, Nat.zero_mul] at this
    rw [List.eq_nil_of_length_eq_zero this]
    exact RC.nil _ _
  · simp only [Value.slice.injEq] at h1
    rw [h1.1]
    exact RC.blk hb _ ht
theorem Blk.ne {w : World} {a b : Nat} {t u : TypeId} {cs ds : List Value} (h : Blk w a t cs) (k : Blk w b u ds) (hn : t ≠ u) : a ≠ b := by
  rintro rfl
  unfold Blk at h k
  rw [h] at k
  simp at k
  exact hn k.2

section
variable {P : Program} {ops : Array Oper} {rest : List Oper} {w : World} {Q : Exit → Act → World → Prop} {ty : TypeId} {pos : String} {aft : Array Edge} {l : List Value} {ds : List Deferred} {N : Tmp}
/-- append of cells that are read, onto a row of the call's own. -/
theorem run_appC {t e : TypeId} {sz bytes n m c : Nat} {z v : Value} {A : Option Addr} {xs news : List Value} [ht : TSlice P t e sz bytes] [hz : TZero P e z] (hzs : z.cells.size = sz) (hsz : 0 < sz)
    (hown : w.ownsRow 0 e sz v n xs) (hl : news.length = m * sz) (hr : RC w A news) (h1 : ∀ u ∈ news, u.oneCell' = true) (hb : (n + m) * bytes ≤ 140737488355328) (hm : n + m ≤ 4611686018427387904) :
    ∃ v' w1, (Builtin.append_ #[t, t] ty #[v, .slice A m c]).run P w = .ok v' w1 ∧ w1.ownsRow 0 e sz v' (n + m) (xs ++ news) ∧ Evt (fun k => v.ownBlock = some k) w w1 ∧ (v'.ownBlock = v.ownBlock ∨ v'.ownBlock = some w.heap.size) := by
  have hi := ht.info
  have hz' := hz.ok
  cases hq : P.info? e with
  | none => simp [hq] at hi
  | some inf =>
    simp only [hq, Option.map_some, Option.some.injEq, Prod.mk.injEq] at hi hz'
    cases A with
    | none =>
      have h0 : news = [] := by
        rcases Nat.eq_zero_or_pos news.length with h0 | h0
        · exact List.eq_nil_of_length_eq_zero h0
        · obtain ⟨b, o, h1, _⟩ := hr h0; cases h1
      subst h0
      have hm0 : m = 0 := by
        rcases Nat.eq_zero_or_pos m with h | h
        · exact h
        · have := Nat.mul_pos h hsz; simp at hl; omega
      subst hm0
      refine ⟨v, w, ?_, by simpa using hown, Evt.refl _ _, .inl rfl⟩
      rcases own_blk_of hown with ⟨rfl, h2⟩ | ⟨g, cap, cur, rfl, _, _, _, hcap, _⟩
      · simp [Builtin.append_, run_underlying ht.ok, sizeOf, typeInfo, hq, Builtin.lenOf, Builtin.firstCells, loadCells, loadCellsFrom]
      · simp [Builtin.append_, run_underlying ht.ok, sizeOf, typeInfo, hq, Builtin.lenOf, Builtin.firstCells, loadCells, loadCellsFrom, hcap, storeCells]
    | some a =>
      have hnews : ∀ j u, news[j]? = some u → w.cell? (a.add j) = some u := by
        intro j u hu
        have hj : j < news.length := (List.getElem?_eq_some_iff.1 hu).1
        obtain ⟨b, o, h1, hc⟩ := hr (by omega)
        cases h1
        rw [add_off]
        exact hc j u hu
      obtain ⟨v', w1, h1, h2, h3, _, h5⟩ := run_append_own_at (P := P) w 0 t ty e inf z sz bytes ht.ok hq hz' hi.1 hi.2 hzs hsz v n xs hown a m c news hl hnews h1 (by simp only [maxLen]; omega) hb (Nat.zero_le _)
      exact ⟨v', w1, h1, h2, Evt.of_grown h3, h5⟩
theorem e_appC {t e : TypeId} {sz bytes n m c : Nat} {z v : Value} {A : Option Addr} {x y : Operand} {xs news : List Value} (hx : ev l x = v) (hy : ev l y = .slice A m c) [ht : TSlice P t e sz bytes] [hz : TZero P e z] (hzs : z.cells.size = sz) (hsz : 0 < sz)
    (hown : w.ownsRow 0 e sz v n xs) (hl : news.length = m * sz) (hr : RC w A news) (h1 : ∀ u ∈ news, u.oneCell' = true) (hb : (n + m) * bytes ≤ 140737488355328) (hm : n + m ≤ 4611686018427387904)
    (h : ∀ v' w1, w1.ownsRow 0 e sz v' (n + m) (xs ++ news) → Evt (fun k => v.ownBlock = some k) w w1 → (v'.ownBlock = v.ownBlock ∨ v'.ownBlock = some w.heap.size) → w.heap.size ≤ w1.heap.size → wpList P ops Q rest ⟨(l.set N v').toArray, ds⟩ w1) :
    wpList P ops Q (⟨some N, .call { callee := .builtin .append, args := #[x, y], argTypes := #[t, t] }, ty, pos, aft, none⟩ :: rest) ⟨l.toArray, ds⟩ w := by
  obtain ⟨v', w1, hrun, h2, h3, h5⟩ := run_appC (P := P) (ty := ty) (t := t) (c := c) hzs hsz hown hl hr h1 hb hm
  refine l_event (v := v') (w' := w1) ?_ (h v' w1 h2 h3 h5 h3.size)
  simp only [execOp, Sem.run_bind, resolve, List.map_toArray, List.map_cons, List.map_nil, hx, hy, invoke, builtin, Sem.run_pure, Result.andThen_ok]
  first | (rw [hrun]; rfl) | (simp only [Sem.run_bind, hrun, Result.andThen_ok]; rfl)

/-! ### rows of one cell an element that may begin inside a block -/
def tailBlk : Value → Option Nat
  | .slice (some a) _ (_ + 1) => some a.block
  | _ => none
structure Tail (w : World) (e : TypeId) (v : Value) (xs : List Value) : Prop where
  ok : ∃ A c, v = .slice A xs.length c ∧ xs.length ≤ c ∧ c ≤ maxLen ∧ (c = 0 ∨ ∃ b o cur, A = some ⟨b, o, none⟩ ∧ Blk w b e cur ∧ cur.length = o + c ∧ (cur.drop o).take xs.length = xs)
theorem tailBlk_some {b o n c : Nat} (h : 0 < c) : tailBlk (.slice (some ⟨b, o, none⟩) n c) = some b := by
  cases c with
  | zero => omega
  | succ c => rfl
theorem tailBlk_zero {A : Option Addr} {n : Nat} : tailBlk (.slice A n 0) = none := by cases A <;> rfl
theorem Tail.nil (w : World) (e : TypeId) : Tail w e (.slice none 0 0) [] := ⟨none, 0, rfl, Nat.le_refl _, by simp [maxLen], .inl rfl⟩
theorem Tail.evt {S : Nat → Prop} {w w' : World} {e : TypeId} {v : Value} {xs : List Value} (h : Tail w e v xs) (he : Evt S w w') (hs : ∀ k, tailBlk v = some k → ¬ S k) : Tail w' e v xs := by
  obtain ⟨A, c, rfl, h1, h2, h3⟩ := h.ok
  refine ⟨A, c, rfl, h1, h2, ?_⟩
  rcases h3 with h3 | ⟨b, o, cur, rfl, hb, hl, ht⟩
  · exact .inl h3
  · rcases Nat.eq_zero_or_pos c with h0 | h0
    · exact .inl h0
    · exact .inr ⟨b, o, cur, rfl, hb.evt he (hs b (tailBlk_some h0)), hl, ht⟩
theorem Tail.up {w w' : World} {e : TypeId} {v : Value} {xs : List Value} (h : Tail w e v xs) (he : Evt (fun _ => False) w w') : Tail w' e v xs := h.evt he (fun _ _ => id)
theorem Tail.lt {w : World} {e : TypeId} {v : Value} {xs : List Value} (h : Tail w e v xs) : ∀ k, tailBlk v = some k → k < w.heap.size := by
  intro k hk
  obtain ⟨A, c, rfl, h1, h2, h3⟩ := h.ok
  rcases h3 with rfl | ⟨b, o, cur, rfl, hb, hl, ht⟩
  · rw [tailBlk_zero] at hk; cases hk
  · rcases Nat.eq_zero_or_pos c with rfl | h0
    · rw [tailBlk_zero] at hk; cases hk
    · rw [tailBlk_some h0] at hk
      cases hk
      exact hb.lt
theorem Tail.typ {w : World} {e : TypeId} {v : Value} {xs : List Value} (h : Tail w e v xs) : ∀ k, tailBlk v = some k → ∃ cur, Blk w k e cur := by
  intro k hk
  obtain ⟨A, c, rfl, h1, h2, h3⟩ := h.ok
  rcases h3 with rfl | ⟨b, o, cur, rfl, hb, hl, ht⟩
  · rw [tailBlk_zero] at hk; cases hk
  · rcases Nat.eq_zero_or_pos c with rfl | h0
    · rw [tailBlk_zero] at hk; cases hk
    · rw [tailBlk_some h0] at hk
      cases hk
      exact ⟨cur, hb⟩
theorem Tail.rc {w : World} {e : TypeId} {A : Option Addr} {n c : Nat} {xs : List Value} (h : Tail w e (.slice A n c) xs) : RC w A xs := by
  obtain ⟨A', c', he, h1, h2, h3⟩ := h.ok
  simp only [Value.slice.injEq] at he
  obtain ⟨rfl, _, rfl⟩ := he
  intro hn
  rcases h3 with rfl | ⟨b, o, cur, rfl, hb, hl, ht⟩
  · omega
  · refine ⟨b, o, rfl, fun j v hj => ?_⟩
    rw [hb.cell?]
    rw [← ht, List.getElem?_take] at hj
    split at hj
    · rw [List.getElem?_drop] at hj; exact hj
    · cases hj
/-- x[1:]. -/
theorem Tail.tl {w : World} {e : TypeId} {A : Option Addr} {n c : Nat} {x : Value} {xs : List Value} (h : Tail w e (.slice A n c) (x :: xs)) : Tail w e (.slice (from_ A c 1 1) (n - 1) (c - 1)) xs ∧ (∀ k, tailBlk (.slice (from_ A c 1 1) (n - 1) (c - 1)) = some k → tailBlk (.slice A n c) = some k) := by
  obtain ⟨A', c', he, h1, h2, h3⟩ := h.ok
  simp only [Value.slice.injEq] at he
  obtain ⟨rfl, hn, rfl⟩ := he
  simp only [List.length_cons] at hn h1
  subst hn
  rcases h3 with rfl | ⟨b, o, cur, rfl, hb, hl, ht⟩
  · omega
  · by_cases hc1 : c = 1
    · subst hc1
      exact ⟨⟨⟨_, 0, by rw [Nat.add_sub_cancel], by omega, by simp [maxLen], .inl rfl⟩⟩, fun k hk => by rw [tailBlk_zero] at hk; cases hk⟩
    · have hf : from_ (some ⟨b, o, none⟩) c 1 1 = some ⟨b, o + 1, none⟩ := by simp [from_, hc1, add_off]
      rw [hf]
      refine ⟨⟨⟨_, c - 1, by rw [Nat.add_sub_cancel], by omega, by omega, .inr ⟨b, o + 1, cur, rfl, hb, by omega, ?_⟩⟩⟩, fun k hk => ?_⟩
      · have h4 := congrArg (List.drop 1) ht
        simp only [List.length_cons, List.drop_succ_cons, List.drop_zero] at h4
        rw [List.drop_take, List.drop_drop, Nat.add_sub_cancel] at h4
        exact h4
      · rw [tailBlk_some (by omega)] at hk
        rw [tailBlk_some (by omega)]
        exact hk
/-- append of a string's bytes. -/
theorem run_tailStr {t u e : TypeId} {v : Value} {xs : List Value} {s : ByteArray} [ht : TSlice P t e 1 1] [hu : TStr P u] [hz : TZero P e (.int .u8 0)] (h : Tail w e v xs) (hb : xs.length + s.size ≤ 1000000000) :
    ∃ v' w1, (Builtin.append_ #[t, u] ty #[v, .string s]).run P w = .ok v' w1 ∧ Tail w1 e v' (xs ++ Lib.strCells s) ∧ Evt (fun k => tailBlk v = some k) w w1 ∧ (∀ k, tailBlk v' = some k → tailBlk v = some k ∨ k = w.heap.size) := by
  have hi := ht.info
  have hz' := hz.ok
  have hls := Lib.strCells_length s
  have hl : (xs ++ Lib.strCells s).length = xs.length + s.size := by rw [List.length_append, hls]
  cases hq : P.info? e with
  | none => simp [hq] at hi
  | some inf =>
    simp only [hq, Option.map_some, Option.some.injEq, Prod.mk.injEq] at hi hz'
    have hf := fun w => Lib.run_firstCells_string (P := P) w 1 s
    obtain ⟨A, c, rfl, h1, h2, h3⟩ := h.ok
    by_cases hroom : xs.length + s.size ≤ c
    · rcases h3 with rfl | ⟨b, o, cur, rfl, hblk, hcl, htk⟩
      · have hs0 : Lib.strCells s = [] := List.eq_nil_of_length_eq_zero (by omega)
        have hs1 : s.size = 0 := by omega
        refine ⟨.slice A xs.length 0, w, ?_, by rw [hs0, List.append_nil]; exact h, Evt.refl _ _, fun k hk => .inl hk⟩
        have hx0 : xs.length = 0 := by omega
        have hf0 := hf w
        rw [hs0, hs1] at hf0
        cases A <;> simp [Builtin.append_, run_underlying ht.ok, run_underlying hu.ok, sizeOf, typeInfo, hq, hi, Builtin.lenOf, hs1, hx0, hf0, storeCells]
      · obtain ⟨w1, hst, hb1, he1⟩ := run_storeCells (P := P) (g := b) (t' := e) (o + xs.length) (Lib.strCells s) w 0 cur hblk (Lib.strCells_oneCell s) (by omega)
        have hcpos : 0 < c ∨ c = 0 := by omega
        rcases hcpos with hcpos | rfl
        · refine ⟨.slice (some ⟨b, o, none⟩) (xs.length + s.size) c, w1, ?_, ⟨_, c, by rw [hl], by omega, h2, .inr ⟨b, o, _, rfl, hb1, by rw [splice_length]; exact hcl, ?_⟩⟩, he1.mono (fun k _ hk => by rw [tailBlk_some hcpos, hk]), fun k hk => .inl (by rw [tailBlk_some hcpos] at hk ⊢; exact hk)⟩
          · simp [Builtin.append_, run_underlying ht.ok, run_underlying hu.ok, sizeOf, typeInfo, hq, hi, Builtin.lenOf, hroom, hf, add_off, hst]
          · have hcur : cur = (cur.take (o + xs.length)) ++ (cur.drop (o + xs.length)).take s.size ++ cur.drop (o + xs.length + s.size) := by
              conv => lhs; rw [← List.take_append_drop (o + xs.length) cur, ← List.take_append_drop s.size (cur.drop (o + xs.length)), List.drop_drop]
              rw [List.append_assoc]
            have h4 : ((cur.drop (o + xs.length)).take s.size).length = (Lib.strCells s).length := by rw [List.length_take, List.length_drop]; omega
            have h5 : (cur.take (o + xs.length)).length = o + xs.length := by rw [List.length_take]; omega
            have h6 := splice_mid (Lib.strCells s) (cur.take (o + xs.length)) ((cur.drop (o + xs.length)).take s.size) (cur.drop (o + xs.length + s.size)) h4
            rw [← hcur, h5] at h6
            rw [Nat.add_zero, h6, hl]
            have h7 : (cur.take (o + xs.length)).drop o = xs := by rw [List.drop_take, show o + xs.length - o = xs.length by omega]; exact htk
            rw [List.append_assoc, List.drop_append, h7]
            have h8 : o - (cur.take (o + xs.length)).length = 0 := by omega
            rw [h8, List.drop_zero, ← List.append_assoc]
            rw [List.take_append_of_le_length (by rw [hl]; exact Nat.le_refl _), List.take_of_length_le (by rw [hl]; exact Nat.le_refl _)]
        · have hs0 : Lib.strCells s = [] := List.eq_nil_of_length_eq_zero (by omega)
          have hs1 : s.size = 0 := by omega
          have hx0 : xs.length = 0 := by omega
          have hf0 := hf w
          rw [hs0, hs1] at hf0
          refine ⟨.slice (some ⟨b, o, none⟩) xs.length 0, w, ?_, by rw [hs0, List.append_nil]; exact h, Evt.refl _ _, fun k hk => .inl hk⟩
          simp [Builtin.append_, run_underlying ht.ok, run_underlying hu.ok, sizeOf, typeInfo, hq, hi, Builtin.lenOf, hs1, hx0, hf0, storeCells]
    · have hfo : ∀ w', w'.heap = w.heap → (Builtin.firstCells 1 xs.length (.slice A xs.length c)).run P w' = .ok xs.toArray w' := by
        intro w' hw'
        rcases Nat.eq_zero_or_pos xs.length with h0 | h0
        · have hx := List.eq_nil_of_length_eq_zero h0
          subst hx
          cases A <;> simp [Builtin.firstCells, loadCells, loadCellsFrom]
        · obtain ⟨b, o, hA, hc⟩ := h.rc h0
          subst hA
          refine run_firstCells_some w' 1 xs.length ⟨b, o, none⟩ xs.length c xs (by omega) (fun j u hu => ?_)
          have h9 := hc j u hu
          simpa [World.cell?, hw', add_off] using h9
      have hn : ¬ (xs.length + s.size ≤ c) := hroom
      have hge := grownCap_ge w (xs.length + s.size) c e
      have hcm : grownCap w (xs.length + s.size) c e ≤ maxLen := grownCap_le_maxLen w (xs.length + s.size) c e (by simp only [maxLen]; omega)
      have h63' : ¬ (9223372036854775807 < ((xs.length : Int) + (s.size : Int))) := by omega
      have hfit : Builtin.nextslicecap (xs.length + s.size) c * inf.bytes ≤ 281474976710656 := growslice_fits (by omega) (by rw [hi.2]; omega)
      have h48' : ¬ (281474976710656 < Builtin.nextslicecap (xs.length + s.size) c) := by rw [hi.2] at hfit; omega
      have hfo' := hfo w.drew rfl
      have hf' := hf w.drew
      refine ⟨.slice (some ⟨w.heap.size, 0, none⟩) (xs.length + s.size) (grownCap w (xs.length + s.size) c e), w.drew.alloc (.cells (xs.toArray ++ (Lib.strCells s).toArray ++ Builtin.zeroCells (Value.int .u8 0).cells (grownCap w (xs.length + s.size) c e - (xs.length + s.size))) e), ?_, ?_, ?_, ?_⟩
      · simp [Builtin.append_, run_underlying ht.ok, run_underlying hu.ok, sizeOf, typeInfo, zeroValue, hq, hi, hz', Builtin.lenOf, hn, h63', h48', Question.forced, hfo', hf', newRow, grownCap]
        congr 2
        apply Array.ext'
        simp [List.append_assoc]
      · refine ⟨_, _, by rw [hl], by rw [hl]; exact hge, hcm, .inr ⟨w.heap.size, 0, (xs ++ Lib.strCells s ++ (Builtin.zeroCells (Value.int .u8 0).cells (grownCap w (xs.length + s.size) c e - (xs.length + s.size))).toList), rfl, ?_, ?_, ?_⟩⟩
        · show (w.drew.alloc _).heap[w.drew.heap.size]? = _
          rw [heap_alloc_new]
          congr 2
          apply Array.ext'
          simp [List.append_assoc]
        · have hz4 : (Builtin.zeroCells (Value.int .u8 0).cells (grownCap w (xs.length + s.size) c e - (xs.length + s.size))).toList.length = (grownCap w (xs.length + s.size) c e - (xs.length + s.size)) * 1 := size_zeroCells _ _
          rw [List.length_append, hl, hz4]
          omega
        · rw [List.drop_zero]
          exact List.take_left' rfl
      · exact ⟨rfl, rfl, rfl, by simp, fun k hk _ => Below.heap_alloc w.drew _ k hk⟩
      · intro k hk
        rw [tailBlk_some (by omega)] at hk
        exact .inr (Option.some.inj hk).symm
theorem e_tailStr {t u e : TypeId} {x y : Operand} {v : Value} {xs : List Value} {s : ByteArray} (hx : ev l x = v) (hy : ev l y = .string s) [ht : TSlice P t e 1 1] [hu : TStr P u] [hz : TZero P e (.int .u8 0)] (h : Tail w e v xs) (hb : xs.length + s.size ≤ 1000000000)
    (hk : ∀ v' w1, Tail w1 e v' (xs ++ Lib.strCells s) → Evt (fun k => tailBlk v = some k) w w1 → (∀ k, tailBlk v' = some k → tailBlk v = some k ∨ k = w.heap.size) → w.heap.size ≤ w1.heap.size → wpList P ops Q rest ⟨(l.set N v').toArray, ds⟩ w1) :
    wpList P ops Q (⟨some N, .call { callee := .builtin .append, args := #[x, y], argTypes := #[t, u] }, ty, pos, aft, none⟩ :: rest) ⟨l.toArray, ds⟩ w := by
  obtain ⟨v', w1, hrun, h2, h3, h5⟩ := run_tailStr (P := P) (ty := ty) (t := t) (u := u) h hb
  refine l_event (v := v') (w' := w1) ?_ (hk v' w1 h2 h3 h5 h3.size)
  simp only [execOp, Sem.run_bind, resolve, List.map_toArray, List.map_cons, List.map_nil, hx, hy, invoke, builtin, Sem.run_pure, Result.andThen_ok]
  first | (rw [hrun]; rfl) | (simp only [Sem.run_bind, hrun, Result.andThen_ok]; rfl)
end
end Go.Proofs.YtchfkkliechgoaaE
