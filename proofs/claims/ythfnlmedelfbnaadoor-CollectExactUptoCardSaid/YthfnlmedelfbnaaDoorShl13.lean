/- The shelf of answers in memory. SHORT -/
import Derived.Test.YthfnlmedelfbnaaDoorRf13f
import Derived.Test.YthfnlmedelfbnaaDoorOps5
namespace Go.Proofs.YthfnlmedelfbnaaDoor
open Go.RowKit Go.Proofs.YthfnlmedelfbnaaDoorE
set_option linter.unusedSimpArgs false
set_option linter.unusedVariables false

structure Sl where
  A : Option Addr
  n : Nat
  c : Nat
@[reducible] def slV (s : Sl) : Value := .slice s.A s.n s.c
theorem own_typ {w : World} {e : TypeId} {sz n : Nat} {v : Value} {xs : List Value} (h : w.ownsRow 0 e sz v n xs) : ∀ k, v.ownBlock = some k → ∃ cur, Blk w k e cur := by
  intro k hk
  rcases own_blk_of h with ⟨rfl, _⟩ | ⟨g, cap, cur, rfl, hb, _⟩
  · simp [Value.ownBlock] at hk
  · simp only [Value.ownBlock, Option.some.injEq] at hk
    subst hk
    exact ⟨cur, hb⟩
def RG (w : World) (G : Nat → Prop) (A : Option Addr) (cs : List Value) : Prop := 0 < cs.length → ∃ b o, A = some ⟨b, o, none⟩ ∧ G b ∧ ∀ j v, cs[j]? = some v → w.cell? ⟨b, o + j, none⟩ = some v
theorem RG.rc {w : World} {G : Nat → Prop} {A : Option Addr} {cs : List Value} (h : RG w G A cs) : RC w A cs := fun hn => by
  obtain ⟨b, o, hA, _, hc⟩ := h hn
  exact ⟨b, o, hA, hc⟩
theorem RG.evt {S : Nat → Prop} {w w' : World} {G G' : Nat → Prop} {A : Option Addr} {cs : List Value} (h : RG w G A cs) (he : Evt S w w') (hs : ∀ k, k < w.heap.size → G k → ¬ S k) (hG : ∀ k, G k → G' k) : RG w' G' A cs := fun hn => by
  obtain ⟨b, o, rfl, hg, hc⟩ := h hn
  have hlt : b < w.heap.size := by
    have h0 : 0 < cs.length := hn
    have := World.block_lt_of_cell? w _ (hc 0 _ (List.getElem?_eq_getElem h0))
    exact this
  exact ⟨b, o, rfl, hG b hg, fun j v hj => cell_evt he (hc j v hj) (hs b hlt hg)⟩
theorem RG.blk {w : World} {G : Nat → Prop} {g : Nat} {t : TypeId} {cs xs : List Value} (h : Blk w g t cs) (k : Nat) (hx : cs.take k = xs) (hg : G g) : RG w G (some ⟨g, 0, none⟩) xs := fun hn => by
  obtain ⟨b, o, hA, hc⟩ := RC.blk h k hx hn
  cases hA
  exact ⟨g, 0, rfl, hg, hc⟩
theorem RG.own {w : World} {G : Nat → Prop} {e : TypeId} {sz n c : Nat} {A : Option Addr} {xs : List Value} (h : w.ownsRow 0 e sz (.slice A n c) n xs) (hG : ∀ k, (Value.slice A n c).ownBlock = some k → G k) : RG w G A xs := by
  rcases own_blk_of h with ⟨h1, h2⟩ | ⟨g, cap, cur, h1, hb, ht, _⟩
  · have := h.1
    simp only [h2, Nat.zero_mul] at this
    rw [List.eq_nil_of_length_eq_zero this]
    intro h0
    simp at h0
  · simp only [Value.slice.injEq] at h1
    obtain ⟨rfl, _, _⟩ := h1
    exact RG.blk hb _ ht (hG g rfl)
theorem RG.pre {w : World} {G : Nat → Prop} {A : Option Addr} {xs ys : List Value} (h : RG w G A (xs ++ ys)) : RG w G A xs := fun hn => by
  obtain ⟨b, o, hA, hg, hc⟩ := h (by rw [List.length_append]; omega)
  exact ⟨b, o, hA, hg, fun j v hj => hc j v (by rw [List.getElem?_append_left (List.getElem?_eq_some_iff.1 hj).1]; exact hj)⟩
theorem RG.rep {w : World} {G : Nat → Prop} {A : Option Addr} {n : Nat} {v : Value} (h : RG w G A (List.replicate n v)) {i : Nat} (hi : i < n) : ∃ b o, A = some ⟨b, o, none⟩ ∧ w.cell? ⟨b, o + i, none⟩ = some v := by
  obtain ⟨b, o, hA, _, hc⟩ := h (by rw [List.length_replicate]; omega)
  exact ⟨b, o, hA, hc i v (by rw [List.getElem?_replicate, if_pos hi])⟩
theorem own_form2 {w : World} {e : TypeId} {sz n : Nat} {v : Value} {xs : List Value} (h : w.ownsRow 0 e sz v n xs) {i : Nat} (hi : i < n) : ∃ b cap, v = .slice (some ⟨b, 0, none⟩) n cap ∧ v.ownBlock = some b ∧ b < w.heap.size ∧ ∀ j u, xs[j]? = some u → w.cell? ⟨b, 0 + j, none⟩ = some u := by
  rcases own_blk_of h with ⟨_, h2⟩ | ⟨g, cap, cur, rfl, hb, ht, _⟩
  · omega
  · refine ⟨g, cap, rfl, rfl, hb.lt, fun j u hj => ?_⟩
    rw [hb.cell?, Nat.zero_add]
    rw [← ht, List.getElem?_take] at hj
    split at hj
    · exact hj
    · cases hj
theorem own_at {w : World} {e : TypeId} {n : Nat} {v : Value} {l : List Sl} (h : w.ownsRow 0 e 1 v n (l.map slV)) {i : Nat} (hn : l.length = n) (hi : i < n) : ∃ b cap, v = .slice (some ⟨b, 0, none⟩) n cap ∧ w.cell? ⟨b, i, none⟩ = some (slV (l[i]'(by omega))) := by
  obtain ⟨b, cap, hv, _, _, hc⟩ := own_form2 h hi
  have h1 := hc i _ (by rw [List.getElem?_map, List.getElem?_eq_getElem (by omega)]; rfl)
  rw [Nat.zero_add] at h1
  exact ⟨b, cap, hv, h1⟩
theorem own_cap {w : World} {e : TypeId} {sz n c : Nat} {A : Option Addr} {xs : List Value} (h : w.ownsRow 0 e sz (.slice A n c) n xs) (hs : 0 < sz) : n ≤ c := by
  rcases own_blk_of h with ⟨h1, h2⟩ | ⟨g, cap, cur, h1, hb, ht, hl, hx⟩
  · omega
  · simp only [Value.slice.injEq] at h1
    omega
theorem keep_head {w1 wC : World} {e : TypeId} {V VC : Option Addr} {i d dC m : Nat} {xs news : List Value} (hV : w1.ownsRow 0 e 1 (.slice V i d) i xs) (hC : wC.ownsRow 0 e 1 (.slice VC (i + m) dC) (i + m) (xs ++ news)) (ha : (Value.slice VC (i + m) dC).ownBlock = (Value.slice V i d).ownBlock ∨ ((Value.slice VC (i + m) dC).ownBlock = some w1.heap.size ∧ Evt (fun _ => False) w1 wC)) :
    RG wC (fun k => (Value.slice V i d).ownBlock = some k) V xs := by
  rcases ha with ha | ⟨_, he⟩
  · intro hn
    rcases own_blk_of hV with ⟨_, h2⟩ | ⟨g, cap, cur, h1, _⟩
    · have := hV.1
      omega
    · have hg : (Value.slice V i d).ownBlock = some g := by rw [h1]; rfl
      simp only [Value.slice.injEq] at h1
      obtain ⟨rfl, _, _⟩ := h1
      rcases own_blk_of hC with ⟨h3, h4⟩ | ⟨g', cap', cur', h3, _⟩
      · rw [h3, hg] at ha
        simp [Value.ownBlock] at ha
      · have hg' : (Value.slice VC (i + m) dC).ownBlock = some g' := by rw [h3]; rfl
        rw [hg', hg] at ha
        obtain rfl := Option.some.inj ha
        simp only [Value.slice.injEq] at h3
        obtain ⟨rfl, _, _⟩ := h3
        obtain ⟨b, o, hb, hc⟩ := (RC.own hC) (by rw [List.length_append]; omega)
        cases hb
        exact ⟨_, 0, rfl, hg, fun j v hj => hc j v (by rw [List.getElem?_append_left (List.getElem?_eq_some_iff.1 hj).1]; exact hj)⟩
  · exact (RG.own hV (fun k hk => hk)).evt he (fun _ _ _ h => h) (fun _ h => h)
theorem snoc_get {α : Type} {l : List α} {x y : α} {j : Nat} (h : (l ++ [x])[j]? = some y) : l[j]? = some y ∨ (j = l.length ∧ y = x) := by
  rcases Nat.lt_or_ge j l.length with hj | hj
  · rw [List.getElem?_append_left hj] at h
    exact .inl h
  · rw [List.getElem?_append_right hj] at h
    have h1 : j - l.length < 1 := by have := (List.getElem?_eq_some_iff.1 h).1; simpa using this
    have h2 : j = l.length := by omega
    subst h2
    rw [Nat.sub_self] at h
    exact .inr ⟨rfl, (Option.some.inj h).symm⟩
theorem take_set1 {cur : List Value} {i : Nat} {v : Value} (h : cur.take i = List.replicate i v) (hi : i < cur.length) : (cur.set i v).take (i + 1) = List.replicate (i + 1) v := by
  have hl : i < (cur.set i v).length := by rw [List.length_set]; exact hi
  rw [List.take_succ_eq_append_getElem hl, List.getElem_set_self, List.replicate_succ']
  congr 1
  rw [← h]
  apply List.ext_getElem?
  intro k
  rw [List.getElem?_take, List.getElem?_take]
  by_cases hk : k < i
  · rw [if_pos hk, if_pos hk, List.getElem?_set_ne (by omega)]
  · rw [if_neg hk, if_neg hk]
theorem RG.up {w w' : World} {G : Nat → Prop} {A : Option Addr} {cs : List Value} (h : RG w G A cs) (he : Evt (fun _ => False) w w') : RG w' G A cs := h.evt he (fun _ _ _ h => h) (fun _ h => h)
@[reducible] def mkS (i : Nat) : Int := -1 - (i : Int)
def longC (n : Nat) (m : Int) : List Value := List.replicate n (.int .i64 m) ++ List.replicate 64 (.int .i64 0)
theorem longC_len (n : Nat) (m : Int) : (longC n m).length = n + 64 := by simp [longC]
/-- The lists that were answered, each written full, and behind it. -/
structure ShelfV (w : World) (D : Nat → Prop) (gS : Nat) (ls ms : List Sl) (vI vL : Value) : Prop where
  blk : Blk w gS 35 [vI, vL]
  rI : w.ownsRow 0 22 1 vI ls.length (ls.map slV)
  rL : w.ownsRow 0 22 1 vL ms.length (ms.map slV)
  len : ms.length = ls.length
  dI : ∀ (i : Nat) (s : Sl), ls[i]? = some s → s.n ≤ 1000000000 ∧ RG w D s.A (List.replicate s.n (.int .i64 (mkS i)))
  dL : ∀ (i : Nat) (s t : Sl), ls[i]? = some s → ms[i]? = some t → t.n = s.n + 64 ∧ RG w D t.A (longC s.n (mkS i))
  apI : ∀ k, vI.ownBlock = some k → ¬ D k
  apL : ∀ k, vL.ownBlock = some k → ¬ D k
  apg : ¬ D gS
  dis : ∀ k, vI.ownBlock = some k → ¬ vL.ownBlock = some k
  lt : ∀ k, D k → k < w.heap.size
  bd : ls.length ≤ 1000000000000
/-- The blocks of the shelf. -/
def Shl (D : Nat → Prop) (gS : Nat) (vI vL : Value) (k : Nat) : Prop := D k ∨ k = gS ∨ vI.ownBlock = some k ∨ vL.ownBlock = some k
theorem ShelfV.evt {S : Nat → Prop} {w w' : World} {D : Nat → Prop} {gS : Nat} {ls ms : List Sl} {vI vL : Value} (h : ShelfV w D gS ls ms vI vL) (he : Evt S w w') (hs : ∀ k, Shl D gS vI vL k → ¬ S k) : ShelfV w' D gS ls ms vI vL where
  blk := h.blk.evt he (hs _ (.inr (.inl rfl)))
  rI := own_evt he h.rI (fun k hk => hs k (.inr (.inr (.inl hk))))
  rL := own_evt he h.rL (fun k hk => hs k (.inr (.inr (.inr hk))))
  len := h.len
  dI := fun i s hs' => ⟨(h.dI i s hs').1, (h.dI i s hs').2.evt he (fun k _ hk => hs k (.inl hk)) (fun _ h => h)⟩
  dL := fun i s t h1 h2 => ⟨(h.dL i s t h1 h2).1, (h.dL i s t h1 h2).2.evt he (fun k _ hk => hs k (.inl hk)) (fun _ h => h)⟩
  apI := h.apI
  apL := h.apL
  apg := h.apg
  dis := h.dis
  lt := fun k hk => Nat.lt_of_lt_of_le (h.lt k hk) he.size
  bd := h.bd
theorem ShelfV.up {w w' : World} {D : Nat → Prop} {gS : Nat} {ls ms : List Sl} {vI vL : Value} (h : ShelfV w D gS ls ms vI vL) (he : Evt (fun _ => False) w w') : ShelfV w' D gS ls ms vI vL := h.evt he (fun _ _ => id)
theorem ShelfV.slt {w : World} {D : Nat → Prop} {gS : Nat} {ls ms : List Sl} {vI vL : Value} (h : ShelfV w D gS ls ms vI vL) : ∀ k, Shl D gS vI vL k → k < w.heap.size := fun k hk => by
  rcases hk with h1 | h1 | h1 | h1
  · exact h.lt k h1
  · subst h1; exact h.blk.lt
  · exact own_lt h.rI k h1
  · exact own_lt h.rL k h1
end Go.Proofs.YthfnlmedelfbnaaDoor
