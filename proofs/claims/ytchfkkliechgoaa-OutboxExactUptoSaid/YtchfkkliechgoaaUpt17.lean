/- A step of any kind; two boxes with the document's, and what was handed out. SHORT NORMX -/
import Derived.Test.YtchfkkliechgoaaStp17b
import Derived.Test.YtchfkkliechgoaaStp17d
namespace Go.Proofs.Ytchfkkliechgoaa
open Go.RowKit Go.Proofs.YtchfkkliechgoaaE
set_option linter.unusedSimpArgs false
set_option linter.unusedVariables false
set_option maxRecDepth 4000

structure OpOk (o : Opr) : Prop where
  id : -9223372036854775808 ≤ o.id ∧ o.id ≤ 9223372036854775807
  now : -9223372036854775808 ≤ o.now ∧ o.now ≤ 9223372036854775807
  len : o.body.length ≤ 1048576
theorem step_any (F G : Nat → Prop) (gb n : Nat) (p : Pol) (Ap : Option Addr) (cp : Nat) (A : Option Addr) (c : Nat) (rs : List Nt) (o : Opr) (mark : Int) (w : World) (hS : St w F G gb n p A rs) (hri : RI w Ap p.hs) (H : Nat → Prop) (hop : RG w H o.A (u8s o.body)) (hH : ∀ k, H k → ¬ F k ∧ k < w.heap.size) (hok : OpOk o) (hn : n ≤ 1048576) :
    Calls Try.prog 29 #[.agg (polC p Ap cp).toArray, .agg (prC gb A rs.length c).toArray, .agg (opC o).toArray, .int .u8 mark] w fun e w' => ∃ F' G' n' A' c' rs' B cB bs ls, e = .returned (.tuple #[.agg (prC gb A' rs'.length c').toArray, .bool true, .agg #[.slice B (bs : List Bd).length cB, lsV ls]]) ∧ StepAt w w' F G gb n p mark F' G' n' A' rs' B bs ls := by
  by_cases c1 : o.kind = 1
  · exact step1_any F G gb n p Ap cp A c rs o mark w hS H hop hH hok.id hok.len (by omega) c1
  by_cases c2 : o.kind = 2
  · exact step2_any F G gb n p Ap cp A c rs o mark w hS hok.id (by omega) c2
  by_cases c3 : o.kind = 3
  · exact step3_any F G gb n p Ap cp A c rs o mark w hS hri hok.now (by omega) c3
  by_cases c4 : o.kind = 4
  · exact step4_any F G gb n p Ap cp A c rs o mark w hS (by omega) c4
  exact step0_any F G gb n p Ap cp A c rs o mark w hS c1 c2 c3 c4
@[reducible] def hV (V : Option Addr) (n d : Nat) : Value := .slice V n d
structure UC (w0 w : World) (p : Pol) (X F1 F2 G : Nat → Prop) (gb1 gb2 n1 n2 : Nat) (A1 : Option Addr) (rs1 : List Nt) (A2 : Option Addr) (rs2 : List Nt) (VH : Option Addr) (dH : Nat) (hs : List Hd) (VL : Option Addr) (dL : Nat) (ls : List Ls) : Prop where
  s1 : St w F1 G gb1 n1 p A1 rs1
  s2 : St w F2 G gb2 n2 p A2 rs2
  dis : ∀ k, F1 k → ¬ F2 k
  ho : w.ownsRow 0 98 2 (hV VH hs.length dH) hs.length (hdCs hs)
  hb : HdG w G hs
  lr : w.ownsRow 0 39 1 (hV VL ls.length dL) ls.length (lsCs ls)
  lo : LsO w ls
  lbG : ∀ m ∈ ls, ∀ k, (lsV m).ownBlock = some k → G k
  ow : ∀ k, (hV VH hs.length dH).ownBlock = some k ∨ (hV VL ls.length dL).ownBlock = some k → ¬ F1 k ∧ ¬ F2 k ∧ ¬ G k ∧ ¬ X k ∧ w0.heap.size ≤ k
  low : ∀ k, F1 k ∨ F2 k ∨ G k → w0.heap.size ≤ k ∧ ¬ X k
  xl : ∀ k, X k → k < w.heap.size
section
variable {w0 w w' : World} {p : Pol} {X F1 F2 G : Nat → Prop} {gb1 gb2 n1 n2 : Nat} {A1 A2 VH VL : Option Addr} {rs1 rs2 : List Nt} {dH dL : Nat} {hs : List Hd} {ls : List Ls}
theorem UC.swap (h : UC w0 w p X F1 F2 G gb1 gb2 n1 n2 A1 rs1 A2 rs2 VH dH hs VL dL ls) : UC w0 w p X F2 F1 G gb2 gb1 n2 n1 A2 rs2 A1 rs1 VH dH hs VL dL ls where
  s1 := h.s2
  s2 := h.s1
  dis := fun k h1 h2 => h.dis k h2 h1
  ho := h.ho
  hb := h.hb
  lr := h.lr
  lo := h.lo
  lbG := h.lbG
  ow := fun k hk => by
    obtain ⟨a, b, c, d, e⟩ := h.ow k hk
    exact ⟨b, a, c, d, e⟩
  low := fun k hk => h.low k (by rcases hk with h1 | h1 | h1; exact .inr (.inl h1); exact .inl h1; exact .inr (.inr h1))
  xl := h.xl
theorem UC.evt {S : Nat → Prop} (h : UC w0 w p X F1 F2 G gb1 gb2 n1 n2 A1 rs1 A2 rs2 VH dH hs VL dL ls) (he : Evt S w w') (hS : ∀ k, k < w.heap.size → S k → X k) : UC w0 w' p X F1 F2 G gb1 gb2 n1 n2 A1 rs1 A2 rs2 VH dH hs VL dL ls := by
  have hF1 : ∀ k, F1 k → ¬ S k := fun k hk hh => (h.low k (.inl hk)).2 (hS k (h.s1.fl k hk) hh)
  have hF2 : ∀ k, F2 k → ¬ S k := fun k hk hh => (h.low k (.inr (.inl hk))).2 (hS k (h.s2.fl k hk) hh)
  have hG : ∀ k, G k → ¬ S k := fun k hk hh => (h.low k (.inr (.inr hk))).2 (hS k (h.s1.gl k hk) hh)
  exact {
    s1 := h.s1.evt he hF1 hG
    s2 := h.s2.evt he hF2 hG
    dis := h.dis
    ho := own_evt he h.ho (fun k hk hh => (h.ow k (.inl hk)).2.2.2.1 (hS k (own_lt h.ho k hk) hh))
    hb := h.hb.evt he (fun k _ hk => hG k hk) (fun _ h => h)
    lr := own_evt he h.lr (fun k hk hh => (h.ow k (.inr hk)).2.2.2.1 (hS k (own_lt h.lr k hk) hh))
    lo := ⟨fun m hm => own_evt he (h.lo.own m hm) (fun k hk => hG k (h.lbG m hm k hk)), h.lo.ids, h.lo.dis, h.lo.len⟩
    lbG := h.lbG
    ow := h.ow
    low := h.low
    xl := fun k hk => Nat.lt_of_lt_of_le (h.xl k hk) he.size }
theorem UC.step {mark : Int} {F1' G' : Nat → Prop} {n1' : Nat} {A1' B : Option Addr} {rs1' : List Nt} {bs : List Bd} {l : Ls} (h : UC w0 w p X F1 F2 G gb1 gb2 n1 n2 A1 rs1 A2 rs2 VH dH hs VL dL ls) (hw : w0.heap.size ≤ w.heap.size) (hT : StepAt w w' F1 G gb1 n1 p mark F1' G' n1' A1' rs1' B bs l) : UC w0 w' p X F1' F2 G' gb1 gb2 n1' n2 A1' rs1' A2 rs2 VH dH hs VL dL ls := by
  have z := hT.evt.size
  have hf1 := h.s1.fl
  have hf2 := h.s2.fl
  have hgl := h.s1.gl
  have ho := own_lt h.ho
  have hl := own_lt h.lr
  have hnG : ∀ k, G k → ¬ F1 k := fun k hk hh => h.s1.fg k hh hk
  have hOW : ∀ k, (hV VH hs.length dH).ownBlock = some k ∨ (hV VL ls.length dL).ownBlock = some k → k < w.heap.size := fun k hk => by
    rcases hk with h1 | h1
    · exact ho k h1
    · exact hl k h1
  obtain ⟨L2, hB2, hL2, hn2⟩ := h.s2.box
  exact {
    s1 := hT.st
    s2 := {
      box := ⟨L2, hB2.evt hT.evt (fun k hk hh => h.dis k hh hk) (fun _ h => h) (fun k hk => by have := hf2 k hk; omega), hL2, hn2⟩
      ref := h.s2.ref.evt hT.evt (fun k _ hk => hnG k hk) hT.gU
      bln := h.s2.bln
      fg := fun k hk hh => by
        rcases hT.gG k hh with h1 | h1
        · exact h.s2.fg k hk h1
        · have := hf2 k hk
          omega
      gl := hT.st.gl }
    dis := fun k hk hh => by
      rcases hT.fF k hk with h1 | h1
      · exact h.dis k h1 hh
      · have := hf2 k hh
        omega
    ho := own_evt hT.evt h.ho (fun k hk => (h.ow k (.inl hk)).1)
    hb := h.hb.evt hT.evt (fun k _ hk => hnG k hk) hT.gU
    lr := own_evt hT.evt h.lr (fun k hk => (h.ow k (.inr hk)).1)
    lo := ⟨fun m hm => own_evt hT.evt (h.lo.own m hm) (fun k hk => hnG k (h.lbG m hm k hk)), h.lo.ids, h.lo.dis, h.lo.len⟩
    lbG := fun m hm k hk => hT.gU k (h.lbG m hm k hk)
    ow := fun k hk => by
      obtain ⟨a, b, c, d, e⟩ := h.ow k hk
      have h3 := hOW k hk
      refine ⟨fun hh => ?_, b, fun hh => ?_, d, e⟩
      · rcases hT.fF k hh with h1 | h1
        · exact a h1
        · omega
      · rcases hT.gG k hh with h1 | h1
        · exact c h1
        · omega
    low := fun k hk => by
      have h4 : F1 k ∨ F2 k ∨ G k ∨ w.heap.size ≤ k := by
        rcases hk with h1 | h1 | h1
        · rcases hT.fF k h1 with h2 | h2
          · exact .inl h2
          · exact .inr (.inr (.inr h2))
        · exact .inr (.inl h1)
        · rcases hT.gG k h1 with h2 | h2
          · exact .inr (.inr (.inl h2))
          · exact .inr (.inr (.inr h2))
      rcases h4 with h1 | h1 | h1 | h1
      · exact h.low k (.inl h1)
      · exact h.low k (.inr (.inl h1))
      · exact h.low k (.inr (.inr h1))
      · exact ⟨by omega, fun hh => by have := h.xl k hh; omega⟩
    xl := fun k hk => by have := h.xl k hk; omega }
/-- What is held grows. -/
theorem UC.hold {VH' : Option Addr} {dH' : Nat} {hs2 : List Hd} (h : UC w0 w p X F1 F2 G gb1 gb2 n1 n2 A1 rs1 A2 rs2 VH dH hs VL dL ls) (hw : w0.heap.size ≤ w.heap.size) (ho : w'.ownsRow 0 98 2 (hV VH' (hs ++ hs2).length dH') (hs ++ hs2).length (hdCs (hs ++ hs2))) (hn : ∀ k, (hV VH' (hs ++ hs2).length dH').ownBlock = some k → (hV VH hs.length dH).ownBlock = some k ∨ w.heap.size ≤ k) (he : Evt (fun k => (hV VH hs.length dH).ownBlock = some k) w w') (h2 : HdG w G hs2) : UC w0 w' p X F1 F2 G gb1 gb2 n1 n2 A1 rs1 A2 rs2 VH' dH' (hs ++ hs2) VL dL ls := by
  have hf1 := h.s1.fl
  have hf2 := h.s2.fl
  have hgl := h.s1.gl
  have hF1 : ∀ k, F1 k → ¬ (hV VH hs.length dH).ownBlock = some k := fun k hk hh => (h.ow k (.inl hh)).1 hk
  have hF2 : ∀ k, F2 k → ¬ (hV VH hs.length dH).ownBlock = some k := fun k hk hh => (h.ow k (.inl hh)).2.1 hk
  have hG : ∀ k, G k → ¬ (hV VH hs.length dH).ownBlock = some k := fun k hk hh => (h.ow k (.inl hh)).2.2.1 hk
  exact {
    s1 := h.s1.evt he hF1 hG
    s2 := h.s2.evt he hF2 hG
    dis := h.dis
    ho := ho
    hb := by
      have a1 := h.hb.evt he (fun k _ hk => hG k hk) (fun _ h => h)
      have a2 := h2.evt he (fun k _ hk => hG k hk) (fun _ h => h)
      exact ⟨fun m hm => by rcases List.mem_append.1 hm with h1 | h1; exact a1.bod m h1; exact a2.bod m h1, fun m hm => by rcases List.mem_append.1 hm with h1 | h1; exact a1.len m h1; exact a2.len m h1⟩
    lr := own_evt he h.lr (fun k hk hh => by
      obtain ⟨c1, hc1⟩ := own_typ h.lr k hk
      obtain ⟨c2, hc2⟩ := own_typ h.ho k hh
      exact Blk.ne hc1 hc2 (by decide) rfl)
    lo := ⟨fun m hm => own_evt he (h.lo.own m hm) (fun k hk => hG k (h.lbG m hm k hk)), h.lo.ids, h.lo.dis, h.lo.len⟩
    lbG := h.lbG
    ow := fun k hk => by
      rcases hk with h1 | h1
      · rcases hn k h1 with h3 | h3
        · exact h.ow k (.inl h3)
        · exact ⟨fun hh => by have := hf1 k hh; omega, fun hh => by have := hf2 k hh; omega, fun hh => by have := hgl k hh; omega, fun hh => by have := h.xl k hh; omega, by omega⟩
      · exact h.ow k (.inr h1)
    low := h.low
    xl := fun k hk => Nat.lt_of_lt_of_le (h.xl k hk) he.size }
/-- The lists grow. -/
theorem UC.list {VL' : Option Addr} {dL' : Nat} {l : Ls} (h : UC w0 w p X F1 F2 G gb1 gb2 n1 n2 A1 rs1 A2 rs2 VH dH hs VL dL ls) (hw : w0.heap.size ≤ w.heap.size) (ho : w'.ownsRow 0 39 1 (hV VL' (ls ++ [l]).length dL') (ls ++ [l]).length (lsCs (ls ++ [l]))) (hn : ∀ k, (hV VL' (ls ++ [l]).length dL').ownBlock = some k → (hV VL ls.length dL).ownBlock = some k ∨ w.heap.size ≤ k) (he : Evt (fun k => (hV VL ls.length dL).ownBlock = some k) w w')
    (hl : w.ownsRow 0 50 3 (lsV l) l.n l.cs) (hlG : ∀ k, (lsV l).ownBlock = some k → G k) (hln : ∀ m ∈ ls, ∀ k, (lsV m).ownBlock = some k → ¬ (lsV l).ownBlock = some k) (hli : ∀ i, i < l.n → l.cs[i * 3 + 1]? = some (.int .i64 (-5))) (hll : l.n ≤ 1000000000000) : UC w0 w' p X F1 F2 G gb1 gb2 n1 n2 A1 rs1 A2 rs2 VH dH hs VL' dL' (ls ++ [l]) := by
  have hf1 := h.s1.fl
  have hf2 := h.s2.fl
  have hgl := h.s1.gl
  have hF1 : ∀ k, F1 k → ¬ (hV VL ls.length dL).ownBlock = some k := fun k hk hh => (h.ow k (.inr hh)).1 hk
  have hF2 : ∀ k, F2 k → ¬ (hV VL ls.length dL).ownBlock = some k := fun k hk hh => (h.ow k (.inr hh)).2.1 hk
  have hG : ∀ k, G k → ¬ (hV VL ls.length dL).ownBlock = some k := fun k hk hh => (h.ow k (.inr hh)).2.2.1 hk
  have hmem : ∀ (P : Ls → Prop), (∀ m ∈ ls, P m) → P l → ∀ m ∈ ls ++ [l], P m := fun P h1 h2 m hm => by
    rcases List.mem_append.1 hm with h3 | h3
    · exact h1 m h3
    · rw [List.mem_singleton] at h3
      subst h3
      exact h2
  exact {
    s1 := h.s1.evt he hF1 hG
    s2 := h.s2.evt he hF2 hG
    dis := h.dis
    ho := own_evt he h.ho (fun k hk hh => by
      obtain ⟨c1, hc1⟩ := own_typ h.ho k hk
      obtain ⟨c2, hc2⟩ := own_typ h.lr k hh
      exact Blk.ne hc1 hc2 (by decide) rfl)
    hb := h.hb.evt he (fun k _ hk => hG k hk) (fun _ h => h)
    lr := ho
    lo := {
      own := hmem _ (fun m hm => own_evt he (h.lo.own m hm) (fun k hk => hG k (h.lbG m hm k hk))) (own_evt he hl (fun k hk => hG k (hlG k hk)))
      ids := hmem _ h.lo.ids hli
      dis := by
        rw [List.pairwise_append]
        exact ⟨h.lo.dis, List.pairwise_singleton _ _, fun a ha b hb => by rw [List.mem_singleton] at hb; subst hb; exact hln a ha⟩
      len := hmem _ h.lo.len hll }
    lbG := hmem _ h.lbG hlG
    ow := fun k hk => by
      rcases hk with h1 | h1
      · exact h.ow k (.inl h1)
      · rcases hn k h1 with h3 | h3
        · exact h.ow k (.inr h3)
        · exact ⟨fun hh => by have := hf1 k hh; omega, fun hh => by have := hf2 k hh; omega, fun hh => by have := hgl k hh; omega, fun hh => by have := h.xl k hh; omega, by omega⟩
    low := h.low
    xl := fun k hk => Nat.lt_of_lt_of_le (h.xl k hk) he.size }
end
theorem hdOf_mem {mark : Int} {bs : List Bd} {m : Hd} (h : m ∈ hdOf mark bs) : ∃ i, ∃ hi : i < bs.length, m = ⟨bs[i].body.length, bs[i].A, bs[i].c, mk8 mark i⟩ := by
  obtain ⟨i, hi, rfl⟩ := List.mem_iff_getElem.1 h
  have hi' : i < bs.length := by rw [hdOf_len] at hi; exact hi
  exact ⟨i, hi', by simp [hdOf]⟩
theorem lsCs_snoc (l : List Ls) (m : Ls) : lsCs (l ++ [m]) = lsCs l ++ [lsV m] := by simp [lsCs]
/-- The script in memory. -/
structure OpsAt (w : World) (A : Option Addr) (os : List Opr) : Prop where
  row : RC w A (os.flatMap opC)
  bod : ∀ o ∈ os, RC w o.A (u8s o.body)
  ok : ∀ o ∈ os, OpOk o
theorem OpsAt.up {w w' : World} {A : Option Addr} {os : List Opr} (h : OpsAt w A os) (he : Evt (fun _ => False) w w') : OpsAt w' A os := ⟨h.row.up he, fun o ho => (h.bod o ho).up he, h.ok⟩
theorem rg_of {w : World} {A : Option Addr} {cs : List Value} (h : RC w A cs) : RG w (fun k => k < w.heap.size) A cs := fun hn => by
  obtain ⟨b, o, hA, hc⟩ := h hn
  exact ⟨b, o, hA, cell_bl0 (hc 0 _ (List.getElem?_eq_getElem hn)), hc⟩
end Go.Proofs.Ytchfkkliechgoaa
