/- Two boxes that share nothing. SHORT NORMX -/
import Derived.Test.YtchfkkliechgoaaAln17
namespace Go.Proofs.Ytchfkkliechgoaa
open Go.RowKit Go.Proofs.YtchfkkliechgoaaE
set_option linter.unusedSimpArgs false
set_option linter.unusedVariables false
set_option maxRecDepth 4000

/-- The boxes' blocks lie from w0 on, below i1 and i2. -/
def NB2 (w0 w : World) (p : Pol) (i1 g1 n1 : Nat) (l1 : List Ep) (i2 g2 n2 : Nat) (l2 : List Ep) : Prop := ∃ F1 L1 F2 L2, BoxAt w F1 g1 p n1 L1 ∧ BoxAt w F2 g2 p n2 L2 ∧ L1.map pur = l1 ∧ L2.map pur = l2 ∧ L1.length ≤ n1 ∧ L2.length ≤ n2 ∧ (∀ k, F1 k → w0.heap.size ≤ k ∧ k < i1) ∧ (∀ k, F2 k → w0.heap.size ≤ k ∧ k < i2) ∧ ∀ k, F1 k → ¬ F2 k
section
variable {w0 w w' : World} {p : Pol} {i1 g1 n1 i2 g2 n2 : Nat} {l1 l2 : List Ep}
theorem NB2.swap (h : NB2 w0 w p i1 g1 n1 l1 i2 g2 n2 l2) : NB2 w0 w p i2 g2 n2 l2 i1 g1 n1 l1 := by
  obtain ⟨F1, L1, F2, L2, a, b, c, d, e, f, g, i, j⟩ := h
  exact ⟨F2, L2, F1, L1, b, a, d, c, f, e, i, g, fun k h1 h2 => j k h2 h1⟩
theorem NB2.up (h : NB2 w0 w p i1 g1 n1 l1 i2 g2 n2 l2) (he : Evt (fun _ => False) w w') : NB2 w0 w' p i1 g1 n1 l1 i2 g2 n2 l2 := by
  obtain ⟨F1, L1, F2, L2, a, b, c⟩ := h
  exact ⟨F1, L1, F2, L2, a.up he, b.up he, c⟩
theorem NB2.one (h : NB2 w0 w p i1 g1 n1 l1 i2 g2 n2 l2) : NB w0 w g1 n1 p l1 := by
  obtain ⟨F1, L1, F2, L2, a, b, c, d, e, f, g, i, j⟩ := h
  exact ⟨F1, L1, a, c, e, fun k hk => (g k hk).1⟩
theorem NB2.fit (h : NB2 w0 w p i1 g1 n1 l1 i2 g2 n2 l2) : NB2 w0 w p w.heap.size g1 n1 l1 w.heap.size g2 n2 l2 := by
  obtain ⟨F1, L1, F2, L2, a, b, c, d, e, f, g, i, j⟩ := h
  exact ⟨F1, L1, F2, L2, a, b, c, d, e, f, fun k hk => ⟨(g k hk).1, a.lt k hk⟩, fun k hk => ⟨(i k hk).1, b.lt k hk⟩, j⟩
theorem NB2.mono {m1 m2 : Nat} (h : NB2 w0 w p i1 g1 n1 l1 i2 g2 n2 l2) (h1 : n1 ≤ m1) (h2 : n2 ≤ m2) : NB2 w0 w p i1 g1 m1 l1 i2 g2 m2 l2 := by
  obtain ⟨F1, L1, F2, L2, a, b, c, d, e, f, g⟩ := h
  exact ⟨F1, L1, F2, L2, a.mono h1, b.mono h2, c, d, by omega, by omega, g⟩
end
theorem new_2 (w0 : World) (p : Pol) (A : Option Addr) (c : Nat) (w : World) (g1 n1 : Nat) (l1 : List Ep) (h0 : NB w0 w g1 n1 p l1) (hr : RI w A p.hs) (hsz : p.hs.length * 8 ≤ 140737488351232) (he0 : Evt (fun _ => False) w0 w) :
    Calls Try.prog 13 #[.agg (polC p A c).toArray] w fun e w' => ∃ gb, e = .returned (.pointer (some ⟨gb, 0, none⟩)) ∧ NB2 w0 w' p w'.heap.size g1 n1 l1 w'.heap.size gb 0 [] ∧ Evt (fun _ => False) w w' := by
  obtain ⟨F1, L1, a, b, c', d⟩ := h0
  refine (new_any p A c w hr hsz).mono ?_
  rintro e w' ⟨gb, F, rfl, h1, h2, h3⟩
  have hz := he0.size
  have hz3 := h3.size
  exact ⟨gb, rfl, ⟨F1, L1, F, [], a.up h3, h1, b, rfl, c', Nat.le_refl _, fun k hk => ⟨d k hk, by have := a.lt k hk; omega⟩, fun k hk => ⟨by have := h2 k hk; omega, h1.lt k hk⟩, fun k hk hh => by have h4 := a.lt k hk; have h5 := h2 k hh; omega⟩, h3⟩
theorem add_2 (w0 w : World) (p : Pol) (i1 g1 n1 : Nat) (l1 : List Ep) (i2 g2 n2 : Nat) (l2 : List Ep) (nid now : Int) (body : List Int) (A0 : Option Addr) (c0 : Nat) (h0 : NB2 w0 w p i1 g1 n1 l1 i2 g2 n2 l2) (he0 : w0.heap.size ≤ w.heap.size) (hrc : RC w A0 (u8s body)) (hbl : body.length ≤ 140737488351232) (hid : -9223372036854775808 ≤ nid ∧ nid ≤ 9223372036854775807) (hn : n1 < 1000000000000) :
    Calls Try.prog 16 #[.pointer (some ⟨g1, 0, none⟩), .int .i64 nid, .slice A0 body.length c0, .int .i64 now] w fun e w' => e = .returned (.int .i64 (addP l1 nid body now).2) ∧ NB2 w0 w' p w'.heap.size g1 (n1 + 1) (addP l1 nid body now).1 i2 g2 n2 l2 ∧ Evt (fun k => w0.heap.size ≤ k ∧ k < i1) w w' := by
  obtain ⟨F1, L1, F2, L2, a, b, rfl, d, e, f, g, i, j⟩ := h0
  refine (add_any w F1 g1 n1 p L1 nid now body A0 c0 a hrc hbl hid hn).mono ?_
  rintro x w' ⟨F', L', rfl, h5, h6, h7, h8, h9⟩
  have hb := b.lt
  exact ⟨rfl, ⟨F', L', F2, L2, h5, b.evt h9 (fun k hk hh => j k hh hk) (fun _ h => h) (fun k hk => Nat.lt_of_lt_of_le (hb k hk) h9.size), h6, d, by omega, f, fun k hk => ⟨by rcases h8 k hk with h | h; exact (g k h).1; omega, h5.lt k hk⟩, i, fun k hk hh => by rcases h8 k hk with h | h; exact j k h hh; have := hb k hh; omega⟩, h9.mono (fun k _ hk => g k hk)⟩
theorem ack_2 (w0 w : World) (p : Pol) (i1 g1 n1 : Nat) (l1 : List Ep) (i2 g2 n2 : Nat) (l2 : List Ep) (nid : Int) (h0 : NB2 w0 w p i1 g1 n1 l1 i2 g2 n2 l2) (hid : -9223372036854775808 ≤ nid ∧ nid ≤ 9223372036854775807) :
    Calls Try.prog 19 #[.pointer (some ⟨g1, 0, none⟩), .int .i64 nid] w fun e w' => e = .returned (.bool (decide (nid ∈ idsP l1))) ∧ NB2 w0 w' p i1 g1 n1 (ackP l1 nid) i2 g2 n2 l2 ∧ Evt (fun k => w0.heap.size ≤ k ∧ k < i1) w w' := by
  obtain ⟨F1, L1, F2, L2, a, b, rfl, d, e, f, g, i, j⟩ := h0
  refine (ack_any w F1 g1 n1 p L1 nid a hid).mono ?_
  rintro x w' ⟨rfl, h5, h9⟩
  have hb := b.lt
  refine ⟨by rw [idsP_pur], ⟨F1, _, F2, L2, h5, b.evt h9 (fun k hk hh => j k hh hk) (fun _ h => h) (fun k hk => Nat.lt_of_lt_of_le (hb k hk) h9.size), ?_, d, Nat.le_trans (List.length_filter_le _ _) e, f, g, i, j⟩, h9.mono (fun k _ hk => g k hk)⟩
  rw [ackP, List.filter_map]
  rfl
theorem due_2 (w0 w : World) (p : Pol) (i1 g1 n1 : Nat) (l1 : List Ep) (i2 g2 n2 : Nat) (l2 : List Ep) (now : Int) (h0 : NB2 w0 w p i1 g1 n1 l1 i2 g2 n2 l2) (hn : n1 < 1000000000000) (hnow : -9223372036854775808 ≤ now ∧ now ≤ 9223372036854775807) :
    Calls Try.prog 18 #[.pointer (some ⟨g1, 0, none⟩), .int .i64 now] w fun e w' => ∃ V d ks, e = .returned (.slice V (ks : List Pk).length d) ∧ NB2 w0 w' p i1 g1 (n1 + 1) (l1.map (duP p now)) i2 g2 n2 l2 ∧ ks.map pkP = duePk now l1 ∧ (∀ w'', Evt (fun k => k < w.heap.size) w' w'' → PkAt w'' V ks) ∧ (∀ k ∈ ks, k.b.body.length ≤ 9223372036854775807) ∧ ks.length ≤ n1 ∧ Evt (fun k => w0.heap.size ≤ k ∧ k < i1) w w' := by
  obtain ⟨F1, L1, F2, L2, a, b, rfl, d, e, f, g, i, j⟩ := h0
  refine (due_any w F1 g1 n1 p L1 now a (by omega) hn hnow).mono ?_
  rintro x w' ⟨V, dd, ks, rfl, h5, h6, h7, h8, h9, h10⟩
  have hb := b.lt
  have hlen : ks.length ≤ n1 := by
    have h11 := congrArg List.length h6
    rw [List.length_map] at h11
    have h12 := dueL_len now L1
    omega
  refine ⟨V, dd, ks, rfl, ⟨F1, _, F2, L2, h5, b.evt h10 (fun k hk hh => j k hh hk) (fun _ h => h) (fun k hk => Nat.lt_of_lt_of_le (hb k hk) h10.size), due_pur p now L1, d, by rw [List.length_map]; omega, f, g, i, j⟩, by rw [h6, dueL_pur]; rfl, fun w'' he => ?_, fun k hk => h9.len _ (List.mem_map.2 ⟨k, hk, rfl⟩), hlen, h10.mono (fun k _ hk => g k hk)⟩
  exact pkAt_own (lo := 0) (own_evt he h7 (fun k hk hh => by have h1 := h8 k hk; have h' : k < w.heap.size := hh; omega)) (h9.evt he (fun k cur _ hk hh => by have h' : k < w.heap.size := hh; omega) (Nat.zero_le _))
theorem own_cap {w : World} {e : TypeId} {sz n c : Nat} {A : Option Addr} {xs : List Value} (h : w.ownsRow 0 e sz (.slice A n c) n xs) : n ≤ c := by
  rcases own_blk_of h with ⟨h1, h2⟩ | ⟨g, cap, cur, h1, hb, ht, hl, hx⟩
  · omega
  · simp only [Value.slice.injEq] at h1
    omega
theorem pending_2 (w0 w : World) (p : Pol) (i1 g1 n1 : Nat) (l1 : List Ep) (i2 g2 n2 : Nat) (l2 : List Ep) (h0 : NB2 w0 w p i1 g1 n1 l1 i2 g2 n2 l2) (hn : n1 < 1000000000000) :
    Calls Try.prog 20 #[.pointer (some ⟨g1, 0, none⟩)] w fun e w' => ∃ V d ks, e = .returned (.slice V (ks : List Nt).length d) ∧ ks.map ntP = l1 ∧ NtAt w' V ks ∧ (∀ k ∈ ks, k.b.body.length ≤ 9223372036854775807) ∧ ks.length ≤ n1 ∧ ks.length ≤ d ∧ Evt (fun _ => False) w w' := by
  obtain ⟨F1, L1, F2, L2, a, b, rfl, d, e, f, g, i, j⟩ := h0
  refine (pending_any w F1 g1 n1 p L1 a (by omega)).mono ?_
  rintro e w' ⟨V, d, ks, rfl, h5, h6, h7, h8, h9⟩
  have hlen : ks.length ≤ n1 := by
    have h11 := congrArg List.length h5
    rw [List.length_map, List.length_map] at h11
    omega
  exact ⟨V, d, ks, rfl, h5, ntAt_own h6 h8, fun k hk => h8.len _ (List.mem_map.2 ⟨k, hk, rfl⟩), hlen, own_cap h6, h9⟩
section
variable {P : Program} {w : World} {ty : TypeId} {pos : String} {aft : Array Edge} {l : List Value} {d : Option Tmp} {g : Option (Nat × Bool)} {K : Value → Prop}
/-- x[lo:hi] -/
theorem g_sliceLH {t e : TypeId} {x y z : Operand} {A : Option Addr} {len cap sz bytes : Nat} {i j : Int} (hx : ev l x = .slice A len cap) (hy : ev l y = .int .i64 i) (hz : ev l z = .int .i64 j) [ht : TSlice P t e sz bytes] (h0 : 0 ≤ i) (h1 : i ≤ j) (h2 : j ≤ cap)
    (h : K (.slice (from_ A cap sz i.toNat) (j.toNat - i.toNat) (cap - i.toNat))) : Go1 P ⟨d, .slice t x (some y) (some z) none, ty, pos, aft, g⟩ l w K := by
  refine ⟨_, fun w' hw' => ?_, h⟩
  have hs : ∀ w, (sizeOf e).run P w = .ok sz w := fun w => Go.Proofs.YtchfkkliechgoaaE.run_sizeOf (by have := ht.info; cases hq : P.info? e <;> simp_all) w
  have hc : 0 ≤ j ∧ j ≤ (cap : Int) := ⟨by omega, h2⟩
  have hc2 : 0 ≤ i ∧ i ≤ (j.toNat : Int) := ⟨h0, by omega⟩
  simp only [execOp, hx, hy, hz, Option.map_some, Option.map_none, Instr.sliceAt, Sem.run_bind, run_underlying ht.ok, Result.andThen_ok, Instr.slice, Instr.sliceBounds, Sem.run_pure, Instr.sliceBound, asIntOf]
  rw [if_pos hc]
  simp only [Sem.run_pure, Result.andThen_ok]
  rw [if_pos hc2]
  simp only [Sem.run_pure, Result.andThen_ok, hs, from_]
end
end Go.Proofs.Ytchfkkliechgoaa
