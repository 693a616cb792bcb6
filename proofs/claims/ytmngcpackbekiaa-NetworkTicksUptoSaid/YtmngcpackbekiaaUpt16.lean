/- A step of any kind; two networks with their documents' and one book. -/
import Derived.Test.YtmngcpackbekiaaStp16c
namespace Go.Proofs.Ytmngcpackbekiaa
open Go.RowKit Go.Proofs.YtmngcpackbekiaaE
set_option linter.unusedSimpArgs false
set_option linter.unusedVariables false

theorem St.evt {S : Nat → Prop} {w w' : World} {F G FB : Nat → Prop} {g gB : Nat} {N : Net} {R : Rn} {B : Bm} (h : St w F G FB g N R gB B) (he : Evt S w w') (h1 : ∀ k, F k → ¬ S k) (h2 : ∀ k, G k → ¬ S k) (h3 : ∀ k, FB k → ¬ S k) : St w' F G FB g N R gB B where
  net := h.net.evt he h1 (fun _ h => h) (fun k hk => Nat.lt_of_lt_of_le (h.net.lt k hk) he.size)
  ref := h.ref.evt he (fun k _ hk => h2 k hk) (fun _ h => h)
  book := h.book.evt he h3
  fg := h.fg
  fb := h.fb
  gb := h.gb
  gl := fun k hk => Nat.lt_of_lt_of_le (h.gl k hk) he.size
theorem St.up {w w' : World} {F G FB : Nat → Prop} {g gB : Nat} {N : Net} {R : Rn} {B : Bm} (h : St w F G FB g N R gB B) (he : Evt (fun _ => False) w w') : St w' F G FB g N R gB B := h.evt he (fun _ _ => id) (fun _ _ => id) (fun _ _ => id)
theorem other_st {w w' : World} {F F2 G FB F' G' FB' : Nat → Prop} {g g2 gB : Nat} {N N2 N' : Net} {R R2 R' : Rn} {B B' : Bm} {o : Opr} (h : St w F G FB g N R gB B) (h2 : St w F2 G FB g2 N2 R2 gB B) (hd : ∀ k, F k → ¬ F2 k) (hT : StepAt w w' F G FB g N R gB B o F' G' FB' N' R' B') : St w' F2 G' FB' g2 N2 R2 gB B' ∧ ∀ k, F' k → ¬ F2 k := by
  have z := hT.evt.size
  refine ⟨{
    net := h2.net.evt hT.evt (fun k hk hh => ?_) (fun _ h => h) (fun k hk => Nat.lt_of_lt_of_le (h2.net.lt k hk) z)
    ref := h2.ref.evt hT.evt (fun k _ hk hh => ?_) hT.gU
    book := hT.st.book
    fg := fun k hk hh => ?_
    fb := fun k hk hh => ?_
    gb := hT.st.gb
    gl := hT.st.gl }, fun k hk hh => ?_⟩
  · rcases hh with h1 | h1
    · exact hd k h1 hk
    · exact h2.fb k hk h1
  · rcases hh with h1 | h1
    · exact h.fg k h1 hk
    · exact h.gb k hk h1
  · rcases hT.gG k hh with h1 | h1
    · exact h2.fg k hk h1
    · have := h2.net.lt k hk; omega
  · rcases hT.fB k hh with h1 | h1
    · exact h2.fb k hk h1
    · have := h2.net.lt k hk; omega
  · rcases hT.fF k hk with h1 | h1
    · exact hd k h1 hh
    · have := h2.net.lt k hh; omega
theorem rdy_of {os : List Opr} {i : Nat} {N : Net} {R : Rn} (h : PI os i N R.p) (hi : i ≤ os.length) (hn : os.length ≤ 1048576) (hb : ∀ o ∈ os, o.body.length ≤ 1048576) : Rdy N R ∧ N.acc.length ≤ i := by
  obtain ⟨a1, a2⟩ := h.accl hi
  obtain ⟨m1, m2⟩ := h.msgl
  obtain ⟨f1, f2, f3⟩ := h.fates
  obtain ⟨b1, b2⟩ := h.bodl hb
  have hnow := h.now
  have hn1 : N.now = R.now := h.nr.now
  have hn2 : 0 ≤ R.now := h.nr.pos
  have hm : R.msgs.length ≤ 6 * i := m1
  have ha : R.acc.length = N.acc.length := a2
  exact ⟨⟨h.ok (by omega), h.oi.fl, f1, h.nr, by omega, by omega, ⟨hn2, by omega⟩, fun m hm => by have := b1 m hm; omega, fun m hm => by have := b2 m hm; omega⟩, a1⟩
theorem step_any (F G FB H : Nat → Prop) (g : Nat) (N : Net) (R : Rn) (gB : Nat) (B : Bm) (o : Opr) (w : World) (hS : St w F G FB g N R gB B) (hr : Rdy N R) (hss : o.s.size ≤ 9223372036854775807) (hrg : RG w H o.A (u8s o.body)) (hH : ∀ k, H k → ¬ F k ∧ k < w.heap.size) (hbl : o.body.length ≤ 1048576) (hal : N.acc.length ≤ 1048576) (hb1 : B.ids.length < 100000000000) (hb2 : B.lists.length + 2 ≤ 100000000000) (hb3 : B.bods.length + 4 * N.acc.length ≤ 5000000000000) :
    Calls Try.prog 31 #[.agg (prC g R).toArray, .agg (opC o).toArray, .pointer (some ⟨gB, 0, none⟩)] w fun e w' => ∃ F' G' FB' N' R' B', e = .returned (.tuple #[.agg (prC g R').toArray, .bool true]) ∧ StepAt w w' F G FB g N R gB B o F' G' FB' N' R' B' := by
  by_cases c1 : o.kind = 1
  · exact step1_any F G FB g N R gB B o w hS hr hss c1
  by_cases c2 : o.kind = 2
  · exact step2_any F G FB g N R gB B o w hS hr c2
  by_cases c3 : o.kind = 3
  · exact step3_any F G FB H g N R gB B o w hS hr hrg hH hbl c3
  by_cases c4 : o.kind = 4
  · exact step4_any F G FB g N R gB B o w hS hr hb1 c4
  by_cases c5 : o.kind = 5
  · exact step5_any F G FB g N R gB B o w hS hr c5
  by_cases c6 : o.kind = 6
  · exact step6_any F G FB g N R gB B o w hS hr hal hb2 hb3 c6
  by_cases c7 : o.kind = 7
  · exact step7_any F G FB g N R gB B o w hS hr c7
  · exact step0_any F G FB g N R gB B o w hS hr ⟨c1, c2, c3, c4, c5, c6, c7⟩
theorem cell_blt {w : World} {a : Addr} {v : Value} (h : w.cell? a = some v) : a.block < w.heap.size := by
  rcases Nat.lt_or_ge a.block w.heap.size with h1 | h1
  · exact h1
  · exfalso
    unfold World.cell? at h
    rw [Array.getElem?_eq_none h1] at h
    simp at h
theorem rg_of {w : World} {A : Option Addr} {cs : List Value} (h : RC w A cs) : RG w (fun k => k < w.heap.size) A cs := fun hn => by
  obtain ⟨b, o, rfl, hc⟩ := h hn
  exact ⟨b, o, rfl, cell_blt (hc 0 _ (List.getElem?_eq_getElem hn)), hc⟩
theorem book0 {w : World} {gB : Nat} (h : Blk w gB 73 [.slice none 0 0, .slice none 0 0, .slice none 0 0, .slice none 0 0, .slice none 0 0]) : BookAt w (fun k => k = gB) gB { ids := [], longs := [], lists := [], bods := [], marks := [] } := by
  have hn : ∀ k, (Value.slice none 0 0).ownBlock = some k → False := fun k hk => by simp [Value.ownBlock] at hk
  refine ⟨⟨fun _ => False, .slice none 0 0, .slice none 0 0, .slice none 0 0, .slice none 0 0, .slice none 0 0, {
    blk := h
    rI := World.ownsRow_nil _ _ _ _
    rL := World.ownsRow_nil _ _ _ _
    rA := World.ownsRow_nil _ _ _ _
    rB := World.ownsRow_nil _ _ _ _
    rM := World.ownsRow_nil _ _ _ _
    lL := rfl
    lM := rfl
    dI := by intro i s hs; simp at hs
    dL := by intro i s hs; simp at hs
    dA := by intro i s hs; simp at hs
    dB := by intro i s m hs; simp at hs
    apI := fun _ _ h => h
    apL := fun _ _ h => h
    apA := fun _ _ h => h
    apB := fun _ _ h => h
    apM := fun _ _ h => h
    apg := fun h => h
    dis := fun k hk => (hn k hk).elim
    lt := fun k hk => hk.elim
    len := by simp }, rfl, fun k hk => hk.elim, fun k hk => (hn k hk).elim, fun k hk => (hn k hk).elim, fun k hk => (hn k hk).elim, fun k hk => (hn k hk).elim, fun k hk => (hn k hk).elim⟩, fun k hk => by rw [hk]; exact h.lt⟩
def rn0 : Rn := ⟨0, [], [], [], none, 0, none, 0, none, 0⟩
theorem ref0 (w : World) (G : Nat → Prop) : RefAt w G rn0 :=
  ⟨⟨fun hn => by simp [rn0, acCs] at hn, by simp [rn0]⟩, fun hn => by simp [rn0, u8s] at hn, fun hn => by simp [rn0, mmCs] at hn, by simp [rn0], by simp [rn0]⟩
end Go.Proofs.Ytmngcpackbekiaa
