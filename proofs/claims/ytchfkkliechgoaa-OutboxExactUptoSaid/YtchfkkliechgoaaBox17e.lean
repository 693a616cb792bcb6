/- The outbox: what is due. SHORT NORMX -/
import Derived.Test.YtchfkkliechgoaaBox17d
namespace Go.Proofs.Ytchfkkliechgoaa
open Go.RowKit Go.Proofs.YtchfkkliechgoaaE
set_option linter.unusedSimpArgs false
set_option linter.unusedVariables false
set_option maxRecDepth 4000

theorem own_form2 {w : World} {e : TypeId} {sz n : Nat} {v : Value} {xs : List Value} (h : w.ownsRow 0 e sz v n xs) {i : Nat} (hi : i < n) : ∃ b cap, v = .slice (some ⟨b, 0, none⟩) n cap ∧ v.ownBlock = some b ∧ b < w.heap.size ∧ ∀ j u, xs[j]? = some u → w.cell? ⟨b, 0 + j, none⟩ = some u := by
  rcases own_blk_of h with ⟨_, h2⟩ | ⟨g, cap, cur, rfl, hb, ht, _⟩
  · omega
  · refine ⟨g, cap, rfl, rfl, hb.lt, fun j u hj => ?_⟩
    rw [hb.cell?, Nat.zero_add]
    rw [← ht, List.getElem?_take] at hj
    split at hj
    · exact hj
    · cases hj
/-- Bytes that were handed out. -/
structure Bd where
  body : List Int
  A : Option Addr
  c : Nat
@[reducible] def bdV (b : Bd) : Value := .slice b.A b.body.length b.c
structure OB (w : World) (lo : Nat) (l : List Bd) : Prop where
  own : ∀ m ∈ l, w.ownsRow 0 5 1 (bdV m) m.body.length (u8s m.body)
  low : ∀ m ∈ l, ∀ k, (bdV m).ownBlock = some k → lo ≤ k
  dis : l.Pairwise fun a b => ∀ k, (bdV a).ownBlock = some k → ¬ (bdV b).ownBlock = some k
theorem OB.nil {w : World} {lo : Nat} : OB w lo [] := ⟨by simp, by simp, List.Pairwise.nil⟩
theorem OB.lt {w : World} {lo : Nat} {l : List Bd} (h : OB w lo l) : ∀ m ∈ l, ∀ k, (bdV m).ownBlock = some k → k < w.heap.size := fun m hm => own_lt (h.own m hm)
theorem OB.evt {S : Nat → Prop} {w w' : World} {lo lo' : Nat} {l : List Bd} (h : OB w lo l) (he : Evt S w w') (hs : ∀ k cur, Blk w k 5 cur → lo ≤ k → ¬ S k) (hlo : lo' ≤ lo) : OB w' lo' l :=
  ⟨fun m hm => own_evt he (h.own m hm) (fun k hk => by obtain ⟨cur, hc⟩ := own_typ (h.own m hm) k hk; exact hs k cur hc (h.low m hm k hk)), fun m hm k hk => Nat.le_trans hlo (h.low m hm k hk), h.dis⟩
theorem OB.snoc {w : World} {lo B : Nat} {l : List Bd} {m : Bd} (h : OB w lo l) (hlt : ∀ x ∈ l, ∀ k, (bdV x).ownBlock = some k → k < B) (ho : w.ownsRow 0 5 1 (bdV m) m.body.length (u8s m.body)) (hb : ∀ k, (bdV m).ownBlock = some k → lo ≤ k ∧ B ≤ k) : OB w lo (l ++ [m]) := by
  refine ⟨fun x hx => ?_, fun x hx => ?_, ?_⟩
  · rcases List.mem_append.1 hx with h1 | h1
    · exact h.own x h1
    · rw [List.mem_singleton] at h1
      subst h1
      exact ho
  · rcases List.mem_append.1 hx with h1 | h1
    · exact h.low x h1
    · rw [List.mem_singleton] at h1
      subst h1
      exact fun k hk => (hb k hk).1
  · rw [List.pairwise_append]
    refine ⟨h.dis, List.pairwise_singleton _ _, fun a ha b hb' k hk hk2 => ?_⟩
    rw [List.mem_singleton] at hb'
    subst hb'
    have h1 := hlt a ha k hk
    have h2 := (hb k hk2).2
    omega
/-- A packet. -/
structure Pk where
  id : Int
  b : Bd
@[reducible] def pkC (k : Pk) : List Value := [.bool false, .int .i64 k.id, bdV k.b]
def pkCs (l : List Pk) : List Value := l.flatMap fun m => pkC m
theorem pkCs_snoc (l : List Pk) (m : Pk) : pkCs (l ++ [m]) = pkCs l ++ pkC m := by simp [pkCs]
theorem pkC_one (m : Pk) : ∀ v ∈ pkC m, v.oneCell' = true := by intro v hv; simp only [pkC, List.mem_cons, List.not_mem_nil, or_false] at hv; rcases hv with rfl | rfl | rfl <;> rfl
def pkP (k : Pk) : Int × List Int := (k.id, k.b.body)
def sentE (p : Pol) (now : Int) (e : En) : En := { e with att := e.att + 1, nxt := laterP now (backP p (e.att + 1)) }
def dueE (p : Pol) (now : Int) (e : En) : En := if e.nxt ≤ now then sentE p now e else e
def dueL (now : Int) (L : List En) : List (Int × List Int) := (L.filter fun e => decide (e.nxt ≤ now)).map fun e => (e.id, e.body)
theorem dueL_snoc (now : Int) (L : List En) (e : En) : dueL now (L ++ [e]) = dueL now L ++ (if e.nxt ≤ now then [(e.id, e.body)] else []) := by
  rw [dueL, List.filter_append, List.map_append]
  by_cases h : e.nxt ≤ now
  · rw [if_pos h, List.filter_cons_of_pos (by simpa using h)]
    rfl
  · rw [if_neg h, List.filter_cons_of_neg (by simpa using h)]
    rfl
theorem dueL_len (now : Int) (L : List En) : (dueL now L).length ≤ L.length := by
  rw [dueL, List.length_map]
  exact List.length_filter_le _ _
theorem back_rng (p : Pol) (att : Int) : 0 ≤ backP p att ∧ backP p att ≤ 64 := by
  cases hb : goodP p
  · simp [backP, hb]
  · have h1 := (good_fine hb).retryBase
    have h2 := (good_fine hb).retryCap
    have h3 := (dbl_mono (b := p.retryBase) (m := 0) (n := (att - 1).toNat) (by omega) (Nat.zero_le _)).2
    simp only [backP, hb, if_true]
    omega
/-- One notice's numbers are set. -/
theorem BoxV.set {w w' : World} {F : Nat → Prop} {gb n : Nat} {p : Pol} {X Y : List En} {e : En} {A : Option Addr} {c mp : Nat} {att nxt : Int} (h : BoxV w F gb p n (X ++ e :: Y) A c mp) (he : Evt (fun j => j = e.g) w w') (hb : Blk w' e.g 85 (enC { e with att := att, nxt := nxt })) (ha : 0 ≤ att ∧ att ≤ n) : BoxV w' F gb p n (X ++ { e with att := att, nxt := nxt } :: Y) A c mp := by
  have hmem : e ∈ X ++ e :: Y := List.mem_append_right _ (List.mem_cons_self ..)
  have hg := h.ent e hmem
  have hty : ∀ {t : TypeId} {k : Nat} {cur : List Value}, Blk w k t cur → t ≠ 85 → ¬ k = e.g := fun hk ht hh => by subst hh; exact Blk.ne hg hk (fun e => ht e.symm) rfl
  have hgs := h.gs
  rw [List.pairwise_append] at hgs
  obtain ⟨_, hg2, hg3⟩ := hgs
  rw [List.pairwise_cons] at hg2
  have hP : ∀ (P : En → Prop), P { e with att := att, nxt := nxt } → (∀ x ∈ X ++ e :: Y, x ≠ e ∨ True → x.g ≠ e.g → P x) → ∀ x ∈ X ++ { e with att := att, nxt := nxt } :: Y, P x := by
    intro P h1 h2 x hx
    rcases List.mem_append.1 hx with h3 | h3
    · exact h2 x (List.mem_append_left _ h3) (.inr trivial) (hg3 x h3 e (List.mem_cons_self ..))
    · rcases List.mem_cons.1 h3 with rfl | h3
      · exact h1
      · exact h2 x (List.mem_append_right _ (List.mem_cons_of_mem _ h3)) (.inr trivial) (fun hh => hg2.1 x h3 hh.symm)
  have hke : keysE (X ++ { e with att := att, nxt := nxt } :: Y) = keysE (X ++ e :: Y) := by simp [keysE]
  exact {
    blk := h.blk.evt he (hty h.blk (by decide))
    hol := h.hol.evt he (fun b _ hk _ => hty hk (by decide)) (fun _ h => h)
    hln := h.hln
    map := by rw [hke]; exact h.map.evt he (fun hh => h.map.ne hg hh.symm)
    ent := hP _ hb (fun x hx _ hne => (h.ent x hx).evt he hne)
    bod := hP _ ((h.bod e hmem).evt he (fun b _ hk _ => hty hk (by decide)) (fun _ h => h)) (fun x hx _ _ => (h.bod x hx).evt he (fun b _ hk _ => hty hk (by decide)) (fun _ h => h))
    bln := hP _ (h.bln e hmem) (fun x hx _ _ => h.bln x hx)
    srt := by
      have h1 := List.pairwise_map (f := fun e : En => e.id) (R := fun a b : Int => a < b) (l := X ++ e :: Y)
      have h2 := List.pairwise_map (f := fun e : En => e.id) (R := fun a b : Int => a < b) (l := X ++ { e with att := att, nxt := nxt } :: Y)
      rw [← h2, show (X ++ { e with att := att, nxt := nxt } :: Y).map (fun e : En => e.id) = (X ++ e :: Y).map (fun e : En => e.id) by simp]
      exact h1.2 h.srt
    rng := hP _ (h.rng e hmem) (fun x hx _ _ => h.rng x hx)
    gs := by
      have h1 := List.pairwise_map (f := fun e : En => e.g) (R := fun a b : Nat => a ≠ b) (l := X ++ e :: Y)
      have h2 := List.pairwise_map (f := fun e : En => e.g) (R := fun a b : Nat => a ≠ b) (l := X ++ { e with att := att, nxt := nxt } :: Y)
      rw [← h2, show (X ++ { e with att := att, nxt := nxt } :: Y).map (fun e : En => e.g) = (X ++ e :: Y).map (fun e : En => e.g) by simp]
      exact h1.2 h.gs
    att := hP _ ha (fun x hx _ _ => h.att x hx)
    fg := h.fg
    fm := h.fm
    fe := hP _ (h.fe e hmem) (fun x hx _ _ => h.fe x hx)
    lt := fun k hk => Nat.lt_of_lt_of_le (h.lt k hk) he.size }
end Go.Proofs.Ytchfkkliechgoaa
