/- Rows of numbers in memory: what the walks of all layers use. -/
import Derived.Test.YtchfkkliechgoaaPol4
import Derived.Test.YtchfkkliechgoaaOps4
namespace Go.Proofs.Ytchfkkliechgoaa
open Go.RowKit Go.Proofs.YtchfkkliechgoaaE
set_option linter.unusedSimpArgs false
set_option linter.unusedVariables false
set_option maxRecDepth 4000

def ints (xs : List Int) : List Value := xs.map (Value.int .i64)
theorem ints_append (xs ys : List Int) : ints (xs ++ ys) = ints xs ++ ints ys := by simp [ints]
theorem ints_length (xs : List Int) : (ints xs).length = xs.length := by simp [ints]
/-- What is read of a slice, element i, as the walk asks it. -/
theorem RI.at_ {w : World} {A : Option Addr} {xs : List Int} (h : RI w A xs) {i : Nat} (hi : i < xs.length) : ∃ b o, A = some ⟨b, o, none⟩ ∧ w.cell? ⟨b, o + i, none⟩ = some (.int .i64 xs[i]) := by
  obtain ⟨b, o, rfl, hc⟩ := h.2 (by omega)
  exact ⟨b, o, rfl, by simpa using hc i _ (List.getElem?_eq_getElem hi)⟩

theorem lb_step {v vA : Value} {B s : Nat} (hlb : ∀ k, v.ownBlock = some k → B ≤ k) (ha : vA.ownBlock = v.ownBlock ∨ vA.ownBlock = some s) (hs : B ≤ s) : ∀ k, vA.ownBlock = some k → B ≤ k := by
  intro k hk
  rcases ha with h | h
  · exact hlb k (h ▸ hk)
  · rw [h] at hk
    have : s = k := Option.some.inj hk
    omega
theorem ints_take {xs : List Int} {i : Nat} (h : i < xs.length) : ints (xs.take (i + 1)) = ints (xs.take i) ++ [.int .i64 xs[i]] := by
  rw [List.take_succ_eq_append_getElem h, ints_append]; rfl

theorem own_cells {w : World} {e : TypeId} {sz n cap g : Nat} {xs : List Value} (h : w.ownsRow 0 e sz (.slice (some ⟨g, 0, none⟩) n cap) n xs) : ∃ cur, Blk w g e cur ∧ cur.take (n * sz) = xs ∧ cur.length = cap * sz ∧ n ≤ cap := by
  rcases h.2 with ⟨h', _⟩ | ⟨g', cap', cur, h', _, hg, hn, _, hs, ht⟩
  · simp at h'
  · simp only [Value.slice.injEq, Option.some.injEq, Addr.mk.injEq, and_true, true_and] at h'
    obtain ⟨rfl, rfl⟩ := h'
    exact ⟨cur.toList, by simpa [Blk] using hg, ht, by simpa using hs, hn⟩
/-- A row of the call's own, not empty: where it lies. -/
theorem own_form {w : World} {e : TypeId} {sz n : Nat} {v : Value} {xs : List Value} (h : w.ownsRow 0 e sz v n xs) (hn : 0 < n) : ∃ g cap cur, v = .slice (some ⟨g, 0, none⟩) n cap ∧ Blk w g e cur ∧ cur.take (n * sz) = xs ∧ cur.length = cap * sz ∧ n ≤ cap ∧ cap ≤ maxLen := by
  rcases h.2 with ⟨_, h'⟩ | ⟨g', cap', cur, h', _, hg, hn, hm, hs, ht⟩
  · omega
  · exact ⟨g', cap', cur.toList, h', by simpa [Blk] using hg, ht, by simpa using hs, hn, hm⟩
theorem RI_of_blk {w : World} {g n : Nat} {t : TypeId} {cur : List Value} {xs ms : List Int} (hb : Blk w g t cur) (ht : cur.take n = ints (xs ++ ms)) (hl : xs.length ≤ 9223372036854775807) : RI w (some ⟨g, 0, none⟩) xs := by
  refine ⟨by omega, fun _ => ⟨g, 0, rfl, fun j x hj => ?_⟩⟩
  rw [hb.cell?, Nat.zero_add]
  have hlt : j < xs.length := (List.getElem?_eq_some_iff.1 hj).1
  have h1 : (cur.take n)[j]? = some (.int .i64 x) := by
    rw [ht, ints, List.getElem?_map, List.getElem?_append_left hlt, hj]; rfl
  rw [List.getElem?_take] at h1
  split at h1
  · exact h1
  · cases h1
theorem RI_of_blk0 {w : World} {g n : Nat} {t : TypeId} {cur : List Value} {xs : List Int} (hb : Blk w g t cur) (ht : cur.take n = ints xs) (hl : xs.length ≤ 9223372036854775807) : RI w (some ⟨g, 0, none⟩) xs :=
  RI_of_blk (ms := []) hb (by simpa using ht) hl
theorem own_slice {w : World} {e : TypeId} {sz n : Nat} {v : Value} {xs : List Value} (h : w.ownsRow 0 e sz v n xs) : ∃ V c, v = .slice V n c := by
  rcases h.2 with ⟨h', hn⟩ | ⟨g', cap', cur, h', _⟩
  · exact ⟨none, 0, by rw [h', hn]⟩
  · exact ⟨_, _, h'⟩
theorem RI_of_own {w : World} {V : Option Addr} {c : Nat} {xs : List Int} (h : w.ownsRow 0 3 1 (.slice V xs.length c) xs.length (ints xs)) (hl : xs.length ≤ 9223372036854775807) : RI w V xs := by
  rcases Nat.eq_zero_or_pos xs.length with h0 | hp
  · exact ⟨by omega, fun hn => by omega⟩
  · obtain ⟨g, cap, cur, he, hb, ht, _⟩ := own_form h hp
    simp only [Value.slice.injEq] at he
    rw [he.1]
    exact RI_of_blk0 hb (by simpa using ht) hl
end Go.Proofs.Ytchfkkliechgoaa
