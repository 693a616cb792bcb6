/- The network in memory. -/
import Derived.Test.YtmngcpackbekiaaFacts
import Derived.Test.YtmngcpackbekiaaOps11
namespace Go.Proofs.Ytmngcpackbekiaa
open Go.RowKit Go.Proofs.YtmngcpackbekiaaE
set_option linter.unusedSimpArgs false
set_option linter.unusedVariables false

instance : TMap Try.prog 53 3 3 := ⟨Try.underlying53⟩
def u8s (xs : List Int) : List Value := xs.map (Value.int .u8)
theorem u8s_length (xs : List Int) : (u8s xs).length = xs.length := by simp [u8s]
theorem u8s_one (xs : List Int) : ∀ u ∈ u8s xs, u.oneCell' = true := by intro u hu; simp only [u8s, List.mem_map] at hu; obtain ⟨z, _, rfl⟩ := hu; rfl
theorem own_slice {w : World} {e : TypeId} {sz n : Nat} {v : Value} {xs : List Value} (h : w.ownsRow 0 e sz v n xs) : ∃ V c, v = .slice V n c := by
  rcases h.2 with ⟨h', hn⟩ | ⟨g', cap', cur, h', _⟩
  · exact ⟨none, 0, by rw [h', hn]⟩
  · exact ⟨_, _, h'⟩
theorem lb_step {v vA : Value} {B s : Nat} (hlb : ∀ k, v.ownBlock = some k → B ≤ k) (ha : vA.ownBlock = v.ownBlock ∨ vA.ownBlock = some s) (hs : B ≤ s) : ∀ k, vA.ownBlock = some k → B ≤ k := by
  intro k hk
  rcases ha with h | h
  · exact hlb k (h ▸ hk)
  · rw [h] at hk
    have : s = k := Option.some.inj hk
    omega
/-- A copy on its way; what was accepted. -/
structure Mf where
  ack : Bool
  id : Int
  body : List Int
  left : Int
  A : Option Addr
  c : Nat
structure Ma where
  id : Int
  tick : Int
  body : List Int
  A : Option Addr
  c : Nat
@[reducible] def flC (m : Mf) : List Value := [.bool m.ack, .int .i64 m.id, .slice m.A m.body.length m.c, .int .i64 m.left]
@[reducible] def acC (m : Ma) : List Value := [.int .i64 m.id, .int .i64 m.tick, .slice m.A m.body.length m.c]
structure Net where
  now : Int
  fates : List Int
  fly : List Mf
  acc : List Ma
def flCs (l : List Mf) : List Value := l.flatMap fun m => flC m
def acCs (l : List Ma) : List Value := l.flatMap fun m => acC m
theorem flCs_snoc (l : List Mf) (m : Mf) : flCs (l ++ [m]) = flCs l ++ flC m := by simp [flCs]
theorem acCs_snoc (l : List Ma) (m : Ma) : acCs (l ++ [m]) = acCs l ++ acC m := by simp [acCs]
/-- Bytes that lie at the head of a block of their own. -/
def BodyAt (w : World) (F : Nat → Prop) (fb : Option Nat) (A : Option Addr) (body : List Int) : Prop := 0 < body.length → ∃ b cur, A = some ⟨b, 0, none⟩ ∧ Blk w b 5 cur ∧ cur.take body.length = u8s body ∧ F b ∧ fb ≠ some b
structure NetV (w : World) (F : Nat → Prop) (g : Nat) (N : Net) (vF vL vC : Value) (mp : Nat) : Prop where
  blk : Blk w g 56 [.int .i64 N.now, vF, vL, vC, .map (some mp)]
  fates : Tail w 5 vF (u8s N.fates)
  fly : w.ownsRow 0 59 4 vL N.fly.length (flCs N.fly)
  acc : w.ownsRow 0 47 3 vC N.acc.length (acCs N.acc)
  seen : SeenAt Try.prog 3 w mp N.acc.length (N.acc.map (·.id))
  fg : F g
  fm : F mp
  ff : ∀ k, tailBlk vF = some k → F k
  fl : ∀ k, vL.ownBlock = some k → F k
  fa : ∀ k, vC.ownBlock = some k → F k
  fb : ∀ m ∈ N.fly, BodyAt w F (tailBlk vF) m.A m.body
  fc : ∀ m ∈ N.acc, BodyAt w F (tailBlk vF) m.A m.body
  lt : ∀ k, F k → k < w.heap.size
def NetAt (w : World) (F : Nat → Prop) (g : Nat) (N : Net) : Prop := ∃ vF vL vC mp, NetV w F g N vF vL vC mp
theorem own_typ {w : World} {e : TypeId} {sz n : Nat} {v : Value} {xs : List Value} (h : w.ownsRow 0 e sz v n xs) : ∀ k, v.ownBlock = some k → ∃ cur, Blk w k e cur := by
  intro k hk
  rcases own_blk_of h with ⟨rfl, _⟩ | ⟨g, cap, cur, rfl, hb, _⟩
  · simp [Value.ownBlock] at hk
  · simp only [Value.ownBlock, Option.some.injEq] at hk
    subst hk
    exact ⟨cur, hb⟩
theorem BodyAt.evt {w w' : World} {F F' : Nat → Prop} {fb fb' : Option Nat} {A : Option Addr} {body : List Int} {S : Nat → Prop} (h : BodyAt w F fb A body) (he : Evt S w w') (hs : ∀ b cur, Blk w b 5 cur → F b → fb ≠ some b → ¬ S b) (hF : ∀ k, F k → F' k) (hf : ∀ b, F b → fb ≠ some b → fb' ≠ some b) : BodyAt w' F' fb' A body := fun hn => by
  obtain ⟨b, cur, hA, hb, ht, hFb, hfb⟩ := h hn
  exact ⟨b, cur, hA, hb.evt he (hs b cur hb hFb hfb), ht, hF b hFb, hf b hFb hfb⟩
theorem BodyAt.rc {w : World} {F : Nat → Prop} {fb : Option Nat} {A : Option Addr} {body : List Int} (h : BodyAt w F fb A body) : RC w A (u8s body) := fun hn => by
  rw [u8s_length] at hn
  obtain ⟨b, cur, rfl, hb, ht, _⟩ := h hn
  have := RC.blk hb _ ht
  exact this (by rw [u8s_length]; exact hn)
/-- Blocks that the network does not hold were written. -/
theorem NetV.evt {w w' : World} {F F' : Nat → Prop} {g : Nat} {N : Net} {vF vL vC : Value} {mp : Nat} {S : Nat → Prop} (h : NetV w F g N vF vL vC mp) (he : Evt S w w') (hs : ∀ k, F k → ¬ S k) (hF : ∀ k, F k → F' k) (hlt : ∀ k, F' k → k < w'.heap.size) : NetV w' F' g N vF vL vC mp where
  blk := h.blk.evt he (hs g h.fg)
  fates := h.fates.evt he (fun k hk => hs k (h.ff k hk))
  fly := own_evt he h.fly (fun k hk => hs k (h.fl k hk))
  acc := own_evt he h.acc (fun k hk => hs k (h.fa k hk))
  seen := h.seen.evt he (hs mp h.fm)
  fg := hF _ h.fg
  fm := hF _ h.fm
  ff := fun k hk => hF _ (h.ff k hk)
  fl := fun k hk => hF _ (h.fl k hk)
  fa := fun k hk => hF _ (h.fa k hk)
  fb := fun m hm => (h.fb m hm).evt he (fun b _ _ hb _ => hs b hb) hF (fun _ _ h => h)
  fc := fun m hm => (h.fc m hm).evt he (fun b _ _ hb _ => hs b hb) hF (fun _ _ h => h)
  lt := hlt
theorem NetV.up {w w' : World} {F : Nat → Prop} {g : Nat} {N : Net} {vF vL vC : Value} {mp : Nat} (h : NetV w F g N vF vL vC mp) (he : Evt (fun _ => False) w w') : NetV w' F g N vF vL vC mp :=
  h.evt he (fun _ _ => id) (fun _ h => h) (fun k hk => Nat.lt_of_lt_of_le (h.lt k hk) he.size)
theorem NetAt.evt {w w' : World} {F F' : Nat → Prop} {g : Nat} {N : Net} {S : Nat → Prop} (h : NetAt w F g N) (he : Evt S w w') (hs : ∀ k, F k → ¬ S k) (hF : ∀ k, F k → F' k) (hlt : ∀ k, F' k → k < w'.heap.size) : NetAt w' F' g N := by
  obtain ⟨vF, vL, vC, mp, h⟩ := h
  exact ⟨vF, vL, vC, mp, h.evt he hs hF hlt⟩
theorem NetAt.up {w w' : World} {F : Nat → Prop} {g : Nat} {N : Net} (h : NetAt w F g N) (he : Evt (fun _ => False) w w') : NetAt w' F g N := by
  obtain ⟨vF, vL, vC, mp, h⟩ := h
  exact ⟨vF, vL, vC, mp, h.up he⟩
theorem NetAt.lt {w : World} {F : Nat → Prop} {g : Nat} {N : Net} (h : NetAt w F g N) : ∀ k, F k → k < w.heap.size := by
  obtain ⟨_, _, _, _, h⟩ := h
  exact h.lt
/-- A network that is new. -/
def newN : Net := { now := 0, fates := [], fly := [], acc := [] }
theorem new_any (w : World) :
    Calls Try.prog 10 #[] w fun e w' => ∃ g, e = .returned (.pointer (some ⟨g, 0, none⟩)) ∧ NetAt w' (fun k => w.heap.size ≤ k ∧ k < w'.heap.size) g newN ∧ Evt (fun _ => False) w w' := by
  go_enter Try.func10, Try.ntmps10
  repeat' (first | (with_reducible (first | refine' wp_seq ?_ | refine' wp_region_lit ?_ | refine' wpList_nil ?_ | refine' then_normal ?_)) | ((with_reducible refine' l_step ?_); ((with_reducible refine' g_assign ?_); (conv => arg 5; simp only [zA, zB, ev, lget, zC, zD, zE, zF, zG, zH, zI, zJ, zK, zL, zM, zN, zO]))))
  (with_reducible refine' e_makeMap (k := 3) ?_); intro mp wm hm1 hm2 hseen hevm hzm
  (conv => arg 5; simp only [zA, zB, ev, lget, zC, zD, zE, zF, zG, zH, zI, zJ, zK, zL, zM, zN, zO])
  repeat' (first | (with_reducible (first | refine' wpList_nil ?_ | refine' then_normal ?_ | refine' wp_ret ?_)) | ((with_reducible refine' b_ret1 ?hr ?hv ?_); (case hr => rfl); (case hv => ((try simp only [ev, lget]); (try rfl)))) | ((with_reducible refine' l_step ?_); (first | ((with_reducible refine' g_assign ?_); (conv => arg 5; simp only [zA, zB, ev, lget, zC, zD, zE, zF, zG, zH, zI, zJ, zK, zL, zM, zN, zO])) | ((with_reducible refine' g_build ?hl ?hp ?hs ?_); (case hl => rfl); (case hp => rfl); (case hs => rfl); (conv => arg 5; simp only [zA, zB, ev, lget, zC, zD, zE, zF, zG, zH, zI, zJ, zK, zL, zM, zN, zO, fillL, splice, List.getD_cons_zero, List.getD_cons_succ, Value.cells])))) | (((with_reducible refine' e_boxA ?hx ?_); (case hx => rfl)); intro _ _ _ _ _ _ _; (conv => arg 5; simp only [zA, zB, ev, lget, zC, zD, zE, zF, zG, zH, zI, zJ, zK, zL, zM, zN, zO])))
  rename_i g wg hg1 hg2 hgb hevg hzg
  refine ⟨g, rfl, ⟨.slice none 0 0, .slice none 0 0, .slice none 0 0, mp, ?_⟩, by exact eqq⟩
  refine ⟨hgb, Tail.nil _ _, World.ownsRow_nil _ _ _ _, World.ownsRow_nil _ _ _ _, hseen.evt hevg id, ⟨by omega, hg2⟩, ⟨hm1, by omega⟩, ?_, ?_, ?_, ?_, ?_, fun k hk => hk.2⟩
  · intro k hk; cases hk
  · intro k hk; simp [Value.ownBlock] at hk
  · intro k hk; simp [Value.ownBlock] at hk
  · intro m hm; simp [newN] at hm
  · intro m hm; simp [newN] at hm
theorem calm_any (g : Nat) (F : Nat → Prop) (N : Net) (w : World) (h : NetAt w F g N) :
    Calls Try.prog 26 #[.pointer (some ⟨g, 0, none⟩)] w fun e w' => e = .returned (.tuple #[]) ∧ NetAt w' F g { N with fates := [] } ∧ Evt F w w' := by
  obtain ⟨vF, vL, vC, mp, h⟩ := h
  have hb := h.blk
  go_enter Try.func26, Try.ntmps26
  repeat' (first | (with_reducible (first | refine' wp_region_lit ?_ | refine' wpList_nil ?_)) | ((with_reducible refine' b_end0 ?hr ?_); (case hr => rfl)) | ((with_reducible refine' l_step ?_); ((first | (with_reducible refine' g_move ?_) | ((with_reducible refine' g_fieldAddr ?hx ?ho ?_); (case hx => rfl); (case ho => rfl)) | ((with_reducible refine' g_nilCheckP ?hx ?_); (case hx => rfl))); (conv => arg 5; simp only [zA, zB, ev, lget, zC, zD, zE, zF, zG, zH, zI, zJ, zK, zL, zM, zN, zO]))) | ((first | ((with_reducible refine' e_storeB ?hx ?hy ?hv ?h1 ?hb ?ho ?_); (case hx => rfl); (case hy => ((try simp only [ev, lget]); (try rfl))); (case hv => rfl); (case h1 => rfl)) | ((with_reducible refine' e_storeR ?hx ?hy ?h1 ?hb ?hn ?ho ?_); (case hx => rfl); (case hy => rfl); (case h1 => simp [Value.oneCell']); (case hn => rfl))); (case hb => exact bqq); (case ho => first | (simp only [List.length_cons, List.length_nil]; omega) | omega | (simp; omega) | simp); (try simp only [splice, zA, zB]); intro _ _ _ _))
  rename_i w1 hb1 hev1 hz1
  have hu8 : ∀ b cur, Blk w b 5 cur → ¬ b = g := fun b cur hk hg => Blk.ne hb hk (by decide) hg.symm
  refine ⟨rfl, ⟨.slice none 0 0, vL, vC, mp, ?_⟩, hev1.mono fun k _ hk => hk ▸ h.fg⟩
  exact {
    blk := hb1
    fates := Tail.nil _ _
    fly := own_evt hev1 h.fly (fun k hk hg => by obtain ⟨cur, hc⟩ := own_typ h.fly k hk; exact Blk.ne hb hc (by decide) hg.symm)
    acc := own_evt hev1 h.acc (fun k hk hg => by obtain ⟨cur, hc⟩ := own_typ h.acc k hk; exact Blk.ne hb hc (by decide) hg.symm)
    seen := h.seen.evt hev1 (fun hg => h.seen.ne hb hg.symm)
    fg := h.fg
    fm := h.fm
    ff := fun k hk => by cases hk
    fl := h.fl
    fa := h.fa
    fb := fun m hm => (h.fb m hm).evt hev1 (fun b cur hk _ _ => hu8 b cur hk) (fun _ h => h) (fun _ _ _ h => by cases h)
    fc := fun m hm => (h.fc m hm).evt hev1 (fun b cur hk _ _ => hu8 b cur hk) (fun _ h => h) (fun _ _ _ h => by cases h)
    lt := fun k hk => Nat.lt_of_lt_of_le (h.lt k hk) hev1.size }
theorem now_any (g : Nat) (F : Nat → Prop) (N : Net) (w : World) (h : NetAt w F g N) :
    Calls Try.prog 22 #[.pointer (some ⟨g, 0, none⟩)] w fun e w' => e = .returned (.int .i64 N.now) ∧ w = w' := by
  obtain ⟨vF, vL, vC, mp, h⟩ := h
  have hb := h.blk
  go_enter Try.func22, Try.ntmps22
  repeat' (first | (with_reducible (first | refine' wp_seq ?_ | refine' wp_region_lit ?_ | refine' wpList_nil ?_ | refine' then_normal ?_ | refine' wp_ret ?_)) | ((with_reducible refine' b_ret1 ?hr ?hv ?_); (case hr => rfl); (case hv => ((try simp only [ev, lget]); (try rfl)))) | ((with_reducible refine' l_step ?_); ((first | (with_reducible refine' g_move ?_) | (with_reducible refine' g_assign ?_) | ((with_reducible refine' g_fieldAddr ?hx ?ho ?_); (case hx => rfl); (case ho => rfl)) | ((with_reducible refine' g_loadB ?hx ?hb ?hc ?_); (case hx => rfl); (case hb => exact bqq); first | (case hc => rfl) | (case hn => simp only [List.length_cons, List.length_nil]; omega)) | ((with_reducible refine' g_nilCheckP ?hx ?_); (case hx => rfl))); (conv => arg 5; simp only [zA, zB, ev, lget, zC, zD, zE, zF, zG, zH, zI, zJ, zK, zL, zM, zN, zO]))))
  exact ⟨rfl, rfl⟩
theorem flying_any (g : Nat) (F : Nat → Prop) (N : Net) (w : World) (h : NetAt w F g N) :
    Calls Try.prog 14 #[.pointer (some ⟨g, 0, none⟩)] w fun e w' => e = .returned (.int .i64 N.fly.length) ∧ w = w' := by
  obtain ⟨vF, vL, vC, mp, h⟩ := h
  have hb := h.blk
  obtain ⟨V, c, rfl⟩ : ∃ V c, vL = .slice V N.fly.length c := by
    rcases own_blk_of h.fly with ⟨h1, h2⟩ | ⟨g, cap, cur, h1, _⟩
    · exact ⟨none, 0, by rw [h1, h2]⟩
    · exact ⟨_, _, h1⟩
  go_enter Try.func14, Try.ntmps14
  repeat' (first | (with_reducible (first | refine' wp_seq ?_ | refine' wp_region_lit ?_ | refine' wpList_nil ?_ | refine' then_normal ?_ | refine' wp_ret ?_)) | ((with_reducible refine' b_ret1 ?hr ?hv ?_); (case hr => rfl); (case hv => ((try simp only [ev, lget]); (try rfl)))) | ((with_reducible refine' l_step ?_); ((first | (with_reducible refine' g_move ?_) | (with_reducible refine' g_assign ?_) | ((with_reducible refine' g_fieldAddr ?hx ?ho ?_); (case hx => rfl); (case ho => rfl)) | ((with_reducible refine' g_loadB ?hx ?hb ?hc ?_); (case hx => rfl); (case hb => exact bqq); first | (case hc => rfl) | (case hn => simp only [List.length_cons, List.length_nil]; omega)) | ((with_reducible refine' g_nilCheckP ?hx ?_); (case hx => rfl)) | ((with_reducible refine' g_lenS ?hx ?_); (case hx => rfl))); (conv => arg 5; simp only [zA, zB, ev, lget, zC, zD, zE, zF, zG, zH, zI, zJ, zK, zL, zM, zN, zO]))))
  exact ⟨rfl, rfl⟩
end Go.Proofs.Ytmngcpackbekiaa
