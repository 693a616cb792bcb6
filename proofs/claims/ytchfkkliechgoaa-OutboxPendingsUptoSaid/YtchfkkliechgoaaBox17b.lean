/- The outbox in memory; New; the numbers in it. SHORT NORMX -/
import Derived.Test.YtchfkkliechgoaaBox17
import Derived.Test.YtchfkkliechgoaaLays
namespace Go.Proofs.Ytchfkkliechgoaa
open Go.RowKit Go.Maps Go.Sort Go.Shelf Go.Proofs.YtchfkkliechgoaaE
set_option linter.unusedSimpArgs false
set_option linter.unusedVariables false
set_option maxRecDepth 4000

instance : TMap Try.prog 77 3 82 := ⟨Try.underlying77⟩
instance : TPtr Try.prog 82 := ⟨by kernel_rfl⟩
instance : TPtr Try.prog 32 := ⟨by kernel_rfl⟩
/-- A notice in the box: what it says; where its bytes lie; its block. -/
structure En where
  id : Int
  att : Int
  nxt : Int
  body : List Int
  A : Option Addr
  c : Nat
  g : Nat
@[reducible] def enC (e : En) : List Value := [.int .i64 e.id, .int .i64 e.att, .int .i64 e.nxt, .slice e.A e.body.length e.c]
@[reducible] def boxC (p : Pol) (A : Option Addr) (c : Nat) (mp : Nat) : List Value := [.int .i64 p.firstDay, .int .i64 p.grace, .int .i64 p.nonAccrual, .int .i64 p.chargeOff, .int .i64 p.lateRate, .int .i64 p.lateMin, .int .i64 p.lateMax, .int .i64 p.cycleCap, .int .i64 p.lifeCap, .int .i64 p.promises, .int .i64 p.promiseDays, .int .i64 p.restructures, .int .i64 p.order, .int .i64 p.rule, .int .i64 p.retryBase, .int .i64 p.retryCap, .int .i64 p.snapEvery, .slice A p.hs.length c, .map (some mp)]
def keysE (L : List En) : List (Int × Nat) := L.map fun e => (e.id, e.g)
theorem keysE_ids (L : List En) : (keysE L).map (·.1) = L.map (·.id) := by simp [keysE]
structure BoxV (w : World) (F : Nat → Prop) (gb : Nat) (p : Pol) (n : Nat) (L : List En) (A : Option Addr) (c mp : Nat) : Prop where
  blk : Blk w gb 79 (boxC p A c mp)
  hol : RowAt w F 3 A (ints p.hs)
  hln : p.hs.length ≤ 9223372036854775807
  map : PMap Try.prog 3 w mp n (keysE L)
  ent : ∀ e ∈ L, Blk w e.g 85 (enC e)
  bod : ∀ e ∈ L, RowAt w F 5 e.A (u8s e.body)
  bln : ∀ e ∈ L, e.body.length ≤ 140737488351232
  srt : L.Pairwise (fun a b => a.id < b.id)
  rng : ∀ e ∈ L, 1 ≤ e.id ∧ e.id ≤ 9223372036854775807
  gs : L.Pairwise (fun a b => a.g ≠ b.g)
  att : ∀ e ∈ L, 0 ≤ e.att ∧ e.att ≤ n
  fg : F gb
  fm : F mp
  fe : ∀ e ∈ L, F e.g
  lt : ∀ k, F k → k < w.heap.size
def BoxAt (w : World) (F : Nat → Prop) (gb : Nat) (p : Pol) (n : Nat) (L : List En) : Prop := ∃ A c mp, BoxV w F gb p n L A c mp
theorem BoxV.evt {S F F' : Nat → Prop} {w w' : World} {gb n : Nat} {p : Pol} {L : List En} {A : Option Addr} {c mp : Nat} (h : BoxV w F gb p n L A c mp) (he : Evt S w w') (hs : ∀ k, F k → ¬ S k) (hF : ∀ k, F k → F' k) (hlt : ∀ k, F' k → k < w'.heap.size) : BoxV w' F' gb p n L A c mp where
  blk := h.blk.evt he (hs gb h.fg)
  hol := h.hol.evt he (fun b _ _ hb => hs b hb) hF
  hln := h.hln
  map := h.map.evt he (hs mp h.fm)
  ent := fun e hm => (h.ent e hm).evt he (hs e.g (h.fe e hm))
  bod := fun e hm => (h.bod e hm).evt he (fun b _ _ hb => hs b hb) hF
  bln := h.bln
  srt := h.srt
  rng := h.rng
  gs := h.gs
  att := h.att
  fg := hF _ h.fg
  fm := hF _ h.fm
  fe := fun e hm => hF _ (h.fe e hm)
  lt := hlt
theorem BoxV.up {F : Nat → Prop} {w w' : World} {gb n : Nat} {p : Pol} {L : List En} {A : Option Addr} {c mp : Nat} (h : BoxV w F gb p n L A c mp) (he : Evt (fun _ => False) w w') : BoxV w' F gb p n L A c mp :=
  h.evt he (fun _ _ => id) (fun _ h => h) (fun k hk => Nat.lt_of_lt_of_le (h.lt k hk) he.size)
theorem BoxAt.evt {S F F' : Nat → Prop} {w w' : World} {gb n : Nat} {p : Pol} {L : List En} (h : BoxAt w F gb p n L) (he : Evt S w w') (hs : ∀ k, F k → ¬ S k) (hF : ∀ k, F k → F' k) (hlt : ∀ k, F' k → k < w'.heap.size) : BoxAt w' F' gb p n L := by
  obtain ⟨A, c, mp, h⟩ := h
  exact ⟨A, c, mp, h.evt he hs hF hlt⟩
theorem BoxAt.up {F : Nat → Prop} {w w' : World} {gb n : Nat} {p : Pol} {L : List En} (h : BoxAt w F gb p n L) (he : Evt (fun _ => False) w w') : BoxAt w' F gb p n L := by
  obtain ⟨A, c, mp, h⟩ := h
  exact ⟨A, c, mp, h.up he⟩
theorem BoxAt.lt {F : Nat → Prop} {w : World} {gb n : Nat} {p : Pol} {L : List En} (h : BoxAt w F gb p n L) : ∀ k, F k → k < w.heap.size := by
  obtain ⟨_, _, _, h⟩ := h
  exact h.lt
theorem pmap_mono {P : Program} {k : TypeId} {w : World} {b n m : Nat} {es : List (Int × Nat)} (h : PMap P k w b n es) (hm : n ≤ m) : PMap P k w b m es := by
  obtain ⟨D, ho, h2, h3⟩ := h
  exact ⟨D, ho.mono hm, h2, h3⟩
theorem BoxV.mono {F : Nat → Prop} {w : World} {gb n m : Nat} {p : Pol} {L : List En} {A : Option Addr} {c mp : Nat} (h : BoxV w F gb p n L A c mp) (hm : n ≤ m) : BoxV w F gb p m L A c mp :=
  { h with map := pmap_mono h.map hm, att := fun e he => by have := h.att e he; omega }
theorem BoxAt.mono {F : Nat → Prop} {w : World} {gb n m : Nat} {p : Pol} {L : List En} (h : BoxAt w F gb p n L) (hm : n ≤ m) : BoxAt w F gb p m L := by
  obtain ⟨A, c, mp, h⟩ := h
  exact ⟨A, c, mp, h.mono hm⟩
theorem BoxV.nodup {F : Nat → Prop} {w : World} {gb n : Nat} {p : Pol} {L : List En} {A : Option Addr} {c mp : Nat} (h : BoxV w F gb p n L A c mp) : ((keysE L).map (·.1)).Nodup := by
  rw [keysE_ids]
  exact List.pairwise_map.2 (h.srt.imp (fun hab => by omega))
/-- An empty box. -/
theorem new_any (p : Pol) (A : Option Addr) (c : Nat) (w : World) (hr : RI w A p.hs) (hsz : p.hs.length * 8 ≤ 140737488351232) :
    Calls Try.prog 13 #[.agg (polC p A c).toArray] w fun e w' => ∃ gb F, e = .returned (.pointer (some ⟨gb, 0, none⟩)) ∧ BoxAt w' F gb p 0 [] ∧ (∀ k, F k → w.heap.size ≤ k) ∧ Evt (fun _ => False) w w' := by
  go_enter Try.func13, Try.ntmps13
  repeat' (first | (go_at_call 33; refine (cloneI_any A p.hs.length c p.hs _ (hr.up (by exact eqq)) rfl hsz).mono ?_; rintro e w1 ⟨V, d, rfl, ho1, hn1, ev1⟩; have z1 := ev1.size; refine ⟨_, rfl, ?_⟩; (conv => arg 5; simp only [zA, zB, ev, lget, zC, zD, zE, zF, zG, zH, zI, zJ, zK, zL, zM, zN, zO])) | ((with_reducible refine' e_makeMapP (k := 3) (e := 82) ?_); intro mp wm hm1 hm2 hmap evm zm; (conv => arg 5; simp only [zA, zB, ev, lget, zC, zD, zE, zF, zG, zH, zI, zJ, zK, zL, zM, zN, zO])) | (with_reducible (first | refine' wp_seq ?_ | refine' wp_region_lit ?_ | refine' wpList_nil ?_ | refine' then_normal ?_ | refine' wp_block ?_ | refine' wp_ret ?_ | refine' wp_skip ?_ | refine' wp_exit ?_ | refine' then_ret ?_ | refine' then_exit ?_ | refine' in_normal ?_ | refine' in_ret ?_ | refine' in_exit ?_)) | ((with_reducible refine' c_condT ?hx ?_); (case hx => rfl)) | ((with_reducible refine' c_condF ?hx ?_); (case hx => rfl)) | ((with_reducible refine' in_exit' ?hx ?_); (case hx => decide)) | ((with_reducible refine' b_ret1 ?hr ?hv ?_); (case hr => rfl); (case hv => ((try simp only [ev, lget]); (try rfl)))) | ((with_reducible refine' l_step ?_); (first | ((first | (with_reducible refine' g_move ?_) | (with_reducible refine' g_assign ?_) | ((with_reducible refine' g_fieldAddr ?hx ?ho ?_); (case hx => rfl); (case ho => rfl)) | ((first | (with_reducible refine' g_loadB ?hx ?hb ?hc ?_) | (with_reducible refine' g_loadS ?hx ?hb ?hn ?_)); (case hx => rfl); (case hb => exact bqq); first | (case hc => rfl) | (case hn => simp only [List.length_cons, List.length_nil]; omega)) | ((with_reducible refine' g_loadC ?hx ?hc ?_); (case hx => rfl); (case hc => exact cqq))); (conv => arg 5; simp only [zA, zB, ev, lget, zC, zD, zE, zF, zG, zH, zI, zJ, zK, zL, zM, zN, zO])) | ((with_reducible refine' g_build ?hl ?hp ?hs ?_); (case hl => rfl); (case hp => rfl); (case hs => rfl); (conv => arg 5; simp only [zA, zB, ev, lget, zC, zD, zE, zF, zG, zH, zI, zJ, zK, zL, zM, zN, zO, fillL, splice, List.getD_cons_zero, List.getD_cons_succ, Value.cells])))) | ((first | ((with_reducible refine' e_boxA ?hx ?_); (case hx => rfl)) | ((with_reducible refine' e_boxS ?hx ?hv ?_); (case hx => ((try simp only [ev, lget]); (try rfl))); (case hv => rfl))); intro _ _ _ _ _ _ _; (conv => arg 5; simp only [zA, zB, ev, lget, zC, zD, zE, zF, zG, zH, zI, zJ, zK, zL, zM, zN, zO])) | ((first | ((with_reducible refine' e_storeB ?hx ?hy ?hv ?h1 ?hb ?ho ?_); (case hx => rfl); (case hy => ((try simp only [ev, lget]); (try rfl))); (case hv => rfl); (case h1 => rfl)) | ((with_reducible refine' e_storeR ?hx ?hy ?h1 ?hb ?hn ?ho ?_); (case hx => rfl); (case hy => rfl); (case h1 => simp [Value.oneCell']); (case hn => rfl))); (case hb => exact bqq); (case ho => first | (simp only [List.length_cons, List.length_nil]; omega) | omega | (simp; omega) | simp); (try simp only [splice, zA, zB]); intro _ _ _ _) | ((first | (with_reducible refine' l_call TFn.ent ?ha ?_) | (with_reducible refine' l_callN TFn.ent ?ha ?_)); (case ha => simp only [zC, zD, ev, lget]; (try rfl))))
  rename_i gp wp a1 a2 hp ep zp w2 hp2 e2 z2 gb wb b1 b2 hb eb zb
  have e1b : Evt (fun j => j = gp) w1 wb := Evt.next eb (Evt.next evm e2 (fun _ _ h => h.elim)) (fun _ _ h => h.elim)
  have hVg : ∀ k, (Value.slice V p.hs.length d).ownBlock = some k → ¬ k = gp := fun k hk hh => by have := hn1 k hk; omega
  have ho := own_evt e1b ho1 hVg
  refine ⟨gb, fun k => w.heap.size ≤ k ∧ k < wb.heap.size, rfl, ⟨V, d, mp, ?_⟩, fun k hk => hk.1, by exact eqq⟩
  exact {
    blk := hb
    hol := rowAt_own ho (fun k hk => ⟨by have := hn1 k hk; omega, own_lt ho k hk⟩)
    hln := hr.1
    map := hmap.evt eb id
    ent := fun e hm => by cases hm
    bod := fun e hm => by cases hm
    bln := fun e hm => by cases hm
    srt := List.Pairwise.nil
    rng := fun e hm => by cases hm
    gs := List.Pairwise.nil
    att := fun e hm => by cases hm
    fg := ⟨by omega, by omega⟩
    fm := ⟨by omega, by omega⟩
    fe := fun e hm => by cases hm
    lt := fun k hk => hk.2 }
/-- slices.Sort at the fence that asks nothing. -/
theorem sorts_any (m : Nat) : AnyZI.SortsIn Try.prog Try.sortedA_ren Fence.wide m :=
  ⟨fun blk off cap ss W hH hblk hsz => callsIn_wide.2 (AnyM.slices_Sort_int Try.sortA blk off cap ss W hH hblk hsz),
   fun p cap W => callsIn_wide.2 (AnyM.slices_Sort_int_none Try.sortA p cap W)⟩
theorem keysF_any (mb : Option Nat) (W : World) : Calls Try.prog 45 #[.map mb] W fun e w' => e = .returned (.func (.func 78) #[] #[.pointer (some ⟨W.heap.size, 0, none⟩)]) ∧ w' = W.alloc (.cells #[.map mb] 77) :=
  callsIn_wide.1 (AnyZI.keys_in Try.keysA Fence.wide 5 trivial rfl mb W)
theorem sortedF_any (b nn : Nat) (D0 : DataW Unit) (w : World) (hown : w.ownsMap Try.prog 3 ptrR b nn D0) (hmax : Maps.size D0 ≤ maxLen) (hbytes : Maps.size D0 * 8 ≤ 140737488355328) :
    Calls Try.prog 44 #[.func (.func 78) #[] #[.pointer (some ⟨w.heap.size, 0, none⟩)]] (w.alloc (.cells #[.map (some b)] 77)) fun e w' => ∃ (v : Value) (ss : List Int), e = .returned v ∧ ss.Perm (intKeys D0) ∧
      w'.ownsRow (w.alloc (.cells #[.map (some b)] 77)).heap.size 3 1 v ss.length ((ss.mergeSort (fun x y => decide (x ≤ y))).map encZ) ∧ (v = .slice none 0 0 ↔ ss = []) ∧ Below (w.alloc (.cells #[.map (some b)] 77)).heap.size (w.alloc (.cells #[.map (some b)] 77)) w' := by
  have hbl := hown.lt
  have hseq : SeqGives Fence.wide 2 Try.prog 78 #[.pointer (some ⟨w.heap.size, 0, none⟩)] encZ (fun ss => ss.Perm (intKeys D0)) (Maps.size D0) (w.alloc (.cells #[.map (some b)] 77)) :=
    AnyZI.keys_gives (ρ := Try.keysA_ren) { Try.keysA with } Fence.wide _ trivial rfl (by omega) w.heap.size b nn D0 _ (by simp) (by simp) (by
      obtain ⟨es, clock, hb, Ft, hs, hD⟩ := hown
      exact ⟨es, clock, (Below.heap_alloc _ _ b hbl).trans hb, Ft, hs, hD⟩)
  exact callsIn_wide.1 (AnyZI.sorted_in Try.sortedA Fence.wide 5 trivial trivial trivial trivial rfl (by omega) (sorts_any _) (enters_of Try.func77 (by kernel_rfl) rfl) 78 #[.pointer (some ⟨w.heap.size, 0, none⟩)] trivial (enters_of Try.func78 (by kernel_rfl) rfl) _ _ hmax hbytes _ hseq)
theorem sorted_ids {L : List En} (hs : L.Pairwise (fun a b => a.id < b.id)) {ss : List Int} (hp : ss.Perm (L.map (·.id))) : ss.mergeSort (fun x y => decide (x ≤ y)) = L.map (·.id) := by
  have h1 := mergeSort_of_perm_i hp
  rw [h1]
  refine List.mergeSort_of_pairwise ?_
  refine List.pairwise_map.2 (hs.imp fun hab => ?_)
  simp only [decide_eq_true_eq]
  omega
theorem ids_any (w : World) (F : Nat → Prop) (gb n : Nat) (p : Pol) (L : List En) (h : BoxAt w F gb p n L) (hl : L.length ≤ 1000000000000) :
    Calls Try.prog 36 #[.pointer (some ⟨gb, 0, none⟩)] w fun e w' => ∃ V d, e = .returned (.slice V L.length d) ∧ w'.ownsRow 0 3 1 (.slice V L.length d) L.length (ints (L.map (·.id))) ∧ (∀ k, (Value.slice V L.length d).ownBlock = some k → w.heap.size ≤ k) ∧ Evt (fun _ => False) w w' := by
  obtain ⟨A, c, mp, h⟩ := h
  have hb := h.blk
  obtain ⟨D, hown, hperm, hsize⟩ := h.map.keys h.nodup
  rw [keysE_ids] at hperm
  have hlen : (keysE L).length = L.length := by simp [keysE]
  rw [hlen] at hsize
  go_enter Try.func36, Try.ntmps36
  repeat' (first | (go_at_call 45; refine (keysF_any _ _).mono ?_; rintro e wk ⟨rfl, rfl⟩; refine ⟨_, rfl, ?_⟩; (conv => arg 5; simp only [zA, zB, ev, lget, zC, zD, zE, zF, zG, zH, zI, zJ, zK, zL, zM, zN, zO])) | (go_at_call 44; refine (sortedF_any mp n D w hown (by unfold maxLen; omega) (by omega)).mono ?_; rintro e ws ⟨v, ss, rfl, hS, hrow, hnil, hbel⟩; refine ⟨_, rfl, ?_⟩; (conv => arg 5; simp only [zA, zB, ev, lget, zC, zD, zE, zF, zG, zH, zI, zJ, zK, zL, zM, zN, zO])) | (with_reducible (first | refine' wp_seq ?_ | refine' wp_region_lit ?_ | refine' wpList_nil ?_ | refine' then_normal ?_ | refine' wp_block ?_ | refine' wp_ret ?_ | refine' wp_skip ?_ | refine' wp_exit ?_ | refine' then_ret ?_ | refine' then_exit ?_ | refine' in_normal ?_ | refine' in_ret ?_ | refine' in_exit ?_)) | ((with_reducible refine' c_condT ?hx ?_); (case hx => rfl)) | ((with_reducible refine' c_condF ?hx ?_); (case hx => rfl)) | ((with_reducible refine' in_exit' ?hx ?_); (case hx => decide)) | ((with_reducible refine' b_ret1 ?hr ?hv ?_); (case hr => rfl); (case hv => ((try simp only [ev, lget]); (try rfl)))) | ((with_reducible refine' l_step ?_); ((first | (with_reducible refine' g_move ?_) | (with_reducible refine' g_assign ?_) | ((with_reducible refine' g_fieldAddr ?hx ?ho ?_); (case hx => rfl); (case ho => rfl)) | ((first | (with_reducible refine' g_loadB ?hx ?hb ?hc ?_) | (with_reducible refine' g_loadS ?hx ?hb ?hn ?_)); (case hx => rfl); (case hb => exact bqq); first | (case hc => rfl) | (case hn => simp only [List.length_cons, List.length_nil]; omega)) | ((with_reducible refine' g_loadC ?hx ?hc ?_); (case hx => rfl); (case hc => exact cqq)) | ((with_reducible refine' g_nilCheckP ?hx ?_); (case hx => rfl))); (conv => arg 5; simp only [zA, zB, ev, lget, zC, zD, zE, zF, zG, zH, zI, zJ, zK, zL, zM, zN, zO]))) | ((first | (with_reducible refine' l_call TFn.ent ?ha ?_) | (with_reducible refine' l_callN TFn.ent ?ha ?_)); (case ha => simp only [zC, zD, ev, lget]; (try rfl))))
  have hpp : ss.Perm (L.map (·.id)) := hS.trans hperm.symm
  have hsl : ss.length = L.length := by have := hpp.length_eq; rw [List.length_map] at this; exact this
  rw [sorted_ids h.srt hpp, hsl] at hrow
  have hnew : ∀ k, v.ownBlock = some k → w.heap.size ≤ k := by
    intro k hk
    rcases hrow.2 with ⟨rfl, _⟩ | ⟨g', cap', cur, rfl, hbs, _⟩
    · simp [Value.ownBlock] at hk
    · simp only [Value.ownBlock, Option.some.injEq] at hk
      subst hk
      have : (w.alloc (Obj.cells #[Value.map (some mp)] 77)).heap.size = w.heap.size + 1 := by simp
      omega
  have hrow0 := ownsRow_base_a hrow (Nat.zero_le _)
  obtain ⟨V, d, hV⟩ := own_slice hrow0
  subst hV
  have hx : (L.map (·.id)).map encZ = ints (L.map (·.id)) := rfl
  rw [hx] at hrow0
  exact ⟨V, d, rfl, hrow0, hnew, Evt.next (Evt.of_below hbel) (Evt.alloc _ _) (fun _ _ h => h)⟩
end Go.Proofs.Ytchfkkliechgoaa
