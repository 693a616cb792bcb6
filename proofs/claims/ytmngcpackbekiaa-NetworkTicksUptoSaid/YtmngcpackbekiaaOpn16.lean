/- The network: more of the laws' helpers. -/
import Derived.Test.YtmngcpackbekiaaSim16
namespace Go.Proofs.Ytmngcpackbekiaa
open Go.RowKit Go.Proofs.YtmngcpackbekiaaE
set_option linter.unusedSimpArgs false
set_option linter.unusedVariables false

section
variable {P : Program} {w : World} {ty : TypeId} {pos : String} {aft : Array Edge} {l : List Value} {d : Option Tmp} {g : Option (Nat × Bool)} {K : Value → Prop} {t u : TypeId} {x y : Operand}
class TPtr (P : Program) (t : TypeId) : Prop where
  ok : P.underlying t = some (.pointer (P.pointee t))
theorem g_eqlPtrN {a : Addr} [hp : TPtr P t] (hx : ev l x = .pointer (some a)) (hy : ev l y = .pointer none) (h : K (.bool false)) : Go1 P ⟨d, .binOp .eql t x y u, ty, pos, aft, g⟩ l w K :=
  ⟨_, fun n _ => by
    have hg : (eqGuard .eql t x y (.pointer (some a)) (.pointer none)).run P n = .ok () n := rfl
    simp only [execOp, hx, hy, Sem.run_bind, hg, run_eql_pointer_nil n t (some a) hp.ok, Result.andThen_ok]
    rfl, h⟩
theorem g_convBytes {s e : TypeId} {b o cap n : Nat} {xs : List Int} (hx : ev l x = .slice (some ⟨b, o, none⟩) n cap) [hs : TSlice P s e 1 1] [he : TInt P e .u8] [ht : TStr P t] (hn : xs.length = n) (hc : ∀ w', Evt (fun _ => False) w w' → ∀ i, i < n → w'.cell? ⟨b, o + i, none⟩ = some (.int .u8 (xs.getD i 0))) (h : K (.string (strOfNums xs))) :
    Go1 P ⟨d, .convert s t x, ty, pos, aft, g⟩ l w K := by
  refine ⟨_, fun w' hw' => ?_, h⟩
  have := run_convert_bytes_arg (P := P) w' s e hs.ok he.ok b o n cap xs hn (hc w' hw') t ht.ok
  simp only [execOp, hx, this, Sem.run_bind, Result.andThen_ok]
  rfl
end
instance : TPtr Try.prog 23 := ⟨by kernel_rfl⟩
theorem strI_one {c : Int} (h : 0 ≤ c ∧ c ≤ 255) : strI (strOfNums [c]) = [c] := by
  have h1 : (UInt8.ofNat c.toNat).toNat = c.toNat := by
    rw [UInt8.toNat_ofNat']
    omega
  simp only [strI, strOfNums, List.map_cons, List.map_nil, h1]
  rw [show ((c.toNat : Nat) : Int) = c by omega]
theorem accT_see {l l' : List Ma} (h : l.map seeA = l'.map seeA) (id : Int) : accT l id = accT l' id := by
  induction l generalizing l' with
  | nil =>
    cases l' with
    | nil => rfl
    | cons y l' => simp at h
  | cons x l ih =>
    cases l' with
    | nil => simp at h
    | cons y l' =>
      simp only [List.map_cons, List.cons.injEq, seeA, Prod.mk.injEq] at h
      rw [accT, accT, h.1.1, h.1.2.1, ih h.2]
theorem rel_acc {id : Int} {N : Net} {s : Sm} (h : Rel id N s) : accT N.acc id = s.acc.getD 0 := by
  have h5 := h.acc
  cases hs : s.acc with
  | none =>
    rw [hs] at h5
    rw [List.map_eq_nil_iff.1 h5]
    rfl
  | some t =>
    rw [hs] at h5
    cases hN : N.acc with
    | nil => rw [hN] at h5; simp at h5
    | cons a l =>
      rw [hN] at h5
      simp only [List.map_cons, List.cons.injEq, Prod.mk.injEq] at h5
      rw [accT, if_pos h5.1.1, h5.1.2]
      rfl
theorem rel_len {id : Int} {N : Net} {s : Sm} (h : Rel id N s) : N.acc.length ≤ 1 ∧ N.fly.length = s.fly.length := by
  refine ⟨?_, by rw [← h.fly, List.length_map]⟩
  have h5 := congrArg List.length h.acc
  rw [List.length_map] at h5
  cases hs : s.acc with
  | none => rw [hs] at h5; simp at h5; simp [h5]
  | some t => rw [hs] at h5; simp at h5; omega
theorem tick_n (g : Nat) (F : Nat → Prop) (N N' : Net) (ids : List Int) (n : Nat) (w : World) (h0 : NetAt w F g N) (hk : NetOk N) (ht : tickN N = (N', ids)) (hn : ids.length = n) :
    Calls Try.prog 15 #[.pointer (some ⟨g, 0, none⟩)] w fun e w' => ∃ F' V d, e = .returned (.slice V n d) ∧ NetAt w' F' g N' ∧ w'.ownsRow 0 3 1 (.slice V n d) n (ints ids) ∧
      (∀ k, (Value.slice V n d).ownBlock = some k → w.heap.size ≤ k ∧ ¬ F' k) ∧ (∀ k, F' k → F k ∨ w.heap.size ≤ k) ∧ Evt F w w' := by
  subst hn
  have := tick_any g F N w h0 hk
  rw [ht] at this
  exact this
theorem evt_new {w a b : World} {F : Nat → Prop} (h : Evt F a b) (h0 : Evt (fun _ => False) w a) (hF : ∀ k, F k → w.heap.size ≤ k) : Evt (fun _ => False) w b := Evt.next h h0 (fun i hi hh => by have := hF i hh; omega)
theorem low_new {w a : World} {F F' : Nat → Prop} (h : ∀ k, F' k → F k ∨ a.heap.size ≤ k) (h0 : Evt (fun _ => False) w a) (hF : ∀ k, F k → w.heap.size ≤ k) : ∀ k, F' k → w.heap.size ≤ k := fun k hk => by
  rcases h k hk with h1 | h1
  · exact hF k h1
  · have := h0.size
    omega
theorem new_n (w : World) :
    Calls Try.prog 10 #[] w fun e w' => ∃ g F, e = .returned (.pointer (some ⟨g, 0, none⟩)) ∧ NetAt w' F g newN ∧ (∀ k, F k → w.heap.size ≤ k) ∧ Evt (fun _ => False) w w' := by
  refine (new_any w).mono ?_
  rintro e w' ⟨g, rfl, h1, h2⟩
  exact ⟨g, _, rfl, h1, fun k hk => hk.1, h2⟩
theorem fate_n (g : Nat) (F : Nat → Prop) (N N' : Net) (e' : Int) (s : ByteArray) (w : World) (h0 : NetAt w F g N) (hfl : N.fates.length ≤ 4096) (hss : s.size ≤ 9223372036854775807) (hf : fateN N (strI s) = (N', e')) :
    Calls Try.prog 11 #[.pointer (some ⟨g, 0, none⟩), .string s] w fun e w' => ∃ F', e = .returned (.int .i64 e') ∧ NetAt w' F' g N' ∧ (∀ k, F' k → F k ∨ w.heap.size ≤ k) ∧ Evt F w w' := by
  have := fate_any g F N s w h0 hfl hss
  rw [hf] at this
  refine this.mono ?_
  rintro e w' ⟨rfl, h1, h2⟩
  refine ⟨_, rfl, h1, ?_, h2⟩
  rintro k (hk | hk)
  · exact .inl hk
  · exact .inr hk.1
theorem send_n (g : Nat) (F : Nat → Prop) (N : Net) (ack : Bool) (id : Int) (body : List Int) (A : Option Addr) (c : Nat) (w : World) (h0 : NetAt w F g N) (hrc0 : RC w A (u8s body)) (hbl : body.length ≤ 140737488351232) (hl : ∀ c ∈ N.fates, letterB c) (hn : N.fly.length ≤ 1000000000000) :
    Calls Try.prog 12 #[.pointer (some ⟨g, 0, none⟩), .agg (pkC ack id A body.length c).toArray] w fun e w' => ∃ F' V d, e = .returned (.tuple #[]) ∧ NetAt w' F' g (handN N { ack := false, id := id, body := body, left := 0, A := V, c := d }) ∧ (∀ k, F' k → F k ∨ w.heap.size ≤ k) ∧ Evt F w w' := by
  refine (send_any g F N ack id body A c w h0 hrc0 hbl hl hn).mono ?_
  rintro e w' ⟨rfl, ⟨V, d, h1⟩, h2⟩
  refine ⟨_, V, d, rfl, h1, ?_, h2⟩
  rintro k (hk | hk)
  · exact .inl hk
  · exact .inr hk.1
theorem blk_one_cell {w w' : World} {g : Nat} {t : TypeId} {c : Int} (h : Blk w g t [.int .u8 c]) (he : Evt (fun _ => False) w w') : ∀ i, i < 1 → w'.cell? ⟨g, 0 + i, none⟩ = some (.int .u8 ([c].getD i 0)) := by
  intro i hi
  obtain rfl : i = 0 := by omega
  rw [(h.evt he (fun h => h)).cell?]
  rfl
theorem s_cutK {P : Program} {Q : Exit → Act → World → Prop} {l : List Value} {ds : List Deferred} {w : World} {c c2 : Code} (W : List Nat) (J : (Nat → Value) → World → Prop)
    (h1 : c.wp P (Exit.then (fun a w' => ∃ l', a = ⟨l'.toArray, ds⟩ ∧ setW l' W (fun _ => undef) = setW l W (fun _ => undef) ∧ J (lget l') w') Q) ⟨l.toArray, ds⟩ w)
    (h2 : ∀ u w', J u w' → c2.wp P Q ⟨(setW l W u).toArray, ds⟩ w') : (c.seq c2).wp P Q ⟨l.toArray, ds⟩ w := by
  refine wp_seq (wp_mono h1 ?_)
  intro e a w' hq
  cases e with
  | normal =>
    obtain ⟨l', rfl, hs, hJ⟩ := hq
    have hl' : setW l W (lget l') = l' := by rw [← setW_over W (lget l') (fun _ => undef) l, ← hs, setW_over, setW_self]
    have := h2 _ _ hJ
    rw [hl'] at this
    exact this
  | _ => exact hq
theorem stop_blk {P : Program} {Q : Exit → Act → World → Prop} {a : Act} {w : World} {n : Nat} {c c2 : Code} (h : Stop (((Code.block n c).seq c2).wp P Q a w)) : ((Code.block n c).seq c2).wp P Q a w := h
set_option maxHeartbeats 2000000 in
theorem copied_any (A : Option Addr) (body : List Int) (c : Nat) (w : World) (hrc : RC w A (u8s body)) (hbl : body.length ≤ 140737488351232) :
    Calls Try.prog 13 #[.slice A body.length c] w fun e w' => ∃ V d, e = .returned (.slice V body.length d) ∧ RC w' V (u8s body) ∧ Evt (fun _ => False) w w' := by
  go_enter Try.func13, Try.ntmps13
  repeat' (first | ((with_reducible refine' e_appC (v := .slice none 0 0) (n := 0) (m := body.length) (xs := []) (news := u8s body) ?hx ?hy ?hzs ?hsz ?hown ?hl ?hr ?h1 ?hb ?hm ?_); (case hx => rfl); (case hy => rfl); (case hzs => rfl); (case hsz => decide); (case hown => exact World.ownsRow_nil _ _ _ _); (case hl => simp [u8s]); (case hr => exact hrc.up (by exact eqq)); (case h1 => exact u8s_one _); (case hb => omega); (case hm => omega); intro vA wA hoA heA0 haA hzA; have heA : Evt (fun _ => False) _ wA := heA0.mono (fun k _ hk => by simp [Value.ownBlock] at hk); clear heA0; simp only [Nat.zero_add, List.nil_append] at hoA; obtain ⟨VB, dB, hVB⟩ := own_slice hoA; subst hVB; (conv => arg 5; simp only [zA, zB, ev, lget, zC, zD, zE, zF, zG, zH, zI, zJ, zK, zL, zM, zN, zO])) | (with_reducible (first | refine' wp_seq ?_ | refine' wp_region_lit ?_ | refine' wpList_nil ?_ | refine' then_normal ?_ | refine' wp_ret ?_)) | ((with_reducible refine' b_ret1 ?hr ?hv ?_); (case hr => rfl); (case hv => ((try simp only [ev, lget]); (try rfl)))) | ((with_reducible refine' l_step ?_); ((first | (with_reducible refine' g_move ?_) | (with_reducible refine' g_assign ?_)); (conv => arg 5; simp only [zA, zB, ev, lget, zC, zD, zE, zF, zG, zH, zI, zJ, zK, zL, zM, zN, zO]))))
  exact ⟨_, _, rfl, RC.own hoA, by exact eqq⟩
end Go.Proofs.Ytmngcpackbekiaa
