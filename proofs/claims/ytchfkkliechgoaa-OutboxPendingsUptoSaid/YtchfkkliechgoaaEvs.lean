/- Step rules that turn the world; control. -/
import Derived.Test.YtchfkkliechgoaaOps
import Derived.Maps.AppendAt
namespace Go.Proofs.YtchfkkliechgoaaE
open Go.RowKit
set_option linter.unusedSimpArgs false
set_option linter.unusedVariables false

section
variable {P : Program} {ops : Array Oper} {rest : List Oper} {w : World} {Q : Exit → Act → World → Prop} {ty : TypeId} {pos : String} {aft : Array Edge} {l : List Value} {ds : List Deferred} {N : Tmp}

/-! ### control -/
theorem then_normal {next : Act → World → Prop} {a : Act} (h : next a w) : Exit.then next Q .normal a w := h
theorem then_ret {next : Act → World → Prop} {a : Act} (h : Q .ret a w) : Exit.then next Q .ret a w := h
theorem then_exit {next : Act → World → Prop} {a : Act} {i : Nat} (h : Q (.exit i) a w) : Exit.then next Q (.exit i) a w := h
theorem in_normal {a : Act} {i : Nat} (h : Q .normal a w) : Exit.inBlock i Q .normal a w := h
theorem in_ret {a : Act} {i : Nat} (h : Q .ret a w) : Exit.inBlock i Q .ret a w := h
theorem in_exit {a : Act} {i : Nat} (h : Q .normal a w) : Exit.inBlock i Q (.exit i) a w := by simp [Exit.inBlock, h]
theorem in_exit' {a : Act} {i j : Nat} (hij : ¬ j = i) (h : Q (.exit j) a w) : Exit.inBlock i Q (.exit j) a w := by simp [Exit.inBlock, hij, h]
theorem c_condT {c : Operand} {x y : Code} (hc : ev l c = .bool true) (h : x.wp P Q ⟨l.toArray, ds⟩ w) : (Code.cond c x y).wp P Q ⟨l.toArray, ds⟩ w := wp_cond_true (by rw [ev_eq]; exact hc) h
theorem c_condF {c : Operand} {x y : Code} (hc : ev l c = .bool false) (h : y.wp P Q ⟨l.toArray, ds⟩ w) : (Code.cond c x y).wp P Q ⟨l.toArray, ds⟩ w := wp_cond_false (by rw [ev_eq]; exact hc) h
theorem b_ret1 {fn : Func} {R : Ending → World → Prop} {t : Tmp} {v : Value} (hr : fn.results = #[.tmp t]) (hv : lget l t = v) (h : R (.returned v) w) : bodyPost P fn R .ret ⟨l.toArray, []⟩ w :=
  bodyPost_ret (by rw [results_tmp hr]; rw [getD_lget, hv]) rfl h
theorem b_ret2 {fn : Func} {R : Ending → World → Prop} {t u : Tmp} {v v' : Value} (hr : fn.results = #[.tmp t, .tmp u]) (hv : lget l t = v) (hv' : lget l u = v') (h : R (.returned (.tuple #[v, v'])) w) : bodyPost P fn R .ret ⟨l.toArray, []⟩ w :=
  bodyPost_ret (by rw [results_tmp2 hr]; rw [getD_lget, getD_lget, hv, hv']) rfl h
theorem b_ret0 {fn : Func} {R : Ending → World → Prop} (hr : fn.results = #[]) (h : R (.returned (.tuple #[])) w) : bodyPost P fn R .ret ⟨l.toArray, []⟩ w :=
  bodyPost_ret (by rw [results_none hr]) rfl h
theorem b_end0 {fn : Func} {R : Ending → World → Prop} (hr : fn.results = #[]) (h : R (.returned (.tuple #[])) w) : bodyPost P fn R .normal ⟨l.toArray, []⟩ w :=
  bodyPost_end (by rw [results_none hr]) rfl h
/-- One result that lies in a block: a struct. -/
theorem b_retC {fn : Func} {R : Ending → World → Prop} {p : Tmp} {t t' : TypeId} {g n : Nat} {os : List Nat} {cs : List Value} (hr : fn.results = #[.cell p t]) (ht : TStruct P t os n) (hp : lget l p = .pointer (some ⟨g, 0, none⟩)) (hb : Blk w g t' cs) (hn : cs.length = n)
    (h : R (.returned (.agg cs.toArray)) w) : bodyPost P fn R .ret ⟨l.toArray, []⟩ w := by
  obtain ⟨fs, hu, hi, _⟩ := ht.und
  refine bodyPost_ret ?_ rfl h
  exact results_cell_row hr _ w g t' cs.toArray (0, 0) (.struct fs) (by rw [getD_lget]; exact hp) hb hu rfl (by rw [hi]; simp [hn])

/-! ### new blocks -/
theorem e_boxS {t : TypeId} {x : Operand} {v : Value} (hx : ev l x = v) (hv : v.cells = #[v])
    (h : ∀ g w1, w.heap.size ≤ g → g < w1.heap.size → Blk w1 g t [v] → Evt (fun _ => False) w w1 → w.heap.size ≤ w1.heap.size → wpList P ops Q rest ⟨(l.set N (.pointer (some ⟨g, 0, none⟩))).toArray, ds⟩ w1) :
    wpList P ops Q (⟨some N, .box t x, ty, pos, aft, none⟩ :: rest) ⟨l.toArray, ds⟩ w := by
  refine l_event (v := .pointer (some ⟨w.heap.size, 0, none⟩)) (w' := w.alloc (.cells #[v] t)) ?_ (h _ _ (Nat.le_refl _) (by simp) (Blk.new w t [v]) (Evt.alloc _ _) (by simp))
  simp only [execOp, hx, Instr.box, newVar, newRow, hv]
  rfl
theorem e_boxA {t : TypeId} {x : Operand} {cs : List Value} (hx : ev l x = .agg cs.toArray)
    (h : ∀ g w1, w.heap.size ≤ g → g < w1.heap.size → Blk w1 g t cs → Evt (fun _ => False) w w1 → w.heap.size ≤ w1.heap.size → wpList P ops Q rest ⟨(l.set N (.pointer (some ⟨g, 0, none⟩))).toArray, ds⟩ w1) :
    wpList P ops Q (⟨some N, .box t x, ty, pos, aft, none⟩ :: rest) ⟨l.toArray, ds⟩ w := by
  refine l_event (v := .pointer (some ⟨w.heap.size, 0, none⟩)) (w' := w.alloc (.cells cs.toArray t)) ?_ (h _ _ (Nat.le_refl _) (by simp) (Blk.new w t cs) (Evt.alloc _ _) (by simp))
  simp only [execOp, hx, Instr.box, newVar, newRow, Value.cells]
  rfl
theorem run_zeroValue {t : TypeId} {z : Value} (h : TZero P t z) (w : World) : (zeroValue t).run P w = .ok z w := by
  have := h.ok
  cases hq : P.info? t with
  | none => simp [hq] at this
  | some inf =>
    have hz : inf.zero = some z := by simpa [hq] using this
    simp [zeroValue, typeInfo, program, Sem.run_bind, Sem.run, hq, hz]
theorem e_alloc {t : TypeId} {z : Value} {cs : List Value} [hz : TZero P t z] (hc : z.cells = cs.toArray)
    (h : ∀ g w1, w.heap.size ≤ g → g < w1.heap.size → Blk w1 g t cs → Evt (fun _ => False) w w1 → w.heap.size ≤ w1.heap.size → wpList P ops Q rest ⟨(l.set N (.pointer (some ⟨g, 0, none⟩))).toArray, ds⟩ w1) :
    wpList P ops Q (⟨some N, .alloc t, ty, pos, aft, none⟩ :: rest) ⟨l.toArray, ds⟩ w := by
  refine l_event (v := .pointer (some ⟨w.heap.size, 0, none⟩)) (w' := w.alloc (.cells cs.toArray t)) ?_ (h _ _ (Nat.le_refl _) (by simp) (Blk.new w t cs) (Evt.alloc _ _) (by simp))
  simp only [execOp, Instr.alloc, newVar, newRow, Sem.run_bind, run_zeroValue hz, Result.andThen_ok, hc]
  rfl

/-! ### stores -/
theorem e_storeB {t t' : TypeId} {x y : Operand} {g o : Nat} {cs : List Value} {v : Value} (hx : ev l x = .pointer (some ⟨g, o, none⟩)) (hy : ev l y = v) (hv : v.cells = #[v]) (hv' : v.oneCell' = true) [ht : TScal P t] (hb : Blk w g t' cs) (ho : o < cs.length)
    (h : ∀ w1, Blk w1 g t' (cs.set o v) → Evt (fun k => k = g) w w1 → w.heap.size ≤ w1.heap.size → wpList P ops Q rest ⟨l.toArray, ds⟩ w1) :
    wpList P ops Q (⟨none, .store t x y, ty, pos, aft, none⟩ :: rest) ⟨l.toArray, ds⟩ w := by
  refine l_store (w' := w.setCell ⟨g, o, none⟩ v) ?_ (h _ (hb.set_ o v) (Evt.setCell w ⟨g, o, none⟩ v) (by simp [World.setCell]))
  have hcell : w.cell? ⟨g, o, none⟩ = some (lget cs o) := by rw [hb.cell?]; exact lget_some ho
  have hfr := hb.frozen o
  have hsz := run_sizeOf_scal ht w
  have hstore : (store ⟨g, o, none⟩ v).run P w = .ok () (w.setCell ⟨g, o, none⟩ v) := by
    cases v <;> simp_all [store, Sem.run, Value.oneCell']
  simp [execOp, hx, hy, Instr.storeAt, Instr.sureAddr, storeVar, hv, Sem.run_bind, hsz, storeCells, add_off, hstore]

def splice (cs : List Value) : Nat → List Value → List Value
  | _, [] => cs
  | o, v :: vs => splice (cs.set o v) (o + 1) vs
theorem splice_length (vs : List Value) : ∀ (cs : List Value) (o : Nat), (splice cs o vs).length = cs.length := by
  induction vs with
  | nil => intro cs o; rfl
  | cons v vs ih => intro cs o; simp [splice, ih]
theorem run_storeCells {g : Nat} {t' : TypeId} (o : Nat) (vs : List Value) : ∀ (w : World) (i : Nat) (cs : List Value), Blk w g t' cs → (∀ v ∈ vs, v.oneCell' = true) → o + i + vs.length ≤ cs.length →
    ∃ w', (storeCells ⟨g, o, none⟩ vs i).run P w = .ok () w' ∧ Blk w' g t' (splice cs (o + i) vs) ∧ Evt (fun k => k = g) w w' := by
  induction vs with
  | nil => intro w i cs hb _ _; exact ⟨w, rfl, hb, Evt.refl _ _⟩
  | cons v vs ih =>
    intro w i cs hb h1 hl
    simp only [List.length_cons] at hl
    have hcell : w.cell? ⟨g, o + i, none⟩ = some (lget cs (o + i)) := by rw [hb.cell?]; exact lget_some (by omega)
    have hfr := hb.frozen (o + i)
    have hv := h1 v (by simp)
    have hstore : (store ⟨g, o + i, none⟩ v).run P w = .ok () (w.setCell ⟨g, o + i, none⟩ v) := by
      cases v <;> simp_all [store, Sem.run, Value.oneCell']
    obtain ⟨w', hr, hb', he⟩ := ih (w.setCell ⟨g, o + i, none⟩ v) (i + 1) (cs.set (o + i) v) (hb.set_ _ _) (fun u hu => h1 u (by simp [hu])) (by simp; omega)
    refine ⟨w', ?_, hb', (Evt.setCell w ⟨g, o + i, none⟩ v).trans he⟩
    simp [storeCells, Sem.run_bind, add_off, hstore, hr]
theorem e_storeR {t t' : TypeId} {x y : Operand} {g o n : Nat} {os : List Nat} {cs vs : List Value} (hx : ev l x = .pointer (some ⟨g, o, none⟩)) (hy : ev l y = .agg vs.toArray) [ht : TStruct P t os n] (hv' : ∀ v ∈ vs, v.oneCell' = true) (hb : Blk w g t' cs) (hn : vs.length = n) (ho : o + vs.length ≤ cs.length)
    (h : ∀ w1, Blk w1 g t' (splice cs o vs) → Evt (fun k => k = g) w w1 → w.heap.size ≤ w1.heap.size → wpList P ops Q rest ⟨l.toArray, ds⟩ w1) :
    wpList P ops Q (⟨none, .store t x y, ty, pos, aft, none⟩ :: rest) ⟨l.toArray, ds⟩ w := by
  obtain ⟨w', hr, hb', he⟩ := run_storeCells (P := P) o vs w 0 cs hb hv' (by omega)
  refine l_store (w' := w') ?_ (h _ hb' he he.size)
  obtain ⟨fs, hu, hi, _⟩ := ht.und
  simp [execOp, hx, hy, Instr.storeAt, Instr.sureAddr, storeVar, Value.cells, Sem.run_bind, run_sizeOf hi, hn, hr]

/-! ### structs that are built; slices -/
/-- What a composite literal holds: the parts laid over zeros. -/
def fillL (os : List Nat) : List Value → List (Nat × Value) → List Value
  | zs, [] => zs
  | zs, (i, v) :: ps => fillL os (splice zs (os.getD i 0) v.cells.toList) ps
theorem foldl_splice (vs : List Value) : ∀ (cs : List Value) (o j : Nat), (vs.zipIdx j).foldl (fun (cs : Array Value) (x : Value × Nat) => cs.setIfInBounds (o + x.2) x.1) cs.toArray = (splice cs (o + j) vs).toArray := by
  induction vs with
  | nil => intro cs o j; rfl
  | cons v vs ih =>
    intro cs o j
    rw [List.zipIdx_cons, List.foldl_cons]
    simp only [List.setIfInBounds_toArray]
    rw [ih]
    rfl
theorem fill_places {place : Nat → Option (Nat × Nat)} {os : List Nat} (ps : List (Nat × Value)) : ∀ (zs : List Value), (∀ p ∈ ps, ∃ off, os[p.1]? = some off ∧ place p.1 = some (off, p.2.cells.size) ∧ off + p.2.cells.size ≤ zs.length) →
    Instr.fill place zs.toArray ps = some (fillL os zs ps).toArray := by
  induction ps with
  | nil => intro zs _; rfl
  | cons p ps ih =>
    obtain ⟨i, v⟩ := p
    intro zs h
    obtain ⟨off, ho, hp, hl⟩ := h (i, v) (by simp)
    have hf := foldl_splice v.cells.toList zs off 0
    have hz : v.cells.zipIdx.foldl (fun (cs : Array Value) (x : Value × Nat) => cs.setIfInBounds (off + x.2) x.1) zs.toArray = (splice zs off v.cells.toList).toArray := by
      rw [← Array.foldl_toList]
      simpa using hf
    simp only at hp hl
    unfold Instr.fill
    rw [hp]
    have hc : ¬ (v.cells.size ≠ v.cells.size ∨ off + v.cells.size > zs.toArray.size) := by simp; omega
    simp only [ne_eq, not_true_eq_false, decide_false, Bool.false_or, List.size_toArray, gt_iff_lt, decide_eq_true_eq, Bool.or_eq_true]
    rw [if_neg (by omega)]
    have ih' := ih (splice zs off v.cells.toList) (fun q hq => by
      obtain ⟨off', h1, h2, h3⟩ := h q (by simp [hq])
      exact ⟨off', h1, h2, by rw [splice_length]; exact h3⟩)
    simp only [fillL, List.getD_eq_getElem?_getD, ho, Option.getD_some]
    rw [← ih']
    congr 1
def fillOk (os : List Nat) (n : Nat) (ps : List (Nat × Value)) : Bool := ps.all fun p => p.1 < os.length && p.2.cells.size == fsz os n p.1 && (os[p.1]?).getD 0 + p.2.cells.size ≤ n
theorem run_foldlM {α β : Type} (k : α → Sem β) (w : World) (xs : List α) : ∀ (r : List β) (bs : Array β), r.length = xs.length → (∀ (i : Nat) (x : α) (y : β), xs[i]? = some x → r[i]? = some y → (k x).run P w = .ok y w) →
    (xs.foldlM (fun bs a => bs.push <$> k a) bs).run P w = .ok (bs ++ r.toArray) w := by
  induction xs with
  | nil =>
    intro r bs hr _
    obtain rfl : r = [] := List.eq_nil_of_length_eq_zero (by simpa using hr)
    simp
  | cons x xs ih =>
    intro r bs hr h
    match r, hr with
    | y :: r, hr =>
      have h0 := h 0 x y rfl rfl
      have := ih r (bs.push y) (by simpa using hr) (fun i x' y' hx hy => h (i + 1) x' y' (by simpa using hx) (by simpa using hy))
      rw [List.foldlM_cons, Sem.run_bind]
      simp only [map_eq_pure_bind, Sem.run_bind, h0, Result.andThen_ok, Sem.run_pure]
      simp only [map_eq_pure_bind] at this
      rw [this]
      simp
theorem run_mapM {α β : Type} (k : α → Sem β) (as : Array α) (w : World) (r : List β) (hr : r.length = as.size) (h : ∀ (i : Nat) (x : α) (y : β), as[i]? = some x → r[i]? = some y → (k x).run P w = .ok y w) : (as.mapM k).run P w = .ok r.toArray w := by
  rw [Array.mapM_eq_foldlM, ← Array.foldlM_toList, run_foldlM k w as.toList r #[] (by simpa using hr) (fun i x y hx hy => h i x y (by simpa using hx) hy)]
  simp
theorem run_build {t : TypeId} {os : List Nat} {n : Nat} {zs : List Value} [ht : TStruct P t os n] [hz : TZero P t (.agg zs.toArray)] (hzl : zs.length = n) (ps : List (Nat × Value)) (hps : fillOk os n ps = true) (w : World) :
    (Instr.build t ps.toArray).run P w = .ok (.agg (fillL os zs ps).toArray) w := by
  obtain ⟨fs, hu, hi, hf⟩ := ht.und
  have hk := ht.ok
  unfold structB at hk
  rw [hu] at hk
  simp only [Bool.and_eq_true, beq_iff_eq] at hk
  have hlen : fs.size = os.length := hk.1.1
  have hpl : (fs.mapM fun (f : Field) => do let s ← sizeOf f.type; pure (f.offset, s) : Sem (Array (Nat × Nat))).run P w = .ok (((List.range fs.size).map fun i => ((os[i]?).getD 0, fsz os n i)).toArray) w := by
    refine run_mapM _ _ _ _ (by simp) ?_
    intro i f y hfi hy
    have hlt : i < os.length := by rw [← hlen]; exact (Array.getElem?_eq_some_iff.1 hfi).1
    obtain ⟨f', inf, h1, h2, h3, h4, h5⟩ := hf i os[i] (List.getElem?_eq_getElem hlt)
    have : f' = f := by rw [h1] at hfi; exact Option.some.inj hfi
    subst this
    rw [List.getElem?_map, List.getElem?_range (by omega)] at hy
    simp only [Option.map_some, Option.some.injEq] at hy
    subst hy
    have hs : (sizeOf f'.type).run P w = .ok (fsz os n i) w := run_sizeOf (by simp [h2, h5]) w
    simp [Sem.run_bind, hs, h4, hlt]
  have hfill : Instr.fill (((List.range fs.size).map fun i => ((os[i]?).getD 0, fsz os n i)).toArray[·]?) zs.toArray ps = some (fillL os zs ps).toArray := by
    refine fill_places ps zs ?_
    intro p hp
    have := List.all_eq_true.1 hps p hp
    simp only [Bool.and_eq_true, decide_eq_true_eq, beq_iff_eq] at this
    refine ⟨os[p.1], List.getElem?_eq_getElem this.1.1, ?_, ?_⟩
    · simp [hlen, this.1.1, this.1.2]
    · have h2 := this.2
      rw [List.getElem?_eq_getElem this.1.1] at h2
      simp only [Option.getD_some] at h2
      omega
  have hzr := run_zeroValue hz w
  simp only [Instr.build, Sem.run_bind, hzr, Result.andThen_ok, run_underlying hu, Value.cells]
  rw [hpl]
  simp only [Result.andThen_ok]
  rw [hfill]
  rfl
theorem g_build {d : Option Tmp} {g : Option (Nat × Bool)} {K : Value → Prop} {t : TypeId} {os : List Nat} {n : Nat} {zs : List Value} {parts : Array (Nat × Operand)} [ht : TStruct P t os n] [hz : TZero P t (.agg zs.toArray)] (hzl : zs.length = n) {ps : List (Nat × Value)} (hp : parts.toList.map (fun p => (p.1, ev l p.2)) = ps) (hps : fillOk os n ps = true)
    (h : K (.agg (fillL os zs ps).toArray)) : Go1 P ⟨d, .build t parts, ty, pos, aft, g⟩ l w K := by
  refine ⟨_, fun w' hw' => ?_, h⟩
  have ha : parts.map (fun (i, x) => (i, ev l x)) = ps.toArray := by rw [← hp]; apply Array.ext'; simp
  have := run_build (P := P) (t := t) hzl ps hps w'
  simp only [execOp, ha, Sem.run_bind, this, Result.andThen_ok]
  rfl
theorem splice_mid (vs : List Value) : ∀ (pre old post : List Value), old.length = vs.length → splice (pre ++ old ++ post) pre.length vs = pre ++ vs ++ post := by
  induction vs with
  | nil => intro pre old post h; obtain rfl := List.eq_nil_of_length_eq_zero h; simp [splice]
  | cons v vs ih =>
    intro pre old post h
    match old, h with
    | u :: old, h =>
      have := ih (pre ++ [v]) old post (by simpa using h)
      simp only [splice]
      rw [show (pre ++ u :: old ++ post).set pre.length v = pre ++ [v] ++ old ++ post by simp]
      rw [show pre.length + 1 = (pre ++ [v]).length by simp, this]
      simp
theorem fillL_rows (sz len : Nat) (vs : List Value) : ∀ (pre rest : List Value) (k : Nat), pre.length = k * sz → rest.length = vs.length * sz → k + vs.length = len → (∀ v ∈ vs, v.cells.size = sz) →
    fillL ((List.range len).map (· * sz)) (pre ++ rest) ((List.range' k vs.length).zip vs) = pre ++ vs.flatMap fun v => v.cells.toList := by
  induction vs with
  | nil => intro pre rest k _ hr _ _; obtain rfl : rest = [] := List.eq_nil_of_length_eq_zero (by simpa using hr); simp [fillL]
  | cons v vs ih =>
    intro pre rest k hp hr hk hv
    have hvs := hv v (by simp)
    simp only [List.length_cons, List.range'_succ, List.zip_cons_cons, fillL]
    have hget : ((List.range len).map (· * sz)).getD k 0 = k * sz := by
      rw [List.getD_eq_getElem?_getD, List.getElem?_map, List.getElem?_range (by simp at hk; omega)]; rfl
    rw [hget, ← hp]
    have hle : sz ≤ rest.length := by rw [hr]; simp [Nat.succ_mul]
    have hs := splice_mid v.cells.toList pre (rest.take sz) (rest.drop sz) (by simp [hvs]; omega)
    rw [List.append_assoc, List.take_append_drop] at hs
    rw [hs]
    rw [ih (pre ++ v.cells.toList) (rest.drop sz) (k + 1) (by simp [hp, hvs, Nat.succ_mul]) (by simp [hr, Nat.succ_mul]) (by simp at hk; omega) (fun u hu => hv u (by simp [hu]))]
    simp
theorem zip_of {α : Type} (xs : List (Nat × α)) (n : Nat) (h : xs.map (·.1) = List.range n) : xs = (List.range' 0 (xs.map (·.2)).length).zip (xs.map (·.2)) := by
  have hl : xs.length = n := by have := congrArg List.length h; simpa using this
  apply List.ext_getElem
  · simp
  · intro i h1 h2
    have hi : (xs.map (·.1))[i]'(by simpa using h1) = i := by simp [h]
    simp at hi ⊢
    exact Prod.ext hi rfl
/-- A slice written out whole: a new row. -/
theorem e_sliceLit {t e : TypeId} {sz bytes len : Nat} {z : Value} {parts : Array (Nat × Operand)} [ht : TSlice P t e sz bytes] [hz : TZero P e z] {vs : List Value} (hp : parts.toList.map (fun p => ev l p.2) = vs) (hi : parts.toList.map (·.1) = List.range len) (hv : ∀ v ∈ vs, v.cells.size = sz) (hlen : len * sz ≤ 65536)
    (h : ∀ g w1, w.heap.size ≤ g → g < w1.heap.size → Blk w1 g e (vs.flatMap fun v => v.cells.toList) → Evt (fun _ => False) w w1 → w.heap.size ≤ w1.heap.size → wpList P ops Q rest ⟨(l.set N (.slice (some ⟨g, 0, none⟩) len len)).toArray, ds⟩ w1) :
    wpList P ops Q (⟨some N, .buildSlice t len parts, ty, pos, aft, none⟩ :: rest) ⟨l.toArray, ds⟩ w := by
  have hs : (sizeOf e).run P w = .ok sz w := run_sizeOf (by have := ht.info; cases hq : P.info? e <;> simp_all) w
  have hvl : vs.length = len := by
    have := congrArg List.length hi
    rw [← hp]; simpa using this
  refine l_event (v := .slice (some ⟨w.heap.size, 0, none⟩) len len) (w' := w.alloc (.cells (vs.flatMap fun v => v.cells.toList).toArray e)) ?_ (h _ _ (Nat.le_refl _) (by simp) (Blk.new w e _) (Evt.alloc _ _) (by simp))
  have hps : (parts.map fun (i, x) => (i, ev l x)).toList = (List.range' 0 vs.length).zip vs := by
    have h1 : (parts.map fun (i, x) => (i, ev l x)).toList = parts.toList.map (fun p => (p.1, ev l p.2)) := by simp
    have h2 := zip_of (parts.toList.map (fun p => (p.1, ev l p.2))) len (by rw [List.map_map]; exact hi)
    rw [h1, h2]
    simp only [List.map_map]
    rw [show ((fun (x : Nat × Value) => x.2) ∘ fun (p : Nat × Operand) => (p.1, ev l p.2)) = fun p => ev l p.2 from rfl, hp]
  have key : ∀ z0 : Array Value, Instr.fill (fun i => some (i * sz, sz)) ((Array.range (len * sz)).map (z0[· % z0.size]!)) ((List.range' 0 vs.length).zip vs) = some (vs.flatMap fun v => v.cells.toList).toArray := by
    intro z0
    have h1 := fillL_rows sz len vs [] ((Array.range (len * sz)).map (z0[· % z0.size]!)).toList 0 (by simp) (by simp [hvl]) (by omega) hv
    have h2 := fill_places (place := fun i => some (i * sz, sz)) (os := (List.range len).map (· * sz)) ((List.range' 0 vs.length).zip vs) ((Array.range (len * sz)).map (z0[· % z0.size]!)).toList (by
      intro p hp'
      obtain ⟨hp1, hp2⟩ := List.of_mem_zip hp'
      have hlt : p.1 < len := by simp at hp1; omega
      refine ⟨p.1 * sz, by simp [hlt], by rw [hv _ hp2], ?_⟩
      rw [hv _ hp2]
      simp
      have := Nat.mul_le_mul_right sz (show p.1 + 1 ≤ len from hlt)
      rw [Nat.succ_mul] at this
      exact this)
    simp only [List.nil_append] at h1
    rw [h1, Array.toArray_toList] at h2
    exact h2
  have hno : ¬ len * sz > 2 ^ 24 := by omega
  simp only [execOp, Instr.buildSlice, Sem.run_bind, run_underlying ht.ok, Result.andThen_ok, hs]
  rw [if_neg hno]
  by_cases h0 : len * sz = 0
  · rw [if_pos h0, hps]
    simp only [Sem.run_bind, Sem.run_pure, Result.andThen_ok]
    rw [key]
    rfl
  · rw [if_neg h0, hps]
    simp only [Sem.run_bind, Sem.run_pure, Result.andThen_ok, run_zeroValue hz]
    rw [key]
    rfl

/-! ### loops -/
/-- The frame with the listed slots as told. -/
def setW (l : List Value) (W : List Nat) (u : Nat → Value) : List Value := W.foldl (fun l j => l.set j (u j)) l
theorem lget_set (l : List Value) (j k : Nat) (v : Value) (h : j ≠ k) : lget (l.set k v) j = lget l j := by
  induction l generalizing j k with
  | nil => rfl
  | cons x t ih =>
    cases k with
    | zero => cases j with
      | zero => exact absurd rfl h
      | succ j => rfl
    | succ k => cases j with
      | zero => rfl
      | succ j => simp only [List.set_cons_succ, lget]; exact ih _ _ (by omega)
theorem lget_set_same (l : List Value) (k : Nat) (v : Value) : lget (l.set k v) k = if k < l.length then v else lget l k := by
  induction l generalizing k with
  | nil => simp [lget]
  | cons x t ih => cases k with
    | zero => simp [lget]
    | succ k => simp [lget, ih]
theorem lget_ext {l l' : List Value} (hl : l.length = l'.length) (h : ∀ j, lget l j = lget l' j) : l = l' := by
  induction l generalizing l' with
  | nil => exact (List.eq_nil_of_length_eq_zero (by simpa using hl.symm)).symm
  | cons x t ih =>
    match l', hl with
    | y :: t', hl =>
      have h0 := h 0
      simp only [lget] at h0
      rw [h0, ih (by simpa using hl) (fun j => by have := h (j + 1); simpa [lget] using this)]
theorem setW_length (W : List Nat) (u : Nat → Value) : ∀ (l : List Value), (setW l W u).length = l.length := by
  induction W with
  | nil => intro l; rfl
  | cons k W ih => intro l; simp only [setW, List.foldl_cons]; exact (ih _).trans (by simp)
theorem lget_setW (W : List Nat) (u : Nat → Value) (j : Nat) : ∀ (l : List Value), lget (setW l W u) j = if j ∈ W ∧ j < l.length then u j else lget l j := by
  induction W with
  | nil => intro l; simp [setW]
  | cons k W ih =>
    intro l
    simp only [setW, List.foldl_cons]
    have := ih (l.set k (u k))
    simp only [setW] at this
    rw [this]
    by_cases hk : j = k
    · subst hk
      rw [lget_set_same]
      by_cases hl : j < l.length <;> simp [hl]
    · rw [lget_set _ _ _ _ hk]
      simp [hk]
theorem setW_over (W : List Nat) (u z : Nat → Value) (l : List Value) : setW (setW l W z) W u = setW l W u := by
  apply lget_ext
  · rw [setW_length, setW_length, setW_length]
  · intro j
    rw [lget_setW, lget_setW, lget_setW, setW_length]
    by_cases hj : j ∈ W ∧ j < l.length <;> simp [hj]
theorem setW_self (W : List Nat) (l : List Value) : setW l W (lget l) = l := by
  apply lget_ext
  · rw [setW_length]
  · intro j
    rw [lget_setW]
    split <;> rfl
/-- A loop: the listed slots are those that its rounds write; J: what is known of them and of the world with so many rounds at most to come. -/
theorem s_loop {c : Code} (W : List Nat) (J : Nat → (Nat → Value) → World → Prop) (n0 : Nat) (h0 : J n0 (lget l) w)
    (round : ∀ n u w', J n u w' → c.wp P (Exit.then (fun a' w'' => ∃ n' l', a' = ⟨l'.toArray, ds⟩ ∧ n' < n ∧ setW l' W (fun _ => undef) = setW l W (fun _ => undef) ∧ J n' (lget l') w'') Q) ⟨(setW l W u).toArray, ds⟩ w') :
    (Code.loop c).wp P Q ⟨l.toArray, ds⟩ w := by
  let I : Act → World → Prop := fun a w => ∃ n l', a = ⟨l'.toArray, ds⟩ ∧ setW l' W (fun _ => undef) = setW l W (fun _ => undef) ∧ J n (lget l') w
  have key : ∀ n l' w', setW l' W (fun _ => undef) = setW l W (fun _ => undef) → J n (lget l') w' → ∀ (b : Frame) (k : List Item) (cs : List Frame),
      ∃ e a' w'', Q e a' w'' ∧ Arrives P (lone (b.at ⟨l'.toArray, ds⟩ (.code c :: .inLoop c :: k)) cs w') b k cs e a' w'' := by
    intro n
    induction n using Nat.strongRecOn with
    | _ n ih =>
      intro l' w' hs hJ b k cs
      have hl' : setW l W (lget l') = l' := by
        rw [← setW_over W (lget l') (fun _ => undef) l, ← hs, setW_over, setW_self]
      have hr := round n (lget l') w' hJ
      rw [hl'] at hr
      obtain ⟨e, a₁, w₁, hq, harr⟩ := hr b (.inLoop c :: k) cs
      cases e with
      | normal =>
        obtain ⟨n', l'', rfl, hlt, hs', hJ'⟩ := hq
        obtain ⟨e₂, a₂, w₂, hq₂, harr₂⟩ := ih n' hlt l'' w₁ hs' hJ' b k cs
        exact ⟨e₂, a₂, w₂, hq₂, .of_steps (Steps.trans harr (.one step_inLoop)) harr₂⟩
      | exit id => exact ⟨_, a₁, w₁, hq, .pass (x := .inLoop c) rfl (fun _ _ => .inl (by simp)) harr⟩
      | goto l => exact ⟨_, a₁, w₁, hq, .pass (x := .inLoop c) rfl (fun _ _ => .inl (by simp)) harr⟩
      | ret => exact ⟨_, a₁, w₁, hq, .pass (x := .inLoop c) rfl (fun _ _ => .inl (by simp)) harr⟩
      | panic ch => exact ⟨_, a₁, w₁, hq, .pass (x := .inLoop c) rfl (fun _ _ => .inl (by simp)) harr⟩
      | outgrown => exact ⟨_, a₁, w₁, hq, .pass (x := .inLoop c) rfl (fun _ _ => .inl (by simp)) harr⟩
  intro b k cs
  obtain ⟨e, a', w', hq, harr⟩ := key n0 l w rfl h0 b k cs
  exact ⟨e, a', w', hq, .of_steps (.one step_loop) harr⟩

/-! ### append onto a row of the call's own; slices of slices -/
theorem own_evt {S : Nat → Prop} {w w' : World} {e : TypeId} {sz n : Nat} {v : Value} {xs : List Value} (he : Evt S w w') (h : w.ownsRow 0 e sz v n xs) (hs : ∀ k, v.ownBlock = some k → ¬ S k) : w'.ownsRow 0 e sz v n xs := by
  refine ⟨h.1, ?_⟩
  rcases h.2 with hn | ⟨g, cap, cur, rfl, hb, hh, rest⟩
  · exact .inl hn
  · exact .inr ⟨g, cap, cur, rfl, hb, (he.block g (Array.getElem?_eq_some_iff.1 hh).1 (hs g rfl)).trans hh, rest⟩
theorem own_blk {w : World} {g : Nat} {e : TypeId} {sz n : Nat} {xs : List Value} (h : Blk w g e xs) (hl : xs.length = n * sz) (hn : n ≤ maxLen) : w.ownsRow 0 e sz (.slice (some ⟨g, 0, none⟩) n n) n xs :=
  ⟨hl, .inr ⟨g, n, xs.toArray, rfl, Nat.zero_le _, h, Nat.le_refl _, hn, by simpa using hl, by simp [← hl]⟩⟩
theorem own_lt {w : World} {e : TypeId} {sz n : Nat} {v : Value} {xs : List Value} (h : w.ownsRow 0 e sz v n xs) : ∀ k, v.ownBlock = some k → k < w.heap.size := fun k hk => (h.lt k hk).2
theorem Evt.of_grown {w w' : World} {row : Option Nat} (h : w.grownBy w' row) : Evt (fun k => row = some k) w w' :=
  ⟨h.os, h.tape, h.output, h.size, fun k hk hs => h.block k hk (fun e => hs e.symm)⟩
/-- append: the source is read where it lies. -/
theorem e_append {t e : TypeId} {sz bytes n m c b o : Nat} {z v : Value} {x y : Operand} {xs news : List Value} (hx : ev l x = v) (hy : ev l y = .slice (some ⟨b, o, none⟩) m c) [ht : TSlice P t e sz bytes] [hz : TZero P e z] (hzs : z.cells.size = sz) (hsz : 0 < sz)
    (hown : w.ownsRow 0 e sz v n xs) (hl : news.length = m * sz) (hnews : ∀ j u, news[j]? = some u → w.cell? ⟨b, o + j, none⟩ = some u) (h1 : ∀ u ∈ news, u.oneCell' = true) (hb : (n + m) * bytes ≤ 140737488355328) (hm : n + m ≤ 4611686018427387904)
    (h : ∀ v' w1, w1.ownsRow 0 e sz v' (n + m) (xs ++ news) → Evt (fun k => v.ownBlock = some k) w w1 → (v' = .slice none 0 0 ↔ v = .slice none 0 0 ∧ m = 0) → (v'.ownBlock = v.ownBlock ∨ v'.ownBlock = some w.heap.size) → w.heap.size ≤ w1.heap.size → wpList P ops Q rest ⟨(l.set N v').toArray, ds⟩ w1) :
    wpList P ops Q (⟨some N, .call { callee := .builtin .append, args := #[x, y], argTypes := #[t, t] }, ty, pos, aft, none⟩ :: rest) ⟨l.toArray, ds⟩ w := by
  have hi := ht.info
  have hz' := hz.ok
  cases hq : P.info? e with
  | none => simp [hq] at hi
  | some inf =>
    simp only [hq, Option.map_some, Option.some.injEq, Prod.mk.injEq] at hi hz'
    obtain ⟨v', w1, hr, ho, hg, hn, hat⟩ := run_append_own_at (P := P) w 0 t ty e inf z sz bytes ht.ok hq hz' hi.1 hi.2 hzs hsz v n xs hown ⟨b, o, none⟩ m c news hl (fun j u hu => by rw [add_off]; exact hnews j u hu) h1 (by simp only [maxLen]; omega) hb (Nat.zero_le _)
    refine l_event (v := v') (w' := w1) ?_ (h v' w1 ho (Evt.of_grown hg) hn hat hg.size)
    simp only [execOp, Sem.run_bind, resolve, List.map_toArray, List.map_cons, List.map_nil, hx, hy, invoke, builtin, Sem.run_pure, Result.andThen_ok]
    first | (rw [hr]; rfl) | (simp only [Sem.run_bind, hr, Result.andThen_ok]; rfl)
/-- append of a nil slice: nothing happens. -/
theorem e_append0 {t e : TypeId} {sz bytes n : Nat} {v : Value} {x y : Operand} {xs : List Value} (hx : ev l x = v) (hy : ev l y = .slice none 0 0) [ht : TSlice P t e sz bytes]
    (hown : w.ownsRow 0 e sz v n xs) (h : wpList P ops Q rest ⟨(l.set N v).toArray, ds⟩ w) :
    wpList P ops Q (⟨some N, .call { callee := .builtin .append, args := #[x, y], argTypes := #[t, t] }, ty, pos, aft, none⟩ :: rest) ⟨l.toArray, ds⟩ w := by
  have hi := ht.info
  cases hq : P.info? e with
  | none => simp [hq] at hi
  | some inf =>
    have hr := run_append_owned_none (P := P) w 0 t ty e inf sz ht.ok hq v n xs hown
    refine l_event (v := v) (w' := w) ?_ h
    simp only [execOp, Sem.run_bind, resolve, List.map_toArray, List.map_cons, List.map_nil, hx, hy, invoke, builtin, Sem.run_pure, Result.andThen_ok]
    first | (rw [hr]; rfl) | (simp only [Sem.run_bind, hr, Result.andThen_ok]; rfl)
/-- x[:h] -/
theorem g_sliceH {d : Option Tmp} {g : Option (Nat × Bool)} {K : Value → Prop} {t e : TypeId} {x y : Operand} {A : Option Addr} {len cap sz bytes : Nat} {i : Int} (hx : ev l x = .slice A len cap) (hy : ev l y = .int .i64 i) [ht : TSlice P t e sz bytes] (h0 : 0 ≤ i) (h1 : i ≤ cap)
    (h : K (.slice A i.toNat cap)) : Go1 P ⟨d, .slice t x none (some y) none, ty, pos, aft, g⟩ l w K := by
  refine ⟨_, fun w' hw' => ?_, h⟩
  have hs : ∀ w, (sizeOf e).run P w = .ok sz w := fun w => run_sizeOf (by have := ht.info; cases hq : P.info? e <;> simp_all) w
  have hA : (if cap = 0 then A else A.map (·.add (0 * sz))) = A := by
    split
    · rfl
    · cases A with
      | none => rfl
      | some a => simp [Addr.add]
  have hc : 0 ≤ i ∧ i ≤ (cap : Int) := ⟨h0, h1⟩
  simp only [execOp, hx, hy, Option.map_some, Option.map_none, Instr.sliceAt, Sem.run_bind, run_underlying ht.ok, Result.andThen_ok, Instr.slice, Instr.sliceBounds, Sem.run_pure, Instr.sliceBound, asIntOf]
  rw [if_pos hc]
  simp only [Sem.run_pure, Result.andThen_ok, hs, hA]
  simp
/-- x[lo:] -/
theorem g_sliceL {d : Option Tmp} {g : Option (Nat × Bool)} {K : Value → Prop} {t e : TypeId} {x y : Operand} {b o len cap sz bytes : Nat} {i : Int} (hx : ev l x = .slice (some ⟨b, o, none⟩) len cap) (hy : ev l y = .int .i64 i) [ht : TSlice P t e sz bytes] (h0 : 0 ≤ i) (h1 : i ≤ len)
    (h : K (.slice (if cap = i.toNat then some ⟨b, o, none⟩ else some ⟨b, o + i.toNat * sz, none⟩) (len - i.toNat) (cap - i.toNat))) : Go1 P ⟨d, .slice t x (some y) none none, ty, pos, aft, g⟩ l w K := by
  refine ⟨_, fun w' hw' => ?_, h⟩
  have hs : ∀ w, (sizeOf e).run P w = .ok sz w := fun w => run_sizeOf (by have := ht.info; cases hq : P.info? e <;> simp_all) w
  have hc : 0 ≤ i ∧ i ≤ (len : Int) := ⟨h0, h1⟩
  simp only [execOp, hx, hy, Option.map_some, Option.map_none, Instr.sliceAt, Sem.run_bind, run_underlying ht.ok, Result.andThen_ok, Instr.slice, Instr.sliceBounds, Sem.run_pure, Instr.sliceBound, asIntOf]
  rw [if_pos hc]
  simp only [Sem.run_pure, Result.andThen_ok, hs, add_off]
theorem blk_src {w : World} {b : Nat} {t : TypeId} {cs : List Value} (h : Blk w b t cs) : ∀ (j : Nat) (u : Value), cs[j]? = some u → w.cell? ⟨b, 0 + j, none⟩ = some u := fun j u hj => by
  rw [Nat.zero_add, h.cell?, hj]
theorem q_nil {a : Act} (h : ∀ w1, Evt (fun _ => False) w w1 → w.heap.size ≤ w1.heap.size → Q .normal a w1) : wpQuiet P ops (Evt (fun _ => False) w) (fun a' => ∀ w', Evt (fun _ => False) w w' → Q .normal a' w') [] a := by
  refine wpQuiet_nil ?_
  intro w' hw'
  exact h _ hw' hw'.size
/-- Several results, some of them structs that lie in blocks: each by itself. -/
def ResAll (P : Program) (l : List Value) (w : World) : List ResultVar → List Value → Prop
  | [], [] => True
  | .tmp t :: rs, v :: vs => lget l t = v ∧ ResAll P l w rs vs
  | .cell p t :: rs, v :: vs => (∃ g t' cs os n, TStruct P t os n ∧ lget l p = .pointer (some ⟨g, 0, none⟩) ∧ Blk w g t' cs ∧ cs.length = n ∧ v = .agg cs.toArray) ∧ ResAll P l w rs vs
  | _, _ => False
theorem ra_nil : ResAll P l w [] [] := trivial
theorem ra_tmp {t : Tmp} {v : Value} {rs : List ResultVar} {vs : List Value} (hv : lget l t = v) (h : ResAll P l w rs vs) : ResAll P l w (.tmp t :: rs) (v :: vs) := ⟨hv, h⟩
theorem ra_cell {p : Tmp} {t t' : TypeId} {g n : Nat} {os : List Nat} {cs : List Value} {rs : List ResultVar} {vs : List Value} (hp : lget l p = .pointer (some ⟨g, 0, none⟩)) (ht : TStruct P t os n) (hb : Blk w g t' cs) (hn : cs.length = n) (h : ResAll P l w rs vs) :
    ResAll P l w (.cell p t :: rs) (.agg cs.toArray :: vs) := ⟨⟨g, t', cs, os, n, ht, hp, hb, hn, rfl⟩, h⟩
def resOf (l : List Value) : ResultVar → Sem Value
  | .tmp t => pure (l.toArray.getD t undef)
  | .cell a t => do loadVar t (← asAddr (l.toArray.getD a undef))
theorem run_resAll {rs : List ResultVar} : ∀ {vs : List Value}, ResAll P l w rs vs → vs.length = rs.length ∧ ∀ (i : Nat) (x : ResultVar) (y : Value), rs[i]? = some x → vs[i]? = some y →
    (resOf l x).run P w = .ok y w := by
  induction rs with
  | nil => intro vs h; cases vs with
    | nil => exact ⟨rfl, fun i x y hx => by simp at hx⟩
    | cons v vs => exact h.elim
  | cons r rs ih =>
    intro vs h
    cases vs with
    | nil => cases r <;> exact h.elim
    | cons v vs =>
      cases r with
      | tmp t =>
        obtain ⟨hv, h⟩ := h
        obtain ⟨hl, hi⟩ := ih h
        refine ⟨by simp [hl], fun i x y hx hy => ?_⟩
        cases i with
        | zero =>
          simp at hx hy; subst hx; subst hy
          show (pure (l.toArray.getD t undef) : Sem Value).run P w = _
          rw [getD_lget, hv]; rfl
        | succ i => exact hi i x y (by simpa using hx) (by simpa using hy)
      | cell p t =>
        obtain ⟨⟨g, t', cs, os, n, ht, hp, hb, hn, rfl⟩, h⟩ := h
        obtain ⟨hl, hi⟩ := ih h
        refine ⟨by simp [hl], fun i x y hx hy => ?_⟩
        cases i with
        | zero =>
          simp at hx hy; subst hx; subst hy
          obtain ⟨fs, hu, hsz, _⟩ := ht.und
          have hrow := run_loadVar_row (P := P) w g t' t cs.toArray (0, 0) (.struct fs) hb hu rfl (by rw [hsz]; simp [hn])
          show (do loadVar t (← asAddr (l.toArray.getD p undef)) : Sem Value).run P w = _
          rw [getD_lget, hp]
          simp only [asAddr, Sem.run_bind, Sem.run_pure, Result.andThen_ok, hrow]
        | succ i => exact hi i x y (by simpa using hx) (by simpa using hy)
theorem b_retN {fn : Func} {R : Ending → World → Prop} {rs : List ResultVar} {vs : List Value} (hr : fn.results = rs.toArray) (h2 : 2 ≤ rs.length) (hv : ResAll P l w rs vs)
    (h : R (.returned (.tuple vs.toArray)) w) : bodyPost P fn R .ret ⟨l.toArray, []⟩ w := by
  refine bodyPost_ret ?_ rfl h
  obtain ⟨hl, hi⟩ := run_resAll hv
  show ((do let vs ← fn.results.mapM (resOf l); pure (if h : vs.size = 1 then vs[0] else .tuple vs)) : Sem Value).run P w = _
  rw [hr, Sem.run_bind, run_mapM _ rs.toArray w vs (by simpa using hl) (fun i x y hx hy => hi i x y (by simpa using hx) hy)]
  simp only [Result.andThen_ok]
  rw [dif_neg (by simp; omega)]
  rfl
end
end Go.Proofs.YtchfkkliechgoaaE
