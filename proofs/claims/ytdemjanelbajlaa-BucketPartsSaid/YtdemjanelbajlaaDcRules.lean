/- Rules for what reads and writes memory, for loops, calls and returns. -/
import Derived.Test.YtdemjanelbajlaaDcMem
import Derived.Deep.LoopGhost
import Derived.Scope
import Derived.IntWalk
namespace Go.Dc
open Go.RowKit

def TI.isAgg (i : TI) : Bool := Nat.beq i.tag 8 || Nat.beq i.tag 6
def valOf (agg : Bool) (cs : List Value) : Value := bif agg then .agg cs.toArray else cs.headD undef
theorem run_loadAt {P : Program} {w : World} {t : Nat} {i : TI} {ad : Addr} {cs : List Value} (h : i.fits P t) (hl : cs.length = i.size) (hc : CellsAt w ad cs) (h1 : i.isAgg = false → i.size = 1) :
    (Instr.loadAt t (.pointer (some ad))).run P w = .ok (valOf i.isAgg cs) w := by
  simp only [Instr.loadAt, Instr.sureAddr, Sem.run_bind, Sem.run_pure, Result.andThen_ok, loadVar, isAgg_run h]
  cases ha : i.isAgg with
  | true =>
    have ha' : (Nat.beq i.tag 8 || Nat.beq i.tag 6) = true := ha
    rw [ha']
    simp only [if_true, Sem.run_bind, sizeOf_run h, Result.andThen_ok]
    have := run_loadCells_list (P := P) w ad cs hc
    rw [hl] at this
    rw [this]
    rfl
  | false =>
    have ha' : (Nat.beq i.tag 8 || Nat.beq i.tag 6) = false := ha
    rw [ha']
    rw [h1 ha] at hl
    match cs, hl with
    | [c], _ =>
      have := hc 0 c rfl
      simp [load, Sem.run, Addr.add_zero'] at this ⊢
      rw [this]
      rfl
def putAt (cs : List Value) (off : Nat) (vs : List Value) : List Value := cs.take off ++ vs ++ cs.drop (off + vs.length)
theorem setRow_fr {w : World} {b t : Nat} {old new : Array Value} (h : w.heap[b]? = some (.cells old t (0, 0))) : Fr [b] w (w.setRow b new) :=
  ⟨rfl, rfl, rfl, by simp, fun k _ hk => by
    simp only [World.setRow, Array.getElem?_modify]
    rw [if_neg (by simp at hk; omega)]⟩
theorem run_storeAt {P : Program} {w : World} {t b tb off : Nat} {i : TI} {v : Value} {cs : List Value} (h : i.fits P t) (hb : Blk w b tb cs) (hv : v.cells.size = i.size) (h1 : ∀ u ∈ v.cells.toList, u.oneCell' = true)
    (hl : off + i.size ≤ cs.length) : ∃ w', (Instr.storeAt t (.pointer (some ⟨b, off, none⟩)) v).run P w = .ok () w' ∧ Blk w' b tb (putAt cs off v.cells.toList) ∧ Fr [b] w w' := by
  have hs := run_storeCells_at (P := P) b off tb v.cells.toList 0 cs.toArray w hb (by simp; omega) h1
  refine ⟨w.setRow b (putAt cs off v.cells.toList).toArray, ?_, ?_, setRow_fr hb⟩
  · simp only [Instr.storeAt, Instr.sureAddr, Sem.run_bind, Sem.run_pure, Result.andThen_ok, storeVar, sizeOf_run h, hv, ne_eq, not_true_eq_false, if_false]
    simpa [putAt] using hs
  · unfold Blk
    rw [setRow_heap w b _ _ _ _ hb]

section
variable {P : Program} {r : Option Nat} {N : Nat} {Θ : Tys} {ops : Array Oper} {Q : Exit → Act → World → Prop} {l : List Nat} {E : Env} {ds : List Deferred} {w : World} {i d : Nat} {o : Oper} {O : List Nat}

/-- a new variable, zero -/
theorem wo_alloc (hΘ : Θ.ok P) (ho : ops[i]? = some o) (hw : want N ops E o.guard = some true) (hd : o.dst = some d) (hN : Nat.blt d N = true) {t : Nat} {ti : TI} (hop : o.op = .alloc t) (ht : Θ.get t = some ti)
    (zs : List Value) (hz : ti.zero.cells.toList = zs) (hO : OB O w) (h : ∀ b w', New O w b t zs w' → WO P r N ops Q l ((d, .pointer (some ⟨b, 0, none⟩)) :: E) ds w') : WO P r N ops Q (i :: l) E ds w := by
  refine wo_value ho hw hd hN (by rw [hop]; simp) (fun a _ => ?_) (h w.heap.size _ (new_alloc hO t zs))
  simp only [execOp, hop, Instr.alloc, Sem.run_bind, zero_run (hΘ.fits ht), Result.andThen_ok]
  subst hz
  rfl
/-- a new variable that holds a value -/
theorem wo_box (ho : ops[i]? = some o) (hw : want N ops E o.guard = some true) (hd : o.dst = some d) (hN : Nat.blt d N = true) {t : Nat} {x : Operand} (hop : o.op = .box t x)
    {v : Value} (hx : ev E x = some v) (cs : List Value) (hz : v.cells.toList = cs) (hO : OB O w) (h : ∀ b w', New O w b t cs w' → WO P r N ops Q l ((d, .pointer (some ⟨b, 0, none⟩)) :: E) ds w') : WO P r N ops Q (i :: l) E ds w := by
  refine wo_value ho hw hd hN (by rw [hop]; simp) (fun a ha => ?_) (h w.heap.size _ (new_alloc hO t cs))
  simp only [execOp, hop, Instr.box, Sem.run_bind, ha.eval hx]
  subst hz
  rfl
/-- a load out of a block that is known -/
theorem wo_load (hΘ : Θ.ok P) (ho : ops[i]? = some o) (hw : want N ops E o.guard = some true) (hd : o.dst = some d) (hN : Nat.blt d N = true) {t b tb off : Nat} {x : Operand} {ti : TI} (hop : o.op = .load t x) (ht : Θ.get t = some ti)
    (hx : ev E x = some (.pointer (some ⟨b, off, none⟩))) {cs : List Value} (hb : Blk w b tb cs) (us : List Value) (hu : (cs.drop off).take ti.size = us) (hl : us.length = ti.size) (h1 : ti.isAgg = true ∨ ti.size = 1)
    (v : Value) (hv : valOf ti.isAgg us = v) (h : WO P r N ops Q l ((d, v) :: E) ds w) : WO P r N ops Q (i :: l) E ds w := by
  subst hv
  refine wo_value ho hw hd hN (by rw [hop]; simp) (fun a ha => ?_) h
  have hc : CellsAt w ⟨b, off, none⟩ us := fun j u hj => by
    have : (⟨b, off, none⟩ : Addr).add j = ⟨b, off + j, none⟩ := by unfold Addr.add; split <;> simp_all
    rw [this, hb.cell]
    subst hu
    have hlt : j < ti.size := by have := (List.getElem?_eq_some_iff.1 hj).1; omega
    rw [List.getElem?_take, if_pos hlt, List.getElem?_drop] at hj
    exact hj
  simp only [execOp, hop, Sem.run_bind, ha.eval hx, run_loadAt (hΘ.fits ht) hl hc (fun e => by rcases h1 with h1 | h1; rw [e] at h1; cases h1; exact h1)]
  rfl
/-- a store into a block that is known -/
theorem wo_store (hΘ : Θ.ok P) (ho : ops[i]? = some o) (hw : want N ops E o.guard = some true) (hd : o.dst = none) {t b tb off : Nat} {x y : Operand} {ti : TI} (hop : o.op = .store t x y) (ht : Θ.get t = some ti)
    (hx : ev E x = some (.pointer (some ⟨b, off, none⟩))) {v : Value} (hy : ev E y = some v) {cs : List Value} (hb : Blk w b tb cs) (vs : List Value) (hvs : v.cells.toList = vs) (hn : vs.length = ti.size)
    (h1 : ∀ u ∈ vs, u.oneCell' = true) (hl : Nat.ble (off + ti.size) cs.length = true) (cs' : List Value) (hcs : putAt cs off vs = cs')
    (h : ∀ w', Blk w' b tb cs' → Fr [b] w w' → WO P r N ops Q l E ds w') : WO P r N ops Q (i :: l) E ds w := by
  subst hvs; subst hcs
  obtain ⟨w', hr, hb', hf⟩ := run_storeAt (P := P) (v := v) (off := off) (hΘ.fits ht) hb (by simpa using hn) h1 (Nat.le_of_ble_eq_true hl)
  refine wo_act ho hw hd (by rw [hop]; simp) (fun a ha => ?_) (h w' hb' hf)
  simp only [execOp, hop, ha.eval hx, ha.eval hy, Sem.run_bind, hr]
  rfl
/-- a load of data behind an address -/
theorem wo_loadp (hΘ : Θ.ok P) (ho : ops[i]? = some o) (hw : want N ops E o.guard = some true) (hd : o.dst = some d) (hN : Nat.blt d N = true) {t : Nat} {x : Operand} {ti : TI} (hop : o.op = .load t x) (ht : Θ.get t = some ti)
    {p : Value} (hx : ev E x = some p) {α : Type} {T : Ty α} {y : α} (hp : T.ptr.is O w p y) (hn : T.n = ti.size) (ha : T.agg = ti.isAgg)
    (h : ∀ v, T.is O w v y → WO P r N ops Q l ((d, v) :: E) ds w) : WO P r N ops Q (i :: l) E ds w := by
  obtain ⟨cs, ⟨ad, es, hc, _, _, hr, he⟩, hv⟩ := hp
  subst hc
  have hv : p = .pointer (some ad) := hv
  subst hv
  refine wo_value ho hw hd hN (by rw [hop]; simp) (fun a hha => ?_) (h (valOf ti.isAgg es) ⟨es, hr, by rw [← ha]; rfl⟩)
  simp only [execOp, hop, Sem.run_bind, hha.eval hx, run_loadAt (hΘ.fits ht) ((T.len hr).trans hn) he.1 (fun e => by rw [← hn]; exact T.sing (by rw [ha]; exact e))]
  rfl
/-- the address of an element -/
theorem wo_index (hΘ : Θ.ok P) (ho : ops[i]? = some o) (hw : want N ops E o.guard = some true) (hd : o.dst = some d) (hN : Nat.blt d N = true) {t : Nat} {x y : Operand} {ti te : TI} (hop : o.op = .indexAddr t x y) (ht : Θ.get t = some ti)
    (h5 : ti.tag = 5) (hte : Θ.get ti.e = some te) {v : Value} (hx : ev E x = some v) {k : IntKind} {j : Int} (hy : ev E y = some (.int k j)) {α : Type} {T : Ty α} {xs : List α} {z : α} {O1 : List Nat} {w1 : World} (hv : T.slice.is O1 w1 v xs) (hn : T.n = te.size)
    (h0 : 0 ≤ j) (hj : xs[j.toNat]? = some z) (h : ∀ p, T.ptr.is O1 w1 p z → WO P r N ops Q l ((d, p) :: E) ds w) : WO P r N ops Q (i :: l) E ds w := by
  obtain ⟨A, c, rfl, _, _⟩ := slice_form hv
  obtain ⟨ad, rfl, hp⟩ := slice_at hv hj
  have hlt : j.toNat < xs.length := (List.getElem?_eq_some_iff.1 hj).1
  refine wo_value ho hw hd hN (by rw [hop]; simp) (fun a ha => ?_) (h _ hp)
  have hu := (hΘ.fits ht).slice h5
  simp only [execOp, hop, Sem.run_bind, ha.eval hx, ha.eval hy, Instr.indexAt, asIntOf, Sem.run_pure, Result.andThen_ok, run_underlying hu]
  rw [if_pos ⟨h0, by omega⟩]
  simp only [Sem.run_bind, sizeOf_run (hΘ.fits hte), Result.andThen_ok, hn]
  rfl
/-- a static call -/
theorem wo_call (ho : ops[i]? = some o) (hw : want N ops E o.guard = some true) (hd : o.dst = some d) (hN : Nat.blt d N = true) {f : FuncId} {args : Array Operand} {ts : Array TypeId} (hop : o.op = .call { callee := .value (.func f), args := args, argTypes := ts })
    (hf : ∀ (vs : Array Value) (u : World), (callFunc f vs).run P u = .ok (.enter f vs) u)
    {vs : List Value} (hvs : allEv E args.toList = some vs) {R : Ending → World → Prop} (hcall : Calls P f vs.toArray w R)
    (h : ∀ e w', R e w' → ∃ v, e = .returned v ∧ WO P r N ops Q l ((d, v) :: E) ds w') : WO P r N ops Q (i :: l) E ds w := by
  refine wo_enter ho hw hd hN (by rw [hop]; simp) (fun a ha => ?_) hcall h
  have e1 : args.map a.eval = vs.toArray := by rw [← allEv_eval ha hvs, ← Array.toList_map]
  simp only [execOp, hop, Sem.run_bind, resolve, Act.eval, Deferred.ofValue, Sem.run_pure, Result.andThen_ok, invoke, e1]
  simpa using hf vs.toArray w
end

/-! ### Loops, returns, functions -/
section
variable {P : Program} {r : Option Nat} {N : Nat} {Q : Exit → Act → World → Prop} {E : Env} {ds : List Deferred} {w : World}
theorem loop_ix {F : Fence} {n : Nat} {a : Act} {c : Code} (I : Nat → Act → World → Prop) (m : Nat) (h₀ : I m a w)
    (round : ∀ m a w, I m a w → c.wpIn F n P (Exit.then (fun a' w' => ∃ k, k < m ∧ I k a' w') Q) a w) : (Code.loop c).wpIn F n P Q a w := by
  refine wpIn_loop (fun a w => ∃ m, I m a w) (fun a w => leastOf (fun m => I m a w)) ⟨m, h₀⟩ ?_
  intro a w hI
  refine wpIn_mono (round _ a w (leastOf_spec hI).1) ?_
  intro e a' w' hq
  cases e with
  | normal =>
    obtain ⟨n', hlt, hI'⟩ := hq
    exact show (∃ n, I n a' w') ∧ leastOf (fun n => I n a' w') < leastOf (fun n => I n a w) from ⟨⟨n', hI'⟩, Nat.lt_of_le_of_lt ((leastOf_spec ⟨n', hI'⟩).2 n' hI') hlt⟩
  | exit id => exact hq
  | goto l => exact hq
  | ret => exact hq
  | panic ch => exact hq
  | outgrown => exact hq
/-- what a round hands on -/
def Next (N : Nat) (I : Nat → Env → World → Prop) (m : Nat) (ds : List Deferred) (a : Act) (w : World) : Prop := ∃ k, k < m ∧ ∃ E', Has N E' ds a ∧ I k E' w
theorem wc_loop {c : Code} (I : Nat → Env → World → Prop) (m : Nat) (E' : Env) (hE : agree E' E) (h₀ : I m E' w)
    (round : ∀ m E w, I m E w → WC P r N c (Exit.then (Next N I m ds) Q) E ds w) : WC P r N (.loop c) Q E ds w := by
  intro a ha
  refine loop_ix (fun m a w => ∃ E', Has N E' ds a ∧ I m E' w) m ⟨E', ha.weaken hE, h₀⟩ ?_
  rintro m a w ⟨E1, hE1, hI⟩
  exact round m E1 w hI a hE1
theorem wq_next {I : Nat → Env → World → Prop} {m : Nat} (k : Nat) (E' : Env) (hk : k < m) (hE : agree E' E) (hI : I k E' w) : WQ N (Exit.then (Next N I m ds) Q) .normal E ds w :=
  fun a ha => ⟨k, hk, E', ha.weaken hE, hI⟩

/-- what the results are -/
def resT (E : Env) : List ResultVar → Option (List Value)
  | [] => some []
  | .tmp t :: l => match E.get t, resT E l with | some v, some vs => some (v :: vs) | _, _ => none
  | .cell _ _ :: _ => none
def tupOf : List Value → Value
  | [v] => v
  | vs => .tuple vs.toArray
theorem res_run {fn : Func} {a : Act} {vs : List Value} (h : Has N E ds a) (hr : resT E fn.results.toList = some vs) : (results fn a.tmps).run P w = .ok (tupOf vs) w := by
  have key : ∀ (F : ResultVar → Sem Value) (_ : ∀ t, F (.tmp t) = pure (a.tmps.getD t undef)) (l : List ResultVar) (vs : List Value), resT E l = some vs → (l.mapM F).run P w = .ok vs w := by
    intro F hF l
    induction l with
    | nil => intro vs hv; simp [resT] at hv; subst hv; simp
    | cons x l ih =>
      intro vs hv
      cases x with
      | tmp t =>
        simp only [resT] at hv
        split at hv
        · rename_i v us hx hl
          simp only [Option.some.injEq] at hv
          subst hv
          simp only [List.mapM_cons, hF, Sem.run_bind, Sem.run_pure, Result.andThen_ok, ih us hl, h.get t v hx]
        · cases hv
      | cell b t => simp [resT] at hv
  unfold results
  rw [Array.mapM_eq_mapM_toList]
  simp only [Sem.run_bind, Sem.run_map]
  rw [key _ (fun t => rfl) _ _ hr]
  simp only [Result.andThen_ok, Sem.run_pure]
  congr 1
  match vs with
  | [] => rfl
  | [v] => rfl
  | v :: u :: vs => simp [tupOf]
theorem wq_ret {fn : Func} {R : Ending → World → Prop} {vs : List Value} (hr : resT E fn.results.toList = some vs) (h : R (.returned (tupOf vs)) w) : WQ N (bodyPostM (fw none) 0 P fn R) .ret E [] w := by
  intro a ha
  show LeavesInM (fw none) 0 P fn a.tmps R a.defers .returning w
  rw [ha.defers]
  exact ⟨_, res_run ha hr, h⟩
theorem wq_end {fn : Func} {R : Ending → World → Prop} {vs : List Value} (hr : resT E fn.results.toList = some vs) (h : R (.returned (tupOf vs)) w) : WQ N (bodyPostM (fw none) 0 P fn R) .normal E [] w := by
  intro a ha
  show LeavesInM (fw none) 0 P fn a.tmps R a.defers .returning w
  rw [ha.defers]
  exact ⟨_, res_run ha hr, h⟩
def argEnv : Nat → List Value → Env
  | _, [] => []
  | i, v :: l => (i, v) :: argEnv (i + 1) l
theorem argEnv_get : ∀ (l : List Value) (i j : Nat) (v : Value), (argEnv i l).get j = some v → i ≤ j ∧ l[j - i]? = some v := by
  intro l
  induction l with
  | nil => intro i j v h; simp [argEnv, Env.get] at h
  | cons u l ih =>
    intro i j v h
    simp only [argEnv, Env.get] at h
    cases hb : Nat.beq i j with
    | true =>
      rw [hb] at h
      have := Nat.eq_of_beq_eq_true hb
      subst this
      simp only [cond_true, Option.some.injEq] at h
      subst h
      simp
    | false =>
      rw [hb] at h
      obtain ⟨h1, h2⟩ := ih (i + 1) j v h
      have e : j - i = (j - (i + 1)) + 1 := by omega
      refine ⟨by omega, ?_⟩
      rw [e, List.getElem?_cons_succ]
      exact h2
theorem calls_of {f : FuncId} {fn : Func} {c : Code} {args : List Value} {R : Ending → World → Prop} (hf : P.funcs[f]? = some fn) (hb : fn.body = some c) (hN : fn.ntmps = N) (hl : Nat.ble args.length N = true)
    (h : WC P none N c (bodyPostM (fw none) 0 P fn R) (argEnv 0 args) [] w) : Calls P f args.toArray w R := by
  refine (callsIn_wide (n := 0)).1 (callsIn_of_wp_marks hf hb trivial (h _ ⟨?_, rfl, ?_⟩))
  · have := Nat.le_of_ble_eq_true hl
    simp [hN]
    omega
  · intro i v hi
    obtain ⟨_, h2⟩ := argEnv_get args 0 i v hi
    simp only [Nat.sub_zero] at h2
    have hlt := (List.getElem?_eq_some_iff.1 h2).1
    have hlt' : i < args.toArray.size := by simpa using hlt
    rw [Array.getD_eq_getD_getElem?, Array.getElem?_append_left hlt']
    simp [h2]

/-! ### Ways out -/
theorem wq_block {id : Nat} (h : WQ N Q .normal E ds w) : WQ N (Exit.inBlock id Q) .normal E ds w := h
theorem wq_block_exit {id : Nat} (h : WQ N Q .normal E ds w) : WQ N (Exit.inBlock id Q) (.exit id) E ds w := fun a ha => by
  show if id = id then Q .normal a w else Q (.exit id) a w
  rw [if_pos rfl]; exact h a ha
theorem wq_block_past {id id' : Nat} (hne : Nat.beq id' id = false) (h : WQ N Q (.exit id') E ds w) : WQ N (Exit.inBlock id Q) (.exit id') E ds w := fun a ha => by
  show if id' = id then Q .normal a w else Q (.exit id') a w
  rw [if_neg (fun e => by subst e; simp at hne)]; exact h a ha
theorem wq_block_ret {id : Nat} (h : WQ N Q .ret E ds w) : WQ N (Exit.inBlock id Q) .ret E ds w := h
theorem wq_then_ret {K : Act → World → Prop} (h : WQ N Q .ret E ds w) : WQ N (Exit.then K Q) .ret E ds w := h
theorem wq_then_exit {K : Act → World → Prop} {id : Nat} (h : WQ N Q (.exit id) E ds w) : WQ N (Exit.then K Q) (.exit id) E ds w := h
theorem wq_scope {e : Exit} (he : ∀ l, e ≠ .goto l) (h : WQ N Q e E ds w) : WQ N (Exit.noGoto Q) e E ds w := fun a ha => by
  cases e with
  | goto l => exact absurd rfl (he l)
  | _ => exact h a ha
theorem wc_scope {c : Code} (h : WC P none N c (Exit.noGoto Q) E ds w) : WC P none N (.scope c) Q E ds w := fun a ha => by
  have := h a ha
  rw [fw_wide] at this ⊢
  exact wpIn_wide.2 (wp_scope_straight (wpIn_wide.1 this))
/-- where ways meet -/
theorem wc_join {x y : Code} (J : Env → World → Prop) (hrest : ∀ E w, J E w → WC P r N y Q E ds w) (hx : ∀ K : Act → World → Prop, (∀ a E w, Has N E ds a → J E w → K a w) → WC P r N x (Exit.then K Q) E ds w) :
    WC P r N (.seq x y) Q E ds w := wc_seq (hx _ fun a E' w' ha hJ => hrest E' w' hJ a ha)
theorem wq_join {J : Env → World → Prop} {K : Act → World → Prop} (hK : ∀ a E w, Has N E ds a → J E w → K a w) (E' : Env) (hE : agree E' E) (hJ : J E' w) : WQ N (Exit.then K Q) .normal E ds w :=
  fun a ha => hK a E' w (ha.weaken hE) hJ
theorem wc_known_true {x y : Code} {o : Operand} {b : Bool} (ho : ev E o = some (.bool b)) (hb : b = true) (h : WC P r N x Q E ds w) : WC P r N (.cond o x y) Q E ds w := by subst hb; exact wc_true ho h
theorem wc_known_false {x y : Code} {o : Operand} {b : Bool} (ho : ev E o = some (.bool b)) (hb : b = false) (h : WC P r N y Q E ds w) : WC P r N (.cond o x y) Q E ds w := by subst hb; exact wc_false ho h
/-- a bool that has come to be known -/
theorem wo_know {ops : Array Oper} {l : List Nat} (d : Nat) {b : Bool} (c : Bool) (hd : E.get d = some (.bool b)) (hb : b = c) (h : WO P r N ops Q l ((d, .bool c) :: E) ds w) : WO P r N ops Q l E ds w := by
  subst hb
  cases b with
  | true => exact wo_split d hd (fun _ => h) (fun e => by cases e)
  | false => exact wo_split d hd (fun e => by cases e) (fun _ => h)
/-- a call by its contract -/
theorem wo_gives {ops : Array Oper} {l : List Nat} {i d : Nat} {o : Oper} (ho : ops[i]? = some o) (hw : want N ops E o.guard = some true) (hd : o.dst = some d) (hN : Nat.blt d N = true) {f : FuncId} {args : Array Operand} {ts : Array TypeId} (hop : o.op = .call { callee := .value (.func f), args := args, argTypes := ts })
    (hf : ∀ (vs : Array Value) (u : World), (callFunc f vs).run P u = .ok (.enter f vs) u)
    {vs : List Value} (hvs : allEv E args.toList = some vs) {β : Type} {R : List Nat → World → Value → β → Prop} {O : List Nat} {y : β} (hcall : Calls P f vs.toArray w (Gives R O w y))
    (h : ∀ v w', R O w' v y → Fr [] w w' → WO P r N ops Q l ((d, v) :: E) ds w') : WO P r N ops Q (i :: l) E ds w :=
  wo_call ho hw hd hN hop hf hvs hcall fun _ _ ⟨v, he, hr, hfr⟩ => ⟨v, he, h v _ hr hfr⟩
end
end Go.Dc
