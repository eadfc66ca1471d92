/- Jumps back to a label, so many times; results that are rows of the call's own. -/
import Derived.Test.YtdemjanelbajlaaDcTree
namespace Go.Dc
open Go.RowKit

/-- what a scope's code may end with, so many jumps to its labels at the most -/
def goQ (P : Program) (c : Code) (Q : Exit → Act → World → Prop) : Nat → Exit → Act → World → Prop
  | 0 => Exit.noGoto Q
  | n + 1 => fun e a w => match e with | .goto l => ∃ r, findLabel c l = some r ∧ r.wp P (goQ P c Q n) a w | e => Q e a w
theorem in_scope {P : Program} {c : Code} {Q : Exit → Act → World → Prop} : ∀ (n : Nat) (d : Code) (a : Act) (w : World), d.wp P (goQ P c Q n) a w → ∀ (b : Frame) (k : List Item) (cs : List Frame),
    ∃ e a' w', Q e a' w' ∧ Arrives P (lone (b.at a (.code d :: .inScope c :: k)) cs w) b k cs e a' w' := by
  intro n
  induction n with
  | zero =>
    intro d a w h b k cs
    obtain ⟨e, a₁, w₁, hq, harr⟩ := h b (.inScope c :: k) cs
    cases e with
    | normal => exact ⟨.normal, a₁, w₁, hq, Steps.trans harr (.one step_inScope)⟩
    | exit id => exact ⟨.exit id, a₁, w₁, hq, fun k' hk => harr k' (by simp [exitTo, hk])⟩
    | goto l => exact hq.elim
    | ret => exact ⟨_, a₁, w₁, hq, harr⟩
    | panic v => exact ⟨_, a₁, w₁, hq, harr⟩
    | outgrown => exact ⟨_, a₁, w₁, hq, harr⟩
  | succ n ih =>
    intro d a w h b k cs
    obtain ⟨e, a₁, w₁, hq, harr⟩ := h b (.inScope c :: k) cs
    cases e with
    | normal => exact ⟨.normal, a₁, w₁, hq, Steps.trans harr (.one step_inScope)⟩
    | exit id => exact ⟨.exit id, a₁, w₁, hq, fun k' hk => harr k' (by simp [exitTo, hk])⟩
    | goto l =>
      obtain ⟨r, hr, hwp⟩ := hq
      obtain ⟨e, a', w', h1, h2⟩ := ih r a₁ w₁ hwp b k cs
      exact ⟨e, a', w', h1, Arrives.of_steps (harr _ (by simp [gotoIn, hr])) h2⟩
    | ret => exact ⟨_, a₁, w₁, hq, harr⟩
    | panic v => exact ⟨_, a₁, w₁, hq, harr⟩
    | outgrown => exact ⟨_, a₁, w₁, hq, harr⟩
section
variable {P : Program} {N : Nat} {Q : Exit → Act → World → Prop} {E : Env} {ds : List Deferred} {w : World} {c r : Code}
theorem wc_scopeG (n : Nat) (h : WC P none N c (goQ P c Q n) E ds w) : WC P none N (.scope c) Q E ds w := fun a ha => by
  have := h a ha
  refine wpIn_wide.2 ?_
  intro b k cs
  obtain ⟨e, a', w', h1, h2⟩ := in_scope n c a w (wpIn_wide.1 this) b k cs
  exact ⟨e, a', w', h1, Arrives.of_steps (.one step_scope) h2⟩
theorem wq_goto {n l : Nat} (hl : findLabel c l = some r) (h : WC P none N r (goQ P c Q n) E ds w) : WQ N (goQ P c Q (n + 1)) (.goto l) E ds w := fun a ha => ⟨r, hl, wpIn_wide.1 (h a ha)⟩
theorem wq_goRet {n : Nat} (h : WQ N Q .ret E ds w) : WQ N (goQ P c Q n) .ret E ds w := fun a ha => by
  cases n with
  | zero => exact h a ha
  | succ n => exact h a ha
theorem wq_thenG {K : Act → World → Prop} {Q : Exit → Act → World → Prop} {l : Nat} (h : WQ N Q (.goto l) E ds w) : WQ N (Exit.then K Q) (.goto l) E ds w := fun a ha => h a ha
end
/-- a new row of the call's own, as a result -/
theorem fresh_own {α : Type} {T : Ty α} {e B : Nat} {O O0 : List Nat} {w w0 : World} {v : Value} {zs : List α} (h : Own T e w0.heap.size O w v zs) (hS : Sub O0 O) (hF : Fr [] w0 w) (hO0 : OB O0 w0) (hB : B ≤ w0.heap.size) : GivesOwn T e B O0 w0 (.slice none 0 0) zs (.returned v) w := by
  obtain ⟨cs, ⟨h0, h1⟩, h2⟩ := h.ex
  rcases h1 with ⟨rfl, hl⟩ | ⟨g, cap, cur, rfl, hg, hh, h3, h4, h5, h6⟩
  · have : zs = [] := List.eq_nil_of_length_eq_zero hl
    subst this
    exact ⟨_, O0, rfl, ⟨Own.nil_, hF.tr0, hF.ob hO0, Sub.refl _, fun k hk _ => hF.block k hk (by simp), fun _ _ h => h⟩⟩
  · have hsub : Sub (g :: O0) O := fun k hk => by
      rcases List.mem_cons.1 hk with rfl | hk
      · exact h.mem _ rfl
      · exact hS k hk
    have hrep : RepAll T (g :: O0) w cs zs := h2.tr (Tr.less hsub)
    exact ⟨_, g :: O0, rfl, grew' hO0 hg hB hF hh h5 h4 h3 hrep (by exact h6)⟩
theorem gives_of_own {α : Type} {T : Ty α} {e : Nat} {O : List Nat} {w w' : World} {zs : List α} {en : Ending} (hO : OB O w) (h : GivesOwn T e w.heap.size O w (.slice none 0 0) zs en w') : Gives (rt1 (Ty.slice T)) O w zs en w' := by
  obtain ⟨v', O', he, ap⟩ := h
  exact ⟨v', he, ap.own.share0 ap.sub hO, ap.fr0 Own.nil_ (Fr.refl [] w)⟩
section
variable {P : Program} {r : Option Nat} {N : Nat} {Θ : Tys} {ops : Array Oper} {Q : Exit → Act → World → Prop} {l : List Nat} {E : Env} {ds : List Deferred} {w : World} {i d : Nat} {o : Oper} {O : List Nat}
/-- nil, cut to nothing -/
theorem wo_cutN (hΘ : Θ.ok P) (ho : ops[i]? = some o) (hw : want N ops E o.guard = some true) (hd : o.dst = some d) (hN : Nat.blt d N = true) {t : Nat} {x y : Operand} {ti te : TI} (hop : o.op = .slice t x none (some y) none) (ht : Θ.get t = some ti)
    (h5 : ti.tag = 5) (hte : Θ.get ti.e = some te) {k : IntKind} (hx : ev E x = some (.slice none 0 0)) (hy : ev E y = some (.int k ((0 : Nat) : Int)))
    (h : WO P r N ops Q l ((d, .slice none 0 0) :: E) ds w) : WO P r N ops Q (i :: l) E ds w := by
  have hu := (hΘ.fits ht).slice h5
  have hb := run_bounds (P := P) (w := w) (b := true) (n := 0) (c := 0) (lo := none) (hi := some (k, ((0 : Nat) : Int))) (mx := none) (Nat.le_refl _) (by simp) (by simp) (by simp) (by simp) (by simp)
  simp only [Option.map_some, Option.map_none, Option.getD_some, Option.getD_none, intV, Int.toNat_natCast] at hb
  refine wo_value ho hw hd hN (by rw [hop]; simp) (fun a ha => ?_) h
  simp only [execOp, hop, Sem.run_bind, ha.eval hx, Option.map_some, Option.map_none, ha.eval hy, Instr.sliceAt, run_underlying hu, Result.andThen_ok, Instr.slice, hb, sizeOf_run (hΘ.fits hte), Sem.run_pure]
  rfl
theorem wo_appzN (hΘ : Θ.ok P) (ho : ops[i]? = some o) (hw : want N ops E o.guard = some true) (hd : o.dst = some d) (hN : Nat.blt d N = true) {t tn : Nat} {x y : Operand} {ti te tj : TI}
    (hop : o.op = .call { callee := .builtin .append, args := #[x, y], argTypes := #[t, tn] }) (ht : Θ.get t = some ti) (h5 : ti.tag = 5) (hte : Θ.get ti.e = some te) (htn : Θ.get tn = some tj) (h2 : tj.tag = 2) (hpos : Nat.blt 0 te.size = true) {k : Nat} {kq : IntKind}
    (hx : ev E x = some (.slice none 0 0)) (hy : ev E y = some (.int kq k)) (h0 : 0 < k) (hbig : (k : Int) * te.bytes ≤ 140737488355328) (hb1 : Nat.ble 1 te.bytes = true)
    (h : WO P r N ops Q l ((d, .slice (some ⟨w.heap.size, 0, none⟩) k (grownCap w k 0 ti.e)) :: E) ds (w.drew.alloc (.cells (([] : List Value).toArray ++ Builtin.zeroCells te.zero.cells k ++ Builtin.zeroCells te.zero.cells (grownCap w k 0 ti.e - k)) ti.e))) : WO P r N ops Q (i :: l) E ds w := by
  obtain ⟨x', hx', hs, hby, hzr⟩ := (hΘ.fits hte).info
  have hpos' : 0 < te.size := Nat.blt_eq.mp hpos
  have hb1' := Nat.le_of_ble_eq_true hb1
  have hbig' : k * te.bytes ≤ 140737488355328 := by have := hbig; rw [← Int.natCast_mul] at this; omega
  have hnk : k ≤ k * te.bytes := Nat.le_mul_of_pos_right _ hb1'
  have hold : (Builtin.firstCells x'.size 0 (.slice none 0 0)).run P w.drew = .ok ([] : List Value).toArray w.drew := by simp [Builtin.firstCells]
  have hrun := Lib.run_append_grow_zeros (P := P) (ty := o.type) w t tn ti.e x' te.zero kq (noKind tj.k) ((hΘ.fits ht).slice h5) ((hΘ.fits htn).int h2) hx' hzr none 0 0 [] hold k h0 (by omega) (by omega) (by omega) (by rw [hby]; omega) (by rw [hby, Nat.zero_add]; exact growslice_fits (by omega) hbig')
  simp only [Nat.zero_add] at hrun
  refine wo_value ho hw hd hN (by rw [hop]; simp) (fun a ha => ?_) h
  simp only [execOp, hop, Sem.run_bind, resolve, Sem.run_pure, Result.andThen_ok, invoke, builtin, List.map_toArray, List.map_cons, List.map_nil, ha.eval hx, ha.eval hy, hrun]
/-- a call without a place for its result -/
theorem wo_callN {v : Value} {w' : World} (ho : ops[i]? = some o) (hw : want N ops E o.guard = some true) (hd : o.dst = none)
    (hc : ∀ c, o.op ≠ .defer c) (hrun : ∀ a, Has N E ds a → (execOp a.eval o).run P w = .ok (.value v) w') (h : WO P r N ops Q l E ds w') : WO P r N ops Q (i :: l) E ds w := by
  intro a ha
  simp only [wpOpsIn, ho]
  rw [if_pos (want_ok ha hw)]
  refine ⟨fun _ _ => trivial, ?_⟩
  rw [Oper.semAt_eq _ _ _ hc, hrun a ha]
  simp only [Oper.uponIn, hd, Act.put]
  exact h _ ha
/-- clear, of one-cell elements -/
theorem wo_clearV (hΘ : Θ.ok P) (ho : ops[i]? = some o) (hw : want N ops E o.guard = some true) (hd : o.dst = none) {t : Nat} {x : Operand} {ti te : TI}
    (hop : o.op = .call { callee := .builtin .clear, args := #[x], argTypes := #[t] }) (ht : Θ.get t = some ti) (h5 : ti.tag = 5) (hte : Θ.get ti.e = some te) {g of m c e : Nat} {cur : Array Value} (hx : ev E x = some (.slice (some ⟨g, of, none⟩) (m + 1) c)) (hg : w.heap[g]? = some (.cells cur e (0, 0))) (hz : te.zero.cells.size = 1) (h1 : ∀ u ∈ (Builtin.zeroCells te.zero.cells (m + 1)).toList, u.oneCell' = true) (hfit : of + (m + 1) ≤ cur.size)
    (h : WO P r N ops Q l E ds (w.setRow g (cur.toList.take of ++ (Builtin.zeroCells te.zero.cells (m + 1)).toList ++ cur.toList.drop (of + (m + 1))).toArray)) : WO P r N ops Q (i :: l) E ds w := by
  have hu := (hΘ.fits ht).slice h5
  have hl : (Builtin.zeroCells te.zero.cells (m + 1)).toList.length = m + 1 := by simp [size_zeroCells, hz]
  have hst := run_storeCells_at P g of e (Builtin.zeroCells te.zero.cells (m + 1)).toList 0 cur w hg (by rw [hl]; omega) h1
  rw [hl] at hst
  simp only [Nat.add_zero] at hst
  have hrun : (Builtin.clear_ #[t] o.type #[.slice (some ⟨g, of, none⟩) (m + 1) c]).run P w = .ok (.tuple #[]) (w.setRow g (cur.toList.take of ++ (Builtin.zeroCells te.zero.cells (m + 1)).toList ++ cur.toList.drop (of + (m + 1))).toArray) := by
    simp only [Builtin.clear_, Sem.run_bind, List.getElem?_toArray, List.getElem?_cons_zero, run_underlying hu, Result.andThen_ok]
    simp [zero_run (hΘ.fits hte), hst]
  refine wo_callN (v := .tuple #[]) ho hw hd (by rw [hop]; simp) (fun a ha => ?_) h
  simp only [execOp, hop, Sem.run_bind, resolve, Sem.run_pure, Result.andThen_ok, invoke, builtin, List.map_toArray, List.map_cons, List.map_nil, ha.eval hx, hrun]
end
end Go.Dc
