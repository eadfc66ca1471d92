/- Cuts of slices, make, copy, arrays. -/
import Derived.Test.YtdemjanelbajlaaDcSeq
import Derived.Laws.MakeOwn
import Derived.Laws.OwnMore
namespace Go.Dc
open Go.RowKit

/-! ### Cuts -/
def cutx {α : Type} (xs : List α) (lo hi mx : Option Int) : Option (List α) :=
  if 0 ≤ lo.getD 0 ∧ lo.getD 0 ≤ hi.getD (xs.length : Int) ∧ hi.getD (xs.length : Int) ≤ xs.length ∧ hi.getD (xs.length : Int) ≤ mx.getD (xs.length : Int) ∧ mx.getD (xs.length : Int) ≤ xs.length ∧ (mx.isSome = true → hi.isSome = true) then
    some ((xs.take (hi.getD (xs.length : Int)).toNat).drop (lo.getD 0).toNat) else none
def evo (E : Env) : Option Operand → Option (Option (IntKind × Int))
  | none => some none
  | some x => match ev E x with | some (.int k i) => some (some (k, i)) | _ => none
def intV (p : IntKind × Int) : Value := .int p.1 p.2
theorem evo_eval {N : Nat} {E : Env} {ds : List Deferred} {a : Act} (h : Has N E ds a) {x : Option Operand} {p : Option (IntKind × Int)} (hx : evo E x = some p) : x.map a.eval = p.map intV := by
  cases x with
  | none => simp [evo] at hx; subst hx; rfl
  | some x =>
    simp only [evo] at hx
    split at hx
    · rename_i k i hi
      simp only [Option.some.injEq] at hx
      subst hx
      simp [h.eval hi, intV]
    · cases hx
theorem run_bound {P : Program} {w : World} {k : IntKind} {i : Int} {y : Nat} {code : BoundsCode} (h0 : 0 ≤ i) (h1 : i ≤ y) : (Instr.sliceBound (.int k i) y code).run P w = .ok i.toNat w := by
  simp [Instr.sliceBound, asIntOf, h0, h1]
section
variable {P : Program} {r : Option Nat} {N : Nat} {Θ : Tys} {ops : Array Oper} {Q : Exit → Act → World → Prop} {l : List Nat} {E : Env} {ds : List Deferred} {w : World} {i d : Nat} {o : Oper} {O : List Nat}
theorem run_bounds {b : Bool} {n c : Nat} {lo hi mx : Option (IntKind × Int)} (hnc : n ≤ c) (h0 : 0 ≤ (lo.map (·.2)).getD (0 : Int)) (h1 : (lo.map (·.2)).getD (0 : Int) ≤ (hi.map (·.2)).getD (n : Int)) (h2 : (hi.map (·.2)).getD (n : Int) ≤ (mx.map (·.2)).getD (c : Int)) (h3 : (mx.map (·.2)).getD (c : Int) ≤ (c : Int)) (h4 : mx.isSome = true → hi.isSome = true) :
    (Instr.sliceBounds b n c (lo.map intV) (hi.map intV) (mx.map intV)).run P w = .ok (((lo.map (·.2)).getD (0 : Int)).toNat, ((hi.map (·.2)).getD (n : Int)).toNat, ((mx.map (·.2)).getD (c : Int)).toNat) w := by
  have hb : ∀ (k : IntKind) (i : Int) (y : Nat) (code : BoundsCode), 0 ≤ i → i ≤ y → (Instr.sliceBound (.int k i) y code).run P w = .ok i.toNat w := fun k i y code => run_bound
  unfold Instr.sliceBounds
  rcases mx with _ | ⟨km, m⟩ <;> rcases hi with _ | ⟨kh, h⟩ <;> rcases lo with _ | ⟨kl, l⟩ <;> simp only [Option.map_none, Option.map_some, Option.getD_none, Option.getD_some, Option.isSome_none, Option.isSome_some, intV, Bool.false_eq_true] at * <;>
    simp only [Sem.run_bind, Sem.run_pure, Result.andThen_ok]
  · simp
  · rw [hb _ _ _ _ h0 (by omega)]; simp
  · rw [hb _ _ _ _ (by omega) (by omega)]; simp
  · rw [hb _ _ _ _ (by omega) (by omega)]
    simp only [Result.andThen_ok]
    rw [hb _ _ _ _ h0 (by omega)]; simp
  · simp at h4
  · simp at h4
  · rw [hb _ _ _ _ (by omega) (by omega)]
    simp only [Result.andThen_ok]
    rw [hb _ _ _ _ (by omega) (by omega)]; simp
  · rw [hb _ _ _ _ (by omega) (by omega)]
    simp only [Result.andThen_ok]
    rw [hb _ _ _ _ (by omega) (by omega)]
    simp only [Result.andThen_ok]
    rw [hb _ _ _ _ h0 (by omega)]; simp
theorem run_cut (hΘ : Θ.ok P) {t : Nat} {ti te : TI} (ht : Θ.get t = some ti) (h5 : ti.tag = 5) (hte : Θ.get ti.e = some te) {α : Type} {T : Ty α} (hn : T.n = te.size) {v : Value} {xs ys : List α} {O1 : List Nat} {w1 : World} (hv : T.slice.is O1 w1 v xs) {lo hi mx : Option (IntKind × Int)}
    (hc : cutx xs (lo.map (·.2)) (hi.map (·.2)) (mx.map (·.2)) = some ys) : ∃ v', (Instr.sliceAt t v (lo.map intV) (hi.map intV) (mx.map intV)).run P w = .ok v' w ∧ T.slice.is O1 w1 v' ys := by
  obtain ⟨A, c, rfl, hl, hm⟩ := slice_form hv
  unfold cutx at hc
  split at hc
  · rename_i hcond
    obtain ⟨h0, h1, h2, h3, h4, h5'⟩ := hcond
    simp only [Option.some.injEq] at hc
    have hu := (hΘ.fits ht).slice h5
    have hb := run_bounds (P := P) (w := w) (b := true) (n := xs.length) (c := c) (lo := lo) (hi := hi) (mx := mx) hl h0 h1 (by cases mx <;> simp_all <;> omega) (by cases mx <;> simp_all <;> omega) (by cases mx <;> cases hi <;> simp_all)
    refine ⟨.slice (if ((mx.map (·.2)).getD (c : Int)).toNat = ((lo.map (·.2)).getD (0 : Int)).toNat then A else A.map (·.add (((lo.map (·.2)).getD (0 : Int)).toNat * T.n))) (((hi.map (·.2)).getD (xs.length : Int)).toNat - ((lo.map (·.2)).getD (0 : Int)).toNat) (((mx.map (·.2)).getD (c : Int)).toNat - ((lo.map (·.2)).getD (0 : Int)).toNat), ?_, ?_⟩
    · simp only [Instr.sliceAt, Sem.run_bind, run_underlying hu, Result.andThen_ok, Instr.slice, hb, sizeOf_run (hΘ.fits hte), Sem.run_pure, hn]
    · subst hc
      exact slice_cut hv (by omega) (by omega) (by cases mx <;> simp_all <;> omega) (by cases mx <;> simp_all <;> omega)
  · cases hc
theorem wo_cut (hΘ : Θ.ok P) (ho : ops[i]? = some o) (hw : want N ops E o.guard = some true) (hd : o.dst = some d) (hN : Nat.blt d N = true) {t : Nat} {x : Operand} {lo hi mx : Option Operand} {ti te : TI} (hop : o.op = .slice t x lo hi mx) (ht : Θ.get t = some ti)
    (h5 : ti.tag = 5) (hte : Θ.get ti.e = some te) {v : Value} (hx : ev E x = some v) {l' h' m' : Option (IntKind × Int)} (hlo : evo E lo = some l') (hhi : evo E hi = some h') (hmx : evo E mx = some m') {α : Type} {T : Ty α} {xs ys : List α} (hn : T.n = te.size) {O1 : List Nat} {w1 : World} (hv : T.slice.is O1 w1 v xs)
    (hc : cutx xs (l'.map (·.2)) (h'.map (·.2)) (m'.map (·.2)) = some ys) (h : ∀ v', T.slice.is O1 w1 v' ys → WO P r N ops Q l ((d, v') :: E) ds w) : WO P r N ops Q (i :: l) E ds w := by
  obtain ⟨v', hrun, hv'⟩ := run_cut (w := w) hΘ ht h5 hte hn hv hc
  refine wo_value ho hw hd hN (by rw [hop]; simp) (fun a ha => ?_) (h v' hv')
  simp only [execOp, hop, Sem.run_bind, ha.eval hx, evo_eval ha hlo, evo_eval ha hhi, evo_eval ha hmx, hrun]
  rfl
theorem op_cut (hΘ : Θ.ok P) {a : Act} (ha : Has N E ds a) (ho : ops[i]? = some o) (hw : want N ops E o.guard = some true) (hd : o.dst = some d) {t : Nat} {x : Operand} {lo hi mx : Option Operand} {ti te : TI} (hop : o.op = .slice t x lo hi mx) (ht : Θ.get t = some ti)
    (h5 : ti.tag = 5) (hte : Θ.get ti.e = some te) {v : Value} (hx : ev E x = some v) {l' h' m' : Option (IntKind × Int)} (hlo : evo E lo = some l') (hhi : evo E hi = some h') (hmx : evo E mx = some m') {α : Type} {T : Ty α} {xs ys : List α} (hn : T.n = te.size) (hv : T.slice.is O w v xs)
    (hc : cutx xs (l'.map (·.2)) (h'.map (·.2)) (m'.map (·.2)) = some ys) : OpK P r ops Q i d a w (fun u w' => T.slice.is O w' u ys ∧ Fr [] w w') := by
  obtain ⟨v', hrun, hv'⟩ := run_cut (w := w) hΘ ht h5 hte hn hv hc
  refine op_of ho (want_ok ha hw) hd (b := true) (v := v') (w' := w) ?_ ⟨hv', Fr.refl _ _⟩
  simp only [if_true]
  refine ⟨by rw [hop]; simp, ?_⟩
  simp only [execOp, hop, Sem.run_bind, ha.eval hx, evo_eval ha hlo, evo_eval ha hhi, evo_eval ha hmx, hrun]
  rfl

theorem op_cutA (hΘ : Θ.ok P) {a : Act} (ha : Has N E ds a) (ho : ops[i]? = some o) (hw : want N ops E o.guard = some true) (hd : o.dst = some d) {t : Nat} {x : Operand} {lo hi mx : Option Operand} {ti te : TI} (hop : o.op = .slice t x lo hi mx) (ht : Θ.get t = some ti)
    (h5 : ti.tag = 5) (hte : Θ.get ti.e = some te) {v : Value} (hx : ev E x = some v) {l' h' m' : Option (IntKind × Int)} (hlo : evo E lo = some l') (hhi : evo E hi = some h') (hmx : evo E mx = some m') {α : Type} {T : Ty α} {xs ys : List α} (hn : T.n = te.size) {O1 : List Nat} {w1 : World} (hv : T.slice.is O1 w1 v xs)
    (hc : cutx xs (l'.map (·.2)) (h'.map (·.2)) (m'.map (·.2)) = some ys) : OpK P r ops Q i d a w (fun u w' => T.slice.is O1 w1 u ys ∧ Fr [] w w') := by
  obtain ⟨v', hrun, hv'⟩ := run_cut (w := w) hΘ ht h5 hte hn hv hc
  refine op_of ho (want_ok ha hw) hd (b := true) (v := v') (w' := w) ?_ ⟨hv', Fr.refl _ _⟩
  simp only [if_true]
  refine ⟨by rw [hop]; simp, ?_⟩
  simp only [execOp, hop, Sem.run_bind, ha.eval hx, evo_eval ha hlo, evo_eval ha hhi, evo_eval ha hmx, hrun]
  rfl
/-! ### alloc within a region that draws its order; operations behind it -/
def SP.box (n0 t : Nat) (cs : List Value) : SP := ⟨fun w v => ∃ b, v = .pointer (some ⟨b, 0, none⟩) ∧ Blk w b t cs ∧ n0 ≤ b, fun hf ⟨b, h, hb, hg⟩ => ⟨b, h, hb.fr0 hf, hg⟩⟩
theorem op_alloc (hΘ : Θ.ok P) {a : Act} (ha : Has N E ds a) (ho : ops[i]? = some o) (hw : want N ops E o.guard = some true) (hd : o.dst = some d) {t n0 : Nat} {ti : TI} (hop : o.op = .alloc t) (ht : Θ.get t = some ti) (zs : List Value) (hz : ti.zero.cells.toList = zs) (hO : OB O w) (hn : n0 ≤ w.heap.size) :
    OpK P r ops Q i d a w (fun u w' => (∃ b, u = .pointer (some ⟨b, 0, none⟩) ∧ Blk w' b t zs ∧ n0 ≤ b) ∧ Fr [] w w') := by
  have hnew := new_alloc hO t zs
  refine op_of ho (want_ok ha hw) hd (b := true) (v := .pointer (some ⟨w.heap.size, 0, none⟩)) (w' := w.alloc (.cells zs.toArray t)) ?_ ⟨⟨_, rfl, hnew.blk, hn⟩, hnew.fr⟩
  simp only [if_true]
  refine ⟨by rw [hop]; simp, ?_⟩
  simp only [execOp, hop, Instr.alloc, Sem.run_bind, zero_run (hΘ.fits ht), Result.andThen_ok]
  subst hz
  rfl
theorem wo_go {E : Env} {a : Act} {w : World} {m c : Nat} (hN : a.tmps.size = N) (hd : a.defers = ds) (hr : rows a E) (hl : List.range' m c = l) (h : WO P r N ops Q l E ds w) : wpOpsIn (fw r) 0 P ops Q (List.range' m c) a w := by
  rw [hl]
  exact h a ⟨hN, hd, rows_get hr⟩
/-- the call's own block b, that was laid within a region -/
theorem tr_box {w w' : World} {b : Nat} (hf : Fr [] w w') (hb : w.heap.size ≤ b) : Tr O w (b :: O) w' := ⟨hf.os, hf.tape, hf.output, hf.size, fun k hk ho => ⟨by simp; exact ⟨by omega, ho⟩, hf.block k hk (by simp)⟩⟩
theorem ob_box {w' : World} {b t : Nat} {cs : List Value} (hO : OB O w') (hb : Blk w' b t cs) : OB (b :: O) w' := fun k hk => by
  rcases List.mem_cons.1 hk with rfl | hk
  · exact hb.lt
  · exact hO k hk
end
end Go.Dc
