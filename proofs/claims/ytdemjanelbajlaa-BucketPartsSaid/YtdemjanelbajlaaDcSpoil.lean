/- Writing over what is new: integers for integers, between two marks of the memory. -/
import Derived.Test.YtdemjanelbajlaaDcTree
namespace Go.Dc
open Go.RowKit

/-- nothing outside lo .. hi has turned, and inside integers alone -/
structure Chg (lo hi : Nat) (w w' : World) : Prop where
  os : w'.os = w.os
  tape : w'.tape = w.tape
  output : w'.output = w.output
  size : w.heap.size ≤ w'.heap.size
  block : ∀ k, k < w.heap.size → k < lo ∨ hi ≤ k → w'.heap[k]? = w.heap[k]?
  cell : ∀ p v, w.cell? p = some v → ∃ v', w'.cell? p = some v' ∧ (v' = v ∨ ∃ k n n', v = .int k n ∧ v' = .int k n')
  froz : ∀ p, p.block < w.heap.size → w'.frozen? p = w.frozen? p
theorem Chg.refl (lo hi : Nat) (w : World) : Chg lo hi w w := ⟨rfl, rfl, rfl, Nat.le_refl _, fun _ _ _ => rfl, fun _ v h => ⟨v, h, .inl rfl⟩, fun _ _ => rfl⟩
theorem Chg.trans {lo hi : Nat} {w w' w'' : World} (h : Chg lo hi w w') (k : Chg lo hi w' w'') : Chg lo hi w w'' :=
  ⟨k.os.trans h.os, k.tape.trans h.tape, k.output.trans h.output, Nat.le_trans h.size k.size, fun i hi' ho => (k.block i (Nat.lt_of_lt_of_le hi' h.size) ho).trans (h.block i hi' ho), fun p v hv => by
    obtain ⟨v1, h1, e1⟩ := h.cell p v hv
    obtain ⟨v2, h2, e2⟩ := k.cell p v1 h1
    refine ⟨v2, h2, ?_⟩
    rcases e1 with e1 | ⟨kk, n, n', e1, e1'⟩
    · subst e1; exact e2
    · rcases e2 with e2 | ⟨kk2, m, m', e2, e2'⟩
      · exact .inr ⟨kk, n, n', e1, e2.trans e1'⟩
      · rw [e1'] at e2; cases e2; exact .inr ⟨kk, n, m', e1, e2'⟩, fun p hp => (k.froz p (Nat.lt_of_lt_of_le hp h.size)).trans (h.froz p hp)⟩
theorem Chg.set {lo hi : Nat} {w : World} {p : Addr} {k : IntKind} {n n' : Int} (hp : w.cell? p = some (.int k n)) (h1 : lo ≤ p.block) (h2 : p.block < hi) : Chg lo hi w (w.setCell p (.int k n')) := by
  refine ⟨rfl, rfl, rfl, ?_, fun i _ ho => Below.heap_setCell w p _ i (by omega), fun q v hq => ?_, fun q _ => World.frozen?_setCell w p q _⟩
  · show w.heap.size ≤ (Array.modify w.heap _ _).size
    simp
  · by_cases e : p = q
    · subst e
      rw [hp] at hq
      cases hq
      exact ⟨_, World.cell?_setCell_same w p _ hp, .inr ⟨k, n, n', rfl, rfl⟩⟩
    · exact ⟨v, (World.cell?_setCell_other w p q _ e).trans hq, .inl rfl⟩
/-- a cell that is no integer stays -/
theorem Chg.keep {lo hi : Nat} {w w' : World} (h : Chg lo hi w w') {p : Addr} {v : Value} (hp : w.cell? p = some v) (hv : ∀ k n, v ≠ .int k n) : w'.cell? p = some v := by
  obtain ⟨v', h1, e | ⟨k, n, _, e, _⟩⟩ := h.cell p v hp
  · rw [h1, e]
  · exact absurd e (hv k n)
theorem Chg.int {lo hi : Nat} {w w' : World} (h : Chg lo hi w w') {p : Addr} {k : IntKind} {n : Int} (hp : w.cell? p = some (.int k n)) : ∃ n', w'.cell? p = some (.int k n') := by
  obtain ⟨v', h1, e | ⟨k', n1, n2, e, e'⟩⟩ := h.cell p _ hp
  · exact ⟨n, by rw [h1, e]⟩
  · cases e; exact ⟨n2, by rw [h1, e']⟩
/-- what it is to what lay there long ago -/
theorem Chg.fr {lo hi : Nat} {w0 w w' : World} (h : Chg lo hi w w') (hF : Fr [] w0 w) (hl : w0.heap.size ≤ lo) : Fr [] w0 w' :=
  ⟨h.os.trans hF.os, h.tape.trans hF.tape, h.output.trans hF.output, Nat.le_trans hF.size h.size, fun k hk _ =>
    (h.block k (Nat.lt_of_lt_of_le hk hF.size) (.inl (Nat.lt_of_lt_of_le hk hl))).trans (hF.block k hk (by simp))⟩
/-- and to what came behind -/
theorem Chg.tr {lo hi : Nat} {w w' : World} (h : Chg lo hi w w') : Tr (List.range hi) w (List.range hi) w' :=
  ⟨h.os, h.tape, h.output, h.size, fun k hk ho => ⟨ho, h.block k hk (.inr (by simpa using ho))⟩⟩
theorem ob_range (w : World) : OB (List.range w.heap.size) w := fun k hk => by simpa using hk
theorem sub_range {O : List Nat} {w : World} (h : OB O w) : Sub O (List.range w.heap.size) := fun k hk => by simpa using h k hk
theorem sub_nil (O : List Nat) : Sub [] O := fun k hk => by cases hk
theorem ob_nil (w : World) : OB [] w := fun k hk => by cases hk
section
variable {P : Program} {r : Option Nat} {N : Nat} {Θ : Tys} {ops : Array Oper} {Q : Exit → Act → World → Prop} {l : List Nat} {E : Env} {ds : List Deferred} {w : World} {i d : Nat} {o : Oper}
/-- a load of one cell -/
theorem wo_loadC (hΘ : Θ.ok P) (ho : ops[i]? = some o) (hw : want N ops E o.guard = some true) (hd : o.dst = some d) (hN : Nat.blt d N = true) {t : Nat} {x : Operand} {ti : TI} (hop : o.op = .load t x) (ht : Θ.get t = some ti) (h1 : ti.size = 1) (ha : ti.isAgg = false)
    {ad : Addr} (hx : ev E x = some (.pointer (some ad))) {v : Value} (hc : w.cell? ad = some v) (h : WO P r N ops Q l ((d, v) :: E) ds w) : WO P r N ops Q (i :: l) E ds w := by
  refine wo_value ho hw hd hN (by rw [hop]; simp) (fun a hha => ?_) h
  have hcc : CellsAt w ad [v] := fun j u hu => by
    cases j with
    | zero => simp at hu; subst hu; rw [Addr.add_zero']; exact hc
    | succ j => simp at hu
  have := run_loadAt (P := P) (hΘ.fits ht) (cs := [v]) (by rw [h1]; rfl) hcc (fun _ => h1)
  simp only [execOp, hop, Sem.run_bind, hha.eval hx, this, ha]
  rfl
/-- a store into one cell -/
theorem wo_storeC (hΘ : Θ.ok P) (ho : ops[i]? = some o) (hw : want N ops E o.guard = some true) (hd : o.dst = none) {t : Nat} {x y : Operand} {ti : TI} (hop : o.op = .store t x y) (ht : Θ.get t = some ti) (h1 : ti.size = 1)
    {ad : Addr} (hx : ev E x = some (.pointer (some ad))) {k : IntKind} {n : Int} {u : Value} (hy : ev E y = some (.int k n)) (hc : w.cell? ad = some u) (hz : w.frozen? ad = false) (h : WO P r N ops Q l E ds (w.setCell ad (.int k n))) : WO P r N ops Q (i :: l) E ds w := by
  refine wo_act ho hw hd (by rw [hop]; simp) (fun a ha => ?_) h
  have hs : (Value.int k n).cells = #[.int k n] := rfl
  simp only [execOp, hop, ha.eval hx, ha.eval hy, Sem.run_bind, Instr.storeAt, Instr.sureAddr, Sem.run_pure, Result.andThen_ok, storeVar, sizeOf_run (hΘ.fits ht), hs, h1]
  simp [storeCells, store, Sem.run, hc, hz, Addr.add_zero']
end
/-- a row of integers that may be written over -/
def ShI (k : IntKind) (lo hi : Nat) (w : World) (A : Option Addr) (n : Nat) : Prop :=
  ∀ j, j < n → ∃ ad, A = some ad ∧ lo ≤ ad.block ∧ ad.block < hi ∧ ad.block < w.heap.size ∧ (∃ i, w.cell? (ad.add j) = some (.int k i)) ∧ w.frozen? (ad.add j) = false
theorem ShI.chg {k : IntKind} {lo hi n : Nat} {w w' : World} {A : Option Addr} (h : ShI k lo hi w A n) (hc : Chg lo hi w w') : ShI k lo hi w' A n := fun j hj => by
  obtain ⟨ad, hA, h1, h2, h3, ⟨i, h4⟩, h5⟩ := h j hj
  exact ⟨ad, hA, h1, h2, Nat.lt_of_lt_of_le h3 hc.size, hc.int h4, (hc.froz _ (by rw [add_block]; exact h3)).trans h5⟩
theorem ShI.of {k : IntKind} {lo : Nat} {w0 w : World} {A : Option Addr} {n c : Nat} {xs : List Int} (h : (Ty.int k).slice.is (List.range lo) w0 (.slice A n c) xs) (hF : Fr [] w0 w) : ShI k lo w0.heap.size w A n := fun j hj => by
  obtain ⟨cs, ⟨A', c', hc, hl, hx⟩, hv⟩ := h
  subst hc
  have hv : Value.slice A n c = .slice A' xs.length c' := hv
  injection hv with e1 e2 e3
  subst e1; subst e2; subst e3
  obtain ⟨ad, es, hA, hb, ho, hr, he⟩ := hx j xs[j] (List.getElem?_eq_getElem hj)
  have hes : es = [.int k xs[j]] := hr
  subst hes
  have e1 : (Ty.int k).n = 1 := rfl
  rw [e1, Nat.mul_one] at he
  have hk : w.heap[ad.block]? = w0.heap[ad.block]? := hF.block _ hb (by simp)
  have hk' : w.heap[(ad.add j).block]? = w0.heap[(ad.add j).block]? := by rw [add_block]; exact hk
  have h0 := he.1 0 _ rfl
  rw [Addr.add_zero'] at h0
  have h1 := he.2 0 (by simp)
  rw [Addr.add_zero'] at h1
  exact ⟨ad, hA, by simpa using ho, hb, Nat.lt_of_lt_of_le hb hF.size, ⟨_, (cell_keep hk').trans h0⟩, (World.frozen?_of_block (w := w0) hk').trans h1⟩
/-- a row of such rows -/
def ShII (k : IntKind) (lo hi : Nat) (w : World) (A : Option Addr) (n : Nat) : Prop :=
  ∀ j, j < n → ∃ ad A' n' c', A = some ad ∧ w.cell? (ad.add j) = some (.slice A' n' c') ∧ ShI k lo hi w A' n' ∧ n' ≤ maxLen
theorem ShII.chg {k : IntKind} {lo hi n : Nat} {w w' : World} {A : Option Addr} (h : ShII k lo hi w A n) (hc : Chg lo hi w w') : ShII k lo hi w' A n := fun j hj => by
  obtain ⟨ad, A', n', c', hA, h1, h2, h3⟩ := h j hj
  exact ⟨ad, A', n', c', hA, hc.keep h1 (by simp), h2.chg hc, h3⟩
theorem ShII.of {k : IntKind} {lo : Nat} {w0 w : World} {A : Option Addr} {n c : Nat} {xs : List (List Int)} (h : (Ty.int k).slice.slice.is (List.range lo) w0 (.slice A n c) xs) (hF : Fr [] w0 w) : ShII k lo w0.heap.size w A n := fun j hj => by
  obtain ⟨cs, ⟨A', c', hc, hl, hx⟩, hv⟩ := h
  subst hc
  have hv : Value.slice A n c = .slice A' xs.length c' := hv
  injection hv with e1 e2 e3
  subst e1; subst e2; subst e3
  obtain ⟨ad, es, hA, hb, ho, hr, he⟩ := hx j xs[j] (List.getElem?_eq_getElem hj)
  obtain ⟨s, hes, his⟩ := sing_of (T := (Ty.int k).slice) rfl hr
  subst hes
  obtain ⟨A2, c2, rfl, hlc, hcm⟩ := slice_form his
  have e1 : (Ty.int k).slice.n = 1 := rfl
  rw [e1, Nat.mul_one] at he
  have hk' : w.heap[(ad.add j).block]? = w0.heap[(ad.add j).block]? := by rw [add_block]; exact hF.block _ hb (by simp)
  have h0 := he.1 0 _ rfl
  rw [Addr.add_zero'] at h0
  exact ⟨ad, A2, _, c2, hA, (cell_keep hk').trans h0, ShI.of his hF, by omega⟩
end Go.Dc
