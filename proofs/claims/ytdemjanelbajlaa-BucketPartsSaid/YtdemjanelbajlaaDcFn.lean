/- Function values, slices written out, cuts. -/
import Derived.Test.YtdemjanelbajlaaDcOwn
namespace Go.Dc
open Go.RowKit

/-! ### Function values -/
section
variable (P : Program)
/-- what a call of a function value gives, in every later world -/
def FnGives (O : List Nat) (w : World) (cs : List Value) (go : (List Value → FuncId × List Value) → Prop) : Prop :=
  ∃ g first cap, cs = [.func (.func g) first cap] ∧ (∀ (vs : Array Value) (u : World), (callFunc g vs).run P u = .ok (.enter g vs) u) ∧ go fun args => (g, first.toList ++ args ++ cap.toList)
def Ty.fn0 {β : Type} (R : List Nat → World → Value → β → Prop) : Ty (Option β) where
  agg := false
  n := 1
  rep O w cs f := FnGives P O w cs fun call => ∀ O' w', Tr O w O' w' → OB O' w' → ∀ y, f = some y → Calls P (call []).1 (call []).2.toArray w' (Gives R O' w' y)
  tr ht := fun ⟨g, a, c, h, he, hg⟩ => ⟨g, a, c, h, he, fun O' w' ht' => hg O' w' (ht.trans ht')⟩
  len := fun ⟨g, a, c, h, _⟩ => by subst h; rfl
  one := fun ⟨g, a, c, h, _⟩ u hu => by subst h; simp at hu; subst hu; rfl
  sing _ := rfl
def Ty.fn1 {α β : Type} (A : Ty α) (R : List Nat → World → Value → β → Prop) : Ty (α → Option β) where
  agg := false
  n := 1
  rep O w cs f := FnGives P O w cs fun call => ∀ O' w', Tr O w O' w' → OB O' w' → ∀ v x, A.is O' w' v x → ∀ y, f x = some y → Calls P (call [v]).1 (call [v]).2.toArray w' (Gives R O' w' y)
  tr ht := fun ⟨g, a, c, h, he, hg⟩ => ⟨g, a, c, h, he, fun O' w' ht' => hg O' w' (ht.trans ht')⟩
  len := fun ⟨g, a, c, h, _⟩ => by subst h; rfl
  one := fun ⟨g, a, c, h, _⟩ u hu => by subst h; simp at hu; subst hu; rfl
  sing _ := rfl
def Ty.fn2 {α α' β : Type} (A : Ty α) (A' : Ty α') (R : List Nat → World → Value → β → Prop) : Ty (α → α' → Option β) where
  agg := false
  n := 1
  rep O w cs f := FnGives P O w cs fun call => ∀ O' w', Tr O w O' w' → OB O' w' → ∀ v x, A.is O' w' v x → ∀ v' x', A'.is O' w' v' x' → ∀ y, f x x' = some y → Calls P (call [v, v']).1 (call [v, v']).2.toArray w' (Gives R O' w' y)
  tr ht := fun ⟨g, a, c, h, he, hg⟩ => ⟨g, a, c, h, he, fun O' w' ht' => hg O' w' (ht.trans ht')⟩
  len := fun ⟨g, a, c, h, _⟩ => by subst h; rfl
  one := fun ⟨g, a, c, h, _⟩ u hu => by subst h; simp at hu; subst hu; rfl
  sing _ := rfl
end
section
variable {P : Program} {r : Option Nat} {N : Nat} {Θ : Tys} {ops : Array Oper} {Q : Exit → Act → World → Prop} {l : List Nat} {E : Env} {ds : List Deferred} {w : World} {i d : Nat} {o : Oper} {O : List Nat}
theorem fn0_is {β : Type} {R : List Nat → World → Value → β → Prop} {g : FuncId} {first cap : List Value} {f : Option β} (he : ∀ (vs : Array Value) (u : World), (callFunc g vs).run P u = .ok (.enter g vs) u)
    (h : ∀ O' w', Tr O w O' w' → OB O' w' → ∀ y, f = some y → Calls P g (first ++ cap).toArray w' (Gives R O' w' y)) : (Ty.fn0 P R).is O w (.func (.func g) first.toArray cap.toArray) f :=
  ⟨_, ⟨g, first.toArray, cap.toArray, rfl, he, fun O' w' ht hO y hy => by simpa using h O' w' ht hO y hy⟩, rfl⟩
theorem fn1_is {α β : Type} {A : Ty α} {R : List Nat → World → Value → β → Prop} {g : FuncId} {first cap : List Value} {f : α → Option β} (he : ∀ (vs : Array Value) (u : World), (callFunc g vs).run P u = .ok (.enter g vs) u)
    (h : ∀ O' w', Tr O w O' w' → OB O' w' → ∀ v x, A.is O' w' v x → ∀ y, f x = some y → Calls P g (first ++ [v] ++ cap).toArray w' (Gives R O' w' y)) : (Ty.fn1 P A R).is O w (.func (.func g) first.toArray cap.toArray) f :=
  ⟨_, ⟨g, first.toArray, cap.toArray, rfl, he, fun O' w' ht hO v x hv y hy => by simpa using h O' w' ht hO v x hv y hy⟩, rfl⟩
theorem fn2_is {α α' β : Type} {A : Ty α} {A' : Ty α'} {R : List Nat → World → Value → β → Prop} {g : FuncId} {first cap : List Value} {f : α → α' → Option β} (he : ∀ (vs : Array Value) (u : World), (callFunc g vs).run P u = .ok (.enter g vs) u)
    (h : ∀ O' w', Tr O w O' w' → OB O' w' → ∀ v x, A.is O' w' v x → ∀ v' x', A'.is O' w' v' x' → ∀ y, f x x' = some y → Calls P g (first ++ [v, v'] ++ cap).toArray w' (Gives R O' w' y)) : (Ty.fn2 P A A' R).is O w (.func (.func g) first.toArray cap.toArray) f :=
  ⟨_, ⟨g, first.toArray, cap.toArray, rfl, he, fun O' w' ht hO v x hv v' x' hv' y hy => by simpa using h O' w' ht hO v x hv v' x' hv' y hy⟩, rfl⟩

/-- a call of a function value, known to be of function g -/
theorem run_dyn {a : Act} {x : Operand} {args : Array Operand} {ts : Array TypeId} {g : FuncId} {first cap : Array Value} {vs : List Value} (ha : Has N E ds a) (hop : o.op = .call { callee := .value x, args := args, argTypes := ts })
    (hx : ev E x = some (.func (.func g) first cap)) (hvs : allEv E args.toList = some vs) (he : ∀ (vs : Array Value) (u : World), (callFunc g vs).run P u = .ok (.enter g vs) u) :
    (execOp a.eval o).run P w = .ok (.enter g (first.toList ++ vs ++ cap.toList).toArray) w := by
  have e1 : args.map a.eval = vs.toArray := by rw [← allEv_eval ha hvs, ← Array.toList_map]
  simp only [execOp, hop, Sem.run_bind, resolve, ha.eval hx, Deferred.ofValue, Sem.run_pure, Result.andThen_ok, invoke, e1]
  rw [he]
  simp
theorem wo_dynk (ho : ops[i]? = some o) (hw : want N ops E o.guard = some true) (hd : o.dst = some d) (hN : Nat.blt d N = true) {x : Operand} {args : Array Operand} {ts : Array TypeId} (hop : o.op = .call { callee := .value x, args := args, argTypes := ts })
    {g : FuncId} {first cap vs : List Value} (hx : ev E x = some (.func (.func g) first.toArray cap.toArray)) (hvs : allEv E args.toList = some vs) (he : ∀ (vs : Array Value) (u : World), (callFunc g vs).run P u = .ok (.enter g vs) u)
    {β : Type} {R : List Nat → World → Value → β → Prop} {y : β} (hcall : Calls P g (first ++ vs ++ cap).toArray w (Gives R O w y)) (h : ∀ v w', R O w' v y → Fr [] w w' → WO P r N ops Q l ((d, v) :: E) ds w') : WO P r N ops Q (i :: l) E ds w :=
  wo_enter ho hw hd hN (by rw [hop]; simp) (fun a ha => by simpa using run_dyn (w := w) ha hop hx hvs he) hcall fun _ _ ⟨v, he', hr, hfr⟩ => ⟨v, he', h v _ hr hfr⟩
theorem wo_dyn0 (ho : ops[i]? = some o) (hw : want N ops E o.guard = some true) (hd : o.dst = some d) (hN : Nat.blt d N = true) {x : Operand} {args : Array Operand} {ts : Array TypeId} (hop : o.op = .call { callee := .value x, args := args, argTypes := ts })
    {u : Value} (hx : ev E x = some u) (hvs : allEv E args.toList = some []) {β : Type} {R : List Nat → World → Value → β → Prop} {f : Option β} (hu : (Ty.fn0 P R).is O w u f) (hO : OB O w) {y : β} (hy : f = some y)
    (h : ∀ v w', R O w' v y → Fr [] w w' → WO P r N ops Q l ((d, v) :: E) ds w') : WO P r N ops Q (i :: l) E ds w := by
  obtain ⟨cs, ⟨g, first, cap, rfl, he, hg⟩, hv⟩ := hu
  have hv : u = .func (.func g) first cap := hv
  subst hv
  exact wo_dynk (first := first.toList) (cap := cap.toList) ho hw hd hN hop (by simpa using hx) hvs he (hg O w (Tr.refl _ _) hO y hy) h
theorem wo_dyn1 (ho : ops[i]? = some o) (hw : want N ops E o.guard = some true) (hd : o.dst = some d) (hN : Nat.blt d N = true) {x : Operand} {args : Array Operand} {ts : Array TypeId} (hop : o.op = .call { callee := .value x, args := args, argTypes := ts })
    {u : Value} (hx : ev E x = some u) {v1 : Value} (hvs : allEv E args.toList = some [v1]) {α β : Type} {A : Ty α} {R : List Nat → World → Value → β → Prop} {f : α → Option β} (hu : (Ty.fn1 P A R).is O w u f) (hO : OB O w) {z : α} (hz : A.is O w v1 z) {y : β} (hy : f z = some y)
    (h : ∀ v w', R O w' v y → Fr [] w w' → WO P r N ops Q l ((d, v) :: E) ds w') : WO P r N ops Q (i :: l) E ds w := by
  obtain ⟨cs, ⟨g, first, cap, rfl, he, hg⟩, hv⟩ := hu
  have hv : u = .func (.func g) first cap := hv
  subst hv
  exact wo_dynk (first := first.toList) (cap := cap.toList) ho hw hd hN hop (by simpa using hx) hvs he (hg O w (Tr.refl _ _) hO v1 z hz y hy) h
theorem wo_dyn2 (ho : ops[i]? = some o) (hw : want N ops E o.guard = some true) (hd : o.dst = some d) (hN : Nat.blt d N = true) {x : Operand} {args : Array Operand} {ts : Array TypeId} (hop : o.op = .call { callee := .value x, args := args, argTypes := ts })
    {u : Value} (hx : ev E x = some u) {v1 v2 : Value} (hvs : allEv E args.toList = some [v1, v2]) {α α' β : Type} {A : Ty α} {A' : Ty α'} {R : List Nat → World → Value → β → Prop} {f : α → α' → Option β} (hu : (Ty.fn2 P A A' R).is O w u f) (hO : OB O w) {z : α} (hz : A.is O w v1 z) {z' : α'} (hz' : A'.is O w v2 z') {y : β} (hy : f z z' = some y)
    (h : ∀ v w', R O w' v y → Fr [] w w' → WO P r N ops Q l ((d, v) :: E) ds w') : WO P r N ops Q (i :: l) E ds w := by
  obtain ⟨cs, ⟨g, first, cap, rfl, he, hg⟩, hv⟩ := hu
  have hv : u = .func (.func g) first cap := hv
  subst hv
  exact wo_dynk (first := first.toList) (cap := cap.toList) ho hw hd hN hop (by simpa using hx) hvs he (hg O w (Tr.refl _ _) hO v1 z hz v2 z' hz' y hy) h
/-- a box that is handed on for reading: its block is owned no more -/
def rel (b : Nat) (O : List Nat) : List Nat := O.filter fun k => !(Nat.beq k b)
theorem rel_mem {b k : Nat} {O : List Nat} : k ∈ rel b O ↔ k ∈ O ∧ k ≠ b := by
  unfold rel
  rw [List.mem_filter]
  constructor
  · rintro ⟨h1, h2⟩
    refine ⟨h1, fun e => ?_⟩
    subst e
    simp at h2
  · rintro ⟨h1, h2⟩
    refine ⟨h1, ?_⟩
    cases hb : Nat.beq k b with
    | true => exact absurd (Nat.eq_of_beq_eq_true hb) h2
    | false => rfl
theorem rel_tr (b : Nat) (O : List Nat) (w : World) : Tr O w (rel b O) w := Tr.less fun k hk => (rel_mem.1 hk).1
theorem rel_ob {b : Nat} (h : OB O w) : OB (rel b O) w := fun k hk => h k (rel_mem.1 hk).1
theorem rel_sub {b : Nat} {O0 : List Nat} {w0 : World} (h : Sub O0 O) (h0 : OB O0 w0) (hb : w0.heap.size ≤ b) : Sub O0 (rel b O) := fun k hk => rel_mem.2 ⟨h k hk, fun e => by have := h0 k hk; omega⟩
theorem rel_in {b c : Nat} (h : c ∈ O) (hne : c ≠ b) : c ∈ rel b O := rel_mem.2 ⟨h, hne⟩
theorem rel_ptr {α : Type} {T : Ty α} {b t : Nat} {cs : List Value} {x : α} (hb : Blk w b t cs) (hr : T.rep (rel b O) w cs x) : T.ptr.is (rel b O) w (.pointer (some ⟨b, 0, none⟩)) x :=
  ⟨_, ⟨⟨b, 0, none⟩, cs, rfl, hb.lt, fun h => (rel_mem.1 h).2 rfl, hr, fun j u hu => by
    have : (⟨b, 0, none⟩ : Addr).add j = ⟨b, j, none⟩ := by unfold Addr.add; split <;> simp_all
    rw [this, hb.cell]; exact hu, fun j _ => by
    unfold Blk at hb
    simp [World.frozen?, add_block, hb]⟩, rfl⟩
theorem cells_of {α : Type} {T : Ty α} {v : Value} {x : α} (ha : T.agg = false) (h : T.is O w v x) : v.cells.toList = [v] := by
  have hr := rep_of ha h
  have := Ty.cells hr
  unfold Ty.mk' at this
  rw [ha] at this
  exact this
/-- the cells of a value that is something -/
theorem rep_cells {α : Type} {T : Ty α} {v : Value} {x : α} (h : T.is O w v x) : T.rep O w v.cells.toList x := by
  obtain ⟨cs, hr, rfl⟩ := h
  rw [Ty.cells hr]; exact hr

/-! ### Slices written out -/
def ixs : Nat → List Value → List (Nat × Value)
  | _, [] => []
  | k, v :: r => (k, v) :: ixs (k + 1) r
def partsEv (E : Env) : Nat → List (Nat × Operand) → Option (List Value)
  | _, [] => some []
  | k, (j, x) :: r => bif Nat.beq j k then (match ev E x, partsEv E (k + 1) r with | some v, some vs => some (v :: vs) | _, _ => none) else none
theorem partsEv_eval {a : Act} (h : Has N E ds a) : ∀ {ps : List (Nat × Operand)} {k : Nat} {vs : List Value}, partsEv E k ps = some vs → ps.map (fun p => (p.1, a.eval p.2)) = ixs k vs := by
  intro ps
  induction ps with
  | nil => intro k vs hv; simp [partsEv] at hv; subst hv; rfl
  | cons p r ih =>
    obtain ⟨j, x⟩ := p
    intro k vs hv
    simp only [partsEv] at hv
    cases hb : Nat.beq j k with
    | false => rw [hb] at hv; cases hv
    | true =>
      rw [hb] at hv
      simp only [cond_true] at hv
      split at hv
      · rename_i v us hx hr
        simp only [Option.some.injEq] at hv
        subst hv
        have := Nat.eq_of_beq_eq_true hb
        subst this
        simp [ixs, h.eval hx, ih hr]
      · cases hv
theorem fold_put : ∀ (c : List Value) (k off : Nat) (cs : Array Value), off + k + c.length ≤ cs.size → ((c.zipIdx k).foldl (fun cs p => cs.setIfInBounds (off + p.2) p.1) cs).toList = putAt cs.toList (off + k) c := by
  intro c
  induction c with
  | nil => intro k off cs _; simp [putAt]
  | cons x c ih =>
    intro k off cs h
    simp only [List.zipIdx_cons, List.foldl_cons]
    rw [ih (k + 1) off _ (by simp at h ⊢; omega)]
    simp only [Array.toList_setIfInBounds, putAt]
    have hlt : off + k < cs.toList.length := by simp at h ⊢; omega
    apply List.ext_getElem?
    intro j
    simp only [List.getElem?_append, List.getElem?_take, List.getElem?_drop, List.getElem?_set, List.length_append, List.length_take, List.length_set, List.length_cons, List.getElem?_cons]
    have hm : min (off + k) cs.toList.length = off + k := by omega
    have hm' : min (off + (k + 1)) cs.toList.length = off + k + 1 := by omega
    rw [hm, hm']
    by_cases h1 : j < off + k
    · have h2 : j < off + k + 1 := by omega
      have h3 : j < off + k + 1 + c.length := by omega
      have h4 : j < off + k + (c.length + 1) := by omega
      have h5 : ¬ off + k = j := by omega
      have h6 : j < off + (k + 1) := by omega
      simp [h1, h2, h3, h4, h5, h6]
    · by_cases h2 : j = off + k
      · subst h2
        have h3 : off + k < off + k + 1 + c.length := by omega
        have h6 : off + k < off + (k + 1) := by omega
        simp at hlt
        simp [h3, h6, hlt]
      · have e1 : ¬ j < off + k + 1 := by omega
        have e2 : j - (off + k) ≠ 0 := by omega
        have e3 : j - (off + k) - 1 = j - (off + k + 1) := by omega
        by_cases h3 : j < off + k + 1 + c.length
        · have h4 : j < off + k + (c.length + 1) := by omega
          simp [h1, e1, h3, h4, e2, e3]
        · have h4 : ¬ j < off + k + (c.length + 1) := by omega
          have h5 : ¬ off + k = off + (k + 1) + c.length + (j - (off + k + 1 + c.length)) := by omega
          have h6 : off + (k + 1) + c.length + (j - (off + k + 1 + c.length)) = j := by omega
          have h7 : off + k + (c.length + 1) + (j - (off + k + (c.length + 1))) = j := by omega
          have h8 : ¬ off + k = j := by omega
          simp only [h6, h7]
          simp [h1, e1, h3, h4, h8]
theorem fill_ixs {size : Nat} : ∀ (vs : List Value) (k : Nat) (cs : Array Value), (∀ v ∈ vs, v.cells.size = size) → cs.size = (k + vs.length) * size →
    ∃ cs', Instr.fill (fun i => some (i * size, size)) cs (ixs k vs) = some cs' ∧ cs'.toList = cs.toList.take (k * size) ++ (vs.map fun v => v.cells.toList).flatten := by
  intro vs
  induction vs with
  | nil => intro k cs _ hs; exact ⟨cs, rfl, by simp at hs; rw [List.take_of_length_le (by simp; omega)]; simp⟩
  | cons v vs ih =>
    intro k cs hv hs
    have hvs := hv v (by simp)
    have hbound : k * size + v.cells.size ≤ cs.size := by
      rw [hs, hvs, List.length_cons, ← Nat.succ_mul]
      exact Nat.mul_le_mul_right _ (by omega)
    have hfold := fold_put v.cells.toList 0 (k * size) cs (by simp; omega)
    have hconv : (v.cells.zipIdx.foldl (fun cs (c, j) => cs.setIfInBounds (k * size + j) c) cs) = ((v.cells.toList.zipIdx 0).foldl (fun cs p => cs.setIfInBounds (k * size + p.2) p.1) cs) := by
      rw [← Array.foldl_toList, Array.toList_zipIdx]
    have hsz : ((v.cells.toList.zipIdx 0).foldl (fun cs p => cs.setIfInBounds (k * size + p.2) p.1) cs).size = cs.size := by
      have := congrArg List.length hfold
      simp only [Array.length_toList, putAt, List.length_append, List.length_take, List.length_drop] at this
      omega
    obtain ⟨cs', h1, h2⟩ := ih (k + 1) ((v.cells.toList.zipIdx 0).foldl (fun cs p => cs.setIfInBounds (k * size + p.2) p.1) cs) (fun u hu => hv u (by simp [hu])) (by
      rw [hsz, hs, List.length_cons]
      congr 1
      omega)
    refine ⟨cs', ?_, ?_⟩
    · simp only [ixs, Instr.fill]
      rw [if_neg (by simp [hvs]; omega), hconv]
      exact h1
    · rw [h2, hfold]
      simp only [putAt, Nat.add_zero, List.map_cons, List.flatten_cons]
      have e : (k + 1) * size = (cs.toList.take (k * size) ++ v.cells.toList).length := by
        simp only [List.length_append, List.length_take, Array.length_toList, Nat.succ_mul]
        omega
      rw [e, List.take_left]
      simp
/-- values, all of one type -/
def IsAll {α : Type} (T : Ty α) (O : List Nat) (w : World) : List Value → List α → Prop
  | [], [] => True
  | v :: vs, x :: xs => T.is O w v x ∧ IsAll T O w vs xs
  | _, _ => False
theorem IsAll.rep {α : Type} {T : Ty α} : ∀ {vs : List Value} {xs : List α}, IsAll T O w vs xs → RepAll T O w (vs.map fun v => v.cells.toList).flatten xs ∧ vs.length = xs.length ∧ ∀ v ∈ vs, v.cells.size = T.n
  | [], [], _ => ⟨rfl, rfl, fun v h => by cases h⟩
  | v :: vs, x :: xs, ⟨h1, h2⟩ => by
    obtain ⟨k1, k2, k3⟩ := IsAll.rep h2
    have hr := rep_cells h1
    refine ⟨⟨_, _, by simp, hr, k1⟩, by simp [k2], fun u hu => ?_⟩
    rcases List.mem_cons.1 hu with rfl | hu
    · simpa using T.len hr
    · exact k3 u hu
/-- the cells of values in a row -/
def litc (vs : List Value) : List Value := (vs.map fun v => v.cells.toList).flatten
theorem run_buildSlice (hΘ : Θ.ok P) {a : Act} (ha : Has N E ds a) {t n : Nat} {ti te : TI} (ht : Θ.get t = some ti) (h5 : ti.tag = 5) (hte : Θ.get ti.e = some te) (hz : te.zero.cells.size = te.size)
    {ps : Array (Nat × Operand)} {vs : List Value} (hps : partsEv E 0 ps.toList = some vs) (hc : ∀ v ∈ vs, v.cells.size = te.size) (hlen : vs.length = n) (hsmall : n * te.size ≤ 16777216) :
    (Instr.buildSlice t n (ps.map fun (i, x) => (i, a.eval x))).run P w = .ok (.slice (some ⟨w.heap.size, 0, none⟩) n n) (w.alloc (.cells (litc vs).toArray ti.e)) := by
  have hte' := hΘ.fits hte
  obtain ⟨cs', h1, h2⟩ := fill_ixs (size := te.size) vs 0 ((Array.range (n * te.size)).map ((if n * te.size = 0 then #[] else te.zero.cells)[· % (if n * te.size = 0 then #[] else te.zero.cells).size]!)) (fun v hv => hc v hv) (by simp [hlen])
  have hparts : (ps.map fun (i, x) => (i, a.eval x)).toList = ixs 0 vs := by
    rw [Array.toList_map]
    exact partsEv_eval ha hps
  have hns : ¬ n * te.size > 2 ^ 24 := by omega
  have e2 : cs' = (litc vs).toArray := by
    apply Array.toList_inj.1
    rw [h2]
    simp [litc]
  subst e2
  simp only [Instr.buildSlice, Sem.run_bind, run_underlying ((hΘ.fits ht).slice h5), Result.andThen_ok, sizeOf_run hte']
  rw [if_neg hns]
  rw [hparts]
  by_cases h0 : n * te.size = 0
  · rw [if_pos h0] at h1
    rw [if_pos h0]
    simp only [Sem.run_bind, Sem.run_pure, Result.andThen_ok]
    rw [h1]
    rfl
  · rw [if_neg h0] at h1
    rw [if_neg h0]
    simp only [Sem.run_bind, zero_run hte', Sem.run_pure, Result.andThen_ok]
    rw [h1]
    rfl
/-- what a slice written out is -/
structure Lit {α : Type} (T : Ty α) (e : Nat) (O : List Nat) (w : World) (b n : Nat) (xs : List α) (w' : World) : Prop where
  new : ∃ cs, New O w b e cs w' ∧ RepAll T (b :: O) w' cs xs ∧ cs.length = n * T.n
  len : xs.length = n
  le : n ≤ maxLen
theorem Lit.fr {α : Type} {T : Ty α} {e b n : Nat} {w' : World} {xs : List α} (h : Lit T e O w b n xs w') : Fr [] w w' := let ⟨_, h, _⟩ := h.new; h.fr
/-- as data -/
theorem Lit.data {α : Type} {T : Ty α} {e b n : Nat} {w' : World} {xs : List α} (h : Lit T e O w b n xs w') (hO : OB O w) : T.slice.is O w' (.slice (some ⟨b, 0, none⟩) n n) xs := by
  obtain ⟨cs, hn, hr, hl⟩ := h.new
  have := slice_of_cells (cap := n) (O := O) hn.blk (fun ho => by have := hO _ ho; have := hn.ge; omega) (hr.tr (Tr.less fun k hk => List.mem_cons_of_mem _ hk)) (by simp) (by rw [h.len]; exact Nat.le_refl _) h.le
  rwa [h.len] at this
/-- as a row of the call's own -/
theorem Lit.own {α : Type} {T : Ty α} {e b n B : Nat} {w' : World} {xs : List α} (h : Lit T e O w b n xs w') (hB : B ≤ w.heap.size) : Own T e B (b :: O) w' (.slice (some ⟨b, 0, none⟩) n n) xs := by
  obtain ⟨cs, hn, hr, hl⟩ := h.new
  refine ⟨⟨cs, ⟨by rw [hl, h.len], .inr ⟨b, n, cs.toArray, by rw [h.len], Nat.le_trans hB hn.ge, hn.blk, by rw [h.len]; exact Nat.le_refl _, h.le, by simp [hl], by rw [h.len, ← hl]; simp⟩⟩, hr⟩, fun g hg => ?_⟩
  cases hg
  exact List.mem_cons_self
theorem lit_of (hO : OB O w) {α : Type} {T : Ty α} {vs : List Value} {xs : List α} {n : Nat} (hvs : IsAll T O w vs xs) (hlen : vs.length = n) (hm : n ≤ maxLen) (e : Nat) : Lit T e O w w.heap.size n xs (w.alloc (.cells (litc vs).toArray e)) := by
  obtain ⟨hr, hl, _⟩ := hvs.rep
  have hn := new_alloc hO e (litc vs)
  exact ⟨⟨_, hn, hr.tr hn.tr, by rw [show (litc vs).length = _ from hr.len, ← hl, hlen]⟩, by omega, hm⟩
/-- a slice written out -/
theorem wo_lit (hΘ : Θ.ok P) (ho : ops[i]? = some o) (hw : want N ops E o.guard = some true) (hd : o.dst = some d) (hN : Nat.blt d N = true) {t n : Nat} {ti te : TI} {ps : Array (Nat × Operand)} (hop : o.op = .buildSlice t n ps) (ht : Θ.get t = some ti) (h5 : ti.tag = 5) (hte : Θ.get ti.e = some te)
    {α : Type} {T : Ty α} (hn : T.n = te.size) (hz : te.zero.cells.size = te.size) {vs : List Value} (hps : partsEv E 0 ps.toList = some vs) {xs : List α} (hvs : IsAll T O w vs xs) (hlen : vs.length = n) (hsmall : Nat.ble (n * te.size) 16777216 = true) (hm : Nat.ble n 16777216 = true) (hO : OB O w)
    (h : ∀ b w', Lit T ti.e O w b n xs w' → WO P r N ops Q l ((d, .slice (some ⟨b, 0, none⟩) n n) :: E) ds w') : WO P r N ops Q (i :: l) E ds w := by
  have hm' : n ≤ maxLen := by have := Nat.le_of_ble_eq_true hm; unfold maxLen; omega
  refine wo_value ho hw hd hN (by rw [hop]; simp) (fun a ha => ?_) (h w.heap.size _ (lit_of hO hvs hlen hm' ti.e))
  simp only [execOp, hop, Sem.run_bind]
  rw [run_buildSlice hΘ ha ht h5 hte hz hps (fun v hv => (hvs.rep.2.2 v hv).trans hn) hlen (Nat.le_of_ble_eq_true hsmall)]
  rfl
/-- within a region that draws its order: as data -/
theorem op_lit (hΘ : Θ.ok P) {a : Act} (ha : Has N E ds a) (ho : ops[i]? = some o) (hw : want N ops E o.guard = some true) (hd : o.dst = some d) {t n : Nat} {ti te : TI} {ps : Array (Nat × Operand)} (hop : o.op = .buildSlice t n ps) (ht : Θ.get t = some ti) (h5 : ti.tag = 5) (hte : Θ.get ti.e = some te)
    {α : Type} {T : Ty α} (hn : T.n = te.size) (hz : te.zero.cells.size = te.size) {vs : List Value} (hps : partsEv E 0 ps.toList = some vs) {xs : List α} (hvs : IsAll T O w vs xs) (hlen : vs.length = n) (hsmall : Nat.ble (n * te.size) 16777216 = true) (hm : Nat.ble n 16777216 = true) (hO : OB O w) :
    OpK P r ops Q i d a w (fun u w' => T.slice.is O w' u xs ∧ Fr [] w w') := by
  have hm' : n ≤ maxLen := by have := Nat.le_of_ble_eq_true hm; unfold maxLen; omega
  have hlit := lit_of hO hvs hlen hm' ti.e
  refine op_of ho (want_ok ha hw) hd (b := true) (v := .slice (some ⟨w.heap.size, 0, none⟩) n n) (w' := w.alloc (.cells (litc vs).toArray ti.e)) ?_ ⟨hlit.data hO, hlit.fr⟩
  simp only [if_true]
  refine ⟨by rw [hop]; simp, ?_⟩
  simp only [execOp, hop, Sem.run_bind]
  rw [run_buildSlice hΘ ha ht h5 hte hz hps (fun v hv => (hvs.rep.2.2 v hv).trans hn) hlen (Nat.le_of_ble_eq_true hsmall)]
  rfl
theorem wo_litd (hΘ : Θ.ok P) (ho : ops[i]? = some o) (hw : want N ops E o.guard = some true) (hd : o.dst = some d) (hN : Nat.blt d N = true) {t n : Nat} {ti te : TI} {ps : Array (Nat × Operand)} (hop : o.op = .buildSlice t n ps) (ht : Θ.get t = some ti) (h5 : ti.tag = 5) (hte : Θ.get ti.e = some te)
    {α : Type} {T : Ty α} (hn : T.n = te.size) (hz : te.zero.cells.size = te.size) {vs : List Value} (hps : partsEv E 0 ps.toList = some vs) {xs : List α} (hvs : IsAll T O w vs xs) (hlen : vs.length = n) (hsmall : Nat.ble (n * te.size) 16777216 = true) (hm : Nat.ble n 16777216 = true) (hO : OB O w)
    (h : ∀ v w', T.slice.is O w' v xs → Fr [] w w' → WO P r N ops Q l ((d, v) :: E) ds w') : WO P r N ops Q (i :: l) E ds w :=
  wo_lit hΘ ho hw hd hN hop ht h5 hte hn hz hps hvs hlen hsmall hm hO fun _ _ q => h _ _ (q.data hO) q.fr

/-! ### Calls of function values within a region that draws its order -/
theorem op_dynk {a : Act} (ha : Has N E ds a) (ho : ops[i]? = some o) (hw : want N ops E o.guard = some true) (hd : o.dst = some d) {x : Operand} {args : Array Operand} {ts : Array TypeId} (hop : o.op = .call { callee := .value x, args := args, argTypes := ts })
    {g : FuncId} {first cap vs : List Value} (hx : ev E x = some (.func (.func g) first.toArray cap.toArray)) (hvs : allEv E args.toList = some vs) (he : ∀ (vs : Array Value) (u : World), (callFunc g vs).run P u = .ok (.enter g vs) u)
    {β : Type} {R : List Nat → World → Value → β → Prop} {y : β} (hcall : Calls P g (first ++ vs ++ cap).toArray w (Gives R O w y)) : OpK P r ops Q i d a w (fun u w' => R O w' u y ∧ Fr [] w w') := by
  intro K hK
  simp only [wpOpIn, ho]
  rw [if_pos (want_ok ha hw)]
  refine ⟨fun _ _ => trivial, ?_⟩
  have hrun : (execOp a.eval o).run P w = .ok (.enter g (first ++ vs ++ cap).toArray) w := by simpa using run_dyn (w := w) ha hop hx hvs he
  rw [Oper.semAt_eq _ _ _ (by rw [hop]; simp), hrun]
  simp only [Oper.uponIn]
  refine ⟨fun h => by simp [fw] at h, trivial, fun cs _ => ?_⟩
  obtain ⟨e, w'', fr, ⟨v, rfl, hr, hfr⟩, hs, hf', hl⟩ := hcall cs
  refine ⟨.returned v, w'', fr, ?_, ?_, hf', hl⟩
  · simp only [hd]
    exact hK v w'' ⟨hr, hfr⟩
  · refine StepsIn.mono (fun m _ => ?_) (StepsIn.of_steps hs)
    intro g _
    exact ⟨fun h => by simp [fw] at h, Or.inl trivial, fun _ _ => trivial, fun _ h => by simp [fw] at h⟩
theorem op_dyn1 {a : Act} (ha : Has N E ds a) (ho : ops[i]? = some o) (hw : want N ops E o.guard = some true) (hd : o.dst = some d) {x : Operand} {args : Array Operand} {ts : Array TypeId} (hop : o.op = .call { callee := .value x, args := args, argTypes := ts })
    {u : Value} (hx : ev E x = some u) {v1 : Value} (hvs : allEv E args.toList = some [v1]) {α β : Type} {A : Ty α} {R : List Nat → World → Value → β → Prop} {f : α → Option β} (hu : (Ty.fn1 P A R).is O w u f) (hO : OB O w) {z : α} (hz : A.is O w v1 z) {y : β} (hy : f z = some y) :
    OpK P r ops Q i d a w (fun u w' => R O w' u y ∧ Fr [] w w') := by
  obtain ⟨cs, ⟨g, first, cap, rfl, he, hg⟩, hv⟩ := hu
  have hv : u = .func (.func g) first cap := hv
  subst hv
  exact op_dynk (first := first.toList) (cap := cap.toList) ha ho hw hd hop (by simpa using hx) hvs he (hg O w (Tr.refl _ _) hO v1 z hz y hy)
theorem op_dyn2 {a : Act} (ha : Has N E ds a) (ho : ops[i]? = some o) (hw : want N ops E o.guard = some true) (hd : o.dst = some d) {x : Operand} {args : Array Operand} {ts : Array TypeId} (hop : o.op = .call { callee := .value x, args := args, argTypes := ts })
    {u : Value} (hx : ev E x = some u) {v1 v2 : Value} (hvs : allEv E args.toList = some [v1, v2]) {α α' β : Type} {A : Ty α} {A' : Ty α'} {R : List Nat → World → Value → β → Prop} {f : α → α' → Option β} (hu : (Ty.fn2 P A A' R).is O w u f) (hO : OB O w) {z : α} (hz : A.is O w v1 z) {z' : α'} (hz' : A'.is O w v2 z') {y : β} (hy : f z z' = some y) :
    OpK P r ops Q i d a w (fun u w' => R O w' u y ∧ Fr [] w w') := by
  obtain ⟨cs, ⟨g, first, cap, rfl, he, hg⟩, hv⟩ := hu
  have hv : u = .func (.func g) first cap := hv
  subst hv
  exact op_dynk (first := first.toList) (cap := cap.toList) ha ho hw hd hop (by simpa using hx) hvs he (hg O w (Tr.refl _ _) hO v1 z hz v2 z' hz' y hy)

/-! ### Results that lie in cells -/
def resC (Θ : Tys) (w : World) (E : Env) : List ResultVar → List Value → Prop
  | [], vs => vs = []
  | .tmp t :: l, vs => ∃ v us, vs = v :: us ∧ E.get t = some v ∧ resC Θ w E l us
  | .cell a t :: l, vs => ∃ v us, vs = v :: us ∧ (∃ b tb cs ti, E.get a = some (.pointer (some ⟨b, 0, none⟩)) ∧ Blk w b tb cs ∧ Θ.get t = some ti ∧ cs.length = ti.size ∧ (ti.isAgg = true ∨ ti.size = 1) ∧ valOf ti.isAgg cs = v) ∧ resC Θ w E l us
theorem run_results {fn : Func} {a : Act} {vs : List Value} (hΘ : Θ.ok P) (h : Has N E ds a) (hr : resC Θ w E fn.results.toList vs) : (results fn a.tmps).run P w = .ok (tupOf vs) w := by
  have key : ∀ (F : ResultVar → Sem Value) (_ : ∀ t, F (.tmp t) = pure (a.tmps.getD t undef)) (_ : ∀ b t, F (.cell b t) = do loadVar t (← asAddr (a.tmps.getD b undef))) (l : List ResultVar) (vs : List Value), resC Θ w E l vs → (l.mapM F).run P w = .ok vs w := by
    intro F hF hF2 l
    induction l with
    | nil => intro vs hv; rw [show vs = [] from hv]; simp
    | cons x l ih =>
      intro vs hv
      cases x with
      | tmp t =>
        obtain ⟨v, us, rfl, hx, hl⟩ := hv
        simp only [List.mapM_cons, hF, Sem.run_bind, Sem.run_pure, Result.andThen_ok, ih us hl, h.get t v hx]
      | cell c t =>
        obtain ⟨v, us, rfl, ⟨b, tb, cs, ti, hx, hb, ht, hlen, hag, hv⟩, hl⟩ := hv
        have hc : CellsAt w ⟨b, 0, none⟩ cs := fun j u hj => by
          have : (⟨b, 0, none⟩ : Addr).add j = ⟨b, j, none⟩ := by unfold Addr.add; split <;> simp_all
          rw [this, hb.cell]; exact hj
        have hrun := run_loadAt (P := P) (hΘ.fits ht) hlen hc (fun e => by rcases hag with hag | hag; rw [e] at hag; cases hag; exact hag)
        simp only [Instr.loadAt, Instr.sureAddr, Sem.run_bind, Sem.run_pure, Result.andThen_ok] at hrun
        simp only [List.mapM_cons, hF2, Sem.run_bind, h.get c _ hx, asAddr, Sem.run_pure, Result.andThen_ok, hrun, hv, ih us hl]
  unfold results
  rw [Array.mapM_eq_mapM_toList]
  simp only [Sem.run_bind, Sem.run_map]
  rw [key _ (fun t => rfl) (fun b t => rfl) _ _ hr]
  simp only [Result.andThen_ok, Sem.run_pure]
  congr 1
  match vs with
  | [] => rfl
  | [v] => rfl
  | v :: u :: vs => simp [tupOf]
theorem wq_retc {fn : Func} {R : Ending → World → Prop} {vs : List Value} (hΘ : Θ.ok P) (hr : resC Θ w E fn.results.toList vs) (h : R (.returned (tupOf vs)) w) : WQ N (bodyPostM (fw none) 0 P fn R) .ret E [] w := by
  intro a ha
  show LeavesInM (fw none) 0 P fn a.tmps R a.defers .returning w
  rw [ha.defers]
  exact ⟨_, run_results hΘ ha hr, h⟩
theorem wq_endc {fn : Func} {R : Ending → World → Prop} {vs : List Value} (hΘ : Θ.ok P) (hr : resC Θ w E fn.results.toList vs) (h : R (.returned (tupOf vs)) w) : WQ N (bodyPostM (fw none) 0 P fn R) .normal E [] w := by
  intro a ha
  show LeavesInM (fw none) 0 P fn a.tmps R a.defers .returning w
  rw [ha.defers]
  exact ⟨_, run_results hΘ ha hr, h⟩
end
/-- rows of the call's own, where a box is handed on -/
theorem Own.rel {α : Type} {T : Ty α} {e B : Nat} {O : List Nat} {w : World} {v : Value} {xs : List α} {b : Nat} (h : Own T e B O w v xs) (hne : v.ownBlock ≠ some b) : Own T e B (rel b O) w v xs :=
  h.keep (rel_tr b O w) fun g hg => ⟨rfl, rel_in (h.mem g hg) fun e => hne (by rw [hg, e])⟩

/-! ### append, as the walk's twins have it -/
def app {α : Type} (bytes : Nat) (xs ys : List α) : Option (List α) := if (xs.length + ys.length) * bytes ≤ 140737488355328 then some (xs ++ ys) else none
theorem app_some {α : Type} {bytes : Nat} {xs ys zs : List α} (h : app bytes xs ys = some zs) : (xs.length + ys.length) * bytes ≤ 140737488355328 ∧ zs = xs ++ ys := by
  unfold app at h
  split at h
  · cases h; exact ⟨by assumption, rfl⟩
  · cases h
section
variable {P : Program} {r : Option Nat} {N : Nat} {Θ : Tys} {ops : Array Oper} {Q : Exit → Act → World → Prop} {l : List Nat} {E : Env} {ds : List Deferred} {w : World} {i d : Nat} {o : Oper} {O : List Nat}
theorem wo_app (hΘ : Θ.ok P) (ho : ops[i]? = some o) (hw : want N ops E o.guard = some true) (hd : o.dst = some d) (hN : Nat.blt d N = true) {t : Nat} {x y : Operand} {ti te : TI}
    (hop : o.op = .call { callee := .builtin .append, args := #[x, y], argTypes := #[t, t] }) (ht : Θ.get t = some ti) (h5 : ti.tag = 5) (hte : Θ.get ti.e = some te) {α : Type} {T : Ty α} (hn : T.n = te.size) (hpos : Nat.blt 0 te.size = true) (hz : te.zero.cells.size = te.size) (hb1 : Nat.ble 1 te.bytes = true)
    {w0 : World} {v u : Value} {xs ys zs : List α} (hx : ev E x = some v) (hy : ev E y = some u) (hF : Fr [] w0 w) (hO : OB O w) (hv : Own T ti.e w0.heap.size O w v xs) (hu : T.slice.is O w u ys) (hlen : app te.bytes xs ys = some zs)
    (h : ∀ v' w' O', Appended T ti.e w0.heap.size O w v zs O' w' v' → WO P r N ops Q l ((d, v') :: E) ds w') : WO P r N ops Q (i :: l) E ds w := by
  obtain ⟨hle, rfl⟩ := app_some hlen
  exact wo_append hΘ ho hw hd hN hop ht h5 hte hn (Nat.le_of_ble_eq_true hpos) hz (Nat.le_of_ble_eq_true hb1) hx hy hF.size hO hv hu hle h
end
/-- rows of the call's own that are two -/
def Dj (u v : Value) : Prop := ∀ g, u.ownBlock = some g → v.ownBlock ≠ some g
theorem Dj.symm {u v : Value} (h : Dj u v) : Dj v u := fun g h1 h2 => h g h2 h1
theorem dj_nil (v : Value) : Dj (.slice none 0 0) v := fun g h => by cases h
theorem dj_nil' (v : Value) : Dj v (.slice none 0 0) := fun g _ h => by cases h
theorem nil_ne (b : Nat) : (Value.slice none 0 0).ownBlock ≠ some b := fun h => by cases h
/-- a row of the call's own is shared -/
def relv (v : Value) (O : List Nat) : List Nat := O.filter fun k => v.ownBlock != some k
theorem relv_mem {v : Value} {k : Nat} {O : List Nat} : k ∈ relv v O ↔ k ∈ O ∧ v.ownBlock ≠ some k := by
  unfold relv
  rw [List.mem_filter]
  simp
theorem relv_tr (v : Value) (O : List Nat) (w : World) : Tr O w (relv v O) w := Tr.less fun k hk => (relv_mem.1 hk).1
theorem relv_ob {v : Value} {O : List Nat} {w : World} (h : OB O w) : OB (relv v O) w := fun k hk => h k (relv_mem.1 hk).1
theorem relv_in {v : Value} {c : Nat} {O : List Nat} (h : c ∈ O) (hne : v.ownBlock ≠ some c) : c ∈ relv v O := relv_mem.2 ⟨h, hne⟩
section
variable {α β : Type} {T : Ty α} {S : Ty β} {e e2 : Nat} {O O0 : List Nat} {w w0 w' : World} {u v : Value} {xs : List α} {ys : List β}
theorem relv_sub (h : Own T e w0.heap.size O w v xs) (hS : Sub O0 O) (h0 : OB O0 w0) : Sub O0 (relv v O) := fun k hk => relv_mem.2 ⟨hS k hk, fun hg => by have := (h.lt k hg).1; have := h0 k hk; omega⟩
theorem Own.give {B : Nat} (h : Own T e B O w v xs) : T.slice.is (relv v O) w v xs := h.share (fun k hk => (relv_mem.1 hk).1) fun g hg ho => (relv_mem.1 ho).2 hg
theorem Own.relv {B : Nat} (h : Own S e2 B O w u ys) (hd : Dj u v) : Own S e2 B (relv v O) w u ys :=
  h.keep (relv_tr v O w) fun g hg => ⟨rfl, relv_in (h.mem g hg) (hd g hg)⟩
theorem Appended.dj {B : Nat} {O' : List Nat} {v' : Value} {zs : List α} (h : Appended T e B O w v zs O' w' v') (hu : Own S e2 B O w u ys) (hd : Dj u v) : Dj u v' := fun g hg => h.ne g (hu.lt g hg).2 (hd g hg)
theorem Appended.other' {B : Nat} {O' : List Nat} {v' : Value} {zs : List α} (h : Appended T e B O w v zs O' w' v') (hu : Own S e2 B O w u ys) (hd : Dj u v) : Own S e2 B O' w' u ys := h.other hu hd
theorem Own.dj_lit {B b t : Nat} {cs : List Value} (h : Own T e B O w v xs) (hn : New O w b t cs w') (n c : Nat) : Dj v (.slice (some ⟨b, 0, none⟩) n c) := fun g hg hb => by
  cases hb
  have h1 : b < w.heap.size := (h.lt _ hg).2
  have := hn.ge; omega
end
theorem lit_ne {b c n m : Nat} (h : c ≠ b) : (Value.slice (some ⟨b, 0, none⟩) n m).ownBlock ≠ some c := fun e => by cases e; exact h rfl
theorem Lit.tr {α : Type} {T : Ty α} {e b n : Nat} {O : List Nat} {w w' : World} {xs : List α} (h : Lit T e O w b n xs w') : Tr O w (b :: O) w' := let ⟨_, h, _⟩ := h.new; h.tr
theorem Lit.ob {α : Type} {T : Ty α} {e b n : Nat} {O : List Nat} {w w' : World} {xs : List α} (h : Lit T e O w b n xs w') : OB (b :: O) w' := let ⟨_, h, _⟩ := h.new; h.ob
theorem Lit.ge {α : Type} {T : Ty α} {e b n : Nat} {O : List Nat} {w w' : World} {xs : List α} (h : Lit T e O w b n xs w') : w.heap.size ≤ b := let ⟨_, h, _⟩ := h.new; h.ge
end Go.Dc
