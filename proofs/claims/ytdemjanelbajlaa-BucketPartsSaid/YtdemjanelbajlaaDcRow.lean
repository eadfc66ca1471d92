/- Arguments and listed variables, read as data: what they are in the walk's own terms. -/
import Derived.Test.YtdemjanelbajlaaDcMem
import Derived.ProofKit
import Derived.OpenShut
import Derived.Lib.LaidTab
namespace Go.Dc
open Go.RowKit

/-- what a reading of a type's cells gives -/
structure Opn {α : Type} (P : Program) (t : TypeId) (T : Ty α) (D : {H : Type} → DataW H → α → Prop) : Prop where
  cells : P.cellsOf t = T.n
  shape : ∀ {w : World} {b : Nat} {v : Value}, Value.okWide P w .any b t v → v = T.mk' v.cells.toList
  opn : ∀ {H : Type} {enc : TypeId × Value → H} {w : World} {held : Bool} {fuel : Nat} {cs : List Value} {d : DataW H} {p : List MemPlace}, DataW.trod enc P w 0 (fun _ => true) held fuel t cs = some (d, p) → w.noneFrozen p → ∃ x, T.rep [] w cs x ∧ D d x
section
variable {P : Program} {t : TypeId}
def DInt (k : IntKind) {H : Type} (d : DataW H) (x : Int) : Prop := d = .lit (.int k x) ∧ (Lit.int k x).wf = true
def DBool {H : Type} (d : DataW H) (x : Bool) : Prop := d = .lit (.bool x)
theorem opn_int {k : IntKind} (hu : P.underlying t = some (.int k)) (hc : P.cellsOf t = 1) : Opn P t (Ty.int k) (DInt k) where
  cells := hc
  shape {w b v} h := by
    simp only [Value.okWide, hu, Cell.okWide] at h
    unfold Cell.ok at h
    rw [hu] at h
    cases v <;> simp_all [Ty.mk', Ty.int, Value.cells]
  opn {H enc w held fuel cs d p} h _ := by
    obtain ⟨n, rfl, hx, hw⟩ := DataW.trod_int hu h
    cases hx
    exact ⟨n, rfl, rfl, hw⟩
theorem opn_bool (hu : P.underlying t = some .bool) (hc : P.cellsOf t = 1) : Opn P t Ty.bool DBool where
  cells := hc
  shape {w b v} h := by
    simp only [Value.okWide, hu, Cell.okWide] at h
    unfold Cell.ok at h
    rw [hu] at h
    cases v <;> simp_all [Ty.mk', Ty.bool, Value.cells]
  opn {H enc w held fuel cs d p} h _ := by
    obtain ⟨b, rfl, hx⟩ := DataW.trod_bool hu h
    cases hx
    exact ⟨b, rfl, rfl⟩
/-- elements, one by one -/
def DAll {α : Type} (D : {H : Type} → DataW H → α → Prop) {H : Type} : List (DataW H) → List α → Prop
  | [], xs => xs = []
  | d :: ds, xs => ∃ y ys, xs = y :: ys ∧ D d y ∧ DAll D ds ys
def DSlice {α : Type} (D : {H : Type} → DataW H → α → Prop) {H : Type} (d : DataW H) (xs : List α) : Prop :=
  match d with
  | .nil => xs = []
  | .slice es _ => DAll D es xs
  | _ => False
theorem DAll.len {α : Type} {D : {H : Type} → DataW H → α → Prop} {H : Type} : ∀ {ds : List (DataW H)} {xs : List α}, DAll D ds xs → ds.length = xs.length
  | [], _, h => by rw [show _ = [] from h]; rfl
  | _ :: _, _, ⟨y, ys, h, _, h2⟩ => by subst h; simp [DAll.len h2]
theorem DAll.mem {α : Type} {D : {H : Type} → DataW H → α → Prop} {H : Type} : ∀ {ds : List (DataW H)} {xs : List α}, DAll D ds xs → ∀ x ∈ xs, ∃ d ∈ ds, D d x
  | [], _, h, x, hx => by rw [show _ = [] from h] at hx; cases hx
  | d :: _, _, ⟨y, ys, h, h1, h2⟩, x, hx => by
    subst h
    rcases List.mem_cons.1 hx with rfl | hx
    · exact ⟨d, List.mem_cons_self, h1⟩
    · obtain ⟨e, he, h⟩ := DAll.mem h2 x hx
      exact ⟨e, List.mem_cons_of_mem _ he, h⟩
theorem DSlice.mem {α : Type} {D : {H : Type} → DataW H → α → Prop} {H : Type} {d : DataW H} {xs : List α} (h : DSlice D d xs) : ∀ x ∈ xs, ∃ e : DataW H, D e x := by
  intro x hx
  unfold DSlice at h
  split at h
  · subst h; cases hx
  · obtain ⟨e, _, he⟩ := DAll.mem h x hx; exact ⟨e, he⟩
  · exact h.elim
theorem dall_of {α : Type} {D : {H : Type} → DataW H → α → Prop} {H : Type} {R : Nat → α → Prop} : ∀ (ds : List (DataW H)) (o : Nat), (∀ k d, ds[k]? = some d → ∃ x, R (o + k) x ∧ D d x) → ∃ xs, DAll D ds xs ∧ ∀ (k : Nat) x, xs[k]? = some x → R (o + k) x
  | [], _, _ => ⟨[], rfl, fun k x h => by simp at h⟩
  | d :: ds, o, h => by
    obtain ⟨x, hx, hd⟩ := h 0 d rfl
    obtain ⟨xs, h1, h2⟩ := dall_of (R := R) ds (o + 1) (fun k e he => by
      have := h (k + 1) e (by simpa using he)
      rwa [show o + (k + 1) = o + 1 + k by omega] at this)
    refine ⟨x :: xs, ⟨x, xs, rfl, hd, h1⟩, fun k y hy => ?_⟩
    cases k with
    | zero => simp at hy; subst hy; simpa using hx
    | succ k =>
      have := h2 k y (by simpa using hy)
      rwa [show o + (k + 1) = o + 1 + k by omega]
theorem block_lt {w : World} {a : Addr} {u : Value} (h : w.cell? a = some u) : a.block < w.heap.size := by
  unfold World.cell? at h
  split at h
  · rename_i hh; exact (Array.getElem?_eq_some_iff.1 hh).1
  · cases h
theorem add_off (a : Addr) (n : Nat) : (a.add n).off = a.off + n := by unfold Addr.add; split <;> simp_all
theorem opn_slice {α : Type} {e : TypeId} {T : Ty α} {D : {H : Type} → DataW H → α → Prop} (hu : P.underlying t = some (.slice e)) (hc : P.cellsOf t = 1) (he : Opn P e T D) (hn : 0 < T.n) : Opn P t T.slice (DSlice D) where
  cells := hc
  shape {w b v} h := by
    obtain ⟨a, len, cap, rfl⟩ := WideShapes.okWide_slice hu h
    rfl
  opn {H enc w held fuel cs d p} h hfz := by
    rcases DataW.trod_slice hu h with ⟨rfl, hx⟩ | ⟨a, len, cap, elems, rest, n, rfl, rfl, hx, _, hlc, hcm, hlen, hel, _, _⟩
    · cases hx
      exact ⟨[], ⟨none, 0, rfl, ⟨Nat.le_refl _, by unfold maxLen; omega⟩, fun k x h => by simp at h⟩, rfl⟩
    · cases hx
      have key : ∀ (k : Nat) (x : DataW H), (elems.map (·.1))[k]? = some x → ∃ y, (a.block < w.heap.size ∧ ∃ es, T.rep [] w es y ∧ CellsF w (a.add ((0 + k) * T.n)) es) ∧ D x y := by
        intro k x hk
        have hkl : k < len := by
          have := (List.getElem?_eq_some_iff.1 hk).1
          simpa [hlen] using this
        have hb1 : elems[k]? = some elems[k] := List.getElem?_eq_getElem (by omega)
        have hb2 := hel k hkl
        rw [hb1] at hb2
        simp only [Option.bind_eq_some_iff] at hb2
        obtain ⟨cs, hcs, htr⟩ := hb2
        have hx : x = elems[k].1 := by
          rw [List.getElem?_map, hb1] at hk
          simpa using hk.symm
        obtain ⟨y, hy1, hy2⟩ := he.opn (d := elems[k].1) (p := elems[k].2) htr (fun b off hm => hfz b off (List.mem_append_right _ (List.mem_flatMap.2 ⟨elems[k], List.mem_append_left _ (List.getElem_mem _), hm⟩)))
        obtain ⟨_, hl, hcell⟩ := World.cells?_some hcs
        rw [he.cells] at hl hcell
        have hpos : 0 < cs.length := by omega
        refine ⟨y, ⟨?_, cs, hy1, fun j u hj => ?_, fun j hj => ?_⟩, by rw [hx]; exact hy2⟩
        · have h0 := hcell 0 (by omega)
          rw [List.getElem?_eq_getElem hpos] at h0
          have := block_lt h0
          simpa [add_block] using this
        · have hjl : j < T.n := by have := (List.getElem?_eq_some_iff.1 hj).1; omega
          rw [Nat.zero_add, hcell j hjl]
          exact hj
        · have hlt : (0 + k) * T.n + j < (elems.length + rest.length) * P.cellsOf e := by
            rw [he.cells, Nat.zero_add]
            have : (k + 1) * T.n ≤ (elems.length + rest.length) * T.n := Nat.mul_le_mul_right _ (by omega)
            rw [Nat.succ_mul] at this
            omega
          have := hfz a.block (a.off + ((0 + k) * T.n + j)) (List.mem_append_left _ (MemPlace.mem_row.2 ⟨_, hlt, rfl⟩))
          rw [add_add]
          simp only [World.frozen?, add_block, add_off] at this ⊢
          exact this
      obtain ⟨xs, h1, h2⟩ := dall_of (R := fun k y => a.block < w.heap.size ∧ ∃ es, T.rep [] w es y ∧ CellsF w (a.add (k * T.n)) es) (elems.map (·.1)) 0 (fun k x hk => key k x hk)
      have hxl : xs.length = len := by rw [← h1.len]; simpa using hlen
      refine ⟨xs, ⟨some a, cap, by rw [hxl], ⟨by omega, hcm⟩, fun k x hk => ?_⟩, h1⟩
      obtain ⟨hbk, es, hr, hce⟩ := h2 k x hk
      exact ⟨a, es, rfl, hbk, by simp, hr, by simpa using hce⟩
/-- a struct's fields, from one on -/
structure OpnF {α : Type} (P : Program) (o : Nat) (fs : List Field) (T : Ty α) (D : {H : Type} → List (DataW H) → α → Prop) : Prop where
  opn : ∀ {H : Type} {enc : TypeId × Value → H} {w : World} {held : Bool} {fuel : Nat} {cs : List Value} {xs : List (DataW H × List MemPlace)}, xs.length = fs.length →
    (∀ (i : Nat) (f : Field), fs[i]? = some f → DataW.trod enc P w 0 (fun _ => true) held fuel f.type ((cs.drop f.offset).take (P.cellsOf f.type)) = xs[i]?) → w.noneFrozen (xs.flatMap (·.2)) →
    ∃ x, T.rep [] w ((cs.drop o).take T.n) x ∧ D (xs.map (·.1)) x
def DOne {α : Type} (D : {H : Type} → DataW H → α → Prop) {H : Type} (ds : List (DataW H)) (x : α) : Prop := ∃ d, ds = [d] ∧ D d x
def DCons {α β : Type} (D : {H : Type} → DataW H → α → Prop) (E : {H : Type} → List (DataW H) → β → Prop) {H : Type} (ds : List (DataW H)) (x : α × β) : Prop := ∃ d r, ds = d :: r ∧ D d x.1 ∧ E r x.2
theorem opnF_one {α : Type} {o : Nat} {f : Field} {T : Ty α} {D : {H : Type} → DataW H → α → Prop} (ho : f.offset = o) (h : Opn P f.type T D) : OpnF P o [f] T (DOne D) where
  opn {H enc w held fuel cs xs} hl hm hfz := by
    obtain ⟨y, rfl⟩ : ∃ y, xs = [y] := List.length_eq_one_iff.1 hl
    have hy := hm 0 f rfl
    obtain ⟨x, h1, h2⟩ := h.opn (d := y.1) (p := y.2) hy (fun b off hm => hfz b off (by simpa using hm))
    rw [ho, h.cells] at h1
    exact ⟨x, h1, y.1, rfl, h2⟩
theorem opnF_cons {α β : Type} {o o' : Nat} {f : Field} {fs : List Field} {T : Ty α} {S : Ty β} {D : {H : Type} → DataW H → α → Prop} {E : {H : Type} → List (DataW H) → β → Prop} (ho : f.offset = o) (h : Opn P f.type T D) (ho' : o' = o + T.n) (hs : OpnF P o' fs S E) :
    OpnF P o (f :: fs) (Ty.pair T S) (DCons D E) where
  opn {H enc w held fuel cs xs} hl hm hfz := by
    cases xs with
    | nil => simp at hl
    | cons y r =>
      have hy := hm 0 f rfl
      obtain ⟨x, h1, h2⟩ := h.opn (d := y.1) (p := y.2) hy (fun b off hm => hfz b off (by simp [hm]))
      obtain ⟨z, h3, h4⟩ := hs.opn (xs := r) (by simpa using hl) (fun i g hg => by simpa using hm (i + 1) g (by simpa using hg)) (fun b off hm => hfz b off (by rw [List.flatMap_cons]; exact List.mem_append_right _ hm))
      rw [ho, h.cells] at h1
      refine ⟨(x, z), ⟨_, _, ?_, h1, h3⟩, y.1, r.map (·.1), rfl, h2, h4⟩
      show (cs.drop o).take (T.n + S.n) = _
      rw [List.take_add, List.drop_drop, ho']
theorem opnF_single {α : Type} {o : Nat} {fs : List Field} {T : Ty α} {D : {H : Type} → List (DataW H) → α → Prop} (h : OpnF P o fs T D) : OpnF P o fs (Ty.single T) D where
  opn hl hm hfz := h.opn hl hm hfz
def DStruct {α β : Type} (E : {H : Type} → List (DataW H) → α → Prop) (f : β → α) {H : Type} (d : DataW H) (x : β) : Prop := ∃ ds, d = .agg ds ∧ E ds (f x)
theorem opn_struct {α β : Type} {fs : Array Field} {T : Ty α} {E : {H : Type} → List (DataW H) → α → Prop} (f : β → α) (g : α → β) (hfg : ∀ x, f (g x) = x) (hu : P.underlying t = some (.struct fs)) (hc : P.cellsOf t = T.n) (ha : T.agg = true) (h : OpnF P 0 fs.toList T E) : Opn P t (T.iso f) (DStruct E f) where
  cells := hc
  shape {w b v} h := by
    simp only [Value.okWide, hu] at h
    obtain ⟨cs, rfl, _⟩ := h
    simp [Ty.mk', Ty.iso, ha, Value.cells]
  opn {H enc w held fuel cs d p} hd hfz := by
    obtain ⟨xs, n, rfl, hx, hl, hxl, hi⟩ := DataW.trod_struct hu hd
    cases hx
    obtain ⟨x, h1, h2⟩ := h.opn (xs := xs) (cs := cs) (by simpa using hxl) (fun i g hg => hi i g (by simpa using hg)) hfz
    rw [List.drop_zero, List.take_of_length_le (by omega)] at h1
    exact ⟨g x, by show T.rep [] w cs (f (g x)); rw [hfg]; exact h1, _, rfl, by rw [hfg]; exact h2⟩
/-- an array of two, as a struct -/
theorem opn_arr2 {α β : Type} {e : TypeId} {T : Ty α} {D : {H : Type} → DataW H → α → Prop} (f : β → α × α) (g : α × α → β) (hfg : ∀ x, f (g x) = x) (hu : P.underlying t = some (.array 2 e)) (hc : P.cellsOf t = 2) (h : Opn P e T D) (h1 : T.n = 1) : Opn P t ((Ty.pair T T).iso f) (DStruct (DCons D (DOne D)) f) where
  cells := by rw [hc]; show 2 = T.n + T.n; rw [h1]
  shape {w b v} hs := by
    simp only [Value.okWide, hu] at hs
    obtain ⟨cs, rfl, _⟩ := hs
    simp [Ty.mk', Ty.iso, Ty.pair, Value.cells]
  opn {H enc w held fuel cs d p} hd hfz := by
    obtain ⟨xs, n, rfl, hx, hl, hxl, hi⟩ := DataW.trod_array hu hd
    cases hx
    obtain ⟨a, b, rfl⟩ : ∃ a b, xs = [a, b] := by
      match xs, hxl with
      | [a, b], _ => exact ⟨a, b, rfl⟩
    have i0 := hi 0 (by omega)
    have i1 := hi 1 (by omega)
    obtain ⟨x, hx1, hx2⟩ := h.opn (d := a.1) (p := a.2) i0 (fun b off hm => hfz b off (by simp [hm]))
    obtain ⟨y, hy1, hy2⟩ := h.opn (d := b.1) (p := b.2) i1 (fun b off hm => hfz b off (by simp [hm]))
    rw [h.cells, h1] at hx1 hy1
    refine ⟨g (x, y), ?_, _, rfl, ?_⟩
    · show (Ty.pair T T).rep [] w cs (f (g (x, y)))
      rw [hfg]
      refine ⟨_, _, ?_, hx1, hy1⟩
      rw [hc] at hl
      match cs, hl with
      | [u, v], _ => rfl
    · rw [hfg]; exact ⟨_, _, rfl, hx2, _, rfl, hy2⟩
/-- an argument -/
theorem Opn.arg {α : Type} {T : Ty α} {D : {H : Type} → DataW H → α → Prop} (h : Opn P t T D) {H : Type} {enc : TypeId × Value → H} {w : World} {held : Bool} {v : Value} {d : DataW H} {p : List MemPlace} {b : Nat} (hs : Value.okWide P w .any b t v)
    (hd : DataW.Trod enc P w 0 (fun _ => true) held t v d p) (hfz : w.noneFrozen p) : ∃ x, T.is [] w v x ∧ D d x := by
  obtain ⟨fuel, hf⟩ := hd
  obtain ⟨x, h1, h2⟩ := h.opn hf hfz
  exact ⟨x, ⟨_, h1, h.shape hs⟩, h2⟩
end
/-- nothing that was there has turned -/
theorem Fr.grown {w w' : World} (h : Fr [] w w') : Below w.heap.size w w' := h.below
/-- arguments that read as they did -/
theorem args_same {H : Type} {enc : TypeId × Value → H} {P : Program} {W W' : World} (hl : laidOutB P = true) : ∀ {ts : List TypeId} {vs : List Value} {ds : List (DataW H)} {ps : List MemPlace}, (∀ t ∈ ts, P.readableRec t = true ∧ t < P.types.size) → DataW.TrodAll enc P W 0 (fun _ => true) true ts vs ds ps → Below W.heap.size W W' → (∀ x ∈ ps, x.block < W.heap.size) →
    ∀ sp : Nat → Bool, (∀ p ∈ ps, sp p.block = true) → DataW.TrodAll enc P W' 0 sp true ts vs ds ps
  | [], [], [], _, _, h, _, _, _, _ => h
  | _ :: _, _ :: _, _ :: _, _, ht, ⟨p, q, h1, h2, e⟩, hb, hlt, sp, hs => by
    subst e
    refine ⟨p, q, ?_, args_same hl (fun t h => ht t (List.mem_cons_of_mem _ h)) h2 hb (fun x hx => hlt x (List.mem_append_right _ hx)) sp (fun x hx => hs x (List.mem_append_right _ hx)), rfl⟩
    exact WideElems.Trod_stays hl (ht _ List.mem_cons_self).1 (ht _ List.mem_cons_self).2 h1 (fun x hx => hb.same (hlt x (List.mem_append_left _ hx))) (fun x hx => hs x (List.mem_append_left _ hx))
end Go.Dc
