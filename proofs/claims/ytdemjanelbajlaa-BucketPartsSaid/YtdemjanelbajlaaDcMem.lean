/- Memory: data that lie outside a list of owned blocks; types as relations between cells and plain values. -/
import Derived.Test.YtdemjanelbajlaaDcStep
import Derived.Laws.Cells
import Derived.Laws.Rows
import Derived.Laws.Tables
import Derived.Deep.MidRow
import Derived.IntWalk
namespace Go.Dc
open Go.RowKit

/-- Whatever lies outside the blocks O stays as it is, and outside the blocks O'. -/
structure Tr (O : List Nat) (w : World) (O' : List Nat) (w' : World) : Prop where
  os : w'.os = w.os
  tape : w'.tape = w.tape
  output : w'.output = w.output
  size : w.heap.size ≤ w'.heap.size
  keep : ∀ k, k < w.heap.size → k ∉ O → k ∉ O' ∧ w'.heap[k]? = w.heap[k]?
theorem Tr.refl (O : List Nat) (w : World) : Tr O w O w := ⟨rfl, rfl, rfl, Nat.le_refl _, fun _ _ h => ⟨h, rfl⟩⟩
theorem Tr.trans {O O' O'' : List Nat} {w w' w'' : World} (h : Tr O w O' w') (k : Tr O' w' O'' w'') : Tr O w O'' w'' :=
  ⟨k.os.trans h.os, k.tape.trans h.tape, k.output.trans h.output, Nat.le_trans h.size k.size, fun i hi ho =>
    let ⟨h1, h2⟩ := h.keep i hi ho
    let ⟨k1, k2⟩ := k.keep i (Nat.lt_of_lt_of_le hi h.size) h1
    ⟨k1, k2.trans h2⟩⟩
theorem Tr.less {O O' : List Nat} {w : World} (h : ∀ k, k ∈ O' → k ∈ O) : Tr O w O' w := ⟨rfl, rfl, rfl, Nat.le_refl _, fun k _ ho => ⟨fun h' => ho (h k h'), rfl⟩⟩
def Sub (O O' : List Nat) : Prop := ∀ k, k ∈ O → k ∈ O'
theorem Sub.refl (O : List Nat) : Sub O O := fun _ h => h
theorem Sub.trans {A B C : List Nat} (h : Sub A B) (k : Sub B C) : Sub A C := fun x hx => k x (h x hx)
theorem Sub.cons {O O' : List Nat} (h : Sub O O') (b : Nat) : Sub O (b :: O') := fun k hk => List.mem_cons_of_mem _ (h k hk)
theorem one_in {b : Nat} {O : List Nat} (h : b ∈ O) : ∀ k, k ∈ [b] → k ∈ O := fun k hk => by simp at hk; subst hk; exact h
/-- the owned blocks are there -/
def OB (O : List Nat) (w : World) : Prop := ∀ k, k ∈ O → k < w.heap.size
/-- all old blocks but those of S are as they were -/
structure Fr (S : List Nat) (w w' : World) : Prop where
  os : w'.os = w.os
  tape : w'.tape = w.tape
  output : w'.output = w.output
  size : w.heap.size ≤ w'.heap.size
  block : ∀ k, k < w.heap.size → k ∉ S → w'.heap[k]? = w.heap[k]?
theorem Fr.refl (S : List Nat) (w : World) : Fr S w w := ⟨rfl, rfl, rfl, Nat.le_refl _, fun _ _ _ => rfl⟩
theorem Fr.trans {S : List Nat} {w w' w'' : World} (h : Fr S w w') (k : Fr S w' w'') : Fr S w w'' :=
  ⟨k.os.trans h.os, k.tape.trans h.tape, k.output.trans h.output, Nat.le_trans h.size k.size, fun i hi ho => (k.block i (Nat.lt_of_lt_of_le hi h.size) ho).trans (h.block i hi ho)⟩
theorem Fr.more {S S' : List Nat} {w w' : World} (h : Fr S w w') (hs : ∀ k, k ∈ S → k ∈ S') : Fr S' w w' := ⟨h.os, h.tape, h.output, h.size, fun i hi ho => h.block i hi fun h' => ho (hs i h')⟩
theorem Fr.tr {S O : List Nat} {w w' : World} (h : Fr S w w') (hs : ∀ k, k ∈ S → k ∈ O) : Tr O w O w' := ⟨h.os, h.tape, h.output, h.size, fun i hi ho => ⟨ho, h.block i hi fun h' => ho (hs i h')⟩⟩
theorem Fr.tr0 {O : List Nat} {w w' : World} (h : Fr [] w w') : Tr O w O w' := h.tr fun _ hk => by cases hk
theorem Fr.ob {S O : List Nat} {w w' : World} (h : Fr S w w') (hO : OB O w) : OB O w' := fun k hk => Nat.lt_of_lt_of_le (hO k hk) h.size
theorem Fr.below {w w' : World} (h : Fr [] w w') : Below w.heap.size w w' := ⟨h.os, h.tape, h.output, h.size, fun k hk => h.block k hk (by simp)⟩
theorem Fr.drew (S : List Nat) (w : World) : Fr S w w.drew := ⟨rfl, rfl, rfl, Nat.le_refl _, fun _ _ _ => rfl⟩

/-- block b is just these cells -/
def Blk (w : World) (b t : Nat) (cs : List Value) : Prop := w.heap[b]? = some (.cells cs.toArray t (0, 0))
theorem Blk.lt {w : World} {b t : Nat} {cs : List Value} (h : Blk w b t cs) : b < w.heap.size := by
  rcases Nat.lt_or_ge b w.heap.size with hlt | hge
  · exact hlt
  · unfold Blk at h; rw [Array.getElem?_eq_none hge] at h; cases h
theorem Blk.fr {S : List Nat} {w w' : World} {b t : Nat} {cs : List Value} (h : Blk w b t cs) (hf : Fr S w w') (hb : b ∉ S) : Blk w' b t cs := (hf.block b h.lt hb).trans h
theorem Blk.fr0 {w w' : World} {b t : Nat} {cs : List Value} (h : Blk w b t cs) (hf : Fr [] w w') : Blk w' b t cs := h.fr hf (by simp)
theorem Blk.cell {w : World} {b t : Nat} {cs : List Value} (h : Blk w b t cs) (j : Nat) : w.cell? ⟨b, j, none⟩ = cs[j]? := by
  rw [cell_of_row w b j cs.toArray t (0, 0) h]; simp
theorem Blk.frozen {w : World} {b t : Nat} {cs : List Value} (h : Blk w b t cs) (j : Nat) : w.frozen? ⟨b, j, none⟩ = false := frozen_of_row w b j cs.toArray t h
theorem Blk.ne {w : World} {b b' t t' : Nat} {cs cs' : List Value} (h : Blk w b t cs) (h' : Blk w b' t' cs') (ht : t ≠ t') : b ≠ b' := by
  rintro rfl
  unfold Blk at h h'
  rw [h] at h'
  simp at h'
  exact ht h'.2

/-- a new block of the call's own -/
structure New (O : List Nat) (w : World) (b t : Nat) (cs : List Value) (w' : World) : Prop where
  blk : Blk w' b t cs
  fr : Fr [] w w'
  tr : Tr O w (b :: O) w'
  ob : OB (b :: O) w'
  ge : w.heap.size ≤ b
theorem new_alloc {O : List Nat} {w : World} (hO : OB O w) (t : Nat) (cs : List Value) : New O w w.heap.size t cs (w.alloc (.cells cs.toArray t)) :=
  ⟨heap_alloc_new _ _, ⟨rfl, rfl, rfl, by simp, fun k hk _ => Below.heap_alloc _ _ _ hk⟩,
   ⟨rfl, rfl, rfl, by simp, fun k hk ho => ⟨by simp; exact ⟨by omega, ho⟩, Below.heap_alloc _ _ _ hk⟩⟩,
   fun k hk => by simp at hk ⊢; rcases hk with rfl | hk; omega; have := hO k hk; omega, Nat.le_refl _⟩

/-! ### Types as relations -/
structure Ty (α : Type) where
  agg : Bool
  n : Nat
  rep : List Nat → World → List Value → α → Prop
  tr : ∀ {O w O' w' cs x}, Tr O w O' w' → rep O w cs x → rep O' w' cs x
  len : ∀ {O w cs x}, rep O w cs x → cs.length = n
  one : ∀ {O w cs x}, rep O w cs x → ∀ u ∈ cs, u.oneCell' = true
  sing : agg = false → n = 1
def Ty.mk' {α : Type} (T : Ty α) (cs : List Value) : Value := bif T.agg then .agg cs.toArray else cs.headD undef
def Ty.is {α : Type} (T : Ty α) (O : List Nat) (w : World) (v : Value) (x : α) : Prop := ∃ cs, T.rep O w cs x ∧ v = T.mk' cs
theorem Ty.is.tr {α : Type} {T : Ty α} {O O' : List Nat} {w w' : World} {v : Value} {x : α} (h : T.is O w v x) (ht : Tr O w O' w') : T.is O' w' v x :=
  let ⟨cs, hr, hv⟩ := h; ⟨cs, T.tr ht hr, hv⟩
theorem Ty.cells {α : Type} {T : Ty α} {O : List Nat} {w : World} {cs : List Value} {x : α} (h : T.rep O w cs x) : (T.mk' cs).cells.toList = cs := by
  unfold Ty.mk'
  cases ha : T.agg with
  | true => simp [Value.cells]
  | false =>
    have hl := T.len h
    rw [T.sing ha] at hl
    match cs, hl with
    | [c], _ =>
      have := T.one h c (by simp)
      simp only [cond_false, List.headD_cons]
      cases c <;> simp [Value.cells, Value.oneCell'] at this ⊢
def Ty.int (k : IntKind) : Ty Int where
  agg := false
  n := 1
  rep _ _ cs x := cs = [.int k x]
  tr _ h := h
  len h := by subst h; rfl
  one h u hu := by subst h; simp at hu; subst hu; rfl
  sing _ := rfl
def Ty.bool : Ty Bool where
  agg := false
  n := 1
  rep _ _ cs x := cs = [.bool x]
  tr _ h := h
  len h := by subst h; rfl
  one h u hu := by subst h; simp at hu; subst hu; rfl
  sing _ := rfl
def Ty.str : Ty ByteArray where
  agg := false
  n := 1
  rep _ _ cs x := cs = [.string x]
  tr _ h := h
  len h := by subst h; rfl
  one h u hu := by subst h; simp at hu; subst hu; rfl
  sing _ := rfl
theorem int_is {k : IntKind} {O : List Nat} {w : World} {v : Value} {x : Int} : (Ty.int k).is O w v x ↔ v = .int k x :=
  ⟨fun ⟨cs, h, hv⟩ => by subst h; exact hv, fun h => ⟨_, rfl, h⟩⟩
theorem bool_is {O : List Nat} {w : World} {v : Value} {x : Bool} : Ty.bool.is O w v x ↔ v = .bool x :=
  ⟨fun ⟨cs, h, hv⟩ => by subst h; exact hv, fun h => ⟨_, rfl, h⟩⟩
theorem str_is {O : List Nat} {w : World} {v : Value} {x : ByteArray} : Ty.str.is O w v x ↔ v = .string x :=
  ⟨fun ⟨cs, h, hv⟩ => by subst h; exact hv, fun h => ⟨_, rfl, h⟩⟩
/-- a struct: one field's cells, and those of the fields behind it -/
def Ty.pair {α β : Type} (A : Ty α) (B : Ty β) : Ty (α × β) where
  agg := true
  n := A.n + B.n
  rep O w cs x := ∃ c1 c2, cs = c1 ++ c2 ∧ A.rep O w c1 x.1 ∧ B.rep O w c2 x.2
  tr ht := fun ⟨c1, c2, h, h1, h2⟩ => ⟨c1, c2, h, A.tr ht h1, B.tr ht h2⟩
  len := fun ⟨c1, c2, h, h1, h2⟩ => by subst h; rw [List.length_append, A.len h1, B.len h2]
  one := fun ⟨c1, c2, h, h1, h2⟩ u hu => by
    subst h
    rcases List.mem_append.1 hu with hu | hu
    · exact A.one h1 u hu
    · exact B.one h2 u hu
  sing h := by cases h
/-- a struct of one field -/
def Ty.single {α : Type} (A : Ty α) : Ty α where
  agg := true
  n := A.n
  rep := A.rep
  tr := A.tr
  len := A.len
  one := A.one
  sing h := by cases h
def Ty.iso {α β : Type} (T : Ty α) (f : β → α) : Ty β where
  agg := T.agg
  n := T.n
  rep O w cs x := T.rep O w cs (f x)
  tr := T.tr
  len := T.len
  one := T.one
  sing := T.sing
theorem iso_is {α β : Type} {T : Ty α} {f : β → α} {O : List Nat} {w : World} {v : Value} {x : β} : (T.iso f).is O w v x ↔ T.is O w v (f x) := Iff.rfl

/-- the cells from an address on -/
def CellsAt (w : World) (ad : Addr) (cs : List Value) : Prop := ∀ j u, cs[j]? = some u → w.cell? (ad.add j) = some u
theorem add_block (a : Addr) (n : Nat) : (a.add n).block = a.block := by unfold Addr.add; split <;> rfl
theorem add_add (a : Addr) (i j : Nat) : (a.add i).add j = a.add (i + j) := by
  unfold Addr.add
  by_cases hi : i = 0 <;> by_cases hj : j = 0 <;> simp [hi, hj, Nat.add_assoc]
theorem cell_keep {w w' : World} {p : Addr} (h : w'.heap[p.block]? = w.heap[p.block]?) : w'.cell? p = w.cell? p := World.cell?_of_block (w := w) h
theorem CellsAt.keep {w w' : World} {ad : Addr} {cs : List Value} (h : CellsAt w ad cs) (hk : w'.heap[ad.block]? = w.heap[ad.block]?) : CellsAt w' ad cs :=
  fun j u hu => (cell_keep (by rw [add_block]; exact hk)).trans (h j u hu)

/-- and may be written -/
def CellsF (w : World) (ad : Addr) (cs : List Value) : Prop := CellsAt w ad cs ∧ ∀ j, j < cs.length → w.frozen? (ad.add j) = false
theorem CellsF.keep {w w' : World} {ad : Addr} {cs : List Value} (h : CellsF w ad cs) (hk : w'.heap[ad.block]? = w.heap[ad.block]?) : CellsF w' ad cs :=
  ⟨h.1.keep hk, fun j hj => (World.frozen?_of_block (w := w) (by rw [add_block]; exact hk)).trans (h.2 j hj)⟩
def Ty.ptr {α : Type} (T : Ty α) : Ty α where
  agg := false
  n := 1
  rep O w cs x := ∃ ad es, cs = [.pointer (some ad)] ∧ ad.block < w.heap.size ∧ ad.block ∉ O ∧ T.rep O w es x ∧ CellsF w ad es
  tr ht := fun ⟨ad, es, h, hb, ho, hr, hc⟩ =>
    let ⟨k1, k2⟩ := ht.keep ad.block hb ho
    ⟨ad, es, h, Nat.lt_of_lt_of_le hb ht.size, k1, T.tr ht hr, hc.keep k2⟩
  len := fun ⟨_, _, h, _⟩ => by subst h; rfl
  one := fun ⟨_, _, h, _⟩ u hu => by subst h; simp at hu; subst hu; rfl
  sing _ := rfl
def Ty.slice {α : Type} (T : Ty α) : Ty (List α) where
  agg := false
  n := 1
  rep O w cs xs := ∃ A c, cs = [.slice A xs.length c] ∧ (xs.length ≤ c ∧ c ≤ maxLen) ∧
    ∀ k x, xs[k]? = some x → ∃ ad es, A = some ad ∧ ad.block < w.heap.size ∧ ad.block ∉ O ∧ T.rep O w es x ∧ CellsF w (ad.add (k * T.n)) es
  tr ht := fun ⟨A, c, h, hc, hx⟩ => ⟨A, c, h, hc, fun k x hk => by
    obtain ⟨ad, es, hA, hb, ho, hr, he⟩ := hx k x hk
    obtain ⟨k1, k2⟩ := ht.keep ad.block hb ho
    exact ⟨ad, es, hA, Nat.lt_of_lt_of_le hb ht.size, k1, T.tr ht hr, he.keep (by rw [add_block]; exact k2)⟩⟩
  len := fun ⟨_, _, h, _⟩ => by subst h; rfl
  one := fun ⟨_, _, h, _⟩ u hu => by subst h; simp at hu; subst hu; rfl
  sing _ := rfl
theorem slice_form {α : Type} {T : Ty α} {O : List Nat} {w : World} {v : Value} {xs : List α} (h : T.slice.is O w v xs) : ∃ A c, v = .slice A xs.length c ∧ xs.length ≤ c ∧ c ≤ maxLen := by
  obtain ⟨cs, ⟨A, c, hc, hl, _⟩, hv⟩ := h
  subst hc
  exact ⟨A, c, hv, hl⟩
theorem slice_nil {α : Type} (T : Ty α) (O : List Nat) (w : World) : T.slice.is O w (.slice none 0 0) [] :=
  ⟨_, ⟨none, 0, rfl, ⟨Nat.le_refl _, by unfold maxLen; omega⟩, fun k x h => by simp at h⟩, rfl⟩
/-- a cut -/
theorem slice_cut {α : Type} {T : Ty α} {O : List Nat} {w : World} {A : Option Addr} {n c lo hi m : Nat} {xs : List α} (h : T.slice.is O w (.slice A n c) xs) (h1 : lo ≤ hi) (h2 : hi ≤ n) (h3 : hi ≤ m) (h4 : m ≤ c) :
    T.slice.is O w (.slice (if m = lo then A else A.map (·.add (lo * T.n))) (hi - lo) (m - lo)) ((xs.take hi).drop lo) := by
  obtain ⟨cs, ⟨A', c', hc, hl, hx⟩, hv⟩ := h
  subst hc
  have hv : Value.slice A n c = .slice A' xs.length c' := hv
  injection hv with e1 e2 e3
  subst e1; subst e2; subst e3
  have hlen : ((xs.take hi).drop lo).length = hi - lo := by rw [List.length_drop, List.length_take]; omega
  refine ⟨_, ⟨_, m - lo, by rw [hlen], ⟨by rw [hlen]; omega, by omega⟩, fun k x hk => ?_⟩, rfl⟩
  have hklt : k < hi - lo := by
    have := (List.getElem?_eq_some_iff.1 hk).1
    omega
  rw [List.getElem?_drop, List.getElem?_take] at hk
  rw [if_pos (by omega)] at hk
  obtain ⟨ad, es, hA, hb, ho, hr, he⟩ := hx (lo + k) x hk
  subst hA
  rw [if_neg (by omega)]
  refine ⟨ad.add (lo * T.n), es, rfl, by rw [add_block]; exact hb, by rw [add_block]; exact ho, hr, ?_⟩
  rw [add_add, ← Nat.add_mul]
  exact he
/-- one element's address -/
theorem slice_at {α : Type} {T : Ty α} {O : List Nat} {w : World} {A : Option Addr} {n c k : Nat} {xs : List α} {x : α} (h : T.slice.is O w (.slice A n c) xs) (hk : xs[k]? = some x) :
    ∃ ad, A = some ad ∧ T.ptr.is O w (.pointer (some (ad.add (k * T.n)))) x := by
  obtain ⟨cs, ⟨A', c', hc, hl, hx⟩, hv⟩ := h
  subst hc
  have hv : Value.slice A n c = .slice A' xs.length c' := hv
  injection hv with e1 e2 e3
  subst e1; subst e2; subst e3
  obtain ⟨ad, es, hA, hb, ho, hr, he⟩ := hx k x hk
  exact ⟨ad, hA, _, ⟨_, es, rfl, by rw [add_block]; exact hb, by rw [add_block]; exact ho, hr, he⟩, rfl⟩

theorem sing_of {α : Type} {T : Ty α} {O : List Nat} {w : World} {cs : List Value} {x : α} (ha : T.agg = false) (h : T.rep O w cs x) : ∃ s, cs = [s] ∧ T.is O w s x := by
  have hl := T.len h
  rw [T.sing ha] at hl
  match cs, hl with
  | [c], _ => exact ⟨c, rfl, [c], h, by simp [Ty.mk', ha]⟩
theorem rep_of {α : Type} {T : Ty α} {O : List Nat} {w : World} {s : Value} {x : α} (ha : T.agg = false) (h : T.is O w s x) : T.rep O w [s] x := by
  obtain ⟨cs, hr, hs⟩ := h
  have hl := T.len hr
  rw [T.sing ha] at hl
  match cs, hl with
  | [c], _ =>
    simp only [Ty.mk', ha, cond_false, List.headD_cons] at hs
    subst hs
    exact hr

/-! ### Results -/
def rt0 (_ : List Nat) (_ : World) (v : Value) (_ : Unit) : Prop := v = .tuple #[]
def rt1 {α : Type} (A : Ty α) (O : List Nat) (w : World) (v : Value) (r : α) : Prop := A.is O w v r
def rt2 {α β : Type} (A : Ty α) (B : Ty β) (O : List Nat) (w : World) (v : Value) (r : α × β) : Prop := ∃ a b, v = .tuple #[a, b] ∧ A.is O w a r.1 ∧ B.is O w b r.2
def rt3 {α β γ : Type} (A : Ty α) (B : Ty β) (C : Ty γ) (O : List Nat) (w : World) (v : Value) (r : α × β × γ) : Prop :=
  ∃ a b c, v = .tuple #[a, b, c] ∧ A.is O w a r.1 ∧ B.is O w b r.2.1 ∧ C.is O w c r.2.2
def rt4 {α β γ δ : Type} (A : Ty α) (B : Ty β) (C : Ty γ) (D : Ty δ) (O : List Nat) (w : World) (v : Value) (r : α × β × γ × δ) : Prop :=
  ∃ a b c d, v = .tuple #[a, b, c, d] ∧ A.is O w a r.1 ∧ B.is O w b r.2.1 ∧ C.is O w c r.2.2.1 ∧ D.is O w d r.2.2.2
/-- what a call gives that only makes memory -/
def Gives {β : Type} (R : List Nat → World → Value → β → Prop) (O : List Nat) (w : World) (r : β) (e : Ending) (w' : World) : Prop := ∃ v, e = .returned v ∧ R O w' v r ∧ Fr [] w w'

/-! ### Plain words that the walk's twins use -/
def idx {α : Type} (xs : List α) (i : Int) : Option α := if 0 ≤ i then xs[i.toNat]? else none
theorem idx_some {α : Type} {xs : List α} {i : Int} {x : α} (h : idx xs i = some x) : 0 ≤ i ∧ xs[i.toNat]? = some x := by
  unfold idx at h
  split at h
  · exact ⟨by assumption, h⟩
  · cases h
def cut {α : Type} (xs : List α) (lo hi : Int) : Option (List α) := if 0 ≤ lo ∧ lo ≤ hi ∧ hi ≤ xs.length then some ((xs.take hi.toNat).drop lo.toNat) else none
theorem cut_some {α : Type} {xs ys : List α} {lo hi : Int} (h : cut xs lo hi = some ys) : (0 ≤ lo ∧ lo ≤ hi ∧ hi ≤ xs.length) ∧ ys = (xs.take hi.toNat).drop lo.toNat := by
  unfold cut at h
  split at h
  · cases h; exact ⟨by assumption, rfl⟩
  · cases h
/-- shifts by a count, and '/' and '%', where they are not sure to be -/
def shlO (k : IntKind) (x y : Int) : Option Int := if y < 0 then none else some (k.wrap (x * 2 ^ (min y.toNat k.bits)))
def shrO (k : IntKind) (x y : Int) : Option Int := if y < 0 then none else some (x.fdiv (2 ^ (min y.toNat k.bits)))
def quoO (k : IntKind) (x y : Int) : Option Int := if y = 0 then none else some (k.wrap (x.tdiv y))
def remO (x y : Int) : Option Int := if y = 0 then none else some (x.tmod y)
theorem bif_some {α : Type} {c : Bool} {a b r : α} (h : (bif c then a else b) = r) : (c = true ∧ a = r) ∨ (c = false ∧ b = r) := by
  cases c
  · exact .inr ⟨rfl, h⟩
  · exact .inl ⟨rfl, h⟩
theorem bind_some {α β : Type} {x : Option α} {f : α → Option β} {r : β} (h : x.bind f = some r) : ∃ y, x = some y ∧ f y = some r := Option.bind_eq_some_iff.1 h
def letk {κ β : Type} (k : κ) (f : κ → β) : β := f k
theorem letk_some {κ β : Type} {k : κ} {f : κ → β} {r : β} (h : letk k f = r) : ∃ k', k' = k ∧ f k' = r := ⟨k, rfl, h⟩
theorem nin {b b' : Nat} (h : b ≠ b') : b ∉ [b'] := by simpa using h
theorem wrap_succ {j n : Nat} (h : j < n) (hn : n ≤ maxLen) : IntKind.i64.wrap ((j : Int) + 1) = ((j + 1 : Nat) : Int) := by
  unfold maxLen at hn
  rw [IntWalk.i64_in]
  · omega
  · omega
theorem drop_cons {α : Type} {l : List α} {j : Nat} {x : α} {r : List α} (h : l.drop j = x :: r) : j < l.length ∧ l[j]? = some x ∧ l.drop (j + 1) = r := by
  have hlt : j < l.length := by
    rcases Nat.lt_or_ge j l.length with h1 | h1
    · exact h1
    · rw [List.drop_eq_nil_of_le h1] at h; cases h
  rw [List.drop_eq_getElem_cons hlt] at h
  injection h with h1 h2
  exact ⟨hlt, by rw [List.getElem?_eq_getElem hlt, h1], h2⟩
theorem drop_nil {α : Type} {l : List α} {j : Nat} (h : l.drop j = []) : l.length ≤ j := by
  rcases Nat.lt_or_ge j l.length with h1 | h1
  · rw [List.drop_eq_getElem_cons h1] at h; cases h
  · exact h1
theorem New.ge0 {O : List Nat} {w0 w w' : World} {b t : Nat} {cs : List Value} (h : New O w b t cs w') (hF : Fr [] w0 w) : w0.heap.size ≤ b := Nat.le_trans hF.size h.ge
/-- a store into one of the call's own blocks turns nothing that was there when the call began -/
theorem Fr.own {w0 w w' : World} {b : Nat} (hF : Fr [] w0 w) (h : Fr [b] w w') (hb : w0.heap.size ≤ b) : Fr [] w0 w' :=
  ⟨h.os.trans hF.os, h.tape.trans hF.tape, h.output.trans hF.output, Nat.le_trans hF.size h.size, fun k hk _ =>
    (h.block k (Nat.lt_of_lt_of_le hk hF.size) (by simp; omega)).trans (hF.block k hk (by simp))⟩
end Go.Dc
