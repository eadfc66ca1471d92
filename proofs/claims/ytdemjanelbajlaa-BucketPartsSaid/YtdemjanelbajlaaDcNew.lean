/- Results that are new: data that lay there at the start are read as they lay. -/
import Derived.Test.YtdemjanelbajlaaDcSpoil
import Derived.Test.YtdemjanelbajlaaDcGoto
import Derived.Test.YtdemjanelbajlaaDcCut
namespace Go.Dc
open Go.RowKit
/-- data as it lay in another world -/
def SP.an {α : Type} (T : Ty α) (O : List Nat) (w0 : World) (x : α) : SP := ⟨fun _ v => T.is O w0 v x, fun _ h => h⟩
section
variable {P : Program} {r : Option Nat} {N : Nat} {Θ : Tys} {ops : Array Oper} {Q : Exit → Act → World → Prop} {l : List Nat} {E : Env} {ds : List Deferred} {w : World} {i d : Nat} {o : Oper}
theorem wo_loadpA (hΘ : Θ.ok P) (ho : ops[i]? = some o) (hw : want N ops E o.guard = some true) (hd : o.dst = some d) (hN : Nat.blt d N = true) {t : Nat} {x : Operand} {ti : TI} (hop : o.op = .load t x) (ht : Θ.get t = some ti)
    {p : Value} (hx : ev E x = some p) {α : Type} {T : Ty α} {y : α} {O1 : List Nat} {w1 : World} (hp : T.ptr.is O1 w1 p y) (hF : Fr [] w1 w) (hn : T.n = ti.size) (ha : T.agg = ti.isAgg)
    (h : ∀ v, T.is O1 w1 v y → WO P r N ops Q l ((d, v) :: E) ds w) : WO P r N ops Q (i :: l) E ds w := by
  obtain ⟨cs, ⟨ad, es, hc, hb, _, hr, he⟩, hv⟩ := hp
  subst hc
  have hv : p = .pointer (some ad) := hv
  subst hv
  refine wo_value ho hw hd hN (by rw [hop]; simp) (fun a hha => ?_) (h (valOf ti.isAgg es) ⟨es, hr, by rw [← ha]; rfl⟩)
  simp only [execOp, hop, Sem.run_bind, hha.eval hx, run_loadAt (hΘ.fits ht) ((T.len hr).trans hn) (he.1.keep (hF.block _ hb (by simp))) (fun e => by rw [← hn]; exact T.sing (by rw [ha]; exact e))]
  rfl
theorem op_loadpA (hΘ : Θ.ok P) {a : Act} (ha : Has N E ds a) (ho : ops[i]? = some o) (hw : want N ops E o.guard = some true) (hd : o.dst = some d) {t : Nat} {x : Operand} {ti : TI} (hop : o.op = .load t x) (ht : Θ.get t = some ti)
    {p : Value} (hx : ev E x = some p) {α : Type} {T : Ty α} {y : α} {O1 : List Nat} {w1 : World} (hp : T.ptr.is O1 w1 p y) (hF : Fr [] w1 w) (hn : T.n = ti.size) (hag : T.agg = ti.isAgg) : OpK P r ops Q i d a w (fun u w' => T.is O1 w1 u y ∧ Fr [] w w') := by
  obtain ⟨cs, ⟨ad, es, hc, hb, _, hr, he⟩, hv⟩ := hp
  subst hc
  have hv : p = .pointer (some ad) := hv
  subst hv
  refine op_of ho (want_ok ha hw) hd (v := valOf ti.isAgg es) (w' := w) ?_ ⟨⟨es, hr, by rw [← hag]; rfl⟩, Fr.refl _ _⟩
  simp only [if_true]
  refine ⟨by rw [hop]; simp, ?_⟩
  simp only [execOp, hop, Sem.run_bind, ha.eval hx, run_loadAt (hΘ.fits ht) ((T.len hr).trans hn) (he.1.keep (hF.block _ hb (by simp))) (fun e => by rw [← hn]; exact T.sing (by rw [hag]; exact e))]
  rfl
theorem op_indexA (hΘ : Θ.ok P) {a : Act} (ha : Has N E ds a) (ho : ops[i]? = some o) (hw : want N ops E o.guard = some true) (hd : o.dst = some d) {t : Nat} {x y : Operand} {ti te : TI} (hop : o.op = .indexAddr t x y) (ht : Θ.get t = some ti)
    (h5 : ti.tag = 5) (hte : Θ.get ti.e = some te) {v : Value} (hx : ev E x = some v) {k : IntKind} {j : Int} (hy : ev E y = some (.int k j)) {α : Type} {T : Ty α} {xs : List α} {z : α} {O1 : List Nat} {w1 : World} (hv : T.slice.is O1 w1 v xs) (hn : T.n = te.size)
    (h0 : 0 ≤ j) (hj : xs[j.toNat]? = some z) : OpK P r ops Q i d a w (fun u w' => T.ptr.is O1 w1 u z ∧ Fr [] w w') := by
  obtain ⟨A, c, rfl, _, _⟩ := slice_form hv
  obtain ⟨ad, rfl, hp⟩ := slice_at hv hj
  have hlt : j.toNat < xs.length := (List.getElem?_eq_some_iff.1 hj).1
  refine op_of ho (want_ok ha hw) hd (v := .pointer (some (ad.add (j.toNat * T.n)))) (w' := w) ?_ ⟨hp, Fr.refl _ _⟩
  simp only [if_true]
  refine ⟨by rw [hop]; simp, ?_⟩
  have hu := (hΘ.fits ht).slice h5
  simp only [execOp, hop, Sem.run_bind, ha.eval hx, ha.eval hy, Instr.indexAt, asIntOf, Sem.run_pure, Result.andThen_ok, run_underlying hu]
  rw [if_pos ⟨h0, by omega⟩]
  simp only [Sem.run_bind, sizeOf_run (hΘ.fits hte), Result.andThen_ok, hn]
  rfl
end
/-! ### Results for any list of blocks -/
theorem gives_less1 {α : Type} {A : Ty α} {O O' : List Nat} {w w' : World} {r : α} {e : Ending} (hs : Sub O O') (h : Gives (rt1 A) O' w r e w') : Gives (rt1 A) O w r e w' := by
  obtain ⟨v, he, hr, hf⟩ := h
  exact ⟨v, he, hr.tr (Tr.less hs), hf⟩
theorem gives_less2 {α β : Type} {A : Ty α} {B : Ty β} {O O' : List Nat} {w w' : World} {r : α × β} {e : Ending} (hs : Sub O O') (h : Gives (rt2 A B) O' w r e w') : Gives (rt2 A B) O w r e w' := by
  obtain ⟨v, he, ⟨a, b, hv, h1, h2⟩, hf⟩ := h
  exact ⟨v, he, ⟨a, b, hv, h1.tr (Tr.less hs), h2.tr (Tr.less hs)⟩, hf⟩
theorem gives_less3 {α β γ : Type} {A : Ty α} {B : Ty β} {C : Ty γ} {O O' : List Nat} {w w' : World} {r : α × β × γ} {e : Ending} (hs : Sub O O') (h : Gives (rt3 A B C) O' w r e w') : Gives (rt3 A B C) O w r e w' := by
  obtain ⟨v, he, ⟨a, b, c, hv, h1, h2, h3⟩, hf⟩ := h
  exact ⟨v, he, ⟨a, b, c, hv, h1.tr (Tr.less hs), h2.tr (Tr.less hs), h3.tr (Tr.less hs)⟩, hf⟩
/-- a type that leads nowhere -/
def Ty.Flat {α : Type} (T : Ty α) : Prop := ∀ {O O' : List Nat} {w w' : World} {cs : List Value} {x : α}, T.rep O w cs x → T.rep O' w' cs x
theorem repAll_flat {α : Type} {T : Ty α} (hT : T.Flat) {O O' : List Nat} {w w' : World} : ∀ {xs : List α} {cs : List Value}, RepAll T O w cs xs → RepAll T O' w' cs xs
  | [], _, h => h
  | _ :: _, _, ⟨c, r, h, h1, h2⟩ => ⟨c, r, h, hT h1, repAll_flat hT h2⟩
theorem Own.share_flat {α : Type} {T : Ty α} (hT : T.Flat) {e : Nat} {w0 w : World} {O O' : List Nat} {v : Value} {xs : List α} (h : Own T e w0.heap.size O w v xs) (h0 : OB O' w0) : T.slice.is O' w v xs := by
  obtain ⟨cs, ⟨h1, h2⟩, h3⟩ := h.ex
  rcases h2 with ⟨rfl, hl⟩ | ⟨g, cap, cur, rfl, hg, hh, k3, k4, k5, k6⟩
  · have : xs = [] := List.eq_nil_of_length_eq_zero hl
    subst this
    exact slice_nil _ _ _
  · have h3' : RepAll T O' w cs xs := repAll_flat hT h3
    exact slice_of_cells hh (fun ho => by have := h0 g ho; omega) h3' (by rw [h3'.len]; exact k6) k3 k4
def OTy.Any {α : Type} (A : OTy α) : Prop := ∀ {S O O' : List Nat} {w : World} {cs : List Value} {x : α}, A.rep S O w cs x → A.rep S O' w cs x
theorem any_of {α : Type} {T : Ty α} (hT : T.Flat) : (OTy.of T).Any := fun h => ⟨h.1, hT h.2⟩
theorem oall_any {α : Type} {A : OTy α} (hA : A.Any) {O O' : List Nat} {w : World} : ∀ {xs : List α} {S : List Nat} {cs : List Value}, OAll A O w S cs xs → OAll A O' w S cs xs
  | [], _, _, h => h
  | _ :: _, _, _, ⟨c, r, S1, S2, h, hs, h1, h2⟩ => ⟨c, r, S1, S2, h, hs, hA h1, oall_any hA h2⟩
theorem any_row {α : Type} {A : OTy α} (hA : A.Any) (e : Nat) : (OTy.row A e).Any := fun ⟨v, hv, h⟩ => ⟨v, hv, by
  rcases h with h | ⟨g, cap, cur, cs', Ss, h1, h2, h3, h4, h5, h6, h7, h8⟩
  · exact .inl h
  · exact .inr ⟨g, cap, cur, cs', Ss, h1, h2, h3, h4, h5, h6, h7, oall_any hA h8⟩⟩
theorem OwnT.share_flat {α : Type} {A : OTy α} (hA : A.Any) {e : Nat} {w0 w : World} {O O' S : List Nat} {v : Value} {xs : List α} (h : OwnT A e w0.heap.size O w S v xs) (h0 : OB O' w0) : A.T.slice.is O' w v xs := by
  have hr := any_row hA e (O' := O') h.rep
  obtain ⟨s, hs', hi⟩ := sing_of rfl ((OTy.row A e).share hr (Sub.refl _) fun g hg ho => by have := (h.lt g hg).1; have := h0 g ho; omega)
  simp at hs'
  subst hs'
  exact hi
theorem gives_flat {α : Type} {T : Ty α} (hT : T.Flat) {e : Nat} {O O' : List Nat} {w w' : World} {zs : List α} {en : Ending} (hO : OB O' w) (h : GivesOwn T e w.heap.size O w (.slice none 0 0) zs en w') : Gives (rt1 (Ty.slice T)) O' w zs en w' := by
  obtain ⟨v', O2, he, ap⟩ := h
  exact ⟨v', he, ap.own.share_flat hT hO, ap.fr0 Own.nil_ (Fr.refl [] w)⟩
/-! ### Behind what was written over -/
theorem Tr.chg {lo hi : Nat} {O O' : List Nat} {w0 w w' : World} (h : Tr O w0 O' w) (hc : Chg lo hi w w') (hl : w0.heap.size ≤ lo) : Tr O w0 O' w' :=
  ⟨hc.os.trans h.os, hc.tape.trans h.tape, hc.output.trans h.output, Nat.le_trans h.size hc.size, fun k hk ho =>
    ⟨(h.keep k hk ho).1, (hc.block k (Nat.lt_of_lt_of_le hk h.size) (.inl (Nat.lt_of_lt_of_le hk hl))).trans (h.keep k hk ho).2⟩⟩
theorem Blk.chg {lo hi b t : Nat} {cs : List Value} {w w' : World} (h : Blk w b t cs) (hc : Chg lo hi w w') (hl : b < lo) : Blk w' b t cs := (hc.block b h.lt (.inl hl)).trans h
theorem OB.chg {lo hi : Nat} {O : List Nat} {w w' : World} (h : OB O w) (hc : Chg lo hi w w') : OB O w' := fun k hk => Nat.lt_of_lt_of_le (h k hk) hc.size
theorem Ty.is.late {α : Type} {T : Ty α} {n lo hi : Nat} {w w' : World} {v : Value} {x : α} (h : T.is (List.range n) w v x) (hc : Chg lo hi w w') (hn : hi ≤ n) : T.is (List.range n) w' v x :=
  h.tr ⟨hc.os, hc.tape, hc.output, hc.size, fun k hk ho => ⟨ho, hc.block k hk (.inr (by simp at ho; omega))⟩⟩
/-- what was new at w1 is data still -/
structure TL (n : Nat) (w1 : World) (O : List Nat) (w : World) : Prop where
  os : w.os = w1.os
  tape : w.tape = w1.tape
  output : w.output = w1.output
  size : w1.heap.size ≤ w.heap.size
  keep : ∀ k, n ≤ k → k < w1.heap.size → k ∉ O ∧ w.heap[k]? = w1.heap[k]?
theorem TL.refl {O : List Nat} {w0 : World} (h : OB O w0) (w : World) : TL w0.heap.size w O w := ⟨rfl, rfl, rfl, Nat.le_refl _, fun k hk _ => ⟨fun ho => by have := h k ho; omega, rfl⟩⟩
theorem TL.trans {n : Nat} {w1 w w' : World} {O O' : List Nat} (h : TL n w1 O w) (t : Tr O w O' w') : TL n w1 O' w' :=
  ⟨t.os.trans h.os, t.tape.trans h.tape, t.output.trans h.output, Nat.le_trans h.size t.size, fun k hk hl =>
    ⟨(t.keep k (Nat.lt_of_lt_of_le hl h.size) (h.keep k hk hl).1).1, (t.keep k (Nat.lt_of_lt_of_le hl h.size) (h.keep k hk hl).1).2.trans (h.keep k hk hl).2⟩⟩
theorem TL.chg {n lo hi : Nat} {w1 w w' : World} {O : List Nat} (h : TL n w1 O w) (hc : Chg lo hi w w') (hn : hi ≤ n) : TL n w1 O w' :=
  ⟨hc.os.trans h.os, hc.tape.trans h.tape, hc.output.trans h.output, Nat.le_trans h.size hc.size, fun k hk hl =>
    ⟨(h.keep k hk hl).1, (hc.block k (Nat.lt_of_lt_of_le hl h.size) (.inr (Nat.le_trans hn hk))).trans (h.keep k hk hl).2⟩⟩
theorem TL.data {n : Nat} {w1 w : World} {O : List Nat} (h : TL n w1 O w) {α : Type} {T : Ty α} {v : Value} {x : α} (q : T.is (List.range n) w1 v x) : T.is O w v x :=
  q.tr ⟨h.os, h.tape, h.output, h.size, fun k hk ho => h.keep k (by simpa using ho) hk⟩
end Go.Dc
