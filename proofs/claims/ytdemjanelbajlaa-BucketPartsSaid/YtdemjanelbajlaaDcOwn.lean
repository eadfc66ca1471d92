/- Rows of the call's own: append, new rows; function values. -/
import Derived.Test.YtdemjanelbajlaaDcDraw
import Derived.Maps.AppendAt
import Derived.OwnWalk
import Derived.Laws.StructEq
namespace Go.Dc
open Go.RowKit

/-! ### Rows of cells -/
def RepAll {α : Type} (T : Ty α) (O : List Nat) (w : World) : List Value → List α → Prop
  | cs, [] => cs = []
  | cs, x :: xs => ∃ c r, cs = c ++ r ∧ T.rep O w c x ∧ RepAll T O w r xs
section
variable {α : Type} {T : Ty α} {O O' : List Nat} {w w' : World}
theorem RepAll.tr (ht : Tr O w O' w') : ∀ {xs : List α} {cs : List Value}, RepAll T O w cs xs → RepAll T O' w' cs xs
  | [], _, h => h
  | _ :: _, _, ⟨c, r, h, h1, h2⟩ => ⟨c, r, h, T.tr ht h1, RepAll.tr ht h2⟩
theorem RepAll.len : ∀ {xs : List α} {cs : List Value}, RepAll T O w cs xs → cs.length = xs.length * T.n
  | [], _, h => by rw [show _ = [] from h]; simp
  | _ :: xs, _, ⟨c, r, h, h1, h2⟩ => by subst h; rw [List.length_append, T.len h1, RepAll.len h2, List.length_cons, Nat.succ_mul]; omega
theorem RepAll.one : ∀ {xs : List α} {cs : List Value}, RepAll T O w cs xs → ∀ u ∈ cs, u.oneCell' = true
  | [], _, h, u, hu => by rw [show _ = [] from h] at hu; cases hu
  | _ :: xs, _, ⟨c, r, h, h1, h2⟩, u, hu => by
    subst h
    rcases List.mem_append.1 hu with hu | hu
    · exact T.one h1 u hu
    · exact RepAll.one h2 u hu
theorem RepAll.app : ∀ {xs ys : List α} {cs ds : List Value}, RepAll T O w cs xs → RepAll T O w ds ys → RepAll T O w (cs ++ ds) (xs ++ ys)
  | [], _, _, _, h, k => by rw [show _ = [] from h]; exact k
  | _ :: xs, _, _, _, ⟨c, r, h, h1, h2⟩, k => by subst h; exact ⟨c, r ++ _, by simp, h1, RepAll.app h2 k⟩
theorem RepAll.at_ : ∀ {xs : List α} {cs : List Value} {k : Nat} {x : α}, RepAll T O w cs xs → xs[k]? = some x → T.rep O w ((cs.drop (k * T.n)).take T.n) x
  | [], _, _, _, _, hk => by simp at hk
  | y :: xs, _, 0, x, ⟨c, r, h, h1, h2⟩, hk => by
    subst h
    simp at hk
    subst hk
    simp [← T.len h1]
    exact h1
  | y :: xs, _, k + 1, x, ⟨c, r, h, h1, h2⟩, hk => by
    subst h
    have ih := RepAll.at_ h2 (by simpa using hk)
    have e : (k + 1) * T.n = c.length + k * T.n := by rw [T.len h1, Nat.succ_mul]; omega
    rw [e, ← List.drop_drop, List.drop_left]
    exact ih
/-- a slice's cells, all in a row -/
theorem slice_cells {ad : Addr} {n c : Nat} {xs : List α} (h : T.slice.is O w (.slice (some ad) n c) xs) : n = xs.length ∧ ∃ cs, RepAll T O w cs xs ∧ CellsAt w ad cs := by
  obtain ⟨cs, ⟨A, c', hc, hl, hx⟩, hv⟩ := h
  subst hc
  have hv : Value.slice (some ad) n c = .slice A xs.length c' := hv
  injection hv with e1 e2 e3
  subst e1; subst e2; subst e3
  refine ⟨rfl, ?_⟩
  clear hl
  have key : ∀ (ys : List α) (off : Nat), (∀ k x, ys[k]? = some x → ∃ es, T.rep O w es x ∧ CellsAt w (ad.add ((off + k) * T.n)) es) → ∃ cs, RepAll T O w cs ys ∧ CellsAt w (ad.add (off * T.n)) cs := by
    intro ys
    induction ys with
    | nil => intro off _; exact ⟨[], rfl, fun j u hu => by simp at hu⟩
    | cons y ys ih =>
      intro off hk
      obtain ⟨es, hr, he⟩ := hk 0 y rfl
      obtain ⟨cs, hc1, hc2⟩ := ih (off + 1) (fun k x hx => by
        obtain ⟨es, h1, h2⟩ := hk (k + 1) x (by simpa using hx)
        exact ⟨es, h1, by have e : off + 1 + k = off + (k + 1) := by omega
                          rw [e]; exact h2⟩)
      refine ⟨es ++ cs, ⟨es, cs, rfl, hr, hc1⟩, fun j u hu => ?_⟩
      have hlen := T.len hr
      by_cases hj : j < T.n
      · rw [List.getElem?_append_left (by omega)] at hu
        have := he j u hu
        simpa using this
      · rw [List.getElem?_append_right (by omega)] at hu
        have := hc2 _ u hu
        rw [add_add] at this ⊢
        have e : (off + 1) * T.n + (j - es.length) = off * T.n + j := by rw [Nat.succ_mul]; omega
        rwa [e] at this
  have := key xs 0 (fun k x hk => by
    obtain ⟨ad', es, hA, _, _, hr, he⟩ := hx k x hk
    cases hA
    exact ⟨es, hr, by simpa using he.1⟩)
  simpa [Addr.add_zero'] using this
theorem unfrozen {g t : Nat} {cur : Array Value} {p : Addr} (hh : w.heap[g]? = some (.cells cur t (0, 0))) (hp : p.block = g) : w.frozen? p = false := by
  simp [World.frozen?, hp, hh]
/-- cells in a row are a slice's -/
theorem slice_of_cells {g cap t : Nat} {cur : Array Value} {xs : List α} {cs : List Value} (hh : w.heap[g]? = some (.cells cur t (0, 0))) (ho : g ∉ O) (hr : RepAll T O w cs xs) (hc : cur.toList.take cs.length = cs) (hcap : xs.length ≤ cap) (hm : cap ≤ maxLen) :
    T.slice.is O w (.slice (some ⟨g, 0, none⟩) xs.length cap) xs := by
  have hg : g < w.heap.size := (Array.getElem?_eq_some_iff.1 hh).1
  refine ⟨_, ⟨_, cap, rfl, ⟨hcap, hm⟩, fun k x hk => ⟨_, _, rfl, hg, ho, RepAll.at_ hr hk, fun j u hu => ?_, fun j hj => unfrozen hh (by rw [add_block, add_block])⟩⟩, rfl⟩
  have hlen := RepAll.len hr
  have hk' : k < xs.length := (List.getElem?_eq_some_iff.1 hk).1
  have hj : j < T.n := by
    have := (List.getElem?_eq_some_iff.1 hu).1
    rw [List.length_take] at this; omega
  rw [List.getElem?_take, if_pos hj, List.getElem?_drop] at hu
  rw [add_add]
  have e : (⟨g, 0, none⟩ : Addr).add (k * T.n + j) = ⟨g, k * T.n + j, none⟩ := by unfold Addr.add; split <;> simp_all
  rw [e, cell_of_row w g _ cur t (0, 0) hh]
  rw [← hc, List.getElem?_take] at hu
  split at hu
  · simpa using hu
  · cases hu
end

/-! ### A row of the call's own -/
structure Own {α : Type} (T : Ty α) (e B : Nat) (O : List Nat) (w : World) (v : Value) (xs : List α) : Prop where
  ex : ∃ cs, w.ownsRow B e T.n v xs.length cs ∧ RepAll T O w cs xs
  mem : ∀ g, v.ownBlock = some g → g ∈ O
section
variable {α : Type} {T : Ty α} {e B : Nat} {O O' : List Nat} {w w' : World} {v : Value} {xs ys : List α}
theorem Own.nil_ : Own T e B O w (.slice none 0 0) [] := ⟨⟨[], World.ownsRow_nil w B e T.n, rfl⟩, fun g h => by cases h⟩
theorem Own.lt (h : Own T e B O w v xs) : ∀ g, v.ownBlock = some g → B ≤ g ∧ g < w.heap.size := by
  obtain ⟨cs, h1, _⟩ := h.ex
  exact h1.lt
theorem Own.form (h : Own T e B O w v xs) : ∃ A c, v = .slice A xs.length c ∧ xs.length ≤ c ∧ c ≤ maxLen := by
  obtain ⟨cs, ⟨_, h1⟩, _⟩ := h.ex
  rcases h1 with ⟨rfl, h2⟩ | ⟨g, cap, cur, rfl, _, _, h3, h4, _⟩
  · exact ⟨none, 0, by rw [h2], by omega, by unfold maxLen; omega⟩
  · exact ⟨_, cap, rfl, h3, h4⟩
theorem Own.keep (h : Own T e B O w v xs) (ht : Tr O w O' w') (hk : ∀ g, v.ownBlock = some g → w'.heap[g]? = w.heap[g]? ∧ g ∈ O') : Own T e B O' w' v xs := by
  obtain ⟨cs, ⟨h0, h1⟩, h2⟩ := h.ex
  refine ⟨⟨cs, ⟨h0, ?_⟩, h2.tr ht⟩, fun g hg => (hk g hg).2⟩
  rcases h1 with h1 | ⟨g, cap, cur, hv, hg, hh, r⟩
  · exact .inl h1
  · refine .inr ⟨g, cap, cur, hv, hg, ?_, r⟩
    have := (hk g (by rw [hv]; rfl)).1
    rw [this]; exact hh
theorem Own.fr0 (h : Own T e B O w v xs) (hf : Fr [] w w') : Own T e B O w' v xs := h.keep hf.tr0 fun g hg => ⟨hf.block g (h.lt g hg).2 (by simp), h.mem g hg⟩
theorem Own.new {b t : Nat} {cs : List Value} (h : Own T e B O w v xs) (hn : New O w b t cs w') : Own T e B (b :: O) w' v xs :=
  h.keep hn.tr fun g hg => ⟨hn.fr.block g (h.lt g hg).2 (by simp), List.mem_cons_of_mem _ (h.mem g hg)⟩
theorem Own.st {b : Nat} (h : Own T e B O w v xs) (hf : Fr [b] w w') (hi : b ∈ O) (hne : v.ownBlock ≠ some b) : Own T e B O w' v xs :=
  h.keep (hf.tr (one_in hi)) fun g hg => ⟨hf.block g (h.lt g hg).2 (by simp; rintro rfl; exact hne hg), h.mem g hg⟩
theorem Own.ne_new {b t : Nat} {cs : List Value} (h : Own T e B O w v xs) (hn : New O w b t cs w') : v.ownBlock ≠ some b := fun he => by have := (h.lt b he).2; have := hn.ge; omega
theorem Own.share (h : Own T e B O w v xs) (hs : Sub O' O) (hn : ∀ g, v.ownBlock = some g → g ∉ O') : T.slice.is O' w v xs := by
  obtain ⟨cs, ⟨h0, h1⟩, h2⟩ := h.ex
  rcases h1 with ⟨rfl, hl⟩ | ⟨g, cap, cur, rfl, hg, hh, h3, h4, h5, h6⟩
  · have : xs = [] := List.eq_nil_of_length_eq_zero hl
    subst this
    exact slice_nil _ _ _
  · exact slice_of_cells hh (hn g rfl) (h2.tr (Tr.less hs)) (by rw [RepAll.len h2]; exact h6) h3 h4
/-- to what was there when the call began -/
theorem Own.share0 {w0 : World} {O0 : List Nat} (h : Own T e w0.heap.size O w v xs) (hs : Sub O0 O) (h0 : OB O0 w0) : T.slice.is O0 w v xs :=
  h.share hs fun g hg ho => by have := (h.lt g hg).1; have := h0 g ho; omega
end

/-! ### append -/
theorem grown_fr {w w' : World} {v : Value} (h : w.grownBy w' v.ownBlock) : ∀ k, k < w.heap.size → v.ownBlock ≠ some k → w'.heap[k]? = w.heap[k]? := fun k hk hne => h.block k hk fun e => hne e.symm
section
variable {P : Program} {r : Option Nat} {N : Nat} {Θ : Tys} {ops : Array Oper} {Q : Exit → Act → World → Prop} {l : List Nat} {E : Env} {ds : List Deferred} {w : World} {i d : Nat} {o : Oper} {O : List Nat}

/-- what an append leaves -/
structure Appended {α : Type} (T : Ty α) (e B : Nat) (O : List Nat) (w : World) (v : Value) (zs : List α) (O' : List Nat) (w' : World) (v' : Value) : Prop where
  own : Own T e B O' w' v' zs
  tr : Tr O w O' w'
  ob : OB O' w'
  sub : Sub O O'
  fr : ∀ k, k < w.heap.size → v.ownBlock ≠ some k → w'.heap[k]? = w.heap[k]?
  ne : ∀ b, b < w.heap.size → v.ownBlock ≠ some b → v'.ownBlock ≠ some b
theorem Appended.blk {α : Type} {T : Ty α} {e B : Nat} {O' : List Nat} {w' : World} {v v' : Value} {zs : List α} (h : Appended T e B O w v zs O' w' v') {b t : Nat} {cs : List Value} (hb : Blk w b t cs) (hn : v.ownBlock ≠ some b) : Blk w' b t cs :=
  (h.fr b hb.lt hn).trans hb
theorem Appended.other {α β : Type} {T : Ty α} {S : Ty β} {e B e2 : Nat} {O' : List Nat} {w' : World} {v v' u : Value} {zs : List α} {ys : List β} (h : Appended T e B O w v zs O' w' v') (hu : Own S e2 B O w u ys)
    (hn : ∀ g, u.ownBlock = some g → v.ownBlock ≠ some g) : Own S e2 B O' w' u ys :=
  hu.keep h.tr fun g hg => ⟨h.fr g (hu.lt g hg).2 (hn g hg), h.sub g (hu.mem g hg)⟩
theorem Appended.fr0 {α : Type} {T : Ty α} {e : Nat} {w0 : World} {O' : List Nat} {w' : World} {v v' : Value} {zs xs : List α} (h : Appended T e w0.heap.size O w v zs O' w' v') (ho : Own T e w0.heap.size O w v xs) (hF : Fr [] w0 w) : Fr [] w0 w' :=
  ⟨h.tr.os.trans hF.os, h.tr.tape.trans hF.tape, h.tr.output.trans hF.output, Nat.le_trans hF.size h.tr.size, fun k hk _ =>
    (h.fr k (Nat.lt_of_lt_of_le hk hF.size) (fun e => by have := (ho.lt k e).1; omega)).trans (hF.block k hk (by simp))⟩
theorem run_append (hΘ : Θ.ok P) {t ty : Nat} {ti te : TI} (ht : Θ.get t = some ti) (h5 : ti.tag = 5) (hte : Θ.get ti.e = some te) {α : Type} {T : Ty α} (hn : T.n = te.size) (hpos : 0 < te.size) (hz : te.zero.cells.size = te.size)
    {B : Nat} {v u : Value} {xs ys : List α} (hB : B ≤ w.heap.size) (hO : OB O w) (hv : Own T ti.e B O w v xs) (hu : T.slice.is O w u ys) (hlen : (xs.length + ys.length) * te.bytes ≤ 140737488355328) (hb1 : 1 ≤ te.bytes) :
    ∃ v' w' O', (Builtin.append_ #[t, t] ty #[v, u]).run P w = .ok v' w' ∧ Appended T ti.e B O w v (xs ++ ys) O' w' v' := by
  have hte' := hΘ.fits hte
  obtain ⟨x, hx, hs, hby, hzr⟩ := hte'.info
  have hu5 := (hΘ.fits ht).slice h5
  obtain ⟨A, c, rfl, _, _⟩ := slice_form hu
  obtain ⟨cs, hown, hrep⟩ := hv.ex
  have h63 : xs.length + ys.length ≤ maxLen := by
    unfold maxLen
    have : xs.length + ys.length ≤ (xs.length + ys.length) * te.bytes := Nat.le_mul_of_pos_right _ hb1
    omega
  rcases A with _ | ad
  · -- nothing comes
    have hnil : ys = [] := by
      cases ys with
      | nil => rfl
      | cons y ys =>
        obtain ⟨cs', ⟨A', c', hc', _, hx'⟩, hv'⟩ := hu
        subst hc'
        obtain ⟨_, _, hA, _⟩ := hx' 0 y rfl
        subst hA
        have : Value.slice none (y :: ys).length c = .slice (some _) (y :: ys).length c' := hv'
        injection this with e; cases e
    subst hnil
    refine ⟨v, w, O, ?_, ⟨by simpa using hv, Tr.refl _ _, hO, Sub.refl _, fun _ _ _ => rfl, fun _ _ h => h⟩⟩
    rcases hown.2 with ⟨rfl, hl⟩ | ⟨g, cap, cur, rfl, _, _, hnc, _⟩
    · simp [Builtin.append_, run_underlying hu5, sizeOf, typeInfo, hx, Builtin.lenOf, Builtin.firstCells]
    · simp [Builtin.append_, run_underlying hu5, sizeOf, typeInfo, hx, Builtin.lenOf, Builtin.firstCells, hnc, storeCells]
  · obtain ⟨_, us, hru, hcu⟩ := slice_cells hu
    obtain ⟨v', w', hrun, h2, h3, _, h5'⟩ := run_append_own_at (P := P) w B t ty ti.e x te.zero T.n te.bytes hu5 hx hzr (hs.trans hn.symm) hby (hz.trans hn.symm) (by omega) v xs.length cs hown ad ys.length c us (RepAll.len hru) hcu (RepAll.one hru) h63 hlen hB
    have hlen' : (xs ++ ys).length = xs.length + ys.length := List.length_append
    have hlt := h2.lt
    have hltv := hown.lt
    rcases h5' with hsame | hnew
    · refine ⟨v', w', O, hrun, ⟨⟨⟨_, by rw [hlen']; exact h2, ?_⟩, fun g hg => hv.mem g (by rw [← hsame]; exact hg)⟩, ?_, fun k hk => Nat.lt_of_lt_of_le (hO k hk) h3.size, Sub.refl _, grown_fr h3, fun b _ hb => by rw [hsame]; exact hb⟩⟩
      · have htr : Tr O w O w' := ⟨h3.os, h3.tape, h3.output, h3.size, fun k hk ho => ⟨ho, grown_fr h3 k hk fun e => ho (hv.mem k e)⟩⟩
        exact (hrep.tr htr).app (hru.tr htr)
      · exact ⟨h3.os, h3.tape, h3.output, h3.size, fun k hk ho => ⟨ho, grown_fr h3 k hk fun e => ho (hv.mem k e)⟩⟩
    · have hsz := (hlt _ hnew).2
      have htr : Tr O w (w.heap.size :: O) w' := ⟨h3.os, h3.tape, h3.output, h3.size, fun k hk ho => ⟨by simp; exact ⟨by omega, ho⟩, grown_fr h3 k hk fun e => ho (hv.mem k e)⟩⟩
      refine ⟨v', w', w.heap.size :: O, hrun, ⟨⟨⟨_, by rw [hlen']; exact h2, ?_⟩, fun g hg => by rw [hnew] at hg; cases hg; exact List.mem_cons_self⟩, htr, ?_, Sub.cons (Sub.refl _) _, grown_fr h3, fun b hb _ => by rw [hnew]; simp; omega⟩⟩
      · exact (hrep.tr htr).app (hru.tr htr)
      · intro k hk
        rcases List.mem_cons.1 hk with rfl | hk
        · exact hsz
        · exact Nat.lt_of_lt_of_le (hO k hk) h3.size
theorem wo_append (hΘ : Θ.ok P) (ho : ops[i]? = some o) (hw : want N ops E o.guard = some true) (hd : o.dst = some d) (hN : Nat.blt d N = true) {t : Nat} {x y : Operand} {ti te : TI}
    (hop : o.op = .call { callee := .builtin .append, args := #[x, y], argTypes := #[t, t] }) (ht : Θ.get t = some ti) (h5 : ti.tag = 5) (hte : Θ.get ti.e = some te) {α : Type} {T : Ty α} (hn : T.n = te.size) (hpos : 0 < te.size) (hz : te.zero.cells.size = te.size) (hb1 : 1 ≤ te.bytes)
    {B : Nat} {v u : Value} {xs ys : List α} (hx : ev E x = some v) (hy : ev E y = some u) (hB : B ≤ w.heap.size) (hO : OB O w) (hv : Own T ti.e B O w v xs) (hu : T.slice.is O w u ys) (hlen : (xs.length + ys.length) * te.bytes ≤ 140737488355328)
    (h : ∀ v' w' O', Appended T ti.e B O w v (xs ++ ys) O' w' v' → WO P r N ops Q l ((d, v') :: E) ds w') : WO P r N ops Q (i :: l) E ds w := by
  obtain ⟨v', w', O', hrun, hap⟩ := run_append (P := P) (ty := o.type) hΘ ht h5 hte hn hpos hz hB hO hv hu hlen hb1
  refine wo_value ho hw hd hN (by rw [hop]; simp) (fun a ha => ?_) (h v' w' O' hap)
  simp only [execOp, hop, Sem.run_bind, resolve, Sem.run_pure, Result.andThen_ok, invoke, builtin, List.map_toArray, List.map_cons, List.map_nil, ha.eval hx, ha.eval hy, hrun]

/-- a binary operation whose run is known -/
theorem wo_bin (ho : ops[i]? = some o) (hw : want N ops E o.guard = some true) (hd : o.dst = some d) (hN : Nat.blt d N = true) {b : BinOp} {t t' : Nat} {x y : Operand} (hop : o.op = .binOp b t x y t') {u v z : Value} (hx : ev E x = some u) (hy : ev E y = some v)
    (hrun : (do eqGuard b t x y u v; binOp b t u v : Sem Value).run P w = .ok z w) (h : WO P r N ops Q l ((d, z) :: E) ds w) : WO P r N ops Q (i :: l) E ds w := by
  refine wo_value ho hw hd hN (by rw [hop]; simp) (fun a ha => ?_) h
  simp only [execOp, hop, ha.eval hx, ha.eval hy]
  simp only [Sem.run_bind] at hrun ⊢
  rw [hrun]
  rfl
theorem op_bin {a : Act} (ha : Has N E ds a) (ho : ops[i]? = some o) (hw : want N ops E o.guard = some true) (hd : o.dst = some d) {b : BinOp} {t t' : Nat} {x y : Operand} (hop : o.op = .binOp b t x y t') {u v z : Value} (hx : ev E x = some u) (hy : ev E y = some v)
    (hrun : (do eqGuard b t x y u v; binOp b t u v : Sem Value).run P w = .ok z w) : OpK P r ops Q i d a w (fun u' w' => u' = z ∧ Fr [] w w') :=
  op_of ho (want_ok ha hw) hd (v := z) (w' := w) (by
    simp only [if_true]
    refine ⟨by rw [hop]; simp, ?_⟩
    simp only [execOp, hop, ha.eval hx, ha.eval hy]
    simp only [Sem.run_bind] at hrun ⊢
    rw [hrun]
    rfl) ⟨rfl, Fr.refl _ _⟩
theorem run_shl {k k' : IntKind} {x y z : Int} {t : TypeId} {ox oy : Operand} (h : shlO k x y = some z) : (do eqGuard .shl t ox oy (.int k x) (.int k' y); binOp .shl t (.int k x) (.int k' y) : Sem Value).run P w = .ok (.int k z) w := by
  unfold shlO at h
  split at h
  · cases h
  · rename_i hy
    cases h
    simp [go_sem, Op.shift, hy]
theorem run_shr {k k' : IntKind} {x y z : Int} {t : TypeId} {ox oy : Operand} (h : shrO k x y = some z) : (do eqGuard .shr t ox oy (.int k x) (.int k' y); binOp .shr t (.int k x) (.int k' y) : Sem Value).run P w = .ok (.int k z) w := by
  unfold shrO at h
  split at h
  · cases h
  · rename_i hy
    cases h
    simp [go_sem, Op.shift, hy]
theorem run_quo {k : IntKind} {x y z : Int} {t : TypeId} {ox oy : Operand} (h : quoO k x y = some z) : (do eqGuard .quo t ox oy (.int k x) (.int k y); binOp .quo t (.int k x) (.int k y) : Sem Value).run P w = .ok (.int k z) w := by
  unfold quoO at h
  split at h
  · cases h
  · rename_i hy
    cases h
    simp [go_sem, Op.intDiv, hy]
theorem run_rem {k : IntKind} {x y z : Int} {t : TypeId} {ox oy : Operand} (h : remO x y = some z) : (do eqGuard .rem t ox oy (.int k x) (.int k y); binOp .rem t (.int k x) (.int k y) : Sem Value).run P w = .ok (.int k z) w := by
  unfold remO at h
  split at h
  · cases h
  · rename_i hy
    cases h
    simp [go_sem, Op.intDiv, hy]
end
end Go.Dc
