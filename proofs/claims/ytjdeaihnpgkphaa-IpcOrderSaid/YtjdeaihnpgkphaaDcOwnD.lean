/- Rows of the call's own that were cut at the front: they begin within their block. -/
import Derived.Test.YtjdeaihnpgkphaaDcNew
namespace Go.Dc
open Go.RowKit
structure OwnD {α : Type} (T : Ty α) (e B : Nat) (O : List Nat) (w : World) (v : Value) (xs : List α) : Prop where
  ex : ∃ cs, RepAll T O w cs xs ∧ ((v = .slice none 0 0 ∧ xs = []) ∨ ∃ g d cap cur, v = .slice (some ⟨g, d, none⟩) xs.length cap ∧ B ≤ g ∧ w.heap[g]? = some (.cells cur e (0, 0)) ∧ xs.length ≤ cap ∧ cap ≤ maxLen ∧ d + cap * T.n ≤ cur.size ∧ (cur.toList.drop d).take cs.length = cs)
  mem : ∀ g, v.ownBlock = some g → g ∈ O
section
variable {α : Type} {T : Ty α} {e B : Nat} {O O' : List Nat} {w w' : World} {v : Value} {xs ys : List α}
theorem OwnD.nil_ : OwnD T e B O w (.slice none 0 0) [] := ⟨⟨[], rfl, .inl ⟨rfl, rfl⟩⟩, fun g h => by cases h⟩
theorem OwnD.lt (h : OwnD T e B O w v xs) : ∀ g, v.ownBlock = some g → B ≤ g ∧ g < w.heap.size := by
  intro g0 hg0
  obtain ⟨cs, _, h1⟩ := h.ex
  rcases h1 with ⟨rfl, _⟩ | ⟨g, d, cap, cur, rfl, hg, hh, _⟩
  · cases hg0
  · cases hg0
    exact ⟨hg, (Array.getElem?_eq_some_iff.1 hh).1⟩
theorem OwnD.form (h : OwnD T e B O w v xs) : ∃ A c, v = .slice A xs.length c ∧ xs.length ≤ c ∧ c ≤ maxLen := by
  obtain ⟨cs, _, h1⟩ := h.ex
  rcases h1 with ⟨rfl, rfl⟩ | ⟨g, d, cap, cur, rfl, _, _, h3, h4, _⟩
  · exact ⟨none, 0, rfl, by simp, by unfold maxLen; omega⟩
  · exact ⟨_, cap, rfl, h3, h4⟩
theorem OwnD.keep (h : OwnD T e B O w v xs) (ht : Tr O w O' w') (hk : ∀ g, v.ownBlock = some g → w'.heap[g]? = w.heap[g]? ∧ g ∈ O') : OwnD T e B O' w' v xs := by
  obtain ⟨cs, h2, h1⟩ := h.ex
  refine ⟨⟨cs, h2.tr ht, ?_⟩, fun g hg => (hk g hg).2⟩
  rcases h1 with h1 | ⟨g, d, cap, cur, hv, hg, hh, r⟩
  · exact .inl h1
  · refine .inr ⟨g, d, cap, cur, hv, hg, ?_, r⟩
    have := (hk g (by rw [hv]; rfl)).1
    rw [this]; exact hh
theorem OwnD.fr0 (h : OwnD T e B O w v xs) (hf : Fr [] w w') : OwnD T e B O w' v xs := h.keep hf.tr0 fun g hg => ⟨hf.block g (h.lt g hg).2 (by simp), h.mem g hg⟩
theorem OwnD.new {b t : Nat} {cs : List Value} (h : OwnD T e B O w v xs) (hn : New O w b t cs w') : OwnD T e B (b :: O) w' v xs :=
  h.keep hn.tr fun g hg => ⟨hn.fr.block g (h.lt g hg).2 (by simp), List.mem_cons_of_mem _ (h.mem g hg)⟩
theorem OwnD.st {b : Nat} (h : OwnD T e B O w v xs) (hf : Fr [b] w w') (hi : b ∈ O) (hne : v.ownBlock ≠ some b) : OwnD T e B O w' v xs :=
  h.keep (hf.tr (one_in hi)) fun g hg => ⟨hf.block g (h.lt g hg).2 (by simp; rintro rfl; exact hne hg), h.mem g hg⟩
theorem OwnD.ne_new {b t : Nat} {cs : List Value} (h : OwnD T e B O w v xs) (hn : New O w b t cs w') : v.ownBlock ≠ some b := fun he => by have := (h.lt b he).2; have := hn.ge; omega
theorem addD (g d j : Nat) : (⟨g, d, none⟩ : Addr).add j = ⟨g, d + j, none⟩ := by unfold Addr.add; split <;> simp_all
theorem OwnD.cells {g d : Nat} {cur : Array Value} {cs : List Value} (hh : w.heap[g]? = some (.cells cur e (0, 0))) (hc : (cur.toList.drop d).take cs.length = cs) : ∀ j u, cs[j]? = some u → w.cell? ((⟨g, d, none⟩ : Addr).add j) = some u := by
  intro j u hu
  rw [addD, cell_of_row w g _ cur e (0, 0) hh]
  rw [← hc, List.getElem?_take] at hu
  split at hu
  · rw [List.getElem?_drop] at hu
    simpa using hu
  · cases hu
theorem OwnD.share (h : OwnD T e B O w v xs) (hs : Sub O' O) (hn : ∀ g, v.ownBlock = some g → g ∉ O') : T.slice.is O' w v xs := by
  obtain ⟨cs, h2, h1⟩ := h.ex
  rcases h1 with ⟨rfl, rfl⟩ | ⟨g, d, cap, cur, rfl, hg, hh, h3, h4, h5, h6⟩
  · exact slice_nil _ _ _
  · have hr := h2.tr (Tr.less hs)
    have hg' := (Array.getElem?_eq_some_iff.1 hh).1
    have hlen := RepAll.len hr
    have hcell := OwnD.cells hh h6
    refine ⟨_, ⟨_, cap, rfl, ⟨h3, h4⟩, fun k x hk => ⟨_, _, rfl, hg', hn g rfl, RepAll.at_ hr hk, fun j u hu => ?_, fun j hj => unfrozen hh (by rw [add_block, add_block])⟩⟩, rfl⟩
    have hj : j < T.n := by
      have := (List.getElem?_eq_some_iff.1 hu).1
      rw [List.length_take] at this; omega
    rw [List.getElem?_take, if_pos hj, List.getElem?_drop] at hu
    rw [add_add]
    exact hcell _ _ hu
/-- to what was there when the call began -/
theorem OwnD.share0 {w0 : World} {O0 : List Nat} (h : OwnD T e w0.heap.size O w v xs) (hs : Sub O0 O) (h0 : OB O0 w0) : T.slice.is O0 w v xs :=
  h.share hs fun g hg ho => by have := (h.lt g hg).1; have := h0 g ho; omega
/-- as data that leads nowhere else -/
theorem OwnD.weak (h : OwnD T e B O w v xs) : T.slice.is [] w v xs := h.share (fun k hk => by cases hk) fun g _ hk => by cases hk
theorem Own.toD (h : Own T e B O w v xs) : OwnD T e B O w v xs := by
  obtain ⟨cs, h1, h2⟩ := h.ex
  refine ⟨⟨cs, h2, ?_⟩, h.mem⟩
  rcases h1.2 with ⟨rfl, hl⟩ | ⟨g, cap, cur, rfl, hg, hh, h3, h4, h5, h6⟩
  · exact .inl ⟨rfl, List.eq_nil_of_length_eq_zero hl⟩
  · exact .inr ⟨g, 0, cap, cur, rfl, hg, hh, h3, h4, by omega, by rw [RepAll.len h2, List.drop_zero]; exact h6⟩
end
/-- what an append leaves -/
structure AppendedD {α : Type} (T : Ty α) (e B : Nat) (O : List Nat) (w : World) (v : Value) (zs : List α) (O' : List Nat) (w' : World) (v' : Value) : Prop where
  own : OwnD T e B O' w' v' zs
  tr : Tr O w O' w'
  ob : OB O' w'
  sub : Sub O O'
  fr : ∀ k, k < w.heap.size → v.ownBlock ≠ some k → w'.heap[k]? = w.heap[k]?
  ne : ∀ b, b < w.heap.size → v.ownBlock ≠ some b → v'.ownBlock ≠ some b
section
variable {α : Type} {T : Ty α} {e B : Nat} {O O' : List Nat} {w w' : World} {v v' : Value} {xs zs : List α}
theorem AppendedD.blk (h : AppendedD T e B O w v zs O' w' v') {b t : Nat} {cs : List Value} (hb : Blk w b t cs) (hn : v.ownBlock ≠ some b) : Blk w' b t cs :=
  (h.fr b hb.lt hn).trans hb
theorem AppendedD.fr0 {w0 : World} (h : AppendedD T e w0.heap.size O w v zs O' w' v') (ho : OwnD T e w0.heap.size O w v xs) (hF : Fr [] w0 w) : Fr [] w0 w' :=
  ⟨h.tr.os.trans hF.os, h.tr.tape.trans hF.tape, h.tr.output.trans hF.output, Nat.le_trans hF.size h.tr.size, fun k hk _ =>
    (h.fr k (Nat.lt_of_lt_of_le hk hF.size) (fun e => by have := (ho.lt k e).1; omega)).trans (hF.block k hk (by simp))⟩
end
section
variable {P : Program} {r : Option Nat} {N : Nat} {Θ : Tys} {ops : Array Oper} {Q : Exit → Act → World → Prop} {l : List Nat} {E : Env} {ds : List Deferred} {w : World} {i d : Nat} {o : Oper} {O : List Nat}
theorem run_appendD (hΘ : Θ.ok P) {t ty : Nat} {ti te : TI} (ht : Θ.get t = some ti) (h5 : ti.tag = 5) (hte : Θ.get ti.e = some te) {α : Type} {T : Ty α} (hn : T.n = te.size) (hpos : 0 < te.size) (hz : te.zero.cells.size = te.size)
    {B : Nat} {v u : Value} {xs ys : List α} (hB : B ≤ w.heap.size) (hO : OB O w) (hv : OwnD T ti.e B O w v xs) (hu : T.slice.is O w u ys) (hlen : (xs.length + ys.length) * te.bytes ≤ 140737488355328) (hb1 : 1 ≤ te.bytes) :
    ∃ v' w' O', (Builtin.append_ #[t, t] ty #[v, u]).run P w = .ok v' w' ∧ AppendedD T ti.e B O w v (xs ++ ys) O' w' v' := by
  obtain ⟨cs, hrep, hd⟩ := hv.ex
  have hte' := hΘ.fits hte
  obtain ⟨x, hx, hs, hby, hzr⟩ := hte'.info
  have hu5 := (hΘ.fits ht).slice h5
  rcases hd with ⟨rfl, rfl⟩ | ⟨g, d, cap, cur, rfl, hg, hh, hnc, hcm, hsz, hcs⟩
  · obtain ⟨v', w', O', hrun, hap⟩ := run_append (P := P) (ty := ty) hΘ ht h5 hte hn hpos hz hB hO (Own.nil_ (T := T) (e := ti.e) (B := B) (O := O) (w := w)) hu hlen hb1
    exact ⟨v', w', O', hrun, hap.own.toD, hap.tr, hap.ob, hap.sub, hap.fr, hap.ne⟩
  obtain ⟨A, c, rfl, _, _⟩ := slice_form hu
  have h63 : xs.length + ys.length ≤ maxLen := by
    unfold maxLen
    have : xs.length + ys.length ≤ (xs.length + ys.length) * te.bytes := Nat.le_mul_of_pos_right _ hb1
    omega
  have hgO : g ∈ O := hv.mem g rfl
  rcases A with _ | ad
  · have hnil : ys = [] := by
      cases ys with
      | nil => rfl
      | cons y ys =>
        obtain ⟨cs', ⟨A', c', hc', _, hx'⟩, hv'⟩ := hu
        subst hc'
        obtain ⟨_, _, hA, _⟩ := hx' 0 y rfl
        subst hA
        have : Value.slice none (y :: ys).length c = .slice (some _) (y :: ys).length c' := hv'
        injection this with e; cases e
    subst hnil
    refine ⟨_, w, O, ?_, ⟨by simpa using hv, Tr.refl _ _, hO, Sub.refl _, fun _ _ _ => rfl, fun _ _ h => h⟩⟩
    simp [Builtin.append_, run_underlying hu5, sizeOf, typeInfo, hx, Builtin.lenOf, Builtin.firstCells, hnc, storeCells]
  · obtain ⟨_, us, hru, hcu⟩ := slice_cells hu
    have hlus := RepAll.len hru
    have hlcs := RepAll.len hrep
    have hlen' : (xs ++ ys).length = xs.length + ys.length := List.length_append
    have hsT : x.size = T.n := hs.trans hn.symm
    by_cases hroom : xs.length + ys.length ≤ cap
    · have hmul : (xs.length + ys.length) * T.n ≤ cap * T.n := Nat.mul_le_mul_right _ hroom
      rw [Nat.add_mul] at hmul
      have hfc := run_firstCells_some (P := P) w x.size ys.length ad ys.length c us (by rw [hlus, hsT]) hcu
      have hst := run_storeCells_at (P := P) g (d + xs.length * x.size) ti.e us 0 cur w hh (by rw [hsT]; omega) (RepAll.one hru)
      rw [Nat.add_zero, hsT] at hst
      have hfr := setRow_fr (new := (cur.toList.take (d + xs.length * T.n) ++ us ++ cur.toList.drop (d + xs.length * T.n + us.length)).toArray) hh
      have htr : Tr O w O (w.setRow g (cur.toList.take (d + xs.length * T.n) ++ us ++ cur.toList.drop (d + xs.length * T.n + us.length)).toArray) := hfr.tr (one_in hgO)
      refine ⟨.slice (some ⟨g, d, none⟩) (xs.length + ys.length) cap, _, O, ?_, ⟨⟨⟨cs ++ us, (hrep.tr htr).app (hru.tr htr), .inr ⟨g, d, cap, _, by rw [hlen'], hg, setRow_heap w g cur _ ti.e _ hh, by rw [hlen']; exact hroom, hcm, ?_, ?_⟩⟩, fun k hk => by cases hk; exact hgO⟩, htr, hfr.ob hO, Sub.refl _, fun k hk hne => hfr.block k hk (by simp; rintro rfl; exact hne rfl), fun b _ hb => hb⟩⟩
      · have hr : ∀ z : Nat, z = T.n → (storeCells ((⟨g, d, none⟩ : Addr).add (xs.length * z)) us 0).run P w = .ok () (w.setRow g (cur.toList.take (d + xs.length * T.n) ++ us ++ cur.toList.drop (d + xs.length * T.n + us.length)).toArray) := by
          intro z hz'
          rw [hz', addD]
          exact hst
        simp [Builtin.append_, run_underlying hu5, sizeOf, typeInfo, hx, Builtin.lenOf, hroom, hfc, hr _ hsT]
      · simp only [List.size_toArray, List.length_append, List.length_take, List.length_drop, Array.length_toList]
        omega
      · show List.take (cs ++ us).length (List.drop d (cur.toList.take (d + xs.length * T.n) ++ us ++ cur.toList.drop (d + xs.length * T.n + us.length))) = cs ++ us
        have hlt : (cur.toList.take (d + xs.length * T.n)).length = d + xs.length * T.n := by rw [List.length_take, show cur.toList.length = cur.size from Array.length_toList]; omega
        rw [List.append_assoc, List.drop_append_of_le_length (by rw [hlt]; omega)]
        have e1 : (cur.toList.take (d + xs.length * T.n)).drop d = cs := by
          rw [List.drop_take, show d + xs.length * T.n - d = cs.length by omega]
          exact hcs
        rw [e1, ← List.append_assoc]
        exact List.take_left
    · have holds := OwnD.cells hh hcs
      have hr := run_append_grow (P := P) w t ty ti.e x te.zero hu5 hx hzr ⟨g, d, none⟩ xs.length cap cs (by rw [hlcs, hsT]) holds ad ys.length c us (by rw [hlus, hsT]) hcu (by omega) (by simp only [maxLen] at h63; omega) (growslice_fits (by omega) (by rw [hby]; exact hlen))
      have hge := grownCap_ge w (xs.length + ys.length) cap ti.e
      have hcm' : grownCap w (xs.length + ys.length) cap ti.e ≤ maxLen := grownCap_le_maxLen w (xs.length + ys.length) cap ti.e h63
      have htr : Tr O w (w.heap.size :: O) (w.drew.alloc (.cells (cs.toArray ++ us.toArray ++ Builtin.zeroCells te.zero.cells (grownCap w (xs.length + ys.length) cap ti.e - (xs.length + ys.length))) ti.e)) :=
        ⟨rfl, rfl, rfl, by simp, fun k hk ho => ⟨by simp; exact ⟨by omega, ho⟩, heap_alloc_old w.drew _ hk⟩⟩
      refine ⟨_, _, w.heap.size :: O, hr, ⟨⟨⟨cs ++ us, (hrep.tr htr).app (hru.tr htr), .inr ⟨w.heap.size, 0, _, _, by rw [hlen'], hB, heap_alloc_new w.drew _, by rw [hlen']; exact hge, hcm', ?_, ?_⟩⟩, fun k hk => by cases hk; exact List.mem_cons_self⟩, htr, ?_, Sub.cons (Sub.refl _) _, fun k hk _ => heap_alloc_old w.drew _ hk, fun b hb _ => by simp [Value.ownBlock]; omega⟩⟩
      · simp only [Array.size_append, List.size_toArray, size_zeroCells, hz, hlcs, hlus, ← Nat.add_mul]
        rw [← hn, ← Nat.add_mul]
        have : xs.length + ys.length + (grownCap w (xs.length + ys.length) cap ti.e - (xs.length + ys.length)) = grownCap w (xs.length + ys.length) cap ti.e := by omega
        rw [this]; omega
      · simp only [Array.toList_append, List.append_assoc, List.drop_zero]
        rw [← List.append_assoc]
        exact List.take_left
      · intro k hk
        rcases List.mem_cons.1 hk with rfl | hk
        · simp
        · have := hO k hk; simp; omega
theorem wo_appendD (hΘ : Θ.ok P) (ho : ops[i]? = some o) (hw : want N ops E o.guard = some true) (hd : o.dst = some d) (hN : Nat.blt d N = true) {t : Nat} {x y : Operand} {ti te : TI}
    (hop : o.op = .call { callee := .builtin .append, args := #[x, y], argTypes := #[t, t] }) (ht : Θ.get t = some ti) (h5 : ti.tag = 5) (hte : Θ.get ti.e = some te) {α : Type} {T : Ty α} (hn : T.n = te.size) (hpos : 0 < te.size) (hz : te.zero.cells.size = te.size) (hb1 : 1 ≤ te.bytes)
    {B : Nat} {v u : Value} {xs ys : List α} (hx : ev E x = some v) (hy : ev E y = some u) (hB : B ≤ w.heap.size) (hO : OB O w) (hv : OwnD T ti.e B O w v xs) (hu : T.slice.is O w u ys) (hlen : (xs.length + ys.length) * te.bytes ≤ 140737488355328)
    (h : ∀ v' w' O', AppendedD T ti.e B O w v (xs ++ ys) O' w' v' → WO P r N ops Q l ((d, v') :: E) ds w') : WO P r N ops Q (i :: l) E ds w := by
  obtain ⟨v', w', O', hrun, hap⟩ := run_appendD (P := P) (ty := o.type) hΘ ht h5 hte hn hpos hz hB hO hv hu hlen hb1
  refine wo_value ho hw hd hN (by rw [hop]; simp) (fun a ha => ?_) (h v' w' O' hap)
  simp only [execOp, hop, Sem.run_bind, resolve, Sem.run_pure, Result.andThen_ok, invoke, builtin, List.map_toArray, List.map_cons, List.map_nil, ha.eval hx, ha.eval hy, hrun]
/-- cut at the front -/
theorem OwnD.cut_ (hΘ : Θ.ok P) {t : Nat} {ti te : TI} (ht : Θ.get t = some ti) (h5 : ti.tag = 5) (hte : Θ.get ti.e = some te) {α : Type} {T : Ty α} (hn : T.n = te.size) {B : Nat} {v : Value} {xs ys : List α} (hv : OwnD T ti.e B O w v xs) {k : IntKind} {lo : Int}
    (hc : cutx xs (some lo) none none = some ys) : ∃ v', (∀ W, (Instr.sliceAt t v (some (.int k lo)) none none).run P W = .ok v' W) ∧ OwnD T ti.e B O w v' ys ∧ ∀ g, v'.ownBlock = some g → v.ownBlock = some g := by
  obtain ⟨cs, hrep, hd⟩ := hv.ex
  obtain ⟨A, c, rfl, hl, hm⟩ := hv.form
  unfold cutx at hc
  split at hc
  · rename_i hcond
    obtain ⟨h0, h1, h2, h3, h4, h5'⟩ := hcond
    simp only [Option.getD_some, Option.getD_none] at h0 h1
    simp only [Option.getD_some, Option.getD_none, Option.some.injEq, Int.toNat_natCast, List.take_length] at hc
    have hu := (hΘ.fits ht).slice h5
    have hb := fun W => run_bounds (P := P) (w := W) (b := true) (n := xs.length) (c := c) (lo := some (k, lo)) (hi := none) (mx := none) hl h0 h1 (by simpa using hl) (by simp) (by simp)
    have hlo : lo.toNat ≤ xs.length := by omega
    refine ⟨.slice (if c = lo.toNat then A else A.map (·.add (lo.toNat * T.n))) (xs.length - lo.toNat) (c - lo.toNat), ?_, ?_, ?_⟩
    · intro W
      have := hb W
      simp only [Option.map_some, Option.map_none, Option.getD_some, Option.getD_none, Int.toNat_natCast] at this
      simp only [Instr.sliceAt, Sem.run_bind, run_underlying hu, Result.andThen_ok, Instr.slice, sizeOf_run (hΘ.fits hte), Sem.run_pure, hn]
      simp only [intV] at this
      simp [this]
    · subst hc
      have hys : (xs.drop lo.toNat).length = xs.length - lo.toNat := List.length_drop
      have hsplit : RepAll T O w (cs.drop (lo.toNat * T.n)) (xs.drop lo.toNat) := RepAll.drop lo.toNat hrep
      rcases hd with ⟨e1, e2⟩ | ⟨g, d, cap, cur, e1, hg, hh, hnc, hcm, hsz, hcs⟩
      · injection e1 with e1 e3 e4
        subst e1; subst e4; subst e2
        have : lo.toNat = 0 := by simpa using hlo
        refine ⟨⟨_, hsplit, .inl ⟨by simp [this], by simp⟩⟩, fun g hg => by rw [this] at hg; simp [Value.ownBlock] at hg⟩
      · injection e1 with e1 e3 e4
        subst e1; subst e4
        refine ⟨⟨_, hsplit, .inr ?_⟩, fun g' hg' => hv.mem g' (by
          split at hg' <;> simpa [Value.ownBlock, addD] using hg')⟩
        have hlcs := RepAll.len hrep
        by_cases hcl : c = lo.toNat
        · have hc0 : c - lo.toNat = 0 := by omega
          refine ⟨g, d, c - lo.toNat, cur, by rw [if_pos hcl, hys], hg, hh, by omega, by omega, by rw [hc0]; omega, ?_⟩
          have : cs.drop (lo.toNat * T.n) = [] := List.drop_eq_nil_of_le (by rw [hlcs]; exact Nat.mul_le_mul_right _ (by omega))
          rw [this]; rfl
        · refine ⟨g, d + lo.toNat * T.n, c - lo.toNat, cur, by rw [if_neg hcl, hys]; simp [addD], hg, hh, by omega, by omega, ?_, ?_⟩
          · have : (c - lo.toNat) * T.n + lo.toNat * T.n = c * T.n := by rw [← Nat.add_mul]; congr 1; omega
            omega
          · rw [← List.drop_drop, List.length_drop]
            have : (cur.toList.drop d).drop (lo.toNat * T.n) = (cur.toList.drop d).drop (lo.toNat * T.n) := rfl
            rw [← List.drop_take, hcs]
    · intro g hg
      split at hg
      · cases A with
        | none => cases hg
        | some a => exact hg
      · cases A with
        | none => cases hg
        | some a => simpa [Value.ownBlock, add_block] using hg
  · cases hc
theorem op_cutD {E : Env} {a : Act} (ha : Has N E ds a) (ho : ops[i]? = some o) (hw : want N ops E o.guard = some true) (hd : o.dst = some d) {t : Nat} {x y : Operand} (hop : o.op = .slice t x (some y) none none)
    {v v' : Value} (hx : ev E x = some v) {k : IntKind} {lo : Int} (hlo : evo E (some y) = some (some (k, lo))) (hrun : ∀ W, (Instr.sliceAt t v (some (.int k lo)) none none).run P W = .ok v' W) : OpK P r ops Q i d a w (fun u w' => u = v' ∧ Fr [] w w') := by
  have h1 := evo_eval ha hlo
  refine op_of ho (want_ok ha hw) hd (b := true) (v := v') (w' := w) ?_ ⟨rfl, Fr.refl _ _⟩
  simp only [if_true]
  refine ⟨by rw [hop]; simp, ?_⟩
  simp only [Option.map_some, intV] at h1
  simp only [execOp, hop, Sem.run_bind, ha.eval hx, Option.map_some, h1, Option.map_none, hrun]
  rfl
theorem op_appD {E : Env} (hΘ : Θ.ok P) {a : Act} (ha : Has N E ds a) (ho : ops[i]? = some o) (hw : want N ops E o.guard = some true) (hd : o.dst = some d) {t : Nat} {x y : Operand} {ti te : TI}
    (hop : o.op = .call { callee := .builtin .append, args := #[x, y], argTypes := #[t, t] }) (ht : Θ.get t = some ti) (h5 : ti.tag = 5) (hte : Θ.get ti.e = some te) {α : Type} {T : Ty α} (hn : T.n = te.size) (hpos : Nat.blt 0 te.size = true) (hz : te.zero.cells.size = te.size) (hb1 : Nat.ble 1 te.bytes = true) {e nb : Nat} (he : ti.e = e) (hnb : te.bytes = nb)
    {w0 : World} {v u : Value} {xs ys zs : List α} (hx : ev E x = some v) (hy : ev E y = some u) (hF : Fr [] w0 w) (hO : OB O w) (hv : OwnD T e w0.heap.size O w v xs) (hu : T.slice.is O w u ys) (hlen : app nb xs ys = some zs) :
    OpK P r ops Q i d a w (fun v' w' => ∃ O', AppendedD T e w0.heap.size O w v zs O' w' v') := by
  subst he hnb
  obtain ⟨hle, rfl⟩ := app_some hlen
  obtain ⟨v', w', O', hrun, hap⟩ := run_appendD (P := P) (ty := o.type) hΘ ht h5 hte hn (Nat.le_of_ble_eq_true hpos) hz hF.size hO hv hu hle (Nat.le_of_ble_eq_true hb1)
  refine op_of ho (want_ok ha hw) hd (b := true) (v := v') (w' := w') ?_ ⟨O', hap⟩
  simp only [if_true]
  refine ⟨by rw [hop]; simp, ?_⟩
  simp only [execOp, hop, Sem.run_bind, resolve, Sem.run_pure, Result.andThen_ok, invoke, builtin, List.map_toArray, List.map_cons, List.map_nil, ha.eval hx, ha.eval hy, hrun]
theorem wo_appD (hΘ : Θ.ok P) (ho : ops[i]? = some o) (hw : want N ops E o.guard = some true) (hd : o.dst = some d) (hN : Nat.blt d N = true) {t : Nat} {x y : Operand} {ti te : TI}
    (hop : o.op = .call { callee := .builtin .append, args := #[x, y], argTypes := #[t, t] }) (ht : Θ.get t = some ti) (h5 : ti.tag = 5) (hte : Θ.get ti.e = some te) {α : Type} {T : Ty α} (hn : T.n = te.size) (hpos : Nat.blt 0 te.size = true) (hz : te.zero.cells.size = te.size) (hb1 : Nat.ble 1 te.bytes = true)
    {w0 : World} {v u : Value} {xs ys zs : List α} (hx : ev E x = some v) (hy : ev E y = some u) (hF : Fr [] w0 w) (hO : OB O w) (hv : OwnD T ti.e w0.heap.size O w v xs) (hu : T.slice.is O w u ys) (hlen : app te.bytes xs ys = some zs)
    (h : ∀ v' w' O', AppendedD T ti.e w0.heap.size O w v zs O' w' v' → WO P r N ops Q l ((d, v') :: E) ds w') : WO P r N ops Q (i :: l) E ds w := by
  obtain ⟨hle, rfl⟩ := app_some hlen
  exact wo_appendD hΘ ho hw hd hN hop ht h5 hte hn (Nat.le_of_ble_eq_true hpos) hz (Nat.le_of_ble_eq_true hb1) hx hy hF.size hO hv hu hle h
end
section
variable {α β : Type} {T : Ty α} {S : Ty β} {e e2 : Nat} {O O0 : List Nat} {w w0 w' : World} {u v : Value} {xs : List α} {ys : List β}
theorem OwnD.give {B : Nat} (h : OwnD T e B O w v xs) : T.slice.is (relv v O) w v xs := h.share (fun k hk => (relv_mem.1 hk).1) fun g hg ho => (relv_mem.1 ho).2 hg
theorem OwnD.relv {B : Nat} (h : OwnD S e2 B O w u ys) (hd : Dj u v) : OwnD S e2 B (relv v O) w u ys :=
  h.keep (relv_tr v O w) fun g hg => ⟨rfl, relv_in (h.mem g hg) (hd g hg)⟩
theorem OwnD.dj_lit {B b t : Nat} {cs : List Value} (h : OwnD T e B O w v xs) (hn : New O w b t cs w') (n c : Nat) : Dj v (.slice (some ⟨b, 0, none⟩) n c) := fun g hg hb => by
  cases hb
  have h1 : b < w.heap.size := (h.lt _ hg).2
  have := hn.ge; omega
end
end Go.Dc
