/- What slices.Insert does: cuts with their addresses, copies within a row, zeros appended. -/
import Derived.Test.YtdemjanelbajlaaDcMake
import Derived.Lib.AppendZerosOnto
import Derived.Lib.Overlaps
import Derived.Laws.Externs
import Derived.Laws.LoneSync
import Derived.Laws.AppendOwn
namespace Go.Dc
open Go.RowKit
/-- a slice in plain memory -/
def Plain (w : World) (u : Value) : Prop := ∀ ad n c, u = .slice (some ad) n c → ad.spot = none ∧ ∃ cur t, w.heap[ad.block]? = some (.cells cur t (0, 0))
theorem Own.plain {α : Type} {T : Ty α} {e B : Nat} {O : List Nat} {w : World} {v : Value} {xs : List α} (h : Own T e B O w v xs) : Plain w v := by
  intro ad n c hv
  obtain ⟨cs, ⟨_, h1⟩, _⟩ := h.ex
  rcases h1 with ⟨h1, _⟩ | ⟨g, cap, cur, h1, _, hh, _⟩
  · rw [hv] at h1; cases h1
  · rw [hv] at h1; cases h1; exact ⟨rfl, cur, e, hh⟩
theorem add_at (g i j : Nat) : (⟨g, i, none⟩ : Addr).add j = ⟨g, i + j, none⟩ := by unfold Addr.add; split <;> simp_all
section
variable {P : Program} {r : Option Nat} {N : Nat} {Θ : Tys} {ops : Array Oper} {Q : Exit → Act → World → Prop} {l : List Nat} {E : Env} {ds : List Deferred} {w : World} {i d : Nat} {o : Oper} {O : List Nat}
theorem run_cutlo (hΘ : Θ.ok P) {t : Nat} {ti te : TI} (ht : Θ.get t = some ti) (h5 : ti.tag = 5) (hte : Θ.get ti.e = some te) {A : Option Addr} {n c lo : Nat} {k : IntKind} (hnc : n ≤ c) (hlo : lo ≤ n) :
    (Instr.sliceAt t (.slice A n c) (some (.int k lo)) none none).run P w = .ok (.slice (if c = lo then A else A.map (·.add (lo * te.size))) (n - lo) (c - lo)) w := by
  have hu := (hΘ.fits ht).slice h5
  have hb := run_bounds (P := P) (w := w) (b := true) (n := n) (c := c) (lo := some (k, (lo : Int))) (hi := none) (mx := none) hnc (by simp) (by simp; omega) (by simp; omega) (by simp) (by simp)
  simp only [Option.map_some, Option.map_none, Option.getD_some, Option.getD_none, intV, Int.toNat_natCast] at hb
  simp only [Instr.sliceAt, Sem.run_bind, run_underlying hu, Result.andThen_ok, Instr.slice, hb, sizeOf_run (hΘ.fits hte), Sem.run_pure]
theorem run_cuthi (hΘ : Θ.ok P) {t : Nat} {ti te : TI} (ht : Θ.get t = some ti) (h5 : ti.tag = 5) (hte : Θ.get ti.e = some te) {ad : Addr} {n c hi : Nat} {k : IntKind} (hnc : n ≤ c) (hhi : hi ≤ c) :
    (Instr.sliceAt t (.slice (some ad) n c) none (some (.int k hi)) none).run P w = .ok (.slice (some ad) hi c) w := by
  have hu := (hΘ.fits ht).slice h5
  have hb := run_bounds (P := P) (w := w) (b := true) (n := n) (c := c) (lo := none) (hi := some (k, (hi : Int))) (mx := none) hnc (by simp) (by simp) (by simp; omega) (by simp) (by simp)
  simp only [Option.map_some, Option.map_none, Option.getD_some, Option.getD_none, intV, Int.toNat_natCast] at hb
  simp only [Instr.sliceAt, Sem.run_bind, run_underlying hu, Result.andThen_ok, Instr.slice, hb, sizeOf_run (hΘ.fits hte), Sem.run_pure]
  simp [Addr.add_zero']
theorem wo_cutlo (hΘ : Θ.ok P) (ho : ops[i]? = some o) (hw : want N ops E o.guard = some true) (hd : o.dst = some d) (hN : Nat.blt d N = true) {t : Nat} {x y : Operand} {ti te : TI} (hop : o.op = .slice t x (some y) none none) (ht : Θ.get t = some ti)
    (h5 : ti.tag = 5) (hte : Θ.get ti.e = some te) {A : Option Addr} {n c lo : Nat} {k : IntKind} (hx : ev E x = some (.slice A n c)) (hy : ev E y = some (.int k lo)) (hnc : n ≤ c) (hlo : lo ≤ n)
    (h : WO P r N ops Q l ((d, .slice (if c = lo then A else A.map (·.add (lo * te.size))) (n - lo) (c - lo)) :: E) ds w) : WO P r N ops Q (i :: l) E ds w := by
  refine wo_value ho hw hd hN (by rw [hop]; simp) (fun a ha => ?_) h
  simp only [execOp, hop, Sem.run_bind, ha.eval hx, Option.map_some, Option.map_none, ha.eval hy, run_cutlo hΘ ht h5 hte hnc hlo]
  rfl
theorem op_cutlo (hΘ : Θ.ok P) {a : Act} (ha : Has N E ds a) (ho : ops[i]? = some o) (hw : want N ops E o.guard = some true) (hd : o.dst = some d) {t : Nat} {x y : Operand} {ti te : TI} (hop : o.op = .slice t x (some y) none none) (ht : Θ.get t = some ti)
    (h5 : ti.tag = 5) (hte : Θ.get ti.e = some te) {A : Option Addr} {n c lo : Nat} {k : IntKind} (hx : ev E x = some (.slice A n c)) (hy : ev E y = some (.int k lo)) (hnc : n ≤ c) (hlo : lo ≤ n) :
    OpK P r ops Q i d a w (fun u w' => u = .slice (if c = lo then A else A.map (·.add (lo * te.size))) (n - lo) (c - lo) ∧ Fr [] w w') := by
  refine op_of ho (want_ok ha hw) hd (b := true) (v := .slice (if c = lo then A else A.map (·.add (lo * te.size))) (n - lo) (c - lo)) (w' := w) ?_ ⟨rfl, Fr.refl _ _⟩
  simp only [if_true]
  refine ⟨by rw [hop]; simp, ?_⟩
  simp only [execOp, hop, Sem.run_bind, ha.eval hx, Option.map_some, Option.map_none, ha.eval hy, run_cutlo hΘ ht h5 hte hnc hlo]
  rfl
theorem wo_cuthi (hΘ : Θ.ok P) (ho : ops[i]? = some o) (hw : want N ops E o.guard = some true) (hd : o.dst = some d) (hN : Nat.blt d N = true) {t : Nat} {x y : Operand} {ti te : TI} (hop : o.op = .slice t x none (some y) none) (ht : Θ.get t = some ti)
    (h5 : ti.tag = 5) (hte : Θ.get ti.e = some te) {ad : Addr} {n c hi : Nat} {k : IntKind} (hx : ev E x = some (.slice (some ad) n c)) (hy : ev E y = some (.int k hi)) (hnc : n ≤ c) (hhi : hi ≤ c)
    (h : WO P r N ops Q l ((d, .slice (some ad) hi c) :: E) ds w) : WO P r N ops Q (i :: l) E ds w := by
  refine wo_value ho hw hd hN (by rw [hop]; simp) (fun a ha => ?_) h
  simp only [execOp, hop, Sem.run_bind, ha.eval hx, Option.map_some, Option.map_none, ha.eval hy, run_cuthi hΘ ht h5 hte hnc hhi]
  rfl
/-- copy, at an address in a row; what comes fits -/
theorem wo_copyv (hΘ : Θ.ok P) (ho : ops[i]? = some o) (hw : want N ops E o.guard = some true) (hd : o.dst = some d) (hN : Nat.blt d N = true) {t t' : Nat} {x y : Operand} {ti te : TI}
    (hop : o.op = .call { callee := .builtin .copy, args := #[x, y], argTypes := #[t, t'] }) (ht : Θ.get t = some ti) (h5 : ti.tag = 5) (hte : Θ.get ti.e = some te) {g of dn dc sn sc e : Nat} {ad : Addr} {cur : Array Value} {us : List Value}
    (hx : ev E x = some (.slice (some ⟨g, of, none⟩) dn dc)) (hy : ev E y = some (.slice (some ad) sn sc)) (hg : w.heap[g]? = some (.cells cur e (0, 0))) (hus : CellsAt w ad us) (hul : us.length = sn * te.size) (h1 : ∀ u ∈ us, u.oneCell' = true) (hle : sn ≤ dn) (hfit : of + us.length ≤ cur.size)
    (h : ∀ z, WO P r N ops Q l ((d, z) :: E) ds (w.setRow g (cur.toList.take of ++ us ++ cur.toList.drop (of + us.length)).toArray)) : WO P r N ops Q (i :: l) E ds w := by
  have hu5 := (hΘ.fits ht).slice h5
  refine wo_value ho hw hd hN (by rw [hop]; simp) (fun a ha => ?_) (h (goInt sn))
  have hload := run_loadCells_list (P := P) w ad us hus
  rw [hul] at hload
  have hstore := run_storeCells_at P g of e us 0 cur w hg (by omega) h1
  have hmin : Nat.min sn dn = sn := Nat.min_eq_left hle
  have hrun : (Builtin.copy_ #[t, t'] o.type #[.slice (some ⟨g, of, none⟩) dn dc, .slice (some ad) sn sc]).run P w = .ok (goInt sn) (w.setRow g (cur.toList.take of ++ us ++ cur.toList.drop (of + us.length)).toArray) := by
    simp only [Builtin.copy_, Sem.run_bind, List.getElem?_toArray, List.getElem?_cons_zero, List.getElem?_cons_succ, run_underlying hu5, Result.andThen_ok, Builtin.lenOf, Sem.run_pure, hmin, sizeOf_run (hΘ.fits hte), Builtin.firstCells]
    rw [hload]
    simp only [Result.andThen_ok, hstore, Sem.run_bind, Sem.run_pure, Nat.add_zero]
  simp only [execOp, hop, Sem.run_bind, resolve, Sem.run_pure, Result.andThen_ok, invoke, builtin, List.map_toArray, List.map_cons, List.map_nil, ha.eval hx, ha.eval hy, hrun]
/-- copy, at an address in a row; so much as fits -/
theorem wo_copyd (hΘ : Θ.ok P) (ho : ops[i]? = some o) (hw : want N ops E o.guard = some true) (hd : o.dst = some d) (hN : Nat.blt d N = true) {t t' : Nat} {x y : Operand} {ti te : TI}
    (hop : o.op = .call { callee := .builtin .copy, args := #[x, y], argTypes := #[t, t'] }) (ht : Θ.get t = some ti) (h5 : ti.tag = 5) (hte : Θ.get ti.e = some te) {g of dn dc sn sc e : Nat} {ad : Addr} {cur : Array Value} {us : List Value}
    (hx : ev E x = some (.slice (some ⟨g, of, none⟩) dn dc)) (hy : ev E y = some (.slice (some ad) sn sc)) (hg : w.heap[g]? = some (.cells cur e (0, 0))) (hus : CellsAt w ad us) (hul : us.length = dn * te.size) (h1 : ∀ u ∈ us, u.oneCell' = true) (hle : dn ≤ sn) (hfit : of + us.length ≤ cur.size)
    (h : ∀ z, WO P r N ops Q l ((d, z) :: E) ds (w.setRow g (cur.toList.take of ++ us ++ cur.toList.drop (of + us.length)).toArray)) : WO P r N ops Q (i :: l) E ds w := by
  have hu5 := (hΘ.fits ht).slice h5
  refine wo_value ho hw hd hN (by rw [hop]; simp) (fun a ha => ?_) (h (goInt dn))
  have hload := run_loadCells_list (P := P) w ad us hus
  rw [hul] at hload
  have hstore := run_storeCells_at P g of e us 0 cur w hg (by omega) h1
  have hmin : Nat.min sn dn = dn := Nat.min_eq_right hle
  have hrun : (Builtin.copy_ #[t, t'] o.type #[.slice (some ⟨g, of, none⟩) dn dc, .slice (some ad) sn sc]).run P w = .ok (goInt dn) (w.setRow g (cur.toList.take of ++ us ++ cur.toList.drop (of + us.length)).toArray) := by
    simp only [Builtin.copy_, Sem.run_bind, List.getElem?_toArray, List.getElem?_cons_zero, List.getElem?_cons_succ, run_underlying hu5, Result.andThen_ok, Builtin.lenOf, Sem.run_pure, hmin, sizeOf_run (hΘ.fits hte), Builtin.firstCells]
    rw [hload]
    simp only [Result.andThen_ok, hstore, Sem.run_bind, Sem.run_pure, Nat.add_zero]
  simp only [execOp, hop, Sem.run_bind, resolve, Sem.run_pure, Result.andThen_ok, invoke, builtin, List.map_toArray, List.map_cons, List.map_nil, ha.eval hx, ha.eval hy, hrun]
/-- zeros appended, with no room -/
theorem wo_appz (hΘ : Θ.ok P) (ho : ops[i]? = some o) (hw : want N ops E o.guard = some true) (hd : o.dst = some d) (hN : Nat.blt d N = true) {t tn : Nat} {x y : Operand} {ti te tj : TI}
    (hop : o.op = .call { callee := .builtin .append, args := #[x, y], argTypes := #[t, tn] }) (ht : Θ.get t = some ti) (h5 : ti.tag = 5) (hte : Θ.get ti.e = some te) (htn : Θ.get tn = some tj) (h2 : tj.tag = 2) (hpos : Nat.blt 0 te.size = true) {ad : Addr} {n c k : Nat} {kq : IntKind} {us : List Value}
    (hx : ev E x = some (.slice (some ad) n c)) (hy : ev E y = some (.int kq k)) (hus : CellsAt w ad us) (hul : us.length = n * te.size) (h0 : 0 < k) (hc : c < n + k) (hbig : (n + k) * te.bytes ≤ 140737488355328) (hb1 : Nat.ble 1 te.bytes = true)
    (h : WO P r N ops Q l ((d, .slice (some ⟨w.heap.size, 0, none⟩) (n + k) (grownCap w (n + k) c ti.e)) :: E) ds (w.drew.alloc (.cells (us.toArray ++ Builtin.zeroCells te.zero.cells k ++ Builtin.zeroCells te.zero.cells (grownCap w (n + k) c ti.e - (n + k))) ti.e))) : WO P r N ops Q (i :: l) E ds w := by
  obtain ⟨x', hx', hs, hby, hzr⟩ := (hΘ.fits hte).info
  have hpos' : 0 < te.size := Nat.blt_eq.mp hpos
  have hb1' := Nat.le_of_ble_eq_true hb1
  have hnk : n + k ≤ (n + k) * te.bytes := Nat.le_mul_of_pos_right _ hb1'
  have hkb : k * te.bytes ≤ (n + k) * te.bytes := Nat.mul_le_mul_right _ (by omega)
  have hold : (Builtin.firstCells x'.size n (.slice (some ad) n c)).run P w.drew = .ok us.toArray w.drew := by
    rw [hs]
    have := run_loadCells_list (P := P) w.drew ad us hus
    rw [hul] at this
    simpa [Builtin.firstCells] using this
  have hrun := Lib.run_append_grow_zeros (P := P) (ty := o.type) w t tn ti.e x' te.zero kq (noKind tj.k) ((hΘ.fits ht).slice h5) ((hΘ.fits htn).int h2) hx' hzr (some ad) n c us hold k h0 (by omega) hc (by omega) (by rw [hby]; omega) (by rw [hby]; exact growslice_fits hc hbig)
  refine wo_value ho hw hd hN (by rw [hop]; simp) (fun a ha => ?_) h
  simp only [execOp, hop, Sem.run_bind, resolve, Sem.run_pure, Result.andThen_ok, invoke, builtin, List.map_toArray, List.map_cons, List.map_nil, ha.eval hx, ha.eval hy, hrun]
/-- slices.overlaps at two blocks -/
theorem wo_overlaps (hΘ : Θ.ok P) (ho : ops[i]? = some o) (hw : want N ops E o.guard = some true) (hd : o.dst = some d) (hN : Nat.blt d N = true) {f t tb : Nat} {ti te : TI} {fn : Func} {x y : Operand} {ts : Array TypeId} (hop : o.op = .call { callee := .value (.func f), args := #[x, y], argTypes := ts })
    (hf : P.funcs[f]? = some fn) (hname : (fn.name == "runtime.NumGoroutine") = false) (hb : fn.body.isNone = true) (hn : Extern.findNext fn = none) (he : Extern.find fn = some (Extern.SlicesOverlaps.overlaps #[t, t] #[tb]))
    (ht : Θ.get t = some ti) (h5 : ti.tag = 5) (hte : Θ.get ti.e = some te) {ad : Addr} {g of la ca lb cb e : Nat} {cur ca' : Array Value} {e' : Nat} (hx : ev E x = some (.slice (some ad) la ca)) (hy : ev E y = some (.slice (some ⟨g, of, none⟩) lb cb)) (hne : ad.block ≠ g)
    (ha : w.heap[ad.block]? = some (.cells ca' e' (0, 0))) (hg : w.heap[g]? = some (.cells cur e (0, 0))) (hk : cur.size ≠ 0)
    (h : WO P r N ops Q l ((d, .bool false) :: E) ds w) : WO P r N ops Q (i :: l) E ds w := by
  refine wo_value ho hw hd hN (by rw [hop]; simp) (fun a hA => ?_) h
  have hsa : w.shape? ad.block = some (e', ca'.size) := by simp [World.shape?, ha]
  have hsb : w.shape? g = some (e, cur.size) := by simp [World.shape?, hg]
  have hfa : w.frozen? ad = false := by simp [World.frozen?, ha]
  have hfe : w.frozen? { block := ad.block, off := ca'.size } = false := by simp [World.frozen?, ha]
  have hrun := Lib.run_overlaps_apart (P := P) w t tb ti.e ((hΘ.fits ht).slice h5) te.size (fun w => sizeOf_run (hΘ.fits hte)) ad ⟨g, of, none⟩ la ca lb cb hne e' e ca'.size cur.size hsa hsb hk hfa hfe
  have hcall : (callFunc f #[.slice (some ad) la ca, .slice (some ⟨g, of, none⟩) lb cb]).run P w = .ok (.value (.bool false)) w := by
    rw [run_callFunc_extern hf hname hb hn he, hrun]; rfl
  have e1 : (#[x, y] : Array Operand).map a.eval = #[.slice (some ad) la ca, .slice (some ⟨g, of, none⟩) lb cb] := by simp [hA.eval hx, hA.eval hy]
  simp only [execOp, hop, Sem.run_bind, resolve, Act.eval, Deferred.ofValue, Sem.run_pure, Result.andThen_ok, invoke]
  rw [show (#[x, y] : Array Operand).map (Act.eval a) = _ from e1]
  simpa using hcall
theorem row_parts {cs : List Value} {z : Array Value} (a b : Nat) {s : Nat} (hz : z.size = s) : ∃ Z, (cs.toArray ++ Builtin.zeroCells z a ++ Builtin.zeroCells z b).toList = cs ++ Z ∧ Z.length = (a + b) * s := by
  refine ⟨(Builtin.zeroCells z a).toList ++ (Builtin.zeroCells z b).toList, by simp, ?_⟩
  simp only [List.length_append, Array.length_toList, size_zeroCells, hz, Nat.add_mul]
/-- what is written in place -/
theorem wrote' {α : Type} {T : Ty α} {e B g cap n0 : Nat} {w' : World} {new : Array Value} {cs : List Value} {zs : List α} (hO : OB O w) (hg : g ∈ O) (hB : B ≤ g) (hf : Fr [g] w w') (hh : w'.heap[g]? = some (.cells new e (0, 0))) (hs : new.size = cap * T.n) (hcm : cap ≤ maxLen) (hnc : zs.length ≤ cap)
    (hr : RepAll T O w' cs zs) (ht : new.toList.take (zs.length * T.n) = cs) : Appended T e B O w (.slice (some ⟨g, 0, none⟩) n0 cap) zs O w' (.slice (some ⟨g, 0, none⟩) zs.length cap) :=
  ⟨⟨⟨cs, ⟨hr.len, .inr ⟨g, cap, new, rfl, hB, hh, hnc, hcm, hs, ht⟩⟩, hr⟩, fun k hk => by cases hk; exact hg⟩, hf.tr (one_in hg), hf.ob hO, Sub.refl _,
    fun k hk hne => hf.block k hk (by simp; rintro rfl; exact hne rfl), fun _ _ h => h⟩
/-- what grew -/
theorem grew' {α : Type} {T : Ty α} {e B G cap : Nat} {w' : World} {v : Value} {new : Array Value} {cs : List Value} {zs : List α} (hO : OB O w) (hG : w.heap.size ≤ G) (hB : B ≤ w.heap.size) (hf : Fr [] w w') (hh : w'.heap[G]? = some (.cells new e (0, 0))) (hs : new.size = cap * T.n) (hcm : cap ≤ maxLen) (hnc : zs.length ≤ cap)
    (hr : RepAll T (G :: O) w' cs zs) (ht : new.toList.take (zs.length * T.n) = cs) : Appended T e B O w v zs (G :: O) w' (.slice (some ⟨G, 0, none⟩) zs.length cap) := by
  have hGl := (Array.getElem?_eq_some_iff.1 hh).1
  refine ⟨⟨⟨cs, ⟨hr.len, .inr ⟨G, cap, new, rfl, by omega, hh, hnc, hcm, hs, ht⟩⟩, hr⟩, fun k hk => by cases hk; exact List.mem_cons_self⟩, tr_box hf hG, fun k hk => ?_, Sub.cons (Sub.refl _) _,
    fun k hk _ => hf.block k hk (by simp), fun b hb _ he => by cases he; exact absurd hb (by show ¬ G < w.heap.size; omega)⟩
  rcases List.mem_cons.1 hk with rfl | hk
  · exact hGl
  · exact Nat.lt_of_lt_of_le (hO k hk) hf.size
end
end Go.Dc
