/- Texts: added, asked for a byte, made of bytes, gone through letter by letter. -/
import Derived.Test.YtjdeaihnpgkphaaDcNew
import Derived.Laws.BytesString
import Derived.Lib.BufferWrite
namespace Go.Dc
open Go.RowKit
def saddO (x y : ByteArray) : Option ByteArray := if x.size + y.size ≤ 9223372036854775807 then some (x ++ y) else none
def sidxO (s : ByteArray) (i : Int) : Option Int := if 0 ≤ i then (s[i.toNat]?).map fun b => (b.toNat : Int) else none
def strOf (xs : List Int) : ByteArray := xs.foldl (fun r n => r.push (UInt8.ofNat n.toNat)) ByteArray.empty
section
variable {P : Program} {r : Option Nat} {N : Nat} {Θ : Tys} {ops : Array Oper} {Q : Exit → Act → World → Prop} {l : List Nat} {E : Env} {ds : List Deferred} {w : World} {i d : Nat} {o : Oper} {O : List Nat}
theorem run_sadd {x y z : ByteArray} {t : TypeId} {ox oy : Operand} (h : saddO x y = some z) : (do eqGuard .add t ox oy (.string x) (.string y); binOp .add t (.string x) (.string y) : Sem Value).run P w = .ok (.string z) w := by
  unfold saddO at h
  split at h
  · rename_i hy
    cases h
    have : ¬ (((x.size + y.size : Nat) : Int) > IntKind.i64.max) := by
      have e : IntKind.i64.max = 9223372036854775807 := by decide
      rw [e]; omega
    simp only [go_sem, Op.stringOp]
    rw [if_neg this]
    simp
  · cases h
theorem wo_sindex (hΘ : Θ.ok P) (ho : ops[i]? = some o) (hw : want N ops E o.guard = some true) (hd : o.dst = some d) (hN : Nat.blt d N = true) {t : Nat} {x y : Operand} {ti : TI} (hop : o.op = .index t x y) (ht : Θ.get t = some ti) (h3 : ti.tag = 3)
    {s : ByteArray} (hx : ev E x = some (.string s)) {k : IntKind} {j z : Int} (hy : ev E y = some (.int k j)) (hz : sidxO s j = some z) (h : WO P r N ops Q l ((d, .int .u8 z) :: E) ds w) : WO P r N ops Q (i :: l) E ds w := by
  refine wo_value ho hw hd hN (by rw [hop]; simp) (fun a ha => ?_) h
  unfold sidxO at hz
  split at hz
  · rename_i h0
    obtain ⟨b, hb, rfl⟩ := Option.map_eq_some_iff.1 hz
    simp only [execOp, hop, Sem.run_bind, ha.eval hx, ha.eval hy, Instr.index, asIntOf, Sem.run_pure, Result.andThen_ok, run_underlying ((hΘ.fits ht).string h3), if_pos h0, hb]
  · cases hz
theorem wo_b2s (hΘ : Θ.ok P) (ho : ops[i]? = some o) (hw : want N ops E o.guard = some true) (hd : o.dst = some d) (hN : Nat.blt d N = true) {t t2 : Nat} {x : Operand} {ti te t2i : TI} (hop : o.op = .convert t t2 x) (ht : Θ.get t = some ti) (h5 : ti.tag = 5) (hte : Θ.get ti.e = some te) (h2 : te.tag = 2) (hk : noKind te.k = .u8) (ht2 : Θ.get t2 = some t2i) (h3 : t2i.tag = 3)
    {v : Value} (hx : ev E x = some v) {xs : List Int} (hv : (Ty.int .u8).slice.is O w v xs) (h : WO P r N ops Q l ((d, .string (strOf xs)) :: E) ds w) : WO P r N ops Q (i :: l) E ds w := by
  refine wo_value ho hw hd hN (by rw [hop]; simp) (fun a ha => ?_) h
  obtain ⟨A, c, rfl, _, _⟩ := slice_form hv
  have hu8 := (hΘ.fits hte).int h2
  rw [hk] at hu8
  simp only [execOp, hop, Sem.run_bind, ha.eval hx]
  rw [run_convert_bytes_string w t t2 ti.e A xs.length c ((hΘ.fits ht).slice h5) hu8 ((hΘ.fits ht2).string h3)]
  rcases A with _ | ad
  · have := slice_none hv
    subst this
    simp [Conv.bytesToString, strOf, Sem.run_pure]
  · obtain ⟨_, cs, hr, hc⟩ := slice_cells hv
    have hcs : ∀ (ys : List Int) (ds : List Value), RepAll (Ty.int .u8) O w ds ys → ds = ys.map (Value.int .u8) := by
      intro ys
      induction ys with
      | nil => intro ds h; exact h
      | cons y ys ih => intro ds ⟨c1, r1, e1, e2, e3⟩; rw [e1, ih r1 e3, show c1 = [.int .u8 y] from e2]; rfl
    have hcs' := hcs xs cs hr
    subst hcs'
    have hl := run_loadCells_list (P := P) w ad (xs.map (Value.int .u8)) hc
    rw [List.length_map] at hl
    rw [run_bytesToString w ad xs.length c xs hl]
    rfl
/-- the whole array, cut: the slice's value -/
theorem wo_acutV (hΘ : Θ.ok P) (ho : ops[i]? = some o) (hw : want N ops E o.guard = some true) (hd : o.dst = some d) (hN : Nat.blt d N = true) {t : Nat} {x : Operand} {ti te : TI} (hop : o.op = .slice t x none none none) (ht : Θ.get t = some ti) (h6 : ti.tag = 6) (hte : Θ.get ti.e = some te)
    {b : Nat} (hx : ev E x = some (.pointer (some ⟨b, 0, none⟩))) (h : WO P r N ops Q l ((d, .slice (some ⟨b, 0, none⟩) ti.k ti.k) :: E) ds w) : WO P r N ops Q (i :: l) E ds w := by
  refine wo_value ho hw hd hN (by rw [hop]; simp) (fun a ha => ?_) h
  have hu := (hΘ.fits ht).array h6
  have hb' := run_bounds (P := P) (w := w) (b := false) (n := ti.k) (c := ti.k) (lo := none) (hi := none) (mx := none) (Nat.le_refl _) (by simp) (by simp) (by simp) (by simp) (by simp)
  simp only [Option.map_none, Option.getD_none] at hb'
  simp only [execOp, hop, Option.map_none, Sem.run_bind, ha.eval hx, Instr.sliceAt, run_underlying hu, Result.andThen_ok, Instr.sureAddr, Sem.run_pure, hb', sizeOf_run (hΘ.fits hte)]
  have e : (⟨b, 0, none⟩ : Addr).add 0 = ⟨b, 0, none⟩ := by unfold Addr.add; simp
  simp [e]
/-- a text's bytes, copied -/
theorem wo_copyS (hΘ : Θ.ok P) (ho : ops[i]? = some o) (hw : want N ops E o.guard = some true) (hd : o.dst = some d) (hN : Nat.blt d N = true) {t t' : Nat} {x y : Operand} {ti te : TI}
    (hop : o.op = .call { callee := .builtin .copy, args := #[x, y], argTypes := #[t, t'] }) (ht : Θ.get t = some ti) (h5 : ti.tag = 5) (hte : Θ.get ti.e = some te) (h1 : te.size = 1) {b tb n c : Nat} {s : ByteArray} (hx : ev E x = some (.slice (some ⟨b, 0, none⟩) n c)) (hy : ev E y = some (.string s)) {cs : List Value} (hb : Blk w b tb cs) (hn : s.size ≤ n) (hc : n ≤ cs.length)
    (h : ∀ w', Blk w' b tb (Lib.byteCells s.data.toList ++ cs.drop s.size) → Fr [b] w w' → WO P r N ops Q l ((d, goInt s.size) :: E) ds w') : WO P r N ops Q (i :: l) E ds w := by
  have hte' := hΘ.fits hte
  obtain ⟨xi, hxi, hsz, _, _⟩ := hte'.info
  have hrun := Lib.run_copy_row_string (P := P) w t t' o.type ti.e b 0 n c s cs.toArray tb ((hΘ.fits ht).slice h5) (by rw [hxi, Option.map_some, hsz, h1]) hb hn (by simp; omega)
  simp only [Nat.zero_add, List.take_zero, List.nil_append, List.toList_toArray] at hrun
  refine wo_value ho hw hd hN (by rw [hop]; simp) (fun a ha => ?_) (h (w.setRow b (Lib.byteCells s.data.toList ++ cs.drop s.size).toArray) ?_ (setRow_fr hb))
  · simp only [execOp, hop, Sem.run_bind, resolve, Sem.run_pure, Result.andThen_ok, invoke, builtin, List.map_toArray, List.map_cons, List.map_nil, ha.eval hx, ha.eval hy, hrun]
  · unfold Blk
    rw [setRow_heap w b _ _ _ _ hb]
/-- a place of an array's value -/
theorem wo_aidx (hΘ : Θ.ok P) (ho : ops[i]? = some o) (hw : want N ops E o.guard = some true) (hd : o.dst = some d) (hN : Nat.blt d N = true) {t : Nat} {x y : Operand} {ti te : TI} (hop : o.op = .index t x y) (ht : Θ.get t = some ti) (h6 : ti.tag = 6) (hte : Θ.get ti.e = some te) (h1 : te.size = 1) (hag : te.isAgg = false)
    {cs : List Value} (hx : ev E x = some (.agg cs.toArray)) {k : IntKind} {j : Nat} (hy : ev E y = some (.int k (j : Int))) (hj : j < ti.k) {v : Value} (hv : cs[j]? = some v) (h : WO P r N ops Q l ((d, v) :: E) ds w) : WO P r N ops Q (i :: l) E ds w := by
  refine wo_value ho hw hd hN (by rw [hop]; simp) (fun a ha => ?_) h
  have hu := (hΘ.fits ht).array h6
  simp only [execOp, hop, Sem.run_bind, ha.eval hx, ha.eval hy, Instr.index, asIntOf, Sem.run_pure, Result.andThen_ok, run_underlying hu]
  rw [if_pos ⟨by omega, by omega⟩]
  have ha' := isAgg_run (P := P) (w := w) (hΘ.fits hte)
  have hg : (Nat.beq te.tag 8 || Nat.beq te.tag 6) = false := hag
  simp [part, sizeOf_run (hΘ.fits hte), ha', hg, h1, hv]
/-- a text, to be gone through -/
theorem wo_range (hΘ : Θ.ok P) (ho : ops[i]? = some o) (hw : want N ops E o.guard = some true) (hd : o.dst = some d) (hN : Nat.blt d N = true) {t : Nat} {x : Operand} {ti : TI} (hop : o.op = .range t x) (ht : Θ.get t = some ti) (h3 : ti.tag = 3) {s : ByteArray} (hx : ev E x = some (.string s))
    (h : ∀ b w', w'.heap[b]? = some (.stringIter s 0) → w.heap.size ≤ b → Fr [] w w' → WO P r N ops Q l ((d, .pointer (some ⟨b, 0, none⟩)) :: E) ds w') : WO P r N ops Q (i :: l) E ds w := by
  refine wo_value ho hw hd hN (by rw [hop]; simp) (fun a ha => ?_) (h w.heap.size { w with heap := w.heap.push (.stringIter s 0) } (by simp) (Nat.le_refl _) ⟨rfl, rfl, rfl, by simp, fun k hk _ => by simp only; rw [Array.getElem?_push_lt hk, Array.getElem?_eq_getElem hk]⟩)
  simp only [execOp, hop, Sem.run_bind, ha.eval hx, Instr.range, run_underlying ((hΘ.fits ht).string h3), Result.andThen_ok, Sem.run_pure]
  simp [newObj, Sem.run]
/-- the next letter -/
theorem wo_next (ho : ops[i]? = some o) (hw : want N ops E o.guard = some true) (hd : o.dst = some d) (hN : Nat.blt d N = true) {x : Operand} (hop : o.op = .next x true) {b : Nat} (hx : ev E x = some (.pointer (some ⟨b, 0, none⟩))) {s : ByteArray} {pos : Nat} (hb : w.heap[b]? = some (.stringIter s pos)) (hlt : pos < s.size)
    (h : ∀ w', w'.heap[b]? = some (.stringIter s (pos + (Utf8.decode s pos).2)) → Fr [b] w w' → WO P r N ops Q l ((d, .tuple #[.bool true, goInt pos, .int .i32 (Utf8.decode s pos).1]) :: E) ds w') : WO P r N ops Q (i :: l) E ds w := by
  have hl : b < w.heap.size := (Array.getElem?_eq_some_iff.1 hb).1
  refine wo_value ho hw hd hN (by rw [hop]; simp) (fun a ha => ?_) (h { w with heap := w.heap.setIfInBounds b (.stringIter s (pos + (Utf8.decode s pos).2)) } (by simp [hl]) ⟨rfl, rfl, rfl, by simp, fun k hk hne => by simp at hne; simp only; rw [Array.getElem?_setIfInBounds_ne (fun e => hne e.symm)]⟩)
  have hg : (getObj b).run P w = .ok (.stringIter s pos) w := by simp [getObj, Sem.run, hb]
  have hst : ∀ o : Obj, (setObj b o).run P w = .ok () { w with heap := w.heap.setIfInBounds b o } := fun o => by simp [setObj, Sem.run, hb]
  simp only [execOp, hop, Sem.run_bind, ha.eval hx, Instr.next, hg, Result.andThen_ok, if_pos hlt, hst, Sem.run_pure]
theorem wo_nextEnd (ho : ops[i]? = some o) (hw : want N ops E o.guard = some true) (hd : o.dst = some d) (hN : Nat.blt d N = true) {x : Operand} (hop : o.op = .next x true) {b : Nat} (hx : ev E x = some (.pointer (some ⟨b, 0, none⟩))) {s : ByteArray} {pos : Nat} (hb : w.heap[b]? = some (.stringIter s pos)) (hlt : ¬ pos < s.size)
    (h : WO P r N ops Q l ((d, .tuple #[.bool false]) :: E) ds w) : WO P r N ops Q (i :: l) E ds w := by
  refine wo_value ho hw hd hN (by rw [hop]; simp) (fun a ha => ?_) h
  have hg : (getObj b).run P w = .ok (.stringIter s pos) w := by simp [getObj, Sem.run, hb]
  simp only [execOp, hop, Sem.run_bind, ha.eval hx, Instr.next, hg, Result.andThen_ok, if_neg hlt, Sem.run_pure]
/-- the address of an array's element whose number is written out, within a region that draws its order -/
theorem op_aindexC {P : Program} {r : Option Nat} {N : Nat} {Θ : Tys} {ops : Array Oper} {Q : Exit → Act → World → Prop} {E : Env} {ds : List Deferred} {w : World} {i d : Nat} {o : Oper} (hΘ : Θ.ok P) {a : Act} (ha : Has N E ds a) (ho : ops[i]? = some o) (hw : want N ops E o.guard = some true) (hd : o.dst = some d) {t : Nat} {x y : Operand} {ti te : TI} (hop : o.op = .indexAddr t x y) (ht : Θ.get t = some ti) (h6 : ti.tag = 6) (hte : Θ.get ti.e = some te) (h1 : te.size = 1)
    {b off : Nat} (hx : ev E x = some (.pointer (some ⟨b, off, none⟩))) {k : IntKind} {j : Nat} (hy : ev E y = some (.int k (j : Int))) (hj : Nat.blt j ti.k = true) : OpK P r ops Q i d a w (fun u w' => u = .pointer (some ⟨b, off + j, none⟩) ∧ Fr [] w w') := by
  have hlt : j < ti.k := Nat.blt_eq.mp hj
  refine op_of ho (want_ok ha hw) hd (b := true) (v := .pointer (some ⟨b, off + j, none⟩)) (w' := w) ?_ ⟨rfl, Fr.refl _ _⟩
  simp only [if_true]
  refine ⟨by rw [hop]; simp, ?_⟩
  have hu := (hΘ.fits ht).array h6
  simp only [execOp, hop, Sem.run_bind, ha.eval hx, ha.eval hy, Instr.indexAt, asIntOf, Sem.run_pure, Result.andThen_ok, run_underlying hu, Instr.sureAddr]
  rw [if_pos ⟨by omega, by omega⟩]
  have he : (⟨b, off, none⟩ : Addr).add (j * 1) = ⟨b, off + j, none⟩ := by unfold Addr.add; split <;> simp_all
  simp only [Sem.run_bind, sizeOf_run (hΘ.fits hte), Result.andThen_ok, h1, Instr.sureAddr, Sem.run_pure, Int.toNat_natCast, he]
end
end Go.Dc
