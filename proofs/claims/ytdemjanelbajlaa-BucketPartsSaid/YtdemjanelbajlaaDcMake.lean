/- make, copy, arrays. -/
import Derived.Test.YtdemjanelbajlaaDcCut
namespace Go.Dc
open Go.RowKit

/-! ### make -/
def mkL {α : Type} (bytes : Nat) (l c : Int) (z : α) : Option (List α) := if 0 ≤ l ∧ l ≤ c ∧ (bytes : Int) * c ≤ 281474976710656 ∧ c ≤ 281474976710656 then some (List.replicate l.toNat z) else none
theorem mod_cells {z : Array Value} : ∀ (n k j : Nat), j < k * n → z.size = n → (madeCells z (k * n)).toList[j]? = z.toList[j % n]? := by
  intro n k j hj hz
  have hn : 0 < n := by
    rcases Nat.eq_zero_or_pos n with h | h
    · subst h; simp at hj
    · exact h
  have hm : j % n < z.size := by rw [hz]; exact Nat.mod_lt _ hn
  have e : z[j % n]? = some z[j % n] := Array.getElem?_eq_getElem hm
  have e2 : z[j % n]! = z[j % n] := getElem!_pos z (j % n) hm
  simp [madeCells, hj, hz, e, e2]
theorem flat_rep {cs : List Value} {n : Nat} (hl : cs.length = n) : ∀ (k j : Nat), j < k * n → ((List.replicate k cs).flatten)[j]? = cs[j % n]? := by
  intro k
  induction k with
  | zero => intro j hj; simp at hj
  | succ k ih =>
    intro j hj
    simp only [List.replicate_succ, List.flatten_cons]
    rw [Nat.succ_mul] at hj
    by_cases h : j < n
    · rw [List.getElem?_append_left (by omega), Nat.mod_eq_of_lt h]
    · rw [List.getElem?_append_right (by omega), hl, ih (j - n) (by omega), Nat.mod_eq_sub_mod (by omega : n ≤ j)]
theorem rep_replicate {α : Type} {T : Ty α} {O : List Nat} {w : World} {cs : List Value} {z : α} (h : T.rep O w cs z) : ∀ k, RepAll T O w (List.replicate k cs).flatten (List.replicate k z) := by
  intro k
  induction k with
  | zero => rfl
  | succ k ih => exact ⟨cs, _, by simp [List.replicate_succ], h, ih⟩
section
variable {P : Program} {r : Option Nat} {N : Nat} {Θ : Tys} {ops : Array Oper} {Q : Exit → Act → World → Prop} {l : List Nat} {E : Env} {ds : List Deferred} {w : World} {i d : Nat} {o : Oper} {O : List Nat}
theorem wo_make (hΘ : Θ.ok P) (ho : ops[i]? = some o) (hw : want N ops E o.guard = some true) (hd : o.dst = some d) (hN : Nat.blt d N = true) {t : Nat} {x y : Operand} {ti te : TI} (hop : o.op = .makeSlice t x y) (ht : Θ.get t = some ti) (h5 : ti.tag = 5) (hte : Θ.get ti.e = some te)
    {kl kc : IntKind} {n c : Int} (hx : ev E x = some (.int kl n)) (hy : ev E y = some (.int kc c)) {α : Type} {T : Ty α} {z : α} {zs : List α} (hn : T.n = te.size) (hz : te.zero.cells.size = te.size) (hr : T.rep O w te.zero.cells.toList z) (hO : OB O w) {B : Nat} (hB : B ≤ w.heap.size)
    (hm : mkL te.bytes n c z = some zs) (h : ∀ b w' v', (∃ cs, New O w b ti.e cs w') → Own T ti.e B (b :: O) w' v' zs → (∀ k, v'.ownBlock = some k → k = b) → WO P r N ops Q l ((d, v') :: E) ds w') : WO P r N ops Q (i :: l) E ds w := by
  have hte' := hΘ.fits hte
  obtain ⟨x', hx', hs, hby, hzr⟩ := hte'.info
  unfold mkL at hm
  split at hm
  · rename_i hc
    obtain ⟨h0, h1, h2, h3⟩ := hc
    simp only [Option.some.injEq] at hm
    subst hm
    have hu := (hΘ.fits ht).slice h5
    have hrun := run_make (P := P) w t ti.e x' te.zero hu hx' hzr kl kc n c h0 h1 (by rw [hby]; exact h2) (by omega)
    rw [hs] at hrun
    have hnew := new_alloc hO ti.e (madeCells te.zero.cells (c.toNat * te.size)).toList
    refine wo_value ho hw hd hN (by rw [hop]; simp) (fun a ha => ?_) (h w.heap.size (w.alloc (.cells (madeCells te.zero.cells (c.toNat * te.size)).toList.toArray ti.e)) (.slice (some ⟨w.heap.size, 0, none⟩) n.toNat c.toNat) ⟨_, hnew⟩ ?_ (fun k hk => by cases hk; rfl))
    · simp only [execOp, hop, Sem.run_bind, ha.eval hx, ha.eval hy, hrun]
      simp
    · have hcn : c.toNat ≤ maxLen := by unfold maxLen; omega
      have hr' := (rep_replicate hr n.toNat).tr hnew.tr
      have hrl := hr'.len
      simp only [List.length_replicate] at hrl
      have hle : n.toNat * te.size ≤ c.toNat * te.size := Nat.mul_le_mul_right _ (by omega)
      refine ⟨⟨_, ⟨by rw [hrl]; simp, .inr ⟨w.heap.size, c.toNat, madeCells te.zero.cells (c.toNat * te.size), by simp, hB, ?_, by simp; omega, hcn, by simp [madeCells, hn], ?_⟩⟩, hr'⟩, fun g hg => by cases hg; exact List.mem_cons_self⟩
      · have := hnew.blk
        unfold Blk at this
        simpa using this
      · apply List.ext_getElem?
        intro j
        simp only [List.getElem?_take, List.length_replicate, hn]
        by_cases hj : j < n.toNat * te.size
        · rw [if_pos hj, mod_cells _ _ _ (by omega) hz, flat_rep (by simpa using hz) _ _ hj]
        · rw [if_neg hj]
          symm
          rw [List.getElem?_eq_none_iff, hrl, hn]
          omega
  · cases hm

/-! ### copy, into a row of the call's own -/
def cpy {α : Type} (xs ys : List α) : List α := ys.take xs.length ++ xs.drop ys.length
theorem RepAll.take {α : Type} {T : Ty α} : ∀ {xs : List α} {cs : List Value} (k : Nat), RepAll T O w cs xs → RepAll T O w (cs.take (k * T.n)) (xs.take k)
  | [], _, k, h => by rw [show _ = [] from h]; simp [RepAll]
  | x :: xs, _, 0, _ => by simp [RepAll]
  | x :: xs, _, k + 1, ⟨c, r, h, h1, h2⟩ => by
    subst h
    refine ⟨c, r.take (k * T.n), ?_, h1, RepAll.take k h2⟩
    have := T.len h1
    rw [Nat.succ_mul, Nat.add_comm, List.take_append, List.take_of_length_le (by omega)]
    congr 2
    omega
theorem RepAll.drop {α : Type} {T : Ty α} : ∀ {xs : List α} {cs : List Value} (k : Nat), RepAll T O w cs xs → RepAll T O w (cs.drop (k * T.n)) (xs.drop k)
  | [], _, k, h => by rw [show _ = [] from h]; simp [RepAll]
  | x :: xs, _, 0, h => by simpa using h
  | x :: xs, _, k + 1, ⟨c, r, h, h1, h2⟩ => by
    subst h
    have := T.len h1
    rw [Nat.succ_mul, Nat.add_comm, List.drop_append, List.drop_of_length_le (by omega), List.nil_append]
    have e : T.n + k * T.n - c.length = k * T.n := by omega
    rw [e]
    exact RepAll.drop k h2
/-- what a store into a row of the call's own leaves -/
theorem wrote {α : Type} {T : Ty α} {e B g cap n : Nat} {w : World} {cur new : Array Value} {cs : List Value} {zs : List α} (hO : OB O w) (hg : g ∈ O) (hB : B ≤ g) (hh : w.heap[g]? = some (.cells cur e (0, 0))) (hs : new.size = cur.size) (hcap : cur.size = cap * T.n) (hcm : cap ≤ maxLen) (hn : zs.length = n) (hnc : n ≤ cap)
    (hr : ∀ w', Tr O w O w' → RepAll T O w' cs zs) (ht : new.toList.take (n * T.n) = cs) : Appended T e B O w (.slice (some ⟨g, 0, none⟩) n cap) zs O (w.setRow g new) (.slice (some ⟨g, 0, none⟩) n cap) := by
  have hf := setRow_fr (new := new) hh
  have htr := hf.tr (one_in hg)
  have hh' : (w.setRow g new).heap[g]? = some (.cells new e (0, 0)) := setRow_heap w g _ _ _ _ hh
  have hrr := hr _ htr
  subst hn
  exact ⟨⟨⟨cs, ⟨hrr.len, .inr ⟨g, cap, new, rfl, hB, hh', hnc, hcm, by rw [hs, hcap], ht⟩⟩, hrr⟩, fun k hk => by cases hk; exact hg⟩, htr, hf.ob hO, Sub.refl _,
    fun k hk hne => hf.block k hk (by simp; rintro rfl; exact hne rfl), fun _ _ h => h⟩
theorem run_copy (hΘ : Θ.ok P) {t t' ty : Nat} {ti te : TI} (ht : Θ.get t = some ti) (h5 : ti.tag = 5) (hte : Θ.get ti.e = some te) {α : Type} {T : Ty α} (hn : T.n = te.size) {B : Nat} {v u : Value} {xs ys : List α} (hO : OB O w) (hv : Own T ti.e B O w v xs) (hu : T.slice.is O w u ys) :
    ∃ w', (Builtin.copy_ #[t, t'] ty #[v, u]).run P w = .ok (goInt (Nat.min ys.length xs.length)) w' ∧ Appended T ti.e B O w v (cpy xs ys) O w' v := by
  have hte' := hΘ.fits hte
  have hu5 := (hΘ.fits ht).slice h5
  obtain ⟨cs, ⟨hcl, h1⟩, hrep⟩ := hv.ex
  obtain ⟨A, c, rfl, hyc, _⟩ := slice_form hu
  have hgoInt : ∀ k : Nat, goInt k = .int .i64 k := fun _ => rfl
  rcases h1 with ⟨rfl, hl⟩ | ⟨g, cap, cur, rfl, hB, hh, h3, h4, h5', h6⟩
  · -- nothing to write to
    have : xs = [] := List.eq_nil_of_length_eq_zero hl
    subst this
    refine ⟨w, ?_, ⟨by simpa [cpy] using hv, Tr.refl _ _, hO, Sub.refl _, fun _ _ _ => rfl, fun _ _ h => h⟩⟩
    rcases A with _ | ad
    · simp [Builtin.copy_, run_underlying hu5, Builtin.lenOf, Builtin.firstCells, sizeOf_run hte']
    · have hl0 : (loadCells ad 0).run P w = .ok #[] w := by simpa using run_loadCells_list (P := P) w ad [] (by simp)
      simp [Builtin.copy_, run_underlying hu5, Builtin.lenOf, Builtin.firstCells, sizeOf_run hte', hl0]
  · rcases A with _ | ad
    · have hnil : ys = [] := by
        cases ys with
        | nil => rfl
        | cons y ys =>
          obtain ⟨cs', ⟨A', c', hc', _, hx'⟩, hv'⟩ := hu
          subst hc'
          obtain ⟨_, _, hA, _⟩ := hx' 0 y rfl
          subst hA
          have : Value.slice none (y :: ys).length c = .slice (some _) (y :: ys).length c' := hv'
          injection this with e; cases e
      subst hnil
      refine ⟨w, ?_, ⟨by simpa [cpy] using hv, Tr.refl _ _, hO, Sub.refl _, fun _ _ _ => rfl, fun _ _ h => h⟩⟩
      simp [Builtin.copy_, run_underlying hu5, Builtin.lenOf, Builtin.firstCells, sizeOf_run hte', storeCells]
    · obtain ⟨_, us, hru, hcu⟩ := slice_cells hu
      obtain ⟨m, hm⟩ : ∃ m, m = Nat.min ys.length xs.length := ⟨_, rfl⟩
      have hmy : m ≤ ys.length := by rw [hm]; exact Nat.min_le_left _ _
      have hmx : m ≤ xs.length := by rw [hm]; exact Nat.min_le_right _ _
      have hcells : ∀ j v, (us.take (m * T.n))[j]? = some v → w.cell? (ad.add j) = some v := fun j v hj => by
        rw [List.getElem?_take] at hj
        split at hj
        · exact hcu j v hj
        · cases hj
      have hul : us.length = ys.length * T.n := hru.len
      have hmn : m * T.n ≤ ys.length * T.n := Nat.mul_le_mul_right _ hmy
      have hmn2 : m * T.n ≤ xs.length * T.n := Nat.mul_le_mul_right _ hmx
      have hcapn : xs.length * T.n ≤ cap * T.n := Nat.mul_le_mul_right _ h3
      have htl : (us.take (m * T.n)).length = m * T.n := by rw [List.length_take]; omega
      have hload := run_loadCells_list (P := P) w ad _ hcells
      rw [htl] at hload
      have hstore := run_storeCells_at P g 0 ti.e (us.take (m * T.n)) 0 cur w hh (by rw [htl]; omega) (fun u hu => hru.one u (List.mem_of_mem_take hu))
      rw [htl] at hstore
      refine ⟨w.setRow g (cur.toList.take (0 + 0) ++ us.take (m * T.n) ++ cur.toList.drop (0 + 0 + m * T.n)).toArray, ?_, wrote (cs := us.take (m * T.n) ++ cs.drop (m * T.n)) hO (hv.mem g rfl) hB hh ?_ (by rw [h5']) h4 ?_ h3 ?_ ?_⟩
      · have hmin : Nat.min ys.length xs.length = m := hm.symm
        simp only [Builtin.copy_, Sem.run_bind, List.getElem?_toArray, List.getElem?_cons_zero, List.getElem?_cons_succ, run_underlying hu5, Result.andThen_ok, Builtin.lenOf, Sem.run_pure, hmin, sizeOf_run hte', Builtin.firstCells]
        rw [← hn, hload]
        simp only [Result.andThen_ok, hstore, Sem.run_bind, Sem.run_pure]
      · simp only [List.size_toArray, List.length_append, List.length_take, List.length_drop, Array.length_toList]
        omega
      · simp only [cpy, List.length_append, List.length_take, List.length_drop]
        omega
      · intro w' htr
        have e1 : ys.take xs.length = ys.take m := by
          rw [hm]
          rcases Nat.le_total ys.length xs.length with h | h
          · rw [List.take_of_length_le h, show Nat.min ys.length xs.length = ys.length from Nat.min_eq_left h, List.take_of_length_le (Nat.le_refl _)]
          · rw [show Nat.min ys.length xs.length = xs.length from Nat.min_eq_right h]
        have e2 : xs.drop ys.length = xs.drop m := by
          rw [hm]
          rcases Nat.le_total ys.length xs.length with h | h
          · rw [show Nat.min ys.length xs.length = ys.length from Nat.min_eq_left h]
          · rw [List.drop_of_length_le h, List.drop_of_length_le (by rw [show Nat.min ys.length xs.length = xs.length from Nat.min_eq_right h]; exact Nat.le_refl _)]
        unfold cpy
        rw [e1, e2]
        exact (RepAll.app (hru.take m) (hrep.drop m)).tr htr
      · simp only [Nat.add_zero, List.take_zero, List.nil_append, Nat.zero_add]
        rw [List.take_append, htl, List.take_of_length_le (by rw [htl]; omega)]
        congr 1
        rw [← h6, List.drop_take]
theorem wo_copy (hΘ : Θ.ok P) (ho : ops[i]? = some o) (hw : want N ops E o.guard = some true) (hd : o.dst = some d) (hN : Nat.blt d N = true) {t t' : Nat} {x y : Operand} {ti te : TI}
    (hop : o.op = .call { callee := .builtin .copy, args := #[x, y], argTypes := #[t, t'] }) (ht : Θ.get t = some ti) (h5 : ti.tag = 5) (hte : Θ.get ti.e = some te) {α : Type} {T : Ty α} (hn : T.n = te.size)
    {B : Nat} {v u : Value} {xs ys : List α} (hx : ev E x = some v) (hy : ev E y = some u) (hO : OB O w) (hv : Own T ti.e B O w v xs) (hu : T.slice.is O w u ys)
    (h : ∀ w', Appended T ti.e B O w v (cpy xs ys) O w' v → WO P r N ops Q l ((d, .int .i64 (Nat.min ys.length xs.length : Nat)) :: E) ds w') : WO P r N ops Q (i :: l) E ds w := by
  obtain ⟨w', hrun, hap⟩ := run_copy (P := P) (t' := t') (ty := o.type) hΘ ht h5 hte hn hO hv hu
  refine wo_value ho hw hd hN (by rw [hop]; simp) (fun a ha => ?_) (h w' hap)
  simp only [execOp, hop, Sem.run_bind, resolve, Sem.run_pure, Result.andThen_ok, invoke, builtin, List.map_toArray, List.map_cons, List.map_nil, ha.eval hx, ha.eval hy, hrun]
  rfl

/-! ### Arrays of one-cell elements, in a block of the call's own -/
theorem map_set' {α : Type} (f : α → Value) (L : List α) (j : Nat) (x : α) (hj : j < L.length) : putAt (L.map f) j [f x] = (L.set j x).map f := by
  unfold putAt
  apply List.ext_getElem?
  intro k
  simp only [List.getElem?_append, List.length_append, List.length_take, List.length_map, List.getElem?_take, List.getElem?_map, List.getElem?_drop, List.length_cons, List.length_nil, List.getElem?_set]
  by_cases h1 : k < j
  · have h2 : k < min j L.length := by omega
    have h3 : ¬ j = k := by omega
    have h4 : k < min j L.length + 1 := by omega
    simp [h1, h2, h3, h4]
  · by_cases h2 : k = j
    · subst h2
      have h5 : ¬ k < min k L.length := by omega
      have h4 : k < min k L.length + 1 := by omega
      have h6 : k - min k L.length = 0 := by omega
      simp [h1, h5, h4, h6, hj]
    · have h5 : ¬ k < min j L.length + 1 := by omega
      have h3 : ¬ j = k := by omega
      have h6 : j + 1 + (k - (min j L.length + 1)) = k := by omega
      simp [h5, h3, h6]
/-- the address of an array's element -/
theorem wo_aindex (hΘ : Θ.ok P) (ho : ops[i]? = some o) (hw : want N ops E o.guard = some true) (hd : o.dst = some d) (hN : Nat.blt d N = true) {t : Nat} {x y : Operand} {ti te : TI} (hop : o.op = .indexAddr t x y) (ht : Θ.get t = some ti) (h6 : ti.tag = 6) (hte : Θ.get ti.e = some te) (h1 : te.size = 1)
    {b : Nat} (hx : ev E x = some (.pointer (some ⟨b, 0, none⟩))) {k : IntKind} {j : Int} (hy : ev E y = some (.int k j)) {α : Type} {L : List α} {z : α} (hl : L.length = ti.k) (hj : idx L j = some z)
    (h : WO P r N ops Q l ((d, .pointer (some ⟨b, j.toNat, none⟩)) :: E) ds w) : WO P r N ops Q (i :: l) E ds w := by
  obtain ⟨h0, hz⟩ := idx_some hj
  have hlt : j.toNat < L.length := (List.getElem?_eq_some_iff.1 hz).1
  refine wo_value ho hw hd hN (by rw [hop]; simp) (fun a ha => ?_) h
  have hu := (hΘ.fits ht).array h6
  simp only [execOp, hop, Sem.run_bind, ha.eval hx, ha.eval hy, Instr.indexAt, asIntOf, Sem.run_pure, Result.andThen_ok, run_underlying hu, Instr.sureAddr]
  rw [if_pos ⟨h0, by omega⟩]
  have he : (⟨b, 0, none⟩ : Addr).add (j.toNat * 1) = ⟨b, j.toNat, none⟩ := by unfold Addr.add; split <;> simp_all
  simp only [Sem.run_bind, sizeOf_run (hΘ.fits hte), Result.andThen_ok, h1, Instr.sureAddr, Sem.run_pure, he]
/-- the address of an array's element whose number is written out -/
theorem wo_aindexC (hΘ : Θ.ok P) (ho : ops[i]? = some o) (hw : want N ops E o.guard = some true) (hd : o.dst = some d) (hN : Nat.blt d N = true) {t : Nat} {x y : Operand} {ti te : TI} (hop : o.op = .indexAddr t x y) (ht : Θ.get t = some ti) (h6 : ti.tag = 6) (hte : Θ.get ti.e = some te) (h1 : te.size = 1)
    {b off : Nat} (hx : ev E x = some (.pointer (some ⟨b, off, none⟩))) {k : IntKind} {j : Nat} (hy : ev E y = some (.int k (j : Int))) (hj : Nat.blt j ti.k = true)
    (h : WO P r N ops Q l ((d, .pointer (some ⟨b, off + j, none⟩)) :: E) ds w) : WO P r N ops Q (i :: l) E ds w := by
  have hlt : j < ti.k := Nat.blt_eq.mp hj
  refine wo_value ho hw hd hN (by rw [hop]; simp) (fun a ha => ?_) h
  have hu := (hΘ.fits ht).array h6
  simp only [execOp, hop, Sem.run_bind, ha.eval hx, ha.eval hy, Instr.indexAt, asIntOf, Sem.run_pure, Result.andThen_ok, run_underlying hu, Instr.sureAddr]
  rw [if_pos ⟨by omega, by omega⟩]
  have he : (⟨b, off, none⟩ : Addr).add (j * 1) = ⟨b, off + j, none⟩ := by unfold Addr.add; split <;> simp_all
  simp only [Sem.run_bind, sizeOf_run (hΘ.fits hte), Result.andThen_ok, h1, Instr.sureAddr, Sem.run_pure, Int.toNat_natCast, he]
/-- a store into an array's element -/
theorem wo_astore (hΘ : Θ.ok P) (ho : ops[i]? = some o) (hw : want N ops E o.guard = some true) (hd : o.dst = none) {t b tb j : Nat} {x y : Operand} {ti : TI} (hop : o.op = .store t x y) (ht : Θ.get t = some ti) (h1 : ti.size = 1)
    (hx : ev E x = some (.pointer (some ⟨b, j, none⟩))) {α : Type} {f : α → Value} {L : List α} {u : α} (hy : ev E y = some (f u)) (hc : (f u).cells.toList = [f u]) (h2 : (f u).oneCell' = true) (hb : Blk w b tb (L.map f)) (hj : j < L.length)
    (h : ∀ w', Blk w' b tb ((L.set j u).map f) → Fr [b] w w' → WO P r N ops Q l E ds w') : WO P r N ops Q (i :: l) E ds w := by
  obtain ⟨w', hr, hb', hf⟩ := run_storeAt (P := P) (v := f u) (off := j) (hΘ.fits ht) hb (by rw [h1]; simpa using congrArg List.length hc) (by rw [hc]; simpa using h2) (by rw [h1]; simp; omega)
  rw [hc, map_set' f L j u hj] at hb'
  refine wo_act ho hw hd (by rw [hop]; simp) (fun a ha => ?_) (h w' hb' hf)
  simp only [execOp, hop, ha.eval hx, ha.eval hy, Sem.run_bind, hr]
  rfl
/-- a load of an array's element -/
theorem wo_aload (hΘ : Θ.ok P) (ho : ops[i]? = some o) (hw : want N ops E o.guard = some true) (hd : o.dst = some d) (hN : Nat.blt d N = true) {t b tb j : Nat} {x : Operand} {ti : TI} (hop : o.op = .load t x) (ht : Θ.get t = some ti) (h1 : ti.size = 1) (hag : ti.isAgg = false)
    (hx : ev E x = some (.pointer (some ⟨b, j, none⟩))) {α : Type} {f : α → Value} {L : List α} {z : α} (hb : Blk w b tb (L.map f)) (hj : L[j]? = some z)
    (h : WO P r N ops Q l ((d, f z) :: E) ds w) : WO P r N ops Q (i :: l) E ds w :=
  wo_load hΘ ho hw hd hN hop ht hx hb [f z] (by
    rw [h1]
    apply List.ext_getElem?
    intro k
    cases k with
    | zero => simp [hj]
    | succ k => simp; omega) (by simp [h1]) (.inr h1) (f z) (by simp [valOf, hag]) h
/-- the whole array, cut: it is data from now on -/
theorem wo_aslice (hΘ : Θ.ok P) (ho : ops[i]? = some o) (hw : want N ops E o.guard = some true) (hd : o.dst = some d) (hN : Nat.blt d N = true) {t : Nat} {x : Operand} {ti te : TI} (hop : o.op = .slice t x none none none) (ht : Θ.get t = some ti) (h6 : ti.tag = 6) (hte : Θ.get ti.e = some te)
    {b tb : Nat} (hx : ev E x = some (.pointer (some ⟨b, 0, none⟩))) {α : Type} {T : Ty α} {f : α → Value} {L : List α} (hn : T.n = 1) (hL : L.length = ti.k) (hf : ∀ O w z, T.rep O w [f z] z) (hb : Blk w b tb (L.map f)) (hm : Nat.ble ti.k 16777216 = true)
    (h : ∀ v, T.slice.is (rel b O) w v L → WO P r N ops Q l ((d, v) :: E) ds w) : WO P r N ops Q (i :: l) E ds w := by
  have hm' := Nat.le_of_ble_eq_true hm
  have hrep : ∀ L : List α, RepAll T (rel b O) w (L.map f) L := by
    intro L
    induction L with
    | nil => rfl
    | cons z L ih => exact ⟨[f z], _, rfl, hf _ _ z, ih⟩
  have hsl := slice_of_cells (cap := L.length) (O := rel b O) hb (fun h => (rel_mem.1 h).2 rfl) (hrep L) (by simpa using List.take_of_length_le (by simp)) (Nat.le_refl _) (by unfold maxLen; omega)
  refine wo_value ho hw hd hN (by rw [hop]; simp) (fun a ha => ?_) (h _ hsl)
  have hu := (hΘ.fits ht).array h6
  have hb' := run_bounds (P := P) (w := w) (b := false) (n := ti.k) (c := ti.k) (lo := none) (hi := none) (mx := none) (Nat.le_refl _) (by simp) (by simp) (by simp) (by simp) (by simp)
  simp only [Option.map_none, Option.getD_none] at hb'
  simp only [execOp, hop, Option.map_none, Sem.run_bind, ha.eval hx, Instr.sliceAt, run_underlying hu, Result.andThen_ok, Instr.sureAddr, Sem.run_pure, hb', sizeOf_run (hΘ.fits hte)]
  have e : (⟨b, 0, none⟩ : Addr).add 0 = ⟨b, 0, none⟩ := by unfold Addr.add; simp
  simp [hL, e]
end
theorem ne_new' {b c : Nat} {v : Value} (hv : ∀ k, v.ownBlock = some k → k = b) (hne : c ≠ b) : v.ownBlock ≠ some c := fun e => hne (hv _ e)
theorem Own.dj_new {α : Type} {T : Ty α} {e B b t : Nat} {O : List Nat} {w w' : World} {u v : Value} {xs : List α} {cs : List Value} (h : Own T e B O w u xs) (hn : New O w b t cs w') (hv : ∀ k, v.ownBlock = some k → k = b) : Dj u v := fun g hg hb => by
  have h1 := (h.lt _ hg).2
  have h2 := hv _ hb
  have := hn.ge
  omega
theorem slice_none {α : Type} {T : Ty α} {O : List Nat} {w : World} {n c : Nat} {xs : List α} (h : T.slice.is O w (.slice none n c) xs) : xs = [] := by
  cases xs with
  | nil => rfl
  | cons y ys =>
    obtain ⟨cs', ⟨A', c', hc', _, hx'⟩, hv'⟩ := h
    subst hc'
    obtain ⟨_, _, hA, _⟩ := hx' 0 y rfl
    subst hA
    have : Value.slice none n c = .slice (some _) (y :: ys).length c' := hv'
    injection this with e; cases e
/-- one row with others put in -/
def insL {α : Type} (bytes : Nat) (xs : List α) (j : Int) (ys : List α) : Option (List α) :=
  if 0 ≤ j ∧ j ≤ xs.length ∧ (xs.length + ys.length) * bytes ≤ 1099511627776 then some (xs.take j.toNat ++ ys ++ xs.drop j.toNat) else none
theorem insL_some {α : Type} {bytes : Nat} {xs ys zs : List α} {j : Int} (h : insL bytes xs j ys = some zs) : 0 ≤ j ∧ j ≤ xs.length ∧ (xs.length + ys.length) * bytes ≤ 1099511627776 ∧ zs = xs.take j.toNat ++ ys ++ xs.drop j.toNat := by
  unfold insL at h
  split at h
  · rename_i hc
    cases h
    exact ⟨hc.1, hc.2.1, hc.2.2, rfl⟩
  · cases h
/-- a call that gives a row of the call's own, out of one -/
def GivesOwn {α : Type} (T : Ty α) (e B : Nat) (O : List Nat) (w : World) (v : Value) (zs : List α) (en : Ending) (w' : World) : Prop := ∃ v' O', en = .returned v' ∧ Appended T e B O w v zs O' w' v'
section
variable {P : Program} {r : Option Nat} {N : Nat} {ops : Array Oper} {Q : Exit → Act → World → Prop} {l : List Nat} {E : Env} {ds : List Deferred} {w : World} {i d : Nat} {o : Oper} {O : List Nat}
theorem wo_ownc (ho : ops[i]? = some o) (hw : want N ops E o.guard = some true) (hd : o.dst = some d) (hN : Nat.blt d N = true) {f : FuncId} {args : Array Operand} {ts : Array TypeId} (hop : o.op = .call { callee := .value (.func f), args := args, argTypes := ts })
    (hf : ∀ (vs : Array Value) (u : World), (callFunc f vs).run P u = .ok (.enter f vs) u) {vs : List Value} (hvs : allEv E args.toList = some vs) {α : Type} {T : Ty α} {e B : Nat} {v : Value} {zs : List α} (hcall : Calls P f vs.toArray w (GivesOwn T e B O w v zs))
    (h : ∀ v' w' O', Appended T e B O w v zs O' w' v' → WO P r N ops Q l ((d, v') :: E) ds w') : WO P r N ops Q (i :: l) E ds w :=
  wo_call ho hw hd hN hop hf hvs hcall fun _ _ ⟨v', O', he, ha⟩ => ⟨v', he, h v' _ O' ha⟩
end
theorem ptr_form {α : Type} {T : Ty α} {O : List Nat} {w : World} {p : Value} {x : α} (h : T.ptr.is O w p x) : ∃ ad, p = .pointer (some ad) := by
  obtain ⟨cs, ⟨ad, es, rfl, _⟩, hv⟩ := h
  exact ⟨ad, hv⟩
/-- the address of a part -/
theorem ptr_sub {α β : Type} {T : Ty α} {S : Ty β} {O : List Nat} {w : World} {ad : Addr} {x : α} {y : β} {off : Nat} (h : T.ptr.is O w (.pointer (some ad)) x) (hs : ∀ cs, T.rep O w cs x → S.rep O w ((cs.drop off).take S.n) y) :
    S.ptr.is O w (.pointer (some (ad.add off))) y := by
  obtain ⟨cs, ⟨ad', es, rfl, hb, ho, hr, he⟩, hv⟩ := h
  have hv : Value.pointer (some ad) = .pointer (some ad') := hv
  injection hv with e
  injection e with e
  subst e
  refine ⟨_, ⟨ad.add off, _, rfl, by rw [add_block]; exact hb, by rw [add_block]; exact ho, hs es hr, fun j u hu => ?_, fun j hj => ?_⟩, rfl⟩
  · rw [add_add]
    refine he.1 _ u ?_
    rw [List.getElem?_take] at hu
    split at hu
    · rwa [List.getElem?_drop] at hu
    · cases hu
  · rw [add_add]
    refine he.2 _ ?_
    rw [List.length_take, List.length_drop] at hj
    omega
end Go.Dc
