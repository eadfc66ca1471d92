/- Maps of integers to integers. -/
import Derived.Test.YtdemjanelbajlaaDcIns
import Derived.MapKept
namespace Go.Dc
open Go.RowKit

def entsOf (kk kv : IntKind) (es : Array MapEntry) (m : List (Int × Int)) : Prop := es.toList.map (fun e => (e.key, e.val)) = m.map fun p => (Value.int kk p.1, Value.int kv p.2)
def MapIs (kk kv : IntKind) (w : World) (b : Nat) (m : List (Int × Int)) : Prop := ∃ es c, w.heap[b]? = some (.map es c) ∧ entsOf kk kv es m
theorem MapIs.lt {kk kv : IntKind} {w : World} {b : Nat} {m : List (Int × Int)} (h : MapIs kk kv w b m) : b < w.heap.size := by
  obtain ⟨es, c, h, _⟩ := h
  exact (Array.getElem?_eq_some_iff.1 h).1
theorem MapIs.of_heap {kk kv : IntKind} {w w' : World} {b : Nat} {m : List (Int × Int)} (h : MapIs kk kv w b m) (e : w'.heap[b]? = w.heap[b]?) : MapIs kk kv w' b m := by
  obtain ⟨es, c, h1, h2⟩ := h
  exact ⟨es, c, e.trans h1, h2⟩
theorem MapIs.fr {kk kv : IntKind} {S : List Nat} {w w' : World} {b : Nat} {m : List (Int × Int)} (h : MapIs kk kv w b m) (hf : Fr S w w') (hb : b ∉ S) : MapIs kk kv w' b m := h.of_heap (hf.block b h.lt hb)
theorem MapIs.fr0 {kk kv : IntKind} {w w' : World} {b : Nat} {m : List (Int × Int)} (h : MapIs kk kv w b m) (hf : Fr [] w w') : MapIs kk kv w' b m := h.fr hf (by simp)
/-- a map as data -/
def Ty.imap (kk kv : IntKind) : Ty (List (Int × Int)) where
  agg := false
  n := 1
  rep O w cs m := ∃ b, cs = [.map (some b)] ∧ b ∉ O ∧ MapIs kk kv w b m
  tr ht := fun ⟨b, h, ho, hm⟩ => let ⟨k1, k2⟩ := ht.keep b hm.lt ho; ⟨b, h, k1, hm.of_heap k2⟩
  len := fun ⟨_, h, _⟩ => by subst h; rfl
  one := fun ⟨_, h, _⟩ u hu => by subst h; simp at hu; subst hu; rfl
  sing _ := rfl
def lookM (m : List (Int × Int)) (k : Int) : Option Int := (m.find? fun p => k == p.1).map (·.2)
def setM (m : List (Int × Int)) (k v : Int) : List (Int × Int) := match m.findIdx? (fun p => k == p.1) with | some i => m.set i (k, v) | none => m ++ [(k, v)]
theorem find_ents {kk kv : IntKind} {k : Int} : ∀ {es : List MapEntry} {m : List (Int × Int)} (i : Nat), es.map (fun e => (e.key, e.val)) = m.map (fun p => (Value.int kk p.1, Value.int kv p.2)) →
    Instr.findNow (.int kk) (.int kk k) es i = some (match m.findIdx? (fun p => k == p.1) with | some j => (es[j]?).map (fun e => (i + j, e.val)) | none => none)
  | [], [], i, _ => rfl
  | [], _ :: _, _, h => by cases h
  | _ :: _, [], _, h => by cases h
  | e :: es, p :: m, i, h => by
    simp only [List.map_cons, List.cons.injEq, Prod.mk.injEq] at h
    obtain ⟨⟨h1, h2⟩, h3⟩ := h
    simp only [Instr.findNow, h1, Instr.sameNow, if_true, List.findIdx?_cons]
    cases hk : k == p.1 with
    | true => simp
    | false =>
      simp only [Bool.false_eq_true, if_false]
      rw [find_ents (i + 1) h3]
      cases m.findIdx? (fun p => k == p.1) with
      | none => rfl
      | some j => simp; congr 2; funext e; simp; omega
theorem entsOf.at {kk kv : IntKind} {es : Array MapEntry} {m : List (Int × Int)} (h : entsOf kk kv es m) {j : Nat} {p : Int × Int} (hj : m[j]? = some p) : ∃ e, es.toList[j]? = some e ∧ e.key = .int kk p.1 ∧ e.val = .int kv p.2 := by
  have := congrArg (·[j]?) h
  simp only [List.getElem?_map, hj, Option.map_some] at this
  obtain ⟨e, he, h2⟩ := Option.map_eq_some_iff.1 this
  simp only [Prod.mk.injEq] at h2
  exact ⟨e, he, h2.1, h2.2⟩
theorem find_idx {α : Type} (l : List α) (p : α → Bool) : match l.findIdx? p with | some j => ∃ d, l[j]? = some d ∧ l.find? p = some d | none => l.find? p = none := by
  induction l with
  | nil => rfl
  | cons z r ih =>
    rw [List.findIdx?_cons, List.find?_cons]
    cases h : p z with
    | true => exact ⟨z, rfl, rfl⟩
    | false =>
      cases h2 : r.findIdx? p with
      | none => rw [h2] at ih; simpa using ih
      | some j => rw [h2] at ih; obtain ⟨d, h3, h4⟩ := ih; exact ⟨d, by simpa using h3, by simpa using h4⟩
section
variable {P : Program} {r : Option Nat} {N : Nat} {Θ : Tys} {ops : Array Oper} {Q : Exit → Act → World → Prop} {l : List Nat} {E : Env} {ds : List Deferred} {w : World} {i d : Nat} {o : Oper} {O : List Nat}
theorem run_checkInt {kt : TypeId} {kk : IntKind} {k : Int} {em : Bool} (hd : P.underlying kt = some (.int kk)) : (Instr.checkKey em 10000 kt (.int kk k)).run P w = .ok () w := by
  unfold Instr.checkKey
  simp [run_underlying hd]
theorem run_lookM (hΘ : Θ.ok P) {t : Nat} {ti tk te : TI} (ht : Θ.get t = some ti) (h7 : ti.tag = 7) (htk : Θ.get ti.k = some tk) (h2 : tk.tag = 2) (hte : Θ.get ti.e = some te) {kk kv : IntKind} (hk : noKind tk.k = kk) (hz : te.zero = .int kv 0) {b : Nat} {m : List (Int × Int)} (hm : MapIs kk kv w b m) (k : Int) (ok : Bool) :
    (Instr.lookup t (.map (some b)) (.int kk k) ok).run P w = .ok (bif ok then .tuple #[.int kv ((lookM m k).getD 0), .bool (lookM m k).isSome] else .int kv ((lookM m k).getD 0)) w := by
  obtain ⟨es, c, hh, he⟩ := hm
  have hu := (hΘ.fits ht).map h7
  have huk := (hΘ.fits htk).int h2
  rw [hk] at huk
  have hf := find_ents (k := k) 0 he
  have hobj : (getObj b).run P w = .ok (.map es c) w := by simp [getObj, Sem.run, hh]
  have hfk : (Instr.findKey ti.k (.int kk k) es.toList).run P w = .ok (match m.findIdx? (fun p => k == p.1) with | some j => (es.toList[j]?).map (fun e => (0 + j, e.val)) | none => none) w := MapKept.run_findKey huk hf
  have hix := find_idx m (fun p => k == p.1)
  simp only [Instr.lookup, Sem.run_bind, run_underlying hu, Result.andThen_ok, hobj, Sem.run_pure, run_checkInt huk, hfk]
  unfold lookM
  cases hi : m.findIdx? (fun p => k == p.1) with
  | none =>
    rw [hi] at hix
    simp only at hix
    rw [hix]
    simp only [Sem.run_bind, zero_run (hΘ.fits hte), Result.andThen_ok, Sem.run_pure, hz]
    cases ok <;> rfl
  | some j =>
    rw [hi] at hix
    simp only at hix
    obtain ⟨p, hp, hfp⟩ := hix
    obtain ⟨e, he1, _, he2⟩ := he.at hp
    rw [hfp]
    simp only [he1, Option.map_some, Sem.run_pure, Result.andThen_ok, he2]
    cases ok <;> rfl
theorem wo_lookM (hΘ : Θ.ok P) (ho : ops[i]? = some o) (hw : want N ops E o.guard = some true) (hd : o.dst = some d) (hN : Nat.blt d N = true) {t : Nat} {x y : Operand} {ok : Bool} {ti tk te : TI} (hop : o.op = .lookup t x y ok) (ht : Θ.get t = some ti) (h7 : ti.tag = 7) (htk : Θ.get ti.k = some tk) (h2 : tk.tag = 2) (hte : Θ.get ti.e = some te) {kk kv : IntKind} (hk : noKind tk.k = kk) (hz : te.zero = .int kv 0)
    {v : Value} {m : List (Int × Int)} {k : Int} (hx : ev E x = some v) (hy : ev E y = some (.int kk k)) (hm : (Ty.imap kk kv).is O w v m)
    (h : WO P r N ops Q l ((d, bif ok then .tuple #[.int kv ((lookM m k).getD 0), .bool (lookM m k).isSome] else .int kv ((lookM m k).getD 0)) :: E) ds w) : WO P r N ops Q (i :: l) E ds w := by
  obtain ⟨_, ⟨b, rfl, _, hm⟩, rfl⟩ := hm
  refine wo_value ho hw hd hN (by rw [hop]; simp) (fun a ha => ?_) h
  have hx' : ev E x = some (.map (some b)) := hx
  simp only [execOp, hop, Sem.run_bind, ha.eval hx', ha.eval hy, run_lookM hΘ ht h7 htk h2 hte hk hz hm k ok]
  rfl
theorem op_lookM (hΘ : Θ.ok P) {a : Act} (ha : Has N E ds a) (ho : ops[i]? = some o) (hw : want N ops E o.guard = some true) (hd : o.dst = some d) {t : Nat} {x y : Operand} {ok : Bool} {ti tk te : TI} (hop : o.op = .lookup t x y ok) (ht : Θ.get t = some ti) (h7 : ti.tag = 7) (htk : Θ.get ti.k = some tk) (h2 : tk.tag = 2) (hte : Θ.get ti.e = some te) {kk kv : IntKind} (hk : noKind tk.k = kk) (hz : te.zero = .int kv 0)
    {v : Value} {m : List (Int × Int)} {k : Int} (hx : ev E x = some v) (hy : ev E y = some (.int kk k)) (hm : (Ty.imap kk kv).is O w v m) :
    OpK P r ops Q i d a w (fun u w' => u = (bif ok then .tuple #[.int kv ((lookM m k).getD 0), .bool (lookM m k).isSome] else .int kv ((lookM m k).getD 0)) ∧ Fr [] w w') := by
  obtain ⟨_, ⟨b, rfl, _, hm⟩, rfl⟩ := hm
  have hx' : ev E x = some (.map (some b)) := hx
  refine op_of ho (want_ok ha hw) hd (b := true) (w' := w) ?_ ⟨rfl, Fr.refl _ _⟩
  simp only [if_true]
  refine ⟨by rw [hop]; simp, ?_⟩
  simp only [execOp, hop, Sem.run_bind, ha.eval hx', ha.eval hy, run_lookM hΘ ht h7 htk h2 hte hk hz hm k ok]
  rfl
/-- a new map -/
structure NewM (O : List Nat) (w : World) (b : Nat) (w' : World) : Prop where
  heap : w'.heap[b]? = some (.map #[] 0)
  fr : Fr [] w w'
  tr : Tr O w (b :: O) w'
  ob : OB (b :: O) w'
  ge : w.heap.size ≤ b
theorem NewM.is {b : Nat} {w' : World} (h : NewM O w b w') (kk kv : IntKind) : MapIs kk kv w' b [] := ⟨#[], 0, h.heap, rfl⟩
theorem wo_makeM (ho : ops[i]? = some o) (hw : want N ops E o.guard = some true) (hd : o.dst = some d) (hN : Nat.blt d N = true) {t : Nat} (hop : o.op = .makeMap t none) (hO : OB O w)
    (h : ∀ b w', NewM O w b w' → WO P r N ops Q l ((d, .map (some b)) :: E) ds w') : WO P r N ops Q (i :: l) E ds w := by
  refine wo_value ho hw hd hN (by rw [hop]; simp) (fun a ha => ?_) (h w.heap.size (w.alloc (.map #[] 0)) ⟨heap_alloc_new _ _, ⟨rfl, rfl, rfl, by simp, fun k hk _ => Below.heap_alloc _ _ _ hk⟩,
    ⟨rfl, rfl, rfl, by simp, fun k hk ho => ⟨by simp; exact ⟨by omega, ho⟩, Below.heap_alloc _ _ _ hk⟩⟩, fun k hk => ?_, Nat.le_refl _⟩)
  · simp only [execOp, hop, Sem.run_bind, Option.map_none]
    rw [show (Instr.makeMap t none).run P w = .ok (.map (some w.heap.size)) (w.alloc (.map #[] 0)) from rfl]
    rfl
  · simp at hk ⊢
    rcases hk with rfl | hk
    · omega
    · have := hO k hk; omega
theorem run_setM (hΘ : Θ.ok P) {t : Nat} {ti tk : TI} (ht : Θ.get t = some ti) (h7 : ti.tag = 7) (htk : Θ.get ti.k = some tk) (h2 : tk.tag = 2) {kk kv : IntKind} (hk : noKind tk.k = kk) {b : Nat} {m : List (Int × Int)} (hm : MapIs kk kv w b m) (k v : Int) :
    ∃ w', (Instr.mapUpdate t (.map (some b)) (.int kk k) (.int kv v)).run P w = .ok () w' ∧ MapIs kk kv w' b (setM m k v) ∧ Fr [b] w w' := by
  have hlt := hm.lt
  obtain ⟨es, c, hh, he⟩ := hm
  have hu := (hΘ.fits ht).map h7
  have huk := (hΘ.fits htk).int h2
  rw [hk] at huk
  have hf := find_ents (k := k) 0 he
  have hobj : (getObj b).run P w = .ok (.map es c) w := by simp [getObj, Sem.run, hh]
  have hset : ∀ es' c', (setObj b (.map es' c')).run P w = .ok () { w with heap := w.heap.setIfInBounds b (.map es' c') } := fun es' c' => by simp [setObj, Sem.run, hh]
  have hfr : ∀ es' c', Fr [b] w { w with heap := w.heap.setIfInBounds b (.map es' c') } := fun es' c' => ⟨rfl, rfl, rfl, by simp, fun k hk hne => by
    have hne' : b ≠ k := fun e => hne (by simp [e])
    simp [Array.getElem?_setIfInBounds_ne hne']⟩
  have hfk : (Instr.findKey ti.k (.int kk k) es.toList).run P w = .ok (match m.findIdx? (fun p => k == p.1) with | some j => (es.toList[j]?).map (fun e => (0 + j, e.val)) | none => none) w := MapKept.run_findKey huk hf
  have hix := find_idx m (fun p => k == p.1)
  unfold setM
  simp only [Instr.mapUpdate, Sem.run_bind, run_underlying hu, Result.andThen_ok, hobj, Sem.run_pure, run_checkInt huk, hfk]
  cases hi : m.findIdx? (fun p => k == p.1) with
  | none =>
    refine ⟨_, hset _ _, ⟨_, _, (MapKept.heap_set hh).1, ?_⟩, hfr _ _⟩
    unfold entsOf at he ⊢
    simp [he]
  | some j =>
    rw [hi] at hix
    simp only at hix
    obtain ⟨p, hp, hfp⟩ := hix
    obtain ⟨e, he1, he2, he3⟩ := he.at hp
    have hkp : k = p.1 := by have := List.find?_some hfp; simpa using this
    have hes : es[j]? = some e := by simpa using he1
    have hkey : ∀ k' : Int, (Instr.keyThatStays (.int kk k') (.int kk k')).run P w = .ok (.int kk k') w := fun k' => by
      unfold Instr.keyThatStays
      rw [if_pos (by simp [Instr.sameBits])]
      rfl
    simp only [he1, Option.map_some, Nat.zero_add, Sem.run_bind, hes, Option.getD_some, he2, ← hkp, hkey, Result.andThen_ok]
    refine ⟨_, hset _ _, ⟨_, _, (MapKept.heap_set hh).1, ?_⟩, hfr _ _⟩
    unfold entsOf at he ⊢
    apply List.ext_getElem?
    intro q
    have hq := congrArg (·[q]?) he
    simp only [List.getElem?_map] at hq ⊢
    simp only [Array.toList_modify, List.getElem?_modify, List.getElem?_set]
    by_cases hjq : j = q
    · subst hjq
      have hjl : j < m.length := (List.getElem?_eq_some_iff.1 hp).1
      simp [he1, hjl]
    · simp [hjq]
      simpa using hq
theorem wo_setM (hΘ : Θ.ok P) (ho : ops[i]? = some o) (hw : want N ops E o.guard = some true) (hd : o.dst = none) {t : Nat} {x y z : Operand} {ti tk : TI} (hop : o.op = .insert t x y z ∨ o.op = .mapUpdate t x y z) (ht : Θ.get t = some ti) (h7 : ti.tag = 7) (htk : Θ.get ti.k = some tk) (h2 : tk.tag = 2) {kk kv : IntKind} (hk : noKind tk.k = kk)
    {b : Nat} {m : List (Int × Int)} {k v : Int} (hx : ev E x = some (.map (some b))) (hy : ev E y = some (.int kk k)) (hz : ev E z = some (.int kv v)) (hm : MapIs kk kv w b m)
    (h : ∀ w', MapIs kk kv w' b (setM m k v) → Fr [b] w w' → WO P r N ops Q l E ds w') : WO P r N ops Q (i :: l) E ds w := by
  obtain ⟨w', hrun, h1, h2'⟩ := run_setM hΘ ht h7 htk h2 hk hm k v
  refine wo_act ho hw hd (by rcases hop with hop | hop <;> (rw [hop]; simp)) (fun a ha => ?_) (h w' h1 h2')
  rcases hop with hop | hop <;>
    (simp only [execOp, hop, Sem.run_bind, ha.eval hx, ha.eval hy, ha.eval hz, hrun]; rfl)
end
/-- lookup in a map of the call's own -/
theorem wo_lookO {P : Program} {r : Option Nat} {N : Nat} {Θ : Tys} {ops : Array Oper} {Q : Exit → Act → World → Prop} {l : List Nat} {E : Env} {ds : List Deferred} {w : World} {i d : Nat} {o : Oper} (hΘ : Θ.ok P) (ho : ops[i]? = some o) (hw : want N ops E o.guard = some true) (hd : o.dst = some d) (hN : Nat.blt d N = true) {t : Nat} {x y : Operand} {ok : Bool} {ti tk te : TI} (hop : o.op = .lookup t x y ok) (ht : Θ.get t = some ti) (h7 : ti.tag = 7) (htk : Θ.get ti.k = some tk) (h2 : tk.tag = 2) (hte : Θ.get ti.e = some te) {kk kv : IntKind} (hk : noKind tk.k = kk) (hz : te.zero = .int kv 0)
    {b : Nat} {m : List (Int × Int)} {k : Int} (hx : ev E x = some (.map (some b))) (hy : ev E y = some (.int kk k)) (hm : MapIs kk kv w b m)
    (h : WO P r N ops Q l ((d, bif ok then .tuple #[.int kv ((lookM m k).getD 0), .bool (lookM m k).isSome] else .int kv ((lookM m k).getD 0)) :: E) ds w) : WO P r N ops Q (i :: l) E ds w :=
  wo_lookM (O := []) hΘ ho hw hd hN hop ht h7 htk h2 hte hk hz hx hy ⟨_, ⟨b, rfl, by simp, hm⟩, rfl⟩ h
/-- a map of the call's own is shared -/
theorem imap_give {kk kv : IntKind} {O : List Nat} {w : World} {b : Nat} {m : List (Int × Int)} (h : MapIs kk kv w b m) : (Ty.imap kk kv).is (rel b O) w (.map (some b)) m := ⟨_, ⟨b, rfl, fun h => (rel_mem.1 h).2 rfl, h⟩, rfl⟩
theorem imap_share {kk kv : IntKind} {O0 : List Nat} {w0 w : World} {b : Nat} {m : List (Int × Int)} (h : MapIs kk kv w b m) (hg : w0.heap.size ≤ b) (h0 : OB O0 w0) : (Ty.imap kk kv).is O0 w (.map (some b)) m :=
  ⟨_, ⟨b, rfl, fun hb => by have := h0 b hb; omega, h⟩, rfl⟩
end Go.Dc
