/- A walk over the program's code by environments: an environment says what is known of the slots; runs of plain operations are reckoned by one function. -/
import Derived.ControlIn
import Derived.CallsIn
import Derived.WalkKit
import Derived.RangeFuncNested
import Derived.RangeFuncLeaves
namespace Go.Dc
open Go.RowKit

/-! ### Environments -/

abbrev Env := List (Nat × Value)
def Env.get : Env → Nat → Option Value
  | [], _ => none
  | (i, v) :: r, j => bif Nat.beq i j then some v else Env.get r j
/-- What is known of a frame. -/
structure Has (N : Nat) (E : Env) (ds : List Deferred) (a : Act) : Prop where
  size : a.tmps.size = N
  defers : a.defers = ds
  get : ∀ i v, E.get i = some v → a.tmps.getD i undef = v
/-- Every row of the first environment is known in the second. -/
def agree : Env → Env → Prop
  | [], _ => True
  | (i, v) :: r, E => E.get i = some v ∧ agree r E
theorem agree_get {E' E : Env} (h : agree E' E) : ∀ {i v}, E'.get i = some v → E.get i = some v := by
  induction E' with
  | nil => intro i v hv; simp [Env.get] at hv
  | cons p r ih =>
    obtain ⟨j, u⟩ := p
    obtain ⟨h1, h2⟩ := h
    intro i v hv
    simp only [Env.get] at hv
    cases hb : Nat.beq j i with
    | true =>
      rw [hb] at hv
      simp only [cond_true, Option.some.injEq] at hv
      have := Nat.eq_of_beq_eq_true hb
      subst this; subst hv
      exact h1
    | false => rw [hb] at hv; exact ih h2 hv
theorem Has.weaken {N E E' ds a} (h : Has N E ds a) (hE : agree E' E) : Has N E' ds a := ⟨h.size, h.defers, fun i v hv => h.get i v (agree_get hE hv)⟩
def ev (E : Env) : Operand → Option Value
  | .tmp t => E.get t
  | .const v => some v
  | .global g => some (.pointer (some ⟨g, 0, none⟩))
  | .func f => some (.func (.func f) #[] #[])
theorem Has.eval {N E ds a x v} (h : Has N E ds a) (hx : ev E x = some v) : a.eval x = v := by
  cases x with
  | tmp t => exact h.get t v hx
  | const u => simpa [ev, Act.eval] using hx
  | global g => simpa [ev, Act.eval] using hx
  | func f => simpa [ev, Act.eval] using hx
theorem Has.put {N E ds a d v} (h : Has N E ds a) (hd : Nat.blt d N = true) : Has N ((d, v) :: E) ds (a.put (some d) v) := by
  have hd' : d < a.tmps.size := by rw [h.size]; exact Nat.blt_eq.mp hd
  refine ⟨by simp [Act.put, h.size], h.defers, fun i u hu => ?_⟩
  simp only [Env.get] at hu
  simp only [Act.put]
  cases hb : Nat.beq d i with
  | true =>
    rw [hb] at hu
    have := Nat.eq_of_beq_eq_true hb
    subst this
    simp only [cond_true, Option.some.injEq] at hu
    simp [hd', hu]
  | false =>
    rw [hb] at hu
    simp only [cond_false] at hu
    have hne : d ≠ i := fun e => by subst e; simp at hb
    have := h.get i u hu
    simp only [Array.getD_eq_getD_getElem?] at this ⊢
    rw [Array.getElem?_setIfInBounds_ne hne]
    exact this

/-! ### What types are -/

/-- A type's row in short: what it is, its cells, its bytes, its zero value's cells. -/
structure TI where
  tag : Nat
  k : Nat := 0
  e : Nat := 0
  fs : List (Nat × Nat) := []
  size : Nat := 1
  bytes : Nat := 8
  zero : Value := .bool false
def kindNo : IntKind → Nat
  | .i8 => 0 | .i16 => 1 | .i32 => 2 | .i64 => 3 | .u8 => 4 | .u16 => 5 | .u32 => 6 | .u64 => 7
def noKind : Nat → IntKind
  | 0 => .i8 | 1 => .i16 | 2 => .i32 | 3 => .i64 | 4 => .u8 | 5 => .u16 | 6 => .u32 | _ => .u64
theorem noKind_kindNo (k : IntKind) : noKind (kindNo k) = k := by cases k <;> rfl
/-- tag, k, e, fields: 1 bool, 2 integer of kind k, 3 string, 4 pointer to e, 5 slice of e, 6 array of k e's, 7 map of k to e, 8 struct, 9 function, 10 interface, 0 others -/
def sdesc : TypeDesc → Nat × Nat × Nat × List (Nat × Nat)
  | .bool => (1, 0, 0, [])
  | .int k => (2, kindNo k, 0, [])
  | .string => (3, 0, 0, [])
  | .pointer e => (4, 0, e, [])
  | .slice e => (5, 0, e, [])
  | .array n e => (6, n, e, [])
  | .map k e => (7, k, e, [])
  | .struct fs => (8, 0, 0, fs.toList.map fun f => (f.type, f.offset))
  | .func _ _ _ => (9, 0, 0, [])
  | .interface _ => (10, 0, 0, [])
  | _ => (0, 0, 0, [])
abbrev Tys := List (Nat × TI)
def Tys.get : Tys → Nat → Option TI
  | [], _ => none
  | (i, v) :: r, j => bif Nat.beq i j then some v else Tys.get r j
def TI.fits (P : Program) (t : Nat) (i : TI) : Prop :=
  (P.underlying t).map sdesc = some (i.tag, i.k, i.e, i.fs) ∧ (P.info? t).map (fun x => (x.size, x.bytes, x.zero)) = some (i.size, i.bytes, some i.zero)
def Tys.ok (P : Program) : Tys → Prop
  | [] => True
  | (t, i) :: r => i.fits P t ∧ Tys.ok P r
theorem Tys.ok.fits {P : Program} {Θ : Tys} (h : Θ.ok P) : ∀ {t i}, Θ.get t = some i → i.fits P t := by
  induction Θ with
  | nil => intro t i hi; simp [Tys.get] at hi
  | cons p r ih =>
    obtain ⟨j, u⟩ := p
    obtain ⟨h1, h2⟩ := h
    intro t i hi
    simp only [Tys.get] at hi
    cases hb : Nat.beq j t with
    | true =>
      rw [hb] at hi
      have := Nat.eq_of_beq_eq_true hb
      subst this
      simp only [cond_true, Option.some.injEq] at hi
      subst hi
      exact h1
    | false => rw [hb] at hi; exact ih h2 hi
section
variable {P : Program} {t : Nat} {i : TI}
theorem TI.fits.desc (h : i.fits P t) : ∃ d, P.underlying t = some d ∧ sdesc d = (i.tag, i.k, i.e, i.fs) := by
  obtain ⟨h1, _⟩ := h
  cases hu : P.underlying t with
  | none => rw [hu] at h1; cases h1
  | some d => rw [hu] at h1; exact ⟨d, rfl, by simpa using h1⟩
theorem TI.fits.info (h : i.fits P t) : ∃ x, P.info? t = some x ∧ x.size = i.size ∧ x.bytes = i.bytes ∧ x.zero = some i.zero := by
  obtain ⟨_, h2⟩ := h
  cases hu : P.info? t with
  | none => rw [hu] at h2; cases h2
  | some x => rw [hu] at h2; simp only [Option.map_some, Option.some.injEq, Prod.mk.injEq] at h2; exact ⟨x, rfl, h2.1, h2.2.1, h2.2.2⟩
theorem TI.fits.bool (h : i.fits P t) (ht : i.tag = 1) : P.underlying t = some .bool := by
  obtain ⟨d, hd, hs⟩ := h.desc; rw [hd]; cases d <;> simp [sdesc, ht] at hs <;> try rfl
  all_goals omega
theorem TI.fits.int (h : i.fits P t) (ht : i.tag = 2) : P.underlying t = some (.int (noKind i.k)) := by
  obtain ⟨d, hd, hs⟩ := h.desc; rw [hd]; cases d <;> simp [sdesc, ht] at hs <;> try omega
  rw [← hs.1, noKind_kindNo]
theorem TI.fits.string (h : i.fits P t) (ht : i.tag = 3) : P.underlying t = some .string := by
  obtain ⟨d, hd, hs⟩ := h.desc; rw [hd]; cases d <;> simp [sdesc, ht] at hs <;> try rfl
  all_goals omega
theorem TI.fits.pointer (h : i.fits P t) (ht : i.tag = 4) : P.underlying t = some (.pointer i.e) := by
  obtain ⟨d, hd, hs⟩ := h.desc; rw [hd]; cases d <;> simp [sdesc, ht] at hs <;> try omega
  rw [hs.2.1]
theorem TI.fits.slice (h : i.fits P t) (ht : i.tag = 5) : P.underlying t = some (.slice i.e) := by
  obtain ⟨d, hd, hs⟩ := h.desc; rw [hd]; cases d <;> simp [sdesc, ht] at hs <;> try omega
  rw [hs.2.1]
theorem TI.fits.array (h : i.fits P t) (ht : i.tag = 6) : P.underlying t = some (.array i.k i.e) := by
  obtain ⟨d, hd, hs⟩ := h.desc; rw [hd]; cases d <;> simp [sdesc, ht] at hs <;> try omega
  rw [hs.1, hs.2.1]
theorem TI.fits.map (h : i.fits P t) (ht : i.tag = 7) : P.underlying t = some (.map i.k i.e) := by
  obtain ⟨d, hd, hs⟩ := h.desc; rw [hd]; cases d <;> simp [sdesc, ht] at hs <;> try omega
  rw [hs.1, hs.2.1]
theorem TI.fits.struct (h : i.fits P t) (ht : i.tag = 8) : ∃ fs, P.underlying t = some (.struct fs) ∧ fs.toList.map (fun f => (f.type, f.offset)) = i.fs := by
  obtain ⟨d, hd, hs⟩ := h.desc; rw [hd]; cases d <;> simp [sdesc, ht] at hs <;> try omega
  exact ⟨_, rfl, hs.2.2⟩
end
end Go.Dc
