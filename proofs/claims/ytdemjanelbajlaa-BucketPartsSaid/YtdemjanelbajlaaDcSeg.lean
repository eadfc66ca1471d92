/- Runs of plain operations, reckoned by one function over environments. -/
import Derived.Test.YtdemjanelbajlaaDcCore
namespace Go.Dc
open Go.RowKit

/-! ### Plain operations -/
def evArith (op : BinOp) (k : IntKind) (a b : Int) : Option Value :=
  match op with
  | .add => some (.int k (k.wrap (a + b)))
  | .sub => some (.int k (k.wrap (a - b)))
  | .mul => some (.int k (k.wrap (a * b)))
  | .and => some (.int k (bits .and k a b))
  | .or => some (.int k (bits .or k a b))
  | .xor => some (.int k (bits .xor k a b))
  | .andNot => some (.int k (bits .andNot k a b))
  | .eql => some (.bool (a == b))
  | .neq => some (.bool (a != b))
  | .lss => some (.bool (decide (a < b)))
  | .leq => some (.bool (decide (a ≤ b)))
  | .gtr => some (.bool (decide (a > b)))
  | .geq => some (.bool (decide (a ≥ b)))
  | _ => none
def sameKind : IntKind → IntKind → Bool
  | .i8, .i8 | .i16, .i16 | .i32, .i32 | .i64, .i64 | .u8, .u8 | .u16, .u16 | .u32, .u32 | .u64, .u64 => true
  | _, _ => false
theorem sameKind_eq {a b : IntKind} (h : sameKind a b = true) : a = b := by cases a <;> cases b <;> first | rfl | (simp [sameKind] at h)
def evBin (Θ : Tys) (op : BinOp) (t : TypeId) (x y : Value) : Option Value :=
  match x, y with
  | .int k a, .int k' b => bif sameKind k k' then evArith op k a b else none
  | .bool a, .bool b =>
    match Θ.get t with
    | some i => bif Nat.beq i.tag 1 then (match op with | .eql => some (.bool (a == b)) | .neq => some (.bool (!(a == b))) | _ => none) else none
    | none => none
  | .string a, .string b => match op with | .eql => some (.bool (a.toList == b.toList)) | .neq => some (.bool (!(a.toList == b.toList))) | _ => none
  | .slice a _ _, .slice none _ _ =>
    match Θ.get t with
    | some i => bif Nat.beq i.tag 5 then (match op with | .eql => some (.bool a.isNone) | .neq => some (.bool (!a.isNone)) | _ => none) else none
    | none => none
  | .pointer a, .pointer none =>
    match Θ.get t with
    | some i => bif Nat.beq i.tag 4 then (match op with | .eql => some (.bool a.isNone) | .neq => some (.bool (!a.isNone)) | _ => none) else none
    | none => none
  | _, _ => none
def isConst0 : Operand → Bool
  | .const (.int _ n) => n == 0
  | _ => true
/-- '/' and '%' by a constant that is not 0, shifts by a constant that is not below 0 -/
def evDiv (op : BinOp) (x : Value) (y : Operand) : Option Value :=
  match x, y with
  | .int k a, .const (.int k' b) =>
    match op with
    | .quo => bif sameKind k k' && !(b == 0) then some (.int k (k.wrap (a.tdiv b))) else none
    | .rem => bif sameKind k k' && !(b == 0) then some (.int k (a.tmod b)) else none
    | .shl => bif !(decide (b < 0)) then some (.int k (k.wrap (a * 2 ^ (min b.toNat k.bits)))) else none
    | .shr => bif !(decide (b < 0)) then some (.int k (a.fdiv (2 ^ (min b.toNat k.bits)))) else none
    | _ => none
  | _, _ => none
def evUn (op : UnOp) (x : Value) : Option Value :=
  match op, x with
  | .not, .bool b => some (.bool (!b))
  | .neg, .int k n => some (.int k (k.wrap (0 - n)))
  | _, _ => none
def evConv (Θ : Tys) (src dst : TypeId) (x : Value) : Option Value :=
  match Θ.get src, Θ.get dst with
  | some i, some j =>
    match x with
    | .int _ n => bif Nat.beq j.tag 2 then some (.int (noKind j.k) ((noKind j.k).wrap n)) else none
    | .string s => bif Nat.beq i.tag 3 && Nat.beq j.tag 3 then some (.string s) else none
    | _ => none
  | _, _ => none
/-- 'len' and its kin -/
def evLen (Θ : Tys) (t : TypeId) (x : Value) : Option Value :=
  match Θ.get t with
  | some i =>
    match x with
    | .slice _ n _ => bif Nat.beq i.tag 5 then some (.int .i64 n) else none
    | .string s => bif Nat.beq i.tag 3 then some (.int .i64 s.size) else none
    | _ => none
  | none => none
def evMin (x y : Value) : Option Value :=
  match x, y with
  | .int k a, .int k' b => bif sameKind k k' then some (.int k (if b < a then b else a)) else none
  | _, _ => none
def evMax (x y : Value) : Option Value :=
  match x, y with
  | .int k a, .int k' b => bif sameKind k k' then some (.int k (if b > a then b else a)) else none
  | _, _ => none
def allEv (E : Env) : List Operand → Option (List Value)
  | [] => some []
  | x :: r => match ev E x, allEv E r with | some v, some vs => some (v :: vs) | _, _ => none
/-- a struct out of its parts, each of one field's cells; parts in any order -/
def fillAt (fs : List (Nat × Nat)) (Θ : Tys) (E : Env) : List (Nat × Operand) → Array Value → Option (Array Value)
  | [], cs => some cs
  | (i, x) :: r, cs =>
    match fs[i]?, ev E x with
    | some (t, off), some v =>
      match Θ.get t with
      | some ti =>
        bif Nat.beq v.cells.size ti.size && Nat.ble (off + v.cells.size) cs.size then fillAt fs Θ E r (v.cells.zipIdx.foldl (fun cs (c, j) => cs.setIfInBounds (off + j) c) cs)
        else none
      | none => none
    | _, _ => none
def evCall (Θ : Tys) (E : Env) (c : Callee) (args : List Operand) (ts : List TypeId) : Option Value :=
  match c with
  | .builtin b =>
    match b with
    | .len => match args, ts with | [x], [t] => (match ev E x with | some v => evLen Θ t v | none => none) | _, _ => none
    | .min => match args with | [x, y] => (match ev E x, ev E y with | some u, some v => evMin u v | _, _ => none) | _ => none
    | .max => match args with | [x, y] => (match ev E x, ev E y with | some u, some v => evMax u v | _, _ => none) | _ => none
    | .cap =>
      match args, ts with
      | [x], [t] =>
        match Θ.get t, ev E x with
        | some i, some (.slice _ _ c) => bif Nat.beq i.tag 5 then some (.int .i64 c) else none
        | _, _ => none
      | _, _ => none
    | _ => none
  | _ => none
def evOp (Θ : Tys) (E : Env) (op : Op) : Option Value :=
  match op with
  | .move x | .assign x => ev E x
  | .pick c a b => match ev E c with | some (.bool t) => (match t with | true => ev E a | false => ev E b) | _ => none
  | .binOp o t x y _ =>
    match ev E x, ev E y with
    | some u, some v =>
      match evDiv o u y with
      | some z => some z
      | none => evBin Θ o t u v
    | _, _ => none
  | .unOp o _ x => match ev E x with | some v => evUn o v | none => none
  | .convert s d x => match ev E x with | some v => evConv Θ s d v | none => none
  | .extract x i => match ev E x with | some (.tuple vs) => vs[i]? | _ => none
  | .makeFunc fn first caps => match allEv E first.toList, allEv E caps.toList with | some f, some c => some (.func fn f.toArray c.toArray) | _, _ => none
  | .field t x f =>
    match Θ.get t, ev E x with
    | some i, some (.agg cs) =>
      bif Nat.beq i.tag 8 then
        match i.fs[f]? with
        | some (ft, off) =>
          match Θ.get ft with
          | some j => bif Nat.beq j.tag 8 || Nat.beq j.tag 6 then some (.agg (cs.extract off (off + j.size))) else cs[off]?
          | none => none
        | none => none
      else none
    | _, _ => none
  | .fieldAddr t x f =>
    match Θ.get t, ev E x with
    | some i, some (.pointer (some a)) =>
      bif Nat.beq i.tag 8 then
        match i.fs[f]? with
        | some (ft, off) =>
          match Θ.get ft with
          | some j => bif Nat.beq j.size 0 then none else some (.pointer (some (a.add off)))
          | none => none
        | none => none
      else none
    | _, _ => none
  | .build t parts =>
    match Θ.get t with
    | some i => bif Nat.beq i.tag 8 then (match fillAt i.fs Θ E parts.toList i.zero.cells with | some cs => some (.agg cs) | none => none) else none
    | none => none
  | .nilCheck x => match ev E x with | some (.pointer (some a)) => some (.pointer (some a)) | some (.func (.func f) u v) => some (.func (.func f) u v) | _ => none
  | .call c => evCall Θ E c.callee c.args.toList c.argTypes.toList
  | _ => none

section
variable {P : Program} {Θ : Tys} {N : Nat} {E : Env} {ds : List Deferred} {a : Act} {w : World}

theorem run_evArith {op : BinOp} {k : IntKind} {x y : Int} {v : Value} {t : TypeId} {ox oy : Operand} (h : evArith op k x y = some v) :
    (do eqGuard op t ox oy (.int k x) (.int k y); binOp op t (.int k x) (.int k y) : Sem Value).run P w = .ok v w := by
  cases op <;> simp [evArith] at h <;> subst h <;> simp [go_sem]
  all_goals simp [Op.intArith]

theorem eql_of {t : TypeId} {x y : Value} {r : Bool} (h : ∀ d, (Op.equalIn (d + 1) t x y).run P w = .ok r w) : (Op.equal t x y).run P w = .ok r w := h 9999
theorem eql_bool {t : TypeId} {x y : Bool} (h : P.underlying t = some .bool) : (Op.equal t (.bool x) (.bool y)).run P w = .ok (x == y) w :=
  eql_of fun d => by simp [Op.equalIn, run_underlying h]
theorem eql_slice {t e : TypeId} {A : Option Addr} {n c m d : Nat} (h : P.underlying t = some (.slice e)) : (Op.equal t (.slice A n c) (.slice none m d)).run P w = .ok A.isNone w :=
  eql_of fun d => by cases A <;> simp [Op.equalIn, run_underlying h]
theorem eql_pointer {t e : TypeId} {A : Option Addr} (h : P.underlying t = some (.pointer e)) : (Op.equal t (.pointer A) (.pointer none)).run P w = .ok A.isNone w :=
  eql_of fun d => by cases A <;> simp [Op.equalIn, run_underlying h]

theorem run_evBin (hΘ : Θ.ok P) {op : BinOp} {x y v : Value} {t : TypeId} {ox oy : Operand} (h : evBin Θ op t x y = some v) :
    (do eqGuard op t ox oy x y; binOp op t x y : Sem Value).run P w = .ok v w := by
  unfold evBin at h
  split at h
  · rename_i k a k' b
    cases hk : sameKind k k' with
    | true => rw [hk] at h; have := sameKind_eq hk; subst this; exact run_evArith h
    | false => rw [hk] at h; cases h
  · rename_i a b
    cases hi : Θ.get t with
    | none => rw [hi] at h; cases h
    | some i =>
      rw [hi] at h
      simp only at h
      cases hb : Nat.beq i.tag 1 with
      | false => rw [hb] at h; cases h
      | true =>
        rw [hb] at h
        have hu := (hΘ.fits hi).bool (Nat.eq_of_beq_eq_true hb)
        cases op <;> simp at h <;> subst h <;> simp [go_sem, binOp, eql_bool hu]
  · rename_i a b
    cases op <;> simp at h <;> subst h <;> simp [binOp, Op.stringOp, eqGuard_at_string]
  · rename_i A n c m d
    cases hi : Θ.get t with
    | none => rw [hi] at h; cases h
    | some i =>
      rw [hi] at h
      simp only at h
      cases hb : Nat.beq i.tag 5 with
      | false => rw [hb] at h; cases h
      | true =>
        rw [hb] at h
        have hu := (hΘ.fits hi).slice (Nat.eq_of_beq_eq_true hb)
        cases op <;> simp at h <;> subst h <;> simp [go_sem, binOp, eql_slice hu]
  · rename_i A
    cases hi : Θ.get t with
    | none => rw [hi] at h; cases h
    | some i =>
      rw [hi] at h
      simp only at h
      cases hb : Nat.beq i.tag 4 with
      | false => rw [hb] at h; cases h
      | true =>
        rw [hb] at h
        have hu := (hΘ.fits hi).pointer (Nat.eq_of_beq_eq_true hb)
        cases op <;> simp at h <;> subst h <;> simp [go_sem, binOp, eql_pointer hu]
  · cases h

theorem run_evDiv {op : BinOp} {x v : Value} {t : TypeId} {ox oy : Operand} {y : Value} (hy : ev E oy = some y) (h : evDiv op x oy = some v) :
    (do eqGuard op t ox oy x y; binOp op t x y : Sem Value).run P w = .ok v w := by
  unfold evDiv at h
  split at h
  · rename_i k a k' b
    simp only [ev, Option.some.injEq] at hy
    subst hy
    cases op <;> simp at h
    · cases hk : sameKind k k' <;> rw [hk] at h
      · cases h
      · have := sameKind_eq hk
        subst this
        cases hb : (b == 0) <;> rw [hb] at h
        · simp at h
          subst h
          have : b ≠ 0 := by simpa using hb
          simp [go_sem, Op.intDiv, this]
        · cases h
    · cases hk : sameKind k k' <;> rw [hk] at h
      · cases h
      · have := sameKind_eq hk
        subst this
        cases hb : (b == 0) <;> rw [hb] at h
        · simp at h
          subst h
          have : b ≠ 0 := by simpa using hb
          simp [go_sem, Op.intDiv, this]
        · cases h
    · cases hb : decide (b < 0) <;> rw [hb] at h
      · simp at h
        subst h
        have : ¬ b < 0 := by simpa using hb
        simp [go_sem, Op.shift, this]
      · cases h
    · cases hb : decide (b < 0) <;> rw [hb] at h
      · simp at h
        subst h
        have : ¬ b < 0 := by simpa using hb
        simp [go_sem, Op.shift, this]
      · cases h
  · cases h
theorem run_evUn {op : UnOp} {x v : Value} (h : evUn op x = some v) : (Op.unary op x).run P w = .ok v w := by
  unfold evUn at h
  split at h <;> simp at h <;> subst h <;> simp [Op.unary, Op.intArith]
theorem run_evConv (hΘ : Θ.ok P) {s d : TypeId} {x v : Value} (h : evConv Θ s d x = some v) : (convert s d x).run P w = .ok v w := by
  unfold evConv at h
  split at h
  · rename_i i j hi hj
    split at h
    · rename_i k n
      cases hb : Nat.beq j.tag 2 <;> rw [hb] at h
      · cases h
      · simp at h
        subst h
        have hd := (hΘ.fits hj).int (Nat.eq_of_beq_eq_true hb)
        obtain ⟨u, hs, _⟩ := (hΘ.fits hi).desc
        simp [convert, run_underlying hd, run_underlying hs, Conv.intToInt]
    · rename_i s
      cases hb : Nat.beq i.tag 3 <;> rw [hb] at h
      · cases h
      · cases hb' : Nat.beq j.tag 3 <;> rw [hb'] at h
        · cases h
        · simp at h
          subst h
          have hd := (hΘ.fits hj).string (Nat.eq_of_beq_eq_true hb')
          have hs := (hΘ.fits hi).string (Nat.eq_of_beq_eq_true hb)
          simp [convert, run_underlying hd, run_underlying hs]
    · cases h
  · cases h
theorem run_evLen (hΘ : Θ.ok P) {t ty : TypeId} {x v : Value} (h : evLen Θ t x = some v) : (Builtin.len_ #[t] ty #[x]).run P w = .ok v w := by
  unfold evLen at h
  split at h
  · rename_i i hi
    split at h
    · rename_i A n c
      cases hb : Nat.beq i.tag 5 <;> rw [hb] at h
      · cases h
      · simp at h
        subst h
        have hd := (hΘ.fits hi).slice (Nat.eq_of_beq_eq_true hb)
        simp [Builtin.len_, run_underlying hd, goInt]
    · rename_i s
      cases hb : Nat.beq i.tag 3 <;> rw [hb] at h
      · cases h
      · simp at h
        subst h
        have hd := (hΘ.fits hi).string (Nat.eq_of_beq_eq_true hb)
        simp [Builtin.len_, run_underlying hd, goInt]
    · cases h
  · cases h
theorem allEv_eval (h : Has N E ds a) : ∀ {l : List Operand} {vs : List Value}, allEv E l = some vs → l.map a.eval = vs := by
  intro l
  induction l with
  | nil => intro vs hv; simp [allEv] at hv; subst hv; rfl
  | cons x r ih =>
    intro vs hv
    simp only [allEv] at hv
    split at hv
    · rename_i v us hx hr
      simp at hv
      subst hv
      simp [h.eval hx, ih hr]
    · cases hv
theorem sizeOf_run {t : TypeId} {i : TI} (h : i.fits P t) : (sizeOf t).run P w = .ok i.size w := by
  obtain ⟨x, hx, hs, _⟩ := h.info
  simp [sizeOf, typeInfo, hx, hs]
theorem isAgg_run {t : TypeId} {i : TI} (h : i.fits P t) : (isAgg t).run P w = .ok (Nat.beq i.tag 8 || Nat.beq i.tag 6) w := by
  obtain ⟨d, hd, hs⟩ := h.desc
  simp only [isAgg, Sem.run_bind, run_underlying hd, Result.andThen_ok]
  cases d <;> simp [sdesc] at hs <;> rw [← hs.1] <;> rfl
theorem zero_run {t : TypeId} {i : TI} (h : i.fits P t) : (zeroValue t).run P w = .ok i.zero w := by
  obtain ⟨x, hx, _, _, hz⟩ := h.info
  simp [zeroValue, typeInfo, hx, hz]
theorem part_run {t off : Nat} {i : TI} {cs : Array Value} {v : Value} (h : i.fits P t)
    (hv : (bif Nat.beq i.tag 8 || Nat.beq i.tag 6 then some (.agg (cs.extract off (off + i.size))) else cs[off]?) = some v) : (part t cs off).run P w = .ok v w := by
  simp only [part, Sem.run_bind, isAgg_run h, Result.andThen_ok]
  cases hb : (Nat.beq i.tag 8 || Nat.beq i.tag 6) <;> rw [hb] at hv
  · simp only [cond_false] at hv
    simp [hv]
  · simp only [cond_true, Option.some.injEq] at hv
    simp [sizeOf_run h, hv]
theorem getElem?_of_map {fs : Array Field} {l : List (Nat × Nat)} (hl : fs.toList.map (fun f => (f.type, f.offset)) = l) {f t off : Nat} (h : l[f]? = some (t, off)) :
    ∃ g, fs[f]? = some g ∧ g.type = t ∧ g.offset = off := by
  subst hl
  rw [List.getElem?_map] at h
  cases hg : fs.toList[f]? with
  | none => rw [hg] at h; cases h
  | some g =>
    rw [hg] at h
    simp at h
    exact ⟨g, by simpa using hg, h.1, h.2⟩
theorem fill_run (hΘ : Θ.ok P) {fs : Array Field} {l : List (Nat × Nat)} (hl : fs.toList.map (fun f => (f.type, f.offset)) = l) (h : Has N E ds a) {places : Array (Nat × Nat)}
    (hp : ∀ (f t off : Nat) (i : TI), l[f]? = some (t, off) → Θ.get t = some i → places[f]? = some (off, i.size)) :
    ∀ {ps : List (Nat × Operand)} {cs cs' : Array Value}, fillAt l Θ E ps cs = some cs' → Instr.fill (places[·]?) cs (ps.map fun p => (p.1, a.eval p.2)) = some cs' := by
  intro ps
  induction ps with
  | nil => intro cs cs' hc; simpa [fillAt, Instr.fill] using hc
  | cons p r ih =>
    obtain ⟨f, x⟩ := p
    intro cs cs' hc
    simp only [fillAt] at hc
    split at hc
    · rename_i t off v hf hx
      cases hi : Θ.get t with
      | none => rw [hi] at hc; cases hc
      | some i =>
        rw [hi] at hc
        simp only at hc
        cases hb : (Nat.beq v.cells.size i.size && Nat.ble (off + v.cells.size) cs.size) <;> rw [hb] at hc
        · cases hc
        · simp only [Bool.and_eq_true] at hb
          have h1 := Nat.eq_of_beq_eq_true hb.1
          have h2 := Nat.le_of_ble_eq_true hb.2
          simp only [List.map_cons, Instr.fill, hp f t off i hf hi, h.eval hx]
          rw [if_neg (by simp only [h1, ne_eq, not_true_eq_false, decide_false, Bool.false_or, decide_eq_true_eq]; rw [h1] at h2; omega)]
          exact ih hc
    · cases hc
theorem mapM_places (hΘ : Θ.ok P) : ∀ (fs : List Field), (∀ f ∈ fs, ∃ i : TI, i.fits P f.type) → ∃ ps : List (Nat × Nat), (fs.mapM (fun f => do pure (f.offset, ← sizeOf f.type) : Field → Sem (Nat × Nat))).run P w = .ok ps w ∧
    ∀ (k : Nat) (f : Field) (i : TI), fs[k]? = some f → i.fits P f.type → ps[k]? = some (f.offset, i.size) := by
  intro fs
  induction fs with
  | nil => intro _; exact ⟨[], by simp, fun k f i h => by simp at h⟩
  | cons f r ih =>
    intro hf
    obtain ⟨ps, h1, h2⟩ := ih fun g hg => hf g (List.mem_cons_of_mem _ hg)
    obtain ⟨i, hi⟩ := hf f List.mem_cons_self
    refine ⟨(f.offset, i.size) :: ps, ?_, ?_⟩
    · simp only [List.mapM_cons, Sem.run_bind, sizeOf_run hi, Result.andThen_ok, Sem.run_pure, h1]
    · intro k g j hk hj
      cases k with
      | zero =>
        simp only [List.getElem?_cons_zero, Option.some.injEq] at hk ⊢
        subst hk
        obtain ⟨x, hx, hs, _⟩ := hi.info
        obtain ⟨y, hy, hs', _⟩ := hj.info
        rw [hx] at hy
        cases hy
        rw [← hs, ← hs']
      | succ k => simpa using h2 k g j (by simpa using hk) hj
/-- the fields' types all have rows -/
def fieldsIn (Θ : Tys) : List (Nat × Nat) → Bool
  | [] => true
  | (t, _) :: r => (Θ.get t).isSome && fieldsIn Θ r
theorem fieldsIn_all (hΘ : Θ.ok P) : ∀ (fs : List Field), fieldsIn Θ (fs.map fun f => (f.type, f.offset)) = true → ∀ f ∈ fs, ∃ i : TI, i.fits P f.type := by
  intro fs
  induction fs with
  | nil => intro _ f hf; cases hf
  | cons g r ih =>
    intro h f hf
    simp only [List.map_cons, fieldsIn, Bool.and_eq_true] at h
    rcases List.mem_cons.1 hf with rfl | hf
    · obtain ⟨i, hi⟩ := Option.isSome_iff_exists.1 h.1
      exact ⟨i, hΘ.fits hi⟩
    · exact ih h.2 f hf
theorem run_build (hΘ : Θ.ok P) (h : Has N E ds a) {t : TypeId} {i : TI} {ps : Array (Nat × Operand)} {cs : Array Value} (hi : Θ.get t = some i) (ht : i.tag = 8) (hin : fieldsIn Θ i.fs = true)
    (hc : fillAt i.fs Θ E ps.toList i.zero.cells = some cs) : (Instr.build t (ps.map fun (k, x) => (k, a.eval x))).run P w = .ok (.agg cs) w := by
  obtain ⟨fs, hu, hl⟩ := (hΘ.fits hi).struct ht
  obtain ⟨pl, h1, h2⟩ := mapM_places (P := P) (w := w) hΘ fs.toList (fieldsIn_all hΘ _ (by rw [hl]; exact hin))
  simp only [Instr.build, Sem.run_bind, zero_run (hΘ.fits hi), Result.andThen_ok, run_underlying hu]
  rw [Array.mapM_eq_mapM_toList]
  simp only [Sem.run_map, h1]
  have hf := fill_run (places := pl.toArray) hΘ hl h (fun f t off j hf hj => by
    obtain ⟨g, hg, rfl, rfl⟩ := getElem?_of_map hl hf
    have := h2 f g j (by simpa using hg) (hΘ.fits hj)
    simpa using this) hc
  simp only [Result.andThen_ok]
  rw [Array.toList_map]
  have hf' : Instr.fill (fun x => pl.toArray[x]?) i.zero.cells (ps.toList.map fun x => (x.1, a.eval x.2)) = some cs := hf
  rw [hf']
  rfl

theorem run_field (hΘ : Θ.ok P) {t f ft off : Nat} {i j : TI} {cs : Array Value} {v : Value} (hi : Θ.get t = some i) (ht : i.tag = 8) (hf : i.fs[f]? = some (ft, off)) (hj : Θ.get ft = some j)
    (hv : (bif Nat.beq j.tag 8 || Nat.beq j.tag 6 then some (.agg (cs.extract off (off + j.size))) else cs[off]?) = some v) : (Instr.field t (.agg cs) f).run P w = .ok v w := by
  obtain ⟨fs, hu, hl⟩ := (hΘ.fits hi).struct ht
  obtain ⟨g, hg, rfl, rfl⟩ := getElem?_of_map hl hf
  simp [Instr.field, run_underlying hu, hg, asAgg, part_run (hΘ.fits hj) hv]
theorem run_fieldAddr (hΘ : Θ.ok P) {t f ft off : Nat} {i j : TI} {A : Addr} (hi : Θ.get t = some i) (ht : i.tag = 8) (hf : i.fs[f]? = some (ft, off)) (hj : Θ.get ft = some j)
    (hz : j.size ≠ 0) : (Instr.fieldAt t (.pointer (some A)) f).run P w = .ok (.pointer (some (A.add off))) w := by
  obtain ⟨fs, hu, hl⟩ := (hΘ.fits hi).struct ht
  obtain ⟨g, hg, rfl, rfl⟩ := getElem?_of_map hl hf
  simp [Instr.fieldAt, run_underlying hu, hg, Instr.sureAddr, fieldPlace, sizeOf_run (hΘ.fits hj), hz]

theorem toArray_of {α : Type} {x : Array α} {l : List α} (h : x.toList = l) : x = l.toArray := by rw [← h]
theorem run_evCall (hΘ : Θ.ok P) (h : Has N E ds a) {c : Call} {ty : TypeId} {v : Value} (hv : evCall Θ E c.callee c.args.toList c.argTypes.toList = some v) :
    (do let d ← resolve a.eval c ty; invoke d.target d.args : Sem Next).run P w = .ok (.value v) w := by
  obtain ⟨cal, args, ts⟩ := c
  simp only at hv
  unfold evCall at hv
  split at hv
  · split at hv
    · split at hv
      · rename_i x t hx ht
        have e1 := toArray_of hx
        have e2 := toArray_of ht
        subst e1; subst e2
        split at hv
        · rename_i u hu
          simp [resolve, invoke, builtin, h.eval hu, run_evLen hΘ hv]
        · cases hv
      · cases hv
    · split at hv
      · rename_i x y hx
        have e1 := toArray_of hx
        subst e1
        split at hv
        · rename_i u z hu hz
          unfold evMin at hv
          split at hv
          · rename_i k m k' n
            cases hk : sameKind k k' <;> rw [hk] at hv
            · cases hv
            · simp only [cond_true, Option.some.injEq] at hv
              subst hv
              simp [resolve, invoke, builtin, h.eval hu, h.eval hz, Builtin.min_, Builtin.min2]
          · cases hv
        · cases hv
      · cases hv
    · split at hv
      · rename_i x y hx
        have e1 := toArray_of hx
        subst e1
        split at hv
        · rename_i u z hu hz
          unfold evMax at hv
          split at hv
          · rename_i k m k' n
            cases hk : sameKind k k' <;> rw [hk] at hv
            · cases hv
            · simp only [cond_true, Option.some.injEq] at hv
              subst hv
              simp [resolve, invoke, builtin, h.eval hu, h.eval hz, Builtin.max_, Builtin.max2]
          · cases hv
        · cases hv
      · cases hv
    · split at hv
      · rename_i x t hx ht
        have e1 := toArray_of hx
        have e2 := toArray_of ht
        subst e1; subst e2
        split at hv
        · rename_i i A n c hi hu
          cases ht : Nat.beq i.tag 5 <;> rw [ht] at hv
          · cases hv
          · simp only [cond_true, Option.some.injEq] at hv
            subst hv
            simp [resolve, invoke, builtin, h.eval hu, Builtin.cap_, run_underlying ((hΘ.fits hi).slice (Nat.eq_of_beq_eq_true ht)), goInt]
        · cases hv
      · cases hv
    · cases hv
  · cases hv
/-- what is reckoned is what is run -/
def goodFields (Θ : Tys) : Op → Bool
  | .build t _ => match Θ.get t with | some i => fieldsIn Θ i.fs | none => false
  | _ => true
theorem run_evOp (hΘ : Θ.ok P) (h : Has N E ds a) {o : Oper} {v : Value} (hg : goodFields Θ o.op = true) (hv : evOp Θ E o.op = some v) : (execOp a.eval o).run P w = .ok (.value v) w := by
  unfold evOp at hv
  unfold execOp
  split at hv
  · rename_i x hop; rw [hop]; simp [h.eval hv]
  · rename_i x hop; rw [hop]; simp [h.eval hv]
  · rename_i c x y hop
    rw [hop]
    split at hv
    · rename_i t hc
      cases t
      · simp [h.eval hc, h.eval hv, asBool]
      · simp [h.eval hc, h.eval hv, asBool]
    · cases hv
  · rename_i b t x y _ hop
    rw [hop]
    split at hv
    · rename_i u v' hx hy
      simp only [h.eval hx, h.eval hy]
      cases hd : evDiv b u y with
      | some z =>
        rw [hd] at hv
        simp only [Option.some.injEq] at hv
        subst hv
        have := run_evDiv (P := P) (w := w) (t := t) (ox := x) hy hd
        simp only [Sem.run_bind] at this ⊢
        rw [this]
        rfl
      | none =>
        rw [hd] at hv
        have := run_evBin (P := P) (w := w) (ox := x) (oy := y) hΘ hv
        simp only [Sem.run_bind] at this ⊢
        rw [this]
        rfl
    · cases hv
  · rename_i b t x hop
    rw [hop]
    split at hv
    · rename_i u hx; simp [h.eval hx, run_evUn hv]
    · cases hv
  · rename_i s d x hop
    rw [hop]
    split at hv
    · rename_i u hx; simp [h.eval hx, run_evConv hΘ hv]
    · cases hv
  · rename_i x i hop
    rw [hop]
    split at hv
    · rename_i vs hx; simp [h.eval hx, Instr.extract, hv]
    · cases hv
  · rename_i fn f c hop
    rw [hop]
    split at hv
    · rename_i u z hf hc
      simp only [Option.some.injEq] at hv
      subst hv
      have e1 : f.map a.eval = u.toArray := by rw [← allEv_eval h hf, ← Array.toList_map]
      have e2 : c.map a.eval = z.toArray := by rw [← allEv_eval h hc, ← Array.toList_map]
      simp [Instr.makeFunc, e1, e2]
    · cases hv
  · rename_i t x f hop
    rw [hop]
    split at hv
    · rename_i i cs hi hx
      cases ht : Nat.beq i.tag 8 <;> rw [ht] at hv
      · cases hv
      · simp only [cond_true] at hv
        split at hv
        · rename_i ft off hf
          split at hv
          · rename_i j hj
            simp [h.eval hx, run_field hΘ hi (Nat.eq_of_beq_eq_true ht) hf hj hv]
          · cases hv
        · cases hv
    · cases hv
  · rename_i t x f hop
    rw [hop]
    split at hv
    · rename_i i A hi hx
      cases ht : Nat.beq i.tag 8 <;> rw [ht] at hv
      · cases hv
      · simp only [cond_true] at hv
        split at hv
        · rename_i ft off hf
          split at hv
          · rename_i j hj
            cases hz : Nat.beq j.size 0 <;> rw [hz] at hv
            · simp only [cond_false, Option.some.injEq] at hv
              subst hv
              simp [h.eval hx, run_fieldAddr hΘ hi (Nat.eq_of_beq_eq_true ht) hf hj (by intro e; rw [e] at hz; cases hz)]
            · cases hv
          · cases hv
        · cases hv
    · cases hv
  · rename_i t ps hop
    rw [hop] at hg
    rw [hop]
    split at hv
    · rename_i i hi
      simp only [goodFields, hi] at hg
      cases ht : Nat.beq i.tag 8 <;> rw [ht] at hv
      · cases hv
      · simp only [cond_true] at hv
        split at hv
        · rename_i cs hc
          simp only [Option.some.injEq] at hv
          subst hv
          have := run_build (P := P) (w := w) hΘ h hi (Nat.eq_of_beq_eq_true ht) hg hc
          simp only [Sem.run_bind, this]
          rfl
        · cases hv
    · cases hv
  · rename_i x hop
    rw [hop]
    split at hv
    · rename_i A hx
      simp only [Option.some.injEq] at hv
      subst hv
      simp [h.eval hx]
    · rename_i f u z hx
      simp only [Option.some.injEq] at hv
      subst hv
      simp [h.eval hx]
    · cases hv
  · rename_i c hop
    rw [hop]
    have := run_evCall (P := P) (w := w) (ty := o.type) hΘ h hv
    simp only [Sem.run_bind] at this ⊢
    exact this
  · cases hv
end
end Go.Dc
