/- The walk's judgements over environments, and their rules. -/
import Derived.Test.YtdemjanelbajlaaDcSeg
namespace Go.Dc
open Go.RowKit

/-- the fence that lets all by; r: the round in which the frame stands -/
def fw (r : Option Nat) : Fence := { fn := fun _ => True, depth := none, alive := false, round := r }
theorem fw_fn (r : Option Nat) (f : FuncId) : (fw r).fn f := trivial
theorem fw_wide : fw none = Fence.wide := rfl

/-- an operation's guard, where it is decided -/
def want (N : Nat) (ops : Array Oper) (E : Env) (g : Option (Nat × Bool)) : Option Bool :=
  match g with
  | none => some true
  | some (j, b) =>
    match ops[j]? with
    | some o =>
      match o.dst with
      | some d =>
        bif Nat.blt d N then
          match E.get d with
          | some (.bool c) => some (match c, b with | true, true => true | false, false => true | _, _ => false)
          | some (.tuple _) => some false
          | _ => none
        else none
      | none => none
    | none => none
theorem want_ok {N : Nat} {ops : Array Oper} {E : Env} {ds : List Deferred} {a : Act} {o : Oper} {b : Bool} (h : Has N E ds a) (hw : want N ops E o.guard = some b) :
    Region.wanted o (yielded ops a.tmps) = b := by
  unfold want at hw
  unfold Region.wanted
  split at hw
  · rename_i hg
    rw [hg]
    simpa using hw
  · rename_i j c hg
    rw [hg]
    simp only
    split at hw
    · rename_i p hp
      split at hw
      · rename_i d hd
        cases hN : Nat.blt d N <;> rw [hN] at hw
        · cases hw
        · simp only [cond_true] at hw
          split at hw
          · rename_i z hz
            have hlt : d < a.tmps.size := by rw [h.size]; exact Nat.blt_eq.mp hN
            have := h.get d _ hz
            rw [Array.getD_eq_getD_getElem?, Array.getElem?_eq_getElem hlt] at this
            simp only [Option.getD_some] at this
            simp only [Option.some.injEq] at hw
            subst hw
            simp [yielded, hp, hd, hlt, this]
            cases z <;> cases c <;> rfl
          · rename_i z hz
            have hlt : d < a.tmps.size := by rw [h.size]; exact Nat.blt_eq.mp hN
            have := h.get d _ hz
            rw [Array.getD_eq_getD_getElem?, Array.getElem?_eq_getElem hlt] at this
            simp only [Option.getD_some] at this
            simp only [Option.some.injEq] at hw
            subst hw
            simp [yielded, hp, hd, hlt, this]
          · cases hw
      · cases hw
    · cases hw

section
variable (P : Program) (r : Option Nat) (N : Nat)
/-- what is left of a region -/
def WO (ops : Array Oper) (Q : Exit → Act → World → Prop) (l : List Nat) (E : Env) (ds : List Deferred) (w : World) : Prop :=
  ∀ a, Has N E ds a → wpOpsIn (fw r) 0 P ops Q l a w
/-- code -/
def WC (c : Code) (Q : Exit → Act → World → Prop) (E : Env) (ds : List Deferred) (w : World) : Prop :=
  ∀ a, Has N E ds a → c.wpIn (fw r) 0 P Q a w
/-- a way out -/
def WQ (Q : Exit → Act → World → Prop) (e : Exit) (E : Env) (ds : List Deferred) (w : World) : Prop :=
  ∀ a, Has N E ds a → Q e a w
end

section
variable {P : Program} {r : Option Nat} {N : Nat} {Θ : Tys} {ops : Array Oper} {Q : Exit → Act → World → Prop} {l : List Nat} {E E' : Env} {ds : List Deferred} {w : World} {c x y : Code} {id : Nat}

theorem WO.weaken (hE : agree E' E) (h : WO P r N ops Q l E' ds w) : WO P r N ops Q l E ds w := fun a ha => h a (ha.weaken hE)
theorem WC.weaken (hE : agree E' E) (h : WC P r N c Q E' ds w) : WC P r N c Q E ds w := fun a ha => h a (ha.weaken hE)
theorem WQ.weaken {e : Exit} (hE : agree E' E) (h : WQ N Q e E' ds w) : WQ N Q e E ds w := fun a ha => h a (ha.weaken hE)

theorem wc_seq (h : WC P r N x (Exit.then (y.wpIn (fw r) 0 P Q) Q) E ds w) : WC P r N (.seq x y) Q E ds w := fun a ha => wpIn_seq (h a ha)
theorem wc_block (h : WC P r N x (Exit.inBlock id Q) E ds w) : WC P r N (.block id x) Q E ds w := fun a ha => wpIn_block (h a ha)
theorem wc_skip (h : WQ N Q .normal E ds w) : WC P r N .skip Q E ds w := fun a ha => wpIn_skip (h a ha)
theorem wc_label (h : WQ N Q .normal E ds w) : WC P r N (.label id) Q E ds w := fun a ha => wpIn_label (h a ha)
theorem wc_exit (h : WQ N Q (.exit id) E ds w) : WC P r N (.exit id) Q E ds w := fun a ha => wpIn_exit (h a ha)
theorem wc_goto (h : WQ N Q (.goto id) E ds w) : WC P r N (.goto id) Q E ds w := fun a ha => wpIn_goto (h a ha)
theorem wc_ret (h : WQ N Q .ret E ds w) : WC P r N .ret Q E ds w := fun a ha => wpIn_ret (h a ha)
theorem wc_true {o : Operand} (ho : ev E o = some (.bool true)) (h : WC P r N x Q E ds w) : WC P r N (.cond o x y) Q E ds w := fun a ha => wpIn_cond_true (ha.eval ho) (h a ha)
theorem wc_false {o : Operand} (ho : ev E o = some (.bool false)) (h : WC P r N y Q E ds w) : WC P r N (.cond o x y) Q E ds w := fun a ha => wpIn_cond_false (ha.eval ho) (h a ha)
theorem wc_if {o : Operand} {b : Bool} (ho : ev E o = some (.bool b)) (ht : b = true → WC P r N x Q E ds w) (hf : b = false → WC P r N y Q E ds w) : WC P r N (.cond o x y) Q E ds w := by
  cases b
  · exact wc_false ho (hf rfl)
  · exact wc_true ho (ht rfl)
theorem wc_region {ops : Array Oper} (hl : List.range ops.size = l) (h : WO P r N ops Q l E ds w) : WC P r N (.region id ops false) Q E ds w :=
  fun a ha => wpIn_region (by rw [hl]; exact h a ha)
theorem wo_nil (h : WQ N Q .normal E ds w) : WO P r N ops Q [] E ds w := fun a ha => h a ha
/-- a way out to what follows -/
theorem wq_then {K : Act → World → Prop} (h : ∀ a, Has N E ds a → K a w) : WQ N (Exit.then K Q) .normal E ds w := fun a ha => h a ha
theorem wq_seq (h : WC P r N y Q E ds w) : WQ N (Exit.then (y.wpIn (fw r) 0 P Q) Q) .normal E ds w := fun a ha => h a ha
theorem wq_of {Q' : Exit → Act → World → Prop} {e e' : Exit} (hq : ∀ a w, Q' e' a w → Q e a w) (h : WQ N Q' e' E ds w) : WQ N Q e E ds w := fun a ha => hq a w (h a ha)

/-- runs of plain operations -/
def evSeg (N : Nat) (Θ : Tys) (ops : Array Oper) : List Nat → Env → Option Env
  | [], E => some E
  | i :: l, E =>
    match ops[i]? with
    | some o =>
      match o.dst with
      | some d =>
        bif Nat.blt d N then
          match want N ops E o.guard with
          | some true => bif goodFields Θ o.op then (match evOp Θ E o.op with | some v => evSeg N Θ ops l ((d, v) :: E) | none => none) else none
          | some false => evSeg N Θ ops l ((d, undef) :: E)
          | none => none
        else none
      | none => none
    | none => none
theorem semAt_of {a : Act} {o : Oper} {v : Value} (hΘ : Θ.ok P) (h : Has N E ds a) (hg : goodFields Θ o.op = true) (hv : evOp Θ E o.op = some v) : (o.semAt (fw r).round a.eval).run P w = .ok (.value v) w := by
  rw [Oper.semAt_eq]
  · exact run_evOp hΘ h hg hv
  · intro c hc
    rw [hc] at hv
    simp [evOp] at hv
theorem seg_ok (hΘ : Θ.ok P) : ∀ {m : List Nat} {E E1 : Env}, evSeg N Θ ops m E = some E1 → ∀ a, Has N E ds a → (∀ a', Has N E1 ds a' → wpOpsIn (fw r) 0 P ops Q l a' w) → wpOpsIn (fw r) 0 P ops Q (m ++ l) a w := by
  intro m
  induction m with
  | nil => intro E E1 he a ha h; simp only [evSeg, Option.some.injEq] at he; subst he; exact h a ha
  | cons i m ih =>
    intro E E1 he a ha h
    simp only [evSeg] at he
    split at he
    · rename_i o ho
      split at he
      · rename_i d hd
        cases hN : Nat.blt d N <;> rw [hN] at he
        · cases he
        · simp only [cond_true] at he
          simp only [List.cons_append, wpOpsIn, ho]
          split at he
          · rename_i hw
            rw [if_pos (want_ok ha hw)]
            cases hg : goodFields Θ o.op <;> rw [hg] at he
            · cases he
            · simp only [cond_true] at he
              split at he
              · rename_i v hv
                refine ⟨fun _ _ => trivial, ?_⟩
                rw [semAt_of hΘ ha hg hv]
                simp only [Oper.uponIn, hd]
                exact ih he _ (ha.put hN) h
              · cases he
          · rename_i hw
            rw [if_neg (by rw [want_ok ha hw]; simp)]
            refine ⟨fun _ _ => trivial, ?_⟩
            rw [hd]
            exact ih he _ (ha.put hN) h
          · cases he
      · cases he
    · cases he
theorem wo_seg (hΘ : Θ.ok P) (m : List Nat) {E1 : Env} (E' : Env) (he : evSeg N Θ ops m E = some E1) (hE : agree E' E1) (h : WO P r N ops Q l E' ds w) : WO P r N ops Q (m ++ l) E ds w :=
  fun a ha => seg_ok hΘ he a ha fun a' ha' => h a' (ha'.weaken hE)

/-- a bool that is not known yet -/
theorem wo_split (d : Nat) {b : Bool} (hd : E.get d = some (.bool b)) (ht : b = true → WO P r N ops Q l ((d, .bool true) :: E) ds w) (hf : b = false → WO P r N ops Q l ((d, .bool false) :: E) ds w) :
    WO P r N ops Q l E ds w := by
  have key : ∀ c : Bool, b = c → ∀ a, Has N E ds a → Has N ((d, .bool c) :: E) ds a := fun c hc a ha => ⟨ha.size, ha.defers, fun i v hv => by
    simp only [Env.get] at hv
    cases hb : Nat.beq d i with
    | true =>
      rw [hb] at hv
      have := Nat.eq_of_beq_eq_true hb
      subst this
      simp only [cond_true, Option.some.injEq] at hv
      subst hv; subst hc
      exact ha.get d _ hd
    | false => rw [hb] at hv; exact ha.get i v hv⟩
  cases hb : b with
  | true => exact fun a ha => ht hb a (key true hb a ha)
  | false => exact fun a ha => hf hb a (key false hb a ha)

/-- one operation that yields a value, in whatever world -/
theorem wo_value {i d : Nat} {o : Oper} {v : Value} {w' : World} (ho : ops[i]? = some o) (hw : want N ops E o.guard = some true) (hd : o.dst = some d) (hN : Nat.blt d N = true)
    (hc : ∀ c, o.op ≠ .defer c) (hrun : ∀ a, Has N E ds a → (execOp a.eval o).run P w = .ok (.value v) w') (h : WO P r N ops Q l ((d, v) :: E) ds w') : WO P r N ops Q (i :: l) E ds w := by
  intro a ha
  simp only [wpOpsIn, ho]
  rw [if_pos (want_ok ha hw)]
  refine ⟨fun _ _ => trivial, ?_⟩
  rw [Oper.semAt_eq _ _ _ hc, hrun a ha]
  simp only [Oper.uponIn, hd]
  exact h _ (ha.put hN)
/-- one operation that only acts -/
theorem wo_act {i : Nat} {o : Oper} {w' : World} (ho : ops[i]? = some o) (hw : want N ops E o.guard = some true) (hd : o.dst = none)
    (hc : ∀ c, o.op ≠ .defer c) (hrun : ∀ a, Has N E ds a → (execOp a.eval o).run P w = .ok .skip w') (h : WO P r N ops Q l E ds w') : WO P r N ops Q (i :: l) E ds w := by
  intro a ha
  simp only [wpOpsIn, ho]
  rw [if_pos (want_ok ha hw)]
  refine ⟨fun _ _ => trivial, ?_⟩
  rw [Oper.semAt_eq _ _ _ hc, hrun a ha]
  simp only [Oper.uponIn, hd, Act.put]
  exact h _ ha
/-- a call -/
theorem wo_enter {i d f : Nat} {o : Oper} {args : Array Value} {w' : World} {R : Ending → World → Prop} (ho : ops[i]? = some o) (hw : want N ops E o.guard = some true) (hd : o.dst = some d) (hN : Nat.blt d N = true)
    (hc : ∀ c, o.op ≠ .defer c) (hrun : ∀ a, Has N E ds a → (execOp a.eval o).run P w = .ok (.enter f args) w') (hcall : Calls P f args w' R)
    (h : ∀ e w'', R e w'' → ∃ v, e = .returned v ∧ WO P r N ops Q l ((d, v) :: E) ds w'') : WO P r N ops Q (i :: l) E ds w := by
  intro a ha
  simp only [wpOpsIn, ho]
  rw [if_pos (want_ok ha hw)]
  refine ⟨fun _ _ => trivial, ?_⟩
  rw [Oper.semAt_eq _ _ _ hc, hrun a ha]
  simp only [Oper.uponIn]
  refine ⟨fun h => by simp [fw] at h, ?_⟩
  refine ⟨trivial, fun cs _ => ?_⟩
  obtain ⟨e, w'', fr, hr, hs, hf, hl⟩ := hcall cs
  obtain ⟨v, rfl, hk⟩ := h e w'' hr
  refine ⟨.returned v, w'', fr, ?_, ?_, hf, hl⟩
  · simp only [hd]
    exact hk _ (ha.put hN)
  · have := (comesIn_wide (P := P) (m := lone (Frame.enter P f args .normal) cs w') (m' := lone fr cs w'') (e := .returned v)).2 hs
    refine StepsIn.mono (fun m _ => ?_) (StepsIn.of_steps hs)
    intro g _
    exact ⟨fun h => by simp [fw] at h, Or.inl trivial, fun _ _ => trivial, fun _ h => by simp [fw] at h⟩
end
end Go.Dc
