/- Regions whose order of evaluation is open. -/
import Derived.Test.YtdemjanelbajlaaDcRules
import Derived.OrdersIn
namespace Go.Dc
open Go.RowKit

/-- what is known of a slot: kept wherever no block that was there turns -/
structure SP where
  p : World → Value → Prop
  st : ∀ {w w' v}, Fr [] w w' → p w v → p w' v
def SP.eq (v : Value) : SP := ⟨fun _ u => u = v, fun _ h => h⟩
def SP.is {α : Type} (T : Ty α) (O : List Nat) (x : α) : SP := ⟨fun w v => T.is O w v x, fun hf h => h.tr hf.tr0⟩
def SP.rt2 {α β : Type} (A : Ty α) (B : Ty β) (O : List Nat) (r : α × β) : SP := ⟨fun w v => Dc.rt2 A B O w v r, fun hf ⟨a, b, h, h1, h2⟩ => ⟨a, b, h, h1.tr hf.tr0, h2.tr hf.tr0⟩⟩
def SP.rt3 {α β γ : Type} (A : Ty α) (B : Ty β) (C : Ty γ) (O : List Nat) (r : α × β × γ) : SP := ⟨fun w v => Dc.rt3 A B C O w v r, fun hf ⟨a, b, c, h, h1, h2, h3⟩ => ⟨a, b, c, h, h1.tr hf.tr0, h2.tr hf.tr0, h3.tr hf.tr0⟩⟩

/-- rows of slots -/
def rows (a : Act) : Env → Prop
  | [] => True
  | (i, v) :: r => a.tmps.getD i undef = v ∧ rows a r
theorem rows_get {a : Act} : ∀ {E : Env}, rows a E → ∀ i v, E.get i = some v → a.tmps.getD i undef = v
  | [], _, i, v, h => by simp [Env.get] at h
  | (j, u) :: r, hr, i, v, h => by
    simp only [Env.get] at h
    cases hb : Nat.beq j i with
    | true =>
      rw [hb] at h
      have := Nat.eq_of_beq_eq_true hb
      subst this
      simp only [cond_true, Option.some.injEq] at h
      subst h
      exact hr.1
    | false => rw [hb] at h; exact rows_get hr.2 i v h
/-- an operation's direct predecessors -/
def afters (o : Oper) : List Nat := (o.after.toList.filter (Region.binds .any)).map (·.on)
/-- op i: destination; the ops on whose results it leans; the slots that it reads as they were ahead of the region -/
structure Plan where
  d : Nat
  deps : List Nat
  base : List Nat
def allBelow (i : Nat) : List Nat → Bool
  | [] => true
  | j :: l => Nat.blt j i && allBelow i l
def subList (l : List Nat) : List Nat → Bool
  | [] => true
  | j :: r => l.contains j && subList l r
/-- no other operation writes the slot ahead of operation i -/
def baseOk (ops : Array Oper) (i s : Nat) : List Plan → Nat → Bool
  | [], _ => true
  | p :: r, k => (!(Nat.beq p.d s) || Nat.beq k i || ((ops[k]?).map (fun o => (afters o).contains i)).getD false) && baseOk ops i s r (k + 1)
def basesOk (ops : Array Oper) (i : Nat) (all : List Plan) : List Nat → Bool
  | [] => true
  | s :: r => baseOk ops i s all 0 && basesOk ops i all r
def planOk (N : Nat) (ops : Array Oper) (all : List Plan) : List Plan → Nat → Bool
  | [], _ => true
  | p :: r, i =>
    (match ops[i]? with
     | some o => (match o.dst with | some d => Nat.beq d p.d | none => false) && allBelow i (afters o) && subList (afters o) p.deps
     | none => false) && Nat.blt p.d N && basesOk ops i all p.base && !(r.any fun q => Nat.beq q.d p.d) && planOk N ops all r (i + 1)

section
variable {P : Program} {r : Option Nat} {N : Nat} {ops : Array Oper} {Q : Exit → Act → World → Prop} {ds : List Deferred}

/-- one operation, whatever follows -/
def OpK (P : Program) (r : Option Nat) (ops : Array Oper) (Q : Exit → Act → World → Prop) (i d : Nat) (a : Act) (w : World) (post : Value → World → Prop) : Prop :=
  ∀ K : Act → World → Prop, (∀ v w', post v w' → K (a.put (some d) v) w') → wpOpIn (fw r) 0 P ops Q i K a w

theorem planOk_at {all : List Plan} : ∀ {l : List Plan} {k : Nat}, planOk N ops all l k = true → ∀ j p, l[j]? = some p →
    (∃ o, ops[k + j]? = some o ∧ o.dst = some p.d ∧ (∀ x ∈ afters o, x < k + j) ∧ (∀ x ∈ p.deps, x ∈ afters o)) ∧ p.d < N ∧ basesOk ops (k + j) all p.base = true ∧ ∀ j' p', j < j' → l[j']? = some p' → p'.d ≠ p.d := by
  intro l
  induction l with
  | nil => intro k h j p hp; simp at hp
  | cons q l ih =>
    intro k h j p hp
    simp only [planOk, Bool.and_eq_true] at h
    obtain ⟨⟨⟨⟨h1, h2⟩, h3⟩, h4⟩, h5⟩ := h
    cases j with
    | zero =>
      simp only [List.getElem?_cons_zero, Option.some.injEq] at hp
      subst hp
      refine ⟨?_, Nat.blt_eq.mp h2, h3, ?_⟩
      · split at h1
        · rename_i o ho
          simp only [Bool.and_eq_true] at h1
          obtain ⟨⟨h6, h7⟩, h8⟩ := h1
          refine ⟨o, ho, ?_, ?_, ?_⟩
          · split at h6
            · rename_i d hd; rw [hd, Nat.eq_of_beq_eq_true h6]
            · cases h6
          · have : ∀ l : List Nat, allBelow k l = true → ∀ x ∈ l, x < k := by
              intro l
              induction l with
              | nil => intro _ x hx; cases hx
              | cons y l ih =>
                intro hl x hx
                simp only [allBelow, Bool.and_eq_true] at hl
                rcases List.mem_cons.1 hx with rfl | hx
                · exact Nat.blt_eq.mp hl.1
                · exact ih hl.2 x hx
            exact this _ h7
          · have : ∀ (m l : List Nat), subList m l = true → ∀ x ∈ l, x ∈ m := by
              intro m l
              induction l with
              | nil => intro _ x hx; cases hx
              | cons y l ih =>
                intro hl x hx
                simp only [subList, Bool.and_eq_true] at hl
                rcases List.mem_cons.1 hx with rfl | hx
                · simpa using hl.1
                · exact ih hl.2 x hx
            exact this _ _ h8
        · cases h1
      · intro j' p' hj hp' e
        cases j' with
        | zero => omega
        | succ j' =>
          simp only [List.getElem?_cons_succ] at hp'
          have hm := List.mem_of_getElem? hp'
          have h4' : (l.any fun q' => Nat.beq q'.d q.d) = false := by simpa using h4
          rw [List.any_eq_false] at h4'
          have := h4' p' hm
          rw [e] at this
          simp at this
    | succ j =>
      simp only [List.getElem?_cons_succ] at hp
      obtain ⟨⟨o, ho, a1, a2, a3⟩, b, c, d⟩ := ih h5 j p hp
      have e : k + 1 + j = k + (j + 1) := by omega
      rw [e] at ho a2 c
      refine ⟨⟨o, ho, a1, a2, a3⟩, b, c, ?_⟩
      intro j' p' hj hp'
      cases j' with
      | zero => omega
      | succ j' => exact d j' p' (by omega) (by simpa using hp')
theorem basesOk_at {i : Nat} {all : List Plan} : ∀ {l : List Nat}, basesOk ops i all l = true → ∀ s ∈ l, ∀ k p, all[k]? = some p → p.d = s → k = i ∨ ∃ o, ops[k]? = some o ∧ i ∈ afters o := by
  have key : ∀ (s : Nat) (l : List Plan) (m : Nat), baseOk ops i s l m = true → ∀ k p, l[k]? = some p → p.d = s → m + k = i ∨ ∃ o, ops[m + k]? = some o ∧ i ∈ afters o := by
    intro s l
    induction l with
    | nil => intro m _ k p hp; simp at hp
    | cons q l ih =>
      intro m h k p hp hs
      simp only [baseOk, Bool.and_eq_true] at h
      cases k with
      | zero =>
        simp only [List.getElem?_cons_zero, Option.some.injEq] at hp
        subst hp
        have h1 := h.1
        simp only [Bool.or_eq_true, Bool.not_eq_true'] at h1
        rcases h1 with (h1 | h1) | h1
        · rw [hs] at h1; rw [Nat.beq_refl] at h1; cases h1
        · exact .inl (by have := Nat.eq_of_beq_eq_true h1; omega)
        · right
          cases ho : ops[m]? with
          | none => rw [ho] at h1; simp at h1
          | some o =>
            rw [ho] at h1
            simp only [Option.map_some, Option.getD_some] at h1
            exact ⟨o, rfl, by simpa using h1⟩
      | succ k =>
        have := ih (m + 1) h.2 k p (by simpa using hp) hs
        have e : m + 1 + k = m + (k + 1) := by omega
        rwa [e] at this
  intro l
  induction l with
  | nil => intro _ s hs; cases hs
  | cons x l ih =>
    intro h s hs k p hp hd
    simp only [basesOk, Bool.and_eq_true] at h
    rcases List.mem_cons.1 hs with rfl | hs
    · simpa using key _ all 0 h.1 k p hp hd
    · exact ih h.2 s hs k p hp hd

/-- how many are still to come -/
def leftN (listed : Array Bool) : Nat → Nat
  | 0 => 0
  | n + 1 => leftN listed n + (if listed.getD n true = false then 1 else 0)
theorem leftN_set {listed : Array Bool} {i : Nat} (hi : i < listed.size) (hl : listed.getD i true = false) : ∀ n, leftN (listed.setIfInBounds i true) n + (if i < n then 1 else 0) = leftN listed n := by
  intro n
  induction n with
  | zero => simp [leftN]
  | succ n ih =>
    simp only [leftN]
    by_cases hin : i = n
    · subst hin
      have e : (listed.setIfInBounds i true).getD i true = true := by simp [Array.getD_eq_getD_getElem?, hi]
      rw [e, hl]
      have : ¬ i < i := by omega
      simp only [this, if_false] at ih
      simp
      omega
    · have e : (listed.setIfInBounds i true).getD n true = listed.getD n true := by
        simp only [Array.getD_eq_getD_getElem?, Array.getElem?_setIfInBounds_ne hin]
      rw [e]
      by_cases h2 : i < n
      · simp only [h2, if_true] at ih
        simp only [show i < n + 1 by omega, if_true]
        omega
      · simp only [h2, if_false] at ih
        simp only [show ¬ i < n + 1 by omega, if_false]
        omega
theorem leftN_zero {listed : Array Bool} : ∀ n, leftN listed n = 0 → ∀ i, i < n → listed.getD i true = true := by
  intro n
  induction n with
  | zero => intro _ i hi; omega
  | succ n ih =>
    intro h i hi
    simp only [leftN] at h
    rcases Nat.lt_or_ge i n with h1 | h1
    · exact ih (by omega) i h1
    · have : i = n := by omega
      subst this
      cases hb : listed.getD i true with
      | true => rfl
      | false => rw [hb] at h; simp at h
theorem leftN_pos {listed : Array Bool} : ∀ n, leftN listed n ≠ 0 → ∃ i, i < n ∧ listed.getD i true = false ∧ ∀ j, j < i → listed.getD j true = true := by
  intro n
  induction n with
  | zero => intro h; exact absurd rfl h
  | succ n ih =>
    intro h
    by_cases h0 : leftN listed n = 0
    · simp only [leftN, h0, Nat.zero_add] at h
      have hb : listed.getD n true = false := by
        cases hb : listed.getD n true with
        | true => rw [hb] at h; simp at h
        | false => rfl
      exact ⟨n, by omega, hb, fun j hj => leftN_zero n h0 j hj⟩
    · obtain ⟨i, h1, h2, h3⟩ := ih h0
      exact ⟨i, by omega, h2, h3⟩

theorem mem_afters {o : Oper} {x : Nat} : x ∈ afters o ↔ ∃ e ∈ o.after, Region.binds .any e = true ∧ e.on = x := by
  simp [afters, and_assoc]

/-- a step for each row -/
def allSteps (plan : List Plan) (Φ : List SP) (k : Nat) (F : Nat → Plan → SP → Prop) : Prop :=
  match plan, Φ with
  | p :: ps, φ :: φs => F k p φ ∧ allSteps ps φs (k + 1) F
  | _, _ => True
theorem allSteps_at' : ∀ {plan : List Plan} {Φ : List SP} {k : Nat} {F : Nat → Plan → SP → Prop}, allSteps plan Φ k F → ∀ (i : Nat) (p : Plan) (φ : SP), plan[i]? = some p → Φ[i]? = some φ → F (k + i) p φ
  | [], _, _, _, _, i, p, φ, hp, _ => by simp at hp
  | _ :: _, [], _, _, _, i, p, φ, _, hφ => by simp at hφ
  | q :: qs, ψ :: ψs, k, F, h, i, p, φ, hp, hφ => by
    cases i with
    | zero =>
      simp only [List.getElem?_cons_zero, Option.some.injEq] at hp hφ
      subst hp; subst hφ
      exact h.1
    | succ i =>
      have := allSteps_at' h.2 i p φ (by simpa using hp) (by simpa using hφ)
      have e : k + 1 + i = k + (i + 1) := by omega
      rwa [e] at this
theorem allSteps_at {plan : List Plan} {Φ : List SP} {F : Nat → Plan → SP → Prop} (h : allSteps plan Φ 0 F) (i : Nat) (p : Plan) (φ : SP) (hp : plan[i]? = some p) (hφ : Φ[i]? = some φ) : F i p φ := by
  have := allSteps_at' h i p φ hp hφ
  rwa [Nat.zero_add] at this
theorem wc_draw {id : Nat} {E : Env} {w : World} (hm : P.follows .mixedOrders = true) (plan : List Plan) (Φ : List SP) (hlen : plan.length = ops.size) (hΦ : Φ.length = plan.length) (hok : planOk N ops plan plan 0 = true)
    (hstep : allSteps plan Φ 0 fun i p φ => ∀ a w', Fr [] w w' → a.tmps.size = N → a.defers = ds → (∀ s, p.base.contains s = true → ∀ v, E.get s = some v → a.tmps.getD s undef = v) →
      (∀ (j : Nat), p.deps.contains j = true → ∀ (q : Plan) (ψ : SP), plan[j]? = some q → Φ[j]? = some ψ → ψ.p w' (a.tmps.getD q.d undef)) → OpK P r ops Q i p.d a w' (fun v w'' => φ.p w'' v ∧ Fr [] w' w''))
    (hdone : ∀ a w', Fr [] w w' → a.tmps.size = N → a.defers = ds → (∀ s v, E.get s = some v → (plan.any fun p => Nat.beq p.d s) = false → a.tmps.getD s undef = v) →
      (∀ (i : Nat) (p : Plan) (φ : SP), plan[i]? = some p → Φ[i]? = some φ → φ.p w' (a.tmps.getD p.d undef)) → Q .normal a w') :
    WC P r N (.region id ops true) Q E ds w := by
  intro a ha
  refine wpIn_region_draw fun t => ?_
  simp only [Region.schedule, hm, Bool.true_or, if_true]
  refine wpAnyIn_sound ops.size t _ a _ ?_
  have key : ∀ (fuel : Nat) (listed : Array Bool) (a : Act) (w' : World), listed.size = ops.size → leftN listed ops.size = fuel → Fr [] w w' → a.tmps.size = N → a.defers = ds →
      (∀ (k : Nat) (o : Oper), ops[k]? = some o → listed.getD k true = true → ∀ x ∈ afters o, listed.getD x true = true) →
      (∀ s v, E.get s = some v → (∀ (k : Nat) (p : Plan), plan[k]? = some p → p.d = s → listed.getD k true = false) → a.tmps.getD s undef = v) →
      (∀ (i : Nat) (p : Plan) (φ : SP), plan[i]? = some p → Φ[i]? = some φ → listed.getD i true = true → φ.p w' (a.tmps.getD p.d undef)) →
      wpAnyIn (fw r) 0 P .any ops Q fuel listed a w' := by
    intro fuel
    induction fuel with
    | zero =>
      intro listed a w' hs hl hF hN hd hcl hb hr
      have hall := leftN_zero _ hl
      refine ⟨?_, hdone a w' hF hN hd (fun s v hv hne => hb s v hv fun k p hp e => by
        rw [List.any_eq_false] at hne
        have := hne p (List.mem_of_getElem? hp)
        rw [e] at this; simp at this) fun i p φ hp hφ => hr i p φ hp hφ (hall i ?_)⟩
      · unfold Region.ready
        rw [List.filter_eq_nil_iff]
        intro i hi
        have := hall i (by simpa using hi)
        simp [this]
      · have := (List.getElem?_eq_some_iff.1 hp).1; omega
    | succ fuel ih =>
      intro listed a w' hs hl hF hN hd hcl hb hr
      refine ⟨fun hready => ?_, fun i hi => ?_⟩
      · exfalso
        obtain ⟨i, h1, h2, h3⟩ := leftN_pos ops.size (by rw [hl]; omega : leftN listed ops.size ≠ 0)
        have hip : i < plan.length := by omega
        obtain ⟨⟨o, ho, _, hbelow, _⟩, _⟩ := planOk_at hok i plan[i] (List.getElem?_eq_getElem hip)
        simp only [Nat.zero_add] at ho hbelow
        have : i ∈ Region.ready .any ops listed := by
          unfold Region.ready
          rw [List.mem_filter]
          refine ⟨by simpa using h1, ?_⟩
          rw [h2, ho]
          simp only [Bool.not_false, Bool.true_and, Option.map_some, Option.getD_some, Array.all_eq_true_iff_forall_mem]
          intro e he
          cases hbd : Region.binds .any e with
          | false => simp
          | true =>
            have hlt := hbelow e.on (mem_afters.2 ⟨e, he, hbd, rfl⟩)
            have := h3 e.on hlt
            have hsz : e.on < listed.size := by omega
            simp only [Array.getD_eq_getD_getElem?, Array.getElem?_eq_getElem hsz, Option.getD_some] at this ⊢
            simp [this]
        rw [hready] at this
        cases this
      · unfold Region.ready at hi
        rw [List.mem_filter] at hi
        obtain ⟨hi1, hi2⟩ := hi
        have hin : i < ops.size := by simpa using hi1
        have hip : i < plan.length := by omega
        have hiφ : i < Φ.length := by omega
        have hp := List.getElem?_eq_getElem hip
        have hφ := List.getElem?_eq_getElem hiφ
        obtain ⟨⟨o, ho, hdst, hbelow, hdeps⟩, hdN, hbase, _⟩ := planOk_at hok i plan[i] hp
        simp only [Nat.zero_add] at ho hbelow hbase
        rw [ho] at hi2
        simp only [Bool.and_eq_true, Bool.not_eq_true', Option.map_some, Option.getD_some, Array.all_eq_true_iff_forall_mem] at hi2
        obtain ⟨hnl, hpre⟩ := hi2
        have hafter : ∀ x ∈ afters o, listed.getD x true = true := by
          intro x hx
          obtain ⟨e, he, hbd, rfl⟩ := mem_afters.1 hx
          have h1 := hpre e he
          rw [hbd] at h1
          simp only [Bool.not_true, Bool.false_or] at h1
          have hlt := hbelow e.on hx
          have hsz : e.on < listed.size := by omega
          simp only [Array.getD_eq_getD_getElem?, Array.getElem?_eq_getElem hsz, Option.getD_some] at h1 ⊢
          exact h1
        refine allSteps_at hstep i _ _ hp hφ a w' hF hN hd ?_ ?_ _ ?_
        · intro s hs'' v hv
          have hs' : s ∈ plan[i].base := by simpa using hs''
          refine hb s v hv fun k p hpk hds => ?_
          rcases basesOk_at hbase s hs' k p hpk hds with rfl | ⟨o', ho', hio⟩
          · exact hnl
          · cases hk : listed.getD k true with
            | false => rfl
            | true => rw [hcl k o' ho' hk i hio] at hnl; cases hnl
        · intro j hj' q ψ hq hψ
          have hj : j ∈ plan[i].deps := by simpa using hj'
          exact hr j q ψ hq hψ (hafter j (hdeps j hj))
        · rintro v w'' ⟨hv, hfr⟩
          have hdN' : plan[i].d < a.tmps.size := by rw [hN]; exact hdN
          have hsl : i < listed.size := by omega
          have hset : ∀ k, (listed.setIfInBounds i true).getD k true = true ↔ k = i ∨ listed.getD k true = true := by
            intro k
            by_cases hk : i = k
            · subst hk; simp [Array.getD_eq_getD_getElem?, hsl]
            · simp only [Array.getD_eq_getD_getElem?, Array.getElem?_setIfInBounds_ne hk]
              constructor
              · exact fun h => .inr h
              · rintro (h | h)
                · exact absurd h.symm hk
                · exact h
          have hput : ∀ s, s ≠ plan[i].d → (a.put (some plan[i].d) v).tmps.getD s undef = a.tmps.getD s undef := by
            intro s hs'
            simp only [Act.put, Array.getD_eq_getD_getElem?, Array.getElem?_setIfInBounds_ne (Ne.symm hs')]
          have hsame : (a.put (some plan[i].d) v).tmps.getD plan[i].d undef = v := by
            simp [Act.put, Array.getD_eq_getD_getElem?, hdN']
          have hlf := leftN_set hsl hnl ops.size
          simp only [hin, if_true] at hlf
          refine ih _ _ w'' (by simpa using hs) (by omega) (hF.trans hfr) (by simp [Act.put, hN]) hd ?_ ?_ ?_
          · intro k o' ho' hk x hx
            rw [hset] at hk ⊢
            right
            rcases hk with rfl | hk
            · rw [ho] at ho'; cases ho'; exact hafter x hx
            · exact hcl k o' ho' hk x hx
          · intro s u hu hne
            have h1 : s ≠ plan[i].d := fun e => by
              have := hne i _ hp e.symm
              have h2 := (hset i).2 (.inl rfl)
              rw [h2] at this; cases this
            rw [hput s h1]
            refine hb s u hu fun k p hpk hds => ?_
            have := hne k p hpk hds
            cases hk : listed.getD k true with
            | false => rfl
            | true => rw [(hset k).2 (.inr hk)] at this; cases this
          · intro j q ψ hq hψ hj
            rw [hset] at hj
            by_cases hji : j = i
            · subst hji
              rw [hp] at hq; rw [hφ] at hψ
              cases hq; cases hψ
              rw [hsame]; exact hv
            · have hlj : listed.getD j true = true := hj.resolve_left hji
              have hne : q.d ≠ plan[i].d := by
                rcases Nat.lt_or_ge i j with hlt | hge
                · exact (planOk_at hok i _ hp).2.2.2 j q hlt hq
                · exact fun e => (planOk_at hok j q hq).2.2.2 i _ (by omega) hp e.symm
              rw [hput _ hne]
              exact ψ.st hfr (hr j q ψ hq hψ hlj)
  refine key ops.size _ a _ (by simp) ?_ (Fr.drew [] w) ha.size ha.defers ?_ ?_ ?_
  · have : ∀ n, n ≤ ops.size → leftN (Array.replicate ops.size false) n = n := by
      intro n
      induction n with
      | zero => intro _; rfl
      | succ n ih =>
        intro hn
        simp only [leftN, ih (by omega)]
        have : (Array.replicate ops.size false).getD n true = false := by simp [Array.getD_eq_getD_getElem?, show n < ops.size by omega]
        simp [this]
    exact this _ (Nat.le_refl _)
  · intro k o ho hk
    have hlt := (Array.getElem?_eq_some_iff.1 ho).1
    simp [Array.getD_eq_getD_getElem?, hlt] at hk
  · intro s v hv _
    exact ha.get s v hv
  · intro i p φ hp _ hi
    have hlt : i < ops.size := by have := (List.getElem?_eq_some_iff.1 hp).1; omega
    simp [Array.getD_eq_getD_getElem?, hlt] at hi

theorem allBelow_at {k : Nat} : ∀ {l : List Nat}, allBelow k l = true → ∀ x ∈ l, x < k
  | [], _, x, hx => by cases hx
  | y :: l, hl, x, hx => by
    simp only [allBelow, Bool.and_eq_true] at hl
    rcases List.mem_cons.1 hx with rfl | hx
    · exact Nat.blt_eq.mp hl.1
    · exact allBelow_at hl.2 x hx
/-- what must come ahead, and what must come ahead of that -/
def addAll (l : List Nat) : List Nat → List Nat
  | [] => l
  | x :: xs => addAll (bif l.contains x then l else x :: l) xs
theorem addAll_mem : ∀ (xs l : List Nat) (x : Nat), x ∈ addAll l xs → x ∈ l ∨ x ∈ xs
  | [], l, x, h => .inl h
  | y :: ys, l, x, h => by
    rcases addAll_mem ys _ x h with h | h
    · cases hc : l.contains y with
      | true => rw [hc] at h; exact .inl h
      | false =>
        rw [hc] at h
        rcases List.mem_cons.1 h with e | h
        · exact .inr (by rw [e]; exact List.mem_cons_self)
        · exact .inl h
    · exact .inr (List.mem_cons_of_mem _ h)
def closeN (ops : Array Oper) : Nat → List Nat → List Nat
  | 0, l => l
  | n + 1, l => closeN ops n (addAll l (l.map fun i => match ops[i]? with | some o => afters o | none => []).flatten)
theorem closeN_listed {listed : Array Bool} (hcl : ∀ (k : Nat) (o : Oper), ops[k]? = some o → listed.getD k true = true → ∀ x ∈ afters o, listed.getD x true = true) : ∀ (n : Nat) (l : List Nat), (∀ i ∈ l, listed.getD i true = true) → ∀ i ∈ closeN ops n l, listed.getD i true = true
  | 0, l, h, i, hi => h i hi
  | n + 1, l, h, i, hi => closeN_listed hcl n _ (fun j hj => by
      rcases addAll_mem _ _ _ hj with hj | hj
      · exact h j hj
      · obtain ⟨m, hm, hjm⟩ := List.mem_flatten.1 hj
        obtain ⟨k, hk, rfl⟩ := List.mem_map.1 hm
        split at hjm
        · rename_i o ho
          exact hcl k o ho (h k hk) j hjm
        · cases hjm) i hi
/-- operations behind all others, in their order -/
def tailOk (ops : Array Oper) (m : Nat) : Bool := (List.range ops.size).all fun i => Nat.blt i m || match ops[i]? with | some o => ((List.range i).all fun j => (closeN ops 12 (afters o)).contains j) && allBelow i (afters o) | none => false
theorem tailOk_at {m : Nat} (h : tailOk ops m = true) (i : Nat) (hi : m ≤ i) (hn : i < ops.size) : ∃ o, ops[i]? = some o ∧ (∀ j, j < i → j ∈ closeN ops 12 (afters o)) ∧ ∀ j ∈ afters o, j < i := by
  have := List.all_eq_true.1 h i (by simpa using hn)
  simp only [Bool.or_eq_true] at this
  rcases this with h1 | h1
  · have := Nat.blt_eq.mp h1; omega
  · rw [Array.getElem?_eq_getElem hn] at h1
    simp only [Bool.and_eq_true, List.all_eq_true, List.mem_range, List.contains_iff_mem] at h1
    exact ⟨_, Array.getElem?_eq_getElem hn, fun j hj => h1.1 j hj, allBelow_at h1.2⟩
theorem wpOpIn_mono {K K' : Act → World → Prop} {i : Nat} {a : Act} {w : World} (h : ∀ a w, K a w → K' a w) (hh : wpOpIn (fw r) 0 P ops Q i K a w) : wpOpIn (fw r) 0 P ops Q i K' a w := by
  unfold wpOpIn at *
  split
  · rename_i ho; rw [ho] at hh; exact h _ _ hh
  · rename_i o ho
    rw [ho] at hh
    simp only at hh
    split
    · rename_i hw; rw [if_pos hw] at hh; exact Oper.wpIn_mono h hh
    · rename_i hw; rw [if_neg hw] at hh; exact ⟨hh.1, h _ _ hh.2⟩
theorem tail_run {m : Nat} (hok : tailOk ops m = true) : ∀ (c i : Nat) (listed : Array Bool) (a : Act) (w : World), m ≤ i → i + c = ops.size → listed.size = ops.size → (∀ k, k < i → listed.getD k true = true) → (∀ k, i ≤ k → k < ops.size → listed.getD k true = false) → (∀ (k : Nat) (o : Oper), ops[k]? = some o → listed.getD k true = true → ∀ x ∈ afters o, listed.getD x true = true) →
    wpOpsIn (fw r) 0 P ops Q (List.range' i c) a w → wpAnyIn (fw r) 0 P .any ops Q c listed a w := by
  intro c
  induction c with
  | zero =>
    intro i listed a w hm hi hs h1 h2 _ h
    refine ⟨?_, h⟩
    unfold Region.ready
    rw [List.filter_eq_nil_iff]
    intro k hk
    have := h1 k (by simp at hk; omega)
    simp [this]
  | succ c ih =>
    intro i listed a w hm hi hs h1 h2 hcl h
    have hin : i < ops.size := by omega
    obtain ⟨o, ho, hall, hbel⟩ := tailOk_at hok i hm hin
    have hready : ∀ k ∈ Region.ready .any ops listed, k = i := by
      intro k hk
      unfold Region.ready at hk
      rw [List.mem_filter] at hk
      obtain ⟨hk1, hk2⟩ := hk
      have hkn : k < ops.size := by simpa using hk1
      rcases Nat.lt_trichotomy k i with hlt | rfl | hgt
      · have := h1 k hlt; rw [this] at hk2; simp at hk2
      · rfl
      · exfalso
        obtain ⟨o', ho', hall', hbel'⟩ := tailOk_at hok k (by omega) hkn
        rw [ho'] at hk2
        simp only [Bool.and_eq_true, Bool.not_eq_true', Option.map_some, Option.getD_some, Array.all_eq_true_iff_forall_mem] at hk2
        have h4 := h2 i (Nat.le_refl _) hin
        have h5 := closeN_listed hcl 12 (afters o') (fun x hx => by
          obtain ⟨e, he, hbd, hon⟩ := mem_afters.1 hx
          have h3 := hk2.2 e he
          rw [hbd] at h3
          simp only [Bool.not_true, Bool.false_or] at h3
          have hxlt := hbel' x hx
          have hsz : e.on < listed.size := by omega
          rw [← hon]
          simp only [Array.getD_eq_getD_getElem?, Array.getElem?_eq_getElem hsz, Option.getD_some] at h3 ⊢
          exact h3) i (hall' i hgt)
        rw [h5] at h4; cases h4
    refine ⟨fun hnil => ?_, fun k hk => ?_⟩
    · exfalso
      have : i ∈ Region.ready .any ops listed := by
        unfold Region.ready
        rw [List.mem_filter]
        refine ⟨by simpa using hin, ?_⟩
        rw [h2 i (Nat.le_refl _) hin, ho]
        simp only [Bool.not_false, Bool.true_and, Option.map_some, Option.getD_some, Array.all_eq_true_iff_forall_mem]
        intro e he
        cases hbd : Region.binds .any e with
        | false => simp
        | true =>
          by_cases hlt : e.on < i
          · have := h1 e.on hlt
            have hsz : e.on < listed.size := by omega
            simp only [Array.getD_eq_getD_getElem?, Array.getElem?_eq_getElem hsz, Option.getD_some] at this ⊢
            simp [this]
          · exact absurd (hbel _ (mem_afters.2 ⟨e, he, hbd, rfl⟩)) hlt
      rw [hnil] at this
      cases this
    · have := hready k hk
      subst this
      rw [show List.range' k (c + 1) = k :: List.range' (k + 1) c from rfl, wpOpsIn_cons] at h
      refine wpOpIn_mono (fun a w hw => ih (k + 1) _ a w (by omega) (by omega) (by simpa using hs) (fun j hj => ?_) (fun j hj hj2 => ?_) (fun j o2 ho2 hj x hx => ?_) hw) h
      · by_cases e : j = k
        · subst e; simp [Array.getD_eq_getD_getElem?, show j < listed.size by omega]
        · have := h1 j (by omega)
          simp only [Array.getD_eq_getD_getElem?, Array.getElem?_setIfInBounds_ne (show k ≠ j by omega)] at this ⊢
          exact this
      · have := h2 j (by omega) hj2
        simp only [Array.getD_eq_getD_getElem?, Array.getElem?_setIfInBounds_ne (show k ≠ j by omega)] at this ⊢
        exact this
      · have hxl : listed.getD x true = true := by
          by_cases e : j = k
          · subst e
            rw [ho] at ho2; cases ho2
            exact h1 x (hbel x hx)
          · refine hcl j o2 ho2 ?_ x hx
            simp only [Array.getD_eq_getD_getElem?, Array.getElem?_setIfInBounds_ne (show k ≠ j from fun h => e h.symm)] at hj ⊢
            exact hj
        by_cases e : x = k
        · subst e; simp [Array.getD_eq_getD_getElem?, show x < listed.size by omega]
        · simp only [Array.getD_eq_getD_getElem?, Array.getElem?_setIfInBounds_ne (show k ≠ x from fun h => e h.symm)] at hxl ⊢
          exact hxl
theorem wc_drawT {id : Nat} {E : Env} {w : World} (hm : P.follows .mixedOrders = true) (plan : List Plan) (Φ : List SP) (hlen : Nat.ble plan.length ops.size = true) (htail : tailOk ops plan.length = true) (hΦ : Φ.length = plan.length) (hok : planOk N ops plan plan 0 = true)
    (hstep : allSteps plan Φ 0 fun i p φ => ∀ a w', Fr [] w w' → a.tmps.size = N → a.defers = ds → (∀ s, p.base.contains s = true → ∀ v, E.get s = some v → a.tmps.getD s undef = v) →
      (∀ (j : Nat), p.deps.contains j = true → ∀ (q : Plan) (ψ : SP), plan[j]? = some q → Φ[j]? = some ψ → ψ.p w' (a.tmps.getD q.d undef)) → OpK P r ops Q i p.d a w' (fun v w'' => φ.p w'' v ∧ Fr [] w' w''))
    (hdone : ∀ a w', Fr [] w w' → a.tmps.size = N → a.defers = ds → (∀ s v, E.get s = some v → (plan.any fun p => Nat.beq p.d s) = false → a.tmps.getD s undef = v) →
      (∀ (i : Nat) (p : Plan) (φ : SP), plan[i]? = some p → Φ[i]? = some φ → φ.p w' (a.tmps.getD p.d undef)) → wpOpsIn (fw r) 0 P ops Q (List.range' plan.length (ops.size - plan.length)) a w') :
    WC P r N (.region id ops true) Q E ds w := by
  have hle := Nat.le_of_ble_eq_true hlen
  intro a ha
  refine wpIn_region_draw fun t => ?_
  simp only [Region.schedule, hm, Bool.true_or, if_true]
  refine wpAnyIn_sound ops.size t _ a _ ?_
  have key : ∀ (fuel : Nat) (listed : Array Bool) (a : Act) (w' : World), listed.size = ops.size → leftN listed plan.length + (ops.size - plan.length) = fuel → (∀ k, plan.length ≤ k → k < ops.size → listed.getD k true = false) → Fr [] w w' → a.tmps.size = N → a.defers = ds →
      (∀ (k : Nat) (o : Oper), ops[k]? = some o → listed.getD k true = true → ∀ x ∈ afters o, listed.getD x true = true) →
      (∀ s v, E.get s = some v → (∀ (k : Nat) (p : Plan), plan[k]? = some p → p.d = s → listed.getD k true = false) → a.tmps.getD s undef = v) →
      (∀ (i : Nat) (p : Plan) (φ : SP), plan[i]? = some p → Φ[i]? = some φ → listed.getD i true = true → φ.p w' (a.tmps.getD p.d undef)) →
      wpAnyIn (fw r) 0 P .any ops Q fuel listed a w' := by
    intro fuel
    induction fuel with
    | zero =>
      intro listed a w' hs hl ht hF hN hd hcl hb hr
      have h0 : leftN listed plan.length = 0 := by omega
      have hall := leftN_zero _ h0
      have hc : ops.size - plan.length = 0 := by omega
      refine tail_run htail 0 plan.length listed a w' (Nat.le_refl _) (by omega) hs (fun k hk => hall k hk) ht hcl ?_
      have hfin := hdone a w' hF hN hd (fun s v hv hne => hb s v hv fun k p hp e => by
        rw [List.any_eq_false] at hne
        have := hne p (List.mem_of_getElem? hp)
        rw [e] at this; simp at this) fun i p φ hp hφ => hr i p φ hp hφ (hall i (List.getElem?_eq_some_iff.1 hp).1)
      rw [hc] at hfin
      exact hfin
    | succ fuel ih =>
      intro listed a w' hs hl ht hF hN hd hcl hb hr
      by_cases h0 : leftN listed plan.length = 0
      · have hall := leftN_zero _ h0
        refine tail_run htail (fuel + 1) plan.length listed a w' (Nat.le_refl _) (by omega) hs (fun k hk => hall k hk) ht hcl ?_
        have hfin := hdone a w' hF hN hd (fun s v hv hne => hb s v hv fun k p hp e => by
          rw [List.any_eq_false] at hne
          have := hne p (List.mem_of_getElem? hp)
          rw [e] at this; simp at this) fun i p φ hp hφ => hr i p φ hp hφ (hall i (List.getElem?_eq_some_iff.1 hp).1)
        rw [show ops.size - plan.length = fuel + 1 by omega] at hfin
        exact hfin
      refine ⟨fun hready => ?_, fun i hi => ?_⟩
      · exfalso
        obtain ⟨i, h1, h2, h3⟩ := leftN_pos plan.length h0
        have hip : i < plan.length := h1
        obtain ⟨⟨o, ho, _, hbelow, _⟩, _⟩ := planOk_at hok i plan[i] (List.getElem?_eq_getElem hip)
        simp only [Nat.zero_add] at ho hbelow
        have : i ∈ Region.ready .any ops listed := by
          unfold Region.ready
          rw [List.mem_filter]
          refine ⟨by simp; omega, ?_⟩
          rw [h2, ho]
          simp only [Bool.not_false, Bool.true_and, Option.map_some, Option.getD_some, Array.all_eq_true_iff_forall_mem]
          intro e he
          cases hbd : Region.binds .any e with
          | false => simp
          | true =>
            have hlt := hbelow e.on (mem_afters.2 ⟨e, he, hbd, rfl⟩)
            have := h3 e.on hlt
            have hsz : e.on < listed.size := by omega
            simp only [Array.getD_eq_getD_getElem?, Array.getElem?_eq_getElem hsz, Option.getD_some] at this ⊢
            simp [this]
        rw [hready] at this
        cases this
      · unfold Region.ready at hi
        rw [List.mem_filter] at hi
        obtain ⟨hi1, hi2⟩ := hi
        have hin : i < ops.size := by simpa using hi1
        have hip : i < plan.length := by
          rcases Nat.lt_or_ge i plan.length with h | hge
          · exact h
          · exfalso
            obtain ⟨o, ho, hall, hbelt⟩ := tailOk_at htail i hge hin
            rw [ho] at hi2
            simp only [Bool.and_eq_true, Bool.not_eq_true', Option.map_some, Option.getD_some, Array.all_eq_true_iff_forall_mem] at hi2
            obtain ⟨k, h1, h2, _⟩ := leftN_pos plan.length h0
            have h5 := closeN_listed hcl 12 (afters o) (fun x hx => by
              obtain ⟨e, he, hbd, hon⟩ := mem_afters.1 hx
              have h3 := hi2.2 e he
              rw [hbd] at h3
              simp only [Bool.not_true, Bool.false_or] at h3
              have hxlt := hbelt x hx
              have hsz : e.on < listed.size := by omega
              rw [← hon]
              simp only [Array.getD_eq_getD_getElem?, Array.getElem?_eq_getElem hsz, Option.getD_some] at h3 ⊢
              exact h3) k (hall k (by omega))
            rw [h5] at h2; cases h2
        have hiφ : i < Φ.length := by omega
        have hp := List.getElem?_eq_getElem hip
        have hφ := List.getElem?_eq_getElem hiφ
        obtain ⟨⟨o, ho, hdst, hbelow, hdeps⟩, hdN, hbase, _⟩ := planOk_at hok i plan[i] hp
        simp only [Nat.zero_add] at ho hbelow hbase
        rw [ho] at hi2
        simp only [Bool.and_eq_true, Bool.not_eq_true', Option.map_some, Option.getD_some, Array.all_eq_true_iff_forall_mem] at hi2
        obtain ⟨hnl, hpre⟩ := hi2
        have hafter : ∀ x ∈ afters o, listed.getD x true = true := by
          intro x hx
          obtain ⟨e, he, hbd, rfl⟩ := mem_afters.1 hx
          have h1 := hpre e he
          rw [hbd] at h1
          simp only [Bool.not_true, Bool.false_or] at h1
          have hlt := hbelow e.on hx
          have hsz : e.on < listed.size := by omega
          simp only [Array.getD_eq_getD_getElem?, Array.getElem?_eq_getElem hsz, Option.getD_some] at h1 ⊢
          exact h1
        refine allSteps_at hstep i _ _ hp hφ a w' hF hN hd ?_ ?_ _ ?_
        · intro s hs'' v hv
          have hs' : s ∈ plan[i].base := by simpa using hs''
          refine hb s v hv fun k p hpk hds => ?_
          rcases basesOk_at hbase s hs' k p hpk hds with rfl | ⟨o', ho', hio⟩
          · exact hnl
          · cases hk : listed.getD k true with
            | false => rfl
            | true => rw [hcl k o' ho' hk i hio] at hnl; cases hnl
        · intro j hj' q ψ hq hψ
          have hj : j ∈ plan[i].deps := by simpa using hj'
          exact hr j q ψ hq hψ (hafter j (hdeps j hj))
        · rintro v w'' ⟨hv, hfr⟩
          have hdN' : plan[i].d < a.tmps.size := by rw [hN]; exact hdN
          have hsl : i < listed.size := by omega
          have hset : ∀ k, (listed.setIfInBounds i true).getD k true = true ↔ k = i ∨ listed.getD k true = true := by
            intro k
            by_cases hk : i = k
            · subst hk; simp [Array.getD_eq_getD_getElem?, hsl]
            · simp only [Array.getD_eq_getD_getElem?, Array.getElem?_setIfInBounds_ne hk]
              constructor
              · exact fun h => .inr h
              · rintro (h | h)
                · exact absurd h.symm hk
                · exact h
          have hput : ∀ s, s ≠ plan[i].d → (a.put (some plan[i].d) v).tmps.getD s undef = a.tmps.getD s undef := by
            intro s hs'
            simp only [Act.put, Array.getD_eq_getD_getElem?, Array.getElem?_setIfInBounds_ne (Ne.symm hs')]
          have hsame : (a.put (some plan[i].d) v).tmps.getD plan[i].d undef = v := by
            simp [Act.put, Array.getD_eq_getD_getElem?, hdN']
          have hlf := leftN_set hsl hnl plan.length
          simp only [hip, if_true] at hlf
          refine ih _ _ w'' (by simpa using hs) (by omega) (fun k hk hk2 => by
            have := ht k hk hk2
            simp only [Array.getD_eq_getD_getElem?, Array.getElem?_setIfInBounds_ne (show i ≠ k by omega)] at this ⊢
            exact this) (hF.trans hfr) (by simp [Act.put, hN]) hd ?_ ?_ ?_
          · intro k o' ho' hk x hx
            rw [hset] at hk ⊢
            right
            rcases hk with rfl | hk
            · rw [ho] at ho'; cases ho'; exact hafter x hx
            · exact hcl k o' ho' hk x hx
          · intro s u hu hne
            have h1 : s ≠ plan[i].d := fun e => by
              have := hne i _ hp e.symm
              have h2 := (hset i).2 (.inl rfl)
              rw [h2] at this; cases this
            rw [hput s h1]
            refine hb s u hu fun k p hpk hds => ?_
            have := hne k p hpk hds
            cases hk : listed.getD k true with
            | false => rfl
            | true => rw [(hset k).2 (.inr hk)] at this; cases this
          · intro j q ψ hq hψ hj
            rw [hset] at hj
            by_cases hji : j = i
            · subst hji
              rw [hp] at hq; rw [hφ] at hψ
              cases hq; cases hψ
              rw [hsame]; exact hv
            · have hlj : listed.getD j true = true := hj.resolve_left hji
              have hne : q.d ≠ plan[i].d := by
                rcases Nat.lt_or_ge i j with hlt | hge
                · exact (planOk_at hok i _ hp).2.2.2 j q hlt hq
                · exact fun e => (planOk_at hok j q hq).2.2.2 i _ (by omega) hp e.symm
              rw [hput _ hne]
              exact ψ.st hfr (hr j q ψ hq hψ hlj)
  refine key ops.size _ a _ (by simp) ?_ (fun k _ hk => by simp [Array.getD_eq_getD_getElem?, hk]) (Fr.drew [] w) ha.size ha.defers ?_ ?_ ?_
  · have : ∀ n, n ≤ ops.size → leftN (Array.replicate ops.size false) n = n := by
      intro n
      induction n with
      | zero => intro _; rfl
      | succ n ih =>
        intro hn
        simp only [leftN, ih (by omega)]
        have : (Array.replicate ops.size false).getD n true = false := by simp [Array.getD_eq_getD_getElem?, show n < ops.size by omega]
        simp [this]
    rw [this _ hle]
    omega
  · intro k o ho hk
    have hlt := (Array.getElem?_eq_some_iff.1 ho).1
    simp [Array.getD_eq_getD_getElem?, hlt] at hk
  · intro s v hv _
    exact ha.get s v hv
  · intro i p φ hp _ hi
    have hlt : i < ops.size := by have := (List.getElem?_eq_some_iff.1 hp).1; omega
    simp [Array.getD_eq_getD_getElem?, hlt] at hi

/-! ### Operations, whatever follows -/
theorem op_of {i d : Nat} {o : Oper} {a : Act} {w w' : World} {v : Value} {b : Bool} {post : Value → World → Prop} (ho : ops[i]? = some o) (hw : Region.wanted o (yielded ops a.tmps) = b) (hd : o.dst = some d)
    (hrun : if b = true then (∀ c, o.op ≠ .defer c) ∧ (execOp a.eval o).run P w = .ok (.value v) w' else v = undef ∧ w' = w) (hp : post v w') : OpK P r ops Q i d a w post := by
  intro K hK
  simp only [wpOpIn, ho]
  cases b with
  | true =>
    simp only [if_true] at hrun
    rw [if_pos hw]
    refine ⟨fun _ _ => trivial, ?_⟩
    rw [Oper.semAt_eq _ _ _ hrun.1, hrun.2]
    simp only [Oper.uponIn, hd]
    exact hK v w' hp
  | false =>
    obtain ⟨rfl, rfl⟩ := (show v = undef ∧ w' = w by simpa using hrun)
    rw [if_neg (by rw [hw]; simp)]
    refine ⟨fun _ _ => trivial, ?_⟩
    rw [hd]
    exact hK _ _ hp
variable {Θ : Tys}
theorem op_plain (hΘ : Θ.ok P) {E : Env} {i d : Nat} {o : Oper} {a : Act} {w : World} {v : Value} (ha : Has N E ds a) (ho : ops[i]? = some o) (hw : want N ops E o.guard = some true) (hd : o.dst = some d) (hg : goodFields Θ o.op = true)
    (hv : evOp Θ E o.op = some v) : OpK P r ops Q i d a w (fun u w' => u = v ∧ Fr [] w w') :=
  op_of ho (want_ok ha hw) hd (by
    simp only [if_true]
    exact ⟨fun c hc => by rw [hc] at hv; simp [evOp] at hv, run_evOp hΘ ha hg hv⟩) ⟨rfl, Fr.refl _ _⟩
theorem op_skip {E : Env} {i d : Nat} {o : Oper} {a : Act} {w : World} (ha : Has N E ds a) (ho : ops[i]? = some o) (hw : want N ops E o.guard = some false) (hd : o.dst = some d) :
    OpK P r ops Q i d a w (fun u w' => u = undef ∧ Fr [] w w') :=
  op_of ho (want_ok ha hw) hd (by simp) ⟨rfl, Fr.refl _ _⟩
theorem op_load (hΘ : Θ.ok P) {E : Env} {i d : Nat} {o : Oper} {a : Act} {w : World} (ha : Has N E ds a) (ho : ops[i]? = some o) (hw : want N ops E o.guard = some true) (hd : o.dst = some d) {t b tb off : Nat} {x : Operand} {ti : TI} (hop : o.op = .load t x) (ht : Θ.get t = some ti)
    (hx : ev E x = some (.pointer (some ⟨b, off, none⟩))) {cs : List Value} (hb : Blk w b tb cs) (us : List Value) (hu : (cs.drop off).take ti.size = us) (hl : us.length = ti.size) (h1 : ti.isAgg = true ∨ ti.size = 1)
    (v : Value) (hv : valOf ti.isAgg us = v) : OpK P r ops Q i d a w (fun u w' => u = v ∧ Fr [] w w') := by
  subst hv
  have hc : CellsAt w ⟨b, off, none⟩ us := fun j u hj => by
    have : (⟨b, off, none⟩ : Addr).add j = ⟨b, off + j, none⟩ := by unfold Addr.add; split <;> simp_all
    rw [this, hb.cell]
    subst hu
    have hlt : j < ti.size := by have := (List.getElem?_eq_some_iff.1 hj).1; omega
    rw [List.getElem?_take, if_pos hlt, List.getElem?_drop] at hj
    exact hj
  refine op_of ho (want_ok ha hw) hd (v := valOf ti.isAgg us) (w' := w) ?_ ⟨rfl, Fr.refl _ _⟩
  simp only [if_true]
  refine ⟨by rw [hop]; simp, ?_⟩
  simp only [execOp, hop, Sem.run_bind, ha.eval hx, run_loadAt (hΘ.fits ht) hl hc (fun e => by rcases h1 with h1 | h1; rw [e] at h1; cases h1; exact h1)]
  rfl
theorem op_loadp (hΘ : Θ.ok P) {E : Env} {i d : Nat} {o : Oper} {a : Act} {w : World} {O : List Nat} (ha : Has N E ds a) (ho : ops[i]? = some o) (hw : want N ops E o.guard = some true) (hd : o.dst = some d) {t : Nat} {x : Operand} {ti : TI} (hop : o.op = .load t x) (ht : Θ.get t = some ti)
    {p : Value} (hx : ev E x = some p) {α : Type} {T : Ty α} {y : α} (hp : T.ptr.is O w p y) (hn : T.n = ti.size) (hag : T.agg = ti.isAgg) : OpK P r ops Q i d a w (fun u w' => T.is O w' u y ∧ Fr [] w w') := by
  obtain ⟨cs, ⟨ad, es, hc, _, _, hr, he⟩, hv⟩ := hp
  subst hc
  have hv : p = .pointer (some ad) := hv
  subst hv
  refine op_of ho (want_ok ha hw) hd (v := valOf ti.isAgg es) (w' := w) ?_ ⟨⟨es, hr, by rw [← hag]; rfl⟩, Fr.refl _ _⟩
  simp only [if_true]
  refine ⟨by rw [hop]; simp, ?_⟩
  simp only [execOp, hop, Sem.run_bind, ha.eval hx, run_loadAt (hΘ.fits ht) ((T.len hr).trans hn) he.1 (fun e => by rw [← hn]; exact T.sing (by rw [hag]; exact e))]
  rfl
theorem op_index (hΘ : Θ.ok P) {E : Env} {i d : Nat} {o : Oper} {a : Act} {w : World} {O : List Nat} (ha : Has N E ds a) (ho : ops[i]? = some o) (hw : want N ops E o.guard = some true) (hd : o.dst = some d) {t : Nat} {x y : Operand} {ti te : TI} (hop : o.op = .indexAddr t x y) (ht : Θ.get t = some ti)
    (h5 : ti.tag = 5) (hte : Θ.get ti.e = some te) {v : Value} (hx : ev E x = some v) {k : IntKind} {j : Int} (hy : ev E y = some (.int k j)) {α : Type} {T : Ty α} {xs : List α} {z : α} (hv : T.slice.is O w v xs) (hn : T.n = te.size)
    (h0 : 0 ≤ j) (hj : xs[j.toNat]? = some z) : OpK P r ops Q i d a w (fun u w' => T.ptr.is O w' u z ∧ Fr [] w w') := by
  obtain ⟨A, c, rfl, _, _⟩ := slice_form hv
  obtain ⟨ad, rfl, hp⟩ := slice_at hv hj
  have hlt : j.toNat < xs.length := (List.getElem?_eq_some_iff.1 hj).1
  refine op_of ho (want_ok ha hw) hd (v := .pointer (some (ad.add (j.toNat * T.n)))) (w' := w) ?_ ⟨hp, Fr.refl _ _⟩
  simp only [if_true]
  refine ⟨by rw [hop]; simp, ?_⟩
  have hu := (hΘ.fits ht).slice h5
  simp only [execOp, hop, Sem.run_bind, ha.eval hx, ha.eval hy, Instr.indexAt, asIntOf, Sem.run_pure, Result.andThen_ok, run_underlying hu]
  rw [if_pos ⟨h0, by omega⟩]
  simp only [Sem.run_bind, sizeOf_run (hΘ.fits hte), Result.andThen_ok, hn]
  rfl
theorem op_call {E : Env} {i d : Nat} {o : Oper} {a : Act} {w : World} (ha : Has N E ds a) (ho : ops[i]? = some o) (hw : want N ops E o.guard = some true) (hd : o.dst = some d) {f : FuncId} {args : Array Operand} {ts : Array TypeId} (hop : o.op = .call { callee := .value (.func f), args := args, argTypes := ts })
    (hf : ∀ (vs : Array Value) (u : World), (callFunc f vs).run P u = .ok (.enter f vs) u)
    {vs : List Value} (hvs : allEv E args.toList = some vs) {β : Type} {R : List Nat → World → Value → β → Prop} {O : List Nat} {y : β} (hcall : Calls P f vs.toArray w (Gives R O w y)) :
    OpK P r ops Q i d a w (fun u w' => R O w' u y ∧ Fr [] w w') := by
  intro K hK
  simp only [wpOpIn, ho]
  rw [if_pos (want_ok ha hw)]
  refine ⟨fun _ _ => trivial, ?_⟩
  have e1 : args.map a.eval = vs.toArray := by rw [← allEv_eval ha hvs, ← Array.toList_map]
  have hrun : (execOp a.eval o).run P w = .ok (.enter f vs.toArray) w := by
    simp only [execOp, hop, Sem.run_bind, resolve, Act.eval, Deferred.ofValue, Sem.run_pure, Result.andThen_ok, invoke, e1]
    simpa using hf vs.toArray w
  rw [Oper.semAt_eq _ _ _ (by rw [hop]; simp), hrun]
  simp only [Oper.uponIn]
  refine ⟨fun h => by simp [fw] at h, trivial, fun cs _ => ?_⟩
  obtain ⟨e, w'', fr, ⟨v, rfl, hr, hfr⟩, hs, hf', hl⟩ := hcall cs
  refine ⟨.returned v, w'', fr, ?_, ?_, hf', hl⟩
  · simp only [hd]
    exact hK v w'' ⟨hr, hfr⟩
  · refine StepsIn.mono (fun m _ => ?_) (StepsIn.of_steps hs)
    intro g _
    exact ⟨fun h => by simp [fw] at h, Or.inl trivial, fun _ _ => trivial, fun _ h => by simp [fw] at h⟩
theorem wq_go {E : Env} {a : Act} {w : World} (hN : a.tmps.size = N) (hd : a.defers = ds) (hr : rows a E) (h : WQ N Q .normal E ds w) : Q .normal a w := h a ⟨hN, hd, rows_get hr⟩
theorem OpK.weaken {i d : Nat} {a : Act} {w : World} {p q : Value → World → Prop} (h : OpK P r ops Q i d a w p) (hpq : ∀ v w', p v w' → q v w') : OpK P r ops Q i d a w q :=
  fun K hK => h K fun v w' hp => hK v w' (hpq v w' hp)
end
end Go.Dc
