/- A region in an open order, one of whose operations is a store into a block of the call's own. -/
import Derived.Test.YtjdeaihnpgkphaaDcDrawK
namespace Go.Dc
open Go.RowKit
/-- as planOk; an operation without a destination has one behind all slots -/
def planOkS (N : Nat) (ops : Array Oper) (all : List Plan) : List Plan → Nat → Bool
  | [], _ => true
  | p :: r, i =>
    (match ops[i]? with
     | some o => (match o.dst with | some d => Nat.beq d p.d && Nat.blt p.d N | none => Nat.ble N p.d) && allBelow i (afters o) && subList (afters o) p.deps
     | none => false) && basesOk ops i all p.base && !(r.any fun q => Nat.beq q.d p.d) && planOkS N ops all r (i + 1)
section
variable {P : Program} {r : Option Nat} {N : Nat} {ops : Array Oper} {Q : Exit → Act → World → Prop} {ds : List Deferred}
theorem subList_at : ∀ {m l : List Nat}, subList m l = true → ∀ x ∈ l, x ∈ m
  | _, [], _, x, hx => by cases hx
  | m, y :: l, hl, x, hx => by
    simp only [subList, Bool.and_eq_true] at hl
    rcases List.mem_cons.1 hx with rfl | hx
    · simpa using hl.1
    · exact subList_at hl.2 x hx
theorem planOkS_at {all : List Plan} : ∀ {l : List Plan} {k : Nat}, planOkS N ops all l k = true → ∀ j p, l[j]? = some p →
    (∃ o, ops[k + j]? = some o ∧ (∀ x ∈ afters o, x < k + j) ∧ (∀ x ∈ p.deps, x ∈ afters o)) ∧ basesOk ops (k + j) all p.base = true ∧ ∀ j' p', j < j' → l[j']? = some p' → p'.d ≠ p.d := by
  intro l
  induction l with
  | nil => intro k h j p hp; simp at hp
  | cons q l ih =>
    intro k h j p hp
    simp only [planOkS, Bool.and_eq_true] at h
    obtain ⟨⟨⟨h1, h3⟩, h4⟩, h5⟩ := h
    cases j with
    | zero =>
      simp only [List.getElem?_cons_zero, Option.some.injEq] at hp
      subst hp
      refine ⟨?_, h3, ?_⟩
      · split at h1
        · rename_i o ho
          simp only [Bool.and_eq_true] at h1
          exact ⟨o, ho, allBelow_at h1.1.2, subList_at h1.2⟩
        · cases h1
      · intro j' p' hj hp' e
        cases j' with
        | zero => omega
        | succ j' =>
          simp only [List.getElem?_cons_succ] at hp'
          have hm := List.mem_of_getElem? hp'
          have h4' : (l.any fun q' => Nat.beq q'.d q.d) = false := by simpa using h4
          rw [List.any_eq_false] at h4'
          have := h4' p' hm
          rw [e] at this
          simp at this
    | succ j =>
      simp only [List.getElem?_cons_succ] at hp
      obtain ⟨⟨o, ho, a2, a3⟩, c, d⟩ := ih h5 j p hp
      have e : k + 1 + j = k + (j + 1) := by omega
      rw [e] at ho a2 c
      refine ⟨⟨o, ho, a2, a3⟩, c, ?_⟩
      intro j' p' hj hp'
      cases j' with
      | zero => omega
      | succ j' => exact d j' p' (by omega) (by simpa using hp')
theorem wc_drawH {id : Nat} {E : Env} {w : World} (hm : P.follows .mixedOrders = true) (plan : List Plan) (Φ : List (Bool → World → Value → Prop)) (kk : Nat) (cl : List Nat) (I : Bool → World → Prop) (hlen : Nat.ble plan.length ops.size = true) (htail : tailOk ops plan.length = true) (hΦ : Φ.length = plan.length) (hok : planOkS N ops plan plan 0 = true)
    (hkk : kk < plan.length) (hcl0 : ∀ o, ops[kk]? = some o → ∀ x ∈ cl, x ∈ closeN ops 12 (afters o)) (hI : I false w.drew)
    (hstep : ∀ i p φ, plan[i]? = some p → Φ[i]? = some φ → ∀ ph a w', (ph = true → i ≠ kk ∧ i ∉ cl) → I ph w' → a.tmps.size = N → a.defers = ds → (∀ s, p.base.contains s = true → ∀ v, E.get s = some v → a.tmps.getD s undef = v) →
      (∀ (j : Nat), p.deps.contains j = true → ∀ (q : Plan) (ψ : Bool → World → Value → Prop), plan[j]? = some q → Φ[j]? = some ψ → ψ ph w' (a.tmps.getD q.d undef)) → OpK P r ops Q i p.d a w' (fun v w'' => (N ≤ p.d → v = undef) ∧ φ (ph || Nat.beq i kk) w'' v ∧ I (ph || Nat.beq i kk) w'' ∧ ∀ (j : Nat) (ψ : Bool → World → Value → Prop) u, j ≠ i → Φ[j]? = some ψ → ψ ph w' u → ψ (ph || Nat.beq i kk) w'' u))
    (hdone : ∀ a w', I true w' → a.tmps.size = N → a.defers = ds → (∀ s v, E.get s = some v → (plan.any fun p => Nat.beq p.d s) = false → a.tmps.getD s undef = v) →
      (∀ (i : Nat) (p : Plan) (φ : Bool → World → Value → Prop), plan[i]? = some p → Φ[i]? = some φ → φ true w' (a.tmps.getD p.d undef)) → wpOpsIn (fw r) 0 P ops Q (List.range' plan.length (ops.size - plan.length)) a w') :
    WC P r N (.region id ops true) Q E ds w := by
  have hle := Nat.le_of_ble_eq_true hlen
  intro a ha
  refine wpIn_region_draw fun t => ?_
  simp only [Region.schedule, hm, Bool.true_or, if_true]
  refine wpAnyIn_sound ops.size t _ a _ ?_
  have key : ∀ (fuel : Nat) (listed : Array Bool) (ph : Bool) (a : Act) (w' : World), listed.getD kk true = ph → listed.size = ops.size → leftN listed plan.length + (ops.size - plan.length) = fuel → (∀ k, plan.length ≤ k → k < ops.size → listed.getD k true = false) → I ph w' → a.tmps.size = N → a.defers = ds →
      (∀ (k : Nat) (o : Oper), ops[k]? = some o → listed.getD k true = true → ∀ x ∈ afters o, listed.getD x true = true) →
      (∀ s v, E.get s = some v → (∀ (k : Nat) (p : Plan), plan[k]? = some p → p.d = s → listed.getD k true = false) → a.tmps.getD s undef = v) →
      (∀ (i : Nat) (p : Plan) (φ : Bool → World → Value → Prop), plan[i]? = some p → Φ[i]? = some φ → listed.getD i true = true → φ ph w' (a.tmps.getD p.d undef)) →
      wpAnyIn (fw r) 0 P .any ops Q fuel listed a w' := by
    intro fuel
    induction fuel with
    | zero =>
      intro listed ph a w' hph hs hl ht hF hN hd hcl hb hr
      have h0 : leftN listed plan.length = 0 := by omega
      have hall := leftN_zero _ h0
      have hpt : ph = true := by rw [← hph]; exact hall kk hkk
      subst hpt
      have hc : ops.size - plan.length = 0 := by omega
      refine tail_run htail 0 plan.length listed a w' (Nat.le_refl _) (by omega) hs (fun k hk => hall k hk) ht hcl ?_
      have hfin := hdone a w' hF hN hd (fun s v hv hne => hb s v hv fun k p hp e => by
        rw [List.any_eq_false] at hne
        have := hne p (List.mem_of_getElem? hp)
        rw [e] at this; simp at this) fun i p φ hp hφ => hr i p φ hp hφ (hall i (List.getElem?_eq_some_iff.1 hp).1)
      rw [hc] at hfin
      exact hfin
    | succ fuel ih =>
      intro listed ph a w' hph hs hl ht hF hN hd hcl hb hr
      by_cases h0 : leftN listed plan.length = 0
      · have hall := leftN_zero _ h0
        have hpt : ph = true := by rw [← hph]; exact hall kk hkk
        subst hpt
        refine tail_run htail (fuel + 1) plan.length listed a w' (Nat.le_refl _) (by omega) hs (fun k hk => hall k hk) ht hcl ?_
        have hfin := hdone a w' hF hN hd (fun s v hv hne => hb s v hv fun k p hp e => by
          rw [List.any_eq_false] at hne
          have := hne p (List.mem_of_getElem? hp)
          rw [e] at this; simp at this) fun i p φ hp hφ => hr i p φ hp hφ (hall i (List.getElem?_eq_some_iff.1 hp).1)
        rw [show ops.size - plan.length = fuel + 1 by omega] at hfin
        exact hfin
      refine ⟨fun hready => ?_, fun i hi => ?_⟩
      · exfalso
        obtain ⟨i, h1, h2, h3⟩ := leftN_pos plan.length h0
        have hip : i < plan.length := h1
        obtain ⟨⟨o, ho, hbelow, _⟩, _⟩ := planOkS_at hok i plan[i] (List.getElem?_eq_getElem hip)
        simp only [Nat.zero_add] at ho hbelow
        have : i ∈ Region.ready .any ops listed := by
          unfold Region.ready
          rw [List.mem_filter]
          refine ⟨by simp; omega, ?_⟩
          rw [h2, ho]
          simp only [Bool.not_false, Bool.true_and, Option.map_some, Option.getD_some, Array.all_eq_true_iff_forall_mem]
          intro e he
          cases hbd : Region.binds .any e with
          | false => simp
          | true =>
            have hlt := hbelow e.on (mem_afters.2 ⟨e, he, hbd, rfl⟩)
            have := h3 e.on hlt
            have hsz : e.on < listed.size := by omega
            simp only [Array.getD_eq_getD_getElem?, Array.getElem?_eq_getElem hsz, Option.getD_some] at this ⊢
            simp [this]
        rw [hready] at this
        cases this
      · unfold Region.ready at hi
        rw [List.mem_filter] at hi
        obtain ⟨hi1, hi2⟩ := hi
        have hin : i < ops.size := by simpa using hi1
        have hip : i < plan.length := by
          rcases Nat.lt_or_ge i plan.length with h | hge
          · exact h
          · exfalso
            obtain ⟨o, ho, hall, hbelt⟩ := tailOk_at htail i hge hin
            rw [ho] at hi2
            simp only [Bool.and_eq_true, Bool.not_eq_true', Option.map_some, Option.getD_some, Array.all_eq_true_iff_forall_mem] at hi2
            obtain ⟨k, h1, h2, _⟩ := leftN_pos plan.length h0
            have h5 := closeN_listed hcl 12 (afters o) (fun x hx => by
              obtain ⟨e, he, hbd, hon⟩ := mem_afters.1 hx
              have h3 := hi2.2 e he
              rw [hbd] at h3
              simp only [Bool.not_true, Bool.false_or] at h3
              have hxlt := hbelt x hx
              have hsz : e.on < listed.size := by omega
              rw [← hon]
              simp only [Array.getD_eq_getD_getElem?, Array.getElem?_eq_getElem hsz, Option.getD_some] at h3 ⊢
              exact h3) k (hall k (by omega))
            rw [h5] at h2; cases h2
        have hiφ : i < Φ.length := by omega
        have hp := List.getElem?_eq_getElem hip
        have hφ := List.getElem?_eq_getElem hiφ
        obtain ⟨⟨o, ho, hbelow, hdeps⟩, hbase, _⟩ := planOkS_at hok i plan[i] hp
        simp only [Nat.zero_add] at ho hbelow hbase
        rw [ho] at hi2
        simp only [Bool.and_eq_true, Bool.not_eq_true', Option.map_some, Option.getD_some, Array.all_eq_true_iff_forall_mem] at hi2
        obtain ⟨hnl, hpre⟩ := hi2
        have hafter : ∀ x ∈ afters o, listed.getD x true = true := by
          intro x hx
          obtain ⟨e, he, hbd, rfl⟩ := mem_afters.1 hx
          have h1 := hpre e he
          rw [hbd] at h1
          simp only [Bool.not_true, Bool.false_or] at h1
          have hlt := hbelow e.on hx
          have hsz : e.on < listed.size := by omega
          simp only [Array.getD_eq_getD_getElem?, Array.getElem?_eq_getElem hsz, Option.getD_some] at h1 ⊢
          exact h1
        refine hstep i _ _ hp hφ ph a w' ?_ hF hN hd ?_ ?_ _ ?_
        · intro hpt
          rw [hpt] at hph
          refine ⟨fun e => by (rw [e, hph] at hnl; cases hnl), fun hin' => ?_⟩
          have hkl : kk < ops.size := by omega
          have hko := hcl0 _ (Array.getElem?_eq_getElem hkl) i hin'
          have := closeN_listed hcl 12 (afters ops[kk]) (fun x hx => hcl kk _ (Array.getElem?_eq_getElem hkl) hph x hx) i hko
          rw [this] at hnl; cases hnl
        · intro s hs'' v hv
          have hs' : s ∈ plan[i].base := by simpa using hs''
          refine hb s v hv fun k p hpk hds => ?_
          rcases basesOk_at hbase s hs' k p hpk hds with rfl | ⟨o', ho', hio⟩
          · exact hnl
          · cases hk : listed.getD k true with
            | false => rfl
            | true => rw [hcl k o' ho' hk i hio] at hnl; cases hnl
        · intro j hj' q ψ hq hψ
          have hj : j ∈ plan[i].deps := by simpa using hj'
          exact hr j q ψ hq hψ (hafter j (hdeps j hj))
        · rintro v w'' ⟨hund, hv, hI2, htr⟩
          have hsl : i < listed.size := by omega
          have hset : ∀ k, (listed.setIfInBounds i true).getD k true = true ↔ k = i ∨ listed.getD k true = true := by
            intro k
            by_cases hk : i = k
            · subst hk; simp [Array.getD_eq_getD_getElem?, hsl]
            · simp only [Array.getD_eq_getD_getElem?, Array.getElem?_setIfInBounds_ne hk]
              constructor
              · exact fun h => .inr h
              · rintro (h | h)
                · exact absurd h.symm hk
                · exact h
          have hput : ∀ s, s ≠ plan[i].d → (a.put (some plan[i].d) v).tmps.getD s undef = a.tmps.getD s undef := by
            intro s hs'
            simp only [Act.put, Array.getD_eq_getD_getElem?, Array.getElem?_setIfInBounds_ne (Ne.symm hs')]
          have hsame : (a.put (some plan[i].d) v).tmps.getD plan[i].d undef = v := by
            rcases Nat.lt_or_ge plan[i].d N with hdN | hdN
            · simp [Act.put, Array.getD_eq_getD_getElem?, show plan[i].d < a.tmps.size by omega]
            · rw [hund hdN]
              simp [Act.put, Array.getD_eq_getD_getElem?, show ¬ plan[i].d < a.tmps.size by omega]
          have hlf := leftN_set hsl hnl plan.length
          simp only [hip, if_true] at hlf
          refine ih _ (ph || Nat.beq i kk) _ w'' ?_ (by simpa using hs) (by omega) (fun k hk hk2 => by
            have := ht k hk hk2
            simp only [Array.getD_eq_getD_getElem?, Array.getElem?_setIfInBounds_ne (show i ≠ k by omega)] at this ⊢
            exact this) hI2 (by simp [Act.put, hN]) hd ?_ ?_ ?_
          · cases hb2 : Nat.beq i kk with
            | true =>
              have := Nat.eq_of_beq_eq_true hb2
              subst this
              rw [Bool.or_true]
              exact (hset i).2 (.inl rfl)
            | false =>
              rw [Bool.or_false, ← hph]
              have hne : i ≠ kk := fun e => by rw [e, Nat.beq_refl] at hb2; cases hb2
              simp only [Array.getD_eq_getD_getElem?, Array.getElem?_setIfInBounds_ne hne]
          · intro k o' ho' hk x hx
            rw [hset] at hk ⊢
            right
            rcases hk with rfl | hk
            · rw [ho] at ho'; cases ho'; exact hafter x hx
            · exact hcl k o' ho' hk x hx
          · intro s u hu hne
            have h1 : s ≠ plan[i].d := fun e => by
              have := hne i _ hp e.symm
              have h2 := (hset i).2 (.inl rfl)
              rw [h2] at this; cases this
            rw [hput s h1]
            refine hb s u hu fun k p hpk hds => ?_
            have := hne k p hpk hds
            cases hk : listed.getD k true with
            | false => rfl
            | true => rw [(hset k).2 (.inr hk)] at this; cases this
          · intro j q ψ hq hψ hj
            rw [hset] at hj
            by_cases hji : j = i
            · subst hji
              rw [hp] at hq; rw [hφ] at hψ
              cases hq; cases hψ
              rw [hsame]; exact hv
            · have hlj : listed.getD j true = true := hj.resolve_left hji
              have hne : q.d ≠ plan[i].d := by
                rcases Nat.lt_or_ge i j with hlt | hge
                · exact (planOkS_at hok i _ hp).2.2 j q hlt hq
                · exact fun e => (planOkS_at hok j q hq).2.2 i _ (by omega) hp e.symm
              rw [hput _ hne]
              exact htr j ψ _ hji hψ (hr j q ψ hq hψ hlj)
  refine key ops.size _ false a _ (by simp [Array.getD_eq_getD_getElem?, show kk < ops.size by omega]) (by simp) ?_ (fun k _ hk => by simp [Array.getD_eq_getD_getElem?, hk]) hI ha.size ha.defers ?_ ?_ ?_
  · have : ∀ n, n ≤ ops.size → leftN (Array.replicate ops.size false) n = n := by
      intro n
      induction n with
      | zero => intro _; rfl
      | succ n ih =>
        intro hn
        simp only [leftN, ih (by omega)]
        have : (Array.replicate ops.size false).getD n true = false := by simp [Array.getD_eq_getD_getElem?, show n < ops.size by omega]
        simp [this]
    rw [this _ hle]
    omega
  · intro k o ho hk
    have hlt := (Array.getElem?_eq_some_iff.1 ho).1
    simp [Array.getD_eq_getD_getElem?, hlt] at hk
  · intro s v hv _
    exact ha.get s v hv
  · intro i p φ hp _ hi
    have hlt : i < ops.size := by have := (List.getElem?_eq_some_iff.1 hp).1; omega
    simp [Array.getD_eq_getD_getElem?, hlt] at hi

theorem sub_one (b : Nat) : ∀ k, k ∈ ([] : List Nat) → k ∈ [b] := fun k hk => by cases hk
/-- what is known of a slot, whatever becomes of that block -/
structure SB (b : Nat) where
  p : World → Value → Prop
  st : ∀ {w w' v}, Fr [b] w w' → p w v → p w' v
def SB.eq (b : Nat) (v : Value) : SB b := ⟨fun _ u => u = v, fun _ h => h⟩
def SB.is {b : Nat} {α : Type} (T : Ty α) {O : List Nat} (hb : b ∈ O) (x : α) : SB b := ⟨fun w v => T.is O w v x, fun hf h => h.tr (hf.tr (one_in hb))⟩
def SB.an {α : Type} (b : Nat) (T : Ty α) (O : List Nat) (w0 : World) (x : α) : SB b := ⟨fun _ v => T.is O w0 v x, fun _ h => h⟩
def SB.none (b : Nat) : SB b := ⟨fun _ u => u = undef, fun _ h => h⟩
theorem SB.less {b : Nat} (φ : SB b) {w w' : World} {v : Value} (hf : Fr [] w w') (h : φ.p w v) : φ.p w' v := φ.st (hf.more (sub_one b)) h
/-- a step for each row, but one -/
def stepsB {b : Nat} (plan : List Plan) (Φ : List (SB b)) (k : Nat) (F : Nat → Plan → SB b → Prop) : Prop :=
  match plan, Φ with
  | p :: ps, φ :: φs => F k p φ ∧ stepsB ps φs (k + 1) F
  | _, _ => True
theorem stepsB_at' {b : Nat} : ∀ {plan : List Plan} {Φ : List (SB b)} {k : Nat} {F : Nat → Plan → SB b → Prop}, stepsB plan Φ k F → ∀ (i : Nat) (p : Plan) (φ : SB b), plan[i]? = some p → Φ[i]? = some φ → F (k + i) p φ
  | [], _, _, _, _, i, p, φ, hp, _ => by simp at hp
  | _ :: _, [], _, _, _, i, p, φ, _, hφ => by simp at hφ
  | q :: qs, ψ :: ψs, k, F, h, i, p, φ, hp, hφ => by
    cases i with
    | zero =>
      simp only [List.getElem?_cons_zero, Option.some.injEq] at hp hφ
      subst hp; subst hφ
      exact h.1
    | succ i =>
      have := stepsB_at' h.2 i p φ (by simpa using hp) (by simpa using hφ)
      have e : k + 1 + i = k + (i + 1) := by omega
      rwa [e] at this
/-- a store into a block, whatever follows -/
def StK (P : Program) (r : Option Nat) (ops : Array Oper) (Q : Exit → Act → World → Prop) (i : Nat) (a : Act) (w : World) (post : World → Prop) : Prop :=
  ∀ K : Act → World → Prop, (∀ w', post w' → K a w') → wpOpIn (fw r) 0 P ops Q i K a w
theorem put_none {a : Act} {d : Nat} {v : Value} (h : a.tmps.size ≤ d) : a.put (some d) v = a := by
  cases a
  simp only [Act.put] at h ⊢
  rw [Array.setIfInBounds_eq_of_size_le h]
theorem wc_drawS {id : Nat} {E : Env} {w : World} (hm : P.follows .mixedOrders = true) {b t : Nat} (plan : List Plan) (Φ : List (SB b)) (kk : Nat) {cs0 : List Value} (hb0 : Blk w b t cs0) {α : Type} (T : Ty α) {O : List Nat} (hbO : b ∈ O) (y : α) (hlen : Nat.ble plan.length ops.size = true) (htail : tailOk ops plan.length = true) (hΦ : Φ.length = plan.length) (hok : planOkS N ops plan plan 0 = true)
    (hkk : Nat.blt kk plan.length = true) (hkd : ∀ p, plan[kk]? = some p → p.d = N) (hkΦ : Φ[kk]? = some (SB.none b)) (hlt : (plan.zipIdx.all fun q => Nat.blt q.1.d N || Nat.beq q.2 kk) = true)
    (hstep : stepsB plan Φ 0 fun i p φ => ∀ a w', Fr [b] w w' → a.tmps.size = N → a.defers = ds → (∀ s, p.base.contains s = true → ∀ v, E.get s = some v → a.tmps.getD s undef = v) →
      (∀ (j : Nat), p.deps.contains j = true → ∀ (q : Plan) (ψ : SB b), plan[j]? = some q → Φ[j]? = some ψ → ψ.p w' (a.tmps.getD q.d undef)) →
      bif Nat.beq i kk then (Blk w' b t cs0 → StK P r ops Q i a w' fun w'' => Fr [b] w' w'' ∧ ∃ cs, T.rep O w'' cs y ∧ Blk w'' b t cs)
      else OpK P r ops Q i p.d a w' (fun v w'' => φ.p w'' v ∧ Fr [] w' w''))
    (hdone : ∀ a w' cs, Fr [b] w w' → T.rep O w' cs y → Blk w' b t cs → a.tmps.size = N → a.defers = ds → (∀ s v, E.get s = some v → (plan.any fun p => Nat.beq p.d s) = false → a.tmps.getD s undef = v) →
      (∀ (i : Nat) (p : Plan) (φ : SB b), plan[i]? = some p → Φ[i]? = some φ → φ.p w' (a.tmps.getD p.d undef)) → wpOpsIn (fw r) 0 P ops Q (List.range' plan.length (ops.size - plan.length)) a w') :
    WC P r N (.region id ops true) Q E ds w := by
  have hkl : kk < plan.length := Nat.blt_eq.mp hkk
  have hpl : ∀ (i : Nat) (p : Plan), plan[i]? = some p → i ≠ kk → p.d < N := by
    intro i p hp hne
    have := List.all_eq_true.1 hlt (p, i) (List.mem_of_getElem? (i := i) (by rw [List.getElem?_zipIdx, hp]; simp))
    simp only [Bool.or_eq_true] at this
    rcases this with h | h
    · exact Nat.blt_eq.mp h
    · exact absurd (Nat.eq_of_beq_eq_true h) hne
  refine wc_drawH hm plan (Φ.map fun φ _ => φ.p) kk [] (fun ph w' => Fr [b] w w' ∧ bif ph then ∃ cs, T.rep O w' cs y ∧ Blk w' b t cs else Blk w' b t cs0) hlen htail (by simpa using hΦ) hok hkl (fun o _ x hx => by cases hx) ⟨Fr.drew [b] w, hb0⟩ ?_ ?_
  · intro i p φ0 hp hφ0 ph a w' hph hI hN hd hbase hdeps
    obtain ⟨φ, hφ, rfl⟩ : ∃ φ, Φ[i]? = some φ ∧ (fun _ => φ.p) = φ0 := by
      rw [List.getElem?_map] at hφ0
      obtain ⟨φ, h1, h2⟩ := Option.map_eq_some_iff.1 hφ0
      exact ⟨φ, h1, h2⟩
    have hs := stepsB_at' hstep i p φ hp hφ
    rw [Nat.zero_add] at hs
    have hs := hs a w' hI.1 hN hd hbase (fun j hj q ψ hq hψ => hdeps j hj q (fun _ => ψ.p) hq (by rw [List.getElem?_map, hψ]; rfl))
    by_cases hik : i = kk
    · subst hik
      have hpf : ph = false := by
        cases ph with
        | false => rfl
        | true => exact absurd rfl (hph rfl).1
      subst hpf
      rw [Nat.beq_refl] at hs
      rw [hkΦ] at hφ
      cases hφ
      intro K hK
      refine hs hI.2 K fun w'' ⟨hF, hcs⟩ => ?_
      have := hK undef w'' ⟨fun _ => rfl, rfl, ⟨hI.1.trans hF, by rw [Nat.beq_refl]; exact hcs⟩, fun j ψ u hj hψ hu => ?_⟩
      · rwa [put_none (by rw [hN, hkd p hp]; exact Nat.le_refl _)] at this
      · rw [List.getElem?_map] at hψ
        obtain ⟨χ, _, rfl⟩ := Option.map_eq_some_iff.1 hψ
        exact χ.st hF hu
    · have hb2 : Nat.beq i kk = false := by
        cases h : Nat.beq i kk with
        | false => rfl
        | true => exact absurd (Nat.eq_of_beq_eq_true h) hik
      rw [hb2] at hs ⊢
      rw [Bool.or_false]
      refine OpK.weaken hs fun v w'' ⟨hv, hF⟩ => ⟨fun hge => absurd (hpl i p hp hik) (by omega), hv, ⟨hI.1.trans (hF.more (sub_one b)), ?_⟩, fun j ψ u hj hψ hu => ?_⟩
      · have hI2 := hI.2
        cases ph with
        | false => exact Blk.fr0 hI2 hF
        | true =>
          obtain ⟨cs, h1, h2⟩ := hI2
          exact ⟨cs, T.tr hF.tr0 h1, Blk.fr0 h2 hF⟩
      · rw [List.getElem?_map] at hψ
        obtain ⟨χ, _, rfl⟩ := Option.map_eq_some_iff.1 hψ
        exact χ.less hF hu
  · intro a w' hI hN hd hb hr
    obtain ⟨hF, cs, h1, h2⟩ := hI
    exact hdone a w' cs hF h1 h2 hN hd hb fun i p φ hp hφ => hr i p (fun _ => φ.p) hp (by rw [List.getElem?_map, hφ]; rfl)
end
theorem mk_agg {cs us : List Value} (h : Value.agg cs.toArray = .agg us.toArray) : cs = us := by
  injection h with h
  simpa using h
section
variable {P : Program} {r : Option Nat} {N : Nat} {Θ : Tys} {ops : Array Oper} {Q : Exit → Act → World → Prop} {ds : List Deferred}
/-- a store of data into a block that is known -/
theorem op_storeS (hΘ : Θ.ok P) {E : Env} {i : Nat} {o : Oper} {a : Act} {w : World} (ha : Has N E ds a) (ho : ops[i]? = some o) (hw : want N ops E o.guard = some true) (hd : o.dst = none) {t b tb : Nat} {x y : Operand} {ti : TI} (hop : o.op = .store t x y) (ht : Θ.get t = some ti)
    (hx : ev E x = some (.pointer (some ⟨b, 0, none⟩))) {v : Value} (hy : ev E y = some v) {cs : List Value} (hb : Blk w b tb cs) {α : Type} {T : Ty α} {O : List Nat} (hbO : b ∈ O) {z : α} (hv : T.is O w v z) (hn : T.n = ti.size) (hl : T.n = cs.length) :
    StK P r ops Q i a w fun w'' => Fr [b] w w'' ∧ ∃ cs, T.rep O w'' cs z ∧ Blk w'' b tb cs := by
  intro K hK
  obtain ⟨es, hr, rfl⟩ := hv
  have hc := T.cells hr
  have hlen : es.length = ti.size := (T.len hr).trans hn
  obtain ⟨w', hrun, hb', hf⟩ := run_storeAt (P := P) (v := T.mk' es) (off := 0) (hΘ.fits ht) hb (by rw [← hlen, ← Array.length_toList, hc]) (by rw [hc]; exact T.one hr) (by omega)
  simp only [wpOpIn, ho]
  rw [if_pos (want_ok ha hw)]
  refine ⟨fun _ _ => trivial, ?_⟩
  rw [Oper.semAt_eq _ _ _ (by rw [hop]; simp), show (execOp a.eval o).run P w = .ok .skip w' from by simp only [execOp, hop, ha.eval hx, ha.eval hy, Sem.run_bind, hrun]; rfl]
  simp only [Oper.uponIn, hd, Act.put]
  refine hK w' ⟨hf, es, T.tr (hf.tr (one_in hbO)) hr, ?_⟩
  rw [hc] at hb'
  have : putAt cs 0 es = es := by
    unfold putAt
    rw [List.take_zero, List.nil_append, List.drop_of_length_le (by omega), List.append_nil]
  rwa [this] at hb'
end
end Go.Dc
