/- A region in an open order, one of whose operations turns the world. -/
import Derived.Test.YtdemjanelbajlaaDcTree
namespace Go.Dc
open Go.RowKit
section
variable {P : Program} {r : Option Nat} {N : Nat} {ops : Array Oper} {Q : Exit → Act → World → Prop} {ds : List Deferred}
theorem wc_drawG {id : Nat} {E : Env} {w : World} (hm : P.follows .mixedOrders = true) (plan : List Plan) (Φ : List (Bool → World → Value → Prop)) (kk : Nat) (cl : List Nat) (I : Bool → World → Prop) (hlen : Nat.ble plan.length ops.size = true) (htail : tailOk ops plan.length = true) (hΦ : Φ.length = plan.length) (hok : planOk N ops plan plan 0 = true)
    (hkk : kk < plan.length) (hcl0 : ∀ o, ops[kk]? = some o → ∀ x ∈ cl, x ∈ closeN ops 12 (afters o)) (hI : I false w.drew)
    (hstep : ∀ i p φ, plan[i]? = some p → Φ[i]? = some φ → ∀ ph a w', (ph = true → i ≠ kk ∧ i ∉ cl) → I ph w' → a.tmps.size = N → a.defers = ds → (∀ s, p.base.contains s = true → ∀ v, E.get s = some v → a.tmps.getD s undef = v) →
      (∀ (j : Nat), p.deps.contains j = true → ∀ (q : Plan) (ψ : Bool → World → Value → Prop), plan[j]? = some q → Φ[j]? = some ψ → ψ ph w' (a.tmps.getD q.d undef)) → OpK P r ops Q i p.d a w' (fun v w'' => φ (ph || Nat.beq i kk) w'' v ∧ I (ph || Nat.beq i kk) w'' ∧ ∀ (j : Nat) (ψ : Bool → World → Value → Prop) u, j ≠ i → Φ[j]? = some ψ → ψ ph w' u → ψ (ph || Nat.beq i kk) w'' u))
    (hdone : ∀ a w', I true w' → a.tmps.size = N → a.defers = ds → (∀ s v, E.get s = some v → (plan.any fun p => Nat.beq p.d s) = false → a.tmps.getD s undef = v) →
      (∀ (i : Nat) (p : Plan) (φ : Bool → World → Value → Prop), plan[i]? = some p → Φ[i]? = some φ → φ true w' (a.tmps.getD p.d undef)) → wpOpsIn (fw r) 0 P ops Q (List.range' plan.length (ops.size - plan.length)) a w') :
    WC P r N (.region id ops true) Q E ds w := by
  have hle := Nat.le_of_ble_eq_true hlen
  intro a ha
  refine wpIn_region_draw fun t => ?_
  simp only [Region.schedule, hm, Bool.true_or, if_true]
  refine wpAnyIn_sound ops.size t _ a _ ?_
  have key : ∀ (fuel : Nat) (listed : Array Bool) (ph : Bool) (a : Act) (w' : World), listed.getD kk true = ph → listed.size = ops.size → leftN listed plan.length + (ops.size - plan.length) = fuel → (∀ k, plan.length ≤ k → k < ops.size → listed.getD k true = false) → I ph w' → a.tmps.size = N → a.defers = ds →
      (∀ (k : Nat) (o : Oper), ops[k]? = some o → listed.getD k true = true → ∀ x ∈ afters o, listed.getD x true = true) →
      (∀ s v, E.get s = some v → (∀ (k : Nat) (p : Plan), plan[k]? = some p → p.d = s → listed.getD k true = false) → a.tmps.getD s undef = v) →
      (∀ (i : Nat) (p : Plan) (φ : Bool → World → Value → Prop), plan[i]? = some p → Φ[i]? = some φ → listed.getD i true = true → φ ph w' (a.tmps.getD p.d undef)) →
      wpAnyIn (fw r) 0 P .any ops Q fuel listed a w' := by
    intro fuel
    induction fuel with
    | zero =>
      intro listed ph a w' hph hs hl ht hF hN hd hcl hb hr
      have h0 : leftN listed plan.length = 0 := by omega
      have hall := leftN_zero _ h0
      have hpt : ph = true := by rw [← hph]; exact hall kk hkk
      subst hpt
      have hc : ops.size - plan.length = 0 := by omega
      refine tail_run htail 0 plan.length listed a w' (Nat.le_refl _) (by omega) hs (fun k hk => hall k hk) ht hcl ?_
      have hfin := hdone a w' hF hN hd (fun s v hv hne => hb s v hv fun k p hp e => by
        rw [List.any_eq_false] at hne
        have := hne p (List.mem_of_getElem? hp)
        rw [e] at this; simp at this) fun i p φ hp hφ => hr i p φ hp hφ (hall i (List.getElem?_eq_some_iff.1 hp).1)
      rw [hc] at hfin
      exact hfin
    | succ fuel ih =>
      intro listed ph a w' hph hs hl ht hF hN hd hcl hb hr
      by_cases h0 : leftN listed plan.length = 0
      · have hall := leftN_zero _ h0
        have hpt : ph = true := by rw [← hph]; exact hall kk hkk
        subst hpt
        refine tail_run htail (fuel + 1) plan.length listed a w' (Nat.le_refl _) (by omega) hs (fun k hk => hall k hk) ht hcl ?_
        have hfin := hdone a w' hF hN hd (fun s v hv hne => hb s v hv fun k p hp e => by
          rw [List.any_eq_false] at hne
          have := hne p (List.mem_of_getElem? hp)
          rw [e] at this; simp at this) fun i p φ hp hφ => hr i p φ hp hφ (hall i (List.getElem?_eq_some_iff.1 hp).1)
        rw [show ops.size - plan.length = fuel + 1 by omega] at hfin
        exact hfin
      refine ⟨fun hready => ?_, fun i hi => ?_⟩
      · exfalso
        obtain ⟨i, h1, h2, h3⟩ := leftN_pos plan.length h0
        have hip : i < plan.length := h1
        obtain ⟨⟨o, ho, _, hbelow, _⟩, _⟩ := planOk_at hok i plan[i] (List.getElem?_eq_getElem hip)
        simp only [Nat.zero_add] at ho hbelow
        have : i ∈ Region.ready .any ops listed := by
          unfold Region.ready
          rw [List.mem_filter]
          refine ⟨by simp; omega, ?_⟩
          rw [h2, ho]
          simp only [Bool.not_false, Bool.true_and, Option.map_some, Option.getD_some, Array.all_eq_true_iff_forall_mem]
          intro e he
          cases hbd : Region.binds .any e with
          | false => simp
          | true =>
            have hlt := hbelow e.on (mem_afters.2 ⟨e, he, hbd, rfl⟩)
            have := h3 e.on hlt
            have hsz : e.on < listed.size := by omega
            simp only [Array.getD_eq_getD_getElem?, Array.getElem?_eq_getElem hsz, Option.getD_some] at this ⊢
            simp [this]
        rw [hready] at this
        cases this
      · unfold Region.ready at hi
        rw [List.mem_filter] at hi
        obtain ⟨hi1, hi2⟩ := hi
        have hin : i < ops.size := by simpa using hi1
        have hip : i < plan.length := by
          rcases Nat.lt_or_ge i plan.length with h | hge
          · exact h
          · exfalso
            obtain ⟨o, ho, hall, hbelt⟩ := tailOk_at htail i hge hin
            rw [ho] at hi2
            simp only [Bool.and_eq_true, Bool.not_eq_true', Option.map_some, Option.getD_some, Array.all_eq_true_iff_forall_mem] at hi2
            obtain ⟨k, h1, h2, _⟩ := leftN_pos plan.length h0
            have h5 := closeN_listed hcl 12 (afters o) (fun x hx => by
              obtain ⟨e, he, hbd, hon⟩ := mem_afters.1 hx
              have h3 := hi2.2 e he
              rw [hbd] at h3
              simp only [Bool.not_true, Bool.false_or] at h3
              have hxlt := hbelt x hx
              have hsz : e.on < listed.size := by omega
              rw [← hon]
              simp only [Array.getD_eq_getD_getElem?, Array.getElem?_eq_getElem hsz, Option.getD_some] at h3 ⊢
              exact h3) k (hall k (by omega))
            rw [h5] at h2; cases h2
        have hiφ : i < Φ.length := by omega
        have hp := List.getElem?_eq_getElem hip
        have hφ := List.getElem?_eq_getElem hiφ
        obtain ⟨⟨o, ho, hdst, hbelow, hdeps⟩, hdN, hbase, _⟩ := planOk_at hok i plan[i] hp
        simp only [Nat.zero_add] at ho hbelow hbase
        rw [ho] at hi2
        simp only [Bool.and_eq_true, Bool.not_eq_true', Option.map_some, Option.getD_some, Array.all_eq_true_iff_forall_mem] at hi2
        obtain ⟨hnl, hpre⟩ := hi2
        have hafter : ∀ x ∈ afters o, listed.getD x true = true := by
          intro x hx
          obtain ⟨e, he, hbd, rfl⟩ := mem_afters.1 hx
          have h1 := hpre e he
          rw [hbd] at h1
          simp only [Bool.not_true, Bool.false_or] at h1
          have hlt := hbelow e.on hx
          have hsz : e.on < listed.size := by omega
          simp only [Array.getD_eq_getD_getElem?, Array.getElem?_eq_getElem hsz, Option.getD_some] at h1 ⊢
          exact h1
        refine hstep i _ _ hp hφ ph a w' ?_ hF hN hd ?_ ?_ _ ?_
        · intro hpt
          rw [hpt] at hph
          refine ⟨fun e => by (rw [e, hph] at hnl; cases hnl), fun hin' => ?_⟩
          have hkl : kk < ops.size := by omega
          have hko := hcl0 _ (Array.getElem?_eq_getElem hkl) i hin'
          have := closeN_listed hcl 12 (afters ops[kk]) (fun x hx => hcl kk _ (Array.getElem?_eq_getElem hkl) hph x hx) i hko
          rw [this] at hnl; cases hnl
        · intro s hs'' v hv
          have hs' : s ∈ plan[i].base := by simpa using hs''
          refine hb s v hv fun k p hpk hds => ?_
          rcases basesOk_at hbase s hs' k p hpk hds with rfl | ⟨o', ho', hio⟩
          · exact hnl
          · cases hk : listed.getD k true with
            | false => rfl
            | true => rw [hcl k o' ho' hk i hio] at hnl; cases hnl
        · intro j hj' q ψ hq hψ
          have hj : j ∈ plan[i].deps := by simpa using hj'
          exact hr j q ψ hq hψ (hafter j (hdeps j hj))
        · rintro v w'' ⟨hv, hI2, htr⟩
          have hdN' : plan[i].d < a.tmps.size := by rw [hN]; exact hdN
          have hsl : i < listed.size := by omega
          have hset : ∀ k, (listed.setIfInBounds i true).getD k true = true ↔ k = i ∨ listed.getD k true = true := by
            intro k
            by_cases hk : i = k
            · subst hk; simp [Array.getD_eq_getD_getElem?, hsl]
            · simp only [Array.getD_eq_getD_getElem?, Array.getElem?_setIfInBounds_ne hk]
              constructor
              · exact fun h => .inr h
              · rintro (h | h)
                · exact absurd h.symm hk
                · exact h
          have hput : ∀ s, s ≠ plan[i].d → (a.put (some plan[i].d) v).tmps.getD s undef = a.tmps.getD s undef := by
            intro s hs'
            simp only [Act.put, Array.getD_eq_getD_getElem?, Array.getElem?_setIfInBounds_ne (Ne.symm hs')]
          have hsame : (a.put (some plan[i].d) v).tmps.getD plan[i].d undef = v := by
            simp [Act.put, Array.getD_eq_getD_getElem?, hdN']
          have hlf := leftN_set hsl hnl plan.length
          simp only [hip, if_true] at hlf
          refine ih _ (ph || Nat.beq i kk) _ w'' ?_ (by simpa using hs) (by omega) (fun k hk hk2 => by
            have := ht k hk hk2
            simp only [Array.getD_eq_getD_getElem?, Array.getElem?_setIfInBounds_ne (show i ≠ k by omega)] at this ⊢
            exact this) hI2 (by simp [Act.put, hN]) hd ?_ ?_ ?_
          · cases hb2 : Nat.beq i kk with
            | true =>
              have := Nat.eq_of_beq_eq_true hb2
              subst this
              rw [Bool.or_true]
              exact (hset i).2 (.inl rfl)
            | false =>
              rw [Bool.or_false, ← hph]
              have hne : i ≠ kk := fun e => by rw [e, Nat.beq_refl] at hb2; cases hb2
              simp only [Array.getD_eq_getD_getElem?, Array.getElem?_setIfInBounds_ne hne]
          · intro k o' ho' hk x hx
            rw [hset] at hk ⊢
            right
            rcases hk with rfl | hk
            · rw [ho] at ho'; cases ho'; exact hafter x hx
            · exact hcl k o' ho' hk x hx
          · intro s u hu hne
            have h1 : s ≠ plan[i].d := fun e => by
              have := hne i _ hp e.symm
              have h2 := (hset i).2 (.inl rfl)
              rw [h2] at this; cases this
            rw [hput s h1]
            refine hb s u hu fun k p hpk hds => ?_
            have := hne k p hpk hds
            cases hk : listed.getD k true with
            | false => rfl
            | true => rw [(hset k).2 (.inr hk)] at this; cases this
          · intro j q ψ hq hψ hj
            rw [hset] at hj
            by_cases hji : j = i
            · subst hji
              rw [hp] at hq; rw [hφ] at hψ
              cases hq; cases hψ
              rw [hsame]; exact hv
            · have hlj : listed.getD j true = true := hj.resolve_left hji
              have hne : q.d ≠ plan[i].d := by
                rcases Nat.lt_or_ge i j with hlt | hge
                · exact (planOk_at hok i _ hp).2.2.2 j q hlt hq
                · exact fun e => (planOk_at hok j q hq).2.2.2 i _ (by omega) hp e.symm
              rw [hput _ hne]
              exact htr j ψ _ hji hψ (hr j q ψ hq hψ hlj)
  refine key ops.size _ false a _ (by simp [Array.getD_eq_getD_getElem?, show kk < ops.size by omega]) (by simp) ?_ (fun k _ hk => by simp [Array.getD_eq_getD_getElem?, hk]) hI ha.size ha.defers ?_ ?_ ?_
  · have : ∀ n, n ≤ ops.size → leftN (Array.replicate ops.size false) n = n := by
      intro n
      induction n with
      | zero => intro _; rfl
      | succ n ih =>
        intro hn
        simp only [leftN, ih (by omega)]
        have : (Array.replicate ops.size false).getD n true = false := by simp [Array.getD_eq_getD_getElem?, show n < ops.size by omega]
        simp [this]
    rw [this _ hle]
    omega
  · intro k o ho hk
    have hlt := (Array.getElem?_eq_some_iff.1 ho).1
    simp [Array.getD_eq_getD_getElem?, hlt] at hk
  · intro s v hv _
    exact ha.get s v hv
  · intro i p φ hp _ hi
    have hlt : i < ops.size := by have := (List.getElem?_eq_some_iff.1 hp).1; omega
    simp [Array.getD_eq_getD_getElem?, hlt] at hi

/-- what is known of a slot: till the one operation that turns the world, and after -/
def upG (ψ : SP) (k : Option Value) : Bool → World → Value → Prop := fun ph w u => bif ph then ∀ v, k = some v → u = v else ψ.p w u
def upK (w : World) (Ψ : World → World → Value → Prop) : Bool → World → Value → Prop := fun ph w' u => ph = true → ∃ w1 w2, Fr [] w w1 ∧ Ψ w1 w2 u ∧ Fr [] w2 w'
/-- a step for each row, after that one -/
def stepsK (plan : List Plan) (keep : List (Option Value)) (k : Nat) (F : Nat → Plan → Option Value → Prop) : Prop :=
  match plan, keep with
  | p :: ps, v :: vs => F k p v ∧ stepsK ps vs (k + 1) F
  | _, _ => True
theorem stepsK_at' : ∀ {plan : List Plan} {keep : List (Option Value)} {k : Nat} {F : Nat → Plan → Option Value → Prop}, stepsK plan keep k F → ∀ (i : Nat) (p : Plan) (v : Option Value), plan[i]? = some p → keep[i]? = some v → F (k + i) p v
  | [], _, _, _, _, i, p, v, hp, _ => by simp at hp
  | _ :: _, [], _, _, _, i, p, v, _, hv => by simp at hv
  | q :: qs, u :: us, k, F, h, i, p, v, hp, hv => by
    cases i with
    | zero =>
      simp only [List.getElem?_cons_zero, Option.some.injEq] at hp hv
      subst hp; subst hv
      exact h.1
    | succ i =>
      have := stepsK_at' h.2 i p v (by simpa using hp) (by simpa using hv)
      have e : k + 1 + i = k + (i + 1) := by omega
      rwa [e] at this
/-- what is kept is what was known -/
def keepsOf : List SP → List (Option Value) → Prop
  | ψ :: ψs, some v :: ks => (∀ w u, ψ.p w u → u = v) ∧ keepsOf ψs ks
  | _ :: ψs, none :: ks => keepsOf ψs ks
  | _, _ => True
theorem keepsOf_at : ∀ {Φ : List SP} {keep : List (Option Value)}, keepsOf Φ keep → ∀ (j : Nat) (ψ : SP) (v : Value), Φ[j]? = some ψ → keep[j]? = some (some v) → ∀ w u, ψ.p w u → u = v
  | [], _, _, j, ψ, v, h1, _ => by simp at h1
  | _ :: _, [], _, j, ψ, v, _, h2 => by simp at h2
  | φ :: φs, some u :: ks, h, j, ψ, v, h1, h2 => by
    cases j with
    | zero =>
      simp only [List.getElem?_cons_zero, Option.some.injEq] at h1 h2
      subst h1; subst h2
      exact h.1
    | succ j => exact keepsOf_at h.2 j ψ v (by simpa using h1) (by simpa using h2)
  | φ :: φs, none :: ks, h, j, ψ, v, h1, h2 => by
    cases j with
    | zero => simp at h2
    | succ j => exact keepsOf_at (Φ := φs) (keep := ks) h j ψ v (by simpa using h1) (by simpa using h2)
theorem wc_drawK {id : Nat} {E : Env} {w : World} (hm : P.follows .mixedOrders = true) (plan : List Plan) (Φ : List SP) (keep : List (Option Value)) (dK : Nat) (depsK cl : List Nat) (Ψ : World → World → Value → Prop)
    (hlen : Nat.ble (plan ++ [Plan.mk dK depsK []]).length ops.size = true) (htail : tailOk ops (plan ++ [Plan.mk dK depsK []]).length = true) (hΦ : Φ.length = plan.length) (hkl : keep.length = plan.length) (hok : planOk N ops (plan ++ [Plan.mk dK depsK []]) (plan ++ [Plan.mk dK depsK []]) 0 = true)
    (hcl : (match ops[plan.length]? with | some o => cl.all fun x => (closeN ops 12 (afters o)).contains x | none => false) = true)
    (hks : keepsOf Φ keep)
    (hstep : allSteps plan Φ 0 fun i p φ => ∀ a w', Fr [] w w' → a.tmps.size = N → a.defers = ds → (∀ s, p.base.contains s = true → ∀ v, E.get s = some v → a.tmps.getD s undef = v) →
      (∀ (j : Nat), p.deps.contains j = true → ∀ (q : Plan) (ψ : SP), plan[j]? = some q → Φ[j]? = some ψ → ψ.p w' (a.tmps.getD q.d undef)) → OpK P r ops Q i p.d a w' (fun v w'' => φ.p w'' v ∧ Fr [] w' w''))
    (hstepK : ∀ a w', Fr [] w w' → a.tmps.size = N → a.defers = ds → (∀ (j : Nat), depsK.contains j = true → ∀ (q : Plan) (ψ : SP), plan[j]? = some q → Φ[j]? = some ψ → ψ.p w' (a.tmps.getD q.d undef)) → OpK P r ops Q plan.length dK a w' (fun v w'' => Ψ w' w'' v))
    (hstep2 : stepsK plan keep 0 fun i p k => match k with
      | none => cl.contains i = true
      | some v => ∀ w1 w2 u, Fr [] w w1 → Ψ w1 w2 u → ∀ a w', Fr [] w2 w' → a.tmps.size = N → a.defers = ds → (∀ s, p.base.contains s = true → ∀ v, E.get s = some v → a.tmps.getD s undef = v) → OpK P r ops Q i p.d a w' (fun x w'' => x = v ∧ Fr [] w' w''))
    (hdone : ∀ w1 w2 u a w', Fr [] w w1 → Ψ w1 w2 u → Fr [] w2 w' → a.tmps.size = N → a.defers = ds → (∀ s v, E.get s = some v → ((plan ++ [Plan.mk dK depsK []]).any fun p => Nat.beq p.d s) = false → a.tmps.getD s undef = v) →
      (∀ (i : Nat) (p : Plan) (v : Value), plan[i]? = some p → keep[i]? = some (some v) → a.tmps.getD p.d undef = v) → a.tmps.getD dK undef = u →
      wpOpsIn (fw r) 0 P ops Q (List.range' (plan ++ [Plan.mk dK depsK []]).length (ops.size - (plan ++ [Plan.mk dK depsK []]).length)) a w') :
    WC P r N (.region id ops true) Q E ds w := by
  have hpl : (plan ++ [Plan.mk dK depsK []] : List Plan).length = plan.length + 1 := by simp
  have hzl : (List.zipWith upG Φ keep).length = plan.length := by simp [hΦ, hkl]
  have hat : ∀ (j : Nat) ψ, (List.zipWith upG Φ keep ++ [upK w Ψ])[j]? = some ψ → (j < plan.length ∧ ∃ φ k, Φ[j]? = some φ ∧ keep[j]? = some k ∧ ψ = upG φ k) ∨ (j = plan.length ∧ ψ = upK w Ψ) := by
    intro j ψ h
    rcases Nat.lt_or_ge j plan.length with hj | hj
    · left
      rw [List.getElem?_append_left (by omega)] at h
      have h1 : j < Φ.length := by omega
      have h2 : j < keep.length := by omega
      refine ⟨hj, Φ[j], keep[j], List.getElem?_eq_getElem h1, List.getElem?_eq_getElem h2, ?_⟩
      rw [List.getElem?_zipWith, List.getElem?_eq_getElem h1, List.getElem?_eq_getElem h2] at h
      exact (Option.some.inj h).symm
    · right
      rw [List.getElem?_append_right (by omega), hzl] at h
      rcases Nat.eq_or_lt_of_le hj with e | hlt
      · subst e
        simp only [Nat.sub_self, List.getElem?_cons_zero, Option.some.injEq] at h
        exact ⟨rfl, h.symm⟩
      · rw [List.getElem?_eq_none (by simp; omega)] at h; cases h
  have hpat : ∀ (j : Nat) p, (plan ++ [Plan.mk dK depsK []])[j]? = some p → j < plan.length → plan[j]? = some p := fun j p h hj => by rwa [List.getElem?_append_left hj] at h
  refine wc_drawG hm (plan ++ [Plan.mk dK depsK []]) (List.zipWith upG Φ keep ++ [upK w Ψ]) plan.length cl (fun ph w' => bif ph then ∃ w1 w2 u, Fr [] w w1 ∧ Ψ w1 w2 u ∧ Fr [] w2 w' else Fr [] w w') hlen htail (by simp [hΦ, hkl]) hok (by omega) ?_ (Fr.drew [] w) ?_ ?_
  · intro o ho x hx
    rw [ho] at hcl
    simpa using List.all_eq_true.1 hcl x hx
  · intro i p φ hp hφ ph a w' hph hI hN hd hb hr
    rcases hat i φ hφ with ⟨hi, φ0, k0, h1, h2, rfl⟩ | ⟨rfl, rfl⟩
    · have hp0 := hpat i p hp hi
      have hne : Nat.beq i plan.length = false := by
        cases hb2 : Nat.beq i plan.length with
        | false => rfl
        | true => have := Nat.eq_of_beq_eq_true hb2; omega
      rw [hne, Bool.or_false]
      cases ph with
      | false =>
        have hI : Fr [] w w' := hI
        refine OpK.weaken (allSteps_at hstep i p φ0 hp0 h1 a w' hI hN hd hb (fun j hj q ψ hq hψ => ?_)) fun v w'' hh => ⟨hh.1, hI.trans hh.2, fun j ψ u _ hψ hu => ?_⟩
        · have hjl := (List.getElem?_eq_some_iff.1 hq).1
          have hz : (List.zipWith upG Φ keep ++ [upK w Ψ])[j]? = some (upG ψ (keep[j]'(by omega))) := by
            rw [List.getElem?_append_left (by omega), List.getElem?_zipWith, hψ, List.getElem?_eq_getElem (by omega)]
          exact hr j hj q _ (by rw [List.getElem?_append_left hjl]; exact hq) hz
        · rcases hat j ψ hψ with ⟨_, φ2, k2, _, _, rfl⟩ | ⟨_, rfl⟩
          · exact φ2.st hh.2 hu
          · intro hh; cases hh
      | true =>
        obtain ⟨w1, w2, u, hf1, hΨ, hf2⟩ := hI
        have h3 := stepsK_at' hstep2 i p k0 hp0 h2
        rw [Nat.zero_add] at h3
        cases k0 with
        | none =>
          have : cl.contains i = true := h3
          exact absurd (by simpa using this) (hph rfl).2
        | some v =>
          refine OpK.weaken (h3 w1 w2 u hf1 hΨ a w' hf2 hN hd hb) fun x w'' hh => ⟨?_, ⟨w1, w2, u, hf1, hΨ, hf2.trans hh.2⟩, fun j ψ y _ hψ hy => ?_⟩
          · intro v' hv'
            cases hv'
            exact hh.1
          · rcases hat j ψ hψ with ⟨_, φ2, k2, _, _, rfl⟩ | ⟨_, rfl⟩
            · exact hy
            · intro _
              obtain ⟨x1, x2, g1, g2, g3⟩ := hy rfl
              exact ⟨x1, x2, g1, g2, g3.trans hh.2⟩
    · cases ph with
      | true => exact absurd rfl (hph rfl).1
      | false =>
        have hp0 : p = ⟨dK, depsK, []⟩ := by
          rw [List.getElem?_append_right (Nat.le_refl _), Nat.sub_self] at hp
          exact (Option.some.inj hp).symm
        subst hp0
        have hI : Fr [] w w' := hI
        rw [Nat.beq_refl, Bool.or_true]
        refine OpK.weaken (hstepK a w' hI hN hd (fun j hj q ψ hq hψ => ?_)) fun v w'' hΨ => ⟨fun _ => ⟨w', w'', hI, hΨ, Fr.refl [] _⟩, ⟨w', w'', v, hI, hΨ, Fr.refl [] _⟩, fun j ψ y hji hψ hy => ?_⟩
        · have hjl := (List.getElem?_eq_some_iff.1 hq).1
          have hz : (List.zipWith upG Φ keep ++ [upK w Ψ])[j]? = some (upG ψ (keep[j]'(by omega))) := by
            rw [List.getElem?_append_left (by omega), List.getElem?_zipWith, hψ, List.getElem?_eq_getElem (by omega)]
          exact hr j hj q _ (by rw [List.getElem?_append_left hjl]; exact hq) hz
        · rcases hat j ψ hψ with ⟨_, φ2, k2, h1, h2, rfl⟩ | ⟨e, _⟩
          · intro v' hv'
            subst hv'
            exact keepsOf_at hks j φ2 v' h1 h2 _ _ hy
          · exact absurd e hji
  · intro a w' hI hN hd hb hr
    obtain ⟨w1, w2, hf1, hΨ, hf2⟩ := hr plan.length ⟨dK, depsK, []⟩ (upK w Ψ) (by simp) (by rw [List.getElem?_append_right (by omega), hzl]; simp) rfl
    refine hdone w1 w2 _ a w' hf1 hΨ hf2 hN hd hb (fun i p v hp hv => ?_) rfl
    have hil := (List.getElem?_eq_some_iff.1 hp).1
    have hz : (List.zipWith upG Φ keep ++ [upK w Ψ])[i]? = some (upG (Φ[i]'(by omega)) (some v)) := by
      rw [List.getElem?_append_left (by omega), List.getElem?_zipWith, hv, List.getElem?_eq_getElem (by omega)]
    exact hr i p _ (by rw [List.getElem?_append_left hil]; exact hp) hz v rfl

theorem op_app {Θ : Tys} {O : List Nat} {w : World} {i d : Nat} {o : Oper} {E : Env} (hΘ : Θ.ok P) {a : Act} (ha : Has N E ds a) (ho : ops[i]? = some o) (hw : want N ops E o.guard = some true) (hd : o.dst = some d) {t : Nat} {x y : Operand} {ti te : TI}
    (hop : o.op = .call { callee := .builtin .append, args := #[x, y], argTypes := #[t, t] }) (ht : Θ.get t = some ti) (h5 : ti.tag = 5) (hte : Θ.get ti.e = some te) {α : Type} {T : Ty α} (hn : T.n = te.size) (hpos : Nat.blt 0 te.size = true) (hz : te.zero.cells.size = te.size) (hb1 : Nat.ble 1 te.bytes = true) {e nb : Nat} (he : ti.e = e) (hnb : te.bytes = nb)
    {w0 : World} {v u : Value} {xs ys zs : List α} (hx : ev E x = some v) (hy : ev E y = some u) (hF : Fr [] w0 w) (hO : OB O w) (hv : Own T e w0.heap.size O w v xs) (hu : T.slice.is O w u ys) (hlen : app nb xs ys = some zs) :
    OpK P r ops Q i d a w (fun v' w' => ∃ O', Appended T e w0.heap.size O w v zs O' w' v') := by
  subst he hnb
  obtain ⟨hle, rfl⟩ := app_some hlen
  obtain ⟨v', w', O', hrun, hap⟩ := run_append (P := P) (ty := o.type) hΘ ht h5 hte hn (Nat.le_of_ble_eq_true hpos) hz hF.size hO hv hu hle (Nat.le_of_ble_eq_true hb1)
  refine op_of ho (want_ok ha hw) hd (b := true) (v := v') (w' := w') ?_ ⟨O', hap⟩
  simp only [if_true]
  refine ⟨by rw [hop]; simp, ?_⟩
  simp only [execOp, hop, Sem.run_bind, resolve, Sem.run_pure, Result.andThen_ok, invoke, builtin, List.map_toArray, List.map_cons, List.map_nil, ha.eval hx, ha.eval hy, hrun]
end
end Go.Dc
