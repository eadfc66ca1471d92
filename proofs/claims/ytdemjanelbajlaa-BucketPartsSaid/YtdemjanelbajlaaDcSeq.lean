/- Ranges over functions. -/
import Derived.Test.YtdemjanelbajlaaDcFn
import Derived.RangeFuncNested
namespace Go.Dc
open Go.RowKit

/-- steps of book-keeping: blocks of O, from n0 on, that hold no cells, may be turned -/
structure Bk (n0 : Nat) (O : List Nat) (w w' : World) : Prop where
  os : w'.os = w.os
  tape : w'.tape = w.tape
  output : w'.output = w.output
  size : w.heap.size ≤ w'.heap.size
  keep : ∀ k, k < w.heap.size → w'.heap[k]? = w.heap[k]? ∨ (k ∈ O ∧ n0 ≤ k ∧ ∃ o : Obj, w.heap[k]? = some o ∧ o.isCells = false)
theorem Bk.cells {n0 : Nat} {O : List Nat} {w w' : World} (h : Bk n0 O w w') {k t : Nat} {cs : Array Value} {z : Nat × Nat} (hk : w.heap[k]? = some (.cells cs t z)) : w'.heap[k]? = w.heap[k]? := by
  rcases h.keep k (Array.getElem?_eq_some_iff.1 hk).1 with h1 | ⟨_, _, o, ho, hc⟩
  · exact h1
  · rw [hk] at ho; cases ho; cases hc
theorem Bk.tr {n0 : Nat} {O : List Nat} {w w' : World} (h : Bk n0 O w w') : Tr O w O w' := ⟨h.os, h.tape, h.output, h.size, fun k hk ho => ⟨ho, by
  rcases h.keep k hk with h1 | ⟨h2, _⟩
  · exact h1
  · exact absurd h2 ho⟩⟩
theorem Bk.ob {n0 : Nat} {O : List Nat} {w w' : World} (h : Bk n0 O w w') (hO : OB O w) : OB O w' := fun k hk => Nat.lt_of_lt_of_le (hO k hk) h.size
theorem Bk.fr {n0 : Nat} {O : List Nat} {w0 w w' : World} (h : Bk n0 O w w') (hF : Fr [] w0 w) (hn : w0.heap.size ≤ n0) : Fr [] w0 w' :=
  ⟨h.os.trans hF.os, h.tape.trans hF.tape, h.output.trans hF.output, Nat.le_trans hF.size h.size, fun k hk _ => by
    rcases h.keep k (Nat.lt_of_lt_of_le hk hF.size) with h1 | ⟨_, h2, _⟩
    · exact h1.trans (hF.block k hk (by simp))
    · omega⟩
theorem Bk.weaken {n0 n1 : Nat} {O : List Nat} {w w' : World} (h : Bk n0 O w w') (hn : n1 ≤ n0) : Bk n1 O w w' := ⟨h.os, h.tape, h.output, h.size, fun k hk => (h.keep k hk).imp id fun ⟨a, b, c⟩ => ⟨a, Nat.le_trans hn b, c⟩⟩
theorem Blk.bk {n0 : Nat} {O : List Nat} {w w' : World} {b t : Nat} {cs : List Value} (h : Blk w b t cs) (hk : Bk n0 O w w') : Blk w' b t cs := (hk.cells h).trans h
theorem Own.bk {α : Type} {T : Ty α} {e B n0 : Nat} {O : List Nat} {w w' : World} {v : Value} {xs : List α} (h : Own T e B O w v xs) (hk : Bk n0 O w w') : Own T e B O w' v xs := by
  obtain ⟨cs, ⟨h0, h1⟩, h2⟩ := h.ex
  refine h.keep hk.tr fun g hg => ⟨?_, h.mem g hg⟩
  rcases h1 with ⟨rfl, _⟩ | ⟨g', cap, cur, rfl, _, hh, _⟩
  · cases hg
  · cases hg; exact hk.cells hh
theorem bk_put {n0 l : Nat} {O : List Nat} {w : World} {o : Obj} (o' : Obj) (hl : w.heap[l]? = some o) (ho : o.isCells = false) (hO : l ∈ O) (hn : n0 ≤ l) : Bk n0 O w (w.putObj l o') :=
  ⟨rfl, rfl, rfl, by simp, fun k hk => by
    by_cases e : k = l
    · subst e; exact .inr ⟨hO, hn, o, hl, ho⟩
    · exact .inl (World.putObj_heap_other e)⟩

/-- a block of book-keeping -/
def Rec (w : World) (l : Nat) (o : Obj) : Prop := w.heap[l]? = some o ∧ o.isCells = false
section
variable {w w' : World} {l : Nat} {o : Obj} {O : List Nat}
theorem Rec.lt (h : Rec w l o) : l < w.heap.size := (Array.getElem?_eq_some_iff.1 h.1).1
theorem Rec.fr0 (h : Rec w l o) (hf : Fr [] w w') : Rec w' l o := ⟨(hf.block l h.lt (by simp)).trans h.1, h.2⟩
theorem Rec.ne {b t : Nat} {cs : List Value} (h : Rec w l o) (hb : Blk w b t cs) : l ≠ b := by
  rintro rfl
  have := h.1
  rw [show w.heap[l]? = _ from hb] at this
  cases this
  exact absurd h.2 (by simp [Obj.isCells])
theorem Rec.st {b t : Nat} {cs : List Value} (h : Rec w l o) (hf : Fr [b] w w') (hb : Blk w b t cs) : Rec w' l o := ⟨(hf.block l h.lt (nin (h.ne hb))).trans h.1, h.2⟩
theorem Rec.ne_own {α : Type} {T : Ty α} {e B : Nat} {v : Value} {xs : List α} (h : Rec w l o) (hv : Own T e B O w v xs) : v.ownBlock ≠ some l := fun he => by
  obtain ⟨cs, ⟨h0, h1⟩, h2⟩ := hv.ex
  rcases h1 with ⟨rfl, _⟩ | ⟨g', cap, cur, rfl, _, hh, _⟩
  · cases he
  · cases he
    have := h.1
    rw [hh] at this
    cases this
    exact absurd h.2 (by simp [Obj.isCells])
theorem Rec.app {α : Type} {T : Ty α} {e B : Nat} {O' : List Nat} {v v' : Value} {xs zs : List α} (h : Rec w l o) (ha : Appended T e B O w v zs O' w' v') (hv : Own T e B O w v xs) : Rec w' l o :=
  ⟨(ha.fr l h.lt (h.ne_own hv)).trans h.1, h.2⟩
theorem Rec.bk {n0 : Nat} (h : Rec w l o) (hk : Bk n0 O w w') (hl : w'.heap[l]? = w.heap[l]?) : Rec w' l o := ⟨hl.trans h.1, h.2⟩
end

/-! ### Iterators -/
def Seq1 {α : Type} (P : Program) (g : FuncId) (lb : Array Value) (enc : α → Value) (O : List Nat) (w : World) (xs : List α) : Prop :=
  ∀ (l : Nat) (J : Nat → List Nat → World → Prop) (Jx : World → Prop) (O1 : List Nat) (W : World), Tr O w O1 W → OB O1 W →
    (∀ k O A B, J k O A → Fr [] A B → J k O B) → (∀ A B, Jx A → Fr [] A B → Jx B) →
    (∀ k x O1 W1, xs[k]? = some x → J k O1 W1 → OB O1 W1 → YieldAt (fw none) 0 P l #[enc x] W1 fun e W' =>
      (e = .returned (.bool true) ∧ ∃ O', J (k + 1) O' W' ∧ Tr O1 W1 O' W' ∧ OB O' W') ∨ (e = .returned (.bool false) ∧ Jx W')) →
    J 0 O1 W →
    CallsIn (fw none) 0 P g (#[.func (.yield l) #[] #[]] ++ lb) W fun e W' => (∃ v, e = .returned v) ∧ ((∃ O', J xs.length O' W') ∨ Jx W')
def Ty.seq {α : Type} (P : Program) (enc : α → Value) : Ty (List α) where
  agg := false
  n := 1
  rep O w cs xs := ∃ g lb, cs = [.func (.func g) #[] lb] ∧ (∀ (vs : Array Value) (u : World), (callFunc g vs).run P u = .ok (.enter g vs) u) ∧ ∀ O' w', Tr O w O' w' → OB O' w' → Seq1 P g lb enc O' w' xs
  tr ht := fun ⟨g, a, h, he, hg⟩ => ⟨g, a, h, he, fun O' w' ht' => hg O' w' (ht.trans ht')⟩
  len := fun ⟨g, a, h, _⟩ => by subst h; rfl
  one := fun ⟨g, a, h, _⟩ u hu => by subst h; simp at hu; subst hu; rfl
  sing _ := rfl

def mark (D : Nat) : Deferred := { target := .collected D, args := #[] }
/-- how a round may be left -/
def RoundQ (D l : Nat) (rec : Loop) (X : Nat → List Nat → World → Prop) (Z : Code → List Nat → World → Prop) (k : Nat) (O2 : List Nat) (W : World) : Exit → Act → World → Prop
  | .normal, _, W' => ∃ O3, Tr O2 W O3 W' ∧ OB O3 W' ∧ D ∈ O3 ∧ l ∈ O3 ∧ Rec W' l (.loop rec) ∧ Rec W' D (.deferred (some [])) ∧ X (k + 1) O3 W'
  | .ret, _, W' => ∃ O3, OB O3 W' ∧ D ∈ O3 ∧ l ∈ O3 ∧ Rec W' l (.loop rec) ∧ Rec W' D (.deferred (some [])) ∧ Z .ret O3 W'
  | .exit id, _, W' => ∃ O3, OB O3 W' ∧ D ∈ O3 ∧ l ∈ O3 ∧ Rec W' l (.loop rec) ∧ Rec W' D (.deferred (some [])) ∧ Z (.exit id) O3 W'
  | .goto id, _, W' => ∃ O3, OB O3 W' ∧ D ∈ O3 ∧ l ∈ O3 ∧ Rec W' l (.loop rec) ∧ Rec W' D (.deferred (some [])) ∧ Z (.goto id) O3 W'
  | .panic _, _, _ => False
  | .outgrown, _, _ => False
/-- behind the assignments to the loop's left sides -/
def BeginQ (P : Program) (n0 D l : Nat) (rec rec' : Loop) (body : Code) (R : Exit → Act → World → Prop) : Exit → Act → World → Prop
  | .normal, a, W => ∃ O2, l ∈ O2 ∧ D ≠ l ∧ Rec W l (.loop rec) ∧ n0 ≤ l ∧ (∀ W', Bk n0 O2 W W' → W'.heap[l]? = some (.loop rec') → (∀ o, Rec W D o → Rec W' D o) → body.wpIn (fw (some l)) 0 P R a W')
  | _, _, _ => False

section
variable {P : Program} {N : Nat} {Q : Exit → Act → World → Prop} {E : Env} {ds : List Deferred} {w : World} {O : List Nat}
theorem bk_more {n0 : Nat} {O O' : List Nat} {w w' : World} (h : Bk n0 O w w') (hs : Sub O O') : Bk n0 O' w w' := ⟨h.os, h.tape, h.output, h.size, fun k hk => (h.keep k hk).imp id fun ⟨a, b⟩ => ⟨hs k a, b⟩⟩
theorem wc_rangeFunc {α : Type} {g : Operand} {p : Tmp} {assign body : Code} {v : Value} {enc : α → Value} {xs : List α} (hx : ev E g = some v) (hv : (Ty.seq P enc).is O w v xs) (hO : OB O w) (hp : Nat.blt p N = true)
    (X : Nat → List Nat → World → Prop) (Z : Code → List Nat → World → Prop)
    (hX : ∀ k O2 W W', Bk w.heap.size O2 W W' → X k O2 W → X k O2 W') (hXf : ∀ k O2 W W', Fr [] W W' → X k O2 W → X k O2 W')
    (hZ : ∀ c O2 W W', Bk w.heap.size O2 W W' → Z c O2 W → Z c O2 W') (hZf : ∀ c O2 W W', Fr [] W W' → Z c O2 W → Z c O2 W')
    (h0 : ∀ O' W', Tr O w O' W' → Sub O O' → OB O' W' → Fr [] w W' → X 0 O' W')
    (hbody : ∀ (D l k : Nat) (rec rec' : Loop) (z : α) (O2 : List Nat) (W : World), xs[k]? = some z → Tr O w O2 W → OB O2 W → w.heap.size ≤ D → w.heap.size ≤ l → D ∈ O2 → l ∈ O2 → D ≠ l → Rec W l (.loop rec) → Rec W D (.deferred (some [])) → X k O2 W →
      WC P (some l) N assign (BeginQ P w.heap.size D l rec rec' body (RoundQ D l rec' X Z k O2 W)) ((p, enc z) :: E) [] W)
    (hdone : ∀ D O2 W, w.heap.size ≤ D → Tr O w O2 W → OB O2 W → D ∈ O2 → Rec W D (.deferred (some [])) → X xs.length O2 W → WQ N Q .normal E (mark D :: ds) W)
    (hstop : ∀ D c O2 W, w.heap.size ≤ D → OB O2 W → D ∈ O2 → Rec W D (.deferred (some [])) → Z c O2 W → WC P none N c Q E (mark D :: ds) W) :
    WC P none N (.rangeFunc g #[p] assign body) Q E ds w := by
  intro a ha
  obtain ⟨cs, ⟨gf, lb, rfl, eg, hseq⟩, hvv⟩ := hv
  have hvv : v = .func (.func gf) #[] lb := hvv
  subst hvv
  refine wpIn_rangeFunc ?_
  intro fn hfn
  obtain ⟨rec, hrec⟩ : ∃ rec : LoopState → Option Code → Loop, rec = fun st pe => { state := st, pending := pe, fn, tmps := a.tmps, params := #[p], assign, body, defers := w.heap.size } := ⟨_, rfl⟩
  obtain ⟨W1, hW1⟩ : ∃ W1, (w.alloc (.deferred (some []))).alloc (.loop (rec .ready none)) = W1 := ⟨_, rfl⟩
  have hL1 : W1.heap[w.heap.size + 1]? = some (.loop (rec .ready none)) := by
    rw [← hW1]; have := World.alloc_heap_new (w.alloc (.deferred (some []))) (.loop (rec .ready none)); rwa [World.size_alloc] at this
  have hK1 : W1.heap[w.heap.size]? = some (.deferred (some [])) := by
    rw [← hW1]; exact (Below.heap_alloc _ _ _ (by simp)).trans (World.alloc_heap_new w _)
  have hF1 : Fr [] w W1 := by
    rw [← hW1]
    exact ⟨rfl, rfl, rfl, by simp; omega, fun k hk _ => (Below.heap_alloc _ _ _ (by simp; omega)).trans (Below.heap_alloc _ _ _ hk)⟩
  have hs1 : W1.heap.size = w.heap.size + 2 := by rw [← hW1]; simp
  have hT1 : Tr O w (w.heap.size :: (w.heap.size + 1) :: O) W1 := ⟨hF1.os, hF1.tape, hF1.output, hF1.size, fun k hk ho => ⟨by simp; exact ⟨by omega, by omega, ho⟩, hF1.block k hk (by simp)⟩⟩
  have hO1 : OB (w.heap.size :: (w.heap.size + 1) :: O) W1 := fun k hk => by
    simp at hk
    rcases hk with rfl | rfl | hk
    · omega
    · omega
    · have := hO k hk; omega
  have hn1 : W1.heap[w.heap.size]? ≠ none := by rw [hK1]; simp
  refine ⟨w.heap.size + 1, [{ target := .collected w.heap.size, args := #[] }], W1, { target := .fn (.func gf) lb, args := #[.func (.yield (w.heap.size + 1)) #[] #[]] }, W1, gf,
    #[.func (.yield (w.heap.size + 1)) #[] #[]] ++ lb, W1, ?_, ?_, ?_, ?_, fun h => by simp [fw] at h, ?_⟩
  · rw [← hW1, hrec]; exact run_enterLoop_outer _ _ _ _ _
  · simp only [resolve, ha.eval hx]
    simp [go_sem]
  · intro f' hf'; trivial
  · simp [invoke, go_sem, eg]
  · have hrm : ∀ st pe, (Obj.loop (rec st pe)).isCells = false := fun _ _ => rfl
    refine (hseq O w (Tr.refl _ _) hO (w.heap.size + 1)
      (fun k O2 W => X k O2 W ∧ Tr O w O2 W ∧ OB O2 W ∧ w.heap.size ∈ O2 ∧ (w.heap.size + 1) ∈ O2 ∧ Rec W (w.heap.size + 1) (.loop (rec .ready none)) ∧ Rec W w.heap.size (.deferred (some [])))
      (fun W => ∃ c O2, Z c O2 W ∧ OB O2 W ∧ w.heap.size ∈ O2 ∧ (w.heap.size + 1) ∈ O2 ∧ Rec W (w.heap.size + 1) (.loop (rec .done (some c))) ∧ Rec W w.heap.size (.deferred (some [])))
      _ W1 hT1 hO1 ?_ ?_ ?_ ?_).mono ?_
    · rintro k O2 A B ⟨h1, h2, h3, h4, h5, h6, h7⟩ hf
      exact ⟨hXf _ _ _ _ hf h1, h2.trans hf.tr0, hf.ob h3, h4, h5, h6.fr0 hf, h7.fr0 hf⟩
    · rintro A B ⟨c, O2, h1, h3, h4, h5, h6, h7⟩ hf
      exact ⟨c, O2, hZf _ _ _ _ hf h1, hf.ob h3, h4, h5, h6.fr0 hf, h7.fr0 hf⟩
    · -- one round
      rintro k z O2 W hz ⟨h1, h2, h3, h4, h5, h6, h7⟩ _
      have hy : (Instr.yield (w.heap.size + 1) #[enc z]).run P W = .ok (.round (w.heap.size + 1) fn (a.tmps.setIfInBounds p (enc z)) assign body) W := by
        have := run_yield (P := P) (args := #[enc z]) h6.1 (by rw [hrec]; rfl)
        rw [hrec] at this
        simpa using this
      refine ⟨fn, _, assign, body, hy, roundIn_of_wpIn hfn ?_⟩
      have hb := hbody w.heap.size (w.heap.size + 1) k (rec .ready none) { rec .ready none with state := .busy } z O2 W hz h2 h3 (Nat.le_refl _) (Nat.le_succ _) h4 h5 (by omega) h6 h7 h1
      have hpN : p < N := Nat.blt_eq.mp hp
      have hb2 := hb { tmps := a.tmps.setIfInBounds p (enc z), defers := [] } ⟨by simp [ha.size], rfl, fun s u hu => by
        simp only [Env.get] at hu
        cases hbq : Nat.beq p s with
        | true =>
          rw [hbq] at hu
          have := Nat.eq_of_beq_eq_true hbq
          subst this
          simp only [cond_true, Option.some.injEq] at hu
          subst hu
          simp [Array.getD_eq_getD_getElem?, ha.size, hpN]
        | false =>
          rw [hbq] at hu
          simp only [cond_false] at hu
          have hne : p ≠ s := fun e => by subst e; simp at hbq
          rw [Array.getD_eq_getD_getElem?, Array.getElem?_setIfInBounds_ne hne, ← Array.getD_eq_getD_getElem?]
          exact ha.get s u hu⟩
      refine wpIn_mono hb2 ?_
      clear hb hb2 hy
      rintro e a1 Wa hq
      cases e with
      | normal =>
        obtain ⟨O3, q1, q2, q3, q4, q5⟩ := hq
        refine ⟨_, run_beginRound q3.1 (by rw [hrec]), ?_⟩
        have hlt := q3.lt
        have hbk := bk_put (n0 := w.heap.size) (O := O3) (.loop { rec .ready none with state := .busy }) q3.1 rfl q1 q4
        refine wpIn_mono (q5 _ hbk (World.putObj_heap_same hlt) (fun o ho => ⟨(World.putObj_heap_other q2).trans ho.1, ho.2⟩)) ?_
        rintro e a3 W3 hp
        cases e with
        | normal =>
          obtain ⟨O4, p1, p2, p3, p4, p5, p6, p7⟩ := hp
          have hr := run_endRound (P := P) none p5.1
          have hbk2 := bk_put (n0 := w.heap.size) (O := O4) (.loop (rec .ready none)) p5.1 rfl p4 (Nat.le_succ _)
          refine ⟨_, _, hr, .inl ⟨rfl, O4, ?_⟩⟩
          have he : ({ { rec .ready none with state := .busy } with state := if (none : Option Code).isNone then LoopState.ready else .done, pending := none } : Loop) = rec .ready none := by rw [hrec]; rfl
          rw [he]
          refine ⟨⟨hX _ _ _ _ hbk2 p7, (h2.trans p1).trans hbk2.tr, hbk2.ob p2, p3, p4, ⟨World.putObj_heap_same p5.lt, rfl⟩, ⟨(World.putObj_heap_other q2).trans p6.1, rfl⟩⟩, p1.trans hbk2.tr, hbk2.ob p2⟩
        | ret =>
          obtain ⟨O4, p2, p3, p4, p5, p6, p7⟩ := hp
          have hr := run_endRound (P := P) (some .ret) p5.1
          have hbk2 := bk_put (n0 := w.heap.size) (O := O4) (.loop (rec .done (some .ret))) p5.1 rfl p4 (Nat.le_succ _)
          refine ⟨_, _, hr, .inr ⟨rfl, .ret, O4, ?_⟩⟩
          have he : ({ { rec .ready none with state := .busy } with state := if (some Code.ret).isNone then LoopState.ready else .done, pending := some .ret } : Loop) = rec .done (some .ret) := by rw [hrec]; rfl
          rw [he]
          exact ⟨hZ _ _ _ _ hbk2 p7, hbk2.ob p2, p3, p4, ⟨World.putObj_heap_same p5.lt, rfl⟩, ⟨(World.putObj_heap_other q2).trans p6.1, rfl⟩⟩
        | exit id =>
          obtain ⟨O4, p2, p3, p4, p5, p6, p7⟩ := hp
          have hr := run_endRound (P := P) (some (.exit id)) p5.1
          have hbk2 := bk_put (n0 := w.heap.size) (O := O4) (.loop (rec .done (some (.exit id)))) p5.1 rfl p4 (Nat.le_succ _)
          refine ⟨_, _, hr, .inr ⟨rfl, .exit id, O4, ?_⟩⟩
          have he : ({ { rec .ready none with state := .busy } with state := if (some (Code.exit id)).isNone then LoopState.ready else .done, pending := some (.exit id) } : Loop) = rec .done (some (.exit id)) := by rw [hrec]; rfl
          rw [he]
          exact ⟨hZ _ _ _ _ hbk2 p7, hbk2.ob p2, p3, p4, ⟨World.putObj_heap_same p5.lt, rfl⟩, ⟨(World.putObj_heap_other q2).trans p6.1, rfl⟩⟩
        | goto id =>
          obtain ⟨O4, p2, p3, p4, p5, p6, p7⟩ := hp
          have hr := run_endRound (P := P) (some (.goto id)) p5.1
          have hbk2 := bk_put (n0 := w.heap.size) (O := O4) (.loop (rec .done (some (.goto id)))) p5.1 rfl p4 (Nat.le_succ _)
          refine ⟨_, _, hr, .inr ⟨rfl, .goto id, O4, ?_⟩⟩
          have he : ({ { rec .ready none with state := .busy } with state := if (some (Code.goto id)).isNone then LoopState.ready else .done, pending := some (.goto id) } : Loop) = rec .done (some (.goto id)) := by rw [hrec]; rfl
          rw [he]
          exact ⟨hZ _ _ _ _ hbk2 p7, hbk2.ob p2, p3, p4, ⟨World.putObj_heap_same p5.lt, rfl⟩, ⟨(World.putObj_heap_other q2).trans p6.1, rfl⟩⟩
        | panic ch => exact hp.elim
        | outgrown => exact hp.elim
      | ret => exact hq.elim
      | exit id => exact hq.elim
      | goto id => exact hq.elim
      | panic ch => exact hq.elim
      | outgrown => exact hq.elim
    · exact ⟨h0 _ _ hT1 (fun k hk => by simp [hk]) hO1 hF1, hT1, hO1, by simp, by simp, ⟨hL1, rfl⟩, ⟨hK1, rfl⟩⟩
    · rintro e W2 ⟨⟨u, rfl⟩, (⟨O2, h1, h2, h3, h4, h5, h6, h7⟩ | ⟨c, O2, h1, h3, h4, h5, h6, h7⟩)⟩
      · have hbk := bk_put (n0 := w.heap.size) (O := O2) (.loop { rec .ready none with state := .exhausted }) h6.1 rfl h5 (Nat.le_succ _)
        refine ⟨none, _, ?_, hdone _ O2 _ (Nat.le_refl _) (h2.trans hbk.tr) (hbk.ob h3) h4 ⟨(World.putObj_heap_other (by omega)).trans h7.1, rfl⟩ (hX _ _ _ _ hbk h1) _ ⟨ha.size, by simp [mark, ha.defers], ha.get⟩⟩
        have := run_endLoop (P := P) h6.1 (by rw [hrec]; simp)
        rw [hrec] at this ⊢
        exact this
      · have hbk := bk_put (n0 := w.heap.size) (O := O2) (.loop { rec .done (some c) with state := .exhausted }) h6.1 rfl h5 (Nat.le_succ _)
        refine ⟨some c, _, ?_, hstop _ c O2 _ (Nat.le_refl _) (hbk.ob h3) h4 ⟨(World.putObj_heap_other (by omega)).trans h7.1, rfl⟩ (hZ _ _ _ _ hbk h1) _ ⟨ha.size, by simp [mark, ha.defers], ha.get⟩⟩
        have := run_endLoop (P := P) h6.1 (by rw [hrec]; simp)
        rw [hrec] at this ⊢
        exact this
end

section
variable {P : Program} {r : Option Nat} {N : Nat} {ops : Array Oper} {Q : Exit → Act → World → Prop} {l : List Nat} {E : Env} {ds : List Deferred} {w : World} {i d : Nat} {o : Oper} {O : List Nat}
theorem seq_is {α : Type} {enc : α → Value} {g : FuncId} {lb : List Value} {xs : List α} (he : ∀ (vs : Array Value) (u : World), (callFunc g vs).run P u = .ok (.enter g vs) u)
    (h : ∀ O' w', Tr O w O' w' → OB O' w' → Seq1 P g lb.toArray enc O' w' xs) : (Ty.seq P enc).is O w (.func (.func g) #[] lb.toArray) xs := ⟨_, ⟨g, lb.toArray, rfl, he, h⟩, rfl⟩
/-- a call of yield -/
theorem wo_yield (ho : ops[i]? = some o) (hw : want N ops E o.guard = some true) (hd : o.dst = some d) (hN : Nat.blt d N = true) {x : Operand} {args : Array Operand} {ts : Array TypeId} (hop : o.op = .call { callee := .value x, args := args, argTypes := ts })
    {l0 : Nat} (hx : ev E x = some (.func (.yield l0) #[] #[])) {u : Value} (hvs : allEv E args.toList = some [u]) {R : Ending → World → Prop} (hY : YieldAt (fw none) 0 P l0 #[u] w R)
    (h : ∀ e w', R e w' → ∃ v, e = .returned v ∧ WO P none N ops Q l ((d, v) :: E) ds w') : WO P none N ops Q (i :: l) E ds w := by
  intro a ha
  obtain ⟨fn, tmps, assign, body, hy, hR⟩ := hY
  have e1 : args.map a.eval = #[u] := by rw [show #[u] = [u].toArray from rfl, ← allEv_eval ha hvs, ← Array.toList_map]
  have hrun : (execOp a.eval o).run P w = .ok (.round l0 fn tmps assign body) w := by
    simp only [execOp, hop, Sem.run_bind, resolve, ha.eval hx, Deferred.ofValue, Sem.run_pure, Result.andThen_ok, invoke, e1]
    simpa using hy
  simp only [wpOpsIn, ho]
  rw [if_pos (want_ok ha hw)]
  refine ⟨fun _ _ => trivial, ?_⟩
  rw [Oper.semAt_eq _ _ _ (by rw [hop]; simp), hrun, Oper.uponIn_round]
  refine ⟨fun h => by simp [fw] at h, hR.mono ?_⟩
  intro e w' hr
  obtain ⟨v, rfl, hk⟩ := h e w' hr
  simp only [hd]
  exact hk _ (ha.put hN)
theorem callsIn_of {f : FuncId} {fn : Func} {c : Code} {args : List Value} {R : Ending → World → Prop} (hf : P.funcs[f]? = some fn) (hb : fn.body = some c) (hN : fn.ntmps = N) (hl : Nat.ble args.length N = true)
    (h : WC P none N c (bodyPostM (fw none) 0 P fn R) (argEnv 0 args) [] w) : CallsIn (fw none) 0 P f args.toArray w R := by
  refine callsIn_of_wp_marks hf hb trivial (h _ ⟨?_, rfl, ?_⟩)
  · have := Nat.le_of_ble_eq_true hl
    simp [hN]
    omega
  · intro i v hi
    obtain ⟨_, h2⟩ := argEnv_get args 0 i v hi
    simp only [Nat.sub_zero] at h2
    have hlt := (List.getElem?_eq_some_iff.1 h2).1
    have hlt' : i < args.toArray.size := by simpa using hlt
    rw [Array.getD_eq_getD_getElem?, Array.getElem?_append_left hlt']
    simp [h2]
theorem iter_done {α : Type} {xs : List α} {k : Nat} {J : Nat → List Nat → World → Prop} {w : World} (hk : k ≤ xs.length) (hd : xs.drop k = []) (h : J k O w) : J xs.length O w := by
  have := drop_nil hd
  rwa [show xs.length = k by omega]
theorem Tr.more {A B O' : List Nat} {w w' : World} (h : Tr A w O' w') (hs : Sub A B) : Tr B w O' w' := ⟨h.os, h.tape, h.output, h.size, fun k hk ho => h.keep k hk fun hA => ho (hs k hA)⟩
theorem drop_get {α : Type} {xs : List α} {k : Nat} {z : α} (h : xs[k]? = some z) : xs.drop k = z :: xs.drop (k + 1) := by
  obtain ⟨hlt, he⟩ := List.getElem?_eq_some_iff.1 h
  rw [List.drop_eq_getElem_cons hlt, he]
/-- the assignments to the loop's left sides are over -/
theorem wq_begin {n0 D l : Nat} {rec rec' : Loop} {body : Code} {R : Exit → Act → World → Prop} {O2 : List Nat} (h1 : l ∈ O2) (h2 : D ≠ l) (h3 : Rec w l (.loop rec)) (h4 : n0 ≤ l) (h5 : Rec w D (.deferred (some [])))
    (h : ∀ w', Bk n0 O2 w w' → Rec w' l (.loop rec') → Rec w' D (.deferred (some [])) → WC P (some l) N body R E ds w') : WQ N (BeginQ P n0 D l rec rec' body R) .normal E ds w :=
  fun a ha => ⟨O2, h1, h2, h3, h4, fun W' hk hl hD => h W' hk ⟨hl, rfl⟩ (hD _ h5) a ha⟩
section
variable {D l : Nat} {rec : Loop} {X : Nat → List Nat → World → Prop} {Z : Code → List Nat → World → Prop} {k : Nat} {O2 O3 : List Nat} {W : World}
theorem wq_round (hT : Tr O2 W O3 w) (hO : OB O3 w) (h1 : D ∈ O3) (h2 : l ∈ O3) (h3 : Rec w l (.loop rec)) (h4 : Rec w D (.deferred (some []))) (hX : X (k + 1) O3 w) : WQ N (RoundQ D l rec X Z k O2 W) .normal E ds w := fun _ _ => ⟨O3, hT, hO, h1, h2, h3, h4, hX⟩
theorem wq_round_ret (hO : OB O3 w) (h1 : D ∈ O3) (h2 : l ∈ O3) (h3 : Rec w l (.loop rec)) (h4 : Rec w D (.deferred (some []))) (hZ : Z .ret O3 w) : WQ N (RoundQ D l rec X Z k O2 W) .ret E ds w := fun _ _ => ⟨O3, hO, h1, h2, h3, h4, hZ⟩
theorem wq_round_exit {id : Nat} (hO : OB O3 w) (h1 : D ∈ O3) (h2 : l ∈ O3) (h3 : Rec w l (.loop rec)) (h4 : Rec w D (.deferred (some []))) (hZ : Z (.exit id) O3 w) : WQ N (RoundQ D l rec X Z k O2 W) (.exit id) E ds w := fun _ _ => ⟨O3, hO, h1, h2, h3, h4, hZ⟩
end
/-- at the return: the block for the rounds' deferred calls is taken -/
theorem wq_mark_ret {fn : Func} {R : Ending → World → Prop} {D n0 : Nat} (hD : Rec w D (.deferred (some []))) (hO : D ∈ O) (hn : n0 ≤ D) (h : ∀ w', Bk n0 O w w' → WQ N (bodyPostM (fw none) 0 P fn R) .ret E ds w') : WQ N (bodyPostM (fw none) 0 P fn R) .ret E (mark D :: ds) w := by
  intro a ha
  show LeavesInM (fw none) 0 P fn a.tmps R a.defers .returning w
  rw [ha.defers]
  refine ⟨by simp, .inl ⟨D, _, rfl, run_takeDeferred hD.1, ?_⟩⟩
  exact h _ (bk_put _ hD.1 rfl hO hn) { a with defers := ds } ⟨ha.size, rfl, ha.get⟩
theorem wq_mark_end {fn : Func} {R : Ending → World → Prop} {D n0 : Nat} (hD : Rec w D (.deferred (some []))) (hO : D ∈ O) (hn : n0 ≤ D) (h : ∀ w', Bk n0 O w w' → WQ N (bodyPostM (fw none) 0 P fn R) .normal E ds w') : WQ N (bodyPostM (fw none) 0 P fn R) .normal E (mark D :: ds) w := by
  intro a ha
  show LeavesInM (fw none) 0 P fn a.tmps R a.defers .returning w
  rw [ha.defers]
  refine ⟨by simp, .inl ⟨D, _, rfl, run_takeDeferred hD.1, ?_⟩⟩
  exact h _ (bk_put _ hD.1 rfl hO hn) { a with defers := ds } ⟨ha.size, rfl, ha.get⟩
end
theorem Rec.keep {w w' : World} {l b : Nat} {o : Obj} (h : Rec w l o) (hf : Fr [b] w w') (hne : l ≠ b) : Rec w' l o := ⟨(hf.block l h.lt (nin hne)).trans h.1, h.2⟩
theorem Own.into {α : Type} {T : Ty α} {e B : Nat} {O O' : List Nat} {w w' : World} {v : Value} {xs : List α} (h : Own T e B O w v xs) (hT : Tr O w O' w') (hF : Fr [] w w') (hS : Sub O O') : Own T e B O' w' v xs :=
  h.keep hT fun g hg => ⟨hF.block g (h.lt g hg).2 (by simp), hS g (h.mem g hg)⟩
end Go.Dc
