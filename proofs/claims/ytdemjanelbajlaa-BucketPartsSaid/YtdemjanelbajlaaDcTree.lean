/- Rows of the call's own whose elements own rows themselves. S: the blocks that a value owns. -/
import Derived.Test.YtdemjanelbajlaaDcMap
namespace Go.Dc
open Go.RowKit

/-! ### Types with what they own -/
structure OTy (α : Type) where
  n : Nat
  rep : List Nat → List Nat → World → List Value → α → Prop
  keep : ∀ {S O w O' w' cs x}, rep S O w cs x → Tr O w O' w' → (∀ g ∈ S, w'.heap[g]? = w.heap[g]?) → rep S O' w' cs x
  blk : ∀ {S O w cs x}, rep S O w cs x → ∀ g ∈ S, ∃ cur e, w.heap[g]? = some (.cells cur e (0, 0))
  len : ∀ {S O w cs x}, rep S O w cs x → cs.length = n
  one : ∀ {S O w cs x}, rep S O w cs x → ∀ u ∈ cs, u.oneCell' = true
  T : Ty α
  hn : T.n = n
  share : ∀ {S O w O' cs x}, rep S O w cs x → Sub O' O → (∀ g ∈ S, g ∉ O') → T.rep O' w cs x
def OTy.of {α : Type} (T : Ty α) : OTy α where
  n := T.n
  rep S O w cs x := S = [] ∧ T.rep O w cs x
  keep h ht _ := ⟨h.1, T.tr ht h.2⟩
  blk h g hg := by rw [h.1] at hg; cases hg
  len h := T.len h.2
  one h := T.one h.2
  T := T
  hn := rfl
  share h hs _ := T.tr (Tr.less hs) h.2
def OTy.pair {α β : Type} (A : OTy α) (B : OTy β) : OTy (α × β) where
  n := A.n + B.n
  rep S O w cs x := ∃ c1 c2 S1 S2, cs = c1 ++ c2 ∧ S = S1 ++ S2 ∧ A.rep S1 O w c1 x.1 ∧ B.rep S2 O w c2 x.2
  keep := fun ⟨c1, c2, S1, S2, h, hs, h1, h2⟩ ht hk => ⟨c1, c2, S1, S2, h, hs, A.keep h1 ht fun g hg => hk g (by rw [hs]; exact List.mem_append_left _ hg), B.keep h2 ht fun g hg => hk g (by rw [hs]; exact List.mem_append_right _ hg)⟩
  blk := fun ⟨c1, c2, S1, S2, h, hs, h1, h2⟩ g hg => by
    rw [hs] at hg
    rcases List.mem_append.1 hg with hg | hg
    · exact A.blk h1 g hg
    · exact B.blk h2 g hg
  len := fun ⟨c1, c2, S1, S2, h, hs, h1, h2⟩ => by rw [h, List.length_append, A.len h1, B.len h2]
  one := fun ⟨c1, c2, S1, S2, h, hs, h1, h2⟩ u hu => by
    rw [h] at hu
    rcases List.mem_append.1 hu with hu | hu
    · exact A.one h1 u hu
    · exact B.one h2 u hu
  T := Ty.pair A.T B.T
  hn := by show A.T.n + B.T.n = _; rw [A.hn, B.hn]
  share := fun ⟨c1, c2, S1, S2, h, hs, h1, h2⟩ hsub hk => ⟨c1, c2, h, A.share h1 hsub fun g hg => hk g (by rw [hs]; exact List.mem_append_left _ hg), B.share h2 hsub fun g hg => hk g (by rw [hs]; exact List.mem_append_right _ hg)⟩
def OTy.iso {α β : Type} (A : OTy α) (f : β → α) : OTy β where
  n := A.n
  rep S O w cs x := A.rep S O w cs (f x)
  keep := A.keep
  blk := A.blk
  len := A.len
  one := A.one
  T := A.T.iso f
  hn := A.hn
  share := A.share
/-- all in a row -/
def OAll {α : Type} (A : OTy α) (O : List Nat) (w : World) : List Nat → List Value → List α → Prop
  | S, cs, [] => S = [] ∧ cs = []
  | S, cs, x :: xs => ∃ c r S1 S2, cs = c ++ r ∧ S = S1 ++ S2 ∧ A.rep S1 O w c x ∧ OAll A O w S2 r xs
section
variable {α : Type} {A : OTy α} {O O' : List Nat} {w w' : World}
theorem OAll.keep (ht : Tr O w O' w') : ∀ {xs : List α} {S : List Nat} {cs : List Value}, OAll A O w S cs xs → (∀ g ∈ S, w'.heap[g]? = w.heap[g]?) → OAll A O' w' S cs xs
  | [], _, _, h, _ => h
  | _ :: _, _, _, ⟨c, r, S1, S2, h, hs, h1, h2⟩, hk => by
    subst hs
    exact ⟨c, r, S1, S2, h, rfl, A.keep h1 ht fun g hg => hk g (List.mem_append_left _ hg), OAll.keep ht h2 fun g hg => hk g (List.mem_append_right _ hg)⟩
theorem OAll.blk : ∀ {xs : List α} {S : List Nat} {cs : List Value}, OAll A O w S cs xs → ∀ g ∈ S, ∃ cur e, w.heap[g]? = some (.cells cur e (0, 0))
  | [], _, _, h, g, hg => by rw [h.1] at hg; cases hg
  | _ :: _, _, _, ⟨c, r, S1, S2, h, hs, h1, h2⟩, g, hg => by
    subst hs
    rcases List.mem_append.1 hg with hg | hg
    · exact A.blk h1 g hg
    · exact OAll.blk h2 g hg
theorem OAll.len : ∀ {xs : List α} {S : List Nat} {cs : List Value}, OAll A O w S cs xs → cs.length = xs.length * A.n
  | [], _, _, h => by rw [h.2]; simp
  | _ :: xs, _, _, ⟨c, r, S1, S2, h, hs, h1, h2⟩ => by subst h; rw [List.length_append, A.len h1, OAll.len h2, List.length_cons, Nat.succ_mul]; omega
theorem OAll.one : ∀ {xs : List α} {S : List Nat} {cs : List Value}, OAll A O w S cs xs → ∀ u ∈ cs, u.oneCell' = true
  | [], _, _, h, u, hu => by rw [h.2] at hu; cases hu
  | _ :: xs, _, _, ⟨c, r, S1, S2, h, hs, h1, h2⟩, u, hu => by
    subst h
    rcases List.mem_append.1 hu with hu | hu
    · exact A.one h1 u hu
    · exact OAll.one h2 u hu
theorem OAll.share (hsub : Sub O' O) : ∀ {xs : List α} {S : List Nat} {cs : List Value}, OAll A O w S cs xs → (∀ g ∈ S, g ∉ O') → RepAll A.T O' w cs xs
  | [], _, _, h, _ => h.2
  | _ :: _, _, _, ⟨c, r, S1, S2, h, hs, h1, h2⟩, hk => by
    subst hs
    exact ⟨c, r, h, A.share h1 hsub fun g hg => hk g (List.mem_append_left _ hg), OAll.share hsub h2 fun g hg => hk g (List.mem_append_right _ hg)⟩
theorem OAll.app : ∀ {xs ys : List α} {S S' : List Nat} {cs ds : List Value}, OAll A O w S cs xs → OAll A O w S' ds ys → OAll A O w (S ++ S') (cs ++ ds) (xs ++ ys)
  | [], _, _, _, _, _, h, k => by rw [h.1, h.2]; exact k
  | _ :: _, _, _, _, _, _, ⟨c, r, S1, S2, h, hs, h1, h2⟩, k => by subst h; subst hs; exact ⟨c, r ++ _, S1, S2 ++ _, by simp, by simp, h1, OAll.app h2 k⟩
/-- one element, and what another in its place makes of the row -/
theorem OAll.at_ : ∀ {xs : List α} {S : List Nat} {cs : List Value} {k : Nat} {x : α}, OAll A O w S cs xs → xs[k]? = some x →
    ∃ c1 c c2 S1 Sx S2, cs = c1 ++ c ++ c2 ∧ c1.length = k * A.n ∧ S = S1 ++ Sx ++ S2 ∧ A.rep Sx O w c x ∧
      (∀ {O' w' c' Sy y}, Tr O w O' w' → (∀ g ∈ S1 ++ S2, w'.heap[g]? = w.heap[g]?) → A.rep Sy O' w' c' y → OAll A O' w' (S1 ++ Sy ++ S2) (c1 ++ c' ++ c2) (xs.set k y))
  | [], _, _, _, _, _, hk => by simp at hk
  | y :: xs, _, _, 0, x, ⟨c, r, S1, S2, h, hs, h1, h2⟩, hk => by
    simp at hk
    subst hk
    refine ⟨[], c, r, [], S1, S2, by simpa using h, by simp, by simpa using hs, h1, fun {O' w' c' Sy y'} ht hg hr => ?_⟩
    exact ⟨c', r, Sy, S2, by simp, by simp, hr, h2.keep ht fun g hgm => hg g (by simpa using hgm)⟩
  | y :: xs, _, _, k + 1, x, ⟨c, r, S1, S2, h, hs, h1, h2⟩, hk => by
    obtain ⟨d1, d, d2, U1, Ux, U2, e1, e2, e3, e4, e5⟩ := OAll.at_ h2 (by simpa using hk)
    refine ⟨c ++ d1, d, d2, S1 ++ U1, Ux, U2, by rw [h, e1]; simp, by rw [List.length_append, e2, A.len h1, Nat.succ_mul]; omega, by rw [hs, e3]; simp, e4, fun {O' w' c' Sy y'} ht hg hr => ?_⟩
    refine ⟨c, d1 ++ c' ++ d2, S1, U1 ++ Sy ++ U2, by simp, by simp, A.keep h1 ht fun g hgm => hg g (by simp [hgm]), ?_⟩
    exact e5 ht (fun g hgm => hg g (by simp at hgm ⊢; exact .inr hgm)) hr
end
/-- a row -/
def OTy.row {α : Type} (A : OTy α) (e : Nat) : OTy (List α) where
  n := 1
  rep S O w cs xs := ∃ v, cs = [v] ∧ ((v = .slice none 0 0 ∧ xs = [] ∧ S = []) ∨ ∃ g cap cur cs' Ss, v = .slice (some ⟨g, 0, none⟩) xs.length cap ∧ S = g :: Ss ∧ w.heap[g]? = some (.cells cur e (0, 0)) ∧ xs.length ≤ cap ∧ cap ≤ maxLen ∧ cur.size = cap * A.n ∧ cur.toList.take (xs.length * A.n) = cs' ∧ OAll A O w Ss cs' xs)
  keep := fun ⟨v, hv, h⟩ ht hk => ⟨v, hv, by
    rcases h with h | ⟨g, cap, cur, cs', Ss, h1, h2, h3, h4, h5, h6, h7, h8⟩
    · exact .inl h
    · subst h2
      exact .inr ⟨g, cap, cur, cs', Ss, h1, rfl, (hk g List.mem_cons_self).trans h3, h4, h5, h6, h7, h8.keep ht fun k hk' => hk k (List.mem_cons_of_mem _ hk')⟩⟩
  blk := fun ⟨v, hv, h⟩ g hg => by
    rcases h with ⟨_, _, hS⟩ | ⟨g', cap, cur, cs', Ss, h1, h2, h3, h4, h5, h6, h7, h8⟩
    · rw [hS] at hg; cases hg
    · subst h2
      rcases List.mem_cons.1 hg with e' | hg
      · rw [e']; exact ⟨cur, e, h3⟩
      · exact h8.blk g hg
  len := fun ⟨v, hv, _⟩ => by rw [hv]; rfl
  one := fun ⟨v, hv, h⟩ u hu => by
    rw [hv] at hu; simp at hu; subst hu
    rcases h with ⟨h, _⟩ | ⟨g', cap, cur, cs', Ss, h1, _⟩
    · rw [h]; rfl
    · rw [h1]; rfl
  T := Ty.slice A.T
  hn := rfl
  share := fun {S O w O' cs xs} ⟨v, hv, h⟩ hsub hk => by
    subst hv
    rcases h with ⟨h, hx, _⟩ | ⟨g, cap, cur, cs', Ss, h1, h2, h3, h4, h5, h6, h7, h8⟩
    · subst h; subst hx; exact rep_of rfl (slice_nil _ _ _)
    · subst h2
      rw [h1]
      have hr := h8.share hsub fun k hk' => hk k (List.mem_cons_of_mem _ hk')
      exact rep_of rfl (slice_of_cells h3 (hk g List.mem_cons_self) hr (by rw [hr.len, A.hn]; exact h7) h4 h5)
/-- a tree of the call's own -/
structure OwnT {α : Type} (A : OTy α) (e B : Nat) (O : List Nat) (w : World) (S : List Nat) (v : Value) (xs : List α) : Prop where
  rep : (OTy.row A e).rep S O w [v] xs
  nodup : S.Nodup
  mem : ∀ g ∈ S, B ≤ g ∧ g ∈ O
section
variable {α : Type} {A : OTy α} {e B : Nat} {O O' S : List Nat} {w w' : World} {v : Value} {xs : List α}
theorem OwnT.nil_ : OwnT A e B O w [] (.slice none 0 0) [] := ⟨⟨_, rfl, .inl ⟨rfl, rfl, rfl⟩⟩, List.nodup_nil, fun g h => by cases h⟩
theorem OwnT.lt (h : OwnT A e B O w S v xs) : ∀ g ∈ S, B ≤ g ∧ g < w.heap.size := fun g hg => by
  obtain ⟨cur, e', hh⟩ := (OTy.row A e).blk h.rep g hg
  exact ⟨(h.mem g hg).1, (Array.getElem?_eq_some_iff.1 hh).1⟩
theorem OwnT.form (h : OwnT A e B O w S v xs) : ∃ A c, v = .slice A xs.length c ∧ xs.length ≤ c ∧ c ≤ maxLen := by
  obtain ⟨v', hv, hr⟩ := h.rep
  simp at hv; subst hv
  rcases hr with ⟨h1, h2, _⟩ | ⟨g, cap, cur, cs', Ss, h1, h2, h3, h4, h5, _⟩
  · subst h2; exact ⟨none, 0, h1, by simp, by unfold maxLen; omega⟩
  · exact ⟨_, cap, h1, h4, h5⟩
theorem OwnT.keep (h : OwnT A e B O w S v xs) (ht : Tr O w O' w') (hk : ∀ g ∈ S, w'.heap[g]? = w.heap[g]? ∧ g ∈ O') : OwnT A e B O' w' S v xs :=
  ⟨(OTy.row A e).keep h.rep ht fun g hg => (hk g hg).1, h.nodup, fun g hg => ⟨(h.mem g hg).1, (hk g hg).2⟩⟩
theorem OwnT.fr0 (h : OwnT A e B O w S v xs) (hf : Fr [] w w') : OwnT A e B O w' S v xs := h.keep hf.tr0 fun g hg => ⟨hf.block g (h.lt g hg).2 (by simp), (h.mem g hg).2⟩
theorem OwnT.new {b t : Nat} {cs : List Value} (h : OwnT A e B O w S v xs) (hn : New O w b t cs w') : OwnT A e B (b :: O) w' S v xs :=
  h.keep hn.tr fun g hg => ⟨hn.fr.block g (h.lt g hg).2 (by simp), List.mem_cons_of_mem _ (h.mem g hg).2⟩
theorem OwnT.st {b : Nat} (h : OwnT A e B O w S v xs) (hf : Fr [b] w w') (hi : b ∈ O) (hne : b ∉ S) : OwnT A e B O w' S v xs :=
  h.keep (hf.tr (one_in hi)) fun g hg => ⟨hf.block g (h.lt g hg).2 (by simp; rintro rfl; exact hne hg), (h.mem g hg).2⟩
theorem OwnT.ne_new {b t : Nat} {cs : List Value} (h : OwnT A e B O w S v xs) (hn : New O w b t cs w') : b ∉ S := fun hb => by have := (h.lt b hb).2; have := hn.ge; omega
theorem OwnT.rel {b : Nat} (h : OwnT A e B O w S v xs) (hne : b ∉ S) : OwnT A e B (rel b O) w S v xs :=
  h.keep (rel_tr b O w) fun g hg => ⟨rfl, rel_mem.2 ⟨(h.mem g hg).2, fun e => hne (e ▸ hg)⟩⟩
theorem OwnT.bk {n0 : Nat} (h : OwnT A e B O w S v xs) (hk : Bk n0 O w w') : OwnT A e B O w' S v xs :=
  h.keep hk.tr fun g hg => by
    obtain ⟨cur, e', hh⟩ := (OTy.row A e).blk h.rep g hg
    exact ⟨hk.cells hh, (h.mem g hg).2⟩
theorem OwnT.into (h : OwnT A e B O w S v xs) (hT : Tr O w O' w') (hF : Fr [] w w') (hS : Sub O O') : OwnT A e B O' w' S v xs :=
  h.keep hT fun g hg => ⟨hF.block g (h.lt g hg).2 (by simp), hS g (h.mem g hg).2⟩
theorem OwnT.share (h : OwnT A e B O w S v xs) (hs : Sub O' O) (hn : ∀ g ∈ S, g ∉ O') : A.T.slice.is O' w v xs := by
  obtain ⟨s, hs', hi⟩ := sing_of rfl ((OTy.row A e).share h.rep hs hn)
  simp at hs'
  subst hs'
  exact hi
theorem OwnT.share0 {w0 : World} {O0 : List Nat} (h : OwnT A e w0.heap.size O w S v xs) (hs : Sub O0 O) (h0 : OB O0 w0) : A.T.slice.is O0 w v xs :=
  h.share hs fun g hg ho => by have := (h.lt g hg).1; have := h0 g ho; omega
theorem Rec.ne_ownT {l : Nat} {o : Obj} (h : Rec w l o) (hv : OwnT A e B O w S v xs) : l ∉ S := fun hl => by
  obtain ⟨cur, e', hh⟩ := (OTy.row A e).blk hv.rep l hl
  have h1 := h.1
  rw [hh] at h1
  cases h1
  cases h.2
/-- a row of the call's own is a tree of one block -/
theorem Own.tree {T : Ty α} (h : Own T e B O w v xs) : OwnT (OTy.of T) e B O w v.ownBlock.toList v xs := by
  obtain ⟨cs, ⟨h0, h1⟩, h2⟩ := h.ex
  have key : ∀ (xs : List α) (cs : List Value), RepAll T O w cs xs → OAll (OTy.of T) O w [] cs xs := by
    intro xs
    induction xs with
    | nil => intro cs h; exact ⟨rfl, h⟩
    | cons x xs ih => intro cs ⟨c, r, h, h1, h2⟩; exact ⟨c, r, [], [], h, rfl, ⟨rfl, h1⟩, ih r h2⟩
  rcases h1 with ⟨rfl, hl⟩ | ⟨g, cap, cur, rfl, hg, hh, h3, h4, h5, h6⟩
  · have : xs = [] := List.eq_nil_of_length_eq_zero hl
    subst this
    exact OwnT.nil_
  · refine ⟨⟨_, rfl, .inr ⟨g, cap, cur, cs, [], rfl, rfl, hh, h3, h4, h5, ?_, key _ _ h2⟩⟩, by simp [Value.ownBlock], fun k hk => ?_⟩
    · exact h6
    · simp [Value.ownBlock] at hk; subst hk; exact ⟨hg, h.mem _ rfl⟩
theorem OwnT.flat {T : Ty α} (h : OwnT (OTy.of T) e B O w S v xs) : Own T e B O w v xs ∧ S = v.ownBlock.toList := by
  obtain ⟨v', hv, hr⟩ := h.rep
  simp at hv; subst hv
  have key : ∀ (xs : List α) (cs : List Value) (S : List Nat), OAll (OTy.of T) O w S cs xs → S = [] ∧ RepAll T O w cs xs := by
    intro xs
    induction xs with
    | nil => intro cs S h; exact ⟨h.1, h.2⟩
    | cons x xs ih =>
      intro cs S ⟨c, r, S1, S2, h, hs, h1, h2⟩
      obtain ⟨e1, e2⟩ := ih r S2 h2
      exact ⟨by rw [hs, h1.1, e1, List.append_nil], c, r, h, h1.2, e2⟩
  rcases hr with ⟨h1, h2, h3⟩ | ⟨g, cap, cur, cs', Ss, h1, h2, h3, h4, h5, h6, h7, h8⟩
  · subst h1; subst h2; subst h3; exact ⟨Own.nil_, rfl⟩
  · obtain ⟨e1, e2⟩ := key _ _ _ h8
    subst e1
    subst h1; subst h2
    have hl := e2.len
    refine ⟨⟨⟨cs', ⟨hl, .inr ⟨g, cap, cur, rfl, (h.mem g (by simp)).1, h3, h4, h5, h6, by rw [← h7]; rfl⟩⟩, e2⟩, fun k hk => by cases hk; exact (h.mem g (by simp)).2⟩, rfl⟩
end
/-- what a change of a tree leaves -/
structure TreeUp (S O : List Nat) (w : World) (S' O' : List Nat) (w' : World) : Prop where
  tr : Tr O w O' w'
  ob : OB O' w'
  sub : Sub O O'
  fr : ∀ k, k < w.heap.size → k ∉ S → w'.heap[k]? = w.heap[k]?
  ne : ∀ k, k < w.heap.size → k ∉ S → k ∉ S'
section
variable {S S' O O' : List Nat} {w w' w0 : World}
theorem TreeUp.blk (h : TreeUp S O w S' O' w') {b t : Nat} {cs : List Value} (hb : Blk w b t cs) (hn : b ∉ S) : Blk w' b t cs := (h.fr b hb.lt hn).trans hb
theorem TreeUp.fr0 (h : TreeUp S O w S' O' w') (hS : ∀ g ∈ S, w0.heap.size ≤ g) (hF : Fr [] w0 w) : Fr [] w0 w' :=
  ⟨h.tr.os.trans hF.os, h.tr.tape.trans hF.tape, h.tr.output.trans hF.output, Nat.le_trans hF.size h.tr.size, fun k hk _ =>
    (h.fr k (Nat.lt_of_lt_of_le hk hF.size) (fun e => by have := hS k e; omega)).trans (hF.block k hk (by simp))⟩
theorem TreeUp.mark (h : TreeUp S O w S' O' w') {l : Nat} {o : Obj} (hr : Rec w l o) (hn : l ∉ S) : Rec w' l o := ⟨(h.fr l hr.lt hn).trans hr.1, hr.2⟩
theorem TreeUp.nin (h : TreeUp S O w S' O' w') {b t : Nat} {cs : List Value} (hb : Blk w b t cs) (hn : b ∉ S) : b ∉ S' := h.ne b hb.lt hn
theorem TreeUp.own (h : TreeUp S O w S' O' w') {α : Type} {T : Ty α} {e B : Nat} {v : Value} {xs : List α} (hu : Own T e B O w v xs) (hn : ∀ g ∈ S, v.ownBlock ≠ some g) : Own T e B O' w' v xs :=
  hu.keep h.tr fun g hg => ⟨h.fr g (hu.lt g hg).2 (fun e => hn g e hg), h.sub g (hu.mem g hg)⟩
end
/-- an element that is a row: what is appended to it -/
theorem tree_at {α : Type} {T : Ty α} {e1 e B : Nat} {O S : List Nat} {w : World} {v : Value} {xss : List (List α)} {j : Nat} {xs : List α} (hO : OB O w) (h : OwnT (OTy.row (OTy.of T) e1) e B O w S v xss) (hj : xss[j]? = some xs) :
    ∃ g cap c1 u c2, v = .slice (some ⟨g, 0, none⟩) xss.length cap ∧ Blk w g e (c1 ++ [u] ++ c2) ∧ c1.length = j ∧ g ∈ O ∧ g ∈ S ∧ xss.length ≤ cap ∧ Own T e1 B O w u xs ∧ u.ownBlock ≠ some g ∧ u.oneCell' = true ∧ (∀ b, b ∉ S → u.ownBlock ≠ some b) ∧
      ∀ {wm O' w1 w2 u' zs}, Fr [] w wm → Appended T e1 B O wm u zs O' w1 u' → Fr [g] w1 w2 → Blk w2 g e (c1 ++ [u'] ++ c2) → ∃ S', OwnT (OTy.row (OTy.of T) e1) e B O' w2 S' v (xss.set j zs) ∧ TreeUp S O w S' O' w2 := by
  have hlt := h.lt
  obtain ⟨v', hv, hr⟩ := h.rep
  simp at hv; subst hv
  rcases hr with ⟨_, h2, _⟩ | ⟨g, cap, cur, cs', Ss, h1, h2, h3, h4, h5, h6, h7, h8⟩
  · subst h2; simp at hj
  · obtain ⟨c1, c, c2, S1, Sx, S2, e1', e2, e3, e4, e5⟩ := OAll.at_ h8 hj
    obtain ⟨u, hu⟩ : ∃ u, c = [u] := by
      obtain ⟨u, hu, _⟩ := e4
      exact ⟨u, hu⟩
    subst hu
    have hn1 : (OTy.row (OTy.of T) e1).n = 1 := rfl
    rw [hn1] at e2 h6 h7
    simp only [Nat.mul_one] at e2 h6 h7
    subst h2
    have hnd := h.nodup
    rw [e3] at hnd
    simp only [List.nodup_cons, List.nodup_append, List.mem_append, List.append_assoc] at hnd
    obtain ⟨hg1, hS1, ⟨hSx, hS2, hx2⟩, h1x⟩ := hnd
    have htx : OwnT (OTy.of T) e1 B O w Sx u xs := ⟨e4, hSx, fun k hk => h.mem k (by rw [e3]; simp [hk])⟩
    obtain ⟨hown, hSxe⟩ := htx.flat
    have hcur : cur.toList = c1 ++ [u] ++ (c2 ++ cur.toList.drop xss.length) := by
      have := List.take_append_drop xss.length cur.toList
      rw [h7, e1'] at this
      simpa using this.symm
    have hug : u.ownBlock ≠ some g := fun hh => hg1 (.inr (.inl (by rw [hSxe, hh]; simp)))
    refine ⟨g, cap, c1, u, c2 ++ cur.toList.drop xss.length, h1, ?_, e2, (h.mem g List.mem_cons_self).2, List.mem_cons_self, h4, hown, hug, (OTy.row (OTy.of T) e1).one e4 u (by simp), fun b hb hh => hb (by rw [e3, hSxe, hh]; simp), ?_⟩
    · unfold Blk
      rw [← hcur, Array.toArray_toList]
      exact h3
    · intro wm O' w1 w2 u' zs hfm hap hst hb2
      have hgl : g < w.heap.size := (Array.getElem?_eq_some_iff.1 h3).1
      have htr2 : Tr O w O' w2 := (hfm.tr0.trans hap.tr).trans (hst.tr (one_in (hap.sub g (h.mem g List.mem_cons_self).2)))
      -- blocks of the others
      have hkeep : ∀ k, k < w.heap.size → k ≠ g → u.ownBlock ≠ some k → w2.heap[k]? = w.heap[k]? := fun k hk hkg hku => by
        have hkm := Nat.lt_of_lt_of_le hk hfm.size
        rw [hst.block k (Nat.lt_of_lt_of_le hkm hap.tr.size) (by simpa using hkg), hap.fr k hkm hku, hfm.block k hk (by simp)]
      have hother : ∀ k ∈ S1 ++ S2, k ≠ g ∧ u.ownBlock ≠ some k := fun k hk => by
        rcases List.mem_append.1 hk with hk | hk
        · refine ⟨fun e => hg1 (.inl (e ▸ hk)), fun e => ?_⟩
          exact h1x k hk k (.inl (by rw [hSxe, e]; simp)) rfl
        · refine ⟨fun e => hg1 (.inr (.inr (e ▸ hk))), fun e => ?_⟩
          exact hx2 k (by rw [hSxe, e]; simp) k hk rfl
      have hmemS : ∀ k ∈ S1 ++ S2, k ∈ g :: Ss := fun k hk => by
        rw [e3]; simp at hk ⊢; rcases hk with hk | hk <;> simp [hk]
      have hlt' : ∀ k ∈ S1 ++ S2, k < w.heap.size := fun k hk => (hlt k (hmemS k hk)).2
      -- the new element
      have hown2 : Own T e1 B O' w2 u' zs := hap.own.keep (hst.tr (one_in (hap.sub g (h.mem g List.mem_cons_self).2))) fun k hk => by
        refine ⟨hst.block k (hap.own.lt k hk).2 (by simp; rintro rfl; exact hap.ne k (Nat.lt_of_lt_of_le hgl hfm.size) hug hk), hap.own.mem k hk⟩
      have ht2 := hown2.tree
      have hall := e5 (c' := [u']) (y := zs) htr2 (fun k hk => hkeep k (hlt' k hk) (hother k hk).1 (hother k hk).2) ht2.rep
      have hu'S : ∀ k, u'.ownBlock = some k → k ∉ S1 ++ S2 ∧ k ≠ g := fun k hk => by
        refine ⟨fun hm => hap.ne k (Nat.lt_of_lt_of_le (hlt' k hm) hfm.size) (hother k hm).2 hk, fun e => ?_⟩
        subst e
        exact hap.ne k (Nat.lt_of_lt_of_le hgl hfm.size) hug hk
      refine ⟨g :: (S1 ++ u'.ownBlock.toList ++ S2), ⟨⟨v, rfl, .inr ⟨g, cap, ((c1 ++ [u'] ++ (c2 ++ cur.toList.drop xss.length)).toArray), c1 ++ [u'] ++ c2, _, by rw [List.length_set]; exact h1, rfl, hb2, by rw [List.length_set]; exact h4, h5, ?_, ?_, hall⟩⟩, ?_, ?_⟩, ⟨htr2, ?_, hap.sub, ?_, ?_⟩⟩
      · have := congrArg List.length hcur
        rw [Array.length_toList, h6] at this
        simp only [List.size_toArray, List.length_append, List.length_cons, List.length_nil] at this ⊢
        rw [hn1]; omega
      · have hl7 := congrArg List.length h7
        have hl8 : cur.toList.length = cap := by rw [Array.length_toList, h6]
        rw [List.length_take, hl8, e1'] at hl7
        simp only [List.length_append, List.length_cons, List.length_nil] at hl7
        rw [List.length_set, hn1, Nat.mul_one]
        have e9 : c1 ++ [u'] ++ (c2 ++ cur.toList.drop xss.length) = (c1 ++ [u'] ++ c2) ++ cur.toList.drop xss.length := by simp
        rw [List.toList_toArray, e9]
        exact List.take_left' (by simp only [List.length_append, List.length_cons, List.length_nil]; omega)
      · simp only [List.nodup_cons, List.nodup_append, List.mem_append, List.append_assoc]
        refine ⟨?_, hS1, ⟨by cases u'.ownBlock <;> simp, hS2, ?_⟩, ?_⟩
        · rintro (hk | hk | hk)
          · exact hg1 (.inl hk)
          · simp at hk; exact (hu'S g hk).2 rfl
          · exact hg1 (.inr (.inr hk))
        · rintro a ha b hb rfl
          simp at ha
          exact (hu'S a ha).1 (List.mem_append_right _ hb)
        · rintro a ha b hb rfl
          rcases hb with hb | hb
          · simp at hb
            exact (hu'S a hb).1 (List.mem_append_left _ ha)
          · exact h1x a ha a (.inr hb) rfl
      · intro k hk
        rcases List.mem_cons.1 hk with rfl | hk
        · exact ⟨(h.mem k List.mem_cons_self).1, hap.sub k (h.mem k List.mem_cons_self).2⟩
        · simp only [List.mem_append] at hk
          rcases hk with (hk | hk) | hk
          · have hm := hmemS k (List.mem_append_left _ hk)
            exact ⟨(h.mem k hm).1, hap.sub k (h.mem k hm).2⟩
          · simp at hk
            exact ⟨(hap.own.lt k hk).1, hap.own.mem k hk⟩
          · have hm := hmemS k (List.mem_append_right _ hk)
            exact ⟨(h.mem k hm).1, hap.sub k (h.mem k hm).2⟩
      · exact fun k hk => Nat.lt_of_lt_of_le (hap.ob k hk) hst.size
      · intro k hk hkS
        refine hkeep k hk (fun e => hkS (e ▸ List.mem_cons_self)) (fun e => hkS ?_)
        rw [e3]
        simp [hSxe, e]
      · intro k hk hkS hk2
        rcases List.mem_cons.1 hk2 with rfl | hk2
        · exact hkS List.mem_cons_self
        · simp only [List.mem_append] at hk2
          rcases hk2 with (hk2 | hk2) | hk2
          · exact hkS (hmemS k (List.mem_append_left _ hk2))
          · simp at hk2
            refine hap.ne k (Nat.lt_of_lt_of_le hk hfm.size) (fun e => hkS ?_) hk2
            rw [e3]
            simp [hSxe, e]
          · exact hkS (hmemS k (List.mem_append_right _ hk2))
section
variable {P : Program} {r : Option Nat} {N : Nat} {Θ : Tys} {ops : Array Oper} {Q : Exit → Act → World → Prop} {l : List Nat} {E : Env} {ds : List Deferred} {w : World} {i d : Nat} {o : Oper} {O : List Nat}
theorem run_indexV (hΘ : Θ.ok P) {t : Nat} {ti te : TI} (ht : Θ.get t = some ti) (h5 : ti.tag = 5) (hte : Θ.get ti.e = some te) {k : IntKind} {j : Int} {n c : Nat} {ad : Addr} (h0 : 0 ≤ j) (hj : j.toNat < n) : (Instr.indexAt t (.slice (some ad) n c) (.int k j)).run P w = .ok (.pointer (some (ad.add (j.toNat * te.size)))) w := by
  have hu := (hΘ.fits ht).slice h5
  simp only [Instr.indexAt, asIntOf, Sem.run_bind, Sem.run_pure, Result.andThen_ok, run_underlying hu]
  rw [if_pos ⟨h0, by omega⟩]
  simp only [Sem.run_bind, sizeOf_run (hΘ.fits hte), Result.andThen_ok, Sem.run_pure]
theorem wo_indexV (hΘ : Θ.ok P) (ho : ops[i]? = some o) (hw : want N ops E o.guard = some true) (hd : o.dst = some d) (hN : Nat.blt d N = true) {t : Nat} {x y : Operand} {ti te : TI} (hop : o.op = .indexAddr t x y) (ht : Θ.get t = some ti) (h5 : ti.tag = 5) (hte : Θ.get ti.e = some te)
    {k : IntKind} {j : Int} {n c : Nat} {ad : Addr} (hx : ev E x = some (.slice (some ad) n c)) (hy : ev E y = some (.int k j)) (h0 : 0 ≤ j) (hj : j.toNat < n) (h : WO P r N ops Q l ((d, .pointer (some (ad.add (j.toNat * te.size)))) :: E) ds w) : WO P r N ops Q (i :: l) E ds w := by
  refine wo_value ho hw hd hN (by rw [hop]; simp) (fun a ha => ?_) h
  simp only [execOp, hop, Sem.run_bind, ha.eval hx, ha.eval hy, run_indexV hΘ ht h5 hte h0 hj]
  rfl
theorem op_indexV (hΘ : Θ.ok P) {a : Act} (ha : Has N E ds a) (ho : ops[i]? = some o) (hw : want N ops E o.guard = some true) (hd : o.dst = some d) {t : Nat} {x y : Operand} {ti te : TI} (hop : o.op = .indexAddr t x y) (ht : Θ.get t = some ti) (h5 : ti.tag = 5) (hte : Θ.get ti.e = some te)
    {k : IntKind} {j : Int} {n c : Nat} {ad : Addr} (hx : ev E x = some (.slice (some ad) n c)) (hy : ev E y = some (.int k j)) (h0 : 0 ≤ j) (hj : j.toNat < n) : OpK P r ops Q i d a w (fun u w' => u = .pointer (some (ad.add (j.toNat * te.size))) ∧ Fr [] w w') := by
  refine op_of ho (want_ok ha hw) hd (b := true) (w' := w) ?_ ⟨rfl, Fr.refl _ _⟩
  simp only [if_true]
  refine ⟨by rw [hop]; simp, ?_⟩
  simp only [execOp, hop, Sem.run_bind, ha.eval hx, ha.eval hy, run_indexV hΘ ht h5 hte h0 hj]
  rfl
/-- a row of so many elements that own nothing -/
theorem oall_replicate {α : Type} {A : OTy α} {O : List Nat} {w : World} {cs : List Value} {z : α} (h : A.rep [] O w cs z) : ∀ k, OAll A O w [] (List.replicate k cs).flatten (List.replicate k z)
  | 0 => ⟨rfl, rfl⟩
  | k + 1 => ⟨cs, _, [], [], by simp [List.replicate_succ], rfl, h, oall_replicate h k⟩
theorem wo_makeT (hΘ : Θ.ok P) (ho : ops[i]? = some o) (hw : want N ops E o.guard = some true) (hd : o.dst = some d) (hN : Nat.blt d N = true) {t : Nat} {x y : Operand} {ti te : TI} (hop : o.op = .makeSlice t x y) (ht : Θ.get t = some ti) (h5 : ti.tag = 5) (hte : Θ.get ti.e = some te)
    {kl kc : IntKind} {n c : Int} (hx : ev E x = some (.int kl n)) (hy : ev E y = some (.int kc c)) {α : Type} {A : OTy α} {z : α} {zs : List α} (hn : A.n = te.size) (hz : te.zero.cells.size = te.size) (hr : A.rep [] O w te.zero.cells.toList z) (hO : OB O w) {B : Nat} (hB : B ≤ w.heap.size)
    (hm : mkL te.bytes n c z = some zs) (h : ∀ b w' v', (∃ cs, New O w b ti.e cs w') → OwnT A ti.e B (b :: O) w' [b] v' zs → WO P r N ops Q l ((d, v') :: E) ds w') : WO P r N ops Q (i :: l) E ds w := by
  have hte' := hΘ.fits hte
  obtain ⟨x', hx', hs, hby, hzr⟩ := hte'.info
  unfold mkL at hm
  split at hm
  · rename_i hc
    obtain ⟨h0, h1, h2, h3⟩ := hc
    simp only [Option.some.injEq] at hm
    subst hm
    have hu := (hΘ.fits ht).slice h5
    have hrun := run_make (P := P) w t ti.e x' te.zero hu hx' hzr kl kc n c h0 h1 (by rw [hby]; exact h2) (by omega)
    rw [hs] at hrun
    have hnew := new_alloc hO ti.e (madeCells te.zero.cells (c.toNat * te.size)).toList
    refine wo_value ho hw hd hN (by rw [hop]; simp) (fun a ha => ?_) (h w.heap.size (w.alloc (.cells (madeCells te.zero.cells (c.toNat * te.size)).toList.toArray ti.e)) (.slice (some ⟨w.heap.size, 0, none⟩) n.toNat c.toNat) ⟨_, hnew⟩ ?_)
    · simp only [execOp, hop, Sem.run_bind, ha.eval hx, ha.eval hy, hrun]
      simp
    · have hcn : c.toNat ≤ maxLen := by unfold maxLen; omega
      have hle : n.toNat * te.size ≤ c.toNat * te.size := Nat.mul_le_mul_right _ (by omega)
      have hall := oall_replicate (A.keep hr hnew.tr (fun g hg => by cases hg)) n.toNat
      have hrl := hall.len
      simp only [List.length_replicate] at hrl
      refine ⟨⟨_, rfl, .inr ⟨w.heap.size, c.toNat, madeCells te.zero.cells (c.toNat * te.size), _, [], by simp, rfl, ?_, by simp; omega, hcn, by simp [madeCells, hn], ?_, hall⟩⟩, by simp, fun g hg => ?_⟩
      · have := hnew.blk
        unfold Blk at this
        simpa using this
      · apply List.ext_getElem?
        intro j
        simp only [List.getElem?_take, List.length_replicate, hn]
        by_cases hj : j < n.toNat * te.size
        · rw [if_pos hj, mod_cells _ _ _ (by omega) hz, flat_rep (by simpa using hz) _ _ hj]
        · rw [if_neg hj]
          symm
          rw [List.getElem?_eq_none_iff, hrl, hn]
          omega
      · simp at hg; subst hg; exact ⟨hB, List.mem_cons_self⟩
  · cases hm
end
end Go.Dc
