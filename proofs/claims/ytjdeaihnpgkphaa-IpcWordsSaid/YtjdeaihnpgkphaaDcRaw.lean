/- Rows whose elements bear a slice's value as it is; the rows that those values are. -/
import Derived.Test.YtjdeaihnpgkphaaDcStr
namespace Go.Dc
open Go.RowKit

/-- a number, and a slice's value as it is -/
def rawT (k : IntKind) : Ty (Int × Value) where
  agg := true
  n := 2
  rep _ _ cs x := cs = [.int k x.1, x.2] ∧ ∃ A n c, x.2 = .slice A n c
  tr _ h := h
  len := fun ⟨h, _⟩ => by rw [h]; rfl
  one := fun ⟨h, A, n, c, h2⟩ u hu => by
    rw [h, h2] at hu
    simp only [List.mem_cons, List.not_mem_nil, or_false] at hu
    rcases hu with rfl | rfl <;> rfl
  sing h := by cases h
theorem rawT_flat (k : IntKind) : (rawT k).Flat := fun h => h
/-- a row that belongs to nothing but its value -/
structure FOwn {α : Type} (T : Ty α) (e B : Nat) (w : World) (v : Value) (xs : List α) : Prop where
  ex : ∃ cs, w.ownsRow B e T.n v xs.length cs ∧ RepAll T [] w cs xs
section
variable {α : Type} {T : Ty α} {e B : Nat} {O O' : List Nat} {w w' : World} {v : Value} {xs : List α}
theorem Own.fown (h : Own T e B O w v xs) : FOwn T e B w v xs := by
  obtain ⟨cs, h1, h2⟩ := h.ex
  exact ⟨cs, h1, h2.tr (Tr.less (sub_nil _))⟩
theorem FOwn.own (hT : T.Flat) (h : FOwn T e B w v xs) (hO : ∀ g, v.ownBlock = some g → g ∈ O) : Own T e B O w v xs := by
  obtain ⟨cs, h1, h2⟩ := h.ex
  exact ⟨⟨cs, h1, repAll_flat hT h2⟩, hO⟩
theorem FOwn.lt (h : FOwn T e B w v xs) : ∀ g, v.ownBlock = some g → B ≤ g ∧ g < w.heap.size := by
  obtain ⟨cs, h1, _⟩ := h.ex
  exact h1.lt
theorem FOwn.keep (hT : T.Flat) (h : FOwn T e B w v xs) (hk : ∀ g, v.ownBlock = some g → w'.heap[g]? = w.heap[g]?) : FOwn T e B w' v xs := by
  obtain ⟨cs, ⟨h0, h1⟩, h2⟩ := h.ex
  refine ⟨cs, ⟨h0, ?_⟩, repAll_flat hT h2⟩
  rcases h1 with h1 | ⟨g, cap, cur, hv, hg, hh, r⟩
  · exact .inl h1
  · refine .inr ⟨g, cap, cur, hv, hg, ?_, r⟩
    rw [hk g (by rw [hv]; rfl)]; exact hh
theorem FOwn.fr0 (hT : T.Flat) (h : FOwn T e B w v xs) (hf : Fr [] w w') : FOwn T e B w' v xs := h.keep hT fun g hg => hf.block g (h.lt g hg).2 (by simp)
theorem FOwn.less {B' : Nat} (h : FOwn T e B w v xs) (hb : B' ≤ B) : FOwn T e B' w v xs := by
  obtain ⟨cs, ⟨h0, h1⟩, h2⟩ := h.ex
  refine ⟨cs, ⟨h0, ?_⟩, h2⟩
  rcases h1 with h1 | ⟨g, cap, cur, hv, hg, r⟩
  · exact .inl h1
  · exact .inr ⟨g, cap, cur, hv, Nat.le_trans hb hg, r⟩
theorem FOwn.form (h : FOwn T e B w v xs) : ∃ A c, v = .slice A xs.length c ∧ xs.length ≤ c ∧ c ≤ maxLen := by
  obtain ⟨cs, ⟨_, h1⟩, _⟩ := h.ex
  rcases h1 with ⟨rfl, h2⟩ | ⟨g, cap, cur, rfl, _, _, h3, h4, _⟩
  · exact ⟨none, 0, by rw [h2], by omega, by unfold maxLen; omega⟩
  · exact ⟨_, cap, rfl, h3, h4⟩
theorem FOwn.data (hT : T.Flat) (h : FOwn T e B w v xs) (hn : ∀ g, v.ownBlock = some g → g ∉ O) : T.slice.is O w v xs := by
  obtain ⟨cs, ⟨h0, h1⟩, h2⟩ := h.ex
  rcases h1 with ⟨rfl, hl⟩ | ⟨g, cap, cur, rfl, hg, hh, h3, h4, h5, h6⟩
  · have : xs = [] := List.eq_nil_of_length_eq_zero hl
    subst this
    exact slice_nil _ _ _
  · have h2' : RepAll T O w cs xs := repAll_flat hT h2
    exact slice_of_cells hh (hn g rfl) h2' (by rw [h2'.len]; exact h6) h3 h4
theorem FOwn.nil_ : FOwn T e B w (.slice none 0 0) [] := ⟨[], World.ownsRow_nil w B e T.n, rfl⟩
end
def SP.fown {α : Type} (T : Ty α) (hT : T.Flat) (e B : Nat) (xs : List α) : SP := ⟨fun w v => FOwn T e B w v xs, fun hf h => h.fr0 hT hf⟩
/-- a call's new row -/
theorem gives_fown {α : Type} {T : Ty α} {e B : Nat} {O : List Nat} {w w' : World} {zs : List α} {en : Ending} (hB : w.heap.size = B) (h : GivesOwn T e B O w (.slice none 0 0) zs en w') : Gives (fun _ w v zs => FOwn T e B w v zs) O w zs en w' := by
  subst hB
  obtain ⟨v', O', he, ap⟩ := h
  exact ⟨v', he, ap.own.fown, ap.fr0 Own.nil_ (Fr.refl [] w)⟩
/-- rows, one for each value; S: their blocks -/
def Forest {β : Type} (T : Ty β) (e B : Nat) (w : World) : List Nat → List (Int × Value) → List (Int × List β) → Prop
  | S, [], [] => S = []
  | S, x :: r, y :: r' => ∃ S2, x.1 = y.1 ∧ S = x.2.ownBlock.toList ++ S2 ∧ FOwn T e B w x.2 y.2 ∧ Forest T e B w S2 r r'
  | _, _, _ => False
section
variable {β : Type} {T : Ty β} {e B : Nat} {w w' : World}
theorem Forest.keep (hT : T.Flat) : ∀ {S : List Nat} {rs : List (Int × Value)} {xs : List (Int × List β)}, Forest T e B w S rs xs → (∀ g ∈ S, w'.heap[g]? = w.heap[g]?) → Forest T e B w' S rs xs
  | _, [], [], h, _ => h
  | _, _ :: _, _ :: _, ⟨S2, h1, h2, h3, h4⟩, hk => by
    subst h2
    exact ⟨S2, h1, rfl, h3.keep hT fun g hg => hk g (List.mem_append_left _ (by rw [hg]; simp)), Forest.keep hT h4 fun g hg => hk g (List.mem_append_right _ hg)⟩
  | _, [], _ :: _, h, _ => h.elim
  | _, _ :: _, [], h, _ => h.elim
theorem Forest.lt : ∀ {S : List Nat} {rs : List (Int × Value)} {xs : List (Int × List β)}, Forest T e B w S rs xs → ∀ g ∈ S, B ≤ g ∧ g < w.heap.size
  | _, [], [], h, g, hg => by rw [show _ = [] from h] at hg; cases hg
  | _, _ :: _, _ :: _, ⟨S2, h1, h2, h3, h4⟩, g, hg => by
    subst h2
    rcases List.mem_append.1 hg with hg | hg
    · exact h3.lt g (by simpa using hg)
    · exact Forest.lt h4 g hg
  | _, [], _ :: _, h, _, _ => h.elim
  | _, _ :: _, [], h, _, _ => h.elim
theorem Forest.fr0 (hT : T.Flat) {S : List Nat} {rs : List (Int × Value)} {xs : List (Int × List β)} (h : Forest T e B w S rs xs) (hf : Fr [] w w') : Forest T e B w' S rs xs := h.keep hT fun g hg => hf.block g (h.lt g hg).2 (by simp)
theorem Forest.len : ∀ {S : List Nat} {rs : List (Int × Value)} {xs : List (Int × List β)}, Forest T e B w S rs xs → rs.length = xs.length
  | _, [], [], _ => rfl
  | _, _ :: _, _ :: _, ⟨_, _, _, _, h4⟩ => by simp [Forest.len h4]
  | _, [], _ :: _, h => h.elim
  | _, _ :: _, [], h => h.elim
theorem Forest.app : ∀ {S S' : List Nat} {rs rs' : List (Int × Value)} {xs xs' : List (Int × List β)}, Forest T e B w S rs xs → Forest T e B w S' rs' xs' → Forest T e B w (S ++ S') (rs ++ rs') (xs ++ xs')
  | _, _, [], _, [], _, h, k => by rw [show _ = [] from h]; exact k
  | _, _, _ :: _, _, _ :: _, _, ⟨S2, h1, h2, h3, h4⟩, k => by subst h2; exact ⟨S2 ++ _, h1, by simp, h3, Forest.app h4 k⟩
  | _, _, [], _, _ :: _, _, h, _ => h.elim
  | _, _, _ :: _, _, [], _, h, _ => h.elim
/-- one of them -/
theorem Forest.at_ : ∀ {S : List Nat} {rs : List (Int × Value)} {xs : List (Int × List β)} {j : Nat} {x : Int × List β}, Forest T e B w S rs xs → xs[j]? = some x →
    ∃ v S1 S2, rs[j]? = some (x.1, v) ∧ S = S1 ++ v.ownBlock.toList ++ S2 ∧ FOwn T e B w v x.2 ∧
      ∀ {w' : World} {v' : Value} {ys : List β}, (∀ g ∈ S1 ++ S2, w'.heap[g]? = w.heap[g]?) → T.Flat → FOwn T e B w' v' ys → Forest T e B w' (S1 ++ v'.ownBlock.toList ++ S2) (rs.set j (x.1, v')) (xs.set j (x.1, ys))
  | _, [], [], _, _, _, hj => by simp at hj
  | _, r :: rs, y :: xs, 0, x, ⟨S2, h1, h2, h3, h4⟩, hj => by
    simp at hj
    subst hj
    refine ⟨r.2, [], S2, by simp [← h1], by simpa using h2, h3, fun {w' v' ys} hk hT hf => ?_⟩
    exact ⟨S2, rfl, by simp, hf, h4.keep hT fun g hg => hk g (by simpa using hg)⟩
  | _, r :: rs, y :: xs, j + 1, x, ⟨S2, h1, h2, h3, h4⟩, hj => by
    obtain ⟨v, U1, U2, e1, e2, e3, e4⟩ := Forest.at_ h4 (by simpa using hj)
    refine ⟨v, r.2.ownBlock.toList ++ U1, U2, by simpa using e1, by rw [h2, e2]; simp, e3, fun {w' v' ys} hk hT hf => ?_⟩
    exact ⟨U1 ++ v'.ownBlock.toList ++ U2, h1, by simp, h3.keep hT fun g hg => hk g (by simp [hg]), e4 (fun g hg => hk g (by simp at hg ⊢; exact .inr hg)) hT hf⟩
  | _, [], _ :: _, _, _, h, _ => h.elim
  | _, _ :: _, [], _, _, _, hj => by simp at hj
/-- one more, in its place -/
theorem Forest.ins : ∀ {S : List Nat} {rs : List (Int × Value)} {xs : List (Int × List β)} (j : Nat) (p : Int), j ≤ rs.length → Forest T e B w S rs xs → Forest T e B w S (rs.take j ++ [(p, .slice none 0 0)] ++ rs.drop j) (xs.take j ++ [(p, [])] ++ xs.drop j)
  | S, rs, xs, 0, p, _, h => by
    simp only [List.take_zero, List.nil_append, List.drop_zero, List.singleton_append]
    exact ⟨S, rfl, rfl, FOwn.nil_, h⟩
  | _, r :: rs, y :: xs, j + 1, p, hj, ⟨S2, h1, h2, h3, h4⟩ => by
    simp only [List.take_succ_cons, List.drop_succ_cons, List.cons_append]
    exact ⟨S2, h1, h2, h3, Forest.ins j p (by simpa using hj) h4⟩
  | _, [], _, j + 1, p, hj, _ => by simp at hj
  | _, _ :: _, [], j + 1, p, _, h => h.elim
end
end Go.Dc
