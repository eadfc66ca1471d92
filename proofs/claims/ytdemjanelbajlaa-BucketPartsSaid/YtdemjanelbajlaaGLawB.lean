/-
  Plain laws of package bucket: rows of buckets, spread, checked.
-/
import Derived.Test.YtdemjanelbajlaaGLawA
namespace Go.Proofs.Ytdemjanelbajlaa
open Go.Dc

theorem cmp_lt (x y : Int) : Go.Proofs.ltOf b_compare x y = decide (b_Hash x < b_Hash y) := by
  unfold Go.Proofs.ltOf b_compare
  by_cases h1 : b_Hash x < b_Hash y
  · simp [h1]
  · by_cases h2 : b_Hash x > b_Hash y <;> simp [h1, h2]
theorem cmp_swo : Go.Sort.SWO (Go.Proofs.ltOf b_compare) where
  irrefl x := by rw [cmp_lt]; simp
  trans x y z h1 h2 := by rw [cmp_lt] at *; simp at *; omega
  ntrans x y z h1 h2 := by rw [cmp_lt] at *; simp at *; omega
theorem sortedU_both (l : List Int) : (sortedU l).Perm l ∧ (sortedU l).Pairwise (fun a b => b_Hash a ≤ b_Hash b) := by
  have h := Go.Sort.pdq_sorts (Go.Proofs.ltOf b_compare) cmp_swo l.toArray 0 l.length (Go.Lib.bitLen l.length) true true (Nat.zero_le _) (by simp) (Or.inl rfl)
  obtain ⟨⟨h1, _, h2⟩, h3⟩ := h
  unfold sortedU
  generalize Go.Sort.pdq (Go.Proofs.ltOf b_compare) l.toArray 0 l.length (Go.Lib.bitLen l.length) true true = d at *
  have hs : d.size = l.length := by simpa using h1
  refine ⟨?_, ?_⟩
  · have e1 : (d.extract 0 l.length).toList = d.toList := by rw [← hs]; simp
    have e2 : (l.toArray.extract 0 l.length).toList = l := by simp
    rw [e1, e2] at h2
    exact h2
  · rw [List.pairwise_iff_getElem]
    intro i j hi hj hij
    have hj' : j < d.size := by simpa using hj
    have hi' : i < d.size := by simpa using hi
    have := h3 i j (Nat.zero_le _) hij (by omega)
    rw [getElem!_pos d j hj', getElem!_pos d i hi', cmp_lt] at this
    simp at this
    simpa using this
theorem sortedU_perm (l : List Int) : (sortedU l).Perm l := (sortedU_both l).1
theorem sortedU_sorted (l : List Int) : (sortedU l).Pairwise (fun a b => b_Hash a ≤ b_Hash b) := (sortedU_both l).2
abbrev UU (l : List Int) : Prop := ∀ a ∈ l, U a
/-- the rows of keys that stand in order -/
def rowsOf (d : Nat) (l : List Int) : List (List Int) := (List.range (2 ^ d)).map fun (b : Nat) => l.filter fun k => bk d k == (b : Int)
theorem rowsOf_len (d : Nat) (l : List Int) : (rowsOf d l).length = 2 ^ d := by simp [rowsOf]
theorem rowsOf_get {d : Nat} {l : List Int} {b : Nat} (h : b < 2 ^ d) : (rowsOf d l)[b]? = some (l.filter fun k => bk d k == (b : Int)) := by simp [rowsOf, h]
theorem app_ok {α : Type} {b : Nat} {xs ys : List α} (h : (xs.length + ys.length) * b ≤ 140737488355328) : app b xs ys = some (xs ++ ys) := by
  unfold app; rw [if_pos h]
theorem rowsOf_add {d : Nat} {l : List Int} {k : Int} {b : Nat} (hb : bk d k = (b : Int)) : rowsOf d (l ++ [k]) = (rowsOf d l).set b (l.filter (fun k => bk d k == (b : Int)) ++ [k]) := by
  apply List.ext_getElem?
  intro j
  by_cases hj : j < 2 ^ d
  · rw [rowsOf_get hj, List.getElem?_set]
    split
    · rename_i e; subst e
      rw [if_pos (by rw [rowsOf_len]; exact hj), List.filter_append]
      simp [hb]
    · rename_i e
      rw [rowsOf_get hj, List.filter_append]
      have : (bk d k == (j : Int)) = false := by simp [hb]; omega
      simp [this]
  · rw [List.getElem?_eq_none (by rw [rowsOf_len]; omega), List.getElem?_eq_none (by rw [List.length_set, rowsOf_len]; omega)]
theorem Spread_l1 {n : Int} {d : Nat} (h : Dn n d) : ∀ (rest pre : List Int), pre.length + rest.length ≤ 1000000 → b_Spread_l1 n rest (rowsOf d pre) = some (rowsOf d (pre ++ rest), 0)
  | [], pre, _ => by simp [b_Spread_l1]
  | k :: rest, pre, hl => by
    obtain ⟨h0, h1⟩ := bk_range k (d := d) (by rcases h.d with e | e | e <;> simp [e])
    obtain ⟨b, hb⟩ := Int.eq_ofNat_of_zero_le h0
    have hb' : b < 2 ^ d := by omega
    simp only [b_Spread_l1, h.look, Option.getD_some, at_eq k h.d, Option.bind_some]
    have hi : idx (rowsOf d pre) (bk d k) = some (pre.filter fun k => bk d k == (b : Int)) := by
      unfold idx
      rw [if_pos h0, hb, Int.toNat_natCast, rowsOf_get hb']
    have hf := List.length_filter_le (fun k => bk d k == (b : Int)) pre
    simp only [List.length_cons] at hl
    rw [hi, Option.bind_some, app_ok (by simp only [List.length_cons, List.length_nil]; omega), Option.bind_some, hb, Int.toNat_natCast, ← rowsOf_add hb, Spread_l1 h rest (pre ++ [k]) (by simp; omega)]
    simp
theorem sorted1_l1 : ∀ (l : List Int) (i : Nat), b_sorted1_l1 l i = l
  | [], i => rfl
  | a :: r, i => by simp only [b_sorted1_l1]; rw [sorted1_l1 r]
theorem Values_l1 : ∀ (l : List Int) (i : Nat), s_Values1_l1 l i = l
  | [], i => rfl
  | a :: r, i => by simp only [s_Values1_l1]; rw [Values_l1 r]
theorem AppendSeq_l1 : ∀ (r p : List Int), p.length + r.length ≤ 1000000 → s_AppendSeq_l1 r p = some (p ++ r)
  | [], p, _ => by simp [s_AppendSeq_l1]
  | a :: r, p, h => by
    simp only [List.length_cons] at h
    simp only [s_AppendSeq_l1]
    rw [app_ok (by simp only [List.length_cons, List.length_nil]; omega), Option.bind_some, AppendSeq_l1 r (p ++ [a]) (by simp; omega)]
    simp
theorem Collect_eq (l : List Int) (h : l.length ≤ 1000000) : s_Collect l = some l := by
  unfold s_Collect s_AppendSeq
  rw [AppendSeq_l1 l [] (by simpa using h)]
  rfl
theorem sorted_eq {l : List Int} (hU : UU l) (h : l.length ≤ 1000000) : b_sorted l = some (srt l) := by
  unfold b_sorted b_sorted1 s_SortedFunc s_Values s_Values1 s_Compact
  rw [Values_l1, Collect_eq l h, Option.bind_some, if_pos (by omega), Option.bind_some, Option.bind_some, Option.bind_some, sorted1_l1]
  have hp := sortedU_perm l
  have hU' : UU (sortedU l) := fun a ha => hU a (hp.mem_iff.1 ha)
  have : dedup (sortedU l) = srt l := SS.ext (dedup_SS hU' (sortedU_sorted l)) (srt_SS hU) fun k => by rw [dedup_mem, srt_mem hU]; exact hp.mem_iff
  rw [this]
theorem Spread_eq {n : Int} {d : Nat} (h : Dn n d) {l : List Int} (hU : UU l) (hl : l.length ≤ 1000000) : b_Spread n l = some (rowsOf d (srt l), 0) := by
  unfold b_Spread
  have hn : 0 ≤ n ∧ n ≤ 16 := by rcases h with ⟨h, _⟩ | ⟨h, _⟩ | ⟨h, _⟩ <;> omega
  have hm : mkL 24 n n ([] : List Int) = some (rowsOf d []) := by
    unfold mkL
    rw [if_pos ⟨hn.1, Int.le_refl _, by omega, by omega⟩]
    congr 1
    apply List.ext_getElem?
    intro j
    have hp := h.pow
    by_cases hj : j < 2 ^ d
    · rw [rowsOf_get hj, List.getElem?_replicate, if_pos (by omega)]; rfl
    · rw [List.getElem?_eq_none (by simp; omega), List.getElem?_eq_none (by rw [rowsOf_len]; omega)]
  have hs := srt_len l
  rw [h.look, hm, sorted_eq hU hl]
  simp only [Option.isSome_some, Bool.not_true, cond_false, Option.bind_some]
  rw [Spread_l1 h (srt l) [] (by simp; omega)]
  rfl
theorem Spread_no {n : Int} (h : lookM depths n = none) (l : List Int) : b_Spread n l = some ([], 2) := by
  unfold b_Spread; rw [h]; rfl

/-! ### Are they the same? -/
theorem Equal_l1 (y : List Int) (k : Option Bool) : ∀ (r : List Int) (i : Nat), i + r.length ≤ y.length → s_Equal_l1 y k r i = if r = (y.drop i).take r.length then k else some false
  | [], i, _ => by simp [s_Equal_l1]
  | a :: r, i, h => by
    simp only [List.length_cons] at h
    obtain ⟨b, hb⟩ : ∃ b, y[i]? = some b := ⟨_, List.getElem?_eq_getElem (by omega)⟩
    have hd : y.drop i = b :: y.drop (i + 1) := by
      rw [List.drop_eq_getElem_cons (by omega)]
      rw [List.getElem?_eq_getElem (by omega)] at hb
      simp at hb
      rw [hb]
    have hi : idx y (i : Int) = some b := by unfold idx; rw [if_pos (by omega), Int.toNat_natCast, hb]
    simp only [s_Equal_l1, hi, Option.bind_some]
    rw [Equal_l1 y k r (i + 1) (by omega), hd, List.length_cons, List.take_succ_cons]
    by_cases hab : a = b
    · subst hab; simp
    · have : (a != b) = true := by simp [hab]
      rw [this]; simp [hab]
theorem Equal_eq (x y : List Int) : s_Equal x y = some (decide (x = y)) := by
  unfold s_Equal
  by_cases h : x.length = y.length
  · have : ((x.length : Int) != (y.length : Int)) = false := by simp [h]
    rw [this]
    simp only [cond_false, letk]
    rw [Equal_l1 y _ x 0 (by omega)]
    have : (y.drop 0).take x.length = y := by rw [List.drop_zero, h, List.take_length]
    rw [this]
    by_cases e : x = y <;> simp [e]
  · have : ((x.length : Int) != (y.length : Int)) = true := by simp; omega
    rw [this]
    have hne : x ≠ y := fun e => h (by rw [e])
    simp [hne]
theorem EqualFunc_l1 (y : List (List Int)) (k : Option Bool) : ∀ (r : List (List Int)) (i : Nat), i + r.length ≤ y.length →
    s_EqualFunc_l1 y (fun z0 z1 => s_Equal z0 z1) k r i = if r = (y.drop i).take r.length then k else some false
  | [], i, _ => by simp [s_EqualFunc_l1]
  | a :: r, i, h => by
    simp only [List.length_cons] at h
    obtain ⟨b, hb⟩ : ∃ b, y[i]? = some b := ⟨_, List.getElem?_eq_getElem (by omega)⟩
    have hd : y.drop i = b :: y.drop (i + 1) := by
      rw [List.drop_eq_getElem_cons (by omega)]
      rw [List.getElem?_eq_getElem (by omega)] at hb
      simp at hb
      rw [hb]
    have hi : idx y (i : Int) = some b := by unfold idx; rw [if_pos (by omega), Int.toNat_natCast, hb]
    simp only [s_EqualFunc_l1, hi, Option.bind_some]
    rw [EqualFunc_l1 y k r (i + 1) (by omega), hd, List.length_cons, List.take_succ_cons, Equal_eq, Option.bind_some]
    by_cases hab : a = b
    · subst hab; simp
    · simp [hab]
theorem EqualFunc_eq (x y : List (List Int)) : s_EqualFunc x y (fun z0 z1 => s_Equal z0 z1) = some (decide (x = y)) := by
  unfold s_EqualFunc
  by_cases h : x.length = y.length
  · have : ((x.length : Int) != (y.length : Int)) = false := by simp [h]
    rw [this]
    simp only [cond_false, letk]
    rw [EqualFunc_l1 y _ x 0 (by omega)]
    have : (y.drop 0).take x.length = y := by rw [List.drop_zero, h, List.take_length]
    rw [this]
    by_cases e : x = y <;> simp [e]
  · have : ((x.length : Int) != (y.length : Int)) = true := by simp; omega
    rw [this]
    have hne : x ≠ y := fun e => h (by rw [e])
    simp [hne]
theorem same_eq (x y : List (List Int)) : same x y = some (decide (x = y)) := by
  unfold same
  rw [EqualFunc_eq]
  rfl

/-! ### All in one row -/
theorem Concat_l1 (k : List Int → Option (List Int)) : ∀ (r : List (List Int)) (i : Nat) (p : List Int), p.length + r.flatten.length ≤ 1000000 → s_Concat_l1 k r i p = k (p ++ r.flatten)
  | [], i, p, _ => by simp [s_Concat_l1]
  | a :: r, i, p, h => by
    simp only [List.flatten_cons, List.length_append] at h
    simp only [s_Concat_l1]
    rw [app_ok (by omega), Option.bind_some, Concat_l1 k r (i + 1) (p ++ a) (by rw [List.length_append]; omega)]
    simp
theorem Concat_l2 (k : Int → Option (List Int)) : ∀ (r : List (List Int)) (i : Nat) (p : Nat), p + r.flatten.length ≤ 1000000 → s_Concat_l2 k r i (p : Int) = k ((p + r.flatten.length : Nat) : Int)
  | [], i, p, _ => by simp [s_Concat_l2]
  | a :: r, i, p, h => by
    simp only [List.flatten_cons, List.length_append] at h
    have hw : IntKind.i64.wrap ((p : Int) + (a.length : Int)) = ((p + a.length : Nat) : Int) := by rw [IntWalk.i64_in]; omega; omega
    simp only [s_Concat_l2, hw]
    rw [Concat_l2 k r (i + 1) (p + a.length) (by omega)]
    have : decide (((p + a.length : Nat) : Int) < 0) = false := decide_eq_false (by omega)
    simp only [this, cond_false, List.flatten_cons, List.length_append, Nat.add_assoc]
theorem Concat_eq (l : List (List Int)) (h : l.flatten.length ≤ 1000000) : s_Concat l = some l.flatten := by
  unfold s_Concat
  simp only [letk]
  have := Concat_l2 (fun p7 => ((s_Grow p7).bind fun z10 => s_Concat_l1 (fun p22 => some p22) l 0 z10)) l 0 0 (by simpa using h)
  rw [show ((0 : Nat) : Int) = 0 from rfl] at this
  rw [this]
  have hg : s_Grow ((0 + l.flatten.length : Nat) : Int) = some [] := by unfold s_Grow; rw [if_pos ⟨by omega, by omega⟩]
  rw [hg, Option.bind_some, Concat_l1 _ l 0 [] (by simpa using h)]
  rfl

/-- is it a row of buckets? -/
def Row (d : Nat) (l : List (List Int)) : Prop := l = rowsOf d (srt l.flatten)
theorem Check_ok {l : List (List Int)} {d : Nat} (h : Dn l.length d) (hU : UU l.flatten) (hl : l.flatten.length ≤ 1000000) : b_Check l = some (if l = rowsOf d (srt l.flatten) then 0 else 280) := by
  unfold b_Check
  rw [Concat_eq l hl, Option.bind_some, Spread_eq h hU hl, Option.bind_some]
  simp only [bne_self_eq_false, cond_false, EqualFunc_eq, Option.bind_some]
  by_cases e : l = rowsOf d (srt l.flatten)
  · rw [if_pos e, decide_eq_true e]; rfl
  · rw [if_neg e, decide_eq_false e]; rfl
theorem Check_no {l : List (List Int)} (h : lookM depths l.length = none) (hl : l.flatten.length ≤ 1000000) : b_Check l = some 280 := by
  unfold b_Check
  rw [Concat_eq l hl, Option.bind_some, Spread_no h, Option.bind_some]
  rfl

/-! ### Rows that lie in order, and the whole -/
theorem bk_lt {a b : Int} {d : Nat} (h : bk d a < bk d b) : b_Hash a < b_Hash b := by
  apply Classical.byContradiction
  intro hn
  have := bk_mono d (show b_Hash b ≤ b_Hash a by omega)
  omega
theorem SS.flat {d : Nat} {l : List Int} (h : SS l) : SS (rowsOf d l).flatten := by
  unfold SS rowsOf
  rw [List.pairwise_flatten]
  constructor
  · intro r hr
    obtain ⟨b, _, e⟩ := List.mem_map.1 hr
    subst e
    exact h.filter _
  · rw [List.pairwise_map]
    refine List.Pairwise.imp ?_ List.pairwise_lt_range
    intro a b hab x hx y hy
    have h1 := (List.mem_filter.1 hx).2
    have h2 := (List.mem_filter.1 hy).2
    simp at h1 h2
    exact bk_lt (d := d) (by omega)
theorem flat_mem {d : Nat} (hd : d = 2 ∨ d = 3 ∨ d = 4 ∨ d = 5) {l : List Int} (k : Int) : k ∈ (rowsOf d l).flatten ↔ k ∈ l := by
  unfold rowsOf
  rw [List.mem_flatten]
  constructor
  · rintro ⟨r, hr, hk⟩
    obtain ⟨b, _, e⟩ := List.mem_map.1 hr
    subst e
    exact (List.mem_filter.1 hk).1
  · intro hk
    obtain ⟨h0, h1⟩ := bk_range k hd
    obtain ⟨b, hb⟩ := Int.eq_ofNat_of_zero_le h0
    exact ⟨_, List.mem_map.2 ⟨b, List.mem_range.2 (by omega), rfl⟩, List.mem_filter.2 ⟨hk, by simp [hb]⟩⟩
theorem flat_eq {d : Nat} (hd : d = 2 ∨ d = 3 ∨ d = 4 ∨ d = 5) {l : List Int} (h : SS l) : (rowsOf d l).flatten = l := SS.ext h.flat h (flat_mem hd)
theorem Check_rows {n : Int} {d : Nat} (h : Dn n d) {s : List Int} (hU : UU s) (hs : SS s) (hl : s.length ≤ 1000000) : b_Check (rowsOf d s) = some 0 := by
  have hd : d = 2 ∨ d = 3 ∨ d = 4 ∨ d = 5 := by rcases h.d with e | e | e <;> simp [e]
  have hf := flat_eq hd hs
  have hn : Dn ((rowsOf d s).length : Int) d := by rw [rowsOf_len, ← h.pow]; exact h
  rw [Check_ok hn (by rw [hf]; exact hU) (by rw [hf]; exact hl), hf, srt_id hU hs, if_pos rfl]
end Go.Proofs.Ytdemjanelbajlaa
