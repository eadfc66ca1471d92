/-
  Plain laws of package bucket: seams; twice as many buckets, and half as many.
-/
import Derived.Test.YtdemjanelbajlaaGLawB
namespace Go.Proofs.Ytdemjanelbajlaa
open Go.Dc

/-- goes it to an even one? -/
def ev2 (d : Nat) (k : Int) : Bool := bk (d + 1) k % 2 == 0
theorem seam1_eq (k : Int) {d : Nat} (hd : d = 2 ∨ d = 3 ∨ d = 4) : b_seam1 k (d : Int) = some (!ev2 d k) := by
  obtain ⟨h0, h1⟩ := hash_U k
  unfold b_seam1 ev2 bk
  rw [shl_eq _ d (by omega), Option.bind_some, Int.fdiv_eq_ediv_of_nonneg _ (Int.le_of_lt (Int.pow_pos (by omega)))]
  generalize b_Hash k = h at *
  congr 1
  have key : (h * 2 ^ d % 18446744073709551616 / 2 ^ 63 = 1) ↔ ¬ (h / 2 ^ (64 - (d + 1)) % 2 = 0) := by
    rcases hd with rfl | rfl | rfl <;> simp only [Nat.reduceAdd, Nat.reduceSub, Int.reducePow] <;> omega
  generalize h * 2 ^ d % 18446744073709551616 / 2 ^ 63 = p at *
  generalize h / 2 ^ (64 - (d + 1)) % 2 = q at *
  by_cases hk : q = 0
  · have := mt key.1 (by simpa using hk)
    simp [hk, this]
  · have := key.2 hk
    simp [hk, this]
theorem IndexFunc_l1 (f : Int → Option Bool) (p : Int → Bool) (hf : ∀ k, f k = some (!p k)) (q : Option Int) : ∀ (a b : List Int) (i : Nat), (∀ k ∈ a, p k = true) → (∀ k ∈ b, p k = false) →
    s_IndexFunc_l1 f q (a ++ b) i = if b = [] then q else some ((i + a.length : Nat) : Int)
  | [], [], i, _, _ => by simp [s_IndexFunc_l1]
  | [], k :: b, i, _, h => by
    have := h k List.mem_cons_self
    simp [s_IndexFunc_l1, hf, this]
  | k :: a, b, i, h, h2 => by
    have h1 := h k List.mem_cons_self
    simp only [List.cons_append, s_IndexFunc_l1, hf, Option.bind_some, h1, Bool.not_true, cond_false]
    rw [IndexFunc_l1 f p hf q a b (i + 1) (fun x hx => h x (List.mem_cons_of_mem _ hx)) h2]
    simp only [List.length_cons]
    rw [show i + 1 + a.length = i + (a.length + 1) by omega]
theorem seam_eq {d : Nat} (hd : d = 2 ∨ d = 3 ∨ d = 4) (a b : List Int) (ha : ∀ k ∈ a, ev2 d k = true) (hb : ∀ k ∈ b, ev2 d k = false) : b_seam (a ++ b) (d : Int) = some ((a.length : Nat) : Int) := by
  unfold b_seam s_IndexFunc
  simp only [letk]
  rw [IndexFunc_l1 _ (ev2 d) (fun k => seam1_eq k hd) _ a b 0 ha hb]
  by_cases he : b = []
  · subst he; simp
  · rw [if_neg he, Option.bind_some]
    have : decide (((0 + a.length : Nat) : Int) ≥ 0) = true := decide_eq_true (by omega)
    rw [this, cond_true, Nat.zero_add]
/-- a bucket, in two -/
def lo (d b : Nat) (s : List Int) : List Int := s.filter fun k => bk (d + 1) k == ((2 * b : Nat) : Int)
def hi (d b : Nat) (s : List Int) : List Int := s.filter fun k => bk (d + 1) k == ((2 * b + 1 : Nat) : Int)
theorem halves {d : Nat} (hd : d = 2 ∨ d = 3 ∨ d = 4) {s : List Int} (hs : SS s) (b : Nat) : (s.filter fun k => bk d k == (b : Int)) = lo d b s ++ hi d b s := by
  refine SS.ext (hs.filter _) ?_ fun k => ?_
  · unfold SS
    rw [List.pairwise_append]
    refine ⟨hs.filter _, hs.filter _, fun x hx y hy => ?_⟩
    have h1 := (List.mem_filter.1 hx).2
    have h2 := (List.mem_filter.1 hy).2
    simp at h1 h2
    exact bk_lt (d := d + 1) (by omega)
  · have := bk_half k hd
    simp only [lo, hi, List.mem_append, List.mem_filter, beq_iff_eq]
    constructor
    · rintro ⟨h1, h2⟩
      have : bk (d + 1) k = ((2 * b : Nat) : Int) ∨ bk (d + 1) k = ((2 * b + 1 : Nat) : Int) := by omega
      rcases this with h | h
      · exact .inl ⟨h1, h⟩
      · exact .inr ⟨h1, h⟩
    · rintro (⟨h1, h2⟩ | ⟨h1, h2⟩) <;> exact ⟨h1, by omega⟩
theorem lo_ev (d b : Nat) (s : List Int) : ∀ k ∈ lo d b s, ev2 d k = true := fun k hk => by
  have := (List.mem_filter.1 hk).2
  simp at this
  simp [ev2, this]
theorem hi_ev (d b : Nat) (s : List Int) : ∀ k ∈ hi d b s, ev2 d k = false := fun k hk => by
  have := (List.mem_filter.1 hk).2
  simp at this
  simp [ev2, this]
theorem seam_row {d : Nat} (hd : d = 2 ∨ d = 3 ∨ d = 4) {s : List Int} (hs : SS s) (b : Nat) : b_seam (s.filter fun k => bk d k == (b : Int)) (d : Int) = some (((lo d b s).length : Nat) : Int) := by
  rw [halves hd hs b, seam_eq hd _ _ (lo_ev d b s) (hi_ev d b s)]
theorem pairs {α : Type} (f : Nat → α) : ∀ n : Nat, (List.range (2 * n)).map f = (List.range n).flatMap fun b => [f (2 * b), f (2 * b + 1)]
  | 0 => rfl
  | n + 1 => by
    rw [show 2 * (n + 1) = 2 * n + 1 + 1 by omega, List.range_succ, List.range_succ, List.range_succ, List.map_append, List.map_append, List.flatMap_append, pairs f n]
    simp
theorem rowsOf_pairs (d : Nat) (s : List Int) : rowsOf (d + 1) s = (List.range (2 ^ d)).flatMap fun b => [lo d b s, hi d b s] := by
  have := pairs (fun b : Nat => s.filter fun k => bk (d + 1) k == (b : Int)) (2 ^ d)
  unfold rowsOf
  rw [show 2 ^ (d + 1) = 2 * 2 ^ d by rw [Nat.pow_succ]; omega]
  simpa only [lo, hi] using this
theorem copied_eq (l : List Int) (h : l.length ≤ 1000000) : b_copied l = some l := by
  unfold b_copied mkL
  rw [if_pos ⟨by omega, Int.le_refl _, by omega, by omega⟩]
  simp [cpy]
theorem cut_lo {α : Type} (a b : List α) : cutx (a ++ b) none (some ((a.length : Nat) : Int)) (some ((a.length : Nat) : Int)) = some a := by
  unfold cutx
  simp
  omega
theorem cut_lo' {α : Type} (a b : List α) : cutx (a ++ b) none (some ((a.length : Nat) : Int)) none = some a := by
  unfold cutx
  simp
  omega
theorem cut_hi {α : Type} (a b : List α) : cutx (a ++ b) (some ((a.length : Nat) : Int)) none none = some b := by
  unfold cutx
  simp
  exact ⟨by omega, by rw [List.take_of_length_le (by simp; omega)]; simp⟩
theorem Expand_l1 {n : Int} {d : Nat} (h : Dn n d) (x0 : List (List Int)) (hx : (x0.length : Int) = n) {s : List Int} (hs : SS s) (hl : s.length ≤ 1000000) (k : List (List Int) → Option (List (List Int) × Int)) :
    ∀ (r : List Nat) (i : Nat) (p : List (List Int)), p.length + 2 * r.length ≤ 1000 →
    b_Expand_l1 x0 k (r.map fun (b : Nat) => s.filter fun k => bk d k == (b : Int)) i p = k (p ++ r.flatMap fun b => [lo d b s, hi d b s])
  | [], i, p, _ => by simp [b_Expand_l1]
  | b :: r, i, p, hp => by
    simp only [List.length_cons] at hp
    have hlo : (lo d b s).length ≤ 1000000 := Nat.le_trans (List.length_filter_le _ _) hl
    have hhi : (hi d b s).length ≤ 1000000 := Nat.le_trans (List.length_filter_le _ _) hl
    simp only [List.map_cons, b_Expand_l1, hx, h.look, Option.getD_some]
    rw [seam_row h.d hs b, Option.bind_some, halves h.d hs b, cut_lo, Option.bind_some, copied_eq _ hlo, Option.bind_some, cut_hi, Option.bind_some, copied_eq _ hhi, Option.bind_some]
    rw [app_ok (by simp only [List.length_cons, List.length_nil]; omega), Option.bind_some, Expand_l1 h x0 hx hs hl k r (i + 1) _ (by simp; omega)]
    simp
theorem Expand_rows {n : Int} {d : Nat} (h : Dn n d) (hn : n ≠ 16) {s : List Int} (hU : UU s) (hs : SS s) (hl : s.length ≤ 1000000) : b_Expand (rowsOf d s) = some (rowsOf (d + 1) s, 0) := by
  have hx : ((rowsOf d s).length : Int) = n := by rw [rowsOf_len]; exact h.pow.symm
  have h2 : (2 : Nat) ^ d ≤ 16 := by rcases h.d with e | e | e <;> rw [e] <;> decide
  unfold b_Expand
  rw [Check_rows h hU hs hl, Option.bind_some]
  have : ((n : Int) == 16) = false := by simp [hn]
  simp only [bne_self_eq_false, cond_false, hx, this, letk]
  have := Expand_l1 h (rowsOf d s) hx hs hl (fun p17 => some (p17, 0)) (List.range (2 ^ d)) 0 [] (by simp; omega)
  rw [rowsOf_pairs]
  exact this
theorem Expand_16 {s : List Int} (hU : UU s) (hs : SS s) (hl : s.length ≤ 1000000) : b_Expand (rowsOf 4 s) = some ([], 6) := by
  have h : Dn 16 4 := .inr (.inr ⟨rfl, rfl⟩)
  unfold b_Expand
  rw [Check_rows h hU hs hl, Option.bind_some]
  rfl
theorem Expand_bad {l : List (List Int)} (h : b_Check l = some 280) : b_Expand l = some ([], 280) := by
  unfold b_Expand; rw [h]; rfl
theorem Shrink_bad {f : Nat} {l : List (List Int)} (h : b_Check l = some 280) : b_Shrink f l = some ([], 280) := by
  unfold b_Shrink; rw [h]; rfl
theorem Shrink_4 {f : Nat} {s : List Int} (hU : UU s) (hs : SS s) (hl : s.length ≤ 1000000) : b_Shrink f (rowsOf 2 s) = some ([], 2) := by
  have h : Dn 4 2 := .inl ⟨rfl, rfl⟩
  unfold b_Shrink
  rw [Check_rows h hU hs hl, Option.bind_some]
  rfl
theorem Shrink_l1 {d : Nat} (hd : d = 2 ∨ d = 3) {s : List Int} (hs : SS s) (hl : s.length ≤ 1000000) (k : List (List Int) → Option (List (List Int) × Int)) :
    ∀ (m j f : Nat), j + m = 2 ^ d → m < f → b_Shrink_l1 (rowsOf (d + 1) s) k f ((List.range j).map fun (b : Nat) => s.filter fun k => bk d k == (b : Int)) ((2 * j : Nat) : Int) = k (rowsOf d s)
  | 0, j, f, hj, hf => by
    obtain ⟨f, rfl⟩ : ∃ g, f = g + 1 := ⟨f - 1, by omega⟩
    have hc : decide (((2 * j : Nat) : Int) < ((rowsOf (d + 1) s).length : Int)) = false := by rw [rowsOf_len]; exact decide_eq_false (by rw [Nat.pow_succ]; omega)
    simp only [b_Shrink_l1, hc, cond_false]
    unfold rowsOf
    rw [← hj]
    rfl
  | m + 1, j, f, hj, hf => by
    obtain ⟨f, rfl⟩ : ∃ g, f = g + 1 := ⟨f - 1, by omega⟩
    have h8 : (2 : Nat) ^ d ≤ 8 := by rcases hd with e | e <;> rw [e] <;> decide
    have hp : (2 : Nat) ^ (d + 1) = 2 * 2 ^ d := by rw [Nat.pow_succ]; omega
    have hc : decide (((2 * j : Nat) : Int) < ((rowsOf (d + 1) s).length : Int)) = true := by rw [rowsOf_len]; exact decide_eq_true (by omega)
    have i1 : idx (rowsOf (d + 1) s) ((2 * j : Nat) : Int) = some (lo d j s) := by unfold idx; rw [if_pos (by omega), Int.toNat_natCast, rowsOf_get (by omega)]; rfl
    have w1 : IntKind.i64.wrap (((2 * j : Nat) : Int) + 1) = ((2 * j + 1 : Nat) : Int) := by rw [IntWalk.i64_in]; omega; omega
    have w2 : IntKind.i64.wrap (((2 * j : Nat) : Int) + 2) = ((2 * (j + 1) : Nat) : Int) := by rw [IntWalk.i64_in]; omega; omega
    have i2 : idx (rowsOf (d + 1) s) ((2 * j + 1 : Nat) : Int) = some (hi d j s) := by unfold idx; rw [if_pos (by omega), Int.toNat_natCast, rowsOf_get (by omega)]; rfl
    have hd3 : d = 2 ∨ d = 3 ∨ d = 4 := by omega
    have hh := halves hd3 hs j
    have hfl : ([lo d j s, hi d j s] : List (List Int)).flatten = s.filter fun k => bk d k == (j : Int) := by rw [hh]; simp
    have hcc : s_Concat [lo d j s, hi d j s] = some (s.filter fun k => bk d k == (j : Int)) := by
      rw [Concat_eq _ (by rw [hfl]; exact Nat.le_trans (List.length_filter_le _ _) hl), hfl]
    simp only [b_Shrink_l1, hc, cond_true, w1, w2, i1, i2, Option.bind_some, hcc]
    rw [app_ok (by simp only [List.length_cons, List.length_nil, List.length_map, List.length_range]; omega), Option.bind_some]
    have := Shrink_l1 hd hs hl k m (j + 1) f (by omega) (by omega)
    rw [List.range_succ, List.map_append] at this
    exact this
theorem Shrink_rows {f : Nat} {d : Nat} (hd : d = 2 ∨ d = 3) (hf : 8 < f) {s : List Int} (hU : UU s) (hs : SS s) (hl : s.length ≤ 1000000) : b_Shrink f (rowsOf (d + 1) s) = some (rowsOf d s, 0) := by
  have hD : Dn ((2 ^ (d + 1) : Nat) : Int) (d + 1) := by rcases hd with rfl | rfl <;> simp [Dn]
  have h8 : (2 : Nat) ^ d ≤ 8 := by rcases hd with e | e <;> rw [e] <;> decide
  unfold b_Shrink
  rw [Check_rows hD hU hs hl, Option.bind_some]
  have : (((rowsOf (d + 1) s).length : Int) == 4) = false := by rw [rowsOf_len]; rcases hd with rfl | rfl <;> rfl
  simp only [bne_self_eq_false, cond_false, this, letk]
  exact Shrink_l1 hd hs hl (fun p => some (p, 0)) (2 ^ d) 0 f (by omega) (by omega)
theorem Seam_rows {n : Int} {d : Nat} (h : Dn n d) {s : List Int} (hU : UU s) (hs : SS s) (hl : s.length ≤ 1000000) (b : Nat) (hb : b < 2 ^ d) : b_Seam (rowsOf d s) (b : Int) = some ((((lo d b s).length : Nat) : Int), 0) := by
  unfold b_Seam
  rw [Check_rows h hU hs hl, Option.bind_some]
  have h1 : decide ((b : Int) < 0) = false := decide_eq_false (by omega)
  have h2 : decide ((b : Int) ≥ n) = false := by have := h.pow; exact decide_eq_false (by omega)
  have hi : idx (rowsOf d s) (b : Int) = some (s.filter fun k => bk d k == (b : Int)) := by unfold idx; rw [if_pos (by omega), Int.toNat_natCast, rowsOf_get hb]
  have hx : ((rowsOf d s).length : Int) = n := by rw [rowsOf_len]; exact h.pow.symm
  simp only [bne_self_eq_false, cond_false, h1, h2, hi, Option.bind_some, hx, h.look, Option.getD_some]
  rw [seam_row h.d hs b, Option.bind_some]
theorem Seam_out {n : Int} {d : Nat} (h : Dn n d) {s : List Int} (hU : UU s) (hs : SS s) (hl : s.length ≤ 1000000) (b : Int) (hb : b < 0 ∨ n ≤ b) : b_Seam (rowsOf d s) b = some (0, 2) := by
  unfold b_Seam
  rw [Check_rows h hU hs hl, Option.bind_some]
  have hx : ((rowsOf d s).length : Int) = n := by rw [rowsOf_len]; exact h.pow.symm
  simp only [bne_self_eq_false, cond_false, hx]
  by_cases h1 : b < 0
  · rw [decide_eq_true h1]; rfl
  · rw [decide_eq_false h1, decide_eq_true (show b ≥ n by omega)]; rfl
theorem Seam_bad {l : List (List Int)} (h : b_Check l = some 280) (b : Int) : b_Seam l b = some (0, 280) := by
  unfold b_Seam; rw [h]; rfl

/-! ### The first line of each statement -/
theorem srt_4 : srt [3, 2, 1, 0] = [0, 2, 1, 3] := by decide +kernel
theorem UU_4 : UU [3, 2, 1, 0] := by decide
theorem rows2 : rowsOf 2 [0, 2, 1, 3] = [[0, 2], [], [1], [3]] := by decide +kernel
theorem rows3 : rowsOf 3 [0, 2, 1, 3] = [[0], [2], [], [], [1], [], [3], []] := by decide +kernel
theorem SS_4 : SS [0, 2, 1, 3] := by unfold SS; decide +kernel
theorem wakes_eq {f : Nat} (hf : 8 < f) : r_wakes f = some true := by
  have hU : UU [0, 2, 1, 3] := by decide
  have hl : ([0, 2, 1, 3] : List Int).length ≤ 1000000 := by decide
  have h2 : Dn 4 2 := .inl ⟨rfl, rfl⟩
  have e1 : b_Spread 4 [3, 2, 1, 0] = some (rowsOf 2 [0, 2, 1, 3], 0) := by rw [Spread_eq h2 UU_4 (by decide), srt_4]
  have e2 := Seam_rows h2 hU SS_4 hl 0 (by decide)
  have e3 := Expand_rows h2 (by decide) hU SS_4 hl
  have e4 := Shrink_rows (f := f) (d := 2) (.inl rfl) hf hU SS_4 hl
  have e5 : b_Of 1 5 = some (0, 2) := by rw [Of_eq]; rfl
  have e6 : b_Want 4 9 = (8, 0) := by decide +kernel
  have e7 : lo 2 0 [0, 2, 1, 3] = [0] := by decide +kernel
  have e8 : b_Key (b_Hash 7) = 7 := Key_Hash (by decide)
  have e9 : b_Hash 1 = 11400714819323198485 := by decide
  unfold r_wakes
  have z : ((0 : Nat) : Int) = 0 := rfl
  rw [z, rows2, e7] at e2
  rw [rows2] at e1 e3 e4
  rw [rows3] at e3 e4
  simp only [e1, e2, e3, e4, e5, e6, e8, e9, Option.bind_some, same_eq, Equal_eq]
  rfl
end Go.Proofs.Ytdemjanelbajlaa
