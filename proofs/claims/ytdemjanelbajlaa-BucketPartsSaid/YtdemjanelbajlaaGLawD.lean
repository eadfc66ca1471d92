/-
  The plain laws of the statements BucketKeys, BucketWants, BucketSteady, BucketTurns, BucketOrder.
-/
import Derived.Test.YtdemjanelbajlaaGLawC
namespace Go.Proofs.Ytdemjanelbajlaa
open Go.Dc

theorem Keys_true {f : Nat} (hf : 8 < f) {a b : Int} (ha : U a) (hb : U b) : l_Keys f a b = some true := by
  unfold l_Keys
  rw [wakes_eq hf, Option.bind_some]
  have h : ((b_Hash a == b_Hash b) == (a == b)) = true := by
    by_cases e : a = b
    · subst e; simp
    · have h1 : (b_Hash a == b_Hash b) = false := by simpa using fun h => e (Hash_inj ha hb h)
      have h2 : (a == b) = false := by simpa using e
      rw [h1, h2]; rfl
  simp only [Bool.not_true, cond_false, Key_Hash ha, Hash_Key hb, beq_self_eq_true, cond_true, h, Hash_add]
theorem Want_eq (n k : Int) (hn : -9223372036854775808 ≤ n ∧ n < 9223372036854775808) (hk : -9223372036854775808 ≤ k ∧ k < 9223372036854775808) : b_Want n k =
    if r_May n = true ∧ 0 ≤ k then (if k > 2 * n ∧ n < 16 then 2 * n else if 2 * k < n ∧ n > 4 then n / 2 else n, 0) else (0, 2) := by
  unfold b_Want
  simp only [letk]
  cases hm : r_May n with
  | false => 
    rw [May_eq] at hm
    rw [hm]
    simp
  | true =>
    obtain ⟨d, hd⟩ := (May_iff n).1 hm
    rw [May_eq] at hm
    rw [hm]
    simp only [Bool.not_true, cond_false, true_and]
    by_cases h0 : k < 0
    · simp [h0]
    · have w1 : IntKind.i64.wrap (2 * n) = 2 * n := by rw [IntWalk.i64_in]; rcases hd with ⟨rfl, _⟩ | ⟨rfl, _⟩ | ⟨rfl, _⟩ <;> omega
      have w2 : IntKind.i64.wrap (n.tdiv 2) = n / 2 := by rcases hd with ⟨rfl, _⟩ | ⟨rfl, _⟩ | ⟨rfl, _⟩ <;> rfl
      rw [w1, w2]
      simp only [h0, decide_false, cond_false]
      rw [if_pos (by omega)]
      by_cases h1 : k > 2 * n
      · by_cases h2 : n < 16
        · simp [h1, h2]
        · have h3 : ¬ k < n / 2 := by omega
          have h4 : ¬ 2 * k < n := by omega
          simp [h1, h2, h3, h4]
      · by_cases h3 : k < n / 2
        · have h4 : 2 * k < n := by rcases hd with ⟨rfl, _⟩ | ⟨rfl, _⟩ | ⟨rfl, _⟩ <;> omega
          by_cases h5 : n > 4 <;> simp [h1, h3, h4, h5]
        · have h4 : ¬ 2 * k < n := by rcases hd with ⟨rfl, _⟩ | ⟨rfl, _⟩ | ⟨rfl, _⟩ <;> omega
          simp [h1, h3, h4]
theorem Want_ref (n k : Int) (hm : r_May n = true) (hk : 0 ≤ k ∧ k ≤ 1000) : r_Want n k = if k > 2 * n ∧ n < 16 then 2 * n else if 2 * k < n ∧ n > 4 then n / 2 else n := by
  unfold r_Want
  simp only [letk]
  obtain ⟨d, hd⟩ := (May_iff n).1 hm
  have w1 : IntKind.i64.wrap (2 * n) = 2 * n := by rw [IntWalk.i64_in]; rcases hd with ⟨rfl, _⟩ | ⟨rfl, _⟩ | ⟨rfl, _⟩ <;> omega
  have w2 : IntKind.i64.wrap (n.tdiv 2) = n / 2 := by rcases hd with ⟨rfl, _⟩ | ⟨rfl, _⟩ | ⟨rfl, _⟩ <;> rfl
  have w3 : IntKind.i64.wrap (2 * k) = 2 * k := by rw [IntWalk.i64_in]; omega
  rw [w1, w2, w3]
  by_cases h1 : k > 2 * n
  · by_cases h2 : n < 16
    · simp [h1, h2]
    · have h4 : ¬ 2 * k < n := by omega
      simp [h1, h2, h4]
  · by_cases h4 : 2 * k < n
    · by_cases h5 : n > 4 <;> simp [h1, h4, h5]
    · simp [h1, h4]
abbrev I64 (n : Int) : Prop := -9223372036854775808 ≤ n ∧ n < 9223372036854775808
theorem Wants_l1 : ∀ (l : List GPair) (i : Nat), (∀ p ∈ l, I64 p.f0 ∧ I64 p.f1) → l_Wants_l1 (some true) l i = some true
  | [], i, _ => rfl
  | p :: r, i, h => by
    obtain ⟨h0, h1⟩ := h p List.mem_cons_self
    have ih := Wants_l1 r (i + 1) (fun q hq => h q (List.mem_cons_of_mem _ hq))
    have hmin : (if (1000 : Int) < p.f1 then (1000 : Int) else p.f1) = min p.f1 1000 := by split <;> omega
    simp only [l_Wants_l1, letk, ih, Want_eq _ _ h0 h1, hmin]
    cases hi : ((i : Int) == 20) with
    | true => rfl
    | false =>
      simp only [cond_false]
      cases hm : r_May p.f0 with
      | false => simp
      | true =>
        simp only [cond_true, true_and]
        by_cases hk : 0 ≤ p.f1
        · rw [if_pos hk, decide_eq_true (show p.f1 ≥ 0 from hk), Want_ref _ _ hm ⟨by omega, by omega⟩]
          obtain ⟨d, hd⟩ := (May_iff _).1 hm
          have e1 : (min p.f1 1000 > 2 * p.f0) ↔ (p.f1 > 2 * p.f0) := by rcases hd with ⟨e, _⟩ | ⟨e, _⟩ | ⟨e, _⟩ <;> rw [e] <;> omega
          have e2 : (2 * min p.f1 1000 < p.f0) ↔ (2 * p.f1 < p.f0) := by rcases hd with ⟨e, _⟩ | ⟨e, _⟩ | ⟨e, _⟩ <;> rw [e] <;> omega
          simp only [e1, e2, cond_true, bne_self_eq_false, cond_false]
        · rw [if_neg hk, decide_eq_false (show ¬ p.f1 ≥ 0 from hk)]
          simp
theorem Wants_true {f : Nat} (hf : 8 < f) {l : List GPair} (h : ∀ p ∈ l, I64 p.f0 ∧ I64 p.f1) : l_Wants f l = some true := by
  unfold l_Wants
  rw [wakes_eq hf, Option.bind_some]
  simp only [Bool.not_true, cond_false, letk]
  exact Wants_l1 l 0 h
theorem Steady_true {f : Nat} (hf : 8 < f) {n k : Int} (hn : I64 n) (hk : I64 k) : l_Steady f n k = some true := by
  unfold l_Steady
  rw [wakes_eq hf, Option.bind_some]
  simp only [Bool.not_true, cond_false]
  rw [Want_eq n k hn hk]
  by_cases hc : r_May n = true ∧ 0 ≤ k
  · rw [if_pos hc]
    obtain ⟨hm, h0⟩ := hc
    obtain ⟨d, hd⟩ := (May_iff _).1 hm
    simp only [bne_self_eq_false, cond_false]
    obtain ⟨m, hmm⟩ : ∃ m, m = (if k > 2 * n ∧ n < 16 then 2 * n else if 2 * k < n ∧ n > 4 then n / 2 else n) := ⟨_, rfl⟩
    rw [← hmm]
    have hmay : r_May m = true := by
      rw [May_iff]
      rcases hd with ⟨rfl, _⟩ | ⟨rfl, _⟩ | ⟨rfl, _⟩
      · have : m = 4 ∨ m = 8 := by rw [hmm]; split <;> (try split) <;> omega
        rcases this with e | e
        · exact ⟨2, .inl ⟨e, rfl⟩⟩
        · exact ⟨3, .inr (.inl ⟨e, rfl⟩)⟩
      · have : m = 4 ∨ m = 8 ∨ m = 16 := by rw [hmm]; split <;> (try split) <;> omega
        rcases this with e | e | e
        · exact ⟨2, .inl ⟨e, rfl⟩⟩
        · exact ⟨3, .inr (.inl ⟨e, rfl⟩)⟩
        · exact ⟨4, .inr (.inr ⟨e, rfl⟩)⟩
      · have : m = 8 ∨ m = 16 := by rw [hmm]; split <;> (try split) <;> omega
        rcases this with e | e
        · exact ⟨3, .inr (.inl ⟨e, rfl⟩)⟩
        · exact ⟨4, .inr (.inr ⟨e, rfl⟩)⟩
    have hm64 : I64 m := by
      obtain ⟨d', hd'⟩ := (May_iff _).1 hmay
      rcases hd' with ⟨rfl, _⟩ | ⟨rfl, _⟩ | ⟨rfl, _⟩ <;> exact ⟨by omega, by omega⟩
    rw [Want_eq m k hm64 hk, if_pos ⟨hmay, h0⟩]
    have hcases : (n = 4 ∨ n = 8 ∨ n = 16) ∧ (m = 4 ∨ m = 8 ∨ m = 16) := by
      obtain ⟨d', hd'⟩ := (May_iff _).1 hmay
      constructor
      · rcases hd with ⟨e, _⟩ | ⟨e, _⟩ | ⟨e, _⟩ <;> simp [e]
      · rcases hd' with ⟨e, _⟩ | ⟨e, _⟩ | ⟨e, _⟩ <;> simp [e]
    have w1 : IntKind.i64.wrap (2 * n) = 2 * n := by rw [IntWalk.i64_in]; omega
    have w2 : IntKind.i64.wrap (2 * m) = 2 * m := by rw [IntWalk.i64_in]; omega
    obtain ⟨q, hq⟩ : ∃ q, q = (if k > 2 * m ∧ m < 16 then 2 * m else if 2 * k < m ∧ m > 4 then m / 2 else m) := ⟨_, rfl⟩
    rw [← hq]
    simp only [bne_self_eq_false, cond_false, w1, w2]
    by_cases hgt : m > n
    · have e1 : m = 2 * n := by rw [hmm] at hgt ⊢; split at hgt <;> (try split at hgt) <;> first | rfl | omega
      have e2 : q ≥ m := by
        rw [hq]
        split
        · omega
        · split
          · rw [hmm] at *; split at hgt <;> (try split at hgt) <;> omega
          · omega
      have e3 : (m == 2 * n) = true := by simpa using e1
      rw [decide_eq_true hgt, e3, decide_eq_true e2]
      rfl
    · simp only [decide_eq_false hgt, cond_false]
      by_cases hlt : m < n
      · have e1 : 2 * m = n := by rw [hmm] at hlt ⊢; split at hlt <;> (try split at hlt) <;> omega
        have e2 : q ≤ m := by
          rw [hq]
          split
          · rw [hmm] at *; split at hlt <;> (try split at hlt) <;> omega
          · split <;> omega
        have e3 : (2 * m == n) = true := by simpa using e1
        rw [decide_eq_true hlt, e3, decide_eq_true e2]
        rfl
      · have e : m = n := by omega
        have : q = m := by rw [hq, e, ← hmm, e]
        simp only [decide_eq_false hlt, cond_false, this, beq_self_eq_true]
  · rw [if_neg hc]
    rfl

/-! ### A row of rows of the call's own -/
theorem Clone_eq (x : List Int) (h : x.length ≤ 1000000) : s_Clone x = some x := by
  unfold s_Clone
  rw [app_ok (by simp; omega)]
  rfl
theorem cut_to {α : Type} (x : List α) (n : Nat) : cutx x none (some (if (n : Int) < (x.length : Int) then (n : Int) else (x.length : Int))) none = some (x.take n) := by
  have hm : (if (n : Int) < (x.length : Int) then (n : Int) else (x.length : Int)) = ((min n x.length : Nat) : Int) := by split <;> omega
  rw [hm]
  unfold cutx
  have e : ((min n x.length : Nat) : Int).toNat = min n x.length := Int.toNat_natCast _
  simp only [Option.getD_none, Option.getD_some, e]
  rw [if_pos ⟨Int.le_refl _, by omega, by omega, by omega, by omega, by simp⟩]
  congr 1
  apply List.ext_getElem?
  intro j
  simp only [Int.toNat_zero, List.drop_zero, List.getElem?_take]
  by_cases h1 : j < n
  · by_cases h2 : j < x.length
    · rw [if_pos (by omega), if_pos h1]
    · rw [if_neg (by omega), if_pos h1, List.getElem?_eq_none (by omega)]
  · rw [if_neg (by omega), if_neg h1]
theorem own_l1_eq (k : List (List Int) → Option (List (List Int))) : ∀ (r : List (List Int)) (i : Nat) (p : List (List Int)), p.length + r.length ≤ 1000000 → own_l1 k r i p = k (p ++ r.map (·.take 24))
  | [], i, p, _ => by simp [own_l1]
  | a :: r, i, p, h => by
    simp only [List.length_cons] at h
    have h1 := cut_to a 24
    rw [show ((24 : Nat) : Int) = 24 from rfl] at h1
    simp only [own_l1]
    rw [h1, Option.bind_some, Clone_eq _ (by simp; omega), Option.bind_some, app_ok (by simp only [List.length_cons, List.length_nil]; omega), Option.bind_some, own_l1_eq k r (i + 1) _ (by simp; omega)]
    simp
def ownL (x : List (List Int)) : List (List Int) := (x.take 33).map (·.take 24)
theorem own_eq (x : List (List Int)) : own x = some (ownL x) := by
  unfold own
  have h1 := cut_to x 33
  rw [show ((33 : Nat) : Int) = 33 from rfl] at h1
  simp only [letk]
  rw [h1, Option.bind_some, own_l1_eq _ _ _ _ (by simp; omega)]
  rfl
theorem ownL_flat (x : List (List Int)) : (ownL x).flatten.length ≤ 792 := by
  unfold ownL
  have : ∀ r : List (List Int), (r.map (·.take 24)).flatten.length ≤ r.length * 24 := by
    intro r
    induction r with
    | nil => simp
    | cons a r ih => simp only [List.map_cons, List.flatten_cons, List.length_append, List.length_take, List.length_cons]; omega
  have := this (x.take 33)
  have h2 : (x.take 33).length ≤ 33 := by simp; omega
  omega
theorem ownL_U {x : List (List Int)} (h : ∀ r ∈ x, UU r) : UU (ownL x).flatten := fun a ha => by
  obtain ⟨r, hr, ha⟩ := List.mem_flatten.1 ha
  obtain ⟨q, hq, e⟩ := List.mem_map.1 hr
  subst e
  exact h q (List.mem_of_mem_take hq) a (List.mem_of_mem_take ha)
/-- either it is a row of buckets, or not -/
theorem Check_cases {l : List (List Int)} (hU : UU l.flatten) (hl : l.flatten.length ≤ 1000000) :
    b_Check l = some 280 ∨ ∃ d s, Dn (l.length : Int) d ∧ l = rowsOf d s ∧ UU s ∧ SS s ∧ s.length ≤ 1000000 ∧ b_Check l = some 0 := by
  rcases Dn.of (l.length : Int) with ⟨d, h⟩ | ⟨_, h⟩
  · rw [Check_ok h hU hl]
    split
    · rename_i e
      exact .inr ⟨d, srt l.flatten, h, e, srt_U hU, srt_SS hU, Nat.le_trans (srt_len _) hl, rfl⟩
    · exact .inl rfl
  · exact .inl (Check_no h hl)
theorem Turns_l1_eq {n : Int} {d : Nat} (h : Dn n d) (hn : n ≠ 16) {s : List Int} (hU : UU s) (hs : SS s) (hl : s.length ≤ 1000000) : ∀ (m i : Nat), i + m = 2 ^ d →
    l_Turns_l1 (rowsOf d s) (rowsOf (d + 1) s, 0) (some true) ((rowsOf d s).drop i) i = some true
  | 0, i, hi => by
    have : (rowsOf d s).drop i = [] := List.drop_of_length_le (by rw [rowsOf_len]; omega)
    rw [this]; rfl
  | m + 1, i, hi => by
    have h8 : (2 : Nat) ^ d ≤ 8 := by rcases h with ⟨rfl, rfl⟩ | ⟨rfl, rfl⟩ | ⟨rfl, rfl⟩ <;> first | decide | exact absurd rfl hn
    have hp : (2 : Nat) ^ (d + 1) = 2 * 2 ^ d := by rw [Nat.pow_succ]; omega
    have hd : (rowsOf d s).drop i = (s.filter fun k => bk d k == (i : Int)) :: (rowsOf d s).drop (i + 1) := by
      rw [List.drop_eq_getElem_cons (by rw [rowsOf_len]; omega)]
      have := rowsOf_get (d := d) (l := s) (b := i) (by omega)
      rw [List.getElem?_eq_getElem (by rw [rowsOf_len]; omega)] at this
      simp only [Option.some.injEq] at this
      rw [this]
    have ih := Turns_l1_eq h hn hU hs hl m (i + 1) (by omega)
    have hh := halves h.d hs i
    have w1 : IntKind.i64.wrap (2 * (i : Int)) = ((2 * i : Nat) : Int) := by rw [IntWalk.i64_in]; omega; omega
    have w2 : IntKind.i64.wrap (((2 * i : Nat) : Int) + 1) = ((2 * i + 1 : Nat) : Int) := by rw [IntWalk.i64_in]; omega; omega
    have i1 : idx (rowsOf (d + 1) s) ((2 * i : Nat) : Int) = some (lo d i s) := by unfold idx; rw [if_pos (by omega), Int.toNat_natCast, rowsOf_get (by omega)]; rfl
    have i2 : idx (rowsOf (d + 1) s) ((2 * i + 1 : Nat) : Int) = some (Go.Proofs.Ytdemjanelbajlaa.hi d i s) := by unfold idx; rw [if_pos (by omega), Int.toNat_natCast, rowsOf_get (by omega)]; rfl
    rw [hd, hh]
    have c1 : decide ((((lo d i s).length : Nat) : Int) < 0) = false := decide_eq_false (by omega)
    have c2 : decide ((((lo d i s).length : Nat) : Int) > ((lo d i s ++ Go.Proofs.Ytdemjanelbajlaa.hi d i s).length : Int)) = false := decide_eq_false (by rw [List.length_append]; omega)
    simp only [l_Turns_l1, Seam_rows h hU hs hl i (by omega), Option.bind_some, bne_self_eq_false, cond_false, c1, c2, w1, w2, i1, i2, cut_lo', cut_hi, Equal_eq, decide_true, Bool.not_true]
    exact ih
theorem Turns_true {f : Nat} (hf : 8 < f) {x : List (List Int)} (hx : ∀ r ∈ x, UU r) : l_Turns f x = some true := by
  unfold l_Turns
  rw [wakes_eq hf, Option.bind_some, own_eq]
  simp only [Bool.not_true, cond_false, Option.bind_some, letk]
  have hU := ownL_U hx
  have hl := ownL_flat x
  generalize ownL x = l at *
  rcases Check_cases hU (by omega) with hc | ⟨d, s, hd, e, hsU, hsS, hsl, hc⟩
  · rw [Expand_bad hc, hc]
    rfl
  · by_cases h16 : (l.length : Int) = 16
    · have h4 : d = 4 := by rcases hd with ⟨h, _⟩ | ⟨h, _⟩ | ⟨_, h⟩ <;> omega
      subst h4
      have he := Expand_16 hsU hsS hsl
      rw [← e] at he
      rw [he, hc]
      rfl
    · have hd' : d = 2 ∨ d = 3 := by rcases hd with ⟨_, h⟩ | ⟨_, h⟩ | ⟨h, _⟩ <;> first | omega | exact absurd h h16
      have hD : Dn ((2 ^ (d + 1) : Nat) : Int) (d + 1) := by rcases hd' with rfl | rfl <;> simp [Dn]
      have he := Expand_rows hd h16 hsU hsS hsl
      have hk := Shrink_rows hd' hf hsU hsS hsl
      have hc2 := Check_rows hD hsU hsS hsl
      have ht := Turns_l1_eq hd h16 hsU hsS hsl (2 ^ d) 0 (by omega)
      rw [List.drop_zero] at ht
      have hlen : l.length = 2 ^ d := by rw [e, rowsOf_len]
      have hl2 : (((rowsOf (d + 1) s).length : Int) != IntKind.i64.wrap (2 * (l.length : Int))) = false := by
        rw [rowsOf_len, hlen]
        rcases hd' with rfl | rfl <;> decide
      have e0 := e
      subst e
      rw [he]
      simp only [Option.bind_some, bne_self_eq_false, cond_false, hk, same_eq, decide_true, Bool.not_true, hc2, hl2]
      exact ht

/-! ### All in order of hashes -/
theorem Index_l1 (x : Int) : ∀ (r : List Int) (i : Nat), s_Index_l1 x (-1) r i = -1 ∧ x ∉ r ∨ 0 ≤ s_Index_l1 x (-1) r i ∧ x ∈ r
  | [], i => .inl ⟨rfl, by simp⟩
  | a :: r, i => by
    simp only [s_Index_l1]
    by_cases h : x = a
    · subst h; simp
    · have : (x == a) = false := by simp [h]
      rw [this, cond_false]
      rcases Index_l1 x r (i + 1) with ⟨h1, h2⟩ | ⟨h1, h2⟩
      · exact .inl ⟨h1, by simp [h, h2]⟩
      · exact .inr ⟨h1, by simp [h2]⟩
theorem Contains_eq (l : List Int) (x : Int) : s_Contains l x = decide (x ∈ l) := by
  have e : s_Index l x = s_Index_l1 x (-1) l 0 := rfl
  unfold s_Contains
  rw [e]
  rcases Index_l1 x l 0 with ⟨h1, h2⟩ | ⟨h1, h2⟩
  · rw [h1]; simp [h2]
  · have : decide (s_Index_l1 x (-1) l 0 ≥ 0) = true := decide_eq_true h1
    rw [this]; simp [h2]
theorem Order_l1 (p : List Int) : ∀ (r : List Int) (i : Nat), (∀ k ∈ r, k ∈ p) → l_Order_l1 p (some true) r i = some true
  | [], i, _ => rfl
  | a :: r, i, h => by
    have := h a List.mem_cons_self
    simp only [l_Order_l1, Contains_eq, decide_eq_true this, Bool.not_true, cond_false]
    exact Order_l1 p r (i + 1) (fun k hk => h k (List.mem_cons_of_mem _ hk))
theorem Order_l4 {n : Int} {d : Nat} (hD : Dn n d) (y : List Int) (b : Nat) (q : Option Bool) : ∀ (r : List Int) (i : Nat), (∀ k ∈ r, k ∈ y ∧ bk d k = (b : Int)) → l_Order_l4 y n b q r i = q
  | [], i, _ => rfl
  | a :: r, i, h => by
    obtain ⟨h1, h2⟩ := h a List.mem_cons_self
    simp only [l_Order_l4, Of_eq, hD.look, Option.bind_some, Int.toNat_natCast, h2, bne_self_eq_false, cond_false, Contains_eq, decide_eq_true h1, Bool.not_true]
    exact Order_l4 hD y b q r (i + 1) (fun k hk => h k (List.mem_cons_of_mem _ hk))
theorem Order_l6 {n : Int} {d : Nat} (hD : Dn n d) (y : List Int) (b : Nat) (q : Option Bool) : ∀ (r : List Int) (i : Nat), (∀ k ∈ r, k ∈ y ∧ bk d k = (b : Int)) → l_Order_l6 y n b q r i = q
  | [], i, _ => rfl
  | a :: r, i, h => by
    obtain ⟨h1, h2⟩ := h a List.mem_cons_self
    simp only [l_Order_l6, Of_eq, hD.look, Option.bind_some, Int.toNat_natCast, h2, bne_self_eq_false, cond_false, Contains_eq, decide_eq_true h1, Bool.not_true]
    exact Order_l6 hD y b q r (i + 1) (fun k hk => h k (List.mem_cons_of_mem _ hk))
theorem row_mem {d : Nat} {s y : List Int} (h : ∀ k ∈ s, k ∈ y) (b : Nat) : ∀ k ∈ (s.filter fun k => bk d k == (b : Int)), k ∈ y ∧ bk d k = (b : Int) := fun k hk => by
  obtain ⟨h1, h2⟩ := List.mem_filter.1 hk
  exact ⟨h k h1, by simpa using h2⟩
theorem Order_l3 {n : Int} {d : Nat} (hD : Dn n d) (y : List Int) (q : List Int → Option Bool) (s a : List Int) (h : ∀ k ∈ s, k ∈ y) : ∀ (m i : Nat), i + m = 2 ^ d → l_Order_l3 y n q a ((rowsOf d s).drop i) i = q a
  | 0, i, hi => by
    have : (rowsOf d s).drop i = [] := List.drop_of_length_le (by rw [rowsOf_len]; omega)
    rw [this]; rfl
  | m + 1, i, hi => by
    have hd : (rowsOf d s).drop i = (s.filter fun k => bk d k == (i : Int)) :: (rowsOf d s).drop (i + 1) := by
      rw [List.drop_eq_getElem_cons (by rw [rowsOf_len]; omega)]
      have := rowsOf_get (d := d) (l := s) (b := i) (by omega)
      rw [List.getElem?_eq_getElem (by rw [rowsOf_len]; omega)] at this
      simp only [Option.some.injEq] at this
      rw [this]
    rw [hd]
    simp only [l_Order_l3, letk]
    rw [Order_l4 hD y i _ _ 0 (row_mem h i), Order_l3 hD y q s a h m (i + 1) (by omega)]
theorem Order_l5 {n : Int} {d : Nat} (hD : Dn n d) (y : List Int) (q : List Int → Option Bool) (s a : List Int) (h : ∀ k ∈ s, k ∈ y) : ∀ (m i : Nat), i + m = 2 ^ d → l_Order_l5 y n q a ((rowsOf d s).drop i) i = q a
  | 0, i, hi => by
    have : (rowsOf d s).drop i = [] := List.drop_of_length_le (by rw [rowsOf_len]; omega)
    rw [this]; rfl
  | m + 1, i, hi => by
    have hd : (rowsOf d s).drop i = (s.filter fun k => bk d k == (i : Int)) :: (rowsOf d s).drop (i + 1) := by
      rw [List.drop_eq_getElem_cons (by rw [rowsOf_len]; omega)]
      have := rowsOf_get (d := d) (l := s) (b := i) (by omega)
      rw [List.getElem?_eq_getElem (by rw [rowsOf_len]; omega)] at this
      simp only [Option.some.injEq] at this
      rw [this]
    rw [hd]
    simp only [l_Order_l5, letk]
    rw [Order_l6 hD y i _ _ 0 (row_mem h i), Order_l5 hD y q s a h m (i + 1) (by omega)]
theorem Order_l7 {s : List Int} (hs : SS s) (hl : s.length ≤ 1000) (q : Option Bool) : ∀ (m j f : Nat), s.length ≤ j + m → 1 ≤ j → m < f → l_Order_l7 s q f (j : Int) = q
  | m, j, 0, _, _, hf => by omega
  | m, j, f + 1, hm, hj, hf => by
    by_cases hc : j < s.length
    · obtain ⟨m, rfl⟩ : ∃ g, m = g + 1 := ⟨m - 1, by omega⟩
      have hc' : decide ((j : Int) < (s.length : Int)) = true := decide_eq_true (by omega)
      have w1 : IntKind.i64.wrap ((j : Int) - 1) = ((j - 1 : Nat) : Int) := by rw [IntWalk.i64_in]; omega; omega
      have w2 : IntKind.i64.wrap ((j : Int) + 1) = ((j + 1 : Nat) : Int) := by rw [IntWalk.i64_in]; omega; omega
      have i1 : idx s ((j - 1 : Nat) : Int) = some s[j - 1] := by unfold idx; rw [if_pos (by omega), Int.toNat_natCast, List.getElem?_eq_getElem (by omega)]
      have i2 : idx s ((j : Nat) : Int) = some s[j] := by unfold idx; rw [if_pos (by omega), Int.toNat_natCast, List.getElem?_eq_getElem (by omega)]
      have hlt := List.pairwise_iff_getElem.1 hs (j - 1) j (by omega) hc (by omega)
      simp only [l_Order_l7, hc', cond_true, w1, w2, i1, i2, Option.bind_some, decide_eq_false (show ¬ b_Hash s[j - 1] ≥ b_Hash s[j] by omega), cond_false]
      exact Order_l7 hs hl q m (j + 1) f (by omega) (by omega) (by omega)
    · have hc' : decide ((j : Int) < (s.length : Int)) = false := decide_eq_false (by omega)
      simp only [l_Order_l7, hc', cond_false]
theorem Order_l2_cons {f : Nat} {n : Int} {d : Nat} (hD : Dn n d) {y : List Int} (hU : UU y) (hy : y.length ≤ 30) (hf : 40 < f) (q : List Int → Option Bool) (r : List Int) (i : Nat) (p : List Int) (hp : i = 0 ∨ p = srt y) :
    l_Order_l2 y q f (n :: r) i p = l_Order_l2 y q f r (i + 1) (srt y) := by
  have hd : d = 2 ∨ d = 3 ∨ d = 4 ∨ d = 5 := by rcases hD.d with e | e | e <;> simp [e]
  have hS := srt_SS hU
  have hlen := srt_len y
  have hfl := flat_eq hd hS
  have hx : ((rowsOf d (srt y)).length : Int) = n := by rw [rowsOf_len]; exact hD.pow.symm
  have hm : ∀ k ∈ srt y, k ∈ y := fun k hk => (srt_mem hU k).1 hk
  simp only [l_Order_l2, letk]
  rw [Spread_eq hD hU (by omega), Option.bind_some]
  simp only [bne_self_eq_false, cond_false, hx]
  rw [Concat_eq _ (by rw [hfl]; omega), Option.bind_some, hfl]
  have e7 := Order_l7 hS (by omega) (bif decide ((i : Int) > 0) then (s_Equal (srt y) p).bind fun y128 => bif !y128 then some false else l_Order_l3 y n (fun p87 => l_Order_l2 y q f r (i + 1) p87) (srt y) (rowsOf d (srt y)) 0 else l_Order_l5 y n (fun p87 => l_Order_l2 y q f r (i + 1) p87) (srt y) (rowsOf d (srt y)) 0) (srt y).length 1 f (by omega) (by omega) (by omega)
  rw [show ((1 : Nat) : Int) = 1 from rfl] at e7
  rw [e7]
  have e3 := Order_l3 hD y (fun p87 => l_Order_l2 y q f r (i + 1) p87) (srt y) (srt y) hm (2 ^ d) 0 (by omega)
  have e5 := Order_l5 hD y (fun p87 => l_Order_l2 y q f r (i + 1) p87) (srt y) (srt y) hm (2 ^ d) 0 (by omega)
  rw [List.drop_zero] at e3 e5
  rw [e3, e5]
  rcases hp with h0 | hp
  · subst h0; rfl
  · rw [hp, Equal_eq]
    simp
theorem Order_true {f : Nat} (hf : 40 < f) {x : List Int} (hx : UU x) : l_Order f x = some true := by
  unfold l_Order
  have h1 := cut_to x 30
  rw [show ((30 : Nat) : Int) = 30 from rfl] at h1
  rw [wakes_eq (by omega), Option.bind_some]
  simp only [Bool.not_true, cond_false, letk]
  rw [h1, Option.bind_some, Clone_eq _ (by simp; omega), Option.bind_some]
  have hU : UU (x.take 30) := fun a ha => hx a (List.mem_of_mem_take ha)
  have hl : (x.take 30).length ≤ 30 := by simp; omega
  generalize x.take 30 = y at *
  rw [Order_l2_cons (d := 2) (.inl ⟨rfl, rfl⟩) hU hl hf _ _ _ _ (.inl rfl), Order_l2_cons (d := 3) (.inr (.inl ⟨rfl, rfl⟩)) hU hl hf _ _ _ _ (.inr rfl), Order_l2_cons (d := 4) (.inr (.inr ⟨rfl, rfl⟩)) hU hl hf _ _ _ _ (.inr rfl)]
  simp only [l_Order_l2]
  exact Order_l1 _ _ 0 fun k hk => (srt_mem hU k).2 hk
end Go.Proofs.Ytdemjanelbajlaa
