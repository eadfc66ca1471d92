/-
  The plain laws of the statements BucketOf and BucketParts.
-/
import Derived.Test.YtdemjanelbajlaaGLawD
namespace Go.Proofs.Ytdemjanelbajlaa
open Go.Dc

/-! ### A hash's key, bit by bit -/
theorem bit_of (x i : Nat) (hi : i < 64) : x % 18446744073709551616 / 2 ^ i % 2 = x / 2 ^ i % 2 := by
  have h := Nat.testBit_mod_two_pow x 64 i
  rw [Nat.testBit_eq_decide_div_mod_eq, Nat.testBit_eq_decide_div_mod_eq] at h
  simp only [hi, decide_true, Bool.true_and, decide_eq_decide] at h
  have e : (2 : Nat) ^ 64 = 18446744073709551616 := by decide
  rw [e] at h
  omega
theorem q_nat (a b : Nat) (ha : a < 18446744073709551616) (hb : 0 < b) : quoO .u64 (a : Int) (b : Int) = some ((a / b : Nat) : Int) := by
  unfold quoO
  rw [if_neg (by omega), Int.tdiv_eq_ediv_of_nonneg (by omega), ← Int.natCast_ediv, IntKind.wrap_u64]
  have := Nat.div_le_self a b
  generalize a / b = q at *
  rw [Option.some.injEq]; omega
theorem pow_le (i : Nat) (h : i ≤ 64) : (2 : Nat) ^ i ≤ 18446744073709551616 := by
  have h1 : (2 : Nat) ^ i ≤ 2 ^ 64 := Nat.pow_le_pow_right (by omega) h
  have e64 : (2 : Nat) ^ 64 = 18446744073709551616 := by decide
  rw [e64] at h1
  exact h1
theorem w2_eq (i : Nat) (hi64 : i < 64) : IntKind.u64.wrap (2 * ((2 ^ i : Nat) : Int)) = (if i + 1 = 64 then 0 else ((2 ^ (i + 1) : Nat) : Int)) := by
  have h2 : (2 : Nat) ^ (i + 1) = 2 ^ i * 2 := Nat.pow_succ 2 i
  rw [IntKind.wrap_u64]
  split
  · rename_i e
    have : i = 63 := by omega
    subst this
    have e63 : (2 : Nat) ^ 63 = 9223372036854775808 := by decide
    rw [e63]; omega
  · have h1 : (2 : Nat) ^ (i + 1) ≤ 2 ^ 63 := Nat.pow_le_pow_right (by omega) (by omega)
    have e63 : (2 : Nat) ^ 63 = 9223372036854775808 := by decide
    rw [e63] at h1
    rw [h2] at h1 ⊢
    generalize (2 : Nat) ^ i = q at *
    omega
theorem t_nat (a : Nat) : (a : Int).tmod 2 = ((a % 2 : Nat) : Int) := by rw [Int.tmod_eq_emod_of_nonneg (by omega)]; omega
theorem w1_eq (key : Nat) : IntKind.u64.wrap ((key : Int) * 11400714819323198485) = ((key * 11400714819323198485 % 18446744073709551616 : Nat) : Int) := by rw [IntKind.wrap_u64]; omega
theorem w4_eq (a : Nat) (h : a < 18446744073709551616) : IntKind.u64.wrap (a : Int) = (a : Int) := by rw [IntKind.wrap_u64]; omega
theorem odd_flip (a i h : Nat) (hc : ¬ a / 2 ^ i % 2 = h / 2 ^ i % 2) : (a + 2 ^ i * 11400714819323198485) / 2 ^ i % 2 = h / 2 ^ i % 2 := by
  rw [Nat.add_mul_div_left _ _ (Nat.pow_pos (by omega))]
  generalize a / 2 ^ i = x at *
  generalize h / 2 ^ i = y at *
  omega
theorem sum_lt' {key i : Nat} (hk : key < 2 ^ i) : key + 2 ^ i < 2 ^ (i + 1) := by
  rw [Nat.pow_succ]
  generalize (2 : Nat) ^ i = q at *
  omega
theorem sum_lt {key i : Nat} (hk : key < 2 ^ i) (hle : (2 : Nat) ^ (i + 1) ≤ 18446744073709551616) : key + 2 ^ i < 18446744073709551616 := Nat.lt_of_lt_of_le (sum_lt' hk) hle
theorem Key_unf (x0 : Int) (k3 : Int → Option Int) (f : Nat) (p11 p12 p13 : Int) : r_Key_l1 x0 k3 (f + 1) p11 p12 p13 = (bif (decide (p13 < (64 : Int))) then ((quoO .u64 (IntKind.u64.wrap (p11 * (11400714819323198485 : Int))) p12).bind fun y18 => ((quoO .u64 x0 p12).bind fun y20 => (bif ((y18.tmod (2 : Int)) != (y20.tmod (2 : Int))) then (r_Key_l1 x0 k3 f (IntKind.u64.wrap (p11 + p12)) (IntKind.u64.wrap ((2 : Int) * p12)) (IntKind.i64.wrap (p13 + (1 : Int)))) else (r_Key_l1 x0 k3 f p11 (IntKind.u64.wrap ((2 : Int) * p12)) (IntKind.i64.wrap (p13 + (1 : Int))))))) else k3 p11) := by
  rw [r_Key_l1]
theorem Key_rnd (h : Nat) (k3 : Int → Option Int) (f key i a b : Nat) (P2 : Int) (hlt : decide ((i : Int) < 64) = true) (w1 : quoO .u64 (IntKind.u64.wrap ((key : Int) * 11400714819323198485)) ((2 ^ i : Nat) : Int) = some (a : Int)) (q2 : quoO .u64 (h : Int) ((2 ^ i : Nat) : Int) = some (b : Int))
    (w2 : IntKind.u64.wrap (2 * ((2 ^ i : Nat) : Int)) = P2) (w3 : IntKind.i64.wrap ((i : Int) + 1) = ((i + 1 : Nat) : Int)) (w4 : IntKind.u64.wrap ((key : Int) + ((2 ^ i : Nat) : Int)) = ((key + 2 ^ i : Nat) : Int)) :
    r_Key_l1 (h : Int) k3 (f + 1) (key : Int) ((2 ^ i : Nat) : Int) (i : Int) = (bif (((a % 2 : Nat) : Int)) != ((b % 2 : Nat) : Int) then r_Key_l1 (h : Int) k3 f ((key + 2 ^ i : Nat) : Int) P2 ((i + 1 : Nat) : Int) else r_Key_l1 (h : Int) k3 f (key : Int) P2 ((i + 1 : Nat) : Int)) := by
  rw [Key_unf, hlt, cond_true, w1, Option.bind_some, q2, Option.bind_some, t_nat, t_nat, w2, w3, w4]
/-- one round -/
theorem Key_step (h : Nat) (hh : h < 18446744073709551616) (k3 : Int → Option Int) (i f key : Nat) (hi64 : i < 64) (hk : key < 2 ^ i) (hm : (key * 11400714819323198485) % 2 ^ i = h % 2 ^ i) :
    ∃ key1 : Nat, key1 < 2 ^ (i + 1) ∧ (key1 * 11400714819323198485) % 2 ^ (i + 1) = h % 2 ^ (i + 1) ∧
      r_Key_l1 (h : Int) k3 (f + 1) (key : Int) (if i = 64 then 0 else ((2 ^ i : Nat) : Int)) (i : Int) = r_Key_l1 (h : Int) k3 f (key1 : Int) (if i + 1 = 64 then 0 else ((2 ^ (i + 1) : Nat) : Int)) ((i + 1 : Nat) : Int) := by
  have hlt : decide ((i : Int) < 64) = true := decide_eq_true (by omega)
  have h2 : (2 : Nat) ^ (i + 1) = 2 ^ i * 2 := Nat.pow_succ 2 i
  have hp : 0 < 2 ^ i := Nat.pow_pos (by omega)
  have hle := pow_le (i + 1) (by omega)
  have w1 := w1_eq key
  have q1 := q_nat (key * 11400714819323198485 % 18446744073709551616) (2 ^ i) (Nat.mod_lt _ (by omega)) hp
  have q2 := q_nat h (2 ^ i) hh hp
  have w2 := w2_eq i hi64
  have w3 : IntKind.i64.wrap ((i : Int) + 1) = ((i + 1 : Nat) : Int) := by rw [IntWalk.i64_in]; omega; omega
  have w4 : IntKind.u64.wrap ((key : Int) + ((2 ^ i : Nat) : Int)) = ((key + 2 ^ i : Nat) : Int) := by
    rw [← Int.natCast_add]
    exact w4_eq _ (sum_lt hk hle)
  have hb := bit_of (key * 11400714819323198485) i hi64
  have m1 := Nat.mod_pow_succ (b := 2) (k := i) (x := key * 11400714819323198485)
  have m2 := Nat.mod_pow_succ (b := 2) (k := i) (x := h)
  have hne : ¬ i = 64 := by omega
  have hr := Key_rnd h k3 f key i _ _ _ hlt (by rw [w1]; exact q1) q2 w2 w3 w4
  rw [hb] at hr
  rw [if_neg hne, hr]
  by_cases hc : key * 11400714819323198485 / 2 ^ i % 2 = h / 2 ^ i % 2
  · refine ⟨key, Nat.lt_of_lt_of_le hk (Nat.pow_le_pow_right (by decide) (Nat.le_succ i)), by rw [m1, m2, hm, hc], ?_⟩
    have : ((((key * 11400714819323198485 / 2 ^ i % 2 : Nat) : Int)) != ((h / 2 ^ i % 2 : Nat) : Int)) = false := by rw [hc]; exact bne_self_eq_false _
    rw [this, cond_false]
  · have hne2 : ((((key * 11400714819323198485 / 2 ^ i % 2 : Nat) : Int)) != ((h / 2 ^ i % 2 : Nat) : Int)) = true := by
      rw [bne_iff_ne]
      exact fun e => hc (Int.ofNat_inj.1 e)
    have e1 : (key + 2 ^ i) * 11400714819323198485 = key * 11400714819323198485 + 2 ^ i * 11400714819323198485 := Nat.add_mul _ _ _
    have e2 : ((key + 2 ^ i) * 11400714819323198485) % 2 ^ i = h % 2 ^ i := by rw [e1, Nat.add_mul_mod_self_left]; exact hm
    have e3 : ((key + 2 ^ i) * 11400714819323198485) / 2 ^ i % 2 = h / 2 ^ i % 2 := by rw [e1]; exact odd_flip _ _ _ hc
    have m3 := Nat.mod_pow_succ (b := 2) (k := i) (x := (key + 2 ^ i) * 11400714819323198485)
    refine ⟨key + 2 ^ i, sum_lt' hk, by rw [m3, m2, e2, e3], ?_⟩
    rw [hne2, cond_true]
theorem Key_l1 (h : Nat) (hh : h < 18446744073709551616) (k3 : Int → Option Int) : ∀ (m i f key : Nat), i + m = 64 → m < f → key < 2 ^ i → (key * 11400714819323198485) % 2 ^ i = h % 2 ^ i →
    ∃ key' : Nat, key' < 2 ^ 64 ∧ (key' * 11400714819323198485) % 2 ^ 64 = h % 2 ^ 64 ∧ r_Key_l1 (h : Int) k3 f (key : Int) (if i = 64 then 0 else ((2 ^ i : Nat) : Int)) (i : Int) = k3 (key' : Int) := by
  intro m
  induction m with
  | zero =>
    intro i f key hi hf hk hm
    obtain ⟨f, rfl⟩ : ∃ g, f = g + 1 := ⟨f - 1, by omega⟩
    have hi : i = 64 := by omega
    rw [hi] at hk hm
    refine ⟨key, hk, hm, ?_⟩
    have : decide ((i : Int) < 64) = false := decide_eq_false (by omega)
    simp only [r_Key_l1, this, cond_false]
  | succ m ih =>
    intro i f key hi hf hk hm
    obtain ⟨f, rfl⟩ : ∃ g, f = g + 1 := ⟨f - 1, by omega⟩
    obtain ⟨key1, h1, h2, h3⟩ := Key_step h hh k3 i f key (by omega) hk hm
    rw [h3]
    exact ih (i + 1) f key1 (by omega) (by omega) h1 h2
theorem Key_ref {f : Nat} (hf : 64 < f) {h : Int} (hU : U h) : r_Key f h = some (b_Key h) := by
  obtain ⟨x, rfl⟩ := Int.eq_ofNat_of_zero_le hU.1
  have hx : x < 18446744073709551616 := by have := hU.2; omega
  obtain ⟨key, hk, he, hr⟩ := Key_l1 x hx (fun p => some p) 64 0 f 0 (by omega) hf (by omega) (by simp [Nat.mod_one])
  have e64 : (2 : Nat) ^ 64 = 18446744073709551616 := by decide
  rw [e64] at hk he
  rw [Nat.mod_eq_of_lt hx] at he
  unfold r_Key
  simp only [letk]
  have e1 : (if (0 : Nat) = 64 then (0 : Int) else ((2 ^ 0 : Nat) : Int)) = 1 := by decide
  rw [e1] at hr
  rw [show ((0 : Nat) : Int) = 0 from rfl] at hr
  rw [hr]
  congr 1
  have hUk : U (key : Int) := ⟨by omega, by omega⟩
  have hUb : U (b_Key (x : Int)) := by rw [key_eq]; unfold U; omega
  refine Hash_inj hUk hUb ?_
  rw [Hash_Key hU, hash_eq]
  omega

/-! ### The document's rows of buckets -/
theorem Put_l1 (x : Int) (k : List Int → Option (List Int)) : ∀ (r : List Int) (i : Nat) (p : List Int), p.length + r.length ≤ 1000000 → r_Put_l1 x k r i p = k (p ++ r.filter fun z => decide (b_Hash z > b_Hash x))
  | [], i, p, _ => by simp [r_Put_l1]
  | a :: r, i, p, h => by
    simp only [List.length_cons] at h
    have e : r_Hash a = b_Hash a := rfl
    have e' : r_Hash x = b_Hash x := rfl
    simp only [r_Put_l1, e, e']
    by_cases hc : b_Hash a > b_Hash x
    · rw [decide_eq_true hc, cond_true, app_ok (by simp only [List.length_cons, List.length_nil]; omega), Option.bind_some, Put_l1 x k r (i + 1) _ (by simp; omega), List.filter_cons_of_pos (by simpa using hc)]
      simp
    · rw [decide_eq_false hc, cond_false, Put_l1 x k r (i + 1) p (by omega), List.filter_cons_of_neg (by simpa using hc)]
theorem Put_l2 (x : Int) (k : List Int → Option (List Int)) : ∀ (r : List Int) (i : Nat) (p : List Int), p.length + r.length ≤ 1000000 → r_Put_l2 x k r i p = k (p ++ r.filter fun z => decide (b_Hash z < b_Hash x))
  | [], i, p, _ => by simp [r_Put_l2]
  | a :: r, i, p, h => by
    simp only [List.length_cons] at h
    have e : r_Hash a = b_Hash a := rfl
    have e' : r_Hash x = b_Hash x := rfl
    simp only [r_Put_l2, e, e']
    by_cases hc : b_Hash a < b_Hash x
    · rw [decide_eq_true hc, cond_true, app_ok (by simp only [List.length_cons, List.length_nil]; omega), Option.bind_some, Put_l2 x k r (i + 1) _ (by simp; omega), List.filter_cons_of_pos (by simpa using hc)]
      simp
    · rw [decide_eq_false hc, cond_false, Put_l2 x k r (i + 1) p (by omega), List.filter_cons_of_neg (by simpa using hc)]
def put (l : List Int) (x : Int) : List Int := (l.filter fun z => decide (b_Hash z < b_Hash x)) ++ [x] ++ l.filter fun z => decide (b_Hash z > b_Hash x)
theorem Put_eq (l : List Int) (x : Int) (h : l.length ≤ 300000) : r_Put l x = some (put l x) := by
  have h1 := List.length_filter_le (fun z => decide (b_Hash z < b_Hash x)) l
  unfold r_Put put
  simp only [letk]
  rw [Put_l2 x _ l 0 [] (by simp; omega), List.nil_append, app_ok (by simp only [List.length_cons, List.length_nil]; omega), Option.bind_some, Put_l1 x _ l 0 _ (by simp; omega)]
theorem put_SS {l : List Int} (hs : SS l) (x : Int) : SS (put l x) := by
  unfold put SS
  rw [List.append_assoc, List.pairwise_append]
  refine ⟨hs.filter _, ?_, ?_⟩
  · rw [List.singleton_append, List.pairwise_cons]
    exact ⟨fun y hy => by have := (List.mem_filter.1 hy).2; simpa using this, hs.filter _⟩
  · intro a ha b hb
    have h1 := (List.mem_filter.1 ha).2
    simp at h1
    rcases List.mem_append.1 hb with hb | hb
    · simp at hb; subst hb; exact h1
    · have := (List.mem_filter.1 hb).2
      simp at this
      omega
theorem put_mem {l : List Int} (hU : UU l) {x : Int} (hx : U x) (k : Int) : k ∈ put l x ↔ k = x ∨ k ∈ l := by
  unfold put
  simp only [List.mem_append, List.mem_filter, List.mem_singleton, decide_eq_true_eq]
  constructor
  · rintro ((⟨h, _⟩ | h) | ⟨h, _⟩) <;> simp [h]
  · rintro (h | h)
    · exact .inl (.inr h)
    · by_cases h1 : b_Hash k < b_Hash x
      · exact .inl (.inl ⟨h, h1⟩)
      · by_cases h2 : b_Hash k > b_Hash x
        · exact .inr ⟨h, h2⟩
        · exact .inl (.inr (Hash_inj (hU k h) hx (by omega)))
theorem put_len (l : List Int) (x : Int) : (put l x).length ≤ l.length + 1 + l.length := by
  unfold put
  have h1 := List.length_filter_le (fun z => decide (b_Hash z < b_Hash x)) l
  have h2 := List.length_filter_le (fun z => decide (b_Hash z > b_Hash x)) l
  simp only [List.length_append, List.length_cons, List.length_nil]
  omega
/-- a row in order holds no more than what it is made of -/
theorem SS_len : ∀ {l m : List Int}, SS l → (∀ k ∈ l, k ∈ m) → l.length ≤ m.length
  | [], m, _, _ => Nat.zero_le _
  | a :: l, m, h, hm => by
    obtain ⟨h1, h2⟩ := List.pairwise_cons.1 h
    have ha := hm a List.mem_cons_self
    have := SS_len (l := l) (m := m.erase a) h2 fun k hk => by
      have hne : k ≠ a := fun e => by subst e; have := h1 k hk; omega
      exact (List.mem_erase_of_ne hne).2 (hm k (List.mem_cons_of_mem _ hk))
    rw [List.length_erase_of_mem ha] at this
    have hp := List.length_pos_of_mem ha
    simp only [List.length_cons]
    omega
theorem RSpread_l2 {n : Int} {d : Nat} (h : Dn n d) (b : Nat) {keys : List Int} (hU : UU keys) (hl : keys.length ≤ 100000) (k : List Int → Option (List (List Int))) : ∀ (r pre : List Int) (i : Nat) (row : List Int), pre ++ r = keys → SS row → (∀ x, x ∈ row ↔ x ∈ pre ∧ bk d x = (b : Int)) →
    r_Spread_l2 n (b : Int) k r i row = k ((srt keys).filter fun k => bk d k == (b : Int))
  | [], pre, i, row, hp, hs, hm => by
    simp only [List.append_nil] at hp
    subst hp
    have : row = (srt pre).filter fun k => bk d k == (b : Int) := SS.ext hs ((srt_SS hU).filter _) fun x => by
      rw [hm, List.mem_filter, srt_mem hU, beq_iff_eq]
    simp only [r_Spread_l2]
    rw [this]
  | a :: r, pre, i, row, hp, hs, hm => by
    have hd5 : d = 2 ∨ d = 3 ∨ d = 4 ∨ d = 5 := by rcases h.d with e | e | e <;> simp [e]
    have hof := Of_ref a hd5
    rw [← h.pow] at hof
    have hpre : ∀ x ∈ row, x ∈ pre := fun x hx => ((hm x).1 hx).1
    have hprek : ∀ x ∈ pre, x ∈ keys := fun x hx => by rw [← hp]; exact List.mem_append_left _ hx
    have hak : a ∈ keys := by rw [← hp]; simp
    have hrow := SS_len hs hpre
    have hplen : pre.length ≤ keys.length := by rw [← hp]; simp
    have hUr : UU row := fun x hx => hU x (hprek x (hpre x hx))
    simp only [r_Spread_l2, hof, Option.bind_some]
    by_cases hc : bk d a = (b : Int)
    · rw [beq_iff_eq.2 hc, cond_true, Put_eq row a (by omega), Option.bind_some]
      exact RSpread_l2 h b hU hl k r (pre ++ [a]) (i + 1) _ (by simpa using hp) (put_SS hs a) fun x => by
        rw [put_mem hUr (hU a hak), hm, List.mem_append, List.mem_singleton]
        constructor
        · rintro (e | ⟨h1, h2⟩)
          · subst e; exact ⟨.inr rfl, hc⟩
          · exact ⟨.inl h1, h2⟩
        · rintro ⟨h1 | h1, h2⟩
          · exact .inr ⟨h1, h2⟩
          · exact .inl h1
    · have : (bk d a == (b : Int)) = false := by simpa using hc
      rw [this, cond_false]
      exact RSpread_l2 h b hU hl k r (pre ++ [a]) (i + 1) row (by simpa using hp) hs fun x => by
        rw [hm, List.mem_append, List.mem_singleton]
        constructor
        · rintro ⟨h1, h2⟩; exact ⟨.inl h1, h2⟩
        · rintro ⟨h1 | h1, h2⟩
          · exact ⟨h1, h2⟩
          · subst h1; exact absurd h2 hc
theorem RSpread_l1 {n : Int} {d : Nat} (h : Dn n d) {keys : List Int} (hU : UU keys) (hl : keys.length ≤ 100000) (k : List (List Int) → Option (List (List Int))) : ∀ (m j f : Nat), j + m = 2 ^ d → m < f →
    r_Spread_l1 n keys k f ((List.range j).map fun (b : Nat) => (srt keys).filter fun k => bk d k == (b : Int)) (j : Int) = k (rowsOf d (srt keys))
  | 0, j, f, hj, hf => by
    obtain ⟨f, rfl⟩ : ∃ g, f = g + 1 := ⟨f - 1, by omega⟩
    have hp := h.pow
    have hc : decide ((j : Int) < n) = false := decide_eq_false (by omega)
    simp only [r_Spread_l1, hc, cond_false]
    unfold rowsOf
    rw [← hj]
    rfl
  | m + 1, j, f, hj, hf => by
    obtain ⟨f, rfl⟩ : ∃ g, f = g + 1 := ⟨f - 1, by omega⟩
    have hp := h.pow
    have h16 : (2 : Nat) ^ d ≤ 16 := by rcases h.d with e | e | e <;> rw [e] <;> decide
    have hc : decide ((j : Int) < n) = true := decide_eq_true (by omega)
    have w1 : IntKind.i64.wrap ((j : Int) + 1) = ((j + 1 : Nat) : Int) := by rw [IntWalk.i64_in]; omega; omega
    simp only [r_Spread_l1, hc, cond_true, letk, w1]
    rw [RSpread_l2 h j hU hl _ keys [] 0 [] rfl (by simp [SS]) (by simp)]
    rw [app_ok (by simp only [List.length_cons, List.length_nil, List.length_map, List.length_range]; omega), Option.bind_some]
    have := RSpread_l1 h hU hl k m (j + 1) f (by omega) (by omega)
    rw [List.range_succ, List.map_append] at this
    exact this
theorem RSpread_eq {n : Int} {d : Nat} (h : Dn n d) {f : Nat} (hf : 16 < f) {keys : List Int} (hU : UU keys) (hl : keys.length ≤ 100000) : r_Spread f n keys = some (rowsOf d (srt keys)) := by
  have h16 : (2 : Nat) ^ d ≤ 16 := by rcases h.d with e | e | e <;> rw [e] <;> decide
  unfold r_Spread
  simp only [letk]
  exact RSpread_l1 h hU hl (fun p => some p) (2 ^ d) 0 f (by omega) (by omega)
theorem RKeys_l1 (k : List Int → Option (List Int)) : ∀ (r : List (List Int)) (i : Nat) (p : List Int), p.length + r.flatten.length ≤ 1000000 → r_Keys_l1 k r i p = k (p ++ r.flatten)
  | [], i, p, _ => by simp [r_Keys_l1]
  | a :: r, i, p, h => by
    simp only [List.flatten_cons, List.length_append] at h
    simp only [r_Keys_l1]
    rw [app_ok (by omega), Option.bind_some, RKeys_l1 k r (i + 1) (p ++ a) (by rw [List.length_append]; omega)]
    simp
theorem RKeys_eq (l : List (List Int)) (h : l.flatten.length ≤ 1000000) : r_Keys l = some l.flatten := by
  unfold r_Keys
  simp only [letk]
  rw [RKeys_l1 _ l 0 [] (by simpa using h)]
  rfl
/-! ### The document's Same -/
theorem Same_l2 (y : List (List Int)) (j : Nat) (row : List Int) (hj : y[j]? = some row) (k : Option Bool) : ∀ (r : List Int) (i : Nat), i + r.length ≤ row.length → r_Same_l2 y j k r i = if r = (row.drop i).take r.length then k else some false
  | [], i, _ => by simp [r_Same_l2]
  | a :: r, i, h => by
    simp only [List.length_cons] at h
    obtain ⟨b, hb⟩ : ∃ b, row[i]? = some b := ⟨_, List.getElem?_eq_getElem (by omega)⟩
    have hd : row.drop i = b :: row.drop (i + 1) := by
      rw [List.drop_eq_getElem_cons (by omega)]
      rw [List.getElem?_eq_getElem (by omega)] at hb
      simp at hb
      rw [hb]
    have h1 : idx y (j : Int) = some row := by unfold idx; rw [if_pos (by omega), Int.toNat_natCast, hj]
    have hi : idx row (i : Int) = some b := by unfold idx; rw [if_pos (by omega), Int.toNat_natCast, hb]
    simp only [r_Same_l2, h1, hi, Option.bind_some]
    rw [Same_l2 y j row hj k r (i + 1) (by omega), hd, List.length_cons, List.take_succ_cons]
    by_cases hab : a = b
    · subst hab; simp
    · have : (a != b) = true := by simp [hab]
      rw [this]; simp [hab]
theorem Same_l1 (y : List (List Int)) (k : Option Bool) : ∀ (r : List (List Int)) (i : Nat), i + r.length ≤ y.length → r_Same_l1 y k r i = if r = (y.drop i).take r.length then k else some false
  | [], i, _ => by simp [r_Same_l1]
  | a :: r, i, h => by
    simp only [List.length_cons] at h
    obtain ⟨b, hb⟩ : ∃ b, y[i]? = some b := ⟨_, List.getElem?_eq_getElem (by omega)⟩
    have hd : y.drop i = b :: y.drop (i + 1) := by
      rw [List.drop_eq_getElem_cons (by omega)]
      rw [List.getElem?_eq_getElem (by omega)] at hb
      simp at hb
      rw [hb]
    have hi : idx y (i : Int) = some b := by unfold idx; rw [if_pos (by omega), Int.toNat_natCast, hb]
    simp only [r_Same_l1, letk, hi, Option.bind_some]
    rw [Same_l1 y k r (i + 1) (by omega), hd, List.length_cons, List.take_succ_cons]
    by_cases hl : a.length = b.length
    · have : ((a.length : Int) != (b.length : Int)) = false := by simp [hl]
      rw [this, cond_false, Same_l2 y i b hb _ a 0 (by omega)]
      have : (b.drop 0).take a.length = b := by rw [List.drop_zero, hl, List.take_length]
      rw [this]
      by_cases hab : a = b
      · subst hab; simp
      · simp [hab]
    · have : ((a.length : Int) != (b.length : Int)) = true := by simp; omega
      have hab : a ≠ b := fun e => hl (by rw [e])
      rw [this]; simp [hab]
theorem RSame_eq (x y : List (List Int)) : r_Same x y = some (decide (x = y)) := by
  unfold r_Same
  by_cases h : x.length = y.length
  · have : ((x.length : Int) != (y.length : Int)) = false := by simp [h]
    rw [this]
    simp only [cond_false, letk]
    rw [Same_l1 y _ x 0 (by omega)]
    have : (y.drop 0).take x.length = y := by rw [List.drop_zero, h, List.take_length]
    rw [this]
    by_cases e : x = y <;> simp [e]
  · have : ((x.length : Int) != (y.length : Int)) = true := by simp; omega
    rw [this]
    have hne : x ≠ y := fun e => h (by rw [e])
    simp [hne]
theorem Right_eq {f : Nat} (hf : 16 < f) {l : List (List Int)} (hU : UU l.flatten) (hl : l.flatten.length ≤ 100000) : ∃ b, r_Right f l = some b ∧ b_Check l = some (if b = true then 0 else 280) := by
  unfold r_Right
  rcases Dn.of (l.length : Int) with ⟨d, h⟩ | ⟨hno, h⟩
  · rw [(May_iff _).2 ⟨d, h⟩, cond_true, RKeys_eq l (by omega), Option.bind_some, RSpread_eq h hf hU hl, Option.bind_some, RSame_eq, Option.bind_some]
    refine ⟨_, rfl, ?_⟩
    rw [Check_ok h hU (by omega)]
    simp
  · have hm : r_May (l.length : Int) = false := by rw [May_eq, h]; rfl
    rw [hm, cond_false]
    exact ⟨_, rfl, by rw [Check_no h (by omega)]; rfl⟩
theorem RSeam_l1 {d : Nat} (hd : d = 2 ∨ d = 3 ∨ d = 4) (l : List (List Int)) (hl : l.length = 2 ^ d) (k : Int → Option Int) : ∀ (r : List Int) (i p : Nat), p + r.length ≤ 1000000 → r_Seam_l1 l k r i (p : Int) = k ((p + (r.filter (ev2 d)).length : Nat) : Int)
  | [], i, p, _ => by simp [r_Seam_l1]
  | a :: r, i, p, h => by
    simp only [List.length_cons] at h
    have hd5 : d + 1 = 2 ∨ d + 1 = 3 ∨ d + 1 = 4 ∨ d + 1 = 5 := by omega
    have hof := Of_ref a hd5
    have h16 : (2 : Nat) ^ d ≤ 16 := by rcases hd with e | e | e <;> rw [e] <;> decide
    have w1 : IntKind.i64.wrap (2 * (l.length : Int)) = ((2 ^ (d + 1) : Nat) : Int) := by rw [hl, Nat.pow_succ, IntWalk.i64_in]; omega; omega
    have w2 : IntKind.i64.wrap ((p : Int) + 1) = ((p + 1 : Nat) : Int) := by rw [IntWalk.i64_in]; omega; omega
    obtain ⟨b0, b1⟩ := bk_range a hd5
    have ht : ((bk (d + 1) a).tmod 2 == 0) = ev2 d a := by unfold ev2; rw [Int.tmod_eq_emod_of_nonneg b0]
    simp only [r_Seam_l1, w1, w2, hof, Option.bind_some, ht]
    cases hc : ev2 d a with
    | true =>
      rw [cond_true, RSeam_l1 hd l hl k r (i + 1) (p + 1) (by omega), List.filter_cons_of_pos hc, List.length_cons]
      rw [show p + 1 + (List.filter (ev2 d) r).length = p + ((List.filter (ev2 d) r).length + 1) by omega]
    | false =>
      rw [cond_false, RSeam_l1 hd l hl k r (i + 1) p (by omega), List.filter_cons_of_neg (by rw [hc]; decide)]
theorem RSeam_rows {d : Nat} (hd : d = 2 ∨ d = 3 ∨ d = 4) {s : List Int} (hs : SS s) (hl : s.length ≤ 1000000) (b : Nat) (hb : b < 2 ^ d) : r_Seam (rowsOf d s) (b : Int) = some (((lo d b s).length : Nat) : Int) := by
  unfold r_Seam
  have hix : idx (rowsOf d s) (b : Int) = some (s.filter fun k => bk d k == (b : Int)) := by unfold idx; rw [if_pos (by omega), Int.toNat_natCast, rowsOf_get hb]
  have hfl : (s.filter fun k => bk d k == (b : Int)).length ≤ 1000000 := Nat.le_trans (List.length_filter_le _ _) hl
  simp only [letk]
  rw [hix, Option.bind_some]
  have := RSeam_l1 hd (rowsOf d s) (rowsOf_len d s) (fun p => some p) (s.filter fun k => bk d k == (b : Int)) 0 0 (by omega)
  rw [show ((0 : Nat) : Int) = 0 from rfl] at this
  rw [this, halves hd hs b, List.filter_append]
  have e1 : (lo d b s).filter (ev2 d) = lo d b s := List.filter_eq_self.2 (lo_ev d b s)
  have e2 : (hi d b s).filter (ev2 d) = [] := List.filter_eq_nil_iff.2 fun k hk => by rw [hi_ev d b s k hk]; decide
  rw [e1, e2]
  simp

/-! ### The statements -/
theorem Of_l1 {f : Nat} (hf : 100 ≤ f) (n : Int) (q : Option Bool) : ∀ (r : List Int) (i : Nat), UU r → l_Of_l1 n q f r i = q
  | [], i, _ => rfl
  | a :: r, i, h => by
    have ha := h a List.mem_cons_self
    have ih := Of_l1 hf n q r (i + 1) fun x hx => h x (List.mem_cons_of_mem _ hx)
    have e1 : r_Hash a = b_Hash a := rfl
    simp only [l_Of_l1, Of_eq, Option.bind_some, letk, e1, bne_self_eq_false, cond_false, Key_ref (show 64 < f by omega) ha]
    rcases Dn.of n with ⟨d, hd⟩ | ⟨_, hd⟩
    · have hd5 : d = 2 ∨ d = 3 ∨ d = 4 ∨ d = 5 := by rcases hd.d with e | e | e <;> simp [e]
      have hof := Of_ref a hd5
      rw [← hd.pow] at hof
      rw [(May_iff n).2 ⟨d, hd⟩, cond_true, hof, Option.bind_some, hd.look]
      simp only [Int.toNat_natCast, bne_self_eq_false, cond_false]
      exact ih
    · have hm : r_May n = false := by rw [May_eq, hd]; rfl
      rw [hm, hd]
      simp only [bne_self_eq_false, cond_false]
      exact ih
theorem Of_true {f : Nat} (hf : 100 ≤ f) {keys : List Int} (hk : UU keys) {n : Int} (_hn : I64 n) : l_Of f keys n = some true := by
  unfold l_Of
  have h1 := cut_to keys 24
  rw [show ((24 : Nat) : Int) = 24 from rfl] at h1
  rw [wakes_eq (by omega), Option.bind_some, h1]
  simp only [Bool.not_true, cond_false, Option.bind_some]
  have hU : UU (keys.take 24) := fun a ha => hk a (List.mem_of_mem_take ha)
  have hl : (keys.take 24).length ≤ 24 := by simp; omega
  generalize keys.take 24 = y at *
  rw [Clone_eq y (by omega), Option.bind_some]
  simp only [letk]
  rw [Of_l1 hf n _ y 0 hU, Clone_eq y (by omega), Option.bind_some]
  rcases Dn.of n with ⟨d, hd⟩ | ⟨_, hd⟩
  · rw [(May_iff n).2 ⟨d, hd⟩, Spread_eq hd hU (by omega), Option.bind_some, RSpread_eq hd (by omega) hU (by omega)]
    simp only [Bool.not_true, cond_false, bne_self_eq_false, Option.bind_some, same_eq, decide_true, Equal_eq]
  · have hm : r_May n = false := by rw [May_eq, hd]; rfl
    rw [hm, Spread_no hd, Option.bind_some]
    rfl
theorem IClone_eq (x : List Int) (h : x.length ≤ 1000000) : i_Clone x = some x := by
  unfold i_Clone
  rw [app_ok (by simp; omega)]
  rfl
/-- what the statement asks of a seam -/
def seamOk (l : List (List Int)) (right : Bool) (n : Int) : Prop :=
  b_Seam l n = some (if right = true then (if 0 ≤ n ∧ n < l.length then ((r_Seam l n).getD 0, 0) else (0, 2)) else (0, 280)) ∧ (right = true → 0 ≤ n → n < l.length → ∃ s, r_Seam l n = some s)
theorem Parts_l1 (l : List (List Int)) (right : Bool) (q : Option Bool) (hok : ∀ n, seamOk l right n) : ∀ (r : List Int) (i : Nat), l_Parts_l2 l right q r i = q
  | [], i => rfl
  | n :: r, i => by
    obtain ⟨h1, h2⟩ := hok n
    have ih := Parts_l1 l right q hok r (i + 1)
    simp only [l_Parts_l2, letk, h1, Option.bind_some]
    cases right with
    | false => simpa using ih
    | true =>
      simp only [cond_true, if_true]
      by_cases h0 : 0 ≤ n
      · by_cases h3 : n < l.length
        · obtain ⟨s, hs⟩ := h2 rfl h0 h3
          simp [h0, h3, hs, ih]
        · simp [h0, h3, ih]
      · simp [h0, ih]
theorem Parts_l2 (l : List (List Int)) (right : Bool) (q : Option Bool) (hok : ∀ n, seamOk l right n) : ∀ (r : List Int) (i : Nat), l_Parts_l4 l right q r i = q
  | [], i => rfl
  | n :: r, i => by
    obtain ⟨h1, h2⟩ := hok n
    have ih := Parts_l2 l right q hok r (i + 1)
    simp only [l_Parts_l4, letk, h1, Option.bind_some]
    cases right with
    | false => simpa using ih
    | true =>
      simp only [cond_true, if_true]
      by_cases h0 : 0 ≤ n
      · by_cases h3 : n < l.length
        · obtain ⟨s, hs⟩ := h2 rfl h0 h3
          simp [h0, h3, hs, ih]
        · simp [h0, h3, ih]
      · simp [h0, ih]
theorem seam_ok {d : Nat} {s : List Int} {n : Int} (h : Dn n d) (hU : UU s) (hs : SS s) (hl : s.length ≤ 1000000) (m : Int) : seamOk (rowsOf d s) true m := by
  have hp := h.pow
  unfold seamOk
  simp only [if_true]
  by_cases hm : 0 ≤ m ∧ m < ((rowsOf d s).length : Int)
  · have hm' := hm
    rw [rowsOf_len] at hm'
    obtain ⟨b, rfl⟩ := Int.eq_ofNat_of_zero_le hm.1
    have hb : b < 2 ^ d := by omega
    have e := RSeam_rows h.d hs hl b hb
    rw [if_pos hm, e, Seam_rows h hU hs hl b hb]
    exact ⟨rfl, fun _ _ _ => ⟨_, rfl⟩⟩
  · rw [if_neg hm]
    refine ⟨Seam_out h hU hs hl m ?_, fun _ h0 h1 => absurd ⟨h0, h1⟩ hm⟩
    rw [rowsOf_len] at hm
    omega
theorem Parts_true {f : Nat} (hf : 100 ≤ f) {x : List (List Int)} (hx : ∀ r ∈ x, UU r) {ns : List Int} : l_Parts f x ns = some true := by
  have hU := ownL_U hx
  have hl := ownL_flat x
  have h1 := cut_to ns 6
  rw [show ((6 : Nat) : Int) = 6 from rfl] at h1
  have h2 : i_Clone (ns.take 6) = some (ns.take 6) := IClone_eq _ (by simp; omega)
  have h3 : app 8 (ns.take 6) [(0 : Int), 1, 2, 3] = some (ns.take 6 ++ [(0 : Int), 1, 2, 3]) := app_ok (by simp only [List.length_cons, List.length_nil, List.length_take]; omega)
  obtain ⟨b, hr, hc⟩ := Right_eq (show 16 < f by omega) hU (by omega)
  have hk := RKeys_eq (ownL x) (by omega)
  unfold l_Parts
  rw [wakes_eq (show 8 < f by omega), Option.bind_some]
  simp only [Bool.not_true, cond_false, own_eq, Option.bind_some, hr, hc, letk, h1, h2, h3, hk, same_eq, decide_true, cond_true]
  generalize ownL x = l at *
  cases b with
  | false =>
    have hc' : b_Check l = some 280 := hc
    have hok : ∀ n, seamOk l false n := fun n => ⟨Seam_bad hc' n, fun h => by cases h⟩
    have e0 : ((280 : Int) == 0) = false := by decide
    have e1 : ((280 : Int) != 0) = true := by decide
    simp only [Bool.false_eq_true, if_false, e0, e1, beq_self_eq_true, Bool.not_true, cond_false, cond_true, bne_self_eq_false, Expand_bad hc', Shrink_bad hc', Option.bind_some, decide_true]
    rw [Parts_l1 l false _ hok]
  | true =>
    have hc' : b_Check l = some 0 := hc
    rcases Check_cases hU (by omega) with hb | ⟨d, s, hd, e, hsU, hsS, hsl, _⟩
    · rw [hb] at hc'; cases hc'
    have hd5 : d = 2 ∨ d = 3 ∨ d = 4 ∨ d = 5 := by rcases hd.d with e | e | e <;> simp [e]
    have hfl : l.flatten = s := by rw [e]; exact flat_eq hd5 hsS
    have hln : l.length = 2 ^ d := by rw [e, rowsOf_len]
    have hok : ∀ n, seamOk l true n := fun n => by rw [e]; exact seam_ok hd hsU hsS hsl n
    have hsrt : srt s = s := srt_id hsU hsS
    have hs5 : s.length ≤ 100000 := by rw [← hfl]; omega
    simp only [if_true, beq_self_eq_true, Bool.not_true, cond_false, cond_true, bne_self_eq_false, hfl]
    rw [Parts_l2 l true _ hok]
    rcases hd with ⟨hn, rfl⟩ | ⟨hn, rfl⟩ | ⟨hn, rfl⟩
    · have eE := Expand_rows (.inl ⟨rfl, rfl⟩ : Dn 4 2) (by decide) hsU hsS hsl
      have eS := Shrink_4 (f := f) hsU hsS hsl
      have eR := RSpread_eq (.inr (.inl ⟨rfl, rfl⟩) : Dn 8 3) (show 16 < f by omega) hsU hs5
      rw [hsrt] at eR
      rw [← e] at eE eS
      have w1 : IntKind.i64.wrap (2 * (4 : Int)) = 8 := by decide
      have c1 : decide ((4 : Int) > 4) = false := by decide
      have c2 : decide ((4 : Int) < 16) = true := by decide
      simp only [hn, eE, eS, Option.bind_some, w1, c1, c2, cond_true, cond_false, eR, bne_self_eq_false, decide_true, Bool.not_true]
    · have eE := Expand_rows (.inr (.inl ⟨rfl, rfl⟩) : Dn 8 3) (by decide) hsU hsS hsl
      have eS := Shrink_rows (f := f) (d := 2) (.inl rfl) (by omega) hsU hsS hsl
      have eR := RSpread_eq (.inr (.inr ⟨rfl, rfl⟩) : Dn 16 4) (show 16 < f by omega) hsU hs5
      have eR2 := RSpread_eq (.inl ⟨rfl, rfl⟩ : Dn 4 2) (show 16 < f by omega) hsU hs5
      rw [hsrt] at eR eR2
      rw [← e] at eE eS
      have w1 : IntKind.i64.wrap (2 * (8 : Int)) = 16 := by decide
      have w2 : IntKind.i64.wrap ((8 : Int).tdiv 2) = 4 := by decide
      have c1 : decide ((8 : Int) > 4) = true := by decide
      have c2 : decide ((8 : Int) < 16) = true := by decide
      simp only [hn, eE, eS, Option.bind_some, w1, w2, c1, c2, cond_true, cond_false, eR, eR2, bne_self_eq_false, decide_true, Bool.not_true]
    · have eE := Expand_16 hsU hsS hsl
      have eS := Shrink_rows (f := f) (d := 3) (.inr rfl) (by omega) hsU hsS hsl
      have eR2 := RSpread_eq (.inr (.inl ⟨rfl, rfl⟩) : Dn 8 3) (show 16 < f by omega) hsU hs5
      rw [hsrt] at eR2
      rw [← e] at eE eS
      have w2 : IntKind.i64.wrap ((16 : Int).tdiv 2) = 8 := by decide
      have c1 : decide ((16 : Int) > 4) = true := by decide
      have c2 : decide ((16 : Int) < 16) = false := by decide
      simp only [hn, eE, eS, Option.bind_some, w2, c1, c2, cond_true, cond_false, eR2, bne_self_eq_false, decide_true, Bool.not_true]
end Go.Proofs.Ytdemjanelbajlaa
