/-
  Plain laws of package bucket: hashes, rows in order of hashes, rows of buckets.
-/
import Derived.Test.YtdemjanelbajlaaGPlain
import Derived.Laws.Bits64b
namespace Go.Proofs.Ytdemjanelbajlaa
open Go.Dc

abbrev U (k : Int) : Prop := 0 ≤ k ∧ k < 18446744073709551616
theorem hash_eq (k : Int) : b_Hash k = (k * 11400714819323198485) % 18446744073709551616 := by unfold b_Hash; rw [IntKind.wrap_u64]
theorem key_eq (k : Int) : b_Key k = (k * 17428512612931826493) % 18446744073709551616 := by unfold b_Key back; rw [IntKind.wrap_u64]
theorem hash_U (k : Int) : U (b_Hash k) := by rw [hash_eq]; unfold U; omega
theorem Key_Hash {k : Int} (h : U k) : b_Key (b_Hash k) = k := by rw [hash_eq, key_eq]; unfold U at h; omega
theorem Hash_Key {k : Int} (h : U k) : b_Hash (b_Key k) = k := by rw [hash_eq, key_eq]; unfold U at h; omega
theorem Hash_inj {a b : Int} (ha : U a) (hb : U b) (h : b_Hash a = b_Hash b) : a = b := by rw [← Key_Hash ha, ← Key_Hash hb, h]
theorem Hash_add (a b : Int) : b_Hash (IntKind.u64.wrap (a + b)) = IntKind.u64.wrap (b_Hash a + b_Hash b) := by
  rw [hash_eq, hash_eq, hash_eq, IntKind.wrap_u64, IntKind.wrap_u64]; omega

/-! ### Rows in order of hashes -/
def SS (l : List Int) : Prop := l.Pairwise fun a b => b_Hash a < b_Hash b
theorem SS.ext : ∀ {l m : List Int}, SS l → SS m → (∀ k, k ∈ l ↔ k ∈ m) → l = m
  | [], [], _, _, _ => rfl
  | [], b :: m, _, _, h => by have := (h b).2 List.mem_cons_self; cases this
  | a :: l, [], _, _, h => by have := (h a).1 List.mem_cons_self; cases this
  | a :: l, b :: m, h1, h2, h => by
    obtain ⟨h1a, h1'⟩ := List.pairwise_cons.1 h1
    obtain ⟨h2a, h2'⟩ := List.pairwise_cons.1 h2
    have hab : a = b := by
      rcases List.mem_cons.1 ((h a).1 List.mem_cons_self) with e | ha
      · exact e
      rcases List.mem_cons.1 ((h b).2 List.mem_cons_self) with e | hb
      · exact e.symm
      have := h2a a ha
      have := h1a b hb
      omega
    subst hab
    have : l = m := SS.ext (l := l) (m := m) h1' h2' fun k => by
      constructor
      · intro hk
        rcases List.mem_cons.1 ((h k).1 (List.mem_cons_of_mem _ hk)) with e | hm
        · subst e; have := h1a k hk; omega
        · exact hm
      · intro hk
        rcases List.mem_cons.1 ((h k).2 (List.mem_cons_of_mem _ hk)) with e | hm
        · subst e; have := h2a k hk; omega
        · exact hm
    rw [this]
def ins (k : Int) : List Int → List Int
  | [] => [k]
  | a :: r => if b_Hash k < b_Hash a then k :: a :: r else if b_Hash k = b_Hash a then a :: r else a :: ins k r
def srt : List Int → List Int
  | [] => []
  | k :: r => ins k (srt r)
theorem ins_mem {k : Int} (hk : U k) : ∀ {l : List Int}, (∀ a ∈ l, U a) → ∀ x, x ∈ ins k l ↔ x = k ∨ x ∈ l
  | [], _, x => by simp [ins]
  | a :: r, h, x => by
    simp only [ins]
    split
    · simp
    · split
      · rename_i _ he
        have := Hash_inj hk (h a List.mem_cons_self) he
        subst this
        simp
      · rw [List.mem_cons, ins_mem hk (fun b hb => h b (List.mem_cons_of_mem _ hb)), List.mem_cons]
        constructor
        · rintro (h | h | h) <;> simp [h]
        · rintro (h | h | h) <;> simp [h]
theorem ins_SS {k : Int} (hk : U k) : ∀ {l : List Int}, (∀ a ∈ l, U a) → SS l → SS (ins k l)
  | [], _, _ => by simp [ins, SS]
  | a :: r, h, hs => by
    obtain ⟨h1, h2⟩ := List.pairwise_cons.1 hs
    have hr := fun b hb => h b (List.mem_cons_of_mem _ hb)
    simp only [ins]
    split
    · rename_i hlt
      refine List.pairwise_cons.2 ⟨fun b hb => ?_, hs⟩
      rcases List.mem_cons.1 hb with e | hb
      · subst e; exact hlt
      · have := h1 b hb; omega
    · split
      · exact hs
      · rename_i h3 h4
        refine List.pairwise_cons.2 ⟨fun b hb => ?_, ins_SS hk hr h2⟩
        rcases (ins_mem hk hr b).1 hb with e | hb
        · subst e; omega
        · exact h1 b hb
theorem srt_mem : ∀ {l : List Int}, (∀ a ∈ l, U a) → ∀ x, x ∈ srt l ↔ x ∈ l
  | [], _, x => by simp [srt]
  | a :: r, h, x => by
    have hr := fun b hb => h b (List.mem_cons_of_mem _ hb)
    simp only [srt]
    rw [ins_mem (h a List.mem_cons_self) (fun b hb => hr b ((srt_mem hr b).1 hb)), srt_mem hr, List.mem_cons]
theorem srt_SS : ∀ {l : List Int}, (∀ a ∈ l, U a) → SS (srt l)
  | [], _ => by simp [srt, SS]
  | a :: r, h => by
    have hr := fun b hb => h b (List.mem_cons_of_mem _ hb)
    exact ins_SS (h a List.mem_cons_self) (fun b hb => hr b ((srt_mem hr b).1 hb)) (srt_SS hr)
theorem ins_len (k : Int) : ∀ l : List Int, (ins k l).length ≤ l.length + 1
  | [] => by simp [ins]
  | a :: r => by
    simp only [ins]
    split
    · simp
    · split
      · simp
      · have := ins_len k r; simp; omega
theorem srt_len : ∀ l : List Int, (srt l).length ≤ l.length
  | [] => by simp [srt]
  | a :: r => by have := ins_len a (srt r); have := srt_len r; simp [srt]; omega
theorem srt_U {l : List Int} (h : ∀ a ∈ l, U a) : ∀ a ∈ srt l, U a := fun a ha => h a ((srt_mem h a).1 ha)
theorem srt_id {l : List Int} (h : ∀ a ∈ l, U a) (hs : SS l) : srt l = l := SS.ext (srt_SS h) hs (srt_mem h)
theorem SS.filter {l : List Int} (h : SS l) (p : Int → Bool) : SS (l.filter p) := List.Pairwise.filter p h
/-- not in order of hashes strictly, each once -/
theorem dedup_mem : ∀ (l : List Int) (x : Int), x ∈ dedup l ↔ x ∈ l
  | [], x => by simp [dedup]
  | [a], x => by simp [dedup]
  | a :: b :: r, x => by
    have ih := dedup_mem (b :: r) x
    simp only [dedup]
    split
    · rename_i e; subst e; rw [ih]; simp
    · rw [List.mem_cons, ih]
      simp
theorem dedup_SS : ∀ {l : List Int}, (∀ a ∈ l, U a) → l.Pairwise (fun a b => b_Hash a ≤ b_Hash b) → SS (dedup l)
  | [], _, _ => by simp [dedup, SS]
  | [a], _, _ => by simp [dedup, SS]
  | a :: b :: r, h, hs => by
    obtain ⟨h1, h2⟩ := List.pairwise_cons.1 hs
    have ih := dedup_SS (l := b :: r) (fun x hx => h x (List.mem_cons_of_mem _ hx)) h2
    simp only [dedup]
    split
    · exact ih
    · rename_i hne
      refine List.pairwise_cons.2 ⟨fun x hx => ?_, ih⟩
      have hx' := (dedup_mem (b :: r) x).1 hx
      have hab : b_Hash a < b_Hash b := by
        have := h1 b List.mem_cons_self
        have : b_Hash a ≠ b_Hash b := fun e => hne (Hash_inj (h a List.mem_cons_self) (h b (by simp)) e)
        omega
      rcases List.mem_cons.1 hx' with e | hx'
      · subst e; exact hab
      · have := (List.pairwise_cons.1 h2).1 x hx'
        omega

/-! ### Buckets -/
def bk (d : Nat) (k : Int) : Int := b_Hash k / 2 ^ (64 - d)
/-- so many buckets, at so great a depth -/
def Dn (n : Int) (d : Nat) : Prop := n = 4 ∧ d = 2 ∨ n = 8 ∧ d = 3 ∨ n = 16 ∧ d = 4
theorem Dn.pow {n : Int} {d : Nat} (h : Dn n d) : n = ((2 ^ d : Nat) : Int) := by rcases h with ⟨rfl, rfl⟩ | ⟨rfl, rfl⟩ | ⟨rfl, rfl⟩ <;> rfl
theorem Dn.d {n : Int} {d : Nat} (h : Dn n d) : d = 2 ∨ d = 3 ∨ d = 4 := by rcases h with ⟨rfl, rfl⟩ | ⟨rfl, rfl⟩ | ⟨rfl, rfl⟩ <;> simp
theorem Dn.look {n : Int} {d : Nat} (h : Dn n d) : lookM depths n = some (d : Int) := by rcases h with ⟨rfl, rfl⟩ | ⟨rfl, rfl⟩ | ⟨rfl, rfl⟩ <;> decide
theorem depths_eq : depths = [(4, 2), (8, 3), (16, 4)] := by decide
theorem Dn.of (n : Int) : (∃ d, Dn n d) ∨ ((∀ d, ¬ Dn n d) ∧ lookM depths n = none) := by
  by_cases h4 : n = 4
  · exact .inl ⟨2, .inl ⟨h4, rfl⟩⟩
  by_cases h8 : n = 8
  · exact .inl ⟨3, .inr (.inl ⟨h8, rfl⟩)⟩
  by_cases h16 : n = 16
  · exact .inl ⟨4, .inr (.inr ⟨h16, rfl⟩)⟩
  refine .inr ⟨fun d h => ?_, ?_⟩
  · rcases h with ⟨h, _⟩ | ⟨h, _⟩ | ⟨h, _⟩ <;> contradiction
  · rw [depths_eq]; simp [lookM, h4, h8, h16]
theorem May_iff (n : Int) : r_May n = true ↔ ∃ d, Dn n d := by
  simp only [r_May]
  by_cases h4 : n = 4
  · simp only [h4, beq_self_eq_true, cond_true, true_iff]; exact ⟨2, .inl ⟨rfl, rfl⟩⟩
  by_cases h8 : n = 8
  · simp only [h8]; simp; exact ⟨3, .inr (.inl ⟨rfl, rfl⟩)⟩
  by_cases h16 : n = 16
  · simp only [h16]; simp; exact ⟨4, .inr (.inr ⟨rfl, rfl⟩)⟩
  simp [h4, h8, h16]
  intro d h
  rcases h with ⟨h, _⟩ | ⟨h, _⟩ | ⟨h, _⟩ <;> contradiction
theorem May_eq (n : Int) : r_May n = (lookM depths n).isSome := by
  rcases Dn.of n with ⟨d, h⟩ | ⟨h, h'⟩
  · rw [h.look, (May_iff n).2 ⟨d, h⟩]; rfl
  · rw [h']
    cases hm : r_May n with
    | false => rfl
    | true => obtain ⟨d, hd⟩ := (May_iff n).1 hm; exact absurd hd (h d)
theorem shl_eq (x : Int) (d : Nat) (hd : d ≤ 64) : shlO .u64 x (d : Int) = some ((x * 2 ^ d) % 18446744073709551616) := by
  unfold shlO
  rw [if_neg (by omega)]
  have h64 : IntKind.u64.bits = 64 := rfl
  have hm : min (d : Int).toNat IntKind.u64.bits = d := by rw [h64, Int.toNat_natCast]; omega
  rw [hm, IntKind.wrap_u64]
theorem shr_eq (x : Int) (d : Nat) (hd : d ≤ 64) : shrO .u64 x (d : Int) = some (x / 2 ^ d) := by
  unfold shrO
  rw [if_neg (by omega)]
  have h64 : IntKind.u64.bits = 64 := rfl
  have hm : min (d : Int).toNat IntKind.u64.bits = d := by rw [h64, Int.toNat_natCast]; omega
  rw [hm, Int.fdiv_eq_ediv_of_nonneg _ (Int.le_of_lt (Int.pow_pos (by omega)))]
theorem or_disj (a b d : Nat) (hb : b < 2 ^ d) : (2 ^ d * a ||| b) = 2 ^ d * a + b := (Nat.two_pow_add_eq_or_of_lt hb a).symm
theorem at_nat (x d : Nat) (hx : x < 18446744073709551616) (hd : d = 2 ∨ d = 3 ∨ d = 4) : b_at (x : Int) (d : Int) = some ((x / 2 ^ (64 - d) : Nat) : Int) := by
  unfold b_at rotl
  have e1 : bits .and .u64 (IntKind.u64.wrap (d : Int)) 63 = (d : Int) := by rcases hd with rfl | rfl | rfl <;> rfl
  have e2 : IntKind.u64.wrap ((64 : Int) - (d : Int)) = ((64 - d : Nat) : Int) := by rw [IntKind.wrap_u64]; omega
  have e3 : IntKind.u64.wrap ((1 * 2 ^ d : Int) % 18446744073709551616 - 1) = ((2 ^ d - 1 : Nat) : Int) := by rcases hd with rfl | rfl | rfl <;> rfl
  rw [e1, shl_eq _ d (by omega), Option.bind_some, e2, shr_eq _ (64 - d) (by omega), Option.bind_some, Option.bind_some, shl_eq _ d (by omega), Option.bind_some, e3]
  have hq : (x : Int) / 2 ^ (64 - d) = ((x / 2 ^ (64 - d) : Nat) : Int) := by simp
  have hl : ((x : Int) * 2 ^ d) % 18446744073709551616 = ((2 ^ d * (x % 2 ^ (64 - d)) : Nat) : Int) := by rcases hd with rfl | rfl | rfl <;> simp only [Nat.reducePow, Nat.reduceSub, Int.reducePow] <;> omega
  have hlt : x / 2 ^ (64 - d) < 2 ^ d := by rcases hd with rfl | rfl | rfl <;> simp only [Nat.reducePow, Nat.reduceSub] <;> omega
  have hs : 2 ^ d * (x % 2 ^ (64 - d)) + x / 2 ^ (64 - d) < 18446744073709551616 := by rcases hd with rfl | rfl | rfl <;> simp only [Nat.reducePow, Nat.reduceSub] <;> omega
  rw [hq, hl, bits_or_u64_nat _ _ (by omega) (by omega), or_disj _ _ _ hlt, bits_and_u64_nat _ _ (by omega) (by rcases hd with rfl | rfl | rfl <;> decide)]
  rw [Nat.and_two_pow_sub_one_eq_mod, Nat.mul_add_mod, Nat.mod_eq_of_lt hlt]
  have h16 : x / 2 ^ (64 - d) < 16 := by rcases hd with rfl | rfl | rfl <;> simp only [Nat.reducePow, Nat.reduceSub] at hlt ⊢ <;> omega
  generalize x / 2 ^ (64 - d) = q at *
  rw [IntWalk.i64_in]
  omega
theorem at_eq (k : Int) {d : Nat} (hd : d = 2 ∨ d = 3 ∨ d = 4) : b_at (b_Hash k) (d : Int) = some (bk d k) := by
  obtain ⟨h0, h1⟩ := hash_U k
  obtain ⟨x, hx⟩ := Int.eq_ofNat_of_zero_le h0
  unfold bk
  rw [hx, at_nat x d (by omega) hd]
  simp
theorem bk_range (k : Int) {d : Nat} (hd : d = 2 ∨ d = 3 ∨ d = 4 ∨ d = 5) : 0 ≤ bk d k ∧ bk d k < ((2 ^ d : Nat) : Int) := by
  obtain ⟨h0, h1⟩ := hash_U k
  unfold bk
  rcases hd with rfl | rfl | rfl | rfl <;> simp only [Nat.reduceSub, Int.reducePow, Nat.reducePow] <;> omega
theorem bk_half (k : Int) {d : Nat} (hd : d = 2 ∨ d = 3 ∨ d = 4) : bk d k = bk (d + 1) k / 2 := by
  unfold bk
  rcases hd with rfl | rfl | rfl <;> simp only [Nat.reduceSub, Int.reducePow, Nat.reduceAdd] <;> omega
theorem bk_mono {a b : Int} (d : Nat) (h : b_Hash a ≤ b_Hash b) : bk d a ≤ bk d b := Int.ediv_le_ediv (Int.pow_pos (by omega)) h
theorem Of_ref (k : Int) {d : Nat} (hd : d = 2 ∨ d = 3 ∨ d = 4 ∨ d = 5) : r_Of k ((2 ^ d : Nat) : Int) = some (bk d k) := by
  obtain ⟨h0, h1⟩ := hash_U k
  unfold r_Of quoO bk
  have hr : r_Hash k = b_Hash k := rfl
  rw [hr]
  generalize b_Hash k = h at *
  have e1 : IntKind.u64.wrap ((IntKind.u64.wrap ((2 ^ d : Nat) : Int)).tdiv 2) = ((2 ^ (d - 1) : Nat) : Int) := by rcases hd with rfl | rfl | rfl | rfl <;> decide
  rw [e1]
  have e2 : IntKind.u64.wrap ((9223372036854775808 : Int).tdiv ((2 ^ (d - 1) : Nat) : Int)) = 2 ^ (64 - d) := by rcases hd with rfl | rfl | rfl | rfl <;> decide
  rw [if_neg (by rcases hd with rfl | rfl | rfl | rfl <;> decide), Option.bind_some, e2, if_neg (by rcases hd with rfl | rfl | rfl | rfl <;> decide), Option.bind_some]
  rw [Int.tdiv_eq_ediv_of_nonneg h0]
  have : 0 ≤ h / 2 ^ (64 - d) ∧ h / 2 ^ (64 - d) < 64 := by
    rcases hd with rfl | rfl | rfl | rfl <;> simp only [Nat.reduceSub, Int.reducePow] <;> omega
  rw [IntKind.wrap_u64, Int.emod_eq_of_lt this.1 (by omega), IntWalk.i64_in]
  omega
theorem Of_eq (k n : Int) : b_Of k n = some (match lookM depths n with | some d => (bk d.toNat k, 0) | none => (0, 2)) := by
  unfold b_Of
  rcases Dn.of n with ⟨d, h⟩ | ⟨_, h⟩
  · rw [h.look]
    simp only [Option.isSome_some, Bool.not_true, cond_false, Option.getD_some, at_eq k h.d, Option.bind_some, Int.toNat_natCast]
  · rw [h]; rfl
end Go.Proofs.Ytdemjanelbajlaa
