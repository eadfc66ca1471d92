/-
  The program's functions compute the plain ones (printed by a tool of the prover's).
-/
import Derived.Test.YtjdeaihnpgkphaaGTypes
namespace Go.Proofs.Ytjdeaihnpgkphaa
open Go.RowKit Go.Dc Go.Shelf
set_option maxRecDepth 100000 in
theorem byteAt_lt (s : ByteArray) (j : Nat) : byteAt s j < 256 := by
  unfold byteAt
  cases s.data.toList[j]? with
  | none => simp
  | some b => simpa using b.toNat_lt
theorem packN_lt {c : Nat → Nat} (hc : ∀ j, c j < 256) : ∀ i, packN c i < 256 ^ i
  | 0 => by simp [packN]
  | i + 1 => by
    have h1 := packN_lt hc i
    have h2 : 256 ^ i * c i ≤ 256 ^ i * 255 := Nat.mul_le_mul_left _ (by have := hc i; omega)
    simp only [packN, Nat.pow_succ]
    generalize (256 : Nat) ^ i = q at *
    generalize q * c i = r at *
    omega
theorem cells_byte {s : ByteArray} (hs : s.size ≤ 8) {j : Nat} (hj : j < 8) : (Lib.byteCells s.data.toList ++ (List.replicate 8 (Value.int .u8 0)).drop s.size)[j]? = some (.int .u8 (byteAt s j : Int)) := by
  have hl : s.data.toList.length = s.size := by rw [Array.length_toList]; rfl
  by_cases h : j < s.size
  · rw [List.getElem?_append_left (by rw [Lib.byteCells_length]; omega)]
    unfold Lib.byteCells byteAt
    rw [List.getElem?_map, List.getElem?_eq_getElem (by omega)]
    rfl
  · rw [List.getElem?_append_right (by rw [Lib.byteCells_length]; omega), Lib.byteCells_length, hl, List.getElem?_drop, List.getElem?_replicate, if_pos (by omega)]
    unfold byteAt
    rw [List.getElem?_eq_none (by omega)]
    rfl
theorem shl_byte (c i : Nat) (hc : c < 256) (hi : i < 8) : shlO .u64 (c : Int) ((8 * i : Nat) : Int) = some ((256 ^ i * c : Nat) : Int) := by
  unfold shlO
  rw [if_neg (by omega)]
  have h64 : IntKind.u64.bits = 64 := rfl
  have hm : min ((8 * i : Nat) : Int).toNat IntKind.u64.bits = 8 * i := by rw [h64, Int.toNat_natCast]; omega
  have hp : (2 : Nat) ^ (8 * i) = 256 ^ i := by rw [Nat.pow_mul]
  have hle : 256 ^ i ≤ 256 ^ 7 := Nat.pow_le_pow_right (by omega) (by omega)
  have e7 : (256 : Nat) ^ 7 = 72057594037927936 := by decide
  have e : (c : Int) * 2 ^ (8 * i) = ((256 ^ i * c : Nat) : Int) := by rw [← hp, Int.natCast_mul, Int.natCast_pow, Int.mul_comm]; rfl
  rw [hm, IntKind.wrap_u64, e]
  have hlt : 256 ^ i * c < 18446744073709551616 := by
    have h1 : 256 ^ i * c ≤ 256 ^ 7 * c := Nat.mul_le_mul_right _ hle
    rw [e7] at h1
    omega
  generalize 256 ^ i * c = q at *
  rw [Option.some.injEq]
  omega
theorem or_byte {c : Nat → Nat} (hc : ∀ j, c j < 256) (i : Nat) (hi : i < 8) : bits .or .u64 (packN c i : Int) ((256 ^ i * c i : Nat) : Int) = (packN c (i + 1) : Int) := by
  have h1 := packN_lt hc i
  have h2 := packN_lt hc (i + 1)
  have hle : 256 ^ (i + 1) ≤ 256 ^ 8 := Nat.pow_le_pow_right (by omega) (by omega)
  have e8 : (256 : Nat) ^ 8 = 18446744073709551616 := by decide
  rw [e8] at hle
  have h3 : packN c (i + 1) = packN c i + 256 ^ i * c i := rfl
  rw [bits_or_u64_nat _ _ (by omega) (by omega), Nat.or_comm, h3]
  have hp : (2 : Nat) ^ (8 * i) = 256 ^ i := by rw [Nat.pow_mul]
  have := Nat.two_pow_add_eq_or_of_lt (i := 8 * i) (b := packN c i) (by rw [hp]; exact h1) (c i)
  rw [hp] at this
  rw [← this, Nat.add_comm]
theorem b_Text_c {O : List Nat} {w : World} (hO : OB O w) {v0 : Value} {x0 : ByteArray} (h0 : Ty.str.is O w v0 x0) : Calls Try.prog 60 #[v0] w (Gives (rt2 (Ty.int .u64) (Ty.int .i64)) O w (b_Text x0)) := by
  obtain rfl := str_is.1 h0
  refine calls_of (args := [.string x0]) (N := 36) Try.func60 rfl rfl rfl ?_
  refine wc_seq ?_
  refine wc_region (l := [0, 1]) rfl ?_
  refine wo_seg Θ_ok [0, 1] [(0, .string x0)] rfl ⟨rfl, trivial⟩ ?_
  refine wo_nil ?_
  refine wq_seq ?_
  refine wc_seq ?_
  refine wc_seq ?_
  refine wc_region (l := [0, 1, 2]) rfl ?_
  refine wo_seg Θ_ok [0, 1, 2] [(0, .string x0), (10, .bool (decide ((x0.size : Int) > 8)))] rfl ⟨rfl, rfl, trivial⟩ ?_
  refine wo_nil ?_
  refine wq_seq ?_
  unfold b_Text
  by_cases h8 : 8 < x0.size
  · refine wc_known_true rfl (decide_eq_true (by omega)) ?_
    refine wc_seq ?_
    refine wc_region (l := [0, 1]) rfl ?_
    refine wo_seg Θ_ok [0, 1] [(2, .int .u64 0), (3, .int .i64 111)] rfl ⟨rfl, rfl, trivial⟩ ?_
    refine wo_nil ?_
    refine wq_seq ?_
    refine wc_ret ?_
    rw [if_pos h8]
    exact wq_then_ret (wq_ret rfl ⟨_, rfl, ⟨_, _, rfl, (int_is.2 rfl), (int_is.2 rfl)⟩, Fr.refl _ _⟩)
  rw [if_neg h8]
  refine wc_known_false rfl (decide_eq_false (by omega)) ?_
  refine wc_skip ?_
  refine wq_seq ?_
  refine wc_seq ?_
  refine wc_region (l := [0]) rfl ?_
  refine wo_alloc Θ_ok rfl rfl rfl rfl rfl rfl (List.replicate 8 (.int .u8 0)) rfl hO (fun b w1 n1 => ?_)
  refine wo_nil ?_
  refine wq_seq ?_
  refine wc_seq ?_
  refine wc_region (l := [0, 1, 2]) rfl ?_
  refine wo_acutV Θ_ok rfl rfl rfl rfl rfl rfl rfl rfl rfl ?_
  refine wo_seg Θ_ok [1] [(0, .string x0), (4, .pointer (some ⟨b, 0, none⟩)), (11, .slice (some ⟨b, 0, none⟩) 8 8), (12, .string x0)] rfl ⟨rfl, rfl, rfl, rfl, trivial⟩ ?_
  refine wo_copyS Θ_ok rfl rfl rfl rfl rfl rfl rfl rfl rfl rfl rfl n1.blk (by omega) (by simp) (fun w2 hb2 f2 => ?_)
  have hF : Fr [] w w2 := n1.fr.own f2 n1.ge
  refine wo_nil ?_
  refine wq_seq ?_
  refine wc_seq ?_
  refine wc_region (l := [0]) rfl ?_
  refine wo_seg Θ_ok [0] [(0, .string x0), (4, .pointer (some ⟨b, 0, none⟩)), (5, .int .u64 ((0 : Nat) : Int))] rfl ⟨rfl, rfl, rfl, trivial⟩ ?_
  refine wo_nil ?_
  refine wq_seq ?_
  refine wc_seq ?_
  refine wc_seq ?_
  refine wc_region (l := [0, 1]) rfl ?_
  have hs : x0.size ≤ 8 := by omega
  obtain ⟨C, hC⟩ : ∃ C, C = Lib.byteCells x0.data.toList ++ (List.replicate 8 (Value.int .u8 0)).drop x0.size := ⟨_, rfl⟩
  rw [← hC] at hb2
  have hCl : C.length = 8 := by
    rw [hC, List.length_append, Lib.byteCells_length, List.length_drop, List.length_replicate, Array.length_toList]
    show x0.size + (8 - x0.size) = 8
    omega
  have hCj : ∀ j, j < 8 → C[j]? = some (.int .u8 (byteAt x0 j : Int)) := fun j hj => by rw [hC]; exact cells_byte hs hj
  refine wo_load Θ_ok rfl rfl rfl rfl rfl rfl rfl hb2 C (by rw [List.drop_zero]; exact List.take_of_length_le (by rw [hCl]; exact Nat.le_refl _)) hCl (.inl rfl) (.agg C.toArray) rfl ?_
  refine wo_seg Θ_ok [1] [(0, .string x0), (5, .int .u64 ((packN (byteAt x0) 0 : Nat) : Int)), (14, .agg C.toArray), (15, .int .i64 ((0 : Nat) : Int))] rfl ⟨rfl, rfl, rfl, rfl, trivial⟩ ?_
  refine wo_nil ?_
  refine wq_seq ?_
  refine wc_block ?_
  refine wc_loop (fun m E W => ∃ i : Nat, 8 - i = m ∧ i ≤ 8 ∧ E = [(0, .string x0), (5, .int .u64 ((packN (byteAt x0) i : Nat) : Int)), (14, .agg C.toArray), (15, .int .i64 (i : Int))] ∧ W = w2 ∧ ∀ j, j < i → j < x0.size → byteAt x0 j ≠ 0) _
    [(0, .string x0), (5, .int .u64 ((packN (byteAt x0) 0 : Nat) : Int)), (14, .agg C.toArray), (15, .int .i64 ((0 : Nat) : Int))] ⟨rfl, rfl, rfl, rfl, trivial⟩ ⟨0, rfl, Nat.zero_le _, rfl, rfl, fun j hj => by omega⟩ ?_
  rintro m E W ⟨i, hm, hi, rfl, rfl, hz⟩
  refine wc_seq ?_
  refine wc_region (l := [0]) rfl ?_
  refine wo_seg Θ_ok [0] [(0, .string x0), (5, .int .u64 ((packN (byteAt x0) i : Nat) : Int)), (14, .agg C.toArray), (15, .int .i64 (i : Int)), (16, .bool (decide ((i : Int) < 8)))] rfl ⟨rfl, rfl, rfl, rfl, rfl, trivial⟩ ?_
  refine wo_nil ?_
  refine wq_seq ?_
  refine wc_seq ?_
  by_cases hi8 : i < 8
  case neg =>
    refine wc_known_false rfl (decide_eq_false (by omega)) ?_
    refine wc_exit ?_
    refine wq_then_exit (wq_then_exit (wq_block_exit (wq_seq ?_)))
    refine wc_seq ?_
    refine wc_region (l := [0, 1, 2]) rfl ?_
    refine wo_seg Θ_ok [0, 1, 2] [(2, .int .u64 ((packN (byteAt x0) i : Nat) : Int)), (3, .int .i64 0)] rfl ⟨rfl, rfl, trivial⟩ ?_
    refine wo_nil ?_
    refine wq_seq ?_
    refine wc_ret ?_
    have hno : (List.range x0.size).any (fun j => byteAt x0 j == 0) = false := by
      rw [List.any_eq_false]
      intro j hj
      have hj := List.mem_range.1 hj
      simpa using hz j (by omega) hj
    have e8 : i = 8 := by omega
    rw [hno, e8]
    exact wq_ret rfl ⟨_, rfl, ⟨_, _, rfl, (int_is.2 rfl), (int_is.2 rfl)⟩, hF⟩
  refine wc_known_true rfl (decide_eq_true (by omega)) ?_
  refine wc_skip ?_
  refine wq_seq ?_
  refine wc_seq ?_
  refine wc_block ?_
  refine wc_seq ?_
  refine wc_region (l := [0, 1, 2, 3]) rfl ?_
  refine wo_seg Θ_ok [0] [(0, .string x0), (5, .int .u64 ((packN (byteAt x0) i : Nat) : Int)), (14, .agg C.toArray), (15, .int .i64 (i : Int)), (17, .int .i64 (i : Int))] rfl ⟨rfl, rfl, rfl, rfl, rfl, trivial⟩ ?_
  refine wo_aidx Θ_ok rfl rfl rfl rfl rfl rfl rfl rfl rfl rfl rfl rfl hi8 (hCj i hi8) ?_
  refine wo_seg Θ_ok [2, 3] [(0, .string x0), (5, .int .u64 ((packN (byteAt x0) i : Nat) : Int)), (14, .agg C.toArray), (15, .int .i64 (i : Int)), (6, .int .i64 (i : Int)), (7, .int .u8 (byteAt x0 i : Int))] rfl ⟨rfl, rfl, rfl, rfl, rfl, rfl, trivial⟩ ?_
  refine wo_nil ?_
  refine wq_seq ?_
  refine wc_seq ?_
  refine wc_seq ?_
  refine wc_region (l := [0, 1, 2, 3, 4, 5, 6, 7]) rfl ?_
  refine wo_seg Θ_ok [0, 1, 2] [(0, .string x0), (5, .int .u64 ((packN (byteAt x0) i : Nat) : Int)), (14, .agg C.toArray), (15, .int .i64 (i : Int)), (6, .int .i64 (i : Int)), (7, .int .u8 (byteAt x0 i : Int)), (21, .bool ((byteAt x0 i : Int) == 0))] rfl ⟨rfl, rfl, rfl, rfl, rfl, rfl, rfl, trivial⟩ ?_
  have hbad : byteAt x0 i = 0 → i < x0.size → (List.range x0.size).any (fun j => byteAt x0 j == 0) = true := fun h1 h2 => by
    rw [List.any_eq_true]
    exact ⟨i, List.mem_range.2 h2, by simpa using h1⟩
  have hw1 : IntKind.u64.wrap (byteAt x0 i : Int) = (byteAt x0 i : Int) := by have := byteAt_lt x0 i; rw [IntKind.wrap_u64]; omega
  have hw2 : IntKind.i64.wrap (8 * (i : Int)) = ((8 * i : Nat) : Int) := by rw [IntWalk.i64_in]; omega; omega
  have hw3 : IntKind.i64.wrap ((i : Int) + 1) = ((i + 1 : Nat) : Int) := by rw [IntWalk.i64_in]; omega; omega
  by_cases hc0 : byteAt x0 i = 0
  · refine wo_know 21 true rfl (by simpa using hc0) ?_
    refine wo_seg Θ_ok [3, 4, 5, 6, 7] [(0, .string x0), (5, .int .u64 ((packN (byteAt x0) i : Nat) : Int)), (14, .agg C.toArray), (15, .int .i64 (i : Int)), (6, .int .i64 (i : Int)), (7, .int .u8 (byteAt x0 i : Int)), (26, .bool (decide ((i : Int) < (x0.size : Int))))] rfl ⟨rfl, rfl, rfl, rfl, rfl, rfl, rfl, trivial⟩ ?_
    refine wo_nil ?_
    refine wq_seq ?_
    by_cases hin : i < x0.size
    · refine wc_known_true rfl (decide_eq_true (by omega)) ?_
      refine wc_seq ?_
      refine wc_region (l := [0, 1]) rfl ?_
      refine wo_seg Θ_ok [0, 1] [(2, .int .u64 0), (3, .int .i64 2)] rfl ⟨rfl, rfl, trivial⟩ ?_
      refine wo_nil ?_
      refine wq_seq ?_
      refine wc_ret ?_
      rw [hbad hc0 hin]
      exact wq_then_ret (wq_block_ret (wq_then_ret (wq_then_ret (wq_block_ret (wq_then_ret (wq_ret rfl ⟨_, rfl, ⟨_, _, rfl, (int_is.2 rfl), (int_is.2 rfl)⟩, hF⟩))))))
    refine wc_known_false rfl (decide_eq_false (by omega)) ?_
    refine wc_skip ?_
    refine wq_seq ?_
    refine wc_region (l := [0, 1, 2, 3, 4, 5, 6, 7]) rfl ?_
    refine wo_seg Θ_ok [0, 1, 2, 3, 4] [(0, .string x0), (27, .int .u64 ((packN (byteAt x0) i : Nat) : Int)), (14, .agg C.toArray), (15, .int .i64 (i : Int)), (29, .int .u64 (IntKind.u64.wrap (byteAt x0 i : Int))), (31, .int .i64 (IntKind.i64.wrap (8 * (i : Int))))] rfl ⟨rfl, rfl, rfl, rfl, rfl, rfl, trivial⟩ ?_
    rw [hw1, hw2]
    refine wo_bin rfl rfl rfl rfl rfl rfl rfl (run_shl (shl_byte _ i (byteAt_lt x0 i) hi8)) ?_
    refine wo_seg Θ_ok [6, 7] [(0, .string x0), (5, .int .u64 (bits .or .u64 ((packN (byteAt x0) i : Nat) : Int) ((256 ^ i * byteAt x0 i : Nat) : Int))), (14, .agg C.toArray), (15, .int .i64 (i : Int))] rfl ⟨rfl, rfl, rfl, rfl, trivial⟩ ?_
    rw [or_byte (byteAt_lt x0) i hi8]
    refine wo_nil ?_
    refine wq_block (wq_seq ?_)
    refine wc_region (l := [0, 1]) rfl ?_
    refine wo_seg Θ_ok [0, 1] [(0, .string x0), (5, .int .u64 ((packN (byteAt x0) (i + 1) : Nat) : Int)), (14, .agg C.toArray), (15, .int .i64 (IntKind.i64.wrap ((i : Int) + 1)))] rfl ⟨rfl, rfl, rfl, rfl, trivial⟩ ?_
    refine wo_nil ?_
    exact wq_next (8 - (i + 1)) [(0, .string x0), (5, .int .u64 ((packN (byteAt x0) (i + 1) : Nat) : Int)), (14, .agg C.toArray), (15, .int .i64 ((i + 1 : Nat) : Int))] (by omega) ⟨rfl, rfl, rfl, congrArg (fun z => some (Value.int .i64 z)) hw3, trivial⟩ ⟨i + 1, rfl, by omega, rfl, rfl, fun j h1 h2 => by
      by_cases e : j = i
      · subst e; exact absurd h2 hin
      · exact hz j (by omega) h2⟩
  refine wo_know 21 false rfl (by simpa using hc0) ?_
  refine wo_seg Θ_ok [3, 4, 5, 6, 7] [(0, .string x0), (5, .int .u64 ((packN (byteAt x0) i : Nat) : Int)), (14, .agg C.toArray), (15, .int .i64 (i : Int)), (6, .int .i64 (i : Int)), (7, .int .u8 (byteAt x0 i : Int)), (26, .bool false)] rfl ⟨rfl, rfl, rfl, rfl, rfl, rfl, rfl, trivial⟩ ?_
  refine wo_nil ?_
  refine wq_seq ?_
  refine wc_false rfl ?_
  refine wc_skip ?_
  refine wq_seq ?_
  refine wc_region (l := [0, 1, 2, 3, 4, 5, 6, 7]) rfl ?_
  refine wo_seg Θ_ok [0, 1, 2, 3, 4] [(0, .string x0), (27, .int .u64 ((packN (byteAt x0) i : Nat) : Int)), (14, .agg C.toArray), (15, .int .i64 (i : Int)), (29, .int .u64 (IntKind.u64.wrap (byteAt x0 i : Int))), (31, .int .i64 (IntKind.i64.wrap (8 * (i : Int))))] rfl ⟨rfl, rfl, rfl, rfl, rfl, rfl, trivial⟩ ?_
  rw [hw1, hw2]
  refine wo_bin rfl rfl rfl rfl rfl rfl rfl (run_shl (shl_byte _ i (byteAt_lt x0 i) hi8)) ?_
  refine wo_seg Θ_ok [6, 7] [(0, .string x0), (5, .int .u64 (bits .or .u64 ((packN (byteAt x0) i : Nat) : Int) ((256 ^ i * byteAt x0 i : Nat) : Int))), (14, .agg C.toArray), (15, .int .i64 (i : Int))] rfl ⟨rfl, rfl, rfl, rfl, trivial⟩ ?_
  rw [or_byte (byteAt_lt x0) i hi8]
  refine wo_nil ?_
  refine wq_block (wq_seq ?_)
  refine wc_region (l := [0, 1]) rfl ?_
  refine wo_seg Θ_ok [0, 1] [(0, .string x0), (5, .int .u64 ((packN (byteAt x0) (i + 1) : Nat) : Int)), (14, .agg C.toArray), (15, .int .i64 (IntKind.i64.wrap ((i : Int) + 1)))] rfl ⟨rfl, rfl, rfl, rfl, trivial⟩ ?_
  refine wo_nil ?_
  exact wq_next (8 - (i + 1)) [(0, .string x0), (5, .int .u64 ((packN (byteAt x0) (i + 1) : Nat) : Int)), (14, .agg C.toArray), (15, .int .i64 ((i + 1 : Nat) : Int))] (by omega) ⟨rfl, rfl, rfl, congrArg (fun z => some (Value.int .i64 z)) hw3, trivial⟩ ⟨i + 1, rfl, by omega, rfl, rfl, fun j h1 h2 => by
    by_cases e : j = i
    · subst e; exact hc0
    · exact hz j (by omega) h2⟩

set_option maxRecDepth 100000 in
set_option maxHeartbeats 4000000 in
theorem b_Back_c {O : List Nat} {w : World} (hO : OB O w) {fuel : Nat} {v0 : Value} {x0 : Int} (h0 : (Ty.int .u64).is O w v0 x0) {r : ByteArray × Int} (h : b_Back fuel x0 = some r) : Calls Try.prog 49 #[v0] w (Gives (rt2 Ty.str (Ty.int .i64)) O w r) := by
  obtain rfl := int_is.1 h0
  have hF := Fr.refl [] w
  have hO0 := hO
  have hS := Sub.refl O
  refine calls_of (args := [(.int .u64 x0)]) (N := 35) Try.func49 rfl rfl rfl ?_
  unfold b_Back at h
  refine wc_seq ?_
  refine wc_region (l := [0, 1]) rfl ?_
  refine wo_seg Θ_ok [0, 1] [(0, (.int .u64 x0))] rfl ⟨rfl, trivial⟩ ?_
  refine wo_nil ?_
  refine wq_seq ?_
  refine wc_seq ?_
  refine wc_region (l := [0]) rfl ?_
  refine wo_seg Θ_ok [0] [(0, (.int .u64 x0)), (4, (.slice none 0 0))] rfl ⟨rfl, rfl, trivial⟩ ?_
  refine wo_nil ?_
  refine wq_seq ?_
  obtain ⟨k3, hk4, h⟩ := letk_some h
  refine wc_join (fun E W => ∃ (O10 : List Nat) (p7 : List Int) (v8 : Value), E = [(0, (.int .u64 x0)), (4, v8)] ∧ Tr O w O10 W ∧ OB O10 W ∧ Sub O O10 ∧ Fr [] w W ∧ Go.Dc.Own (Ty.int .u8) 5 w.heap.size O10 W v8 p7 ∧ k3 p7 = some r) ?_ (fun K5 hK6 => ?_)
  rotate_left
  · clear hk4
    have T2 := Tr.refl O w
    refine wc_seq ?_
    refine wc_region (l := [0, 1]) rfl ?_
    refine wo_seg Θ_ok [0, 1] [(0, (.int .u64 x0)), (4, (.slice none 0 0)), (5, (.int .u64 x0))] rfl ⟨rfl, rfl, rfl, trivial⟩ ?_
    refine wo_nil ?_
    refine wq_seq ?_
    refine wc_block ?_
    refine wc_loop (fun m E W => ∃ (fl27 : Nat) (O28 : List Nat) (p23 : List Int) (p26 : Int) (v24 : Value), fl27 = m ∧ E = [(0, (.int .u64 x0)), (4, v24), (5, (.int .u64 p26))] ∧ Tr O w O28 W ∧ OB O28 W ∧ Sub O O28 ∧ Fr [] w W ∧ Go.Dc.Own (Ty.int .u8) 5 w.heap.size O28 W v24 p23 ∧ b_Back_l1 k3 fl27 p23 p26 = some r) _ [(0, (.int .u64 x0)), (4, (.slice none 0 0)), (5, (.int .u64 x0))] ⟨rfl, rfl, rfl, trivial⟩ ⟨fuel, O, ([] : List Int), x0, (.slice none 0 0), rfl, rfl, Tr.refl _ _, hO, hS, hF, (Go.Dc.Own.nil_ : Go.Dc.Own (Ty.int .u8) 5 w.heap.size _ _ _ _), h⟩ ?_
    rintro m E w29 ⟨fl27, O28, p23, p26, v24, rfl, rfl, T22, hO, hS, hF, h25, h⟩
    have T2 := T2.trans T22
    rcases fl27 with _ | fl27
    · rw [b_Back_l1] at h
      cases h
    rw [b_Back_l1] at h
    refine wc_seq ?_
    refine wc_seq ?_
    refine wc_region (l := [0, 1, 2]) rfl ?_
    refine wo_seg Θ_ok [0, 1, 2] [(0, (.int .u64 x0)), (4, v24), (5, (.int .u64 p26)), (12, (.bool ((bits .and .u64 p26 (255 : Int)) != (0 : Int))))] rfl ⟨rfl, rfl, rfl, rfl, trivial⟩ ?_
    refine wo_nil ?_
    refine wq_seq ?_
    rcases bif_some h with ⟨hc30, h⟩ | ⟨hc30, h⟩
    rotate_left
    · refine wc_known_false rfl hc30 ?_
      refine wc_exit ?_
      exact wq_then_exit (wq_then_exit (wq_block_exit (wq_join hK6 [(0, (.int .u64 x0)), (4, v24)] ⟨rfl, rfl, trivial⟩ ⟨O28, p23, v24, rfl, T2, hO, hS, hF, h25, h⟩)))
    refine wc_known_true rfl hc30 ?_
    refine wc_skip ?_
    refine wq_seq ?_
    refine wc_seq ?_
    refine wc_block ?_
    refine wc_region (l := [0, 1, 2, 3, 4, 5]) rfl ?_
    refine wo_seg Θ_ok [0, 1, 2] [(0, (.int .u64 x0)), (5, (.int .u64 p26)), (15, v24), (17, (.int .u8 (IntKind.u8.wrap p26)))] rfl ⟨rfl, rfl, rfl, rfl, trivial⟩ ?_
    refine wo_litd Θ_ok rfl rfl rfl rfl rfl rfl rfl rfl rfl rfl (T := (Ty.int .u8)) (xs := [(IntKind.u8.wrap p26)]) (vs := [(.int .u8 (IntKind.u8.wrap p26))]) rfl ⟨(int_is.2 rfl), trivial⟩ rfl rfl rfl hO (fun v31 w32 h33 f34 => ?_)
    have h25 := h25.fr0 f34
    have T2 := T2.trans f34.tr0
    have T22 := T22.trans f34.tr0
    have hO := f34.ob hO
    have hF := hF.trans f34
    obtain ⟨z35, hz36, h⟩ := bind_some h
    refine wo_app Θ_ok rfl rfl rfl rfl rfl rfl rfl rfl rfl rfl rfl rfl rfl rfl hF hO h25 h33 hz36 (fun v37 w38 O39 ap40 => ?_)
    have T2 := T2.trans ap40.tr
    have T22 := T22.trans ap40.tr
    have hF := ap40.fr0 h25 hF
    have hS := Sub.trans hS ap40.sub
    have hO := ap40.ob
    have h41 := ap40.own
    refine wo_seg Θ_ok [5] [(0, (.int .u64 x0)), (4, v37), (5, (.int .u64 p26))] rfl ⟨rfl, rfl, rfl, trivial⟩ ?_
    refine wo_nil ?_
    refine wq_block (wq_seq ?_)
    refine wc_region (l := [0, 1, 2]) rfl ?_
    refine wo_seg Θ_ok [0, 1, 2] [(0, (.int .u64 x0)), (4, v37), (5, (.int .u64 (p26.fdiv (2 ^ 8))))] rfl ⟨rfl, rfl, rfl, trivial⟩ ?_
    refine wo_nil ?_
    exact wq_next fl27 [(0, (.int .u64 x0)), (4, v37), (5, (.int .u64 (p26.fdiv (2 ^ 8))))] (Nat.lt_succ_self _) ⟨rfl, rfl, rfl, trivial⟩ ⟨fl27, O39, z35, (p26.fdiv (2 ^ 8)), v37, rfl, rfl, T22, hO, hS, hF, h41, h⟩
  rintro E w11 ⟨O10, p7, v8, rfl, T2, hO, hS, hF, h9, h⟩
  subst hk4
  (try dsimp only at h)
  refine wc_seq ?_
  refine wc_region (l := [0, 1, 2]) rfl ?_
  refine wo_seg Θ_ok [0] [(0, (.int .u64 x0)), (20, v8)] rfl ⟨rfl, rfl, trivial⟩ ?_
  have h9g := h9.give
  have hS := relv_sub h9 hS hO0
  have hO := relv_ob (v := v8) hO
  refine wo_b2s Θ_ok rfl rfl rfl rfl rfl rfl rfl rfl rfl rfl rfl rfl rfl h9g ?_
  refine wo_seg Θ_ok [2] [(0, (.int .u64 x0)), (6, (.string (strOf p7)))] rfl ⟨rfl, rfl, trivial⟩ ?_
  refine wo_nil ?_
  refine wq_seq ?_
  refine wc_seq ?_
  refine wc_seq ?_
  refine wc_region (l := [0, 1, 2, 3, 4, 5, 6]) rfl ?_
  refine wo_seg Θ_ok [0] [(0, (.int .u64 x0)), (6, (.string (strOf p7))), (23, (.string (strOf p7)))] rfl ⟨rfl, rfl, rfl, trivial⟩ ?_
  refine wo_gives rfl rfl rfl rfl rfl ent60 rfl (b_Text_c hO (str_is.2 rfl)) (fun v12 w13 h14 f15 => ?_)
  have hO := f15.ob hO
  have hF := hF.trans f15
  obtain ⟨u16, u18, rfl, h17, h19⟩ := h14
  obtain rfl := int_is.1 h17
  obtain rfl := int_is.1 h19
  refine wo_seg Θ_ok [2, 3, 4, 5, 6] [(0, (.int .u64 x0)), (6, (.string (strOf p7))), (7, (.int .u64 (((b_Text (strOf p7))).1))), (8, (.int .i64 (((b_Text (strOf p7))).2)))] rfl ⟨rfl, rfl, rfl, rfl, trivial⟩ ?_
  refine wo_nil ?_
  refine wq_seq ?_
  refine wc_seq ?_
  refine wc_region (l := [0, 1, 2, 3, 4, 5, 6]) rfl ?_
  refine wo_seg Θ_ok [0, 1, 2] [(0, (.int .u64 x0)), (6, (.string (strOf p7))), (7, (.int .u64 (((b_Text (strOf p7))).1))), (29, (.bool ((((b_Text (strOf p7))).2) != (0 : Int))))] rfl ⟨rfl, rfl, rfl, rfl, trivial⟩ ?_
  rcases bif_some h with ⟨hc20, h⟩ | ⟨hc20, h⟩
  · refine wo_know 29 true rfl hc20 ?_
    refine wo_seg Θ_ok [3, 4, 5, 6] [(6, (.string (strOf p7))), (33, (.bool true))] rfl ⟨rfl, rfl, trivial⟩ ?_
    refine wo_nil ?_
    refine wq_seq ?_
    refine wc_true rfl ?_
    refine wc_seq ?_
    refine wc_region (l := [0, 1]) rfl ?_
    refine wo_seg Θ_ok [0, 1] [(2, (.string ⟨#[]⟩)), (3, (.int .i64 2))] rfl ⟨rfl, rfl, trivial⟩ ?_
    refine wo_nil ?_
    refine wq_seq ?_
    refine wc_ret ?_
    cases h
    exact wq_then_ret (wq_ret rfl ⟨_, rfl, ⟨_, _, rfl, ((str_is.2 rfl).tr (Tr.less hS)), (int_is.2 rfl)⟩, hF⟩)
  refine wo_know 29 false rfl hc20 ?_
  refine wo_seg Θ_ok [3, 4, 5, 6] [(6, (.string (strOf p7))), (33, (.bool ((((b_Text (strOf p7))).1) != x0)))] rfl ⟨rfl, rfl, trivial⟩ ?_
  refine wo_nil ?_
  refine wq_seq ?_
  rcases bif_some h with ⟨hc21, h⟩ | ⟨hc21, h⟩
  · refine wc_known_true rfl hc21 ?_
    refine wc_seq ?_
    refine wc_region (l := [0, 1]) rfl ?_
    refine wo_seg Θ_ok [0, 1] [(2, (.string ⟨#[]⟩)), (3, (.int .i64 2))] rfl ⟨rfl, rfl, trivial⟩ ?_
    refine wo_nil ?_
    refine wq_seq ?_
    refine wc_ret ?_
    cases h
    exact wq_then_ret (wq_ret rfl ⟨_, rfl, ⟨_, _, rfl, ((str_is.2 rfl).tr (Tr.less hS)), (int_is.2 rfl)⟩, hF⟩)
  refine wc_known_false rfl hc21 ?_
  refine wc_skip ?_
  refine wq_seq ?_
  refine wc_seq ?_
  refine wc_region (l := [0, 1, 2]) rfl ?_
  refine wo_seg Θ_ok [0, 1, 2] [(2, (.string (strOf p7))), (3, (.int .i64 0))] rfl ⟨rfl, rfl, trivial⟩ ?_
  refine wo_nil ?_
  refine wq_seq ?_
  refine wc_ret ?_
  cases h
  exact wq_ret rfl ⟨_, rfl, ⟨_, _, rfl, ((str_is.2 rfl).tr (Tr.less hS)), (int_is.2 rfl)⟩, hF⟩
set_option maxRecDepth 100000 in
set_option maxHeartbeats 4000000 in
theorem i_Is_c {O : List Nat} {w : World} (hO : OB O w) {fuel : Nat} {v0 : Value} {x0 : Int} (h0 : (Ty.int .u64).is O w v0 x0) {r : Bool} (h : i_Is fuel x0 = some r) : Calls Try.prog 30 #[v0] w (Gives (rt1 Ty.bool) O w r) := by
  obtain rfl := int_is.1 h0
  unfold i_Is at h
  obtain ⟨y, hy, h⟩ := bind_some h
  refine calls_of (args := [.int .u64 x0]) (N := 44) Try.func30 rfl rfl rfl ?_
  refine wc_seq ?_
  refine wc_region (l := [0]) rfl ?_
  refine wo_seg Θ_ok [0] [(0, .int .u64 x0)] rfl ⟨rfl, trivial⟩ ?_
  refine wo_nil ?_
  refine wq_seq ?_
  refine wc_scope ?_
  refine wc_seq ?_
  refine wc_region (l := [0, 1, 2, 3, 4, 5, 6]) rfl ?_
  refine wo_seg Θ_ok [0] [(9, .int .u64 x0)] rfl ⟨rfl, trivial⟩ ?_
  refine wo_gives rfl rfl rfl rfl rfl ent49 rfl (b_Back_c hO (int_is.2 rfl) hy) (fun v w1 hr f1 => ?_)
  obtain ⟨u1, u2, rfl, q1, q2⟩ := hr
  obtain rfl := str_is.1 q1
  obtain rfl := int_is.1 q2
  obtain ⟨s, e⟩ := y
  simp only at h ⊢
  refine wo_seg Θ_ok [2, 3, 4, 5, 6] [(3, .string s), (4, .int .i64 e)] rfl ⟨rfl, rfl, trivial⟩ ?_
  refine wo_nil ?_
  refine wq_seq ?_
  obtain ⟨ok0, hok0⟩ : ∃ b, b = ((e == 0) && !(s.toList == (⟨#[]⟩ : ByteArray).toList)) := ⟨_, rfl⟩
  rw [← hok0] at h
  refine wc_join (fun E W => E = [(3, .string s), (5, .bool ok0)] ∧ W = w1) ?_ (fun K hK => ?_)
  rotate_left
  · refine wc_region (l := [0, 1, 2, 3, 4, 5, 6]) rfl ?_
    refine wo_seg Θ_ok [0, 1, 2] [(3, .string s), (15, .bool (e == 0))] rfl ⟨rfl, rfl, trivial⟩ ?_
    cases he : (e == 0) with
    | true =>
      rw [he, Bool.true_and] at hok0
      refine wo_seg Θ_ok [3, 4, 5, 6] [(3, .string s), (5, .bool (!(s.toList == (⟨#[]⟩ : ByteArray).toList)))] rfl ⟨rfl, rfl, trivial⟩ ?_
      refine wo_nil ?_
      exact wq_join hK [(3, .string s), (5, .bool ok0)] ⟨rfl, by rw [hok0]; rfl, trivial⟩ ⟨rfl, rfl⟩
    | false =>
      rw [he, Bool.false_and] at hok0
      refine wo_seg Θ_ok [3, 4, 5, 6] [(3, .string s), (5, .bool false)] rfl ⟨rfl, rfl, trivial⟩ ?_
      refine wo_nil ?_
      exact wq_join hK [(3, .string s), (5, .bool ok0)] ⟨rfl, by rw [hok0]; rfl, trivial⟩ ⟨rfl, rfl⟩
  rintro E W ⟨rfl, rfl⟩
  refine wc_seq ?_
  refine wc_label ?_
  refine wq_seq ?_
  refine wc_seq ?_
  refine wc_seq ?_
  refine wc_region (l := [0, 1]) rfl ?_
  refine wo_seg Θ_ok [0] [(3, .string s), (5, .bool ok0), (19, .string s)] rfl ⟨rfl, rfl, rfl, trivial⟩ ?_
  refine wo_range Θ_ok rfl rfl rfl rfl rfl rfl rfl rfl (fun b w2 hb2 hge2 f2 => ?_)
  have hF2 : Fr [] w w2 := f1.trans f2
  have hge : w.heap.size ≤ b := Nat.le_trans f1.size hge2
  refine wo_nil ?_
  refine wq_seq ?_
  refine wc_block ?_
  refine wc_loop (fun m E W' => ∃ (ok : Bool) (pos : Nat), E = [(3, .string s), (5, .bool ok), (20, .pointer (some ⟨b, 0, none⟩))] ∧ W'.heap[b]? = some (.stringIter s pos) ∧ Fr [] w W' ∧ rokB s ok m pos = some r) fuel
    [(3, .string s), (5, .bool ok0), (20, .pointer (some ⟨b, 0, none⟩))] ⟨rfl, rfl, rfl, trivial⟩ ⟨ok0, 0, rfl, hb2, hF2, h⟩ ?_
  rintro m E W3 ⟨ok, pos, rfl, hb3, hF3, h⟩
  match m, h with
  | 0, h => cases h
  | f + 1, h =>
  rw [rokB] at h
  refine wc_seq ?_
  refine wc_region (l := [0, 1]) rfl ?_
  by_cases hp : pos < s.size
  case neg =>
    rw [if_neg hp] at h
    cases h
    refine wo_nextEnd rfl rfl rfl rfl rfl rfl hb3 hp ?_
    refine wo_seg Θ_ok [1] [(5, .bool r), (22, .bool false)] rfl ⟨rfl, rfl, trivial⟩ ?_
    refine wo_nil ?_
    refine wq_seq ?_
    refine wc_seq ?_
    refine wc_false rfl ?_
    refine wc_exit ?_
    refine wq_then_exit (wq_then_exit (wq_block_exit (wq_seq ?_)))
    refine wc_seq ?_
    refine wc_region (l := [0, 1]) rfl ?_
    refine wo_seg Θ_ok [0, 1] [(2, .bool r)] rfl ⟨rfl, trivial⟩ ?_
    refine wo_nil ?_
    refine wq_seq ?_
    refine wc_ret ?_
    exact wq_scope (by simp) (wq_ret rfl ⟨_, rfl, bool_is.2 rfl, hF3⟩)
  rw [if_pos hp] at h
  obtain ⟨c, hc⟩ : ∃ c, c = (Go.Utf8.decode s pos).1 := ⟨_, rfl⟩
  rw [← hc] at h
  refine wo_next rfl rfl rfl rfl rfl rfl hb3 hp (fun w4 hb4 f4 => ?_)
  rw [← hc]
  have hF4 : Fr [] w w4 := hF3.own f4 hge
  refine wo_seg Θ_ok [1] [(3, .string s), (5, .bool ok), (20, .pointer (some ⟨b, 0, none⟩)), (21, .tuple #[.bool true, goInt pos, .int .i32 c]), (22, .bool true)] rfl ⟨rfl, rfl, rfl, rfl, rfl, trivial⟩ ?_
  refine wo_nil ?_
  refine wq_seq ?_
  refine wc_seq ?_
  refine wc_true rfl ?_
  refine wc_skip ?_
  refine wq_seq ?_
  refine wc_block ?_
  refine wc_seq ?_
  refine wc_region (l := [0, 1]) rfl ?_
  refine wo_seg Θ_ok [0, 1] [(3, .string s), (5, .bool ok), (20, .pointer (some ⟨b, 0, none⟩)), (7, .int .i32 c)] rfl ⟨rfl, rfl, rfl, rfl, trivial⟩ ?_
  refine wo_nil ?_
  refine wq_seq ?_
  obtain ⟨ok1, hok1⟩ : ∃ b, b = (ok && chrI c) := ⟨_, rfl⟩
  rw [← hok1] at h
  refine wc_join (fun E W => E = [(3, .string s), (5, .bool ok1), (20, .pointer (some ⟨b, 0, none⟩))] ∧ W = w4) ?_ (fun K hK => ?_)
  rotate_left
  · refine wc_region (l := [0, 1, 2, 3, 4, 5, 6, 7, 8, 9, 10, 11, 12, 13, 14, 15, 16, 17]) rfl ?_
    cases ok with
    | false =>
      rw [Bool.false_and] at hok1
      subst hok1
      refine wo_seg Θ_ok [0, 1, 2, 3, 4, 5, 6, 7, 8, 9, 10, 11, 12, 13, 14, 15, 16, 17] [(3, .string s), (5, .bool false), (20, .pointer (some ⟨b, 0, none⟩))] rfl ⟨rfl, rfl, rfl, trivial⟩ ?_
      refine wo_nil ?_
      exact wq_join hK [(3, .string s), (5, .bool false), (20, .pointer (some ⟨b, 0, none⟩))] ⟨rfl, rfl, rfl, trivial⟩ ⟨rfl, rfl⟩
    | true =>
      rw [Bool.true_and] at hok1
      refine wo_seg Θ_ok [0, 1, 2, 3, 4] [(3, .string s), (7, .int .i32 c), (20, .pointer (some ⟨b, 0, none⟩)), (25, .bool true), (28, .bool (decide ((c : Int) ≥ 97)))] rfl ⟨rfl, rfl, rfl, rfl, rfl, trivial⟩ ?_
      by_cases h97 : 97 ≤ c
      · refine wo_know 28 true rfl (decide_eq_true (by omega)) ?_
        refine wo_seg Θ_ok [5, 6, 7, 8] [(3, .string s), (7, .int .i32 c), (20, .pointer (some ⟨b, 0, none⟩)), (25, .bool true), (32, .bool (decide ((c : Int) ≤ 122)))] rfl ⟨rfl, rfl, rfl, rfl, rfl, trivial⟩ ?_
        by_cases h122 : c ≤ 122
        · refine wo_know 32 true rfl (decide_eq_true (by omega)) ?_
          have : ok1 = true := by rw [hok1]; unfold chrI; exact decide_eq_true (by omega)
          subst this
          refine wo_seg Θ_ok [9, 10, 11, 12, 13, 14, 15, 16, 17] [(3, .string s), (5, .bool true), (20, .pointer (some ⟨b, 0, none⟩))] rfl ⟨rfl, rfl, rfl, trivial⟩ ?_
          refine wo_nil ?_
          exact wq_join hK [(3, .string s), (5, .bool true), (20, .pointer (some ⟨b, 0, none⟩))] ⟨rfl, rfl, rfl, trivial⟩ ⟨rfl, rfl⟩
        · refine wo_know 32 false rfl (decide_eq_false (by omega)) ?_
          have : ok1 = false := by rw [hok1]; unfold chrI; exact decide_eq_false (by omega)
          subst this
          refine wo_seg Θ_ok [9, 10, 11] [(3, .string s), (7, .int .i32 c), (20, .pointer (some ⟨b, 0, none⟩)), (25, .bool true), (32, .bool false), (35, .bool (decide ((c : Int) ≥ 48)))] rfl ⟨rfl, rfl, rfl, rfl, rfl, rfl, trivial⟩ ?_
          refine wo_know 35 true rfl (decide_eq_true (by omega)) ?_
          refine wo_seg Θ_ok [12, 13, 14, 15, 16, 17] [(3, .string s), (5, .bool (decide ((c : Int) ≤ 57))), (20, .pointer (some ⟨b, 0, none⟩))] rfl ⟨rfl, rfl, rfl, trivial⟩ ?_
          refine wo_nil ?_
          exact wq_join hK [(3, .string s), (5, .bool false), (20, .pointer (some ⟨b, 0, none⟩))] ⟨rfl, congrArg (fun z => some (Value.bool z)) (decide_eq_false (by omega)), rfl, trivial⟩ ⟨rfl, rfl⟩
      · refine wo_know 28 false rfl (decide_eq_false (by omega)) ?_
        refine wo_seg Θ_ok [5, 6, 7, 8, 9, 10, 11] [(3, .string s), (7, .int .i32 c), (20, .pointer (some ⟨b, 0, none⟩)), (25, .bool true), (32, .bool false), (35, .bool (decide ((c : Int) ≥ 48)))] rfl ⟨rfl, rfl, rfl, rfl, rfl, rfl, trivial⟩ ?_
        by_cases h48 : 48 ≤ c
        · refine wo_know 35 true rfl (decide_eq_true (by omega)) ?_
          have : ok1 = decide ((c : Int) ≤ 57) := by rw [hok1]; unfold chrI; exact decide_eq_decide.2 (by omega)
          subst this
          refine wo_seg Θ_ok [12, 13, 14, 15, 16, 17] [(3, .string s), (5, .bool (decide ((c : Int) ≤ 57))), (20, .pointer (some ⟨b, 0, none⟩))] rfl ⟨rfl, rfl, rfl, trivial⟩ ?_
          refine wo_nil ?_
          exact wq_join hK [(3, .string s), (5, .bool (decide ((c : Int) ≤ 57))), (20, .pointer (some ⟨b, 0, none⟩))] ⟨rfl, rfl, rfl, trivial⟩ ⟨rfl, rfl⟩
        · refine wo_know 35 false rfl (decide_eq_false (by omega)) ?_
          have : ok1 = false := by rw [hok1]; unfold chrI; exact decide_eq_false (by omega)
          subst this
          refine wo_seg Θ_ok [12, 13, 14, 15, 16, 17] [(3, .string s), (5, .bool false), (20, .pointer (some ⟨b, 0, none⟩))] rfl ⟨rfl, rfl, rfl, trivial⟩ ?_
          refine wo_nil ?_
          exact wq_join hK [(3, .string s), (5, .bool false), (20, .pointer (some ⟨b, 0, none⟩))] ⟨rfl, rfl, rfl, trivial⟩ ⟨rfl, rfl⟩
  rintro E W ⟨rfl, rfl⟩
  refine wc_seq ?_
  refine wc_region (l := [0, 1]) rfl ?_
  refine wo_seg Θ_ok [0, 1] [(3, .string s), (5, .bool ok1), (20, .pointer (some ⟨b, 0, none⟩)), (42, .bool (!ok1))] rfl ⟨rfl, rfl, rfl, rfl, trivial⟩ ?_
  refine wo_nil ?_
  refine wq_seq ?_
  cases ok1 with
  | false =>
    cases h
    refine wc_true rfl ?_
    refine wc_exit ?_
    refine wq_block_past rfl (wq_then_exit (wq_block_exit (wq_seq ?_)))
    refine wc_seq ?_
    refine wc_region (l := [0, 1]) rfl ?_
    refine wo_seg Θ_ok [0, 1] [(2, .bool false)] rfl ⟨rfl, trivial⟩ ?_
    refine wo_nil ?_
    refine wq_seq ?_
    refine wc_ret ?_
    exact wq_scope (by simp) (wq_ret rfl ⟨_, rfl, bool_is.2 rfl, hF4⟩)
  | true =>
    refine wc_false rfl ?_
    refine wc_skip ?_
    refine wq_block ?_
    exact wq_next f [(3, .string s), (5, .bool true), (20, .pointer (some ⟨b, 0, none⟩))] (Nat.lt_succ_self _) ⟨rfl, rfl, rfl, trivial⟩ ⟨true, _, rfl, hb4, hF4, h⟩

set_option maxRecDepth 100000 in
set_option maxHeartbeats 4000000 in
theorem i_isPid_c {O : List Nat} {w : World} (hO : OB O w) {v0 : Value} {x0 : Int} (h0 : (Ty.int .u64).is O w v0 x0) : Calls Try.prog 34 #[v0] w (Gives (rt1 Ty.bool) O w (i_isPid x0)) := by
  obtain rfl := int_is.1 h0
  have hF := Fr.refl [] w
  have hO0 := hO
  have hS := Sub.refl O
  obtain ⟨r, h⟩ : ∃ r, i_isPid x0 = r := ⟨_, rfl⟩
  rw [h]
  refine calls_of (args := [(.int .u64 x0)]) (N := 9) Try.func34 rfl rfl rfl ?_
  unfold i_isPid at h
  refine wc_seq ?_
  refine wc_region (l := [0]) rfl ?_
  refine wo_seg Θ_ok [0] [(0, (.int .u64 x0))] rfl ⟨rfl, trivial⟩ ?_
  refine wo_nil ?_
  refine wq_seq ?_
  refine wc_seq ?_
  refine wc_region (l := [0, 1, 2, 3, 4, 5, 6]) rfl ?_
  refine wo_seg Θ_ok [0, 1, 2] [(0, (.int .u64 x0)), (5, (.bool (decide (x0 ≥ (1 : Int)))))] rfl ⟨rfl, rfl, trivial⟩ ?_
  rcases bif_some h with ⟨hc2, h⟩ | ⟨hc2, h⟩
  · refine wo_know 5 true rfl hc2 ?_
    refine wo_seg Θ_ok [3, 4, 5, 6] [(2, (.bool (decide (x0 < (4294967296 : Int)))))] rfl ⟨rfl, trivial⟩ ?_
    refine wo_nil ?_
    refine wq_seq ?_
    refine wc_ret ?_
    subst h
    exact wq_ret rfl ⟨_, rfl, (bool_is.2 rfl), hF⟩
  refine wo_know 5 false rfl hc2 ?_
  refine wo_seg Θ_ok [3, 4, 5, 6] [(2, (.bool false))] rfl ⟨rfl, trivial⟩ ?_
  refine wo_nil ?_
  refine wq_seq ?_
  refine wc_ret ?_
  subst h
  exact wq_ret rfl ⟨_, rfl, (bool_is.2 rfl), hF⟩
set_option maxRecDepth 100000 in
set_option maxHeartbeats 4000000 in
theorem i_nameOf_c {O : List Nat} {w : World} (hO : OB O w) {v0 : Value} {x0 : GName} (h0 : tGName.is O w v0 x0) : Calls Try.prog 36 #[v0] w (Gives (rt1 (Ty.int .u64)) O w (i_nameOf x0)) := by
  obtain rfl := tGName_is.1 h0
  have hF := Fr.refl [] w
  have hO0 := hO
  have hS := Sub.refl O
  obtain ⟨r, h⟩ : ∃ r, i_nameOf x0 = r := ⟨_, rfl⟩
  rw [h]
  refine calls_of (args := [(.agg #[(.int .u64 x0.fName), (.int .u64 x0.fPid)])]) (N := 5) Try.func36 rfl rfl rfl ?_
  unfold i_nameOf at h
  refine wc_seq ?_
  refine wc_region (l := [0, 1]) rfl ?_
  refine wo_box rfl rfl rfl rfl rfl rfl [(.int .u64 x0.fName), (.int .u64 x0.fPid)] rfl hO (fun b2 w3 n4 => ?_)
  have hb2 := n4.blk
  have gb2 := n4.ge0 hF
  have ib2 : b2 ∈ b2 :: O := List.mem_cons_self
  have hO := n4.ob
  have hF := hF.trans n4.fr
  have hS := Sub.cons hS b2
  refine wo_seg Θ_ok [1] [(1, (bp b2))] rfl ⟨rfl, trivial⟩ ?_
  refine wo_nil ?_
  refine wq_seq ?_
  refine wc_seq ?_
  refine wc_region (l := [0, 1, 2]) rfl ?_
  refine wo_seg Θ_ok [0] [(3, (bp b2))] rfl ⟨rfl, trivial⟩ ?_
  refine wo_load Θ_ok rfl rfl rfl rfl rfl rfl rfl hb2 [(.int .u64 x0.fName)] rfl rfl (.inr rfl) (.int .u64 x0.fName) rfl ?_
  refine wo_seg Θ_ok [2] [(2, (.int .u64 x0.fName))] rfl ⟨rfl, trivial⟩ ?_
  refine wo_nil ?_
  refine wq_seq ?_
  refine wc_ret ?_
  subst h
  exact wq_ret rfl ⟨_, rfl, (int_is.2 rfl), hF⟩
set_option maxRecDepth 100000 in
set_option maxHeartbeats 4000000 in
theorem i_pidOf_c {O : List Nat} {w : World} (hO : OB O w) {v0 : Value} {x0 : GBox} (h0 : tGBox.is O w v0 x0) : Calls Try.prog 64 #[v0] w (Gives (rt1 (Ty.int .u64)) O w (i_pidOf x0)) := by
  obtain ⟨v0_1, rfl, h0_1⟩ := tGBox_is.1 h0
  have hF := Fr.refl [] w
  have hO0 := hO
  have hS := Sub.refl O
  obtain ⟨r, h⟩ : ∃ r, i_pidOf x0 = r := ⟨_, rfl⟩
  rw [h]
  refine calls_of (args := [(.agg #[(.int .u64 x0.fPid), v0_1])]) (N := 5) Try.func64 rfl rfl rfl ?_
  unfold i_pidOf at h
  refine wc_seq ?_
  refine wc_region (l := [0, 1]) rfl ?_
  refine wo_box rfl rfl rfl rfl rfl rfl [(.int .u64 x0.fPid), v0_1] rfl hO (fun b2 w3 n4 => ?_)
  have h0_1 := h0_1.tr n4.tr
  have hb2 := n4.blk
  have gb2 := n4.ge0 hF
  have ib2 : b2 ∈ b2 :: O := List.mem_cons_self
  have hO := n4.ob
  have hF := hF.trans n4.fr
  have hS := Sub.cons hS b2
  refine wo_seg Θ_ok [1] [(1, (bp b2))] rfl ⟨rfl, trivial⟩ ?_
  refine wo_nil ?_
  refine wq_seq ?_
  refine wc_seq ?_
  refine wc_region (l := [0, 1, 2]) rfl ?_
  refine wo_seg Θ_ok [0] [(3, (bp b2))] rfl ⟨rfl, trivial⟩ ?_
  refine wo_load Θ_ok rfl rfl rfl rfl rfl rfl rfl hb2 [(.int .u64 x0.fPid)] rfl rfl (.inr rfl) (.int .u64 x0.fPid) rfl ?_
  refine wo_seg Θ_ok [2] [(2, (.int .u64 x0.fPid))] rfl ⟨rfl, trivial⟩ ?_
  refine wo_nil ?_
  refine wq_seq ?_
  refine wc_ret ?_
  subst h
  exact wq_ret rfl ⟨_, rfl, (int_is.2 rfl), hF⟩
set_option maxRecDepth 100000 in
set_option maxHeartbeats 4000000 in
theorem s_Equal_c {O : List Nat} {w : World} (hO : OB O w) {v0 : Value} {x0 : List Int} (h0 : (Ty.slice (Ty.int .u64)).is O w v0 x0) {v1 : Value} {x1 : List Int} (h1 : (Ty.slice (Ty.int .u64)).is O w v1 x1) {r : Bool} (h : s_Equal x0 x1 = some r) : Calls Try.prog 21 #[v0, v1] w (Gives (rt1 Ty.bool) O w r) := by
  have hF := Fr.refl [] w
  have hO0 := hO
  have hS := Sub.refl O
  refine calls_of (args := [v0, v1]) (N := 26) Try.func21 rfl rfl rfl ?_
  unfold s_Equal at h
  refine wc_seq ?_
  refine wc_region (l := [0]) rfl ?_
  refine wo_seg Θ_ok [0] [(0, v0), (1, v1)] rfl ⟨rfl, rfl, trivial⟩ ?_
  refine wo_nil ?_
  refine wq_seq ?_
  refine wc_seq ?_
  refine wc_seq ?_
  refine wc_region (l := [0, 1, 2, 3, 4]) rfl ?_
  refine wo_seg Θ_ok [0] [(0, v0), (1, v1), (6, v0)] rfl ⟨rfl, rfl, rfl, trivial⟩ ?_
  obtain ⟨A3, c4, rfl, hlc4, hmc4⟩ := slice_form h0
  refine wo_seg Θ_ok [1] [(0, (.slice A3 x0.length c4)), (1, v1), (7, (.int .i64 (x0.length : Int)))] rfl ⟨rfl, rfl, rfl, trivial⟩ ?_
  refine wo_seg Θ_ok [2] [(0, (.slice A3 x0.length c4)), (1, v1), (7, (.int .i64 (x0.length : Int))), (8, v1)] rfl ⟨rfl, rfl, rfl, rfl, trivial⟩ ?_
  obtain ⟨A5, c6, rfl, hlc6, hmc6⟩ := slice_form h1
  refine wo_seg Θ_ok [3] [(0, (.slice A3 x0.length c4)), (1, (.slice A5 x1.length c6)), (7, (.int .i64 (x0.length : Int))), (9, (.int .i64 (x1.length : Int)))] rfl ⟨rfl, rfl, rfl, rfl, trivial⟩ ?_
  refine wo_seg Θ_ok [4] [(0, (.slice A3 x0.length c4)), (1, (.slice A5 x1.length c6)), (10, (.bool ((x0.length : Int) != (x1.length : Int))))] rfl ⟨rfl, rfl, rfl, trivial⟩ ?_
  refine wo_nil ?_
  refine wq_seq ?_
  rcases bif_some h with ⟨hc7, h⟩ | ⟨hc7, h⟩
  · refine wc_known_true rfl hc7 ?_
    refine wc_seq ?_
    refine wc_region (l := [0]) rfl ?_
    refine wo_seg Θ_ok [0] [(4, (.bool false))] rfl ⟨rfl, trivial⟩ ?_
    refine wo_nil ?_
    refine wq_seq ?_
    refine wc_ret ?_
    cases h
    exact wq_then_ret (wq_ret rfl ⟨_, rfl, (bool_is.2 rfl), hF⟩)
  refine wc_known_false rfl hc7 ?_
  refine wc_skip ?_
  refine wq_seq ?_
  obtain ⟨k9, hk10, h⟩ := letk_some h
  refine wc_join (fun E W => ∃ (O13 : List Nat), E = [] ∧ Tr O w O13 W ∧ OB O13 W ∧ Sub O O13 ∧ Fr [] w W ∧ k9 = some r) ?_ (fun K11 hK12 => ?_)
  · rintro E w14 ⟨O13, rfl, T8, hO, hS, hF, h⟩
    subst hk10
    (try dsimp only at h)
    refine wc_seq ?_
    refine wc_region (l := [0]) rfl ?_
    refine wo_seg Θ_ok [0] [(4, (.bool true))] rfl ⟨rfl, trivial⟩ ?_
    refine wo_nil ?_
    refine wq_seq ?_
    refine wc_ret ?_
    cases h
    exact wq_ret rfl ⟨_, rfl, (bool_is.2 rfl), hF⟩
  clear hk10
  have T8 := Tr.refl O w
  refine wc_seq ?_
  refine wc_region (l := [0, 1, 2]) rfl ?_
  refine wo_seg Θ_ok [0, 1, 2] [(0, (.slice A3 x0.length c4)), (1, (.slice A5 x1.length c6)), (12, (.int .i64 (x0.length : Int))), (13, (.int .i64 0))] rfl ⟨rfl, rfl, rfl, rfl, trivial⟩ ?_
  refine wo_nil ?_
  refine wq_seq ?_
  refine wc_block ?_
  refine wc_loop (fun m E W => ∃ (rest17 : List Int) (i16 : Nat) (O20 : List Nat), rest17.length = m ∧ x0.drop i16 = rest17 ∧ E = [(0, (.slice A3 x0.length c4)), (1, (.slice A5 x1.length c6)), (12, (.int .i64 (x0.length : Int))), (13, (.int .i64 (i16 : Int)))] ∧ Tr O w O20 W ∧ OB O20 W ∧ Sub O O20 ∧ Fr [] w W ∧ s_Equal_l1 x1 k9 rest17 i16 = some r) _ [(0, (.slice A3 x0.length c4)), (1, (.slice A5 x1.length c6)), (12, (.int .i64 (x0.length : Int))), (13, (.int .i64 ((0 : Nat) : Int)))] ⟨rfl, rfl, rfl, rfl, trivial⟩ ⟨x0, 0, O, rfl, rfl, rfl, Tr.refl _ _, hO, hS, hF, h⟩ ?_
  rintro m E w21 ⟨rest17, i16, O20, rfl, hd19, rfl, T15, hO, hS, hF, h⟩
  have T8 := T8.trans T15
  have h0 := h0.tr T15
  have h1 := h1.tr T15
  rcases rest17 with _ | ⟨z18, rest17⟩
  · rw [s_Equal_l1] at h
    have hl25 := drop_nil hd19
    have hc22 : (decide ((i16 : Int) < (x0.length : Int))) = false := decide_eq_false (by omega)
    refine wc_seq ?_
    refine wc_region (l := [0]) rfl ?_
    refine wo_seg Θ_ok [0] [(0, (.slice A3 x0.length c4)), (1, (.slice A5 x1.length c6)), (12, (.int .i64 (x0.length : Int))), (13, (.int .i64 (i16 : Int))), (14, (.bool (decide ((i16 : Int) < (x0.length : Int)))))] rfl ⟨rfl, rfl, rfl, rfl, rfl, trivial⟩ ?_
    refine wo_nil ?_
    refine wq_seq ?_
    refine wc_seq ?_
    refine wc_known_false rfl hc22 ?_
    refine wc_exit ?_
    exact wq_then_exit (wq_then_exit (wq_block_exit (wq_join hK12 [] trivial ⟨O20, rfl, T8, hO, hS, hF, h⟩)))
  rw [s_Equal_l1] at h
  obtain ⟨hl26, hg24, hd19⟩ := drop_cons hd19
  have hc23 : (decide ((i16 : Int) < (x0.length : Int))) = true := decide_eq_true (by omega)
  refine wc_seq ?_
  refine wc_region (l := [0]) rfl ?_
  refine wo_seg Θ_ok [0] [(0, (.slice A3 x0.length c4)), (1, (.slice A5 x1.length c6)), (12, (.int .i64 (x0.length : Int))), (13, (.int .i64 (i16 : Int))), (14, (.bool (decide ((i16 : Int) < (x0.length : Int)))))] rfl ⟨rfl, rfl, rfl, rfl, rfl, trivial⟩ ?_
  refine wo_nil ?_
  refine wq_seq ?_
  refine wc_seq ?_
  refine wc_known_true rfl hc23 ?_
  refine wc_skip ?_
  refine wq_seq ?_
  refine wc_seq ?_
  refine wc_block ?_
  refine wc_seq ?_
  refine wc_region (l := [0, 1]) rfl ?_
  refine wo_seg Θ_ok [0, 1] [(0, (.slice A3 x0.length c4)), (1, (.slice A5 x1.length c6)), (5, (.int .i64 (i16 : Int))), (12, (.int .i64 (x0.length : Int))), (13, (.int .i64 (i16 : Int)))] rfl ⟨rfl, rfl, rfl, rfl, rfl, trivial⟩ ?_
  refine wo_nil ?_
  refine wq_seq ?_
  refine wc_seq ?_
  obtain ⟨y27, hz28, h⟩ := bind_some h
  refine wc_draw mixed [⟨16, [], [0]⟩, ⟨17, [], [5]⟩, ⟨18, [0, 1], []⟩, ⟨19, [2], []⟩, ⟨20, [], [1]⟩, ⟨21, [], [5]⟩, ⟨22, [4, 5], []⟩, ⟨23, [6], []⟩, ⟨24, [3, 7], []⟩] [SP.eq (.slice A3 x0.length c4), SP.eq (.int .i64 (i16 : Int)), SP.is (Ty.ptr (Ty.int .u64)) O20 z18, SP.eq (.int .u64 z18), SP.eq (.slice A5 x1.length c6), SP.eq (.int .i64 (i16 : Int)), SP.is (Ty.ptr (Ty.int .u64)) O20 y27, SP.eq (.int .u64 y27), SP.eq (.bool (z18 != y27))] rfl rfl rfl ⟨?_, ?_, ?_, ?_, ?_, ?_, ?_, ?_, ?_, trivial⟩ ?_
  · intro a w2 hfr hN hds hb hd
    have h0 := h0.tr hfr.tr0
    exact op_plain Θ_ok ⟨hN, hds, rows_get (E := [(0, (.slice A3 x0.length c4))]) ⟨hb 0 rfl _ rfl, trivial⟩⟩ rfl rfl rfl rfl rfl
  · intro a w2 hfr hN hds hb hd
    exact op_plain Θ_ok ⟨hN, hds, rows_get (E := [(5, (.int .i64 (i16 : Int)))]) ⟨hb 5 rfl _ rfl, trivial⟩⟩ rfl rfl rfl rfl rfl
  · intro a w2 hfr hN hds hb hd
    have h0 := h0.tr hfr.tr0
    exact op_index (j := (i16 : Int)) Θ_ok ⟨hN, hds, rows_get (E := [(16, (.slice A3 x0.length c4)), (17, (.int .i64 (i16 : Int)))]) ⟨(hd 0 rfl _ _ rfl rfl), (hd 1 rfl _ _ rfl rfl), trivial⟩⟩ rfl rfl rfl rfl rfl rfl rfl rfl rfl h0 rfl (by omega) hg24
  · intro a w2 hfr hN hds hb hd
    have d31 : (Ty.ptr (Ty.int .u64)).is O20 w2 (a.tmps.getD 18 undef) z18 := hd 2 rfl _ _ rfl rfl
    obtain ⟨u29, e30⟩ : ∃ v, a.tmps.getD 18 undef = v := ⟨_, rfl⟩
    rw [e30] at d31
    exact (op_loadp Θ_ok ⟨hN, hds, rows_get (E := [(18, u29)]) ⟨e30, trivial⟩⟩ rfl rfl rfl rfl rfl rfl d31 rfl rfl).weaken (fun u w3 ⟨hu, hf⟩ => ⟨int_is.1 hu, hf⟩)
  · intro a w2 hfr hN hds hb hd
    have h1 := h1.tr hfr.tr0
    exact op_plain Θ_ok ⟨hN, hds, rows_get (E := [(1, (.slice A5 x1.length c6))]) ⟨hb 1 rfl _ rfl, trivial⟩⟩ rfl rfl rfl rfl rfl
  · intro a w2 hfr hN hds hb hd
    exact op_plain Θ_ok ⟨hN, hds, rows_get (E := [(5, (.int .i64 (i16 : Int)))]) ⟨hb 5 rfl _ rfl, trivial⟩⟩ rfl rfl rfl rfl rfl
  · intro a w2 hfr hN hds hb hd
    have h1 := h1.tr hfr.tr0
    exact op_index (j := (i16 : Int)) Θ_ok ⟨hN, hds, rows_get (E := [(20, (.slice A5 x1.length c6)), (21, (.int .i64 (i16 : Int)))]) ⟨(hd 4 rfl _ _ rfl rfl), (hd 5 rfl _ _ rfl rfl), trivial⟩⟩ rfl rfl rfl rfl rfl rfl rfl rfl rfl h1 rfl (idx_some hz28).1 (idx_some hz28).2
  · intro a w2 hfr hN hds hb hd
    have d34 : (Ty.ptr (Ty.int .u64)).is O20 w2 (a.tmps.getD 22 undef) y27 := hd 6 rfl _ _ rfl rfl
    obtain ⟨u32, e33⟩ : ∃ v, a.tmps.getD 22 undef = v := ⟨_, rfl⟩
    rw [e33] at d34
    exact (op_loadp Θ_ok ⟨hN, hds, rows_get (E := [(22, u32)]) ⟨e33, trivial⟩⟩ rfl rfl rfl rfl rfl rfl d34 rfl rfl).weaken (fun u w3 ⟨hu, hf⟩ => ⟨int_is.1 hu, hf⟩)
  · intro a w2 hfr hN hds hb hd
    exact op_plain Θ_ok ⟨hN, hds, rows_get (E := [(19, (.int .u64 z18)), (23, (.int .u64 y27))]) ⟨(hd 3 rfl _ _ rfl rfl), (hd 7 rfl _ _ rfl rfl), trivial⟩⟩ rfl rfl rfl rfl rfl
  intro a w36 f35 hN hds hb hr
  have h0 := h0.tr f35.tr0
  have h1 := h1.tr f35.tr0
  have T8 := T8.trans f35.tr0
  have T15 := T15.trans f35.tr0
  have hO := f35.ob hO
  have hF := hF.trans f35
  refine wq_go (E := [(0, (.slice A3 x0.length c4)), (1, (.slice A5 x1.length c6)), (12, (.int .i64 (x0.length : Int))), (13, (.int .i64 (i16 : Int))), (24, (.bool (z18 != y27)))]) hN hds ⟨hb 0 _ rfl rfl, hb 1 _ rfl rfl, hb 12 _ rfl rfl, hb 13 _ rfl rfl, (hr 8 _ _ rfl rfl), trivial⟩ ?_
  refine wq_seq ?_
  rcases bif_some h with ⟨hc37, h⟩ | ⟨hc37, h⟩
  rotate_left
  · refine wc_known_false rfl hc37 ?_
    refine wc_skip ?_
    refine wq_block (wq_seq ?_)
    refine wc_region (l := [0, 1]) rfl ?_
    refine wo_seg Θ_ok [0, 1] [(0, (.slice A3 x0.length c4)), (1, (.slice A5 x1.length c6)), (12, (.int .i64 (x0.length : Int))), (13, (.int .i64 (IntKind.i64.wrap ((i16 : Int) + (1 : Int)))))] rfl ⟨rfl, rfl, rfl, rfl, trivial⟩ ?_
    refine wo_nil ?_
    exact wq_next rest17.length [(0, (.slice A3 x0.length c4)), (1, (.slice A5 x1.length c6)), (12, (.int .i64 (x0.length : Int))), (13, (.int .i64 ((i16 + 1 : Nat) : Int)))] (Nat.lt_succ_self _) ⟨rfl, rfl, rfl, congrArg (fun z => some (Value.int .i64 z)) (wrap_succ hl26 (Nat.le_trans hlc4 hmc4)), trivial⟩ ⟨rest17, i16 + 1, O20, rfl, hd19, rfl, T15, hO, hS, hF, h⟩
  refine wc_known_true rfl hc37 ?_
  refine wc_seq ?_
  refine wc_region (l := [0]) rfl ?_
  refine wo_seg Θ_ok [0] [(4, (.bool false))] rfl ⟨rfl, trivial⟩ ?_
  refine wo_nil ?_
  refine wq_seq ?_
  refine wc_ret ?_
  cases h
  exact wq_block_ret (wq_then_ret (wq_then_ret (wq_block_ret (wq_then_ret (wq_ret rfl ⟨_, rfl, (bool_is.2 rfl), hF⟩)))))
set_option maxRecDepth 100000 in
set_option maxHeartbeats 4000000 in
theorem s_Clone_f {O : List Nat} {w : World} (hO : OB O w) {B : Nat} (hB : B ≤ w.heap.size) {v0 : Value} {x0 : List Int} (h0 : (Ty.slice (Ty.int .u64)).is O w v0 x0) {r : List Int} (h : s_Clone x0 = some r) : Calls Try.prog 25 #[v0] w (GivesOwn (Ty.int .u64) 29 B O w (.slice none 0 0) r) := by
  have hF := Fr.refl [] w
  have hO0 := hO
  have hS := Sub.refl O
  refine calls_of (args := [v0]) (N := 8) Try.func25 rfl rfl rfl ?_
  unfold s_Clone at h
  refine wc_seq ?_
  refine wc_region (l := [0]) rfl ?_
  refine wo_seg Θ_ok [0] [(0, v0)] rfl ⟨rfl, trivial⟩ ?_
  refine wo_nil ?_
  refine wq_seq ?_
  refine wc_seq ?_
  refine wc_seq ?_
  refine wc_region (l := [0, 1]) rfl ?_
  refine wo_seg Θ_ok [0] [(0, v0), (3, v0)] rfl ⟨rfl, rfl, trivial⟩ ?_
  obtain ⟨A2, c3, rfl, hlc3, hmc3⟩ := slice_form h0
  refine wo_seg Θ_ok [1] [(0, (.slice A2 x0.length c3)), (4, (.bool A2.isNone))] rfl ⟨rfl, rfl, trivial⟩ ?_
  refine wo_nil ?_
  refine wq_seq ?_
  rcases A2 with _ | ad16
  · obtain rfl := slice_none h0
    (try simp [app] at h)
    (try subst h)
    refine wc_true rfl ?_
    refine wc_seq ?_
    refine wc_region (l := [0]) rfl ?_
    refine wo_seg Θ_ok [0] [(2, (.slice none 0 0))] rfl ⟨rfl, trivial⟩ ?_
    refine wo_nil ?_
    refine wq_seq ?_
    refine wc_ret ?_
    exact wq_then_ret (wq_ret rfl (fresh_own Own.nil_ hS hF hO0 hB))
  refine wc_false rfl ?_
  refine wc_skip ?_
  refine wq_seq ?_
  refine wc_seq ?_
  refine wc_region (l := [0, 1, 2, 3]) rfl ?_
  refine wo_lit Θ_ok rfl rfl rfl rfl rfl rfl rfl rfl rfl rfl (T := (Ty.int .u64)) (xs := ([] : List Int)) (vs := []) rfl trivial rfl rfl rfl hO (fun b4 w5 q6 => ?_)
  obtain ⟨_, nq6, _⟩ := q6.new
  have h7 := q6.own hF.size
  have h0 := h0.tr nq6.tr
  have hO := nq6.ob
  have hF := hF.trans nq6.fr
  have hS := Sub.cons hS b4
  generalize (Value.slice (some ⟨b4, 0, none⟩) 0 0) = v8 at *
  refine wo_seg Θ_ok [1] [(5, v8), (6, (.slice (some ad16) x0.length c3))] rfl ⟨rfl, rfl, trivial⟩ ?_
  obtain ⟨z9, hz10, h⟩ := bind_some h
  refine wo_app Θ_ok rfl rfl rfl rfl rfl rfl rfl rfl rfl rfl rfl rfl rfl rfl hF hO h7 h0 hz10 (fun v11 w12 O13 ap14 => ?_)
  have hF := ap14.fr0 h7 hF
  have hS := Sub.trans hS ap14.sub
  have hO := ap14.ob
  have h15 := ap14.own
  refine wo_seg Θ_ok [3] [(2, v11)] rfl ⟨rfl, trivial⟩ ?_
  refine wo_nil ?_
  refine wq_seq ?_
  refine wc_ret ?_
  cases h
  exact wq_ret rfl (fresh_own h15 hS hF hO0 hB)
theorem s_Clone_c {O : List Nat} {w : World} (hO : OB O w) {v0 : Value} {x0 : List Int} (h0 : (Ty.slice (Ty.int .u64)).is O w v0 x0) {r : List Int} (h : s_Clone x0 = some r) : Calls Try.prog 25 #[v0] w (Gives (rt1 (Ty.slice (Ty.int .u64))) O w r) := (s_Clone_f hO (Nat.le_refl _) h0 h).mono fun _ _ hh => gives_of_own hO hh
set_option maxRecDepth 100000 in
set_option maxHeartbeats 4000000 in
theorem s_CloneN_f {O : List Nat} {w : World} (hO : OB O w) {B : Nat} (hB : B ≤ w.heap.size) {v0 : Value} {x0 : List GName} (h0 : (Ty.slice tGName).is O w v0 x0) {r : List GName} (h : s_CloneN x0 = some r) : Calls Try.prog 31 #[v0] w (GivesOwn tGName 31 B O w (.slice none 0 0) r) := by
  have hF := Fr.refl [] w
  have hO0 := hO
  have hS := Sub.refl O
  refine calls_of (args := [v0]) (N := 8) Try.func31 rfl rfl rfl ?_
  unfold s_CloneN at h
  refine wc_seq ?_
  refine wc_region (l := [0]) rfl ?_
  refine wo_seg Θ_ok [0] [(0, v0)] rfl ⟨rfl, trivial⟩ ?_
  refine wo_nil ?_
  refine wq_seq ?_
  refine wc_seq ?_
  refine wc_seq ?_
  refine wc_region (l := [0, 1]) rfl ?_
  refine wo_seg Θ_ok [0] [(0, v0), (3, v0)] rfl ⟨rfl, rfl, trivial⟩ ?_
  obtain ⟨A2, c3, rfl, hlc3, hmc3⟩ := slice_form h0
  refine wo_seg Θ_ok [1] [(0, (.slice A2 x0.length c3)), (4, (.bool A2.isNone))] rfl ⟨rfl, rfl, trivial⟩ ?_
  refine wo_nil ?_
  refine wq_seq ?_
  rcases A2 with _ | ad16
  · obtain rfl := slice_none h0
    (try simp [app] at h)
    (try subst h)
    refine wc_true rfl ?_
    refine wc_seq ?_
    refine wc_region (l := [0]) rfl ?_
    refine wo_seg Θ_ok [0] [(2, (.slice none 0 0))] rfl ⟨rfl, trivial⟩ ?_
    refine wo_nil ?_
    refine wq_seq ?_
    refine wc_ret ?_
    exact wq_then_ret (wq_ret rfl (fresh_own Own.nil_ hS hF hO0 hB))
  refine wc_false rfl ?_
  refine wc_skip ?_
  refine wq_seq ?_
  refine wc_seq ?_
  refine wc_region (l := [0, 1, 2, 3]) rfl ?_
  refine wo_lit Θ_ok rfl rfl rfl rfl rfl rfl rfl rfl rfl rfl (T := tGName) (xs := ([] : List GName)) (vs := []) rfl trivial rfl rfl rfl hO (fun b4 w5 q6 => ?_)
  obtain ⟨_, nq6, _⟩ := q6.new
  have h7 := q6.own hF.size
  have h0 := h0.tr nq6.tr
  have hO := nq6.ob
  have hF := hF.trans nq6.fr
  have hS := Sub.cons hS b4
  generalize (Value.slice (some ⟨b4, 0, none⟩) 0 0) = v8 at *
  refine wo_seg Θ_ok [1] [(5, v8), (6, (.slice (some ad16) x0.length c3))] rfl ⟨rfl, rfl, trivial⟩ ?_
  obtain ⟨z9, hz10, h⟩ := bind_some h
  refine wo_app Θ_ok rfl rfl rfl rfl rfl rfl rfl rfl rfl rfl rfl rfl rfl rfl hF hO h7 h0 hz10 (fun v11 w12 O13 ap14 => ?_)
  have hF := ap14.fr0 h7 hF
  have hS := Sub.trans hS ap14.sub
  have hO := ap14.ob
  have h15 := ap14.own
  refine wo_seg Θ_ok [3] [(2, v11)] rfl ⟨rfl, trivial⟩ ?_
  refine wo_nil ?_
  refine wq_seq ?_
  refine wc_ret ?_
  cases h
  exact wq_ret rfl (fresh_own h15 hS hF hO0 hB)
theorem s_CloneN_c {O : List Nat} {w : World} (hO : OB O w) {v0 : Value} {x0 : List GName} (h0 : (Ty.slice tGName).is O w v0 x0) {r : List GName} (h : s_CloneN x0 = some r) : Calls Try.prog 31 #[v0] w (Gives (rt1 (Ty.slice tGName)) O w r) := (s_CloneN_f hO (Nat.le_refl _) h0 h).mono fun _ _ hh => gives_of_own hO hh
set_option maxRecDepth 100000 in
set_option maxHeartbeats 4000000 in
theorem own_c {O : List Nat} {w : World} (hO : OB O w) {v0 : Value} {x0 : GIpc} (h0 : tGIpc.is O w v0 x0) {r : GIpc} (h : own x0 = some r) : Calls Try.prog 8 #[v0] w (Gives (rt1 tGIpc) O w r) := by
  obtain ⟨v0_1, v0_2, rfl, h0_1, h0_2⟩ := tGIpc_is.1 h0
  have hF := Fr.refl [] w
  have hO0 := hO
  have hS := Sub.refl O
  refine calls_of (args := [(.agg #[v0_1, v0_2])]) (N := 43) Try.func8 rfl rfl rfl ?_
  unfold own at h
  refine wc_seq ?_
  refine wc_region (l := [0, 1]) rfl ?_
  refine wo_box rfl rfl rfl rfl rfl rfl [v0_1, v0_2] rfl hO (fun b2 w3 n4 => ?_)
  have h0_1 := h0_1.tr n4.tr
  have h0_2 := h0_2.tr n4.tr
  have hb2 := n4.blk
  have gb2 := n4.ge0 hF
  have ib2 : b2 ∈ b2 :: O := List.mem_cons_self
  have hO := n4.ob
  have hF := hF.trans n4.fr
  have hS := Sub.cons hS b2
  refine wo_alloc Θ_ok rfl rfl rfl rfl rfl rfl [(.slice none 0 0), (.slice none 0 0)] rfl hO (fun b5 w6 n7 => ?_)
  have h0_1 := h0_1.tr n7.tr
  have h0_2 := h0_2.tr n7.tr
  have nb5b2 : b5 ≠ b2 := by have := hb2.lt; have := n7.ge; omega
  have hb2 := hb2.fr0 n7.fr
  have ib2 := List.mem_cons_of_mem b5 ib2
  have hb5 := n7.blk
  have gb5 := n7.ge0 hF
  have ib5 : b5 ∈ b5 :: (b2 :: O) := List.mem_cons_self
  have hO := n7.ob
  have hF := hF.trans n7.fr
  have hS := Sub.cons hS b5
  refine wo_nil ?_
  refine wq_seq ?_
  refine wc_seq ?_
  refine wc_region (l := [0, 1, 2, 3, 4, 5, 6, 7, 8, 9, 10]) rfl ?_
  refine wo_seg Θ_ok [0] [(1, (bp b2)), (2, (bp b5)), (6, (bp b2))] rfl ⟨rfl, rfl, rfl, trivial⟩ ?_
  refine wo_load Θ_ok rfl rfl rfl rfl rfl rfl rfl hb2 [v0_1] rfl rfl (.inr rfl) v0_1 rfl ?_
  refine wo_seg Θ_ok [2] [(1, (bp b2)), (2, (bp b5)), (7, v0_1), (8, (bp b2))] rfl ⟨rfl, rfl, rfl, rfl, trivial⟩ ?_
  refine wo_load Θ_ok rfl rfl rfl rfl rfl rfl rfl hb2 [v0_1] rfl rfl (.inr rfl) v0_1 rfl ?_
  obtain ⟨A8, c9, rfl, hlc9, hmc9⟩ := slice_form h0_1
  refine wo_seg Θ_ok [4] [(1, (bp b2)), (2, (bp b5)), (7, (.slice A8 x0.fNames.length c9)), (10, (.int .i64 (x0.fNames.length : Int)))] rfl ⟨rfl, rfl, rfl, rfl, trivial⟩ ?_
  refine wo_seg Θ_ok [5] [(1, (bp b2)), (2, (bp b5)), (7, (.slice A8 x0.fNames.length c9)), (11, (.int .i64 (if (20 : Int) < (x0.fNames.length : Int) then (20 : Int) else (x0.fNames.length : Int))))] rfl ⟨rfl, rfl, rfl, rfl, trivial⟩ ?_
  obtain ⟨y10, hz11, h⟩ := bind_some h
  refine wo_cut (l' := none) (h' := some (.i64, (if (20 : Int) < (x0.fNames.length : Int) then (20 : Int) else (x0.fNames.length : Int)))) (m' := none) Θ_ok rfl rfl rfl rfl rfl rfl rfl rfl rfl rfl rfl rfl rfl h0_1 hz11 (fun v12 h13 => ?_)
  obtain ⟨y18, hy19, h⟩ := bind_some h
  refine wo_gives rfl rfl rfl rfl rfl ent31 rfl (s_CloneN_c hO h13 hy19) (fun v14 w15 h16 f17 => ?_)
  have h0_1 := h0_1.tr f17.tr0
  have h0_2 := h0_2.tr f17.tr0
  have hb2 := hb2.fr0 f17
  have hb5 := hb5.fr0 f17
  have hO := f17.ob hO
  have hF := hF.trans f17
  obtain ⟨A20, c21, rfl, hlc21, hmc21⟩ := slice_form h16
  refine wo_seg Θ_ok [8] [(1, (bp b2)), (2, (bp b5)), (14, (.agg #[(.slice A20 y18.length c21), (.slice none 0 0)]))] rfl ⟨rfl, rfl, rfl, trivial⟩ ?_
  refine wo_alloc Θ_ok rfl rfl rfl rfl rfl rfl [(.slice none 0 0), (.slice none 0 0)] rfl hO (fun b22 w23 n24 => ?_)
  have h16 := h16.tr n24.tr
  have h0_1 := h0_1.tr n24.tr
  have h0_2 := h0_2.tr n24.tr
  have nb22b2 : b22 ≠ b2 := by have := hb2.lt; have := n24.ge; omega
  have hb2 := hb2.fr0 n24.fr
  have ib2 := List.mem_cons_of_mem b22 ib2
  have nb22b5 : b22 ≠ b5 := by have := hb5.lt; have := n24.ge; omega
  have hb5 := hb5.fr0 n24.fr
  have ib5 := List.mem_cons_of_mem b22 ib5
  have hb22 := n24.blk
  have gb22 := n24.ge0 hF
  have ib22 : b22 ∈ b22 :: (b5 :: b2 :: O) := List.mem_cons_self
  have hO := n24.ob
  have hF := hF.trans n24.fr
  have hS := Sub.cons hS b22
  refine wo_store Θ_ok rfl rfl rfl rfl rfl rfl rfl hb22 [(.slice A20 y18.length c21), (.slice none 0 0)] rfl rfl (by simp [Value.oneCell']) rfl [(.slice A20 y18.length c21), (.slice none 0 0)] rfl (fun w25 hb22 f26 => ?_)
  have h0_1 := h0_1.tr (f26.tr (one_in ib22))
  have h0_2 := h0_2.tr (f26.tr (one_in ib22))
  have h16 := h16.tr (f26.tr (one_in ib22))
  have hb2 := hb2.fr f26 (nin nb22b2.symm)
  have hb5 := hb5.fr f26 (nin nb22b5.symm)
  have hO := f26.ob hO
  have hF := hF.own f26 gb22
  refine wo_nil ?_
  refine wq_seq ?_
  obtain ⟨k28, hk29, h⟩ := letk_some h
  refine wc_join (fun E W => ∃ (O37 : List Nat) (p32 : GIpc) (v33 : Value) (v35 : Value), E = [(2, (bp b5)), (3, (bp b22))] ∧ Tr (b22 :: b5 :: b2 :: O) w25 O37 W ∧ OB O37 W ∧ Sub O O37 ∧ Fr [] w W ∧ b5 ∈ O37 ∧ Blk W b5 25 [(.slice none 0 0), (.slice none 0 0)] ∧ b22 ∈ O37 ∧ Blk W b22 25 [v33, v35] ∧ Go.Dc.Own tGBox 61 w.heap.size O37 W v35 p32.fBoxes ∧ v35.ownBlock ≠ some b5 ∧ v35.ownBlock ≠ some b22 ∧ (Ty.slice tGName).is O37 W v33 p32.fNames ∧ k28 p32 = some r) ?_ (fun K30 hK31 => ?_)
  · rintro E w38 ⟨O37, p32, v33, v35, rfl, T27, hO, hS, hF, ib5, hb5, ib22, hb22, h36, qh36b5, qh36b22, h34, h⟩
    subst hk29
    (try dsimp only at h)
    refine wc_seq ?_
    refine wc_region (l := [0, 1]) rfl ?_
    refine wo_load Θ_ok rfl rfl rfl rfl rfl rfl rfl hb22 [v33, v35] rfl rfl (.inl rfl) (.agg #[v33, v35]) rfl ?_
    obtain ⟨A39, c40, rfl, hlc40, hmc40⟩ := slice_form h34
    obtain ⟨A41, c42, rfl, hlc42, hmc42⟩ := h36.form
    refine wo_store Θ_ok rfl rfl rfl rfl rfl rfl rfl hb5 [(.slice A39 p32.fNames.length c40), (.slice A41 p32.fBoxes.length c42)] rfl rfl (by simp [Value.oneCell']) rfl [(.slice A39 p32.fNames.length c40), (.slice A41 p32.fBoxes.length c42)] rfl (fun w43 hb5 f44 => ?_)
    have h34 := h34.tr (f44.tr (one_in ib5))
    have h36 := h36.st f44 ib5 qh36b5
    have hO := f44.ob hO
    have hF := hF.own f44 gb5
    refine wo_nil ?_
    refine wq_seq ?_
    refine wc_ret ?_
    have h := Option.some.inj h; subst h
    exact wq_retc Θ_ok (vs := [(.agg #[(.slice A39 p32.fNames.length c40), (.slice A41 p32.fBoxes.length c42)])]) ⟨(.agg #[(.slice A39 p32.fNames.length c40), (.slice A41 p32.fBoxes.length c42)]), _, rfl, ⟨_, _, _, _, rfl, hb5, rfl, rfl, .inl rfl, rfl⟩, rfl⟩ ⟨_, rfl, ((tGIpc_is (x := p32)).2 ⟨_, _, rfl, (h34.tr (Tr.less hS)), (h36.share0 hS hO0)⟩), hF⟩
  clear hk29
  have T27 := Tr.refl (b22 :: b5 :: b2 :: O) w25
  refine wc_seq ?_
  refine wc_region (l := [0, 1, 2, 3]) rfl ?_
  refine wo_seg Θ_ok [0] [(2, (bp b5)), (3, (bp b22)), (15, (.pointer (some ⟨b2, 1, none⟩)))] rfl ⟨rfl, rfl, rfl, trivial⟩ ?_
  refine wo_load Θ_ok rfl rfl rfl rfl rfl rfl rfl hb2 [v0_2] rfl rfl (.inr rfl) v0_2 rfl ?_
  obtain ⟨A45, c46, rfl, hlc46, hmc46⟩ := slice_form h0_2
  refine wo_seg Θ_ok [2] [(2, (bp b5)), (3, (bp b22)), (16, (.slice A45 x0.fBoxes.length c46)), (17, (.int .i64 (x0.fBoxes.length : Int)))] rfl ⟨rfl, rfl, rfl, rfl, trivial⟩ ?_
  refine wo_seg Θ_ok [3] [(2, (bp b5)), (3, (bp b22)), (16, (.slice A45 x0.fBoxes.length c46)), (17, (.int .i64 (x0.fBoxes.length : Int))), (18, (.int .i64 0))] rfl ⟨rfl, rfl, rfl, rfl, rfl, trivial⟩ ?_
  refine wo_nil ?_
  refine wq_seq ?_
  refine wc_block ?_
  refine wc_loop (fun m E W => ∃ (rest54 : List GBox) (i53 : Nat) (O57 : List Nat) (p48 : GIpc) (v49 : Value) (v51 : Value), rest54.length = m ∧ x0.fBoxes.drop i53 = rest54 ∧ E = [(2, (bp b5)), (3, (bp b22)), (16, (.slice A45 x0.fBoxes.length c46)), (17, (.int .i64 (x0.fBoxes.length : Int))), (18, (.int .i64 (i53 : Int)))] ∧ Tr (b22 :: b5 :: b2 :: O) w25 O57 W ∧ OB O57 W ∧ Sub O O57 ∧ Fr [] w W ∧ b5 ∈ O57 ∧ Blk W b5 25 [(.slice none 0 0), (.slice none 0 0)] ∧ b22 ∈ O57 ∧ Blk W b22 25 [v49, v51] ∧ Go.Dc.Own tGBox 61 w.heap.size O57 W v51 p48.fBoxes ∧ v51.ownBlock ≠ some b5 ∧ v51.ownBlock ≠ some b22 ∧ (Ty.slice tGName).is O57 W v49 p48.fNames ∧ own_l1 k28 rest54 i53 p48 = some r) _ [(2, (bp b5)), (3, (bp b22)), (16, (.slice A45 x0.fBoxes.length c46)), (17, (.int .i64 (x0.fBoxes.length : Int))), (18, (.int .i64 ((0 : Nat) : Int)))] ⟨rfl, rfl, rfl, rfl, rfl, trivial⟩ ⟨x0.fBoxes, 0, b22 :: b5 :: b2 :: O, (GIpc.mk y18 ([] : List GBox)), (.slice A20 y18.length c21), (.slice none 0 0), rfl, rfl, rfl, Tr.refl _ _, hO, hS, hF, ib5, hb5, ib22, hb22, (Go.Dc.Own.nil_ : Go.Dc.Own tGBox 61 w.heap.size _ _ _ _), (nil_ne _), (nil_ne _), h16, h⟩ ?_
  rintro m E w58 ⟨rest54, i53, O57, p48, v49, v51, rfl, hd56, rfl, T47, hO, hS, hF, ib5, hb5, ib22, hb22, h52, qh52b5, qh52b22, h50, h⟩
  have T27 := T27.trans T47
  have h0_2 := h0_2.tr T47
  rcases rest54 with _ | ⟨z55, rest54⟩
  · rw [own_l1] at h
    have hl62 := drop_nil hd56
    have hc59 : (decide ((i53 : Int) < (x0.fBoxes.length : Int))) = false := decide_eq_false (by omega)
    refine wc_seq ?_
    refine wc_region (l := [0]) rfl ?_
    refine wo_seg Θ_ok [0] [(2, (bp b5)), (3, (bp b22)), (16, (.slice A45 x0.fBoxes.length c46)), (17, (.int .i64 (x0.fBoxes.length : Int))), (18, (.int .i64 (i53 : Int))), (19, (.bool (decide ((i53 : Int) < (x0.fBoxes.length : Int)))))] rfl ⟨rfl, rfl, rfl, rfl, rfl, rfl, trivial⟩ ?_
    refine wo_nil ?_
    refine wq_seq ?_
    refine wc_seq ?_
    refine wc_known_false rfl hc59 ?_
    refine wc_exit ?_
    exact wq_then_exit (wq_then_exit (wq_block_exit (wq_join hK31 [(2, (bp b5)), (3, (bp b22))] ⟨rfl, rfl, trivial⟩ ⟨O57, p48, v49, v51, rfl, T27, hO, hS, hF, ib5, hb5, ib22, hb22, h52, qh52b5, qh52b22, h50, h⟩)))
  rw [own_l1] at h
  obtain ⟨hl63, hg61, hd56⟩ := drop_cons hd56
  have hc60 : (decide ((i53 : Int) < (x0.fBoxes.length : Int))) = true := decide_eq_true (by omega)
  refine wc_seq ?_
  refine wc_region (l := [0]) rfl ?_
  refine wo_seg Θ_ok [0] [(2, (bp b5)), (3, (bp b22)), (16, (.slice A45 x0.fBoxes.length c46)), (17, (.int .i64 (x0.fBoxes.length : Int))), (18, (.int .i64 (i53 : Int))), (19, (.bool (decide ((i53 : Int) < (x0.fBoxes.length : Int)))))] rfl ⟨rfl, rfl, rfl, rfl, rfl, rfl, trivial⟩ ?_
  refine wo_nil ?_
  refine wq_seq ?_
  refine wc_seq ?_
  refine wc_known_true rfl hc60 ?_
  refine wc_skip ?_
  refine wq_seq ?_
  refine wc_seq ?_
  refine wc_block ?_
  refine wc_seq ?_
  refine wc_region (l := [0, 1, 2, 3, 4, 5]) rfl ?_
  refine wo_seg Θ_ok [0] [(2, (bp b5)), (3, (bp b22)), (16, (.slice A45 x0.fBoxes.length c46)), (17, (.int .i64 (x0.fBoxes.length : Int))), (18, (.int .i64 (i53 : Int))), (20, (.int .i64 (i53 : Int)))] rfl ⟨rfl, rfl, rfl, rfl, rfl, rfl, trivial⟩ ?_
  refine wo_index Θ_ok rfl rfl rfl rfl rfl rfl rfl rfl rfl rfl h0_2 rfl (by omega) hg61 (fun p64 h65 => ?_)
  refine wo_loadp Θ_ok rfl rfl rfl rfl rfl rfl rfl h65 rfl rfl (fun v66 h67 => ?_)
  obtain ⟨v68, rfl, h69⟩ := tGBox_is.1 h67
  refine wo_alloc Θ_ok rfl rfl rfl rfl rfl rfl [(.int .u64 0), (.slice none 0 0)] rfl hO (fun b70 w71 n72 => ?_)
  have h0_2 := h0_2.tr n72.tr
  have h69 := h69.tr n72.tr
  have h50 := h50.tr n72.tr
  have T27 := T27.trans n72.tr
  have T47 := T47.trans n72.tr
  have qh52b70 := h52.ne_new n72
  have h52 := h52.new n72
  have nb70b5 : b70 ≠ b5 := by have := hb5.lt; have := n72.ge; omega
  have hb5 := hb5.fr0 n72.fr
  have ib5 := List.mem_cons_of_mem b70 ib5
  have nb70b22 : b70 ≠ b22 := by have := hb22.lt; have := n72.ge; omega
  have hb22 := hb22.fr0 n72.fr
  have ib22 := List.mem_cons_of_mem b70 ib22
  have hb70 := n72.blk
  have gb70 := n72.ge0 hF
  have ib70 : b70 ∈ b70 :: O57 := List.mem_cons_self
  have hO := n72.ob
  have hF := hF.trans n72.fr
  have hS := Sub.cons hS b70
  refine wo_seg Θ_ok [4] [(2, (bp b5)), (3, (bp b22)), (4, (.int .i64 (i53 : Int))), (5, (bp b70)), (16, (.slice A45 x0.fBoxes.length c46)), (17, (.int .i64 (x0.fBoxes.length : Int))), (18, (.int .i64 (i53 : Int))), (22, (.agg #[(.int .u64 z55.fPid), v68]))] rfl ⟨rfl, rfl, rfl, rfl, rfl, rfl, rfl, rfl, trivial⟩ ?_
  obtain ⟨A73, c74, rfl, hlc74, hmc74⟩ := slice_form h69
  refine wo_store Θ_ok rfl rfl rfl rfl rfl rfl rfl hb70 [(.int .u64 z55.fPid), (.slice A73 z55.fWords.length c74)] rfl rfl (by simp [Value.oneCell']) rfl [(.int .u64 z55.fPid), (.slice A73 z55.fWords.length c74)] rfl (fun w75 hb70 f76 => ?_)
  have h0_2 := h0_2.tr (f76.tr (one_in ib70))
  have h50 := h50.tr (f76.tr (one_in ib70))
  have h69 := h69.tr (f76.tr (one_in ib70))
  have T27 := T27.trans (f76.tr (one_in ib70))
  have T47 := T47.trans (f76.tr (one_in ib70))
  have hb5 := hb5.fr f76 (nin nb70b5.symm)
  have hb22 := hb22.fr f76 (nin nb70b22.symm)
  have h52 := h52.st f76 ib70 qh52b70
  have hO := f76.ob hO
  have hF := hF.own f76 gb70
  refine wo_nil ?_
  refine wq_seq ?_
  refine wc_seq ?_
  refine wc_region (l := [0, 1]) rfl ?_
  refine wo_seg Θ_ok [0, 1] [(2, (bp b5)), (3, (bp b22)), (5, (bp b70)), (16, (.slice A45 x0.fBoxes.length c46)), (17, (.int .i64 (x0.fBoxes.length : Int))), (18, (.int .i64 (i53 : Int))), (24, (.bool (decide ((i53 : Int) < (20 : Int)))))] rfl ⟨rfl, rfl, rfl, rfl, rfl, rfl, rfl, trivial⟩ ?_
  refine wo_nil ?_
  refine wq_seq ?_
  rcases bif_some h with ⟨hc77, h⟩ | ⟨hc77, h⟩
  rotate_left
  · refine wc_known_false rfl hc77 ?_
    refine wc_skip ?_
    refine wq_block (wq_seq ?_)
    refine wc_region (l := [0, 1]) rfl ?_
    refine wo_seg Θ_ok [0, 1] [(2, (bp b5)), (3, (bp b22)), (16, (.slice A45 x0.fBoxes.length c46)), (17, (.int .i64 (x0.fBoxes.length : Int))), (18, (.int .i64 (IntKind.i64.wrap ((i53 : Int) + (1 : Int)))))] rfl ⟨rfl, rfl, rfl, rfl, rfl, trivial⟩ ?_
    refine wo_nil ?_
    exact wq_next rest54.length [(2, (bp b5)), (3, (bp b22)), (16, (.slice A45 x0.fBoxes.length c46)), (17, (.int .i64 (x0.fBoxes.length : Int))), (18, (.int .i64 ((i53 + 1 : Nat) : Int)))] (Nat.lt_succ_self _) ⟨rfl, rfl, rfl, rfl, congrArg (fun z => some (Value.int .i64 z)) (wrap_succ hl63 (Nat.le_trans hlc46 hmc46)), trivial⟩ ⟨rest54, i53 + 1, b70 :: O57, p48, v49, v51, rfl, hd56, rfl, T47, hO, hS, hF, ib5, hb5, ib22, hb22, h52, qh52b5, qh52b22, h50, h⟩
  refine wc_known_true rfl hc77 ?_
  obtain ⟨A78, c79, rfl, hlc79, hmc79⟩ := slice_form h50
  obtain ⟨A80, c81, rfl, hlc81, hmc81⟩ := h52.form
  obtain ⟨y82, hz83, h⟩ := bind_some h
  obtain ⟨y84, hy85, h⟩ := bind_some h
  refine wc_drawT mixed [⟨25, [], [3]⟩, ⟨26, [0], []⟩, ⟨27, [], [5]⟩, ⟨28, [2], []⟩, ⟨29, [], [5]⟩, ⟨30, [4], []⟩, ⟨31, [], [5]⟩, ⟨32, [6], []⟩, ⟨33, [7], []⟩, ⟨34, [8], []⟩, ⟨35, [5, 9], []⟩, ⟨36, [10], []⟩, ⟨37, [3, 11], []⟩, ⟨38, [12], []⟩] [SP.eq (.pointer (some ⟨b22, 1, none⟩)), SP.eq (.slice A80 p48.fBoxes.length c81), SP.eq (bp b70), SP.eq (.int .u64 z55.fPid), SP.eq (.pointer (some ⟨b70, 1, none⟩)), SP.eq (.slice A73 z55.fWords.length c74), SP.eq (.pointer (some ⟨b70, 1, none⟩)), SP.eq (.slice A73 z55.fWords.length c74), SP.eq (.int .i64 (z55.fWords.length : Int)), SP.eq (.int .i64 (if (8 : Int) < (z55.fWords.length : Int) then (8 : Int) else (z55.fWords.length : Int))), SP.is (Ty.slice (Ty.int .u64)) (b70 :: O57) y82, SP.is (Ty.slice (Ty.int .u64)) (b70 :: O57) y84, SP.is tGBox (b70 :: O57) ((GBox.mk z55.fPid y84)), SP.is (Ty.slice tGBox) (b70 :: O57) (([(GBox.mk z55.fPid y84)] : List GBox))] rfl rfl rfl rfl ⟨?_, ?_, ?_, ?_, ?_, ?_, ?_, ?_, ?_, ?_, ?_, ?_, ?_, ?_, trivial⟩ ?_
  · intro a w2 hfr hN hds hb hd
    exact op_plain Θ_ok ⟨hN, hds, rows_get (E := [(3, (bp b22))]) ⟨hb 3 rfl _ rfl, trivial⟩⟩ rfl rfl rfl rfl rfl
  · intro a w2 hfr hN hds hb hd
    have hb22 := hb22.fr0 hfr
    exact op_load Θ_ok ⟨hN, hds, rows_get (E := [(25, (.pointer (some ⟨b22, 1, none⟩)))]) ⟨(hd 0 rfl _ _ rfl rfl), trivial⟩⟩ rfl rfl rfl rfl rfl rfl hb22 [(.slice A80 p48.fBoxes.length c81)] rfl rfl (.inr rfl) (.slice A80 p48.fBoxes.length c81) rfl
  · intro a w2 hfr hN hds hb hd
    exact op_plain Θ_ok ⟨hN, hds, rows_get (E := [(5, (bp b70))]) ⟨hb 5 rfl _ rfl, trivial⟩⟩ rfl rfl rfl rfl rfl
  · intro a w2 hfr hN hds hb hd
    have hb70 := hb70.fr0 hfr
    exact op_load Θ_ok ⟨hN, hds, rows_get (E := [(27, (bp b70))]) ⟨(hd 2 rfl _ _ rfl rfl), trivial⟩⟩ rfl rfl rfl rfl rfl rfl hb70 [(.int .u64 z55.fPid)] rfl rfl (.inr rfl) (.int .u64 z55.fPid) rfl
  · intro a w2 hfr hN hds hb hd
    exact op_plain Θ_ok ⟨hN, hds, rows_get (E := [(5, (bp b70))]) ⟨hb 5 rfl _ rfl, trivial⟩⟩ rfl rfl rfl rfl rfl
  · intro a w2 hfr hN hds hb hd
    have hb70 := hb70.fr0 hfr
    exact op_load Θ_ok ⟨hN, hds, rows_get (E := [(29, (.pointer (some ⟨b70, 1, none⟩)))]) ⟨(hd 4 rfl _ _ rfl rfl), trivial⟩⟩ rfl rfl rfl rfl rfl rfl hb70 [(.slice A73 z55.fWords.length c74)] rfl rfl (.inr rfl) (.slice A73 z55.fWords.length c74) rfl
  · intro a w2 hfr hN hds hb hd
    exact op_plain Θ_ok ⟨hN, hds, rows_get (E := [(5, (bp b70))]) ⟨hb 5 rfl _ rfl, trivial⟩⟩ rfl rfl rfl rfl rfl
  · intro a w2 hfr hN hds hb hd
    have hb70 := hb70.fr0 hfr
    exact op_load Θ_ok ⟨hN, hds, rows_get (E := [(31, (.pointer (some ⟨b70, 1, none⟩)))]) ⟨(hd 6 rfl _ _ rfl rfl), trivial⟩⟩ rfl rfl rfl rfl rfl rfl hb70 [(.slice A73 z55.fWords.length c74)] rfl rfl (.inr rfl) (.slice A73 z55.fWords.length c74) rfl
  · intro a w2 hfr hN hds hb hd
    have h69 := h69.tr hfr.tr0
    exact op_plain Θ_ok ⟨hN, hds, rows_get (E := [(32, (.slice A73 z55.fWords.length c74))]) ⟨(hd 7 rfl _ _ rfl rfl), trivial⟩⟩ rfl rfl rfl rfl rfl
  · intro a w2 hfr hN hds hb hd
    exact op_plain Θ_ok ⟨hN, hds, rows_get (E := [(33, (.int .i64 (z55.fWords.length : Int)))]) ⟨(hd 8 rfl _ _ rfl rfl), trivial⟩⟩ rfl rfl rfl rfl rfl
  · intro a w2 hfr hN hds hb hd
    have h69 := h69.tr hfr.tr0
    exact op_cut (l' := none) (h' := some (.i64, (if (8 : Int) < (z55.fWords.length : Int) then (8 : Int) else (z55.fWords.length : Int)))) (m' := none) Θ_ok ⟨hN, hds, rows_get (E := [(30, (.slice A73 z55.fWords.length c74)), (34, (.int .i64 (if (8 : Int) < (z55.fWords.length : Int) then (8 : Int) else (z55.fWords.length : Int))))]) ⟨(hd 5 rfl _ _ rfl rfl), (hd 9 rfl _ _ rfl rfl), trivial⟩⟩ rfl rfl rfl rfl rfl rfl rfl rfl rfl rfl rfl rfl h69 hz83
  · intro a w2 hfr hN hds hb hd
    have d88 : (Ty.slice (Ty.int .u64)).is (b70 :: O57) w2 (a.tmps.getD 35 undef) y82 := hd 10 rfl _ _ rfl rfl
    obtain ⟨u86, e87⟩ : ∃ v, a.tmps.getD 35 undef = v := ⟨_, rfl⟩
    rw [e87] at d88
    exact (op_call ⟨hN, hds, rows_get (E := [(35, u86)]) ⟨e87, trivial⟩⟩ rfl rfl rfl rfl ent25 rfl (s_Clone_c (hfr.ob hO) d88 hy85)).weaken (fun u w3 ⟨hu, hf⟩ => ⟨hu, hf⟩)
  · intro a w2 hfr hN hds hb hd
    have d91 : (Ty.slice (Ty.int .u64)).is (b70 :: O57) w2 (a.tmps.getD 36 undef) y84 := hd 11 rfl _ _ rfl rfl
    obtain ⟨u89, e90⟩ : ∃ v, a.tmps.getD 36 undef = v := ⟨_, rfl⟩
    rw [e90] at d91
    obtain ⟨A92, c93, rfl, _, _⟩ := slice_form d91
    exact (op_plain Θ_ok ⟨hN, hds, rows_get (E := [(28, (.int .u64 z55.fPid)), (36, (.slice A92 y84.length c93))]) ⟨(hd 3 rfl _ _ rfl rfl), e90, trivial⟩⟩ rfl rfl rfl rfl rfl).weaken (fun u w3 ⟨hu, hf⟩ => by subst hu; exact ⟨((tGBox_is (x := (GBox.mk z55.fPid y84))).2 ⟨_, rfl, d91⟩).tr hf.tr0, hf⟩)
  · intro a w2 hfr hN hds hb hd
    have d96 : tGBox.is (b70 :: O57) w2 (a.tmps.getD 37 undef) ((GBox.mk z55.fPid y84)) := hd 12 rfl _ _ rfl rfl
    obtain ⟨u94, e95⟩ : ∃ v, a.tmps.getD 37 undef = v := ⟨_, rfl⟩
    rw [e95] at d96
    obtain ⟨v97, rfl, h98⟩ := tGBox_is.1 d96
    exact op_lit Θ_ok ⟨hN, hds, rows_get (E := [(37, (.agg #[(.int .u64 (((GBox.mk z55.fPid y84)).fPid)), v97]))]) ⟨e95, trivial⟩⟩ rfl rfl rfl rfl rfl rfl rfl rfl rfl (T := tGBox) (xs := [(GBox.mk z55.fPid y84)]) (vs := [(.agg #[(.int .u64 (((GBox.mk z55.fPid y84)).fPid)), v97])]) rfl ⟨((tGBox_is (x := (GBox.mk z55.fPid y84))).2 ⟨_, rfl, h98⟩), trivial⟩ rfl rfl rfl (hfr.ob hO)
  intro a w100 f99 hN hds hb hr
  have h0_2 := h0_2.tr f99.tr0
  have h50 := h50.tr f99.tr0
  have hb5 := hb5.fr0 f99
  have hb22 := hb22.fr0 f99
  have h52 := h52.fr0 f99
  have T27 := T27.trans f99.tr0
  have T47 := T47.trans f99.tr0
  have hO := f99.ob hO
  have hF := hF.trans f99
  have h103 : (Ty.slice tGBox).is (b70 :: O57) w100 (a.tmps.getD 38 undef) (([(GBox.mk z55.fPid y84)] : List GBox)) := hr 13 _ _ rfl rfl
  obtain ⟨v101, e102⟩ : ∃ v, a.tmps.getD 38 undef = v := ⟨_, rfl⟩
  rw [e102] at h103
  refine wo_go (E := [(2, (bp b5)), (3, (bp b22)), (16, (.slice A45 x0.fBoxes.length c46)), (17, (.int .i64 (x0.fBoxes.length : Int))), (18, (.int .i64 (i53 : Int))), (26, (.slice A80 p48.fBoxes.length c81)), (38, v101)]) (l := [14, 15, 16]) hN hds ⟨hb 2 _ rfl rfl, hb 3 _ rfl rfl, hb 16 _ rfl rfl, hb 17 _ rfl rfl, hb 18 _ rfl rfl, (hr 1 _ _ rfl rfl), e102, trivial⟩ rfl ?_
  obtain ⟨z104, hz105, h⟩ := bind_some h
  refine wo_app Θ_ok rfl rfl rfl rfl rfl rfl rfl rfl rfl rfl rfl rfl rfl rfl hF hO h52 h103 hz105 (fun v106 w107 O108 ap109 => ?_)
  have h0_2 := h0_2.tr ap109.tr
  have h50 := h50.tr ap109.tr
  have T27 := T27.trans ap109.tr
  have T47 := T47.trans ap109.tr
  have qh110b5 := ap109.ne _ hb5.lt qh52b5
  have hb5 := ap109.blk hb5 qh52b5
  have ib5 := ap109.sub _ ib5
  have qh110b22 := ap109.ne _ hb22.lt qh52b22
  have hb22 := ap109.blk hb22 qh52b22
  have ib22 := ap109.sub _ ib22
  have hF := ap109.fr0 h52 hF
  have hS := Sub.trans hS ap109.sub
  have hO := ap109.ob
  have h110 := ap109.own
  refine wo_seg Θ_ok [15] [(2, (bp b5)), (3, (bp b22)), (16, (.slice A45 x0.fBoxes.length c46)), (17, (.int .i64 (x0.fBoxes.length : Int))), (18, (.int .i64 (i53 : Int))), (39, v106), (40, (.pointer (some ⟨b22, 1, none⟩)))] rfl ⟨rfl, rfl, rfl, rfl, rfl, rfl, rfl, trivial⟩ ?_
  obtain ⟨A111, c112, rfl, hlc112, hmc112⟩ := h110.form
  refine wo_store Θ_ok rfl rfl rfl rfl rfl rfl rfl hb22 [(.slice A111 z104.length c112)] rfl rfl (by simp [Value.oneCell']) rfl [(.slice A78 p48.fNames.length c79), (.slice A111 z104.length c112)] rfl (fun w113 hb22 f114 => ?_)
  have h0_2 := h0_2.tr (f114.tr (one_in ib22))
  have h50 := h50.tr (f114.tr (one_in ib22))
  have T27 := T27.trans (f114.tr (one_in ib22))
  have T47 := T47.trans (f114.tr (one_in ib22))
  have hb5 := hb5.fr f114 (nin nb22b5.symm)
  have h110 := h110.st f114 ib22 qh110b22
  have hO := f114.ob hO
  have hF := hF.own f114 gb22
  refine wo_nil ?_
  refine wq_block (wq_seq ?_)
  refine wc_region (l := [0, 1]) rfl ?_
  refine wo_seg Θ_ok [0, 1] [(2, (bp b5)), (3, (bp b22)), (16, (.slice A45 x0.fBoxes.length c46)), (17, (.int .i64 (x0.fBoxes.length : Int))), (18, (.int .i64 (IntKind.i64.wrap ((i53 : Int) + (1 : Int)))))] rfl ⟨rfl, rfl, rfl, rfl, rfl, trivial⟩ ?_
  refine wo_nil ?_
  exact wq_next rest54.length [(2, (bp b5)), (3, (bp b22)), (16, (.slice A45 x0.fBoxes.length c46)), (17, (.int .i64 (x0.fBoxes.length : Int))), (18, (.int .i64 ((i53 + 1 : Nat) : Int)))] (Nat.lt_succ_self _) ⟨rfl, rfl, rfl, rfl, congrArg (fun z => some (Value.int .i64 z)) (wrap_succ hl63 (Nat.le_trans hlc46 hmc46)), trivial⟩ ⟨rest54, i53 + 1, O108, (GIpc.mk p48.fNames z104), (.slice A78 p48.fNames.length c79), (.slice A111 z104.length c112), rfl, hd56, rfl, T47, hO, hS, hF, ib5, hb5, ib22, hb22, h110, qh110b5, qh110b22, h50, h⟩
set_option maxRecDepth 100000 in
set_option maxHeartbeats 4000000 in
theorem isNaN_u_c {O : List Nat} {w : World} (hO : OB O w) {v0 : Value} {x0 : Int} (h0 : (Ty.int .u64).is O w v0 x0) : Calls Try.prog 61 #[v0] w (Gives (rt1 Ty.bool) O w (isNaN_u x0)) := by
  obtain rfl := int_is.1 h0
  have hF := Fr.refl [] w
  have hO0 := hO
  have hS := Sub.refl O
  obtain ⟨r, h⟩ : ∃ r, isNaN_u x0 = r := ⟨_, rfl⟩
  rw [h]
  refine calls_of (args := [(.int .u64 x0)]) (N := 6) Try.func61 rfl rfl rfl ?_
  unfold isNaN_u at h
  refine wc_seq ?_
  refine wc_region (l := [0]) rfl ?_
  refine wo_seg Θ_ok [0] [(0, (.int .u64 x0))] rfl ⟨rfl, trivial⟩ ?_
  refine wo_nil ?_
  refine wq_seq ?_
  refine wc_seq ?_
  refine wc_region (l := [0, 1, 2, 3]) rfl ?_
  refine wo_seg Θ_ok [0, 1, 2, 3] [(2, (.bool (x0 != x0)))] rfl ⟨rfl, trivial⟩ ?_
  refine wo_nil ?_
  refine wq_seq ?_
  refine wc_ret ?_
  subst h
  exact wq_ret rfl ⟨_, rfl, (bool_is.2 rfl), hF⟩
set_option maxRecDepth 100000 in
set_option maxHeartbeats 4000000 in
theorem cmp_u_c {O : List Nat} {w : World} (hO : OB O w) {v0 : Value} {x0 : Int} (h0 : (Ty.int .u64).is O w v0 x0) {v1 : Value} {x1 : Int} (h1 : (Ty.int .u64).is O w v1 x1) : Calls Try.prog 53 #[v0, v1] w (Gives (rt1 (Ty.int .i64)) O w (cmp_u x0 x1)) := by
  obtain rfl := int_is.1 h0
  obtain rfl := int_is.1 h1
  have hF := Fr.refl [] w
  have hO0 := hO
  have hS := Sub.refl O
  obtain ⟨r, h⟩ : ∃ r, cmp_u x0 x1 = r := ⟨_, rfl⟩
  rw [h]
  refine calls_of (args := [(.int .u64 x0), (.int .u64 x1)]) (N := 20) Try.func53 rfl rfl rfl ?_
  unfold cmp_u at h
  refine wc_seq ?_
  refine wc_region (l := [0]) rfl ?_
  refine wo_seg Θ_ok [0] [(0, (.int .u64 x0)), (1, (.int .u64 x1))] rfl ⟨rfl, rfl, trivial⟩ ?_
  refine wo_nil ?_
  refine wq_seq ?_
  refine wc_seq ?_
  refine wc_region (l := [0, 1, 2]) rfl ?_
  refine wo_seg Θ_ok [0] [(0, (.int .u64 x0)), (1, (.int .u64 x1)), (7, (.int .u64 x0))] rfl ⟨rfl, rfl, rfl, trivial⟩ ?_
  refine wo_gives rfl rfl rfl rfl rfl ent61 rfl (isNaN_u_c hO (int_is.2 rfl)) (fun v3 w4 h5 f6 => ?_)
  have hO := f6.ob hO
  have hF := hF.trans f6
  obtain rfl := bool_is.1 h5
  refine wo_seg Θ_ok [2] [(0, (.int .u64 x0)), (1, (.int .u64 x1)), (5, (.bool ((isNaN_u x0))))] rfl ⟨rfl, rfl, rfl, trivial⟩ ?_
  refine wo_nil ?_
  refine wq_seq ?_
  refine wc_seq ?_
  refine wc_region (l := [0, 1, 2]) rfl ?_
  refine wo_seg Θ_ok [0] [(0, (.int .u64 x0)), (1, (.int .u64 x1)), (5, (.bool ((isNaN_u x0)))), (9, (.int .u64 x1))] rfl ⟨rfl, rfl, rfl, rfl, trivial⟩ ?_
  refine wo_gives rfl rfl rfl rfl rfl ent61 rfl (isNaN_u_c hO (int_is.2 rfl)) (fun v7 w8 h9 f10 => ?_)
  have hO := f10.ob hO
  have hF := hF.trans f10
  obtain rfl := bool_is.1 h9
  refine wo_seg Θ_ok [2] [(0, (.int .u64 x0)), (1, (.int .u64 x1)), (5, (.bool ((isNaN_u x0)))), (6, (.bool ((isNaN_u x1))))] rfl ⟨rfl, rfl, rfl, rfl, trivial⟩ ?_
  refine wo_nil ?_
  refine wq_seq ?_
  refine wc_seq ?_
  refine wc_seq ?_
  refine wc_region (l := [0]) rfl ?_
  refine wo_seg Θ_ok [0] [(0, (.int .u64 x0)), (1, (.int .u64 x1)), (6, (.bool ((isNaN_u x1)))), (11, (.bool ((isNaN_u x0))))] rfl ⟨rfl, rfl, rfl, rfl, trivial⟩ ?_
  refine wo_nil ?_
  refine wq_seq ?_
  rcases bif_some h with ⟨hc11, h⟩ | ⟨hc11, h⟩
  · refine wc_known_true rfl hc11 ?_
    refine wc_seq ?_
    refine wc_seq ?_
    refine wc_region (l := [0]) rfl ?_
    refine wo_seg Θ_ok [0] [(12, (.bool ((isNaN_u x1))))] rfl ⟨rfl, trivial⟩ ?_
    refine wo_nil ?_
    refine wq_seq ?_
    rcases bif_some h with ⟨hc12, h⟩ | ⟨hc12, h⟩
    · refine wc_known_true rfl hc12 ?_
      refine wc_seq ?_
      refine wc_region (l := [0]) rfl ?_
      refine wo_seg Θ_ok [0] [(4, (.int .i64 0))] rfl ⟨rfl, trivial⟩ ?_
      refine wo_nil ?_
      refine wq_seq ?_
      refine wc_ret ?_
      subst h
      exact wq_then_ret (wq_then_ret (wq_ret rfl ⟨_, rfl, (int_is.2 rfl), hF⟩))
    refine wc_known_false rfl hc12 ?_
    refine wc_skip ?_
    refine wq_seq ?_
    refine wc_seq ?_
    refine wc_region (l := [0]) rfl ?_
    refine wo_seg Θ_ok [0] [(4, (.int .i64 (-1)))] rfl ⟨rfl, trivial⟩ ?_
    refine wo_nil ?_
    refine wq_seq ?_
    refine wc_ret ?_
    subst h
    exact wq_then_ret (wq_ret rfl ⟨_, rfl, (int_is.2 rfl), hF⟩)
  refine wc_known_false rfl hc11 ?_
  refine wc_skip ?_
  refine wq_seq ?_
  refine wc_seq ?_
  refine wc_seq ?_
  refine wc_region (l := [0]) rfl ?_
  refine wo_seg Θ_ok [0] [(0, (.int .u64 x0)), (1, (.int .u64 x1)), (13, (.bool ((isNaN_u x1))))] rfl ⟨rfl, rfl, rfl, trivial⟩ ?_
  refine wo_nil ?_
  refine wq_seq ?_
  rcases bif_some h with ⟨hc13, h⟩ | ⟨hc13, h⟩
  · refine wc_known_true rfl hc13 ?_
    refine wc_seq ?_
    refine wc_region (l := [0]) rfl ?_
    refine wo_seg Θ_ok [0] [(4, (.int .i64 1))] rfl ⟨rfl, trivial⟩ ?_
    refine wo_nil ?_
    refine wq_seq ?_
    refine wc_ret ?_
    subst h
    exact wq_then_ret (wq_ret rfl ⟨_, rfl, (int_is.2 rfl), hF⟩)
  refine wc_known_false rfl hc13 ?_
  refine wc_skip ?_
  refine wq_seq ?_
  refine wc_seq ?_
  refine wc_seq ?_
  refine wc_region (l := [0, 1, 2]) rfl ?_
  refine wo_seg Θ_ok [0, 1, 2] [(0, (.int .u64 x0)), (1, (.int .u64 x1)), (16, (.bool (decide (x0 < x1))))] rfl ⟨rfl, rfl, rfl, trivial⟩ ?_
  refine wo_nil ?_
  refine wq_seq ?_
  rcases bif_some h with ⟨hc14, h⟩ | ⟨hc14, h⟩
  · refine wc_known_true rfl hc14 ?_
    refine wc_seq ?_
    refine wc_region (l := [0]) rfl ?_
    refine wo_seg Θ_ok [0] [(4, (.int .i64 (-1)))] rfl ⟨rfl, trivial⟩ ?_
    refine wo_nil ?_
    refine wq_seq ?_
    refine wc_ret ?_
    subst h
    exact wq_then_ret (wq_ret rfl ⟨_, rfl, (int_is.2 rfl), hF⟩)
  refine wc_known_false rfl hc14 ?_
  refine wc_skip ?_
  refine wq_seq ?_
  refine wc_seq ?_
  refine wc_seq ?_
  refine wc_region (l := [0, 1, 2]) rfl ?_
  refine wo_seg Θ_ok [0, 1, 2] [(19, (.bool (decide (x0 > x1))))] rfl ⟨rfl, trivial⟩ ?_
  refine wo_nil ?_
  refine wq_seq ?_
  rcases bif_some h with ⟨hc15, h⟩ | ⟨hc15, h⟩
  · refine wc_known_true rfl hc15 ?_
    refine wc_seq ?_
    refine wc_region (l := [0]) rfl ?_
    refine wo_seg Θ_ok [0] [(4, (.int .i64 1))] rfl ⟨rfl, trivial⟩ ?_
    refine wo_nil ?_
    refine wq_seq ?_
    refine wc_ret ?_
    subst h
    exact wq_then_ret (wq_ret rfl ⟨_, rfl, (int_is.2 rfl), hF⟩)
  refine wc_known_false rfl hc15 ?_
  refine wc_skip ?_
  refine wq_seq ?_
  refine wc_seq ?_
  refine wc_region (l := [0]) rfl ?_
  refine wo_seg Θ_ok [0] [(4, (.int .i64 0))] rfl ⟨rfl, trivial⟩ ?_
  refine wo_nil ?_
  refine wq_seq ?_
  refine wc_ret ?_
  subst h
  exact wq_ret rfl ⟨_, rfl, (int_is.2 rfl), hF⟩
set_option maxRecDepth 100000 in
set_option maxHeartbeats 4000000 in
theorem i_find1_c {O : List Nat} {w : World} (hO : OB O w) {v0 : Value} {x0 : GName} (h0 : tGName.is O w v0 x0) {v1 : Value} {x1 : Int} (h1 : (Ty.int .u64).is O w v1 x1) {cv0 : Value} {ck0 : GName → Option (Int)} (ch0 : (Ty.ptr (Ty.fn1 Try.prog tGName (rt1 (Ty.int .u64)))).is O w cv0 ck0) {r : Int} (h : i_find1 x0 x1 ck0 = some r) : Calls Try.prog 52 #[v0, v1, cv0] w (Gives (rt1 (Ty.int .i64)) O w r) := by
  obtain rfl := tGName_is.1 h0
  obtain rfl := int_is.1 h1
  have hF := Fr.refl [] w
  have hO0 := hO
  have hS := Sub.refl O
  refine calls_of (args := [(.agg #[(.int .u64 x0.fName), (.int .u64 x0.fPid)]), (.int .u64 x1), cv0]) (N := 11) Try.func52 rfl rfl rfl ?_
  unfold i_find1 at h
  refine wc_seq ?_
  refine wc_region (l := [0, 1]) rfl ?_
  refine wo_box rfl rfl rfl rfl rfl rfl [(.int .u64 x0.fName), (.int .u64 x0.fPid)] rfl hO (fun b3 w4 n5 => ?_)
  have ch0 := ch0.tr n5.tr
  have hb3 := n5.blk
  have gb3 := n5.ge0 hF
  have ib3 : b3 ∈ b3 :: O := List.mem_cons_self
  have hO := n5.ob
  have hF := hF.trans n5.fr
  have hS := Sub.cons hS b3
  refine wo_seg Θ_ok [1] [(1, (.int .u64 x1)), (2, cv0), (3, (bp b3))] rfl ⟨rfl, rfl, rfl, trivial⟩ ?_
  refine wo_nil ?_
  refine wq_seq ?_
  refine wc_seq ?_
  refine wc_region (l := [0, 1, 2, 3, 4, 5]) rfl ?_
  refine wo_loadp Θ_ok rfl rfl rfl rfl rfl rfl rfl ch0 rfl rfl (fun v6 h7 => ?_)
  refine wo_load Θ_ok rfl rfl rfl rfl rfl rfl rfl hb3 [(.int .u64 x0.fName), (.int .u64 x0.fPid)] rfl rfl (.inl rfl) (.agg #[(.int .u64 x0.fName), (.int .u64 x0.fPid)]) rfl ?_
  obtain ⟨y8, hy9, h⟩ := bind_some h
  refine wo_dyn1 rfl rfl rfl rfl rfl rfl rfl h7 hO ((tGName_is (x := x0)).2 rfl) hy9 (fun v10 w11 h12 f13 => ?_)
  have hO := f13.ob hO
  have hF := hF.trans f13
  obtain rfl := int_is.1 h12
  refine wo_seg Θ_ok [3] [(8, (.int .u64 y8)), (9, (.int .u64 x1))] rfl ⟨rfl, rfl, trivial⟩ ?_
  refine wo_gives rfl rfl rfl rfl rfl ent53 rfl (cmp_u_c hO (int_is.2 rfl) (int_is.2 rfl)) (fun v14 w15 h16 f17 => ?_)
  have hO := f17.ob hO
  have hF := hF.trans f17
  obtain rfl := int_is.1 h16
  refine wo_seg Θ_ok [5] [(5, (.int .i64 (cmp_u y8 x1)))] rfl ⟨rfl, trivial⟩ ?_
  refine wo_nil ?_
  refine wq_seq ?_
  refine wc_ret ?_
  cases h
  exact wq_ret rfl ⟨_, rfl, (int_is.2 rfl), hF⟩
set_option maxRecDepth 100000 in
set_option maxHeartbeats 4000000 in
theorem s_BinN_c {O : List Nat} {w : World} (hO : OB O w) {fuel : Nat} {v0 : Value} {x0 : List GName} (h0 : (Ty.slice tGName).is O w v0 x0) {v1 : Value} {x1 : Int} (h1 : (Ty.int .u64).is O w v1 x1) {v2 : Value} {x2 : GName → Int → Option (Int)} (h2 : (Ty.fn2 Try.prog tGName (Ty.int .u64) (rt1 (Ty.int .i64))).is O w v2 x2) {r : Int × Bool} (h : s_BinN fuel x0 x1 x2 = some r) : Calls Try.prog 51 #[v0, v1, v2] w (Gives (rt2 (Ty.int .i64) Ty.bool) O w r) := by
  obtain rfl := int_is.1 h1
  have hF := Fr.refl [] w
  have hO0 := hO
  have hS := Sub.refl O
  refine calls_of (args := [v0, (.int .u64 x1), v2]) (N := 49) Try.func51 rfl rfl rfl ?_
  unfold s_BinN at h
  refine wc_seq ?_
  refine wc_region (l := [0, 1]) rfl ?_
  refine wo_seg Θ_ok [0, 1] [(0, v0), (1, (.int .u64 x1)), (2, v2)] rfl ⟨rfl, rfl, rfl, trivial⟩ ?_
  refine wo_nil ?_
  refine wq_seq ?_
  refine wc_seq ?_
  refine wc_region (l := [0, 1, 2]) rfl ?_
  refine wo_seg Θ_ok [0] [(0, v0), (1, (.int .u64 x1)), (2, v2), (12, v0)] rfl ⟨rfl, rfl, rfl, rfl, trivial⟩ ?_
  obtain ⟨A4, c5, rfl, hlc5, hmc5⟩ := slice_form h0
  refine wo_seg Θ_ok [1] [(0, (.slice A4 x0.length c5)), (1, (.int .u64 x1)), (2, v2), (13, (.int .i64 (x0.length : Int)))] rfl ⟨rfl, rfl, rfl, rfl, trivial⟩ ?_
  refine wo_seg Θ_ok [2] [(0, (.slice A4 x0.length c5)), (1, (.int .u64 x1)), (2, v2), (8, (.int .i64 (x0.length : Int)))] rfl ⟨rfl, rfl, rfl, rfl, trivial⟩ ?_
  refine wo_nil ?_
  refine wq_seq ?_
  refine wc_seq ?_
  refine wc_region (l := [0, 1, 2]) rfl ?_
  refine wo_seg Θ_ok [0, 1, 2] [(0, (.slice A4 x0.length c5)), (1, (.int .u64 x1)), (2, v2), (8, (.int .i64 (x0.length : Int))), (9, (.int .i64 0)), (10, (.int .i64 (x0.length : Int)))] rfl ⟨rfl, rfl, rfl, rfl, rfl, rfl, trivial⟩ ?_
  refine wo_nil ?_
  refine wq_seq ?_
  obtain ⟨k7, hk8, h⟩ := letk_some h
  refine wc_join (fun E W => ∃ (O12 : List Nat) (p11 : Int), E = [(0, (.slice A4 x0.length c5)), (1, (.int .u64 x1)), (2, v2), (8, (.int .i64 (x0.length : Int))), (9, (.int .i64 p11))] ∧ Tr O w O12 W ∧ OB O12 W ∧ Sub O O12 ∧ Fr [] w W ∧ k7 p11 = some r) ?_ (fun K9 hK10 => ?_)
  · rintro E w13 ⟨O12, p11, rfl, T6, hO, hS, hF, h⟩
    have h0 := h0.tr T6
    have h2 := h2.tr T6
    subst hk8
    (try dsimp only at h)
    refine wc_seq ?_
    refine wc_region (l := [0, 1, 2, 3, 4, 5, 6, 7, 8, 9, 10, 11, 12, 13, 14, 15]) rfl ?_
    refine wo_seg Θ_ok [0, 1, 2, 3, 4] [(0, (.slice A4 x0.length c5)), (1, (.int .u64 x1)), (2, v2), (9, (.int .i64 p11)), (35, (.int .i64 p11)), (39, (.bool (decide (p11 < (x0.length : Int)))))] rfl ⟨rfl, rfl, rfl, rfl, rfl, rfl, trivial⟩ ?_
    rcases bif_some h with ⟨hc14, h⟩ | ⟨hc14, h⟩
    rotate_left
    · refine wo_know 39 false rfl hc14 ?_
      refine wo_seg Θ_ok [5, 6, 7, 8, 9, 10, 11, 12, 13, 14, 15] [(6, (.int .i64 p11)), (7, (.bool false))] rfl ⟨rfl, rfl, trivial⟩ ?_
      refine wo_nil ?_
      refine wq_seq ?_
      refine wc_ret ?_
      cases h
      exact wq_ret rfl ⟨_, rfl, ⟨_, _, rfl, (int_is.2 rfl), (bool_is.2 rfl)⟩, hF⟩
    refine wo_know 39 true rfl hc14 ?_
    refine wo_seg Θ_ok [5, 6, 7] [(1, (.int .u64 x1)), (35, (.int .i64 p11)), (39, (.bool true)), (40, v2), (41, (.slice A4 x0.length c5)), (42, (.int .i64 p11))] rfl ⟨rfl, rfl, rfl, rfl, rfl, rfl, trivial⟩ ?_
    obtain ⟨y17, hz18, h⟩ := bind_some h
    refine wo_index Θ_ok rfl rfl rfl rfl rfl rfl rfl rfl rfl rfl h0 rfl (idx_some hz18).1 (idx_some hz18).2 (fun p15 h16 => ?_)
    refine wo_loadp Θ_ok rfl rfl rfl rfl rfl rfl rfl h16 rfl rfl (fun v19 h20 => ?_)
    obtain rfl := tGName_is.1 h20
    refine wo_seg Θ_ok [10] [(35, (.int .i64 p11)), (39, (.bool true)), (40, v2), (44, (.agg #[(.int .u64 y17.fName), (.int .u64 y17.fPid)])), (45, (.int .u64 x1))] rfl ⟨rfl, rfl, rfl, rfl, rfl, trivial⟩ ?_
    obtain ⟨y21, hy22, h⟩ := bind_some h
    refine wo_dyn2 rfl rfl rfl rfl rfl rfl rfl h2 hO ((tGName_is (x := y17)).2 rfl) (int_is.2 rfl) hy22 (fun v23 w24 h25 f26 => ?_)
    have hO := f26.ob hO
    have hF := hF.trans f26
    obtain rfl := int_is.1 h25
    refine wo_seg Θ_ok [12, 13, 14, 15] [(6, (.int .i64 p11)), (7, (.bool (y21 == (0 : Int))))] rfl ⟨rfl, rfl, trivial⟩ ?_
    refine wo_nil ?_
    refine wq_seq ?_
    refine wc_ret ?_
    cases h
    exact wq_ret rfl ⟨_, rfl, ⟨_, _, rfl, (int_is.2 rfl), (bool_is.2 rfl)⟩, hF⟩
  clear hk8
  have T6 := Tr.refl O w
  refine wc_block ?_
  refine wc_loop (fun m E W => ∃ (fl30 : Nat) (O31 : List Nat) (p28 : Int) (p29 : Int), fl30 = m ∧ E = [(0, (.slice A4 x0.length c5)), (1, (.int .u64 x1)), (2, v2), (8, (.int .i64 (x0.length : Int))), (9, (.int .i64 p28)), (10, (.int .i64 p29))] ∧ Tr O w O31 W ∧ OB O31 W ∧ Sub O O31 ∧ Fr [] w W ∧ s_BinN_l1 x0 x1 x2 k7 fl30 p28 p29 = some r) _ [(0, (.slice A4 x0.length c5)), (1, (.int .u64 x1)), (2, v2), (8, (.int .i64 (x0.length : Int))), (9, (.int .i64 0)), (10, (.int .i64 (x0.length : Int)))] ⟨rfl, rfl, rfl, rfl, rfl, rfl, trivial⟩ ⟨fuel, O, (0 : Int), (x0.length : Int), rfl, rfl, Tr.refl _ _, hO, hS, hF, h⟩ ?_
  rintro m E w32 ⟨fl30, O31, p28, p29, rfl, rfl, T27, hO, hS, hF, h⟩
  have T6 := T6.trans T27
  have h0 := h0.tr T27
  have h2 := h2.tr T27
  rcases fl30 with _ | fl30
  · rw [s_BinN_l1] at h
    cases h
  rw [s_BinN_l1] at h
  refine wc_seq ?_
  refine wc_seq ?_
  refine wc_region (l := [0, 1, 2]) rfl ?_
  refine wo_seg Θ_ok [0, 1, 2] [(0, (.slice A4 x0.length c5)), (1, (.int .u64 x1)), (2, v2), (8, (.int .i64 (x0.length : Int))), (9, (.int .i64 p28)), (10, (.int .i64 p29)), (17, (.bool (decide (p28 < p29))))] rfl ⟨rfl, rfl, rfl, rfl, rfl, rfl, rfl, trivial⟩ ?_
  refine wo_nil ?_
  refine wq_seq ?_
  rcases bif_some h with ⟨hc33, h⟩ | ⟨hc33, h⟩
  rotate_left
  · refine wc_known_false rfl hc33 ?_
    refine wc_exit ?_
    exact wq_then_exit (wq_then_exit (wq_block_exit (wq_join hK10 [(0, (.slice A4 x0.length c5)), (1, (.int .u64 x1)), (2, v2), (8, (.int .i64 (x0.length : Int))), (9, (.int .i64 p28))] ⟨rfl, rfl, rfl, rfl, rfl, trivial⟩ ⟨O31, p28, rfl, T6, hO, hS, hF, h⟩)))
  refine wc_known_true rfl hc33 ?_
  refine wc_skip ?_
  refine wq_seq ?_
  refine wc_block ?_
  refine wc_seq ?_
  refine wc_region (l := [0, 1, 2, 3, 4, 5, 6]) rfl ?_
  refine wo_seg Θ_ok [0, 1, 2, 3, 4, 5, 6] [(0, (.slice A4 x0.length c5)), (1, (.int .u64 x1)), (2, v2), (8, (.int .i64 (x0.length : Int))), (9, (.int .i64 p28)), (10, (.int .i64 p29)), (11, (.int .i64 (IntKind.i64.wrap ((IntKind.u64.wrap (IntKind.i64.wrap (p28 + p29))).fdiv (2 ^ 1)))))] rfl ⟨rfl, rfl, rfl, rfl, rfl, rfl, rfl, trivial⟩ ?_
  refine wo_nil ?_
  refine wq_seq ?_
  refine wc_seq ?_
  refine wc_region (l := [0, 1, 2, 3, 4, 5, 6, 7]) rfl ?_
  refine wo_seg Θ_ok [0, 1, 2] [(0, (.slice A4 x0.length c5)), (1, (.int .u64 x1)), (2, v2), (8, (.int .i64 (x0.length : Int))), (9, (.int .i64 p28)), (10, (.int .i64 p29)), (11, (.int .i64 (IntKind.i64.wrap ((IntKind.u64.wrap (IntKind.i64.wrap (p28 + p29))).fdiv (2 ^ 1))))), (24, v2), (25, (.slice A4 x0.length c5)), (26, (.int .i64 (IntKind.i64.wrap ((IntKind.u64.wrap (IntKind.i64.wrap (p28 + p29))).fdiv (2 ^ 1)))))] rfl ⟨rfl, rfl, rfl, rfl, rfl, rfl, rfl, rfl, rfl, rfl, trivial⟩ ?_
  obtain ⟨y36, hz37, h⟩ := bind_some h
  refine wo_index Θ_ok rfl rfl rfl rfl rfl rfl rfl rfl rfl rfl h0 rfl (idx_some hz37).1 (idx_some hz37).2 (fun p34 h35 => ?_)
  refine wo_loadp Θ_ok rfl rfl rfl rfl rfl rfl rfl h35 rfl rfl (fun v38 h39 => ?_)
  obtain rfl := tGName_is.1 h39
  refine wo_seg Θ_ok [5] [(0, (.slice A4 x0.length c5)), (1, (.int .u64 x1)), (2, v2), (8, (.int .i64 (x0.length : Int))), (9, (.int .i64 p28)), (10, (.int .i64 p29)), (11, (.int .i64 (IntKind.i64.wrap ((IntKind.u64.wrap (IntKind.i64.wrap (p28 + p29))).fdiv (2 ^ 1))))), (24, v2), (28, (.agg #[(.int .u64 y36.fName), (.int .u64 y36.fPid)])), (29, (.int .u64 x1))] rfl ⟨rfl, rfl, rfl, rfl, rfl, rfl, rfl, rfl, rfl, rfl, trivial⟩ ?_
  obtain ⟨y40, hy41, h⟩ := bind_some h
  refine wo_dyn2 rfl rfl rfl rfl rfl rfl rfl h2 hO ((tGName_is (x := y36)).2 rfl) (int_is.2 rfl) hy41 (fun v42 w43 h44 f45 => ?_)
  have h0 := h0.tr f45.tr0
  have h2 := h2.tr f45.tr0
  have T6 := T6.trans f45.tr0
  have T27 := T27.trans f45.tr0
  have hO := f45.ob hO
  have hF := hF.trans f45
  obtain rfl := int_is.1 h44
  refine wo_seg Θ_ok [7] [(0, (.slice A4 x0.length c5)), (1, (.int .u64 x1)), (2, v2), (8, (.int .i64 (x0.length : Int))), (9, (.int .i64 p28)), (10, (.int .i64 p29)), (11, (.int .i64 (IntKind.i64.wrap ((IntKind.u64.wrap (IntKind.i64.wrap (p28 + p29))).fdiv (2 ^ 1))))), (31, (.bool (decide (y40 < (0 : Int)))))] rfl ⟨rfl, rfl, rfl, rfl, rfl, rfl, rfl, rfl, trivial⟩ ?_
  refine wo_nil ?_
  refine wq_seq ?_
  rcases bif_some h with ⟨hc46, h⟩ | ⟨hc46, h⟩
  · refine wc_known_true rfl hc46 ?_
    refine wc_region (l := [0, 1, 2]) rfl ?_
    refine wo_seg Θ_ok [0, 1, 2] [(0, (.slice A4 x0.length c5)), (1, (.int .u64 x1)), (2, v2), (8, (.int .i64 (x0.length : Int))), (9, (.int .i64 (IntKind.i64.wrap ((IntKind.i64.wrap ((IntKind.u64.wrap (IntKind.i64.wrap (p28 + p29))).fdiv (2 ^ 1))) + (1 : Int))))), (10, (.int .i64 p29))] rfl ⟨rfl, rfl, rfl, rfl, rfl, rfl, trivial⟩ ?_
    refine wo_nil ?_
    exact wq_block (wq_next fl30 [(0, (.slice A4 x0.length c5)), (1, (.int .u64 x1)), (2, v2), (8, (.int .i64 (x0.length : Int))), (9, (.int .i64 (IntKind.i64.wrap ((IntKind.i64.wrap ((IntKind.u64.wrap (IntKind.i64.wrap (p28 + p29))).fdiv (2 ^ 1))) + (1 : Int))))), (10, (.int .i64 p29))] (Nat.lt_succ_self _) ⟨rfl, rfl, rfl, rfl, rfl, rfl, trivial⟩ ⟨fl30, O31, (IntKind.i64.wrap ((IntKind.i64.wrap ((IntKind.u64.wrap (IntKind.i64.wrap (p28 + p29))).fdiv (2 ^ 1))) + (1 : Int))), p29, rfl, rfl, T27, hO, hS, hF, h⟩)
  refine wc_known_false rfl hc46 ?_
  refine wc_region (l := [0, 1]) rfl ?_
  refine wo_seg Θ_ok [0, 1] [(0, (.slice A4 x0.length c5)), (1, (.int .u64 x1)), (2, v2), (8, (.int .i64 (x0.length : Int))), (9, (.int .i64 p28)), (10, (.int .i64 (IntKind.i64.wrap ((IntKind.u64.wrap (IntKind.i64.wrap (p28 + p29))).fdiv (2 ^ 1)))))] rfl ⟨rfl, rfl, rfl, rfl, rfl, rfl, trivial⟩ ?_
  refine wo_nil ?_
  exact wq_block (wq_next fl30 [(0, (.slice A4 x0.length c5)), (1, (.int .u64 x1)), (2, v2), (8, (.int .i64 (x0.length : Int))), (9, (.int .i64 p28)), (10, (.int .i64 (IntKind.i64.wrap ((IntKind.u64.wrap (IntKind.i64.wrap (p28 + p29))).fdiv (2 ^ 1)))))] (Nat.lt_succ_self _) ⟨rfl, rfl, rfl, rfl, rfl, rfl, trivial⟩ ⟨fl30, O31, p28, (IntKind.i64.wrap ((IntKind.u64.wrap (IntKind.i64.wrap (p28 + p29))).fdiv (2 ^ 1))), rfl, rfl, T27, hO, hS, hF, h⟩)
set_option maxRecDepth 100000 in
set_option maxHeartbeats 4000000 in
theorem i_findN_c {O : List Nat} {w : World} (hO : OB O w) {fuel : Nat} {v0 : Value} {x0 : List GName} (h0 : (Ty.slice tGName).is O w v0 x0) {v1 : Value} {x1 : Int} (h1 : (Ty.int .u64).is O w v1 x1) {v2 : Value} {x2 : GName → Option (Int)} (h2 : (Ty.fn1 Try.prog tGName (rt1 (Ty.int .u64))).is O w v2 x2) {r : Int × Bool} (h : i_findN fuel x0 x1 x2 = some r) : Calls Try.prog 35 #[v0, v1, v2] w (Gives (rt2 (Ty.int .i64) Ty.bool) O w r) := by
  obtain rfl := int_is.1 h1
  have hF := Fr.refl [] w
  have hO0 := hO
  have hS := Sub.refl O
  refine calls_of (args := [v0, (.int .u64 x1), v2]) (N := 14) Try.func35 rfl rfl rfl ?_
  unfold i_findN at h
  refine wc_seq ?_
  refine wc_region (l := [0, 1, 2]) rfl ?_
  refine wo_box rfl rfl rfl rfl rfl rfl [v2] (cells_of rfl h2) hO (fun b4 w5 n6 => ?_)
  have h0 := h0.tr n6.tr
  have h2 := h2.tr n6.tr
  have hb4 := n6.blk
  have gb4 := n6.ge0 hF
  have ib4 : b4 ∈ b4 :: O := List.mem_cons_self
  have hO := n6.ob
  have hF := hF.trans n6.fr
  have hS := Sub.cons hS b4
  refine wo_seg Θ_ok [1, 2] [(0, v0), (1, (.int .u64 x1)), (5, (bp b4))] rfl ⟨rfl, rfl, rfl, trivial⟩ ?_
  refine wo_nil ?_
  refine wq_seq ?_
  refine wc_seq ?_
  refine wc_region (l := [0, 1, 2, 3, 4, 5, 6, 7]) rfl ?_
  refine wo_seg Θ_ok [0, 1] [(5, (bp b4)), (8, v0), (9, (.int .u64 x1))] rfl ⟨rfl, rfl, rfl, trivial⟩ ?_
  have p7 := rel_ptr (T := (Ty.fn1 Try.prog tGName (rt1 (Ty.int .u64)))) hb4 (Ty.tr _ (rel_tr b4 (b4 :: O) w5) (rep_of rfl h2))
  have h0 := h0.tr (rel_tr b4 (b4 :: O) w5)
  have h2 := h2.tr (rel_tr b4 (b4 :: O) w5)
  have hO := rel_ob (b := b4) hO
  have hS := rel_sub hS hO0 gb4
  refine wo_seg Θ_ok [2] [(8, v0), (9, (.int .u64 x1)), (10, (.func (.func 52) #[] #[(bp b4)]))] rfl ⟨rfl, rfl, rfl, trivial⟩ ?_
  obtain ⟨y12, hy13, h⟩ := bind_some h
  refine wo_gives rfl rfl rfl rfl rfl ent51 rfl (s_BinN_c hO h0 (int_is.2 rfl) (fn2_is (first := []) (cap := [(bp b4)]) ent52 (fun O' w' ht hO u0 z0 q0 u1 z1 q1 y hy => i_find1_c hO q0 q1 (p7.tr ht) hy)) hy13) (fun v8 w9 h10 f11 => ?_)
  have hO := f11.ob hO
  have hF := hF.trans f11
  obtain ⟨u14, u16, rfl, h15, h17⟩ := h10
  obtain rfl := int_is.1 h15
  obtain rfl := bool_is.1 h17
  refine wo_seg Θ_ok [4, 5, 6, 7] [(6, (.int .i64 y12.1)), (7, (.bool y12.2))] rfl ⟨rfl, rfl, trivial⟩ ?_
  refine wo_nil ?_
  refine wq_seq ?_
  refine wc_ret ?_
  cases h
  exact wq_ret rfl ⟨_, rfl, ⟨_, _, rfl, (int_is.2 rfl), (bool_is.2 rfl)⟩, hF⟩
set_option maxRecDepth 100000 in
set_option maxHeartbeats 4000000 in
theorem i_find2_c {O : List Nat} {w : World} (hO : OB O w) {v0 : Value} {x0 : GBox} (h0 : tGBox.is O w v0 x0) {v1 : Value} {x1 : Int} (h1 : (Ty.int .u64).is O w v1 x1) {cv0 : Value} {ck0 : GBox → Option (Int)} (ch0 : (Ty.ptr (Ty.fn1 Try.prog tGBox (rt1 (Ty.int .u64)))).is O w cv0 ck0) {r : Int} (h : i_find2 x0 x1 ck0 = some r) : Calls Try.prog 69 #[v0, v1, cv0] w (Gives (rt1 (Ty.int .i64)) O w r) := by
  obtain ⟨v0_1, rfl, h0_1⟩ := tGBox_is.1 h0
  obtain rfl := int_is.1 h1
  have hF := Fr.refl [] w
  have hO0 := hO
  have hS := Sub.refl O
  refine calls_of (args := [(.agg #[(.int .u64 x0.fPid), v0_1]), (.int .u64 x1), cv0]) (N := 11) Try.func69 rfl rfl rfl ?_
  unfold i_find2 at h
  refine wc_seq ?_
  refine wc_region (l := [0, 1]) rfl ?_
  refine wo_box rfl rfl rfl rfl rfl rfl [(.int .u64 x0.fPid), v0_1] rfl hO (fun b3 w4 n5 => ?_)
  have ch0 := ch0.tr n5.tr
  have h0_1 := h0_1.tr n5.tr
  have hb3 := n5.blk
  have gb3 := n5.ge0 hF
  have ib3 : b3 ∈ b3 :: O := List.mem_cons_self
  have hO := n5.ob
  have hF := hF.trans n5.fr
  have hS := Sub.cons hS b3
  refine wo_seg Θ_ok [1] [(1, (.int .u64 x1)), (2, cv0), (3, (bp b3))] rfl ⟨rfl, rfl, rfl, trivial⟩ ?_
  refine wo_nil ?_
  refine wq_seq ?_
  refine wc_seq ?_
  refine wc_region (l := [0, 1, 2, 3, 4, 5]) rfl ?_
  refine wo_loadp Θ_ok rfl rfl rfl rfl rfl rfl rfl ch0 rfl rfl (fun v6 h7 => ?_)
  refine wo_load Θ_ok rfl rfl rfl rfl rfl rfl rfl hb3 [(.int .u64 x0.fPid), v0_1] rfl rfl (.inl rfl) (.agg #[(.int .u64 x0.fPid), v0_1]) rfl ?_
  obtain ⟨y8, hy9, h⟩ := bind_some h
  refine wo_dyn1 rfl rfl rfl rfl rfl rfl rfl h7 hO ((tGBox_is (x := x0)).2 ⟨_, rfl, h0_1⟩) hy9 (fun v10 w11 h12 f13 => ?_)
  have hO := f13.ob hO
  have hF := hF.trans f13
  obtain rfl := int_is.1 h12
  refine wo_seg Θ_ok [3] [(8, (.int .u64 y8)), (9, (.int .u64 x1))] rfl ⟨rfl, rfl, trivial⟩ ?_
  refine wo_gives rfl rfl rfl rfl rfl ent53 rfl (cmp_u_c hO (int_is.2 rfl) (int_is.2 rfl)) (fun v14 w15 h16 f17 => ?_)
  have hO := f17.ob hO
  have hF := hF.trans f17
  obtain rfl := int_is.1 h16
  refine wo_seg Θ_ok [5] [(5, (.int .i64 (cmp_u y8 x1)))] rfl ⟨rfl, trivial⟩ ?_
  refine wo_nil ?_
  refine wq_seq ?_
  refine wc_ret ?_
  cases h
  exact wq_ret rfl ⟨_, rfl, (int_is.2 rfl), hF⟩
end Go.Proofs.Ytjdeaihnpgkphaa
