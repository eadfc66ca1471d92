/-
  The program's functions compute the plain ones (printed by a tool of the prover's).
-/
import Derived.Test.YtdemjanelbajlaaGWalk3
namespace Go.Proofs.Ytdemjanelbajlaa
open Go.RowKit Go.Dc Go.Shelf
set_option maxRecDepth 100000 in
set_option maxHeartbeats 4000000 in
theorem spoil_s {w0 w : World} {lo : Nat} {v : Value} {xss : List (List Int)} (h : (Ty.int .u64).slice.slice.is (List.range lo) w0 v xss) (hF0 : Fr [] w0 w) :
    Calls Try.prog 24 #[v] w (fun e w' => e = .returned (.tuple #[]) ∧ Chg lo w0.heap.size w w') := by
  obtain ⟨A, c, rfl, hlc, hmc⟩ := slice_form h
  have hS := ShII.of h hF0
  generalize xss.length = n at *
  refine calls_of (args := [.slice A n c]) (N := 24) Try.func24 rfl rfl rfl ?_
  refine wc_seq ?_
  refine wc_region (l := [0, 1, 2]) rfl ?_
  refine wo_seg Θ_ok [0, 1, 2] [(5, .slice A n c), (6, .int .i64 (n : Int)), (7, .int .i64 ((0 : Nat) : Int))] rfl ⟨rfl, rfl, rfl, trivial⟩ ?_
  refine wo_nil ?_
  refine wq_seq ?_
  refine wc_block ?_
  refine wc_loop (fun m E W => ∃ j : Nat, n - j = m ∧ j ≤ n ∧ E = [(5, .slice A n c), (6, .int .i64 (n : Int)), (7, .int .i64 (j : Int))] ∧ Chg lo w0.heap.size w W) _
    [(5, .slice A n c), (6, .int .i64 (n : Int)), (7, .int .i64 ((0 : Nat) : Int))] ⟨rfl, rfl, rfl, trivial⟩ ⟨0, rfl, Nat.zero_le _, rfl, Chg.refl _ _ _⟩ ?_
  rintro m E W ⟨j, hm, hj, rfl, hC⟩
  refine wc_seq ?_
  refine wc_region (l := [0]) rfl ?_
  refine wo_seg Θ_ok [0] [(5, .slice A n c), (6, .int .i64 (n : Int)), (7, .int .i64 (j : Int)), (8, .bool (decide ((j : Int) < (n : Int))))] rfl ⟨rfl, rfl, rfl, rfl, trivial⟩ ?_
  refine wo_nil ?_
  refine wq_seq ?_
  refine wc_seq ?_
  by_cases hjn : j < n
  case neg =>
    refine wc_known_false rfl (decide_eq_false (by omega)) ?_
    refine wc_exit ?_
    exact wq_then_exit (wq_then_exit (wq_block_exit (wq_end rfl ⟨rfl, hC⟩)))
  refine wc_known_true rfl (decide_eq_true (by omega)) ?_
  refine wc_skip ?_
  refine wq_seq ?_
  obtain ⟨ad, A', n', c', rfl, hcell, hI, hn'⟩ := (hS.chg hC) j hjn
  refine wc_seq ?_
  refine wc_block ?_
  refine wc_seq ?_
  refine wc_region (l := [0, 1, 2]) rfl ?_
  refine wo_indexV Θ_ok rfl rfl rfl rfl rfl rfl rfl rfl rfl rfl (Int.natCast_nonneg _) (by rw [Int.toNat_natCast]; exact hjn) ?_
  refine wo_loadC (v := .slice A' n' c') Θ_ok rfl rfl rfl rfl rfl rfl rfl rfl rfl (by rw [Int.toNat_natCast]; exact (congrArg (fun q => W.cell? (ad.add q)) (Nat.mul_one j)).trans hcell) ?_
  refine wo_seg Θ_ok [2] [(3, .slice A' n' c'), (5, .slice (some ad) n c), (6, .int .i64 (n : Int)), (7, .int .i64 (j : Int))] rfl ⟨rfl, rfl, rfl, rfl, trivial⟩ ?_
  refine wo_nil ?_
  refine wq_seq ?_
  refine wc_seq ?_
  refine wc_region (l := [0, 1, 2]) rfl ?_
  refine wo_seg Θ_ok [0, 1, 2] [(3, .slice A' n' c'), (5, .slice (some ad) n c), (6, .int .i64 (n : Int)), (7, .int .i64 (j : Int)), (12, .int .i64 (n' : Int)), (13, .int .i64 ((0 : Nat) : Int))] rfl ⟨rfl, rfl, rfl, rfl, rfl, rfl, trivial⟩ ?_
  refine wo_nil ?_
  refine wq_seq ?_
  refine wc_block ?_
  refine wc_loop (fun m E W' => ∃ i : Nat, n' - i = m ∧ i ≤ n' ∧ E = [(3, .slice A' n' c'), (5, .slice (some ad) n c), (6, .int .i64 (n : Int)), (7, .int .i64 (j : Int)), (12, .int .i64 (n' : Int)), (13, .int .i64 (i : Int))] ∧ Chg lo w0.heap.size w W' ∧ ShI .u64 lo w0.heap.size W' A' n') _
    [(3, .slice A' n' c'), (5, .slice (some ad) n c), (6, .int .i64 (n : Int)), (7, .int .i64 (j : Int)), (12, .int .i64 (n' : Int)), (13, .int .i64 ((0 : Nat) : Int))] ⟨rfl, rfl, rfl, rfl, rfl, rfl, trivial⟩ ⟨0, rfl, Nat.zero_le _, rfl, hC, hI⟩ ?_
  rintro m2 E W' ⟨i, hm2, hi, rfl, hC, hI⟩
  refine wc_seq ?_
  refine wc_region (l := [0]) rfl ?_
  refine wo_seg Θ_ok [0] [(3, .slice A' n' c'), (5, .slice (some ad) n c), (6, .int .i64 (n : Int)), (7, .int .i64 (j : Int)), (12, .int .i64 (n' : Int)), (13, .int .i64 (i : Int)), (14, .bool (decide ((i : Int) < (n' : Int))))] rfl ⟨rfl, rfl, rfl, rfl, rfl, rfl, rfl, trivial⟩ ?_
  refine wo_nil ?_
  refine wq_seq ?_
  refine wc_seq ?_
  by_cases hin : i < n'
  case neg =>
    refine wc_known_false rfl (decide_eq_false (by omega)) ?_
    refine wc_exit ?_
    refine wq_then_exit (wq_then_exit (wq_block_exit (wq_block (wq_seq ?_))))
    refine wc_region (l := [0, 1]) rfl ?_
    refine wo_seg Θ_ok [0, 1] [(5, .slice (some ad) n c), (6, .int .i64 (n : Int)), (7, .int .i64 (IntKind.i64.wrap ((j : Int) + (1 : Int))))] rfl ⟨rfl, rfl, rfl, trivial⟩ ?_
    refine wo_nil ?_
    exact wq_next (n - (j + 1)) [(5, .slice (some ad) n c), (6, .int .i64 (n : Int)), (7, .int .i64 ((j + 1 : Nat) : Int))] (by omega) ⟨rfl, rfl, congrArg (fun z => some (Value.int .i64 z)) (wrap_succ hjn (Nat.le_trans hlc hmc)), trivial⟩ ⟨j + 1, rfl, by omega, rfl, hC⟩
  refine wc_known_true rfl (decide_eq_true (by omega)) ?_
  refine wc_skip ?_
  refine wq_seq ?_
  obtain ⟨ad', rfl, h1, h2, h3, ⟨y, hy⟩, hz⟩ := hI i hin
  refine wc_seq ?_
  refine wc_block ?_
  refine wc_seq ?_
  refine wc_region (l := [0, 1]) rfl ?_
  refine wo_seg Θ_ok [0, 1] [(3, .slice (some ad') n' c'), (4, .int .i64 (i : Int)), (5, .slice (some ad) n c), (6, .int .i64 (n : Int)), (7, .int .i64 (j : Int)), (12, .int .i64 (n' : Int)), (13, .int .i64 (i : Int))] rfl ⟨rfl, rfl, rfl, rfl, rfl, rfl, rfl, trivial⟩ ?_
  refine wo_nil ?_
  refine wq_seq ?_
  refine wc_region (l := [0, 1, 2, 3, 4, 5, 6]) rfl ?_
  refine wo_seg Θ_ok [0, 1] [(3, .slice (some ad') n' c'), (5, .slice (some ad) n c), (6, .int .i64 (n : Int)), (7, .int .i64 (j : Int)), (12, .int .i64 (n' : Int)), (13, .int .i64 (i : Int)), (16, .slice (some ad') n' c'), (17, .int .i64 (i : Int))] rfl ⟨rfl, rfl, rfl, rfl, rfl, rfl, rfl, rfl, trivial⟩ ?_
  refine wo_indexV Θ_ok rfl rfl rfl rfl rfl rfl rfl rfl rfl rfl (Int.natCast_nonneg _) (by rw [Int.toNat_natCast]; exact hin) ?_
  refine wo_loadC (v := .int .u64 y) Θ_ok rfl rfl rfl rfl rfl rfl rfl rfl rfl (by rw [Int.toNat_natCast]; exact (congrArg (fun q => W'.cell? (ad'.add q)) (Nat.mul_one i)).trans hy) ?_
  refine wo_seg Θ_ok [4] [(3, .slice (some ad') n' c'), (5, .slice (some ad) n c), (6, .int .i64 (n : Int)), (7, .int .i64 (j : Int)), (12, .int .i64 (n' : Int)), (13, .int .i64 (i : Int)), (16, .slice (some ad') n' c'), (17, .int .i64 (i : Int)), (20, .int .u64 (IntKind.u64.wrap (y + (1 : Int))))] rfl ⟨rfl, rfl, rfl, rfl, rfl, rfl, rfl, rfl, rfl, trivial⟩ ?_
  refine wo_indexV Θ_ok rfl rfl rfl rfl rfl rfl rfl rfl rfl rfl (Int.natCast_nonneg _) (by rw [Int.toNat_natCast]; exact hin) ?_
  have e1 : (i : Int).toNat * ({ tag := 2, k := 7, e := 0, fs := [], size := 1, bytes := 8, zero := .int .u64 0 } : TI).size = i := by rw [Int.toNat_natCast]; exact Nat.mul_one i
  rw [e1]
  refine wo_storeC (u := .int .u64 y) Θ_ok rfl rfl rfl rfl rfl rfl rfl rfl hy hz ?_
  have hC2 : Chg lo w0.heap.size W' (W'.setCell (ad'.add i) (.int .u64 (IntKind.u64.wrap (y + 1)))) := Chg.set hy (by rw [add_block]; exact h1) (by rw [add_block]; exact h2)
  refine wo_nil ?_
  refine wq_block (wq_seq ?_)
  refine wc_region (l := [0, 1]) rfl ?_
  refine wo_seg Θ_ok [0, 1] [(3, .slice (some ad') n' c'), (5, .slice (some ad) n c), (6, .int .i64 (n : Int)), (7, .int .i64 (j : Int)), (12, .int .i64 (n' : Int)), (13, .int .i64 (IntKind.i64.wrap ((i : Int) + (1 : Int))))] rfl ⟨rfl, rfl, rfl, rfl, rfl, rfl, trivial⟩ ?_
  refine wo_nil ?_
  exact wq_next (n' - (i + 1)) [(3, .slice (some ad') n' c'), (5, .slice (some ad) n c), (6, .int .i64 (n : Int)), (7, .int .i64 (j : Int)), (12, .int .i64 (n' : Int)), (13, .int .i64 ((i + 1 : Nat) : Int))] (by omega) ⟨rfl, rfl, rfl, rfl, rfl, congrArg (fun z => some (Value.int .i64 z)) (wrap_succ hin hn'), trivial⟩ ⟨i + 1, rfl, by omega, rfl, hC.trans hC2, hI.chg hC2⟩

set_option maxRecDepth 100000 in
set_option maxHeartbeats 4000000 in
theorem r_wakes_c {O : List Nat} {w : World} (hO : OB O w) {fuel : Nat} {r : Bool} (h : r_wakes fuel = some r) : Calls Try.prog 10 #[] w (Gives (rt1 Ty.bool) O w r) := by
  have hF := Fr.refl [] w
  have hO0 := hO
  have hS := Sub.refl O
  refine calls_of (args := []) (N := 105) Try.func10 rfl rfl rfl ?_
  unfold r_wakes at h
  refine wc_seq ?_
  refine wc_region (l := [0]) rfl ?_
  refine wo_seg Θ_ok [0] [] rfl trivial ?_
  refine wo_nil ?_
  refine wq_seq ?_
  refine wc_seq ?_
  refine wc_region (l := [0, 1, 2, 3, 4, 5, 6]) rfl ?_
  refine wo_litd Θ_ok rfl rfl rfl rfl rfl rfl rfl rfl rfl rfl (T := (Ty.int .u64)) (xs := [(3 : Int), (2 : Int), (1 : Int), (0 : Int)]) (vs := [(.int .u64 3), (.int .u64 2), (.int .u64 1), (.int .u64 0)]) rfl ⟨(int_is.2 rfl), (int_is.2 rfl), (int_is.2 rfl), (int_is.2 rfl), trivial⟩ rfl rfl rfl hO (fun v1 w2 h3 f4 => ?_)
  have hO := f4.ob hO
  have hF := hF.trans f4
  obtain ⟨y9, hy10, h⟩ := bind_some h
  refine wo_gives rfl rfl rfl rfl rfl ent21 rfl (b_Spread_c hO (int_is.2 rfl) h3 hy10) (fun v5 w6 h7 f8 => ?_)
  have hO := f8.ob hO
  have hF := hF.trans f8
  obtain ⟨u11, u13, rfl, h12, h14⟩ := h7
  obtain rfl := int_is.1 h14
  refine wo_seg Θ_ok [2, 3, 4, 5, 6] [(1, u11), (2, (.int .i64 y9.2))] rfl ⟨rfl, rfl, trivial⟩ ?_
  refine wo_nil ?_
  refine wq_seq ?_
  refine wc_seq ?_
  refine wc_region (l := [0, 1, 2, 3, 4, 5, 6]) rfl ?_
  refine wo_seg Θ_ok [0] [(1, u11), (2, (.int .i64 y9.2)), (19, u11)] rfl ⟨rfl, rfl, rfl, trivial⟩ ?_
  obtain ⟨y19, hy20, h⟩ := bind_some h
  refine wo_gives rfl rfl rfl rfl rfl ent30 rfl (b_Seam_c hO h12 (int_is.2 rfl) hy20) (fun v15 w16 h17 f18 => ?_)
  have h12 := h12.tr f18.tr0
  have hO := f18.ob hO
  have hF := hF.trans f18
  obtain ⟨u21, u23, rfl, h22, h24⟩ := h17
  obtain rfl := int_is.1 h22
  obtain rfl := int_is.1 h24
  refine wo_seg Θ_ok [2, 3, 4, 5, 6] [(1, u11), (2, (.int .i64 y9.2)), (3, (.int .i64 y19.1)), (4, (.int .i64 y19.2))] rfl ⟨rfl, rfl, rfl, rfl, trivial⟩ ?_
  refine wo_nil ?_
  refine wq_seq ?_
  refine wc_seq ?_
  refine wc_region (l := [0, 1, 2, 3, 4, 5, 6]) rfl ?_
  refine wo_seg Θ_ok [0] [(1, u11), (2, (.int .i64 y9.2)), (3, (.int .i64 y19.1)), (4, (.int .i64 y19.2)), (24, u11)] rfl ⟨rfl, rfl, rfl, rfl, rfl, trivial⟩ ?_
  obtain ⟨y29, hy30, h⟩ := bind_some h
  refine wo_gives rfl rfl rfl rfl rfl ent32 rfl (b_Expand_c hO h12 hy30) (fun v25 w26 h27 f28 => ?_)
  have h12 := h12.tr f28.tr0
  have hO := f28.ob hO
  have hF := hF.trans f28
  obtain ⟨u31, u33, rfl, h32, h34⟩ := h27
  obtain rfl := int_is.1 h34
  refine wo_seg Θ_ok [2, 3, 4, 5, 6] [(1, u11), (2, (.int .i64 y9.2)), (3, (.int .i64 y19.1)), (4, (.int .i64 y19.2)), (5, u31), (6, (.int .i64 y29.2))] rfl ⟨rfl, rfl, rfl, rfl, rfl, rfl, trivial⟩ ?_
  refine wo_nil ?_
  refine wq_seq ?_
  refine wc_seq ?_
  refine wc_region (l := [0, 1, 2, 3, 4, 5, 6]) rfl ?_
  refine wo_seg Θ_ok [0] [(1, u11), (2, (.int .i64 y9.2)), (3, (.int .i64 y19.1)), (4, (.int .i64 y19.2)), (5, u31), (6, (.int .i64 y29.2)), (29, u31)] rfl ⟨rfl, rfl, rfl, rfl, rfl, rfl, rfl, trivial⟩ ?_
  obtain ⟨y39, hy40, h⟩ := bind_some h
  refine wo_gives rfl rfl rfl rfl rfl ent33 rfl (b_Shrink_c hO h32 hy40) (fun v35 w36 h37 f38 => ?_)
  have h12 := h12.tr f38.tr0
  have h32 := h32.tr f38.tr0
  have hO := f38.ob hO
  have hF := hF.trans f38
  obtain ⟨u41, u43, rfl, h42, h44⟩ := h37
  obtain rfl := int_is.1 h44
  refine wo_seg Θ_ok [2, 3, 4, 5, 6] [(1, u11), (2, (.int .i64 y9.2)), (3, (.int .i64 y19.1)), (4, (.int .i64 y19.2)), (5, u31), (6, (.int .i64 y29.2)), (7, u41), (8, (.int .i64 y39.2))] rfl ⟨rfl, rfl, rfl, rfl, rfl, rfl, rfl, rfl, trivial⟩ ?_
  refine wo_nil ?_
  refine wq_seq ?_
  refine wc_seq ?_
  refine wc_region (l := [0, 1, 2, 3, 4, 5]) rfl ?_
  obtain ⟨y49, hy50, h⟩ := bind_some h
  refine wo_gives rfl rfl rfl rfl rfl ent17 rfl (b_Of_c hO (int_is.2 rfl) (int_is.2 rfl) hy50) (fun v45 w46 h47 f48 => ?_)
  have h12 := h12.tr f48.tr0
  have h32 := h32.tr f48.tr0
  have h42 := h42.tr f48.tr0
  have hO := f48.ob hO
  have hF := hF.trans f48
  obtain ⟨u51, u53, rfl, h52, h54⟩ := h47
  obtain rfl := int_is.1 h52
  obtain rfl := int_is.1 h54
  refine wo_seg Θ_ok [1, 2, 3, 4, 5] [(1, u11), (2, (.int .i64 y9.2)), (3, (.int .i64 y19.1)), (4, (.int .i64 y19.2)), (5, u31), (6, (.int .i64 y29.2)), (7, u41), (8, (.int .i64 y39.2)), (10, (.int .i64 y49.2))] rfl ⟨rfl, rfl, rfl, rfl, rfl, rfl, rfl, rfl, rfl, trivial⟩ ?_
  refine wo_nil ?_
  refine wq_seq ?_
  refine wc_seq ?_
  refine wc_region (l := [0, 1, 2, 3, 4, 5]) rfl ?_
  refine wo_gives rfl rfl rfl rfl rfl ent11 rfl (b_Want_c hO (int_is.2 rfl) (int_is.2 rfl)) (fun v55 w56 h57 f58 => ?_)
  have h12 := h12.tr f58.tr0
  have h32 := h32.tr f58.tr0
  have h42 := h42.tr f58.tr0
  have hO := f58.ob hO
  have hF := hF.trans f58
  obtain ⟨u59, u61, rfl, h60, h62⟩ := h57
  obtain rfl := int_is.1 h60
  obtain rfl := int_is.1 h62
  refine wo_seg Θ_ok [1, 2, 3, 4, 5] [(1, u11), (2, (.int .i64 y9.2)), (3, (.int .i64 y19.1)), (4, (.int .i64 y19.2)), (5, u31), (6, (.int .i64 y29.2)), (7, u41), (8, (.int .i64 y39.2)), (10, (.int .i64 y49.2)), (11, (.int .i64 (((b_Want (4 : Int) (9 : Int))).1))), (12, (.int .i64 (((b_Want (4 : Int) (9 : Int))).2)))] rfl ⟨rfl, rfl, rfl, rfl, rfl, rfl, rfl, rfl, rfl, rfl, rfl, trivial⟩ ?_
  refine wo_nil ?_
  refine wq_seq ?_
  refine wc_seq ?_
  refine wc_region (l := [0, 1, 2, 3, 4, 5, 6, 7, 8, 9, 10, 11, 12, 13, 14, 15, 16, 17, 18, 19, 20, 21, 22, 23, 24, 25, 26, 27, 28, 29, 30, 31, 32, 33, 34, 35, 36, 37, 38, 39, 40, 41, 42, 43, 44, 45, 46, 47, 48, 49, 50, 51, 52, 53, 54, 55, 56, 57, 58, 59, 60, 61, 62, 63, 64]) rfl ?_
  refine wo_seg Θ_ok [0, 1, 2] [(1, u11), (3, (.int .i64 y19.1)), (4, (.int .i64 y19.2)), (5, u31), (6, (.int .i64 y29.2)), (7, u41), (8, (.int .i64 y39.2)), (10, (.int .i64 y49.2)), (11, (.int .i64 (((b_Want (4 : Int) (9 : Int))).1))), (12, (.int .i64 (((b_Want (4 : Int) (9 : Int))).2))), (43, (.bool (y9.2 == (0 : Int))))] rfl ⟨rfl, rfl, rfl, rfl, rfl, rfl, rfl, rfl, rfl, rfl, rfl, trivial⟩ ?_
  rcases bif_some h with ⟨hc63, h⟩ | ⟨hc63, h⟩
  rotate_left
  · refine wo_know 43 false rfl hc63 ?_
    refine wo_seg Θ_ok [3, 4, 5, 6, 7, 8, 9, 10, 11, 12, 13, 14, 15, 16, 17, 18, 19, 20, 21, 22, 23, 24, 25, 26, 27, 28, 29, 30, 31, 32, 33, 34, 35, 36, 37, 38, 39, 40, 41, 42, 43, 44, 45, 46, 47, 48, 49, 50, 51, 52, 53, 54, 55, 56, 57, 58, 59, 60, 61, 62, 63, 64] [(0, (.bool false))] rfl ⟨rfl, trivial⟩ ?_
    refine wo_nil ?_
    refine wq_seq ?_
    refine wc_ret ?_
    cases h
    exact wq_ret rfl ⟨_, rfl, (bool_is.2 rfl), hF⟩
  refine wo_know 43 true rfl hc63 ?_
  refine wo_seg Θ_ok [3, 4, 5, 6] [(1, u11), (3, (.int .i64 y19.1)), (5, u31), (6, (.int .i64 y29.2)), (7, u41), (8, (.int .i64 y39.2)), (10, (.int .i64 y49.2)), (11, (.int .i64 (((b_Want (4 : Int) (9 : Int))).1))), (12, (.int .i64 (((b_Want (4 : Int) (9 : Int))).2))), (47, (.bool (y19.2 == (0 : Int))))] rfl ⟨rfl, rfl, rfl, rfl, rfl, rfl, rfl, rfl, rfl, rfl, trivial⟩ ?_
  rcases bif_some h with ⟨hc64, h⟩ | ⟨hc64, h⟩
  rotate_left
  · refine wo_know 47 false rfl hc64 ?_
    refine wo_seg Θ_ok [7, 8, 9, 10, 11, 12, 13, 14, 15, 16, 17, 18, 19, 20, 21, 22, 23, 24, 25, 26, 27, 28, 29, 30, 31, 32, 33, 34, 35, 36, 37, 38, 39, 40, 41, 42, 43, 44, 45, 46, 47, 48, 49, 50, 51, 52, 53, 54, 55, 56, 57, 58, 59, 60, 61, 62, 63, 64] [(0, (.bool false))] rfl ⟨rfl, trivial⟩ ?_
    refine wo_nil ?_
    refine wq_seq ?_
    refine wc_ret ?_
    cases h
    exact wq_ret rfl ⟨_, rfl, (bool_is.2 rfl), hF⟩
  refine wo_know 47 true rfl hc64 ?_
  refine wo_seg Θ_ok [7, 8, 9, 10] [(1, u11), (3, (.int .i64 y19.1)), (5, u31), (7, u41), (8, (.int .i64 y39.2)), (10, (.int .i64 y49.2)), (11, (.int .i64 (((b_Want (4 : Int) (9 : Int))).1))), (12, (.int .i64 (((b_Want (4 : Int) (9 : Int))).2))), (51, (.bool (y29.2 == (0 : Int))))] rfl ⟨rfl, rfl, rfl, rfl, rfl, rfl, rfl, rfl, rfl, trivial⟩ ?_
  rcases bif_some h with ⟨hc65, h⟩ | ⟨hc65, h⟩
  rotate_left
  · refine wo_know 51 false rfl hc65 ?_
    refine wo_seg Θ_ok [11, 12, 13, 14, 15, 16, 17, 18, 19, 20, 21, 22, 23, 24, 25, 26, 27, 28, 29, 30, 31, 32, 33, 34, 35, 36, 37, 38, 39, 40, 41, 42, 43, 44, 45, 46, 47, 48, 49, 50, 51, 52, 53, 54, 55, 56, 57, 58, 59, 60, 61, 62, 63, 64] [(0, (.bool false))] rfl ⟨rfl, trivial⟩ ?_
    refine wo_nil ?_
    refine wq_seq ?_
    refine wc_ret ?_
    cases h
    exact wq_ret rfl ⟨_, rfl, (bool_is.2 rfl), hF⟩
  refine wo_know 51 true rfl hc65 ?_
  refine wo_seg Θ_ok [11, 12, 13, 14] [(1, u11), (3, (.int .i64 y19.1)), (5, u31), (7, u41), (10, (.int .i64 y49.2)), (11, (.int .i64 (((b_Want (4 : Int) (9 : Int))).1))), (12, (.int .i64 (((b_Want (4 : Int) (9 : Int))).2))), (55, (.bool (y39.2 == (0 : Int))))] rfl ⟨rfl, rfl, rfl, rfl, rfl, rfl, rfl, rfl, trivial⟩ ?_
  rcases bif_some h with ⟨hc66, h⟩ | ⟨hc66, h⟩
  rotate_left
  · refine wo_know 55 false rfl hc66 ?_
    refine wo_seg Θ_ok [15, 16, 17, 18, 19, 20, 21, 22, 23, 24, 25, 26, 27, 28, 29, 30, 31, 32, 33, 34, 35, 36, 37, 38, 39, 40, 41, 42, 43, 44, 45, 46, 47, 48, 49, 50, 51, 52, 53, 54, 55, 56, 57, 58, 59, 60, 61, 62, 63, 64] [(0, (.bool false))] rfl ⟨rfl, trivial⟩ ?_
    refine wo_nil ?_
    refine wq_seq ?_
    refine wc_ret ?_
    cases h
    exact wq_ret rfl ⟨_, rfl, (bool_is.2 rfl), hF⟩
  refine wo_know 55 true rfl hc66 ?_
  refine wo_seg Θ_ok [15, 16, 17, 18] [(1, u11), (3, (.int .i64 y19.1)), (5, u31), (7, u41), (10, (.int .i64 y49.2)), (11, (.int .i64 (((b_Want (4 : Int) (9 : Int))).1))), (59, (.bool ((((b_Want (4 : Int) (9 : Int))).2) == (0 : Int))))] rfl ⟨rfl, rfl, rfl, rfl, rfl, rfl, rfl, trivial⟩ ?_
  rcases bif_some h with ⟨hc67, h⟩ | ⟨hc67, h⟩
  rotate_left
  · refine wo_know 59 false rfl hc67 ?_
    refine wo_seg Θ_ok [19, 20, 21, 22, 23, 24, 25, 26, 27, 28, 29, 30, 31, 32, 33, 34, 35, 36, 37, 38, 39, 40, 41, 42, 43, 44, 45, 46, 47, 48, 49, 50, 51, 52, 53, 54, 55, 56, 57, 58, 59, 60, 61, 62, 63, 64] [(0, (.bool false))] rfl ⟨rfl, trivial⟩ ?_
    refine wo_nil ?_
    refine wq_seq ?_
    refine wc_ret ?_
    cases h
    exact wq_ret rfl ⟨_, rfl, (bool_is.2 rfl), hF⟩
  refine wo_know 59 true rfl hc67 ?_
  refine wo_seg Θ_ok [19, 20, 21, 22] [(1, u11), (3, (.int .i64 y19.1)), (5, u31), (7, u41), (11, (.int .i64 (((b_Want (4 : Int) (9 : Int))).1))), (63, (.bool (y49.2 == (2 : Int))))] rfl ⟨rfl, rfl, rfl, rfl, rfl, rfl, trivial⟩ ?_
  rcases bif_some h with ⟨hc68, h⟩ | ⟨hc68, h⟩
  rotate_left
  · refine wo_know 63 false rfl hc68 ?_
    refine wo_seg Θ_ok [23, 24, 25, 26, 27, 28, 29, 30, 31, 32, 33, 34, 35, 36, 37, 38, 39, 40, 41, 42, 43, 44, 45, 46, 47, 48, 49, 50, 51, 52, 53, 54, 55, 56, 57, 58, 59, 60, 61, 62, 63, 64] [(0, (.bool false))] rfl ⟨rfl, trivial⟩ ?_
    refine wo_nil ?_
    refine wq_seq ?_
    refine wc_ret ?_
    cases h
    exact wq_ret rfl ⟨_, rfl, (bool_is.2 rfl), hF⟩
  refine wo_know 63 true rfl hc68 ?_
  refine wo_seg Θ_ok [23, 24, 25, 26] [(1, u11), (5, u31), (7, u41), (11, (.int .i64 (((b_Want (4 : Int) (9 : Int))).1))), (67, (.bool (y19.1 == (1 : Int))))] rfl ⟨rfl, rfl, rfl, rfl, rfl, trivial⟩ ?_
  rcases bif_some h with ⟨hc69, h⟩ | ⟨hc69, h⟩
  rotate_left
  · refine wo_know 67 false rfl hc69 ?_
    refine wo_seg Θ_ok [27, 28, 29, 30, 31, 32, 33, 34, 35, 36, 37, 38, 39, 40, 41, 42, 43, 44, 45, 46, 47, 48, 49, 50, 51, 52, 53, 54, 55, 56, 57, 58, 59, 60, 61, 62, 63, 64] [(0, (.bool false))] rfl ⟨rfl, trivial⟩ ?_
    refine wo_nil ?_
    refine wq_seq ?_
    refine wc_ret ?_
    cases h
    exact wq_ret rfl ⟨_, rfl, (bool_is.2 rfl), hF⟩
  refine wo_know 67 true rfl hc69 ?_
  refine wo_seg Θ_ok [27, 28, 29, 30] [(1, u11), (5, u31), (7, u41), (71, (.bool ((((b_Want (4 : Int) (9 : Int))).1) == (8 : Int))))] rfl ⟨rfl, rfl, rfl, rfl, trivial⟩ ?_
  rcases bif_some h with ⟨hc70, h⟩ | ⟨hc70, h⟩
  rotate_left
  · refine wo_know 71 false rfl hc70 ?_
    refine wo_seg Θ_ok [31, 32, 33, 34, 35, 36, 37, 38, 39, 40, 41, 42, 43, 44, 45, 46, 47, 48, 49, 50, 51, 52, 53, 54, 55, 56, 57, 58, 59, 60, 61, 62, 63, 64] [(0, (.bool false))] rfl ⟨rfl, trivial⟩ ?_
    refine wo_nil ?_
    refine wq_seq ?_
    refine wc_ret ?_
    cases h
    exact wq_ret rfl ⟨_, rfl, (bool_is.2 rfl), hF⟩
  refine wo_know 71 true rfl hc70 ?_
  refine wo_seg Θ_ok [31] [(1, u11), (5, u31), (7, u41), (71, (.bool true)), (72, u11)] rfl ⟨rfl, rfl, rfl, rfl, rfl, trivial⟩ ?_
  refine wo_litd Θ_ok rfl rfl rfl rfl rfl rfl rfl rfl rfl rfl (T := (Ty.int .u64)) (xs := [(0 : Int), (2 : Int)]) (vs := [(.int .u64 0), (.int .u64 2)]) rfl ⟨(int_is.2 rfl), (int_is.2 rfl), trivial⟩ rfl rfl rfl hO (fun v71 w72 h73 f74 => ?_)
  have h12 := h12.tr f74.tr0
  have h32 := h32.tr f74.tr0
  have h42 := h42.tr f74.tr0
  have hO := f74.ob hO
  have hF := hF.trans f74
  refine wo_litd Θ_ok rfl rfl rfl rfl rfl rfl rfl rfl rfl rfl (T := (Ty.int .u64)) (xs := [(1 : Int)]) (vs := [(.int .u64 1)]) rfl ⟨(int_is.2 rfl), trivial⟩ rfl rfl rfl hO (fun v75 w76 h77 f78 => ?_)
  have h12 := h12.tr f78.tr0
  have h32 := h32.tr f78.tr0
  have h42 := h42.tr f78.tr0
  have h73 := h73.tr f78.tr0
  have hO := f78.ob hO
  have hF := hF.trans f78
  refine wo_litd Θ_ok rfl rfl rfl rfl rfl rfl rfl rfl rfl rfl (T := (Ty.int .u64)) (xs := [(3 : Int)]) (vs := [(.int .u64 3)]) rfl ⟨(int_is.2 rfl), trivial⟩ rfl rfl rfl hO (fun v79 w80 h81 f82 => ?_)
  have h12 := h12.tr f82.tr0
  have h32 := h32.tr f82.tr0
  have h42 := h42.tr f82.tr0
  have h73 := h73.tr f82.tr0
  have h77 := h77.tr f82.tr0
  have hO := f82.ob hO
  have hF := hF.trans f82
  refine wo_litd Θ_ok rfl rfl rfl rfl rfl rfl rfl rfl rfl rfl (T := (Ty.slice (Ty.int .u64))) (xs := [([(0 : Int), (2 : Int)] : List Int), ([] : List Int), ([(1 : Int)] : List Int), ([(3 : Int)] : List Int)]) (vs := [v71, (.slice none 0 0), v75, v79]) rfl ⟨h73, (slice_nil _ _ _), h77, h81, trivial⟩ rfl rfl rfl hO (fun v83 w84 h85 f86 => ?_)
  have h12 := h12.tr f86.tr0
  have h32 := h32.tr f86.tr0
  have h42 := h42.tr f86.tr0
  have hO := f86.ob hO
  have hF := hF.trans f86
  obtain ⟨y91, hy92, h⟩ := bind_some h
  refine wo_gives rfl rfl rfl rfl rfl ent22 rfl (same_c hO h12 h85 hy92) (fun v87 w88 h89 f90 => ?_)
  have h12 := h12.tr f90.tr0
  have h32 := h32.tr f90.tr0
  have h42 := h42.tr f90.tr0
  have hO := f90.ob hO
  have hF := hF.trans f90
  obtain rfl := bool_is.1 h89
  refine wo_seg Θ_ok [37, 38] [(1, u11), (5, u31), (7, u41), (79, (.bool y91))] rfl ⟨rfl, rfl, rfl, rfl, trivial⟩ ?_
  rcases bif_some h with ⟨hc93, h⟩ | ⟨hc93, h⟩
  rotate_left
  · refine wo_know 79 false rfl hc93 ?_
    refine wo_seg Θ_ok [39, 40, 41, 42, 43, 44, 45, 46, 47, 48, 49, 50, 51, 52, 53, 54, 55, 56, 57, 58, 59, 60, 61, 62, 63, 64] [(0, (.bool false))] rfl ⟨rfl, trivial⟩ ?_
    refine wo_nil ?_
    refine wq_seq ?_
    refine wc_ret ?_
    cases h
    exact wq_ret rfl ⟨_, rfl, (bool_is.2 rfl), hF⟩
  refine wo_know 79 true rfl hc93 ?_
  refine wo_seg Θ_ok [39] [(1, u11), (5, u31), (7, u41), (79, (.bool true)), (80, u31)] rfl ⟨rfl, rfl, rfl, rfl, rfl, trivial⟩ ?_
  obtain ⟨A94, c95, rfl, hlc95, hmc95⟩ := slice_form h32
  refine wo_seg Θ_ok [40] [(1, u11), (5, (.slice A94 y29.1.length c95)), (7, u41), (79, (.bool true)), (81, (.int .i64 (y29.1.length : Int)))] rfl ⟨rfl, rfl, rfl, rfl, rfl, trivial⟩ ?_
  refine wo_seg Θ_ok [41, 42, 43] [(1, u11), (5, (.slice A94 y29.1.length c95)), (7, u41), (84, (.bool ((y29.1.length : Int) == (8 : Int))))] rfl ⟨rfl, rfl, rfl, rfl, trivial⟩ ?_
  rcases bif_some h with ⟨hc96, h⟩ | ⟨hc96, h⟩
  rotate_left
  · refine wo_know 84 false rfl hc96 ?_
    refine wo_seg Θ_ok [44, 45, 46, 47, 48, 49, 50, 51, 52, 53, 54, 55, 56, 57, 58, 59, 60, 61, 62, 63, 64] [(0, (.bool false))] rfl ⟨rfl, trivial⟩ ?_
    refine wo_nil ?_
    refine wq_seq ?_
    refine wc_ret ?_
    cases h
    exact wq_ret rfl ⟨_, rfl, (bool_is.2 rfl), hF⟩
  refine wo_know 84 true rfl hc96 ?_
  refine wo_seg Θ_ok [44] [(1, u11), (7, u41), (84, (.bool true)), (85, (.slice A94 y29.1.length c95))] rfl ⟨rfl, rfl, rfl, rfl, trivial⟩ ?_
  obtain ⟨y99, hz100, h⟩ := bind_some h
  refine wo_index Θ_ok rfl rfl rfl rfl rfl rfl rfl rfl rfl rfl h32 rfl (idx_some hz100).1 (idx_some hz100).2 (fun p97 h98 => ?_)
  refine wo_loadp Θ_ok rfl rfl rfl rfl rfl rfl rfl h98 rfl rfl (fun v101 h102 => ?_)
  refine wo_litd Θ_ok rfl rfl rfl rfl rfl rfl rfl rfl rfl rfl (T := (Ty.int .u64)) (xs := [(3 : Int)]) (vs := [(.int .u64 3)]) rfl ⟨(int_is.2 rfl), trivial⟩ rfl rfl rfl hO (fun v103 w104 h105 f106 => ?_)
  have h12 := h12.tr f106.tr0
  have h42 := h42.tr f106.tr0
  have h102 := h102.tr f106.tr0
  have hO := f106.ob hO
  have hF := hF.trans f106
  obtain ⟨y111, hy112, h⟩ := bind_some h
  refine wo_gives rfl rfl rfl rfl rfl ent25 rfl (s_Equal_c hO h102 h105 hy112) (fun v107 w108 h109 f110 => ?_)
  have h12 := h12.tr f110.tr0
  have h42 := h42.tr f110.tr0
  have hO := f110.ob hO
  have hF := hF.trans f110
  obtain rfl := bool_is.1 h109
  refine wo_seg Θ_ok [49, 50] [(1, u11), (7, u41), (91, (.bool y111))] rfl ⟨rfl, rfl, rfl, trivial⟩ ?_
  rcases bif_some h with ⟨hc113, h⟩ | ⟨hc113, h⟩
  rotate_left
  · refine wo_know 91 false rfl hc113 ?_
    refine wo_seg Θ_ok [51, 52, 53, 54, 55, 56, 57, 58, 59, 60, 61, 62, 63, 64] [(0, (.bool false))] rfl ⟨rfl, trivial⟩ ?_
    refine wo_nil ?_
    refine wq_seq ?_
    refine wc_ret ?_
    cases h
    exact wq_ret rfl ⟨_, rfl, (bool_is.2 rfl), hF⟩
  refine wo_know 91 true rfl hc113 ?_
  refine wo_seg Θ_ok [51, 52] [(91, (.bool true)), (92, u41), (93, u11)] rfl ⟨rfl, rfl, rfl, trivial⟩ ?_
  obtain ⟨y118, hy119, h⟩ := bind_some h
  refine wo_gives rfl rfl rfl rfl rfl ent22 rfl (same_c hO h42 h12 hy119) (fun v114 w115 h116 f117 => ?_)
  have hO := f117.ob hO
  have hF := hF.trans f117
  obtain rfl := bool_is.1 h116
  refine wo_seg Θ_ok [54, 55] [(96, (.bool y118))] rfl ⟨rfl, trivial⟩ ?_
  rcases bif_some h with ⟨hc120, h⟩ | ⟨hc120, h⟩
  rotate_left
  · refine wo_know 96 false rfl hc120 ?_
    refine wo_seg Θ_ok [56, 57, 58, 59, 60, 61, 62, 63, 64] [(0, (.bool false))] rfl ⟨rfl, trivial⟩ ?_
    refine wo_nil ?_
    refine wq_seq ?_
    refine wc_ret ?_
    cases h
    exact wq_ret rfl ⟨_, rfl, (bool_is.2 rfl), hF⟩
  refine wo_know 96 true rfl hc120 ?_
  refine wo_gives rfl rfl rfl rfl rfl ent14 rfl (b_Hash_c hO (int_is.2 rfl)) (fun v121 w122 h123 f124 => ?_)
  have hO := f124.ob hO
  have hF := hF.trans f124
  obtain rfl := int_is.1 h123
  refine wo_gives rfl rfl rfl rfl rfl ent15 rfl (b_Key_c hO (int_is.2 rfl)) (fun v125 w126 h127 f128 => ?_)
  have hO := f128.ob hO
  have hF := hF.trans f128
  obtain rfl := int_is.1 h127
  refine wo_seg Θ_ok [58, 59, 60] [(101, (.bool ((b_Key (b_Hash (7 : Int))) == (7 : Int))))] rfl ⟨rfl, trivial⟩ ?_
  rcases bif_some h with ⟨hc129, h⟩ | ⟨hc129, h⟩
  rotate_left
  · refine wo_know 101 false rfl hc129 ?_
    refine wo_seg Θ_ok [61, 62, 63, 64] [(0, (.bool false))] rfl ⟨rfl, trivial⟩ ?_
    refine wo_nil ?_
    refine wq_seq ?_
    refine wc_ret ?_
    cases h
    exact wq_ret rfl ⟨_, rfl, (bool_is.2 rfl), hF⟩
  refine wo_know 101 true rfl hc129 ?_
  refine wo_gives rfl rfl rfl rfl rfl ent14 rfl (b_Hash_c hO (int_is.2 rfl)) (fun v130 w131 h132 f133 => ?_)
  have hO := f133.ob hO
  have hF := hF.trans f133
  obtain rfl := int_is.1 h132
  refine wo_seg Θ_ok [62, 63, 64] [(0, (.bool ((b_Hash (1 : Int)) == (11400714819323198485 : Int))))] rfl ⟨rfl, trivial⟩ ?_
  refine wo_nil ?_
  refine wq_seq ?_
  refine wc_ret ?_
  cases h
  exact wq_ret rfl ⟨_, rfl, (bool_is.2 rfl), hF⟩
end Go.Proofs.Ytdemjanelbajlaa
