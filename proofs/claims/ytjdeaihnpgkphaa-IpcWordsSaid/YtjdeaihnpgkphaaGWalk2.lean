/-
  The program's functions compute the plain ones (printed by a tool of the prover's).
-/
import Derived.Test.YtjdeaihnpgkphaaGWalk1
namespace Go.Proofs.Ytjdeaihnpgkphaa
open Go.RowKit Go.Dc Go.Shelf
set_option maxRecDepth 100000 in
set_option maxHeartbeats 4000000 in
theorem s_BinB_c {O : List Nat} {w : World} (hO : OB O w) {fuel : Nat} {v0 : Value} {x0 : List GBox} (h0 : (Ty.slice tGBox).is O w v0 x0) {v1 : Value} {x1 : Int} (h1 : (Ty.int .u64).is O w v1 x1) {v2 : Value} {x2 : GBox → Int → Option (Int)} (h2 : (Ty.fn2 Try.prog tGBox (Ty.int .u64) (rt1 (Ty.int .i64))).is O w v2 x2) {r : Int × Bool} (h : s_BinB fuel x0 x1 x2 = some r) : Calls Try.prog 68 #[v0, v1, v2] w (Gives (rt2 (Ty.int .i64) Ty.bool) O w r) := by
  obtain rfl := int_is.1 h1
  have hF := Fr.refl [] w
  have hO0 := hO
  have hS := Sub.refl O
  refine calls_of (args := [v0, (.int .u64 x1), v2]) (N := 49) Try.func68 rfl rfl rfl ?_
  unfold s_BinB at h
  refine wc_seq ?_
  refine wc_region (l := [0, 1]) rfl ?_
  refine wo_seg Θ_ok [0, 1] [(0, v0), (1, (.int .u64 x1)), (2, v2)] rfl ⟨rfl, rfl, rfl, trivial⟩ ?_
  refine wo_nil ?_
  refine wq_seq ?_
  refine wc_seq ?_
  refine wc_region (l := [0, 1, 2]) rfl ?_
  refine wo_seg Θ_ok [0] [(0, v0), (1, (.int .u64 x1)), (2, v2), (12, v0)] rfl ⟨rfl, rfl, rfl, rfl, trivial⟩ ?_
  obtain ⟨A4, c5, rfl, hlc5, hmc5⟩ := slice_form h0
  refine wo_seg Θ_ok [1] [(0, (.slice A4 x0.length c5)), (1, (.int .u64 x1)), (2, v2), (13, (.int .i64 (x0.length : Int)))] rfl ⟨rfl, rfl, rfl, rfl, trivial⟩ ?_
  refine wo_seg Θ_ok [2] [(0, (.slice A4 x0.length c5)), (1, (.int .u64 x1)), (2, v2), (8, (.int .i64 (x0.length : Int)))] rfl ⟨rfl, rfl, rfl, rfl, trivial⟩ ?_
  refine wo_nil ?_
  refine wq_seq ?_
  refine wc_seq ?_
  refine wc_region (l := [0, 1, 2]) rfl ?_
  refine wo_seg Θ_ok [0, 1, 2] [(0, (.slice A4 x0.length c5)), (1, (.int .u64 x1)), (2, v2), (8, (.int .i64 (x0.length : Int))), (9, (.int .i64 0)), (10, (.int .i64 (x0.length : Int)))] rfl ⟨rfl, rfl, rfl, rfl, rfl, rfl, trivial⟩ ?_
  refine wo_nil ?_
  refine wq_seq ?_
  obtain ⟨k7, hk8, h⟩ := letk_some h
  refine wc_join (fun E W => ∃ (O12 : List Nat) (p11 : Int), E = [(0, (.slice A4 x0.length c5)), (1, (.int .u64 x1)), (2, v2), (8, (.int .i64 (x0.length : Int))), (9, (.int .i64 p11))] ∧ Tr O w O12 W ∧ OB O12 W ∧ Sub O O12 ∧ Fr [] w W ∧ k7 p11 = some r) ?_ (fun K9 hK10 => ?_)
  · rintro E w13 ⟨O12, p11, rfl, T6, hO, hS, hF, h⟩
    have h0 := h0.tr T6
    have h2 := h2.tr T6
    subst hk8
    (try dsimp only at h)
    refine wc_seq ?_
    refine wc_region (l := [0, 1, 2, 3, 4, 5, 6, 7, 8, 9, 10, 11, 12, 13, 14, 15]) rfl ?_
    refine wo_seg Θ_ok [0, 1, 2, 3, 4] [(0, (.slice A4 x0.length c5)), (1, (.int .u64 x1)), (2, v2), (9, (.int .i64 p11)), (35, (.int .i64 p11)), (39, (.bool (decide (p11 < (x0.length : Int)))))] rfl ⟨rfl, rfl, rfl, rfl, rfl, rfl, trivial⟩ ?_
    rcases bif_some h with ⟨hc14, h⟩ | ⟨hc14, h⟩
    rotate_left
    · refine wo_know 39 false rfl hc14 ?_
      refine wo_seg Θ_ok [5, 6, 7, 8, 9, 10, 11, 12, 13, 14, 15] [(6, (.int .i64 p11)), (7, (.bool false))] rfl ⟨rfl, rfl, trivial⟩ ?_
      refine wo_nil ?_
      refine wq_seq ?_
      refine wc_ret ?_
      cases h
      exact wq_ret rfl ⟨_, rfl, ⟨_, _, rfl, (int_is.2 rfl), (bool_is.2 rfl)⟩, hF⟩
    refine wo_know 39 true rfl hc14 ?_
    refine wo_seg Θ_ok [5, 6, 7] [(1, (.int .u64 x1)), (35, (.int .i64 p11)), (39, (.bool true)), (40, v2), (41, (.slice A4 x0.length c5)), (42, (.int .i64 p11))] rfl ⟨rfl, rfl, rfl, rfl, rfl, rfl, trivial⟩ ?_
    obtain ⟨y17, hz18, h⟩ := bind_some h
    refine wo_index Θ_ok rfl rfl rfl rfl rfl rfl rfl rfl rfl rfl h0 rfl (idx_some hz18).1 (idx_some hz18).2 (fun p15 h16 => ?_)
    refine wo_loadp Θ_ok rfl rfl rfl rfl rfl rfl rfl h16 rfl rfl (fun v19 h20 => ?_)
    obtain ⟨v21, rfl, h22⟩ := tGBox_is.1 h20
    refine wo_seg Θ_ok [10] [(35, (.int .i64 p11)), (39, (.bool true)), (40, v2), (44, (.agg #[(.int .u64 y17.fPid), v21])), (45, (.int .u64 x1))] rfl ⟨rfl, rfl, rfl, rfl, rfl, trivial⟩ ?_
    obtain ⟨y23, hy24, h⟩ := bind_some h
    refine wo_dyn2 rfl rfl rfl rfl rfl rfl rfl h2 hO ((tGBox_is (x := y17)).2 ⟨_, rfl, h22⟩) (int_is.2 rfl) hy24 (fun v25 w26 h27 f28 => ?_)
    have hO := f28.ob hO
    have hF := hF.trans f28
    obtain rfl := int_is.1 h27
    refine wo_seg Θ_ok [12, 13, 14, 15] [(6, (.int .i64 p11)), (7, (.bool (y23 == (0 : Int))))] rfl ⟨rfl, rfl, trivial⟩ ?_
    refine wo_nil ?_
    refine wq_seq ?_
    refine wc_ret ?_
    cases h
    exact wq_ret rfl ⟨_, rfl, ⟨_, _, rfl, (int_is.2 rfl), (bool_is.2 rfl)⟩, hF⟩
  clear hk8
  have T6 := Tr.refl O w
  refine wc_block ?_
  refine wc_loop (fun m E W => ∃ (fl32 : Nat) (O33 : List Nat) (p30 : Int) (p31 : Int), fl32 = m ∧ E = [(0, (.slice A4 x0.length c5)), (1, (.int .u64 x1)), (2, v2), (8, (.int .i64 (x0.length : Int))), (9, (.int .i64 p30)), (10, (.int .i64 p31))] ∧ Tr O w O33 W ∧ OB O33 W ∧ Sub O O33 ∧ Fr [] w W ∧ s_BinB_l1 x0 x1 x2 k7 fl32 p30 p31 = some r) _ [(0, (.slice A4 x0.length c5)), (1, (.int .u64 x1)), (2, v2), (8, (.int .i64 (x0.length : Int))), (9, (.int .i64 0)), (10, (.int .i64 (x0.length : Int)))] ⟨rfl, rfl, rfl, rfl, rfl, rfl, trivial⟩ ⟨fuel, O, (0 : Int), (x0.length : Int), rfl, rfl, Tr.refl _ _, hO, hS, hF, h⟩ ?_
  rintro m E w34 ⟨fl32, O33, p30, p31, rfl, rfl, T29, hO, hS, hF, h⟩
  have T6 := T6.trans T29
  have h0 := h0.tr T29
  have h2 := h2.tr T29
  rcases fl32 with _ | fl32
  · rw [s_BinB_l1] at h
    cases h
  rw [s_BinB_l1] at h
  refine wc_seq ?_
  refine wc_seq ?_
  refine wc_region (l := [0, 1, 2]) rfl ?_
  refine wo_seg Θ_ok [0, 1, 2] [(0, (.slice A4 x0.length c5)), (1, (.int .u64 x1)), (2, v2), (8, (.int .i64 (x0.length : Int))), (9, (.int .i64 p30)), (10, (.int .i64 p31)), (17, (.bool (decide (p30 < p31))))] rfl ⟨rfl, rfl, rfl, rfl, rfl, rfl, rfl, trivial⟩ ?_
  refine wo_nil ?_
  refine wq_seq ?_
  rcases bif_some h with ⟨hc35, h⟩ | ⟨hc35, h⟩
  rotate_left
  · refine wc_known_false rfl hc35 ?_
    refine wc_exit ?_
    exact wq_then_exit (wq_then_exit (wq_block_exit (wq_join hK10 [(0, (.slice A4 x0.length c5)), (1, (.int .u64 x1)), (2, v2), (8, (.int .i64 (x0.length : Int))), (9, (.int .i64 p30))] ⟨rfl, rfl, rfl, rfl, rfl, trivial⟩ ⟨O33, p30, rfl, T6, hO, hS, hF, h⟩)))
  refine wc_known_true rfl hc35 ?_
  refine wc_skip ?_
  refine wq_seq ?_
  refine wc_block ?_
  refine wc_seq ?_
  refine wc_region (l := [0, 1, 2, 3, 4, 5, 6]) rfl ?_
  refine wo_seg Θ_ok [0, 1, 2, 3, 4, 5, 6] [(0, (.slice A4 x0.length c5)), (1, (.int .u64 x1)), (2, v2), (8, (.int .i64 (x0.length : Int))), (9, (.int .i64 p30)), (10, (.int .i64 p31)), (11, (.int .i64 (IntKind.i64.wrap ((IntKind.u64.wrap (IntKind.i64.wrap (p30 + p31))).fdiv (2 ^ 1)))))] rfl ⟨rfl, rfl, rfl, rfl, rfl, rfl, rfl, trivial⟩ ?_
  refine wo_nil ?_
  refine wq_seq ?_
  refine wc_seq ?_
  refine wc_region (l := [0, 1, 2, 3, 4, 5, 6, 7]) rfl ?_
  refine wo_seg Θ_ok [0, 1, 2] [(0, (.slice A4 x0.length c5)), (1, (.int .u64 x1)), (2, v2), (8, (.int .i64 (x0.length : Int))), (9, (.int .i64 p30)), (10, (.int .i64 p31)), (11, (.int .i64 (IntKind.i64.wrap ((IntKind.u64.wrap (IntKind.i64.wrap (p30 + p31))).fdiv (2 ^ 1))))), (24, v2), (25, (.slice A4 x0.length c5)), (26, (.int .i64 (IntKind.i64.wrap ((IntKind.u64.wrap (IntKind.i64.wrap (p30 + p31))).fdiv (2 ^ 1)))))] rfl ⟨rfl, rfl, rfl, rfl, rfl, rfl, rfl, rfl, rfl, rfl, trivial⟩ ?_
  obtain ⟨y38, hz39, h⟩ := bind_some h
  refine wo_index Θ_ok rfl rfl rfl rfl rfl rfl rfl rfl rfl rfl h0 rfl (idx_some hz39).1 (idx_some hz39).2 (fun p36 h37 => ?_)
  refine wo_loadp Θ_ok rfl rfl rfl rfl rfl rfl rfl h37 rfl rfl (fun v40 h41 => ?_)
  obtain ⟨v42, rfl, h43⟩ := tGBox_is.1 h41
  refine wo_seg Θ_ok [5] [(0, (.slice A4 x0.length c5)), (1, (.int .u64 x1)), (2, v2), (8, (.int .i64 (x0.length : Int))), (9, (.int .i64 p30)), (10, (.int .i64 p31)), (11, (.int .i64 (IntKind.i64.wrap ((IntKind.u64.wrap (IntKind.i64.wrap (p30 + p31))).fdiv (2 ^ 1))))), (24, v2), (28, (.agg #[(.int .u64 y38.fPid), v42])), (29, (.int .u64 x1))] rfl ⟨rfl, rfl, rfl, rfl, rfl, rfl, rfl, rfl, rfl, rfl, trivial⟩ ?_
  obtain ⟨y44, hy45, h⟩ := bind_some h
  refine wo_dyn2 rfl rfl rfl rfl rfl rfl rfl h2 hO ((tGBox_is (x := y38)).2 ⟨_, rfl, h43⟩) (int_is.2 rfl) hy45 (fun v46 w47 h48 f49 => ?_)
  have h0 := h0.tr f49.tr0
  have h2 := h2.tr f49.tr0
  have T6 := T6.trans f49.tr0
  have T29 := T29.trans f49.tr0
  have hO := f49.ob hO
  have hF := hF.trans f49
  obtain rfl := int_is.1 h48
  refine wo_seg Θ_ok [7] [(0, (.slice A4 x0.length c5)), (1, (.int .u64 x1)), (2, v2), (8, (.int .i64 (x0.length : Int))), (9, (.int .i64 p30)), (10, (.int .i64 p31)), (11, (.int .i64 (IntKind.i64.wrap ((IntKind.u64.wrap (IntKind.i64.wrap (p30 + p31))).fdiv (2 ^ 1))))), (31, (.bool (decide (y44 < (0 : Int)))))] rfl ⟨rfl, rfl, rfl, rfl, rfl, rfl, rfl, rfl, trivial⟩ ?_
  refine wo_nil ?_
  refine wq_seq ?_
  rcases bif_some h with ⟨hc50, h⟩ | ⟨hc50, h⟩
  · refine wc_known_true rfl hc50 ?_
    refine wc_region (l := [0, 1, 2]) rfl ?_
    refine wo_seg Θ_ok [0, 1, 2] [(0, (.slice A4 x0.length c5)), (1, (.int .u64 x1)), (2, v2), (8, (.int .i64 (x0.length : Int))), (9, (.int .i64 (IntKind.i64.wrap ((IntKind.i64.wrap ((IntKind.u64.wrap (IntKind.i64.wrap (p30 + p31))).fdiv (2 ^ 1))) + (1 : Int))))), (10, (.int .i64 p31))] rfl ⟨rfl, rfl, rfl, rfl, rfl, rfl, trivial⟩ ?_
    refine wo_nil ?_
    exact wq_block (wq_next fl32 [(0, (.slice A4 x0.length c5)), (1, (.int .u64 x1)), (2, v2), (8, (.int .i64 (x0.length : Int))), (9, (.int .i64 (IntKind.i64.wrap ((IntKind.i64.wrap ((IntKind.u64.wrap (IntKind.i64.wrap (p30 + p31))).fdiv (2 ^ 1))) + (1 : Int))))), (10, (.int .i64 p31))] (Nat.lt_succ_self _) ⟨rfl, rfl, rfl, rfl, rfl, rfl, trivial⟩ ⟨fl32, O33, (IntKind.i64.wrap ((IntKind.i64.wrap ((IntKind.u64.wrap (IntKind.i64.wrap (p30 + p31))).fdiv (2 ^ 1))) + (1 : Int))), p31, rfl, rfl, T29, hO, hS, hF, h⟩)
  refine wc_known_false rfl hc50 ?_
  refine wc_region (l := [0, 1]) rfl ?_
  refine wo_seg Θ_ok [0, 1] [(0, (.slice A4 x0.length c5)), (1, (.int .u64 x1)), (2, v2), (8, (.int .i64 (x0.length : Int))), (9, (.int .i64 p30)), (10, (.int .i64 (IntKind.i64.wrap ((IntKind.u64.wrap (IntKind.i64.wrap (p30 + p31))).fdiv (2 ^ 1)))))] rfl ⟨rfl, rfl, rfl, rfl, rfl, rfl, trivial⟩ ?_
  refine wo_nil ?_
  exact wq_block (wq_next fl32 [(0, (.slice A4 x0.length c5)), (1, (.int .u64 x1)), (2, v2), (8, (.int .i64 (x0.length : Int))), (9, (.int .i64 p30)), (10, (.int .i64 (IntKind.i64.wrap ((IntKind.u64.wrap (IntKind.i64.wrap (p30 + p31))).fdiv (2 ^ 1)))))] (Nat.lt_succ_self _) ⟨rfl, rfl, rfl, rfl, rfl, rfl, trivial⟩ ⟨fl32, O33, p30, (IntKind.i64.wrap ((IntKind.u64.wrap (IntKind.i64.wrap (p30 + p31))).fdiv (2 ^ 1))), rfl, rfl, T29, hO, hS, hF, h⟩)
set_option maxRecDepth 100000 in
set_option maxHeartbeats 4000000 in
theorem i_findB_c {O : List Nat} {w : World} (hO : OB O w) {fuel : Nat} {v0 : Value} {x0 : List GBox} (h0 : (Ty.slice tGBox).is O w v0 x0) {v1 : Value} {x1 : Int} (h1 : (Ty.int .u64).is O w v1 x1) {v2 : Value} {x2 : GBox → Option (Int)} (h2 : (Ty.fn1 Try.prog tGBox (rt1 (Ty.int .u64))).is O w v2 x2) {r : Int × Bool} (h : i_findB fuel x0 x1 x2 = some r) : Calls Try.prog 63 #[v0, v1, v2] w (Gives (rt2 (Ty.int .i64) Ty.bool) O w r) := by
  obtain rfl := int_is.1 h1
  have hF := Fr.refl [] w
  have hO0 := hO
  have hS := Sub.refl O
  refine calls_of (args := [v0, (.int .u64 x1), v2]) (N := 14) Try.func63 rfl rfl rfl ?_
  unfold i_findB at h
  refine wc_seq ?_
  refine wc_region (l := [0, 1, 2]) rfl ?_
  refine wo_box rfl rfl rfl rfl rfl rfl [v2] (cells_of rfl h2) hO (fun b4 w5 n6 => ?_)
  have h0 := h0.tr n6.tr
  have h2 := h2.tr n6.tr
  have hb4 := n6.blk
  have gb4 := n6.ge0 hF
  have ib4 : b4 ∈ b4 :: O := List.mem_cons_self
  have hO := n6.ob
  have hF := hF.trans n6.fr
  have hS := Sub.cons hS b4
  refine wo_seg Θ_ok [1, 2] [(0, v0), (1, (.int .u64 x1)), (5, (bp b4))] rfl ⟨rfl, rfl, rfl, trivial⟩ ?_
  refine wo_nil ?_
  refine wq_seq ?_
  refine wc_seq ?_
  refine wc_region (l := [0, 1, 2, 3, 4, 5, 6, 7]) rfl ?_
  refine wo_seg Θ_ok [0, 1] [(5, (bp b4)), (8, v0), (9, (.int .u64 x1))] rfl ⟨rfl, rfl, rfl, trivial⟩ ?_
  have p7 := rel_ptr (T := (Ty.fn1 Try.prog tGBox (rt1 (Ty.int .u64)))) hb4 (Ty.tr _ (rel_tr b4 (b4 :: O) w5) (rep_of rfl h2))
  have h0 := h0.tr (rel_tr b4 (b4 :: O) w5)
  have h2 := h2.tr (rel_tr b4 (b4 :: O) w5)
  have hO := rel_ob (b := b4) hO
  have hS := rel_sub hS hO0 gb4
  refine wo_seg Θ_ok [2] [(8, v0), (9, (.int .u64 x1)), (10, (.func (.func 69) #[] #[(bp b4)]))] rfl ⟨rfl, rfl, rfl, trivial⟩ ?_
  obtain ⟨y12, hy13, h⟩ := bind_some h
  refine wo_gives rfl rfl rfl rfl rfl ent68 rfl (s_BinB_c hO h0 (int_is.2 rfl) (fn2_is (first := []) (cap := [(bp b4)]) ent69 (fun O' w' ht hO u0 z0 q0 u1 z1 q1 y hy => i_find2_c hO q0 q1 (p7.tr ht) hy)) hy13) (fun v8 w9 h10 f11 => ?_)
  have hO := f11.ob hO
  have hF := hF.trans f11
  obtain ⟨u14, u16, rfl, h15, h17⟩ := h10
  obtain rfl := int_is.1 h15
  obtain rfl := bool_is.1 h17
  refine wo_seg Θ_ok [4, 5, 6, 7] [(6, (.int .i64 y12.1)), (7, (.bool y12.2))] rfl ⟨rfl, rfl, trivial⟩ ?_
  refine wo_nil ?_
  refine wq_seq ?_
  refine wc_ret ?_
  cases h
  exact wq_ret rfl ⟨_, rfl, ⟨_, _, rfl, (int_is.2 rfl), (bool_is.2 rfl)⟩, hF⟩
end Go.Proofs.Ytjdeaihnpgkphaa
