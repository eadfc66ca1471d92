/-
  The program's functions compute the plain ones (printed by a tool of the prover's).
-/
import Derived.Test.YtjdeaihnpgkphaaGWalk7
namespace Go.Proofs.Ytjdeaihnpgkphaa
open Go.RowKit Go.Dc Go.Shelf
set_option maxRecDepth 100000 in
set_option maxHeartbeats 4000000 in
theorem r_Back_c {O : List Nat} {w : World} (hO : OB O w) {fuel : Nat} {v0 : Value} {x0 : Int} (h0 : (Ty.int .u64).is O w v0 x0) {r : ByteArray × Bool} (h : r_Back fuel x0 = some r) : Calls Try.prog 50 #[v0] w (Gives (rt2 Ty.str Ty.bool) O w r) := by
  obtain rfl := int_is.1 h0
  have hF := Fr.refl [] w
  have hO0 := hO
  have hS := Sub.refl O
  refine calls_of (args := [(.int .u64 x0)]) (N := 20) Try.func50 rfl rfl rfl ?_
  unfold r_Back at h
  refine wc_seq ?_
  refine wc_region (l := [0, 1]) rfl ?_
  refine wo_seg Θ_ok [0, 1] [(0, (.int .u64 x0))] rfl ⟨rfl, trivial⟩ ?_
  refine wo_nil ?_
  refine wq_seq ?_
  refine wc_seq ?_
  refine wc_region (l := [0]) rfl ?_
  refine wo_seg Θ_ok [0] [(0, (.int .u64 x0)), (4, (.string ⟨#[]⟩))] rfl ⟨rfl, rfl, trivial⟩ ?_
  refine wo_nil ?_
  refine wq_seq ?_
  obtain ⟨k3, hk4, h⟩ := letk_some h
  refine wc_join (fun E W => ∃ (O8 : List Nat) (p7 : ByteArray), E = [(4, (.string p7))] ∧ Tr O w O8 W ∧ OB O8 W ∧ Sub O O8 ∧ Fr [] w W ∧ k3 p7 = some r) ?_ (fun K5 hK6 => ?_)
  · rintro E w9 ⟨O8, p7, rfl, T2, hO, hS, hF, h⟩
    subst hk4
    (try dsimp only at h)
    refine wc_seq ?_
    refine wc_region (l := [0, 1, 2]) rfl ?_
    refine wo_seg Θ_ok [0, 1, 2] [(2, (.string p7)), (3, (.bool true))] rfl ⟨rfl, rfl, trivial⟩ ?_
    refine wo_nil ?_
    refine wq_seq ?_
    refine wc_ret ?_
    cases h
    exact wq_ret rfl ⟨_, rfl, ⟨_, _, rfl, ((str_is.2 rfl).tr (Tr.less hS)), (bool_is.2 rfl)⟩, hF⟩
  clear hk4
  have T2 := Tr.refl O w
  refine wc_block ?_
  refine wc_loop (fun m E W => ∃ (fl13 : Nat) (O14 : List Nat) (p11 : Int) (p12 : ByteArray), fl13 = m ∧ E = [(0, (.int .u64 p11)), (4, (.string p12))] ∧ Tr O w O14 W ∧ OB O14 W ∧ Sub O O14 ∧ Fr [] w W ∧ r_Back_l1 k3 fl13 p11 p12 = some r) _ [(0, (.int .u64 x0)), (4, (.string ⟨#[]⟩))] ⟨rfl, rfl, trivial⟩ ⟨fuel, O, x0, (⟨#[]⟩ : ByteArray), rfl, rfl, Tr.refl _ _, hO, hS, hF, h⟩ ?_
  rintro m E w15 ⟨fl13, O14, p11, p12, rfl, rfl, T10, hO, hS, hF, h⟩
  have T2 := T2.trans T10
  rcases fl13 with _ | fl13
  · rw [r_Back_l1] at h
    cases h
  rw [r_Back_l1] at h
  refine wc_seq ?_
  refine wc_seq ?_
  refine wc_region (l := [0, 1]) rfl ?_
  refine wo_seg Θ_ok [0, 1] [(0, (.int .u64 p11)), (4, (.string p12)), (6, (.bool (decide (p11 > (0 : Int)))))] rfl ⟨rfl, rfl, rfl, trivial⟩ ?_
  refine wo_nil ?_
  refine wq_seq ?_
  rcases bif_some h with ⟨hc16, h⟩ | ⟨hc16, h⟩
  rotate_left
  · refine wc_known_false rfl hc16 ?_
    refine wc_exit ?_
    exact wq_then_exit (wq_then_exit (wq_block_exit (wq_join hK6 [(4, (.string p12))] ⟨rfl, trivial⟩ ⟨O14, p12, rfl, T2, hO, hS, hF, h⟩)))
  refine wc_known_true rfl hc16 ?_
  refine wc_skip ?_
  refine wq_seq ?_
  refine wc_block ?_
  refine wc_seq ?_
  refine wc_seq ?_
  refine wc_region (l := [0, 1, 2]) rfl ?_
  refine wo_seg Θ_ok [0, 1, 2] [(0, (.int .u64 p11)), (4, (.string p12)), (9, (.bool ((p11.tmod (256 : Int)) == (0 : Int))))] rfl ⟨rfl, rfl, rfl, trivial⟩ ?_
  refine wo_nil ?_
  refine wq_seq ?_
  rcases bif_some h with ⟨hc17, h⟩ | ⟨hc17, h⟩
  · refine wc_known_true rfl hc17 ?_
    refine wc_seq ?_
    refine wc_region (l := [0, 1]) rfl ?_
    refine wo_seg Θ_ok [0, 1] [(2, (.string ⟨#[]⟩)), (3, (.bool false))] rfl ⟨rfl, rfl, trivial⟩ ?_
    refine wo_nil ?_
    refine wq_seq ?_
    refine wc_ret ?_
    cases h
    exact wq_then_ret (wq_block_ret (wq_then_ret (wq_block_ret (wq_then_ret (wq_ret rfl ⟨_, rfl, ⟨_, _, rfl, ((str_is.2 rfl).tr (Tr.less hS)), (bool_is.2 rfl)⟩, hF⟩)))))
  refine wc_known_false rfl hc17 ?_
  refine wc_skip ?_
  refine wq_seq ?_
  refine wc_seq ?_
  refine wc_region (l := [0, 1, 2, 3, 4, 5, 6, 7]) rfl ?_
  refine wo_seg Θ_ok [0, 1, 2, 3] [(0, (.int .u64 p11)), (10, (.string p12)), (13, (.int .u8 (IntKind.u8.wrap (p11.tmod (256 : Int)))))] rfl ⟨rfl, rfl, rfl, trivial⟩ ?_
  refine wo_litd Θ_ok rfl rfl rfl rfl rfl rfl rfl rfl rfl rfl (T := (Ty.int .u8)) (xs := [(IntKind.u8.wrap (p11.tmod (256 : Int)))]) (vs := [(.int .u8 (IntKind.u8.wrap (p11.tmod (256 : Int))))]) rfl ⟨(int_is.2 rfl), trivial⟩ rfl rfl rfl hO (fun v18 w19 h20 f21 => ?_)
  have T2 := T2.trans f21.tr0
  have T10 := T10.trans f21.tr0
  have hO := f21.ob hO
  have hF := hF.trans f21
  refine wo_b2s Θ_ok rfl rfl rfl rfl rfl rfl rfl rfl rfl rfl rfl rfl rfl h20 ?_
  obtain ⟨y22, hz23, h⟩ := bind_some h
  refine wo_bin rfl rfl rfl rfl rfl rfl rfl (run_sadd hz23) ?_
  refine wo_seg Θ_ok [7] [(0, (.int .u64 p11)), (4, (.string y22))] rfl ⟨rfl, rfl, trivial⟩ ?_
  refine wo_nil ?_
  refine wq_seq ?_
  refine wc_region (l := [0, 1, 2]) rfl ?_
  refine wo_seg Θ_ok [0, 1, 2] [(0, (.int .u64 (IntKind.u64.wrap (p11.tdiv (256 : Int))))), (4, (.string y22))] rfl ⟨rfl, rfl, trivial⟩ ?_
  refine wo_nil ?_
  exact wq_block (wq_next fl13 [(0, (.int .u64 (IntKind.u64.wrap (p11.tdiv (256 : Int))))), (4, (.string y22))] (Nat.lt_succ_self _) ⟨rfl, rfl, trivial⟩ ⟨fl13, O14, (IntKind.u64.wrap (p11.tdiv (256 : Int))), y22, rfl, rfl, T10, hO, hS, hF, h⟩)
set_option maxRecDepth 100000 in
set_option maxHeartbeats 4000000 in
theorem r_Is_c {O : List Nat} {w : World} (hO : OB O w) {fuel : Nat} {v0 : Value} {x0 : Int} (h0 : (Ty.int .u64).is O w v0 x0) {r : Bool} (h : r_Is fuel x0 = some r) : Calls Try.prog 32 #[v0] w (Gives (rt1 Ty.bool) O w r) := by
  obtain rfl := int_is.1 h0
  have hF := Fr.refl [] w
  have hO0 := hO
  have hS := Sub.refl O
  refine calls_of (args := [(.int .u64 x0)]) (N := 48) Try.func32 rfl rfl rfl ?_
  unfold r_Is at h
  refine wc_seq ?_
  refine wc_region (l := [0]) rfl ?_
  refine wo_seg Θ_ok [0] [(0, (.int .u64 x0))] rfl ⟨rfl, trivial⟩ ?_
  refine wo_nil ?_
  refine wq_seq ?_
  refine wc_seq ?_
  refine wc_region (l := [0, 1, 2, 3, 4, 5, 6]) rfl ?_
  refine wo_seg Θ_ok [0] [(7, (.int .u64 x0))] rfl ⟨rfl, trivial⟩ ?_
  obtain ⟨y6, hy7, h⟩ := bind_some h
  refine wo_gives rfl rfl rfl rfl rfl ent50 rfl (r_Back_c hO (int_is.2 rfl) hy7) (fun v2 w3 h4 f5 => ?_)
  have hO := f5.ob hO
  have hF := hF.trans f5
  obtain ⟨u8, u10, rfl, h9, h11⟩ := h4
  obtain rfl := str_is.1 h9
  obtain rfl := bool_is.1 h11
  refine wo_seg Θ_ok [2, 3, 4, 5, 6] [(3, (.string y6.1)), (4, (.bool y6.2))] rfl ⟨rfl, rfl, trivial⟩ ?_
  refine wo_nil ?_
  refine wq_seq ?_
  obtain ⟨k13, hk14, h⟩ := letk_some h
  refine wc_join (fun E W => ∃ (O18 : List Nat) (p17 : Bool), E = [(3, (.string y6.1)), (4, (.bool p17))] ∧ Tr O w3 O18 W ∧ OB O18 W ∧ Sub O O18 ∧ Fr [] w W ∧ k13 p17 = some r) ?_ (fun K15 hK16 => ?_)
  · rintro E w19 ⟨O18, p17, rfl, T12, hO, hS, hF, h⟩
    subst hk14
    (try dsimp only at h)
    refine wc_seq ?_
    refine wc_region (l := [0, 1, 2, 3, 4, 5, 6]) rfl ?_
    refine wo_seg Θ_ok [0, 1] [(3, (.string y6.1)), (43, (.bool p17))] rfl ⟨rfl, rfl, trivial⟩ ?_
    rcases bif_some h with ⟨hc20, h⟩ | ⟨hc20, h⟩
    · refine wo_know 43 true rfl hc20 ?_
      refine wo_seg Θ_ok [2, 3, 4, 5, 6] [(2, (.bool (decide ((y6.1.size : Int) > (0 : Int)))))] rfl ⟨rfl, trivial⟩ ?_
      refine wo_nil ?_
      refine wq_seq ?_
      refine wc_ret ?_
      cases h
      exact wq_ret rfl ⟨_, rfl, (bool_is.2 rfl), hF⟩
    refine wo_know 43 false rfl hc20 ?_
    refine wo_seg Θ_ok [2, 3, 4, 5, 6] [(2, (.bool false))] rfl ⟨rfl, trivial⟩ ?_
    refine wo_nil ?_
    refine wq_seq ?_
    refine wc_ret ?_
    cases h
    exact wq_ret rfl ⟨_, rfl, (bool_is.2 rfl), hF⟩
  clear hk14
  have T12 := Tr.refl O w3
  refine wc_seq ?_
  refine wc_region (l := [0, 1, 2]) rfl ?_
  refine wo_seg Θ_ok [0, 1, 2] [(3, (.string y6.1)), (4, (.bool y6.2)), (12, (.int .i64 (y6.1.size : Int))), (13, (.int .i64 0))] rfl ⟨rfl, rfl, rfl, rfl, trivial⟩ ?_
  refine wo_nil ?_
  refine wq_seq ?_
  refine wc_block ?_
  refine wc_loop (fun m E W => ∃ (fl24 : Nat) (O25 : List Nat) (p22 : Bool) (p23 : Int), fl24 = m ∧ E = [(3, (.string y6.1)), (4, (.bool p22)), (12, (.int .i64 (y6.1.size : Int))), (13, (.int .i64 p23))] ∧ Tr O w3 O25 W ∧ OB O25 W ∧ Sub O O25 ∧ Fr [] w W ∧ r_Is_l1 y6 k13 fl24 p22 p23 = some r) _ [(3, (.string y6.1)), (4, (.bool y6.2)), (12, (.int .i64 (y6.1.size : Int))), (13, (.int .i64 0))] ⟨rfl, rfl, rfl, rfl, trivial⟩ ⟨fuel, O, y6.2, (0 : Int), rfl, rfl, Tr.refl _ _, hO, hS, hF, h⟩ ?_
  rintro m E w26 ⟨fl24, O25, p22, p23, rfl, rfl, T21, hO, hS, hF, h⟩
  have T12 := T12.trans T21
  rcases fl24 with _ | fl24
  · rw [r_Is_l1] at h
    cases h
  rw [r_Is_l1] at h
  refine wc_seq ?_
  refine wc_region (l := [0]) rfl ?_
  refine wo_seg Θ_ok [0] [(3, (.string y6.1)), (4, (.bool p22)), (12, (.int .i64 (y6.1.size : Int))), (13, (.int .i64 p23)), (14, (.bool (decide (p23 < (y6.1.size : Int)))))] rfl ⟨rfl, rfl, rfl, rfl, rfl, trivial⟩ ?_
  refine wo_nil ?_
  refine wq_seq ?_
  refine wc_seq ?_
  rcases bif_some h with ⟨hc27, h⟩ | ⟨hc27, h⟩
  rotate_left
  · refine wc_known_false rfl hc27 ?_
    refine wc_exit ?_
    exact wq_then_exit (wq_then_exit (wq_block_exit (wq_join hK16 [(3, (.string y6.1)), (4, (.bool p22))] ⟨rfl, rfl, trivial⟩ ⟨O25, p22, rfl, T12, hO, hS, hF, h⟩)))
  refine wc_known_true rfl hc27 ?_
  refine wc_skip ?_
  refine wq_seq ?_
  refine wc_seq ?_
  refine wc_block ?_
  refine wc_seq ?_
  refine wc_region (l := [0, 1]) rfl ?_
  refine wo_seg Θ_ok [0, 1] [(3, (.string y6.1)), (4, (.bool p22)), (5, (.int .i64 p23)), (12, (.int .i64 (y6.1.size : Int))), (13, (.int .i64 p23))] rfl ⟨rfl, rfl, rfl, rfl, rfl, trivial⟩ ?_
  refine wo_nil ?_
  refine wq_seq ?_
  refine wc_region (l := [0, 1, 2, 3, 4, 5, 6, 7, 8, 9, 10, 11, 12, 13, 14, 15, 16, 17, 18, 19, 20, 21, 22, 23, 24, 25]) rfl ?_
  refine wo_seg Θ_ok [0, 1] [(3, (.string y6.1)), (5, (.int .i64 p23)), (12, (.int .i64 (y6.1.size : Int))), (13, (.int .i64 p23)), (17, (.bool p22))] rfl ⟨rfl, rfl, rfl, rfl, rfl, trivial⟩ ?_
  rcases bif_some h with ⟨hc28, h⟩ | ⟨hc28, h⟩
  rotate_left
  · refine wo_know 17 false rfl hc28 ?_
    refine wo_seg Θ_ok [2, 3, 4, 5, 6, 7, 8, 9, 10, 11, 12, 13, 14, 15, 16, 17, 18, 19, 20, 21, 22, 23, 24, 25] [(3, (.string y6.1)), (4, (.bool false)), (12, (.int .i64 (y6.1.size : Int))), (13, (.int .i64 p23))] rfl ⟨rfl, rfl, rfl, rfl, trivial⟩ ?_
    refine wo_nil ?_
    refine wq_block (wq_seq ?_)
    refine wc_region (l := [0, 1]) rfl ?_
    refine wo_seg Θ_ok [0, 1] [(3, (.string y6.1)), (4, (.bool false)), (12, (.int .i64 (y6.1.size : Int))), (13, (.int .i64 (IntKind.i64.wrap (p23 + (1 : Int)))))] rfl ⟨rfl, rfl, rfl, rfl, trivial⟩ ?_
    refine wo_nil ?_
    exact wq_next fl24 [(3, (.string y6.1)), (4, (.bool false)), (12, (.int .i64 (y6.1.size : Int))), (13, (.int .i64 (IntKind.i64.wrap (p23 + (1 : Int)))))] (Nat.lt_succ_self _) ⟨rfl, rfl, rfl, rfl, trivial⟩ ⟨fl24, O25, false, (IntKind.i64.wrap (p23 + (1 : Int))), rfl, rfl, T21, hO, hS, hF, h⟩
  refine wo_know 17 true rfl hc28 ?_
  refine wo_seg Θ_ok [2, 3] [(3, (.string y6.1)), (5, (.int .i64 p23)), (12, (.int .i64 (y6.1.size : Int))), (13, (.int .i64 p23)), (17, (.bool true)), (18, (.string y6.1)), (19, (.int .i64 p23))] rfl ⟨rfl, rfl, rfl, rfl, rfl, rfl, rfl, trivial⟩ ?_
  obtain ⟨y29, hz30, h⟩ := bind_some h
  refine wo_sindex Θ_ok rfl rfl rfl rfl rfl rfl rfl rfl rfl hz30 ?_
  refine wo_seg Θ_ok [5, 6] [(3, (.string y6.1)), (5, (.int .i64 p23)), (12, (.int .i64 (y6.1.size : Int))), (13, (.int .i64 p23)), (17, (.bool true)), (22, (.bool (decide (y29 ≥ (97 : Int)))))] rfl ⟨rfl, rfl, rfl, rfl, rfl, rfl, trivial⟩ ?_
  rcases bif_some h with ⟨hc31, h⟩ | ⟨hc31, h⟩
  rotate_left
  · refine wo_know 22 false rfl hc31 ?_
    refine wo_seg Θ_ok [7, 8, 9, 10, 11, 12, 13, 14] [(3, (.string y6.1)), (5, (.int .i64 p23)), (12, (.int .i64 (y6.1.size : Int))), (13, (.int .i64 p23)), (17, (.bool true)), (28, (.bool false)), (29, (.string y6.1)), (30, (.int .i64 p23))] rfl ⟨rfl, rfl, rfl, rfl, rfl, rfl, rfl, rfl, trivial⟩ ?_
    obtain ⟨y40, hz41, h⟩ := bind_some h
    refine wo_sindex Θ_ok rfl rfl rfl rfl rfl rfl rfl rfl rfl hz41 ?_
    refine wo_seg Θ_ok [16, 17] [(3, (.string y6.1)), (5, (.int .i64 p23)), (12, (.int .i64 (y6.1.size : Int))), (13, (.int .i64 p23)), (17, (.bool true)), (28, (.bool false)), (33, (.bool (decide (y40 ≥ (48 : Int)))))] rfl ⟨rfl, rfl, rfl, rfl, rfl, rfl, rfl, trivial⟩ ?_
    rcases bif_some h with ⟨hc42, h⟩ | ⟨hc42, h⟩
    rotate_left
    · refine wo_know 33 false rfl hc42 ?_
      refine wo_seg Θ_ok [18, 19, 20, 21, 22, 23, 24, 25] [(3, (.string y6.1)), (4, (.bool false)), (12, (.int .i64 (y6.1.size : Int))), (13, (.int .i64 p23))] rfl ⟨rfl, rfl, rfl, rfl, trivial⟩ ?_
      refine wo_nil ?_
      refine wq_block (wq_seq ?_)
      refine wc_region (l := [0, 1]) rfl ?_
      refine wo_seg Θ_ok [0, 1] [(3, (.string y6.1)), (4, (.bool false)), (12, (.int .i64 (y6.1.size : Int))), (13, (.int .i64 (IntKind.i64.wrap (p23 + (1 : Int)))))] rfl ⟨rfl, rfl, rfl, rfl, trivial⟩ ?_
      refine wo_nil ?_
      exact wq_next fl24 [(3, (.string y6.1)), (4, (.bool false)), (12, (.int .i64 (y6.1.size : Int))), (13, (.int .i64 (IntKind.i64.wrap (p23 + (1 : Int)))))] (Nat.lt_succ_self _) ⟨rfl, rfl, rfl, rfl, trivial⟩ ⟨fl24, O25, false, (IntKind.i64.wrap (p23 + (1 : Int))), rfl, rfl, T21, hO, hS, hF, h⟩
    refine wo_know 33 true rfl hc42 ?_
    refine wo_seg Θ_ok [18, 19] [(3, (.string y6.1)), (12, (.int .i64 (y6.1.size : Int))), (13, (.int .i64 p23)), (17, (.bool true)), (28, (.bool false)), (33, (.bool true)), (34, (.string y6.1)), (35, (.int .i64 p23))] rfl ⟨rfl, rfl, rfl, rfl, rfl, rfl, rfl, rfl, trivial⟩ ?_
    obtain ⟨y43, hz44, h⟩ := bind_some h
    refine wo_sindex Θ_ok rfl rfl rfl rfl rfl rfl rfl rfl rfl hz44 ?_
    refine wo_seg Θ_ok [21, 22, 23, 24, 25] [(3, (.string y6.1)), (4, (.bool (decide (y43 ≤ (57 : Int))))), (12, (.int .i64 (y6.1.size : Int))), (13, (.int .i64 p23))] rfl ⟨rfl, rfl, rfl, rfl, trivial⟩ ?_
    refine wo_nil ?_
    refine wq_block (wq_seq ?_)
    refine wc_region (l := [0, 1]) rfl ?_
    refine wo_seg Θ_ok [0, 1] [(3, (.string y6.1)), (4, (.bool (decide (y43 ≤ (57 : Int))))), (12, (.int .i64 (y6.1.size : Int))), (13, (.int .i64 (IntKind.i64.wrap (p23 + (1 : Int)))))] rfl ⟨rfl, rfl, rfl, rfl, trivial⟩ ?_
    refine wo_nil ?_
    exact wq_next fl24 [(3, (.string y6.1)), (4, (.bool (decide (y43 ≤ (57 : Int))))), (12, (.int .i64 (y6.1.size : Int))), (13, (.int .i64 (IntKind.i64.wrap (p23 + (1 : Int)))))] (Nat.lt_succ_self _) ⟨rfl, rfl, rfl, rfl, trivial⟩ ⟨fl24, O25, (decide (y43 ≤ (57 : Int))), (IntKind.i64.wrap (p23 + (1 : Int))), rfl, rfl, T21, hO, hS, hF, h⟩
  refine wo_know 22 true rfl hc31 ?_
  refine wo_seg Θ_ok [7, 8] [(3, (.string y6.1)), (5, (.int .i64 p23)), (12, (.int .i64 (y6.1.size : Int))), (13, (.int .i64 p23)), (17, (.bool true)), (22, (.bool true)), (23, (.string y6.1)), (24, (.int .i64 p23))] rfl ⟨rfl, rfl, rfl, rfl, rfl, rfl, rfl, rfl, trivial⟩ ?_
  obtain ⟨y32, hz33, h⟩ := bind_some h
  refine wo_sindex Θ_ok rfl rfl rfl rfl rfl rfl rfl rfl rfl hz33 ?_
  refine wo_seg Θ_ok [10, 11, 12] [(3, (.string y6.1)), (5, (.int .i64 p23)), (12, (.int .i64 (y6.1.size : Int))), (13, (.int .i64 p23)), (17, (.bool true)), (28, (.bool (decide (y32 ≤ (122 : Int)))))] rfl ⟨rfl, rfl, rfl, rfl, rfl, rfl, trivial⟩ ?_
  rcases bif_some h with ⟨hc34, h⟩ | ⟨hc34, h⟩
  · refine wo_know 28 true rfl hc34 ?_
    refine wo_seg Θ_ok [13, 14, 15, 16, 17, 18, 19, 20, 21, 22, 23, 24, 25] [(3, (.string y6.1)), (4, (.bool true)), (12, (.int .i64 (y6.1.size : Int))), (13, (.int .i64 p23))] rfl ⟨rfl, rfl, rfl, rfl, trivial⟩ ?_
    refine wo_nil ?_
    refine wq_block (wq_seq ?_)
    refine wc_region (l := [0, 1]) rfl ?_
    refine wo_seg Θ_ok [0, 1] [(3, (.string y6.1)), (4, (.bool true)), (12, (.int .i64 (y6.1.size : Int))), (13, (.int .i64 (IntKind.i64.wrap (p23 + (1 : Int)))))] rfl ⟨rfl, rfl, rfl, rfl, trivial⟩ ?_
    refine wo_nil ?_
    exact wq_next fl24 [(3, (.string y6.1)), (4, (.bool true)), (12, (.int .i64 (y6.1.size : Int))), (13, (.int .i64 (IntKind.i64.wrap (p23 + (1 : Int)))))] (Nat.lt_succ_self _) ⟨rfl, rfl, rfl, rfl, trivial⟩ ⟨fl24, O25, true, (IntKind.i64.wrap (p23 + (1 : Int))), rfl, rfl, T21, hO, hS, hF, h⟩
  refine wo_know 28 false rfl hc34 ?_
  refine wo_seg Θ_ok [13, 14] [(3, (.string y6.1)), (5, (.int .i64 p23)), (12, (.int .i64 (y6.1.size : Int))), (13, (.int .i64 p23)), (17, (.bool true)), (28, (.bool false)), (29, (.string y6.1)), (30, (.int .i64 p23))] rfl ⟨rfl, rfl, rfl, rfl, rfl, rfl, rfl, rfl, trivial⟩ ?_
  obtain ⟨y35, hz36, h⟩ := bind_some h
  refine wo_sindex Θ_ok rfl rfl rfl rfl rfl rfl rfl rfl rfl hz36 ?_
  refine wo_seg Θ_ok [16, 17] [(3, (.string y6.1)), (5, (.int .i64 p23)), (12, (.int .i64 (y6.1.size : Int))), (13, (.int .i64 p23)), (17, (.bool true)), (28, (.bool false)), (33, (.bool (decide (y35 ≥ (48 : Int)))))] rfl ⟨rfl, rfl, rfl, rfl, rfl, rfl, rfl, trivial⟩ ?_
  rcases bif_some h with ⟨hc37, h⟩ | ⟨hc37, h⟩
  rotate_left
  · refine wo_know 33 false rfl hc37 ?_
    refine wo_seg Θ_ok [18, 19, 20, 21, 22, 23, 24, 25] [(3, (.string y6.1)), (4, (.bool false)), (12, (.int .i64 (y6.1.size : Int))), (13, (.int .i64 p23))] rfl ⟨rfl, rfl, rfl, rfl, trivial⟩ ?_
    refine wo_nil ?_
    refine wq_block (wq_seq ?_)
    refine wc_region (l := [0, 1]) rfl ?_
    refine wo_seg Θ_ok [0, 1] [(3, (.string y6.1)), (4, (.bool false)), (12, (.int .i64 (y6.1.size : Int))), (13, (.int .i64 (IntKind.i64.wrap (p23 + (1 : Int)))))] rfl ⟨rfl, rfl, rfl, rfl, trivial⟩ ?_
    refine wo_nil ?_
    exact wq_next fl24 [(3, (.string y6.1)), (4, (.bool false)), (12, (.int .i64 (y6.1.size : Int))), (13, (.int .i64 (IntKind.i64.wrap (p23 + (1 : Int)))))] (Nat.lt_succ_self _) ⟨rfl, rfl, rfl, rfl, trivial⟩ ⟨fl24, O25, false, (IntKind.i64.wrap (p23 + (1 : Int))), rfl, rfl, T21, hO, hS, hF, h⟩
  refine wo_know 33 true rfl hc37 ?_
  refine wo_seg Θ_ok [18, 19] [(3, (.string y6.1)), (12, (.int .i64 (y6.1.size : Int))), (13, (.int .i64 p23)), (17, (.bool true)), (28, (.bool false)), (33, (.bool true)), (34, (.string y6.1)), (35, (.int .i64 p23))] rfl ⟨rfl, rfl, rfl, rfl, rfl, rfl, rfl, rfl, trivial⟩ ?_
  obtain ⟨y38, hz39, h⟩ := bind_some h
  refine wo_sindex Θ_ok rfl rfl rfl rfl rfl rfl rfl rfl rfl hz39 ?_
  refine wo_seg Θ_ok [21, 22, 23, 24, 25] [(3, (.string y6.1)), (4, (.bool (decide (y38 ≤ (57 : Int))))), (12, (.int .i64 (y6.1.size : Int))), (13, (.int .i64 p23))] rfl ⟨rfl, rfl, rfl, rfl, trivial⟩ ?_
  refine wo_nil ?_
  refine wq_block (wq_seq ?_)
  refine wc_region (l := [0, 1]) rfl ?_
  refine wo_seg Θ_ok [0, 1] [(3, (.string y6.1)), (4, (.bool (decide (y38 ≤ (57 : Int))))), (12, (.int .i64 (y6.1.size : Int))), (13, (.int .i64 (IntKind.i64.wrap (p23 + (1 : Int)))))] rfl ⟨rfl, rfl, rfl, rfl, trivial⟩ ?_
  refine wo_nil ?_
  exact wq_next fl24 [(3, (.string y6.1)), (4, (.bool (decide (y38 ≤ (57 : Int))))), (12, (.int .i64 (y6.1.size : Int))), (13, (.int .i64 (IntKind.i64.wrap (p23 + (1 : Int)))))] (Nat.lt_succ_self _) ⟨rfl, rfl, rfl, rfl, trivial⟩ ⟨fl24, O25, (decide (y38 ≤ (57 : Int))), (IntKind.i64.wrap (p23 + (1 : Int))), rfl, rfl, T21, hO, hS, hF, h⟩
set_option maxRecDepth 100000 in
set_option maxHeartbeats 4000000 in
theorem r_Pid_c {O : List Nat} {w : World} (hO : OB O w) {v0 : Value} {x0 : Int} (h0 : (Ty.int .u64).is O w v0 x0) : Calls Try.prog 26 #[v0] w (Gives (rt1 Ty.bool) O w (r_Pid x0)) := by
  obtain rfl := int_is.1 h0
  have hF := Fr.refl [] w
  have hO0 := hO
  have hS := Sub.refl O
  obtain ⟨r, h⟩ : ∃ r, r_Pid x0 = r := ⟨_, rfl⟩
  rw [h]
  refine calls_of (args := [(.int .u64 x0)]) (N := 9) Try.func26 rfl rfl rfl ?_
  unfold r_Pid at h
  refine wc_seq ?_
  refine wc_region (l := [0]) rfl ?_
  refine wo_seg Θ_ok [0] [(0, (.int .u64 x0))] rfl ⟨rfl, trivial⟩ ?_
  refine wo_nil ?_
  refine wq_seq ?_
  refine wc_seq ?_
  refine wc_region (l := [0, 1, 2, 3, 4, 5, 6]) rfl ?_
  refine wo_seg Θ_ok [0, 1, 2] [(0, (.int .u64 x0)), (5, (.bool (decide (x0 > (0 : Int)))))] rfl ⟨rfl, rfl, trivial⟩ ?_
  rcases bif_some h with ⟨hc2, h⟩ | ⟨hc2, h⟩
  · refine wo_know 5 true rfl hc2 ?_
    refine wo_seg Θ_ok [3, 4, 5, 6] [(2, (.bool (decide (x0 < (4294967296 : Int)))))] rfl ⟨rfl, trivial⟩ ?_
    refine wo_nil ?_
    refine wq_seq ?_
    refine wc_ret ?_
    subst h
    exact wq_ret rfl ⟨_, rfl, (bool_is.2 rfl), hF⟩
  refine wo_know 5 false rfl hc2 ?_
  refine wo_seg Θ_ok [3, 4, 5, 6] [(2, (.bool false))] rfl ⟨rfl, trivial⟩ ?_
  refine wo_nil ?_
  refine wq_seq ?_
  refine wc_ret ?_
  subst h
  exact wq_ret rfl ⟨_, rfl, (bool_is.2 rfl), hF⟩
set_option maxRecDepth 100000 in
set_option maxHeartbeats 4000000 in
theorem r_words_c {O : List Nat} {w : World} (hO : OB O w) {v0 : Value} {x0 : List Int} (h0 : (Ty.slice (Ty.int .u64)).is O w v0 x0) {v1 : Value} {x1 : List Int} (h1 : (Ty.slice (Ty.int .u64)).is O w v1 x1) {r : Bool} (h : r_words x0 x1 = some r) : Calls Try.prog 40 #[v0, v1] w (Gives (rt1 Ty.bool) O w r) := by
  have hF := Fr.refl [] w
  have hO0 := hO
  have hS := Sub.refl O
  refine calls_of (args := [v0, v1]) (N := 26) Try.func40 rfl rfl rfl ?_
  unfold r_words at h
  refine wc_seq ?_
  refine wc_region (l := [0]) rfl ?_
  refine wo_seg Θ_ok [0] [(0, v0), (1, v1)] rfl ⟨rfl, rfl, trivial⟩ ?_
  refine wo_nil ?_
  refine wq_seq ?_
  refine wc_seq ?_
  refine wc_seq ?_
  refine wc_region (l := [0, 1, 2, 3, 4]) rfl ?_
  refine wo_seg Θ_ok [0] [(0, v0), (1, v1), (7, v0)] rfl ⟨rfl, rfl, rfl, trivial⟩ ?_
  obtain ⟨A3, c4, rfl, hlc4, hmc4⟩ := slice_form h0
  refine wo_seg Θ_ok [1] [(0, (.slice A3 x0.length c4)), (1, v1), (8, (.int .i64 (x0.length : Int)))] rfl ⟨rfl, rfl, rfl, trivial⟩ ?_
  refine wo_seg Θ_ok [2] [(0, (.slice A3 x0.length c4)), (1, v1), (8, (.int .i64 (x0.length : Int))), (9, v1)] rfl ⟨rfl, rfl, rfl, rfl, trivial⟩ ?_
  obtain ⟨A5, c6, rfl, hlc6, hmc6⟩ := slice_form h1
  refine wo_seg Θ_ok [3] [(0, (.slice A3 x0.length c4)), (1, (.slice A5 x1.length c6)), (8, (.int .i64 (x0.length : Int))), (10, (.int .i64 (x1.length : Int)))] rfl ⟨rfl, rfl, rfl, rfl, trivial⟩ ?_
  refine wo_seg Θ_ok [4] [(0, (.slice A3 x0.length c4)), (1, (.slice A5 x1.length c6)), (11, (.bool ((x0.length : Int) != (x1.length : Int))))] rfl ⟨rfl, rfl, rfl, trivial⟩ ?_
  refine wo_nil ?_
  refine wq_seq ?_
  rcases bif_some h with ⟨hc7, h⟩ | ⟨hc7, h⟩
  · refine wc_known_true rfl hc7 ?_
    refine wc_seq ?_
    refine wc_region (l := [0]) rfl ?_
    refine wo_seg Θ_ok [0] [(4, (.bool false))] rfl ⟨rfl, trivial⟩ ?_
    refine wo_nil ?_
    refine wq_seq ?_
    refine wc_ret ?_
    cases h
    exact wq_then_ret (wq_ret rfl ⟨_, rfl, (bool_is.2 rfl), hF⟩)
  refine wc_known_false rfl hc7 ?_
  refine wc_skip ?_
  refine wq_seq ?_
  obtain ⟨k9, hk10, h⟩ := letk_some h
  refine wc_join (fun E W => ∃ (O13 : List Nat), E = [] ∧ Tr O w O13 W ∧ OB O13 W ∧ Sub O O13 ∧ Fr [] w W ∧ k9 = some r) ?_ (fun K11 hK12 => ?_)
  · rintro E w14 ⟨O13, rfl, T8, hO, hS, hF, h⟩
    subst hk10
    (try dsimp only at h)
    refine wc_seq ?_
    refine wc_region (l := [0]) rfl ?_
    refine wo_seg Θ_ok [0] [(4, (.bool true))] rfl ⟨rfl, trivial⟩ ?_
    refine wo_nil ?_
    refine wq_seq ?_
    refine wc_ret ?_
    cases h
    exact wq_ret rfl ⟨_, rfl, (bool_is.2 rfl), hF⟩
  clear hk10
  have T8 := Tr.refl O w
  refine wc_seq ?_
  refine wc_region (l := [0, 1, 2]) rfl ?_
  refine wo_seg Θ_ok [0, 1, 2] [(1, (.slice A5 x1.length c6)), (12, (.slice A3 x0.length c4)), (13, (.int .i64 (x0.length : Int))), (14, (.int .i64 0))] rfl ⟨rfl, rfl, rfl, rfl, trivial⟩ ?_
  refine wo_nil ?_
  refine wq_seq ?_
  refine wc_block ?_
  refine wc_loop (fun m E W => ∃ (rest17 : List Int) (i16 : Nat) (O20 : List Nat), rest17.length = m ∧ x0.drop i16 = rest17 ∧ E = [(1, (.slice A5 x1.length c6)), (12, (.slice A3 x0.length c4)), (13, (.int .i64 (x0.length : Int))), (14, (.int .i64 (i16 : Int)))] ∧ Tr O w O20 W ∧ OB O20 W ∧ Sub O O20 ∧ Fr [] w W ∧ r_words_l1 x1 k9 rest17 i16 = some r) _ [(1, (.slice A5 x1.length c6)), (12, (.slice A3 x0.length c4)), (13, (.int .i64 (x0.length : Int))), (14, (.int .i64 ((0 : Nat) : Int)))] ⟨rfl, rfl, rfl, rfl, trivial⟩ ⟨x0, 0, O, rfl, rfl, rfl, Tr.refl _ _, hO, hS, hF, h⟩ ?_
  rintro m E w21 ⟨rest17, i16, O20, rfl, hd19, rfl, T15, hO, hS, hF, h⟩
  have T8 := T8.trans T15
  have h1 := h1.tr T15
  have h0 := h0.tr T15
  rcases rest17 with _ | ⟨z18, rest17⟩
  · rw [r_words_l1] at h
    have hl25 := drop_nil hd19
    have hc22 : (decide ((i16 : Int) < (x0.length : Int))) = false := decide_eq_false (by omega)
    refine wc_seq ?_
    refine wc_region (l := [0]) rfl ?_
    refine wo_seg Θ_ok [0] [(1, (.slice A5 x1.length c6)), (12, (.slice A3 x0.length c4)), (13, (.int .i64 (x0.length : Int))), (14, (.int .i64 (i16 : Int))), (15, (.bool (decide ((i16 : Int) < (x0.length : Int)))))] rfl ⟨rfl, rfl, rfl, rfl, rfl, trivial⟩ ?_
    refine wo_nil ?_
    refine wq_seq ?_
    refine wc_seq ?_
    refine wc_known_false rfl hc22 ?_
    refine wc_exit ?_
    exact wq_then_exit (wq_then_exit (wq_block_exit (wq_join hK12 [] trivial ⟨O20, rfl, T8, hO, hS, hF, h⟩)))
  rw [r_words_l1] at h
  obtain ⟨hl26, hg24, hd19⟩ := drop_cons hd19
  have hc23 : (decide ((i16 : Int) < (x0.length : Int))) = true := decide_eq_true (by omega)
  refine wc_seq ?_
  refine wc_region (l := [0]) rfl ?_
  refine wo_seg Θ_ok [0] [(1, (.slice A5 x1.length c6)), (12, (.slice A3 x0.length c4)), (13, (.int .i64 (x0.length : Int))), (14, (.int .i64 (i16 : Int))), (15, (.bool (decide ((i16 : Int) < (x0.length : Int)))))] rfl ⟨rfl, rfl, rfl, rfl, rfl, trivial⟩ ?_
  refine wo_nil ?_
  refine wq_seq ?_
  refine wc_seq ?_
  refine wc_known_true rfl hc23 ?_
  refine wc_skip ?_
  refine wq_seq ?_
  refine wc_seq ?_
  refine wc_block ?_
  refine wc_seq ?_
  refine wc_region (l := [0, 1, 2, 3, 4]) rfl ?_
  refine wo_seg Θ_ok [0] [(1, (.slice A5 x1.length c6)), (12, (.slice A3 x0.length c4)), (13, (.int .i64 (x0.length : Int))), (14, (.int .i64 (i16 : Int))), (16, (.int .i64 (i16 : Int)))] rfl ⟨rfl, rfl, rfl, rfl, rfl, trivial⟩ ?_
  refine wo_index Θ_ok rfl rfl rfl rfl rfl rfl rfl rfl rfl rfl h0 rfl (by omega) hg24 (fun p27 h28 => ?_)
  refine wo_loadp Θ_ok rfl rfl rfl rfl rfl rfl rfl h28 rfl rfl (fun v29 h30 => ?_)
  obtain rfl := int_is.1 h30
  refine wo_seg Θ_ok [3, 4] [(1, (.slice A5 x1.length c6)), (5, (.int .i64 (i16 : Int))), (6, (.int .u64 z18)), (12, (.slice A3 x0.length c4)), (13, (.int .i64 (x0.length : Int))), (14, (.int .i64 (i16 : Int)))] rfl ⟨rfl, rfl, rfl, rfl, rfl, rfl, trivial⟩ ?_
  refine wo_nil ?_
  refine wq_seq ?_
  refine wc_seq ?_
  refine wc_region (l := [0, 1, 2, 3, 4, 5]) rfl ?_
  refine wo_seg Θ_ok [0, 1, 2] [(1, (.slice A5 x1.length c6)), (12, (.slice A3 x0.length c4)), (13, (.int .i64 (x0.length : Int))), (14, (.int .i64 (i16 : Int))), (19, (.int .u64 z18)), (20, (.slice A5 x1.length c6)), (21, (.int .i64 (i16 : Int)))] rfl ⟨rfl, rfl, rfl, rfl, rfl, rfl, rfl, trivial⟩ ?_
  obtain ⟨y33, hz34, h⟩ := bind_some h
  refine wo_index Θ_ok rfl rfl rfl rfl rfl rfl rfl rfl rfl rfl h1 rfl (idx_some hz34).1 (idx_some hz34).2 (fun p31 h32 => ?_)
  refine wo_loadp Θ_ok rfl rfl rfl rfl rfl rfl rfl h32 rfl rfl (fun v35 h36 => ?_)
  obtain rfl := int_is.1 h36
  refine wo_seg Θ_ok [5] [(1, (.slice A5 x1.length c6)), (12, (.slice A3 x0.length c4)), (13, (.int .i64 (x0.length : Int))), (14, (.int .i64 (i16 : Int))), (24, (.bool (z18 != y33)))] rfl ⟨rfl, rfl, rfl, rfl, rfl, trivial⟩ ?_
  refine wo_nil ?_
  refine wq_seq ?_
  rcases bif_some h with ⟨hc37, h⟩ | ⟨hc37, h⟩
  rotate_left
  · refine wc_known_false rfl hc37 ?_
    refine wc_skip ?_
    refine wq_block (wq_seq ?_)
    refine wc_region (l := [0, 1]) rfl ?_
    refine wo_seg Θ_ok [0, 1] [(1, (.slice A5 x1.length c6)), (12, (.slice A3 x0.length c4)), (13, (.int .i64 (x0.length : Int))), (14, (.int .i64 (IntKind.i64.wrap ((i16 : Int) + (1 : Int)))))] rfl ⟨rfl, rfl, rfl, rfl, trivial⟩ ?_
    refine wo_nil ?_
    exact wq_next rest17.length [(1, (.slice A5 x1.length c6)), (12, (.slice A3 x0.length c4)), (13, (.int .i64 (x0.length : Int))), (14, (.int .i64 ((i16 + 1 : Nat) : Int)))] (Nat.lt_succ_self _) ⟨rfl, rfl, rfl, congrArg (fun z => some (Value.int .i64 z)) (wrap_succ hl26 (Nat.le_trans hlc4 hmc4)), trivial⟩ ⟨rest17, i16 + 1, O20, rfl, hd19, rfl, T15, hO, hS, hF, h⟩
  refine wc_known_true rfl hc37 ?_
  refine wc_seq ?_
  refine wc_region (l := [0]) rfl ?_
  refine wo_seg Θ_ok [0] [(4, (.bool false))] rfl ⟨rfl, trivial⟩ ?_
  refine wo_nil ?_
  refine wq_seq ?_
  refine wc_ret ?_
  cases h
  exact wq_block_ret (wq_then_ret (wq_then_ret (wq_block_ret (wq_then_ret (wq_ret rfl ⟨_, rfl, (bool_is.2 rfl), hF⟩)))))
set_option maxRecDepth 100000 in
set_option maxHeartbeats 4000000 in
theorem r_Same_c {O : List Nat} {w : World} (hO : OB O w) {v0 : Value} {x0 : GIpc} (h0 : tGIpc.is O w v0 x0) {v1 : Value} {x1 : GIpc} (h1 : tGIpc.is O w v1 x1) {r : Bool} (h : r_Same x0 x1 = some r) : Calls Try.prog 14 #[v0, v1] w (Gives (rt1 Ty.bool) O w r) := by
  obtain ⟨v0_1, v0_2, rfl, h0_1, h0_2⟩ := tGIpc_is.1 h0
  obtain ⟨v1_1, v1_2, rfl, h1_1, h1_2⟩ := tGIpc_is.1 h1
  have hF := Fr.refl [] w
  have hO0 := hO
  have hS := Sub.refl O
  refine calls_of (args := [(.agg #[v0_1, v0_2]), (.agg #[v1_1, v1_2])]) (N := 71) Try.func14 rfl rfl rfl ?_
  unfold r_Same at h
  refine wc_seq ?_
  refine wc_region (l := [0, 1, 2]) rfl ?_
  refine wo_box rfl rfl rfl rfl rfl rfl [v0_1, v0_2] rfl hO (fun b3 w4 n5 => ?_)
  have h1_1 := h1_1.tr n5.tr
  have h1_2 := h1_2.tr n5.tr
  have h0_1 := h0_1.tr n5.tr
  have h0_2 := h0_2.tr n5.tr
  have hb3 := n5.blk
  have gb3 := n5.ge0 hF
  have ib3 : b3 ∈ b3 :: O := List.mem_cons_self
  have hO := n5.ob
  have hF := hF.trans n5.fr
  have hS := Sub.cons hS b3
  refine wo_box rfl rfl rfl rfl rfl rfl [v1_1, v1_2] rfl hO (fun b6 w7 n8 => ?_)
  have h1_1 := h1_1.tr n8.tr
  have h1_2 := h1_2.tr n8.tr
  have h0_1 := h0_1.tr n8.tr
  have h0_2 := h0_2.tr n8.tr
  have nb6b3 : b6 ≠ b3 := by have := hb3.lt; have := n8.ge; omega
  have hb3 := hb3.fr0 n8.fr
  have ib3 := List.mem_cons_of_mem b6 ib3
  have hb6 := n8.blk
  have gb6 := n8.ge0 hF
  have ib6 : b6 ∈ b6 :: (b3 :: O) := List.mem_cons_self
  have hO := n8.ob
  have hF := hF.trans n8.fr
  have hS := Sub.cons hS b6
  refine wo_seg Θ_ok [2] [(2, (bp b3)), (3, (bp b6))] rfl ⟨rfl, rfl, trivial⟩ ?_
  refine wo_nil ?_
  refine wq_seq ?_
  refine wc_seq ?_
  refine wc_seq ?_
  refine wc_region (l := [0, 1, 2, 3, 4, 5, 6, 7, 8, 9, 10, 11, 12, 13, 14, 15]) rfl ?_
  refine wo_seg Θ_ok [0] [(2, (bp b3)), (3, (bp b6)), (9, (bp b3))] rfl ⟨rfl, rfl, rfl, trivial⟩ ?_
  refine wo_load Θ_ok rfl rfl rfl rfl rfl rfl rfl hb3 [v0_1] rfl rfl (.inr rfl) v0_1 rfl ?_
  obtain ⟨A9, c10, rfl, hlc10, hmc10⟩ := slice_form h0_1
  refine wo_seg Θ_ok [2] [(2, (bp b3)), (3, (bp b6)), (11, (.int .i64 (x0.fNames.length : Int)))] rfl ⟨rfl, rfl, rfl, trivial⟩ ?_
  refine wo_seg Θ_ok [3] [(2, (bp b3)), (3, (bp b6)), (11, (.int .i64 (x0.fNames.length : Int))), (12, (bp b6))] rfl ⟨rfl, rfl, rfl, rfl, trivial⟩ ?_
  refine wo_load Θ_ok rfl rfl rfl rfl rfl rfl rfl hb6 [v1_1] rfl rfl (.inr rfl) v1_1 rfl ?_
  obtain ⟨A11, c12, rfl, hlc12, hmc12⟩ := slice_form h1_1
  refine wo_seg Θ_ok [5] [(2, (bp b3)), (3, (bp b6)), (11, (.int .i64 (x0.fNames.length : Int))), (14, (.int .i64 (x1.fNames.length : Int)))] rfl ⟨rfl, rfl, rfl, rfl, trivial⟩ ?_
  refine wo_seg Θ_ok [6, 7] [(2, (bp b3)), (3, (bp b6)), (16, (.bool ((x0.fNames.length : Int) != (x1.fNames.length : Int))))] rfl ⟨rfl, rfl, rfl, trivial⟩ ?_
  rcases bif_some h with ⟨hc13, h⟩ | ⟨hc13, h⟩
  · refine wo_know 16 true rfl hc13 ?_
    refine wo_seg Θ_ok [8, 9, 10, 11, 12, 13, 14, 15] [(2, (bp b3)), (3, (bp b6)), (24, (.bool true))] rfl ⟨rfl, rfl, rfl, trivial⟩ ?_
    refine wo_nil ?_
    refine wq_seq ?_
    refine wc_true rfl ?_
    refine wc_seq ?_
    refine wc_region (l := [0]) rfl ?_
    refine wo_seg Θ_ok [0] [(4, (.bool false))] rfl ⟨rfl, trivial⟩ ?_
    refine wo_nil ?_
    refine wq_seq ?_
    refine wc_ret ?_
    cases h
    exact wq_then_ret (wq_ret rfl ⟨_, rfl, (bool_is.2 rfl), hF⟩)
  refine wo_know 16 false rfl hc13 ?_
  refine wo_seg Θ_ok [8] [(2, (bp b3)), (3, (bp b6)), (16, (.bool false)), (17, (.pointer (some ⟨b3, 1, none⟩)))] rfl ⟨rfl, rfl, rfl, rfl, trivial⟩ ?_
  refine wo_load Θ_ok rfl rfl rfl rfl rfl rfl rfl hb3 [v0_2] rfl rfl (.inr rfl) v0_2 rfl ?_
  obtain ⟨A14, c15, rfl, hlc15, hmc15⟩ := slice_form h0_2
  refine wo_seg Θ_ok [10] [(2, (bp b3)), (3, (bp b6)), (16, (.bool false)), (19, (.int .i64 (x0.fBoxes.length : Int)))] rfl ⟨rfl, rfl, rfl, rfl, trivial⟩ ?_
  refine wo_seg Θ_ok [11] [(2, (bp b3)), (3, (bp b6)), (16, (.bool false)), (19, (.int .i64 (x0.fBoxes.length : Int))), (20, (.pointer (some ⟨b6, 1, none⟩)))] rfl ⟨rfl, rfl, rfl, rfl, rfl, trivial⟩ ?_
  refine wo_load Θ_ok rfl rfl rfl rfl rfl rfl rfl hb6 [v1_2] rfl rfl (.inr rfl) v1_2 rfl ?_
  obtain ⟨A16, c17, rfl, hlc17, hmc17⟩ := slice_form h1_2
  refine wo_seg Θ_ok [13] [(2, (bp b3)), (3, (bp b6)), (16, (.bool false)), (19, (.int .i64 (x0.fBoxes.length : Int))), (22, (.int .i64 (x1.fBoxes.length : Int)))] rfl ⟨rfl, rfl, rfl, rfl, rfl, trivial⟩ ?_
  refine wo_seg Θ_ok [14, 15] [(2, (bp b3)), (3, (bp b6)), (24, (.bool ((x0.fBoxes.length : Int) != (x1.fBoxes.length : Int))))] rfl ⟨rfl, rfl, rfl, trivial⟩ ?_
  refine wo_nil ?_
  refine wq_seq ?_
  rcases bif_some h with ⟨hc18, h⟩ | ⟨hc18, h⟩
  · refine wc_known_true rfl hc18 ?_
    refine wc_seq ?_
    refine wc_region (l := [0]) rfl ?_
    refine wo_seg Θ_ok [0] [(4, (.bool false))] rfl ⟨rfl, trivial⟩ ?_
    refine wo_nil ?_
    refine wq_seq ?_
    refine wc_ret ?_
    cases h
    exact wq_then_ret (wq_ret rfl ⟨_, rfl, (bool_is.2 rfl), hF⟩)
  refine wc_known_false rfl hc18 ?_
  refine wc_skip ?_
  refine wq_seq ?_
  obtain ⟨k20, hk21, h⟩ := letk_some h
  refine wc_join (fun E W => ∃ (O24 : List Nat), E = [(2, (bp b3)), (3, (bp b6))] ∧ Tr (b6 :: b3 :: O) w7 O24 W ∧ OB O24 W ∧ Sub O O24 ∧ Fr [] w W ∧ b3 ∈ O24 ∧ Blk W b3 25 [(.slice A9 x0.fNames.length c10), (.slice A14 x0.fBoxes.length c15)] ∧ b6 ∈ O24 ∧ Blk W b6 25 [(.slice A11 x1.fNames.length c12), (.slice A16 x1.fBoxes.length c17)] ∧ k20 = some r) ?_ (fun K22 hK23 => ?_)
  rotate_left
  · clear hk21
    have T19 := Tr.refl (b6 :: b3 :: O) w7
    refine wc_seq ?_
    refine wc_region (l := [0, 1, 2, 3]) rfl ?_
    refine wo_seg Θ_ok [0] [(2, (bp b3)), (3, (bp b6)), (25, (bp b3))] rfl ⟨rfl, rfl, rfl, trivial⟩ ?_
    refine wo_load Θ_ok rfl rfl rfl rfl rfl rfl rfl hb3 [(.slice A9 x0.fNames.length c10)] rfl rfl (.inr rfl) (.slice A9 x0.fNames.length c10) rfl ?_
    refine wo_seg Θ_ok [2, 3] [(2, (bp b3)), (3, (bp b6)), (26, (.slice A9 x0.fNames.length c10)), (27, (.int .i64 (x0.fNames.length : Int))), (28, (.int .i64 0))] rfl ⟨rfl, rfl, rfl, rfl, rfl, trivial⟩ ?_
    refine wo_nil ?_
    refine wq_seq ?_
    refine wc_block ?_
    refine wc_loop (fun m E W => ∃ (rest99 : List GName) (i98 : Nat) (O102 : List Nat), rest99.length = m ∧ x0.fNames.drop i98 = rest99 ∧ E = [(2, (bp b3)), (3, (bp b6)), (26, (.slice A9 x0.fNames.length c10)), (27, (.int .i64 (x0.fNames.length : Int))), (28, (.int .i64 (i98 : Int)))] ∧ Tr (b6 :: b3 :: O) w7 O102 W ∧ OB O102 W ∧ Sub O O102 ∧ Fr [] w W ∧ b3 ∈ O102 ∧ Blk W b3 25 [(.slice A9 x0.fNames.length c10), (.slice A14 x0.fBoxes.length c15)] ∧ b6 ∈ O102 ∧ Blk W b6 25 [(.slice A11 x1.fNames.length c12), (.slice A16 x1.fBoxes.length c17)] ∧ r_Same_l2 x1 k20 rest99 i98 = some r) _ [(2, (bp b3)), (3, (bp b6)), (26, (.slice A9 x0.fNames.length c10)), (27, (.int .i64 (x0.fNames.length : Int))), (28, (.int .i64 ((0 : Nat) : Int)))] ⟨rfl, rfl, rfl, rfl, rfl, trivial⟩ ⟨x0.fNames, 0, b6 :: b3 :: O, rfl, rfl, rfl, Tr.refl _ _, hO, hS, hF, ib3, hb3, ib6, hb6, h⟩ ?_
    rintro m E w103 ⟨rest99, i98, O102, rfl, hd101, rfl, T97, hO, hS, hF, ib3, hb3, ib6, hb6, h⟩
    have T19 := T19.trans T97
    have h0_1 := h0_1.tr T97
    have h0_2 := h0_2.tr T97
    have h1_1 := h1_1.tr T97
    have h1_2 := h1_2.tr T97
    rcases rest99 with _ | ⟨z100, rest99⟩
    · rw [r_Same_l2] at h
      have hl107 := drop_nil hd101
      have hc104 : (decide ((i98 : Int) < (x0.fNames.length : Int))) = false := decide_eq_false (by omega)
      refine wc_seq ?_
      refine wc_region (l := [0]) rfl ?_
      refine wo_seg Θ_ok [0] [(2, (bp b3)), (3, (bp b6)), (26, (.slice A9 x0.fNames.length c10)), (27, (.int .i64 (x0.fNames.length : Int))), (28, (.int .i64 (i98 : Int))), (29, (.bool (decide ((i98 : Int) < (x0.fNames.length : Int)))))] rfl ⟨rfl, rfl, rfl, rfl, rfl, rfl, trivial⟩ ?_
      refine wo_nil ?_
      refine wq_seq ?_
      refine wc_seq ?_
      refine wc_known_false rfl hc104 ?_
      refine wc_exit ?_
      exact wq_then_exit (wq_then_exit (wq_block_exit (wq_join hK23 [(2, (bp b3)), (3, (bp b6))] ⟨rfl, rfl, trivial⟩ ⟨O102, rfl, T19, hO, hS, hF, ib3, hb3, ib6, hb6, h⟩)))
    rw [r_Same_l2] at h
    obtain ⟨hl108, hg106, hd101⟩ := drop_cons hd101
    have hc105 : (decide ((i98 : Int) < (x0.fNames.length : Int))) = true := decide_eq_true (by omega)
    refine wc_seq ?_
    refine wc_region (l := [0]) rfl ?_
    refine wo_seg Θ_ok [0] [(2, (bp b3)), (3, (bp b6)), (26, (.slice A9 x0.fNames.length c10)), (27, (.int .i64 (x0.fNames.length : Int))), (28, (.int .i64 (i98 : Int))), (29, (.bool (decide ((i98 : Int) < (x0.fNames.length : Int)))))] rfl ⟨rfl, rfl, rfl, rfl, rfl, rfl, trivial⟩ ?_
    refine wo_nil ?_
    refine wq_seq ?_
    refine wc_seq ?_
    refine wc_known_true rfl hc105 ?_
    refine wc_skip ?_
    refine wq_seq ?_
    refine wc_seq ?_
    refine wc_block ?_
    refine wc_seq ?_
    refine wc_region (l := [0, 1, 2, 3, 4, 5]) rfl ?_
    refine wo_seg Θ_ok [0] [(2, (bp b3)), (3, (bp b6)), (26, (.slice A9 x0.fNames.length c10)), (27, (.int .i64 (x0.fNames.length : Int))), (28, (.int .i64 (i98 : Int))), (30, (.int .i64 (i98 : Int)))] rfl ⟨rfl, rfl, rfl, rfl, rfl, rfl, trivial⟩ ?_
    refine wo_index Θ_ok rfl rfl rfl rfl rfl rfl rfl rfl rfl rfl h0_1 rfl (by omega) hg106 (fun p109 h110 => ?_)
    refine wo_loadp Θ_ok rfl rfl rfl rfl rfl rfl rfl h110 rfl rfl (fun v111 h112 => ?_)
    obtain rfl := tGName_is.1 h112
    refine wo_alloc Θ_ok rfl rfl rfl rfl rfl rfl [(.int .u64 0), (.int .u64 0)] rfl hO (fun b113 w114 n115 => ?_)
    have h0_1 := h0_1.tr n115.tr
    have h0_2 := h0_2.tr n115.tr
    have h1_1 := h1_1.tr n115.tr
    have h1_2 := h1_2.tr n115.tr
    have T19 := T19.trans n115.tr
    have T97 := T97.trans n115.tr
    have nb113b3 : b113 ≠ b3 := by have := hb3.lt; have := n115.ge; omega
    have hb3 := hb3.fr0 n115.fr
    have ib3 := List.mem_cons_of_mem b113 ib3
    have nb113b6 : b113 ≠ b6 := by have := hb6.lt; have := n115.ge; omega
    have hb6 := hb6.fr0 n115.fr
    have ib6 := List.mem_cons_of_mem b113 ib6
    have hb113 := n115.blk
    have gb113 := n115.ge0 hF
    have ib113 : b113 ∈ b113 :: O102 := List.mem_cons_self
    have hO := n115.ob
    have hF := hF.trans n115.fr
    have hS := Sub.cons hS b113
    refine wo_seg Θ_ok [4] [(2, (bp b3)), (3, (bp b6)), (5, (.int .i64 (i98 : Int))), (6, (bp b113)), (26, (.slice A9 x0.fNames.length c10)), (27, (.int .i64 (x0.fNames.length : Int))), (28, (.int .i64 (i98 : Int))), (32, (.agg #[(.int .u64 z100.fName), (.int .u64 z100.fPid)]))] rfl ⟨rfl, rfl, rfl, rfl, rfl, rfl, rfl, rfl, trivial⟩ ?_
    refine wo_store Θ_ok rfl rfl rfl rfl rfl rfl rfl hb113 [(.int .u64 z100.fName), (.int .u64 z100.fPid)] rfl rfl (by simp [Value.oneCell']) rfl [(.int .u64 z100.fName), (.int .u64 z100.fPid)] rfl (fun w116 hb113 f117 => ?_)
    have h0_1 := h0_1.tr (f117.tr (one_in ib113))
    have h0_2 := h0_2.tr (f117.tr (one_in ib113))
    have h1_1 := h1_1.tr (f117.tr (one_in ib113))
    have h1_2 := h1_2.tr (f117.tr (one_in ib113))
    have T19 := T19.trans (f117.tr (one_in ib113))
    have T97 := T97.trans (f117.tr (one_in ib113))
    have hb3 := hb3.fr f117 (nin nb113b3.symm)
    have hb6 := hb6.fr f117 (nin nb113b6.symm)
    have hO := f117.ob hO
    have hF := hF.own f117 gb113
    refine wo_nil ?_
    refine wq_seq ?_
    refine wc_seq ?_
    obtain ⟨y118, hz119, h⟩ := bind_some h
    refine wc_draw mixed [⟨33, [], [6]⟩, ⟨34, [], [3]⟩, ⟨35, [1], []⟩, ⟨36, [], [5]⟩, ⟨37, [2, 3], []⟩, ⟨38, [4], []⟩, ⟨39, [0, 5], []⟩] [SP.eq (.agg #[(.int .u64 z100.fName), (.int .u64 z100.fPid)]), SP.eq (bp b6), SP.eq (.slice A11 x1.fNames.length c12), SP.eq (.int .i64 (i98 : Int)), SP.is (Ty.ptr tGName) (b113 :: O102) y118, SP.eq (.agg #[(.int .u64 y118.fName), (.int .u64 y118.fPid)]), SP.eq (.bool (!(eqGName z100 y118)))] rfl rfl rfl ⟨?_, ?_, ?_, ?_, ?_, ?_, ?_, trivial⟩ ?_
    · intro a w2 hfr hN hds hb hd
      have hb113 := hb113.fr0 hfr
      exact op_load Θ_ok ⟨hN, hds, rows_get (E := [(6, (bp b113))]) ⟨hb 6 rfl _ rfl, trivial⟩⟩ rfl rfl rfl rfl rfl rfl hb113 [(.int .u64 z100.fName), (.int .u64 z100.fPid)] rfl rfl (.inl rfl) (.agg #[(.int .u64 z100.fName), (.int .u64 z100.fPid)]) rfl
    · intro a w2 hfr hN hds hb hd
      exact op_plain Θ_ok ⟨hN, hds, rows_get (E := [(3, (bp b6))]) ⟨hb 3 rfl _ rfl, trivial⟩⟩ rfl rfl rfl rfl rfl
    · intro a w2 hfr hN hds hb hd
      have hb6 := hb6.fr0 hfr
      exact op_load Θ_ok ⟨hN, hds, rows_get (E := [(34, (bp b6))]) ⟨(hd 1 rfl _ _ rfl rfl), trivial⟩⟩ rfl rfl rfl rfl rfl rfl hb6 [(.slice A11 x1.fNames.length c12)] rfl rfl (.inr rfl) (.slice A11 x1.fNames.length c12) rfl
    · intro a w2 hfr hN hds hb hd
      exact op_plain Θ_ok ⟨hN, hds, rows_get (E := [(5, (.int .i64 (i98 : Int)))]) ⟨hb 5 rfl _ rfl, trivial⟩⟩ rfl rfl rfl rfl rfl
    · intro a w2 hfr hN hds hb hd
      have h1_1 := h1_1.tr hfr.tr0
      exact op_index (j := (i98 : Int)) Θ_ok ⟨hN, hds, rows_get (E := [(35, (.slice A11 x1.fNames.length c12)), (36, (.int .i64 (i98 : Int)))]) ⟨(hd 2 rfl _ _ rfl rfl), (hd 3 rfl _ _ rfl rfl), trivial⟩⟩ rfl rfl rfl rfl rfl rfl rfl rfl rfl h1_1 rfl (idx_some hz119).1 (idx_some hz119).2
    · intro a w2 hfr hN hds hb hd
      have d122 : (Ty.ptr tGName).is (b113 :: O102) w2 (a.tmps.getD 37 undef) y118 := hd 4 rfl _ _ rfl rfl
      obtain ⟨u120, e121⟩ : ∃ v, a.tmps.getD 37 undef = v := ⟨_, rfl⟩
      rw [e121] at d122
      exact (op_loadp Θ_ok ⟨hN, hds, rows_get (E := [(37, u120)]) ⟨e121, trivial⟩⟩ rfl rfl rfl rfl rfl rfl d122 rfl rfl).weaken (fun u w3 ⟨hu, hf⟩ => ⟨tGName_is.1 hu, hf⟩)
    · intro a w2 hfr hN hds hb hd
      exact op_bin ⟨hN, hds, rows_get (E := [(33, (.agg #[(.int .u64 z100.fName), (.int .u64 z100.fPid)])), (38, (.agg #[(.int .u64 y118.fName), (.int .u64 y118.fPid)]))]) ⟨(hd 0 rfl _ _ rfl rfl), (hd 5 rfl _ _ rfl rfl), trivial⟩⟩ rfl rfl rfl rfl rfl rfl (neq31 _ _)
    intro a w124 f123 hN hds hb hr
    have h0_1 := h0_1.tr f123.tr0
    have h0_2 := h0_2.tr f123.tr0
    have h1_1 := h1_1.tr f123.tr0
    have h1_2 := h1_2.tr f123.tr0
    have hb3 := hb3.fr0 f123
    have hb6 := hb6.fr0 f123
    have T19 := T19.trans f123.tr0
    have T97 := T97.trans f123.tr0
    have hO := f123.ob hO
    have hF := hF.trans f123
    refine wq_go (E := [(2, (bp b3)), (3, (bp b6)), (26, (.slice A9 x0.fNames.length c10)), (27, (.int .i64 (x0.fNames.length : Int))), (28, (.int .i64 (i98 : Int))), (39, (.bool (!(eqGName z100 y118))))]) hN hds ⟨hb 2 _ rfl rfl, hb 3 _ rfl rfl, hb 26 _ rfl rfl, hb 27 _ rfl rfl, hb 28 _ rfl rfl, (hr 6 _ _ rfl rfl), trivial⟩ ?_
    refine wq_seq ?_
    rcases bif_some h with ⟨hc125, h⟩ | ⟨hc125, h⟩
    rotate_left
    · refine wc_known_false rfl hc125 ?_
      refine wc_skip ?_
      refine wq_block (wq_seq ?_)
      refine wc_region (l := [0, 1]) rfl ?_
      refine wo_seg Θ_ok [0, 1] [(2, (bp b3)), (3, (bp b6)), (26, (.slice A9 x0.fNames.length c10)), (27, (.int .i64 (x0.fNames.length : Int))), (28, (.int .i64 (IntKind.i64.wrap ((i98 : Int) + (1 : Int)))))] rfl ⟨rfl, rfl, rfl, rfl, rfl, trivial⟩ ?_
      refine wo_nil ?_
      exact wq_next rest99.length [(2, (bp b3)), (3, (bp b6)), (26, (.slice A9 x0.fNames.length c10)), (27, (.int .i64 (x0.fNames.length : Int))), (28, (.int .i64 ((i98 + 1 : Nat) : Int)))] (Nat.lt_succ_self _) ⟨rfl, rfl, rfl, rfl, congrArg (fun z => some (Value.int .i64 z)) (wrap_succ hl108 (Nat.le_trans hlc10 hmc10)), trivial⟩ ⟨rest99, i98 + 1, b113 :: O102, rfl, hd101, rfl, T97, hO, hS, hF, ib3, hb3, ib6, hb6, h⟩
    refine wc_known_true rfl hc125 ?_
    refine wc_seq ?_
    refine wc_region (l := [0]) rfl ?_
    refine wo_seg Θ_ok [0] [(4, (.bool false))] rfl ⟨rfl, trivial⟩ ?_
    refine wo_nil ?_
    refine wq_seq ?_
    refine wc_ret ?_
    cases h
    exact wq_block_ret (wq_then_ret (wq_then_ret (wq_block_ret (wq_then_ret (wq_ret rfl ⟨_, rfl, (bool_is.2 rfl), hF⟩)))))
  rintro E w25 ⟨O24, rfl, T19, hO, hS, hF, ib3, hb3, ib6, hb6, h⟩
  have h0_1 := h0_1.tr T19
  have h0_2 := h0_2.tr T19
  have h1_1 := h1_1.tr T19
  have h1_2 := h1_2.tr T19
  subst hk21
  (try dsimp only at h)
  obtain ⟨k27, hk28, h⟩ := letk_some h
  refine wc_join (fun E W => ∃ (O31 : List Nat), E = [] ∧ Tr O24 w25 O31 W ∧ OB O31 W ∧ Sub O O31 ∧ Fr [] w W ∧ k27 = some r) ?_ (fun K29 hK30 => ?_)
  · rintro E w32 ⟨O31, rfl, T26, hO, hS, hF, h⟩
    subst hk28
    (try dsimp only at h)
    refine wc_seq ?_
    refine wc_region (l := [0]) rfl ?_
    refine wo_seg Θ_ok [0] [(4, (.bool true))] rfl ⟨rfl, trivial⟩ ?_
    refine wo_nil ?_
    refine wq_seq ?_
    refine wc_ret ?_
    cases h
    exact wq_ret rfl ⟨_, rfl, (bool_is.2 rfl), hF⟩
  clear hk28
  have T26 := Tr.refl O24 w25
  refine wc_seq ?_
  refine wc_region (l := [0, 1, 2, 3]) rfl ?_
  refine wo_seg Θ_ok [0] [(3, (bp b6)), (41, (.pointer (some ⟨b3, 1, none⟩)))] rfl ⟨rfl, rfl, trivial⟩ ?_
  refine wo_load Θ_ok rfl rfl rfl rfl rfl rfl rfl hb3 [(.slice A14 x0.fBoxes.length c15)] rfl rfl (.inr rfl) (.slice A14 x0.fBoxes.length c15) rfl ?_
  refine wo_seg Θ_ok [2, 3] [(3, (bp b6)), (42, (.slice A14 x0.fBoxes.length c15)), (43, (.int .i64 (x0.fBoxes.length : Int))), (44, (.int .i64 0))] rfl ⟨rfl, rfl, rfl, rfl, trivial⟩ ?_
  refine wo_nil ?_
  refine wq_seq ?_
  refine wc_block ?_
  refine wc_loop (fun m E W => ∃ (rest35 : List GBox) (i34 : Nat) (O38 : List Nat), rest35.length = m ∧ x0.fBoxes.drop i34 = rest35 ∧ E = [(3, (bp b6)), (42, (.slice A14 x0.fBoxes.length c15)), (43, (.int .i64 (x0.fBoxes.length : Int))), (44, (.int .i64 (i34 : Int)))] ∧ Tr O24 w25 O38 W ∧ OB O38 W ∧ Sub O O38 ∧ Fr [] w W ∧ b6 ∈ O38 ∧ Blk W b6 25 [(.slice A11 x1.fNames.length c12), (.slice A16 x1.fBoxes.length c17)] ∧ r_Same_l1 x1 k27 rest35 i34 = some r) _ [(3, (bp b6)), (42, (.slice A14 x0.fBoxes.length c15)), (43, (.int .i64 (x0.fBoxes.length : Int))), (44, (.int .i64 ((0 : Nat) : Int)))] ⟨rfl, rfl, rfl, rfl, trivial⟩ ⟨x0.fBoxes, 0, O24, rfl, rfl, rfl, Tr.refl _ _, hO, hS, hF, ib6, hb6, h⟩ ?_
  rintro m E w39 ⟨rest35, i34, O38, rfl, hd37, rfl, T33, hO, hS, hF, ib6, hb6, h⟩
  have T26 := T26.trans T33
  have h0_2 := h0_2.tr T33
  have h1_1 := h1_1.tr T33
  have h1_2 := h1_2.tr T33
  rcases rest35 with _ | ⟨z36, rest35⟩
  · rw [r_Same_l1] at h
    have hl43 := drop_nil hd37
    have hc40 : (decide ((i34 : Int) < (x0.fBoxes.length : Int))) = false := decide_eq_false (by omega)
    refine wc_seq ?_
    refine wc_region (l := [0]) rfl ?_
    refine wo_seg Θ_ok [0] [(3, (bp b6)), (42, (.slice A14 x0.fBoxes.length c15)), (43, (.int .i64 (x0.fBoxes.length : Int))), (44, (.int .i64 (i34 : Int))), (45, (.bool (decide ((i34 : Int) < (x0.fBoxes.length : Int)))))] rfl ⟨rfl, rfl, rfl, rfl, rfl, trivial⟩ ?_
    refine wo_nil ?_
    refine wq_seq ?_
    refine wc_seq ?_
    refine wc_known_false rfl hc40 ?_
    refine wc_exit ?_
    exact wq_then_exit (wq_then_exit (wq_block_exit (wq_join hK30 [] trivial ⟨O38, rfl, T26, hO, hS, hF, h⟩)))
  rw [r_Same_l1] at h
  obtain ⟨hl44, hg42, hd37⟩ := drop_cons hd37
  have hc41 : (decide ((i34 : Int) < (x0.fBoxes.length : Int))) = true := decide_eq_true (by omega)
  refine wc_seq ?_
  refine wc_region (l := [0]) rfl ?_
  refine wo_seg Θ_ok [0] [(3, (bp b6)), (42, (.slice A14 x0.fBoxes.length c15)), (43, (.int .i64 (x0.fBoxes.length : Int))), (44, (.int .i64 (i34 : Int))), (45, (.bool (decide ((i34 : Int) < (x0.fBoxes.length : Int)))))] rfl ⟨rfl, rfl, rfl, rfl, rfl, trivial⟩ ?_
  refine wo_nil ?_
  refine wq_seq ?_
  refine wc_seq ?_
  refine wc_known_true rfl hc41 ?_
  refine wc_skip ?_
  refine wq_seq ?_
  refine wc_seq ?_
  refine wc_block ?_
  refine wc_seq ?_
  refine wc_region (l := [0, 1, 2, 3, 4, 5]) rfl ?_
  refine wo_seg Θ_ok [0] [(3, (bp b6)), (42, (.slice A14 x0.fBoxes.length c15)), (43, (.int .i64 (x0.fBoxes.length : Int))), (44, (.int .i64 (i34 : Int))), (46, (.int .i64 (i34 : Int)))] rfl ⟨rfl, rfl, rfl, rfl, rfl, trivial⟩ ?_
  refine wo_index Θ_ok rfl rfl rfl rfl rfl rfl rfl rfl rfl rfl h0_2 rfl (by omega) hg42 (fun p45 h46 => ?_)
  refine wo_loadp Θ_ok rfl rfl rfl rfl rfl rfl rfl h46 rfl rfl (fun v47 h48 => ?_)
  obtain ⟨v49, rfl, h50⟩ := tGBox_is.1 h48
  refine wo_alloc Θ_ok rfl rfl rfl rfl rfl rfl [(.int .u64 0), (.slice none 0 0)] rfl hO (fun b51 w52 n53 => ?_)
  have h0_2 := h0_2.tr n53.tr
  have h50 := h50.tr n53.tr
  have h1_1 := h1_1.tr n53.tr
  have h1_2 := h1_2.tr n53.tr
  have T26 := T26.trans n53.tr
  have T33 := T33.trans n53.tr
  have nb51b6 : b51 ≠ b6 := by have := hb6.lt; have := n53.ge; omega
  have hb6 := hb6.fr0 n53.fr
  have ib6 := List.mem_cons_of_mem b51 ib6
  have hb51 := n53.blk
  have gb51 := n53.ge0 hF
  have ib51 : b51 ∈ b51 :: O38 := List.mem_cons_self
  have hO := n53.ob
  have hF := hF.trans n53.fr
  have hS := Sub.cons hS b51
  refine wo_seg Θ_ok [4] [(3, (bp b6)), (7, (.int .i64 (i34 : Int))), (8, (bp b51)), (42, (.slice A14 x0.fBoxes.length c15)), (43, (.int .i64 (x0.fBoxes.length : Int))), (44, (.int .i64 (i34 : Int))), (48, (.agg #[(.int .u64 z36.fPid), v49]))] rfl ⟨rfl, rfl, rfl, rfl, rfl, rfl, rfl, trivial⟩ ?_
  obtain ⟨A54, c55, rfl, hlc55, hmc55⟩ := slice_form h50
  refine wo_store Θ_ok rfl rfl rfl rfl rfl rfl rfl hb51 [(.int .u64 z36.fPid), (.slice A54 z36.fWords.length c55)] rfl rfl (by simp [Value.oneCell']) rfl [(.int .u64 z36.fPid), (.slice A54 z36.fWords.length c55)] rfl (fun w56 hb51 f57 => ?_)
  have h0_2 := h0_2.tr (f57.tr (one_in ib51))
  have h1_1 := h1_1.tr (f57.tr (one_in ib51))
  have h1_2 := h1_2.tr (f57.tr (one_in ib51))
  have h50 := h50.tr (f57.tr (one_in ib51))
  have T26 := T26.trans (f57.tr (one_in ib51))
  have T33 := T33.trans (f57.tr (one_in ib51))
  have hb6 := hb6.fr f57 (nin nb51b6.symm)
  have hO := f57.ob hO
  have hF := hF.own f57 gb51
  refine wo_nil ?_
  refine wq_seq ?_
  refine wc_seq ?_
  obtain ⟨y58, hz59, h⟩ := bind_some h
  rcases bif_some h with ⟨hc60, h⟩ | ⟨hc60, h⟩
  · refine wc_draw mixed [⟨49, [], [8]⟩, ⟨50, [0], []⟩, ⟨51, [], [3]⟩, ⟨52, [2], []⟩, ⟨53, [], [7]⟩, ⟨54, [3, 4], []⟩, ⟨55, [5], []⟩, ⟨56, [6], []⟩, ⟨57, [1, 7], []⟩, ⟨58, [8], []⟩, ⟨59, [9], [8]⟩, ⟨60, [9, 10], []⟩, ⟨61, [9], [3]⟩, ⟨62, [9, 12], []⟩, ⟨63, [9], [7]⟩, ⟨64, [9, 13, 14], []⟩, ⟨65, [9, 15], []⟩, ⟨66, [9, 16], []⟩, ⟨67, [9, 11, 17], []⟩, ⟨68, [9, 18], []⟩, ⟨69, [9, 19], []⟩] [SP.eq (bp b51), SP.eq (.int .u64 z36.fPid), SP.eq (.pointer (some ⟨b6, 1, none⟩)), SP.eq (.slice A16 x1.fBoxes.length c17), SP.eq (.int .i64 (i34 : Int)), SP.is (Ty.ptr tGBox) (b51 :: O38) y58, SP.is (Ty.ptr (Ty.int .u64)) (b51 :: O38) y58.fPid, SP.eq (.int .u64 y58.fPid), SP.eq (.bool (z36.fPid != y58.fPid)), SP.eq (.bool (z36.fPid != y58.fPid)), SP.eq undef, SP.eq undef, SP.eq undef, SP.eq undef, SP.eq undef, SP.eq undef, SP.eq undef, SP.eq undef, SP.eq undef, SP.eq undef, SP.eq (.bool true)] rfl rfl rfl ⟨?_, ?_, ?_, ?_, ?_, ?_, ?_, ?_, ?_, ?_, ?_, ?_, ?_, ?_, ?_, ?_, ?_, ?_, ?_, ?_, ?_, trivial⟩ ?_
    · intro a w2 hfr hN hds hb hd
      exact op_plain Θ_ok ⟨hN, hds, rows_get (E := [(8, (bp b51))]) ⟨hb 8 rfl _ rfl, trivial⟩⟩ rfl rfl rfl rfl rfl
    · intro a w2 hfr hN hds hb hd
      have hb51 := hb51.fr0 hfr
      exact op_load Θ_ok ⟨hN, hds, rows_get (E := [(49, (bp b51))]) ⟨(hd 0 rfl _ _ rfl rfl), trivial⟩⟩ rfl rfl rfl rfl rfl rfl hb51 [(.int .u64 z36.fPid)] rfl rfl (.inr rfl) (.int .u64 z36.fPid) rfl
    · intro a w2 hfr hN hds hb hd
      exact op_plain Θ_ok ⟨hN, hds, rows_get (E := [(3, (bp b6))]) ⟨hb 3 rfl _ rfl, trivial⟩⟩ rfl rfl rfl rfl rfl
    · intro a w2 hfr hN hds hb hd
      have hb6 := hb6.fr0 hfr
      exact op_load Θ_ok ⟨hN, hds, rows_get (E := [(51, (.pointer (some ⟨b6, 1, none⟩)))]) ⟨(hd 2 rfl _ _ rfl rfl), trivial⟩⟩ rfl rfl rfl rfl rfl rfl hb6 [(.slice A16 x1.fBoxes.length c17)] rfl rfl (.inr rfl) (.slice A16 x1.fBoxes.length c17) rfl
    · intro a w2 hfr hN hds hb hd
      exact op_plain Θ_ok ⟨hN, hds, rows_get (E := [(7, (.int .i64 (i34 : Int)))]) ⟨hb 7 rfl _ rfl, trivial⟩⟩ rfl rfl rfl rfl rfl
    · intro a w2 hfr hN hds hb hd
      have h1_2 := h1_2.tr hfr.tr0
      exact op_index (j := (i34 : Int)) Θ_ok ⟨hN, hds, rows_get (E := [(52, (.slice A16 x1.fBoxes.length c17)), (53, (.int .i64 (i34 : Int)))]) ⟨(hd 3 rfl _ _ rfl rfl), (hd 4 rfl _ _ rfl rfl), trivial⟩⟩ rfl rfl rfl rfl rfl rfl rfl rfl rfl h1_2 rfl (idx_some hz59).1 (idx_some hz59).2
    · intro a w2 hfr hN hds hb hd
      have d63 : (Ty.ptr tGBox).is (b51 :: O38) w2 (a.tmps.getD 54 undef) y58 := hd 5 rfl _ _ rfl rfl
      obtain ⟨u61, e62⟩ : ∃ v, a.tmps.getD 54 undef = v := ⟨_, rfl⟩
      rw [e62] at d63
      obtain ⟨ad64, rfl⟩ := ptr_form d63
      have h65 := ptr_sub (S := (Ty.int .u64)) (off := 0) (y := y58.fPid) d63 (fun cs hr => by obtain ⟨z0, rfl, y0⟩ := tGBox_rep hr; exact rfl)
      exact (op_plain (v := (.pointer (some (ad64.add 0)))) Θ_ok ⟨hN, hds, rows_get (E := [(54, (.pointer (some ad64)))]) ⟨e62, trivial⟩⟩ rfl rfl rfl rfl rfl).weaken (fun u w3 ⟨hu, hf⟩ => by subst hu; exact ⟨h65.tr hf.tr0, hf⟩)
    · intro a w2 hfr hN hds hb hd
      have d68 : (Ty.ptr (Ty.int .u64)).is (b51 :: O38) w2 (a.tmps.getD 55 undef) y58.fPid := hd 6 rfl _ _ rfl rfl
      obtain ⟨u66, e67⟩ : ∃ v, a.tmps.getD 55 undef = v := ⟨_, rfl⟩
      rw [e67] at d68
      exact (op_loadp Θ_ok ⟨hN, hds, rows_get (E := [(55, u66)]) ⟨e67, trivial⟩⟩ rfl rfl rfl rfl rfl rfl d68 rfl rfl).weaken (fun u w3 ⟨hu, hf⟩ => ⟨int_is.1 hu, hf⟩)
    · intro a w2 hfr hN hds hb hd
      exact op_plain Θ_ok ⟨hN, hds, rows_get (E := [(50, (.int .u64 z36.fPid)), (56, (.int .u64 y58.fPid))]) ⟨(hd 1 rfl _ _ rfl rfl), (hd 7 rfl _ _ rfl rfl), trivial⟩⟩ rfl rfl rfl rfl rfl
    · intro a w2 hfr hN hds hb hd
      exact op_plain Θ_ok ⟨hN, hds, rows_get (E := [(57, (.bool (z36.fPid != y58.fPid)))]) ⟨(hd 8 rfl _ _ rfl rfl), trivial⟩⟩ rfl rfl rfl rfl rfl
    · intro a w2 hfr hN hds hb hd
      exact op_skip ⟨hN, hds, rows_get (E := [(8, (bp b51)), (58, (.bool true))]) ⟨hb 8 rfl _ rfl, ((hd 9 rfl _ _ rfl rfl).trans (congrArg _ hc60)), trivial⟩⟩ rfl rfl rfl
    · intro a w2 hfr hN hds hb hd
      exact op_skip ⟨hN, hds, rows_get (E := [(58, (.bool true)), (59, undef)]) ⟨((hd 9 rfl _ _ rfl rfl).trans (congrArg _ hc60)), (hd 10 rfl _ _ rfl rfl), trivial⟩⟩ rfl rfl rfl
    · intro a w2 hfr hN hds hb hd
      exact op_skip ⟨hN, hds, rows_get (E := [(3, (bp b6)), (58, (.bool true))]) ⟨hb 3 rfl _ rfl, ((hd 9 rfl _ _ rfl rfl).trans (congrArg _ hc60)), trivial⟩⟩ rfl rfl rfl
    · intro a w2 hfr hN hds hb hd
      exact op_skip ⟨hN, hds, rows_get (E := [(58, (.bool true)), (61, undef)]) ⟨((hd 9 rfl _ _ rfl rfl).trans (congrArg _ hc60)), (hd 12 rfl _ _ rfl rfl), trivial⟩⟩ rfl rfl rfl
    · intro a w2 hfr hN hds hb hd
      exact op_skip ⟨hN, hds, rows_get (E := [(7, (.int .i64 (i34 : Int))), (58, (.bool true))]) ⟨hb 7 rfl _ rfl, ((hd 9 rfl _ _ rfl rfl).trans (congrArg _ hc60)), trivial⟩⟩ rfl rfl rfl
    · intro a w2 hfr hN hds hb hd
      exact op_skip ⟨hN, hds, rows_get (E := [(58, (.bool true)), (62, undef), (63, undef)]) ⟨((hd 9 rfl _ _ rfl rfl).trans (congrArg _ hc60)), (hd 13 rfl _ _ rfl rfl), (hd 14 rfl _ _ rfl rfl), trivial⟩⟩ rfl rfl rfl
    · intro a w2 hfr hN hds hb hd
      exact op_skip ⟨hN, hds, rows_get (E := [(58, (.bool true)), (64, undef)]) ⟨((hd 9 rfl _ _ rfl rfl).trans (congrArg _ hc60)), (hd 15 rfl _ _ rfl rfl), trivial⟩⟩ rfl rfl rfl
    · intro a w2 hfr hN hds hb hd
      exact op_skip ⟨hN, hds, rows_get (E := [(58, (.bool true)), (65, undef)]) ⟨((hd 9 rfl _ _ rfl rfl).trans (congrArg _ hc60)), (hd 16 rfl _ _ rfl rfl), trivial⟩⟩ rfl rfl rfl
    · intro a w2 hfr hN hds hb hd
      exact op_skip ⟨hN, hds, rows_get (E := [(58, (.bool true)), (60, undef), (66, undef)]) ⟨((hd 9 rfl _ _ rfl rfl).trans (congrArg _ hc60)), (hd 11 rfl _ _ rfl rfl), (hd 17 rfl _ _ rfl rfl), trivial⟩⟩ rfl rfl rfl
    · intro a w2 hfr hN hds hb hd
      exact op_skip ⟨hN, hds, rows_get (E := [(58, (.bool true)), (67, undef)]) ⟨((hd 9 rfl _ _ rfl rfl).trans (congrArg _ hc60)), (hd 18 rfl _ _ rfl rfl), trivial⟩⟩ rfl rfl rfl
    · intro a w2 hfr hN hds hb hd
      exact op_plain Θ_ok ⟨hN, hds, rows_get (E := [(58, (.bool true)), (68, undef)]) ⟨((hd 9 rfl _ _ rfl rfl).trans (congrArg _ hc60)), (hd 19 rfl _ _ rfl rfl), trivial⟩⟩ rfl rfl rfl rfl rfl
    intro a w70 f69 hN hds hb hr
    have h0_2 := h0_2.tr f69.tr0
    have h1_1 := h1_1.tr f69.tr0
    have h1_2 := h1_2.tr f69.tr0
    have hb6 := hb6.fr0 f69
    have T26 := T26.trans f69.tr0
    have T33 := T33.trans f69.tr0
    have hO := f69.ob hO
    have hF := hF.trans f69
    refine wq_go (E := [(3, (bp b6)), (42, (.slice A14 x0.fBoxes.length c15)), (43, (.int .i64 (x0.fBoxes.length : Int))), (44, (.int .i64 (i34 : Int))), (69, (.bool true))]) hN hds ⟨hb 3 _ rfl rfl, hb 42 _ rfl rfl, hb 43 _ rfl rfl, hb 44 _ rfl rfl, (hr 20 _ _ rfl rfl), trivial⟩ ?_
    refine wq_seq ?_
    refine wc_true rfl ?_
    refine wc_seq ?_
    refine wc_region (l := [0]) rfl ?_
    refine wo_seg Θ_ok [0] [(4, (.bool false))] rfl ⟨rfl, trivial⟩ ?_
    refine wo_nil ?_
    refine wq_seq ?_
    refine wc_ret ?_
    cases h
    exact wq_block_ret (wq_then_ret (wq_then_ret (wq_block_ret (wq_then_ret (wq_ret rfl ⟨_, rfl, (bool_is.2 rfl), hF⟩)))))
  obtain ⟨y71, hz72, h⟩ := bind_some h
  obtain ⟨y73, hy74, h⟩ := bind_some h
  refine wc_draw mixed [⟨49, [], [8]⟩, ⟨50, [0], []⟩, ⟨51, [], [3]⟩, ⟨52, [2], []⟩, ⟨53, [], [7]⟩, ⟨54, [3, 4], []⟩, ⟨55, [5], []⟩, ⟨56, [6], []⟩, ⟨57, [1, 7], []⟩, ⟨58, [8], []⟩, ⟨59, [9], [8]⟩, ⟨60, [9, 10], []⟩, ⟨61, [9], [3]⟩, ⟨62, [9, 12], []⟩, ⟨63, [9], [7]⟩, ⟨64, [9, 13, 14], []⟩, ⟨65, [9, 15], []⟩, ⟨66, [9, 16], []⟩, ⟨67, [9, 11, 17], []⟩, ⟨68, [9, 18], []⟩, ⟨69, [9, 19], []⟩] [SP.eq (bp b51), SP.eq (.int .u64 z36.fPid), SP.eq (.pointer (some ⟨b6, 1, none⟩)), SP.eq (.slice A16 x1.fBoxes.length c17), SP.eq (.int .i64 (i34 : Int)), SP.is (Ty.ptr tGBox) (b51 :: O38) y58, SP.is (Ty.ptr (Ty.int .u64)) (b51 :: O38) y58.fPid, SP.eq (.int .u64 y58.fPid), SP.eq (.bool (z36.fPid != y58.fPid)), SP.eq (.bool (z36.fPid != y58.fPid)), SP.eq (.pointer (some ⟨b51, 1, none⟩)), SP.eq (.slice A54 z36.fWords.length c55), SP.eq (.pointer (some ⟨b6, 1, none⟩)), SP.eq (.slice A16 x1.fBoxes.length c17), SP.eq (.int .i64 (i34 : Int)), SP.is (Ty.ptr tGBox) (b51 :: O38) y71, SP.is (Ty.ptr (Ty.slice (Ty.int .u64))) (b51 :: O38) y71.fWords, SP.is (Ty.slice (Ty.int .u64)) (b51 :: O38) y71.fWords, SP.eq (.bool y73), SP.eq (.bool (!y73)), SP.eq (.bool (!y73))] rfl rfl rfl ⟨?_, ?_, ?_, ?_, ?_, ?_, ?_, ?_, ?_, ?_, ?_, ?_, ?_, ?_, ?_, ?_, ?_, ?_, ?_, ?_, ?_, trivial⟩ ?_
  · intro a w2 hfr hN hds hb hd
    exact op_plain Θ_ok ⟨hN, hds, rows_get (E := [(8, (bp b51))]) ⟨hb 8 rfl _ rfl, trivial⟩⟩ rfl rfl rfl rfl rfl
  · intro a w2 hfr hN hds hb hd
    have hb51 := hb51.fr0 hfr
    exact op_load Θ_ok ⟨hN, hds, rows_get (E := [(49, (bp b51))]) ⟨(hd 0 rfl _ _ rfl rfl), trivial⟩⟩ rfl rfl rfl rfl rfl rfl hb51 [(.int .u64 z36.fPid)] rfl rfl (.inr rfl) (.int .u64 z36.fPid) rfl
  · intro a w2 hfr hN hds hb hd
    exact op_plain Θ_ok ⟨hN, hds, rows_get (E := [(3, (bp b6))]) ⟨hb 3 rfl _ rfl, trivial⟩⟩ rfl rfl rfl rfl rfl
  · intro a w2 hfr hN hds hb hd
    have hb6 := hb6.fr0 hfr
    exact op_load Θ_ok ⟨hN, hds, rows_get (E := [(51, (.pointer (some ⟨b6, 1, none⟩)))]) ⟨(hd 2 rfl _ _ rfl rfl), trivial⟩⟩ rfl rfl rfl rfl rfl rfl hb6 [(.slice A16 x1.fBoxes.length c17)] rfl rfl (.inr rfl) (.slice A16 x1.fBoxes.length c17) rfl
  · intro a w2 hfr hN hds hb hd
    exact op_plain Θ_ok ⟨hN, hds, rows_get (E := [(7, (.int .i64 (i34 : Int)))]) ⟨hb 7 rfl _ rfl, trivial⟩⟩ rfl rfl rfl rfl rfl
  · intro a w2 hfr hN hds hb hd
    have h1_2 := h1_2.tr hfr.tr0
    exact op_index (j := (i34 : Int)) Θ_ok ⟨hN, hds, rows_get (E := [(52, (.slice A16 x1.fBoxes.length c17)), (53, (.int .i64 (i34 : Int)))]) ⟨(hd 3 rfl _ _ rfl rfl), (hd 4 rfl _ _ rfl rfl), trivial⟩⟩ rfl rfl rfl rfl rfl rfl rfl rfl rfl h1_2 rfl (idx_some hz59).1 (idx_some hz59).2
  · intro a w2 hfr hN hds hb hd
    have d77 : (Ty.ptr tGBox).is (b51 :: O38) w2 (a.tmps.getD 54 undef) y58 := hd 5 rfl _ _ rfl rfl
    obtain ⟨u75, e76⟩ : ∃ v, a.tmps.getD 54 undef = v := ⟨_, rfl⟩
    rw [e76] at d77
    obtain ⟨ad78, rfl⟩ := ptr_form d77
    have h79 := ptr_sub (S := (Ty.int .u64)) (off := 0) (y := y58.fPid) d77 (fun cs hr => by obtain ⟨z0, rfl, y0⟩ := tGBox_rep hr; exact rfl)
    exact (op_plain (v := (.pointer (some (ad78.add 0)))) Θ_ok ⟨hN, hds, rows_get (E := [(54, (.pointer (some ad78)))]) ⟨e76, trivial⟩⟩ rfl rfl rfl rfl rfl).weaken (fun u w3 ⟨hu, hf⟩ => by subst hu; exact ⟨h79.tr hf.tr0, hf⟩)
  · intro a w2 hfr hN hds hb hd
    have d82 : (Ty.ptr (Ty.int .u64)).is (b51 :: O38) w2 (a.tmps.getD 55 undef) y58.fPid := hd 6 rfl _ _ rfl rfl
    obtain ⟨u80, e81⟩ : ∃ v, a.tmps.getD 55 undef = v := ⟨_, rfl⟩
    rw [e81] at d82
    exact (op_loadp Θ_ok ⟨hN, hds, rows_get (E := [(55, u80)]) ⟨e81, trivial⟩⟩ rfl rfl rfl rfl rfl rfl d82 rfl rfl).weaken (fun u w3 ⟨hu, hf⟩ => ⟨int_is.1 hu, hf⟩)
  · intro a w2 hfr hN hds hb hd
    exact op_plain Θ_ok ⟨hN, hds, rows_get (E := [(50, (.int .u64 z36.fPid)), (56, (.int .u64 y58.fPid))]) ⟨(hd 1 rfl _ _ rfl rfl), (hd 7 rfl _ _ rfl rfl), trivial⟩⟩ rfl rfl rfl rfl rfl
  · intro a w2 hfr hN hds hb hd
    exact op_plain Θ_ok ⟨hN, hds, rows_get (E := [(57, (.bool (z36.fPid != y58.fPid)))]) ⟨(hd 8 rfl _ _ rfl rfl), trivial⟩⟩ rfl rfl rfl rfl rfl
  · intro a w2 hfr hN hds hb hd
    exact op_plain Θ_ok ⟨hN, hds, rows_get (E := [(8, (bp b51)), (58, (.bool false))]) ⟨hb 8 rfl _ rfl, ((hd 9 rfl _ _ rfl rfl).trans (congrArg _ hc60)), trivial⟩⟩ rfl rfl rfl rfl rfl
  · intro a w2 hfr hN hds hb hd
    have hb51 := hb51.fr0 hfr
    exact op_load Θ_ok ⟨hN, hds, rows_get (E := [(58, (.bool false)), (59, (.pointer (some ⟨b51, 1, none⟩)))]) ⟨((hd 9 rfl _ _ rfl rfl).trans (congrArg _ hc60)), (hd 10 rfl _ _ rfl rfl), trivial⟩⟩ rfl rfl rfl rfl rfl rfl hb51 [(.slice A54 z36.fWords.length c55)] rfl rfl (.inr rfl) (.slice A54 z36.fWords.length c55) rfl
  · intro a w2 hfr hN hds hb hd
    exact op_plain Θ_ok ⟨hN, hds, rows_get (E := [(3, (bp b6)), (58, (.bool false))]) ⟨hb 3 rfl _ rfl, ((hd 9 rfl _ _ rfl rfl).trans (congrArg _ hc60)), trivial⟩⟩ rfl rfl rfl rfl rfl
  · intro a w2 hfr hN hds hb hd
    have hb6 := hb6.fr0 hfr
    exact op_load Θ_ok ⟨hN, hds, rows_get (E := [(58, (.bool false)), (61, (.pointer (some ⟨b6, 1, none⟩)))]) ⟨((hd 9 rfl _ _ rfl rfl).trans (congrArg _ hc60)), (hd 12 rfl _ _ rfl rfl), trivial⟩⟩ rfl rfl rfl rfl rfl rfl hb6 [(.slice A16 x1.fBoxes.length c17)] rfl rfl (.inr rfl) (.slice A16 x1.fBoxes.length c17) rfl
  · intro a w2 hfr hN hds hb hd
    exact op_plain Θ_ok ⟨hN, hds, rows_get (E := [(7, (.int .i64 (i34 : Int))), (58, (.bool false))]) ⟨hb 7 rfl _ rfl, ((hd 9 rfl _ _ rfl rfl).trans (congrArg _ hc60)), trivial⟩⟩ rfl rfl rfl rfl rfl
  · intro a w2 hfr hN hds hb hd
    have h1_2 := h1_2.tr hfr.tr0
    exact op_index (j := (i34 : Int)) Θ_ok ⟨hN, hds, rows_get (E := [(58, (.bool false)), (62, (.slice A16 x1.fBoxes.length c17)), (63, (.int .i64 (i34 : Int)))]) ⟨((hd 9 rfl _ _ rfl rfl).trans (congrArg _ hc60)), (hd 13 rfl _ _ rfl rfl), (hd 14 rfl _ _ rfl rfl), trivial⟩⟩ rfl rfl rfl rfl rfl rfl rfl rfl rfl h1_2 rfl (idx_some hz72).1 (idx_some hz72).2
  · intro a w2 hfr hN hds hb hd
    have d85 : (Ty.ptr tGBox).is (b51 :: O38) w2 (a.tmps.getD 64 undef) y71 := hd 15 rfl _ _ rfl rfl
    obtain ⟨u83, e84⟩ : ∃ v, a.tmps.getD 64 undef = v := ⟨_, rfl⟩
    rw [e84] at d85
    obtain ⟨ad86, rfl⟩ := ptr_form d85
    have h87 := ptr_sub (S := (Ty.slice (Ty.int .u64))) (off := 1) (y := y71.fWords) d85 (fun cs hr => by obtain ⟨z0, rfl, y0⟩ := tGBox_rep hr; exact rep_of rfl y0)
    exact (op_plain (v := (.pointer (some (ad86.add 1)))) Θ_ok ⟨hN, hds, rows_get (E := [(58, (.bool false)), (64, (.pointer (some ad86)))]) ⟨((hd 9 rfl _ _ rfl rfl).trans (congrArg _ hc60)), e84, trivial⟩⟩ rfl rfl rfl rfl rfl).weaken (fun u w3 ⟨hu, hf⟩ => by subst hu; exact ⟨h87.tr hf.tr0, hf⟩)
  · intro a w2 hfr hN hds hb hd
    have d90 : (Ty.ptr (Ty.slice (Ty.int .u64))).is (b51 :: O38) w2 (a.tmps.getD 65 undef) y71.fWords := hd 16 rfl _ _ rfl rfl
    obtain ⟨u88, e89⟩ : ∃ v, a.tmps.getD 65 undef = v := ⟨_, rfl⟩
    rw [e89] at d90
    exact op_loadp Θ_ok ⟨hN, hds, rows_get (E := [(58, (.bool false)), (65, u88)]) ⟨((hd 9 rfl _ _ rfl rfl).trans (congrArg _ hc60)), e89, trivial⟩⟩ rfl rfl rfl rfl rfl rfl d90 rfl rfl
  · intro a w2 hfr hN hds hb hd
    have h50 := h50.tr hfr.tr0
    have d93 : (Ty.slice (Ty.int .u64)).is (b51 :: O38) w2 (a.tmps.getD 66 undef) y71.fWords := hd 17 rfl _ _ rfl rfl
    obtain ⟨u91, e92⟩ : ∃ v, a.tmps.getD 66 undef = v := ⟨_, rfl⟩
    rw [e92] at d93
    exact (op_call ⟨hN, hds, rows_get (E := [(58, (.bool false)), (60, (.slice A54 z36.fWords.length c55)), (66, u91)]) ⟨((hd 9 rfl _ _ rfl rfl).trans (congrArg _ hc60)), (hd 11 rfl _ _ rfl rfl), e92, trivial⟩⟩ rfl rfl rfl rfl ent40 rfl (r_words_c (hfr.ob hO) h50 d93 hy74)).weaken (fun u w3 ⟨hu, hf⟩ => ⟨bool_is.1 hu, hf⟩)
  · intro a w2 hfr hN hds hb hd
    exact op_plain Θ_ok ⟨hN, hds, rows_get (E := [(58, (.bool false)), (67, (.bool y73))]) ⟨((hd 9 rfl _ _ rfl rfl).trans (congrArg _ hc60)), (hd 18 rfl _ _ rfl rfl), trivial⟩⟩ rfl rfl rfl rfl rfl
  · intro a w2 hfr hN hds hb hd
    exact op_plain Θ_ok ⟨hN, hds, rows_get (E := [(58, (.bool false)), (68, (.bool (!y73)))]) ⟨((hd 9 rfl _ _ rfl rfl).trans (congrArg _ hc60)), (hd 19 rfl _ _ rfl rfl), trivial⟩⟩ rfl rfl rfl rfl rfl
  intro a w95 f94 hN hds hb hr
  have h0_2 := h0_2.tr f94.tr0
  have h1_1 := h1_1.tr f94.tr0
  have h1_2 := h1_2.tr f94.tr0
  have hb6 := hb6.fr0 f94
  have T26 := T26.trans f94.tr0
  have T33 := T33.trans f94.tr0
  have hO := f94.ob hO
  have hF := hF.trans f94
  refine wq_go (E := [(3, (bp b6)), (42, (.slice A14 x0.fBoxes.length c15)), (43, (.int .i64 (x0.fBoxes.length : Int))), (44, (.int .i64 (i34 : Int))), (69, (.bool (!y73)))]) hN hds ⟨hb 3 _ rfl rfl, hb 42 _ rfl rfl, hb 43 _ rfl rfl, hb 44 _ rfl rfl, (hr 20 _ _ rfl rfl), trivial⟩ ?_
  refine wq_seq ?_
  rcases bif_some h with ⟨hc96, h⟩ | ⟨hc96, h⟩
  rotate_left
  · refine wc_known_false rfl hc96 ?_
    refine wc_skip ?_
    refine wq_block (wq_seq ?_)
    refine wc_region (l := [0, 1]) rfl ?_
    refine wo_seg Θ_ok [0, 1] [(3, (bp b6)), (42, (.slice A14 x0.fBoxes.length c15)), (43, (.int .i64 (x0.fBoxes.length : Int))), (44, (.int .i64 (IntKind.i64.wrap ((i34 : Int) + (1 : Int)))))] rfl ⟨rfl, rfl, rfl, rfl, trivial⟩ ?_
    refine wo_nil ?_
    exact wq_next rest35.length [(3, (bp b6)), (42, (.slice A14 x0.fBoxes.length c15)), (43, (.int .i64 (x0.fBoxes.length : Int))), (44, (.int .i64 ((i34 + 1 : Nat) : Int)))] (Nat.lt_succ_self _) ⟨rfl, rfl, rfl, congrArg (fun z => some (Value.int .i64 z)) (wrap_succ hl44 (Nat.le_trans hlc15 hmc15)), trivial⟩ ⟨rest35, i34 + 1, b51 :: O38, rfl, hd37, rfl, T33, hO, hS, hF, ib6, hb6, h⟩
  refine wc_known_true rfl hc96 ?_
  refine wc_seq ?_
  refine wc_region (l := [0]) rfl ?_
  refine wo_seg Θ_ok [0] [(4, (.bool false))] rfl ⟨rfl, trivial⟩ ?_
  refine wo_nil ?_
  refine wq_seq ?_
  refine wc_ret ?_
  cases h
  exact wq_block_ret (wq_then_ret (wq_then_ret (wq_block_ret (wq_then_ret (wq_ret rfl ⟨_, rfl, (bool_is.2 rfl), hF⟩)))))
set_option maxRecDepth 100000 in
set_option maxHeartbeats 4000000 in
theorem r_Waits_c {O : List Nat} {w : World} (hO : OB O w) {v0 : Value} {x0 : GIpc} (h0 : tGIpc.is O w v0 x0) {v1 : Value} {x1 : Int} (h1 : (Ty.int .u64).is O w v1 x1) : Calls Try.prog 27 #[v0, v1] w (Gives (rt1 (Ty.slice (Ty.int .u64))) O w (r_Waits x0 x1)) := by
  obtain ⟨v0_1, v0_2, rfl, h0_1, h0_2⟩ := tGIpc_is.1 h0
  obtain rfl := int_is.1 h1
  have hF := Fr.refl [] w
  have hO0 := hO
  have hS := Sub.refl O
  obtain ⟨r, h⟩ : ∃ r, r_Waits x0 x1 = r := ⟨_, rfl⟩
  rw [h]
  refine calls_of (args := [(.agg #[v0_1, v0_2]), (.int .u64 x1)]) (N := 21) Try.func27 rfl rfl rfl ?_
  unfold r_Waits at h
  refine wc_seq ?_
  refine wc_region (l := [0, 1]) rfl ?_
  refine wo_box rfl rfl rfl rfl rfl rfl [v0_1, v0_2] rfl hO (fun b3 w4 n5 => ?_)
  have h0_1 := h0_1.tr n5.tr
  have h0_2 := h0_2.tr n5.tr
  have hb3 := n5.blk
  have gb3 := n5.ge0 hF
  have ib3 : b3 ∈ b3 :: O := List.mem_cons_self
  have hO := n5.ob
  have hF := hF.trans n5.fr
  have hS := Sub.cons hS b3
  refine wo_seg Θ_ok [1] [(1, (.int .u64 x1)), (2, (bp b3))] rfl ⟨rfl, rfl, trivial⟩ ?_
  refine wo_nil ?_
  refine wq_seq ?_
  obtain ⟨k7, hk8, h⟩ := letk_some h
  refine wc_join (fun E W => ∃ (O11 : List Nat), E = [] ∧ Tr (b3 :: O) w4 O11 W ∧ OB O11 W ∧ Sub O O11 ∧ Fr [] w W ∧ k7 = r) ?_ (fun K9 hK10 => ?_)
  · rintro E w12 ⟨O11, rfl, T6, hO, hS, hF, h⟩
    subst hk8
    (try dsimp only at h)
    refine wc_seq ?_
    refine wc_region (l := [0]) rfl ?_
    refine wo_seg Θ_ok [0] [(4, (.slice none 0 0))] rfl ⟨rfl, trivial⟩ ?_
    refine wo_nil ?_
    refine wq_seq ?_
    refine wc_ret ?_
    subst h
    exact wq_ret rfl ⟨_, rfl, (slice_nil _ _ _), hF⟩
  clear hk8
  have T6 := Tr.refl (b3 :: O) w4
  refine wc_seq ?_
  refine wc_region (l := [0, 1, 2, 3]) rfl ?_
  refine wo_seg Θ_ok [0] [(1, (.int .u64 x1)), (7, (.pointer (some ⟨b3, 1, none⟩)))] rfl ⟨rfl, rfl, trivial⟩ ?_
  refine wo_load Θ_ok rfl rfl rfl rfl rfl rfl rfl hb3 [v0_2] rfl rfl (.inr rfl) v0_2 rfl ?_
  obtain ⟨A13, c14, rfl, hlc14, hmc14⟩ := slice_form h0_2
  refine wo_seg Θ_ok [2] [(1, (.int .u64 x1)), (8, (.slice A13 x0.fBoxes.length c14)), (9, (.int .i64 (x0.fBoxes.length : Int)))] rfl ⟨rfl, rfl, rfl, trivial⟩ ?_
  refine wo_seg Θ_ok [3] [(1, (.int .u64 x1)), (8, (.slice A13 x0.fBoxes.length c14)), (9, (.int .i64 (x0.fBoxes.length : Int))), (10, (.int .i64 0))] rfl ⟨rfl, rfl, rfl, rfl, trivial⟩ ?_
  refine wo_nil ?_
  refine wq_seq ?_
  refine wc_block ?_
  refine wc_loop (fun m E W => ∃ (rest17 : List GBox) (i16 : Nat) (O20 : List Nat), rest17.length = m ∧ x0.fBoxes.drop i16 = rest17 ∧ E = [(1, (.int .u64 x1)), (8, (.slice A13 x0.fBoxes.length c14)), (9, (.int .i64 (x0.fBoxes.length : Int))), (10, (.int .i64 (i16 : Int)))] ∧ Tr (b3 :: O) w4 O20 W ∧ OB O20 W ∧ Sub O O20 ∧ Fr [] w W ∧ r_Waits_l1 x1 k7 rest17 i16 = r) _ [(1, (.int .u64 x1)), (8, (.slice A13 x0.fBoxes.length c14)), (9, (.int .i64 (x0.fBoxes.length : Int))), (10, (.int .i64 ((0 : Nat) : Int)))] ⟨rfl, rfl, rfl, rfl, trivial⟩ ⟨x0.fBoxes, 0, b3 :: O, rfl, rfl, rfl, Tr.refl _ _, hO, hS, hF, h⟩ ?_
  rintro m E w21 ⟨rest17, i16, O20, rfl, hd19, rfl, T15, hO, hS, hF, h⟩
  have T6 := T6.trans T15
  have h0_2 := h0_2.tr T15
  rcases rest17 with _ | ⟨z18, rest17⟩
  · rw [r_Waits_l1] at h
    have hl25 := drop_nil hd19
    have hc22 : (decide ((i16 : Int) < (x0.fBoxes.length : Int))) = false := decide_eq_false (by omega)
    refine wc_seq ?_
    refine wc_region (l := [0]) rfl ?_
    refine wo_seg Θ_ok [0] [(1, (.int .u64 x1)), (8, (.slice A13 x0.fBoxes.length c14)), (9, (.int .i64 (x0.fBoxes.length : Int))), (10, (.int .i64 (i16 : Int))), (11, (.bool (decide ((i16 : Int) < (x0.fBoxes.length : Int)))))] rfl ⟨rfl, rfl, rfl, rfl, rfl, trivial⟩ ?_
    refine wo_nil ?_
    refine wq_seq ?_
    refine wc_seq ?_
    refine wc_known_false rfl hc22 ?_
    refine wc_exit ?_
    exact wq_then_exit (wq_then_exit (wq_block_exit (wq_join hK10 [] trivial ⟨O20, rfl, T6, hO, hS, hF, h⟩)))
  rw [r_Waits_l1] at h
  obtain ⟨hl26, hg24, hd19⟩ := drop_cons hd19
  have hc23 : (decide ((i16 : Int) < (x0.fBoxes.length : Int))) = true := decide_eq_true (by omega)
  refine wc_seq ?_
  refine wc_region (l := [0]) rfl ?_
  refine wo_seg Θ_ok [0] [(1, (.int .u64 x1)), (8, (.slice A13 x0.fBoxes.length c14)), (9, (.int .i64 (x0.fBoxes.length : Int))), (10, (.int .i64 (i16 : Int))), (11, (.bool (decide ((i16 : Int) < (x0.fBoxes.length : Int)))))] rfl ⟨rfl, rfl, rfl, rfl, rfl, trivial⟩ ?_
  refine wo_nil ?_
  refine wq_seq ?_
  refine wc_seq ?_
  refine wc_known_true rfl hc23 ?_
  refine wc_skip ?_
  refine wq_seq ?_
  refine wc_seq ?_
  refine wc_block ?_
  refine wc_seq ?_
  refine wc_region (l := [0, 1, 2, 3]) rfl ?_
  refine wo_index Θ_ok rfl rfl rfl rfl rfl rfl rfl rfl rfl rfl h0_2 rfl (by omega) hg24 (fun p27 h28 => ?_)
  refine wo_loadp Θ_ok rfl rfl rfl rfl rfl rfl rfl h28 rfl rfl (fun v29 h30 => ?_)
  obtain ⟨v31, rfl, h32⟩ := tGBox_is.1 h30
  refine wo_alloc Θ_ok rfl rfl rfl rfl rfl rfl [(.int .u64 0), (.slice none 0 0)] rfl hO (fun b33 w34 n35 => ?_)
  have h0_2 := h0_2.tr n35.tr
  have h32 := h32.tr n35.tr
  have T6 := T6.trans n35.tr
  have T15 := T15.trans n35.tr
  have hb33 := n35.blk
  have gb33 := n35.ge0 hF
  have ib33 : b33 ∈ b33 :: O20 := List.mem_cons_self
  have hO := n35.ob
  have hF := hF.trans n35.fr
  have hS := Sub.cons hS b33
  obtain ⟨A36, c37, rfl, hlc37, hmc37⟩ := slice_form h32
  refine wo_store Θ_ok rfl rfl rfl rfl rfl rfl rfl hb33 [(.int .u64 z18.fPid), (.slice A36 z18.fWords.length c37)] rfl rfl (by simp [Value.oneCell']) rfl [(.int .u64 z18.fPid), (.slice A36 z18.fWords.length c37)] rfl (fun w38 hb33 f39 => ?_)
  have h0_2 := h0_2.tr (f39.tr (one_in ib33))
  have h32 := h32.tr (f39.tr (one_in ib33))
  have T6 := T6.trans (f39.tr (one_in ib33))
  have T15 := T15.trans (f39.tr (one_in ib33))
  have hO := f39.ob hO
  have hF := hF.own f39 gb33
  refine wo_nil ?_
  refine wq_seq ?_
  refine wc_seq ?_
  refine wc_region (l := [0, 1, 2, 3]) rfl ?_
  refine wo_seg Θ_ok [0] [(1, (.int .u64 x1)), (6, (bp b33)), (8, (.slice A13 x0.fBoxes.length c14)), (9, (.int .i64 (x0.fBoxes.length : Int))), (10, (.int .i64 (i16 : Int))), (14, (bp b33))] rfl ⟨rfl, rfl, rfl, rfl, rfl, rfl, trivial⟩ ?_
  refine wo_load Θ_ok rfl rfl rfl rfl rfl rfl rfl hb33 [(.int .u64 z18.fPid)] rfl rfl (.inr rfl) (.int .u64 z18.fPid) rfl ?_
  refine wo_seg Θ_ok [2, 3] [(1, (.int .u64 x1)), (6, (bp b33)), (8, (.slice A13 x0.fBoxes.length c14)), (9, (.int .i64 (x0.fBoxes.length : Int))), (10, (.int .i64 (i16 : Int))), (17, (.bool (z18.fPid == x1)))] rfl ⟨rfl, rfl, rfl, rfl, rfl, rfl, trivial⟩ ?_
  refine wo_nil ?_
  refine wq_seq ?_
  rcases bif_some h with ⟨hc40, h⟩ | ⟨hc40, h⟩
  rotate_left
  · refine wc_known_false rfl hc40 ?_
    refine wc_skip ?_
    refine wq_block (wq_seq ?_)
    refine wc_region (l := [0, 1]) rfl ?_
    refine wo_seg Θ_ok [0, 1] [(1, (.int .u64 x1)), (8, (.slice A13 x0.fBoxes.length c14)), (9, (.int .i64 (x0.fBoxes.length : Int))), (10, (.int .i64 (IntKind.i64.wrap ((i16 : Int) + (1 : Int)))))] rfl ⟨rfl, rfl, rfl, rfl, trivial⟩ ?_
    refine wo_nil ?_
    exact wq_next rest17.length [(1, (.int .u64 x1)), (8, (.slice A13 x0.fBoxes.length c14)), (9, (.int .i64 (x0.fBoxes.length : Int))), (10, (.int .i64 ((i16 + 1 : Nat) : Int)))] (Nat.lt_succ_self _) ⟨rfl, rfl, rfl, congrArg (fun z => some (Value.int .i64 z)) (wrap_succ hl26 (Nat.le_trans hlc14 hmc14)), trivial⟩ ⟨rest17, i16 + 1, b33 :: O20, rfl, hd19, rfl, T15, hO, hS, hF, h⟩
  refine wc_known_true rfl hc40 ?_
  refine wc_seq ?_
  refine wc_region (l := [0, 1, 2]) rfl ?_
  refine wo_seg Θ_ok [0] [(18, (.pointer (some ⟨b33, 1, none⟩)))] rfl ⟨rfl, trivial⟩ ?_
  refine wo_load Θ_ok rfl rfl rfl rfl rfl rfl rfl hb33 [(.slice A36 z18.fWords.length c37)] rfl rfl (.inr rfl) (.slice A36 z18.fWords.length c37) rfl ?_
  refine wo_seg Θ_ok [2] [(4, (.slice A36 z18.fWords.length c37))] rfl ⟨rfl, trivial⟩ ?_
  refine wo_nil ?_
  refine wq_seq ?_
  refine wc_ret ?_
  subst h
  exact wq_block_ret (wq_then_ret (wq_then_ret (wq_block_ret (wq_then_ret (wq_ret rfl ⟨_, rfl, (h32.tr (Tr.less hS)), hF⟩)))))
end Go.Proofs.Ytjdeaihnpgkphaa
