/-
  The program's functions compute the plain ones (printed by a tool of the prover's).
-/
import Derived.Test.YtdemjanelbajlaaGWalk4
namespace Go.Proofs.Ytdemjanelbajlaa
open Go.RowKit Go.Dc Go.Shelf
set_option maxRecDepth 100000 in
set_option maxHeartbeats 4000000 in
theorem l_Steady_c {O : List Nat} {w : World} (hO : OB O w) {fuel : Nat} {v0 : Value} {x0 : Int} (h0 : (Ty.int .i64).is O w v0 x0) {v1 : Value} {x1 : Int} (h1 : (Ty.int .i64).is O w v1 x1) {r : Bool} (h : l_Steady fuel x0 x1 = some r) : Calls Try.prog 5 #[v0, v1] w (Gives (rt1 Ty.bool) O w r) := by
  obtain rfl := int_is.1 h0
  obtain rfl := int_is.1 h1
  have hF := Fr.refl [] w
  have hO0 := hO
  have hS := Sub.refl O
  refine calls_of (args := [(.int .i64 x0), (.int .i64 x1)]) (N := 57) Try.func5 rfl rfl rfl ?_
  unfold l_Steady at h
  refine wc_seq ?_
  refine wc_region (l := [0]) rfl ?_
  refine wo_seg Θ_ok [0] [(0, (.int .i64 x0)), (1, (.int .i64 x1))] rfl ⟨rfl, rfl, trivial⟩ ?_
  refine wo_nil ?_
  refine wq_seq ?_
  refine wc_seq ?_
  refine wc_seq ?_
  refine wc_region (l := [0, 1]) rfl ?_
  obtain ⟨y7, hy8, h⟩ := bind_some h
  refine wo_gives rfl rfl rfl rfl rfl ent10 rfl (r_wakes_c hO hy8) (fun v3 w4 h5 f6 => ?_)
  have hO := f6.ob hO
  have hF := hF.trans f6
  obtain rfl := bool_is.1 h5
  refine wo_seg Θ_ok [1] [(0, (.int .i64 x0)), (1, (.int .i64 x1)), (9, (.bool (!y7)))] rfl ⟨rfl, rfl, rfl, trivial⟩ ?_
  refine wo_nil ?_
  refine wq_seq ?_
  rcases bif_some h with ⟨hc9, h⟩ | ⟨hc9, h⟩
  · refine wc_known_true rfl hc9 ?_
    refine wc_seq ?_
    refine wc_region (l := [0]) rfl ?_
    refine wo_seg Θ_ok [0] [(4, (.bool false))] rfl ⟨rfl, trivial⟩ ?_
    refine wo_nil ?_
    refine wq_seq ?_
    refine wc_ret ?_
    cases h
    exact wq_then_ret (wq_ret rfl ⟨_, rfl, (bool_is.2 rfl), hF⟩)
  refine wc_known_false rfl hc9 ?_
  refine wc_skip ?_
  refine wq_seq ?_
  refine wc_seq ?_
  refine wc_region (l := [0, 1, 2, 3, 4, 5, 6, 7]) rfl ?_
  refine wo_seg Θ_ok [0, 1] [(0, (.int .i64 x0)), (1, (.int .i64 x1)), (11, (.int .i64 x0)), (12, (.int .i64 x1))] rfl ⟨rfl, rfl, rfl, rfl, trivial⟩ ?_
  refine wo_gives rfl rfl rfl rfl rfl ent11 rfl (b_Want_c hO (int_is.2 rfl) (int_is.2 rfl)) (fun v10 w11 h12 f13 => ?_)
  have hO := f13.ob hO
  have hF := hF.trans f13
  obtain ⟨u14, u16, rfl, h15, h17⟩ := h12
  obtain rfl := int_is.1 h15
  obtain rfl := int_is.1 h17
  refine wo_seg Θ_ok [3, 4, 5, 6, 7] [(0, (.int .i64 x0)), (1, (.int .i64 x1)), (5, (.int .i64 (((b_Want x0 x1)).1))), (6, (.int .i64 (((b_Want x0 x1)).2)))] rfl ⟨rfl, rfl, rfl, rfl, trivial⟩ ?_
  refine wo_nil ?_
  refine wq_seq ?_
  refine wc_seq ?_
  refine wc_seq ?_
  refine wc_region (l := [0, 1]) rfl ?_
  refine wo_seg Θ_ok [0, 1] [(0, (.int .i64 x0)), (1, (.int .i64 x1)), (5, (.int .i64 (((b_Want x0 x1)).1))), (17, (.bool ((((b_Want x0 x1)).2) != (0 : Int))))] rfl ⟨rfl, rfl, rfl, rfl, trivial⟩ ?_
  refine wo_nil ?_
  refine wq_seq ?_
  rcases bif_some h with ⟨hc18, h⟩ | ⟨hc18, h⟩
  · refine wc_known_true rfl hc18 ?_
    refine wc_seq ?_
    refine wc_region (l := [0, 1, 2]) rfl ?_
    refine wo_seg Θ_ok [0, 1, 2] [(4, (.bool ((((b_Want x0 x1)).1) == (0 : Int))))] rfl ⟨rfl, trivial⟩ ?_
    refine wo_nil ?_
    refine wq_seq ?_
    refine wc_ret ?_
    cases h
    exact wq_then_ret (wq_ret rfl ⟨_, rfl, (bool_is.2 rfl), hF⟩)
  refine wc_known_false rfl hc18 ?_
  refine wc_skip ?_
  refine wq_seq ?_
  refine wc_seq ?_
  refine wc_region (l := [0, 1, 2, 3, 4, 5, 6, 7]) rfl ?_
  refine wo_seg Θ_ok [0, 1] [(0, (.int .i64 x0)), (5, (.int .i64 (((b_Want x0 x1)).1))), (21, (.int .i64 (((b_Want x0 x1)).1))), (22, (.int .i64 x1))] rfl ⟨rfl, rfl, rfl, rfl, trivial⟩ ?_
  refine wo_gives rfl rfl rfl rfl rfl ent11 rfl (b_Want_c hO (int_is.2 rfl) (int_is.2 rfl)) (fun v19 w20 h21 f22 => ?_)
  have hO := f22.ob hO
  have hF := hF.trans f22
  obtain ⟨u23, u25, rfl, h24, h26⟩ := h21
  obtain rfl := int_is.1 h24
  obtain rfl := int_is.1 h26
  refine wo_seg Θ_ok [3, 4, 5, 6, 7] [(0, (.int .i64 x0)), (5, (.int .i64 (((b_Want x0 x1)).1))), (6, (.int .i64 (((b_Want (((b_Want x0 x1)).1) x1)).2))), (7, (.int .i64 (((b_Want (((b_Want x0 x1)).1) x1)).1)))] rfl ⟨rfl, rfl, rfl, rfl, trivial⟩ ?_
  refine wo_nil ?_
  refine wq_seq ?_
  refine wc_seq ?_
  refine wc_seq ?_
  refine wc_region (l := [0, 1]) rfl ?_
  refine wo_seg Θ_ok [0, 1] [(0, (.int .i64 x0)), (5, (.int .i64 (((b_Want x0 x1)).1))), (7, (.int .i64 (((b_Want (((b_Want x0 x1)).1) x1)).1))), (27, (.bool ((((b_Want (((b_Want x0 x1)).1) x1)).2) != (0 : Int))))] rfl ⟨rfl, rfl, rfl, rfl, trivial⟩ ?_
  refine wo_nil ?_
  refine wq_seq ?_
  rcases bif_some h with ⟨hc27, h⟩ | ⟨hc27, h⟩
  · refine wc_known_true rfl hc27 ?_
    refine wc_seq ?_
    refine wc_region (l := [0]) rfl ?_
    refine wo_seg Θ_ok [0] [(4, (.bool false))] rfl ⟨rfl, trivial⟩ ?_
    refine wo_nil ?_
    refine wq_seq ?_
    refine wc_ret ?_
    cases h
    exact wq_then_ret (wq_ret rfl ⟨_, rfl, (bool_is.2 rfl), hF⟩)
  refine wc_known_false rfl hc27 ?_
  refine wc_skip ?_
  refine wq_seq ?_
  refine wc_seq ?_
  refine wc_block ?_
  refine wc_seq ?_
  refine wc_region (l := [0, 1, 2, 3]) rfl ?_
  refine wo_seg Θ_ok [0, 1, 2, 3] [(0, (.int .i64 x0)), (5, (.int .i64 (((b_Want x0 x1)).1))), (7, (.int .i64 (((b_Want (((b_Want x0 x1)).1) x1)).1))), (28, (.bool (decide ((((b_Want x0 x1)).1) > x0))))] rfl ⟨rfl, rfl, rfl, rfl, trivial⟩ ?_
  refine wo_nil ?_
  refine wq_seq ?_
  rcases bif_some h with ⟨hc28, h⟩ | ⟨hc28, h⟩
  · refine wc_known_true rfl hc28 ?_
    refine wc_seq ?_
    refine wc_region (l := [0, 1, 2, 3, 4, 5, 6, 7, 8, 9]) rfl ?_
    refine wo_seg Θ_ok [0, 1, 2, 3, 4] [(5, (.int .i64 (((b_Want x0 x1)).1))), (7, (.int .i64 (((b_Want (((b_Want x0 x1)).1) x1)).1))), (36, (.bool ((((b_Want x0 x1)).1) == (IntKind.i64.wrap ((2 : Int) * x0)))))] rfl ⟨rfl, rfl, rfl, trivial⟩ ?_
    rcases bif_some h with ⟨hc29, h⟩ | ⟨hc29, h⟩
    · refine wo_know 36 true rfl hc29 ?_
      refine wo_seg Θ_ok [5, 6, 7, 8, 9] [(4, (.bool (decide ((((b_Want (((b_Want x0 x1)).1) x1)).1) ≥ (((b_Want x0 x1)).1)))))] rfl ⟨rfl, trivial⟩ ?_
      refine wo_nil ?_
      refine wq_seq ?_
      refine wc_ret ?_
      cases h
      exact wq_block_ret (wq_then_ret (wq_ret rfl ⟨_, rfl, (bool_is.2 rfl), hF⟩))
    refine wo_know 36 false rfl hc29 ?_
    refine wo_seg Θ_ok [5, 6, 7, 8, 9] [(4, (.bool false))] rfl ⟨rfl, trivial⟩ ?_
    refine wo_nil ?_
    refine wq_seq ?_
    refine wc_ret ?_
    cases h
    exact wq_block_ret (wq_then_ret (wq_ret rfl ⟨_, rfl, (bool_is.2 rfl), hF⟩))
  refine wc_known_false rfl hc28 ?_
  refine wc_seq ?_
  refine wc_region (l := [0, 1, 2, 3]) rfl ?_
  refine wo_seg Θ_ok [0, 1, 2, 3] [(0, (.int .i64 x0)), (5, (.int .i64 (((b_Want x0 x1)).1))), (7, (.int .i64 (((b_Want (((b_Want x0 x1)).1) x1)).1))), (41, (.bool (decide ((((b_Want x0 x1)).1) < x0))))] rfl ⟨rfl, rfl, rfl, rfl, trivial⟩ ?_
  refine wo_nil ?_
  refine wq_seq ?_
  rcases bif_some h with ⟨hc30, h⟩ | ⟨hc30, h⟩
  rotate_left
  · refine wc_known_false rfl hc30 ?_
    refine wc_skip ?_
    refine wq_block (wq_seq ?_)
    refine wc_seq ?_
    refine wc_region (l := [0, 1, 2, 3]) rfl ?_
    refine wo_seg Θ_ok [0, 1, 2, 3] [(4, (.bool ((((b_Want (((b_Want x0 x1)).1) x1)).1) == (((b_Want x0 x1)).1))))] rfl ⟨rfl, trivial⟩ ?_
    refine wo_nil ?_
    refine wq_seq ?_
    refine wc_ret ?_
    cases h
    exact wq_ret rfl ⟨_, rfl, (bool_is.2 rfl), hF⟩
  refine wc_known_true rfl hc30 ?_
  refine wc_seq ?_
  refine wc_region (l := [0, 1, 2, 3, 4, 5, 6, 7, 8, 9]) rfl ?_
  refine wo_seg Θ_ok [0, 1, 2, 3, 4] [(5, (.int .i64 (((b_Want x0 x1)).1))), (7, (.int .i64 (((b_Want (((b_Want x0 x1)).1) x1)).1))), (49, (.bool ((IntKind.i64.wrap ((2 : Int) * (((b_Want x0 x1)).1))) == x0)))] rfl ⟨rfl, rfl, rfl, trivial⟩ ?_
  rcases bif_some h with ⟨hc31, h⟩ | ⟨hc31, h⟩
  · refine wo_know 49 true rfl hc31 ?_
    refine wo_seg Θ_ok [5, 6, 7, 8, 9] [(4, (.bool (decide ((((b_Want (((b_Want x0 x1)).1) x1)).1) ≤ (((b_Want x0 x1)).1)))))] rfl ⟨rfl, trivial⟩ ?_
    refine wo_nil ?_
    refine wq_seq ?_
    refine wc_ret ?_
    cases h
    exact wq_block_ret (wq_then_ret (wq_ret rfl ⟨_, rfl, (bool_is.2 rfl), hF⟩))
  refine wo_know 49 false rfl hc31 ?_
  refine wo_seg Θ_ok [5, 6, 7, 8, 9] [(4, (.bool false))] rfl ⟨rfl, trivial⟩ ?_
  refine wo_nil ?_
  refine wq_seq ?_
  refine wc_ret ?_
  cases h
  exact wq_block_ret (wq_then_ret (wq_ret rfl ⟨_, rfl, (bool_is.2 rfl), hF⟩))
end Go.Proofs.Ytdemjanelbajlaa
