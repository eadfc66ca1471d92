/-
  The program's functions compute the plain ones (printed by a tool of the prover's).
-/
import Derived.Test.YtdemjanelbajlaaGWalk4
namespace Go.Proofs.Ytdemjanelbajlaa
open Go.RowKit Go.Dc Go.Shelf
set_option maxRecDepth 100000 in
set_option maxHeartbeats 4000000 in
theorem l_Parts_c {O : List Nat} {w : World} (hO : OB O w) {fuel : Nat} {v0 : Value} {x0 : List (List Int)} (h0 : (Ty.slice (Ty.slice (Ty.int .u64))).is O w v0 x0) {v1 : Value} {x1 : List Int} (h1 : (Ty.slice (Ty.int .i64)).is O w v1 x1) {r : Bool} (h : l_Parts fuel x0 x1 = some r) : Calls Try.prog 7 #[v0, v1] w (Gives (rt1 Ty.bool) O w r) := by
  have hF := Fr.refl [] w
  have hO0 := hO
  have hS := Sub.refl O
  refine calls_of (args := [v0, v1]) (N := 143) Try.func7 rfl rfl rfl ?_
  unfold l_Parts at h
  refine wc_seq ?_
  refine wc_region (l := [0]) rfl ?_
  refine wo_seg Θ_ok [0] [(0, v0), (1, v1)] rfl ⟨rfl, rfl, trivial⟩ ?_
  refine wo_nil ?_
  refine wq_seq ?_
  refine wc_seq ?_
  refine wc_seq ?_
  refine wc_region (l := [0, 1]) rfl ?_
  obtain ⟨y7, hy8, h⟩ := bind_some h
  refine wo_gives rfl rfl rfl rfl rfl ent10 rfl (r_wakes_c hO hy8) (fun v3 w4 h5 f6 => ?_)
  have h0 := h0.tr f6.tr0
  have h1 := h1.tr f6.tr0
  have hO := f6.ob hO
  have hF := hF.trans f6
  obtain rfl := bool_is.1 h5
  refine wo_seg Θ_ok [1] [(0, v0), (1, v1), (25, (.bool (!y7)))] rfl ⟨rfl, rfl, rfl, trivial⟩ ?_
  refine wo_nil ?_
  refine wq_seq ?_
  rcases bif_some h with ⟨hc9, h⟩ | ⟨hc9, h⟩
  · refine wc_known_true rfl hc9 ?_
    refine wc_seq ?_
    refine wc_region (l := [0]) rfl ?_
    refine wo_seg Θ_ok [0] [(4, (.bool false))] rfl ⟨rfl, trivial⟩ ?_
    refine wo_nil ?_
    refine wq_seq ?_
    refine wc_ret ?_
    cases h
    exact wq_then_ret (wq_ret rfl ⟨_, rfl, (bool_is.2 rfl), hF⟩)
  refine wc_known_false rfl hc9 ?_
  refine wc_skip ?_
  refine wq_seq ?_
  refine wc_seq ?_
  refine wc_region (l := [0, 1, 2]) rfl ?_
  refine wo_seg Θ_ok [0] [(0, v0), (1, v1), (26, v0)] rfl ⟨rfl, rfl, rfl, trivial⟩ ?_
  obtain ⟨y14, hy15, h⟩ := bind_some h
  refine wo_gives rfl rfl rfl rfl rfl ent26 rfl (own_c hO h0 hy15) (fun v10 w11 h12 f13 => ?_)
  have h0 := h0.tr f13.tr0
  have h1 := h1.tr f13.tr0
  have hO := f13.ob hO
  have hF := hF.trans f13
  refine wo_seg Θ_ok [2] [(0, v0), (1, v1), (5, v10)] rfl ⟨rfl, rfl, rfl, trivial⟩ ?_
  refine wo_nil ?_
  refine wq_seq ?_
  refine wc_seq ?_
  refine wc_region (l := [0, 1, 2]) rfl ?_
  refine wo_seg Θ_ok [0] [(0, v0), (1, v1), (5, v10), (28, v10)] rfl ⟨rfl, rfl, rfl, rfl, trivial⟩ ?_
  obtain ⟨y20, hy21, h⟩ := bind_some h
  refine wo_gives rfl rfl rfl rfl rfl ent27 rfl (r_Right_c hO h12 hy21) (fun v16 w17 h18 f19 => ?_)
  have h0 := h0.tr f19.tr0
  have h1 := h1.tr f19.tr0
  have h12 := h12.tr f19.tr0
  have hO := f19.ob hO
  have hF := hF.trans f19
  obtain rfl := bool_is.1 h18
  refine wo_seg Θ_ok [2] [(0, v0), (1, v1), (5, v10), (6, (.bool y20))] rfl ⟨rfl, rfl, rfl, rfl, trivial⟩ ?_
  refine wo_nil ?_
  refine wq_seq ?_
  refine wc_seq ?_
  refine wc_seq ?_
  refine wc_region (l := [0, 1, 2]) rfl ?_
  refine wo_seg Θ_ok [0] [(0, v0), (1, v1), (5, v10), (6, (.bool y20)), (30, v10)] rfl ⟨rfl, rfl, rfl, rfl, rfl, trivial⟩ ?_
  obtain ⟨y26, hy27, h⟩ := bind_some h
  refine wo_gives rfl rfl rfl rfl rfl ent28 rfl (b_Check_c hO h12 hy27) (fun v22 w23 h24 f25 => ?_)
  have h0 := h0.tr f25.tr0
  have h1 := h1.tr f25.tr0
  have h12 := h12.tr f25.tr0
  have hO := f25.ob hO
  have hF := hF.trans f25
  obtain rfl := int_is.1 h24
  refine wo_seg Θ_ok [2] [(0, v0), (1, v1), (5, v10), (6, (.bool y20)), (7, (.int .i64 y26))] rfl ⟨rfl, rfl, rfl, rfl, rfl, trivial⟩ ?_
  refine wo_nil ?_
  refine wq_seq ?_
  refine wc_seq ?_
  refine wc_region (l := [0, 1, 2, 3, 4, 5, 6, 7, 8, 9, 10, 11]) rfl ?_
  refine wo_seg Θ_ok [0, 1, 2, 3, 4] [(0, v0), (1, v1), (5, v10), (6, (.bool y20)), (7, (.int .i64 y26)), (36, (.bool (!((y26 == (0 : Int)) == y20))))] rfl ⟨rfl, rfl, rfl, rfl, rfl, rfl, trivial⟩ ?_
  rcases bif_some h with ⟨hc28, h⟩ | ⟨hc28, h⟩
  · refine wo_know 36 true rfl hc28 ?_
    refine wo_seg Θ_ok [5, 6, 7, 8, 9, 10, 11] [(0, v0), (1, v1), (5, v10), (6, (.bool y20)), (43, (.bool true))] rfl ⟨rfl, rfl, rfl, rfl, rfl, trivial⟩ ?_
    refine wo_nil ?_
    refine wq_seq ?_
    refine wc_true rfl ?_
    refine wc_seq ?_
    refine wc_region (l := [0]) rfl ?_
    refine wo_seg Θ_ok [0] [(4, (.bool false))] rfl ⟨rfl, trivial⟩ ?_
    refine wo_nil ?_
    refine wq_seq ?_
    refine wc_ret ?_
    cases h
    exact wq_then_ret (wq_ret rfl ⟨_, rfl, (bool_is.2 rfl), hF⟩)
  refine wo_know 36 false rfl hc28 ?_
  refine wo_seg Θ_ok [5, 6, 7] [(0, v0), (1, v1), (5, v10), (6, (.bool y20)), (7, (.int .i64 y26)), (36, (.bool false)), (39, (.bool (y26 != (0 : Int))))] rfl ⟨rfl, rfl, rfl, rfl, rfl, rfl, rfl, trivial⟩ ?_
  rcases bif_some h with ⟨hc29, h⟩ | ⟨hc29, h⟩
  rotate_left
  · refine wo_know 39 false rfl hc29 ?_
    refine wo_seg Θ_ok [8, 9, 10, 11] [(0, v0), (1, v1), (5, v10), (6, (.bool y20)), (43, (.bool false))] rfl ⟨rfl, rfl, rfl, rfl, rfl, trivial⟩ ?_
    refine wo_nil ?_
    refine wq_seq ?_
    refine wc_false rfl ?_
    refine wc_skip ?_
    refine wq_seq ?_
    obtain ⟨k233, hk234, h⟩ := letk_some h
    refine wc_join (fun E W => ∃ (O237 : List Nat), E = [(0, v0), (5, v10), (6, (.bool y20))] ∧ Tr O w23 O237 W ∧ OB O237 W ∧ Sub O O237 ∧ Fr [] w W ∧ k233 = some r) ?_ (fun K235 hK236 => ?_)
    rotate_left
    · clear hk234
      have T232 := Tr.refl O w23
      refine wc_seq ?_
      refine wc_region (l := [0, 1, 2, 3, 4, 5, 6, 7, 8, 9]) rfl ?_
      refine wo_seg Θ_ok [0, 1] [(0, v0), (5, v10), (6, (.bool y20)), (44, v1), (45, v1)] rfl ⟨rfl, rfl, rfl, rfl, rfl, trivial⟩ ?_
      obtain ⟨A350, c351, rfl, hlc351, hmc351⟩ := slice_form h1
      refine wo_seg Θ_ok [2] [(0, v0), (5, v10), (6, (.bool y20)), (44, (.slice A350 x1.length c351)), (46, (.int .i64 (x1.length : Int)))] rfl ⟨rfl, rfl, rfl, rfl, rfl, trivial⟩ ?_
      refine wo_seg Θ_ok [3] [(0, v0), (5, v10), (6, (.bool y20)), (44, (.slice A350 x1.length c351)), (47, (.int .i64 (if (6 : Int) < (x1.length : Int) then (6 : Int) else (x1.length : Int))))] rfl ⟨rfl, rfl, rfl, rfl, rfl, trivial⟩ ?_
      obtain ⟨y352, hz353, h⟩ := bind_some h
      refine wo_cut (l' := none) (h' := some (.i64, (if (6 : Int) < (x1.length : Int) then (6 : Int) else (x1.length : Int)))) (m' := none) Θ_ok rfl rfl rfl rfl rfl rfl rfl rfl rfl rfl rfl rfl rfl h1 hz353 (fun v354 h355 => ?_)
      obtain ⟨z356, hz357, h⟩ := bind_some h
      refine wo_ownc rfl rfl rfl rfl rfl ent29 rfl (i_Clone_f hO hF.size h355 hz357) (fun v358 w359 O360 ap361 => ?_)
      have h0 := h0.tr ap361.tr
      have h12 := h12.tr ap361.tr
      have T232 := T232.trans ap361.tr
      have hF := ap361.fr0 (Go.Dc.Own.nil_ : Go.Dc.Own (Ty.int .i64) 3 w.heap.size _ _ _ _) hF
      have hS := Sub.trans hS ap361.sub
      have hO := ap361.ob
      have h362 := ap361.own
      refine wo_litd Θ_ok rfl rfl rfl rfl rfl rfl rfl rfl rfl rfl (T := (Ty.int .i64)) (xs := [(0 : Int), (1 : Int), (2 : Int), (3 : Int)]) (vs := [(.int .i64 0), (.int .i64 1), (.int .i64 2), (.int .i64 3)]) rfl ⟨(int_is.2 rfl), (int_is.2 rfl), (int_is.2 rfl), (int_is.2 rfl), trivial⟩ rfl rfl rfl hO (fun v363 w364 h365 f366 => ?_)
      have h0 := h0.tr f366.tr0
      have h12 := h12.tr f366.tr0
      have h362 := h362.fr0 f366
      have T232 := T232.trans f366.tr0
      have hO := f366.ob hO
      have hF := hF.trans f366
      obtain ⟨z367, hz368, h⟩ := bind_some h
      refine wo_app Θ_ok rfl rfl rfl rfl rfl rfl rfl rfl rfl rfl rfl rfl rfl rfl hF hO h362 h365 hz368 (fun v369 w370 O371 ap372 => ?_)
      have h0 := h0.tr ap372.tr
      have h12 := h12.tr ap372.tr
      have T232 := T232.trans ap372.tr
      have hF := ap372.fr0 h362 hF
      have hS := Sub.trans hS ap372.sub
      have hO := ap372.ob
      have h373 := ap372.own
      obtain ⟨A374, c375, rfl, hlc375, hmc375⟩ := h373.form
      refine wo_seg Θ_ok [8] [(0, v0), (5, v10), (6, (.bool y20)), (51, (.slice A374 z367.length c375)), (52, (.int .i64 (z367.length : Int)))] rfl ⟨rfl, rfl, rfl, rfl, rfl, trivial⟩ ?_
      refine wo_seg Θ_ok [9] [(0, v0), (5, v10), (6, (.bool y20)), (51, (.slice A374 z367.length c375)), (52, (.int .i64 (z367.length : Int))), (53, (.int .i64 0))] rfl ⟨rfl, rfl, rfl, rfl, rfl, rfl, trivial⟩ ?_
      refine wo_nil ?_
      refine wq_seq ?_
      refine wc_block ?_
      have h373g := h373.give
      have h0 := h0.tr (relv_tr (.slice A374 z367.length c375) O371 w370)
      have h12 := h12.tr (relv_tr (.slice A374 z367.length c375) O371 w370)
      have hS := relv_sub h373 hS hO0
      have T232 := T232.trans (relv_tr (.slice A374 z367.length c375) O371 w370)
      have hO := relv_ob (v := (.slice A374 z367.length c375)) hO
      refine wc_loop (fun m E W => ∃ (rest379 : List Int) (i378 : Nat) (O382 : List Nat), rest379.length = m ∧ z367.drop i378 = rest379 ∧ E = [(0, v0), (5, v10), (6, (.bool y20)), (51, (.slice A374 z367.length c375)), (52, (.int .i64 (z367.length : Int))), (53, (.int .i64 (i378 : Int)))] ∧ Tr (relv (.slice A374 z367.length c375) O371) w370 O382 W ∧ OB O382 W ∧ Sub O O382 ∧ Fr [] w W ∧ l_Parts_l4 y14 y20 k233 rest379 i378 = some r) _ [(0, v0), (5, v10), (6, (.bool y20)), (51, (.slice A374 z367.length c375)), (52, (.int .i64 (z367.length : Int))), (53, (.int .i64 ((0 : Nat) : Int)))] ⟨rfl, rfl, rfl, rfl, rfl, rfl, trivial⟩ ⟨z367, 0, relv (.slice A374 z367.length c375) O371, rfl, rfl, rfl, Tr.refl _ _, hO, hS, hF, h⟩ ?_
      rintro m E w383 ⟨rest379, i378, O382, rfl, hd381, rfl, T377, hO, hS, hF, h⟩
      have T232 := T232.trans T377
      have h0 := h0.tr T377
      have h12 := h12.tr T377
      have h373g := h373g.tr T377
      rcases rest379 with _ | ⟨z380, rest379⟩
      · rw [l_Parts_l4] at h
        have hl387 := drop_nil hd381
        have hc384 : (decide ((i378 : Int) < (z367.length : Int))) = false := decide_eq_false (by omega)
        refine wc_seq ?_
        refine wc_region (l := [0]) rfl ?_
        refine wo_seg Θ_ok [0] [(0, v0), (5, v10), (6, (.bool y20)), (51, (.slice A374 z367.length c375)), (52, (.int .i64 (z367.length : Int))), (53, (.int .i64 (i378 : Int))), (54, (.bool (decide ((i378 : Int) < (z367.length : Int)))))] rfl ⟨rfl, rfl, rfl, rfl, rfl, rfl, rfl, trivial⟩ ?_
        refine wo_nil ?_
        refine wq_seq ?_
        refine wc_seq ?_
        refine wc_known_false rfl hc384 ?_
        refine wc_exit ?_
        exact wq_then_exit (wq_then_exit (wq_block_exit (wq_join hK236 [(0, v0), (5, v10), (6, (.bool y20))] ⟨rfl, rfl, rfl, trivial⟩ ⟨O382, rfl, T232, hO, hS, hF, h⟩)))
      rw [l_Parts_l4] at h
      obtain ⟨hl388, hg386, hd381⟩ := drop_cons hd381
      have hc385 : (decide ((i378 : Int) < (z367.length : Int))) = true := decide_eq_true (by omega)
      refine wc_seq ?_
      refine wc_region (l := [0]) rfl ?_
      refine wo_seg Θ_ok [0] [(0, v0), (5, v10), (6, (.bool y20)), (51, (.slice A374 z367.length c375)), (52, (.int .i64 (z367.length : Int))), (53, (.int .i64 (i378 : Int))), (54, (.bool (decide ((i378 : Int) < (z367.length : Int)))))] rfl ⟨rfl, rfl, rfl, rfl, rfl, rfl, rfl, trivial⟩ ?_
      refine wo_nil ?_
      refine wq_seq ?_
      refine wc_seq ?_
      refine wc_known_true rfl hc385 ?_
      refine wc_skip ?_
      refine wq_seq ?_
      refine wc_seq ?_
      refine wc_block ?_
      refine wc_seq ?_
      refine wc_region (l := [0, 1, 2]) rfl ?_
      refine wo_index Θ_ok rfl rfl rfl rfl rfl rfl rfl rfl rfl rfl h373g rfl (by omega) hg386 (fun p389 h390 => ?_)
      refine wo_loadp Θ_ok rfl rfl rfl rfl rfl rfl rfl h390 rfl rfl (fun v391 h392 => ?_)
      obtain rfl := int_is.1 h392
      refine wo_seg Θ_ok [2] [(0, v0), (5, v10), (6, (.bool y20)), (9, (.int .i64 z380)), (51, (.slice A374 z367.length c375)), (52, (.int .i64 (z367.length : Int))), (53, (.int .i64 (i378 : Int)))] rfl ⟨rfl, rfl, rfl, rfl, rfl, rfl, rfl, trivial⟩ ?_
      refine wo_nil ?_
      refine wq_seq ?_
      refine wc_seq ?_
      refine wc_region (l := [0, 1, 2, 3, 4, 5, 6, 7]) rfl ?_
      refine wo_seg Θ_ok [0, 1] [(0, v0), (5, v10), (6, (.bool y20)), (9, (.int .i64 z380)), (51, (.slice A374 z367.length c375)), (52, (.int .i64 (z367.length : Int))), (53, (.int .i64 (i378 : Int))), (58, v10), (59, (.int .i64 z380))] rfl ⟨rfl, rfl, rfl, rfl, rfl, rfl, rfl, rfl, rfl, trivial⟩ ?_
      obtain ⟨y397, hy398, h⟩ := bind_some h
      refine wo_gives rfl rfl rfl rfl rfl ent30 rfl (b_Seam_c hO h12 (int_is.2 rfl) hy398) (fun v393 w394 h395 f396 => ?_)
      have h0 := h0.tr f396.tr0
      have h12 := h12.tr f396.tr0
      have h373g := h373g.tr f396.tr0
      have T232 := T232.trans f396.tr0
      have T377 := T377.trans f396.tr0
      have hO := f396.ob hO
      have hF := hF.trans f396
      obtain ⟨u399, u401, rfl, h400, h402⟩ := h395
      obtain rfl := int_is.1 h400
      obtain rfl := int_is.1 h402
      refine wo_seg Θ_ok [3, 4, 5, 6, 7] [(0, v0), (5, v10), (6, (.bool y20)), (9, (.int .i64 z380)), (10, (.int .i64 y397.1)), (11, (.int .i64 y397.2)), (51, (.slice A374 z367.length c375)), (52, (.int .i64 (z367.length : Int))), (53, (.int .i64 (i378 : Int)))] rfl ⟨rfl, rfl, rfl, rfl, rfl, rfl, rfl, rfl, rfl, trivial⟩ ?_
      refine wo_nil ?_
      refine wq_seq ?_
      refine wc_seq ?_
      refine wc_region (l := [0, 1]) rfl ?_
      refine wo_seg Θ_ok [0, 1] [(0, v0), (5, v10), (6, (.bool y20)), (9, (.int .i64 z380)), (10, (.int .i64 y397.1)), (11, (.int .i64 y397.2)), (12, (.int .i64 0)), (13, (.int .i64 280)), (51, (.slice A374 z367.length c375)), (52, (.int .i64 (z367.length : Int))), (53, (.int .i64 (i378 : Int)))] rfl ⟨rfl, rfl, rfl, rfl, rfl, rfl, rfl, rfl, rfl, rfl, rfl, trivial⟩ ?_
      refine wo_nil ?_
      refine wq_seq ?_
      obtain ⟨k404, hk405, h⟩ := letk_some h
      refine wc_join (fun E W => ∃ (O410 : List Nat) (p408 : Int) (p409 : Int), E = [(0, v0), (5, v10), (6, (.bool y20)), (10, (.int .i64 y397.1)), (11, (.int .i64 y397.2)), (12, (.int .i64 p408)), (13, (.int .i64 p409)), (51, (.slice A374 z367.length c375)), (52, (.int .i64 (z367.length : Int))), (53, (.int .i64 (i378 : Int)))] ∧ Tr O382 w394 O410 W ∧ OB O410 W ∧ Sub O O410 ∧ Fr [] w W ∧ k404 p408 p409 = some r) ?_ (fun K406 hK407 => ?_)
      · rintro E w411 ⟨O410, p408, p409, rfl, T403, hO, hS, hF, h⟩
        have T232 := T232.trans T403
        have T377 := T377.trans T403
        have h0 := h0.tr T403
        have h12 := h12.tr T403
        have h373g := h373g.tr T403
        subst hk405
        (try dsimp only at h)
        refine wc_seq ?_
        refine wc_region (l := [0, 1, 2, 3, 4, 5, 6, 7]) rfl ?_
        refine wo_seg Θ_ok [0, 1, 2, 3] [(0, v0), (5, v10), (6, (.bool y20)), (11, (.int .i64 y397.2)), (13, (.int .i64 p409)), (51, (.slice A374 z367.length c375)), (52, (.int .i64 (z367.length : Int))), (53, (.int .i64 (i378 : Int))), (78, (.bool (y397.1 != p408)))] rfl ⟨rfl, rfl, rfl, rfl, rfl, rfl, rfl, rfl, rfl, trivial⟩ ?_
        rcases bif_some h with ⟨hc412, h⟩ | ⟨hc412, h⟩
        · refine wo_know 78 true rfl hc412 ?_
          refine wo_seg Θ_ok [4, 5, 6, 7] [(0, v0), (5, v10), (6, (.bool y20)), (51, (.slice A374 z367.length c375)), (52, (.int .i64 (z367.length : Int))), (53, (.int .i64 (i378 : Int))), (82, (.bool true))] rfl ⟨rfl, rfl, rfl, rfl, rfl, rfl, rfl, trivial⟩ ?_
          refine wo_nil ?_
          refine wq_seq ?_
          refine wc_true rfl ?_
          refine wc_seq ?_
          refine wc_region (l := [0]) rfl ?_
          refine wo_seg Θ_ok [0] [(4, (.bool false))] rfl ⟨rfl, trivial⟩ ?_
          refine wo_nil ?_
          refine wq_seq ?_
          refine wc_ret ?_
          cases h
          exact wq_block_ret (wq_then_ret (wq_then_ret (wq_block_ret (wq_then_ret (wq_ret rfl ⟨_, rfl, (bool_is.2 rfl), hF⟩)))))
        refine wo_know 78 false rfl hc412 ?_
        refine wo_seg Θ_ok [4, 5, 6, 7] [(0, v0), (5, v10), (6, (.bool y20)), (51, (.slice A374 z367.length c375)), (52, (.int .i64 (z367.length : Int))), (53, (.int .i64 (i378 : Int))), (82, (.bool (y397.2 != p409)))] rfl ⟨rfl, rfl, rfl, rfl, rfl, rfl, rfl, trivial⟩ ?_
        refine wo_nil ?_
        refine wq_seq ?_
        rcases bif_some h with ⟨hc413, h⟩ | ⟨hc413, h⟩
        rotate_left
        · refine wc_known_false rfl hc413 ?_
          refine wc_skip ?_
          refine wq_block (wq_seq ?_)
          refine wc_region (l := [0, 1]) rfl ?_
          refine wo_seg Θ_ok [0, 1] [(0, v0), (5, v10), (6, (.bool y20)), (51, (.slice A374 z367.length c375)), (52, (.int .i64 (z367.length : Int))), (53, (.int .i64 (IntKind.i64.wrap ((i378 : Int) + (1 : Int)))))] rfl ⟨rfl, rfl, rfl, rfl, rfl, rfl, trivial⟩ ?_
          refine wo_nil ?_
          exact wq_next rest379.length [(0, v0), (5, v10), (6, (.bool y20)), (51, (.slice A374 z367.length c375)), (52, (.int .i64 (z367.length : Int))), (53, (.int .i64 ((i378 + 1 : Nat) : Int)))] (Nat.lt_succ_self _) ⟨rfl, rfl, rfl, rfl, rfl, congrArg (fun z => some (Value.int .i64 z)) (wrap_succ hl388 (Nat.le_trans hlc375 hmc375)), trivial⟩ ⟨rest379, i378 + 1, O410, rfl, hd381, rfl, T377, hO, hS, hF, h⟩
        refine wc_known_true rfl hc413 ?_
        refine wc_seq ?_
        refine wc_region (l := [0]) rfl ?_
        refine wo_seg Θ_ok [0] [(4, (.bool false))] rfl ⟨rfl, trivial⟩ ?_
        refine wo_nil ?_
        refine wq_seq ?_
        refine wc_ret ?_
        cases h
        exact wq_block_ret (wq_then_ret (wq_then_ret (wq_block_ret (wq_then_ret (wq_ret rfl ⟨_, rfl, (bool_is.2 rfl), hF⟩)))))
      clear hk405
      have T403 := Tr.refl O382 w394
      refine wc_seq ?_
      refine wc_region (l := [0]) rfl ?_
      refine wo_seg Θ_ok [0] [(0, v0), (5, v10), (6, (.bool y20)), (9, (.int .i64 z380)), (10, (.int .i64 y397.1)), (11, (.int .i64 y397.2)), (12, (.int .i64 0)), (13, (.int .i64 280)), (51, (.slice A374 z367.length c375)), (52, (.int .i64 (z367.length : Int))), (53, (.int .i64 (i378 : Int))), (63, (.bool y20))] rfl ⟨rfl, rfl, rfl, rfl, rfl, rfl, rfl, rfl, rfl, rfl, rfl, rfl, trivial⟩ ?_
      refine wo_nil ?_
      refine wq_seq ?_
      rcases bif_some h with ⟨hc414, h⟩ | ⟨hc414, h⟩
      rotate_left
      · refine wc_known_false rfl hc414 ?_
        refine wc_skip ?_
        exact wq_join hK407 [(0, v0), (5, v10), (6, (.bool y20)), (10, (.int .i64 y397.1)), (11, (.int .i64 y397.2)), (12, (.int .i64 0)), (13, (.int .i64 280)), (51, (.slice A374 z367.length c375)), (52, (.int .i64 (z367.length : Int))), (53, (.int .i64 (i378 : Int)))] ⟨rfl, rfl, rfl, rfl, rfl, rfl, rfl, rfl, rfl, rfl, trivial⟩ ⟨O382, (0 : Int), (280 : Int), rfl, T403, hO, hS, hF, h⟩
      refine wc_known_true rfl hc414 ?_
      refine wc_seq ?_
      refine wc_region (l := [0]) rfl ?_
      refine wo_seg Θ_ok [0] [(0, v0), (5, v10), (6, (.bool y20)), (9, (.int .i64 z380)), (10, (.int .i64 y397.1)), (11, (.int .i64 y397.2)), (12, (.int .i64 0)), (13, (.int .i64 2)), (51, (.slice A374 z367.length c375)), (52, (.int .i64 (z367.length : Int))), (53, (.int .i64 (i378 : Int)))] rfl ⟨rfl, rfl, rfl, rfl, rfl, rfl, rfl, rfl, rfl, rfl, rfl, trivial⟩ ?_
      refine wo_nil ?_
      refine wq_seq ?_
      obtain ⟨k416, hk417, h⟩ := letk_some h
      refine wc_join (fun E W => ∃ (O421 : List Nat) (p420 : Bool), E = [(0, v0), (5, v10), (6, (.bool y20)), (9, (.int .i64 z380)), (10, (.int .i64 y397.1)), (11, (.int .i64 y397.2)), (12, (.int .i64 0)), (13, (.int .i64 2)), (51, (.slice A374 z367.length c375)), (52, (.int .i64 (z367.length : Int))), (53, (.int .i64 (i378 : Int))), (71, (.bool p420))] ∧ Tr O382 w394 O421 W ∧ OB O421 W ∧ Sub O O421 ∧ Fr [] w W ∧ k416 p420 = some r) ?_ (fun K418 hK419 => ?_)
      rotate_left
      · clear hk417
        have T415 := Tr.refl O382 w394
        refine wc_region (l := [0, 1, 2, 3, 4, 5, 6, 7]) rfl ?_
        refine wo_seg Θ_ok [0, 1, 2] [(0, v0), (5, v10), (6, (.bool y20)), (9, (.int .i64 z380)), (10, (.int .i64 y397.1)), (11, (.int .i64 y397.2)), (12, (.int .i64 0)), (13, (.int .i64 2)), (51, (.slice A374 z367.length c375)), (52, (.int .i64 (z367.length : Int))), (53, (.int .i64 (i378 : Int))), (66, (.bool (decide (z380 ≥ (0 : Int)))))] rfl ⟨rfl, rfl, rfl, rfl, rfl, rfl, rfl, rfl, rfl, rfl, rfl, rfl, trivial⟩ ?_
        rcases bif_some h with ⟨hc430, h⟩ | ⟨hc430, h⟩
        rotate_left
        · refine wo_know 66 false rfl hc430 ?_
          refine wo_seg Θ_ok [3, 4, 5, 6, 7] [(0, v0), (5, v10), (6, (.bool y20)), (9, (.int .i64 z380)), (10, (.int .i64 y397.1)), (11, (.int .i64 y397.2)), (12, (.int .i64 0)), (13, (.int .i64 2)), (51, (.slice A374 z367.length c375)), (52, (.int .i64 (z367.length : Int))), (53, (.int .i64 (i378 : Int))), (71, (.bool false))] rfl ⟨rfl, rfl, rfl, rfl, rfl, rfl, rfl, rfl, rfl, rfl, rfl, rfl, trivial⟩ ?_
          refine wo_nil ?_
          exact wq_join hK419 [(0, v0), (5, v10), (6, (.bool y20)), (9, (.int .i64 z380)), (10, (.int .i64 y397.1)), (11, (.int .i64 y397.2)), (12, (.int .i64 0)), (13, (.int .i64 2)), (51, (.slice A374 z367.length c375)), (52, (.int .i64 (z367.length : Int))), (53, (.int .i64 (i378 : Int))), (71, (.bool false))] ⟨rfl, rfl, rfl, rfl, rfl, rfl, rfl, rfl, rfl, rfl, rfl, rfl, trivial⟩ ⟨O382, false, rfl, T415, hO, hS, hF, h⟩
        refine wo_know 66 true rfl hc430 ?_
        refine wo_seg Θ_ok [3, 4] [(0, v0), (5, v10), (6, (.bool y20)), (9, (.int .i64 z380)), (10, (.int .i64 y397.1)), (11, (.int .i64 y397.2)), (12, (.int .i64 0)), (13, (.int .i64 2)), (51, (.slice A374 z367.length c375)), (52, (.int .i64 (z367.length : Int))), (53, (.int .i64 (i378 : Int))), (66, (.bool true)), (67, (.int .i64 z380)), (68, v10)] rfl ⟨rfl, rfl, rfl, rfl, rfl, rfl, rfl, rfl, rfl, rfl, rfl, rfl, rfl, rfl, trivial⟩ ?_
        obtain ⟨A431, c432, rfl, hlc432, hmc432⟩ := slice_form h12
        refine wo_seg Θ_ok [5] [(0, v0), (5, (.slice A431 y14.length c432)), (6, (.bool y20)), (9, (.int .i64 z380)), (10, (.int .i64 y397.1)), (11, (.int .i64 y397.2)), (12, (.int .i64 0)), (13, (.int .i64 2)), (51, (.slice A374 z367.length c375)), (52, (.int .i64 (z367.length : Int))), (53, (.int .i64 (i378 : Int))), (66, (.bool true)), (67, (.int .i64 z380)), (69, (.int .i64 (y14.length : Int)))] rfl ⟨rfl, rfl, rfl, rfl, rfl, rfl, rfl, rfl, rfl, rfl, rfl, rfl, rfl, rfl, trivial⟩ ?_
        refine wo_seg Θ_ok [6, 7] [(0, v0), (5, (.slice A431 y14.length c432)), (6, (.bool y20)), (9, (.int .i64 z380)), (10, (.int .i64 y397.1)), (11, (.int .i64 y397.2)), (12, (.int .i64 0)), (13, (.int .i64 2)), (51, (.slice A374 z367.length c375)), (52, (.int .i64 (z367.length : Int))), (53, (.int .i64 (i378 : Int))), (71, (.bool (decide (z380 < (y14.length : Int)))))] rfl ⟨rfl, rfl, rfl, rfl, rfl, rfl, rfl, rfl, rfl, rfl, rfl, rfl, trivial⟩ ?_
        refine wo_nil ?_
        exact wq_join hK419 [(0, v0), (5, (.slice A431 y14.length c432)), (6, (.bool y20)), (9, (.int .i64 z380)), (10, (.int .i64 y397.1)), (11, (.int .i64 y397.2)), (12, (.int .i64 0)), (13, (.int .i64 2)), (51, (.slice A374 z367.length c375)), (52, (.int .i64 (z367.length : Int))), (53, (.int .i64 (i378 : Int))), (71, (.bool (decide (z380 < (y14.length : Int)))))] ⟨rfl, rfl, rfl, rfl, rfl, rfl, rfl, rfl, rfl, rfl, rfl, rfl, trivial⟩ ⟨O382, (decide (z380 < (y14.length : Int))), rfl, T415, hO, hS, hF, h⟩
      rintro E w422 ⟨O421, p420, rfl, T415, hO, hS, hF, h⟩
      have T232 := T232.trans T415
      have T377 := T377.trans T415
      have T403 := T403.trans T415
      have h0 := h0.tr T415
      have h12 := h12.tr T415
      have h373g := h373g.tr T415
      subst hk417
      (try dsimp only at h)
      rcases bif_some h with ⟨hc423, h⟩ | ⟨hc423, h⟩
      rotate_left
      · refine wc_known_false rfl hc423 ?_
        refine wc_skip ?_
        exact wq_join hK407 [(0, v0), (5, v10), (6, (.bool y20)), (10, (.int .i64 y397.1)), (11, (.int .i64 y397.2)), (12, (.int .i64 0)), (13, (.int .i64 2)), (51, (.slice A374 z367.length c375)), (52, (.int .i64 (z367.length : Int))), (53, (.int .i64 (i378 : Int)))] ⟨rfl, rfl, rfl, rfl, rfl, rfl, rfl, rfl, rfl, rfl, trivial⟩ ⟨O421, (0 : Int), (2 : Int), rfl, T403, hO, hS, hF, h⟩
      refine wc_known_true rfl hc423 ?_
      refine wc_region (l := [0, 1, 2, 3, 4]) rfl ?_
      refine wo_seg Θ_ok [0, 1] [(0, v0), (5, v10), (6, (.bool y20)), (10, (.int .i64 y397.1)), (11, (.int .i64 y397.2)), (51, (.slice A374 z367.length c375)), (52, (.int .i64 (z367.length : Int))), (53, (.int .i64 (i378 : Int))), (72, v10), (73, (.int .i64 z380))] rfl ⟨rfl, rfl, rfl, rfl, rfl, rfl, rfl, rfl, rfl, rfl, trivial⟩ ?_
      obtain ⟨y428, hy429, h⟩ := bind_some h
      refine wo_gives rfl rfl rfl rfl rfl ent31 rfl (r_Seam_c hO h12 (int_is.2 rfl) hy429) (fun v424 w425 h426 f427 => ?_)
      have h0 := h0.tr f427.tr0
      have h12 := h12.tr f427.tr0
      have h373g := h373g.tr f427.tr0
      have T232 := T232.trans f427.tr0
      have T377 := T377.trans f427.tr0
      have T403 := T403.trans f427.tr0
      have hO := f427.ob hO
      have hF := hF.trans f427
      obtain rfl := int_is.1 h426
      refine wo_seg Θ_ok [3, 4] [(0, v0), (5, v10), (6, (.bool y20)), (10, (.int .i64 y397.1)), (11, (.int .i64 y397.2)), (12, (.int .i64 y428)), (13, (.int .i64 0)), (51, (.slice A374 z367.length c375)), (52, (.int .i64 (z367.length : Int))), (53, (.int .i64 (i378 : Int)))] rfl ⟨rfl, rfl, rfl, rfl, rfl, rfl, rfl, rfl, rfl, rfl, trivial⟩ ?_
      refine wo_nil ?_
      exact wq_join hK407 [(0, v0), (5, v10), (6, (.bool y20)), (10, (.int .i64 y397.1)), (11, (.int .i64 y397.2)), (12, (.int .i64 y428)), (13, (.int .i64 0)), (51, (.slice A374 z367.length c375)), (52, (.int .i64 (z367.length : Int))), (53, (.int .i64 (i378 : Int)))] ⟨rfl, rfl, rfl, rfl, rfl, rfl, rfl, rfl, rfl, rfl, trivial⟩ ⟨O421, y428, (0 : Int), rfl, T403, hO, hS, hF, h⟩
    rintro E w238 ⟨O237, rfl, T232, hO, hS, hF, h⟩
    have h0 := h0.tr T232
    have h12 := h12.tr T232
    subst hk234
    (try dsimp only at h)
    refine wc_seq ?_
    refine wc_region (l := [0, 1, 2, 3, 4, 5, 6]) rfl ?_
    refine wo_seg Θ_ok [0] [(0, v0), (5, v10), (6, (.bool y20)), (85, v10)] rfl ⟨rfl, rfl, rfl, rfl, trivial⟩ ?_
    obtain ⟨y243, hy244, h⟩ := bind_some h
    have h0_K245 := h0
    have h12_K245 := h12
    have hF_K245 := hF
    have hO_K245 := hO
    have TTK245 := Tr.refl O237 w238
    refine wo_gives rfl rfl rfl rfl rfl ent32 rfl (b_Expand_n (ob_range _) (h12.tr (Tr.less (sub_nil _))) hy244) (fun v239 w240 h241 f242 => ?_)
    have h0 := h0.tr f242.tr0
    have h12 := h12.tr f242.tr0
    have TTK245 := TTK245.trans f242.tr0
    have hO := f242.ob hO
    have hF := hF.trans f242
    obtain ⟨u246, u248, rfl, h247, h249⟩ := h241
    obtain rfl := int_is.1 h249
    have FFK245 := Fr.refl [] w240
    have TLK245 := TL.refl hO_K245 w240
    have h247N := h247
    have h247M := h247
    have h247 := h247.tr (Tr.less (sub_range hO_K245))
    refine wo_seg Θ_ok [2, 3, 4, 5, 6] [(0, v0), (5, v10), (6, (.bool y20)), (14, u246), (15, (.int .i64 y243.2))] rfl ⟨rfl, rfl, rfl, rfl, rfl, trivial⟩ ?_
    refine wo_nil ?_
    refine wq_seq ?_
    refine wc_seq ?_
    refine wc_region (l := [0, 1, 2, 3, 4, 5, 6]) rfl ?_
    refine wo_seg Θ_ok [0] [(0, v0), (5, v10), (6, (.bool y20)), (14, u246), (15, (.int .i64 y243.2)), (90, v10)] rfl ⟨rfl, rfl, rfl, rfl, rfl, rfl, trivial⟩ ?_
    obtain ⟨y254, hy255, h⟩ := bind_some h
    have h0_K256 := h0
    have h12_K256 := h12
    have h247_K256 := h247
    have TTK245_K256 := TTK245
    have TLK245_K256 := TLK245
    have FFK245_K256 := FFK245
    have hF_K256 := hF
    have hO_K256 := hO
    have TTK256 := Tr.refl O237 w240
    refine wo_gives rfl rfl rfl rfl rfl ent33 rfl (b_Shrink_n (ob_range _) (h12.tr (Tr.less (sub_nil _))) hy255) (fun v250 w251 h252 f253 => ?_)
    have h0 := h0.tr f253.tr0
    have h12 := h12.tr f253.tr0
    have h247 := h247.tr f253.tr0
    have TTK245 := TTK245.trans f253.tr0
    have TLK245 := TLK245.trans f253.tr0
    have TTK256 := TTK256.trans f253.tr0
    have FFK245 := FFK245.trans f253
    have hO := f253.ob hO
    have hF := hF.trans f253
    obtain ⟨u257, u259, rfl, h258, h260⟩ := h252
    obtain rfl := int_is.1 h260
    have FFK256 := Fr.refl [] w251
    have TLK256 := TL.refl hO_K256 w251
    have h258N := h258
    have h258M := h258
    have h258 := h258.tr (Tr.less (sub_range hO_K256))
    refine wo_seg Θ_ok [2, 3, 4, 5, 6] [(0, v0), (5, v10), (6, (.bool y20)), (14, u246), (15, (.int .i64 y243.2)), (16, u257), (17, (.int .i64 y254.2))] rfl ⟨rfl, rfl, rfl, rfl, rfl, rfl, rfl, trivial⟩ ?_
    refine wo_nil ?_
    refine wq_seq ?_
    refine wc_seq ?_
    refine wc_region (l := [0, 1]) rfl ?_
    refine wo_seg Θ_ok [0, 1] [(0, v0), (5, v10), (6, (.bool y20)), (14, u246), (15, (.int .i64 y243.2)), (16, u257), (17, (.int .i64 y254.2)), (18, (.slice none 0 0)), (19, (.slice none 0 0))] rfl ⟨rfl, rfl, rfl, rfl, rfl, rfl, rfl, rfl, rfl, trivial⟩ ?_
    refine wo_nil ?_
    refine wq_seq ?_
    refine wc_seq ?_
    refine wc_region (l := [0, 1]) rfl ?_
    refine wo_seg Θ_ok [0, 1] [(0, v0), (5, v10), (6, (.bool y20)), (14, u246), (15, (.int .i64 y243.2)), (16, u257), (17, (.int .i64 y254.2)), (18, (.slice none 0 0)), (19, (.slice none 0 0)), (20, (.int .i64 280)), (21, (.int .i64 280))] rfl ⟨rfl, rfl, rfl, rfl, rfl, rfl, rfl, rfl, rfl, rfl, rfl, trivial⟩ ?_
    refine wo_nil ?_
    refine wq_seq ?_
    obtain ⟨k262, hk263, h⟩ := letk_some h
    refine wc_join (fun E W => ∃ (O274 : List Nat) (p266 : List (List Int)) (p269 : List (List Int)) (p272 : Int) (p273 : Int) (v267 : Value) (v270 : Value), E = [(0, v0), (5, v10), (14, u246), (15, (.int .i64 y243.2)), (16, u257), (17, (.int .i64 y254.2)), (18, v267), (19, v270), (20, (.int .i64 p272)), (21, (.int .i64 p273))] ∧ Tr O237 w251 O274 W ∧ OB O274 W ∧ Sub O O274 ∧ Fr [] w W ∧ Fr [] w240 W ∧ Fr [] w251 W ∧ (Ty.slice (Ty.slice (Ty.int .u64))).is O274 W v267 p266 ∧ (Ty.slice (Ty.slice (Ty.int .u64))).is O274 W v270 p269 ∧ k262 p266 p269 p272 p273 = some r) ?_ (fun K264 hK265 => ?_)
    rotate_left
    · clear hk263
      have T261 := Tr.refl O237 w251
      refine wc_seq ?_
      refine wc_region (l := [0]) rfl ?_
      refine wo_seg Θ_ok [0] [(0, v0), (5, v10), (14, u246), (15, (.int .i64 y243.2)), (16, u257), (17, (.int .i64 y254.2)), (18, (.slice none 0 0)), (19, (.slice none 0 0)), (20, (.int .i64 280)), (21, (.int .i64 280)), (94, (.bool y20))] rfl ⟨rfl, rfl, rfl, rfl, rfl, rfl, rfl, rfl, rfl, rfl, rfl, trivial⟩ ?_
      refine wo_nil ?_
      refine wq_seq ?_
      rcases bif_some h with ⟨hc308, h⟩ | ⟨hc308, h⟩
      rotate_left
      · refine wc_known_false rfl hc308 ?_
        refine wc_skip ?_
        exact wq_join hK265 [(0, v0), (5, v10), (14, u246), (15, (.int .i64 y243.2)), (16, u257), (17, (.int .i64 y254.2)), (18, (.slice none 0 0)), (19, (.slice none 0 0)), (20, (.int .i64 280)), (21, (.int .i64 280))] ⟨rfl, rfl, rfl, rfl, rfl, rfl, rfl, rfl, rfl, rfl, trivial⟩ ⟨O237, ([] : List (List Int)), ([] : List (List Int)), (280 : Int), (280 : Int), (.slice none 0 0), (.slice none 0 0), rfl, T261, hO, hS, hF, FFK245, FFK256, (slice_nil _ _ _), (slice_nil _ _ _), h⟩
      refine wc_known_true rfl hc308 ?_
      refine wc_seq ?_
      refine wc_region (l := [0, 1]) rfl ?_
      refine wo_seg Θ_ok [0, 1] [(0, v0), (5, v10), (14, u246), (15, (.int .i64 y243.2)), (16, u257), (17, (.int .i64 y254.2)), (18, (.slice none 0 0)), (19, (.slice none 0 0)), (20, (.int .i64 6)), (21, (.int .i64 2))] rfl ⟨rfl, rfl, rfl, rfl, rfl, rfl, rfl, rfl, rfl, rfl, trivial⟩ ?_
      refine wo_nil ?_
      refine wq_seq ?_
      obtain ⟨k310, hk311, h⟩ := letk_some h
      refine wc_join (fun E W => ∃ (O318 : List Nat) (p314 : List (List Int)) (p317 : Int) (v315 : Value), E = [(0, v0), (5, v10), (14, u246), (15, (.int .i64 y243.2)), (16, u257), (17, (.int .i64 y254.2)), (18, v315), (19, (.slice none 0 0)), (20, (.int .i64 p317)), (21, (.int .i64 2))] ∧ Tr O237 w251 O318 W ∧ OB O318 W ∧ Sub O O318 ∧ Fr [] w W ∧ Fr [] w240 W ∧ Fr [] w251 W ∧ (Ty.slice (Ty.slice (Ty.int .u64))).is O318 W v315 p314 ∧ k310 p314 p317 = some r) ?_ (fun K312 hK313 => ?_)
      rotate_left
      · clear hk311
        have T309 := Tr.refl O237 w251
        refine wc_seq ?_
        refine wc_region (l := [0, 1, 2]) rfl ?_
        refine wo_seg Θ_ok [0] [(0, v0), (5, v10), (14, u246), (15, (.int .i64 y243.2)), (16, u257), (17, (.int .i64 y254.2)), (18, (.slice none 0 0)), (19, (.slice none 0 0)), (20, (.int .i64 6)), (21, (.int .i64 2)), (95, v10)] rfl ⟨rfl, rfl, rfl, rfl, rfl, rfl, rfl, rfl, rfl, rfl, rfl, trivial⟩ ?_
        obtain ⟨y339, hy340, h⟩ := bind_some h
        refine wo_gives rfl rfl rfl rfl rfl ent34 rfl (r_Keys_c hO h12 hy340) (fun v335 w336 h337 f338 => ?_)
        have h0 := h0.tr f338.tr0
        have h12 := h12.tr f338.tr0
        have h247 := h247.tr f338.tr0
        have h258 := h258.tr f338.tr0
        have TTK245 := TTK245.trans f338.tr0
        have TLK245 := TLK245.trans f338.tr0
        have TTK256 := TTK256.trans f338.tr0
        have TLK256 := TLK256.trans f338.tr0
        have T261 := T261.trans f338.tr0
        have T309 := T309.trans f338.tr0
        have FFK245 := FFK245.trans f338
        have FFK256 := FFK256.trans f338
        have hO := f338.ob hO
        have hF := hF.trans f338
        refine wo_seg Θ_ok [2] [(0, v0), (5, v10), (14, u246), (15, (.int .i64 y243.2)), (16, u257), (17, (.int .i64 y254.2)), (18, (.slice none 0 0)), (19, (.slice none 0 0)), (20, (.int .i64 6)), (21, (.int .i64 2)), (22, v335)] rfl ⟨rfl, rfl, rfl, rfl, rfl, rfl, rfl, rfl, rfl, rfl, rfl, trivial⟩ ?_
        refine wo_nil ?_
        refine wq_seq ?_
        refine wc_seq ?_
        refine wc_region (l := [0, 1, 2]) rfl ?_
        refine wo_seg Θ_ok [0] [(0, v0), (5, v10), (14, u246), (15, (.int .i64 y243.2)), (16, u257), (17, (.int .i64 y254.2)), (18, (.slice none 0 0)), (19, (.slice none 0 0)), (20, (.int .i64 6)), (21, (.int .i64 2)), (22, v335), (97, v10)] rfl ⟨rfl, rfl, rfl, rfl, rfl, rfl, rfl, rfl, rfl, rfl, rfl, rfl, trivial⟩ ?_
        obtain ⟨A341, c342, rfl, hlc342, hmc342⟩ := slice_form h12
        refine wo_seg Θ_ok [1] [(0, v0), (5, (.slice A341 y14.length c342)), (14, u246), (15, (.int .i64 y243.2)), (16, u257), (17, (.int .i64 y254.2)), (18, (.slice none 0 0)), (19, (.slice none 0 0)), (20, (.int .i64 6)), (21, (.int .i64 2)), (22, v335), (98, (.int .i64 (y14.length : Int)))] rfl ⟨rfl, rfl, rfl, rfl, rfl, rfl, rfl, rfl, rfl, rfl, rfl, rfl, trivial⟩ ?_
        refine wo_seg Θ_ok [2] [(0, v0), (5, (.slice A341 y14.length c342)), (14, u246), (15, (.int .i64 y243.2)), (16, u257), (17, (.int .i64 y254.2)), (18, (.slice none 0 0)), (19, (.slice none 0 0)), (20, (.int .i64 6)), (21, (.int .i64 2)), (22, v335), (99, (.bool (decide ((y14.length : Int) < (16 : Int)))))] rfl ⟨rfl, rfl, rfl, rfl, rfl, rfl, rfl, rfl, rfl, rfl, rfl, rfl, trivial⟩ ?_
        refine wo_nil ?_
        refine wq_seq ?_
        rcases bif_some h with ⟨hc343, h⟩ | ⟨hc343, h⟩
        rotate_left
        · refine wc_known_false rfl hc343 ?_
          refine wc_skip ?_
          exact wq_join hK313 [(0, v0), (5, (.slice A341 y14.length c342)), (14, u246), (15, (.int .i64 y243.2)), (16, u257), (17, (.int .i64 y254.2)), (18, (.slice none 0 0)), (19, (.slice none 0 0)), (20, (.int .i64 6)), (21, (.int .i64 2))] ⟨rfl, rfl, rfl, rfl, rfl, rfl, rfl, rfl, rfl, rfl, trivial⟩ ⟨O237, ([] : List (List Int)), (6 : Int), (.slice none 0 0), rfl, T309, hO, hS, hF, FFK245, FFK256, (slice_nil _ _ _), h⟩
        refine wc_known_true rfl hc343 ?_
        refine wc_region (l := [0, 1, 2, 3, 4, 5, 6]) rfl ?_
        refine wo_seg Θ_ok [0, 1, 2, 3] [(0, v0), (5, (.slice A341 y14.length c342)), (14, u246), (15, (.int .i64 y243.2)), (16, u257), (17, (.int .i64 y254.2)), (19, (.slice none 0 0)), (21, (.int .i64 2)), (102, (.int .i64 (IntKind.i64.wrap ((2 : Int) * (y14.length : Int))))), (103, v335)] rfl ⟨rfl, rfl, rfl, rfl, rfl, rfl, rfl, rfl, rfl, rfl, trivial⟩ ?_
        obtain ⟨y348, hy349, h⟩ := bind_some h
        refine wo_gives rfl rfl rfl rfl rfl ent23 rfl (r_Spread_c hO (int_is.2 rfl) h337 hy349) (fun v344 w345 h346 f347 => ?_)
        have h0 := h0.tr f347.tr0
        have h12 := h12.tr f347.tr0
        have h247 := h247.tr f347.tr0
        have h258 := h258.tr f347.tr0
        have TTK245 := TTK245.trans f347.tr0
        have TLK245 := TLK245.trans f347.tr0
        have TTK256 := TTK256.trans f347.tr0
        have TLK256 := TLK256.trans f347.tr0
        have T261 := T261.trans f347.tr0
        have T309 := T309.trans f347.tr0
        have FFK245 := FFK245.trans f347
        have FFK256 := FFK256.trans f347
        have hO := f347.ob hO
        have hF := hF.trans f347
        refine wo_seg Θ_ok [5, 6] [(0, v0), (5, (.slice A341 y14.length c342)), (14, u246), (15, (.int .i64 y243.2)), (16, u257), (17, (.int .i64 y254.2)), (18, v344), (19, (.slice none 0 0)), (20, (.int .i64 0)), (21, (.int .i64 2))] rfl ⟨rfl, rfl, rfl, rfl, rfl, rfl, rfl, rfl, rfl, rfl, trivial⟩ ?_
        refine wo_nil ?_
        exact wq_join hK313 [(0, v0), (5, (.slice A341 y14.length c342)), (14, u246), (15, (.int .i64 y243.2)), (16, u257), (17, (.int .i64 y254.2)), (18, v344), (19, (.slice none 0 0)), (20, (.int .i64 0)), (21, (.int .i64 2))] ⟨rfl, rfl, rfl, rfl, rfl, rfl, rfl, rfl, rfl, rfl, trivial⟩ ⟨O237, y348, (0 : Int), v344, rfl, T309, hO, hS, hF, FFK245, FFK256, h346, h⟩
      rintro E w319 ⟨O318, p314, p317, v315, rfl, T309, hO, hS, hF, FFK245, FFK256, h316, h⟩
      have TTK245 := TTK245.trans T309
      have TLK245 := TLK245.trans T309
      have TTK256 := TTK256.trans T309
      have TLK256 := TLK256.trans T309
      have T261 := T261.trans T309
      have h0 := h0.tr T309
      have h12 := h12.tr T309
      have h247 := h247.tr T309
      have h258 := h258.tr T309
      subst hk311
      (try dsimp only at h)
      refine wc_seq ?_
      refine wc_region (l := [0, 1, 2]) rfl ?_
      refine wo_seg Θ_ok [0] [(0, v0), (5, v10), (14, u246), (15, (.int .i64 y243.2)), (16, u257), (17, (.int .i64 y254.2)), (18, v315), (19, (.slice none 0 0)), (20, (.int .i64 p317)), (21, (.int .i64 2)), (105, v10)] rfl ⟨rfl, rfl, rfl, rfl, rfl, rfl, rfl, rfl, rfl, rfl, rfl, trivial⟩ ?_
      obtain ⟨y324, hy325, h⟩ := bind_some h
      refine wo_gives rfl rfl rfl rfl rfl ent34 rfl (r_Keys_c hO h12 hy325) (fun v320 w321 h322 f323 => ?_)
      have h0 := h0.tr f323.tr0
      have h12 := h12.tr f323.tr0
      have h247 := h247.tr f323.tr0
      have h258 := h258.tr f323.tr0
      have h316 := h316.tr f323.tr0
      have TTK245 := TTK245.trans f323.tr0
      have TLK245 := TLK245.trans f323.tr0
      have TTK256 := TTK256.trans f323.tr0
      have TLK256 := TLK256.trans f323.tr0
      have T261 := T261.trans f323.tr0
      have FFK245 := FFK245.trans f323
      have FFK256 := FFK256.trans f323
      have hO := f323.ob hO
      have hF := hF.trans f323
      refine wo_seg Θ_ok [2] [(0, v0), (5, v10), (14, u246), (15, (.int .i64 y243.2)), (16, u257), (17, (.int .i64 y254.2)), (18, v315), (19, (.slice none 0 0)), (20, (.int .i64 p317)), (21, (.int .i64 2)), (23, v320)] rfl ⟨rfl, rfl, rfl, rfl, rfl, rfl, rfl, rfl, rfl, rfl, rfl, trivial⟩ ?_
      refine wo_nil ?_
      refine wq_seq ?_
      refine wc_seq ?_
      refine wc_region (l := [0, 1, 2]) rfl ?_
      refine wo_seg Θ_ok [0] [(0, v0), (5, v10), (14, u246), (15, (.int .i64 y243.2)), (16, u257), (17, (.int .i64 y254.2)), (18, v315), (19, (.slice none 0 0)), (20, (.int .i64 p317)), (21, (.int .i64 2)), (23, v320), (107, v10)] rfl ⟨rfl, rfl, rfl, rfl, rfl, rfl, rfl, rfl, rfl, rfl, rfl, rfl, trivial⟩ ?_
      obtain ⟨A326, c327, rfl, hlc327, hmc327⟩ := slice_form h12
      refine wo_seg Θ_ok [1] [(0, v0), (5, (.slice A326 y14.length c327)), (14, u246), (15, (.int .i64 y243.2)), (16, u257), (17, (.int .i64 y254.2)), (18, v315), (19, (.slice none 0 0)), (20, (.int .i64 p317)), (21, (.int .i64 2)), (23, v320), (108, (.int .i64 (y14.length : Int)))] rfl ⟨rfl, rfl, rfl, rfl, rfl, rfl, rfl, rfl, rfl, rfl, rfl, rfl, trivial⟩ ?_
      refine wo_seg Θ_ok [2] [(0, v0), (5, (.slice A326 y14.length c327)), (14, u246), (15, (.int .i64 y243.2)), (16, u257), (17, (.int .i64 y254.2)), (18, v315), (19, (.slice none 0 0)), (20, (.int .i64 p317)), (21, (.int .i64 2)), (23, v320), (109, (.bool (decide ((y14.length : Int) > (4 : Int)))))] rfl ⟨rfl, rfl, rfl, rfl, rfl, rfl, rfl, rfl, rfl, rfl, rfl, rfl, trivial⟩ ?_
      refine wo_nil ?_
      refine wq_seq ?_
      rcases bif_some h with ⟨hc328, h⟩ | ⟨hc328, h⟩
      rotate_left
      · refine wc_known_false rfl hc328 ?_
        refine wc_skip ?_
        exact wq_join hK265 [(0, v0), (5, (.slice A326 y14.length c327)), (14, u246), (15, (.int .i64 y243.2)), (16, u257), (17, (.int .i64 y254.2)), (18, v315), (19, (.slice none 0 0)), (20, (.int .i64 p317)), (21, (.int .i64 2))] ⟨rfl, rfl, rfl, rfl, rfl, rfl, rfl, rfl, rfl, rfl, trivial⟩ ⟨O318, p314, ([] : List (List Int)), p317, (2 : Int), v315, (.slice none 0 0), rfl, T261, hO, hS, hF, FFK245, FFK256, h316, (slice_nil _ _ _), h⟩
      refine wc_known_true rfl hc328 ?_
      refine wc_region (l := [0, 1, 2, 3, 4, 5, 6]) rfl ?_
      refine wo_seg Θ_ok [0, 1, 2, 3] [(0, v0), (5, (.slice A326 y14.length c327)), (14, u246), (15, (.int .i64 y243.2)), (16, u257), (17, (.int .i64 y254.2)), (18, v315), (20, (.int .i64 p317)), (112, (.int .i64 (IntKind.i64.wrap ((y14.length : Int).tdiv (2 : Int))))), (113, v320)] rfl ⟨rfl, rfl, rfl, rfl, rfl, rfl, rfl, rfl, rfl, rfl, trivial⟩ ?_
      obtain ⟨y333, hy334, h⟩ := bind_some h
      refine wo_gives rfl rfl rfl rfl rfl ent23 rfl (r_Spread_c hO (int_is.2 rfl) h322 hy334) (fun v329 w330 h331 f332 => ?_)
      have h0 := h0.tr f332.tr0
      have h12 := h12.tr f332.tr0
      have h247 := h247.tr f332.tr0
      have h258 := h258.tr f332.tr0
      have h316 := h316.tr f332.tr0
      have TTK245 := TTK245.trans f332.tr0
      have TLK245 := TLK245.trans f332.tr0
      have TTK256 := TTK256.trans f332.tr0
      have TLK256 := TLK256.trans f332.tr0
      have T261 := T261.trans f332.tr0
      have FFK245 := FFK245.trans f332
      have FFK256 := FFK256.trans f332
      have hO := f332.ob hO
      have hF := hF.trans f332
      refine wo_seg Θ_ok [5, 6] [(0, v0), (5, (.slice A326 y14.length c327)), (14, u246), (15, (.int .i64 y243.2)), (16, u257), (17, (.int .i64 y254.2)), (18, v315), (19, v329), (20, (.int .i64 p317)), (21, (.int .i64 0))] rfl ⟨rfl, rfl, rfl, rfl, rfl, rfl, rfl, rfl, rfl, rfl, trivial⟩ ?_
      refine wo_nil ?_
      exact wq_join hK265 [(0, v0), (5, (.slice A326 y14.length c327)), (14, u246), (15, (.int .i64 y243.2)), (16, u257), (17, (.int .i64 y254.2)), (18, v315), (19, v329), (20, (.int .i64 p317)), (21, (.int .i64 0))] ⟨rfl, rfl, rfl, rfl, rfl, rfl, rfl, rfl, rfl, rfl, trivial⟩ ⟨O318, p314, y333, p317, (0 : Int), v315, v329, rfl, T261, hO, hS, hF, FFK245, FFK256, h316, h331, h⟩
    rintro E w275 ⟨O274, p266, p269, p272, p273, v267, v270, rfl, T261, hO, hS, hF, FFK245, FFK256, h268, h271, h⟩
    have TTK245 := TTK245.trans T261
    have TLK245 := TLK245.trans T261
    have TTK256 := TTK256.trans T261
    have TLK256 := TLK256.trans T261
    have h0 := h0.tr T261
    have h12 := h12.tr T261
    have h247 := h247.tr T261
    have h258 := h258.tr T261
    subst hk263
    (try dsimp only at h)
    refine wc_seq ?_
    refine wc_seq ?_
    refine wc_region (l := [0, 1, 2, 3, 4, 5, 6, 7, 8, 9, 10, 11, 12, 13, 14, 15, 16, 17, 18, 19]) rfl ?_
    refine wo_seg Θ_ok [0, 1, 2, 3] [(0, v0), (5, v10), (14, u246), (16, u257), (17, (.int .i64 y254.2)), (18, v267), (19, v270), (21, (.int .i64 p273)), (118, (.bool (y243.2 != p272)))] rfl ⟨rfl, rfl, rfl, rfl, rfl, rfl, rfl, rfl, rfl, trivial⟩ ?_
    rcases bif_some h with ⟨hc276, h⟩ | ⟨hc276, h⟩
    · refine wo_know 118 true rfl hc276 ?_
      refine wo_seg Θ_ok [4, 5, 6, 7, 8, 9, 10, 11, 12, 13, 14, 15, 16, 17, 18, 19] [(0, v0), (5, v10), (14, u246), (16, u257), (134, (.bool true))] rfl ⟨rfl, rfl, rfl, rfl, rfl, trivial⟩ ?_
      refine wo_nil ?_
      refine wq_seq ?_
      refine wc_true rfl ?_
      refine wc_seq ?_
      refine wc_region (l := [0]) rfl ?_
      refine wo_seg Θ_ok [0] [(4, (.bool false))] rfl ⟨rfl, trivial⟩ ?_
      refine wo_nil ?_
      refine wq_seq ?_
      refine wc_ret ?_
      cases h
      exact wq_then_ret (wq_ret rfl ⟨_, rfl, (bool_is.2 rfl), hF⟩)
    refine wo_know 118 false rfl hc276 ?_
    refine wo_seg Θ_ok [4, 5, 6, 7, 8] [(0, v0), (5, v10), (14, u246), (16, u257), (18, v267), (19, v270), (123, (.bool (y254.2 != p273)))] rfl ⟨rfl, rfl, rfl, rfl, rfl, rfl, rfl, trivial⟩ ?_
    rcases bif_some h with ⟨hc277, h⟩ | ⟨hc277, h⟩
    · refine wo_know 123 true rfl hc277 ?_
      refine wo_seg Θ_ok [9, 10, 11, 12, 13, 14, 15, 16, 17, 18, 19] [(0, v0), (5, v10), (14, u246), (16, u257), (134, (.bool true))] rfl ⟨rfl, rfl, rfl, rfl, rfl, trivial⟩ ?_
      refine wo_nil ?_
      refine wq_seq ?_
      refine wc_true rfl ?_
      refine wc_seq ?_
      refine wc_region (l := [0]) rfl ?_
      refine wo_seg Θ_ok [0] [(4, (.bool false))] rfl ⟨rfl, trivial⟩ ?_
      refine wo_nil ?_
      refine wq_seq ?_
      refine wc_ret ?_
      cases h
      exact wq_then_ret (wq_ret rfl ⟨_, rfl, (bool_is.2 rfl), hF⟩)
    refine wo_know 123 false rfl hc277 ?_
    refine wo_seg Θ_ok [9, 10] [(0, v0), (5, v10), (14, u246), (16, u257), (19, v270), (123, (.bool false)), (124, u246), (125, v267)] rfl ⟨rfl, rfl, rfl, rfl, rfl, rfl, rfl, rfl, trivial⟩ ?_
    obtain ⟨y282, hy283, h⟩ := bind_some h
    refine wo_gives rfl rfl rfl rfl rfl ent22 rfl (same_c hO h247 h268 hy283) (fun v278 w279 h280 f281 => ?_)
    have h0 := h0.tr f281.tr0
    have h12 := h12.tr f281.tr0
    have h247 := h247.tr f281.tr0
    have h258 := h258.tr f281.tr0
    have h271 := h271.tr f281.tr0
    have TTK245 := TTK245.trans f281.tr0
    have TLK245 := TLK245.trans f281.tr0
    have TTK256 := TTK256.trans f281.tr0
    have TLK256 := TLK256.trans f281.tr0
    have FFK245 := FFK245.trans f281
    have FFK256 := FFK256.trans f281
    have hO := f281.ob hO
    have hF := hF.trans f281
    obtain rfl := bool_is.1 h280
    refine wo_seg Θ_ok [12, 13, 14] [(0, v0), (5, v10), (14, u246), (16, u257), (19, v270), (129, (.bool (!y282)))] rfl ⟨rfl, rfl, rfl, rfl, rfl, rfl, trivial⟩ ?_
    rcases bif_some h with ⟨hc284, h⟩ | ⟨hc284, h⟩
    · refine wo_know 129 true rfl hc284 ?_
      refine wo_seg Θ_ok [15, 16, 17, 18, 19] [(0, v0), (5, v10), (14, u246), (16, u257), (134, (.bool true))] rfl ⟨rfl, rfl, rfl, rfl, rfl, trivial⟩ ?_
      refine wo_nil ?_
      refine wq_seq ?_
      refine wc_true rfl ?_
      refine wc_seq ?_
      refine wc_region (l := [0]) rfl ?_
      refine wo_seg Θ_ok [0] [(4, (.bool false))] rfl ⟨rfl, trivial⟩ ?_
      refine wo_nil ?_
      refine wq_seq ?_
      refine wc_ret ?_
      cases h
      exact wq_then_ret (wq_ret rfl ⟨_, rfl, (bool_is.2 rfl), hF⟩)
    refine wo_know 129 false rfl hc284 ?_
    refine wo_seg Θ_ok [15, 16] [(0, v0), (5, v10), (14, u246), (16, u257), (129, (.bool false)), (130, u257), (131, v270)] rfl ⟨rfl, rfl, rfl, rfl, rfl, rfl, rfl, trivial⟩ ?_
    obtain ⟨y289, hy290, h⟩ := bind_some h
    refine wo_gives rfl rfl rfl rfl rfl ent22 rfl (same_c hO h258 h271 hy290) (fun v285 w286 h287 f288 => ?_)
    have h0 := h0.tr f288.tr0
    have h12 := h12.tr f288.tr0
    have h247 := h247.tr f288.tr0
    have h258 := h258.tr f288.tr0
    have TTK245 := TTK245.trans f288.tr0
    have TLK245 := TLK245.trans f288.tr0
    have TTK256 := TTK256.trans f288.tr0
    have TLK256 := TLK256.trans f288.tr0
    have FFK245 := FFK245.trans f288
    have FFK256 := FFK256.trans f288
    have hO := f288.ob hO
    have hF := hF.trans f288
    obtain rfl := bool_is.1 h287
    refine wo_seg Θ_ok [18, 19] [(0, v0), (5, v10), (14, u246), (16, u257), (134, (.bool (!y289)))] rfl ⟨rfl, rfl, rfl, rfl, rfl, trivial⟩ ?_
    refine wo_nil ?_
    refine wq_seq ?_
    rcases bif_some h with ⟨hc291, h⟩ | ⟨hc291, h⟩
    · refine wc_known_true rfl hc291 ?_
      refine wc_seq ?_
      refine wc_region (l := [0]) rfl ?_
      refine wo_seg Θ_ok [0] [(4, (.bool false))] rfl ⟨rfl, trivial⟩ ?_
      refine wo_nil ?_
      refine wq_seq ?_
      refine wc_ret ?_
      cases h
      exact wq_then_ret (wq_ret rfl ⟨_, rfl, (bool_is.2 rfl), hF⟩)
    refine wc_known_false rfl hc291 ?_
    refine wc_skip ?_
    refine wq_seq ?_
    refine wc_seq ?_
    refine wc_region (l := [0, 1]) rfl ?_
    refine wo_seg Θ_ok [0] [(0, v0), (5, v10), (16, u257), (135, u246)] rfl ⟨rfl, rfl, rfl, rfl, trivial⟩ ?_
    refine wo_call rfl rfl rfl rfl rfl ent24 rfl (spoil_s h247N FFK245) (fun _ w293 ⟨he, hC292⟩ => ⟨_, he, ?_⟩)
    have TTK245 := TTK245.chg hC292 (Nat.le_refl _)
    have h0 := h0_K245.tr TTK245
    have h12 := h12_K245.tr TTK245
    have TLK256 := TLK256.chg hC292 FFK245_K256.size
    have h258N := Ty.is.late (h258N.tr FFK256.tr0) hC292 FFK245_K256.size
    have h258 := TLK256.data h258M
    have FFK256 := Fr.refl [] w293
    have hF := hC292.fr hF hF_K245.size
    have hO := hO.chg hC292
    refine wo_nil ?_
    refine wq_seq ?_
    refine wc_seq ?_
    refine wc_region (l := [0, 1]) rfl ?_
    refine wo_seg Θ_ok [0] [(0, v0), (5, v10), (137, u257)] rfl ⟨rfl, rfl, rfl, trivial⟩ ?_
    refine wo_call rfl rfl rfl rfl rfl ent24 rfl (spoil_s h258N FFK256) (fun _ w295 ⟨he, hC294⟩ => ⟨_, he, ?_⟩)
    have TTK245 := TTK245.chg hC294 (TTK245_K256.size)
    have h0 := h0_K245.tr TTK245
    have h12 := h12_K245.tr TTK245
    have hF := hC294.fr hF hF_K256.size
    have hO := hO.chg hC294
    refine wo_nil ?_
    refine wq_seq ?_
    refine wc_seq ?_
    refine wc_region (l := [0, 1, 2, 3, 4]) rfl ?_
    refine wo_seg Θ_ok [0, 1] [(139, v10), (140, v0)] rfl ⟨rfl, rfl, trivial⟩ ?_
    obtain ⟨y300, hy301, h⟩ := bind_some h
    refine wo_gives rfl rfl rfl rfl rfl ent26 rfl (own_c hO h0 hy301) (fun v296 w297 h298 f299 => ?_)
    have h12 := h12.tr f299.tr0
    have TTK245 := TTK245.trans f299.tr0
    have hO := f299.ob hO
    have hF := hF.trans f299
    obtain ⟨y306, hy307, h⟩ := bind_some h
    refine wo_gives rfl rfl rfl rfl rfl ent22 rfl (same_c hO h12 h298 hy307) (fun v302 w303 h304 f305 => ?_)
    have TTK245 := TTK245.trans f305.tr0
    have hO := f305.ob hO
    have hF := hF.trans f305
    obtain rfl := bool_is.1 h304
    refine wo_seg Θ_ok [4] [(4, (.bool y306))] rfl ⟨rfl, trivial⟩ ?_
    refine wo_nil ?_
    refine wq_seq ?_
    refine wc_ret ?_
    cases h
    exact wq_ret rfl ⟨_, rfl, (bool_is.2 rfl), hF⟩
  refine wo_know 39 true rfl hc29 ?_
  refine wo_seg Θ_ok [8, 9, 10, 11] [(0, v0), (1, v1), (5, v10), (6, (.bool y20)), (43, (.bool (y26 != (280 : Int))))] rfl ⟨rfl, rfl, rfl, rfl, rfl, trivial⟩ ?_
  refine wo_nil ?_
  refine wq_seq ?_
  rcases bif_some h with ⟨hc30, h⟩ | ⟨hc30, h⟩
  · refine wc_known_true rfl hc30 ?_
    refine wc_seq ?_
    refine wc_region (l := [0]) rfl ?_
    refine wo_seg Θ_ok [0] [(4, (.bool false))] rfl ⟨rfl, trivial⟩ ?_
    refine wo_nil ?_
    refine wq_seq ?_
    refine wc_ret ?_
    cases h
    exact wq_then_ret (wq_ret rfl ⟨_, rfl, (bool_is.2 rfl), hF⟩)
  refine wc_known_false rfl hc30 ?_
  refine wc_skip ?_
  refine wq_seq ?_
  obtain ⟨k32, hk33, h⟩ := letk_some h
  refine wc_join (fun E W => ∃ (O36 : List Nat), E = [(0, v0), (5, v10), (6, (.bool y20))] ∧ Tr O w23 O36 W ∧ OB O36 W ∧ Sub O O36 ∧ Fr [] w W ∧ k32 = some r) ?_ (fun K34 hK35 => ?_)
  rotate_left
  · clear hk33
    have T31 := Tr.refl O w23
    refine wc_seq ?_
    refine wc_region (l := [0, 1, 2, 3, 4, 5, 6, 7, 8, 9]) rfl ?_
    refine wo_seg Θ_ok [0, 1] [(0, v0), (5, v10), (6, (.bool y20)), (44, v1), (45, v1)] rfl ⟨rfl, rfl, rfl, rfl, rfl, trivial⟩ ?_
    obtain ⟨A149, c150, rfl, hlc150, hmc150⟩ := slice_form h1
    refine wo_seg Θ_ok [2] [(0, v0), (5, v10), (6, (.bool y20)), (44, (.slice A149 x1.length c150)), (46, (.int .i64 (x1.length : Int)))] rfl ⟨rfl, rfl, rfl, rfl, rfl, trivial⟩ ?_
    refine wo_seg Θ_ok [3] [(0, v0), (5, v10), (6, (.bool y20)), (44, (.slice A149 x1.length c150)), (47, (.int .i64 (if (6 : Int) < (x1.length : Int) then (6 : Int) else (x1.length : Int))))] rfl ⟨rfl, rfl, rfl, rfl, rfl, trivial⟩ ?_
    obtain ⟨y151, hz152, h⟩ := bind_some h
    refine wo_cut (l' := none) (h' := some (.i64, (if (6 : Int) < (x1.length : Int) then (6 : Int) else (x1.length : Int)))) (m' := none) Θ_ok rfl rfl rfl rfl rfl rfl rfl rfl rfl rfl rfl rfl rfl h1 hz152 (fun v153 h154 => ?_)
    obtain ⟨z155, hz156, h⟩ := bind_some h
    refine wo_ownc rfl rfl rfl rfl rfl ent29 rfl (i_Clone_f hO hF.size h154 hz156) (fun v157 w158 O159 ap160 => ?_)
    have h0 := h0.tr ap160.tr
    have h12 := h12.tr ap160.tr
    have T31 := T31.trans ap160.tr
    have hF := ap160.fr0 (Go.Dc.Own.nil_ : Go.Dc.Own (Ty.int .i64) 3 w.heap.size _ _ _ _) hF
    have hS := Sub.trans hS ap160.sub
    have hO := ap160.ob
    have h161 := ap160.own
    refine wo_litd Θ_ok rfl rfl rfl rfl rfl rfl rfl rfl rfl rfl (T := (Ty.int .i64)) (xs := [(0 : Int), (1 : Int), (2 : Int), (3 : Int)]) (vs := [(.int .i64 0), (.int .i64 1), (.int .i64 2), (.int .i64 3)]) rfl ⟨(int_is.2 rfl), (int_is.2 rfl), (int_is.2 rfl), (int_is.2 rfl), trivial⟩ rfl rfl rfl hO (fun v162 w163 h164 f165 => ?_)
    have h0 := h0.tr f165.tr0
    have h12 := h12.tr f165.tr0
    have h161 := h161.fr0 f165
    have T31 := T31.trans f165.tr0
    have hO := f165.ob hO
    have hF := hF.trans f165
    obtain ⟨z166, hz167, h⟩ := bind_some h
    refine wo_app Θ_ok rfl rfl rfl rfl rfl rfl rfl rfl rfl rfl rfl rfl rfl rfl hF hO h161 h164 hz167 (fun v168 w169 O170 ap171 => ?_)
    have h0 := h0.tr ap171.tr
    have h12 := h12.tr ap171.tr
    have T31 := T31.trans ap171.tr
    have hF := ap171.fr0 h161 hF
    have hS := Sub.trans hS ap171.sub
    have hO := ap171.ob
    have h172 := ap171.own
    obtain ⟨A173, c174, rfl, hlc174, hmc174⟩ := h172.form
    refine wo_seg Θ_ok [8] [(0, v0), (5, v10), (6, (.bool y20)), (51, (.slice A173 z166.length c174)), (52, (.int .i64 (z166.length : Int)))] rfl ⟨rfl, rfl, rfl, rfl, rfl, trivial⟩ ?_
    refine wo_seg Θ_ok [9] [(0, v0), (5, v10), (6, (.bool y20)), (51, (.slice A173 z166.length c174)), (52, (.int .i64 (z166.length : Int))), (53, (.int .i64 0))] rfl ⟨rfl, rfl, rfl, rfl, rfl, rfl, trivial⟩ ?_
    refine wo_nil ?_
    refine wq_seq ?_
    refine wc_block ?_
    have h172g := h172.give
    have h0 := h0.tr (relv_tr (.slice A173 z166.length c174) O170 w169)
    have h12 := h12.tr (relv_tr (.slice A173 z166.length c174) O170 w169)
    have hS := relv_sub h172 hS hO0
    have T31 := T31.trans (relv_tr (.slice A173 z166.length c174) O170 w169)
    have hO := relv_ob (v := (.slice A173 z166.length c174)) hO
    refine wc_loop (fun m E W => ∃ (rest178 : List Int) (i177 : Nat) (O181 : List Nat), rest178.length = m ∧ z166.drop i177 = rest178 ∧ E = [(0, v0), (5, v10), (6, (.bool y20)), (51, (.slice A173 z166.length c174)), (52, (.int .i64 (z166.length : Int))), (53, (.int .i64 (i177 : Int)))] ∧ Tr (relv (.slice A173 z166.length c174) O170) w169 O181 W ∧ OB O181 W ∧ Sub O O181 ∧ Fr [] w W ∧ l_Parts_l2 y14 y20 k32 rest178 i177 = some r) _ [(0, v0), (5, v10), (6, (.bool y20)), (51, (.slice A173 z166.length c174)), (52, (.int .i64 (z166.length : Int))), (53, (.int .i64 ((0 : Nat) : Int)))] ⟨rfl, rfl, rfl, rfl, rfl, rfl, trivial⟩ ⟨z166, 0, relv (.slice A173 z166.length c174) O170, rfl, rfl, rfl, Tr.refl _ _, hO, hS, hF, h⟩ ?_
    rintro m E w182 ⟨rest178, i177, O181, rfl, hd180, rfl, T176, hO, hS, hF, h⟩
    have T31 := T31.trans T176
    have h0 := h0.tr T176
    have h12 := h12.tr T176
    have h172g := h172g.tr T176
    rcases rest178 with _ | ⟨z179, rest178⟩
    · rw [l_Parts_l2] at h
      have hl186 := drop_nil hd180
      have hc183 : (decide ((i177 : Int) < (z166.length : Int))) = false := decide_eq_false (by omega)
      refine wc_seq ?_
      refine wc_region (l := [0]) rfl ?_
      refine wo_seg Θ_ok [0] [(0, v0), (5, v10), (6, (.bool y20)), (51, (.slice A173 z166.length c174)), (52, (.int .i64 (z166.length : Int))), (53, (.int .i64 (i177 : Int))), (54, (.bool (decide ((i177 : Int) < (z166.length : Int)))))] rfl ⟨rfl, rfl, rfl, rfl, rfl, rfl, rfl, trivial⟩ ?_
      refine wo_nil ?_
      refine wq_seq ?_
      refine wc_seq ?_
      refine wc_known_false rfl hc183 ?_
      refine wc_exit ?_
      exact wq_then_exit (wq_then_exit (wq_block_exit (wq_join hK35 [(0, v0), (5, v10), (6, (.bool y20))] ⟨rfl, rfl, rfl, trivial⟩ ⟨O181, rfl, T31, hO, hS, hF, h⟩)))
    rw [l_Parts_l2] at h
    obtain ⟨hl187, hg185, hd180⟩ := drop_cons hd180
    have hc184 : (decide ((i177 : Int) < (z166.length : Int))) = true := decide_eq_true (by omega)
    refine wc_seq ?_
    refine wc_region (l := [0]) rfl ?_
    refine wo_seg Θ_ok [0] [(0, v0), (5, v10), (6, (.bool y20)), (51, (.slice A173 z166.length c174)), (52, (.int .i64 (z166.length : Int))), (53, (.int .i64 (i177 : Int))), (54, (.bool (decide ((i177 : Int) < (z166.length : Int)))))] rfl ⟨rfl, rfl, rfl, rfl, rfl, rfl, rfl, trivial⟩ ?_
    refine wo_nil ?_
    refine wq_seq ?_
    refine wc_seq ?_
    refine wc_known_true rfl hc184 ?_
    refine wc_skip ?_
    refine wq_seq ?_
    refine wc_seq ?_
    refine wc_block ?_
    refine wc_seq ?_
    refine wc_region (l := [0, 1, 2]) rfl ?_
    refine wo_index Θ_ok rfl rfl rfl rfl rfl rfl rfl rfl rfl rfl h172g rfl (by omega) hg185 (fun p188 h189 => ?_)
    refine wo_loadp Θ_ok rfl rfl rfl rfl rfl rfl rfl h189 rfl rfl (fun v190 h191 => ?_)
    obtain rfl := int_is.1 h191
    refine wo_seg Θ_ok [2] [(0, v0), (5, v10), (6, (.bool y20)), (9, (.int .i64 z179)), (51, (.slice A173 z166.length c174)), (52, (.int .i64 (z166.length : Int))), (53, (.int .i64 (i177 : Int)))] rfl ⟨rfl, rfl, rfl, rfl, rfl, rfl, rfl, trivial⟩ ?_
    refine wo_nil ?_
    refine wq_seq ?_
    refine wc_seq ?_
    refine wc_region (l := [0, 1, 2, 3, 4, 5, 6, 7]) rfl ?_
    refine wo_seg Θ_ok [0, 1] [(0, v0), (5, v10), (6, (.bool y20)), (9, (.int .i64 z179)), (51, (.slice A173 z166.length c174)), (52, (.int .i64 (z166.length : Int))), (53, (.int .i64 (i177 : Int))), (58, v10), (59, (.int .i64 z179))] rfl ⟨rfl, rfl, rfl, rfl, rfl, rfl, rfl, rfl, rfl, trivial⟩ ?_
    obtain ⟨y196, hy197, h⟩ := bind_some h
    refine wo_gives rfl rfl rfl rfl rfl ent30 rfl (b_Seam_c hO h12 (int_is.2 rfl) hy197) (fun v192 w193 h194 f195 => ?_)
    have h0 := h0.tr f195.tr0
    have h12 := h12.tr f195.tr0
    have h172g := h172g.tr f195.tr0
    have T31 := T31.trans f195.tr0
    have T176 := T176.trans f195.tr0
    have hO := f195.ob hO
    have hF := hF.trans f195
    obtain ⟨u198, u200, rfl, h199, h201⟩ := h194
    obtain rfl := int_is.1 h199
    obtain rfl := int_is.1 h201
    refine wo_seg Θ_ok [3, 4, 5, 6, 7] [(0, v0), (5, v10), (6, (.bool y20)), (9, (.int .i64 z179)), (10, (.int .i64 y196.1)), (11, (.int .i64 y196.2)), (51, (.slice A173 z166.length c174)), (52, (.int .i64 (z166.length : Int))), (53, (.int .i64 (i177 : Int)))] rfl ⟨rfl, rfl, rfl, rfl, rfl, rfl, rfl, rfl, rfl, trivial⟩ ?_
    refine wo_nil ?_
    refine wq_seq ?_
    refine wc_seq ?_
    refine wc_region (l := [0, 1]) rfl ?_
    refine wo_seg Θ_ok [0, 1] [(0, v0), (5, v10), (6, (.bool y20)), (9, (.int .i64 z179)), (10, (.int .i64 y196.1)), (11, (.int .i64 y196.2)), (12, (.int .i64 0)), (13, (.int .i64 280)), (51, (.slice A173 z166.length c174)), (52, (.int .i64 (z166.length : Int))), (53, (.int .i64 (i177 : Int)))] rfl ⟨rfl, rfl, rfl, rfl, rfl, rfl, rfl, rfl, rfl, rfl, rfl, trivial⟩ ?_
    refine wo_nil ?_
    refine wq_seq ?_
    obtain ⟨k203, hk204, h⟩ := letk_some h
    refine wc_join (fun E W => ∃ (O209 : List Nat) (p207 : Int) (p208 : Int), E = [(0, v0), (5, v10), (6, (.bool y20)), (10, (.int .i64 y196.1)), (11, (.int .i64 y196.2)), (12, (.int .i64 p207)), (13, (.int .i64 p208)), (51, (.slice A173 z166.length c174)), (52, (.int .i64 (z166.length : Int))), (53, (.int .i64 (i177 : Int)))] ∧ Tr O181 w193 O209 W ∧ OB O209 W ∧ Sub O O209 ∧ Fr [] w W ∧ k203 p207 p208 = some r) ?_ (fun K205 hK206 => ?_)
    · rintro E w210 ⟨O209, p207, p208, rfl, T202, hO, hS, hF, h⟩
      have T31 := T31.trans T202
      have T176 := T176.trans T202
      have h0 := h0.tr T202
      have h12 := h12.tr T202
      have h172g := h172g.tr T202
      subst hk204
      (try dsimp only at h)
      refine wc_seq ?_
      refine wc_region (l := [0, 1, 2, 3, 4, 5, 6, 7]) rfl ?_
      refine wo_seg Θ_ok [0, 1, 2, 3] [(0, v0), (5, v10), (6, (.bool y20)), (11, (.int .i64 y196.2)), (13, (.int .i64 p208)), (51, (.slice A173 z166.length c174)), (52, (.int .i64 (z166.length : Int))), (53, (.int .i64 (i177 : Int))), (78, (.bool (y196.1 != p207)))] rfl ⟨rfl, rfl, rfl, rfl, rfl, rfl, rfl, rfl, rfl, trivial⟩ ?_
      rcases bif_some h with ⟨hc211, h⟩ | ⟨hc211, h⟩
      · refine wo_know 78 true rfl hc211 ?_
        refine wo_seg Θ_ok [4, 5, 6, 7] [(0, v0), (5, v10), (6, (.bool y20)), (51, (.slice A173 z166.length c174)), (52, (.int .i64 (z166.length : Int))), (53, (.int .i64 (i177 : Int))), (82, (.bool true))] rfl ⟨rfl, rfl, rfl, rfl, rfl, rfl, rfl, trivial⟩ ?_
        refine wo_nil ?_
        refine wq_seq ?_
        refine wc_true rfl ?_
        refine wc_seq ?_
        refine wc_region (l := [0]) rfl ?_
        refine wo_seg Θ_ok [0] [(4, (.bool false))] rfl ⟨rfl, trivial⟩ ?_
        refine wo_nil ?_
        refine wq_seq ?_
        refine wc_ret ?_
        cases h
        exact wq_block_ret (wq_then_ret (wq_then_ret (wq_block_ret (wq_then_ret (wq_ret rfl ⟨_, rfl, (bool_is.2 rfl), hF⟩)))))
      refine wo_know 78 false rfl hc211 ?_
      refine wo_seg Θ_ok [4, 5, 6, 7] [(0, v0), (5, v10), (6, (.bool y20)), (51, (.slice A173 z166.length c174)), (52, (.int .i64 (z166.length : Int))), (53, (.int .i64 (i177 : Int))), (82, (.bool (y196.2 != p208)))] rfl ⟨rfl, rfl, rfl, rfl, rfl, rfl, rfl, trivial⟩ ?_
      refine wo_nil ?_
      refine wq_seq ?_
      rcases bif_some h with ⟨hc212, h⟩ | ⟨hc212, h⟩
      rotate_left
      · refine wc_known_false rfl hc212 ?_
        refine wc_skip ?_
        refine wq_block (wq_seq ?_)
        refine wc_region (l := [0, 1]) rfl ?_
        refine wo_seg Θ_ok [0, 1] [(0, v0), (5, v10), (6, (.bool y20)), (51, (.slice A173 z166.length c174)), (52, (.int .i64 (z166.length : Int))), (53, (.int .i64 (IntKind.i64.wrap ((i177 : Int) + (1 : Int)))))] rfl ⟨rfl, rfl, rfl, rfl, rfl, rfl, trivial⟩ ?_
        refine wo_nil ?_
        exact wq_next rest178.length [(0, v0), (5, v10), (6, (.bool y20)), (51, (.slice A173 z166.length c174)), (52, (.int .i64 (z166.length : Int))), (53, (.int .i64 ((i177 + 1 : Nat) : Int)))] (Nat.lt_succ_self _) ⟨rfl, rfl, rfl, rfl, rfl, congrArg (fun z => some (Value.int .i64 z)) (wrap_succ hl187 (Nat.le_trans hlc174 hmc174)), trivial⟩ ⟨rest178, i177 + 1, O209, rfl, hd180, rfl, T176, hO, hS, hF, h⟩
      refine wc_known_true rfl hc212 ?_
      refine wc_seq ?_
      refine wc_region (l := [0]) rfl ?_
      refine wo_seg Θ_ok [0] [(4, (.bool false))] rfl ⟨rfl, trivial⟩ ?_
      refine wo_nil ?_
      refine wq_seq ?_
      refine wc_ret ?_
      cases h
      exact wq_block_ret (wq_then_ret (wq_then_ret (wq_block_ret (wq_then_ret (wq_ret rfl ⟨_, rfl, (bool_is.2 rfl), hF⟩)))))
    clear hk204
    have T202 := Tr.refl O181 w193
    refine wc_seq ?_
    refine wc_region (l := [0]) rfl ?_
    refine wo_seg Θ_ok [0] [(0, v0), (5, v10), (6, (.bool y20)), (9, (.int .i64 z179)), (10, (.int .i64 y196.1)), (11, (.int .i64 y196.2)), (12, (.int .i64 0)), (13, (.int .i64 280)), (51, (.slice A173 z166.length c174)), (52, (.int .i64 (z166.length : Int))), (53, (.int .i64 (i177 : Int))), (63, (.bool y20))] rfl ⟨rfl, rfl, rfl, rfl, rfl, rfl, rfl, rfl, rfl, rfl, rfl, rfl, trivial⟩ ?_
    refine wo_nil ?_
    refine wq_seq ?_
    rcases bif_some h with ⟨hc213, h⟩ | ⟨hc213, h⟩
    rotate_left
    · refine wc_known_false rfl hc213 ?_
      refine wc_skip ?_
      exact wq_join hK206 [(0, v0), (5, v10), (6, (.bool y20)), (10, (.int .i64 y196.1)), (11, (.int .i64 y196.2)), (12, (.int .i64 0)), (13, (.int .i64 280)), (51, (.slice A173 z166.length c174)), (52, (.int .i64 (z166.length : Int))), (53, (.int .i64 (i177 : Int)))] ⟨rfl, rfl, rfl, rfl, rfl, rfl, rfl, rfl, rfl, rfl, trivial⟩ ⟨O181, (0 : Int), (280 : Int), rfl, T202, hO, hS, hF, h⟩
    refine wc_known_true rfl hc213 ?_
    refine wc_seq ?_
    refine wc_region (l := [0]) rfl ?_
    refine wo_seg Θ_ok [0] [(0, v0), (5, v10), (6, (.bool y20)), (9, (.int .i64 z179)), (10, (.int .i64 y196.1)), (11, (.int .i64 y196.2)), (12, (.int .i64 0)), (13, (.int .i64 2)), (51, (.slice A173 z166.length c174)), (52, (.int .i64 (z166.length : Int))), (53, (.int .i64 (i177 : Int)))] rfl ⟨rfl, rfl, rfl, rfl, rfl, rfl, rfl, rfl, rfl, rfl, rfl, trivial⟩ ?_
    refine wo_nil ?_
    refine wq_seq ?_
    obtain ⟨k215, hk216, h⟩ := letk_some h
    refine wc_join (fun E W => ∃ (O220 : List Nat) (p219 : Bool), E = [(0, v0), (5, v10), (6, (.bool y20)), (9, (.int .i64 z179)), (10, (.int .i64 y196.1)), (11, (.int .i64 y196.2)), (12, (.int .i64 0)), (13, (.int .i64 2)), (51, (.slice A173 z166.length c174)), (52, (.int .i64 (z166.length : Int))), (53, (.int .i64 (i177 : Int))), (71, (.bool p219))] ∧ Tr O181 w193 O220 W ∧ OB O220 W ∧ Sub O O220 ∧ Fr [] w W ∧ k215 p219 = some r) ?_ (fun K217 hK218 => ?_)
    rotate_left
    · clear hk216
      have T214 := Tr.refl O181 w193
      refine wc_region (l := [0, 1, 2, 3, 4, 5, 6, 7]) rfl ?_
      refine wo_seg Θ_ok [0, 1, 2] [(0, v0), (5, v10), (6, (.bool y20)), (9, (.int .i64 z179)), (10, (.int .i64 y196.1)), (11, (.int .i64 y196.2)), (12, (.int .i64 0)), (13, (.int .i64 2)), (51, (.slice A173 z166.length c174)), (52, (.int .i64 (z166.length : Int))), (53, (.int .i64 (i177 : Int))), (66, (.bool (decide (z179 ≥ (0 : Int)))))] rfl ⟨rfl, rfl, rfl, rfl, rfl, rfl, rfl, rfl, rfl, rfl, rfl, rfl, trivial⟩ ?_
      rcases bif_some h with ⟨hc229, h⟩ | ⟨hc229, h⟩
      rotate_left
      · refine wo_know 66 false rfl hc229 ?_
        refine wo_seg Θ_ok [3, 4, 5, 6, 7] [(0, v0), (5, v10), (6, (.bool y20)), (9, (.int .i64 z179)), (10, (.int .i64 y196.1)), (11, (.int .i64 y196.2)), (12, (.int .i64 0)), (13, (.int .i64 2)), (51, (.slice A173 z166.length c174)), (52, (.int .i64 (z166.length : Int))), (53, (.int .i64 (i177 : Int))), (71, (.bool false))] rfl ⟨rfl, rfl, rfl, rfl, rfl, rfl, rfl, rfl, rfl, rfl, rfl, rfl, trivial⟩ ?_
        refine wo_nil ?_
        exact wq_join hK218 [(0, v0), (5, v10), (6, (.bool y20)), (9, (.int .i64 z179)), (10, (.int .i64 y196.1)), (11, (.int .i64 y196.2)), (12, (.int .i64 0)), (13, (.int .i64 2)), (51, (.slice A173 z166.length c174)), (52, (.int .i64 (z166.length : Int))), (53, (.int .i64 (i177 : Int))), (71, (.bool false))] ⟨rfl, rfl, rfl, rfl, rfl, rfl, rfl, rfl, rfl, rfl, rfl, rfl, trivial⟩ ⟨O181, false, rfl, T214, hO, hS, hF, h⟩
      refine wo_know 66 true rfl hc229 ?_
      refine wo_seg Θ_ok [3, 4] [(0, v0), (5, v10), (6, (.bool y20)), (9, (.int .i64 z179)), (10, (.int .i64 y196.1)), (11, (.int .i64 y196.2)), (12, (.int .i64 0)), (13, (.int .i64 2)), (51, (.slice A173 z166.length c174)), (52, (.int .i64 (z166.length : Int))), (53, (.int .i64 (i177 : Int))), (66, (.bool true)), (67, (.int .i64 z179)), (68, v10)] rfl ⟨rfl, rfl, rfl, rfl, rfl, rfl, rfl, rfl, rfl, rfl, rfl, rfl, rfl, rfl, trivial⟩ ?_
      obtain ⟨A230, c231, rfl, hlc231, hmc231⟩ := slice_form h12
      refine wo_seg Θ_ok [5] [(0, v0), (5, (.slice A230 y14.length c231)), (6, (.bool y20)), (9, (.int .i64 z179)), (10, (.int .i64 y196.1)), (11, (.int .i64 y196.2)), (12, (.int .i64 0)), (13, (.int .i64 2)), (51, (.slice A173 z166.length c174)), (52, (.int .i64 (z166.length : Int))), (53, (.int .i64 (i177 : Int))), (66, (.bool true)), (67, (.int .i64 z179)), (69, (.int .i64 (y14.length : Int)))] rfl ⟨rfl, rfl, rfl, rfl, rfl, rfl, rfl, rfl, rfl, rfl, rfl, rfl, rfl, rfl, trivial⟩ ?_
      refine wo_seg Θ_ok [6, 7] [(0, v0), (5, (.slice A230 y14.length c231)), (6, (.bool y20)), (9, (.int .i64 z179)), (10, (.int .i64 y196.1)), (11, (.int .i64 y196.2)), (12, (.int .i64 0)), (13, (.int .i64 2)), (51, (.slice A173 z166.length c174)), (52, (.int .i64 (z166.length : Int))), (53, (.int .i64 (i177 : Int))), (71, (.bool (decide (z179 < (y14.length : Int)))))] rfl ⟨rfl, rfl, rfl, rfl, rfl, rfl, rfl, rfl, rfl, rfl, rfl, rfl, trivial⟩ ?_
      refine wo_nil ?_
      exact wq_join hK218 [(0, v0), (5, (.slice A230 y14.length c231)), (6, (.bool y20)), (9, (.int .i64 z179)), (10, (.int .i64 y196.1)), (11, (.int .i64 y196.2)), (12, (.int .i64 0)), (13, (.int .i64 2)), (51, (.slice A173 z166.length c174)), (52, (.int .i64 (z166.length : Int))), (53, (.int .i64 (i177 : Int))), (71, (.bool (decide (z179 < (y14.length : Int)))))] ⟨rfl, rfl, rfl, rfl, rfl, rfl, rfl, rfl, rfl, rfl, rfl, rfl, trivial⟩ ⟨O181, (decide (z179 < (y14.length : Int))), rfl, T214, hO, hS, hF, h⟩
    rintro E w221 ⟨O220, p219, rfl, T214, hO, hS, hF, h⟩
    have T31 := T31.trans T214
    have T176 := T176.trans T214
    have T202 := T202.trans T214
    have h0 := h0.tr T214
    have h12 := h12.tr T214
    have h172g := h172g.tr T214
    subst hk216
    (try dsimp only at h)
    rcases bif_some h with ⟨hc222, h⟩ | ⟨hc222, h⟩
    rotate_left
    · refine wc_known_false rfl hc222 ?_
      refine wc_skip ?_
      exact wq_join hK206 [(0, v0), (5, v10), (6, (.bool y20)), (10, (.int .i64 y196.1)), (11, (.int .i64 y196.2)), (12, (.int .i64 0)), (13, (.int .i64 2)), (51, (.slice A173 z166.length c174)), (52, (.int .i64 (z166.length : Int))), (53, (.int .i64 (i177 : Int)))] ⟨rfl, rfl, rfl, rfl, rfl, rfl, rfl, rfl, rfl, rfl, trivial⟩ ⟨O220, (0 : Int), (2 : Int), rfl, T202, hO, hS, hF, h⟩
    refine wc_known_true rfl hc222 ?_
    refine wc_region (l := [0, 1, 2, 3, 4]) rfl ?_
    refine wo_seg Θ_ok [0, 1] [(0, v0), (5, v10), (6, (.bool y20)), (10, (.int .i64 y196.1)), (11, (.int .i64 y196.2)), (51, (.slice A173 z166.length c174)), (52, (.int .i64 (z166.length : Int))), (53, (.int .i64 (i177 : Int))), (72, v10), (73, (.int .i64 z179))] rfl ⟨rfl, rfl, rfl, rfl, rfl, rfl, rfl, rfl, rfl, rfl, trivial⟩ ?_
    obtain ⟨y227, hy228, h⟩ := bind_some h
    refine wo_gives rfl rfl rfl rfl rfl ent31 rfl (r_Seam_c hO h12 (int_is.2 rfl) hy228) (fun v223 w224 h225 f226 => ?_)
    have h0 := h0.tr f226.tr0
    have h12 := h12.tr f226.tr0
    have h172g := h172g.tr f226.tr0
    have T31 := T31.trans f226.tr0
    have T176 := T176.trans f226.tr0
    have T202 := T202.trans f226.tr0
    have hO := f226.ob hO
    have hF := hF.trans f226
    obtain rfl := int_is.1 h225
    refine wo_seg Θ_ok [3, 4] [(0, v0), (5, v10), (6, (.bool y20)), (10, (.int .i64 y196.1)), (11, (.int .i64 y196.2)), (12, (.int .i64 y227)), (13, (.int .i64 0)), (51, (.slice A173 z166.length c174)), (52, (.int .i64 (z166.length : Int))), (53, (.int .i64 (i177 : Int)))] rfl ⟨rfl, rfl, rfl, rfl, rfl, rfl, rfl, rfl, rfl, rfl, trivial⟩ ?_
    refine wo_nil ?_
    exact wq_join hK206 [(0, v0), (5, v10), (6, (.bool y20)), (10, (.int .i64 y196.1)), (11, (.int .i64 y196.2)), (12, (.int .i64 y227)), (13, (.int .i64 0)), (51, (.slice A173 z166.length c174)), (52, (.int .i64 (z166.length : Int))), (53, (.int .i64 (i177 : Int)))] ⟨rfl, rfl, rfl, rfl, rfl, rfl, rfl, rfl, rfl, rfl, trivial⟩ ⟨O220, y227, (0 : Int), rfl, T202, hO, hS, hF, h⟩
  rintro E w37 ⟨O36, rfl, T31, hO, hS, hF, h⟩
  have h0 := h0.tr T31
  have h12 := h12.tr T31
  subst hk33
  (try dsimp only at h)
  refine wc_seq ?_
  refine wc_region (l := [0, 1, 2, 3, 4, 5, 6]) rfl ?_
  refine wo_seg Θ_ok [0] [(0, v0), (5, v10), (6, (.bool y20)), (85, v10)] rfl ⟨rfl, rfl, rfl, rfl, trivial⟩ ?_
  obtain ⟨y42, hy43, h⟩ := bind_some h
  have h0_K44 := h0
  have h12_K44 := h12
  have hF_K44 := hF
  have hO_K44 := hO
  have TTK44 := Tr.refl O36 w37
  refine wo_gives rfl rfl rfl rfl rfl ent32 rfl (b_Expand_n (ob_range _) (h12.tr (Tr.less (sub_nil _))) hy43) (fun v38 w39 h40 f41 => ?_)
  have h0 := h0.tr f41.tr0
  have h12 := h12.tr f41.tr0
  have TTK44 := TTK44.trans f41.tr0
  have hO := f41.ob hO
  have hF := hF.trans f41
  obtain ⟨u45, u47, rfl, h46, h48⟩ := h40
  obtain rfl := int_is.1 h48
  have FFK44 := Fr.refl [] w39
  have TLK44 := TL.refl hO_K44 w39
  have h46N := h46
  have h46M := h46
  have h46 := h46.tr (Tr.less (sub_range hO_K44))
  refine wo_seg Θ_ok [2, 3, 4, 5, 6] [(0, v0), (5, v10), (6, (.bool y20)), (14, u45), (15, (.int .i64 y42.2))] rfl ⟨rfl, rfl, rfl, rfl, rfl, trivial⟩ ?_
  refine wo_nil ?_
  refine wq_seq ?_
  refine wc_seq ?_
  refine wc_region (l := [0, 1, 2, 3, 4, 5, 6]) rfl ?_
  refine wo_seg Θ_ok [0] [(0, v0), (5, v10), (6, (.bool y20)), (14, u45), (15, (.int .i64 y42.2)), (90, v10)] rfl ⟨rfl, rfl, rfl, rfl, rfl, rfl, trivial⟩ ?_
  obtain ⟨y53, hy54, h⟩ := bind_some h
  have h0_K55 := h0
  have h12_K55 := h12
  have h46_K55 := h46
  have TTK44_K55 := TTK44
  have TLK44_K55 := TLK44
  have FFK44_K55 := FFK44
  have hF_K55 := hF
  have hO_K55 := hO
  have TTK55 := Tr.refl O36 w39
  refine wo_gives rfl rfl rfl rfl rfl ent33 rfl (b_Shrink_n (ob_range _) (h12.tr (Tr.less (sub_nil _))) hy54) (fun v49 w50 h51 f52 => ?_)
  have h0 := h0.tr f52.tr0
  have h12 := h12.tr f52.tr0
  have h46 := h46.tr f52.tr0
  have TTK44 := TTK44.trans f52.tr0
  have TLK44 := TLK44.trans f52.tr0
  have TTK55 := TTK55.trans f52.tr0
  have FFK44 := FFK44.trans f52
  have hO := f52.ob hO
  have hF := hF.trans f52
  obtain ⟨u56, u58, rfl, h57, h59⟩ := h51
  obtain rfl := int_is.1 h59
  have FFK55 := Fr.refl [] w50
  have TLK55 := TL.refl hO_K55 w50
  have h57N := h57
  have h57M := h57
  have h57 := h57.tr (Tr.less (sub_range hO_K55))
  refine wo_seg Θ_ok [2, 3, 4, 5, 6] [(0, v0), (5, v10), (6, (.bool y20)), (14, u45), (15, (.int .i64 y42.2)), (16, u56), (17, (.int .i64 y53.2))] rfl ⟨rfl, rfl, rfl, rfl, rfl, rfl, rfl, trivial⟩ ?_
  refine wo_nil ?_
  refine wq_seq ?_
  refine wc_seq ?_
  refine wc_region (l := [0, 1]) rfl ?_
  refine wo_seg Θ_ok [0, 1] [(0, v0), (5, v10), (6, (.bool y20)), (14, u45), (15, (.int .i64 y42.2)), (16, u56), (17, (.int .i64 y53.2)), (18, (.slice none 0 0)), (19, (.slice none 0 0))] rfl ⟨rfl, rfl, rfl, rfl, rfl, rfl, rfl, rfl, rfl, trivial⟩ ?_
  refine wo_nil ?_
  refine wq_seq ?_
  refine wc_seq ?_
  refine wc_region (l := [0, 1]) rfl ?_
  refine wo_seg Θ_ok [0, 1] [(0, v0), (5, v10), (6, (.bool y20)), (14, u45), (15, (.int .i64 y42.2)), (16, u56), (17, (.int .i64 y53.2)), (18, (.slice none 0 0)), (19, (.slice none 0 0)), (20, (.int .i64 280)), (21, (.int .i64 280))] rfl ⟨rfl, rfl, rfl, rfl, rfl, rfl, rfl, rfl, rfl, rfl, rfl, trivial⟩ ?_
  refine wo_nil ?_
  refine wq_seq ?_
  obtain ⟨k61, hk62, h⟩ := letk_some h
  refine wc_join (fun E W => ∃ (O73 : List Nat) (p65 : List (List Int)) (p68 : List (List Int)) (p71 : Int) (p72 : Int) (v66 : Value) (v69 : Value), E = [(0, v0), (5, v10), (14, u45), (15, (.int .i64 y42.2)), (16, u56), (17, (.int .i64 y53.2)), (18, v66), (19, v69), (20, (.int .i64 p71)), (21, (.int .i64 p72))] ∧ Tr O36 w50 O73 W ∧ OB O73 W ∧ Sub O O73 ∧ Fr [] w W ∧ Fr [] w39 W ∧ Fr [] w50 W ∧ (Ty.slice (Ty.slice (Ty.int .u64))).is O73 W v66 p65 ∧ (Ty.slice (Ty.slice (Ty.int .u64))).is O73 W v69 p68 ∧ k61 p65 p68 p71 p72 = some r) ?_ (fun K63 hK64 => ?_)
  rotate_left
  · clear hk62
    have T60 := Tr.refl O36 w50
    refine wc_seq ?_
    refine wc_region (l := [0]) rfl ?_
    refine wo_seg Θ_ok [0] [(0, v0), (5, v10), (14, u45), (15, (.int .i64 y42.2)), (16, u56), (17, (.int .i64 y53.2)), (18, (.slice none 0 0)), (19, (.slice none 0 0)), (20, (.int .i64 280)), (21, (.int .i64 280)), (94, (.bool y20))] rfl ⟨rfl, rfl, rfl, rfl, rfl, rfl, rfl, rfl, rfl, rfl, rfl, trivial⟩ ?_
    refine wo_nil ?_
    refine wq_seq ?_
    rcases bif_some h with ⟨hc107, h⟩ | ⟨hc107, h⟩
    rotate_left
    · refine wc_known_false rfl hc107 ?_
      refine wc_skip ?_
      exact wq_join hK64 [(0, v0), (5, v10), (14, u45), (15, (.int .i64 y42.2)), (16, u56), (17, (.int .i64 y53.2)), (18, (.slice none 0 0)), (19, (.slice none 0 0)), (20, (.int .i64 280)), (21, (.int .i64 280))] ⟨rfl, rfl, rfl, rfl, rfl, rfl, rfl, rfl, rfl, rfl, trivial⟩ ⟨O36, ([] : List (List Int)), ([] : List (List Int)), (280 : Int), (280 : Int), (.slice none 0 0), (.slice none 0 0), rfl, T60, hO, hS, hF, FFK44, FFK55, (slice_nil _ _ _), (slice_nil _ _ _), h⟩
    refine wc_known_true rfl hc107 ?_
    refine wc_seq ?_
    refine wc_region (l := [0, 1]) rfl ?_
    refine wo_seg Θ_ok [0, 1] [(0, v0), (5, v10), (14, u45), (15, (.int .i64 y42.2)), (16, u56), (17, (.int .i64 y53.2)), (18, (.slice none 0 0)), (19, (.slice none 0 0)), (20, (.int .i64 6)), (21, (.int .i64 2))] rfl ⟨rfl, rfl, rfl, rfl, rfl, rfl, rfl, rfl, rfl, rfl, trivial⟩ ?_
    refine wo_nil ?_
    refine wq_seq ?_
    obtain ⟨k109, hk110, h⟩ := letk_some h
    refine wc_join (fun E W => ∃ (O117 : List Nat) (p113 : List (List Int)) (p116 : Int) (v114 : Value), E = [(0, v0), (5, v10), (14, u45), (15, (.int .i64 y42.2)), (16, u56), (17, (.int .i64 y53.2)), (18, v114), (19, (.slice none 0 0)), (20, (.int .i64 p116)), (21, (.int .i64 2))] ∧ Tr O36 w50 O117 W ∧ OB O117 W ∧ Sub O O117 ∧ Fr [] w W ∧ Fr [] w39 W ∧ Fr [] w50 W ∧ (Ty.slice (Ty.slice (Ty.int .u64))).is O117 W v114 p113 ∧ k109 p113 p116 = some r) ?_ (fun K111 hK112 => ?_)
    rotate_left
    · clear hk110
      have T108 := Tr.refl O36 w50
      refine wc_seq ?_
      refine wc_region (l := [0, 1, 2]) rfl ?_
      refine wo_seg Θ_ok [0] [(0, v0), (5, v10), (14, u45), (15, (.int .i64 y42.2)), (16, u56), (17, (.int .i64 y53.2)), (18, (.slice none 0 0)), (19, (.slice none 0 0)), (20, (.int .i64 6)), (21, (.int .i64 2)), (95, v10)] rfl ⟨rfl, rfl, rfl, rfl, rfl, rfl, rfl, rfl, rfl, rfl, rfl, trivial⟩ ?_
      obtain ⟨y138, hy139, h⟩ := bind_some h
      refine wo_gives rfl rfl rfl rfl rfl ent34 rfl (r_Keys_c hO h12 hy139) (fun v134 w135 h136 f137 => ?_)
      have h0 := h0.tr f137.tr0
      have h12 := h12.tr f137.tr0
      have h46 := h46.tr f137.tr0
      have h57 := h57.tr f137.tr0
      have TTK44 := TTK44.trans f137.tr0
      have TLK44 := TLK44.trans f137.tr0
      have TTK55 := TTK55.trans f137.tr0
      have TLK55 := TLK55.trans f137.tr0
      have T60 := T60.trans f137.tr0
      have T108 := T108.trans f137.tr0
      have FFK44 := FFK44.trans f137
      have FFK55 := FFK55.trans f137
      have hO := f137.ob hO
      have hF := hF.trans f137
      refine wo_seg Θ_ok [2] [(0, v0), (5, v10), (14, u45), (15, (.int .i64 y42.2)), (16, u56), (17, (.int .i64 y53.2)), (18, (.slice none 0 0)), (19, (.slice none 0 0)), (20, (.int .i64 6)), (21, (.int .i64 2)), (22, v134)] rfl ⟨rfl, rfl, rfl, rfl, rfl, rfl, rfl, rfl, rfl, rfl, rfl, trivial⟩ ?_
      refine wo_nil ?_
      refine wq_seq ?_
      refine wc_seq ?_
      refine wc_region (l := [0, 1, 2]) rfl ?_
      refine wo_seg Θ_ok [0] [(0, v0), (5, v10), (14, u45), (15, (.int .i64 y42.2)), (16, u56), (17, (.int .i64 y53.2)), (18, (.slice none 0 0)), (19, (.slice none 0 0)), (20, (.int .i64 6)), (21, (.int .i64 2)), (22, v134), (97, v10)] rfl ⟨rfl, rfl, rfl, rfl, rfl, rfl, rfl, rfl, rfl, rfl, rfl, rfl, trivial⟩ ?_
      obtain ⟨A140, c141, rfl, hlc141, hmc141⟩ := slice_form h12
      refine wo_seg Θ_ok [1] [(0, v0), (5, (.slice A140 y14.length c141)), (14, u45), (15, (.int .i64 y42.2)), (16, u56), (17, (.int .i64 y53.2)), (18, (.slice none 0 0)), (19, (.slice none 0 0)), (20, (.int .i64 6)), (21, (.int .i64 2)), (22, v134), (98, (.int .i64 (y14.length : Int)))] rfl ⟨rfl, rfl, rfl, rfl, rfl, rfl, rfl, rfl, rfl, rfl, rfl, rfl, trivial⟩ ?_
      refine wo_seg Θ_ok [2] [(0, v0), (5, (.slice A140 y14.length c141)), (14, u45), (15, (.int .i64 y42.2)), (16, u56), (17, (.int .i64 y53.2)), (18, (.slice none 0 0)), (19, (.slice none 0 0)), (20, (.int .i64 6)), (21, (.int .i64 2)), (22, v134), (99, (.bool (decide ((y14.length : Int) < (16 : Int)))))] rfl ⟨rfl, rfl, rfl, rfl, rfl, rfl, rfl, rfl, rfl, rfl, rfl, rfl, trivial⟩ ?_
      refine wo_nil ?_
      refine wq_seq ?_
      rcases bif_some h with ⟨hc142, h⟩ | ⟨hc142, h⟩
      rotate_left
      · refine wc_known_false rfl hc142 ?_
        refine wc_skip ?_
        exact wq_join hK112 [(0, v0), (5, (.slice A140 y14.length c141)), (14, u45), (15, (.int .i64 y42.2)), (16, u56), (17, (.int .i64 y53.2)), (18, (.slice none 0 0)), (19, (.slice none 0 0)), (20, (.int .i64 6)), (21, (.int .i64 2))] ⟨rfl, rfl, rfl, rfl, rfl, rfl, rfl, rfl, rfl, rfl, trivial⟩ ⟨O36, ([] : List (List Int)), (6 : Int), (.slice none 0 0), rfl, T108, hO, hS, hF, FFK44, FFK55, (slice_nil _ _ _), h⟩
      refine wc_known_true rfl hc142 ?_
      refine wc_region (l := [0, 1, 2, 3, 4, 5, 6]) rfl ?_
      refine wo_seg Θ_ok [0, 1, 2, 3] [(0, v0), (5, (.slice A140 y14.length c141)), (14, u45), (15, (.int .i64 y42.2)), (16, u56), (17, (.int .i64 y53.2)), (19, (.slice none 0 0)), (21, (.int .i64 2)), (102, (.int .i64 (IntKind.i64.wrap ((2 : Int) * (y14.length : Int))))), (103, v134)] rfl ⟨rfl, rfl, rfl, rfl, rfl, rfl, rfl, rfl, rfl, rfl, trivial⟩ ?_
      obtain ⟨y147, hy148, h⟩ := bind_some h
      refine wo_gives rfl rfl rfl rfl rfl ent23 rfl (r_Spread_c hO (int_is.2 rfl) h136 hy148) (fun v143 w144 h145 f146 => ?_)
      have h0 := h0.tr f146.tr0
      have h12 := h12.tr f146.tr0
      have h46 := h46.tr f146.tr0
      have h57 := h57.tr f146.tr0
      have TTK44 := TTK44.trans f146.tr0
      have TLK44 := TLK44.trans f146.tr0
      have TTK55 := TTK55.trans f146.tr0
      have TLK55 := TLK55.trans f146.tr0
      have T60 := T60.trans f146.tr0
      have T108 := T108.trans f146.tr0
      have FFK44 := FFK44.trans f146
      have FFK55 := FFK55.trans f146
      have hO := f146.ob hO
      have hF := hF.trans f146
      refine wo_seg Θ_ok [5, 6] [(0, v0), (5, (.slice A140 y14.length c141)), (14, u45), (15, (.int .i64 y42.2)), (16, u56), (17, (.int .i64 y53.2)), (18, v143), (19, (.slice none 0 0)), (20, (.int .i64 0)), (21, (.int .i64 2))] rfl ⟨rfl, rfl, rfl, rfl, rfl, rfl, rfl, rfl, rfl, rfl, trivial⟩ ?_
      refine wo_nil ?_
      exact wq_join hK112 [(0, v0), (5, (.slice A140 y14.length c141)), (14, u45), (15, (.int .i64 y42.2)), (16, u56), (17, (.int .i64 y53.2)), (18, v143), (19, (.slice none 0 0)), (20, (.int .i64 0)), (21, (.int .i64 2))] ⟨rfl, rfl, rfl, rfl, rfl, rfl, rfl, rfl, rfl, rfl, trivial⟩ ⟨O36, y147, (0 : Int), v143, rfl, T108, hO, hS, hF, FFK44, FFK55, h145, h⟩
    rintro E w118 ⟨O117, p113, p116, v114, rfl, T108, hO, hS, hF, FFK44, FFK55, h115, h⟩
    have TTK44 := TTK44.trans T108
    have TLK44 := TLK44.trans T108
    have TTK55 := TTK55.trans T108
    have TLK55 := TLK55.trans T108
    have T60 := T60.trans T108
    have h0 := h0.tr T108
    have h12 := h12.tr T108
    have h46 := h46.tr T108
    have h57 := h57.tr T108
    subst hk110
    (try dsimp only at h)
    refine wc_seq ?_
    refine wc_region (l := [0, 1, 2]) rfl ?_
    refine wo_seg Θ_ok [0] [(0, v0), (5, v10), (14, u45), (15, (.int .i64 y42.2)), (16, u56), (17, (.int .i64 y53.2)), (18, v114), (19, (.slice none 0 0)), (20, (.int .i64 p116)), (21, (.int .i64 2)), (105, v10)] rfl ⟨rfl, rfl, rfl, rfl, rfl, rfl, rfl, rfl, rfl, rfl, rfl, trivial⟩ ?_
    obtain ⟨y123, hy124, h⟩ := bind_some h
    refine wo_gives rfl rfl rfl rfl rfl ent34 rfl (r_Keys_c hO h12 hy124) (fun v119 w120 h121 f122 => ?_)
    have h0 := h0.tr f122.tr0
    have h12 := h12.tr f122.tr0
    have h46 := h46.tr f122.tr0
    have h57 := h57.tr f122.tr0
    have h115 := h115.tr f122.tr0
    have TTK44 := TTK44.trans f122.tr0
    have TLK44 := TLK44.trans f122.tr0
    have TTK55 := TTK55.trans f122.tr0
    have TLK55 := TLK55.trans f122.tr0
    have T60 := T60.trans f122.tr0
    have FFK44 := FFK44.trans f122
    have FFK55 := FFK55.trans f122
    have hO := f122.ob hO
    have hF := hF.trans f122
    refine wo_seg Θ_ok [2] [(0, v0), (5, v10), (14, u45), (15, (.int .i64 y42.2)), (16, u56), (17, (.int .i64 y53.2)), (18, v114), (19, (.slice none 0 0)), (20, (.int .i64 p116)), (21, (.int .i64 2)), (23, v119)] rfl ⟨rfl, rfl, rfl, rfl, rfl, rfl, rfl, rfl, rfl, rfl, rfl, trivial⟩ ?_
    refine wo_nil ?_
    refine wq_seq ?_
    refine wc_seq ?_
    refine wc_region (l := [0, 1, 2]) rfl ?_
    refine wo_seg Θ_ok [0] [(0, v0), (5, v10), (14, u45), (15, (.int .i64 y42.2)), (16, u56), (17, (.int .i64 y53.2)), (18, v114), (19, (.slice none 0 0)), (20, (.int .i64 p116)), (21, (.int .i64 2)), (23, v119), (107, v10)] rfl ⟨rfl, rfl, rfl, rfl, rfl, rfl, rfl, rfl, rfl, rfl, rfl, rfl, trivial⟩ ?_
    obtain ⟨A125, c126, rfl, hlc126, hmc126⟩ := slice_form h12
    refine wo_seg Θ_ok [1] [(0, v0), (5, (.slice A125 y14.length c126)), (14, u45), (15, (.int .i64 y42.2)), (16, u56), (17, (.int .i64 y53.2)), (18, v114), (19, (.slice none 0 0)), (20, (.int .i64 p116)), (21, (.int .i64 2)), (23, v119), (108, (.int .i64 (y14.length : Int)))] rfl ⟨rfl, rfl, rfl, rfl, rfl, rfl, rfl, rfl, rfl, rfl, rfl, rfl, trivial⟩ ?_
    refine wo_seg Θ_ok [2] [(0, v0), (5, (.slice A125 y14.length c126)), (14, u45), (15, (.int .i64 y42.2)), (16, u56), (17, (.int .i64 y53.2)), (18, v114), (19, (.slice none 0 0)), (20, (.int .i64 p116)), (21, (.int .i64 2)), (23, v119), (109, (.bool (decide ((y14.length : Int) > (4 : Int)))))] rfl ⟨rfl, rfl, rfl, rfl, rfl, rfl, rfl, rfl, rfl, rfl, rfl, rfl, trivial⟩ ?_
    refine wo_nil ?_
    refine wq_seq ?_
    rcases bif_some h with ⟨hc127, h⟩ | ⟨hc127, h⟩
    rotate_left
    · refine wc_known_false rfl hc127 ?_
      refine wc_skip ?_
      exact wq_join hK64 [(0, v0), (5, (.slice A125 y14.length c126)), (14, u45), (15, (.int .i64 y42.2)), (16, u56), (17, (.int .i64 y53.2)), (18, v114), (19, (.slice none 0 0)), (20, (.int .i64 p116)), (21, (.int .i64 2))] ⟨rfl, rfl, rfl, rfl, rfl, rfl, rfl, rfl, rfl, rfl, trivial⟩ ⟨O117, p113, ([] : List (List Int)), p116, (2 : Int), v114, (.slice none 0 0), rfl, T60, hO, hS, hF, FFK44, FFK55, h115, (slice_nil _ _ _), h⟩
    refine wc_known_true rfl hc127 ?_
    refine wc_region (l := [0, 1, 2, 3, 4, 5, 6]) rfl ?_
    refine wo_seg Θ_ok [0, 1, 2, 3] [(0, v0), (5, (.slice A125 y14.length c126)), (14, u45), (15, (.int .i64 y42.2)), (16, u56), (17, (.int .i64 y53.2)), (18, v114), (20, (.int .i64 p116)), (112, (.int .i64 (IntKind.i64.wrap ((y14.length : Int).tdiv (2 : Int))))), (113, v119)] rfl ⟨rfl, rfl, rfl, rfl, rfl, rfl, rfl, rfl, rfl, rfl, trivial⟩ ?_
    obtain ⟨y132, hy133, h⟩ := bind_some h
    refine wo_gives rfl rfl rfl rfl rfl ent23 rfl (r_Spread_c hO (int_is.2 rfl) h121 hy133) (fun v128 w129 h130 f131 => ?_)
    have h0 := h0.tr f131.tr0
    have h12 := h12.tr f131.tr0
    have h46 := h46.tr f131.tr0
    have h57 := h57.tr f131.tr0
    have h115 := h115.tr f131.tr0
    have TTK44 := TTK44.trans f131.tr0
    have TLK44 := TLK44.trans f131.tr0
    have TTK55 := TTK55.trans f131.tr0
    have TLK55 := TLK55.trans f131.tr0
    have T60 := T60.trans f131.tr0
    have FFK44 := FFK44.trans f131
    have FFK55 := FFK55.trans f131
    have hO := f131.ob hO
    have hF := hF.trans f131
    refine wo_seg Θ_ok [5, 6] [(0, v0), (5, (.slice A125 y14.length c126)), (14, u45), (15, (.int .i64 y42.2)), (16, u56), (17, (.int .i64 y53.2)), (18, v114), (19, v128), (20, (.int .i64 p116)), (21, (.int .i64 0))] rfl ⟨rfl, rfl, rfl, rfl, rfl, rfl, rfl, rfl, rfl, rfl, trivial⟩ ?_
    refine wo_nil ?_
    exact wq_join hK64 [(0, v0), (5, (.slice A125 y14.length c126)), (14, u45), (15, (.int .i64 y42.2)), (16, u56), (17, (.int .i64 y53.2)), (18, v114), (19, v128), (20, (.int .i64 p116)), (21, (.int .i64 0))] ⟨rfl, rfl, rfl, rfl, rfl, rfl, rfl, rfl, rfl, rfl, trivial⟩ ⟨O117, p113, y132, p116, (0 : Int), v114, v128, rfl, T60, hO, hS, hF, FFK44, FFK55, h115, h130, h⟩
  rintro E w74 ⟨O73, p65, p68, p71, p72, v66, v69, rfl, T60, hO, hS, hF, FFK44, FFK55, h67, h70, h⟩
  have TTK44 := TTK44.trans T60
  have TLK44 := TLK44.trans T60
  have TTK55 := TTK55.trans T60
  have TLK55 := TLK55.trans T60
  have h0 := h0.tr T60
  have h12 := h12.tr T60
  have h46 := h46.tr T60
  have h57 := h57.tr T60
  subst hk62
  (try dsimp only at h)
  refine wc_seq ?_
  refine wc_seq ?_
  refine wc_region (l := [0, 1, 2, 3, 4, 5, 6, 7, 8, 9, 10, 11, 12, 13, 14, 15, 16, 17, 18, 19]) rfl ?_
  refine wo_seg Θ_ok [0, 1, 2, 3] [(0, v0), (5, v10), (14, u45), (16, u56), (17, (.int .i64 y53.2)), (18, v66), (19, v69), (21, (.int .i64 p72)), (118, (.bool (y42.2 != p71)))] rfl ⟨rfl, rfl, rfl, rfl, rfl, rfl, rfl, rfl, rfl, trivial⟩ ?_
  rcases bif_some h with ⟨hc75, h⟩ | ⟨hc75, h⟩
  · refine wo_know 118 true rfl hc75 ?_
    refine wo_seg Θ_ok [4, 5, 6, 7, 8, 9, 10, 11, 12, 13, 14, 15, 16, 17, 18, 19] [(0, v0), (5, v10), (14, u45), (16, u56), (134, (.bool true))] rfl ⟨rfl, rfl, rfl, rfl, rfl, trivial⟩ ?_
    refine wo_nil ?_
    refine wq_seq ?_
    refine wc_true rfl ?_
    refine wc_seq ?_
    refine wc_region (l := [0]) rfl ?_
    refine wo_seg Θ_ok [0] [(4, (.bool false))] rfl ⟨rfl, trivial⟩ ?_
    refine wo_nil ?_
    refine wq_seq ?_
    refine wc_ret ?_
    cases h
    exact wq_then_ret (wq_ret rfl ⟨_, rfl, (bool_is.2 rfl), hF⟩)
  refine wo_know 118 false rfl hc75 ?_
  refine wo_seg Θ_ok [4, 5, 6, 7, 8] [(0, v0), (5, v10), (14, u45), (16, u56), (18, v66), (19, v69), (123, (.bool (y53.2 != p72)))] rfl ⟨rfl, rfl, rfl, rfl, rfl, rfl, rfl, trivial⟩ ?_
  rcases bif_some h with ⟨hc76, h⟩ | ⟨hc76, h⟩
  · refine wo_know 123 true rfl hc76 ?_
    refine wo_seg Θ_ok [9, 10, 11, 12, 13, 14, 15, 16, 17, 18, 19] [(0, v0), (5, v10), (14, u45), (16, u56), (134, (.bool true))] rfl ⟨rfl, rfl, rfl, rfl, rfl, trivial⟩ ?_
    refine wo_nil ?_
    refine wq_seq ?_
    refine wc_true rfl ?_
    refine wc_seq ?_
    refine wc_region (l := [0]) rfl ?_
    refine wo_seg Θ_ok [0] [(4, (.bool false))] rfl ⟨rfl, trivial⟩ ?_
    refine wo_nil ?_
    refine wq_seq ?_
    refine wc_ret ?_
    cases h
    exact wq_then_ret (wq_ret rfl ⟨_, rfl, (bool_is.2 rfl), hF⟩)
  refine wo_know 123 false rfl hc76 ?_
  refine wo_seg Θ_ok [9, 10] [(0, v0), (5, v10), (14, u45), (16, u56), (19, v69), (123, (.bool false)), (124, u45), (125, v66)] rfl ⟨rfl, rfl, rfl, rfl, rfl, rfl, rfl, rfl, trivial⟩ ?_
  obtain ⟨y81, hy82, h⟩ := bind_some h
  refine wo_gives rfl rfl rfl rfl rfl ent22 rfl (same_c hO h46 h67 hy82) (fun v77 w78 h79 f80 => ?_)
  have h0 := h0.tr f80.tr0
  have h12 := h12.tr f80.tr0
  have h46 := h46.tr f80.tr0
  have h57 := h57.tr f80.tr0
  have h70 := h70.tr f80.tr0
  have TTK44 := TTK44.trans f80.tr0
  have TLK44 := TLK44.trans f80.tr0
  have TTK55 := TTK55.trans f80.tr0
  have TLK55 := TLK55.trans f80.tr0
  have FFK44 := FFK44.trans f80
  have FFK55 := FFK55.trans f80
  have hO := f80.ob hO
  have hF := hF.trans f80
  obtain rfl := bool_is.1 h79
  refine wo_seg Θ_ok [12, 13, 14] [(0, v0), (5, v10), (14, u45), (16, u56), (19, v69), (129, (.bool (!y81)))] rfl ⟨rfl, rfl, rfl, rfl, rfl, rfl, trivial⟩ ?_
  rcases bif_some h with ⟨hc83, h⟩ | ⟨hc83, h⟩
  · refine wo_know 129 true rfl hc83 ?_
    refine wo_seg Θ_ok [15, 16, 17, 18, 19] [(0, v0), (5, v10), (14, u45), (16, u56), (134, (.bool true))] rfl ⟨rfl, rfl, rfl, rfl, rfl, trivial⟩ ?_
    refine wo_nil ?_
    refine wq_seq ?_
    refine wc_true rfl ?_
    refine wc_seq ?_
    refine wc_region (l := [0]) rfl ?_
    refine wo_seg Θ_ok [0] [(4, (.bool false))] rfl ⟨rfl, trivial⟩ ?_
    refine wo_nil ?_
    refine wq_seq ?_
    refine wc_ret ?_
    cases h
    exact wq_then_ret (wq_ret rfl ⟨_, rfl, (bool_is.2 rfl), hF⟩)
  refine wo_know 129 false rfl hc83 ?_
  refine wo_seg Θ_ok [15, 16] [(0, v0), (5, v10), (14, u45), (16, u56), (129, (.bool false)), (130, u56), (131, v69)] rfl ⟨rfl, rfl, rfl, rfl, rfl, rfl, rfl, trivial⟩ ?_
  obtain ⟨y88, hy89, h⟩ := bind_some h
  refine wo_gives rfl rfl rfl rfl rfl ent22 rfl (same_c hO h57 h70 hy89) (fun v84 w85 h86 f87 => ?_)
  have h0 := h0.tr f87.tr0
  have h12 := h12.tr f87.tr0
  have h46 := h46.tr f87.tr0
  have h57 := h57.tr f87.tr0
  have TTK44 := TTK44.trans f87.tr0
  have TLK44 := TLK44.trans f87.tr0
  have TTK55 := TTK55.trans f87.tr0
  have TLK55 := TLK55.trans f87.tr0
  have FFK44 := FFK44.trans f87
  have FFK55 := FFK55.trans f87
  have hO := f87.ob hO
  have hF := hF.trans f87
  obtain rfl := bool_is.1 h86
  refine wo_seg Θ_ok [18, 19] [(0, v0), (5, v10), (14, u45), (16, u56), (134, (.bool (!y88)))] rfl ⟨rfl, rfl, rfl, rfl, rfl, trivial⟩ ?_
  refine wo_nil ?_
  refine wq_seq ?_
  rcases bif_some h with ⟨hc90, h⟩ | ⟨hc90, h⟩
  · refine wc_known_true rfl hc90 ?_
    refine wc_seq ?_
    refine wc_region (l := [0]) rfl ?_
    refine wo_seg Θ_ok [0] [(4, (.bool false))] rfl ⟨rfl, trivial⟩ ?_
    refine wo_nil ?_
    refine wq_seq ?_
    refine wc_ret ?_
    cases h
    exact wq_then_ret (wq_ret rfl ⟨_, rfl, (bool_is.2 rfl), hF⟩)
  refine wc_known_false rfl hc90 ?_
  refine wc_skip ?_
  refine wq_seq ?_
  refine wc_seq ?_
  refine wc_region (l := [0, 1]) rfl ?_
  refine wo_seg Θ_ok [0] [(0, v0), (5, v10), (16, u56), (135, u45)] rfl ⟨rfl, rfl, rfl, rfl, trivial⟩ ?_
  refine wo_call rfl rfl rfl rfl rfl ent24 rfl (spoil_s h46N FFK44) (fun _ w92 ⟨he, hC91⟩ => ⟨_, he, ?_⟩)
  have TTK44 := TTK44.chg hC91 (Nat.le_refl _)
  have h0 := h0_K44.tr TTK44
  have h12 := h12_K44.tr TTK44
  have TLK55 := TLK55.chg hC91 FFK44_K55.size
  have h57N := Ty.is.late (h57N.tr FFK55.tr0) hC91 FFK44_K55.size
  have h57 := TLK55.data h57M
  have FFK55 := Fr.refl [] w92
  have hF := hC91.fr hF hF_K44.size
  have hO := hO.chg hC91
  refine wo_nil ?_
  refine wq_seq ?_
  refine wc_seq ?_
  refine wc_region (l := [0, 1]) rfl ?_
  refine wo_seg Θ_ok [0] [(0, v0), (5, v10), (137, u56)] rfl ⟨rfl, rfl, rfl, trivial⟩ ?_
  refine wo_call rfl rfl rfl rfl rfl ent24 rfl (spoil_s h57N FFK55) (fun _ w94 ⟨he, hC93⟩ => ⟨_, he, ?_⟩)
  have TTK44 := TTK44.chg hC93 (TTK44_K55.size)
  have h0 := h0_K44.tr TTK44
  have h12 := h12_K44.tr TTK44
  have hF := hC93.fr hF hF_K55.size
  have hO := hO.chg hC93
  refine wo_nil ?_
  refine wq_seq ?_
  refine wc_seq ?_
  refine wc_region (l := [0, 1, 2, 3, 4]) rfl ?_
  refine wo_seg Θ_ok [0, 1] [(139, v10), (140, v0)] rfl ⟨rfl, rfl, trivial⟩ ?_
  obtain ⟨y99, hy100, h⟩ := bind_some h
  refine wo_gives rfl rfl rfl rfl rfl ent26 rfl (own_c hO h0 hy100) (fun v95 w96 h97 f98 => ?_)
  have h12 := h12.tr f98.tr0
  have TTK44 := TTK44.trans f98.tr0
  have hO := f98.ob hO
  have hF := hF.trans f98
  obtain ⟨y105, hy106, h⟩ := bind_some h
  refine wo_gives rfl rfl rfl rfl rfl ent22 rfl (same_c hO h12 h97 hy106) (fun v101 w102 h103 f104 => ?_)
  have TTK44 := TTK44.trans f104.tr0
  have hO := f104.ob hO
  have hF := hF.trans f104
  obtain rfl := bool_is.1 h103
  refine wo_seg Θ_ok [4] [(4, (.bool y105))] rfl ⟨rfl, trivial⟩ ?_
  refine wo_nil ?_
  refine wq_seq ?_
  refine wc_ret ?_
  cases h
  exact wq_ret rfl ⟨_, rfl, (bool_is.2 rfl), hF⟩
end Go.Proofs.Ytdemjanelbajlaa
