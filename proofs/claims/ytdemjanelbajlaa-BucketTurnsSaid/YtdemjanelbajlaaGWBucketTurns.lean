/-
  The program's functions compute the plain ones (printed by a tool of the prover's).
-/
import Derived.Test.YtdemjanelbajlaaGWalk4
namespace Go.Proofs.Ytdemjanelbajlaa
open Go.RowKit Go.Dc Go.Shelf
set_option maxRecDepth 100000 in
set_option maxHeartbeats 4000000 in
theorem l_Turns_c {O : List Nat} {w : World} (hO : OB O w) {fuel : Nat} {v0 : Value} {x0 : List (List Int)} (h0 : (Ty.slice (Ty.slice (Ty.int .u64))).is O w v0 x0) {r : Bool} (h : l_Turns fuel x0 = some r) : Calls Try.prog 8 #[v0] w (Gives (rt1 Ty.bool) O w r) := by
  have hF := Fr.refl [] w
  have hO0 := hO
  have hS := Sub.refl O
  refine calls_of (args := [v0]) (N := 111) Try.func8 rfl rfl rfl ?_
  unfold l_Turns at h
  refine wc_seq ?_
  refine wc_region (l := [0]) rfl ?_
  refine wo_seg Θ_ok [0] [(0, v0)] rfl ⟨rfl, trivial⟩ ?_
  refine wo_nil ?_
  refine wq_seq ?_
  refine wc_seq ?_
  refine wc_seq ?_
  refine wc_region (l := [0, 1]) rfl ?_
  obtain ⟨y6, hy7, h⟩ := bind_some h
  refine wo_gives rfl rfl rfl rfl rfl ent10 rfl (r_wakes_c hO hy7) (fun v2 w3 h4 f5 => ?_)
  have h0 := h0.tr f5.tr0
  have hO := f5.ob hO
  have hF := hF.trans f5
  obtain rfl := bool_is.1 h4
  refine wo_seg Θ_ok [1] [(0, v0), (13, (.bool (!y6)))] rfl ⟨rfl, rfl, trivial⟩ ?_
  refine wo_nil ?_
  refine wq_seq ?_
  rcases bif_some h with ⟨hc8, h⟩ | ⟨hc8, h⟩
  · refine wc_known_true rfl hc8 ?_
    refine wc_seq ?_
    refine wc_region (l := [0]) rfl ?_
    refine wo_seg Θ_ok [0] [(2, (.bool false))] rfl ⟨rfl, trivial⟩ ?_
    refine wo_nil ?_
    refine wq_seq ?_
    refine wc_ret ?_
    cases h
    exact wq_then_ret (wq_ret rfl ⟨_, rfl, (bool_is.2 rfl), hF⟩)
  refine wc_known_false rfl hc8 ?_
  refine wc_skip ?_
  refine wq_seq ?_
  refine wc_seq ?_
  refine wc_region (l := [0, 1, 2]) rfl ?_
  refine wo_seg Θ_ok [0] [(14, v0)] rfl ⟨rfl, trivial⟩ ?_
  obtain ⟨y13, hy14, h⟩ := bind_some h
  refine wo_gives rfl rfl rfl rfl rfl ent26 rfl (own_c hO h0 hy14) (fun v9 w10 h11 f12 => ?_)
  have hO := f12.ob hO
  have hF := hF.trans f12
  refine wo_seg Θ_ok [2] [(3, v9)] rfl ⟨rfl, trivial⟩ ?_
  refine wo_nil ?_
  refine wq_seq ?_
  refine wc_seq ?_
  refine wc_region (l := [0, 1, 2, 3, 4, 5, 6]) rfl ?_
  refine wo_seg Θ_ok [0] [(3, v9), (17, v9)] rfl ⟨rfl, rfl, trivial⟩ ?_
  obtain ⟨y19, hy20, h⟩ := bind_some h
  refine wo_gives rfl rfl rfl rfl rfl ent32 rfl (b_Expand_c hO h11 hy20) (fun v15 w16 h17 f18 => ?_)
  have h11 := h11.tr f18.tr0
  have hO := f18.ob hO
  have hF := hF.trans f18
  obtain ⟨u21, u23, rfl, h22, h24⟩ := h17
  obtain rfl := int_is.1 h24
  refine wo_seg Θ_ok [2, 3, 4, 5, 6] [(3, v9), (4, u21), (5, (.int .i64 y19.2))] rfl ⟨rfl, rfl, rfl, trivial⟩ ?_
  refine wo_nil ?_
  refine wq_seq ?_
  refine wc_seq ?_
  refine wc_seq ?_
  refine wc_region (l := [0, 1]) rfl ?_
  refine wo_seg Θ_ok [0, 1] [(3, v9), (4, u21), (5, (.int .i64 y19.2)), (22, (.bool (y19.2 != (0 : Int))))] rfl ⟨rfl, rfl, rfl, rfl, trivial⟩ ?_
  refine wo_nil ?_
  refine wq_seq ?_
  rcases bif_some h with ⟨hc25, h⟩ | ⟨hc25, h⟩
  · refine wc_known_true rfl hc25 ?_
    refine wc_seq ?_
    refine wc_region (l := [0, 1, 2, 3, 4, 5, 6, 7, 8, 9, 10, 11]) rfl ?_
    refine wo_seg Θ_ok [0] [(3, v9), (5, (.int .i64 y19.2)), (23, u21)] rfl ⟨rfl, rfl, rfl, trivial⟩ ?_
    obtain ⟨A26, c27, rfl, hlc27, hmc27⟩ := slice_form h22
    refine wo_seg Θ_ok [1] [(3, v9), (5, (.int .i64 y19.2)), (24, (.int .i64 (y19.1.length : Int)))] rfl ⟨rfl, rfl, rfl, trivial⟩ ?_
    refine wo_seg Θ_ok [2, 3] [(3, v9), (5, (.int .i64 y19.2)), (26, (.bool ((y19.1.length : Int) == (0 : Int))))] rfl ⟨rfl, rfl, rfl, trivial⟩ ?_
    rcases bif_some h with ⟨hc28, h⟩ | ⟨hc28, h⟩
    rotate_left
    · refine wo_know 26 false rfl hc28 ?_
      refine wo_seg Θ_ok [4, 5, 6, 7, 8, 9, 10, 11] [(2, (.bool false))] rfl ⟨rfl, trivial⟩ ?_
      refine wo_nil ?_
      refine wq_seq ?_
      refine wc_ret ?_
      cases h
      exact wq_then_ret (wq_ret rfl ⟨_, rfl, (bool_is.2 rfl), hF⟩)
    refine wo_know 26 true rfl hc28 ?_
    refine wo_seg Θ_ok [4, 5, 6] [(26, (.bool true)), (28, (.bool (y19.2 == (6 : Int)))), (29, v9)] rfl ⟨rfl, rfl, rfl, trivial⟩ ?_
    obtain ⟨y33, hy34, h⟩ := bind_some h
    refine wo_gives rfl rfl rfl rfl rfl ent28 rfl (b_Check_c hO h11 hy34) (fun v29 w30 h31 f32 => ?_)
    have hO := f32.ob hO
    have hF := hF.trans f32
    obtain rfl := int_is.1 h31
    refine wo_seg Θ_ok [8, 9, 10, 11] [(2, (.bool ((y19.2 == (6 : Int)) == (y33 == (0 : Int)))))] rfl ⟨rfl, trivial⟩ ?_
    refine wo_nil ?_
    refine wq_seq ?_
    refine wc_ret ?_
    cases h
    exact wq_then_ret (wq_ret rfl ⟨_, rfl, (bool_is.2 rfl), hF⟩)
  refine wc_known_false rfl hc25 ?_
  refine wc_skip ?_
  refine wq_seq ?_
  refine wc_seq ?_
  refine wc_region (l := [0, 1, 2, 3, 4, 5, 6]) rfl ?_
  refine wo_seg Θ_ok [0] [(3, v9), (4, u21), (35, u21)] rfl ⟨rfl, rfl, rfl, trivial⟩ ?_
  obtain ⟨y39, hy40, h⟩ := bind_some h
  refine wo_gives rfl rfl rfl rfl rfl ent33 rfl (b_Shrink_c hO h22 hy40) (fun v35 w36 h37 f38 => ?_)
  have h11 := h11.tr f38.tr0
  have h22 := h22.tr f38.tr0
  have hO := f38.ob hO
  have hF := hF.trans f38
  obtain ⟨u41, u43, rfl, h42, h44⟩ := h37
  obtain rfl := int_is.1 h44
  refine wo_seg Θ_ok [2, 3, 4, 5, 6] [(3, v9), (4, u21), (6, u41), (7, (.int .i64 y39.2))] rfl ⟨rfl, rfl, rfl, rfl, trivial⟩ ?_
  refine wo_nil ?_
  refine wq_seq ?_
  refine wc_seq ?_
  refine wc_seq ?_
  refine wc_region (l := [0, 1, 2, 3, 4, 5, 6, 7, 8, 9, 10, 11, 12, 13, 14, 15, 16, 17, 18, 19, 20]) rfl ?_
  refine wo_seg Θ_ok [0, 1, 2] [(3, v9), (4, u21), (6, u41), (41, (.bool (y39.2 != (0 : Int))))] rfl ⟨rfl, rfl, rfl, rfl, trivial⟩ ?_
  rcases bif_some h with ⟨hc45, h⟩ | ⟨hc45, h⟩
  · refine wo_know 41 true rfl hc45 ?_
    refine wo_seg Θ_ok [3, 4, 5, 6, 7, 8, 9, 10, 11, 12, 13, 14, 15, 16, 17, 18, 19, 20] [(3, v9), (4, u21), (59, (.bool true))] rfl ⟨rfl, rfl, rfl, trivial⟩ ?_
    refine wo_nil ?_
    refine wq_seq ?_
    refine wc_true rfl ?_
    refine wc_seq ?_
    refine wc_region (l := [0]) rfl ?_
    refine wo_seg Θ_ok [0] [(2, (.bool false))] rfl ⟨rfl, trivial⟩ ?_
    refine wo_nil ?_
    refine wq_seq ?_
    refine wc_ret ?_
    cases h
    exact wq_then_ret (wq_ret rfl ⟨_, rfl, (bool_is.2 rfl), hF⟩)
  refine wo_know 41 false rfl hc45 ?_
  refine wo_seg Θ_ok [3, 4] [(3, v9), (4, u21), (41, (.bool false)), (42, u41), (43, v9)] rfl ⟨rfl, rfl, rfl, rfl, rfl, trivial⟩ ?_
  obtain ⟨y50, hy51, h⟩ := bind_some h
  refine wo_gives rfl rfl rfl rfl rfl ent22 rfl (same_c hO h42 h11 hy51) (fun v46 w47 h48 f49 => ?_)
  have h11 := h11.tr f49.tr0
  have h22 := h22.tr f49.tr0
  have hO := f49.ob hO
  have hF := hF.trans f49
  obtain rfl := bool_is.1 h48
  refine wo_seg Θ_ok [6, 7, 8] [(3, v9), (4, u21), (47, (.bool (!y50)))] rfl ⟨rfl, rfl, rfl, trivial⟩ ?_
  rcases bif_some h with ⟨hc52, h⟩ | ⟨hc52, h⟩
  · refine wo_know 47 true rfl hc52 ?_
    refine wo_seg Θ_ok [9, 10, 11, 12, 13, 14, 15, 16, 17, 18, 19, 20] [(3, v9), (4, u21), (59, (.bool true))] rfl ⟨rfl, rfl, rfl, trivial⟩ ?_
    refine wo_nil ?_
    refine wq_seq ?_
    refine wc_true rfl ?_
    refine wc_seq ?_
    refine wc_region (l := [0]) rfl ?_
    refine wo_seg Θ_ok [0] [(2, (.bool false))] rfl ⟨rfl, trivial⟩ ?_
    refine wo_nil ?_
    refine wq_seq ?_
    refine wc_ret ?_
    cases h
    exact wq_then_ret (wq_ret rfl ⟨_, rfl, (bool_is.2 rfl), hF⟩)
  refine wo_know 47 false rfl hc52 ?_
  refine wo_seg Θ_ok [9] [(3, v9), (4, u21), (47, (.bool false)), (48, u21)] rfl ⟨rfl, rfl, rfl, rfl, trivial⟩ ?_
  obtain ⟨y57, hy58, h⟩ := bind_some h
  refine wo_gives rfl rfl rfl rfl rfl ent28 rfl (b_Check_c hO h22 hy58) (fun v53 w54 h55 f56 => ?_)
  have h11 := h11.tr f56.tr0
  have h22 := h22.tr f56.tr0
  have hO := f56.ob hO
  have hF := hF.trans f56
  obtain rfl := int_is.1 h55
  refine wo_seg Θ_ok [11, 12, 13] [(3, v9), (4, u21), (52, (.bool (y57 != (0 : Int))))] rfl ⟨rfl, rfl, rfl, trivial⟩ ?_
  rcases bif_some h with ⟨hc59, h⟩ | ⟨hc59, h⟩
  · refine wo_know 52 true rfl hc59 ?_
    refine wo_seg Θ_ok [14, 15, 16, 17, 18, 19, 20] [(3, v9), (4, u21), (59, (.bool true))] rfl ⟨rfl, rfl, rfl, trivial⟩ ?_
    refine wo_nil ?_
    refine wq_seq ?_
    refine wc_true rfl ?_
    refine wc_seq ?_
    refine wc_region (l := [0]) rfl ?_
    refine wo_seg Θ_ok [0] [(2, (.bool false))] rfl ⟨rfl, trivial⟩ ?_
    refine wo_nil ?_
    refine wq_seq ?_
    refine wc_ret ?_
    cases h
    exact wq_then_ret (wq_ret rfl ⟨_, rfl, (bool_is.2 rfl), hF⟩)
  refine wo_know 52 false rfl hc59 ?_
  refine wo_seg Θ_ok [14] [(3, v9), (4, u21), (52, (.bool false)), (53, u21)] rfl ⟨rfl, rfl, rfl, rfl, trivial⟩ ?_
  obtain ⟨A60, c61, rfl, hlc61, hmc61⟩ := slice_form h22
  refine wo_seg Θ_ok [15] [(3, v9), (4, (.slice A60 y19.1.length c61)), (52, (.bool false)), (54, (.int .i64 (y19.1.length : Int)))] rfl ⟨rfl, rfl, rfl, rfl, trivial⟩ ?_
  refine wo_seg Θ_ok [16] [(3, v9), (4, (.slice A60 y19.1.length c61)), (52, (.bool false)), (54, (.int .i64 (y19.1.length : Int))), (55, v9)] rfl ⟨rfl, rfl, rfl, rfl, rfl, trivial⟩ ?_
  obtain ⟨A62, c63, rfl, hlc63, hmc63⟩ := slice_form h11
  refine wo_seg Θ_ok [17] [(3, (.slice A62 y13.length c63)), (4, (.slice A60 y19.1.length c61)), (52, (.bool false)), (54, (.int .i64 (y19.1.length : Int))), (56, (.int .i64 (y13.length : Int)))] rfl ⟨rfl, rfl, rfl, rfl, rfl, trivial⟩ ?_
  refine wo_seg Θ_ok [18, 19, 20] [(3, (.slice A62 y13.length c63)), (4, (.slice A60 y19.1.length c61)), (59, (.bool ((y19.1.length : Int) != (IntKind.i64.wrap ((2 : Int) * (y13.length : Int))))))] rfl ⟨rfl, rfl, rfl, trivial⟩ ?_
  refine wo_nil ?_
  refine wq_seq ?_
  rcases bif_some h with ⟨hc64, h⟩ | ⟨hc64, h⟩
  · refine wc_known_true rfl hc64 ?_
    refine wc_seq ?_
    refine wc_region (l := [0]) rfl ?_
    refine wo_seg Θ_ok [0] [(2, (.bool false))] rfl ⟨rfl, trivial⟩ ?_
    refine wo_nil ?_
    refine wq_seq ?_
    refine wc_ret ?_
    cases h
    exact wq_then_ret (wq_ret rfl ⟨_, rfl, (bool_is.2 rfl), hF⟩)
  refine wc_known_false rfl hc64 ?_
  refine wc_skip ?_
  refine wq_seq ?_
  obtain ⟨k66, hk67, h⟩ := letk_some h
  refine wc_join (fun E W => ∃ (O70 : List Nat), E = [] ∧ Tr O w54 O70 W ∧ OB O70 W ∧ Sub O O70 ∧ Fr [] w W ∧ k66 = some r) ?_ (fun K68 hK69 => ?_)
  · rintro E w71 ⟨O70, rfl, T65, hO, hS, hF, h⟩
    subst hk67
    (try dsimp only at h)
    refine wc_seq ?_
    refine wc_region (l := [0]) rfl ?_
    refine wo_seg Θ_ok [0] [(2, (.bool true))] rfl ⟨rfl, trivial⟩ ?_
    refine wo_nil ?_
    refine wq_seq ?_
    refine wc_ret ?_
    cases h
    exact wq_ret rfl ⟨_, rfl, (bool_is.2 rfl), hF⟩
  clear hk67
  have T65 := Tr.refl O w54
  refine wc_seq ?_
  refine wc_region (l := [0, 1, 2]) rfl ?_
  refine wo_seg Θ_ok [0, 1, 2] [(3, (.slice A62 y13.length c63)), (4, (.slice A60 y19.1.length c61)), (60, (.slice A62 y13.length c63)), (61, (.int .i64 (y13.length : Int))), (62, (.int .i64 0))] rfl ⟨rfl, rfl, rfl, rfl, rfl, trivial⟩ ?_
  refine wo_nil ?_
  refine wq_seq ?_
  refine wc_block ?_
  refine wc_loop (fun m E W => ∃ (rest74 : List (List Int)) (i73 : Nat) (O77 : List Nat), rest74.length = m ∧ y13.drop i73 = rest74 ∧ E = [(3, (.slice A62 y13.length c63)), (4, (.slice A60 y19.1.length c61)), (60, (.slice A62 y13.length c63)), (61, (.int .i64 (y13.length : Int))), (62, (.int .i64 (i73 : Int)))] ∧ Tr O w54 O77 W ∧ OB O77 W ∧ Sub O O77 ∧ Fr [] w W ∧ l_Turns_l1 y13 y19 k66 rest74 i73 = some r) _ [(3, (.slice A62 y13.length c63)), (4, (.slice A60 y19.1.length c61)), (60, (.slice A62 y13.length c63)), (61, (.int .i64 (y13.length : Int))), (62, (.int .i64 ((0 : Nat) : Int)))] ⟨rfl, rfl, rfl, rfl, rfl, trivial⟩ ⟨y13, 0, O, rfl, rfl, rfl, Tr.refl _ _, hO, hS, hF, h⟩ ?_
  rintro m E w78 ⟨rest74, i73, O77, rfl, hd76, rfl, T72, hO, hS, hF, h⟩
  have T65 := T65.trans T72
  have h11 := h11.tr T72
  have h22 := h22.tr T72
  rcases rest74 with _ | ⟨z75, rest74⟩
  · rw [l_Turns_l1] at h
    have hl82 := drop_nil hd76
    have hc79 : (decide ((i73 : Int) < (y13.length : Int))) = false := decide_eq_false (by omega)
    refine wc_seq ?_
    refine wc_region (l := [0]) rfl ?_
    refine wo_seg Θ_ok [0] [(3, (.slice A62 y13.length c63)), (4, (.slice A60 y19.1.length c61)), (60, (.slice A62 y13.length c63)), (61, (.int .i64 (y13.length : Int))), (62, (.int .i64 (i73 : Int))), (63, (.bool (decide ((i73 : Int) < (y13.length : Int)))))] rfl ⟨rfl, rfl, rfl, rfl, rfl, rfl, trivial⟩ ?_
    refine wo_nil ?_
    refine wq_seq ?_
    refine wc_seq ?_
    refine wc_known_false rfl hc79 ?_
    refine wc_exit ?_
    exact wq_then_exit (wq_then_exit (wq_block_exit (wq_join hK69 [] trivial ⟨O77, rfl, T65, hO, hS, hF, h⟩)))
  rw [l_Turns_l1] at h
  obtain ⟨hl83, hg81, hd76⟩ := drop_cons hd76
  have hc80 : (decide ((i73 : Int) < (y13.length : Int))) = true := decide_eq_true (by omega)
  refine wc_seq ?_
  refine wc_region (l := [0]) rfl ?_
  refine wo_seg Θ_ok [0] [(3, (.slice A62 y13.length c63)), (4, (.slice A60 y19.1.length c61)), (60, (.slice A62 y13.length c63)), (61, (.int .i64 (y13.length : Int))), (62, (.int .i64 (i73 : Int))), (63, (.bool (decide ((i73 : Int) < (y13.length : Int)))))] rfl ⟨rfl, rfl, rfl, rfl, rfl, rfl, trivial⟩ ?_
  refine wo_nil ?_
  refine wq_seq ?_
  refine wc_seq ?_
  refine wc_known_true rfl hc80 ?_
  refine wc_skip ?_
  refine wq_seq ?_
  refine wc_seq ?_
  refine wc_block ?_
  refine wc_seq ?_
  refine wc_region (l := [0, 1, 2, 3, 4]) rfl ?_
  refine wo_seg Θ_ok [0] [(3, (.slice A62 y13.length c63)), (4, (.slice A60 y19.1.length c61)), (60, (.slice A62 y13.length c63)), (61, (.int .i64 (y13.length : Int))), (62, (.int .i64 (i73 : Int))), (64, (.int .i64 (i73 : Int)))] rfl ⟨rfl, rfl, rfl, rfl, rfl, rfl, trivial⟩ ?_
  refine wo_index Θ_ok rfl rfl rfl rfl rfl rfl rfl rfl rfl rfl h11 rfl (by omega) hg81 (fun p84 h85 => ?_)
  refine wo_loadp Θ_ok rfl rfl rfl rfl rfl rfl rfl h85 rfl rfl (fun v86 h87 => ?_)
  refine wo_seg Θ_ok [3, 4] [(3, (.slice A62 y13.length c63)), (4, (.slice A60 y19.1.length c61)), (8, (.int .i64 (i73 : Int))), (9, v86), (60, (.slice A62 y13.length c63)), (61, (.int .i64 (y13.length : Int))), (62, (.int .i64 (i73 : Int)))] rfl ⟨rfl, rfl, rfl, rfl, rfl, rfl, rfl, trivial⟩ ?_
  refine wo_nil ?_
  refine wq_seq ?_
  refine wc_seq ?_
  refine wc_region (l := [0, 1, 2, 3, 4, 5, 6, 7]) rfl ?_
  refine wo_seg Θ_ok [0, 1] [(3, (.slice A62 y13.length c63)), (4, (.slice A60 y19.1.length c61)), (8, (.int .i64 (i73 : Int))), (9, v86), (60, (.slice A62 y13.length c63)), (61, (.int .i64 (y13.length : Int))), (62, (.int .i64 (i73 : Int))), (68, (.slice A62 y13.length c63)), (69, (.int .i64 (i73 : Int)))] rfl ⟨rfl, rfl, rfl, rfl, rfl, rfl, rfl, rfl, rfl, trivial⟩ ?_
  obtain ⟨y92, hy93, h⟩ := bind_some h
  refine wo_gives rfl rfl rfl rfl rfl ent30 rfl (b_Seam_c hO h11 (int_is.2 rfl) hy93) (fun v88 w89 h90 f91 => ?_)
  have h11 := h11.tr f91.tr0
  have h22 := h22.tr f91.tr0
  have h87 := h87.tr f91.tr0
  have T65 := T65.trans f91.tr0
  have T72 := T72.trans f91.tr0
  have hO := f91.ob hO
  have hF := hF.trans f91
  obtain ⟨u94, u96, rfl, h95, h97⟩ := h90
  obtain rfl := int_is.1 h95
  obtain rfl := int_is.1 h97
  refine wo_seg Θ_ok [3, 4, 5, 6, 7] [(3, (.slice A62 y13.length c63)), (4, (.slice A60 y19.1.length c61)), (8, (.int .i64 (i73 : Int))), (9, v86), (10, (.int .i64 y92.1)), (11, (.int .i64 y92.2)), (60, (.slice A62 y13.length c63)), (61, (.int .i64 (y13.length : Int))), (62, (.int .i64 (i73 : Int)))] rfl ⟨rfl, rfl, rfl, rfl, rfl, rfl, rfl, rfl, rfl, trivial⟩ ?_
  refine wo_nil ?_
  refine wq_seq ?_
  refine wc_seq ?_
  obtain ⟨A98, c99, rfl, hlc99, hmc99⟩ := slice_form h87
  rcases bif_some h with ⟨hc100, h⟩ | ⟨hc100, h⟩
  · refine wc_draw mixed [⟨73, [], [11]⟩, ⟨74, [0], []⟩, ⟨75, [1], []⟩, ⟨76, [2], [10]⟩, ⟨77, [2, 3], []⟩, ⟨78, [2, 4], []⟩, ⟨79, [5], []⟩, ⟨80, [6], [10]⟩, ⟨81, [6], [9]⟩, ⟨82, [6, 8], []⟩, ⟨83, [6, 7, 9], []⟩, ⟨84, [6, 10], []⟩, ⟨85, [11], []⟩, ⟨86, [12], [4]⟩, ⟨87, [12], [8]⟩, ⟨88, [12, 14], []⟩, ⟨89, [12, 13, 15], []⟩, ⟨90, [12, 16], []⟩, ⟨91, [12], [9]⟩, ⟨92, [12], [10]⟩, ⟨93, [12, 18, 19], []⟩, ⟨94, [12, 17, 20], []⟩, ⟨95, [12, 21], []⟩, ⟨96, [12, 22], []⟩, ⟨97, [23], []⟩, ⟨98, [24], [4]⟩, ⟨99, [24], [8]⟩, ⟨100, [24, 26], []⟩, ⟨101, [24, 27], []⟩, ⟨102, [24, 25, 28], []⟩, ⟨103, [24, 29], []⟩, ⟨104, [24], [9]⟩, ⟨105, [24], [10]⟩, ⟨106, [24, 31, 32], []⟩, ⟨107, [24, 30, 33], []⟩, ⟨108, [24, 34], []⟩, ⟨109, [24, 35], []⟩] [SP.eq (.int .i64 y92.2), SP.eq (.bool (y92.2 != (0 : Int))), SP.eq (.bool (y92.2 != (0 : Int))), SP.eq undef, SP.eq undef, SP.eq (.bool true), SP.eq (.bool true), SP.eq undef, SP.eq undef, SP.eq undef, SP.eq undef, SP.eq (.bool true), SP.eq (.bool true), SP.eq undef, SP.eq undef, SP.eq undef, SP.eq undef, SP.eq undef, SP.eq undef, SP.eq undef, SP.eq undef, SP.eq undef, SP.eq undef, SP.eq (.bool true), SP.eq (.bool true), SP.eq undef, SP.eq undef, SP.eq undef, SP.eq undef, SP.eq undef, SP.eq undef, SP.eq undef, SP.eq undef, SP.eq undef, SP.eq undef, SP.eq undef, SP.eq (.bool true)] rfl rfl rfl ⟨?_, ?_, ?_, ?_, ?_, ?_, ?_, ?_, ?_, ?_, ?_, ?_, ?_, ?_, ?_, ?_, ?_, ?_, ?_, ?_, ?_, ?_, ?_, ?_, ?_, ?_, ?_, ?_, ?_, ?_, ?_, ?_, ?_, ?_, ?_, ?_, ?_, trivial⟩ ?_
    · intro a w2 hfr hN hds hb hd
      exact op_plain Θ_ok ⟨hN, hds, rows_get (E := [(11, (.int .i64 y92.2))]) ⟨hb 11 rfl _ rfl, trivial⟩⟩ rfl rfl rfl rfl rfl
    · intro a w2 hfr hN hds hb hd
      exact op_plain Θ_ok ⟨hN, hds, rows_get (E := [(73, (.int .i64 y92.2))]) ⟨(hd 0 rfl _ _ rfl rfl), trivial⟩⟩ rfl rfl rfl rfl rfl
    · intro a w2 hfr hN hds hb hd
      exact op_plain Θ_ok ⟨hN, hds, rows_get (E := [(74, (.bool (y92.2 != (0 : Int))))]) ⟨(hd 1 rfl _ _ rfl rfl), trivial⟩⟩ rfl rfl rfl rfl rfl
    · intro a w2 hfr hN hds hb hd
      exact op_skip ⟨hN, hds, rows_get (E := [(10, (.int .i64 y92.1)), (75, (.bool true))]) ⟨hb 10 rfl _ rfl, ((hd 2 rfl _ _ rfl rfl).trans (congrArg _ hc100)), trivial⟩⟩ rfl rfl rfl
    · intro a w2 hfr hN hds hb hd
      exact op_skip ⟨hN, hds, rows_get (E := [(75, (.bool true)), (76, undef)]) ⟨((hd 2 rfl _ _ rfl rfl).trans (congrArg _ hc100)), (hd 3 rfl _ _ rfl rfl), trivial⟩⟩ rfl rfl rfl
    · intro a w2 hfr hN hds hb hd
      exact op_plain Θ_ok ⟨hN, hds, rows_get (E := [(75, (.bool true)), (77, undef)]) ⟨((hd 2 rfl _ _ rfl rfl).trans (congrArg _ hc100)), (hd 4 rfl _ _ rfl rfl), trivial⟩⟩ rfl rfl rfl rfl rfl
    · intro a w2 hfr hN hds hb hd
      exact op_plain Θ_ok ⟨hN, hds, rows_get (E := [(78, (.bool true))]) ⟨(hd 5 rfl _ _ rfl rfl), trivial⟩⟩ rfl rfl rfl rfl rfl
    · intro a w2 hfr hN hds hb hd
      exact op_skip ⟨hN, hds, rows_get (E := [(10, (.int .i64 y92.1)), (79, (.bool true))]) ⟨hb 10 rfl _ rfl, (hd 6 rfl _ _ rfl rfl), trivial⟩⟩ rfl rfl rfl
    · intro a w2 hfr hN hds hb hd
      have h87 := h87.tr hfr.tr0
      exact op_skip ⟨hN, hds, rows_get (E := [(9, (.slice A98 z75.length c99)), (79, (.bool true))]) ⟨hb 9 rfl _ rfl, (hd 6 rfl _ _ rfl rfl), trivial⟩⟩ rfl rfl rfl
    · intro a w2 hfr hN hds hb hd
      exact op_skip ⟨hN, hds, rows_get (E := [(79, (.bool true)), (81, undef)]) ⟨(hd 6 rfl _ _ rfl rfl), (hd 8 rfl _ _ rfl rfl), trivial⟩⟩ rfl rfl rfl
    · intro a w2 hfr hN hds hb hd
      exact op_skip ⟨hN, hds, rows_get (E := [(79, (.bool true)), (80, undef), (82, undef)]) ⟨(hd 6 rfl _ _ rfl rfl), (hd 7 rfl _ _ rfl rfl), (hd 9 rfl _ _ rfl rfl), trivial⟩⟩ rfl rfl rfl
    · intro a w2 hfr hN hds hb hd
      exact op_plain Θ_ok ⟨hN, hds, rows_get (E := [(79, (.bool true)), (83, undef)]) ⟨(hd 6 rfl _ _ rfl rfl), (hd 10 rfl _ _ rfl rfl), trivial⟩⟩ rfl rfl rfl rfl rfl
    · intro a w2 hfr hN hds hb hd
      exact op_plain Θ_ok ⟨hN, hds, rows_get (E := [(84, (.bool true))]) ⟨(hd 11 rfl _ _ rfl rfl), trivial⟩⟩ rfl rfl rfl rfl rfl
    · intro a w2 hfr hN hds hb hd
      have h22 := h22.tr hfr.tr0
      exact op_skip ⟨hN, hds, rows_get (E := [(4, (.slice A60 y19.1.length c61)), (85, (.bool true))]) ⟨hb 4 rfl _ rfl, (hd 12 rfl _ _ rfl rfl), trivial⟩⟩ rfl rfl rfl
    · intro a w2 hfr hN hds hb hd
      exact op_skip ⟨hN, hds, rows_get (E := [(8, (.int .i64 (i73 : Int))), (85, (.bool true))]) ⟨hb 8 rfl _ rfl, (hd 12 rfl _ _ rfl rfl), trivial⟩⟩ rfl rfl rfl
    · intro a w2 hfr hN hds hb hd
      exact op_skip ⟨hN, hds, rows_get (E := [(85, (.bool true)), (87, undef)]) ⟨(hd 12 rfl _ _ rfl rfl), (hd 14 rfl _ _ rfl rfl), trivial⟩⟩ rfl rfl rfl
    · intro a w2 hfr hN hds hb hd
      exact op_skip ⟨hN, hds, rows_get (E := [(85, (.bool true)), (86, undef), (88, undef)]) ⟨(hd 12 rfl _ _ rfl rfl), (hd 13 rfl _ _ rfl rfl), (hd 15 rfl _ _ rfl rfl), trivial⟩⟩ rfl rfl rfl
    · intro a w2 hfr hN hds hb hd
      exact op_skip ⟨hN, hds, rows_get (E := [(85, (.bool true)), (89, undef)]) ⟨(hd 12 rfl _ _ rfl rfl), (hd 16 rfl _ _ rfl rfl), trivial⟩⟩ rfl rfl rfl
    · intro a w2 hfr hN hds hb hd
      have h87 := h87.tr hfr.tr0
      exact op_skip ⟨hN, hds, rows_get (E := [(9, (.slice A98 z75.length c99)), (85, (.bool true))]) ⟨hb 9 rfl _ rfl, (hd 12 rfl _ _ rfl rfl), trivial⟩⟩ rfl rfl rfl
    · intro a w2 hfr hN hds hb hd
      exact op_skip ⟨hN, hds, rows_get (E := [(10, (.int .i64 y92.1)), (85, (.bool true))]) ⟨hb 10 rfl _ rfl, (hd 12 rfl _ _ rfl rfl), trivial⟩⟩ rfl rfl rfl
    · intro a w2 hfr hN hds hb hd
      exact op_skip ⟨hN, hds, rows_get (E := [(85, (.bool true)), (91, undef), (92, undef)]) ⟨(hd 12 rfl _ _ rfl rfl), (hd 18 rfl _ _ rfl rfl), (hd 19 rfl _ _ rfl rfl), trivial⟩⟩ rfl rfl rfl
    · intro a w2 hfr hN hds hb hd
      exact op_skip ⟨hN, hds, rows_get (E := [(85, (.bool true)), (90, undef), (93, undef)]) ⟨(hd 12 rfl _ _ rfl rfl), (hd 17 rfl _ _ rfl rfl), (hd 20 rfl _ _ rfl rfl), trivial⟩⟩ rfl rfl rfl
    · intro a w2 hfr hN hds hb hd
      exact op_skip ⟨hN, hds, rows_get (E := [(85, (.bool true)), (94, undef)]) ⟨(hd 12 rfl _ _ rfl rfl), (hd 21 rfl _ _ rfl rfl), trivial⟩⟩ rfl rfl rfl
    · intro a w2 hfr hN hds hb hd
      exact op_plain Θ_ok ⟨hN, hds, rows_get (E := [(85, (.bool true)), (95, undef)]) ⟨(hd 12 rfl _ _ rfl rfl), (hd 22 rfl _ _ rfl rfl), trivial⟩⟩ rfl rfl rfl rfl rfl
    · intro a w2 hfr hN hds hb hd
      exact op_plain Θ_ok ⟨hN, hds, rows_get (E := [(96, (.bool true))]) ⟨(hd 23 rfl _ _ rfl rfl), trivial⟩⟩ rfl rfl rfl rfl rfl
    · intro a w2 hfr hN hds hb hd
      have h22 := h22.tr hfr.tr0
      exact op_skip ⟨hN, hds, rows_get (E := [(4, (.slice A60 y19.1.length c61)), (97, (.bool true))]) ⟨hb 4 rfl _ rfl, (hd 24 rfl _ _ rfl rfl), trivial⟩⟩ rfl rfl rfl
    · intro a w2 hfr hN hds hb hd
      exact op_skip ⟨hN, hds, rows_get (E := [(8, (.int .i64 (i73 : Int))), (97, (.bool true))]) ⟨hb 8 rfl _ rfl, (hd 24 rfl _ _ rfl rfl), trivial⟩⟩ rfl rfl rfl
    · intro a w2 hfr hN hds hb hd
      exact op_skip ⟨hN, hds, rows_get (E := [(97, (.bool true)), (99, undef)]) ⟨(hd 24 rfl _ _ rfl rfl), (hd 26 rfl _ _ rfl rfl), trivial⟩⟩ rfl rfl rfl
    · intro a w2 hfr hN hds hb hd
      exact op_skip ⟨hN, hds, rows_get (E := [(97, (.bool true)), (100, undef)]) ⟨(hd 24 rfl _ _ rfl rfl), (hd 27 rfl _ _ rfl rfl), trivial⟩⟩ rfl rfl rfl
    · intro a w2 hfr hN hds hb hd
      exact op_skip ⟨hN, hds, rows_get (E := [(97, (.bool true)), (98, undef), (101, undef)]) ⟨(hd 24 rfl _ _ rfl rfl), (hd 25 rfl _ _ rfl rfl), (hd 28 rfl _ _ rfl rfl), trivial⟩⟩ rfl rfl rfl
    · intro a w2 hfr hN hds hb hd
      exact op_skip ⟨hN, hds, rows_get (E := [(97, (.bool true)), (102, undef)]) ⟨(hd 24 rfl _ _ rfl rfl), (hd 29 rfl _ _ rfl rfl), trivial⟩⟩ rfl rfl rfl
    · intro a w2 hfr hN hds hb hd
      have h87 := h87.tr hfr.tr0
      exact op_skip ⟨hN, hds, rows_get (E := [(9, (.slice A98 z75.length c99)), (97, (.bool true))]) ⟨hb 9 rfl _ rfl, (hd 24 rfl _ _ rfl rfl), trivial⟩⟩ rfl rfl rfl
    · intro a w2 hfr hN hds hb hd
      exact op_skip ⟨hN, hds, rows_get (E := [(10, (.int .i64 y92.1)), (97, (.bool true))]) ⟨hb 10 rfl _ rfl, (hd 24 rfl _ _ rfl rfl), trivial⟩⟩ rfl rfl rfl
    · intro a w2 hfr hN hds hb hd
      exact op_skip ⟨hN, hds, rows_get (E := [(97, (.bool true)), (104, undef), (105, undef)]) ⟨(hd 24 rfl _ _ rfl rfl), (hd 31 rfl _ _ rfl rfl), (hd 32 rfl _ _ rfl rfl), trivial⟩⟩ rfl rfl rfl
    · intro a w2 hfr hN hds hb hd
      exact op_skip ⟨hN, hds, rows_get (E := [(97, (.bool true)), (103, undef), (106, undef)]) ⟨(hd 24 rfl _ _ rfl rfl), (hd 30 rfl _ _ rfl rfl), (hd 33 rfl _ _ rfl rfl), trivial⟩⟩ rfl rfl rfl
    · intro a w2 hfr hN hds hb hd
      exact op_skip ⟨hN, hds, rows_get (E := [(97, (.bool true)), (107, undef)]) ⟨(hd 24 rfl _ _ rfl rfl), (hd 34 rfl _ _ rfl rfl), trivial⟩⟩ rfl rfl rfl
    · intro a w2 hfr hN hds hb hd
      exact op_plain Θ_ok ⟨hN, hds, rows_get (E := [(97, (.bool true)), (108, undef)]) ⟨(hd 24 rfl _ _ rfl rfl), (hd 35 rfl _ _ rfl rfl), trivial⟩⟩ rfl rfl rfl rfl rfl
    intro a w102 f101 hN hds hb hr
    have h11 := h11.tr f101.tr0
    have h22 := h22.tr f101.tr0
    have T65 := T65.trans f101.tr0
    have T72 := T72.trans f101.tr0
    have hO := f101.ob hO
    have hF := hF.trans f101
    refine wq_go (E := [(3, (.slice A62 y13.length c63)), (4, (.slice A60 y19.1.length c61)), (60, (.slice A62 y13.length c63)), (61, (.int .i64 (y13.length : Int))), (62, (.int .i64 (i73 : Int))), (109, (.bool true))]) hN hds ⟨hb 3 _ rfl rfl, hb 4 _ rfl rfl, hb 60 _ rfl rfl, hb 61 _ rfl rfl, hb 62 _ rfl rfl, (hr 36 _ _ rfl rfl), trivial⟩ ?_
    refine wq_seq ?_
    refine wc_true rfl ?_
    refine wc_seq ?_
    refine wc_region (l := [0]) rfl ?_
    refine wo_seg Θ_ok [0] [(2, (.bool false))] rfl ⟨rfl, trivial⟩ ?_
    refine wo_nil ?_
    refine wq_seq ?_
    refine wc_ret ?_
    cases h
    exact wq_block_ret (wq_then_ret (wq_then_ret (wq_block_ret (wq_then_ret (wq_ret rfl ⟨_, rfl, (bool_is.2 rfl), hF⟩)))))
  rcases bif_some h with ⟨hc103, h⟩ | ⟨hc103, h⟩
  · refine wc_draw mixed [⟨73, [], [11]⟩, ⟨74, [0], []⟩, ⟨75, [1], []⟩, ⟨76, [2], [10]⟩, ⟨77, [2, 3], []⟩, ⟨78, [2, 4], []⟩, ⟨79, [5], []⟩, ⟨80, [6], [10]⟩, ⟨81, [6], [9]⟩, ⟨82, [6, 8], []⟩, ⟨83, [6, 7, 9], []⟩, ⟨84, [6, 10], []⟩, ⟨85, [11], []⟩, ⟨86, [12], [4]⟩, ⟨87, [12], [8]⟩, ⟨88, [12, 14], []⟩, ⟨89, [12, 13, 15], []⟩, ⟨90, [12, 16], []⟩, ⟨91, [12], [9]⟩, ⟨92, [12], [10]⟩, ⟨93, [12, 18, 19], []⟩, ⟨94, [12, 17, 20], []⟩, ⟨95, [12, 21], []⟩, ⟨96, [12, 22], []⟩, ⟨97, [23], []⟩, ⟨98, [24], [4]⟩, ⟨99, [24], [8]⟩, ⟨100, [24, 26], []⟩, ⟨101, [24, 27], []⟩, ⟨102, [24, 25, 28], []⟩, ⟨103, [24, 29], []⟩, ⟨104, [24], [9]⟩, ⟨105, [24], [10]⟩, ⟨106, [24, 31, 32], []⟩, ⟨107, [24, 30, 33], []⟩, ⟨108, [24, 34], []⟩, ⟨109, [24, 35], []⟩] [SP.eq (.int .i64 y92.2), SP.eq (.bool (y92.2 != (0 : Int))), SP.eq (.bool (y92.2 != (0 : Int))), SP.eq (.int .i64 y92.1), SP.eq (.bool (decide (y92.1 < (0 : Int)))), SP.eq (.bool (decide (y92.1 < (0 : Int)))), SP.eq (.bool (decide (y92.1 < (0 : Int)))), SP.eq undef, SP.eq undef, SP.eq undef, SP.eq undef, SP.eq (.bool true), SP.eq (.bool true), SP.eq undef, SP.eq undef, SP.eq undef, SP.eq undef, SP.eq undef, SP.eq undef, SP.eq undef, SP.eq undef, SP.eq undef, SP.eq undef, SP.eq (.bool true), SP.eq (.bool true), SP.eq undef, SP.eq undef, SP.eq undef, SP.eq undef, SP.eq undef, SP.eq undef, SP.eq undef, SP.eq undef, SP.eq undef, SP.eq undef, SP.eq undef, SP.eq (.bool true)] rfl rfl rfl ⟨?_, ?_, ?_, ?_, ?_, ?_, ?_, ?_, ?_, ?_, ?_, ?_, ?_, ?_, ?_, ?_, ?_, ?_, ?_, ?_, ?_, ?_, ?_, ?_, ?_, ?_, ?_, ?_, ?_, ?_, ?_, ?_, ?_, ?_, ?_, ?_, ?_, trivial⟩ ?_
    · intro a w2 hfr hN hds hb hd
      exact op_plain Θ_ok ⟨hN, hds, rows_get (E := [(11, (.int .i64 y92.2))]) ⟨hb 11 rfl _ rfl, trivial⟩⟩ rfl rfl rfl rfl rfl
    · intro a w2 hfr hN hds hb hd
      exact op_plain Θ_ok ⟨hN, hds, rows_get (E := [(73, (.int .i64 y92.2))]) ⟨(hd 0 rfl _ _ rfl rfl), trivial⟩⟩ rfl rfl rfl rfl rfl
    · intro a w2 hfr hN hds hb hd
      exact op_plain Θ_ok ⟨hN, hds, rows_get (E := [(74, (.bool (y92.2 != (0 : Int))))]) ⟨(hd 1 rfl _ _ rfl rfl), trivial⟩⟩ rfl rfl rfl rfl rfl
    · intro a w2 hfr hN hds hb hd
      exact op_plain Θ_ok ⟨hN, hds, rows_get (E := [(10, (.int .i64 y92.1)), (75, (.bool false))]) ⟨hb 10 rfl _ rfl, ((hd 2 rfl _ _ rfl rfl).trans (congrArg _ hc100)), trivial⟩⟩ rfl rfl rfl rfl rfl
    · intro a w2 hfr hN hds hb hd
      exact op_plain Θ_ok ⟨hN, hds, rows_get (E := [(75, (.bool false)), (76, (.int .i64 y92.1))]) ⟨((hd 2 rfl _ _ rfl rfl).trans (congrArg _ hc100)), (hd 3 rfl _ _ rfl rfl), trivial⟩⟩ rfl rfl rfl rfl rfl
    · intro a w2 hfr hN hds hb hd
      exact op_plain Θ_ok ⟨hN, hds, rows_get (E := [(75, (.bool false)), (77, (.bool (decide (y92.1 < (0 : Int)))))]) ⟨((hd 2 rfl _ _ rfl rfl).trans (congrArg _ hc100)), (hd 4 rfl _ _ rfl rfl), trivial⟩⟩ rfl rfl rfl rfl rfl
    · intro a w2 hfr hN hds hb hd
      exact op_plain Θ_ok ⟨hN, hds, rows_get (E := [(78, (.bool (decide (y92.1 < (0 : Int)))))]) ⟨(hd 5 rfl _ _ rfl rfl), trivial⟩⟩ rfl rfl rfl rfl rfl
    · intro a w2 hfr hN hds hb hd
      exact op_skip ⟨hN, hds, rows_get (E := [(10, (.int .i64 y92.1)), (79, (.bool true))]) ⟨hb 10 rfl _ rfl, ((hd 6 rfl _ _ rfl rfl).trans (congrArg _ hc103)), trivial⟩⟩ rfl rfl rfl
    · intro a w2 hfr hN hds hb hd
      have h87 := h87.tr hfr.tr0
      exact op_skip ⟨hN, hds, rows_get (E := [(9, (.slice A98 z75.length c99)), (79, (.bool true))]) ⟨hb 9 rfl _ rfl, ((hd 6 rfl _ _ rfl rfl).trans (congrArg _ hc103)), trivial⟩⟩ rfl rfl rfl
    · intro a w2 hfr hN hds hb hd
      exact op_skip ⟨hN, hds, rows_get (E := [(79, (.bool true)), (81, undef)]) ⟨((hd 6 rfl _ _ rfl rfl).trans (congrArg _ hc103)), (hd 8 rfl _ _ rfl rfl), trivial⟩⟩ rfl rfl rfl
    · intro a w2 hfr hN hds hb hd
      exact op_skip ⟨hN, hds, rows_get (E := [(79, (.bool true)), (80, undef), (82, undef)]) ⟨((hd 6 rfl _ _ rfl rfl).trans (congrArg _ hc103)), (hd 7 rfl _ _ rfl rfl), (hd 9 rfl _ _ rfl rfl), trivial⟩⟩ rfl rfl rfl
    · intro a w2 hfr hN hds hb hd
      exact op_plain Θ_ok ⟨hN, hds, rows_get (E := [(79, (.bool true)), (83, undef)]) ⟨((hd 6 rfl _ _ rfl rfl).trans (congrArg _ hc103)), (hd 10 rfl _ _ rfl rfl), trivial⟩⟩ rfl rfl rfl rfl rfl
    · intro a w2 hfr hN hds hb hd
      exact op_plain Θ_ok ⟨hN, hds, rows_get (E := [(84, (.bool true))]) ⟨(hd 11 rfl _ _ rfl rfl), trivial⟩⟩ rfl rfl rfl rfl rfl
    · intro a w2 hfr hN hds hb hd
      have h22 := h22.tr hfr.tr0
      exact op_skip ⟨hN, hds, rows_get (E := [(4, (.slice A60 y19.1.length c61)), (85, (.bool true))]) ⟨hb 4 rfl _ rfl, (hd 12 rfl _ _ rfl rfl), trivial⟩⟩ rfl rfl rfl
    · intro a w2 hfr hN hds hb hd
      exact op_skip ⟨hN, hds, rows_get (E := [(8, (.int .i64 (i73 : Int))), (85, (.bool true))]) ⟨hb 8 rfl _ rfl, (hd 12 rfl _ _ rfl rfl), trivial⟩⟩ rfl rfl rfl
    · intro a w2 hfr hN hds hb hd
      exact op_skip ⟨hN, hds, rows_get (E := [(85, (.bool true)), (87, undef)]) ⟨(hd 12 rfl _ _ rfl rfl), (hd 14 rfl _ _ rfl rfl), trivial⟩⟩ rfl rfl rfl
    · intro a w2 hfr hN hds hb hd
      exact op_skip ⟨hN, hds, rows_get (E := [(85, (.bool true)), (86, undef), (88, undef)]) ⟨(hd 12 rfl _ _ rfl rfl), (hd 13 rfl _ _ rfl rfl), (hd 15 rfl _ _ rfl rfl), trivial⟩⟩ rfl rfl rfl
    · intro a w2 hfr hN hds hb hd
      exact op_skip ⟨hN, hds, rows_get (E := [(85, (.bool true)), (89, undef)]) ⟨(hd 12 rfl _ _ rfl rfl), (hd 16 rfl _ _ rfl rfl), trivial⟩⟩ rfl rfl rfl
    · intro a w2 hfr hN hds hb hd
      have h87 := h87.tr hfr.tr0
      exact op_skip ⟨hN, hds, rows_get (E := [(9, (.slice A98 z75.length c99)), (85, (.bool true))]) ⟨hb 9 rfl _ rfl, (hd 12 rfl _ _ rfl rfl), trivial⟩⟩ rfl rfl rfl
    · intro a w2 hfr hN hds hb hd
      exact op_skip ⟨hN, hds, rows_get (E := [(10, (.int .i64 y92.1)), (85, (.bool true))]) ⟨hb 10 rfl _ rfl, (hd 12 rfl _ _ rfl rfl), trivial⟩⟩ rfl rfl rfl
    · intro a w2 hfr hN hds hb hd
      exact op_skip ⟨hN, hds, rows_get (E := [(85, (.bool true)), (91, undef), (92, undef)]) ⟨(hd 12 rfl _ _ rfl rfl), (hd 18 rfl _ _ rfl rfl), (hd 19 rfl _ _ rfl rfl), trivial⟩⟩ rfl rfl rfl
    · intro a w2 hfr hN hds hb hd
      exact op_skip ⟨hN, hds, rows_get (E := [(85, (.bool true)), (90, undef), (93, undef)]) ⟨(hd 12 rfl _ _ rfl rfl), (hd 17 rfl _ _ rfl rfl), (hd 20 rfl _ _ rfl rfl), trivial⟩⟩ rfl rfl rfl
    · intro a w2 hfr hN hds hb hd
      exact op_skip ⟨hN, hds, rows_get (E := [(85, (.bool true)), (94, undef)]) ⟨(hd 12 rfl _ _ rfl rfl), (hd 21 rfl _ _ rfl rfl), trivial⟩⟩ rfl rfl rfl
    · intro a w2 hfr hN hds hb hd
      exact op_plain Θ_ok ⟨hN, hds, rows_get (E := [(85, (.bool true)), (95, undef)]) ⟨(hd 12 rfl _ _ rfl rfl), (hd 22 rfl _ _ rfl rfl), trivial⟩⟩ rfl rfl rfl rfl rfl
    · intro a w2 hfr hN hds hb hd
      exact op_plain Θ_ok ⟨hN, hds, rows_get (E := [(96, (.bool true))]) ⟨(hd 23 rfl _ _ rfl rfl), trivial⟩⟩ rfl rfl rfl rfl rfl
    · intro a w2 hfr hN hds hb hd
      have h22 := h22.tr hfr.tr0
      exact op_skip ⟨hN, hds, rows_get (E := [(4, (.slice A60 y19.1.length c61)), (97, (.bool true))]) ⟨hb 4 rfl _ rfl, (hd 24 rfl _ _ rfl rfl), trivial⟩⟩ rfl rfl rfl
    · intro a w2 hfr hN hds hb hd
      exact op_skip ⟨hN, hds, rows_get (E := [(8, (.int .i64 (i73 : Int))), (97, (.bool true))]) ⟨hb 8 rfl _ rfl, (hd 24 rfl _ _ rfl rfl), trivial⟩⟩ rfl rfl rfl
    · intro a w2 hfr hN hds hb hd
      exact op_skip ⟨hN, hds, rows_get (E := [(97, (.bool true)), (99, undef)]) ⟨(hd 24 rfl _ _ rfl rfl), (hd 26 rfl _ _ rfl rfl), trivial⟩⟩ rfl rfl rfl
    · intro a w2 hfr hN hds hb hd
      exact op_skip ⟨hN, hds, rows_get (E := [(97, (.bool true)), (100, undef)]) ⟨(hd 24 rfl _ _ rfl rfl), (hd 27 rfl _ _ rfl rfl), trivial⟩⟩ rfl rfl rfl
    · intro a w2 hfr hN hds hb hd
      exact op_skip ⟨hN, hds, rows_get (E := [(97, (.bool true)), (98, undef), (101, undef)]) ⟨(hd 24 rfl _ _ rfl rfl), (hd 25 rfl _ _ rfl rfl), (hd 28 rfl _ _ rfl rfl), trivial⟩⟩ rfl rfl rfl
    · intro a w2 hfr hN hds hb hd
      exact op_skip ⟨hN, hds, rows_get (E := [(97, (.bool true)), (102, undef)]) ⟨(hd 24 rfl _ _ rfl rfl), (hd 29 rfl _ _ rfl rfl), trivial⟩⟩ rfl rfl rfl
    · intro a w2 hfr hN hds hb hd
      have h87 := h87.tr hfr.tr0
      exact op_skip ⟨hN, hds, rows_get (E := [(9, (.slice A98 z75.length c99)), (97, (.bool true))]) ⟨hb 9 rfl _ rfl, (hd 24 rfl _ _ rfl rfl), trivial⟩⟩ rfl rfl rfl
    · intro a w2 hfr hN hds hb hd
      exact op_skip ⟨hN, hds, rows_get (E := [(10, (.int .i64 y92.1)), (97, (.bool true))]) ⟨hb 10 rfl _ rfl, (hd 24 rfl _ _ rfl rfl), trivial⟩⟩ rfl rfl rfl
    · intro a w2 hfr hN hds hb hd
      exact op_skip ⟨hN, hds, rows_get (E := [(97, (.bool true)), (104, undef), (105, undef)]) ⟨(hd 24 rfl _ _ rfl rfl), (hd 31 rfl _ _ rfl rfl), (hd 32 rfl _ _ rfl rfl), trivial⟩⟩ rfl rfl rfl
    · intro a w2 hfr hN hds hb hd
      exact op_skip ⟨hN, hds, rows_get (E := [(97, (.bool true)), (103, undef), (106, undef)]) ⟨(hd 24 rfl _ _ rfl rfl), (hd 30 rfl _ _ rfl rfl), (hd 33 rfl _ _ rfl rfl), trivial⟩⟩ rfl rfl rfl
    · intro a w2 hfr hN hds hb hd
      exact op_skip ⟨hN, hds, rows_get (E := [(97, (.bool true)), (107, undef)]) ⟨(hd 24 rfl _ _ rfl rfl), (hd 34 rfl _ _ rfl rfl), trivial⟩⟩ rfl rfl rfl
    · intro a w2 hfr hN hds hb hd
      exact op_plain Θ_ok ⟨hN, hds, rows_get (E := [(97, (.bool true)), (108, undef)]) ⟨(hd 24 rfl _ _ rfl rfl), (hd 35 rfl _ _ rfl rfl), trivial⟩⟩ rfl rfl rfl rfl rfl
    intro a w105 f104 hN hds hb hr
    have h11 := h11.tr f104.tr0
    have h22 := h22.tr f104.tr0
    have T65 := T65.trans f104.tr0
    have T72 := T72.trans f104.tr0
    have hO := f104.ob hO
    have hF := hF.trans f104
    refine wq_go (E := [(3, (.slice A62 y13.length c63)), (4, (.slice A60 y19.1.length c61)), (60, (.slice A62 y13.length c63)), (61, (.int .i64 (y13.length : Int))), (62, (.int .i64 (i73 : Int))), (109, (.bool true))]) hN hds ⟨hb 3 _ rfl rfl, hb 4 _ rfl rfl, hb 60 _ rfl rfl, hb 61 _ rfl rfl, hb 62 _ rfl rfl, (hr 36 _ _ rfl rfl), trivial⟩ ?_
    refine wq_seq ?_
    refine wc_true rfl ?_
    refine wc_seq ?_
    refine wc_region (l := [0]) rfl ?_
    refine wo_seg Θ_ok [0] [(2, (.bool false))] rfl ⟨rfl, trivial⟩ ?_
    refine wo_nil ?_
    refine wq_seq ?_
    refine wc_ret ?_
    cases h
    exact wq_block_ret (wq_then_ret (wq_then_ret (wq_block_ret (wq_then_ret (wq_ret rfl ⟨_, rfl, (bool_is.2 rfl), hF⟩)))))
  rcases bif_some h with ⟨hc106, h⟩ | ⟨hc106, h⟩
  · refine wc_draw mixed [⟨73, [], [11]⟩, ⟨74, [0], []⟩, ⟨75, [1], []⟩, ⟨76, [2], [10]⟩, ⟨77, [2, 3], []⟩, ⟨78, [2, 4], []⟩, ⟨79, [5], []⟩, ⟨80, [6], [10]⟩, ⟨81, [6], [9]⟩, ⟨82, [6, 8], []⟩, ⟨83, [6, 7, 9], []⟩, ⟨84, [6, 10], []⟩, ⟨85, [11], []⟩, ⟨86, [12], [4]⟩, ⟨87, [12], [8]⟩, ⟨88, [12, 14], []⟩, ⟨89, [12, 13, 15], []⟩, ⟨90, [12, 16], []⟩, ⟨91, [12], [9]⟩, ⟨92, [12], [10]⟩, ⟨93, [12, 18, 19], []⟩, ⟨94, [12, 17, 20], []⟩, ⟨95, [12, 21], []⟩, ⟨96, [12, 22], []⟩, ⟨97, [23], []⟩, ⟨98, [24], [4]⟩, ⟨99, [24], [8]⟩, ⟨100, [24, 26], []⟩, ⟨101, [24, 27], []⟩, ⟨102, [24, 25, 28], []⟩, ⟨103, [24, 29], []⟩, ⟨104, [24], [9]⟩, ⟨105, [24], [10]⟩, ⟨106, [24, 31, 32], []⟩, ⟨107, [24, 30, 33], []⟩, ⟨108, [24, 34], []⟩, ⟨109, [24, 35], []⟩] [SP.eq (.int .i64 y92.2), SP.eq (.bool (y92.2 != (0 : Int))), SP.eq (.bool (y92.2 != (0 : Int))), SP.eq (.int .i64 y92.1), SP.eq (.bool (decide (y92.1 < (0 : Int)))), SP.eq (.bool (decide (y92.1 < (0 : Int)))), SP.eq (.bool (decide (y92.1 < (0 : Int)))), SP.eq (.int .i64 y92.1), SP.eq (.slice A98 z75.length c99), SP.eq (.int .i64 (z75.length : Int)), SP.eq (.bool (decide (y92.1 > (z75.length : Int)))), SP.eq (.bool (decide (y92.1 > (z75.length : Int)))), SP.eq (.bool (decide (y92.1 > (z75.length : Int)))), SP.eq undef, SP.eq undef, SP.eq undef, SP.eq undef, SP.eq undef, SP.eq undef, SP.eq undef, SP.eq undef, SP.eq undef, SP.eq undef, SP.eq (.bool true), SP.eq (.bool true), SP.eq undef, SP.eq undef, SP.eq undef, SP.eq undef, SP.eq undef, SP.eq undef, SP.eq undef, SP.eq undef, SP.eq undef, SP.eq undef, SP.eq undef, SP.eq (.bool true)] rfl rfl rfl ⟨?_, ?_, ?_, ?_, ?_, ?_, ?_, ?_, ?_, ?_, ?_, ?_, ?_, ?_, ?_, ?_, ?_, ?_, ?_, ?_, ?_, ?_, ?_, ?_, ?_, ?_, ?_, ?_, ?_, ?_, ?_, ?_, ?_, ?_, ?_, ?_, ?_, trivial⟩ ?_
    · intro a w2 hfr hN hds hb hd
      exact op_plain Θ_ok ⟨hN, hds, rows_get (E := [(11, (.int .i64 y92.2))]) ⟨hb 11 rfl _ rfl, trivial⟩⟩ rfl rfl rfl rfl rfl
    · intro a w2 hfr hN hds hb hd
      exact op_plain Θ_ok ⟨hN, hds, rows_get (E := [(73, (.int .i64 y92.2))]) ⟨(hd 0 rfl _ _ rfl rfl), trivial⟩⟩ rfl rfl rfl rfl rfl
    · intro a w2 hfr hN hds hb hd
      exact op_plain Θ_ok ⟨hN, hds, rows_get (E := [(74, (.bool (y92.2 != (0 : Int))))]) ⟨(hd 1 rfl _ _ rfl rfl), trivial⟩⟩ rfl rfl rfl rfl rfl
    · intro a w2 hfr hN hds hb hd
      exact op_plain Θ_ok ⟨hN, hds, rows_get (E := [(10, (.int .i64 y92.1)), (75, (.bool false))]) ⟨hb 10 rfl _ rfl, ((hd 2 rfl _ _ rfl rfl).trans (congrArg _ hc100)), trivial⟩⟩ rfl rfl rfl rfl rfl
    · intro a w2 hfr hN hds hb hd
      exact op_plain Θ_ok ⟨hN, hds, rows_get (E := [(75, (.bool false)), (76, (.int .i64 y92.1))]) ⟨((hd 2 rfl _ _ rfl rfl).trans (congrArg _ hc100)), (hd 3 rfl _ _ rfl rfl), trivial⟩⟩ rfl rfl rfl rfl rfl
    · intro a w2 hfr hN hds hb hd
      exact op_plain Θ_ok ⟨hN, hds, rows_get (E := [(75, (.bool false)), (77, (.bool (decide (y92.1 < (0 : Int)))))]) ⟨((hd 2 rfl _ _ rfl rfl).trans (congrArg _ hc100)), (hd 4 rfl _ _ rfl rfl), trivial⟩⟩ rfl rfl rfl rfl rfl
    · intro a w2 hfr hN hds hb hd
      exact op_plain Θ_ok ⟨hN, hds, rows_get (E := [(78, (.bool (decide (y92.1 < (0 : Int)))))]) ⟨(hd 5 rfl _ _ rfl rfl), trivial⟩⟩ rfl rfl rfl rfl rfl
    · intro a w2 hfr hN hds hb hd
      exact op_plain Θ_ok ⟨hN, hds, rows_get (E := [(10, (.int .i64 y92.1)), (79, (.bool false))]) ⟨hb 10 rfl _ rfl, ((hd 6 rfl _ _ rfl rfl).trans (congrArg _ hc103)), trivial⟩⟩ rfl rfl rfl rfl rfl
    · intro a w2 hfr hN hds hb hd
      have h87 := h87.tr hfr.tr0
      exact op_plain Θ_ok ⟨hN, hds, rows_get (E := [(9, (.slice A98 z75.length c99)), (79, (.bool false))]) ⟨hb 9 rfl _ rfl, ((hd 6 rfl _ _ rfl rfl).trans (congrArg _ hc103)), trivial⟩⟩ rfl rfl rfl rfl rfl
    · intro a w2 hfr hN hds hb hd
      have h87 := h87.tr hfr.tr0
      exact op_plain Θ_ok ⟨hN, hds, rows_get (E := [(79, (.bool false)), (81, (.slice A98 z75.length c99))]) ⟨((hd 6 rfl _ _ rfl rfl).trans (congrArg _ hc103)), (hd 8 rfl _ _ rfl rfl), trivial⟩⟩ rfl rfl rfl rfl rfl
    · intro a w2 hfr hN hds hb hd
      exact op_plain Θ_ok ⟨hN, hds, rows_get (E := [(79, (.bool false)), (80, (.int .i64 y92.1)), (82, (.int .i64 (z75.length : Int)))]) ⟨((hd 6 rfl _ _ rfl rfl).trans (congrArg _ hc103)), (hd 7 rfl _ _ rfl rfl), (hd 9 rfl _ _ rfl rfl), trivial⟩⟩ rfl rfl rfl rfl rfl
    · intro a w2 hfr hN hds hb hd
      exact op_plain Θ_ok ⟨hN, hds, rows_get (E := [(79, (.bool false)), (83, (.bool (decide (y92.1 > (z75.length : Int)))))]) ⟨((hd 6 rfl _ _ rfl rfl).trans (congrArg _ hc103)), (hd 10 rfl _ _ rfl rfl), trivial⟩⟩ rfl rfl rfl rfl rfl
    · intro a w2 hfr hN hds hb hd
      exact op_plain Θ_ok ⟨hN, hds, rows_get (E := [(84, (.bool (decide (y92.1 > (z75.length : Int)))))]) ⟨(hd 11 rfl _ _ rfl rfl), trivial⟩⟩ rfl rfl rfl rfl rfl
    · intro a w2 hfr hN hds hb hd
      have h22 := h22.tr hfr.tr0
      exact op_skip ⟨hN, hds, rows_get (E := [(4, (.slice A60 y19.1.length c61)), (85, (.bool true))]) ⟨hb 4 rfl _ rfl, ((hd 12 rfl _ _ rfl rfl).trans (congrArg _ hc106)), trivial⟩⟩ rfl rfl rfl
    · intro a w2 hfr hN hds hb hd
      exact op_skip ⟨hN, hds, rows_get (E := [(8, (.int .i64 (i73 : Int))), (85, (.bool true))]) ⟨hb 8 rfl _ rfl, ((hd 12 rfl _ _ rfl rfl).trans (congrArg _ hc106)), trivial⟩⟩ rfl rfl rfl
    · intro a w2 hfr hN hds hb hd
      exact op_skip ⟨hN, hds, rows_get (E := [(85, (.bool true)), (87, undef)]) ⟨((hd 12 rfl _ _ rfl rfl).trans (congrArg _ hc106)), (hd 14 rfl _ _ rfl rfl), trivial⟩⟩ rfl rfl rfl
    · intro a w2 hfr hN hds hb hd
      exact op_skip ⟨hN, hds, rows_get (E := [(85, (.bool true)), (86, undef), (88, undef)]) ⟨((hd 12 rfl _ _ rfl rfl).trans (congrArg _ hc106)), (hd 13 rfl _ _ rfl rfl), (hd 15 rfl _ _ rfl rfl), trivial⟩⟩ rfl rfl rfl
    · intro a w2 hfr hN hds hb hd
      exact op_skip ⟨hN, hds, rows_get (E := [(85, (.bool true)), (89, undef)]) ⟨((hd 12 rfl _ _ rfl rfl).trans (congrArg _ hc106)), (hd 16 rfl _ _ rfl rfl), trivial⟩⟩ rfl rfl rfl
    · intro a w2 hfr hN hds hb hd
      have h87 := h87.tr hfr.tr0
      exact op_skip ⟨hN, hds, rows_get (E := [(9, (.slice A98 z75.length c99)), (85, (.bool true))]) ⟨hb 9 rfl _ rfl, ((hd 12 rfl _ _ rfl rfl).trans (congrArg _ hc106)), trivial⟩⟩ rfl rfl rfl
    · intro a w2 hfr hN hds hb hd
      exact op_skip ⟨hN, hds, rows_get (E := [(10, (.int .i64 y92.1)), (85, (.bool true))]) ⟨hb 10 rfl _ rfl, ((hd 12 rfl _ _ rfl rfl).trans (congrArg _ hc106)), trivial⟩⟩ rfl rfl rfl
    · intro a w2 hfr hN hds hb hd
      exact op_skip ⟨hN, hds, rows_get (E := [(85, (.bool true)), (91, undef), (92, undef)]) ⟨((hd 12 rfl _ _ rfl rfl).trans (congrArg _ hc106)), (hd 18 rfl _ _ rfl rfl), (hd 19 rfl _ _ rfl rfl), trivial⟩⟩ rfl rfl rfl
    · intro a w2 hfr hN hds hb hd
      exact op_skip ⟨hN, hds, rows_get (E := [(85, (.bool true)), (90, undef), (93, undef)]) ⟨((hd 12 rfl _ _ rfl rfl).trans (congrArg _ hc106)), (hd 17 rfl _ _ rfl rfl), (hd 20 rfl _ _ rfl rfl), trivial⟩⟩ rfl rfl rfl
    · intro a w2 hfr hN hds hb hd
      exact op_skip ⟨hN, hds, rows_get (E := [(85, (.bool true)), (94, undef)]) ⟨((hd 12 rfl _ _ rfl rfl).trans (congrArg _ hc106)), (hd 21 rfl _ _ rfl rfl), trivial⟩⟩ rfl rfl rfl
    · intro a w2 hfr hN hds hb hd
      exact op_plain Θ_ok ⟨hN, hds, rows_get (E := [(85, (.bool true)), (95, undef)]) ⟨((hd 12 rfl _ _ rfl rfl).trans (congrArg _ hc106)), (hd 22 rfl _ _ rfl rfl), trivial⟩⟩ rfl rfl rfl rfl rfl
    · intro a w2 hfr hN hds hb hd
      exact op_plain Θ_ok ⟨hN, hds, rows_get (E := [(96, (.bool true))]) ⟨(hd 23 rfl _ _ rfl rfl), trivial⟩⟩ rfl rfl rfl rfl rfl
    · intro a w2 hfr hN hds hb hd
      have h22 := h22.tr hfr.tr0
      exact op_skip ⟨hN, hds, rows_get (E := [(4, (.slice A60 y19.1.length c61)), (97, (.bool true))]) ⟨hb 4 rfl _ rfl, (hd 24 rfl _ _ rfl rfl), trivial⟩⟩ rfl rfl rfl
    · intro a w2 hfr hN hds hb hd
      exact op_skip ⟨hN, hds, rows_get (E := [(8, (.int .i64 (i73 : Int))), (97, (.bool true))]) ⟨hb 8 rfl _ rfl, (hd 24 rfl _ _ rfl rfl), trivial⟩⟩ rfl rfl rfl
    · intro a w2 hfr hN hds hb hd
      exact op_skip ⟨hN, hds, rows_get (E := [(97, (.bool true)), (99, undef)]) ⟨(hd 24 rfl _ _ rfl rfl), (hd 26 rfl _ _ rfl rfl), trivial⟩⟩ rfl rfl rfl
    · intro a w2 hfr hN hds hb hd
      exact op_skip ⟨hN, hds, rows_get (E := [(97, (.bool true)), (100, undef)]) ⟨(hd 24 rfl _ _ rfl rfl), (hd 27 rfl _ _ rfl rfl), trivial⟩⟩ rfl rfl rfl
    · intro a w2 hfr hN hds hb hd
      exact op_skip ⟨hN, hds, rows_get (E := [(97, (.bool true)), (98, undef), (101, undef)]) ⟨(hd 24 rfl _ _ rfl rfl), (hd 25 rfl _ _ rfl rfl), (hd 28 rfl _ _ rfl rfl), trivial⟩⟩ rfl rfl rfl
    · intro a w2 hfr hN hds hb hd
      exact op_skip ⟨hN, hds, rows_get (E := [(97, (.bool true)), (102, undef)]) ⟨(hd 24 rfl _ _ rfl rfl), (hd 29 rfl _ _ rfl rfl), trivial⟩⟩ rfl rfl rfl
    · intro a w2 hfr hN hds hb hd
      have h87 := h87.tr hfr.tr0
      exact op_skip ⟨hN, hds, rows_get (E := [(9, (.slice A98 z75.length c99)), (97, (.bool true))]) ⟨hb 9 rfl _ rfl, (hd 24 rfl _ _ rfl rfl), trivial⟩⟩ rfl rfl rfl
    · intro a w2 hfr hN hds hb hd
      exact op_skip ⟨hN, hds, rows_get (E := [(10, (.int .i64 y92.1)), (97, (.bool true))]) ⟨hb 10 rfl _ rfl, (hd 24 rfl _ _ rfl rfl), trivial⟩⟩ rfl rfl rfl
    · intro a w2 hfr hN hds hb hd
      exact op_skip ⟨hN, hds, rows_get (E := [(97, (.bool true)), (104, undef), (105, undef)]) ⟨(hd 24 rfl _ _ rfl rfl), (hd 31 rfl _ _ rfl rfl), (hd 32 rfl _ _ rfl rfl), trivial⟩⟩ rfl rfl rfl
    · intro a w2 hfr hN hds hb hd
      exact op_skip ⟨hN, hds, rows_get (E := [(97, (.bool true)), (103, undef), (106, undef)]) ⟨(hd 24 rfl _ _ rfl rfl), (hd 30 rfl _ _ rfl rfl), (hd 33 rfl _ _ rfl rfl), trivial⟩⟩ rfl rfl rfl
    · intro a w2 hfr hN hds hb hd
      exact op_skip ⟨hN, hds, rows_get (E := [(97, (.bool true)), (107, undef)]) ⟨(hd 24 rfl _ _ rfl rfl), (hd 34 rfl _ _ rfl rfl), trivial⟩⟩ rfl rfl rfl
    · intro a w2 hfr hN hds hb hd
      exact op_plain Θ_ok ⟨hN, hds, rows_get (E := [(97, (.bool true)), (108, undef)]) ⟨(hd 24 rfl _ _ rfl rfl), (hd 35 rfl _ _ rfl rfl), trivial⟩⟩ rfl rfl rfl rfl rfl
    intro a w108 f107 hN hds hb hr
    have h11 := h11.tr f107.tr0
    have h22 := h22.tr f107.tr0
    have T65 := T65.trans f107.tr0
    have T72 := T72.trans f107.tr0
    have hO := f107.ob hO
    have hF := hF.trans f107
    refine wq_go (E := [(3, (.slice A62 y13.length c63)), (4, (.slice A60 y19.1.length c61)), (60, (.slice A62 y13.length c63)), (61, (.int .i64 (y13.length : Int))), (62, (.int .i64 (i73 : Int))), (109, (.bool true))]) hN hds ⟨hb 3 _ rfl rfl, hb 4 _ rfl rfl, hb 60 _ rfl rfl, hb 61 _ rfl rfl, hb 62 _ rfl rfl, (hr 36 _ _ rfl rfl), trivial⟩ ?_
    refine wq_seq ?_
    refine wc_true rfl ?_
    refine wc_seq ?_
    refine wc_region (l := [0]) rfl ?_
    refine wo_seg Θ_ok [0] [(2, (.bool false))] rfl ⟨rfl, trivial⟩ ?_
    refine wo_nil ?_
    refine wq_seq ?_
    refine wc_ret ?_
    cases h
    exact wq_block_ret (wq_then_ret (wq_then_ret (wq_block_ret (wq_then_ret (wq_ret rfl ⟨_, rfl, (bool_is.2 rfl), hF⟩)))))
  obtain ⟨y109, hz110, h⟩ := bind_some h
  obtain ⟨y111, hz112, h⟩ := bind_some h
  obtain ⟨y113, hy114, h⟩ := bind_some h
  rcases bif_some h with ⟨hc115, h⟩ | ⟨hc115, h⟩
  · refine wc_draw mixed [⟨73, [], [11]⟩, ⟨74, [0], []⟩, ⟨75, [1], []⟩, ⟨76, [2], [10]⟩, ⟨77, [2, 3], []⟩, ⟨78, [2, 4], []⟩, ⟨79, [5], []⟩, ⟨80, [6], [10]⟩, ⟨81, [6], [9]⟩, ⟨82, [6, 8], []⟩, ⟨83, [6, 7, 9], []⟩, ⟨84, [6, 10], []⟩, ⟨85, [11], []⟩, ⟨86, [12], [4]⟩, ⟨87, [12], [8]⟩, ⟨88, [12, 14], []⟩, ⟨89, [12, 13, 15], []⟩, ⟨90, [12, 16], []⟩, ⟨91, [12], [9]⟩, ⟨92, [12], [10]⟩, ⟨93, [12, 18, 19], []⟩, ⟨94, [12, 17, 20], []⟩, ⟨95, [12, 21], []⟩, ⟨96, [12, 22], []⟩, ⟨97, [23], []⟩, ⟨98, [24], [4]⟩, ⟨99, [24], [8]⟩, ⟨100, [24, 26], []⟩, ⟨101, [24, 27], []⟩, ⟨102, [24, 25, 28], []⟩, ⟨103, [24, 29], []⟩, ⟨104, [24], [9]⟩, ⟨105, [24], [10]⟩, ⟨106, [24, 31, 32], []⟩, ⟨107, [24, 30, 33], []⟩, ⟨108, [24, 34], []⟩, ⟨109, [24, 35], []⟩] [SP.eq (.int .i64 y92.2), SP.eq (.bool (y92.2 != (0 : Int))), SP.eq (.bool (y92.2 != (0 : Int))), SP.eq (.int .i64 y92.1), SP.eq (.bool (decide (y92.1 < (0 : Int)))), SP.eq (.bool (decide (y92.1 < (0 : Int)))), SP.eq (.bool (decide (y92.1 < (0 : Int)))), SP.eq (.int .i64 y92.1), SP.eq (.slice A98 z75.length c99), SP.eq (.int .i64 (z75.length : Int)), SP.eq (.bool (decide (y92.1 > (z75.length : Int)))), SP.eq (.bool (decide (y92.1 > (z75.length : Int)))), SP.eq (.bool (decide (y92.1 > (z75.length : Int)))), SP.eq (.slice A60 y19.1.length c61), SP.eq (.int .i64 (i73 : Int)), SP.eq (.int .i64 (IntKind.i64.wrap ((2 : Int) * (i73 : Int)))), SP.is (Ty.ptr (Ty.slice (Ty.int .u64))) O77 y109, SP.is (Ty.slice (Ty.int .u64)) O77 y109, SP.eq (.slice A98 z75.length c99), SP.eq (.int .i64 y92.1), SP.is (Ty.slice (Ty.int .u64)) O77 y111, SP.eq (.bool y113), SP.eq (.bool (!y113)), SP.eq (.bool (!y113)), SP.eq (.bool (!y113)), SP.eq undef, SP.eq undef, SP.eq undef, SP.eq undef, SP.eq undef, SP.eq undef, SP.eq undef, SP.eq undef, SP.eq undef, SP.eq undef, SP.eq undef, SP.eq (.bool true)] rfl rfl rfl ⟨?_, ?_, ?_, ?_, ?_, ?_, ?_, ?_, ?_, ?_, ?_, ?_, ?_, ?_, ?_, ?_, ?_, ?_, ?_, ?_, ?_, ?_, ?_, ?_, ?_, ?_, ?_, ?_, ?_, ?_, ?_, ?_, ?_, ?_, ?_, ?_, ?_, trivial⟩ ?_
    · intro a w2 hfr hN hds hb hd
      exact op_plain Θ_ok ⟨hN, hds, rows_get (E := [(11, (.int .i64 y92.2))]) ⟨hb 11 rfl _ rfl, trivial⟩⟩ rfl rfl rfl rfl rfl
    · intro a w2 hfr hN hds hb hd
      exact op_plain Θ_ok ⟨hN, hds, rows_get (E := [(73, (.int .i64 y92.2))]) ⟨(hd 0 rfl _ _ rfl rfl), trivial⟩⟩ rfl rfl rfl rfl rfl
    · intro a w2 hfr hN hds hb hd
      exact op_plain Θ_ok ⟨hN, hds, rows_get (E := [(74, (.bool (y92.2 != (0 : Int))))]) ⟨(hd 1 rfl _ _ rfl rfl), trivial⟩⟩ rfl rfl rfl rfl rfl
    · intro a w2 hfr hN hds hb hd
      exact op_plain Θ_ok ⟨hN, hds, rows_get (E := [(10, (.int .i64 y92.1)), (75, (.bool false))]) ⟨hb 10 rfl _ rfl, ((hd 2 rfl _ _ rfl rfl).trans (congrArg _ hc100)), trivial⟩⟩ rfl rfl rfl rfl rfl
    · intro a w2 hfr hN hds hb hd
      exact op_plain Θ_ok ⟨hN, hds, rows_get (E := [(75, (.bool false)), (76, (.int .i64 y92.1))]) ⟨((hd 2 rfl _ _ rfl rfl).trans (congrArg _ hc100)), (hd 3 rfl _ _ rfl rfl), trivial⟩⟩ rfl rfl rfl rfl rfl
    · intro a w2 hfr hN hds hb hd
      exact op_plain Θ_ok ⟨hN, hds, rows_get (E := [(75, (.bool false)), (77, (.bool (decide (y92.1 < (0 : Int)))))]) ⟨((hd 2 rfl _ _ rfl rfl).trans (congrArg _ hc100)), (hd 4 rfl _ _ rfl rfl), trivial⟩⟩ rfl rfl rfl rfl rfl
    · intro a w2 hfr hN hds hb hd
      exact op_plain Θ_ok ⟨hN, hds, rows_get (E := [(78, (.bool (decide (y92.1 < (0 : Int)))))]) ⟨(hd 5 rfl _ _ rfl rfl), trivial⟩⟩ rfl rfl rfl rfl rfl
    · intro a w2 hfr hN hds hb hd
      exact op_plain Θ_ok ⟨hN, hds, rows_get (E := [(10, (.int .i64 y92.1)), (79, (.bool false))]) ⟨hb 10 rfl _ rfl, ((hd 6 rfl _ _ rfl rfl).trans (congrArg _ hc103)), trivial⟩⟩ rfl rfl rfl rfl rfl
    · intro a w2 hfr hN hds hb hd
      have h87 := h87.tr hfr.tr0
      exact op_plain Θ_ok ⟨hN, hds, rows_get (E := [(9, (.slice A98 z75.length c99)), (79, (.bool false))]) ⟨hb 9 rfl _ rfl, ((hd 6 rfl _ _ rfl rfl).trans (congrArg _ hc103)), trivial⟩⟩ rfl rfl rfl rfl rfl
    · intro a w2 hfr hN hds hb hd
      have h87 := h87.tr hfr.tr0
      exact op_plain Θ_ok ⟨hN, hds, rows_get (E := [(79, (.bool false)), (81, (.slice A98 z75.length c99))]) ⟨((hd 6 rfl _ _ rfl rfl).trans (congrArg _ hc103)), (hd 8 rfl _ _ rfl rfl), trivial⟩⟩ rfl rfl rfl rfl rfl
    · intro a w2 hfr hN hds hb hd
      exact op_plain Θ_ok ⟨hN, hds, rows_get (E := [(79, (.bool false)), (80, (.int .i64 y92.1)), (82, (.int .i64 (z75.length : Int)))]) ⟨((hd 6 rfl _ _ rfl rfl).trans (congrArg _ hc103)), (hd 7 rfl _ _ rfl rfl), (hd 9 rfl _ _ rfl rfl), trivial⟩⟩ rfl rfl rfl rfl rfl
    · intro a w2 hfr hN hds hb hd
      exact op_plain Θ_ok ⟨hN, hds, rows_get (E := [(79, (.bool false)), (83, (.bool (decide (y92.1 > (z75.length : Int)))))]) ⟨((hd 6 rfl _ _ rfl rfl).trans (congrArg _ hc103)), (hd 10 rfl _ _ rfl rfl), trivial⟩⟩ rfl rfl rfl rfl rfl
    · intro a w2 hfr hN hds hb hd
      exact op_plain Θ_ok ⟨hN, hds, rows_get (E := [(84, (.bool (decide (y92.1 > (z75.length : Int)))))]) ⟨(hd 11 rfl _ _ rfl rfl), trivial⟩⟩ rfl rfl rfl rfl rfl
    · intro a w2 hfr hN hds hb hd
      have h22 := h22.tr hfr.tr0
      exact op_plain Θ_ok ⟨hN, hds, rows_get (E := [(4, (.slice A60 y19.1.length c61)), (85, (.bool false))]) ⟨hb 4 rfl _ rfl, ((hd 12 rfl _ _ rfl rfl).trans (congrArg _ hc106)), trivial⟩⟩ rfl rfl rfl rfl rfl
    · intro a w2 hfr hN hds hb hd
      exact op_plain Θ_ok ⟨hN, hds, rows_get (E := [(8, (.int .i64 (i73 : Int))), (85, (.bool false))]) ⟨hb 8 rfl _ rfl, ((hd 12 rfl _ _ rfl rfl).trans (congrArg _ hc106)), trivial⟩⟩ rfl rfl rfl rfl rfl
    · intro a w2 hfr hN hds hb hd
      exact op_plain Θ_ok ⟨hN, hds, rows_get (E := [(85, (.bool false)), (87, (.int .i64 (i73 : Int)))]) ⟨((hd 12 rfl _ _ rfl rfl).trans (congrArg _ hc106)), (hd 14 rfl _ _ rfl rfl), trivial⟩⟩ rfl rfl rfl rfl rfl
    · intro a w2 hfr hN hds hb hd
      have h22 := h22.tr hfr.tr0
      exact op_index (j := (IntKind.i64.wrap ((2 : Int) * (i73 : Int)))) Θ_ok ⟨hN, hds, rows_get (E := [(85, (.bool false)), (86, (.slice A60 y19.1.length c61)), (88, (.int .i64 (IntKind.i64.wrap ((2 : Int) * (i73 : Int)))))]) ⟨((hd 12 rfl _ _ rfl rfl).trans (congrArg _ hc106)), (hd 13 rfl _ _ rfl rfl), (hd 15 rfl _ _ rfl rfl), trivial⟩⟩ rfl rfl rfl rfl rfl rfl rfl rfl rfl h22 rfl (idx_some hz110).1 (idx_some hz110).2
    · intro a w2 hfr hN hds hb hd
      have d118 : (Ty.ptr (Ty.slice (Ty.int .u64))).is O77 w2 (a.tmps.getD 89 undef) y109 := hd 16 rfl _ _ rfl rfl
      obtain ⟨u116, e117⟩ : ∃ v, a.tmps.getD 89 undef = v := ⟨_, rfl⟩
      rw [e117] at d118
      exact op_loadp Θ_ok ⟨hN, hds, rows_get (E := [(85, (.bool false)), (89, u116)]) ⟨((hd 12 rfl _ _ rfl rfl).trans (congrArg _ hc106)), e117, trivial⟩⟩ rfl rfl rfl rfl rfl rfl d118 rfl rfl
    · intro a w2 hfr hN hds hb hd
      have h87 := h87.tr hfr.tr0
      exact op_plain Θ_ok ⟨hN, hds, rows_get (E := [(9, (.slice A98 z75.length c99)), (85, (.bool false))]) ⟨hb 9 rfl _ rfl, ((hd 12 rfl _ _ rfl rfl).trans (congrArg _ hc106)), trivial⟩⟩ rfl rfl rfl rfl rfl
    · intro a w2 hfr hN hds hb hd
      exact op_plain Θ_ok ⟨hN, hds, rows_get (E := [(10, (.int .i64 y92.1)), (85, (.bool false))]) ⟨hb 10 rfl _ rfl, ((hd 12 rfl _ _ rfl rfl).trans (congrArg _ hc106)), trivial⟩⟩ rfl rfl rfl rfl rfl
    · intro a w2 hfr hN hds hb hd
      have h87 := h87.tr hfr.tr0
      exact op_cut (l' := none) (h' := some (.i64, y92.1)) (m' := none) Θ_ok ⟨hN, hds, rows_get (E := [(85, (.bool false)), (91, (.slice A98 z75.length c99)), (92, (.int .i64 y92.1))]) ⟨((hd 12 rfl _ _ rfl rfl).trans (congrArg _ hc106)), (hd 18 rfl _ _ rfl rfl), (hd 19 rfl _ _ rfl rfl), trivial⟩⟩ rfl rfl rfl rfl rfl rfl rfl rfl rfl rfl rfl rfl h87 hz112
    · intro a w2 hfr hN hds hb hd
      have d121 : (Ty.slice (Ty.int .u64)).is O77 w2 (a.tmps.getD 90 undef) y109 := hd 17 rfl _ _ rfl rfl
      obtain ⟨u119, e120⟩ : ∃ v, a.tmps.getD 90 undef = v := ⟨_, rfl⟩
      rw [e120] at d121
      have d124 : (Ty.slice (Ty.int .u64)).is O77 w2 (a.tmps.getD 93 undef) y111 := hd 20 rfl _ _ rfl rfl
      obtain ⟨u122, e123⟩ : ∃ v, a.tmps.getD 93 undef = v := ⟨_, rfl⟩
      rw [e123] at d124
      exact (op_call ⟨hN, hds, rows_get (E := [(85, (.bool false)), (90, u119), (93, u122)]) ⟨((hd 12 rfl _ _ rfl rfl).trans (congrArg _ hc106)), e120, e123, trivial⟩⟩ rfl rfl rfl rfl ent25 rfl (s_Equal_c (hfr.ob hO) d121 d124 hy114)).weaken (fun u w3 ⟨hu, hf⟩ => ⟨bool_is.1 hu, hf⟩)
    · intro a w2 hfr hN hds hb hd
      exact op_plain Θ_ok ⟨hN, hds, rows_get (E := [(85, (.bool false)), (94, (.bool y113))]) ⟨((hd 12 rfl _ _ rfl rfl).trans (congrArg _ hc106)), (hd 21 rfl _ _ rfl rfl), trivial⟩⟩ rfl rfl rfl rfl rfl
    · intro a w2 hfr hN hds hb hd
      exact op_plain Θ_ok ⟨hN, hds, rows_get (E := [(85, (.bool false)), (95, (.bool (!y113)))]) ⟨((hd 12 rfl _ _ rfl rfl).trans (congrArg _ hc106)), (hd 22 rfl _ _ rfl rfl), trivial⟩⟩ rfl rfl rfl rfl rfl
    · intro a w2 hfr hN hds hb hd
      exact op_plain Θ_ok ⟨hN, hds, rows_get (E := [(96, (.bool (!y113)))]) ⟨(hd 23 rfl _ _ rfl rfl), trivial⟩⟩ rfl rfl rfl rfl rfl
    · intro a w2 hfr hN hds hb hd
      have h22 := h22.tr hfr.tr0
      exact op_skip ⟨hN, hds, rows_get (E := [(4, (.slice A60 y19.1.length c61)), (97, (.bool true))]) ⟨hb 4 rfl _ rfl, ((hd 24 rfl _ _ rfl rfl).trans (congrArg _ hc115)), trivial⟩⟩ rfl rfl rfl
    · intro a w2 hfr hN hds hb hd
      exact op_skip ⟨hN, hds, rows_get (E := [(8, (.int .i64 (i73 : Int))), (97, (.bool true))]) ⟨hb 8 rfl _ rfl, ((hd 24 rfl _ _ rfl rfl).trans (congrArg _ hc115)), trivial⟩⟩ rfl rfl rfl
    · intro a w2 hfr hN hds hb hd
      exact op_skip ⟨hN, hds, rows_get (E := [(97, (.bool true)), (99, undef)]) ⟨((hd 24 rfl _ _ rfl rfl).trans (congrArg _ hc115)), (hd 26 rfl _ _ rfl rfl), trivial⟩⟩ rfl rfl rfl
    · intro a w2 hfr hN hds hb hd
      exact op_skip ⟨hN, hds, rows_get (E := [(97, (.bool true)), (100, undef)]) ⟨((hd 24 rfl _ _ rfl rfl).trans (congrArg _ hc115)), (hd 27 rfl _ _ rfl rfl), trivial⟩⟩ rfl rfl rfl
    · intro a w2 hfr hN hds hb hd
      exact op_skip ⟨hN, hds, rows_get (E := [(97, (.bool true)), (98, undef), (101, undef)]) ⟨((hd 24 rfl _ _ rfl rfl).trans (congrArg _ hc115)), (hd 25 rfl _ _ rfl rfl), (hd 28 rfl _ _ rfl rfl), trivial⟩⟩ rfl rfl rfl
    · intro a w2 hfr hN hds hb hd
      exact op_skip ⟨hN, hds, rows_get (E := [(97, (.bool true)), (102, undef)]) ⟨((hd 24 rfl _ _ rfl rfl).trans (congrArg _ hc115)), (hd 29 rfl _ _ rfl rfl), trivial⟩⟩ rfl rfl rfl
    · intro a w2 hfr hN hds hb hd
      have h87 := h87.tr hfr.tr0
      exact op_skip ⟨hN, hds, rows_get (E := [(9, (.slice A98 z75.length c99)), (97, (.bool true))]) ⟨hb 9 rfl _ rfl, ((hd 24 rfl _ _ rfl rfl).trans (congrArg _ hc115)), trivial⟩⟩ rfl rfl rfl
    · intro a w2 hfr hN hds hb hd
      exact op_skip ⟨hN, hds, rows_get (E := [(10, (.int .i64 y92.1)), (97, (.bool true))]) ⟨hb 10 rfl _ rfl, ((hd 24 rfl _ _ rfl rfl).trans (congrArg _ hc115)), trivial⟩⟩ rfl rfl rfl
    · intro a w2 hfr hN hds hb hd
      exact op_skip ⟨hN, hds, rows_get (E := [(97, (.bool true)), (104, undef), (105, undef)]) ⟨((hd 24 rfl _ _ rfl rfl).trans (congrArg _ hc115)), (hd 31 rfl _ _ rfl rfl), (hd 32 rfl _ _ rfl rfl), trivial⟩⟩ rfl rfl rfl
    · intro a w2 hfr hN hds hb hd
      exact op_skip ⟨hN, hds, rows_get (E := [(97, (.bool true)), (103, undef), (106, undef)]) ⟨((hd 24 rfl _ _ rfl rfl).trans (congrArg _ hc115)), (hd 30 rfl _ _ rfl rfl), (hd 33 rfl _ _ rfl rfl), trivial⟩⟩ rfl rfl rfl
    · intro a w2 hfr hN hds hb hd
      exact op_skip ⟨hN, hds, rows_get (E := [(97, (.bool true)), (107, undef)]) ⟨((hd 24 rfl _ _ rfl rfl).trans (congrArg _ hc115)), (hd 34 rfl _ _ rfl rfl), trivial⟩⟩ rfl rfl rfl
    · intro a w2 hfr hN hds hb hd
      exact op_plain Θ_ok ⟨hN, hds, rows_get (E := [(97, (.bool true)), (108, undef)]) ⟨((hd 24 rfl _ _ rfl rfl).trans (congrArg _ hc115)), (hd 35 rfl _ _ rfl rfl), trivial⟩⟩ rfl rfl rfl rfl rfl
    intro a w126 f125 hN hds hb hr
    have h11 := h11.tr f125.tr0
    have h22 := h22.tr f125.tr0
    have T65 := T65.trans f125.tr0
    have T72 := T72.trans f125.tr0
    have hO := f125.ob hO
    have hF := hF.trans f125
    refine wq_go (E := [(3, (.slice A62 y13.length c63)), (4, (.slice A60 y19.1.length c61)), (60, (.slice A62 y13.length c63)), (61, (.int .i64 (y13.length : Int))), (62, (.int .i64 (i73 : Int))), (109, (.bool true))]) hN hds ⟨hb 3 _ rfl rfl, hb 4 _ rfl rfl, hb 60 _ rfl rfl, hb 61 _ rfl rfl, hb 62 _ rfl rfl, (hr 36 _ _ rfl rfl), trivial⟩ ?_
    refine wq_seq ?_
    refine wc_true rfl ?_
    refine wc_seq ?_
    refine wc_region (l := [0]) rfl ?_
    refine wo_seg Θ_ok [0] [(2, (.bool false))] rfl ⟨rfl, trivial⟩ ?_
    refine wo_nil ?_
    refine wq_seq ?_
    refine wc_ret ?_
    cases h
    exact wq_block_ret (wq_then_ret (wq_then_ret (wq_block_ret (wq_then_ret (wq_ret rfl ⟨_, rfl, (bool_is.2 rfl), hF⟩)))))
  obtain ⟨y127, hz128, h⟩ := bind_some h
  obtain ⟨y129, hz130, h⟩ := bind_some h
  obtain ⟨y131, hy132, h⟩ := bind_some h
  refine wc_draw mixed [⟨73, [], [11]⟩, ⟨74, [0], []⟩, ⟨75, [1], []⟩, ⟨76, [2], [10]⟩, ⟨77, [2, 3], []⟩, ⟨78, [2, 4], []⟩, ⟨79, [5], []⟩, ⟨80, [6], [10]⟩, ⟨81, [6], [9]⟩, ⟨82, [6, 8], []⟩, ⟨83, [6, 7, 9], []⟩, ⟨84, [6, 10], []⟩, ⟨85, [11], []⟩, ⟨86, [12], [4]⟩, ⟨87, [12], [8]⟩, ⟨88, [12, 14], []⟩, ⟨89, [12, 13, 15], []⟩, ⟨90, [12, 16], []⟩, ⟨91, [12], [9]⟩, ⟨92, [12], [10]⟩, ⟨93, [12, 18, 19], []⟩, ⟨94, [12, 17, 20], []⟩, ⟨95, [12, 21], []⟩, ⟨96, [12, 22], []⟩, ⟨97, [23], []⟩, ⟨98, [24], [4]⟩, ⟨99, [24], [8]⟩, ⟨100, [24, 26], []⟩, ⟨101, [24, 27], []⟩, ⟨102, [24, 25, 28], []⟩, ⟨103, [24, 29], []⟩, ⟨104, [24], [9]⟩, ⟨105, [24], [10]⟩, ⟨106, [24, 31, 32], []⟩, ⟨107, [24, 30, 33], []⟩, ⟨108, [24, 34], []⟩, ⟨109, [24, 35], []⟩] [SP.eq (.int .i64 y92.2), SP.eq (.bool (y92.2 != (0 : Int))), SP.eq (.bool (y92.2 != (0 : Int))), SP.eq (.int .i64 y92.1), SP.eq (.bool (decide (y92.1 < (0 : Int)))), SP.eq (.bool (decide (y92.1 < (0 : Int)))), SP.eq (.bool (decide (y92.1 < (0 : Int)))), SP.eq (.int .i64 y92.1), SP.eq (.slice A98 z75.length c99), SP.eq (.int .i64 (z75.length : Int)), SP.eq (.bool (decide (y92.1 > (z75.length : Int)))), SP.eq (.bool (decide (y92.1 > (z75.length : Int)))), SP.eq (.bool (decide (y92.1 > (z75.length : Int)))), SP.eq (.slice A60 y19.1.length c61), SP.eq (.int .i64 (i73 : Int)), SP.eq (.int .i64 (IntKind.i64.wrap ((2 : Int) * (i73 : Int)))), SP.is (Ty.ptr (Ty.slice (Ty.int .u64))) O77 y109, SP.is (Ty.slice (Ty.int .u64)) O77 y109, SP.eq (.slice A98 z75.length c99), SP.eq (.int .i64 y92.1), SP.is (Ty.slice (Ty.int .u64)) O77 y111, SP.eq (.bool y113), SP.eq (.bool (!y113)), SP.eq (.bool (!y113)), SP.eq (.bool (!y113)), SP.eq (.slice A60 y19.1.length c61), SP.eq (.int .i64 (i73 : Int)), SP.eq (.int .i64 (IntKind.i64.wrap ((2 : Int) * (i73 : Int)))), SP.eq (.int .i64 (IntKind.i64.wrap ((IntKind.i64.wrap ((2 : Int) * (i73 : Int))) + (1 : Int)))), SP.is (Ty.ptr (Ty.slice (Ty.int .u64))) O77 y127, SP.is (Ty.slice (Ty.int .u64)) O77 y127, SP.eq (.slice A98 z75.length c99), SP.eq (.int .i64 y92.1), SP.is (Ty.slice (Ty.int .u64)) O77 y129, SP.eq (.bool y131), SP.eq (.bool (!y131)), SP.eq (.bool (!y131))] rfl rfl rfl ⟨?_, ?_, ?_, ?_, ?_, ?_, ?_, ?_, ?_, ?_, ?_, ?_, ?_, ?_, ?_, ?_, ?_, ?_, ?_, ?_, ?_, ?_, ?_, ?_, ?_, ?_, ?_, ?_, ?_, ?_, ?_, ?_, ?_, ?_, ?_, ?_, ?_, trivial⟩ ?_
  · intro a w2 hfr hN hds hb hd
    exact op_plain Θ_ok ⟨hN, hds, rows_get (E := [(11, (.int .i64 y92.2))]) ⟨hb 11 rfl _ rfl, trivial⟩⟩ rfl rfl rfl rfl rfl
  · intro a w2 hfr hN hds hb hd
    exact op_plain Θ_ok ⟨hN, hds, rows_get (E := [(73, (.int .i64 y92.2))]) ⟨(hd 0 rfl _ _ rfl rfl), trivial⟩⟩ rfl rfl rfl rfl rfl
  · intro a w2 hfr hN hds hb hd
    exact op_plain Θ_ok ⟨hN, hds, rows_get (E := [(74, (.bool (y92.2 != (0 : Int))))]) ⟨(hd 1 rfl _ _ rfl rfl), trivial⟩⟩ rfl rfl rfl rfl rfl
  · intro a w2 hfr hN hds hb hd
    exact op_plain Θ_ok ⟨hN, hds, rows_get (E := [(10, (.int .i64 y92.1)), (75, (.bool false))]) ⟨hb 10 rfl _ rfl, ((hd 2 rfl _ _ rfl rfl).trans (congrArg _ hc100)), trivial⟩⟩ rfl rfl rfl rfl rfl
  · intro a w2 hfr hN hds hb hd
    exact op_plain Θ_ok ⟨hN, hds, rows_get (E := [(75, (.bool false)), (76, (.int .i64 y92.1))]) ⟨((hd 2 rfl _ _ rfl rfl).trans (congrArg _ hc100)), (hd 3 rfl _ _ rfl rfl), trivial⟩⟩ rfl rfl rfl rfl rfl
  · intro a w2 hfr hN hds hb hd
    exact op_plain Θ_ok ⟨hN, hds, rows_get (E := [(75, (.bool false)), (77, (.bool (decide (y92.1 < (0 : Int)))))]) ⟨((hd 2 rfl _ _ rfl rfl).trans (congrArg _ hc100)), (hd 4 rfl _ _ rfl rfl), trivial⟩⟩ rfl rfl rfl rfl rfl
  · intro a w2 hfr hN hds hb hd
    exact op_plain Θ_ok ⟨hN, hds, rows_get (E := [(78, (.bool (decide (y92.1 < (0 : Int)))))]) ⟨(hd 5 rfl _ _ rfl rfl), trivial⟩⟩ rfl rfl rfl rfl rfl
  · intro a w2 hfr hN hds hb hd
    exact op_plain Θ_ok ⟨hN, hds, rows_get (E := [(10, (.int .i64 y92.1)), (79, (.bool false))]) ⟨hb 10 rfl _ rfl, ((hd 6 rfl _ _ rfl rfl).trans (congrArg _ hc103)), trivial⟩⟩ rfl rfl rfl rfl rfl
  · intro a w2 hfr hN hds hb hd
    have h87 := h87.tr hfr.tr0
    exact op_plain Θ_ok ⟨hN, hds, rows_get (E := [(9, (.slice A98 z75.length c99)), (79, (.bool false))]) ⟨hb 9 rfl _ rfl, ((hd 6 rfl _ _ rfl rfl).trans (congrArg _ hc103)), trivial⟩⟩ rfl rfl rfl rfl rfl
  · intro a w2 hfr hN hds hb hd
    have h87 := h87.tr hfr.tr0
    exact op_plain Θ_ok ⟨hN, hds, rows_get (E := [(79, (.bool false)), (81, (.slice A98 z75.length c99))]) ⟨((hd 6 rfl _ _ rfl rfl).trans (congrArg _ hc103)), (hd 8 rfl _ _ rfl rfl), trivial⟩⟩ rfl rfl rfl rfl rfl
  · intro a w2 hfr hN hds hb hd
    exact op_plain Θ_ok ⟨hN, hds, rows_get (E := [(79, (.bool false)), (80, (.int .i64 y92.1)), (82, (.int .i64 (z75.length : Int)))]) ⟨((hd 6 rfl _ _ rfl rfl).trans (congrArg _ hc103)), (hd 7 rfl _ _ rfl rfl), (hd 9 rfl _ _ rfl rfl), trivial⟩⟩ rfl rfl rfl rfl rfl
  · intro a w2 hfr hN hds hb hd
    exact op_plain Θ_ok ⟨hN, hds, rows_get (E := [(79, (.bool false)), (83, (.bool (decide (y92.1 > (z75.length : Int)))))]) ⟨((hd 6 rfl _ _ rfl rfl).trans (congrArg _ hc103)), (hd 10 rfl _ _ rfl rfl), trivial⟩⟩ rfl rfl rfl rfl rfl
  · intro a w2 hfr hN hds hb hd
    exact op_plain Θ_ok ⟨hN, hds, rows_get (E := [(84, (.bool (decide (y92.1 > (z75.length : Int)))))]) ⟨(hd 11 rfl _ _ rfl rfl), trivial⟩⟩ rfl rfl rfl rfl rfl
  · intro a w2 hfr hN hds hb hd
    have h22 := h22.tr hfr.tr0
    exact op_plain Θ_ok ⟨hN, hds, rows_get (E := [(4, (.slice A60 y19.1.length c61)), (85, (.bool false))]) ⟨hb 4 rfl _ rfl, ((hd 12 rfl _ _ rfl rfl).trans (congrArg _ hc106)), trivial⟩⟩ rfl rfl rfl rfl rfl
  · intro a w2 hfr hN hds hb hd
    exact op_plain Θ_ok ⟨hN, hds, rows_get (E := [(8, (.int .i64 (i73 : Int))), (85, (.bool false))]) ⟨hb 8 rfl _ rfl, ((hd 12 rfl _ _ rfl rfl).trans (congrArg _ hc106)), trivial⟩⟩ rfl rfl rfl rfl rfl
  · intro a w2 hfr hN hds hb hd
    exact op_plain Θ_ok ⟨hN, hds, rows_get (E := [(85, (.bool false)), (87, (.int .i64 (i73 : Int)))]) ⟨((hd 12 rfl _ _ rfl rfl).trans (congrArg _ hc106)), (hd 14 rfl _ _ rfl rfl), trivial⟩⟩ rfl rfl rfl rfl rfl
  · intro a w2 hfr hN hds hb hd
    have h22 := h22.tr hfr.tr0
    exact op_index (j := (IntKind.i64.wrap ((2 : Int) * (i73 : Int)))) Θ_ok ⟨hN, hds, rows_get (E := [(85, (.bool false)), (86, (.slice A60 y19.1.length c61)), (88, (.int .i64 (IntKind.i64.wrap ((2 : Int) * (i73 : Int)))))]) ⟨((hd 12 rfl _ _ rfl rfl).trans (congrArg _ hc106)), (hd 13 rfl _ _ rfl rfl), (hd 15 rfl _ _ rfl rfl), trivial⟩⟩ rfl rfl rfl rfl rfl rfl rfl rfl rfl h22 rfl (idx_some hz110).1 (idx_some hz110).2
  · intro a w2 hfr hN hds hb hd
    have d135 : (Ty.ptr (Ty.slice (Ty.int .u64))).is O77 w2 (a.tmps.getD 89 undef) y109 := hd 16 rfl _ _ rfl rfl
    obtain ⟨u133, e134⟩ : ∃ v, a.tmps.getD 89 undef = v := ⟨_, rfl⟩
    rw [e134] at d135
    exact op_loadp Θ_ok ⟨hN, hds, rows_get (E := [(85, (.bool false)), (89, u133)]) ⟨((hd 12 rfl _ _ rfl rfl).trans (congrArg _ hc106)), e134, trivial⟩⟩ rfl rfl rfl rfl rfl rfl d135 rfl rfl
  · intro a w2 hfr hN hds hb hd
    have h87 := h87.tr hfr.tr0
    exact op_plain Θ_ok ⟨hN, hds, rows_get (E := [(9, (.slice A98 z75.length c99)), (85, (.bool false))]) ⟨hb 9 rfl _ rfl, ((hd 12 rfl _ _ rfl rfl).trans (congrArg _ hc106)), trivial⟩⟩ rfl rfl rfl rfl rfl
  · intro a w2 hfr hN hds hb hd
    exact op_plain Θ_ok ⟨hN, hds, rows_get (E := [(10, (.int .i64 y92.1)), (85, (.bool false))]) ⟨hb 10 rfl _ rfl, ((hd 12 rfl _ _ rfl rfl).trans (congrArg _ hc106)), trivial⟩⟩ rfl rfl rfl rfl rfl
  · intro a w2 hfr hN hds hb hd
    have h87 := h87.tr hfr.tr0
    exact op_cut (l' := none) (h' := some (.i64, y92.1)) (m' := none) Θ_ok ⟨hN, hds, rows_get (E := [(85, (.bool false)), (91, (.slice A98 z75.length c99)), (92, (.int .i64 y92.1))]) ⟨((hd 12 rfl _ _ rfl rfl).trans (congrArg _ hc106)), (hd 18 rfl _ _ rfl rfl), (hd 19 rfl _ _ rfl rfl), trivial⟩⟩ rfl rfl rfl rfl rfl rfl rfl rfl rfl rfl rfl rfl h87 hz112
  · intro a w2 hfr hN hds hb hd
    have d138 : (Ty.slice (Ty.int .u64)).is O77 w2 (a.tmps.getD 90 undef) y109 := hd 17 rfl _ _ rfl rfl
    obtain ⟨u136, e137⟩ : ∃ v, a.tmps.getD 90 undef = v := ⟨_, rfl⟩
    rw [e137] at d138
    have d141 : (Ty.slice (Ty.int .u64)).is O77 w2 (a.tmps.getD 93 undef) y111 := hd 20 rfl _ _ rfl rfl
    obtain ⟨u139, e140⟩ : ∃ v, a.tmps.getD 93 undef = v := ⟨_, rfl⟩
    rw [e140] at d141
    exact (op_call ⟨hN, hds, rows_get (E := [(85, (.bool false)), (90, u136), (93, u139)]) ⟨((hd 12 rfl _ _ rfl rfl).trans (congrArg _ hc106)), e137, e140, trivial⟩⟩ rfl rfl rfl rfl ent25 rfl (s_Equal_c (hfr.ob hO) d138 d141 hy114)).weaken (fun u w3 ⟨hu, hf⟩ => ⟨bool_is.1 hu, hf⟩)
  · intro a w2 hfr hN hds hb hd
    exact op_plain Θ_ok ⟨hN, hds, rows_get (E := [(85, (.bool false)), (94, (.bool y113))]) ⟨((hd 12 rfl _ _ rfl rfl).trans (congrArg _ hc106)), (hd 21 rfl _ _ rfl rfl), trivial⟩⟩ rfl rfl rfl rfl rfl
  · intro a w2 hfr hN hds hb hd
    exact op_plain Θ_ok ⟨hN, hds, rows_get (E := [(85, (.bool false)), (95, (.bool (!y113)))]) ⟨((hd 12 rfl _ _ rfl rfl).trans (congrArg _ hc106)), (hd 22 rfl _ _ rfl rfl), trivial⟩⟩ rfl rfl rfl rfl rfl
  · intro a w2 hfr hN hds hb hd
    exact op_plain Θ_ok ⟨hN, hds, rows_get (E := [(96, (.bool (!y113)))]) ⟨(hd 23 rfl _ _ rfl rfl), trivial⟩⟩ rfl rfl rfl rfl rfl
  · intro a w2 hfr hN hds hb hd
    have h22 := h22.tr hfr.tr0
    exact op_plain Θ_ok ⟨hN, hds, rows_get (E := [(4, (.slice A60 y19.1.length c61)), (97, (.bool false))]) ⟨hb 4 rfl _ rfl, ((hd 24 rfl _ _ rfl rfl).trans (congrArg _ hc115)), trivial⟩⟩ rfl rfl rfl rfl rfl
  · intro a w2 hfr hN hds hb hd
    exact op_plain Θ_ok ⟨hN, hds, rows_get (E := [(8, (.int .i64 (i73 : Int))), (97, (.bool false))]) ⟨hb 8 rfl _ rfl, ((hd 24 rfl _ _ rfl rfl).trans (congrArg _ hc115)), trivial⟩⟩ rfl rfl rfl rfl rfl
  · intro a w2 hfr hN hds hb hd
    exact op_plain Θ_ok ⟨hN, hds, rows_get (E := [(97, (.bool false)), (99, (.int .i64 (i73 : Int)))]) ⟨((hd 24 rfl _ _ rfl rfl).trans (congrArg _ hc115)), (hd 26 rfl _ _ rfl rfl), trivial⟩⟩ rfl rfl rfl rfl rfl
  · intro a w2 hfr hN hds hb hd
    exact op_plain Θ_ok ⟨hN, hds, rows_get (E := [(97, (.bool false)), (100, (.int .i64 (IntKind.i64.wrap ((2 : Int) * (i73 : Int)))))]) ⟨((hd 24 rfl _ _ rfl rfl).trans (congrArg _ hc115)), (hd 27 rfl _ _ rfl rfl), trivial⟩⟩ rfl rfl rfl rfl rfl
  · intro a w2 hfr hN hds hb hd
    have h22 := h22.tr hfr.tr0
    exact op_index (j := (IntKind.i64.wrap ((IntKind.i64.wrap ((2 : Int) * (i73 : Int))) + (1 : Int)))) Θ_ok ⟨hN, hds, rows_get (E := [(97, (.bool false)), (98, (.slice A60 y19.1.length c61)), (101, (.int .i64 (IntKind.i64.wrap ((IntKind.i64.wrap ((2 : Int) * (i73 : Int))) + (1 : Int)))))]) ⟨((hd 24 rfl _ _ rfl rfl).trans (congrArg _ hc115)), (hd 25 rfl _ _ rfl rfl), (hd 28 rfl _ _ rfl rfl), trivial⟩⟩ rfl rfl rfl rfl rfl rfl rfl rfl rfl h22 rfl (idx_some hz128).1 (idx_some hz128).2
  · intro a w2 hfr hN hds hb hd
    have d144 : (Ty.ptr (Ty.slice (Ty.int .u64))).is O77 w2 (a.tmps.getD 102 undef) y127 := hd 29 rfl _ _ rfl rfl
    obtain ⟨u142, e143⟩ : ∃ v, a.tmps.getD 102 undef = v := ⟨_, rfl⟩
    rw [e143] at d144
    exact op_loadp Θ_ok ⟨hN, hds, rows_get (E := [(97, (.bool false)), (102, u142)]) ⟨((hd 24 rfl _ _ rfl rfl).trans (congrArg _ hc115)), e143, trivial⟩⟩ rfl rfl rfl rfl rfl rfl d144 rfl rfl
  · intro a w2 hfr hN hds hb hd
    have h87 := h87.tr hfr.tr0
    exact op_plain Θ_ok ⟨hN, hds, rows_get (E := [(9, (.slice A98 z75.length c99)), (97, (.bool false))]) ⟨hb 9 rfl _ rfl, ((hd 24 rfl _ _ rfl rfl).trans (congrArg _ hc115)), trivial⟩⟩ rfl rfl rfl rfl rfl
  · intro a w2 hfr hN hds hb hd
    exact op_plain Θ_ok ⟨hN, hds, rows_get (E := [(10, (.int .i64 y92.1)), (97, (.bool false))]) ⟨hb 10 rfl _ rfl, ((hd 24 rfl _ _ rfl rfl).trans (congrArg _ hc115)), trivial⟩⟩ rfl rfl rfl rfl rfl
  · intro a w2 hfr hN hds hb hd
    have h87 := h87.tr hfr.tr0
    exact op_cut (l' := some (.i64, y92.1)) (h' := none) (m' := none) Θ_ok ⟨hN, hds, rows_get (E := [(97, (.bool false)), (104, (.slice A98 z75.length c99)), (105, (.int .i64 y92.1))]) ⟨((hd 24 rfl _ _ rfl rfl).trans (congrArg _ hc115)), (hd 31 rfl _ _ rfl rfl), (hd 32 rfl _ _ rfl rfl), trivial⟩⟩ rfl rfl rfl rfl rfl rfl rfl rfl rfl rfl rfl rfl h87 hz130
  · intro a w2 hfr hN hds hb hd
    have d147 : (Ty.slice (Ty.int .u64)).is O77 w2 (a.tmps.getD 103 undef) y127 := hd 30 rfl _ _ rfl rfl
    obtain ⟨u145, e146⟩ : ∃ v, a.tmps.getD 103 undef = v := ⟨_, rfl⟩
    rw [e146] at d147
    have d150 : (Ty.slice (Ty.int .u64)).is O77 w2 (a.tmps.getD 106 undef) y129 := hd 33 rfl _ _ rfl rfl
    obtain ⟨u148, e149⟩ : ∃ v, a.tmps.getD 106 undef = v := ⟨_, rfl⟩
    rw [e149] at d150
    exact (op_call ⟨hN, hds, rows_get (E := [(97, (.bool false)), (103, u145), (106, u148)]) ⟨((hd 24 rfl _ _ rfl rfl).trans (congrArg _ hc115)), e146, e149, trivial⟩⟩ rfl rfl rfl rfl ent25 rfl (s_Equal_c (hfr.ob hO) d147 d150 hy132)).weaken (fun u w3 ⟨hu, hf⟩ => ⟨bool_is.1 hu, hf⟩)
  · intro a w2 hfr hN hds hb hd
    exact op_plain Θ_ok ⟨hN, hds, rows_get (E := [(97, (.bool false)), (107, (.bool y131))]) ⟨((hd 24 rfl _ _ rfl rfl).trans (congrArg _ hc115)), (hd 34 rfl _ _ rfl rfl), trivial⟩⟩ rfl rfl rfl rfl rfl
  · intro a w2 hfr hN hds hb hd
    exact op_plain Θ_ok ⟨hN, hds, rows_get (E := [(97, (.bool false)), (108, (.bool (!y131)))]) ⟨((hd 24 rfl _ _ rfl rfl).trans (congrArg _ hc115)), (hd 35 rfl _ _ rfl rfl), trivial⟩⟩ rfl rfl rfl rfl rfl
  intro a w152 f151 hN hds hb hr
  have h11 := h11.tr f151.tr0
  have h22 := h22.tr f151.tr0
  have T65 := T65.trans f151.tr0
  have T72 := T72.trans f151.tr0
  have hO := f151.ob hO
  have hF := hF.trans f151
  refine wq_go (E := [(3, (.slice A62 y13.length c63)), (4, (.slice A60 y19.1.length c61)), (60, (.slice A62 y13.length c63)), (61, (.int .i64 (y13.length : Int))), (62, (.int .i64 (i73 : Int))), (109, (.bool (!y131)))]) hN hds ⟨hb 3 _ rfl rfl, hb 4 _ rfl rfl, hb 60 _ rfl rfl, hb 61 _ rfl rfl, hb 62 _ rfl rfl, (hr 36 _ _ rfl rfl), trivial⟩ ?_
  refine wq_seq ?_
  rcases bif_some h with ⟨hc153, h⟩ | ⟨hc153, h⟩
  rotate_left
  · refine wc_known_false rfl hc153 ?_
    refine wc_skip ?_
    refine wq_block (wq_seq ?_)
    refine wc_region (l := [0, 1]) rfl ?_
    refine wo_seg Θ_ok [0, 1] [(3, (.slice A62 y13.length c63)), (4, (.slice A60 y19.1.length c61)), (60, (.slice A62 y13.length c63)), (61, (.int .i64 (y13.length : Int))), (62, (.int .i64 (IntKind.i64.wrap ((i73 : Int) + (1 : Int)))))] rfl ⟨rfl, rfl, rfl, rfl, rfl, trivial⟩ ?_
    refine wo_nil ?_
    exact wq_next rest74.length [(3, (.slice A62 y13.length c63)), (4, (.slice A60 y19.1.length c61)), (60, (.slice A62 y13.length c63)), (61, (.int .i64 (y13.length : Int))), (62, (.int .i64 ((i73 + 1 : Nat) : Int)))] (Nat.lt_succ_self _) ⟨rfl, rfl, rfl, rfl, congrArg (fun z => some (Value.int .i64 z)) (wrap_succ hl83 (Nat.le_trans hlc63 hmc63)), trivial⟩ ⟨rest74, i73 + 1, O77, rfl, hd76, rfl, T72, hO, hS, hF, h⟩
  refine wc_known_true rfl hc153 ?_
  refine wc_seq ?_
  refine wc_region (l := [0]) rfl ?_
  refine wo_seg Θ_ok [0] [(2, (.bool false))] rfl ⟨rfl, trivial⟩ ?_
  refine wo_nil ?_
  refine wq_seq ?_
  refine wc_ret ?_
  cases h
  exact wq_block_ret (wq_then_ret (wq_then_ret (wq_block_ret (wq_then_ret (wq_ret rfl ⟨_, rfl, (bool_is.2 rfl), hF⟩)))))
end Go.Proofs.Ytdemjanelbajlaa
