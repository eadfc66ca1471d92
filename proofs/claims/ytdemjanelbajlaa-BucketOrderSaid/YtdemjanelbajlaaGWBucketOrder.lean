/-
  The program's functions compute the plain ones (printed by a tool of the prover's).
-/
import Derived.Test.YtdemjanelbajlaaGWalk4
namespace Go.Proofs.Ytdemjanelbajlaa
open Go.RowKit Go.Dc Go.Shelf
set_option maxRecDepth 100000 in
set_option maxHeartbeats 4000000 in
theorem l_Order_c {O : List Nat} {w : World} (hO : OB O w) {fuel : Nat} {v0 : Value} {x0 : List Int} (h0 : (Ty.slice (Ty.int .u64)).is O w v0 x0) {r : Bool} (h : l_Order fuel x0 = some r) : Calls Try.prog 9 #[v0] w (Gives (rt1 Ty.bool) O w r) := by
  have hF := Fr.refl [] w
  have hO0 := hO
  have hS := Sub.refl O
  refine calls_of (args := [v0]) (N := 122) Try.func9 rfl rfl rfl ?_
  unfold l_Order at h
  refine wc_seq ?_
  refine wc_region (l := [0]) rfl ?_
  refine wo_seg Θ_ok [0] [(0, v0)] rfl ⟨rfl, trivial⟩ ?_
  refine wo_nil ?_
  refine wq_seq ?_
  refine wc_seq ?_
  refine wc_seq ?_
  refine wc_region (l := [0, 1]) rfl ?_
  obtain ⟨y6, hy7, h⟩ := bind_some h
  refine wo_gives rfl rfl rfl rfl rfl ent10 rfl (r_wakes_c hO hy7) (fun v2 w3 h4 f5 => ?_)
  have h0 := h0.tr f5.tr0
  have hO := f5.ob hO
  have hF := hF.trans f5
  obtain rfl := bool_is.1 h4
  refine wo_seg Θ_ok [1] [(0, v0), (19, (.bool (!y6)))] rfl ⟨rfl, rfl, trivial⟩ ?_
  refine wo_nil ?_
  refine wq_seq ?_
  rcases bif_some h with ⟨hc8, h⟩ | ⟨hc8, h⟩
  · refine wc_known_true rfl hc8 ?_
    refine wc_seq ?_
    refine wc_region (l := [0]) rfl ?_
    refine wo_seg Θ_ok [0] [(2, (.bool false))] rfl ⟨rfl, trivial⟩ ?_
    refine wo_nil ?_
    refine wq_seq ?_
    refine wc_ret ?_
    cases h
    exact wq_then_ret (wq_ret rfl ⟨_, rfl, (bool_is.2 rfl), hF⟩)
  refine wc_known_false rfl hc8 ?_
  refine wc_skip ?_
  refine wq_seq ?_
  refine wc_seq ?_
  refine wc_region (l := [0, 1, 2, 3, 4, 5, 6]) rfl ?_
  refine wo_seg Θ_ok [0, 1] [(20, v0), (21, v0)] rfl ⟨rfl, rfl, trivial⟩ ?_
  obtain ⟨A9, c10, rfl, hlc10, hmc10⟩ := slice_form h0
  refine wo_seg Θ_ok [2] [(20, (.slice A9 x0.length c10)), (22, (.int .i64 (x0.length : Int)))] rfl ⟨rfl, rfl, trivial⟩ ?_
  refine wo_seg Θ_ok [3] [(20, (.slice A9 x0.length c10)), (23, (.int .i64 (if (30 : Int) < (x0.length : Int) then (30 : Int) else (x0.length : Int))))] rfl ⟨rfl, rfl, trivial⟩ ?_
  obtain ⟨y11, hz12, h⟩ := bind_some h
  refine wo_cut (l' := none) (h' := some (.i64, (if (30 : Int) < (x0.length : Int) then (30 : Int) else (x0.length : Int)))) (m' := none) Θ_ok rfl rfl rfl rfl rfl rfl rfl rfl rfl rfl rfl rfl rfl h0 hz12 (fun v13 h14 => ?_)
  obtain ⟨y19, hy20, h⟩ := bind_some h
  refine wo_gives rfl rfl rfl rfl rfl ent16 rfl (s_Clone_c hO h14 hy20) (fun v15 w16 h17 f18 => ?_)
  have hO := f18.ob hO
  have hF := hF.trans f18
  refine wo_seg Θ_ok [6] [(0, v15)] rfl ⟨rfl, trivial⟩ ?_
  refine wo_nil ?_
  refine wq_seq ?_
  refine wc_seq ?_
  refine wc_region (l := [0]) rfl ?_
  refine wo_seg Θ_ok [0] [(0, v15), (3, (.slice none 0 0))] rfl ⟨rfl, rfl, trivial⟩ ?_
  refine wo_nil ?_
  refine wq_seq ?_
  obtain ⟨k22, hk23, h⟩ := letk_some h
  refine wc_join (fun E W => ∃ (O29 : List Nat) (p26 : List Int) (v27 : Value), E = [(0, v15), (3, v27)] ∧ Tr O w16 O29 W ∧ OB O29 W ∧ Sub O O29 ∧ Fr [] w W ∧ (Ty.slice (Ty.int .u64)).is O29 W v27 p26 ∧ k22 p26 = some r) ?_ (fun K24 hK25 => ?_)
  · rintro E w30 ⟨O29, p26, v27, rfl, T21, hO, hS, hF, h28, h⟩
    have h17 := h17.tr T21
    subst hk23
    (try dsimp only at h)
    obtain ⟨k32, hk33, h⟩ := letk_some h
    refine wc_join (fun E W => ∃ (O36 : List Nat), E = [] ∧ Tr O29 w30 O36 W ∧ OB O36 W ∧ Sub O O36 ∧ Fr [] w W ∧ k32 = some r) ?_ (fun K34 hK35 => ?_)
    · rintro E w37 ⟨O36, rfl, T31, hO, hS, hF, h⟩
      subst hk33
      (try dsimp only at h)
      refine wc_seq ?_
      refine wc_region (l := [0]) rfl ?_
      refine wo_seg Θ_ok [0] [(2, (.bool true))] rfl ⟨rfl, trivial⟩ ?_
      refine wo_nil ?_
      refine wq_seq ?_
      refine wc_ret ?_
      cases h
      exact wq_ret rfl ⟨_, rfl, (bool_is.2 rfl), hF⟩
    clear hk33
    have T31 := Tr.refl O29 w30
    refine wc_seq ?_
    refine wc_region (l := [0, 1, 2]) rfl ?_
    refine wo_seg Θ_ok [0] [(3, v27), (111, v15)] rfl ⟨rfl, rfl, trivial⟩ ?_
    obtain ⟨A38, c39, rfl, hlc39, hmc39⟩ := slice_form h17
    refine wo_seg Θ_ok [1] [(3, v27), (111, (.slice A38 y19.length c39)), (112, (.int .i64 (y19.length : Int)))] rfl ⟨rfl, rfl, rfl, trivial⟩ ?_
    refine wo_seg Θ_ok [2] [(3, v27), (111, (.slice A38 y19.length c39)), (112, (.int .i64 (y19.length : Int))), (113, (.int .i64 0))] rfl ⟨rfl, rfl, rfl, rfl, trivial⟩ ?_
    refine wo_nil ?_
    refine wq_seq ?_
    refine wc_block ?_
    refine wc_loop (fun m E W => ∃ (rest42 : List Int) (i41 : Nat) (O45 : List Nat), rest42.length = m ∧ y19.drop i41 = rest42 ∧ E = [(3, v27), (111, (.slice A38 y19.length c39)), (112, (.int .i64 (y19.length : Int))), (113, (.int .i64 (i41 : Int)))] ∧ Tr O29 w30 O45 W ∧ OB O45 W ∧ Sub O O45 ∧ Fr [] w W ∧ l_Order_l1 p26 k32 rest42 i41 = some r) _ [(3, v27), (111, (.slice A38 y19.length c39)), (112, (.int .i64 (y19.length : Int))), (113, (.int .i64 ((0 : Nat) : Int)))] ⟨rfl, rfl, rfl, rfl, trivial⟩ ⟨y19, 0, O29, rfl, rfl, rfl, Tr.refl _ _, hO, hS, hF, h⟩ ?_
    rintro m E w46 ⟨rest42, i41, O45, rfl, hd44, rfl, T40, hO, hS, hF, h⟩
    have T31 := T31.trans T40
    have h28 := h28.tr T40
    have h17 := h17.tr T40
    rcases rest42 with _ | ⟨z43, rest42⟩
    · rw [l_Order_l1] at h
      have hl50 := drop_nil hd44
      have hc47 : (decide ((i41 : Int) < (y19.length : Int))) = false := decide_eq_false (by omega)
      refine wc_seq ?_
      refine wc_region (l := [0]) rfl ?_
      refine wo_seg Θ_ok [0] [(3, v27), (111, (.slice A38 y19.length c39)), (112, (.int .i64 (y19.length : Int))), (113, (.int .i64 (i41 : Int))), (114, (.bool (decide ((i41 : Int) < (y19.length : Int)))))] rfl ⟨rfl, rfl, rfl, rfl, rfl, trivial⟩ ?_
      refine wo_nil ?_
      refine wq_seq ?_
      refine wc_seq ?_
      refine wc_known_false rfl hc47 ?_
      refine wc_exit ?_
      exact wq_then_exit (wq_then_exit (wq_block_exit (wq_join hK35 [] trivial ⟨O45, rfl, T31, hO, hS, hF, h⟩)))
    rw [l_Order_l1] at h
    obtain ⟨hl51, hg49, hd44⟩ := drop_cons hd44
    have hc48 : (decide ((i41 : Int) < (y19.length : Int))) = true := decide_eq_true (by omega)
    refine wc_seq ?_
    refine wc_region (l := [0]) rfl ?_
    refine wo_seg Θ_ok [0] [(3, v27), (111, (.slice A38 y19.length c39)), (112, (.int .i64 (y19.length : Int))), (113, (.int .i64 (i41 : Int))), (114, (.bool (decide ((i41 : Int) < (y19.length : Int)))))] rfl ⟨rfl, rfl, rfl, rfl, rfl, trivial⟩ ?_
    refine wo_nil ?_
    refine wq_seq ?_
    refine wc_seq ?_
    refine wc_known_true rfl hc48 ?_
    refine wc_skip ?_
    refine wq_seq ?_
    refine wc_seq ?_
    refine wc_block ?_
    refine wc_seq ?_
    refine wc_region (l := [0, 1, 2]) rfl ?_
    refine wo_index Θ_ok rfl rfl rfl rfl rfl rfl rfl rfl rfl rfl h17 rfl (by omega) hg49 (fun p52 h53 => ?_)
    refine wo_loadp Θ_ok rfl rfl rfl rfl rfl rfl rfl h53 rfl rfl (fun v54 h55 => ?_)
    obtain rfl := int_is.1 h55
    refine wo_seg Θ_ok [2] [(3, v27), (17, (.int .u64 z43)), (111, (.slice A38 y19.length c39)), (112, (.int .i64 (y19.length : Int))), (113, (.int .i64 (i41 : Int)))] rfl ⟨rfl, rfl, rfl, rfl, rfl, trivial⟩ ?_
    refine wo_nil ?_
    refine wq_seq ?_
    refine wc_seq ?_
    refine wc_region (l := [0, 1, 2, 3]) rfl ?_
    refine wo_seg Θ_ok [0, 1] [(3, v27), (111, (.slice A38 y19.length c39)), (112, (.int .i64 (y19.length : Int))), (113, (.int .i64 (i41 : Int))), (117, v27), (118, (.int .u64 z43))] rfl ⟨rfl, rfl, rfl, rfl, rfl, rfl, trivial⟩ ?_
    refine wo_gives rfl rfl rfl rfl rfl ent36 rfl (s_Contains_c hO h28 (int_is.2 rfl)) (fun v56 w57 h58 f59 => ?_)
    have h28 := h28.tr f59.tr0
    have h17 := h17.tr f59.tr0
    have T31 := T31.trans f59.tr0
    have T40 := T40.trans f59.tr0
    have hO := f59.ob hO
    have hF := hF.trans f59
    obtain rfl := bool_is.1 h58
    refine wo_seg Θ_ok [3] [(3, v27), (111, (.slice A38 y19.length c39)), (112, (.int .i64 (y19.length : Int))), (113, (.int .i64 (i41 : Int))), (120, (.bool (!(s_Contains p26 z43))))] rfl ⟨rfl, rfl, rfl, rfl, rfl, trivial⟩ ?_
    refine wo_nil ?_
    refine wq_seq ?_
    rcases bif_some h with ⟨hc60, h⟩ | ⟨hc60, h⟩
    rotate_left
    · refine wc_known_false rfl hc60 ?_
      refine wc_skip ?_
      refine wq_block (wq_seq ?_)
      refine wc_region (l := [0, 1]) rfl ?_
      refine wo_seg Θ_ok [0, 1] [(3, v27), (111, (.slice A38 y19.length c39)), (112, (.int .i64 (y19.length : Int))), (113, (.int .i64 (IntKind.i64.wrap ((i41 : Int) + (1 : Int)))))] rfl ⟨rfl, rfl, rfl, rfl, trivial⟩ ?_
      refine wo_nil ?_
      exact wq_next rest42.length [(3, v27), (111, (.slice A38 y19.length c39)), (112, (.int .i64 (y19.length : Int))), (113, (.int .i64 ((i41 + 1 : Nat) : Int)))] (Nat.lt_succ_self _) ⟨rfl, rfl, rfl, congrArg (fun z => some (Value.int .i64 z)) (wrap_succ hl51 (Nat.le_trans hlc39 hmc39)), trivial⟩ ⟨rest42, i41 + 1, O45, rfl, hd44, rfl, T40, hO, hS, hF, h⟩
    refine wc_known_true rfl hc60 ?_
    refine wc_seq ?_
    refine wc_region (l := [0]) rfl ?_
    refine wo_seg Θ_ok [0] [(2, (.bool false))] rfl ⟨rfl, trivial⟩ ?_
    refine wo_nil ?_
    refine wq_seq ?_
    refine wc_ret ?_
    cases h
    exact wq_block_ret (wq_then_ret (wq_then_ret (wq_block_ret (wq_then_ret (wq_ret rfl ⟨_, rfl, (bool_is.2 rfl), hF⟩)))))
  clear hk23
  have T21 := Tr.refl O w16
  refine wc_seq ?_
  refine wc_region (l := [0, 1, 2]) rfl ?_
  refine wo_litd Θ_ok rfl rfl rfl rfl rfl rfl rfl rfl rfl rfl (T := (Ty.int .i64)) (xs := [(4 : Int), (8 : Int), (16 : Int)]) (vs := [(.int .i64 4), (.int .i64 8), (.int .i64 16)]) rfl ⟨(int_is.2 rfl), (int_is.2 rfl), (int_is.2 rfl), trivial⟩ rfl rfl rfl hO (fun v61 w62 h63 f64 => ?_)
  have h17 := h17.tr f64.tr0
  have T21 := T21.trans f64.tr0
  have hO := f64.ob hO
  have hF := hF.trans f64
  obtain ⟨A65, c66, rfl, hlc66, hmc66⟩ := slice_form h63
  refine wo_seg Θ_ok [1] [(0, v15), (3, (.slice none 0 0)), (26, (.slice A65 (([(4 : Int), (8 : Int), (16 : Int)] : List Int)).length c66)), (27, (.int .i64 ((([(4 : Int), (8 : Int), (16 : Int)] : List Int)).length : Int)))] rfl ⟨rfl, rfl, rfl, rfl, trivial⟩ ?_
  refine wo_seg Θ_ok [2] [(0, v15), (3, (.slice none 0 0)), (26, (.slice A65 (([(4 : Int), (8 : Int), (16 : Int)] : List Int)).length c66)), (27, (.int .i64 ((([(4 : Int), (8 : Int), (16 : Int)] : List Int)).length : Int))), (28, (.int .i64 0))] rfl ⟨rfl, rfl, rfl, rfl, rfl, trivial⟩ ?_
  refine wo_nil ?_
  refine wq_seq ?_
  refine wc_block ?_
  refine wc_loop (fun m E W => ∃ (rest72 : List Int) (i71 : Nat) (O75 : List Nat) (p68 : List Int) (v69 : Value), rest72.length = m ∧ (([(4 : Int), (8 : Int), (16 : Int)] : List Int)).drop i71 = rest72 ∧ E = [(0, v15), (3, v69), (26, (.slice A65 (([(4 : Int), (8 : Int), (16 : Int)] : List Int)).length c66)), (27, (.int .i64 ((([(4 : Int), (8 : Int), (16 : Int)] : List Int)).length : Int))), (28, (.int .i64 (i71 : Int)))] ∧ Tr O w62 O75 W ∧ OB O75 W ∧ Sub O O75 ∧ Fr [] w W ∧ (Ty.slice (Ty.int .u64)).is O75 W v69 p68 ∧ l_Order_l2 y19 k22 fuel rest72 i71 p68 = some r) _ [(0, v15), (3, (.slice none 0 0)), (26, (.slice A65 (([(4 : Int), (8 : Int), (16 : Int)] : List Int)).length c66)), (27, (.int .i64 ((([(4 : Int), (8 : Int), (16 : Int)] : List Int)).length : Int))), (28, (.int .i64 ((0 : Nat) : Int)))] ⟨rfl, rfl, rfl, rfl, rfl, trivial⟩ ⟨([(4 : Int), (8 : Int), (16 : Int)] : List Int), 0, O, ([] : List Int), (.slice none 0 0), rfl, rfl, rfl, Tr.refl _ _, hO, hS, hF, (slice_nil _ _ _), h⟩ ?_
  rintro m E w76 ⟨rest72, i71, O75, p68, v69, rfl, hd74, rfl, T67, hO, hS, hF, h70, h⟩
  have T21 := T21.trans T67
  have h17 := h17.tr T67
  have h63 := h63.tr T67
  rcases rest72 with _ | ⟨z73, rest72⟩
  · rw [l_Order_l2] at h
    have hl80 := drop_nil hd74
    have hc77 : (decide ((i71 : Int) < ((([(4 : Int), (8 : Int), (16 : Int)] : List Int)).length : Int))) = false := decide_eq_false (by omega)
    refine wc_seq ?_
    refine wc_region (l := [0]) rfl ?_
    refine wo_seg Θ_ok [0] [(0, v15), (3, v69), (26, (.slice A65 (([(4 : Int), (8 : Int), (16 : Int)] : List Int)).length c66)), (27, (.int .i64 ((([(4 : Int), (8 : Int), (16 : Int)] : List Int)).length : Int))), (28, (.int .i64 (i71 : Int))), (29, (.bool (decide ((i71 : Int) < ((([(4 : Int), (8 : Int), (16 : Int)] : List Int)).length : Int)))))] rfl ⟨rfl, rfl, rfl, rfl, rfl, rfl, trivial⟩ ?_
    refine wo_nil ?_
    refine wq_seq ?_
    refine wc_seq ?_
    refine wc_known_false rfl hc77 ?_
    refine wc_exit ?_
    exact wq_then_exit (wq_then_exit (wq_block_exit (wq_join hK25 [(0, v15), (3, v69)] ⟨rfl, rfl, trivial⟩ ⟨O75, p68, v69, rfl, T21, hO, hS, hF, h70, h⟩)))
  rw [l_Order_l2] at h
  obtain ⟨hl81, hg79, hd74⟩ := drop_cons hd74
  have hc78 : (decide ((i71 : Int) < ((([(4 : Int), (8 : Int), (16 : Int)] : List Int)).length : Int))) = true := decide_eq_true (by omega)
  refine wc_seq ?_
  refine wc_region (l := [0]) rfl ?_
  refine wo_seg Θ_ok [0] [(0, v15), (3, v69), (26, (.slice A65 (([(4 : Int), (8 : Int), (16 : Int)] : List Int)).length c66)), (27, (.int .i64 ((([(4 : Int), (8 : Int), (16 : Int)] : List Int)).length : Int))), (28, (.int .i64 (i71 : Int))), (29, (.bool (decide ((i71 : Int) < ((([(4 : Int), (8 : Int), (16 : Int)] : List Int)).length : Int)))))] rfl ⟨rfl, rfl, rfl, rfl, rfl, rfl, trivial⟩ ?_
  refine wo_nil ?_
  refine wq_seq ?_
  refine wc_seq ?_
  refine wc_known_true rfl hc78 ?_
  refine wc_skip ?_
  refine wq_seq ?_
  obtain ⟨k83, hk84, h⟩ := letk_some h
  refine wc_join (fun E W => ∃ (O90 : List Nat) (p87 : List Int) (v88 : Value), E = [(0, v15), (3, v88), (26, (.slice A65 (([(4 : Int), (8 : Int), (16 : Int)] : List Int)).length c66)), (27, (.int .i64 ((([(4 : Int), (8 : Int), (16 : Int)] : List Int)).length : Int))), (28, (.int .i64 (i71 : Int)))] ∧ Tr O75 w76 O90 W ∧ OB O90 W ∧ Sub O O90 ∧ Fr [] w W ∧ (Ty.slice (Ty.int .u64)).is O90 W v88 p87 ∧ k83 p87 = some r) ?_ (fun K85 hK86 => ?_)
  · rintro E w91 ⟨O90, p87, v88, rfl, T82, hO, hS, hF, h89, h⟩
    have T21 := T21.trans T82
    have T67 := T67.trans T82
    have h17 := h17.tr T82
    have h63 := h63.tr T82
    subst hk84
    (try dsimp only at h)
    refine wc_region (l := [0, 1]) rfl ?_
    refine wo_seg Θ_ok [0, 1] [(0, v15), (3, v88), (26, (.slice A65 (([(4 : Int), (8 : Int), (16 : Int)] : List Int)).length c66)), (27, (.int .i64 ((([(4 : Int), (8 : Int), (16 : Int)] : List Int)).length : Int))), (28, (.int .i64 (IntKind.i64.wrap ((i71 : Int) + (1 : Int)))))] rfl ⟨rfl, rfl, rfl, rfl, rfl, trivial⟩ ?_
    refine wo_nil ?_
    exact wq_next rest72.length [(0, v15), (3, v88), (26, (.slice A65 (([(4 : Int), (8 : Int), (16 : Int)] : List Int)).length c66)), (27, (.int .i64 ((([(4 : Int), (8 : Int), (16 : Int)] : List Int)).length : Int))), (28, (.int .i64 ((i71 + 1 : Nat) : Int)))] (Nat.lt_succ_self _) ⟨rfl, rfl, rfl, rfl, congrArg (fun z => some (Value.int .i64 z)) (wrap_succ hl81 (Nat.le_trans hlc66 hmc66)), trivial⟩ ⟨rest72, i71 + 1, O90, p87, v88, rfl, hd74, rfl, T67, hO, hS, hF, h89, h⟩
  clear hk84
  have T82 := Tr.refl O75 w76
  refine wc_block ?_
  refine wc_seq ?_
  refine wc_region (l := [0, 1, 2, 3, 4]) rfl ?_
  refine wo_seg Θ_ok [0] [(0, v15), (3, v69), (26, (.slice A65 (([(4 : Int), (8 : Int), (16 : Int)] : List Int)).length c66)), (27, (.int .i64 ((([(4 : Int), (8 : Int), (16 : Int)] : List Int)).length : Int))), (28, (.int .i64 (i71 : Int))), (30, (.int .i64 (i71 : Int)))] rfl ⟨rfl, rfl, rfl, rfl, rfl, rfl, trivial⟩ ?_
  refine wo_index Θ_ok rfl rfl rfl rfl rfl rfl rfl rfl rfl rfl h63 rfl (by omega) hg79 (fun p92 h93 => ?_)
  refine wo_loadp Θ_ok rfl rfl rfl rfl rfl rfl rfl h93 rfl rfl (fun v94 h95 => ?_)
  obtain rfl := int_is.1 h95
  refine wo_seg Θ_ok [3, 4] [(0, v15), (3, v69), (4, (.int .i64 (i71 : Int))), (5, (.int .i64 z73)), (26, (.slice A65 (([(4 : Int), (8 : Int), (16 : Int)] : List Int)).length c66)), (27, (.int .i64 ((([(4 : Int), (8 : Int), (16 : Int)] : List Int)).length : Int))), (28, (.int .i64 (i71 : Int)))] rfl ⟨rfl, rfl, rfl, rfl, rfl, rfl, rfl, trivial⟩ ?_
  refine wo_nil ?_
  refine wq_seq ?_
  refine wc_seq ?_
  refine wc_region (l := [0, 1, 2, 3, 4, 5, 6, 7]) rfl ?_
  refine wo_seg Θ_ok [0, 1] [(0, v15), (3, v69), (4, (.int .i64 (i71 : Int))), (5, (.int .i64 z73)), (26, (.slice A65 (([(4 : Int), (8 : Int), (16 : Int)] : List Int)).length c66)), (27, (.int .i64 ((([(4 : Int), (8 : Int), (16 : Int)] : List Int)).length : Int))), (28, (.int .i64 (i71 : Int))), (34, (.int .i64 z73)), (35, v15)] rfl ⟨rfl, rfl, rfl, rfl, rfl, rfl, rfl, rfl, rfl, trivial⟩ ?_
  obtain ⟨y100, hy101, h⟩ := bind_some h
  refine wo_gives rfl rfl rfl rfl rfl ent21 rfl (b_Spread_c hO (int_is.2 rfl) h17 hy101) (fun v96 w97 h98 f99 => ?_)
  have h17 := h17.tr f99.tr0
  have h70 := h70.tr f99.tr0
  have h63 := h63.tr f99.tr0
  have T21 := T21.trans f99.tr0
  have T67 := T67.trans f99.tr0
  have T82 := T82.trans f99.tr0
  have hO := f99.ob hO
  have hF := hF.trans f99
  obtain ⟨u102, u104, rfl, h103, h105⟩ := h98
  obtain rfl := int_is.1 h105
  refine wo_seg Θ_ok [3, 4, 5, 6, 7] [(0, v15), (3, v69), (4, (.int .i64 (i71 : Int))), (5, (.int .i64 z73)), (6, u102), (7, (.int .i64 y100.2)), (26, (.slice A65 (([(4 : Int), (8 : Int), (16 : Int)] : List Int)).length c66)), (27, (.int .i64 ((([(4 : Int), (8 : Int), (16 : Int)] : List Int)).length : Int))), (28, (.int .i64 (i71 : Int)))] rfl ⟨rfl, rfl, rfl, rfl, rfl, rfl, rfl, rfl, rfl, trivial⟩ ?_
  refine wo_nil ?_
  refine wq_seq ?_
  refine wc_seq ?_
  refine wc_seq ?_
  refine wc_region (l := [0, 1, 2, 3, 4, 5, 6, 7]) rfl ?_
  refine wo_seg Θ_ok [0, 1, 2] [(0, v15), (3, v69), (4, (.int .i64 (i71 : Int))), (5, (.int .i64 z73)), (6, u102), (26, (.slice A65 (([(4 : Int), (8 : Int), (16 : Int)] : List Int)).length c66)), (27, (.int .i64 ((([(4 : Int), (8 : Int), (16 : Int)] : List Int)).length : Int))), (28, (.int .i64 (i71 : Int))), (41, (.bool (y100.2 != (0 : Int))))] rfl ⟨rfl, rfl, rfl, rfl, rfl, rfl, rfl, rfl, rfl, trivial⟩ ?_
  rcases bif_some h with ⟨hc106, h⟩ | ⟨hc106, h⟩
  · refine wo_know 41 true rfl hc106 ?_
    refine wo_seg Θ_ok [3, 4, 5, 6, 7] [(0, v15), (3, v69), (4, (.int .i64 (i71 : Int))), (5, (.int .i64 z73)), (6, u102), (26, (.slice A65 (([(4 : Int), (8 : Int), (16 : Int)] : List Int)).length c66)), (27, (.int .i64 ((([(4 : Int), (8 : Int), (16 : Int)] : List Int)).length : Int))), (28, (.int .i64 (i71 : Int))), (46, (.bool true))] rfl ⟨rfl, rfl, rfl, rfl, rfl, rfl, rfl, rfl, rfl, trivial⟩ ?_
    refine wo_nil ?_
    refine wq_seq ?_
    refine wc_true rfl ?_
    refine wc_seq ?_
    refine wc_region (l := [0]) rfl ?_
    refine wo_seg Θ_ok [0] [(2, (.bool false))] rfl ⟨rfl, trivial⟩ ?_
    refine wo_nil ?_
    refine wq_seq ?_
    refine wc_ret ?_
    cases h
    exact wq_then_ret (wq_block_ret (wq_then_ret (wq_then_ret (wq_block_ret (wq_then_ret (wq_ret rfl ⟨_, rfl, (bool_is.2 rfl), hF⟩))))))
  refine wo_know 41 false rfl hc106 ?_
  refine wo_seg Θ_ok [3] [(0, v15), (3, v69), (4, (.int .i64 (i71 : Int))), (5, (.int .i64 z73)), (6, u102), (26, (.slice A65 (([(4 : Int), (8 : Int), (16 : Int)] : List Int)).length c66)), (27, (.int .i64 ((([(4 : Int), (8 : Int), (16 : Int)] : List Int)).length : Int))), (28, (.int .i64 (i71 : Int))), (41, (.bool false)), (42, u102)] rfl ⟨rfl, rfl, rfl, rfl, rfl, rfl, rfl, rfl, rfl, rfl, trivial⟩ ?_
  obtain ⟨A107, c108, rfl, hlc108, hmc108⟩ := slice_form h103
  refine wo_seg Θ_ok [4] [(0, v15), (3, v69), (4, (.int .i64 (i71 : Int))), (5, (.int .i64 z73)), (6, (.slice A107 y100.1.length c108)), (26, (.slice A65 (([(4 : Int), (8 : Int), (16 : Int)] : List Int)).length c66)), (27, (.int .i64 ((([(4 : Int), (8 : Int), (16 : Int)] : List Int)).length : Int))), (28, (.int .i64 (i71 : Int))), (41, (.bool false)), (43, (.int .i64 (y100.1.length : Int)))] rfl ⟨rfl, rfl, rfl, rfl, rfl, rfl, rfl, rfl, rfl, rfl, trivial⟩ ?_
  refine wo_seg Θ_ok [5, 6, 7] [(0, v15), (3, v69), (4, (.int .i64 (i71 : Int))), (5, (.int .i64 z73)), (6, (.slice A107 y100.1.length c108)), (26, (.slice A65 (([(4 : Int), (8 : Int), (16 : Int)] : List Int)).length c66)), (27, (.int .i64 ((([(4 : Int), (8 : Int), (16 : Int)] : List Int)).length : Int))), (28, (.int .i64 (i71 : Int))), (46, (.bool ((y100.1.length : Int) != z73)))] rfl ⟨rfl, rfl, rfl, rfl, rfl, rfl, rfl, rfl, rfl, trivial⟩ ?_
  refine wo_nil ?_
  refine wq_seq ?_
  rcases bif_some h with ⟨hc109, h⟩ | ⟨hc109, h⟩
  · refine wc_known_true rfl hc109 ?_
    refine wc_seq ?_
    refine wc_region (l := [0]) rfl ?_
    refine wo_seg Θ_ok [0] [(2, (.bool false))] rfl ⟨rfl, trivial⟩ ?_
    refine wo_nil ?_
    refine wq_seq ?_
    refine wc_ret ?_
    cases h
    exact wq_then_ret (wq_block_ret (wq_then_ret (wq_then_ret (wq_block_ret (wq_then_ret (wq_ret rfl ⟨_, rfl, (bool_is.2 rfl), hF⟩))))))
  refine wc_known_false rfl hc109 ?_
  refine wc_skip ?_
  refine wq_seq ?_
  refine wc_seq ?_
  refine wc_region (l := [0, 1, 2]) rfl ?_
  refine wo_seg Θ_ok [0] [(0, v15), (3, v69), (4, (.int .i64 (i71 : Int))), (5, (.int .i64 z73)), (6, (.slice A107 y100.1.length c108)), (26, (.slice A65 (([(4 : Int), (8 : Int), (16 : Int)] : List Int)).length c66)), (27, (.int .i64 ((([(4 : Int), (8 : Int), (16 : Int)] : List Int)).length : Int))), (28, (.int .i64 (i71 : Int))), (47, (.slice A107 y100.1.length c108))] rfl ⟨rfl, rfl, rfl, rfl, rfl, rfl, rfl, rfl, rfl, trivial⟩ ?_
  obtain ⟨y114, hy115, h⟩ := bind_some h
  refine wo_gives rfl rfl rfl rfl rfl ent35 rfl (s_Concat_c hO h103 hy115) (fun v110 w111 h112 f113 => ?_)
  have h17 := h17.tr f113.tr0
  have h70 := h70.tr f113.tr0
  have h63 := h63.tr f113.tr0
  have h103 := h103.tr f113.tr0
  have T21 := T21.trans f113.tr0
  have T67 := T67.trans f113.tr0
  have T82 := T82.trans f113.tr0
  have hO := f113.ob hO
  have hF := hF.trans f113
  refine wo_seg Θ_ok [2] [(0, v15), (3, v69), (4, (.int .i64 (i71 : Int))), (5, (.int .i64 z73)), (6, (.slice A107 y100.1.length c108)), (8, v110), (26, (.slice A65 (([(4 : Int), (8 : Int), (16 : Int)] : List Int)).length c66)), (27, (.int .i64 ((([(4 : Int), (8 : Int), (16 : Int)] : List Int)).length : Int))), (28, (.int .i64 (i71 : Int)))] rfl ⟨rfl, rfl, rfl, rfl, rfl, rfl, rfl, rfl, rfl, trivial⟩ ?_
  refine wo_nil ?_
  refine wq_seq ?_
  obtain ⟨k117, hk118, h⟩ := letk_some h
  refine wc_join (fun E W => ∃ (O121 : List Nat), E = [(0, v15), (3, v69), (4, (.int .i64 (i71 : Int))), (5, (.int .i64 z73)), (6, (.slice A107 y100.1.length c108)), (8, v110), (26, (.slice A65 (([(4 : Int), (8 : Int), (16 : Int)] : List Int)).length c66)), (27, (.int .i64 ((([(4 : Int), (8 : Int), (16 : Int)] : List Int)).length : Int))), (28, (.int .i64 (i71 : Int)))] ∧ Tr O75 w111 O121 W ∧ OB O121 W ∧ Sub O O121 ∧ Fr [] w W ∧ k117 = some r) ?_ (fun K119 hK120 => ?_)
  rotate_left
  · clear hk118
    have T116 := Tr.refl O75 w111
    refine wc_seq ?_
    refine wc_region (l := [0]) rfl ?_
    refine wo_seg Θ_ok [0] [(0, v15), (3, v69), (4, (.int .i64 (i71 : Int))), (5, (.int .i64 z73)), (6, (.slice A107 y100.1.length c108)), (8, v110), (9, (.int .i64 1)), (26, (.slice A65 (([(4 : Int), (8 : Int), (16 : Int)] : List Int)).length c66)), (27, (.int .i64 ((([(4 : Int), (8 : Int), (16 : Int)] : List Int)).length : Int))), (28, (.int .i64 (i71 : Int)))] rfl ⟨rfl, rfl, rfl, rfl, rfl, rfl, rfl, rfl, rfl, rfl, trivial⟩ ?_
    refine wo_nil ?_
    refine wq_seq ?_
    refine wc_block ?_
    refine wc_loop (fun m E W => ∃ (fl249 : Nat) (O250 : List Nat) (p248 : Int), fl249 = m ∧ E = [(0, v15), (3, v69), (4, (.int .i64 (i71 : Int))), (5, (.int .i64 z73)), (6, (.slice A107 y100.1.length c108)), (8, v110), (9, (.int .i64 p248)), (26, (.slice A65 (([(4 : Int), (8 : Int), (16 : Int)] : List Int)).length c66)), (27, (.int .i64 ((([(4 : Int), (8 : Int), (16 : Int)] : List Int)).length : Int))), (28, (.int .i64 (i71 : Int)))] ∧ Tr O75 w111 O250 W ∧ OB O250 W ∧ Sub O O250 ∧ Fr [] w W ∧ l_Order_l7 y114 k117 fl249 p248 = some r) _ [(0, v15), (3, v69), (4, (.int .i64 (i71 : Int))), (5, (.int .i64 z73)), (6, (.slice A107 y100.1.length c108)), (8, v110), (9, (.int .i64 1)), (26, (.slice A65 (([(4 : Int), (8 : Int), (16 : Int)] : List Int)).length c66)), (27, (.int .i64 ((([(4 : Int), (8 : Int), (16 : Int)] : List Int)).length : Int))), (28, (.int .i64 (i71 : Int)))] ⟨rfl, rfl, rfl, rfl, rfl, rfl, rfl, rfl, rfl, rfl, trivial⟩ ⟨fuel, O75, (1 : Int), rfl, rfl, Tr.refl _ _, hO, hS, hF, h⟩ ?_
    rintro m E w251 ⟨fl249, O250, p248, rfl, rfl, T247, hO, hS, hF, h⟩
    have T21 := T21.trans T247
    have T67 := T67.trans T247
    have T82 := T82.trans T247
    have T116 := T116.trans T247
    have h17 := h17.tr T247
    have h70 := h70.tr T247
    have h103 := h103.tr T247
    have h112 := h112.tr T247
    have h63 := h63.tr T247
    rcases fl249 with _ | fl249
    · rw [l_Order_l7] at h
      cases h
    rw [l_Order_l7] at h
    refine wc_seq ?_
    refine wc_seq ?_
    refine wc_region (l := [0, 1, 2, 3]) rfl ?_
    refine wo_seg Θ_ok [0, 1] [(0, v15), (3, v69), (4, (.int .i64 (i71 : Int))), (5, (.int .i64 z73)), (6, (.slice A107 y100.1.length c108)), (8, v110), (9, (.int .i64 p248)), (26, (.slice A65 (([(4 : Int), (8 : Int), (16 : Int)] : List Int)).length c66)), (27, (.int .i64 ((([(4 : Int), (8 : Int), (16 : Int)] : List Int)).length : Int))), (28, (.int .i64 (i71 : Int))), (49, (.int .i64 p248)), (50, v110)] rfl ⟨rfl, rfl, rfl, rfl, rfl, rfl, rfl, rfl, rfl, rfl, rfl, rfl, trivial⟩ ?_
    obtain ⟨A252, c253, rfl, hlc253, hmc253⟩ := slice_form h112
    refine wo_seg Θ_ok [2] [(0, v15), (3, v69), (4, (.int .i64 (i71 : Int))), (5, (.int .i64 z73)), (6, (.slice A107 y100.1.length c108)), (8, (.slice A252 y114.length c253)), (9, (.int .i64 p248)), (26, (.slice A65 (([(4 : Int), (8 : Int), (16 : Int)] : List Int)).length c66)), (27, (.int .i64 ((([(4 : Int), (8 : Int), (16 : Int)] : List Int)).length : Int))), (28, (.int .i64 (i71 : Int))), (49, (.int .i64 p248)), (51, (.int .i64 (y114.length : Int)))] rfl ⟨rfl, rfl, rfl, rfl, rfl, rfl, rfl, rfl, rfl, rfl, rfl, rfl, trivial⟩ ?_
    refine wo_seg Θ_ok [3] [(0, v15), (3, v69), (4, (.int .i64 (i71 : Int))), (5, (.int .i64 z73)), (6, (.slice A107 y100.1.length c108)), (8, (.slice A252 y114.length c253)), (9, (.int .i64 p248)), (26, (.slice A65 (([(4 : Int), (8 : Int), (16 : Int)] : List Int)).length c66)), (27, (.int .i64 ((([(4 : Int), (8 : Int), (16 : Int)] : List Int)).length : Int))), (28, (.int .i64 (i71 : Int))), (52, (.bool (decide (p248 < (y114.length : Int)))))] rfl ⟨rfl, rfl, rfl, rfl, rfl, rfl, rfl, rfl, rfl, rfl, rfl, trivial⟩ ?_
    refine wo_nil ?_
    refine wq_seq ?_
    rcases bif_some h with ⟨hc254, h⟩ | ⟨hc254, h⟩
    rotate_left
    · refine wc_known_false rfl hc254 ?_
      refine wc_exit ?_
      exact wq_then_exit (wq_then_exit (wq_block_exit (wq_join hK120 [(0, v15), (3, v69), (4, (.int .i64 (i71 : Int))), (5, (.int .i64 z73)), (6, (.slice A107 y100.1.length c108)), (8, (.slice A252 y114.length c253)), (26, (.slice A65 (([(4 : Int), (8 : Int), (16 : Int)] : List Int)).length c66)), (27, (.int .i64 ((([(4 : Int), (8 : Int), (16 : Int)] : List Int)).length : Int))), (28, (.int .i64 (i71 : Int)))] ⟨rfl, rfl, rfl, rfl, rfl, rfl, rfl, rfl, rfl, trivial⟩ ⟨O250, rfl, T116, hO, hS, hF, h⟩)))
    refine wc_known_true rfl hc254 ?_
    refine wc_skip ?_
    refine wq_seq ?_
    refine wc_seq ?_
    refine wc_block ?_
    refine wc_seq ?_
    obtain ⟨y255, hz256, h⟩ := bind_some h
    obtain ⟨y257, hz258, h⟩ := bind_some h
    refine wc_draw mixed [⟨55, [], [8]⟩, ⟨56, [], [9]⟩, ⟨57, [1], []⟩, ⟨58, [0, 2], []⟩, ⟨59, [3], []⟩, ⟨60, [4], []⟩, ⟨61, [], [8]⟩, ⟨62, [], [9]⟩, ⟨63, [6, 7], []⟩, ⟨64, [8], []⟩, ⟨65, [9], []⟩, ⟨66, [5, 10], []⟩] [SP.eq (.slice A252 y114.length c253), SP.eq (.int .i64 p248), SP.eq (.int .i64 (IntKind.i64.wrap (p248 - (1 : Int)))), SP.is (Ty.ptr (Ty.int .u64)) O250 y255, SP.eq (.int .u64 y255), SP.eq (.int .u64 (b_Hash y255)), SP.eq (.slice A252 y114.length c253), SP.eq (.int .i64 p248), SP.is (Ty.ptr (Ty.int .u64)) O250 y257, SP.eq (.int .u64 y257), SP.eq (.int .u64 (b_Hash y257)), SP.eq (.bool (decide ((b_Hash y255) ≥ (b_Hash y257))))] rfl rfl rfl ⟨?_, ?_, ?_, ?_, ?_, ?_, ?_, ?_, ?_, ?_, ?_, ?_, trivial⟩ ?_
    · intro a w2 hfr hN hds hb hd
      have h112 := h112.tr hfr.tr0
      exact op_plain Θ_ok ⟨hN, hds, rows_get (E := [(8, (.slice A252 y114.length c253))]) ⟨hb 8 rfl _ rfl, trivial⟩⟩ rfl rfl rfl rfl rfl
    · intro a w2 hfr hN hds hb hd
      exact op_plain Θ_ok ⟨hN, hds, rows_get (E := [(9, (.int .i64 p248))]) ⟨hb 9 rfl _ rfl, trivial⟩⟩ rfl rfl rfl rfl rfl
    · intro a w2 hfr hN hds hb hd
      exact op_plain Θ_ok ⟨hN, hds, rows_get (E := [(56, (.int .i64 p248))]) ⟨(hd 1 rfl _ _ rfl rfl), trivial⟩⟩ rfl rfl rfl rfl rfl
    · intro a w2 hfr hN hds hb hd
      have h112 := h112.tr hfr.tr0
      exact op_index (j := (IntKind.i64.wrap (p248 - (1 : Int)))) Θ_ok ⟨hN, hds, rows_get (E := [(55, (.slice A252 y114.length c253)), (57, (.int .i64 (IntKind.i64.wrap (p248 - (1 : Int)))))]) ⟨(hd 0 rfl _ _ rfl rfl), (hd 2 rfl _ _ rfl rfl), trivial⟩⟩ rfl rfl rfl rfl rfl rfl rfl rfl rfl h112 rfl (idx_some hz256).1 (idx_some hz256).2
    · intro a w2 hfr hN hds hb hd
      have d261 : (Ty.ptr (Ty.int .u64)).is O250 w2 (a.tmps.getD 58 undef) y255 := hd 3 rfl _ _ rfl rfl
      obtain ⟨u259, e260⟩ : ∃ v, a.tmps.getD 58 undef = v := ⟨_, rfl⟩
      rw [e260] at d261
      exact (op_loadp Θ_ok ⟨hN, hds, rows_get (E := [(58, u259)]) ⟨e260, trivial⟩⟩ rfl rfl rfl rfl rfl rfl d261 rfl rfl).weaken (fun u w3 ⟨hu, hf⟩ => ⟨int_is.1 hu, hf⟩)
    · intro a w2 hfr hN hds hb hd
      exact (op_call ⟨hN, hds, rows_get (E := [(59, (.int .u64 y255))]) ⟨(hd 4 rfl _ _ rfl rfl), trivial⟩⟩ rfl rfl rfl rfl ent14 rfl (b_Hash_c (hfr.ob hO) (int_is.2 rfl))).weaken (fun u w3 ⟨hu, hf⟩ => ⟨int_is.1 hu, hf⟩)
    · intro a w2 hfr hN hds hb hd
      have h112 := h112.tr hfr.tr0
      exact op_plain Θ_ok ⟨hN, hds, rows_get (E := [(8, (.slice A252 y114.length c253))]) ⟨hb 8 rfl _ rfl, trivial⟩⟩ rfl rfl rfl rfl rfl
    · intro a w2 hfr hN hds hb hd
      exact op_plain Θ_ok ⟨hN, hds, rows_get (E := [(9, (.int .i64 p248))]) ⟨hb 9 rfl _ rfl, trivial⟩⟩ rfl rfl rfl rfl rfl
    · intro a w2 hfr hN hds hb hd
      have h112 := h112.tr hfr.tr0
      exact op_index (j := p248) Θ_ok ⟨hN, hds, rows_get (E := [(61, (.slice A252 y114.length c253)), (62, (.int .i64 p248))]) ⟨(hd 6 rfl _ _ rfl rfl), (hd 7 rfl _ _ rfl rfl), trivial⟩⟩ rfl rfl rfl rfl rfl rfl rfl rfl rfl h112 rfl (idx_some hz258).1 (idx_some hz258).2
    · intro a w2 hfr hN hds hb hd
      have d264 : (Ty.ptr (Ty.int .u64)).is O250 w2 (a.tmps.getD 63 undef) y257 := hd 8 rfl _ _ rfl rfl
      obtain ⟨u262, e263⟩ : ∃ v, a.tmps.getD 63 undef = v := ⟨_, rfl⟩
      rw [e263] at d264
      exact (op_loadp Θ_ok ⟨hN, hds, rows_get (E := [(63, u262)]) ⟨e263, trivial⟩⟩ rfl rfl rfl rfl rfl rfl d264 rfl rfl).weaken (fun u w3 ⟨hu, hf⟩ => ⟨int_is.1 hu, hf⟩)
    · intro a w2 hfr hN hds hb hd
      exact (op_call ⟨hN, hds, rows_get (E := [(64, (.int .u64 y257))]) ⟨(hd 9 rfl _ _ rfl rfl), trivial⟩⟩ rfl rfl rfl rfl ent14 rfl (b_Hash_c (hfr.ob hO) (int_is.2 rfl))).weaken (fun u w3 ⟨hu, hf⟩ => ⟨int_is.1 hu, hf⟩)
    · intro a w2 hfr hN hds hb hd
      exact op_plain Θ_ok ⟨hN, hds, rows_get (E := [(60, (.int .u64 (b_Hash y255))), (65, (.int .u64 (b_Hash y257)))]) ⟨(hd 5 rfl _ _ rfl rfl), (hd 10 rfl _ _ rfl rfl), trivial⟩⟩ rfl rfl rfl rfl rfl
    intro a w266 f265 hN hds hb hr
    have h17 := h17.tr f265.tr0
    have h70 := h70.tr f265.tr0
    have h103 := h103.tr f265.tr0
    have h112 := h112.tr f265.tr0
    have h63 := h63.tr f265.tr0
    have T21 := T21.trans f265.tr0
    have T67 := T67.trans f265.tr0
    have T82 := T82.trans f265.tr0
    have T116 := T116.trans f265.tr0
    have T247 := T247.trans f265.tr0
    have hO := f265.ob hO
    have hF := hF.trans f265
    refine wq_go (E := [(0, v15), (3, v69), (4, (.int .i64 (i71 : Int))), (5, (.int .i64 z73)), (6, (.slice A107 y100.1.length c108)), (8, (.slice A252 y114.length c253)), (9, (.int .i64 p248)), (26, (.slice A65 (([(4 : Int), (8 : Int), (16 : Int)] : List Int)).length c66)), (27, (.int .i64 ((([(4 : Int), (8 : Int), (16 : Int)] : List Int)).length : Int))), (28, (.int .i64 (i71 : Int))), (66, (.bool (decide ((b_Hash y255) ≥ (b_Hash y257)))))]) hN hds ⟨hb 0 _ rfl rfl, hb 3 _ rfl rfl, hb 4 _ rfl rfl, hb 5 _ rfl rfl, hb 6 _ rfl rfl, hb 8 _ rfl rfl, hb 9 _ rfl rfl, hb 26 _ rfl rfl, hb 27 _ rfl rfl, hb 28 _ rfl rfl, (hr 11 _ _ rfl rfl), trivial⟩ ?_
    refine wq_seq ?_
    rcases bif_some h with ⟨hc267, h⟩ | ⟨hc267, h⟩
    rotate_left
    · refine wc_known_false rfl hc267 ?_
      refine wc_skip ?_
      refine wq_block (wq_seq ?_)
      refine wc_region (l := [0, 1, 2]) rfl ?_
      refine wo_seg Θ_ok [0, 1, 2] [(0, v15), (3, v69), (4, (.int .i64 (i71 : Int))), (5, (.int .i64 z73)), (6, (.slice A107 y100.1.length c108)), (8, (.slice A252 y114.length c253)), (9, (.int .i64 (IntKind.i64.wrap (p248 + (1 : Int))))), (26, (.slice A65 (([(4 : Int), (8 : Int), (16 : Int)] : List Int)).length c66)), (27, (.int .i64 ((([(4 : Int), (8 : Int), (16 : Int)] : List Int)).length : Int))), (28, (.int .i64 (i71 : Int)))] rfl ⟨rfl, rfl, rfl, rfl, rfl, rfl, rfl, rfl, rfl, rfl, trivial⟩ ?_
      refine wo_nil ?_
      exact wq_next fl249 [(0, v15), (3, v69), (4, (.int .i64 (i71 : Int))), (5, (.int .i64 z73)), (6, (.slice A107 y100.1.length c108)), (8, (.slice A252 y114.length c253)), (9, (.int .i64 (IntKind.i64.wrap (p248 + (1 : Int))))), (26, (.slice A65 (([(4 : Int), (8 : Int), (16 : Int)] : List Int)).length c66)), (27, (.int .i64 ((([(4 : Int), (8 : Int), (16 : Int)] : List Int)).length : Int))), (28, (.int .i64 (i71 : Int)))] (Nat.lt_succ_self _) ⟨rfl, rfl, rfl, rfl, rfl, rfl, rfl, rfl, rfl, rfl, trivial⟩ ⟨fl249, O250, (IntKind.i64.wrap (p248 + (1 : Int))), rfl, rfl, T247, hO, hS, hF, h⟩
    refine wc_known_true rfl hc267 ?_
    refine wc_seq ?_
    refine wc_region (l := [0]) rfl ?_
    refine wo_seg Θ_ok [0] [(2, (.bool false))] rfl ⟨rfl, trivial⟩ ?_
    refine wo_nil ?_
    refine wq_seq ?_
    refine wc_ret ?_
    cases h
    exact wq_block_ret (wq_then_ret (wq_then_ret (wq_block_ret (wq_then_ret (wq_block_ret (wq_then_ret (wq_then_ret (wq_block_ret (wq_then_ret (wq_ret rfl ⟨_, rfl, (bool_is.2 rfl), hF⟩))))))))))
  rintro E w122 ⟨O121, rfl, T116, hO, hS, hF, h⟩
  have T21 := T21.trans T116
  have T67 := T67.trans T116
  have T82 := T82.trans T116
  have h17 := h17.tr T116
  have h70 := h70.tr T116
  have h103 := h103.tr T116
  have h112 := h112.tr T116
  have h63 := h63.tr T116
  subst hk118
  (try dsimp only at h)
  refine wc_seq ?_
  refine wc_seq ?_
  refine wc_region (l := [0, 1, 2, 3, 4, 5, 6, 7]) rfl ?_
  refine wo_seg Θ_ok [0, 1, 2] [(0, v15), (3, v69), (5, (.int .i64 z73)), (6, (.slice A107 y100.1.length c108)), (8, v110), (26, (.slice A65 (([(4 : Int), (8 : Int), (16 : Int)] : List Int)).length c66)), (27, (.int .i64 ((([(4 : Int), (8 : Int), (16 : Int)] : List Int)).length : Int))), (28, (.int .i64 (i71 : Int))), (69, (.bool (decide ((i71 : Int) > (0 : Int)))))] rfl ⟨rfl, rfl, rfl, rfl, rfl, rfl, rfl, rfl, rfl, trivial⟩ ?_
  rcases bif_some h with ⟨hc123, h⟩ | ⟨hc123, h⟩
  rotate_left
  · refine wo_know 69 false rfl hc123 ?_
    refine wo_seg Θ_ok [3, 4, 5, 6, 7] [(0, v15), (5, (.int .i64 z73)), (6, (.slice A107 y100.1.length c108)), (8, v110), (26, (.slice A65 (([(4 : Int), (8 : Int), (16 : Int)] : List Int)).length c66)), (27, (.int .i64 ((([(4 : Int), (8 : Int), (16 : Int)] : List Int)).length : Int))), (28, (.int .i64 (i71 : Int))), (74, (.bool false))] rfl ⟨rfl, rfl, rfl, rfl, rfl, rfl, rfl, rfl, trivial⟩ ?_
    refine wo_nil ?_
    refine wq_seq ?_
    refine wc_false rfl ?_
    refine wc_skip ?_
    refine wq_seq ?_
    refine wc_seq ?_
    refine wc_region (l := [0, 1]) rfl ?_
    refine wo_seg Θ_ok [0, 1] [(0, v15), (3, v110), (5, (.int .i64 z73)), (6, (.slice A107 y100.1.length c108)), (26, (.slice A65 (([(4 : Int), (8 : Int), (16 : Int)] : List Int)).length c66)), (27, (.int .i64 ((([(4 : Int), (8 : Int), (16 : Int)] : List Int)).length : Int))), (28, (.int .i64 (i71 : Int)))] rfl ⟨rfl, rfl, rfl, rfl, rfl, rfl, rfl, trivial⟩ ?_
    refine wo_nil ?_
    refine wq_seq ?_
    refine wc_seq ?_
    refine wc_region (l := [0, 1, 2]) rfl ?_
    refine wo_seg Θ_ok [0, 1, 2] [(0, v15), (3, v110), (5, (.int .i64 z73)), (26, (.slice A65 (([(4 : Int), (8 : Int), (16 : Int)] : List Int)).length c66)), (27, (.int .i64 ((([(4 : Int), (8 : Int), (16 : Int)] : List Int)).length : Int))), (28, (.int .i64 (i71 : Int))), (76, (.slice A107 y100.1.length c108)), (77, (.int .i64 (y100.1.length : Int))), (78, (.int .i64 0))] rfl ⟨rfl, rfl, rfl, rfl, rfl, rfl, rfl, rfl, rfl, trivial⟩ ?_
    refine wo_nil ?_
    refine wq_seq ?_
    refine wc_block ?_
    refine wc_loop (fun m E W => ∃ (rest191 : List (List Int)) (i190 : Nat) (O194 : List Nat), rest191.length = m ∧ y100.1.drop i190 = rest191 ∧ E = [(0, v15), (3, v110), (5, (.int .i64 z73)), (26, (.slice A65 (([(4 : Int), (8 : Int), (16 : Int)] : List Int)).length c66)), (27, (.int .i64 ((([(4 : Int), (8 : Int), (16 : Int)] : List Int)).length : Int))), (28, (.int .i64 (i71 : Int))), (76, (.slice A107 y100.1.length c108)), (77, (.int .i64 (y100.1.length : Int))), (78, (.int .i64 (i190 : Int)))] ∧ Tr O121 w122 O194 W ∧ OB O194 W ∧ Sub O O194 ∧ Fr [] w W ∧ l_Order_l5 y19 z73 k83 y114 rest191 i190 = some r) _ [(0, v15), (3, v110), (5, (.int .i64 z73)), (26, (.slice A65 (([(4 : Int), (8 : Int), (16 : Int)] : List Int)).length c66)), (27, (.int .i64 ((([(4 : Int), (8 : Int), (16 : Int)] : List Int)).length : Int))), (28, (.int .i64 (i71 : Int))), (76, (.slice A107 y100.1.length c108)), (77, (.int .i64 (y100.1.length : Int))), (78, (.int .i64 ((0 : Nat) : Int)))] ⟨rfl, rfl, rfl, rfl, rfl, rfl, rfl, rfl, rfl, trivial⟩ ⟨y100.1, 0, O121, rfl, rfl, rfl, Tr.refl _ _, hO, hS, hF, h⟩ ?_
    rintro m E w195 ⟨rest191, i190, O194, rfl, hd193, rfl, T189, hO, hS, hF, h⟩
    have T21 := T21.trans T189
    have T67 := T67.trans T189
    have T82 := T82.trans T189
    have h17 := h17.tr T189
    have h112 := h112.tr T189
    have h63 := h63.tr T189
    have h103 := h103.tr T189
    rcases rest191 with _ | ⟨z192, rest191⟩
    · rw [l_Order_l5] at h
      have hl199 := drop_nil hd193
      have hc196 : (decide ((i190 : Int) < (y100.1.length : Int))) = false := decide_eq_false (by omega)
      refine wc_seq ?_
      refine wc_region (l := [0]) rfl ?_
      refine wo_seg Θ_ok [0] [(0, v15), (3, v110), (5, (.int .i64 z73)), (26, (.slice A65 (([(4 : Int), (8 : Int), (16 : Int)] : List Int)).length c66)), (27, (.int .i64 ((([(4 : Int), (8 : Int), (16 : Int)] : List Int)).length : Int))), (28, (.int .i64 (i71 : Int))), (76, (.slice A107 y100.1.length c108)), (77, (.int .i64 (y100.1.length : Int))), (78, (.int .i64 (i190 : Int))), (79, (.bool (decide ((i190 : Int) < (y100.1.length : Int)))))] rfl ⟨rfl, rfl, rfl, rfl, rfl, rfl, rfl, rfl, rfl, rfl, trivial⟩ ?_
      refine wo_nil ?_
      refine wq_seq ?_
      refine wc_seq ?_
      refine wc_known_false rfl hc196 ?_
      refine wc_exit ?_
      exact wq_then_exit (wq_then_exit (wq_block_exit (wq_block (wq_join hK86 [(0, v15), (3, v110), (26, (.slice A65 (([(4 : Int), (8 : Int), (16 : Int)] : List Int)).length c66)), (27, (.int .i64 ((([(4 : Int), (8 : Int), (16 : Int)] : List Int)).length : Int))), (28, (.int .i64 (i71 : Int)))] ⟨rfl, rfl, rfl, rfl, rfl, trivial⟩ ⟨O194, y114, v110, rfl, T82, hO, hS, hF, h112, h⟩))))
    rw [l_Order_l5] at h
    obtain ⟨hl200, hg198, hd193⟩ := drop_cons hd193
    have hc197 : (decide ((i190 : Int) < (y100.1.length : Int))) = true := decide_eq_true (by omega)
    refine wc_seq ?_
    refine wc_region (l := [0]) rfl ?_
    refine wo_seg Θ_ok [0] [(0, v15), (3, v110), (5, (.int .i64 z73)), (26, (.slice A65 (([(4 : Int), (8 : Int), (16 : Int)] : List Int)).length c66)), (27, (.int .i64 ((([(4 : Int), (8 : Int), (16 : Int)] : List Int)).length : Int))), (28, (.int .i64 (i71 : Int))), (76, (.slice A107 y100.1.length c108)), (77, (.int .i64 (y100.1.length : Int))), (78, (.int .i64 (i190 : Int))), (79, (.bool (decide ((i190 : Int) < (y100.1.length : Int)))))] rfl ⟨rfl, rfl, rfl, rfl, rfl, rfl, rfl, rfl, rfl, rfl, trivial⟩ ?_
    refine wo_nil ?_
    refine wq_seq ?_
    refine wc_seq ?_
    refine wc_known_true rfl hc197 ?_
    refine wc_skip ?_
    refine wq_seq ?_
    obtain ⟨k202, hk203, h⟩ := letk_some h
    refine wc_join (fun E W => ∃ (O206 : List Nat), E = [(0, v15), (3, v110), (5, (.int .i64 z73)), (26, (.slice A65 (([(4 : Int), (8 : Int), (16 : Int)] : List Int)).length c66)), (27, (.int .i64 ((([(4 : Int), (8 : Int), (16 : Int)] : List Int)).length : Int))), (28, (.int .i64 (i71 : Int))), (76, (.slice A107 y100.1.length c108)), (77, (.int .i64 (y100.1.length : Int))), (78, (.int .i64 (i190 : Int)))] ∧ Tr O194 w195 O206 W ∧ OB O206 W ∧ Sub O O206 ∧ Fr [] w W ∧ k202 = some r) ?_ (fun K204 hK205 => ?_)
    · rintro E w207 ⟨O206, rfl, T201, hO, hS, hF, h⟩
      have T21 := T21.trans T201
      have T67 := T67.trans T201
      have T82 := T82.trans T201
      have T189 := T189.trans T201
      have h17 := h17.tr T201
      have h112 := h112.tr T201
      have h63 := h63.tr T201
      have h103 := h103.tr T201
      subst hk203
      (try dsimp only at h)
      refine wc_region (l := [0, 1]) rfl ?_
      refine wo_seg Θ_ok [0, 1] [(0, v15), (3, v110), (5, (.int .i64 z73)), (26, (.slice A65 (([(4 : Int), (8 : Int), (16 : Int)] : List Int)).length c66)), (27, (.int .i64 ((([(4 : Int), (8 : Int), (16 : Int)] : List Int)).length : Int))), (28, (.int .i64 (i71 : Int))), (76, (.slice A107 y100.1.length c108)), (77, (.int .i64 (y100.1.length : Int))), (78, (.int .i64 (IntKind.i64.wrap ((i190 : Int) + (1 : Int)))))] rfl ⟨rfl, rfl, rfl, rfl, rfl, rfl, rfl, rfl, rfl, trivial⟩ ?_
      refine wo_nil ?_
      exact wq_next rest191.length [(0, v15), (3, v110), (5, (.int .i64 z73)), (26, (.slice A65 (([(4 : Int), (8 : Int), (16 : Int)] : List Int)).length c66)), (27, (.int .i64 ((([(4 : Int), (8 : Int), (16 : Int)] : List Int)).length : Int))), (28, (.int .i64 (i71 : Int))), (76, (.slice A107 y100.1.length c108)), (77, (.int .i64 (y100.1.length : Int))), (78, (.int .i64 ((i190 + 1 : Nat) : Int)))] (Nat.lt_succ_self _) ⟨rfl, rfl, rfl, rfl, rfl, rfl, rfl, rfl, congrArg (fun z => some (Value.int .i64 z)) (wrap_succ hl200 (Nat.le_trans hlc108 hmc108)), trivial⟩ ⟨rest191, i190 + 1, O206, rfl, hd193, rfl, T189, hO, hS, hF, h⟩
    clear hk203
    have T201 := Tr.refl O194 w195
    refine wc_block ?_
    refine wc_seq ?_
    refine wc_region (l := [0, 1, 2, 3, 4]) rfl ?_
    refine wo_seg Θ_ok [0] [(0, v15), (3, v110), (5, (.int .i64 z73)), (26, (.slice A65 (([(4 : Int), (8 : Int), (16 : Int)] : List Int)).length c66)), (27, (.int .i64 ((([(4 : Int), (8 : Int), (16 : Int)] : List Int)).length : Int))), (28, (.int .i64 (i71 : Int))), (76, (.slice A107 y100.1.length c108)), (77, (.int .i64 (y100.1.length : Int))), (78, (.int .i64 (i190 : Int))), (80, (.int .i64 (i190 : Int)))] rfl ⟨rfl, rfl, rfl, rfl, rfl, rfl, rfl, rfl, rfl, rfl, trivial⟩ ?_
    refine wo_index Θ_ok rfl rfl rfl rfl rfl rfl rfl rfl rfl rfl h103 rfl (by omega) hg198 (fun p208 h209 => ?_)
    refine wo_loadp Θ_ok rfl rfl rfl rfl rfl rfl rfl h209 rfl rfl (fun v210 h211 => ?_)
    refine wo_seg Θ_ok [3, 4] [(0, v15), (3, v110), (5, (.int .i64 z73)), (10, (.int .i64 (i190 : Int))), (11, v210), (26, (.slice A65 (([(4 : Int), (8 : Int), (16 : Int)] : List Int)).length c66)), (27, (.int .i64 ((([(4 : Int), (8 : Int), (16 : Int)] : List Int)).length : Int))), (28, (.int .i64 (i71 : Int))), (76, (.slice A107 y100.1.length c108)), (77, (.int .i64 (y100.1.length : Int))), (78, (.int .i64 (i190 : Int)))] rfl ⟨rfl, rfl, rfl, rfl, rfl, rfl, rfl, rfl, rfl, rfl, rfl, trivial⟩ ?_
    refine wo_nil ?_
    refine wq_seq ?_
    refine wc_seq ?_
    refine wc_region (l := [0, 1, 2]) rfl ?_
    refine wo_seg Θ_ok [0] [(0, v15), (3, v110), (5, (.int .i64 z73)), (10, (.int .i64 (i190 : Int))), (26, (.slice A65 (([(4 : Int), (8 : Int), (16 : Int)] : List Int)).length c66)), (27, (.int .i64 ((([(4 : Int), (8 : Int), (16 : Int)] : List Int)).length : Int))), (28, (.int .i64 (i71 : Int))), (76, (.slice A107 y100.1.length c108)), (77, (.int .i64 (y100.1.length : Int))), (78, (.int .i64 (i190 : Int))), (83, v210)] rfl ⟨rfl, rfl, rfl, rfl, rfl, rfl, rfl, rfl, rfl, rfl, rfl, trivial⟩ ?_
    obtain ⟨A212, c213, rfl, hlc213, hmc213⟩ := slice_form h211
    refine wo_seg Θ_ok [1] [(0, v15), (3, v110), (5, (.int .i64 z73)), (10, (.int .i64 (i190 : Int))), (26, (.slice A65 (([(4 : Int), (8 : Int), (16 : Int)] : List Int)).length c66)), (27, (.int .i64 ((([(4 : Int), (8 : Int), (16 : Int)] : List Int)).length : Int))), (28, (.int .i64 (i71 : Int))), (76, (.slice A107 y100.1.length c108)), (77, (.int .i64 (y100.1.length : Int))), (78, (.int .i64 (i190 : Int))), (83, (.slice A212 z192.length c213)), (84, (.int .i64 (z192.length : Int)))] rfl ⟨rfl, rfl, rfl, rfl, rfl, rfl, rfl, rfl, rfl, rfl, rfl, rfl, trivial⟩ ?_
    refine wo_seg Θ_ok [2] [(0, v15), (3, v110), (5, (.int .i64 z73)), (10, (.int .i64 (i190 : Int))), (26, (.slice A65 (([(4 : Int), (8 : Int), (16 : Int)] : List Int)).length c66)), (27, (.int .i64 ((([(4 : Int), (8 : Int), (16 : Int)] : List Int)).length : Int))), (28, (.int .i64 (i71 : Int))), (76, (.slice A107 y100.1.length c108)), (77, (.int .i64 (y100.1.length : Int))), (78, (.int .i64 (i190 : Int))), (83, (.slice A212 z192.length c213)), (84, (.int .i64 (z192.length : Int))), (85, (.int .i64 0))] rfl ⟨rfl, rfl, rfl, rfl, rfl, rfl, rfl, rfl, rfl, rfl, rfl, rfl, rfl, trivial⟩ ?_
    refine wo_nil ?_
    refine wq_seq ?_
    refine wc_block ?_
    refine wc_loop (fun m E W => ∃ (rest216 : List Int) (i215 : Nat) (O219 : List Nat), rest216.length = m ∧ z192.drop i215 = rest216 ∧ E = [(0, v15), (3, v110), (5, (.int .i64 z73)), (10, (.int .i64 (i190 : Int))), (26, (.slice A65 (([(4 : Int), (8 : Int), (16 : Int)] : List Int)).length c66)), (27, (.int .i64 ((([(4 : Int), (8 : Int), (16 : Int)] : List Int)).length : Int))), (28, (.int .i64 (i71 : Int))), (76, (.slice A107 y100.1.length c108)), (77, (.int .i64 (y100.1.length : Int))), (78, (.int .i64 (i190 : Int))), (83, (.slice A212 z192.length c213)), (84, (.int .i64 (z192.length : Int))), (85, (.int .i64 (i215 : Int)))] ∧ Tr O194 w195 O219 W ∧ OB O219 W ∧ Sub O O219 ∧ Fr [] w W ∧ l_Order_l6 y19 z73 i190 k202 rest216 i215 = some r) _ [(0, v15), (3, v110), (5, (.int .i64 z73)), (10, (.int .i64 (i190 : Int))), (26, (.slice A65 (([(4 : Int), (8 : Int), (16 : Int)] : List Int)).length c66)), (27, (.int .i64 ((([(4 : Int), (8 : Int), (16 : Int)] : List Int)).length : Int))), (28, (.int .i64 (i71 : Int))), (76, (.slice A107 y100.1.length c108)), (77, (.int .i64 (y100.1.length : Int))), (78, (.int .i64 (i190 : Int))), (83, (.slice A212 z192.length c213)), (84, (.int .i64 (z192.length : Int))), (85, (.int .i64 ((0 : Nat) : Int)))] ⟨rfl, rfl, rfl, rfl, rfl, rfl, rfl, rfl, rfl, rfl, rfl, rfl, rfl, trivial⟩ ⟨z192, 0, O194, rfl, rfl, rfl, Tr.refl _ _, hO, hS, hF, h⟩ ?_
    rintro m E w220 ⟨rest216, i215, O219, rfl, hd218, rfl, T214, hO, hS, hF, h⟩
    have T21 := T21.trans T214
    have T67 := T67.trans T214
    have T82 := T82.trans T214
    have T189 := T189.trans T214
    have T201 := T201.trans T214
    have h17 := h17.tr T214
    have h112 := h112.tr T214
    have h63 := h63.tr T214
    have h103 := h103.tr T214
    have h211 := h211.tr T214
    rcases rest216 with _ | ⟨z217, rest216⟩
    · rw [l_Order_l6] at h
      have hl224 := drop_nil hd218
      have hc221 : (decide ((i215 : Int) < (z192.length : Int))) = false := decide_eq_false (by omega)
      refine wc_seq ?_
      refine wc_region (l := [0]) rfl ?_
      refine wo_seg Θ_ok [0] [(0, v15), (3, v110), (5, (.int .i64 z73)), (10, (.int .i64 (i190 : Int))), (26, (.slice A65 (([(4 : Int), (8 : Int), (16 : Int)] : List Int)).length c66)), (27, (.int .i64 ((([(4 : Int), (8 : Int), (16 : Int)] : List Int)).length : Int))), (28, (.int .i64 (i71 : Int))), (76, (.slice A107 y100.1.length c108)), (77, (.int .i64 (y100.1.length : Int))), (78, (.int .i64 (i190 : Int))), (83, (.slice A212 z192.length c213)), (84, (.int .i64 (z192.length : Int))), (85, (.int .i64 (i215 : Int))), (86, (.bool (decide ((i215 : Int) < (z192.length : Int)))))] rfl ⟨rfl, rfl, rfl, rfl, rfl, rfl, rfl, rfl, rfl, rfl, rfl, rfl, rfl, rfl, trivial⟩ ?_
      refine wo_nil ?_
      refine wq_seq ?_
      refine wc_seq ?_
      refine wc_known_false rfl hc221 ?_
      refine wc_exit ?_
      exact wq_then_exit (wq_then_exit (wq_block_exit (wq_block (wq_join hK205 [(0, v15), (3, v110), (5, (.int .i64 z73)), (26, (.slice A65 (([(4 : Int), (8 : Int), (16 : Int)] : List Int)).length c66)), (27, (.int .i64 ((([(4 : Int), (8 : Int), (16 : Int)] : List Int)).length : Int))), (28, (.int .i64 (i71 : Int))), (76, (.slice A107 y100.1.length c108)), (77, (.int .i64 (y100.1.length : Int))), (78, (.int .i64 (i190 : Int)))] ⟨rfl, rfl, rfl, rfl, rfl, rfl, rfl, rfl, rfl, trivial⟩ ⟨O219, rfl, T201, hO, hS, hF, h⟩))))
    rw [l_Order_l6] at h
    obtain ⟨hl225, hg223, hd218⟩ := drop_cons hd218
    have hc222 : (decide ((i215 : Int) < (z192.length : Int))) = true := decide_eq_true (by omega)
    refine wc_seq ?_
    refine wc_region (l := [0]) rfl ?_
    refine wo_seg Θ_ok [0] [(0, v15), (3, v110), (5, (.int .i64 z73)), (10, (.int .i64 (i190 : Int))), (26, (.slice A65 (([(4 : Int), (8 : Int), (16 : Int)] : List Int)).length c66)), (27, (.int .i64 ((([(4 : Int), (8 : Int), (16 : Int)] : List Int)).length : Int))), (28, (.int .i64 (i71 : Int))), (76, (.slice A107 y100.1.length c108)), (77, (.int .i64 (y100.1.length : Int))), (78, (.int .i64 (i190 : Int))), (83, (.slice A212 z192.length c213)), (84, (.int .i64 (z192.length : Int))), (85, (.int .i64 (i215 : Int))), (86, (.bool (decide ((i215 : Int) < (z192.length : Int)))))] rfl ⟨rfl, rfl, rfl, rfl, rfl, rfl, rfl, rfl, rfl, rfl, rfl, rfl, rfl, rfl, trivial⟩ ?_
    refine wo_nil ?_
    refine wq_seq ?_
    refine wc_seq ?_
    refine wc_known_true rfl hc222 ?_
    refine wc_skip ?_
    refine wq_seq ?_
    refine wc_seq ?_
    refine wc_block ?_
    refine wc_seq ?_
    refine wc_region (l := [0, 1, 2]) rfl ?_
    refine wo_index Θ_ok rfl rfl rfl rfl rfl rfl rfl rfl rfl rfl h211 rfl (by omega) hg223 (fun p226 h227 => ?_)
    refine wo_loadp Θ_ok rfl rfl rfl rfl rfl rfl rfl h227 rfl rfl (fun v228 h229 => ?_)
    obtain rfl := int_is.1 h229
    refine wo_seg Θ_ok [2] [(0, v15), (3, v110), (5, (.int .i64 z73)), (10, (.int .i64 (i190 : Int))), (13, (.int .u64 z217)), (26, (.slice A65 (([(4 : Int), (8 : Int), (16 : Int)] : List Int)).length c66)), (27, (.int .i64 ((([(4 : Int), (8 : Int), (16 : Int)] : List Int)).length : Int))), (28, (.int .i64 (i71 : Int))), (76, (.slice A107 y100.1.length c108)), (77, (.int .i64 (y100.1.length : Int))), (78, (.int .i64 (i190 : Int))), (83, (.slice A212 z192.length c213)), (84, (.int .i64 (z192.length : Int))), (85, (.int .i64 (i215 : Int)))] rfl ⟨rfl, rfl, rfl, rfl, rfl, rfl, rfl, rfl, rfl, rfl, rfl, rfl, rfl, rfl, trivial⟩ ?_
    refine wo_nil ?_
    refine wq_seq ?_
    refine wc_seq ?_
    refine wc_region (l := [0, 1, 2, 3, 4, 5, 6, 7]) rfl ?_
    refine wo_seg Θ_ok [0, 1] [(0, v15), (3, v110), (5, (.int .i64 z73)), (10, (.int .i64 (i190 : Int))), (13, (.int .u64 z217)), (26, (.slice A65 (([(4 : Int), (8 : Int), (16 : Int)] : List Int)).length c66)), (27, (.int .i64 ((([(4 : Int), (8 : Int), (16 : Int)] : List Int)).length : Int))), (28, (.int .i64 (i71 : Int))), (76, (.slice A107 y100.1.length c108)), (77, (.int .i64 (y100.1.length : Int))), (78, (.int .i64 (i190 : Int))), (83, (.slice A212 z192.length c213)), (84, (.int .i64 (z192.length : Int))), (85, (.int .i64 (i215 : Int))), (90, (.int .u64 z217)), (91, (.int .i64 z73))] rfl ⟨rfl, rfl, rfl, rfl, rfl, rfl, rfl, rfl, rfl, rfl, rfl, rfl, rfl, rfl, rfl, rfl, trivial⟩ ?_
    obtain ⟨y234, hy235, h⟩ := bind_some h
    refine wo_gives rfl rfl rfl rfl rfl ent17 rfl (b_Of_c hO (int_is.2 rfl) (int_is.2 rfl) hy235) (fun v230 w231 h232 f233 => ?_)
    have h17 := h17.tr f233.tr0
    have h112 := h112.tr f233.tr0
    have h63 := h63.tr f233.tr0
    have h103 := h103.tr f233.tr0
    have h211 := h211.tr f233.tr0
    have T21 := T21.trans f233.tr0
    have T67 := T67.trans f233.tr0
    have T82 := T82.trans f233.tr0
    have T189 := T189.trans f233.tr0
    have T201 := T201.trans f233.tr0
    have T214 := T214.trans f233.tr0
    have hO := f233.ob hO
    have hF := hF.trans f233
    obtain ⟨u236, u238, rfl, h237, h239⟩ := h232
    obtain rfl := int_is.1 h237
    obtain rfl := int_is.1 h239
    refine wo_seg Θ_ok [3, 4, 5, 6, 7] [(0, v15), (3, v110), (5, (.int .i64 z73)), (10, (.int .i64 (i190 : Int))), (13, (.int .u64 z217)), (14, (.int .i64 y234.1)), (15, (.int .i64 y234.2)), (26, (.slice A65 (([(4 : Int), (8 : Int), (16 : Int)] : List Int)).length c66)), (27, (.int .i64 ((([(4 : Int), (8 : Int), (16 : Int)] : List Int)).length : Int))), (28, (.int .i64 (i71 : Int))), (76, (.slice A107 y100.1.length c108)), (77, (.int .i64 (y100.1.length : Int))), (78, (.int .i64 (i190 : Int))), (83, (.slice A212 z192.length c213)), (84, (.int .i64 (z192.length : Int))), (85, (.int .i64 (i215 : Int)))] rfl ⟨rfl, rfl, rfl, rfl, rfl, rfl, rfl, rfl, rfl, rfl, rfl, rfl, rfl, rfl, rfl, rfl, trivial⟩ ?_
    refine wo_nil ?_
    refine wq_seq ?_
    refine wc_seq ?_
    refine wc_region (l := [0, 1, 2, 3, 4, 5, 6, 7, 8, 9, 10, 11, 12]) rfl ?_
    refine wo_seg Θ_ok [0, 1, 2] [(0, v15), (3, v110), (5, (.int .i64 z73)), (10, (.int .i64 (i190 : Int))), (13, (.int .u64 z217)), (14, (.int .i64 y234.1)), (26, (.slice A65 (([(4 : Int), (8 : Int), (16 : Int)] : List Int)).length c66)), (27, (.int .i64 ((([(4 : Int), (8 : Int), (16 : Int)] : List Int)).length : Int))), (28, (.int .i64 (i71 : Int))), (76, (.slice A107 y100.1.length c108)), (77, (.int .i64 (y100.1.length : Int))), (78, (.int .i64 (i190 : Int))), (83, (.slice A212 z192.length c213)), (84, (.int .i64 (z192.length : Int))), (85, (.int .i64 (i215 : Int))), (97, (.bool (y234.2 != (0 : Int))))] rfl ⟨rfl, rfl, rfl, rfl, rfl, rfl, rfl, rfl, rfl, rfl, rfl, rfl, rfl, rfl, rfl, rfl, trivial⟩ ?_
    rcases bif_some h with ⟨hc240, h⟩ | ⟨hc240, h⟩
    · refine wo_know 97 true rfl hc240 ?_
      refine wo_seg Θ_ok [3, 4, 5, 6, 7, 8, 9, 10, 11, 12] [(0, v15), (3, v110), (5, (.int .i64 z73)), (10, (.int .i64 (i190 : Int))), (26, (.slice A65 (([(4 : Int), (8 : Int), (16 : Int)] : List Int)).length c66)), (27, (.int .i64 ((([(4 : Int), (8 : Int), (16 : Int)] : List Int)).length : Int))), (28, (.int .i64 (i71 : Int))), (76, (.slice A107 y100.1.length c108)), (77, (.int .i64 (y100.1.length : Int))), (78, (.int .i64 (i190 : Int))), (83, (.slice A212 z192.length c213)), (84, (.int .i64 (z192.length : Int))), (85, (.int .i64 (i215 : Int))), (107, (.bool true))] rfl ⟨rfl, rfl, rfl, rfl, rfl, rfl, rfl, rfl, rfl, rfl, rfl, rfl, rfl, rfl, trivial⟩ ?_
      refine wo_nil ?_
      refine wq_seq ?_
      refine wc_true rfl ?_
      refine wc_seq ?_
      refine wc_region (l := [0]) rfl ?_
      refine wo_seg Θ_ok [0] [(2, (.bool false))] rfl ⟨rfl, trivial⟩ ?_
      refine wo_nil ?_
      refine wq_seq ?_
      refine wc_ret ?_
      cases h
      exact wq_block_ret (wq_then_ret (wq_then_ret (wq_block_ret (wq_block_ret (wq_then_ret (wq_then_ret (wq_block_ret (wq_block_ret (wq_then_ret (wq_then_ret (wq_block_ret (wq_then_ret (wq_ret rfl ⟨_, rfl, (bool_is.2 rfl), hF⟩)))))))))))))
    refine wo_know 97 false rfl hc240 ?_
    refine wo_seg Θ_ok [3, 4, 5, 6, 7] [(0, v15), (3, v110), (5, (.int .i64 z73)), (10, (.int .i64 (i190 : Int))), (13, (.int .u64 z217)), (26, (.slice A65 (([(4 : Int), (8 : Int), (16 : Int)] : List Int)).length c66)), (27, (.int .i64 ((([(4 : Int), (8 : Int), (16 : Int)] : List Int)).length : Int))), (28, (.int .i64 (i71 : Int))), (76, (.slice A107 y100.1.length c108)), (77, (.int .i64 (y100.1.length : Int))), (78, (.int .i64 (i190 : Int))), (83, (.slice A212 z192.length c213)), (84, (.int .i64 (z192.length : Int))), (85, (.int .i64 (i215 : Int))), (102, (.bool (y234.1 != (i190 : Int))))] rfl ⟨rfl, rfl, rfl, rfl, rfl, rfl, rfl, rfl, rfl, rfl, rfl, rfl, rfl, rfl, rfl, trivial⟩ ?_
    rcases bif_some h with ⟨hc241, h⟩ | ⟨hc241, h⟩
    · refine wo_know 102 true rfl hc241 ?_
      refine wo_seg Θ_ok [8, 9, 10, 11, 12] [(0, v15), (3, v110), (5, (.int .i64 z73)), (10, (.int .i64 (i190 : Int))), (26, (.slice A65 (([(4 : Int), (8 : Int), (16 : Int)] : List Int)).length c66)), (27, (.int .i64 ((([(4 : Int), (8 : Int), (16 : Int)] : List Int)).length : Int))), (28, (.int .i64 (i71 : Int))), (76, (.slice A107 y100.1.length c108)), (77, (.int .i64 (y100.1.length : Int))), (78, (.int .i64 (i190 : Int))), (83, (.slice A212 z192.length c213)), (84, (.int .i64 (z192.length : Int))), (85, (.int .i64 (i215 : Int))), (107, (.bool true))] rfl ⟨rfl, rfl, rfl, rfl, rfl, rfl, rfl, rfl, rfl, rfl, rfl, rfl, rfl, rfl, trivial⟩ ?_
      refine wo_nil ?_
      refine wq_seq ?_
      refine wc_true rfl ?_
      refine wc_seq ?_
      refine wc_region (l := [0]) rfl ?_
      refine wo_seg Θ_ok [0] [(2, (.bool false))] rfl ⟨rfl, trivial⟩ ?_
      refine wo_nil ?_
      refine wq_seq ?_
      refine wc_ret ?_
      cases h
      exact wq_block_ret (wq_then_ret (wq_then_ret (wq_block_ret (wq_block_ret (wq_then_ret (wq_then_ret (wq_block_ret (wq_block_ret (wq_then_ret (wq_then_ret (wq_block_ret (wq_then_ret (wq_ret rfl ⟨_, rfl, (bool_is.2 rfl), hF⟩)))))))))))))
    refine wo_know 102 false rfl hc241 ?_
    refine wo_seg Θ_ok [8, 9] [(0, v15), (3, v110), (5, (.int .i64 z73)), (10, (.int .i64 (i190 : Int))), (26, (.slice A65 (([(4 : Int), (8 : Int), (16 : Int)] : List Int)).length c66)), (27, (.int .i64 ((([(4 : Int), (8 : Int), (16 : Int)] : List Int)).length : Int))), (28, (.int .i64 (i71 : Int))), (76, (.slice A107 y100.1.length c108)), (77, (.int .i64 (y100.1.length : Int))), (78, (.int .i64 (i190 : Int))), (83, (.slice A212 z192.length c213)), (84, (.int .i64 (z192.length : Int))), (85, (.int .i64 (i215 : Int))), (102, (.bool false)), (103, v15), (104, (.int .u64 z217))] rfl ⟨rfl, rfl, rfl, rfl, rfl, rfl, rfl, rfl, rfl, rfl, rfl, rfl, rfl, rfl, rfl, rfl, trivial⟩ ?_
    refine wo_gives rfl rfl rfl rfl rfl ent36 rfl (s_Contains_c hO h17 (int_is.2 rfl)) (fun v242 w243 h244 f245 => ?_)
    have h17 := h17.tr f245.tr0
    have h112 := h112.tr f245.tr0
    have h63 := h63.tr f245.tr0
    have h103 := h103.tr f245.tr0
    have h211 := h211.tr f245.tr0
    have T21 := T21.trans f245.tr0
    have T67 := T67.trans f245.tr0
    have T82 := T82.trans f245.tr0
    have T189 := T189.trans f245.tr0
    have T201 := T201.trans f245.tr0
    have T214 := T214.trans f245.tr0
    have hO := f245.ob hO
    have hF := hF.trans f245
    obtain rfl := bool_is.1 h244
    refine wo_seg Θ_ok [11, 12] [(0, v15), (3, v110), (5, (.int .i64 z73)), (10, (.int .i64 (i190 : Int))), (26, (.slice A65 (([(4 : Int), (8 : Int), (16 : Int)] : List Int)).length c66)), (27, (.int .i64 ((([(4 : Int), (8 : Int), (16 : Int)] : List Int)).length : Int))), (28, (.int .i64 (i71 : Int))), (76, (.slice A107 y100.1.length c108)), (77, (.int .i64 (y100.1.length : Int))), (78, (.int .i64 (i190 : Int))), (83, (.slice A212 z192.length c213)), (84, (.int .i64 (z192.length : Int))), (85, (.int .i64 (i215 : Int))), (107, (.bool (!(s_Contains y19 z217))))] rfl ⟨rfl, rfl, rfl, rfl, rfl, rfl, rfl, rfl, rfl, rfl, rfl, rfl, rfl, rfl, trivial⟩ ?_
    refine wo_nil ?_
    refine wq_seq ?_
    rcases bif_some h with ⟨hc246, h⟩ | ⟨hc246, h⟩
    rotate_left
    · refine wc_known_false rfl hc246 ?_
      refine wc_skip ?_
      refine wq_block (wq_seq ?_)
      refine wc_region (l := [0, 1]) rfl ?_
      refine wo_seg Θ_ok [0, 1] [(0, v15), (3, v110), (5, (.int .i64 z73)), (10, (.int .i64 (i190 : Int))), (26, (.slice A65 (([(4 : Int), (8 : Int), (16 : Int)] : List Int)).length c66)), (27, (.int .i64 ((([(4 : Int), (8 : Int), (16 : Int)] : List Int)).length : Int))), (28, (.int .i64 (i71 : Int))), (76, (.slice A107 y100.1.length c108)), (77, (.int .i64 (y100.1.length : Int))), (78, (.int .i64 (i190 : Int))), (83, (.slice A212 z192.length c213)), (84, (.int .i64 (z192.length : Int))), (85, (.int .i64 (IntKind.i64.wrap ((i215 : Int) + (1 : Int)))))] rfl ⟨rfl, rfl, rfl, rfl, rfl, rfl, rfl, rfl, rfl, rfl, rfl, rfl, rfl, trivial⟩ ?_
      refine wo_nil ?_
      exact wq_next rest216.length [(0, v15), (3, v110), (5, (.int .i64 z73)), (10, (.int .i64 (i190 : Int))), (26, (.slice A65 (([(4 : Int), (8 : Int), (16 : Int)] : List Int)).length c66)), (27, (.int .i64 ((([(4 : Int), (8 : Int), (16 : Int)] : List Int)).length : Int))), (28, (.int .i64 (i71 : Int))), (76, (.slice A107 y100.1.length c108)), (77, (.int .i64 (y100.1.length : Int))), (78, (.int .i64 (i190 : Int))), (83, (.slice A212 z192.length c213)), (84, (.int .i64 (z192.length : Int))), (85, (.int .i64 ((i215 + 1 : Nat) : Int)))] (Nat.lt_succ_self _) ⟨rfl, rfl, rfl, rfl, rfl, rfl, rfl, rfl, rfl, rfl, rfl, rfl, congrArg (fun z => some (Value.int .i64 z)) (wrap_succ hl225 (Nat.le_trans hlc213 hmc213)), trivial⟩ ⟨rest216, i215 + 1, O219, rfl, hd218, rfl, T214, hO, hS, hF, h⟩
    refine wc_known_true rfl hc246 ?_
    refine wc_seq ?_
    refine wc_region (l := [0]) rfl ?_
    refine wo_seg Θ_ok [0] [(2, (.bool false))] rfl ⟨rfl, trivial⟩ ?_
    refine wo_nil ?_
    refine wq_seq ?_
    refine wc_ret ?_
    cases h
    exact wq_block_ret (wq_then_ret (wq_then_ret (wq_block_ret (wq_block_ret (wq_then_ret (wq_then_ret (wq_block_ret (wq_block_ret (wq_then_ret (wq_then_ret (wq_block_ret (wq_then_ret (wq_ret rfl ⟨_, rfl, (bool_is.2 rfl), hF⟩)))))))))))))
  refine wo_know 69 true rfl hc123 ?_
  refine wo_seg Θ_ok [3, 4] [(0, v15), (5, (.int .i64 z73)), (6, (.slice A107 y100.1.length c108)), (8, v110), (26, (.slice A65 (([(4 : Int), (8 : Int), (16 : Int)] : List Int)).length c66)), (27, (.int .i64 ((([(4 : Int), (8 : Int), (16 : Int)] : List Int)).length : Int))), (28, (.int .i64 (i71 : Int))), (69, (.bool true)), (70, v110), (71, v69)] rfl ⟨rfl, rfl, rfl, rfl, rfl, rfl, rfl, rfl, rfl, rfl, trivial⟩ ?_
  obtain ⟨y128, hy129, h⟩ := bind_some h
  refine wo_gives rfl rfl rfl rfl rfl ent25 rfl (s_Equal_c hO h112 h70 hy129) (fun v124 w125 h126 f127 => ?_)
  have h17 := h17.tr f127.tr0
  have h103 := h103.tr f127.tr0
  have h112 := h112.tr f127.tr0
  have h63 := h63.tr f127.tr0
  have T21 := T21.trans f127.tr0
  have T67 := T67.trans f127.tr0
  have T82 := T82.trans f127.tr0
  have hO := f127.ob hO
  have hF := hF.trans f127
  obtain rfl := bool_is.1 h126
  refine wo_seg Θ_ok [6, 7] [(0, v15), (5, (.int .i64 z73)), (6, (.slice A107 y100.1.length c108)), (8, v110), (26, (.slice A65 (([(4 : Int), (8 : Int), (16 : Int)] : List Int)).length c66)), (27, (.int .i64 ((([(4 : Int), (8 : Int), (16 : Int)] : List Int)).length : Int))), (28, (.int .i64 (i71 : Int))), (74, (.bool (!y128)))] rfl ⟨rfl, rfl, rfl, rfl, rfl, rfl, rfl, rfl, trivial⟩ ?_
  refine wo_nil ?_
  refine wq_seq ?_
  rcases bif_some h with ⟨hc130, h⟩ | ⟨hc130, h⟩
  · refine wc_known_true rfl hc130 ?_
    refine wc_seq ?_
    refine wc_region (l := [0]) rfl ?_
    refine wo_seg Θ_ok [0] [(2, (.bool false))] rfl ⟨rfl, trivial⟩ ?_
    refine wo_nil ?_
    refine wq_seq ?_
    refine wc_ret ?_
    cases h
    exact wq_then_ret (wq_block_ret (wq_then_ret (wq_then_ret (wq_block_ret (wq_then_ret (wq_ret rfl ⟨_, rfl, (bool_is.2 rfl), hF⟩))))))
  refine wc_known_false rfl hc130 ?_
  refine wc_skip ?_
  refine wq_seq ?_
  refine wc_seq ?_
  refine wc_region (l := [0, 1]) rfl ?_
  refine wo_seg Θ_ok [0, 1] [(0, v15), (3, v110), (5, (.int .i64 z73)), (6, (.slice A107 y100.1.length c108)), (26, (.slice A65 (([(4 : Int), (8 : Int), (16 : Int)] : List Int)).length c66)), (27, (.int .i64 ((([(4 : Int), (8 : Int), (16 : Int)] : List Int)).length : Int))), (28, (.int .i64 (i71 : Int)))] rfl ⟨rfl, rfl, rfl, rfl, rfl, rfl, rfl, trivial⟩ ?_
  refine wo_nil ?_
  refine wq_seq ?_
  refine wc_seq ?_
  refine wc_region (l := [0, 1, 2]) rfl ?_
  refine wo_seg Θ_ok [0, 1, 2] [(0, v15), (3, v110), (5, (.int .i64 z73)), (26, (.slice A65 (([(4 : Int), (8 : Int), (16 : Int)] : List Int)).length c66)), (27, (.int .i64 ((([(4 : Int), (8 : Int), (16 : Int)] : List Int)).length : Int))), (28, (.int .i64 (i71 : Int))), (76, (.slice A107 y100.1.length c108)), (77, (.int .i64 (y100.1.length : Int))), (78, (.int .i64 0))] rfl ⟨rfl, rfl, rfl, rfl, rfl, rfl, rfl, rfl, rfl, trivial⟩ ?_
  refine wo_nil ?_
  refine wq_seq ?_
  refine wc_block ?_
  refine wc_loop (fun m E W => ∃ (rest133 : List (List Int)) (i132 : Nat) (O136 : List Nat), rest133.length = m ∧ y100.1.drop i132 = rest133 ∧ E = [(0, v15), (3, v110), (5, (.int .i64 z73)), (26, (.slice A65 (([(4 : Int), (8 : Int), (16 : Int)] : List Int)).length c66)), (27, (.int .i64 ((([(4 : Int), (8 : Int), (16 : Int)] : List Int)).length : Int))), (28, (.int .i64 (i71 : Int))), (76, (.slice A107 y100.1.length c108)), (77, (.int .i64 (y100.1.length : Int))), (78, (.int .i64 (i132 : Int)))] ∧ Tr O121 w125 O136 W ∧ OB O136 W ∧ Sub O O136 ∧ Fr [] w W ∧ l_Order_l3 y19 z73 k83 y114 rest133 i132 = some r) _ [(0, v15), (3, v110), (5, (.int .i64 z73)), (26, (.slice A65 (([(4 : Int), (8 : Int), (16 : Int)] : List Int)).length c66)), (27, (.int .i64 ((([(4 : Int), (8 : Int), (16 : Int)] : List Int)).length : Int))), (28, (.int .i64 (i71 : Int))), (76, (.slice A107 y100.1.length c108)), (77, (.int .i64 (y100.1.length : Int))), (78, (.int .i64 ((0 : Nat) : Int)))] ⟨rfl, rfl, rfl, rfl, rfl, rfl, rfl, rfl, rfl, trivial⟩ ⟨y100.1, 0, O121, rfl, rfl, rfl, Tr.refl _ _, hO, hS, hF, h⟩ ?_
  rintro m E w137 ⟨rest133, i132, O136, rfl, hd135, rfl, T131, hO, hS, hF, h⟩
  have T21 := T21.trans T131
  have T67 := T67.trans T131
  have T82 := T82.trans T131
  have h17 := h17.tr T131
  have h112 := h112.tr T131
  have h63 := h63.tr T131
  have h103 := h103.tr T131
  rcases rest133 with _ | ⟨z134, rest133⟩
  · rw [l_Order_l3] at h
    have hl141 := drop_nil hd135
    have hc138 : (decide ((i132 : Int) < (y100.1.length : Int))) = false := decide_eq_false (by omega)
    refine wc_seq ?_
    refine wc_region (l := [0]) rfl ?_
    refine wo_seg Θ_ok [0] [(0, v15), (3, v110), (5, (.int .i64 z73)), (26, (.slice A65 (([(4 : Int), (8 : Int), (16 : Int)] : List Int)).length c66)), (27, (.int .i64 ((([(4 : Int), (8 : Int), (16 : Int)] : List Int)).length : Int))), (28, (.int .i64 (i71 : Int))), (76, (.slice A107 y100.1.length c108)), (77, (.int .i64 (y100.1.length : Int))), (78, (.int .i64 (i132 : Int))), (79, (.bool (decide ((i132 : Int) < (y100.1.length : Int)))))] rfl ⟨rfl, rfl, rfl, rfl, rfl, rfl, rfl, rfl, rfl, rfl, trivial⟩ ?_
    refine wo_nil ?_
    refine wq_seq ?_
    refine wc_seq ?_
    refine wc_known_false rfl hc138 ?_
    refine wc_exit ?_
    exact wq_then_exit (wq_then_exit (wq_block_exit (wq_block (wq_join hK86 [(0, v15), (3, v110), (26, (.slice A65 (([(4 : Int), (8 : Int), (16 : Int)] : List Int)).length c66)), (27, (.int .i64 ((([(4 : Int), (8 : Int), (16 : Int)] : List Int)).length : Int))), (28, (.int .i64 (i71 : Int)))] ⟨rfl, rfl, rfl, rfl, rfl, trivial⟩ ⟨O136, y114, v110, rfl, T82, hO, hS, hF, h112, h⟩))))
  rw [l_Order_l3] at h
  obtain ⟨hl142, hg140, hd135⟩ := drop_cons hd135
  have hc139 : (decide ((i132 : Int) < (y100.1.length : Int))) = true := decide_eq_true (by omega)
  refine wc_seq ?_
  refine wc_region (l := [0]) rfl ?_
  refine wo_seg Θ_ok [0] [(0, v15), (3, v110), (5, (.int .i64 z73)), (26, (.slice A65 (([(4 : Int), (8 : Int), (16 : Int)] : List Int)).length c66)), (27, (.int .i64 ((([(4 : Int), (8 : Int), (16 : Int)] : List Int)).length : Int))), (28, (.int .i64 (i71 : Int))), (76, (.slice A107 y100.1.length c108)), (77, (.int .i64 (y100.1.length : Int))), (78, (.int .i64 (i132 : Int))), (79, (.bool (decide ((i132 : Int) < (y100.1.length : Int)))))] rfl ⟨rfl, rfl, rfl, rfl, rfl, rfl, rfl, rfl, rfl, rfl, trivial⟩ ?_
  refine wo_nil ?_
  refine wq_seq ?_
  refine wc_seq ?_
  refine wc_known_true rfl hc139 ?_
  refine wc_skip ?_
  refine wq_seq ?_
  obtain ⟨k144, hk145, h⟩ := letk_some h
  refine wc_join (fun E W => ∃ (O148 : List Nat), E = [(0, v15), (3, v110), (5, (.int .i64 z73)), (26, (.slice A65 (([(4 : Int), (8 : Int), (16 : Int)] : List Int)).length c66)), (27, (.int .i64 ((([(4 : Int), (8 : Int), (16 : Int)] : List Int)).length : Int))), (28, (.int .i64 (i71 : Int))), (76, (.slice A107 y100.1.length c108)), (77, (.int .i64 (y100.1.length : Int))), (78, (.int .i64 (i132 : Int)))] ∧ Tr O136 w137 O148 W ∧ OB O148 W ∧ Sub O O148 ∧ Fr [] w W ∧ k144 = some r) ?_ (fun K146 hK147 => ?_)
  · rintro E w149 ⟨O148, rfl, T143, hO, hS, hF, h⟩
    have T21 := T21.trans T143
    have T67 := T67.trans T143
    have T82 := T82.trans T143
    have T131 := T131.trans T143
    have h17 := h17.tr T143
    have h112 := h112.tr T143
    have h63 := h63.tr T143
    have h103 := h103.tr T143
    subst hk145
    (try dsimp only at h)
    refine wc_region (l := [0, 1]) rfl ?_
    refine wo_seg Θ_ok [0, 1] [(0, v15), (3, v110), (5, (.int .i64 z73)), (26, (.slice A65 (([(4 : Int), (8 : Int), (16 : Int)] : List Int)).length c66)), (27, (.int .i64 ((([(4 : Int), (8 : Int), (16 : Int)] : List Int)).length : Int))), (28, (.int .i64 (i71 : Int))), (76, (.slice A107 y100.1.length c108)), (77, (.int .i64 (y100.1.length : Int))), (78, (.int .i64 (IntKind.i64.wrap ((i132 : Int) + (1 : Int)))))] rfl ⟨rfl, rfl, rfl, rfl, rfl, rfl, rfl, rfl, rfl, trivial⟩ ?_
    refine wo_nil ?_
    exact wq_next rest133.length [(0, v15), (3, v110), (5, (.int .i64 z73)), (26, (.slice A65 (([(4 : Int), (8 : Int), (16 : Int)] : List Int)).length c66)), (27, (.int .i64 ((([(4 : Int), (8 : Int), (16 : Int)] : List Int)).length : Int))), (28, (.int .i64 (i71 : Int))), (76, (.slice A107 y100.1.length c108)), (77, (.int .i64 (y100.1.length : Int))), (78, (.int .i64 ((i132 + 1 : Nat) : Int)))] (Nat.lt_succ_self _) ⟨rfl, rfl, rfl, rfl, rfl, rfl, rfl, rfl, congrArg (fun z => some (Value.int .i64 z)) (wrap_succ hl142 (Nat.le_trans hlc108 hmc108)), trivial⟩ ⟨rest133, i132 + 1, O148, rfl, hd135, rfl, T131, hO, hS, hF, h⟩
  clear hk145
  have T143 := Tr.refl O136 w137
  refine wc_block ?_
  refine wc_seq ?_
  refine wc_region (l := [0, 1, 2, 3, 4]) rfl ?_
  refine wo_seg Θ_ok [0] [(0, v15), (3, v110), (5, (.int .i64 z73)), (26, (.slice A65 (([(4 : Int), (8 : Int), (16 : Int)] : List Int)).length c66)), (27, (.int .i64 ((([(4 : Int), (8 : Int), (16 : Int)] : List Int)).length : Int))), (28, (.int .i64 (i71 : Int))), (76, (.slice A107 y100.1.length c108)), (77, (.int .i64 (y100.1.length : Int))), (78, (.int .i64 (i132 : Int))), (80, (.int .i64 (i132 : Int)))] rfl ⟨rfl, rfl, rfl, rfl, rfl, rfl, rfl, rfl, rfl, rfl, trivial⟩ ?_
  refine wo_index Θ_ok rfl rfl rfl rfl rfl rfl rfl rfl rfl rfl h103 rfl (by omega) hg140 (fun p150 h151 => ?_)
  refine wo_loadp Θ_ok rfl rfl rfl rfl rfl rfl rfl h151 rfl rfl (fun v152 h153 => ?_)
  refine wo_seg Θ_ok [3, 4] [(0, v15), (3, v110), (5, (.int .i64 z73)), (10, (.int .i64 (i132 : Int))), (11, v152), (26, (.slice A65 (([(4 : Int), (8 : Int), (16 : Int)] : List Int)).length c66)), (27, (.int .i64 ((([(4 : Int), (8 : Int), (16 : Int)] : List Int)).length : Int))), (28, (.int .i64 (i71 : Int))), (76, (.slice A107 y100.1.length c108)), (77, (.int .i64 (y100.1.length : Int))), (78, (.int .i64 (i132 : Int)))] rfl ⟨rfl, rfl, rfl, rfl, rfl, rfl, rfl, rfl, rfl, rfl, rfl, trivial⟩ ?_
  refine wo_nil ?_
  refine wq_seq ?_
  refine wc_seq ?_
  refine wc_region (l := [0, 1, 2]) rfl ?_
  refine wo_seg Θ_ok [0] [(0, v15), (3, v110), (5, (.int .i64 z73)), (10, (.int .i64 (i132 : Int))), (26, (.slice A65 (([(4 : Int), (8 : Int), (16 : Int)] : List Int)).length c66)), (27, (.int .i64 ((([(4 : Int), (8 : Int), (16 : Int)] : List Int)).length : Int))), (28, (.int .i64 (i71 : Int))), (76, (.slice A107 y100.1.length c108)), (77, (.int .i64 (y100.1.length : Int))), (78, (.int .i64 (i132 : Int))), (83, v152)] rfl ⟨rfl, rfl, rfl, rfl, rfl, rfl, rfl, rfl, rfl, rfl, rfl, trivial⟩ ?_
  obtain ⟨A154, c155, rfl, hlc155, hmc155⟩ := slice_form h153
  refine wo_seg Θ_ok [1] [(0, v15), (3, v110), (5, (.int .i64 z73)), (10, (.int .i64 (i132 : Int))), (26, (.slice A65 (([(4 : Int), (8 : Int), (16 : Int)] : List Int)).length c66)), (27, (.int .i64 ((([(4 : Int), (8 : Int), (16 : Int)] : List Int)).length : Int))), (28, (.int .i64 (i71 : Int))), (76, (.slice A107 y100.1.length c108)), (77, (.int .i64 (y100.1.length : Int))), (78, (.int .i64 (i132 : Int))), (83, (.slice A154 z134.length c155)), (84, (.int .i64 (z134.length : Int)))] rfl ⟨rfl, rfl, rfl, rfl, rfl, rfl, rfl, rfl, rfl, rfl, rfl, rfl, trivial⟩ ?_
  refine wo_seg Θ_ok [2] [(0, v15), (3, v110), (5, (.int .i64 z73)), (10, (.int .i64 (i132 : Int))), (26, (.slice A65 (([(4 : Int), (8 : Int), (16 : Int)] : List Int)).length c66)), (27, (.int .i64 ((([(4 : Int), (8 : Int), (16 : Int)] : List Int)).length : Int))), (28, (.int .i64 (i71 : Int))), (76, (.slice A107 y100.1.length c108)), (77, (.int .i64 (y100.1.length : Int))), (78, (.int .i64 (i132 : Int))), (83, (.slice A154 z134.length c155)), (84, (.int .i64 (z134.length : Int))), (85, (.int .i64 0))] rfl ⟨rfl, rfl, rfl, rfl, rfl, rfl, rfl, rfl, rfl, rfl, rfl, rfl, rfl, trivial⟩ ?_
  refine wo_nil ?_
  refine wq_seq ?_
  refine wc_block ?_
  refine wc_loop (fun m E W => ∃ (rest158 : List Int) (i157 : Nat) (O161 : List Nat), rest158.length = m ∧ z134.drop i157 = rest158 ∧ E = [(0, v15), (3, v110), (5, (.int .i64 z73)), (10, (.int .i64 (i132 : Int))), (26, (.slice A65 (([(4 : Int), (8 : Int), (16 : Int)] : List Int)).length c66)), (27, (.int .i64 ((([(4 : Int), (8 : Int), (16 : Int)] : List Int)).length : Int))), (28, (.int .i64 (i71 : Int))), (76, (.slice A107 y100.1.length c108)), (77, (.int .i64 (y100.1.length : Int))), (78, (.int .i64 (i132 : Int))), (83, (.slice A154 z134.length c155)), (84, (.int .i64 (z134.length : Int))), (85, (.int .i64 (i157 : Int)))] ∧ Tr O136 w137 O161 W ∧ OB O161 W ∧ Sub O O161 ∧ Fr [] w W ∧ l_Order_l4 y19 z73 i132 k144 rest158 i157 = some r) _ [(0, v15), (3, v110), (5, (.int .i64 z73)), (10, (.int .i64 (i132 : Int))), (26, (.slice A65 (([(4 : Int), (8 : Int), (16 : Int)] : List Int)).length c66)), (27, (.int .i64 ((([(4 : Int), (8 : Int), (16 : Int)] : List Int)).length : Int))), (28, (.int .i64 (i71 : Int))), (76, (.slice A107 y100.1.length c108)), (77, (.int .i64 (y100.1.length : Int))), (78, (.int .i64 (i132 : Int))), (83, (.slice A154 z134.length c155)), (84, (.int .i64 (z134.length : Int))), (85, (.int .i64 ((0 : Nat) : Int)))] ⟨rfl, rfl, rfl, rfl, rfl, rfl, rfl, rfl, rfl, rfl, rfl, rfl, rfl, trivial⟩ ⟨z134, 0, O136, rfl, rfl, rfl, Tr.refl _ _, hO, hS, hF, h⟩ ?_
  rintro m E w162 ⟨rest158, i157, O161, rfl, hd160, rfl, T156, hO, hS, hF, h⟩
  have T21 := T21.trans T156
  have T67 := T67.trans T156
  have T82 := T82.trans T156
  have T131 := T131.trans T156
  have T143 := T143.trans T156
  have h17 := h17.tr T156
  have h112 := h112.tr T156
  have h63 := h63.tr T156
  have h103 := h103.tr T156
  have h153 := h153.tr T156
  rcases rest158 with _ | ⟨z159, rest158⟩
  · rw [l_Order_l4] at h
    have hl166 := drop_nil hd160
    have hc163 : (decide ((i157 : Int) < (z134.length : Int))) = false := decide_eq_false (by omega)
    refine wc_seq ?_
    refine wc_region (l := [0]) rfl ?_
    refine wo_seg Θ_ok [0] [(0, v15), (3, v110), (5, (.int .i64 z73)), (10, (.int .i64 (i132 : Int))), (26, (.slice A65 (([(4 : Int), (8 : Int), (16 : Int)] : List Int)).length c66)), (27, (.int .i64 ((([(4 : Int), (8 : Int), (16 : Int)] : List Int)).length : Int))), (28, (.int .i64 (i71 : Int))), (76, (.slice A107 y100.1.length c108)), (77, (.int .i64 (y100.1.length : Int))), (78, (.int .i64 (i132 : Int))), (83, (.slice A154 z134.length c155)), (84, (.int .i64 (z134.length : Int))), (85, (.int .i64 (i157 : Int))), (86, (.bool (decide ((i157 : Int) < (z134.length : Int)))))] rfl ⟨rfl, rfl, rfl, rfl, rfl, rfl, rfl, rfl, rfl, rfl, rfl, rfl, rfl, rfl, trivial⟩ ?_
    refine wo_nil ?_
    refine wq_seq ?_
    refine wc_seq ?_
    refine wc_known_false rfl hc163 ?_
    refine wc_exit ?_
    exact wq_then_exit (wq_then_exit (wq_block_exit (wq_block (wq_join hK147 [(0, v15), (3, v110), (5, (.int .i64 z73)), (26, (.slice A65 (([(4 : Int), (8 : Int), (16 : Int)] : List Int)).length c66)), (27, (.int .i64 ((([(4 : Int), (8 : Int), (16 : Int)] : List Int)).length : Int))), (28, (.int .i64 (i71 : Int))), (76, (.slice A107 y100.1.length c108)), (77, (.int .i64 (y100.1.length : Int))), (78, (.int .i64 (i132 : Int)))] ⟨rfl, rfl, rfl, rfl, rfl, rfl, rfl, rfl, rfl, trivial⟩ ⟨O161, rfl, T143, hO, hS, hF, h⟩))))
  rw [l_Order_l4] at h
  obtain ⟨hl167, hg165, hd160⟩ := drop_cons hd160
  have hc164 : (decide ((i157 : Int) < (z134.length : Int))) = true := decide_eq_true (by omega)
  refine wc_seq ?_
  refine wc_region (l := [0]) rfl ?_
  refine wo_seg Θ_ok [0] [(0, v15), (3, v110), (5, (.int .i64 z73)), (10, (.int .i64 (i132 : Int))), (26, (.slice A65 (([(4 : Int), (8 : Int), (16 : Int)] : List Int)).length c66)), (27, (.int .i64 ((([(4 : Int), (8 : Int), (16 : Int)] : List Int)).length : Int))), (28, (.int .i64 (i71 : Int))), (76, (.slice A107 y100.1.length c108)), (77, (.int .i64 (y100.1.length : Int))), (78, (.int .i64 (i132 : Int))), (83, (.slice A154 z134.length c155)), (84, (.int .i64 (z134.length : Int))), (85, (.int .i64 (i157 : Int))), (86, (.bool (decide ((i157 : Int) < (z134.length : Int)))))] rfl ⟨rfl, rfl, rfl, rfl, rfl, rfl, rfl, rfl, rfl, rfl, rfl, rfl, rfl, rfl, trivial⟩ ?_
  refine wo_nil ?_
  refine wq_seq ?_
  refine wc_seq ?_
  refine wc_known_true rfl hc164 ?_
  refine wc_skip ?_
  refine wq_seq ?_
  refine wc_seq ?_
  refine wc_block ?_
  refine wc_seq ?_
  refine wc_region (l := [0, 1, 2]) rfl ?_
  refine wo_index Θ_ok rfl rfl rfl rfl rfl rfl rfl rfl rfl rfl h153 rfl (by omega) hg165 (fun p168 h169 => ?_)
  refine wo_loadp Θ_ok rfl rfl rfl rfl rfl rfl rfl h169 rfl rfl (fun v170 h171 => ?_)
  obtain rfl := int_is.1 h171
  refine wo_seg Θ_ok [2] [(0, v15), (3, v110), (5, (.int .i64 z73)), (10, (.int .i64 (i132 : Int))), (13, (.int .u64 z159)), (26, (.slice A65 (([(4 : Int), (8 : Int), (16 : Int)] : List Int)).length c66)), (27, (.int .i64 ((([(4 : Int), (8 : Int), (16 : Int)] : List Int)).length : Int))), (28, (.int .i64 (i71 : Int))), (76, (.slice A107 y100.1.length c108)), (77, (.int .i64 (y100.1.length : Int))), (78, (.int .i64 (i132 : Int))), (83, (.slice A154 z134.length c155)), (84, (.int .i64 (z134.length : Int))), (85, (.int .i64 (i157 : Int)))] rfl ⟨rfl, rfl, rfl, rfl, rfl, rfl, rfl, rfl, rfl, rfl, rfl, rfl, rfl, rfl, trivial⟩ ?_
  refine wo_nil ?_
  refine wq_seq ?_
  refine wc_seq ?_
  refine wc_region (l := [0, 1, 2, 3, 4, 5, 6, 7]) rfl ?_
  refine wo_seg Θ_ok [0, 1] [(0, v15), (3, v110), (5, (.int .i64 z73)), (10, (.int .i64 (i132 : Int))), (13, (.int .u64 z159)), (26, (.slice A65 (([(4 : Int), (8 : Int), (16 : Int)] : List Int)).length c66)), (27, (.int .i64 ((([(4 : Int), (8 : Int), (16 : Int)] : List Int)).length : Int))), (28, (.int .i64 (i71 : Int))), (76, (.slice A107 y100.1.length c108)), (77, (.int .i64 (y100.1.length : Int))), (78, (.int .i64 (i132 : Int))), (83, (.slice A154 z134.length c155)), (84, (.int .i64 (z134.length : Int))), (85, (.int .i64 (i157 : Int))), (90, (.int .u64 z159)), (91, (.int .i64 z73))] rfl ⟨rfl, rfl, rfl, rfl, rfl, rfl, rfl, rfl, rfl, rfl, rfl, rfl, rfl, rfl, rfl, rfl, trivial⟩ ?_
  obtain ⟨y176, hy177, h⟩ := bind_some h
  refine wo_gives rfl rfl rfl rfl rfl ent17 rfl (b_Of_c hO (int_is.2 rfl) (int_is.2 rfl) hy177) (fun v172 w173 h174 f175 => ?_)
  have h17 := h17.tr f175.tr0
  have h112 := h112.tr f175.tr0
  have h63 := h63.tr f175.tr0
  have h103 := h103.tr f175.tr0
  have h153 := h153.tr f175.tr0
  have T21 := T21.trans f175.tr0
  have T67 := T67.trans f175.tr0
  have T82 := T82.trans f175.tr0
  have T131 := T131.trans f175.tr0
  have T143 := T143.trans f175.tr0
  have T156 := T156.trans f175.tr0
  have hO := f175.ob hO
  have hF := hF.trans f175
  obtain ⟨u178, u180, rfl, h179, h181⟩ := h174
  obtain rfl := int_is.1 h179
  obtain rfl := int_is.1 h181
  refine wo_seg Θ_ok [3, 4, 5, 6, 7] [(0, v15), (3, v110), (5, (.int .i64 z73)), (10, (.int .i64 (i132 : Int))), (13, (.int .u64 z159)), (14, (.int .i64 y176.1)), (15, (.int .i64 y176.2)), (26, (.slice A65 (([(4 : Int), (8 : Int), (16 : Int)] : List Int)).length c66)), (27, (.int .i64 ((([(4 : Int), (8 : Int), (16 : Int)] : List Int)).length : Int))), (28, (.int .i64 (i71 : Int))), (76, (.slice A107 y100.1.length c108)), (77, (.int .i64 (y100.1.length : Int))), (78, (.int .i64 (i132 : Int))), (83, (.slice A154 z134.length c155)), (84, (.int .i64 (z134.length : Int))), (85, (.int .i64 (i157 : Int)))] rfl ⟨rfl, rfl, rfl, rfl, rfl, rfl, rfl, rfl, rfl, rfl, rfl, rfl, rfl, rfl, rfl, rfl, trivial⟩ ?_
  refine wo_nil ?_
  refine wq_seq ?_
  refine wc_seq ?_
  refine wc_region (l := [0, 1, 2, 3, 4, 5, 6, 7, 8, 9, 10, 11, 12]) rfl ?_
  refine wo_seg Θ_ok [0, 1, 2] [(0, v15), (3, v110), (5, (.int .i64 z73)), (10, (.int .i64 (i132 : Int))), (13, (.int .u64 z159)), (14, (.int .i64 y176.1)), (26, (.slice A65 (([(4 : Int), (8 : Int), (16 : Int)] : List Int)).length c66)), (27, (.int .i64 ((([(4 : Int), (8 : Int), (16 : Int)] : List Int)).length : Int))), (28, (.int .i64 (i71 : Int))), (76, (.slice A107 y100.1.length c108)), (77, (.int .i64 (y100.1.length : Int))), (78, (.int .i64 (i132 : Int))), (83, (.slice A154 z134.length c155)), (84, (.int .i64 (z134.length : Int))), (85, (.int .i64 (i157 : Int))), (97, (.bool (y176.2 != (0 : Int))))] rfl ⟨rfl, rfl, rfl, rfl, rfl, rfl, rfl, rfl, rfl, rfl, rfl, rfl, rfl, rfl, rfl, rfl, trivial⟩ ?_
  rcases bif_some h with ⟨hc182, h⟩ | ⟨hc182, h⟩
  · refine wo_know 97 true rfl hc182 ?_
    refine wo_seg Θ_ok [3, 4, 5, 6, 7, 8, 9, 10, 11, 12] [(0, v15), (3, v110), (5, (.int .i64 z73)), (10, (.int .i64 (i132 : Int))), (26, (.slice A65 (([(4 : Int), (8 : Int), (16 : Int)] : List Int)).length c66)), (27, (.int .i64 ((([(4 : Int), (8 : Int), (16 : Int)] : List Int)).length : Int))), (28, (.int .i64 (i71 : Int))), (76, (.slice A107 y100.1.length c108)), (77, (.int .i64 (y100.1.length : Int))), (78, (.int .i64 (i132 : Int))), (83, (.slice A154 z134.length c155)), (84, (.int .i64 (z134.length : Int))), (85, (.int .i64 (i157 : Int))), (107, (.bool true))] rfl ⟨rfl, rfl, rfl, rfl, rfl, rfl, rfl, rfl, rfl, rfl, rfl, rfl, rfl, rfl, trivial⟩ ?_
    refine wo_nil ?_
    refine wq_seq ?_
    refine wc_true rfl ?_
    refine wc_seq ?_
    refine wc_region (l := [0]) rfl ?_
    refine wo_seg Θ_ok [0] [(2, (.bool false))] rfl ⟨rfl, trivial⟩ ?_
    refine wo_nil ?_
    refine wq_seq ?_
    refine wc_ret ?_
    cases h
    exact wq_block_ret (wq_then_ret (wq_then_ret (wq_block_ret (wq_block_ret (wq_then_ret (wq_then_ret (wq_block_ret (wq_block_ret (wq_then_ret (wq_then_ret (wq_block_ret (wq_then_ret (wq_ret rfl ⟨_, rfl, (bool_is.2 rfl), hF⟩)))))))))))))
  refine wo_know 97 false rfl hc182 ?_
  refine wo_seg Θ_ok [3, 4, 5, 6, 7] [(0, v15), (3, v110), (5, (.int .i64 z73)), (10, (.int .i64 (i132 : Int))), (13, (.int .u64 z159)), (26, (.slice A65 (([(4 : Int), (8 : Int), (16 : Int)] : List Int)).length c66)), (27, (.int .i64 ((([(4 : Int), (8 : Int), (16 : Int)] : List Int)).length : Int))), (28, (.int .i64 (i71 : Int))), (76, (.slice A107 y100.1.length c108)), (77, (.int .i64 (y100.1.length : Int))), (78, (.int .i64 (i132 : Int))), (83, (.slice A154 z134.length c155)), (84, (.int .i64 (z134.length : Int))), (85, (.int .i64 (i157 : Int))), (102, (.bool (y176.1 != (i132 : Int))))] rfl ⟨rfl, rfl, rfl, rfl, rfl, rfl, rfl, rfl, rfl, rfl, rfl, rfl, rfl, rfl, rfl, trivial⟩ ?_
  rcases bif_some h with ⟨hc183, h⟩ | ⟨hc183, h⟩
  · refine wo_know 102 true rfl hc183 ?_
    refine wo_seg Θ_ok [8, 9, 10, 11, 12] [(0, v15), (3, v110), (5, (.int .i64 z73)), (10, (.int .i64 (i132 : Int))), (26, (.slice A65 (([(4 : Int), (8 : Int), (16 : Int)] : List Int)).length c66)), (27, (.int .i64 ((([(4 : Int), (8 : Int), (16 : Int)] : List Int)).length : Int))), (28, (.int .i64 (i71 : Int))), (76, (.slice A107 y100.1.length c108)), (77, (.int .i64 (y100.1.length : Int))), (78, (.int .i64 (i132 : Int))), (83, (.slice A154 z134.length c155)), (84, (.int .i64 (z134.length : Int))), (85, (.int .i64 (i157 : Int))), (107, (.bool true))] rfl ⟨rfl, rfl, rfl, rfl, rfl, rfl, rfl, rfl, rfl, rfl, rfl, rfl, rfl, rfl, trivial⟩ ?_
    refine wo_nil ?_
    refine wq_seq ?_
    refine wc_true rfl ?_
    refine wc_seq ?_
    refine wc_region (l := [0]) rfl ?_
    refine wo_seg Θ_ok [0] [(2, (.bool false))] rfl ⟨rfl, trivial⟩ ?_
    refine wo_nil ?_
    refine wq_seq ?_
    refine wc_ret ?_
    cases h
    exact wq_block_ret (wq_then_ret (wq_then_ret (wq_block_ret (wq_block_ret (wq_then_ret (wq_then_ret (wq_block_ret (wq_block_ret (wq_then_ret (wq_then_ret (wq_block_ret (wq_then_ret (wq_ret rfl ⟨_, rfl, (bool_is.2 rfl), hF⟩)))))))))))))
  refine wo_know 102 false rfl hc183 ?_
  refine wo_seg Θ_ok [8, 9] [(0, v15), (3, v110), (5, (.int .i64 z73)), (10, (.int .i64 (i132 : Int))), (26, (.slice A65 (([(4 : Int), (8 : Int), (16 : Int)] : List Int)).length c66)), (27, (.int .i64 ((([(4 : Int), (8 : Int), (16 : Int)] : List Int)).length : Int))), (28, (.int .i64 (i71 : Int))), (76, (.slice A107 y100.1.length c108)), (77, (.int .i64 (y100.1.length : Int))), (78, (.int .i64 (i132 : Int))), (83, (.slice A154 z134.length c155)), (84, (.int .i64 (z134.length : Int))), (85, (.int .i64 (i157 : Int))), (102, (.bool false)), (103, v15), (104, (.int .u64 z159))] rfl ⟨rfl, rfl, rfl, rfl, rfl, rfl, rfl, rfl, rfl, rfl, rfl, rfl, rfl, rfl, rfl, rfl, trivial⟩ ?_
  refine wo_gives rfl rfl rfl rfl rfl ent36 rfl (s_Contains_c hO h17 (int_is.2 rfl)) (fun v184 w185 h186 f187 => ?_)
  have h17 := h17.tr f187.tr0
  have h112 := h112.tr f187.tr0
  have h63 := h63.tr f187.tr0
  have h103 := h103.tr f187.tr0
  have h153 := h153.tr f187.tr0
  have T21 := T21.trans f187.tr0
  have T67 := T67.trans f187.tr0
  have T82 := T82.trans f187.tr0
  have T131 := T131.trans f187.tr0
  have T143 := T143.trans f187.tr0
  have T156 := T156.trans f187.tr0
  have hO := f187.ob hO
  have hF := hF.trans f187
  obtain rfl := bool_is.1 h186
  refine wo_seg Θ_ok [11, 12] [(0, v15), (3, v110), (5, (.int .i64 z73)), (10, (.int .i64 (i132 : Int))), (26, (.slice A65 (([(4 : Int), (8 : Int), (16 : Int)] : List Int)).length c66)), (27, (.int .i64 ((([(4 : Int), (8 : Int), (16 : Int)] : List Int)).length : Int))), (28, (.int .i64 (i71 : Int))), (76, (.slice A107 y100.1.length c108)), (77, (.int .i64 (y100.1.length : Int))), (78, (.int .i64 (i132 : Int))), (83, (.slice A154 z134.length c155)), (84, (.int .i64 (z134.length : Int))), (85, (.int .i64 (i157 : Int))), (107, (.bool (!(s_Contains y19 z159))))] rfl ⟨rfl, rfl, rfl, rfl, rfl, rfl, rfl, rfl, rfl, rfl, rfl, rfl, rfl, rfl, trivial⟩ ?_
  refine wo_nil ?_
  refine wq_seq ?_
  rcases bif_some h with ⟨hc188, h⟩ | ⟨hc188, h⟩
  rotate_left
  · refine wc_known_false rfl hc188 ?_
    refine wc_skip ?_
    refine wq_block (wq_seq ?_)
    refine wc_region (l := [0, 1]) rfl ?_
    refine wo_seg Θ_ok [0, 1] [(0, v15), (3, v110), (5, (.int .i64 z73)), (10, (.int .i64 (i132 : Int))), (26, (.slice A65 (([(4 : Int), (8 : Int), (16 : Int)] : List Int)).length c66)), (27, (.int .i64 ((([(4 : Int), (8 : Int), (16 : Int)] : List Int)).length : Int))), (28, (.int .i64 (i71 : Int))), (76, (.slice A107 y100.1.length c108)), (77, (.int .i64 (y100.1.length : Int))), (78, (.int .i64 (i132 : Int))), (83, (.slice A154 z134.length c155)), (84, (.int .i64 (z134.length : Int))), (85, (.int .i64 (IntKind.i64.wrap ((i157 : Int) + (1 : Int)))))] rfl ⟨rfl, rfl, rfl, rfl, rfl, rfl, rfl, rfl, rfl, rfl, rfl, rfl, rfl, trivial⟩ ?_
    refine wo_nil ?_
    exact wq_next rest158.length [(0, v15), (3, v110), (5, (.int .i64 z73)), (10, (.int .i64 (i132 : Int))), (26, (.slice A65 (([(4 : Int), (8 : Int), (16 : Int)] : List Int)).length c66)), (27, (.int .i64 ((([(4 : Int), (8 : Int), (16 : Int)] : List Int)).length : Int))), (28, (.int .i64 (i71 : Int))), (76, (.slice A107 y100.1.length c108)), (77, (.int .i64 (y100.1.length : Int))), (78, (.int .i64 (i132 : Int))), (83, (.slice A154 z134.length c155)), (84, (.int .i64 (z134.length : Int))), (85, (.int .i64 ((i157 + 1 : Nat) : Int)))] (Nat.lt_succ_self _) ⟨rfl, rfl, rfl, rfl, rfl, rfl, rfl, rfl, rfl, rfl, rfl, rfl, congrArg (fun z => some (Value.int .i64 z)) (wrap_succ hl167 (Nat.le_trans hlc155 hmc155)), trivial⟩ ⟨rest158, i157 + 1, O161, rfl, hd160, rfl, T156, hO, hS, hF, h⟩
  refine wc_known_true rfl hc188 ?_
  refine wc_seq ?_
  refine wc_region (l := [0]) rfl ?_
  refine wo_seg Θ_ok [0] [(2, (.bool false))] rfl ⟨rfl, trivial⟩ ?_
  refine wo_nil ?_
  refine wq_seq ?_
  refine wc_ret ?_
  cases h
  exact wq_block_ret (wq_then_ret (wq_then_ret (wq_block_ret (wq_block_ret (wq_then_ret (wq_then_ret (wq_block_ret (wq_block_ret (wq_then_ret (wq_then_ret (wq_block_ret (wq_then_ret (wq_ret rfl ⟨_, rfl, (bool_is.2 rfl), hF⟩)))))))))))))
end Go.Proofs.Ytdemjanelbajlaa
