/-
  The program's functions compute the plain ones (printed by a tool of the prover's).
-/
import Derived.Test.YtdemjanelbajlaaGWalk4
namespace Go.Proofs.Ytdemjanelbajlaa
open Go.RowKit Go.Dc Go.Shelf
set_option maxRecDepth 100000 in
set_option maxHeartbeats 4000000 in
theorem l_Of_c {O : List Nat} {w : World} (hO : OB O w) {fuel : Nat} {v0 : Value} {x0 : List Int} (h0 : (Ty.slice (Ty.int .u64)).is O w v0 x0) {v1 : Value} {x1 : Int} (h1 : (Ty.int .i64).is O w v1 x1) {r : Bool} (h : l_Of fuel x0 x1 = some r) : Calls Try.prog 6 #[v0, v1] w (Gives (rt1 Ty.bool) O w r) := by
  obtain rfl := int_is.1 h1
  have hF := Fr.refl [] w
  have hO0 := hO
  have hS := Sub.refl O
  refine calls_of (args := [v0, (.int .i64 x1)]) (N := 95) Try.func6 rfl rfl rfl ?_
  unfold l_Of at h
  refine wc_seq ?_
  refine wc_region (l := [0]) rfl ?_
  refine wo_seg Θ_ok [0] [(0, v0), (1, (.int .i64 x1))] rfl ⟨rfl, rfl, trivial⟩ ?_
  refine wo_nil ?_
  refine wq_seq ?_
  refine wc_seq ?_
  refine wc_seq ?_
  refine wc_region (l := [0, 1]) rfl ?_
  obtain ⟨y7, hy8, h⟩ := bind_some h
  refine wo_gives rfl rfl rfl rfl rfl ent10 rfl (r_wakes_c hO hy8) (fun v3 w4 h5 f6 => ?_)
  have h0 := h0.tr f6.tr0
  have hO := f6.ob hO
  have hF := hF.trans f6
  obtain rfl := bool_is.1 h5
  refine wo_seg Θ_ok [1] [(0, v0), (1, (.int .i64 x1)), (15, (.bool (!y7)))] rfl ⟨rfl, rfl, rfl, trivial⟩ ?_
  refine wo_nil ?_
  refine wq_seq ?_
  rcases bif_some h with ⟨hc9, h⟩ | ⟨hc9, h⟩
  · refine wc_known_true rfl hc9 ?_
    refine wc_seq ?_
    refine wc_region (l := [0]) rfl ?_
    refine wo_seg Θ_ok [0] [(4, (.bool false))] rfl ⟨rfl, trivial⟩ ?_
    refine wo_nil ?_
    refine wq_seq ?_
    refine wc_ret ?_
    cases h
    exact wq_then_ret (wq_ret rfl ⟨_, rfl, (bool_is.2 rfl), hF⟩)
  refine wc_known_false rfl hc9 ?_
  refine wc_skip ?_
  refine wq_seq ?_
  refine wc_seq ?_
  refine wc_region (l := [0, 1, 2, 3, 4, 5, 6]) rfl ?_
  refine wo_seg Θ_ok [0, 1] [(1, (.int .i64 x1)), (16, v0), (17, v0)] rfl ⟨rfl, rfl, rfl, trivial⟩ ?_
  obtain ⟨A10, c11, rfl, hlc11, hmc11⟩ := slice_form h0
  refine wo_seg Θ_ok [2] [(1, (.int .i64 x1)), (16, (.slice A10 x0.length c11)), (18, (.int .i64 (x0.length : Int)))] rfl ⟨rfl, rfl, rfl, trivial⟩ ?_
  refine wo_seg Θ_ok [3] [(1, (.int .i64 x1)), (16, (.slice A10 x0.length c11)), (19, (.int .i64 (if (24 : Int) < (x0.length : Int) then (24 : Int) else (x0.length : Int))))] rfl ⟨rfl, rfl, rfl, trivial⟩ ?_
  obtain ⟨y12, hz13, h⟩ := bind_some h
  refine wo_cut (l' := none) (h' := some (.i64, (if (24 : Int) < (x0.length : Int) then (24 : Int) else (x0.length : Int)))) (m' := none) Θ_ok rfl rfl rfl rfl rfl rfl rfl rfl rfl rfl rfl rfl rfl h0 hz13 (fun v14 h15 => ?_)
  obtain ⟨y20, hy21, h⟩ := bind_some h
  refine wo_gives rfl rfl rfl rfl rfl ent16 rfl (s_Clone_c hO h15 hy21) (fun v16 w17 h18 f19 => ?_)
  have hO := f19.ob hO
  have hF := hF.trans f19
  refine wo_seg Θ_ok [6] [(0, v16), (1, (.int .i64 x1))] rfl ⟨rfl, rfl, trivial⟩ ?_
  refine wo_nil ?_
  refine wq_seq ?_
  obtain ⟨k23, hk24, h⟩ := letk_some h
  refine wc_join (fun E W => ∃ (O27 : List Nat), E = [(0, v16), (1, (.int .i64 x1))] ∧ Tr O w17 O27 W ∧ OB O27 W ∧ Sub O O27 ∧ Fr [] w W ∧ k23 = some r) ?_ (fun K25 hK26 => ?_)
  · rintro E w28 ⟨O27, rfl, T22, hO, hS, hF, h⟩
    have h18 := h18.tr T22
    subst hk24
    (try dsimp only at h)
    refine wc_seq ?_
    refine wc_region (l := [0, 1, 2]) rfl ?_
    refine wo_seg Θ_ok [0] [(0, v16), (1, (.int .i64 x1)), (62, v16)] rfl ⟨rfl, rfl, rfl, trivial⟩ ?_
    obtain ⟨y33, hy34, h⟩ := bind_some h
    refine wo_gives rfl rfl rfl rfl rfl ent16 rfl (s_Clone_c hO h18 hy34) (fun v29 w30 h31 f32 => ?_)
    have h18 := h18.tr f32.tr0
    have hO := f32.ob hO
    have hF := hF.trans f32
    refine wo_seg Θ_ok [2] [(0, v16), (1, (.int .i64 x1)), (11, v29)] rfl ⟨rfl, rfl, rfl, trivial⟩ ?_
    refine wo_nil ?_
    refine wq_seq ?_
    refine wc_seq ?_
    refine wc_region (l := [0, 1, 2, 3, 4, 5, 6, 7]) rfl ?_
    refine wo_seg Θ_ok [0, 1] [(0, v16), (1, (.int .i64 x1)), (11, v29), (65, (.int .i64 x1)), (66, v16)] rfl ⟨rfl, rfl, rfl, rfl, rfl, trivial⟩ ?_
    obtain ⟨y39, hy40, h⟩ := bind_some h
    have h18_K41 := h18
    have h31_K41 := h31
    have hF_K41 := hF
    have hO_K41 := hO
    have TTK41 := Tr.refl O27 w30
    refine wo_gives rfl rfl rfl rfl rfl ent21 rfl (b_Spread_n (ob_range _) (int_is.2 rfl) (h18.tr (Tr.less (sub_nil _))) hy40) (fun v35 w36 h37 f38 => ?_)
    have h18 := h18.tr f38.tr0
    have h31 := h31.tr f38.tr0
    have TTK41 := TTK41.trans f38.tr0
    have hO := f38.ob hO
    have hF := hF.trans f38
    obtain ⟨u42, u44, rfl, h43, h45⟩ := h37
    obtain rfl := int_is.1 h45
    have FFK41 := Fr.refl [] w36
    have TLK41 := TL.refl hO_K41 w36
    have h43N := h43
    have h43M := h43
    have h43 := h43.tr (Tr.less (sub_range hO_K41))
    refine wo_seg Θ_ok [3, 4, 5, 6, 7] [(0, v16), (1, (.int .i64 x1)), (11, v29), (12, u42), (13, (.int .i64 y39.2))] rfl ⟨rfl, rfl, rfl, rfl, rfl, trivial⟩ ?_
    refine wo_nil ?_
    refine wq_seq ?_
    refine wc_seq ?_
    refine wc_seq ?_
    refine wc_region (l := [0, 1, 2]) rfl ?_
    refine wo_seg Θ_ok [0] [(0, v16), (1, (.int .i64 x1)), (11, v29), (12, u42), (13, (.int .i64 y39.2)), (70, (.int .i64 x1))] rfl ⟨rfl, rfl, rfl, rfl, rfl, rfl, trivial⟩ ?_
    refine wo_gives rfl rfl rfl rfl rfl ent12 rfl (r_May_c hO (int_is.2 rfl)) (fun v46 w47 h48 f49 => ?_)
    have h18 := h18.tr f49.tr0
    have h31 := h31.tr f49.tr0
    have h43 := h43.tr f49.tr0
    have TTK41 := TTK41.trans f49.tr0
    have TLK41 := TLK41.trans f49.tr0
    have FFK41 := FFK41.trans f49
    have hO := f49.ob hO
    have hF := hF.trans f49
    obtain rfl := bool_is.1 h48
    refine wo_seg Θ_ok [2] [(0, v16), (1, (.int .i64 x1)), (11, v29), (12, u42), (13, (.int .i64 y39.2)), (72, (.bool (!(r_May x1))))] rfl ⟨rfl, rfl, rfl, rfl, rfl, rfl, trivial⟩ ?_
    refine wo_nil ?_
    refine wq_seq ?_
    rcases bif_some h with ⟨hc50, h⟩ | ⟨hc50, h⟩
    · refine wc_known_true rfl hc50 ?_
      refine wc_seq ?_
      refine wc_region (l := [0, 1, 2, 3, 4, 5, 6, 7]) rfl ?_
      refine wo_seg Θ_ok [0, 1, 2] [(12, u42), (75, (.bool (y39.2 == (2 : Int))))] rfl ⟨rfl, rfl, trivial⟩ ?_
      rcases bif_some h with ⟨hc51, h⟩ | ⟨hc51, h⟩
      rotate_left
      · refine wo_know 75 false rfl hc51 ?_
        refine wo_seg Θ_ok [3, 4, 5, 6, 7] [(4, (.bool false))] rfl ⟨rfl, trivial⟩ ?_
        refine wo_nil ?_
        refine wq_seq ?_
        refine wc_ret ?_
        cases h
        exact wq_then_ret (wq_ret rfl ⟨_, rfl, (bool_is.2 rfl), hF⟩)
      refine wo_know 75 true rfl hc51 ?_
      refine wo_seg Θ_ok [3] [(75, (.bool true)), (76, u42)] rfl ⟨rfl, rfl, trivial⟩ ?_
      obtain ⟨A52, c53, rfl, hlc53, hmc53⟩ := slice_form h43
      refine wo_seg Θ_ok [4] [(75, (.bool true)), (77, (.int .i64 (y39.1.length : Int)))] rfl ⟨rfl, rfl, trivial⟩ ?_
      refine wo_seg Θ_ok [5, 6, 7] [(4, (.bool ((y39.1.length : Int) == (0 : Int))))] rfl ⟨rfl, trivial⟩ ?_
      refine wo_nil ?_
      refine wq_seq ?_
      refine wc_ret ?_
      cases h
      exact wq_then_ret (wq_ret rfl ⟨_, rfl, (bool_is.2 rfl), hF⟩)
    refine wc_known_false rfl hc50 ?_
    refine wc_skip ?_
    refine wq_seq ?_
    refine wc_seq ?_
    refine wc_seq ?_
    refine wc_region (l := [0, 1, 2, 3, 4, 5, 6, 7, 8, 9]) rfl ?_
    refine wo_seg Θ_ok [0, 1, 2] [(0, v16), (1, (.int .i64 x1)), (11, v29), (12, u42), (82, (.bool (y39.2 != (0 : Int))))] rfl ⟨rfl, rfl, rfl, rfl, rfl, trivial⟩ ?_
    rcases bif_some h with ⟨hc54, h⟩ | ⟨hc54, h⟩
    · refine wo_know 82 true rfl hc54 ?_
      refine wo_seg Θ_ok [3, 4, 5, 6, 7, 8, 9] [(0, v16), (11, v29), (12, u42), (89, (.bool true))] rfl ⟨rfl, rfl, rfl, rfl, trivial⟩ ?_
      refine wo_nil ?_
      refine wq_seq ?_
      refine wc_true rfl ?_
      refine wc_seq ?_
      refine wc_region (l := [0]) rfl ?_
      refine wo_seg Θ_ok [0] [(4, (.bool false))] rfl ⟨rfl, trivial⟩ ?_
      refine wo_nil ?_
      refine wq_seq ?_
      refine wc_ret ?_
      cases h
      exact wq_then_ret (wq_ret rfl ⟨_, rfl, (bool_is.2 rfl), hF⟩)
    refine wo_know 82 false rfl hc54 ?_
    refine wo_seg Θ_ok [3, 4, 5] [(0, v16), (11, v29), (12, u42), (82, (.bool false)), (83, u42), (84, (.int .i64 x1)), (85, v16)] rfl ⟨rfl, rfl, rfl, rfl, rfl, rfl, rfl, trivial⟩ ?_
    obtain ⟨y59, hy60, h⟩ := bind_some h
    refine wo_gives rfl rfl rfl rfl rfl ent23 rfl (r_Spread_c hO (int_is.2 rfl) h18 hy60) (fun v55 w56 h57 f58 => ?_)
    have h18 := h18.tr f58.tr0
    have h31 := h31.tr f58.tr0
    have h43 := h43.tr f58.tr0
    have TTK41 := TTK41.trans f58.tr0
    have TLK41 := TLK41.trans f58.tr0
    have FFK41 := FFK41.trans f58
    have hO := f58.ob hO
    have hF := hF.trans f58
    obtain ⟨y65, hy66, h⟩ := bind_some h
    refine wo_gives rfl rfl rfl rfl rfl ent22 rfl (same_c hO h43 h57 hy66) (fun v61 w62 h63 f64 => ?_)
    have h18 := h18.tr f64.tr0
    have h31 := h31.tr f64.tr0
    have h43 := h43.tr f64.tr0
    have TTK41 := TTK41.trans f64.tr0
    have TLK41 := TLK41.trans f64.tr0
    have FFK41 := FFK41.trans f64
    have hO := f64.ob hO
    have hF := hF.trans f64
    obtain rfl := bool_is.1 h63
    refine wo_seg Θ_ok [8, 9] [(0, v16), (11, v29), (12, u42), (89, (.bool (!y65)))] rfl ⟨rfl, rfl, rfl, rfl, trivial⟩ ?_
    refine wo_nil ?_
    refine wq_seq ?_
    rcases bif_some h with ⟨hc67, h⟩ | ⟨hc67, h⟩
    · refine wc_known_true rfl hc67 ?_
      refine wc_seq ?_
      refine wc_region (l := [0]) rfl ?_
      refine wo_seg Θ_ok [0] [(4, (.bool false))] rfl ⟨rfl, trivial⟩ ?_
      refine wo_nil ?_
      refine wq_seq ?_
      refine wc_ret ?_
      cases h
      exact wq_then_ret (wq_ret rfl ⟨_, rfl, (bool_is.2 rfl), hF⟩)
    refine wc_known_false rfl hc67 ?_
    refine wc_skip ?_
    refine wq_seq ?_
    refine wc_seq ?_
    refine wc_region (l := [0, 1]) rfl ?_
    refine wo_seg Θ_ok [0] [(0, v16), (11, v29), (90, u42)] rfl ⟨rfl, rfl, rfl, trivial⟩ ?_
    refine wo_call rfl rfl rfl rfl rfl ent24 rfl (spoil_s h43N FFK41) (fun _ w69 ⟨he, hC68⟩ => ⟨_, he, ?_⟩)
    have TTK41 := TTK41.chg hC68 (Nat.le_refl _)
    have h18 := h18_K41.tr TTK41
    have h31 := h31_K41.tr TTK41
    have hF := hC68.fr hF hF_K41.size
    have hO := hO.chg hC68
    refine wo_nil ?_
    refine wq_seq ?_
    refine wc_seq ?_
    refine wc_region (l := [0, 1, 2, 3]) rfl ?_
    refine wo_seg Θ_ok [0, 1] [(92, v16), (93, v29)] rfl ⟨rfl, rfl, trivial⟩ ?_
    obtain ⟨y74, hy75, h⟩ := bind_some h
    refine wo_gives rfl rfl rfl rfl rfl ent25 rfl (s_Equal_c hO h18 h31 hy75) (fun v70 w71 h72 f73 => ?_)
    have TTK41 := TTK41.trans f73.tr0
    have hO := f73.ob hO
    have hF := hF.trans f73
    obtain rfl := bool_is.1 h72
    refine wo_seg Θ_ok [3] [(4, (.bool y74))] rfl ⟨rfl, trivial⟩ ?_
    refine wo_nil ?_
    refine wq_seq ?_
    refine wc_ret ?_
    cases h
    exact wq_ret rfl ⟨_, rfl, (bool_is.2 rfl), hF⟩
  clear hk24
  have T22 := Tr.refl O w17
  refine wc_seq ?_
  refine wc_region (l := [0, 1, 2]) rfl ?_
  refine wo_seg Θ_ok [0] [(0, v16), (1, (.int .i64 x1)), (22, v16)] rfl ⟨rfl, rfl, rfl, trivial⟩ ?_
  obtain ⟨A76, c77, rfl, hlc77, hmc77⟩ := slice_form h18
  refine wo_seg Θ_ok [1] [(0, (.slice A76 y20.length c77)), (1, (.int .i64 x1)), (22, (.slice A76 y20.length c77)), (23, (.int .i64 (y20.length : Int)))] rfl ⟨rfl, rfl, rfl, rfl, trivial⟩ ?_
  refine wo_seg Θ_ok [2] [(0, (.slice A76 y20.length c77)), (1, (.int .i64 x1)), (22, (.slice A76 y20.length c77)), (23, (.int .i64 (y20.length : Int))), (24, (.int .i64 0))] rfl ⟨rfl, rfl, rfl, rfl, rfl, trivial⟩ ?_
  refine wo_nil ?_
  refine wq_seq ?_
  refine wc_block ?_
  refine wc_loop (fun m E W => ∃ (rest80 : List Int) (i79 : Nat) (O83 : List Nat), rest80.length = m ∧ y20.drop i79 = rest80 ∧ E = [(0, (.slice A76 y20.length c77)), (1, (.int .i64 x1)), (22, (.slice A76 y20.length c77)), (23, (.int .i64 (y20.length : Int))), (24, (.int .i64 (i79 : Int)))] ∧ Tr O w17 O83 W ∧ OB O83 W ∧ Sub O O83 ∧ Fr [] w W ∧ l_Of_l1 x1 k23 fuel rest80 i79 = some r) _ [(0, (.slice A76 y20.length c77)), (1, (.int .i64 x1)), (22, (.slice A76 y20.length c77)), (23, (.int .i64 (y20.length : Int))), (24, (.int .i64 ((0 : Nat) : Int)))] ⟨rfl, rfl, rfl, rfl, rfl, trivial⟩ ⟨y20, 0, O, rfl, rfl, rfl, Tr.refl _ _, hO, hS, hF, h⟩ ?_
  rintro m E w84 ⟨rest80, i79, O83, rfl, hd82, rfl, T78, hO, hS, hF, h⟩
  have T22 := T22.trans T78
  have h18 := h18.tr T78
  rcases rest80 with _ | ⟨z81, rest80⟩
  · rw [l_Of_l1] at h
    have hl88 := drop_nil hd82
    have hc85 : (decide ((i79 : Int) < (y20.length : Int))) = false := decide_eq_false (by omega)
    refine wc_seq ?_
    refine wc_region (l := [0]) rfl ?_
    refine wo_seg Θ_ok [0] [(0, (.slice A76 y20.length c77)), (1, (.int .i64 x1)), (22, (.slice A76 y20.length c77)), (23, (.int .i64 (y20.length : Int))), (24, (.int .i64 (i79 : Int))), (25, (.bool (decide ((i79 : Int) < (y20.length : Int)))))] rfl ⟨rfl, rfl, rfl, rfl, rfl, rfl, trivial⟩ ?_
    refine wo_nil ?_
    refine wq_seq ?_
    refine wc_seq ?_
    refine wc_known_false rfl hc85 ?_
    refine wc_exit ?_
    exact wq_then_exit (wq_then_exit (wq_block_exit (wq_join hK26 [(0, (.slice A76 y20.length c77)), (1, (.int .i64 x1))] ⟨rfl, rfl, trivial⟩ ⟨O83, rfl, T22, hO, hS, hF, h⟩)))
  rw [l_Of_l1] at h
  obtain ⟨hl89, hg87, hd82⟩ := drop_cons hd82
  have hc86 : (decide ((i79 : Int) < (y20.length : Int))) = true := decide_eq_true (by omega)
  refine wc_seq ?_
  refine wc_region (l := [0]) rfl ?_
  refine wo_seg Θ_ok [0] [(0, (.slice A76 y20.length c77)), (1, (.int .i64 x1)), (22, (.slice A76 y20.length c77)), (23, (.int .i64 (y20.length : Int))), (24, (.int .i64 (i79 : Int))), (25, (.bool (decide ((i79 : Int) < (y20.length : Int)))))] rfl ⟨rfl, rfl, rfl, rfl, rfl, rfl, trivial⟩ ?_
  refine wo_nil ?_
  refine wq_seq ?_
  refine wc_seq ?_
  refine wc_known_true rfl hc86 ?_
  refine wc_skip ?_
  refine wq_seq ?_
  refine wc_seq ?_
  refine wc_block ?_
  refine wc_seq ?_
  refine wc_region (l := [0, 1, 2]) rfl ?_
  refine wo_index Θ_ok rfl rfl rfl rfl rfl rfl rfl rfl rfl rfl h18 rfl (by omega) hg87 (fun p90 h91 => ?_)
  refine wo_loadp Θ_ok rfl rfl rfl rfl rfl rfl rfl h91 rfl rfl (fun v92 h93 => ?_)
  obtain rfl := int_is.1 h93
  refine wo_seg Θ_ok [2] [(0, (.slice A76 y20.length c77)), (1, (.int .i64 x1)), (6, (.int .u64 z81)), (22, (.slice A76 y20.length c77)), (23, (.int .i64 (y20.length : Int))), (24, (.int .i64 (i79 : Int)))] rfl ⟨rfl, rfl, rfl, rfl, rfl, rfl, trivial⟩ ?_
  refine wo_nil ?_
  refine wq_seq ?_
  refine wc_seq ?_
  refine wc_region (l := [0, 1, 2, 3, 4, 5, 6, 7]) rfl ?_
  refine wo_seg Θ_ok [0, 1] [(0, (.slice A76 y20.length c77)), (1, (.int .i64 x1)), (6, (.int .u64 z81)), (22, (.slice A76 y20.length c77)), (23, (.int .i64 (y20.length : Int))), (24, (.int .i64 (i79 : Int))), (29, (.int .u64 z81)), (30, (.int .i64 x1))] rfl ⟨rfl, rfl, rfl, rfl, rfl, rfl, rfl, rfl, trivial⟩ ?_
  obtain ⟨y98, hy99, h⟩ := bind_some h
  refine wo_gives rfl rfl rfl rfl rfl ent17 rfl (b_Of_c hO (int_is.2 rfl) (int_is.2 rfl) hy99) (fun v94 w95 h96 f97 => ?_)
  have h18 := h18.tr f97.tr0
  have T22 := T22.trans f97.tr0
  have T78 := T78.trans f97.tr0
  have hO := f97.ob hO
  have hF := hF.trans f97
  obtain ⟨u100, u102, rfl, h101, h103⟩ := h96
  obtain rfl := int_is.1 h101
  obtain rfl := int_is.1 h103
  refine wo_seg Θ_ok [3, 4, 5, 6, 7] [(0, (.slice A76 y20.length c77)), (1, (.int .i64 x1)), (6, (.int .u64 z81)), (7, (.int .i64 y98.1)), (8, (.int .i64 y98.2)), (22, (.slice A76 y20.length c77)), (23, (.int .i64 (y20.length : Int))), (24, (.int .i64 (i79 : Int)))] rfl ⟨rfl, rfl, rfl, rfl, rfl, rfl, rfl, rfl, trivial⟩ ?_
  refine wo_nil ?_
  refine wq_seq ?_
  refine wc_seq ?_
  refine wc_region (l := [0, 1]) rfl ?_
  refine wo_seg Θ_ok [0, 1] [(0, (.slice A76 y20.length c77)), (1, (.int .i64 x1)), (6, (.int .u64 z81)), (7, (.int .i64 y98.1)), (8, (.int .i64 y98.2)), (9, (.int .i64 0)), (10, (.int .i64 2)), (22, (.slice A76 y20.length c77)), (23, (.int .i64 (y20.length : Int))), (24, (.int .i64 (i79 : Int)))] rfl ⟨rfl, rfl, rfl, rfl, rfl, rfl, rfl, rfl, rfl, rfl, trivial⟩ ?_
  refine wo_nil ?_
  refine wq_seq ?_
  obtain ⟨k105, hk106, h⟩ := letk_some h
  refine wc_join (fun E W => ∃ (O111 : List Nat) (p109 : Int) (p110 : Int), E = [(0, (.slice A76 y20.length c77)), (1, (.int .i64 x1)), (6, (.int .u64 z81)), (7, (.int .i64 y98.1)), (8, (.int .i64 y98.2)), (9, (.int .i64 p109)), (10, (.int .i64 p110)), (22, (.slice A76 y20.length c77)), (23, (.int .i64 (y20.length : Int))), (24, (.int .i64 (i79 : Int)))] ∧ Tr O83 w95 O111 W ∧ OB O111 W ∧ Sub O O111 ∧ Fr [] w W ∧ k105 p109 p110 = some r) ?_ (fun K107 hK108 => ?_)
  rotate_left
  · clear hk106
    have T104 := Tr.refl O83 w95
    refine wc_seq ?_
    refine wc_region (l := [0, 1]) rfl ?_
    refine wo_seg Θ_ok [0] [(0, (.slice A76 y20.length c77)), (1, (.int .i64 x1)), (6, (.int .u64 z81)), (7, (.int .i64 y98.1)), (8, (.int .i64 y98.2)), (9, (.int .i64 0)), (10, (.int .i64 2)), (22, (.slice A76 y20.length c77)), (23, (.int .i64 (y20.length : Int))), (24, (.int .i64 (i79 : Int))), (34, (.int .i64 x1))] rfl ⟨rfl, rfl, rfl, rfl, rfl, rfl, rfl, rfl, rfl, rfl, rfl, trivial⟩ ?_
    refine wo_gives rfl rfl rfl rfl rfl ent12 rfl (r_May_c hO (int_is.2 rfl)) (fun v135 w136 h137 f138 => ?_)
    have h18 := h18.tr f138.tr0
    have T22 := T22.trans f138.tr0
    have T78 := T78.trans f138.tr0
    have T104 := T104.trans f138.tr0
    have hO := f138.ob hO
    have hF := hF.trans f138
    obtain rfl := bool_is.1 h137
    refine wo_nil ?_
    refine wq_seq ?_
    rcases bif_some h with ⟨hc139, h⟩ | ⟨hc139, h⟩
    rotate_left
    · refine wc_known_false rfl hc139 ?_
      refine wc_skip ?_
      exact wq_join hK108 [(0, (.slice A76 y20.length c77)), (1, (.int .i64 x1)), (6, (.int .u64 z81)), (7, (.int .i64 y98.1)), (8, (.int .i64 y98.2)), (9, (.int .i64 0)), (10, (.int .i64 2)), (22, (.slice A76 y20.length c77)), (23, (.int .i64 (y20.length : Int))), (24, (.int .i64 (i79 : Int)))] ⟨rfl, rfl, rfl, rfl, rfl, rfl, rfl, rfl, rfl, rfl, trivial⟩ ⟨O83, (0 : Int), (2 : Int), rfl, T104, hO, hS, hF, h⟩
    refine wc_known_true rfl hc139 ?_
    refine wc_region (l := [0, 1, 2, 3, 4]) rfl ?_
    refine wo_seg Θ_ok [0, 1] [(0, (.slice A76 y20.length c77)), (1, (.int .i64 x1)), (6, (.int .u64 z81)), (7, (.int .i64 y98.1)), (8, (.int .i64 y98.2)), (22, (.slice A76 y20.length c77)), (23, (.int .i64 (y20.length : Int))), (24, (.int .i64 (i79 : Int))), (36, (.int .u64 z81)), (37, (.int .i64 x1))] rfl ⟨rfl, rfl, rfl, rfl, rfl, rfl, rfl, rfl, rfl, rfl, trivial⟩ ?_
    obtain ⟨y144, hy145, h⟩ := bind_some h
    refine wo_gives rfl rfl rfl rfl rfl ent18 rfl (r_Of_c hO (int_is.2 rfl) (int_is.2 rfl) hy145) (fun v140 w141 h142 f143 => ?_)
    have h18 := h18.tr f143.tr0
    have T22 := T22.trans f143.tr0
    have T78 := T78.trans f143.tr0
    have T104 := T104.trans f143.tr0
    have hO := f143.ob hO
    have hF := hF.trans f143
    obtain rfl := int_is.1 h142
    refine wo_seg Θ_ok [3, 4] [(0, (.slice A76 y20.length c77)), (1, (.int .i64 x1)), (6, (.int .u64 z81)), (7, (.int .i64 y98.1)), (8, (.int .i64 y98.2)), (9, (.int .i64 y144)), (10, (.int .i64 0)), (22, (.slice A76 y20.length c77)), (23, (.int .i64 (y20.length : Int))), (24, (.int .i64 (i79 : Int)))] rfl ⟨rfl, rfl, rfl, rfl, rfl, rfl, rfl, rfl, rfl, rfl, trivial⟩ ?_
    refine wo_nil ?_
    exact wq_join hK108 [(0, (.slice A76 y20.length c77)), (1, (.int .i64 x1)), (6, (.int .u64 z81)), (7, (.int .i64 y98.1)), (8, (.int .i64 y98.2)), (9, (.int .i64 y144)), (10, (.int .i64 0)), (22, (.slice A76 y20.length c77)), (23, (.int .i64 (y20.length : Int))), (24, (.int .i64 (i79 : Int)))] ⟨rfl, rfl, rfl, rfl, rfl, rfl, rfl, rfl, rfl, rfl, trivial⟩ ⟨O83, y144, (0 : Int), rfl, T104, hO, hS, hF, h⟩
  rintro E w112 ⟨O111, p109, p110, rfl, T104, hO, hS, hF, h⟩
  have T22 := T22.trans T104
  have T78 := T78.trans T104
  have h18 := h18.tr T104
  subst hk106
  (try dsimp only at h)
  refine wc_seq ?_
  refine wc_region (l := [0, 1, 2, 3, 4, 5, 6, 7, 8, 9, 10, 11, 12, 13, 14, 15, 16, 17, 18, 19, 20, 21]) rfl ?_
  refine wo_seg Θ_ok [0, 1, 2, 3] [(0, (.slice A76 y20.length c77)), (1, (.int .i64 x1)), (6, (.int .u64 z81)), (8, (.int .i64 y98.2)), (10, (.int .i64 p110)), (22, (.slice A76 y20.length c77)), (23, (.int .i64 (y20.length : Int))), (24, (.int .i64 (i79 : Int))), (42, (.bool (y98.1 != p109)))] rfl ⟨rfl, rfl, rfl, rfl, rfl, rfl, rfl, rfl, rfl, trivial⟩ ?_
  rcases bif_some h with ⟨hc113, h⟩ | ⟨hc113, h⟩
  · refine wo_know 42 true rfl hc113 ?_
    refine wo_seg Θ_ok [4, 5, 6, 7, 8, 9, 10, 11, 12, 13, 14, 15, 16, 17, 18, 19, 20, 21] [(0, (.slice A76 y20.length c77)), (1, (.int .i64 x1)), (22, (.slice A76 y20.length c77)), (23, (.int .i64 (y20.length : Int))), (24, (.int .i64 (i79 : Int))), (60, (.bool true))] rfl ⟨rfl, rfl, rfl, rfl, rfl, rfl, trivial⟩ ?_
    refine wo_nil ?_
    refine wq_seq ?_
    refine wc_true rfl ?_
    refine wc_seq ?_
    refine wc_region (l := [0]) rfl ?_
    refine wo_seg Θ_ok [0] [(4, (.bool false))] rfl ⟨rfl, trivial⟩ ?_
    refine wo_nil ?_
    refine wq_seq ?_
    refine wc_ret ?_
    cases h
    exact wq_block_ret (wq_then_ret (wq_then_ret (wq_block_ret (wq_then_ret (wq_ret rfl ⟨_, rfl, (bool_is.2 rfl), hF⟩)))))
  refine wo_know 42 false rfl hc113 ?_
  refine wo_seg Θ_ok [4, 5, 6, 7, 8] [(0, (.slice A76 y20.length c77)), (1, (.int .i64 x1)), (6, (.int .u64 z81)), (22, (.slice A76 y20.length c77)), (23, (.int .i64 (y20.length : Int))), (24, (.int .i64 (i79 : Int))), (47, (.bool (y98.2 != p110)))] rfl ⟨rfl, rfl, rfl, rfl, rfl, rfl, rfl, trivial⟩ ?_
  rcases bif_some h with ⟨hc114, h⟩ | ⟨hc114, h⟩
  · refine wo_know 47 true rfl hc114 ?_
    refine wo_seg Θ_ok [9, 10, 11, 12, 13, 14, 15, 16, 17, 18, 19, 20, 21] [(0, (.slice A76 y20.length c77)), (1, (.int .i64 x1)), (22, (.slice A76 y20.length c77)), (23, (.int .i64 (y20.length : Int))), (24, (.int .i64 (i79 : Int))), (60, (.bool true))] rfl ⟨rfl, rfl, rfl, rfl, rfl, rfl, trivial⟩ ?_
    refine wo_nil ?_
    refine wq_seq ?_
    refine wc_true rfl ?_
    refine wc_seq ?_
    refine wc_region (l := [0]) rfl ?_
    refine wo_seg Θ_ok [0] [(4, (.bool false))] rfl ⟨rfl, trivial⟩ ?_
    refine wo_nil ?_
    refine wq_seq ?_
    refine wc_ret ?_
    cases h
    exact wq_block_ret (wq_then_ret (wq_then_ret (wq_block_ret (wq_then_ret (wq_ret rfl ⟨_, rfl, (bool_is.2 rfl), hF⟩)))))
  refine wo_know 47 false rfl hc114 ?_
  refine wo_seg Θ_ok [9] [(0, (.slice A76 y20.length c77)), (1, (.int .i64 x1)), (6, (.int .u64 z81)), (22, (.slice A76 y20.length c77)), (23, (.int .i64 (y20.length : Int))), (24, (.int .i64 (i79 : Int))), (47, (.bool false)), (48, (.int .u64 z81))] rfl ⟨rfl, rfl, rfl, rfl, rfl, rfl, rfl, rfl, trivial⟩ ?_
  refine wo_gives rfl rfl rfl rfl rfl ent14 rfl (b_Hash_c hO (int_is.2 rfl)) (fun v115 w116 h117 f118 => ?_)
  have h18 := h18.tr f118.tr0
  have T22 := T22.trans f118.tr0
  have T78 := T78.trans f118.tr0
  have hO := f118.ob hO
  have hF := hF.trans f118
  obtain rfl := int_is.1 h117
  refine wo_seg Θ_ok [11] [(0, (.slice A76 y20.length c77)), (1, (.int .i64 x1)), (6, (.int .u64 z81)), (22, (.slice A76 y20.length c77)), (23, (.int .i64 (y20.length : Int))), (24, (.int .i64 (i79 : Int))), (47, (.bool false)), (49, (.int .u64 (b_Hash z81))), (50, (.int .u64 z81))] rfl ⟨rfl, rfl, rfl, rfl, rfl, rfl, rfl, rfl, rfl, trivial⟩ ?_
  refine wo_gives rfl rfl rfl rfl rfl ent19 rfl (r_Hash_c hO (int_is.2 rfl)) (fun v119 w120 h121 f122 => ?_)
  have h18 := h18.tr f122.tr0
  have T22 := T22.trans f122.tr0
  have T78 := T78.trans f122.tr0
  have hO := f122.ob hO
  have hF := hF.trans f122
  obtain rfl := int_is.1 h121
  refine wo_seg Θ_ok [13, 14, 15] [(0, (.slice A76 y20.length c77)), (1, (.int .i64 x1)), (6, (.int .u64 z81)), (22, (.slice A76 y20.length c77)), (23, (.int .i64 (y20.length : Int))), (24, (.int .i64 (i79 : Int))), (54, (.bool ((b_Hash z81) != (r_Hash z81))))] rfl ⟨rfl, rfl, rfl, rfl, rfl, rfl, rfl, trivial⟩ ?_
  rcases bif_some h with ⟨hc123, h⟩ | ⟨hc123, h⟩
  · refine wo_know 54 true rfl hc123 ?_
    refine wo_seg Θ_ok [16, 17, 18, 19, 20, 21] [(0, (.slice A76 y20.length c77)), (1, (.int .i64 x1)), (22, (.slice A76 y20.length c77)), (23, (.int .i64 (y20.length : Int))), (24, (.int .i64 (i79 : Int))), (60, (.bool true))] rfl ⟨rfl, rfl, rfl, rfl, rfl, rfl, trivial⟩ ?_
    refine wo_nil ?_
    refine wq_seq ?_
    refine wc_true rfl ?_
    refine wc_seq ?_
    refine wc_region (l := [0]) rfl ?_
    refine wo_seg Θ_ok [0] [(4, (.bool false))] rfl ⟨rfl, trivial⟩ ?_
    refine wo_nil ?_
    refine wq_seq ?_
    refine wc_ret ?_
    cases h
    exact wq_block_ret (wq_then_ret (wq_then_ret (wq_block_ret (wq_then_ret (wq_ret rfl ⟨_, rfl, (bool_is.2 rfl), hF⟩)))))
  refine wo_know 54 false rfl hc123 ?_
  refine wo_seg Θ_ok [16] [(0, (.slice A76 y20.length c77)), (1, (.int .i64 x1)), (6, (.int .u64 z81)), (22, (.slice A76 y20.length c77)), (23, (.int .i64 (y20.length : Int))), (24, (.int .i64 (i79 : Int))), (54, (.bool false)), (55, (.int .u64 z81))] rfl ⟨rfl, rfl, rfl, rfl, rfl, rfl, rfl, rfl, trivial⟩ ?_
  refine wo_gives rfl rfl rfl rfl rfl ent15 rfl (b_Key_c hO (int_is.2 rfl)) (fun v124 w125 h126 f127 => ?_)
  have h18 := h18.tr f127.tr0
  have T22 := T22.trans f127.tr0
  have T78 := T78.trans f127.tr0
  have hO := f127.ob hO
  have hF := hF.trans f127
  obtain rfl := int_is.1 h126
  refine wo_seg Θ_ok [18] [(0, (.slice A76 y20.length c77)), (1, (.int .i64 x1)), (22, (.slice A76 y20.length c77)), (23, (.int .i64 (y20.length : Int))), (24, (.int .i64 (i79 : Int))), (54, (.bool false)), (56, (.int .u64 (b_Key z81))), (57, (.int .u64 z81))] rfl ⟨rfl, rfl, rfl, rfl, rfl, rfl, rfl, rfl, trivial⟩ ?_
  obtain ⟨y132, hy133, h⟩ := bind_some h
  refine wo_gives rfl rfl rfl rfl rfl ent20 rfl (r_Key_c hO (int_is.2 rfl) hy133) (fun v128 w129 h130 f131 => ?_)
  have h18 := h18.tr f131.tr0
  have T22 := T22.trans f131.tr0
  have T78 := T78.trans f131.tr0
  have hO := f131.ob hO
  have hF := hF.trans f131
  obtain rfl := int_is.1 h130
  refine wo_seg Θ_ok [20, 21] [(0, (.slice A76 y20.length c77)), (1, (.int .i64 x1)), (22, (.slice A76 y20.length c77)), (23, (.int .i64 (y20.length : Int))), (24, (.int .i64 (i79 : Int))), (60, (.bool ((b_Key z81) != y132)))] rfl ⟨rfl, rfl, rfl, rfl, rfl, rfl, trivial⟩ ?_
  refine wo_nil ?_
  refine wq_seq ?_
  rcases bif_some h with ⟨hc134, h⟩ | ⟨hc134, h⟩
  rotate_left
  · refine wc_known_false rfl hc134 ?_
    refine wc_skip ?_
    refine wq_block (wq_seq ?_)
    refine wc_region (l := [0, 1]) rfl ?_
    refine wo_seg Θ_ok [0, 1] [(0, (.slice A76 y20.length c77)), (1, (.int .i64 x1)), (22, (.slice A76 y20.length c77)), (23, (.int .i64 (y20.length : Int))), (24, (.int .i64 (IntKind.i64.wrap ((i79 : Int) + (1 : Int)))))] rfl ⟨rfl, rfl, rfl, rfl, rfl, trivial⟩ ?_
    refine wo_nil ?_
    exact wq_next rest80.length [(0, (.slice A76 y20.length c77)), (1, (.int .i64 x1)), (22, (.slice A76 y20.length c77)), (23, (.int .i64 (y20.length : Int))), (24, (.int .i64 ((i79 + 1 : Nat) : Int)))] (Nat.lt_succ_self _) ⟨rfl, rfl, rfl, rfl, congrArg (fun z => some (Value.int .i64 z)) (wrap_succ hl89 (Nat.le_trans hlc77 hmc77)), trivial⟩ ⟨rest80, i79 + 1, O111, rfl, hd82, rfl, T78, hO, hS, hF, h⟩
  refine wc_known_true rfl hc134 ?_
  refine wc_seq ?_
  refine wc_region (l := [0]) rfl ?_
  refine wo_seg Θ_ok [0] [(4, (.bool false))] rfl ⟨rfl, trivial⟩ ?_
  refine wo_nil ?_
  refine wq_seq ?_
  refine wc_ret ?_
  cases h
  exact wq_block_ret (wq_then_ret (wq_then_ret (wq_block_ret (wq_then_ret (wq_ret rfl ⟨_, rfl, (bool_is.2 rfl), hF⟩)))))
end Go.Proofs.Ytdemjanelbajlaa
